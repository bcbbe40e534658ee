/- Part 24 of the contracts. -/
import Derived.WalkLawsBesides
import Derived.Test.YtcfdenckiigdaaaGreatKp23
set_option linter.unusedVariables false
set_option maxRecDepth 100000
set_option maxHeartbeats 4000000
namespace Go.Proofs.YtcfdenckiigdaaaGreat
section
open Go.RowKit
structure qaC where
 kind:Int
 epoch:Int
 key:ByteArray
 value:ByteArray
def qaC.cells (r:qaC):Array Value := #[.int .i64 r.kind,.int .i64 r.epoch,.string r.key,.string r.value]
def qtO (s:ByteArray):Bool:=decide (1≤s.size)&&decide (s.size≤6)
def qhi (n:Int):Bool:=decide (1≤n)&&decide (n≤1048576)
def qeA (s:ByteArray):Bool:=s.toList.isEmpty
def qap (r:qaC):Bool :=
 if r.kind=0 then qhi r.epoch&&qeA r.key&&qeA r.value
 else if r.kind=1 then decide (r.epoch=0)&&qtO r.key&&decide (r.value.size≤20)
 else if r.kind=2 then decide (r.epoch=0)&&qtO r.key&&qeA r.value else false
theorem qhs (r:qaC) (w:World):Calls Tryz.prog 76 #[.agg r.cells] w (qkQ (qap r) w):=by
 unfold qaC.cells
 go_enter Tryz.func76,Tryz.ntmps76
 go_wp2_with (first
  | (go_at_call 114;refine (qft _ _).mono ?_;rintro e w' ⟨rfl,rfl⟩)
  | (go_at_call 115;refine (qhr _ _).mono ?_;rintro e w' ⟨rfl,rfl⟩))
 all_goals
  go_ret
  refine ⟨?_,qac (Below.refl _ _) _⟩
  simp_all [qap,qeA,qtO,qhi]
  try omega
  try (intros;omega)
def padText (s:ByteArray) (n:Nat):ByteArray:=s++⟨Array.replicate (n - s.size) 0⟩
theorem qaO (s:ByteArray) (n:Nat) (h:s.size≤n):(padText s n).size=n:=by
 unfold padText
 rw [ByteArray.size_append]
 show s.size+(Array.replicate (n - s.size) 0).size=n
 rw [Array.size_replicate]
 omega
theorem qg4 (b:UInt8) (n:Nat):Lib.repeatL [b] n=List.replicate n b:=by
 induction n with
 | zero=>rfl
 | succ n ih=>simp [Lib.repeatL,ih,List.replicate_succ]
theorem qgs (b:UInt8) (n:Nat) (w:World) (hn:n≤100000):Calls Tryz.prog 72 #[.string ⟨#[b]⟩,.int .i64 n] w (qcS ⟨(List.replicate n b).toArray⟩ w):=by
 match n with
 | 0=>exact (Tryz.strings_Repeat_zero ⟨#[b]⟩ w).mono fun e w' h=>⟨h.1,by rw [h.2];exact Below.refl _ _⟩
 | 1=>exact (Tryz.strings_Repeat_one ⟨#[b]⟩ w).mono fun e w' h=>⟨h.1,by rw [h.2];exact Below.refl _ _⟩
 | n+2 =>
  refine (Tryz.strings_Repeat_main ⟨#[b]⟩ (n+2) w (by omega) (by omega) (by simp [ByteArray.size];omega) (by simp [ByteArray.size])).mono fun e w' h=>⟨?_,h.2⟩
  rw [h.1,qg4]
theorem qhm (s:ByteArray) (n:Nat) (w:World) (hs:s.size≤n) (hn:n≤4096):Calls Tryz.prog 77 #[.string s,.int .i64 n] w (qcS (padText s n) w):=by
 have hz:(n:Int) - (s.size:Int)=((n - s.size:Nat):Int):=by omega
 have HZ:=zH (show wrap64 ((n:Int) - (s.size:Int))=((n - s.size:Nat):Int) by unfold wrap64;omega)
 go_enter Tryz.func77,Tryz.ntmps77
 go_wp2_with fail
 refine (qgs 0 (n - s.size) w (by omega)).mono ?_
 rintro e w1 ⟨rfl,hb⟩
 go_wp2_with fail
 go_ret
 refine ⟨?_,hb⟩
 simp [padText]
def headText (r:qaC):ByteArray:=⟨#[UInt8.ofNat r.key.size,UInt8.ofNat r.value.size,0]⟩++r.key
def halfText (r:qaC):ByteArray :=
 if r.kind=0 then ⟨#[72]⟩++qez r.epoch.toNat else if r.kind=1 then padText (⟨#[82]⟩++headText r) 10++r.value else ⟨#[84]⟩++headText r
def qh6 (w:World) (b:Nat) (r:qaC):Prop := ∃ t f,w.heap[b]? = some (.cells r.cells t f)
theorem qh6.cell {w:World} {b:Nat} {r:qaC} (h:qh6 w b r):w.cell? ⟨b,0,none⟩=some (.int .i64 r.kind)∧w.cell? ⟨b,1,none⟩=some (.int .i64 r.epoch)∧w.cell? ⟨b,2,none⟩=some (.string r.key)∧w.cell? ⟨b,3,none⟩=some (.string r.value):=by
 obtain ⟨t,f,h⟩:=h
 exact ⟨qaa h 0,qaa h 1,qaa h 2,qaa h 3⟩
theorem qh6.later {w w':World} {b:Nat} {r:qaC} (h:qh6 w b r) (hb:Below w.heap.size w w'):qh6 w' b r:=by
 obtain ⟨t,f,h⟩:=h
 exact ⟨t,f,qab hb h⟩
theorem qdc {s:ByteArray} (h:qeA s=true):s.size=0:=by
 unfold qeA at h
 rw [ByteArray.toList_eq] at h
 have:s.data.toList=[]:=by simpa using h
 have:s.data.size=0:=by rw [← Array.length_toList,this];rfl
 exact this
theorem qiX {r:qaC} (h:qap r=true):r.key.size≤6∧r.value.size≤20:=by
 unfold qap at h
 split at h
 ·
  simp only [Bool.and_eq_true] at h
  rw [qdc h.1.2,qdc h.2];decide
 ·
  split at h
  ·
   simp [qtO] at h;omega
  ·
   split at h
   ·
    simp only [Bool.and_eq_true,qtO,decide_eq_true_eq] at h
    rw [qdc h.2];omega
   ·
    cases h
theorem qp8 (r:qaC) (b:Nat) (w:World) (h:qh6 w b r) (hm:qap r=true):Calls Tryz.prog 78 #[.pointer (some ⟨b,0,none⟩)] w (qcS (halfText r) w):=by
 obtain ⟨c0,c1,c2,c3⟩:=h.cell
 obtain ⟨hk,hv⟩:=qiX hm
 have hbl:b<w.heap.size:=World.block_lt_of_cell? w _ c0
 have hconv:=run_convert_bytes_back (P:=Tryz.prog) (w.alloc (.cells #[.int .u8 (r.key.size:Int),.int .u8 (r.value.size:Int),.int .u8 0] 5)).drew 29 9 5 ⟨w.heap.size,0,none⟩ 3 [UInt8.ofNat r.key.size,UInt8.ofNat r.value.size,0] Tryz.underlying29 Tryz.underlying5 Tryz.underlying9 (fun i hi=>by
  rw [qaP]
  show (w.alloc _).cell? _=_
  rw [qaa (qad w _)]
  match i,hi with
  | 0,_=>simp;omega
  | 1,_=>simp;omega
  | 2,_=>simp)
 simp only [List.length_cons,List.length_nil] at hconv
 go_enter Tryz.func78,Tryz.ntmps78
 go_wp2_with fail
 go_region
 have hb1:Below w.heap.size w (w.alloc (.cells #[.int .u8 (r.key.size:Int),.int .u8 (r.value.size:Int),.int .u8 0] 5)).drew:=qai (qac (Below.refl _ _) _)
 generalize (w.alloc (.cells #[.int .u8 (r.key.size:Int),.int .u8 (r.value.size:Int),.int .u8 0] 5)).drew=W at *
 have h2:=h.later hb1
 clear hconv c0 c1 c2 c3
 obtain ⟨c0,c1,c2,c3⟩:=h2.cell
 have HT:=zH (show headText r=⟨#[UInt8.ofNat r.key.size,UInt8.ofNat r.value.size,0]⟩++r.key from rfl)
 have hhs:(headText r).size≤9:=by
  unfold headText
  rw [ByteArray.size_append]
  show 3+r.key.size≤9
  omega
 have H0:=zH (show r.kind=0→(∃ n:Nat,n<4294967296∧r.epoch=n)∧halfText r=⟨#[72]⟩++qez r.epoch.toNat from fun e=>⟨by
  have:=hm
  unfold qap at this
  rw [if_pos e] at this
  simp [qhi] at this
  exact ⟨r.epoch.toNat,by omega,by omega⟩,by unfold halfText;rw [if_pos e]⟩)
 have H1:=zH (show r.kind=1→halfText r=padText (⟨#[82]⟩++headText r) 10++r.value from fun e=>by unfold halfText;rw [if_neg (by rw [e];decide),if_pos e])
 have H2:=zH (show r.kind≠0→r.kind≠1→halfText r=⟨#[84]⟩++headText r from fun e e'=>by unfold halfText;rw [if_neg e,if_neg e'])
 generalize halfText r=hft at *
 generalize headText r=ht at *
 rw [← HT.out]
 have HB:=zH hb1
 clear HT hm h h2 hb1
 obtain ⟨kd,ep,key,val⟩:=r
 simp only at *
 by_cases k0:kd=0
 ·
  obtain ⟨⟨n,hn,rfl⟩,rfl⟩:=H0.out k0
  subst k0
  have HL:=zH (fun w=>qgh n w hn)
  clear H0 H1 H2 hn
  rw [Int.toNat_natCast]
  go_wp2_with fail
  refine (HL.out _).mono ?_
  rintro e w1 ⟨rfl,hb⟩
  have HB2:=zH hb
  clear hb
  go_wp2_with fail
  go_ret
  exact ⟨rfl,gtr HB.out HB2.out⟩
 ·
  by_cases k1:kd=1
  ·
   obtain rfl:=H1.out k1
   subst k1
   have HP:=zH (fun w=>qhm (⟨#[82]⟩++ht) 10 w (by rw [ByteArray.size_append];show 1+ht.size≤10;omega) (by decide))
   have hps:=qaO (⟨#[82]⟩++ht) 10 (by rw [ByteArray.size_append];show 1+ht.size≤10;omega)
   generalize padText (⟨#[82]⟩++ht) 10=pt at *
   clear H0 H1 H2 k0
   have hbW:b<W.heap.size:=World.block_lt_of_cell? W _ c0
   go_wp2_with fail
   go_region_with (go_at_call 77;refine (HP.out _).mono ?_;rintro e w3 ⟨rfl,hb3⟩;have c3':w3.cell? ⟨b,3,none⟩=some (.string val):=(hb3.cell (p:=⟨b,3,none⟩) hbW).trans c3;have HB3:=zH hb3;clear hb3)
   all_goals
    go_wp2_with fail
    go_ret
    exact ⟨rfl,gtr (qai HB.out) HB3.out⟩
  ·
   obtain rfl:=H2.out k0 k1
   clear H0 H1 H2
   go_wp2_with fail
   go_ret
   exact ⟨rfl,HB.out⟩
end
section
open Go.RowKit
def recText (r:qaC):ByteArray:=qaU (padText (halfText r) 32)
def qcz (r:qaC):Option ByteArray:=if qap r=true then some (recText r) else none
theorem qbO {r:qaC} (h:qap r=true):(halfText r).size≤32:=by
 obtain ⟨hk,hv⟩:=qiX h
 have hh:(headText r).size=3+r.key.size:=by unfold headText;rw [ByteArray.size_append];rfl
 unfold halfText
 split
 ·
  rw [ByteArray.size_append];show 1+4≤32;decide
 ·
  split
  ·
   rw [ByteArray.size_append,qaO _ _ (by rw [ByteArray.size_append,hh];show 1+(3+r.key.size)≤10;omega)];omega
  ·
   rw [ByteArray.size_append,hh];show 1+(3+r.key.size)≤32;omega
theorem qht (r:qaC) (w:World):Calls Tryz.prog 48 #[.agg r.cells] w fun e w'=>e=.returned (qgY (qcz r) 1900)∧Below w.heap.size w w':=by
 have HM:=zH (fun w=>qhs r w)
 have hcell:=zH (show r.cells = #[.int .i64 r.kind,.int .i64 r.epoch,.string r.key,.string r.value] from rfl)
 rw [hcell.out] at *
 by_cases hm:qap r=true
 ·
  have HH:=zH (fun b w h=>qp8 r b w h hm)
  have HP:=zH (fun w=>qhm (halfText r) 32 w (qbO hm) (by decide))
  have HQ:=zH (fun w=>qd1 (padText (halfText r) 32) w (qaO _ _ (qbO hm)))
  have er:=zH (show qcz r=some (recText r) by unfold qcz;rw [if_pos hm])
  rw [er.out]
  have HR:=zH (show recText r=qaU (padText (halfText r) 32) from rfl)
  rw [hm] at HM
  generalize recText r=rt at *
  go_enter Tryz.func48,Tryz.ntmps48
  go_wp2_with fail
  refine (HM.out _).mono ?_
  rintro e w1 ⟨rfl,hb⟩
  have hb1:=gtr (qac (Below.refl w.heap.size w) (.cells #[.int .i64 r.kind,.int .i64 r.epoch,.string r.key,.string r.value] 74)) hb
  have hbx:qh6 w1 w.heap.size r:=⟨74,(0,0),qab hb (qad w _)⟩
  have HB:=zH (zA hb1 hbx)
  clear hb hb1 hbx
  go_wp2_with fail
  refine (HH.out _ _ HB.out.2).mono ?_
  rintro e w2 ⟨rfl,hb2⟩
  have HB2:=zH (gtr HB.out.1 hb2)
  clear hb2
  go_wp2_with fail
  refine (HP.out _).mono ?_
  rintro e w3 ⟨rfl,hb3⟩
  have HB3:=zH (gtr HB2.out hb3)
  clear hb3
  go_wp2_with fail
  refine (HQ.out _).mono ?_
  rintro e w4 ⟨rfl,hb4⟩
  rw [← HR.out]
  have HB4:=zH (gtr HB3.out hb4)
  clear hb4
  go_wp2_with fail
  go_ret2
  exact ⟨rfl,HB4.out⟩
 ·
  have er:=zH (show qcz r=none by unfold qcz;rw [if_neg hm])
  rw [er.out]
  rw [show qap r=false by simpa using hm] at HM
  go_enter Tryz.func48,Tryz.ntmps48
  go_wp2_with fail
  refine (HM.out _).mono ?_
  rintro e w1 ⟨rfl,hb⟩
  have hb1:=zH (gtr (qac (Below.refl w.heap.size w) (.cells #[.int .i64 r.kind,.int .i64 r.epoch,.string r.key,.string r.value] 74)) hb)
  clear hb
  go_wp2_with fail
  go_ret2
  exact ⟨rfl,hb1.out⟩
def takenR (s:ByteArray):qaC :=
 if s.extract 0 1=⟨#[72]⟩ then ⟨0,qdd (s.extract 1 32),⟨#[]⟩,⟨#[]⟩⟩
 else if s.extract 0 1=⟨#[82]⟩ then ⟨1,0,s.extract 4 (4+min (bt s 1).toNat 6),s.extract 10 (10+min (bt s 2).toNat 20)⟩
 else ⟨2,0,s.extract 4 (4+min (bt s 1).toNat 6),⟨#[]⟩⟩
theorem qvQ (s:ByteArray) (w:World) (hs:s.size=32) (h:s.extract 0 1=⟨#[72]⟩):Calls Tryz.prog 47 #[.string s] w fun e w'=>e=.returned (.agg (⟨0,qdd (s.extract 1 32),⟨#[]⟩,⟨#[]⟩⟩:qaC).cells)∧Below w.heap.size w w':=by
 have HN:=zH (fun w=>qdl (s.extract 1 32) w (by simp;omega))
 have h1:(1:Int)<(s.size:Int):=by omega
 have g1:=qcp s 1 (by omega)
 have g2:=qcp s 2 (by omega)
 have q1:((s.extract 0 1).toList == [72])=true:=by rw [show [(72:UInt8)]=(⟨#[72]⟩:ByteArray).toList by rw [ByteArray.toList_eq],qcZ];exact decide_eq_true h
 have hl:min (bt s 1).toNat 6≤6:=Nat.min_le_right _ _
 have hv:min (bt s 2).toNat 20≤20:=Nat.min_le_right _ _
 have e1:min (wrap64 ((bt s 1).toNat:Int)) 6=((min (bt s 1).toNat 6:Nat):Int):=by rw [qbU];omega
 have e2:min (wrap64 ((bt s 2).toNat:Int)) 20=((min (bt s 2).toNat 20:Nat):Int):=by rw [qbU];omega
 have HE:=zH (zA e1 e2)
 clear e1 e2
 generalize min (bt s 1).toNat 6=L at *
 generalize min (bt s 2).toNat 20=V at *
 go_enter Tryz.func47,Tryz.ntmps47
 go_wp2_with fail
 go_region
 rw [HE.out.1,HE.out.2]
 clear HE g1 g2
 generalize wrap64 ((bt s 1).toNat:Int)=j1
 generalize wrap64 ((bt s 2).toNat:Int)=j2
 generalize ((bt s 1).toNat:Int)=j3
 generalize ((bt s 2).toNat:Int)=j4
 go_wp2_with fail
 refine (HN.out _).mono ?_
 rintro e w2 ⟨rfl,rfl⟩
 go_wp2_with fail
 refine bodyPost_ret (v:=.agg (⟨0,qdd (s.extract 1 32),⟨#[]⟩,⟨#[]⟩⟩:qaC).cells) (by simp [results,Tryz.results47,go_sem,qaC.cells]) rfl ⟨rfl,?_⟩
 exact qai (qac (Below.refl _ _) _)
theorem qvR (s:ByteArray) (w:World) (hs:s.size=32) (h : ¬ s.extract 0 1=⟨#[72]⟩) (h':s.extract 0 1=⟨#[82]⟩):Calls Tryz.prog 47 #[.string s] w fun e w'=>e=.returned (.agg (⟨1,0,s.extract 4 (4+min (bt s 1).toNat 6),s.extract 10 (10+min (bt s 2).toNat 20)⟩:qaC).cells)∧Below w.heap.size w w':=by
 have h1:(1:Int)<(s.size:Int):=by omega
 have g1:=qcp s 1 (by omega)
 have g2:=qcp s 2 (by omega)
 have q1:((s.extract 0 1).toList == [72])=false:=by rw [show [(72:UInt8)]=(⟨#[72]⟩:ByteArray).toList by rw [ByteArray.toList_eq],qcZ];exact decide_eq_false h
 have q2:((s.extract 0 1).toList == [82])=true:=by rw [show [(82:UInt8)]=(⟨#[82]⟩:ByteArray).toList by rw [ByteArray.toList_eq],qcZ];exact decide_eq_true h'
 have hl:min (bt s 1).toNat 6≤6:=Nat.min_le_right _ _
 have hv:min (bt s 2).toNat 20≤20:=Nat.min_le_right _ _
 have e1:min (wrap64 ((bt s 1).toNat:Int)) 6=((min (bt s 1).toNat 6:Nat):Int):=by rw [qbU];omega
 have e2:min (wrap64 ((bt s 2).toNat:Int)) 20=((min (bt s 2).toNat 20:Nat):Int):=by rw [qbU];omega
 have HE:=zH (zA e1 e2)
 clear e1 e2
 generalize min (bt s 1).toNat 6=L at *
 generalize min (bt s 2).toNat 20=V at *
 go_enter Tryz.func47,Tryz.ntmps47
 go_wp2_with fail
 go_region
 rw [HE.out.1,HE.out.2]
 clear HE g1 g2
 generalize wrap64 ((bt s 1).toNat:Int)=j1
 generalize wrap64 ((bt s 2).toNat:Int)=j2
 generalize ((bt s 1).toNat:Int)=j3
 generalize ((bt s 2).toNat:Int)=j4
 go_wp2_with fail
 go_region
 go_wp2_with fail
 refine bodyPost_ret (v:=.agg (⟨1,0,s.extract 4 (4+L),s.extract 10 (10+V)⟩:qaC).cells) (by simp [results,Tryz.results47,go_sem,qaC.cells]) rfl ⟨rfl,?_⟩
 exact qai (qai (qac (Below.refl _ _) _))
theorem qvS (s:ByteArray) (w:World) (hs:s.size=32) (h : ¬ s.extract 0 1=⟨#[72]⟩) (h' : ¬ s.extract 0 1=⟨#[82]⟩):Calls Tryz.prog 47 #[.string s] w fun e w'=>e=.returned (.agg (⟨2,0,s.extract 4 (4+min (bt s 1).toNat 6),⟨#[]⟩⟩:qaC).cells)∧Below w.heap.size w w':=by
 have h1:(1:Int)<(s.size:Int):=by omega
 have g1:=qcp s 1 (by omega)
 have g2:=qcp s 2 (by omega)
 have q1:((s.extract 0 1).toList == [72])=false:=by rw [show [(72:UInt8)]=(⟨#[72]⟩:ByteArray).toList by rw [ByteArray.toList_eq],qcZ];exact decide_eq_false h
 have q2:((s.extract 0 1).toList == [82])=false:=by rw [show [(82:UInt8)]=(⟨#[82]⟩:ByteArray).toList by rw [ByteArray.toList_eq],qcZ];exact decide_eq_false h'
 have hl:min (bt s 1).toNat 6≤6:=Nat.min_le_right _ _
 have hv:min (bt s 2).toNat 20≤20:=Nat.min_le_right _ _
 have e1:min (wrap64 ((bt s 1).toNat:Int)) 6=((min (bt s 1).toNat 6:Nat):Int):=by rw [qbU];omega
 have e2:min (wrap64 ((bt s 2).toNat:Int)) 20=((min (bt s 2).toNat 20:Nat):Int):=by rw [qbU];omega
 have HE:=zH (zA e1 e2)
 clear e1 e2
 generalize min (bt s 1).toNat 6=L at *
 generalize min (bt s 2).toNat 20=V at *
 go_enter Tryz.func47,Tryz.ntmps47
 go_wp2_with fail
 go_region
 rw [HE.out.1,HE.out.2]
 clear HE g1 g2
 generalize wrap64 ((bt s 1).toNat:Int)=j1
 generalize wrap64 ((bt s 2).toNat:Int)=j2
 generalize ((bt s 1).toNat:Int)=j3
 generalize ((bt s 2).toNat:Int)=j4
 go_wp2_with fail
 refine bodyPost_ret (v:=.agg (⟨2,0,s.extract 4 (4+L),⟨#[]⟩⟩:qaC).cells) (by simp [results,Tryz.results47,go_sem,qaC.cells]) rfl ⟨rfl,?_⟩
 exact qai (qac (Below.refl _ _) _)
theorem qok (s:ByteArray) (w:World) (hs:s.size=32):Calls Tryz.prog 47 #[.string s] w fun e w'=>e=.returned (.agg (takenR s).cells)∧Below w.heap.size w w':=by
 unfold takenR
 split
 ·
  rename_i h;exact qvQ s w hs h
 ·
  rename_i h
  split
  ·
   rename_i h';exact qvR s w hs h h'
  ·
   rename_i h';exact qvS s w hs h h'
theorem row4 {w:World} {g:Nat} {a b c d:Value} {t:TypeId} (h:w.heap[g]? = some (.cells #[a,b,c,d] t (0,0))):w.cell? ⟨g,0,none⟩=some a∧w.cell? ⟨g,1,none⟩=some b∧w.cell? ⟨g,2,none⟩=some c∧w.cell? ⟨g,3,none⟩=some d ∧ ∀ i,w.frozen? ⟨g,i,none⟩=false :=
 ⟨qaa h 0,qaa h 1,qaa h 2,qaa h 3,fun i=>qah h i⟩
theorem qwx {w w':World} {g:Nat} (h:Below w.heap.size w w') (hg:w.heap.size≤g) (a b c d:Value):Below w.heap.size w ((((w'.setCell ⟨g,0,none⟩ a).setCell ⟨g,1,none⟩ b).setCell ⟨g,2,none⟩ c).setCell ⟨g,3,none⟩ d) :=
 gset (gset (gset (gset h hg _) hg _) hg _) hg _
def qd7:qaC:=⟨0,0,⟨#[]⟩,⟨#[]⟩⟩
def qa1 (s:ByteArray):Option qaC:=match qbx s with
 | none=>none
 | some t=>if qcz (takenR t)=some s then some (takenR t) else none
def qiZ (r:Option qaC) (er:Int):Value:=match r with | some r=>.tuple #[.agg r.cells,.int .i64 0] | none=>.tuple #[.agg qd7.cells,.int .i64 er]
theorem qhn {s t:ByteArray} (h:qbx s=some t):t.size=32:=by
 unfold qbx at h
 split at h
 ·
  rename_i hh
  obtain rfl:s.extract 0 32=t:=by simpa using h
  simp;omega
 ·
  cases h
theorem qhq (s:ByteArray) (w:World):Calls Tryz.prog 26 #[.string s] w fun e w'=>e=.returned (qiZ (qa1 s) 1900)∧Below w.heap.size w w':=by
 have HG:=zH (fun w=>qgp s w)
 cases hp:qbx s with
 | none =>
  have er:=zH (show qa1 s=none by unfold qa1;rw [hp])
  rw [er.out]
  rw [hp] at HG
  unfold qgY at HG
  simp only at HG
  have HO:=zH (show qiZ none 1900=.tuple #[.agg qd7.cells,.int .i64 1900] from rfl)
  rw [HO.out]
  clear hp
  go_enter Tryz.func26,Tryz.ntmps26
  go_wp2_with fail
  refine (HG.out _).mono ?_
  rintro e w1 ⟨rfl,hb⟩
  have hr:=qab hb (qad w _)
  have c0:w1.cell? ⟨w.heap.size,0,none⟩=some (.int .i64 0):=qaa hr 0
  have c1:w1.cell? ⟨w.heap.size,1,none⟩=some (.int .i64 0):=qaa hr 1
  have c2:w1.cell? ⟨w.heap.size,2,none⟩=some (.string ⟨#[]⟩):=qaa hr 2
  have c3:w1.cell? ⟨w.heap.size,3,none⟩=some (.string ⟨#[]⟩):=qaa hr 3
  have hf : ∀ i,w1.frozen? ⟨w.heap.size,i,none⟩=false:=fun i=>qah hr i
  have HB:=zH (gtr (qac (Below.refl w.heap.size w) _) hb)
  clear hb hr
  go_wp2_with fail
  refine bodyPost_ret (v:=.tuple #[.agg qd7.cells,.int .i64 1900]) (by simp [results,Tryz.results26,go_sem,qaC.cells,qd7,c0,c1,c2,c3]) rfl ⟨rfl,?_⟩
  exact qwx HB.out (Nat.le_refl _) _ _ _ _
 | some t =>
  have ht:=qhn hp
  rw [hp] at HG
  have HT:=zH (fun w=>qok t w ht)
  have HP:=zH (fun w=>qht (takenR t) w)
  have HV:=zH (show qa1 s=if qcz (takenR t)=some s then some (takenR t) else none by unfold qa1;rw [hp])
  have HC:=zH (show (takenR t).cells = #[.int .i64 (takenR t).kind,.int .i64 (takenR t).epoch,.string (takenR t).key,.string (takenR t).value] from rfl)
  have HO:=zH (show qiZ none 1900=.tuple #[.agg qd7.cells,.int .i64 1900] from rfl)
  have HO1:=zH (show qiZ (some (takenR t)) 1900=.tuple #[.agg (takenR t).cells,.int .i64 0] from rfl)
  rw [HV.out]
  unfold qgY at HG HP
  simp only at HG
  clear hp
  generalize takenR t=r at *
  rw [HC.out] at HT HP HO1
  cases hpo:qcz r with
  | none =>
   rw [hpo] at HP
   simp only at HP
   rw [if_neg (by simp),HO.out]
   clear HV HO1 HO
   go_enter Tryz.func26,Tryz.ntmps26
   go_wp2_with fail
   refine (HG.out _).mono ?_
   rintro e w1 ⟨rfl,hb⟩
   have hr:=qab hb (qad w _)
   have HB:=zH (zA (gtr (qac (Below.refl w.heap.size w) _) hb) hr)
   clear hb hr
   go_wp2_with fail
   refine (HT.out _).mono ?_
   rintro e w2 ⟨rfl,hb⟩
   have HB2:=zH (zA (gtr HB.out.1 hb) (qab hb HB.out.2))
   clear hb HB
   go_wp2_with fail
   refine (HP.out _).mono ?_
   rintro e w3 ⟨rfl,hb⟩
   have HB3:=zH (gtr (qac HB2.out.1 _) hb)
   obtain ⟨c0,c1,c2,c3,hf⟩:=row4 (qab hb (qab (qac (Below.refl _ _) _) HB2.out.2))
   clear hb HB2
   go_wp2_with fail
   refine bodyPost_ret (v:=.tuple #[.agg qd7.cells,.int .i64 1900]) (by simp [results,Tryz.results26,go_sem,qaC.cells,qd7,c0,c1,c2,c3]) rfl ⟨rfl,?_⟩
   exact qwx HB3.out (Nat.le_refl _) _ _ _ _
  | some u =>
   rw [hpo] at HP
   simp only at HP
   by_cases hus:u=s
   ·
    subst hus
    have hne:(!u.toList == u.toList)=false:=by simp
    rw [if_pos rfl,HO1.out]
    clear HV HO HO1
    go_enter Tryz.func26,Tryz.ntmps26
    go_wp2_with fail
    refine (HG.out _).mono ?_
    rintro e w1 ⟨rfl,hb⟩
    have hr:=qab hb (qad w _)
    have HB:=zH (zA (gtr (qac (Below.refl w.heap.size w) _) hb) hr)
    clear hb hr
    go_wp2_with fail
    refine (HT.out _).mono ?_
    rintro e w2 ⟨rfl,hb⟩
    have HB2:=zH (zA (gtr HB.out.1 hb) (qab hb HB.out.2))
    clear hb HB
    go_wp2_with fail
    refine (HP.out _).mono ?_
    rintro e w3 ⟨rfl,hb⟩
    have HB3:=zH (gtr (qac HB2.out.1 _) hb)
    obtain ⟨c0,c1,c2,c3,hf⟩:=row4 (qab hb (qab (qac (Below.refl _ _) _) HB2.out.2))
    obtain ⟨d0,d1,d2,d3,hf2⟩:=row4 (qab hb (qad w2 _))
    have HL:=zH HB2.out.1.size
    clear hb HB2
    go_wp2_with fail
    refine bodyPost_ret (v:=.tuple #[.agg #[.int .i64 r.kind,.int .i64 r.epoch,.string r.key,.string r.value],.int .i64 0]) (by simp [results,Tryz.results26,go_sem,c0,c1,c2,c3]) rfl ⟨rfl,?_⟩
    exact qwx HB3.out (Nat.le_refl _) _ _ _ _
   ·
    have hne:(!u.toList == s.toList)=true:=by rw [qcZ,decide_eq_false hus];rfl
    rw [if_neg (fun e=>hus (Option.some.inj e)),HO.out]
    clear HV HO HO1
    go_enter Tryz.func26,Tryz.ntmps26
    go_wp2_with fail
    refine (HG.out _).mono ?_
    rintro e w1 ⟨rfl,hb⟩
    have hr:=qab hb (qad w _)
    have HB:=zH (zA (gtr (qac (Below.refl w.heap.size w) _) hb) hr)
    clear hb hr
    go_wp2_with fail
    refine (HT.out _).mono ?_
    rintro e w2 ⟨rfl,hb⟩
    have HB2:=zH (zA (gtr HB.out.1 hb) (qab hb HB.out.2))
    clear hb HB
    go_wp2_with fail
    refine (HP.out _).mono ?_
    rintro e w3 ⟨rfl,hb⟩
    have HB3:=zH (gtr (qac HB2.out.1 _) hb)
    obtain ⟨c0,c1,c2,c3,hf⟩:=row4 (qab hb (qab (qac (Below.refl _ _) _) HB2.out.2))
    clear hb HB2
    go_wp2_with fail
    refine bodyPost_ret (v:=.tuple #[.agg qd7.cells,.int .i64 1900]) (by simp [results,Tryz.results26,go_sem,qaC.cells,qd7,c0,c1,c2,c3]) rfl ⟨rfl,?_⟩
    exact qwx HB3.out (Nat.le_refl _) _ _ _ _
end
section
open Go.RowKit
structure SliceAt (w:World) (v:Value) (n sz:Nat) (cs:List Value):Prop where
 len:cs.length=n * sz
 ex:(v=.slice none 0 0∧n=0) ∨ ∃ b o c,v=.slice (some ⟨b,o,none⟩) n c∧n≤c ∧ ∀ i u,cs[i]? = some u→w.cell? ⟨b,o+i,none⟩=some u
theorem SliceAt.later {w w':World} {v:Value} {n sz:Nat} {cs:List Value} (h:SliceAt w v n sz cs) (hb:Below w.heap.size w w'):SliceAt w' v n sz cs :=
 ⟨h.len,h.ex.imp id fun ⟨b,o,c,hv,hc,hx⟩=>⟨b,o,c,hv,hc,fun i u hu=>(hb.cell (p:=⟨b,o+i,none⟩) (World.block_lt_of_cell? w _ (hx i u hu))).trans (hx i u hu)⟩⟩
theorem SliceAt.nil (w:World) (sz:Nat):SliceAt w (.slice none 0 0) 0 sz []:=⟨by simp,.inl ⟨rfl,rfl⟩⟩
theorem SliceAt.of_own {w:World} {B:Nat} {t:TypeId} {v:Value} {n sz:Nat} {cs:List Value} (h:w.ownsRow B t sz v n cs):SliceAt w v n sz cs:=by
 refine ⟨h.1,?_⟩
 rcases h.2 with h0 | ⟨g,cap,cur,rfl,_,hg,hle,_,hsz,ht⟩
 ·
  exact .inl h0
 ·
  refine .inr ⟨g,0,cap,rfl,hle,fun i u hu => ?_⟩
  rw [qaa hg,Nat.zero_add,← hu,← ht,List.getElem?_take,if_pos]
  ·
   simp
  ·
   have:=(List.getElem?_eq_some_iff.1 hu).1
   rw [h.1] at this;exact this
theorem qbD {w:World} {B:Nat} {t t':TypeId} {v:Value} {n sz:Nat} {cs:List Value} {g:Nat} {c:Array Value} (h:w.ownsRow B t sz v n cs) (hg:w.heap[g]? = some (.cells c t' (0,0))) (ht:t≠t'):some g≠v.ownBlock:=by
 rcases h.2 with ⟨rfl,_⟩ | ⟨k,cap,cur,rfl,_,hk,_⟩
 ·
  exact fun e=>nomatch e
 ·
  intro e
  obtain rfl:g=k:=by simpa [Value.ownBlock] using e
  rw [hg] at hk
  simp at hk
  exact ht hk.2.symm
theorem qaN {w:World} {B:Nat} {t:TypeId} {v:Value} {n sz:Nat} {cs:List Value} (h:w.ownsRow B t sz v n cs) : ∀ k,v.ownBlock=some k→B≤k:=by
 rcases h.2 with ⟨rfl,_⟩ | ⟨k,cap,cur,rfl,hb,hk,_⟩
 ·
  exact fun k e=>nomatch e
 ·
  intro j e
  obtain rfl:k=j:=by simpa [Value.ownBlock] using e
  exact hb
theorem qaD {w:World} {B:Nat} {t:TypeId} {v:Value} {n sz:Nat} {cs:List Value} (h:w.ownsRow B t sz v n cs) : ∃ a c,v=.slice a n c:=by
 rcases h.2 with ⟨rfl,rfl⟩ | ⟨g,cap,cur,rfl,_⟩
 ·
  exact ⟨_,_,rfl⟩
 ·
  exact ⟨_,_,rfl⟩
theorem qbQ {w:World} {B:Nat} {t:TypeId} {v:Value} {n sz:Nat} {cs:List Value} {b o:Nat} (h:w.ownsRow B t sz v n cs) (hn:some b≠v.ownBlock) (x:Value):(w.setCell ⟨b,o,none⟩ x).ownsRow B t sz v n cs:=by
 refine ⟨h.1,h.2.imp id fun ⟨g,cap,cur,hv,hB,hh,r⟩=>⟨g,cap,cur,hv,hB,?_,r⟩⟩
 rw [Below.heap_setCell _ _ _ _ (fun e=>hn (by rw [hv];exact congrArg some e.symm))]
 exact hh
def recVals (rs:List qaC):List Value:=rs.flatMap fun r=>r.cells.toList
theorem qd6 (rs:List qaC):(recVals rs).length=rs.length * 4:=by
 induction rs with
 | nil=>rfl
 | cons r rs ih=>simp only [recVals,List.flatMap_cons,List.length_append,List.length_cons] at ih ⊢;rw [ih];simp [qaC.cells];omega
theorem qdm (rs:List qaC) (r:qaC):recVals (rs++[r])=recVals rs++[.int .i64 r.kind,.int .i64 r.epoch,.string r.key,.string r.value]:=by simp [recVals,qaC.cells]
def qbo (s:ByteArray) (i:Nat):ByteArray:=s.extract (i * 64) ((i+1) * 64)
def ffs (n:Nat):ByteArray:=⟨Array.replicate n 255⟩
def qdF (t:ByteArray):Bool:=t.toList == (ffs t.size).toList
theorem qqK (s:ByteArray) (i:Nat) (w:World) (hs:s.size=512) (hi:i<8):Calls Tryz.prog 43 #[.string s,.int .i64 i] w fun e w'=>e=.returned (.string (qbo s i))∧w=w':=by
 go_enter Tryz.func43,Tryz.ntmps43
 go_wp2_with fail
 go_ret
 refine ⟨?_,rfl⟩
 simp [qbo]
theorem qia (t:ByteArray) (w:World) (ht:t.size≤4096):Calls Tryz.prog 44 #[.string t] w (qkQ (qdF t) w):=by
 go_enter Tryz.func44,Tryz.ntmps44
 go_wp2_with fail
 refine (qgs 255 t.size w (by omega)).mono ?_
 rintro e w1 ⟨rfl,hb⟩
 go_wp2_with fail
 go_ret
 refine ⟨?_,hb⟩
 simp [qdF,ffs]
end
end Go.Proofs.YtcfdenckiigdaaaGreat
namespace Go.Proofs
open Go.Shelf
def Tryz.laysSlE041_f80_ren:Go.Shelf.Ren:=⟨fun | 41=>80 | n=>n,fun | 22=>32 | 23=>83 | 4=>4 | n=>n,fun | n=>n⟩
theorem Tryz.laysSlE041_f80:Go.Proofs.SlLaysE0.n41 Tryz.prog Tryz.laysSlE041_f80_ren:={ mixed:=by kernel_rfl,f41:=⟨Tryz.f80.name,by decide,Tryz.func80.trans (congrArg some (by kernel_rfl))⟩,t4:=Tryz.underlying4,a4:=Tryz.isAgg4,z4:=Tryz.sizeOf4,v4:=Tryz.zeroValue4,t22:=Tryz.underlying32,a22:=Tryz.isAgg32,z22:=Tryz.sizeOf32,v22:=Tryz.zeroValue32 }
def Tryz.laysSlE041_f175_ren:Go.Shelf.Ren:=⟨fun | 41=>175 | n=>n,fun | 22=>50 | 23=>74 | 4=>4 | n=>n,fun | n=>n⟩
theorem Tryz.laysSlE041_f175:Go.Proofs.SlLaysE0.n41 Tryz.prog Tryz.laysSlE041_f175_ren:={ mixed:=by kernel_rfl,f41:=⟨Tryz.f175.name,by decide,Tryz.func175.trans (congrArg some (by kernel_rfl))⟩,t4:=Tryz.underlying4,a4:=Tryz.isAgg4,z4:=Tryz.sizeOf4,v4:=Tryz.zeroValue4,t22:=Tryz.underlying50,a22:=Tryz.isAgg50,z22:=Tryz.sizeOf50,v22:=Tryz.zeroValue50 }
end Go.Proofs
namespace Go.Proofs.YtcfdenckiigdaaaGreat
section
open Go.RowKit
structure qaq where
 key:ByteArray
 value:ByteArray
def pairVals (ps:List qaq):List Value:=ps.flatMap fun p=>[.string p.key,.string p.value]
theorem qeF (ps:List qaq):(pairVals ps).length=ps.length * 2:=by
 induction ps with
 | nil=>rfl
 | cons r rs ih=>simp only [pairVals,List.flatMap_cons,List.length_append,List.length_cons] at ih ⊢;rw [ih];simp;omega
theorem qeG : ∀ (ps:List qaq),∀ u ∈ pairVals ps,u.oneCell'=true:=by
 intro ps u hu
 obtain ⟨p,_,hp⟩:=List.mem_flatMap.1 hu
 simp only [List.mem_cons,List.not_mem_nil,or_false] at hp
 rcases hp with rfl | rfl <;> rfl
theorem qn9 : ∀ (rs:List qaC),∀ u ∈ recVals rs,u.oneCell'=true:=by
 intro rs u hu
 obtain ⟨r,_,hr⟩:=List.mem_flatMap.1 hu
 simp only [qaC.cells,List.mem_cons,List.not_mem_nil,or_false] at hr
 rcases hr with rfl | rfl | rfl | rfl <;> rfl
theorem qby (ps:List qaq) (i:Nat) (h:i<ps.length):(pairVals ps)[2 * i]? = some (.string ps[i].key)∧(pairVals ps)[2 * i+1]? = some (.string ps[i].value):=by
 induction ps generalizing i with
 | nil=>simp at h
 | cons p ps ih =>
  cases i with
  | zero=>exact ⟨rfl,rfl⟩
  | succ i =>
   have:=ih i (by simpa using h)
   rw [show 2 * (i+1)=2 * i+2 by omega]
   simpa [pairVals] using this
theorem qex:(Tryz.prog.info? 83).map (fun i=>(i.zero,i.size,i.bytes))=some (some (.agg #[.string ⟨#[]⟩,.string ⟨#[]⟩]),2,32):=by kernel_rfl
def qlF (t:TypeId) (n sz:Nat) (cs:List Value) (w:World) (e:Ending) (w':World):Prop := ∃ v,e=.returned v∧w'.ownsRow w.heap.size t sz v n cs∧Below w.heap.size w w'
theorem qhy (v:Value) (ps:List qaq) (w:World) (h:SliceAt w v ps.length 2 (pairVals ps)) (hn:ps.length≤1000000):Calls Tryz.prog 80 #[v] w (qlF 83 ps.length 2 (pairVals ps) w):=by
 rcases h.ex with ⟨rfl,h0⟩ | ⟨b,o,c,rfl,hc,hx⟩
 ·
  refine (AnyE.slices_Clone_nil Tryz.laysSlE041_f80 0 0 w).mono ?_
  rintro e w' ⟨rfl,rfl⟩
  have:ps=[]:=List.length_eq_zero_iff.1 h0
  subst this
  exact ⟨_,rfl,World.ownsRow_nil _ _ _ _,Below.refl _ _⟩
 ·
  obtain ⟨i0,hi,hz0,hz1,hz2⟩:=info_parts qex
  refine (AnyE.slices_Clone Tryz.laysSlE041_f80 i0 _ 2 32 hi hz0 hz1 hz2 rfl (by decide) Tryz.sizeOf83 b o ps.length c (pairVals ps) w (qeF ps) (by unfold maxLen;omega) (by omega) hx (qeG ps)).mono ?_
  rintro e w' ⟨v',rfl,ho,_,hb⟩
  exact ⟨v',rfl,ho,hb⟩
theorem qip (v:Value) (rs:List qaC) (w:World) (h:SliceAt w v rs.length 4 (recVals rs)) (hn:rs.length≤1000000):Calls Tryz.prog 175 #[v] w (qlF 74 rs.length 4 (recVals rs) w):=by
 rcases h.ex with ⟨rfl,h0⟩ | ⟨b,o,c,rfl,hc,hx⟩
 ·
  refine (AnyE.slices_Clone_nil Tryz.laysSlE041_f175 0 0 w).mono ?_
  rintro e w' ⟨rfl,rfl⟩
  have:rs=[]:=List.length_eq_zero_iff.1 h0
  subst this
  exact ⟨_,rfl,World.ownsRow_nil _ _ _ _,Below.refl _ _⟩
 ·
  obtain ⟨i0,hi,hz0,hz1,hz2⟩:=info_parts (show (Tryz.prog.info? 74).map (fun i=>(i.zero,i.size,i.bytes))=some (some (.agg #[.int .i64 0,.int .i64 0,.string ⟨#[]⟩,.string ⟨#[]⟩]),4,48) by kernel_rfl)
  refine (AnyE.slices_Clone Tryz.laysSlE041_f175 i0 _ 4 48 hi hz0 hz1 hz2 rfl (by decide) Tryz.sizeOf74 b o rs.length c (recVals rs) w (qd6 rs) (by unfold maxLen;omega) (by omega) hx (qn9 rs)).mono ?_
  rintro e w' ⟨v',rfl,ho,_,hb⟩
  exact ⟨v',rfl,ho,hb⟩
def qbB (a b:ByteArray):Bool:=Op.bytesLess a.toList b.toList
def qtu (a b:ByteArray):Int:=if qbB a b=true then -1 else if (a.toList == b.toList)=true then 0 else 1
theorem qrr (a b:ByteArray) (w:World):Calls Tryz.prog 119 #[.string a,.string b] w fun e w'=>e=.returned (.int .i64 (qtu a b))∧w=w':=by
 go_enter Tryz.func119,Tryz.ntmps119
 go_wp2
 all_goals
  go_ret
  refine ⟨?_,rfl⟩
  simp_all [qtu,qbB]
theorem qrf (k v t:ByteArray) (w:World):Calls Tryz.prog 118 #[.agg #[.string k,.string v],.string t] w fun e w'=>e=.returned (.int .i64 (qtu k t))∧Below w.heap.size w w':=by
 have HC:=zH (fun a b w=>qrr a b w)
 go_enter Tryz.func118,Tryz.ntmps118
 go_wp2_with fail
 refine (HC.out _ _ _).mono ?_
 rintro e w1 ⟨rfl,rfl⟩
 go_wp2_with fail
 go_ret
 exact ⟨rfl,qac (Below.refl _ _) _⟩
theorem qnE (k v t:ByteArray) (b:Nat) (w:World) (h:w.cell? ⟨b,0,none⟩=some (.string t)):Calls Tryz.prog 137 #[.agg #[.string k,.string v],.pointer (some ⟨b,0,none⟩)] w fun e w'=>e=.returned (.bool (k.toList == t.toList))∧Below w.heap.size w w':=by
 have hb:b<w.heap.size:=World.block_lt_of_cell? w _ h
 go_enter Tryz.func137,Tryz.ntmps137
 go_wp2_with fail
 go_ret
 exact ⟨rfl,qac (Below.refl _ _) _⟩
end
end Go.Proofs.YtcfdenckiigdaaaGreat

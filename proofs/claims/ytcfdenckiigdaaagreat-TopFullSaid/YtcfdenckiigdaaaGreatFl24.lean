/- Part 24 of the contracts. -/
import Derived.WalkLawsBesides
import Derived.Test.YtcfdenckiigdaaaGreatFl23
set_option linter.unusedVariables false
set_option maxRecDepth 100000
set_option maxHeartbeats 4000000
namespace Go.Proofs.YtcfdenckiigdaaaGreat
open Tryz
section
open Go.RowKit
structure aX where
 kind:Int
 an:Int
 key:ByteArray
 value:ByteArray
def aX.cells (r:aX):Array Value := #[.int .i64 r.kind,.int .i64 r.an,.string r.key,.string r.value]
def AQ (s:ByteArray):Bool:=decide (1≤s.size)&&decide (s.size≤6)
def oM (n:Int):Bool:=decide (1≤n)&&decide (n≤1048576)
def lu (s:ByteArray):Bool:=s.toList.isEmpty
def bC (r:aX):Bool :=
 if r.kind=0 then oM r.an&&lu r.key&&lu r.value
 else if r.kind=1 then decide (r.an=0)&&AQ r.key&&decide (r.value.size≤20)
 else if r.kind=2 then decide (r.an=0)&&AQ r.key&&lu r.value else false
theorem r9 (r:aX) (w:World):Calls prog 76 #[.agg r.cells] w (vt (bC r) w):=by
 unfold aX.cells
 go_enter func76,ntmps76
 go_wp2_with (first
  | (go_at_call 114;refine (pj _ _).mono ?_;rintro e w' ⟨rfl,rfl⟩)
  | (go_at_call 115;refine (r8 _ _).mono ?_;rintro e w' ⟨rfl,rfl⟩))
 all_goals
  go_ret
  refine ⟨?_,ae zR _⟩
  simp_all [bC,lu,AQ,oM]
  try omega
  try (intros;omega)
def dX (s:ByteArray) (n:Nat):ByteArray:=s++⟨Array.replicate (n - s.size) 0⟩
theorem dh (s:ByteArray) (n:Nat) (h:s.size≤n):(dX s n).size=n:=by
 unfold dX
 rw [ByteArray.size_append]
 show s.size+(Array.replicate (n - s.size) 0).size=n
 rw [Array.size_replicate]
 omega
theorem qL (b:UInt8) (n:Nat):Lib.repeatL [b] n=List.replicate n b:=by
 induction n with
 | zero=>rfl
 | succ n ih=>simp [Lib.repeatL,ih,List.replicate_succ]
theorem qh (b:UInt8) (n:Nat) (w:World) (hn:n≤100000):Calls prog 72 #[.string ⟨#[b]⟩,.int .i64 n] w (jm ⟨(List.replicate n b).toArray⟩ w):=by
 match n with
 | 0=>exact (Tryz.strings_Repeat_zero ⟨#[b]⟩ w).mono fun e w' h=>⟨h.1,by rw [h.2];exact Below.refl _ _⟩
 | 1=>exact (Tryz.strings_Repeat_one ⟨#[b]⟩ w).mono fun e w' h=>⟨h.1,by rw [h.2];exact Below.refl _ _⟩
 | n+2 =>
  refine (Tryz.strings_Repeat_main ⟨#[b]⟩ (n+2) w (by omega) (by omega) (by simp [ByteArray.size];omega) (by simp [ByteArray.size])).mono fun e w' h=>⟨?_,h.2⟩
  rw [h.1,qL]
theorem rP (s:ByteArray) (n:Nat) (w:World) (hs:s.size≤n) (hn:n≤4096):Calls prog 77 #[.string s,.int .i64 n] w (jm (dX s n) w):=by
 have hz:(n:Int) - (s.size:Int)=((n - s.size:Nat):Int):=by omega
 have HZ:=zH (show wrap64 ((n:Int) - (s.size:Int))=((n - s.size:Nat):Int) by unfold wrap64;omega)
 go_enter func77,ntmps77
 go_wp2_with fail
 refine (qh 0 (n - s.size) w (by omega)).mono ?_
 rintro e w1 ⟨rfl,hb⟩
 go_wp2
 go_ret
 refine ⟨?_,hb⟩
 simp [dX]
def headText (r:aX):ByteArray:=⟨#[UInt8.ofNat r.key.size,UInt8.ofNat r.value.size,0]⟩++r.key
def bY (r:aX):ByteArray :=
 if r.kind=0 then ⟨#[72]⟩++lQ r.an.toNat else if r.kind=1 then dX (⟨#[82]⟩++headText r) 10++r.value else ⟨#[84]⟩++headText r
def qp (w:World) (b:Nat) (r:aX):Prop := ∃ t f,w.heap[b]? = some (.cells r.cells t f)
theorem qp.cell {w:World} {b:Nat} {r:aX} (h:qp w b r):w.cell? ⟨b,0,none⟩=some (.int .i64 r.kind)∧w.cell? ⟨b,1,none⟩=some (.int .i64 r.an)∧w.cell? ⟨b,2,none⟩=some (.string r.key)∧w.cell? ⟨b,3,none⟩=some (.string r.value):=by
 obtain ⟨t,f,h⟩:=h
 exact ⟨cell_of h 0,cell_of h 1,cell_of h 2,cell_of h 3⟩
theorem qp.aj {w w':World} {b:Nat} {r:aX} (h:qp w b r) (hb:Below w.heap.size w w'):qp w' b r:=by
 obtain ⟨t,f,h⟩:=h
 exact ⟨t,f,aa hb h⟩
theorem j7 {s:ByteArray} (h:lu s=true):s.size=0:=by
 unfold lu at h
 rw [ByteArray.toList_eq] at h
 have:s.data.toList=[]:=by simpa using h
 have:s.data.size=0:=by rw [← Array.length_toList,this];rfl
 exact this
theorem tt {r:aX} (h:bC r=true):r.key.size≤6∧r.value.size≤20:=by
 unfold bC at h
 split at h
 ·
  simp only [Bool.and_eq_true] at h
  rw [j7 h.1.2,j7 h.2];decide
 ·
  split at h
  ·
   simp [AQ] at h;omega
  ·
   split at h
   ·
    simp only [Bool.and_eq_true,AQ,decide_eq_true_eq] at h
    rw [j7 h.2];omega
   ·
    cases h
theorem Em (r:aX) (b:Nat) (w:World) (h:qp w b r) (hm:bC r=true):Calls prog 78 #[.pointer (some ⟨b,0,none⟩)] w (jm (bY r) w):=by
 obtain ⟨c0,c1,c2,c3⟩:=h.cell
 obtain ⟨hk,hv⟩:=tt hm
 have hbl:b<w.heap.size:=zL w _ c0
 have hconv:=run_convert_bytes_back (P:=prog) (w.alloc (.cells #[.int .u8 (r.key.size:Int),.int .u8 (r.value.size:Int),.int .u8 0] 5)).drew 29 9 5 ⟨w.heap.size,0,none⟩ 3 [UInt8.ofNat r.key.size,UInt8.ofNat r.value.size,0] underlying29 underlying5 underlying9 (fun i hi=>by
  rw [di]
  show (w.alloc _).cell? _=_
  rw [cell_of (af w _)]
  match i,hi with
  | 0,_=>simp;omega
  | 1,_=>simp;omega
  | 2,_=>simp)
 simp only [List.length_cons,List.length_nil] at hconv
 go_enter func78,ntmps78
 go_wp2_with fail
 go_region
 have hb1:Below w.heap.size w (w.alloc (.cells #[.int .u8 (r.key.size:Int),.int .u8 (r.value.size:Int),.int .u8 0] 5)).drew:=au (ae zR _)
 generalize (w.alloc (.cells #[.int .u8 (r.key.size:Int),.int .u8 (r.value.size:Int),.int .u8 0] 5)).drew=W at *
 have h2:=h.aj hb1
 clear hconv c0 c1 c2 c3
 obtain ⟨c0,c1,c2,c3⟩:=h2.cell
 have HT:=zH (show headText r=⟨#[UInt8.ofNat r.key.size,UInt8.ofNat r.value.size,0]⟩++r.key from rfl)
 have hhs:(headText r).size≤9:=by
  unfold headText
  rw [ByteArray.size_append]
  show 3+r.key.size≤9
  omega
 have H0:=zH (show r.kind=0→(∃ n:Nat,n<4294967296∧r.an=n)∧bY r=⟨#[72]⟩++lQ r.an.toNat from fun e=>⟨by
  have:=hm
  unfold bC at this
  rw [if_pos e] at this
  simp [oM] at this
  exact ⟨r.an.toNat,by omega,by omega⟩,by unfold bY;rw [if_pos e]⟩)
 have H1:=zH (show r.kind=1→bY r=dX (⟨#[82]⟩++headText r) 10++r.value from fun e=>by unfold bY;rw [if_neg (by rw [e];decide),if_pos e])
 have H2:=zH (show r.kind≠0→r.kind≠1→bY r=⟨#[84]⟩++headText r from fun e e'=>by unfold bY;rw [if_neg e,if_neg e'])
 generalize bY r=hft at *
 generalize headText r=ht at *
 rw [← HT.out]
 have HB:=zH hb1
 clear HT hm h h2 hb1
 obtain ⟨kd,ep,key,val⟩:=r
 simp only at *
 by_cases k0:kd=0
 ·
  obtain ⟨⟨n,hn,rfl⟩,rfl⟩:=H0.out k0
  subst k0
  have HL:=zH (fun w=>pO n w hn)
  clear H0 H1 H2 hn
  rw [Int.toNat_natCast]
  go_wp2_with fail
  refine (HL.out _).mono ?_
  rintro e w1 ⟨rfl,hb⟩
  have HB2:=zH hb
  clear hb
  go_wp2
  go_ret
  exact ⟨rfl,gtr HB.out HB2.out⟩
 ·
  by_cases k1:kd=1
  ·
   obtain rfl:=H1.out k1
   subst k1
   have HP:=zH (fun w=>rP (⟨#[82]⟩++ht) 10 w (by rw [ByteArray.size_append];show 1+ht.size≤10;omega) (by decide))
   have hps:=dh (⟨#[82]⟩++ht) 10 (by rw [ByteArray.size_append];show 1+ht.size≤10;omega)
   generalize dX (⟨#[82]⟩++ht) 10=pt at *
   clear H0 H1 H2 k0
   have hbW:b<W.heap.size:=zL W _ c0
   go_wp2_with fail
   go_region_with (go_at_call 77;refine (HP.out _).mono ?_;rintro e w3 ⟨rfl,hb3⟩;have c3':w3.cell? ⟨b,3,none⟩=some (.string val):=(hb3.cell (p:=⟨b,3,none⟩) hbW).trans c3;have HB3:=zH hb3;clear hb3)
   all_goals
    go_wp2
    go_ret
    exact ⟨rfl,gtr (au HB.out) HB3.out⟩
  ·
   obtain rfl:=H2.out k0 k1
   clear H0 H1 H2
   go_wp2
   go_ret
   exact ⟨rfl,HB.out⟩
end
section
open Go.RowKit
def aL (r:aX):ByteArray:=dy (dX (bY r) 32)
def iD (r:aX):Option ByteArray:=if bC r=true then some (aL r) else none
theorem gu {r:aX} (h:bC r=true):(bY r).size≤32:=by
 obtain ⟨hk,hv⟩:=tt h
 have hh:(headText r).size=3+r.key.size:=by unfold headText;rw [ByteArray.size_append];rfl
 unfold bY
 split
 ·
  rw [ByteArray.size_append];show 1+4≤32;decide
 ·
  split
  ·
   rw [ByteArray.size_append,dh _ _ (by rw [ByteArray.size_append,hh];show 1+(3+r.key.size)≤10;omega)];omega
  ·
   rw [ByteArray.size_append,hh];show 1+(3+r.key.size)≤32;omega
theorem se (r:aX) (w:World):Calls prog 48 #[.agg r.cells] w fun e w'=>e=.returned (pQ (iD r) 1900)∧Below w.heap.size w w':=by
 have HM:=zH (fun w=>r9 r w)
 have hcell:=zH (show r.cells = #[.int .i64 r.kind,.int .i64 r.an,.string r.key,.string r.value] from rfl)
 rw [hcell.out] at *
 by_cases hm:bC r=true
 ·
  have HH:=zH (fun b w h=>Em r b w h hm)
  have HP:=zH (fun w=>rP (bY r) 32 w (gu hm) (by decide))
  have HQ:=zH (fun w=>mh (dX (bY r) 32) w (dh _ _ (gu hm)))
  have er:=zH (show iD r=some (aL r) by unfold iD;rw [if_pos hm])
  rw [er.out]
  have HR:=zH (show aL r=dy (dX (bY r) 32) from rfl)
  rw [hm] at HM
  generalize aL r=rt at *
  go_enter func48,ntmps48
  go_wp2_with fail
  refine (HM.out _).mono ?_
  rintro e w1 ⟨rfl,hb⟩
  have hb1:=gtr (ae (Below.refl w.heap.size w) (.cells #[.int .i64 r.kind,.int .i64 r.an,.string r.key,.string r.value] 74)) hb
  have hbx:qp w1 w.heap.size r:=⟨74,(0,0),aa hb (af w _)⟩
  have HB:=zH (zA hb1 hbx)
  clear hb hb1 hbx
  go_wp2_with fail
  refine (HH.out _ _ HB.out.2).mono ?_
  rintro e w2 ⟨rfl,hb2⟩
  have HB2:=zH (gtr HB.out.1 hb2)
  clear hb2
  go_wp2_with fail
  refine (HP.out _).mono ?_
  rintro e w3 ⟨rfl,hb3⟩
  have HB3:=zH (gtr HB2.out hb3)
  clear hb3
  go_wp2_with fail
  refine (HQ.out _).mono ?_
  rintro e w4 ⟨rfl,hb4⟩
  rw [← HR.out]
  have HB4:=zH (gtr HB3.out hb4)
  clear hb4
  go_wp2
  go_ret2
  exact ⟨rfl,HB4.out⟩
 ·
  have er:=zH (show iD r=none by unfold iD;rw [if_neg hm])
  rw [er.out]
  rw [show bC r=false by simpa using hm] at HM
  go_enter func48,ntmps48
  go_wp2_with fail
  refine (HM.out _).mono ?_
  rintro e w1 ⟨rfl,hb⟩
  have hb1:=zH (gtr (ae (Below.refl w.heap.size w) (.cells #[.int .i64 r.kind,.int .i64 r.an,.string r.key,.string r.value] 74)) hb)
  clear hb
  go_wp2
  go_ret2
  exact ⟨rfl,hb1.out⟩
def gD (s:ByteArray):aX :=
 if s.extract 0 1=⟨#[72]⟩ then ⟨0,jt (s.extract 1 32),⟨#[]⟩,⟨#[]⟩⟩
 else if s.extract 0 1=⟨#[82]⟩ then ⟨1,0,s.extract 4 (4+min (bt s 1).toNat 6),s.extract 10 (10+min (bt s 2).toNat 20)⟩
 else ⟨2,0,s.extract 4 (4+min (bt s 1).toNat 6),⟨#[]⟩⟩
theorem LH (s:ByteArray) (w:World) (hs:s.size=32) (h:s.extract 0 1=⟨#[72]⟩):Calls prog 47 #[.string s] w fun e w'=>e=.returned (.agg (⟨0,jt (s.extract 1 32),⟨#[]⟩,⟨#[]⟩⟩:aX).cells)∧Below w.heap.size w w':=by
 have HN:=zH (fun w=>kF (s.extract 1 32) w (by simp;omega))
 have h1:(1:Int)<(s.size:Int):=by omega
 have g1:=gT s 1 (by omega)
 have g2:=gT s 2 (by omega)
 have q1:((s.extract 0 1).toList == [72])=true:=by rw [show [(72:UInt8)]=(⟨#[72]⟩:ByteArray).toList by rw [ByteArray.toList_eq],jz];exact decide_eq_true h
 have hl:min (bt s 1).toNat 6≤6:=Nat.min_le_right _ _
 have hv:min (bt s 2).toNat 20≤20:=Nat.min_le_right _ _
 have e1:min (wrap64 ((bt s 1).toNat:Int)) 6=((min (bt s 1).toNat 6:Nat):Int):=by rw [gE];omega
 have e2:min (wrap64 ((bt s 2).toNat:Int)) 20=((min (bt s 2).toNat 20:Nat):Int):=by rw [gE];omega
 have HE:=zH (zA e1 e2)
 clear e1 e2
 generalize min (bt s 1).toNat 6=L at *
 generalize min (bt s 2).toNat 20=V at *
 go_enter func47,ntmps47
 go_wp2_with fail
 go_region
 rw [HE.out.1,HE.out.2]
 clear HE g1 g2
 generalize wrap64 ((bt s 1).toNat:Int)=j1
 generalize wrap64 ((bt s 2).toNat:Int)=j2
 generalize ((bt s 1).toNat:Int)=j3
 generalize ((bt s 2).toNat:Int)=j4
 go_wp2_with fail
 refine (HN.out _).mono ?_
 rintro e w2 ⟨rfl,rfl⟩
 go_wp2
 refine bodyPost_ret (v:=.agg (⟨0,jt (s.extract 1 32),⟨#[]⟩,⟨#[]⟩⟩:aX).cells) (by simp [results,results47,go_sem,aX.cells]) rfl ⟨rfl,?_⟩
 exact au (ae zR _)
theorem LI (s:ByteArray) (w:World) (hs:s.size=32) (h : ¬ s.extract 0 1=⟨#[72]⟩) (h':s.extract 0 1=⟨#[82]⟩):Calls prog 47 #[.string s] w fun e w'=>e=.returned (.agg (⟨1,0,s.extract 4 (4+min (bt s 1).toNat 6),s.extract 10 (10+min (bt s 2).toNat 20)⟩:aX).cells)∧Below w.heap.size w w':=by
 have h1:(1:Int)<(s.size:Int):=by omega
 have g1:=gT s 1 (by omega)
 have g2:=gT s 2 (by omega)
 have q1:((s.extract 0 1).toList == [72])=false:=by rw [show [(72:UInt8)]=(⟨#[72]⟩:ByteArray).toList by rw [ByteArray.toList_eq],jz];exact decide_eq_false h
 have q2:((s.extract 0 1).toList == [82])=true:=by rw [show [(82:UInt8)]=(⟨#[82]⟩:ByteArray).toList by rw [ByteArray.toList_eq],jz];exact decide_eq_true h'
 have hl:min (bt s 1).toNat 6≤6:=Nat.min_le_right _ _
 have hv:min (bt s 2).toNat 20≤20:=Nat.min_le_right _ _
 have e1:min (wrap64 ((bt s 1).toNat:Int)) 6=((min (bt s 1).toNat 6:Nat):Int):=by rw [gE];omega
 have e2:min (wrap64 ((bt s 2).toNat:Int)) 20=((min (bt s 2).toNat 20:Nat):Int):=by rw [gE];omega
 have HE:=zH (zA e1 e2)
 clear e1 e2
 generalize min (bt s 1).toNat 6=L at *
 generalize min (bt s 2).toNat 20=V at *
 go_enter func47,ntmps47
 go_wp2_with fail
 go_region
 rw [HE.out.1,HE.out.2]
 clear HE g1 g2
 generalize wrap64 ((bt s 1).toNat:Int)=j1
 generalize wrap64 ((bt s 2).toNat:Int)=j2
 generalize ((bt s 1).toNat:Int)=j3
 generalize ((bt s 2).toNat:Int)=j4
 go_wp2_with fail
 go_region
 go_wp2
 refine bodyPost_ret (v:=.agg (⟨1,0,s.extract 4 (4+L),s.extract 10 (10+V)⟩:aX).cells) (by simp [results,results47,go_sem,aX.cells]) rfl ⟨rfl,?_⟩
 exact au (au (ae zR _))
theorem LJ (s:ByteArray) (w:World) (hs:s.size=32) (h : ¬ s.extract 0 1=⟨#[72]⟩) (h' : ¬ s.extract 0 1=⟨#[82]⟩):Calls prog 47 #[.string s] w fun e w'=>e=.returned (.agg (⟨2,0,s.extract 4 (4+min (bt s 1).toNat 6),⟨#[]⟩⟩:aX).cells)∧Below w.heap.size w w':=by
 have h1:(1:Int)<(s.size:Int):=by omega
 have g1:=gT s 1 (by omega)
 have g2:=gT s 2 (by omega)
 have q1:((s.extract 0 1).toList == [72])=false:=by rw [show [(72:UInt8)]=(⟨#[72]⟩:ByteArray).toList by rw [ByteArray.toList_eq],jz];exact decide_eq_false h
 have q2:((s.extract 0 1).toList == [82])=false:=by rw [show [(82:UInt8)]=(⟨#[82]⟩:ByteArray).toList by rw [ByteArray.toList_eq],jz];exact decide_eq_false h'
 have hl:min (bt s 1).toNat 6≤6:=Nat.min_le_right _ _
 have hv:min (bt s 2).toNat 20≤20:=Nat.min_le_right _ _
 have e1:min (wrap64 ((bt s 1).toNat:Int)) 6=((min (bt s 1).toNat 6:Nat):Int):=by rw [gE];omega
 have e2:min (wrap64 ((bt s 2).toNat:Int)) 20=((min (bt s 2).toNat 20:Nat):Int):=by rw [gE];omega
 have HE:=zH (zA e1 e2)
 clear e1 e2
 generalize min (bt s 1).toNat 6=L at *
 generalize min (bt s 2).toNat 20=V at *
 go_enter func47,ntmps47
 go_wp2_with fail
 go_region
 rw [HE.out.1,HE.out.2]
 clear HE g1 g2
 generalize wrap64 ((bt s 1).toNat:Int)=j1
 generalize wrap64 ((bt s 2).toNat:Int)=j2
 generalize ((bt s 1).toNat:Int)=j3
 generalize ((bt s 2).toNat:Int)=j4
 go_wp2
 refine bodyPost_ret (v:=.agg (⟨2,0,s.extract 4 (4+L),⟨#[]⟩⟩:aX).cells) (by simp [results,results47,go_sem,aX.cells]) rfl ⟨rfl,?_⟩
 exact au (ae zR _)
theorem Dr (s:ByteArray) (w:World) (hs:s.size=32):Calls prog 47 #[.string s] w fun e w'=>e=.returned (.agg (gD s).cells)∧Below w.heap.size w w':=by
 unfold gD
 split
 ·
  rename_i h;exact LH s w hs h
 ·
  rename_i h
  split
  ·
   rename_i h';exact LI s w hs h h'
  ·
   rename_i h';exact LJ s w hs h h'
theorem cF {w:World} {g:Nat} {a b c d:Value} {t:TypeId} (h:w.heap[g]? = some (.cells #[a,b,c,d] t (0,0))):w.cell? ⟨g,0,none⟩=some a∧w.cell? ⟨g,1,none⟩=some b∧w.cell? ⟨g,2,none⟩=some c∧w.cell? ⟨g,3,none⟩=some d ∧ ∀ i,w.frozen? ⟨g,i,none⟩=false :=
 ⟨cell_of h 0,cell_of h 1,cell_of h 2,cell_of h 3,fun i=>aF h i⟩
theorem J5 {w w':World} {g:Nat} (h:Below w.heap.size w w') (hg:w.heap.size≤g) (a b c d:Value):Below w.heap.size w ((((w'.setCell ⟨g,0,none⟩ a).setCell ⟨g,1,none⟩ b).setCell ⟨g,2,none⟩ c).setCell ⟨g,3,none⟩ d) :=
 lh (lh (lh (lh h hg _) hg _) hg _) hg _
def kI:aX:=⟨0,0,⟨#[]⟩,⟨#[]⟩⟩
def dJ (s:ByteArray):Option aX:=match fx s with
 | none=>none
 | some t=>if iD (gD t)=some s then some (gD t) else none
def qG (r:Option aX) (er:Int):Value:=match r with | some r=>.tuple #[.agg r.cells,.int .i64 0] | none=>.tuple #[.agg kI.cells,.int .i64 er]
theorem rQ {s t:ByteArray} (h:fx s=some t):t.size=32:=by
 unfold fx at h
 split at h
 ·
  rename_i hh
  obtain rfl:s.extract 0 32=t:=by simpa using h
  simp;omega
 ·
  cases h
theorem r7 (s:ByteArray) (w:World):Calls prog 26 #[.string s] w fun e w'=>e=.returned (qG (dJ s) 1900)∧Below w.heap.size w w':=by
 have HG:=zH (fun w=>qg s w)
 cases hp:fx s with
 | none =>
  have er:=zH (show dJ s=none by unfold dJ;rw [hp])
  rw [er.out]
  rw [hp] at HG
  unfold pQ at HG
  simp only at HG
  have HO:=zH (show qG none 1900=.tuple #[.agg kI.cells,.int .i64 1900] from rfl)
  rw [HO.out]
  clear hp
  go_enter func26,ntmps26
  go_wp2_with fail
  refine (HG.out _).mono ?_
  rintro e w1 ⟨rfl,hb⟩
  have hr:=aa hb (af w _)
  have c0:w1.cell? ⟨w.heap.size,0,none⟩=some (.int .i64 0):=cell_of hr 0
  have c1:w1.cell? ⟨w.heap.size,1,none⟩=some (.int .i64 0):=cell_of hr 1
  have c2:w1.cell? ⟨w.heap.size,2,none⟩=some (.string ⟨#[]⟩):=cell_of hr 2
  have c3:w1.cell? ⟨w.heap.size,3,none⟩=some (.string ⟨#[]⟩):=cell_of hr 3
  have hf : ∀ i,w1.frozen? ⟨w.heap.size,i,none⟩=false:=fun i=>aF hr i
  have HB:=zH (gtr (ae (Below.refl w.heap.size w) _) hb)
  clear hb hr
  go_wp2
  refine bodyPost_ret (v:=.tuple #[.agg kI.cells,.int .i64 1900]) (by simp [results,results26,go_sem,aX.cells,kI,c0,c1,c2,c3]) rfl ⟨rfl,?_⟩
  exact J5 HB.out zY _ _ _ _
 | some t =>
  have ht:=rQ hp
  rw [hp] at HG
  have HT:=zH (fun w=>Dr t w ht)
  have HP:=zH (fun w=>se (gD t) w)
  have HV:=zH (show dJ s=if iD (gD t)=some s then some (gD t) else none by unfold dJ;rw [hp])
  have HC:=zH (show (gD t).cells = #[.int .i64 (gD t).kind,.int .i64 (gD t).an,.string (gD t).key,.string (gD t).value] from rfl)
  have HO:=zH (show qG none 1900=.tuple #[.agg kI.cells,.int .i64 1900] from rfl)
  have HO1:=zH (show qG (some (gD t)) 1900=.tuple #[.agg (gD t).cells,.int .i64 0] from rfl)
  rw [HV.out]
  unfold pQ at HG HP
  simp only at HG
  clear hp
  generalize gD t=r at *
  rw [HC.out] at HT HP HO1
  cases hpo:iD r with
  | none =>
   rw [hpo] at HP
   simp only at HP
   rw [if_neg (by simp),HO.out]
   clear HV HO1 HO
   go_enter func26,ntmps26
   go_wp2_with fail
   refine (HG.out _).mono ?_
   rintro e w1 ⟨rfl,hb⟩
   have hr:=aa hb (af w _)
   have HB:=zH (zA (gtr (ae (Below.refl w.heap.size w) _) hb) hr)
   clear hb hr
   go_wp2_with fail
   refine (HT.out _).mono ?_
   rintro e w2 ⟨rfl,hb⟩
   have HB2:=zH (zA (gtr HB.out.1 hb) (aa hb HB.out.2))
   clear hb HB
   go_wp2_with fail
   refine (HP.out _).mono ?_
   rintro e w3 ⟨rfl,hb⟩
   have HB3:=zH (gtr (ae HB2.out.1 _) hb)
   obtain ⟨c0,c1,c2,c3,hf⟩:=cF (aa hb (aa (ae zR _) HB2.out.2))
   clear hb HB2
   go_wp2
   refine bodyPost_ret (v:=.tuple #[.agg kI.cells,.int .i64 1900]) (by simp [results,results26,go_sem,aX.cells,kI,c0,c1,c2,c3]) rfl ⟨rfl,?_⟩
   exact J5 HB3.out zY _ _ _ _
  | some u =>
   rw [hpo] at HP
   simp only at HP
   by_cases hus:u=s
   ·
    subst hus
    have hne:(!u.toList == u.toList)=false:=by simp
    rw [if_pos rfl,HO1.out]
    clear HV HO HO1
    go_enter func26,ntmps26
    go_wp2_with fail
    refine (HG.out _).mono ?_
    rintro e w1 ⟨rfl,hb⟩
    have hr:=aa hb (af w _)
    have HB:=zH (zA (gtr (ae (Below.refl w.heap.size w) _) hb) hr)
    clear hb hr
    go_wp2_with fail
    refine (HT.out _).mono ?_
    rintro e w2 ⟨rfl,hb⟩
    have HB2:=zH (zA (gtr HB.out.1 hb) (aa hb HB.out.2))
    clear hb HB
    go_wp2_with fail
    refine (HP.out _).mono ?_
    rintro e w3 ⟨rfl,hb⟩
    have HB3:=zH (gtr (ae HB2.out.1 _) hb)
    obtain ⟨c0,c1,c2,c3,hf⟩:=cF (aa hb (aa (ae zR _) HB2.out.2))
    obtain ⟨d0,d1,d2,d3,hf2⟩:=cF (aa hb (af w2 _))
    have HL:=zH HB2.out.1.size
    clear hb HB2
    go_wp2
    refine bodyPost_ret (v:=.tuple #[.agg #[.int .i64 r.kind,.int .i64 r.an,.string r.key,.string r.value],.int .i64 0]) (by simp [results,results26,go_sem,c0,c1,c2,c3]) rfl ⟨rfl,?_⟩
    exact J5 HB3.out zY _ _ _ _
   ·
    have hne:(!u.toList == s.toList)=true:=by rw [jz,decide_eq_false hus];rfl
    rw [if_neg (fun e=>hus (Option.some.inj e)),HO.out]
    clear HV HO HO1
    go_enter func26,ntmps26
    go_wp2_with fail
    refine (HG.out _).mono ?_
    rintro e w1 ⟨rfl,hb⟩
    have hr:=aa hb (af w _)
    have HB:=zH (zA (gtr (ae (Below.refl w.heap.size w) _) hb) hr)
    clear hb hr
    go_wp2_with fail
    refine (HT.out _).mono ?_
    rintro e w2 ⟨rfl,hb⟩
    have HB2:=zH (zA (gtr HB.out.1 hb) (aa hb HB.out.2))
    clear hb HB
    go_wp2_with fail
    refine (HP.out _).mono ?_
    rintro e w3 ⟨rfl,hb⟩
    have HB3:=zH (gtr (ae HB2.out.1 _) hb)
    obtain ⟨c0,c1,c2,c3,hf⟩:=cF (aa hb (aa (ae zR _) HB2.out.2))
    clear hb HB2
    go_wp2
    refine bodyPost_ret (v:=.tuple #[.agg kI.cells,.int .i64 1900]) (by simp [results,results26,go_sem,aX.cells,kI,c0,c1,c2,c3]) rfl ⟨rfl,?_⟩
    exact J5 HB3.out zY _ _ _ _
end
section
open Go.RowKit
structure aT (w:World) (v:Value) (n sz:Nat) (cs:List Value):Prop where
 len:cs.length=n * sz
 ex:(v=.slice none 0 0∧n=0) ∨ ∃ b o c,v=.slice (some ⟨b,o,none⟩) n c∧n≤c ∧ ∀ i u,cs[i]? = some u→w.cell? ⟨b,o+i,none⟩=some u
theorem aT.aj {w w':World} {v:Value} {n sz:Nat} {cs:List Value} (h:aT w v n sz cs) (hb:Below w.heap.size w w'):aT w' v n sz cs :=
 ⟨h.len,h.ex.imp id fun ⟨b,o,c,hv,hc,hx⟩=>⟨b,o,c,hv,hc,fun i u hu=>(hb.cell (p:=⟨b,o+i,none⟩) (zL w _ (hx i u hu))).trans (hx i u hu)⟩⟩
theorem aT.nil (w:World) (sz:Nat):aT w (.slice none 0 0) 0 sz []:=⟨by simp,.inl ⟨rfl,rfl⟩⟩
theorem aT.dd {w:World} {B:Nat} {t:TypeId} {v:Value} {n sz:Nat} {cs:List Value} (h:w.ownsRow B t sz v n cs):aT w v n sz cs:=by
 refine ⟨h.1,?_⟩
 rcases h.2 with h0 | ⟨g,cap,cur,rfl,_,hg,hle,_,hsz,ht⟩
 ·
  exact .inl h0
 ·
  refine .inr ⟨g,0,cap,rfl,hle,fun i u hu => ?_⟩
  rw [cell_of hg,Nat.zero_add,← hu,← ht,List.getElem?_take,if_pos]
  ·
   simp
  ·
   have:=(List.getElem?_eq_some_iff.1 hu).1
   rw [h.1] at this;exact this
theorem cP {w:World} {B:Nat} {t t':TypeId} {v:Value} {n sz:Nat} {cs:List Value} {g:Nat} {c:Array Value} (h:w.ownsRow B t sz v n cs) (hg:w.heap[g]? = some (.cells c t' (0,0))) (ht:t≠t'):some g≠v.ownBlock:=by
 rcases h.2 with ⟨rfl,_⟩ | ⟨k,cap,cur,rfl,_,hk,_⟩
 ·
  exact fun e=>nomatch e
 ·
  intro e
  obtain rfl:g=k:=by simpa [Value.ownBlock] using e
  rw [hg] at hk
  simp at hk
  exact ht hk.2.symm
theorem bQ {w:World} {B:Nat} {t:TypeId} {v:Value} {n sz:Nat} {cs:List Value} (h:w.ownsRow B t sz v n cs) : ∀ k,v.ownBlock=some k→B≤k:=by
 rcases h.2 with ⟨rfl,_⟩ | ⟨k,cap,cur,rfl,hb,hk,_⟩
 ·
  exact fun k e=>nomatch e
 ·
  intro j e
  obtain rfl:k=j:=by simpa [Value.ownBlock] using e
  exact hb
theorem bF {w:World} {B:Nat} {t:TypeId} {v:Value} {n sz:Nat} {cs:List Value} (h:w.ownsRow B t sz v n cs) : ∃ a c,v=.slice a n c:=by
 rcases h.2 with ⟨rfl,rfl⟩ | ⟨g,cap,cur,rfl,_⟩
 ·
  exact ⟨_,_,rfl⟩
 ·
  exact ⟨_,_,rfl⟩
theorem eY {w:World} {B:Nat} {t:TypeId} {v:Value} {n sz:Nat} {cs:List Value} {b o:Nat} (h:w.ownsRow B t sz v n cs) (hn:some b≠v.ownBlock) (x:Value):(w.setCell ⟨b,o,none⟩ x).ownsRow B t sz v n cs:=by
 refine ⟨h.1,h.2.imp id fun ⟨g,cap,cur,hv,hB,hh,r⟩=>⟨g,cap,cur,hv,hB,?_,r⟩⟩
 rw [Below.heap_setCell _ _ _ _ (fun e=>hn (by rw [hv];exact congrArg some e.symm))]
 exact hh
def bp (rs:List aX):List Value:=rs.flatMap fun r=>r.cells.toList
theorem lT (rs:List aX):(bp rs).length=rs.length * 4:=by
 induction rs with
 | nil=>rfl
 | cons r rs ih=>simp only [bp,List.flatMap_cons,List.length_append,List.length_cons] at ih ⊢;rw [ih];simp [aX.cells];omega
theorem kH (rs:List aX) (r:aX):bp (rs++[r])=bp rs++[.int .i64 r.kind,.int .i64 r.an,.string r.key,.string r.value]:=by simp [bp,aX.cells]
def dR (s:ByteArray) (i:Nat):ByteArray:=s.extract (i * 64) ((i+1) * 64)
def sL (n:Nat):ByteArray:=⟨Array.replicate n 255⟩
def jG (t:ByteArray):Bool:=t.toList == (sL t.size).toList
theorem EZ (s:ByteArray) (i:Nat) (w:World) (hs:s.size=512) (hi:i<8):Calls prog 43 #[.string s,.int .i64 i] w fun e w'=>e=.returned (.string (dR s i))∧w=w':=by
 go_enter func43,ntmps43
 go_wp2
 go_ret
 refine ⟨?_,rfl⟩
 simp [dR]
theorem uU (t:ByteArray) (w:World) (ht:t.size≤4096):Calls prog 44 #[.string t] w (vt (jG t) w):=by
 go_enter func44,ntmps44
 go_wp2_with fail
 refine (qh 255 t.size w (by omega)).mono ?_
 rintro e w1 ⟨rfl,hb⟩
 go_wp2
 go_ret
 refine ⟨?_,hb⟩
 simp [jG,sL]
end
end Go.Proofs.YtcfdenckiigdaaaGreat
namespace Go.Proofs
open Go.Shelf
def Tryz.qD:Go.Shelf.Ren:=⟨fun | 41=>80 | n=>n,fun | 22=>32 | 23=>83 | 4=>4 | n=>n,fun | n=>n⟩
theorem Tryz.oU:Go.Proofs.SlLaysE0.n41 prog Tryz.qD:={ mixed:=by kernel_rfl,f41:=⟨Tryz.f80.name,by decide,func80.trans (congrArg some (by kernel_rfl))⟩,t4:=underlying4,a4:=Tryz.isAgg4,z4:=Tryz.sizeOf4,v4:=Tryz.zeroValue4,t22:=underlying32,a22:=Tryz.isAgg32,z22:=Tryz.sizeOf32,v22:=Tryz.zeroValue32 }
def Tryz.pZ:Go.Shelf.Ren:=⟨fun | 41=>175 | n=>n,fun | 22=>50 | 23=>74 | 4=>4 | n=>n,fun | n=>n⟩
theorem Tryz.od:Go.Proofs.SlLaysE0.n41 prog Tryz.pZ:={ mixed:=by kernel_rfl,f41:=⟨Tryz.f175.name,by decide,func175.trans (congrArg some (by kernel_rfl))⟩,t4:=underlying4,a4:=Tryz.isAgg4,z4:=Tryz.sizeOf4,v4:=Tryz.zeroValue4,t22:=underlying50,a22:=Tryz.isAgg50,z22:=Tryz.sizeOf50,v22:=Tryz.zeroValue50 }
end Go.Proofs
namespace Go.Proofs.YtcfdenckiigdaaaGreat
open Tryz
section
open Go.RowKit
structure aK where
 key:ByteArray
 value:ByteArray
def aE (ps:List aK):List Value:=ps.flatMap fun p=>[.string p.key,.string p.value]
theorem kG (ps:List aK):(aE ps).length=ps.length * 2:=by
 induction ps with
 | nil=>rfl
 | cons r rs ih=>simp only [aE,List.flatMap_cons,List.length_append,List.length_cons] at ih ⊢;rw [ih];simp;omega
theorem nI : ∀ (ps:List aK),∀ u ∈ aE ps,u.oneCell'=true:=by
 intro ps u hu
 obtain ⟨p,_,hp⟩:=List.mem_flatMap.1 hu
 simp only [List.mem_cons,List.not_mem_nil,or_false] at hp
 rcases hp with rfl | rfl <;> rfl
theorem C7 : ∀ (rs:List aX),∀ u ∈ bp rs,u.oneCell'=true:=by
 intro rs u hu
 obtain ⟨r,_,hr⟩:=List.mem_flatMap.1 hu
 simp only [aX.cells,List.mem_cons,List.not_mem_nil,or_false] at hr
 rcases hr with rfl | rfl | rfl | rfl <;> rfl
theorem dF (ps:List aK) (i:Nat) (h:i<ps.length):(aE ps)[2 * i]? = some (.string ps[i].key)∧(aE ps)[2 * i+1]? = some (.string ps[i].value):=by
 induction ps generalizing i with
 | nil=>simp at h
 | cons p ps ih =>
  cases i with
  | zero=>exact ⟨rfl,rfl⟩
  | succ i =>
   have:=ih i (by simpa using h)
   rw [show 2 * (i+1)=2 * i+2 by omega]
   simpa [aE] using this
theorem jH:(prog.info? 83).map (fun i=>(i.zero,i.size,i.bytes))=some (some (.agg #[.string ⟨#[]⟩,.string ⟨#[]⟩]),2,32):=by kernel_rfl
def yE (t:TypeId) (n sz:Nat) (cs:List Value) (w:World) (e:Ending) (w':World):Prop := ∃ v,e=.returned v∧w'.ownsRow w.heap.size t sz v n cs∧Below w.heap.size w w'
theorem sY (v:Value) (ps:List aK) (w:World) (h:aT w v ps.length 2 (aE ps)) (hn:ps.length≤1000000):Calls prog 80 #[v] w (yE 83 ps.length 2 (aE ps) w):=by
 rcases h.ex with ⟨rfl,h0⟩ | ⟨b,o,c,rfl,hc,hx⟩
 ·
  refine (AnyE.slices_Clone_nil Tryz.oU 0 0 w).mono ?_
  rintro e w' ⟨rfl,rfl⟩
  have:ps=[]:=List.length_eq_zero_iff.1 h0
  subst this
  exact ⟨_,rfl,zN,Below.refl _ _⟩
 ·
  obtain ⟨i0,hi,hz0,hz1,hz2⟩:=info_parts jH
  refine (AnyE.slices_Clone Tryz.oU i0 _ 2 32 hi hz0 hz1 hz2 rfl (by decide) Tryz.sizeOf83 b o ps.length c (aE ps) w (kG ps) (by unfold maxLen;omega) (by omega) hx (nI ps)).mono ?_
  rintro e w' ⟨v',rfl,ho,_,hb⟩
  exact ⟨v',rfl,ho,hb⟩
theorem uZ (v:Value) (rs:List aX) (w:World) (h:aT w v rs.length 4 (bp rs)) (hn:rs.length≤1000000):Calls prog 175 #[v] w (yE 74 rs.length 4 (bp rs) w):=by
 rcases h.ex with ⟨rfl,h0⟩ | ⟨b,o,c,rfl,hc,hx⟩
 ·
  refine (AnyE.slices_Clone_nil Tryz.od 0 0 w).mono ?_
  rintro e w' ⟨rfl,rfl⟩
  have:rs=[]:=List.length_eq_zero_iff.1 h0
  subst this
  exact ⟨_,rfl,zN,Below.refl _ _⟩
 ·
  obtain ⟨i0,hi,hz0,hz1,hz2⟩:=info_parts (show (prog.info? 74).map (fun i=>(i.zero,i.size,i.bytes))=some (some (.agg #[.int .i64 0,.int .i64 0,.string ⟨#[]⟩,.string ⟨#[]⟩]),4,48) by kernel_rfl)
  refine (AnyE.slices_Clone Tryz.od i0 _ 4 48 hi hz0 hz1 hz2 rfl (by decide) Tryz.sizeOf74 b o rs.length c (bp rs) w (lT rs) (by unfold maxLen;omega) (by omega) hx (C7 rs)).mono ?_
  rintro e w' ⟨v',rfl,ho,_,hb⟩
  exact ⟨v',rfl,ho,hb⟩
def cI (a b:ByteArray):Bool:=Op.bytesLess a.toList b.toList
def AF (a b:ByteArray):Int:=if cI a b=true then -1 else if (a.toList == b.toList)=true then 0 else 1
theorem GF (a b:ByteArray) (w:World):Calls prog 119 #[.string a,.string b] w fun e w'=>e=.returned (.int .i64 (AF a b))∧w=w':=by
 go_enter func119,ntmps119
 go_wp2
 all_goals
  go_ret
  refine ⟨?_,rfl⟩
  simp_all [AF,cI]
theorem Gr (k v t:ByteArray) (w:World):Calls prog 118 #[.agg #[.string k,.string v],.string t] w fun e w'=>e=.returned (.int .i64 (AF k t))∧Below w.heap.size w w':=by
 have HC:=zH (fun a b w=>GF a b w)
 go_enter func118,ntmps118
 go_wp2_with fail
 refine (HC.out _ _ _).mono ?_
 rintro e w1 ⟨rfl,rfl⟩
 go_wp2
 go_ret
 exact ⟨rfl,ae zR _⟩
theorem B4 (k v t:ByteArray) (b:Nat) (w:World) (h:w.cell? ⟨b,0,none⟩=some (.string t)):Calls prog 137 #[.agg #[.string k,.string v],.pointer (some ⟨b,0,none⟩)] w fun e w'=>e=.returned (.bool (k.toList == t.toList))∧Below w.heap.size w w':=by
 have hb:b<w.heap.size:=zL w _ h
 go_enter func137,ntmps137
 go_wp2
 go_ret
 exact ⟨rfl,ae zR _⟩
end
end Go.Proofs.YtcfdenckiigdaaaGreat

/- Part 2 of the contracts. -/
import Derived.StillTailTactics
import Derived.Test.YtcfdenckiigdaaaGreatKp01
set_option linter.unusedVariables false
set_option maxRecDepth 100000
set_option maxHeartbeats 4000000
namespace Go.Proofs.YtcfdenckiigdaaaGreat
section
open Go.RowKit
def qdR (b:Bool) (w:World) (e:Ending) (w':World):Prop:=e=.returned (.bool b)∧w'=w
def qov (b:UInt8) (w:World) (e:Ending) (w':World):Prop:=e=.returned (.int .u8 (b.toNat:Int)) ∧ ∃ n,w'=w.drewN n
theorem qdV (s:ByteArray) (w:World):Calls Tryz.prog 50 #[.string s] w (qdR (decide (s.size=4096)) w):=by
 go_enter Tryz.func50,Tryz.ntmps50
 go_wp2
 go_ret
 refine ⟨?_,rfl⟩
 by_cases h:s.size=4096
 ·
  simp [h]
 ·
  have h' : ¬ (s.size:Int)=4096:=by omega
  simp [h,h']
theorem qhk (m:ByteArray) (i:Nat) (w:World) (hi:i≤9223372036854775807) (hm:m.size≤9223372036854775807):Calls Tryz.prog 145 #[.string m,.int .i64 i] w fun e w'=>e=.returned (.int .u8 ((maskAt m i).toNat:Int))∧w'=w:=by
 by_cases h:m.size=0
 ·
  obtain rfl:m=ByteArray.empty:=qbN h (fun i hi=>by omega)
  have hv:maskAt ByteArray.empty i=0:=rfl
  rw [hv]
  clear hv h hm
  go_enter Tryz.func145,Tryz.ntmps145
  go_wp2
  go_ret
  exact ⟨rfl,rfl⟩
 ·
  have hlt:i % m.size<m.size:=Nat.mod_lt _ (by omega)
  have hv:maskAt m i=m[i % m.size]'hlt:=by unfold maskAt;rw [if_neg h,qcp]
  have h1 : ¬ m=ByteArray.empty:=by intro e;subst e;exact h rfl
  have h2:m.toList.isEmpty=false:=by
   rw [ByteArray.toList_eq]
   cases hl:m.data.toList with
   | nil=>exact absurd (show m.size=0 by have:=congrArg List.length hl;simpa using this) h
   | cons a r=>rfl
  have h3:0≤(i:Int) % (m.size:Int)∧(i:Int) % (m.size:Int)<(m.size:Int):=by omega
  rw [hv]
  have HV:=zH hv
  clear hv
  go_enter Tryz.func145,Tryz.ntmps145
  go_wp2
  go_ret
  exact ⟨by first | rfl | simp,rfl⟩
def qdk (w:World) (b:Nat) (s:ByteArray):Prop := ∃ t f,w.heap[b]? = some (.cells #[.string s] t f)
theorem qdk.cell {w:World} {b:Nat} {s:ByteArray} (h:qdk w b s):w.cell? ⟨b,0,none⟩=some (.string s):=by obtain ⟨t,f,h⟩:=h;exact qaa h 0
theorem qdk.later {w w':World} {b:Nat} {s:ByteArray} (h:qdk w b s) (hb:Below w.heap.size w w'):qdk w' b s:=by obtain ⟨t,f,h⟩:=h;exact ⟨t,f,qab hb h⟩
theorem qn5 (bm bd:Nat) (m d:ByteArray) (i:Nat) (old:UInt8) (w:World) (h1:qdk w bm m) (h2:qdk w bd d) (hi:i<d.size) (hd:d.size≤4096) (hm:m.size≤4096):Calls Tryz.prog 144 #[.int .i64 i,.int .u8 (old.toNat:Int),.pointer (some ⟨bm,0,none⟩),.pointer (some ⟨bd,0,none⟩)] w (qov (progAt m d i old) w):=by
 have c1:=h1.cell
 have c2:=h2.cell
 have hg:d[i]'hi=bt d i:=qcp d i hi
 have hi':(i:Int)<(d.size:Int):=by omega
 have e1:bits .andNot .u8 ((maskAt m i).toNat:Int) ((d[i]'hi).toNat:Int)=((maskAt m i &&& ~~~(bt d i)).toNat:Int):=by rw [hg];exact qgx _ _
 have e2:bits .andNot .u8 (old.toNat:Int) ((maskAt m i &&& ~~~(bt d i)).toNat:Int)=((progAt m d i old).toNat:Int):=qgx _ _
 have HM:=zH (fun w'=>qhk m i w' (by omega) (by omega))
 generalize progAt m d i old=r at *
 generalize maskAt m i &&& ~~~(bt d i)=r1 at *
 generalize maskAt m i=r2 at *
 clear h1 h2 hg
 go_enter Tryz.func144,Tryz.ntmps144
 go_wp2_with fail
 go_quiet ((go_at_call 145;exact Calls.quiet_of_same (HM.out _)))
 go_wp2
 go_ret
 exact ⟨rfl,_,rfl⟩
theorem qor (bm:Nat) (m:ByteArray) (i:Nat) (old:UInt8) (w:World) (h1:qdk w bm m) (hi:i≤4096) (hm:m.size≤4096):Calls Tryz.prog 146 #[.int .i64 i,.int .u8 (old.toNat:Int),.pointer (some ⟨bm,0,none⟩)] w (qov (wipeAt m i old) w):=by
 have c1:=h1.cell
 have e2:bits .or .u8 (old.toNat:Int) ((maskAt m i).toNat:Int)=((wipeAt m i old).toNat:Int):=qsY _ _
 have HM:=zH (fun w'=>qhk m i w' (by omega) (by omega))
 generalize wipeAt m i old=r at *
 generalize maskAt m i=r2 at *
 clear h1
 go_enter Tryz.func146,Tryz.ntmps146
 go_wp2_with fail
 refine (HM.out _).mono ?_
 rintro e w1 ⟨rfl,rfl⟩
 go_wp2_with fail
 go_ret
 exact ⟨rfl,0,rfl⟩
theorem qnG (s:ByteArray) (p n:Int) (w:World) (hs:s.size=4096) (hp:0≤p) (hp2:p≤4096) (hn0:0≤n) (hn:n≤4096 - p):Calls Tryz.prog 142 #[.string s,.int .i64 p,.int .i64 n] w (qdR true w):=by
 have HM:=zH (qdV s w)
 rw [decide_eq_true hs] at HM
 have g1 : ¬ p<0:=by omega
 have g2 : ¬ 4096<p:=by omega
 go_enter Tryz.func142,Tryz.ntmps142
 go_wp2_with fail
 refine HM.out.mono ?_
 rintro e w1 ⟨rfl,rfl⟩
 go_wp2_with fail
 go_ret
 exact ⟨by simp,rfl⟩
theorem qf1 (s:ByteArray) (cap:Nat):s.size≤(bytesRow s cap).size:=by
 show s.data.size≤_
 unfold bytesRow
 simp only [Array.size_append,Array.size_map]
 omega
theorem qjq (f:Nat→UInt8→UInt8) (s:ByteArray) (p k j:Nat) (hj:j≠p+k):(if p≤j∧j<p+(k+1) then f (j - p) (bt s j) else bt s j)=(if p≤j∧j<p+k then f (j - p) (bt s j) else bt s j):=by
 by_cases h:p≤j∧j<p+k
 ·
  rw [if_pos h,if_pos (by omega)]
 ·
  rw [if_neg h,if_neg (by omega)]
theorem qom (s:ByteArray) (p n:Nat) (bm bd:Nat) (m d:ByteArray) (w:World) (hs:s.size=4096) (hpn:p+n≤4096) (h1:qdk w bm m) (h2:qdk w bd d) (hd:d.size=n) (hm:m.size≤4096)  : Calls Tryz.prog 143 #[.string s,.int .i64 p,.int .i64 n,.func (.func 144) #[] #[.pointer (some ⟨bm,0,none⟩),.pointer (some ⟨bd,0,none⟩)]] w fun e w'=>e=.returned (.string (turn s p n (progAt m d)))∧Below w.heap.size w w':=by
 have hconv:=run_bytes_of_string (P:=Tryz.prog) w 9 29 5 s Tryz.underlying9 Tryz.underlying29 Tryz.underlying5
 have hrow:=fun j (hj:j<s.data.size)=>bytesRow_at s (grownCap w s.size 0 5) j hj
 have hsz:=qf1 s (grownCap w s.size 0 5)
 generalize bytesRow s (grownCap w s.size 0 5)=C at *
 generalize grownCap w s.size 0 5=cap at *
 rw [hs] at hconv
 have hn0:(n:Int)≤4096:=by omega
 have hp0:(p:Int)≤4096:=by omega
 have HR:=zH hrow
 have HZ:=zH hsz
 clear hrow hsz
 have kback:=fun (w':World) (l:List UInt8) (hl:l.length=4096) (hc : ∀ j (hj:j<l.length),w'.cell? ((⟨w.heap.size,0,none⟩:Addr).add j)=some (.int .u8 (l[j].toNat:Int))) =>
  run_convert_bytes_back (P:=Tryz.prog) w' 29 9 5 ⟨w.heap.size,0,none⟩ cap l Tryz.underlying29 Tryz.underlying5 Tryz.underlying9 hc
 have KB:=zH kback
 clear kback
 go_enter Tryz.func143,Tryz.ntmps143
 go_wp2_with fail
 generalize hW:(w.alloc _).drew=w2
 have hb2:Below w.heap.size w w2:=by rw [← hW];exact qai (qac (Below.refl _ _) _)
 have hc2 : ∀ j,j<4096→w2.cell? ⟨w.heap.size,j,none⟩=some (.int .u8 ((bt s j).toNat:Int)):=fun j hj=>by
  rw [← hW]
  have hj':j<s.data.size:=by have:s.data.size=4096:=hs;omega
  exact (World.cell?_alloc_mark w C 5 _ j).trans ((HR.out j hj').trans (by rw [qgL s j hj']))
 have hf2 : ∀ j,j<4096→w2.frozen? ⟨w.heap.size,j,none⟩=false:=fun j hj=>by
  rw [← hW]
  refine (World.frozen?_alloc_mark w C 5 _ _ j).trans ?_
  have:=HZ.out
  rw [decide_eq_false (show ¬ C.size≤j by omega)];rfl
 clear hW hconv
 go_loopw [14] (fun i wr => ∃ k:Nat,i=.int .i64 k∧k≤n∧Below w.heap.size w wr∧(∀ j,j<4096→wr.cell? ⟨w.heap.size,j,none⟩=some (.int .u8 ((if p≤j∧j<p+k then (progAt m d) (j - p) (bt s j) else bt s j).toNat:Int))) ∧ ∀ j,j<4096→wr.frozen? ⟨w.heap.size,j,none⟩=false) (fun i _=>n - (intOf i).toNat)
 case atStart=>exact ⟨0,rfl,Nat.zero_le _,hb2,fun j hj=>by rw [if_neg (by omega)];exact hc2 j hj,hf2⟩
 case round =>
  obtain ⟨k,rfl,hk,hb,hc,hf⟩:=hrel
  have HC:=zH hc
  have HF:=zH hf
  clear hc hf hc2 hf2 hb2
  by_cases hlt:k<n
  ·
   have hlt':(k:Int)<(n:Int):=by omega
   have hpk:(p:Int)+(k:Int)<4096:=by omega
   have d0:wr.cell? ⟨w.heap.size,p+k,none⟩=some (.int .u8 ((bt s (p+k)).toNat:Int)):=by
    rw [HC.out (p+k) (by omega),if_neg (by omega)]
   have hz:=HF.out (p+k) (by omega)
   have hHB:=zH hb
   have HS:=zH hlt
   have HCALL:=zH (qn5 bm bd m d k (bt s (p+k)) wr (h1.later hb) (h2.later hb) (by omega) (by omega) hm)
   generalize hv:(progAt m d) k (bt s (p+k))=v at *
   have HV:=zH hv
   generalize ho:bt s (p+k)=old at *
   have HO:=zH ho
   clear hv hb ho
   go_wp2_with fail
   refine HCALL.out.mono ?_
   rintro e w3 ⟨rfl,n3,rfl⟩
   go_wp2_with fail
   go_roundw
   case rel =>
    refine ⟨k+1,by go_num,by omega,qao (gset hHB.out (Nat.le_refl _) _) _,fun j hj => ?_,fun j hj=>(World.frozen?_setCell _ _ _ _).trans (HF.out j hj)⟩
    by_cases hjk:j=p+k
    ·
     subst hjk
     rw [if_pos (by omega),show p+k - p=k by omega]
     exact (World.cell?_setCell_same wr _ _ d0).trans (by rw [HO.out,HV.out];first | done | rfl | simp)
    ·
     rw [qjq _ _ _ _ _ hjk]
     exact (World.cell?_setCell_other _ _ _ _ (by simp;first | done | omega)).trans (HC.out j hj)
   case measure=>simp [intOf];omega
  ·
   obtain rfl:k=n:=by omega
   have hback:=KB.out wr ((List.range 4096).map fun j=>if p≤j∧j<p+k then (progAt m d) (j - p) (bt s j) else bt s j) (by simp) (fun j hj=>by
    have hj':j<4096:=by simpa using hj
    rw [qaP,Nat.zero_add,HC.out j hj']
    simp)
   rw [show ((List.range 4096).map fun j=>if p≤j∧j<p+k then (progAt m d) (j - p) (bt s j) else bt s j).length=4096 by simp] at hback
   have hres:(⟨((List.range 4096).map fun j=>if p≤j∧j<p+k then (progAt m d) (j - p) (bt s j) else bt s j).toArray⟩:ByteArray)=turn s p k (progAt m d) :=
    qnm _ _ _ (by simp [hs]) (fun i hi=>by simp)
   rw [hres] at hback
   clear hres
   clear HC HF HR HZ KB h1
   go_wp2_with fail
   go_ret
   refine ⟨?_,hb⟩
   first | rfl | simp | (simp;rfl)
theorem qon (s:ByteArray) (p n:Nat) (bm:Nat) (m:ByteArray) (w:World) (hs:s.size=4096) (hpn:p+n≤4096) (h1:qdk w bm m) (hm:m.size≤4096)  : Calls Tryz.prog 143 #[.string s,.int .i64 p,.int .i64 n,.func (.func 146) #[] #[.pointer (some ⟨bm,0,none⟩)]] w fun e w'=>e=.returned (.string (turn s p n (wipeAt m)))∧Below w.heap.size w w':=by
 have hconv:=run_bytes_of_string (P:=Tryz.prog) w 9 29 5 s Tryz.underlying9 Tryz.underlying29 Tryz.underlying5
 have hrow:=fun j (hj:j<s.data.size)=>bytesRow_at s (grownCap w s.size 0 5) j hj
 have hsz:=qf1 s (grownCap w s.size 0 5)
 generalize bytesRow s (grownCap w s.size 0 5)=C at *
 generalize grownCap w s.size 0 5=cap at *
 rw [hs] at hconv
 have hn0:(n:Int)≤4096:=by omega
 have hp0:(p:Int)≤4096:=by omega
 have HR:=zH hrow
 have HZ:=zH hsz
 clear hrow hsz
 have kback:=fun (w':World) (l:List UInt8) (hl:l.length=4096) (hc : ∀ j (hj:j<l.length),w'.cell? ((⟨w.heap.size,0,none⟩:Addr).add j)=some (.int .u8 (l[j].toNat:Int))) =>
  run_convert_bytes_back (P:=Tryz.prog) w' 29 9 5 ⟨w.heap.size,0,none⟩ cap l Tryz.underlying29 Tryz.underlying5 Tryz.underlying9 hc
 have KB:=zH kback
 clear kback
 go_enter Tryz.func143,Tryz.ntmps143
 go_wp2_with fail
 generalize hW:(w.alloc _).drew=w2
 have hb2:Below w.heap.size w w2:=by rw [← hW];exact qai (qac (Below.refl _ _) _)
 have hc2 : ∀ j,j<4096→w2.cell? ⟨w.heap.size,j,none⟩=some (.int .u8 ((bt s j).toNat:Int)):=fun j hj=>by
  rw [← hW]
  have hj':j<s.data.size:=by have:s.data.size=4096:=hs;omega
  exact (World.cell?_alloc_mark w C 5 _ j).trans ((HR.out j hj').trans (by rw [qgL s j hj']))
 have hf2 : ∀ j,j<4096→w2.frozen? ⟨w.heap.size,j,none⟩=false:=fun j hj=>by
  rw [← hW]
  refine (World.frozen?_alloc_mark w C 5 _ _ j).trans ?_
  have:=HZ.out
  rw [decide_eq_false (show ¬ C.size≤j by omega)];rfl
 clear hW hconv
 go_loopw [14] (fun i wr => ∃ k:Nat,i=.int .i64 k∧k≤n∧Below w.heap.size w wr∧(∀ j,j<4096→wr.cell? ⟨w.heap.size,j,none⟩=some (.int .u8 ((if p≤j∧j<p+k then (wipeAt m) (j - p) (bt s j) else bt s j).toNat:Int))) ∧ ∀ j,j<4096→wr.frozen? ⟨w.heap.size,j,none⟩=false) (fun i _=>n - (intOf i).toNat)
 case atStart=>exact ⟨0,rfl,Nat.zero_le _,hb2,fun j hj=>by rw [if_neg (by omega)];exact hc2 j hj,hf2⟩
 case round =>
  obtain ⟨k,rfl,hk,hb,hc,hf⟩:=hrel
  have HC:=zH hc
  have HF:=zH hf
  clear hc hf hc2 hf2 hb2
  by_cases hlt:k<n
  ·
   have hlt':(k:Int)<(n:Int):=by omega
   have hpk:(p:Int)+(k:Int)<4096:=by omega
   have d0:wr.cell? ⟨w.heap.size,p+k,none⟩=some (.int .u8 ((bt s (p+k)).toNat:Int)):=by
    rw [HC.out (p+k) (by omega),if_neg (by omega)]
   have hz:=HF.out (p+k) (by omega)
   have hHB:=zH hb
   have HS:=zH hlt
   have HCALL:=zH (qor bm m k (bt s (p+k)) wr (h1.later hb) (by omega) hm)
   generalize hv:(wipeAt m) k (bt s (p+k))=v at *
   have HV:=zH hv
   generalize ho:bt s (p+k)=old at *
   have HO:=zH ho
   clear hv hb ho
   go_wp2_with fail
   refine HCALL.out.mono ?_
   rintro e w3 ⟨rfl,n3,rfl⟩
   go_wp2_with fail
   go_roundw
   case rel =>
    refine ⟨k+1,by go_num,by omega,qao (gset hHB.out (Nat.le_refl _) _) _,fun j hj => ?_,fun j hj=>(World.frozen?_setCell _ _ _ _).trans (HF.out j hj)⟩
    by_cases hjk:j=p+k
    ·
     subst hjk
     rw [if_pos (by omega),show p+k - p=k by omega]
     exact (World.cell?_setCell_same wr _ _ d0).trans (by rw [HO.out,HV.out];first | done | rfl | simp)
    ·
     rw [qjq _ _ _ _ _ hjk]
     exact (World.cell?_setCell_other _ _ _ _ (by simp;first | done | omega)).trans (HC.out j hj)
   case measure=>simp [intOf];omega
  ·
   obtain rfl:k=n:=by omega
   have hback:=KB.out wr ((List.range 4096).map fun j=>if p≤j∧j<p+k then (wipeAt m) (j - p) (bt s j) else bt s j) (by simp) (fun j hj=>by
    have hj':j<4096:=by simpa using hj
    rw [qaP,Nat.zero_add,HC.out j hj']
    simp)
   rw [show ((List.range 4096).map fun j=>if p≤j∧j<p+k then (wipeAt m) (j - p) (bt s j) else bt s j).length=4096 by simp] at hback
   have hres:(⟨((List.range 4096).map fun j=>if p≤j∧j<p+k then (wipeAt m) (j - p) (bt s j) else bt s j).toArray⟩:ByteArray)=turn s p k (wipeAt m) :=
    qnm _ _ _ (by simp [hs]) (fun i hi=>by simp)
   rw [hres] at hback
   clear hres
   clear HC HF HR HZ KB h1
   go_wp2_with fail
   go_ret
   refine ⟨?_,hb⟩
   first | rfl | simp | (simp;rfl)
def qra (s:ByteArray) (er:Int) (w:World) (e:Ending) (w':World):Prop:=e=.returned (.tuple #[.string s,.int .i64 er])∧Below w.heap.size w w'
theorem qhA (s:ByteArray) (p:Nat) (d m:ByteArray) (w:World) (hs:s.size=4096) (hp:p+d.size≤4096) (hm:m.size≤4096):Calls Tryz.prog 100 #[.string s,.int .i64 p,.string d,.string m] w (qra (turn s p d.size (progAt m d)) 0 w):=by
 have hd1:(d.size:Int)≤4096 - (p:Int):=by omega
 have HF:=zH (fun w'=>qnG s p d.size w' hs (by omega) (by omega) (by omega) hd1)
 go_enter Tryz.func100,Tryz.ntmps100
 go_wp2_with fail
 refine (HF.out _).mono ?_
 rintro e w1 ⟨rfl,rfl⟩
 have x6:qdk ((w.alloc (.cells #[.string d] 9)).alloc (.cells #[.string m] 9)) w.heap.size d:=⟨_,_,qab (qac (Below.refl _ _) _) (qad _ _)⟩
 have x7:qdk ((w.alloc (.cells #[.string d] 9)).alloc (.cells #[.string m] 9)) (w.heap.size+1) m:=⟨_,_,by have:=qad (w.alloc (.cells #[.string d] 9)) (.cells #[.string m] 9);simpa using this⟩
 have HT:=zH (qom s p d.size (w.heap.size+1) w.heap.size m d _ hs hp x7 x6 rfl hm)
 have hb:Below w.heap.size w ((w.alloc (.cells #[.string d] 9)).alloc (.cells #[.string m] 9)):=qac (qac (Below.refl _ _) _) _
 clear x6 x7
 go_wp2_with fail
 refine HT.out.mono ?_
 rintro e w2 ⟨rfl,hb2⟩
 go_wp2_with fail
 go_ret2
 exact ⟨rfl,gtr hb hb2⟩
theorem qjH (s:ByteArray) (k:Nat) (m:ByteArray) (w:World) (hs:s.size=4096) (hk:k<8) (hm:m.size≤4096):Calls Tryz.prog 101 #[.string s,.int .i64 k,.string m] w (qra (turn s (k * 512) 512 (wipeAt m)) 0 w):=by
 have HM:=zH (fun w'=>qdV s w')
 rw [decide_eq_true hs] at HM
 have hk' : ¬ (8:Int)≤(k:Int):=by omega
 have hk2 : ¬ (k:Int)<0:=by omega
 have hmul:(k:Int) * 512=((k * 512:Nat):Int):=by omega
 have hk3:(k:Int)<8:=by omega
 go_enter Tryz.func101,Tryz.ntmps101
 go_wp2_with fail
 refine (HM.out _).mono ?_
 rintro e w1 ⟨rfl,rfl⟩
 have x5:qdk (w.alloc (.cells #[.string m] 9)) w.heap.size m:=⟨_,_,qad _ _⟩
 have HT:=qon s (k * 512) 512 w.heap.size m _ hs (by omega) x5 hm
 rw [← hmul] at HT
 have HT:=zH HT
 have hb:Below w.heap.size w (w.alloc (.cells #[.string m] 9)):=qac (Below.refl _ _) _
 clear x5 hmul
 go_wp2_with fail
 refine HT.out.mono ?_
 rintro e w2 ⟨rfl,hb2⟩
 go_wp2_with fail
 go_ret2
 exact ⟨rfl,gtr hb hb2⟩
end
section
open Go.RowKit
structure Touch (F:Nat→Prop) (w w':World):Prop where
 os:w'.os=w.os
 tape:w'.tape=w.tape
 output:w'.output=w.output
 size:w.heap.size≤w'.heap.size
 block : ∀ k,k<w.heap.size → ¬ F k→w'.heap[k]? = w.heap[k]?
theorem Touch.refl (F:Nat→Prop) (w:World):Touch F w w:=⟨rfl,rfl,rfl,Nat.le_refl _,fun _ _ _=>rfl⟩
theorem Touch.trans {F:Nat→Prop} {a b c:World} (h:Touch F a b) (k:Touch F b c):Touch F a c :=
 ⟨k.os.trans h.os,k.tape.trans h.tape,k.output.trans h.output,Nat.le_trans h.size k.size,fun i hi hn=>(k.block i (Nat.lt_of_lt_of_le hi h.size) hn).trans (h.block i hi hn)⟩
theorem Touch.mono {F G:Nat→Prop} {a b:World} (h:Touch F a b) (hF : ∀ k,F k→G k):Touch G a b:=⟨h.os,h.tape,h.output,h.size,fun i hi hn=>h.block i hi fun hf=>hn (hF i hf)⟩
theorem Touch.then {F G:Nat→Prop} {a b c:World} (h:Touch F a b) (k:Touch G b c) (hG : ∀ i,G i→F i∨a.heap.size≤i):Touch F a c :=
 ⟨k.os.trans h.os,k.tape.trans h.tape,k.output.trans h.output,Nat.le_trans h.size k.size,fun i hi hn=>(k.block i (Nat.lt_of_lt_of_le hi h.size) fun hg=>(hG i hg).elim hn (fun hl=>Nat.lt_irrefl _ (Nat.lt_of_lt_of_le hi hl))).trans (h.block i hi hn)⟩
theorem Touch.of_below {F:Nat→Prop} {a b:World} (h:Below a.heap.size a b):Touch F a b:=⟨h.os,h.tape,h.output,h.size,fun i hi _=>h.block i hi⟩
theorem Touch.below {F:Nat→Prop} {a b:World} (h:Touch F a b) {B:Nat} (hB:B≤a.heap.size) (hF : ∀ i,i<B → ¬ F i):Below B a b:=⟨h.os,h.tape,h.output,h.size,fun i hi=>h.block i (Nat.lt_of_lt_of_le hi hB) (hF i hi)⟩
theorem Touch.set {F:Nat→Prop} {a b:World} (h:Touch F a b) (c i:Nat) (v:Value) (hc:F c):Touch F a (b.setCell ⟨c,i,none⟩ v) :=
 ⟨h.os,h.tape,h.output,by rw [World.size_setCell];exact h.size,fun k hk hn=>(heap_setCell_other _ _ _ _ (fun e=>hn (by rw [e];exact hc))).trans (h.block k hk hn)⟩
theorem Touch.drew {F:Nat→Prop} {a b:World} (h:Touch F a b):Touch F a b.drew:=h.trans (Touch.of_below (qai (Below.refl _ _)))
theorem Touch.drewN {F:Nat→Prop} {a b:World} (h:Touch F a b) (n:Nat):Touch F a (b.drewN n):=h.trans (Touch.of_below (qao (Below.refl _ _) n))
theorem Touch.alloc {F:Nat→Prop} {a b:World} (h:Touch F a b) (o:Obj):Touch F a (b.alloc o):=h.trans (Touch.of_below (qac (Below.refl _ _) o))
theorem Touch.at {F:Nat→Prop} {a b:World} (h:Touch F a b) {k:Nat} {o:Obj} (hk:a.heap[k]? = some o) (hn : ¬ F k):b.heap[k]? = some o:=(h.block k (qat hk) hn).trans hk
theorem Touch.cell {F:Nat→Prop} {a b:World} (h:Touch F a b) (k i:Nat) {v:Value} (hk:a.cell? ⟨k,i,none⟩=some v) (hn : ¬ F k):b.cell? ⟨k,i,none⟩=some v:=by
 have hl:=World.block_lt_of_cell? a _ hk
 have:=h.block k hl hn
 unfold World.cell? at hk ⊢
 rw [this];exact hk
theorem qag {w:World} {c i:Nat} {cs:Array Value} {t:TypeId} {v:Value} (h:w.heap[c]? = some (.cells cs t (0,0))):(w.setCell ⟨c,i,none⟩ v).heap[c]? = some (.cells (cs.setIfInBounds i v) t (0,0)):=heap_setCell_same _ _ _ _ _ _ h
structure Raw where
 cells:ByteArray
 prot:Bool
 quad:Bool
 w0:Int
 w1:Int
 w2:Int
 w3:Int
 w4:Int
 w5:Int
 w6:Int
 w7:Int
 o0:Int
 o1:Int
 o2:Int
 sfdp:ByteArray
 sel:Bool
 en:Bool
 goes:Bool
 job:Option Addr
 busy:Value
 op:OpR
 stage:Int
 left:Int
 got:Int
 addr:Int
 mode:Int
 moded:Bool
 data:Value
 told:Int
 now:Int
 beyond:Bool
def Raw.row (s:Raw):Array Value := #[.string s.cells,.bool s.prot,.bool s.quad,.int .i64 s.w0,.int .i64 s.w1,.int .i64 s.w2,.int .i64 s.w3,.int .i64 s.w4,.int .i64 s.w5,.int .i64 s.w6,.int .i64 s.w7,.int .u32 s.o0,.int .i32 s.o1,.int .u32 s.o2,.string s.sfdp,.bool s.sel,.bool s.en,.bool s.goes,.pointer s.job,s.busy,.int .i64 s.op.byte,.int .i64 s.op.addr,.bool s.op.mode,.int .i64 s.op.dummy,.int .i64 s.op.data,.bool s.op.inn,.int .i64 s.stage,.int .i64 s.left,.int .i64 s.got,.int .i64 s.addr,.int .i64 s.mode,.bool s.moded,s.data,.int .i64 s.told,.int .i64 s.now,.bool s.beyond]
def Only (c:Nat):Nat→Prop:=fun x=>x=c
def qas (w:World) (c:Nat) (s:Raw):Prop:=w.heap[c]? = some (.cells s.row 131 (0,0))
theorem qas.touch {F:Nat→Prop} {w w':World} {c:Nat} {s:Raw} (h:qas w c s) (ht:Touch F w w') (hn : ¬ F c):qas w' c s:=ht.at h hn
theorem qas.later {w w':World} {c:Nat} {s:Raw} (h:qas w c s) (ht:Below w.heap.size w w'):qas w' c s:=qab ht h
theorem qas.lt {w:World} {c:Nat} {s:Raw} (h:qas w c s):c<w.heap.size:=qat h
def qh5 (c:Nat) (s:Raw) (w:World) (e:Ending) (w':World):Prop:=e=.returned (.tuple #[])∧qas w' c s∧Touch (Only c) w w'
def Raw.enter (s:Raw) (st cl:Int):Raw:={ s with stage:=st,left:=cl,got:=0 }
theorem qiz (c:Nat) (s:Raw) (st cl:Int) (w:World) (h:qas w c s):Calls Tryz.prog 218 #[.pointer (some ⟨c,20,none⟩),.int .i64 st,.int .i64 cl] w (qh5 c (s.enter st cl) w):=by
 have c26:w.cell? ⟨c,26,none⟩=some (.int .i64 s.stage):=qaa h 26
 have c27:w.cell? ⟨c,27,none⟩=some (.int .i64 s.left):=qaa h 27
 have c28:w.cell? ⟨c,28,none⟩=some (.int .i64 s.got):=qaa h 28
 have hf:=fun i=>qah h i
 have hfin:qas (((w.setCell ⟨c,26,none⟩ (.int .i64 st)).setCell ⟨c,27,none⟩ (.int .i64 cl)).setCell ⟨c,28,none⟩ (.int .i64 0)) c (s.enter st cl):=qag (qag (qag h))
 have H:=zH hfin
 clear hfin h
 go_enter Tryz.func218,Tryz.ntmps218
 go_wp2
 go_end0
 exact ⟨rfl,H.out,(((Touch.refl (Only c) w).set c 26 _ rfl).set c 27 _ rfl).set c 28 _ rfl⟩
structure Job where
 sector:Int
 page:Int
 data:ByteArray
 left:Int
 susp:Bool
def Job.row (j:Job):Array Value := #[.int .i64 j.sector,.int .i64 j.page,.string j.data,.int .i64 j.left,.bool j.susp]
def qel (w:World) (a:Option Addr) (j:Option Job):Prop :=
 match j with
 | none=>a=none
 | some j => ∃ b,a=some ⟨b,0,none⟩∧w.heap[b]? = some (.cells j.row 192 (0,0))
def worksB (j:Option Job):Bool:=match j with | none=>false | some j => !j.susp
theorem qec (c:Nat) (s:Raw) (j:Option Job) (w:World) (h:qas w c s) (hj:qel w s.job j):Calls Tryz.prog 242 #[.pointer (some ⟨c,0,none⟩)] w (qdR (worksB j) w):=by
 have c18:w.cell? ⟨c,18,none⟩=some (.pointer s.job):=qaa h 18
 cases j with
 | none =>
  obtain hj:s.job=none:=hj
  rw [hj] at c18
  clear h hj
  go_enter Tryz.func242,Tryz.ntmps242
  go_wp2
  go_ret
  exact ⟨rfl,rfl⟩
 | some j =>
  obtain ⟨b,hb,hjb⟩:=hj
  rw [hb] at c18
  have d4:w.cell? ⟨b,4,none⟩=some (.bool j.susp):=qaa hjb 4
  clear h hjb hb
  go_enter Tryz.func242,Tryz.ntmps242
  go_wp2
  go_ret
  exact ⟨rfl,rfl⟩
def qs4 (r:OpR):Prop:=(r.addr=0∨r.addr=1∨r.addr=4)∧(r.data=0∨r.data=1∨r.data=4)∧(r.mode=true→r.addr=4∧r.data=4)∧(r.inn=true→r.data=1)
instance (r:OpR):Decidable (qs4 r):=by unfold qs4;infer_instance
theorem qhK (b:Int):qs4 (opRow b):=by
 by_cases h : ∀ k ∈ opBytes,b≠k
 ·
  rw [show opRow b=OpR.zero by simp [opRow,qfa b h]];decide
 ·
  simp only [opBytes,List.mem_cons,List.not_mem_nil,or_false,forall_eq_or_imp,forall_eq,ne_eq] at h
  by_cases h1:b=1;· subst h1;decide
  by_cases h2:b=2;· subst h2;decide
  by_cases h3:b=3;· subst h3;decide
  by_cases h4:b=4;· subst h4;decide
  by_cases h5:b=5;· subst h5;decide
  by_cases h6:b=6;· subst h6;decide
  by_cases h7:b=32;· subst h7;decide
  by_cases h8:b=53;· subst h8;decide
  by_cases h9:b=90;· subst h9;decide
  by_cases h10:b=107;· subst h10;decide
  by_cases h11:b=117;· subst h11;decide
  by_cases h12:b=122;· subst h12;decide
  by_cases h13:b=159;· subst h13;decide
  by_cases h14:b=235;· subst h14;decide
  exact absurd ⟨h1,h2,h3,h4,h5,h6,h7,h8,h9,h10,h11,h12,h13,h14⟩ h
def many (l:Int):Int:=if l=1 then 8 else 2
theorem qbH (l:Int) (w:World) (h:l=1∨l=4):Calls Tryz.prog 204 #[.int .i64 l] w (fun e w'=>e=.returned (.int .i64 (many l))∧w'=w):=by
 rcases h with rfl | rfl
 ·
  go_enter Tryz.func204,Tryz.ntmps204
  go_wp2
  go_ret
  exact ⟨rfl,rfl⟩
 ·
  go_enter Tryz.func204,Tryz.ntmps204
  go_wp2
  go_ret
  exact ⟨rfl,rfl⟩
def Raw.behind (s:Raw):Raw :=
 if s.op.mode=true∧s.moded=false then s.enter 3 (many s.op.addr)
 else if 0<s.op.dummy∧s.stage≠4 then s.enter 4 s.op.dummy
 else if s.op.data=0 then s.enter 7 0
 else if s.op.inn=true then s.enter 5 (many s.op.data)
 else s.enter 6 0
theorem qhg (c:Nat) (s:Raw) (w:World) (h:qas w c s) (ho:qs4 s.op):Calls Tryz.prog 219 #[.pointer (some ⟨c,20,none⟩)] w (qh5 c s.behind w):=by
 have c21:w.cell? ⟨c,21,none⟩=some (.int .i64 s.op.addr):=qaa h 21
 have c22:w.cell? ⟨c,22,none⟩=some (.bool s.op.mode):=qaa h 22
 have c23:w.cell? ⟨c,23,none⟩=some (.int .i64 s.op.dummy):=qaa h 23
 have c24:w.cell? ⟨c,24,none⟩=some (.int .i64 s.op.data):=qaa h 24
 have c25:w.cell? ⟨c,25,none⟩=some (.bool s.op.inn):=qaa h 25
 have c26:w.cell? ⟨c,26,none⟩=some (.int .i64 s.stage):=qaa h 26
 have c31:w.cell? ⟨c,31,none⟩=some (.bool s.moded):=qaa h 31
 have HO:=zH ho
 have HE:=zH (fun st cl=>qiz c s st cl w h)
 have HM1:=zH (fun h=>qbH s.op.addr w h)
 have HM2:=zH (fun h=>qbH s.op.data w h)
 clear h ho
 go_enter Tryz.func219,Tryz.ntmps219
 go_wp2_with (first | (go_at_call 204;refine (HM1.out (.inr (HO.out.2.2.1 (by assumption)).1)).mono ?_;rintro e w1 ⟨rfl,rfl⟩) | (go_at_call 204;refine (HM2.out (.inl (HO.out.2.2.2 (by assumption)))).mono ?_;rintro e w1 ⟨rfl,rfl⟩) | (go_at_call 218;refine (HE.out _ _).mono ?_;rintro e w2 ⟨rfl,h2,t2⟩))
 all_goals
  go_end0
  refine ⟨rfl,?_,t2⟩
  clear HE HM1 HM2 HO t2 c21 c22 c23 c24 c25 c26 c31
  unfold Raw.behind
  simp_all
  try (rw [if_neg (by omega)];exact h2)
def takeGot (got x lanes:Int):Int:=if lanes=1 then got * 2+x % 2 else got * 16+x % 16
theorem qe8 (a b:Nat) (ha:a<9223372036854775808) (hb:b<9223372036854775808):bits .or .i64 (a:Int) (b:Int)=((a ||| b:Nat):Int):=by
 have hlt:a ||| b<2 ^ 63:=Nat.or_lt_two_pow (by omega) (by omega)
 have e:(BitVec.ofInt 64 (a:Int) ||| BitVec.ofInt 64 (b:Int)).toNat=a ||| b:=by
  rw [BitVec.toNat_or,BitVec.toNat_ofInt,BitVec.toNat_ofInt]
  have e1:((a:Int) % ((2 ^ 64:Nat):Int)).toNat=a:=by rw [Int.emod_eq_of_lt (by omega) (by have:(2:Nat)^64=18446744073709551616:=(by decide);omega)];simp
  have e2:((b:Int) % ((2 ^ 64:Nat):Int)).toNat=b:=by rw [Int.emod_eq_of_lt (by omega) (by have:(2:Nat)^64=18446744073709551616:=(by decide);omega)];simp
  rw [e1,e2]
 show IntKind.i64.wrap ((BitVec.ofInt 64 (a:Int) ||| BitVec.ofInt 64 (b:Int)).toNat:Int)=_
 rw [e]
 have:(2:Nat) ^ 63=9223372036854775808:=by decide
 exact qaT (by omega) (by omega)
theorem qo9 (g x:Int) (j:Nat) (hj:j=1∨j=4) (h0:0≤g) (h1:g<4294967296) (hx:0≤x) (hx1:x<(2 ^ j:Nat)):bits .or .i64 (g * (2 ^ j:Nat)) x=g * (2 ^ j:Nat)+x:=by
 obtain ⟨a,rfl⟩:=Int.eq_ofNat_of_zero_le h0
 obtain ⟨b,rfl⟩:=Int.eq_ofNat_of_zero_le hx
 have hb:b<2 ^ j:=by exact_mod_cast hx1
 have ha:a<4294967296:=by omega
 have hp:(2:Nat) ^ j≤16:=by rcases hj with rfl | rfl <;> decide
 have hm:a * 2 ^ j≤4294967296 * 16:=Nat.mul_le_mul (by omega) hp
 have e:a * 2 ^ j ||| b=a * 2 ^ j+b:=by
  rw [Nat.mul_comm,Nat.two_pow_add_eq_or_of_lt hb]
 have:=qe8 (a * 2 ^ j) b (by omega) (by omega)
 rw [e] at this
 push_cast at this ⊢
 exact this
theorem qcY (c:Nat) (s:Raw) (x lanes:Int) (w:World) (h:qas w c s) (hl:lanes=1∨lanes=4) (hg0:0≤s.got) (hg1:s.got<4294967296) (hx0:0≤x) (hx1:x≤15) (h0:0≤s.left) (h1:s.left≤4294967296):Calls Tryz.prog 243 #[.pointer (some ⟨c,20,none⟩),.int .i64 x,.int .i64 lanes] w fun e w'=>e=.returned (.bool (decide (s.left - 1=0)))∧qas w' c { s with got:=takeGot s.got x lanes,left:=s.left - 1 }∧Touch (Only c) w w':=by
 have h2:qas w.drew c s:=h
 have t2:Touch (Only c) w w.drew:=(Touch.refl _ w).drew
 have c28:w.cell? ⟨c,28,none⟩=some (.int .i64 s.got):=qaa h 28
 clear h
 rcases hl with rfl | rfl
 ·
  have e1:bits .and .i64 x 1=x % 2:=and1 x
  have e2:bits .or .i64 (s.got * 2) (x % 2)=takeGot s.got x 1:=qo9 s.got (x % 2) 1 (by decide) hg0 hg1 (by omega) (by have:=Int.emod_lt_of_pos x (show (0:Int)<2 by decide);exact this)
  generalize takeGot s.got x 1=g at *
  go_enter Tryz.func243,Tryz.ntmps243
  go_wp2_with fail
  go_still_tail 13,(by kernel_rfl)
  change wpList _ _ _ _ _ w.drew
  generalize w.drew=w2 at *
  have c27:w2.cell? ⟨c,27,none⟩=some (.int .i64 s.left):=qaa h2 27
  have c28:w2.cell? ⟨c,28,none⟩=some (.int .i64 s.got):=qaa h2 28
  have hf:=fun i=>qah h2 i
  have hfin:qas ((w2.setCell ⟨c,28,none⟩ (.int .i64 g)).setCell ⟨c,27,none⟩ (.int .i64 (s.left - 1))) c { s with got:=g,left:=s.left - 1 }:=qag (qag h2)
  have H:=zH hfin
  clear hfin h2
  go_wp2
  go_ret
  exact ⟨rfl,H.out,(t2.set c 28 _ rfl).set c 27 _ rfl⟩
 ·
  have e1:bits .and .i64 x 15=x % 16:=quZ x
  have e2:bits .or .i64 (s.got * 16) (x % 16)=takeGot s.got x 4:=qo9 s.got (x % 16) 4 (by decide) hg0 hg1 (by omega) (by have:=Int.emod_lt_of_pos x (show (0:Int)<16 by decide);exact this)
  generalize takeGot s.got x 4=g at *
  go_enter Tryz.func243,Tryz.ntmps243
  go_wp2_with fail
  go_still_tail 13,(by kernel_rfl)
  change wpList _ _ _ _ _ w.drew
  generalize w.drew=w2 at *
  have c27:w2.cell? ⟨c,27,none⟩=some (.int .i64 s.left):=qaa h2 27
  have c28:w2.cell? ⟨c,28,none⟩=some (.int .i64 s.got):=qaa h2 28
  have hf:=fun i=>qah h2 i
  have hfin:qas ((w2.setCell ⟨c,28,none⟩ (.int .i64 g)).setCell ⟨c,27,none⟩ (.int .i64 (s.left - 1))) c { s with got:=g,left:=s.left - 1 }:=qag (qag h2)
  have H:=zH hfin
  clear hfin h2
  go_wp2
  go_ret
  exact ⟨rfl,H.out,(t2.set c 28 _ rfl).set c 27 _ rfl⟩
end
end Go.Proofs.YtcfdenckiigdaaaGreat

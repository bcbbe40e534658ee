/- Part 2 of the contracts. -/
import Derived.StillTailTactics
import Derived.Test.YtcfdenckiigdaaaGreatFl01
set_option linter.unusedVariables false
set_option maxRecDepth 100000
set_option maxHeartbeats 4000000
namespace Go.Proofs.YtcfdenckiigdaaaGreat
open Tryz
section
open Go.RowKit
def kP (b:Bool) (w:World) (e:Ending) (w':World):Prop:=e=.returned (.bool b)∧w'=w
def Br (b:UInt8) (w:World) (e:Ending) (w':World):Prop:=e=.returned (.int .u8 (b.toNat:Int)) ∧ ∃ n,w'=w.drewN n
theorem l8 (s:ByteArray) (w:World):Calls prog 50 #[.string s] w (kP (decide (s.size=4096)) w):=by
 go_enter func50,ntmps50
 go_wp2
 go_ret
 refine ⟨?_,rfl⟩
 by_cases h:s.size=4096
 ·
  simp [h]
 ·
  have h' : ¬ (s.size:Int)=4096:=by omega
  simp [h,h']
theorem rI (m:ByteArray) (i:Nat) (w:World) (hi:i≤9223372036854775807) (hm:m.size≤9223372036854775807):Calls prog 145 #[.string m,.int .i64 i] w fun e w'=>e=.returned (.int .u8 ((eD m i).toNat:Int))∧w'=w:=by
 by_cases h:m.size=0
 ·
  obtain rfl:m=ByteArray.empty:=fH h (fun i hi=>by omega)
  have hv:eD ByteArray.empty i=0:=rfl
  rw [hv]
  clear hv h hm
  go_enter func145,ntmps145
  go_wp2
  go_ret
  exact ⟨rfl,rfl⟩
 ·
  have hlt:i % m.size<m.size:=Nat.mod_lt _ (by omega)
  have hv:eD m i=m[i % m.size]'hlt:=by unfold eD;rw [if_neg h,gT]
  have h1 : ¬ m=ByteArray.empty:=by intro e;subst e;exact h rfl
  have h2:m.toList.isEmpty=false:=by
   rw [ByteArray.toList_eq]
   cases hl:m.data.toList with
   | nil=>exact absurd (show m.size=0 by have:=congrArg List.length hl;simpa using this) h
   | cons a r=>rfl
  have h3:0≤(i:Int) % (m.size:Int)∧(i:Int) % (m.size:Int)<(m.size:Int):=by omega
  rw [hv]
  have HV:=zH hv
  clear hv
  go_enter func145,ntmps145
  go_wp2
  go_ret
  exact ⟨by first | rfl | simp,rfl⟩
def jn (w:World) (b:Nat) (s:ByteArray):Prop := ∃ t f,w.heap[b]? = some (.cells #[.string s] t f)
theorem jn.cell {w:World} {b:Nat} {s:ByteArray} (h:jn w b s):w.cell? ⟨b,0,none⟩=some (.string s):=by obtain ⟨t,f,h⟩:=h;exact cell_of h 0
theorem jn.aj {w w':World} {b:Nat} {s:ByteArray} (h:jn w b s) (hb:Below w.heap.size w w'):jn w' b s:=by obtain ⟨t,f,h⟩:=h;exact ⟨t,f,aa hb h⟩
theorem C2 (bm bd:Nat) (m d:ByteArray) (i:Nat) (old:UInt8) (w:World) (h1:jn w bm m) (h2:jn w bd d) (hi:i<d.size) (hd:d.size≤4096) (hm:m.size≤4096):Calls prog 144 #[.int .i64 i,.int .u8 (old.toNat:Int),.pointer (some ⟨bm,0,none⟩),.pointer (some ⟨bd,0,none⟩)] w (Br (iH m d i old) w):=by
 have c1:=h1.cell
 have c2:=h2.cell
 have hg:d[i]'hi=bt d i:=gT d i hi
 have hi':(i:Int)<(d.size:Int):=by omega
 have e1:bits .andNot .u8 ((eD m i).toNat:Int) ((d[i]'hi).toNat:Int)=((eD m i &&& ~~~(bt d i)).toNat:Int):=by rw [hg];exact qn _ _
 have e2:bits .andNot .u8 (old.toNat:Int) ((eD m i &&& ~~~(bt d i)).toNat:Int)=((iH m d i old).toNat:Int):=qn _ _
 have HM:=zH (fun w'=>rI m i w' (by omega) (by omega))
 generalize iH m d i old=r at *
 generalize eD m i &&& ~~~(bt d i)=r1 at *
 generalize eD m i=r2 at *
 clear h1 h2 hg
 go_enter func144,ntmps144
 go_wp2_with fail
 go_quiet ((go_at_call 145;exact Calls.quiet_of_same (HM.out _)))
 go_wp2
 go_ret
 exact ⟨rfl,_,rfl⟩
theorem DD (bm:Nat) (m:ByteArray) (i:Nat) (old:UInt8) (w:World) (h1:jn w bm m) (hi:i≤4096) (hm:m.size≤4096):Calls prog 146 #[.int .i64 i,.int .u8 (old.toNat:Int),.pointer (some ⟨bm,0,none⟩)] w (Br (iU m i old) w):=by
 have c1:=h1.cell
 have e2:bits .or .u8 (old.toNat:Int) ((eD m i).toNat:Int)=((iU m i old).toNat:Int):=Iu _ _
 have HM:=zH (fun w'=>rI m i w' (by omega) (by omega))
 generalize iU m i old=r at *
 generalize eD m i=r2 at *
 clear h1
 go_enter func146,ntmps146
 go_wp2_with fail
 refine (HM.out _).mono ?_
 rintro e w1 ⟨rfl,rfl⟩
 go_wp2
 go_ret
 exact ⟨rfl,0,rfl⟩
theorem B8 (s:ByteArray) (p n:Int) (w:World) (hs:s.size=4096) (hp:0≤p) (hp2:p≤4096) (hn0:0≤n) (hn:n≤4096 - p):Calls prog 142 #[.string s,.int .i64 p,.int .i64 n] w (kP true w):=by
 have HM:=zH (l8 s w)
 rw [decide_eq_true hs] at HM
 have g1 : ¬ p<0:=by omega
 have g2 : ¬ 4096<p:=by omega
 go_enter func142,ntmps142
 go_wp2_with fail
 refine HM.out.mono ?_
 rintro e w1 ⟨rfl,rfl⟩
 go_wp2
 go_ret
 exact ⟨by simp,rfl⟩
theorem p7 (s:ByteArray) (cap:Nat):s.size≤(bytesRow s cap).size:=by
 show s.data.size≤_
 unfold bytesRow
 simp only [Array.size_append,Array.size_map]
 omega
theorem uP (f:Nat→UInt8→UInt8) (s:ByteArray) (p k j:Nat) (hj:j≠p+k):(if p≤j∧j<p+(k+1) then f (j - p) (bt s j) else bt s j)=(if p≤j∧j<p+k then f (j - p) (bt s j) else bt s j):=by
 by_cases h:p≤j∧j<p+k
 ·
  rw [if_pos h,if_pos (by omega)]
 ·
  rw [if_neg h,if_neg (by omega)]
theorem Dt (s:ByteArray) (p n:Nat) (bm bd:Nat) (m d:ByteArray) (w:World) (hs:s.size=4096) (hpn:p+n≤4096) (h1:jn w bm m) (h2:jn w bd d) (hd:d.size=n) (hm:m.size≤4096)  : Calls prog 143 #[.string s,.int .i64 p,.int .i64 n,.func (.func 144) #[] #[.pointer (some ⟨bm,0,none⟩),.pointer (some ⟨bd,0,none⟩)]] w fun e w'=>e=.returned (.string (lF s p n (iH m d)))∧Below w.heap.size w w':=by
 have hconv:=run_bytes_of_string (P:=prog) w 9 29 5 s underlying9 underlying29 underlying5
 have hrow:=fun j (hj:j<s.data.size)=>bytesRow_at s (grownCap w s.size 0 5) j hj
 have hsz:=p7 s (grownCap w s.size 0 5)
 generalize bytesRow s (grownCap w s.size 0 5)=C at *
 generalize grownCap w s.size 0 5=cap at *
 rw [hs] at hconv
 have hn0:(n:Int)≤4096:=by omega
 have hp0:(p:Int)≤4096:=by omega
 have HR:=zH hrow
 have HZ:=zH hsz
 clear hrow hsz
 have kback:=fun (w':World) (l:List UInt8) (hl:l.length=4096) (hc : ∀ j (hj:j<l.length),w'.cell? ((⟨w.heap.size,0,none⟩:Addr).add j)=some (.int .u8 (l[j].toNat:Int))) =>
  run_convert_bytes_back (P:=prog) w' 29 9 5 ⟨w.heap.size,0,none⟩ cap l underlying29 underlying5 underlying9 hc
 have KB:=zH kback
 clear kback
 go_enter func143,ntmps143
 go_wp2_with fail
 generalize hW:(w.alloc _).drew=w2
 have hb2:Below w.heap.size w w2:=by rw [← hW];exact au (ae zR _)
 have hc2 : ∀ j,j<4096→w2.cell? ⟨w.heap.size,j,none⟩=some (.int .u8 ((bt s j).toNat:Int)):=fun j hj=>by
  rw [← hW]
  have hj':j<s.data.size:=by have:s.data.size=4096:=hs;omega
  exact (World.cell?_alloc_mark w C 5 _ j).trans ((HR.out j hj').trans (by rw [pG s j hj']))
 have hf2 : ∀ j,j<4096→w2.frozen? ⟨w.heap.size,j,none⟩=false:=fun j hj=>by
  rw [← hW]
  refine (World.frozen?_alloc_mark w C 5 _ _ j).trans ?_
  have:=HZ.out
  rw [decide_eq_false (show ¬ C.size≤j by omega)];rfl
 clear hW hconv
 go_loopw [14] (fun i wr => ∃ k:Nat,i=.int .i64 k∧k≤n∧Below w.heap.size w wr∧(∀ j,j<4096→wr.cell? ⟨w.heap.size,j,none⟩=some (.int .u8 ((if p≤j∧j<p+k then (iH m d) (j - p) (bt s j) else bt s j).toNat:Int))) ∧ ∀ j,j<4096→wr.frozen? ⟨w.heap.size,j,none⟩=false) (fun i _=>n - (intOf i).toNat)
 case atStart=>exact ⟨0,rfl,Nat.zero_le _,hb2,fun j hj=>by rw [if_neg (by omega)];exact hc2 j hj,hf2⟩
 case round =>
  obtain ⟨k,rfl,hk,hb,hc,hf⟩:=hrel
  have HC:=zH hc
  have HF:=zH hf
  clear hc hf hc2 hf2 hb2
  by_cases hlt:k<n
  ·
   have hlt':(k:Int)<(n:Int):=by omega
   have hpk:(p:Int)+(k:Int)<4096:=by omega
   have d0:wr.cell? ⟨w.heap.size,p+k,none⟩=some (.int .u8 ((bt s (p+k)).toNat:Int)):=by
    rw [HC.out (p+k) (by omega),if_neg (by omega)]
   have hz:=HF.out (p+k) (by omega)
   have hHB:=zH hb
   have HS:=zH hlt
   have HCALL:=zH (C2 bm bd m d k (bt s (p+k)) wr (h1.aj hb) (h2.aj hb) (by omega) (by omega) hm)
   generalize hv:(iH m d) k (bt s (p+k))=v at *
   have HV:=zH hv
   generalize ho:bt s (p+k)=old at *
   have HO:=zH ho
   clear hv hb ho
   go_wp2_with fail
   refine HCALL.out.mono ?_
   rintro e w3 ⟨rfl,n3,rfl⟩
   go_wp2
   go_roundw
   case rel =>
    refine ⟨k+1,by go_num,by omega,aY (lh hHB.out zY _) _,fun j hj => ?_,fun j hj=>(World.frozen?_setCell _ _ _ _).trans (HF.out j hj)⟩
    by_cases hjk:j=p+k
    ·
     subst hjk
     rw [if_pos (by omega),show p+k - p=k by omega]
     exact (World.cell?_setCell_same wr _ _ d0).trans (by rw [HO.out,HV.out];first | done | rfl | simp)
    ·
     rw [uP _ _ _ _ _ hjk]
     exact (World.cell?_setCell_other _ _ _ _ (by simp;first | done | omega)).trans (HC.out j hj)
   case measure=>simp [intOf];omega
  ·
   obtain rfl:k=n:=by omega
   have hback:=KB.out wr ((List.range 4096).map fun j=>if p≤j∧j<p+k then (iH m d) (j - p) (bt s j) else bt s j) (by simp) (fun j hj=>by
    have hj':j<4096:=by simpa using hj
    rw [di,Nat.zero_add,HC.out j hj']
    simp)
   rw [show ((List.range 4096).map fun j=>if p≤j∧j<p+k then (iH m d) (j - p) (bt s j) else bt s j).length=4096 by simp] at hback
   have hres:(⟨((List.range 4096).map fun j=>if p≤j∧j<p+k then (iH m d) (j - p) (bt s j) else bt s j).toArray⟩:ByteArray)=lF s p k (iH m d) :=
    back_mk _ _ _ (by simp [hs]) (fun i hi=>by simp)
   rw [hres] at hback
   clear hres
   clear HC HF HR HZ KB h1
   go_wp2
   go_ret
   refine ⟨?_,hb⟩
   first | rfl | simp | (simp;rfl)
theorem Du (s:ByteArray) (p n:Nat) (bm:Nat) (m:ByteArray) (w:World) (hs:s.size=4096) (hpn:p+n≤4096) (h1:jn w bm m) (hm:m.size≤4096)  : Calls prog 143 #[.string s,.int .i64 p,.int .i64 n,.func (.func 146) #[] #[.pointer (some ⟨bm,0,none⟩)]] w fun e w'=>e=.returned (.string (lF s p n (iU m)))∧Below w.heap.size w w':=by
 have hconv:=run_bytes_of_string (P:=prog) w 9 29 5 s underlying9 underlying29 underlying5
 have hrow:=fun j (hj:j<s.data.size)=>bytesRow_at s (grownCap w s.size 0 5) j hj
 have hsz:=p7 s (grownCap w s.size 0 5)
 generalize bytesRow s (grownCap w s.size 0 5)=C at *
 generalize grownCap w s.size 0 5=cap at *
 rw [hs] at hconv
 have hn0:(n:Int)≤4096:=by omega
 have hp0:(p:Int)≤4096:=by omega
 have HR:=zH hrow
 have HZ:=zH hsz
 clear hrow hsz
 have kback:=fun (w':World) (l:List UInt8) (hl:l.length=4096) (hc : ∀ j (hj:j<l.length),w'.cell? ((⟨w.heap.size,0,none⟩:Addr).add j)=some (.int .u8 (l[j].toNat:Int))) =>
  run_convert_bytes_back (P:=prog) w' 29 9 5 ⟨w.heap.size,0,none⟩ cap l underlying29 underlying5 underlying9 hc
 have KB:=zH kback
 clear kback
 go_enter func143,ntmps143
 go_wp2_with fail
 generalize hW:(w.alloc _).drew=w2
 have hb2:Below w.heap.size w w2:=by rw [← hW];exact au (ae zR _)
 have hc2 : ∀ j,j<4096→w2.cell? ⟨w.heap.size,j,none⟩=some (.int .u8 ((bt s j).toNat:Int)):=fun j hj=>by
  rw [← hW]
  have hj':j<s.data.size:=by have:s.data.size=4096:=hs;omega
  exact (World.cell?_alloc_mark w C 5 _ j).trans ((HR.out j hj').trans (by rw [pG s j hj']))
 have hf2 : ∀ j,j<4096→w2.frozen? ⟨w.heap.size,j,none⟩=false:=fun j hj=>by
  rw [← hW]
  refine (World.frozen?_alloc_mark w C 5 _ _ j).trans ?_
  have:=HZ.out
  rw [decide_eq_false (show ¬ C.size≤j by omega)];rfl
 clear hW hconv
 go_loopw [14] (fun i wr => ∃ k:Nat,i=.int .i64 k∧k≤n∧Below w.heap.size w wr∧(∀ j,j<4096→wr.cell? ⟨w.heap.size,j,none⟩=some (.int .u8 ((if p≤j∧j<p+k then (iU m) (j - p) (bt s j) else bt s j).toNat:Int))) ∧ ∀ j,j<4096→wr.frozen? ⟨w.heap.size,j,none⟩=false) (fun i _=>n - (intOf i).toNat)
 case atStart=>exact ⟨0,rfl,Nat.zero_le _,hb2,fun j hj=>by rw [if_neg (by omega)];exact hc2 j hj,hf2⟩
 case round =>
  obtain ⟨k,rfl,hk,hb,hc,hf⟩:=hrel
  have HC:=zH hc
  have HF:=zH hf
  clear hc hf hc2 hf2 hb2
  by_cases hlt:k<n
  ·
   have hlt':(k:Int)<(n:Int):=by omega
   have hpk:(p:Int)+(k:Int)<4096:=by omega
   have d0:wr.cell? ⟨w.heap.size,p+k,none⟩=some (.int .u8 ((bt s (p+k)).toNat:Int)):=by
    rw [HC.out (p+k) (by omega),if_neg (by omega)]
   have hz:=HF.out (p+k) (by omega)
   have hHB:=zH hb
   have HS:=zH hlt
   have HCALL:=zH (DD bm m k (bt s (p+k)) wr (h1.aj hb) (by omega) hm)
   generalize hv:(iU m) k (bt s (p+k))=v at *
   have HV:=zH hv
   generalize ho:bt s (p+k)=old at *
   have HO:=zH ho
   clear hv hb ho
   go_wp2_with fail
   refine HCALL.out.mono ?_
   rintro e w3 ⟨rfl,n3,rfl⟩
   go_wp2
   go_roundw
   case rel =>
    refine ⟨k+1,by go_num,by omega,aY (lh hHB.out zY _) _,fun j hj => ?_,fun j hj=>(World.frozen?_setCell _ _ _ _).trans (HF.out j hj)⟩
    by_cases hjk:j=p+k
    ·
     subst hjk
     rw [if_pos (by omega),show p+k - p=k by omega]
     exact (World.cell?_setCell_same wr _ _ d0).trans (by rw [HO.out,HV.out];first | done | rfl | simp)
    ·
     rw [uP _ _ _ _ _ hjk]
     exact (World.cell?_setCell_other _ _ _ _ (by simp;first | done | omega)).trans (HC.out j hj)
   case measure=>simp [intOf];omega
  ·
   obtain rfl:k=n:=by omega
   have hback:=KB.out wr ((List.range 4096).map fun j=>if p≤j∧j<p+k then (iU m) (j - p) (bt s j) else bt s j) (by simp) (fun j hj=>by
    have hj':j<4096:=by simpa using hj
    rw [di,Nat.zero_add,HC.out j hj']
    simp)
   rw [show ((List.range 4096).map fun j=>if p≤j∧j<p+k then (iU m) (j - p) (bt s j) else bt s j).length=4096 by simp] at hback
   have hres:(⟨((List.range 4096).map fun j=>if p≤j∧j<p+k then (iU m) (j - p) (bt s j) else bt s j).toArray⟩:ByteArray)=lF s p k (iU m) :=
    back_mk _ _ _ (by simp [hs]) (fun i hi=>by simp)
   rw [hres] at hback
   clear hres
   clear HC HF HR HZ KB h1
   go_wp2
   go_ret
   refine ⟨?_,hb⟩
   first | rfl | simp | (simp;rfl)
def Ft (s:ByteArray) (er:Int) (w:World) (e:Ending) (w':World):Prop:=e=.returned (.tuple #[.string s,.int .i64 er])∧Below w.heap.size w w'
theorem tx (s:ByteArray) (p:Nat) (d m:ByteArray) (w:World) (hs:s.size=4096) (hp:p+d.size≤4096) (hm:m.size≤4096):Calls prog 100 #[.string s,.int .i64 p,.string d,.string m] w (Ft (lF s p d.size (iH m d)) 0 w):=by
 have hd1:(d.size:Int)≤4096 - (p:Int):=by omega
 have HF:=zH (fun w'=>B8 s p d.size w' hs (by omega) (by omega) (by omega) hd1)
 go_enter func100,ntmps100
 go_wp2_with fail
 refine (HF.out _).mono ?_
 rintro e w1 ⟨rfl,rfl⟩
 have x6:jn ((w.alloc (.cells #[.string d] 9)).alloc (.cells #[.string m] 9)) w.heap.size d:=⟨_,_,aa (ae zR _) (af _ _)⟩
 have x7:jn ((w.alloc (.cells #[.string d] 9)).alloc (.cells #[.string m] 9)) (w.heap.size+1) m:=⟨_,_,by have:=af (w.alloc (.cells #[.string d] 9)) (.cells #[.string m] 9);simpa using this⟩
 have HT:=zH (Dt s p d.size (w.heap.size+1) w.heap.size m d _ hs hp x7 x6 rfl hm)
 have hb:Below w.heap.size w ((w.alloc (.cells #[.string d] 9)).alloc (.cells #[.string m] 9)):=ae (ae zR _) _
 clear x6 x7
 go_wp2_with fail
 refine HT.out.mono ?_
 rintro e w2 ⟨rfl,hb2⟩
 go_wp2
 go_ret2
 exact ⟨rfl,gtr hb hb2⟩
theorem wO (s:ByteArray) (k:Nat) (m:ByteArray) (w:World) (hs:s.size=4096) (hk:k<8) (hm:m.size≤4096):Calls prog 101 #[.string s,.int .i64 k,.string m] w (Ft (lF s (k * 512) 512 (iU m)) 0 w):=by
 have HM:=zH (fun w'=>l8 s w')
 rw [decide_eq_true hs] at HM
 have hk' : ¬ (8:Int)≤(k:Int):=by omega
 have hk2 : ¬ (k:Int)<0:=by omega
 have hmul:(k:Int) * 512=((k * 512:Nat):Int):=by omega
 have hk3:(k:Int)<8:=by omega
 go_enter func101,ntmps101
 go_wp2_with fail
 refine (HM.out _).mono ?_
 rintro e w1 ⟨rfl,rfl⟩
 have x5:jn (w.alloc (.cells #[.string m] 9)) w.heap.size m:=⟨_,_,af _ _⟩
 have HT:=Du s (k * 512) 512 w.heap.size m _ hs (by omega) x5 hm
 rw [← hmul] at HT
 have HT:=zH HT
 have hb:Below w.heap.size w (w.alloc (.cells #[.string m] 9)):=ae zR _
 clear x5 hmul
 go_wp2_with fail
 refine HT.out.mono ?_
 rintro e w2 ⟨rfl,hb2⟩
 go_wp2
 go_ret2
 exact ⟨rfl,gtr hb hb2⟩
end
section
open Go.RowKit
structure Touch (F:Nat→Prop) (w w':World):Prop where
 os:w'.os=w.os
 tape:w'.tape=w.tape
 output:w'.output=w.output
 size:w.heap.size≤w'.heap.size
 block : ∀ k,k<w.heap.size → ¬ F k→w'.heap[k]? = w.heap[k]?
theorem Touch.refl (F:Nat→Prop) (w:World):Touch F w w:=⟨rfl,rfl,rfl,Nat.le_refl _,fun _ _ _=>rfl⟩
theorem Touch.trans {F:Nat→Prop} {a b c:World} (h:Touch F a b) (k:Touch F b c):Touch F a c :=
 ⟨k.os.trans h.os,k.tape.trans h.tape,k.output.trans h.output,Nat.le_trans h.size k.size,fun i hi hn=>(k.block i (zV hi h.size) hn).trans (h.block i hi hn)⟩
theorem Touch.mono {F G:Nat→Prop} {a b:World} (h:Touch F a b) (hF : ∀ k,F k→G k):Touch G a b:=⟨h.os,h.tape,h.output,h.size,fun i hi hn=>h.block i hi fun hf=>hn (hF i hf)⟩
theorem Touch.then {F G:Nat→Prop} {a b c:World} (h:Touch F a b) (k:Touch G b c) (hG : ∀ i,G i→F i∨a.heap.size≤i):Touch F a c :=
 ⟨k.os.trans h.os,k.tape.trans h.tape,k.output.trans h.output,Nat.le_trans h.size k.size,fun i hi hn=>(k.block i (zV hi h.size) fun hg=>(hG i hg).elim hn (fun hl=>Nat.lt_irrefl _ (zV hi hl))).trans (h.block i hi hn)⟩
theorem Touch.ah {F:Nat→Prop} {a b:World} (h:Below a.heap.size a b):Touch F a b:=⟨h.os,h.tape,h.output,h.size,fun i hi _=>h.block i hi⟩
theorem Touch.below {F:Nat→Prop} {a b:World} (h:Touch F a b) {B:Nat} (hB:B≤a.heap.size) (hF : ∀ i,i<B → ¬ F i):Below B a b:=⟨h.os,h.tape,h.output,h.size,fun i hi=>h.block i (zV hi hB) (hF i hi)⟩
theorem Touch.set {F:Nat→Prop} {a b:World} (h:Touch F a b) (c i:Nat) (v:Value) (hc:F c):Touch F a (b.setCell ⟨c,i,none⟩ v) :=
 ⟨h.os,h.tape,h.output,by rw [World.size_setCell];exact h.size,fun k hk hn=>(heap_setCell_other _ _ _ _ (fun e=>hn (by rw [e];exact hc))).trans (h.block k hk hn)⟩
theorem Touch.drew {F:Nat→Prop} {a b:World} (h:Touch F a b):Touch F a b.drew:=h.trans (Touch.ah (au zR))
theorem Touch.drewN {F:Nat→Prop} {a b:World} (h:Touch F a b) (n:Nat):Touch F a (b.drewN n):=h.trans (Touch.ah (aY zR n))
theorem Touch.alloc {F:Nat→Prop} {a b:World} (h:Touch F a b) (o:Obj):Touch F a (b.alloc o):=h.trans (Touch.ah (ae zR o))
theorem Touch.at {F:Nat→Prop} {a b:World} (h:Touch F a b) {k:Nat} {o:Obj} (hk:a.heap[k]? = some o) (hn : ¬ F k):b.heap[k]? = some o:=(h.block k (aP hk) hn).trans hk
theorem Touch.cell {F:Nat→Prop} {a b:World} (h:Touch F a b) (k i:Nat) {v:Value} (hk:a.cell? ⟨k,i,none⟩=some v) (hn : ¬ F k):b.cell? ⟨k,i,none⟩=some v:=by
 have hl:=zL a _ hk
 have:=h.block k hl hn
 unfold World.cell? at hk ⊢
 rw [this];exact hk
theorem az {w:World} {c i:Nat} {cs:Array Value} {t:TypeId} {v:Value} (h:w.heap[c]? = some (.cells cs t (0,0))):(w.setCell ⟨c,i,none⟩ v).heap[c]? = some (.cells (cs.setIfInBounds i v) t (0,0)):=heap_setCell_same _ _ _ _ _ _ h
structure Raw where
 cells:ByteArray
 bq:Bool
 bk:Bool
 w0:Int
 w1:Int
 w2:Int
 w3:Int
 w4:Int
 w5:Int
 w6:Int
 w7:Int
 o0:Int
 o1:Int
 o2:Int
 yv:ByteArray
 dQ:Bool
 en:Bool
 aD:Bool
 aZ:Option Addr
 busy:Value
 op:gF
 ay:Int
 left:Int
 cO:Int
 addr:Int
 mode:Int
 cL:Bool
 data:Value
 told:Int
 now:Int
 beyond:Bool
def Raw.row (s:Raw):Array Value := #[.string s.cells,.bool s.bq,.bool s.bk,.int .i64 s.w0,.int .i64 s.w1,.int .i64 s.w2,.int .i64 s.w3,.int .i64 s.w4,.int .i64 s.w5,.int .i64 s.w6,.int .i64 s.w7,.int .u32 s.o0,.int .i32 s.o1,.int .u32 s.o2,.string s.yv,.bool s.dQ,.bool s.en,.bool s.aD,.pointer s.aZ,s.busy,.int .i64 s.op.byte,.int .i64 s.op.addr,.bool s.op.mode,.int .i64 s.op.dummy,.int .i64 s.op.data,.bool s.op.jB,.int .i64 s.ay,.int .i64 s.left,.int .i64 s.cO,.int .i64 s.addr,.int .i64 s.mode,.bool s.cL,s.data,.int .i64 s.told,.int .i64 s.now,.bool s.beyond]
def aO (c:Nat):Nat→Prop:=fun x=>x=c
def aV (w:World) (c:Nat) (s:Raw):Prop:=w.heap[c]? = some (.cells s.row 131 (0,0))
theorem aV.aH {F:Nat→Prop} {w w':World} {c:Nat} {s:Raw} (h:aV w c s) (ht:Touch F w w') (hn : ¬ F c):aV w' c s:=ht.at h hn
theorem aV.aj {w w':World} {c:Nat} {s:Raw} (h:aV w c s) (ht:Below w.heap.size w w'):aV w' c s:=aa ht h
theorem aV.lt {w:World} {c:Nat} {s:Raw} (h:aV w c s):c<w.heap.size:=aP h
def qY (c:Nat) (s:Raw) (w:World) (e:Ending) (w':World):Prop:=e=.returned (.tuple #[])∧aV w' c s∧Touch (aO c) w w'
def Raw.enter (s:Raw) (st cl:Int):Raw:={ s with ay:=st,left:=cl,cO:=0 }
theorem uh (c:Nat) (s:Raw) (st cl:Int) (w:World) (h:aV w c s):Calls prog 218 #[.pointer (some ⟨c,20,none⟩),.int .i64 st,.int .i64 cl] w (qY c (s.enter st cl) w):=by
 have c26:w.cell? ⟨c,26,none⟩=some (.int .i64 s.ay):=cell_of h 26
 have c27:w.cell? ⟨c,27,none⟩=some (.int .i64 s.left):=cell_of h 27
 have c28:w.cell? ⟨c,28,none⟩=some (.int .i64 s.cO):=cell_of h 28
 have hf:=fun i=>aF h i
 have hfin:aV (((w.setCell ⟨c,26,none⟩ (.int .i64 st)).setCell ⟨c,27,none⟩ (.int .i64 cl)).setCell ⟨c,28,none⟩ (.int .i64 0)) c (s.enter st cl):=az (az (az h))
 have H:=zH hfin
 clear hfin h
 go_enter func218,ntmps218
 go_wp2
 go_end0
 exact ⟨rfl,H.out,(((Touch.refl (aO c) w).set c 26 _ rfl).set c 27 _ rfl).set c 28 _ rfl⟩
structure iE where
 av:Int
 Lq:Int
 data:ByteArray
 left:Int
 hZ:Bool
def iE.row (j:iE):Array Value := #[.int .i64 j.av,.int .i64 j.Lq,.string j.data,.int .i64 j.left,.bool j.hZ]
def jW (w:World) (a:Option Addr) (j:Option iE):Prop :=
 match j with
 | none=>a=none
 | some j => ∃ b,a=some ⟨b,0,none⟩∧w.heap[b]? = some (.cells j.row 192 (0,0))
def eT (j:Option iE):Bool:=match j with | none=>false | some j => !j.hZ
theorem lW (c:Nat) (s:Raw) (j:Option iE) (w:World) (h:aV w c s) (hj:jW w s.aZ j):Calls prog 242 #[.pointer (some ⟨c,0,none⟩)] w (kP (eT j) w):=by
 have c18:w.cell? ⟨c,18,none⟩=some (.pointer s.aZ):=cell_of h 18
 cases j with
 | none =>
  obtain hj:s.aZ=none:=hj
  rw [hj] at c18
  clear h hj
  go_enter func242,ntmps242
  go_wp2
  go_ret
  exact ⟨rfl,rfl⟩
 | some j =>
  obtain ⟨b,hb,hjb⟩:=hj
  rw [hb] at c18
  have d4:w.cell? ⟨b,4,none⟩=some (.bool j.hZ):=cell_of hjb 4
  clear h hjb hb
  go_enter func242,ntmps242
  go_wp2
  go_ret
  exact ⟨rfl,rfl⟩
def Au (r:gF):Prop:=(r.addr=0∨r.addr=1∨r.addr=4)∧(r.data=0∨r.data=1∨r.data=4)∧(r.mode=true→r.addr=4∧r.data=4)∧(r.jB=true→r.data=1)
instance (r:gF):Decidable (Au r):=by unfold Au;infer_instance
theorem rM (b:Int):Au (ak b):=by
 by_cases h : ∀ k ∈ gY,b≠k
 ·
  rw [show ak b=gF.zero by simp [ak,nH b h]];decide
 ·
  simp only [gY,List.mem_cons,List.not_mem_nil,or_false,forall_eq_or_imp,forall_eq,ne_eq] at h
  by_cases h1:b=1;· subst h1;decide
  by_cases h2:b=2;· subst h2;decide
  by_cases h3:b=3;· subst h3;decide
  by_cases h4:b=4;· subst h4;decide
  by_cases h5:b=5;· subst h5;decide
  by_cases h6:b=6;· subst h6;decide
  by_cases h7:b=32;· subst h7;decide
  by_cases h8:b=53;· subst h8;decide
  by_cases h9:b=90;· subst h9;decide
  by_cases h10:b=107;· subst h10;decide
  by_cases h11:b=117;· subst h11;decide
  by_cases h12:b=122;· subst h12;decide
  by_cases h13:b=159;· subst h13;decide
  by_cases h14:b=235;· subst h14;decide
  exact absurd ⟨h1,h2,h3,h4,h5,h6,h7,h8,h9,h10,h11,h12,h13,h14⟩ h
def many (l:Int):Int:=if l=1 then 8 else 2
theorem fR (l:Int) (w:World) (h:l=1∨l=4):Calls prog 204 #[.int .i64 l] w (fun e w'=>e=.returned (.int .i64 (many l))∧w'=w):=by
 rcases h with rfl | rfl
 ·
  go_enter func204,ntmps204
  go_wp2
  go_ret
  exact ⟨rfl,rfl⟩
 ·
  go_enter func204,ntmps204
  go_wp2
  go_ret
  exact ⟨rfl,rfl⟩
def Raw.behind (s:Raw):Raw :=
 if s.op.mode=true∧s.cL=false then s.enter 3 (many s.op.addr)
 else if 0<s.op.dummy∧s.ay≠4 then s.enter 4 s.op.dummy
 else if s.op.data=0 then s.enter 7 0
 else if s.op.jB=true then s.enter 5 (many s.op.data)
 else s.enter 6 0
theorem q9 (c:Nat) (s:Raw) (w:World) (h:aV w c s) (ho:Au s.op):Calls prog 219 #[.pointer (some ⟨c,20,none⟩)] w (qY c s.behind w):=by
 have c21:w.cell? ⟨c,21,none⟩=some (.int .i64 s.op.addr):=cell_of h 21
 have c22:w.cell? ⟨c,22,none⟩=some (.bool s.op.mode):=cell_of h 22
 have c23:w.cell? ⟨c,23,none⟩=some (.int .i64 s.op.dummy):=cell_of h 23
 have c24:w.cell? ⟨c,24,none⟩=some (.int .i64 s.op.data):=cell_of h 24
 have c25:w.cell? ⟨c,25,none⟩=some (.bool s.op.jB):=cell_of h 25
 have c26:w.cell? ⟨c,26,none⟩=some (.int .i64 s.ay):=cell_of h 26
 have c31:w.cell? ⟨c,31,none⟩=some (.bool s.cL):=cell_of h 31
 have HO:=zH ho
 have HE:=zH (fun st cl=>uh c s st cl w h)
 have HM1:=zH (fun h=>fR s.op.addr w h)
 have HM2:=zH (fun h=>fR s.op.data w h)
 clear h ho
 go_enter func219,ntmps219
 go_wp2_with (first | (go_at_call 204;refine (HM1.out (.inr (HO.out.2.2.1 (by assumption)).1)).mono ?_;rintro e w1 ⟨rfl,rfl⟩) | (go_at_call 204;refine (HM2.out (.inl (HO.out.2.2.2 (by assumption)))).mono ?_;rintro e w1 ⟨rfl,rfl⟩) | (go_at_call 218;refine (HE.out _ _).mono ?_;rintro e w2 ⟨rfl,h2,t2⟩))
 all_goals
  go_end0
  refine ⟨rfl,?_,t2⟩
  clear HE HM1 HM2 HO t2 c21 c22 c23 c24 c25 c26 c31
  unfold Raw.behind
  simp_all
  try (rw [if_neg (by omega)];exact h2)
def aR (cO x bW:Int):Int:=if bW=1 then cO * 2+x % 2 else cO * 16+x % 16
theorem nA (a b:Nat) (ha:a<9223372036854775808) (hb:b<9223372036854775808):bits .or .i64 (a:Int) (b:Int)=((a ||| b:Nat):Int):=by
 have hlt:a ||| b<2 ^ 63:=Nat.or_lt_two_pow (by omega) (by omega)
 have e:(BitVec.ofInt 64 (a:Int) ||| BitVec.ofInt 64 (b:Int)).toNat=a ||| b:=by
  rw [BitVec.toNat_or,BitVec.toNat_ofInt,BitVec.toNat_ofInt]
  have e1:((a:Int) % ((2 ^ 64:Nat):Int)).toNat=a:=by rw [Int.emod_eq_of_lt (by omega) (by have:(2:Nat)^64=18446744073709551616:=(by decide);omega)];simp
  have e2:((b:Int) % ((2 ^ 64:Nat):Int)).toNat=b:=by rw [Int.emod_eq_of_lt (by omega) (by have:(2:Nat)^64=18446744073709551616:=(by decide);omega)];simp
  rw [e1,e2]
 show IntKind.i64.wrap ((BitVec.ofInt 64 (a:Int) ||| BitVec.ofInt 64 (b:Int)).toNat:Int)=_
 rw [e]
 have:(2:Nat) ^ 63=9223372036854775808:=by decide
 exact du (by omega) (by omega)
theorem AW (g x:Int) (j:Nat) (hj:j=1∨j=4) (h0:0≤g) (h1:g<4294967296) (hx:0≤x) (hx1:x<(2 ^ j:Nat)):bits .or .i64 (g * (2 ^ j:Nat)) x=g * (2 ^ j:Nat)+x:=by
 obtain ⟨a,rfl⟩:=Int.eq_ofNat_of_zero_le h0
 obtain ⟨b,rfl⟩:=Int.eq_ofNat_of_zero_le hx
 have hb:b<2 ^ j:=by exact_mod_cast hx1
 have ha:a<4294967296:=by omega
 have hp:(2:Nat) ^ j≤16:=by rcases hj with rfl | rfl <;> decide
 have hm:a * 2 ^ j≤4294967296 * 16:=Nat.mul_le_mul (by omega) hp
 have e:a * 2 ^ j ||| b=a * 2 ^ j+b:=by
  rw [Nat.mul_comm,Nat.two_pow_add_eq_or_of_lt hb]
 have:=nA (a * 2 ^ j) b (by omega) (by omega)
 rw [e] at this
 push_cast at this ⊢
 exact this
theorem jV (c:Nat) (s:Raw) (x bW:Int) (w:World) (h:aV w c s) (hl:bW=1∨bW=4) (hg0:0≤s.cO) (hg1:s.cO<4294967296) (hx0:0≤x) (hx1:x≤15) (h0:0≤s.left) (h1:s.left≤4294967296):Calls prog 243 #[.pointer (some ⟨c,20,none⟩),.int .i64 x,.int .i64 bW] w fun e w'=>e=.returned (.bool (decide (s.left - 1=0)))∧aV w' c { s with cO:=aR s.cO x bW,left:=s.left - 1 }∧Touch (aO c) w w':=by
 have h2:aV w.drew c s:=h
 have t2:Touch (aO c) w w.drew:=(Touch.refl _ w).drew
 have c28:w.cell? ⟨c,28,none⟩=some (.int .i64 s.cO):=cell_of h 28
 clear h
 rcases hl with rfl | rfl
 ·
  have e1:bits .and .i64 x 1=x % 2:=Gq x
  have e2:bits .or .i64 (s.cO * 2) (x % 2)=aR s.cO x 1:=AW s.cO (x % 2) 1 (by decide) hg0 hg1 (by omega) (by have:=Int.emod_lt_of_pos x (show (0:Int)<2 by decide);exact this)
  generalize aR s.cO x 1=g at *
  go_enter func243,ntmps243
  go_wp2_with fail
  go_still_tail 13,(by kernel_rfl)
  change wpList _ _ _ _ _ w.drew
  generalize w.drew=w2 at *
  have c27:w2.cell? ⟨c,27,none⟩=some (.int .i64 s.left):=cell_of h2 27
  have c28:w2.cell? ⟨c,28,none⟩=some (.int .i64 s.cO):=cell_of h2 28
  have hf:=fun i=>aF h2 i
  have hfin:aV ((w2.setCell ⟨c,28,none⟩ (.int .i64 g)).setCell ⟨c,27,none⟩ (.int .i64 (s.left - 1))) c { s with cO:=g,left:=s.left - 1 }:=az (az h2)
  have H:=zH hfin
  clear hfin h2
  go_wp2
  go_ret
  exact ⟨rfl,H.out,(t2.set c 28 _ rfl).set c 27 _ rfl⟩
 ·
  have e1:bits .and .i64 x 15=x % 16:=BH x
  have e2:bits .or .i64 (s.cO * 16) (x % 16)=aR s.cO x 4:=AW s.cO (x % 16) 4 (by decide) hg0 hg1 (by omega) (by have:=Int.emod_lt_of_pos x (show (0:Int)<16 by decide);exact this)
  generalize aR s.cO x 4=g at *
  go_enter func243,ntmps243
  go_wp2_with fail
  go_still_tail 13,(by kernel_rfl)
  change wpList _ _ _ _ _ w.drew
  generalize w.drew=w2 at *
  have c27:w2.cell? ⟨c,27,none⟩=some (.int .i64 s.left):=cell_of h2 27
  have c28:w2.cell? ⟨c,28,none⟩=some (.int .i64 s.cO):=cell_of h2 28
  have hf:=fun i=>aF h2 i
  have hfin:aV ((w2.setCell ⟨c,28,none⟩ (.int .i64 g)).setCell ⟨c,27,none⟩ (.int .i64 (s.left - 1))) c { s with cO:=g,left:=s.left - 1 }:=az (az h2)
  have H:=zH hfin
  clear hfin h2
  go_wp2
  go_ret
  exact ⟨rfl,H.out,(t2.set c 28 _ rfl).set c 27 _ rfl⟩
end
end Go.Proofs.YtcfdenckiigdaaaGreat

/- Part 28 of the contracts. -/
import Derived.Test.YtcfdenckiigdaaaGreatFl27
set_option linter.unusedVariables false
set_option maxRecDepth 100000
set_option maxHeartbeats 4000000
namespace Go.Proofs.YtcfdenckiigdaaaGreat
open Tryz
section
open Go.RowKit
def gP (ps:List aK) (k:ByteArray):Option ByteArray:=match ps.find? fun p=>decide (p.key=k) with | some p=>some p.value | none=>none
def Fg (k:ByteArray) (ps:List aK) (i:Nat):Prop := ∃ hi:i<ps.length,ps[i].key=k ∧ ∀ j (hj:j<ps.length),j<i→ps[j].key≠k
theorem wR {k:ByteArray} {ps:List aK} {i:Nat} (h:Fg k ps i):gP ps k=some (ps[i]'h.1).value:=by
 obtain ⟨hi,hk,hj⟩:=h
 have:ps.find? (fun p=>decide (p.key=k))=some ps[i]:=List.find?_eq_some_iff_getElem.2 ⟨decide_eq_true hk,i,hi,rfl,fun j hji=>by simpa using hj j (by omega) hji⟩
 unfold gP
 rw [this]
theorem FA {k:ByteArray} {ps:List aK} (h : ∀ j (hj:j<ps.length),ps[j].key≠k):gP ps k=none:=by
 have:ps.find? (fun p=>decide (p.key=k))=none:=List.find?_eq_none.2 fun p hp=>by
  obtain ⟨j,hj,rfl⟩:=List.getElem_of_mem hp
  simpa using h j hj
 unfold gP
 rw [this]
theorem u6 (v:Value) (ps:List aK) (k:ByteArray) (kb:Nat) (w:World) (h:aT w v ps.length 2 (aE ps)) (hk:w.cell? ⟨kb,0,none⟩=some (.string k)) (hn:ps.length≤1000):Calls prog 136 #[v,.func (.func 137) #[] #[.pointer (some ⟨kb,0,none⟩)]] w fun e w' => ∃ x:Int,e=.returned (.int .i64 x)∧Below w.heap.size w w'∧((∃ i:Nat,x=i∧Fg k ps i)∨(x = -1 ∧ ∀ j (hj:j<ps.length),ps[j].key≠k)):=by
 have HF:=zH (fun a b w h=>B4 a b k kb w h)
 have HK:=zH (fun (w':World) (hb:Below w.heap.size w w')=>(hb.cell (p:=⟨kb,0,none⟩) (zL w _ hk)).trans hk)
 have H:=zH h
 have HX:=zH (fun i (hi:i<ps.length)=>dF ps i hi)
 obtain ⟨a,c,rfl⟩:=h.slice
 clear h hk
 go_enter func136,ntmps136
 go_wp2
 go_loopg [8] ps.length (fun n i wr => ∃ j:Nat,n=ps.length - j∧i=.int .i64 j∧j≤ps.length∧Below w.heap.size w wr ∧ ∀ q (hq:q<ps.length),q<j→ps[q].key≠k)
 case atStart=>exact ⟨0,rfl,rfl,Nat.zero_le _,Below.refl _ _,fun q _ h=>absurd h (Nat.not_lt_zero _)⟩
 case round =>
  obtain ⟨j,hgn,rfl,hj,hb,hne⟩:=hrel
  have HB:=zH (zA hgn (zA hb hne))
  clear hgn hb hne
  by_cases hlt:j<ps.length
  ·
   have hlt':(j:Int)<(ps.length:Int):=by omega
   obtain ⟨b,o,rfl,hc,hx⟩:=H.out.some (by omega)
   obtain ⟨p0,p1⟩:=HX.out j hlt
   have cc : ∀ i u,(aE ps)[2 * j+i]? = some u→wr.cell? ⟨b,o+j * 2+i,none⟩=some u:=fun i u hu=>by
    have e:=hx _ _ hu
    rw [show o+j * 2+i=o+(2 * j+i) by omega]
    exact (HB.out.2.1.cell (p:=⟨b,o+(2 * j+i),none⟩) (zL w _ e)).trans e
   have c0:wr.cell? ⟨b,o+j * 2,none⟩=some (.string ps[j].key):=cc 0 _ p0
   have c1:wr.cell? ⟨b,o+j * 2+1,none⟩=some (.string ps[j].value):=cc 1 _ p1
   clear p0 p1 cc hx
   go_wp2_with fail
   refine (HF.out _ _ _ (HK.out _ HB.out.2.1)).mono ?_
   rintro e w1 ⟨rfl,hb1⟩
   have HB1:=zH (gtr HB.out.2.1 hb1)
   clear hb1
   rw [js]
   by_cases hkk:ps[j].key=k
   ·
    rw [decide_eq_true hkk]
    have HE:=zH hkk
    clear hkk
    go_wp2
    go_ret
    exact ⟨_,rfl,HB1.out,.inl ⟨j,rfl,hlt,HE.out,HB.out.2.2⟩⟩
   ·
    rw [decide_eq_false hkk]
    have HE:=zH hkk
    clear hkk
    go_wp2
    go_roundg (ps.length - (j+1))
    case measure=>have:=HB.out.1;omega
    case rel =>
     refine ⟨j+1,rfl,by go_num,by omega,HB1.out,fun q hq hl => ?_⟩
     rcases Nat.lt_or_ge q j with h' | h'
     ·
      exact HB.out.2.2 q hq h'
     ·
      obtain rfl:q=j:=by omega
      exact HE.out
  ·
   have hlt' : ¬ (j:Int)<(ps.length:Int):=by omega
   go_wp2
   go_ret
   exact ⟨_,rfl,HB.out.2.1,.inr ⟨rfl,fun q hq=>HB.out.2.2 q hq (by omega)⟩⟩
def Gc (r:Option ByteArray) (w:World) (e:Ending) (w':World):Prop:=e=.returned (.tuple #[.string (r.getD ⟨#[]⟩),.bool r.isSome])∧Below w.heap.size w w'
theorem qa (v:Value) (ps:List aK) (k:ByteArray) (w:World) (h:aT w v ps.length 2 (aE ps)) (hn:ps.length≤1000):Calls prog 95 #[v,.string k] w (Gc (gP ps k) w):=by
 have HI:=zH (u6 v ps k w.heap.size (w.alloc (.cells #[.string k] 9)) (h.aj (ae zR _)) (cell_of (af w _) 0) hn)
 have H:=zH h
 have HX:=zH (fun i (hi:i<ps.length)=>dF ps i hi)
 have HF:=zH (fun i (h:Fg k ps i)=>wR h)
 have HN:=zH (fun (h : ∀ j (hj:j<ps.length),ps[j].key≠k)=>FA h)
 obtain ⟨a,c,rfl⟩:=h.slice
 clear h
 generalize gP ps k=fl at *
 go_enter func95,ntmps95
 go_wp2_with fail
 refine HI.out.mono ?_
 rintro e w1 ⟨x,rfl,hb,hx⟩
 have HB:=zH (gtr (ae (Below.refl _ w) (.cells #[.string k] 9)) hb)
 clear hb HI
 rcases hx with ⟨i,rfl,hi⟩ | ⟨rfl,hno⟩
 ·
  obtain rfl:=HF.out i hi
  obtain ⟨hil,_,_⟩:=hi
  obtain ⟨b,o,rfl,hc,hx⟩:=H.out.some (by omega)
  obtain ⟨_,p1⟩:=HX.out i hil
  have e:=hx _ _ p1
  have c1:w1.cell? ⟨b,o+i * 2+1,none⟩=some (.string ps[i].value):=by
   rw [show o+i * 2+1=o+(2 * i+1) by omega]
   exact (HB.out.cell (p:=⟨b,o+(2 * i+1),none⟩) (zL w _ e)).trans e
  have hlt':(i:Int)<(ps.length:Int):=by omega
  clear hx e p1 HX H
  go_wp2
  go_ret2
  exact ⟨rfl,HB.out⟩
 ·
  obtain rfl:=HN.out hno
  clear hno
  go_wp2
  go_ret2
  exact ⟨rfl,HB.out⟩
end
section
open Go.RowKit
def vI (k v:ByteArray):Bool→List aK→List aK
 | b,[]=>if b=true then [] else [⟨k,v⟩]
 | b,p::r=>(if b=false∧cI p.key k=false then [⟨k,v⟩] else [])++((if p.key=k then [] else [p])++vI k v (b || !cI p.key k) r)
theorem CB {a b:ByteArray} (h:cI a b=false) (e:a≠b):cI b a=true:=by
 cases h2:cI b a with
 | true=>rfl
 | false=>exact absurd (tl h h2) e
theorem Bl (k v:ByteArray) : ∀ ps:List aK,(∀ p ∈ ps,cI k p.key=true)→vI k v true ps=ps
 | [],_=>rfl
 | p::ps,h=>by
  unfold vI
  rw [if_neg (by simp),if_neg (nE (h p (List.mem_cons_self ..))).symm,Bool.true_or,Bl k v ps fun q hq=>h q (List.mem_cons_of_mem _ hq)]
  rfl
theorem F9 (k v:ByteArray) : ∀ ps:List aK,fo ps→vI k v false ps=fS k v ps
 | [],_=>rfl
 | p::ps,h=>by
  obtain ⟨hp,hs⟩:=List.pairwise_cons.1 h
  unfold vI fS
  cases hl:cI p.key k with
  | true =>
   rw [if_neg (by simp),if_neg (nE hl),if_pos rfl]
   show []++([p]++vI k v (false || !true) ps)=_
   rw [show (false || !true)=false from rfl,F9 k v ps hs]
   rfl
  | false =>
   rw [if_pos ⟨rfl,rfl⟩,if_neg (show ¬ (false=true) by decide),show (false || !false)=true from rfl]
   by_cases e:p.key=k
   ·
    rw [if_pos e,if_pos e,Bl k v ps fun q hq=>by have:=hp q hq;rwa [e] at this]
    rfl
   ·
    rw [if_neg e,if_neg e,Bl k v ps fun q hq=>lN (CB hl e) (hp q hq)]
    rfl
end
section
open Go.RowKit
def lJ (w:World) (g:Nat) (a b:Value):World:=(w.setCell ⟨g,0,none⟩ a).setCell ⟨g,1,none⟩ b
theorem dC {N:Nat} {w0 w:World} {g:Nat} (h:Below N w0 w) (hg:N≤g) (a b:Value):Below N w0 (lJ w g a b):=(h.setCell (p:=⟨g,0,none⟩) hg a).setCell (p:=⟨g,1,none⟩) hg b
theorem kc {w:World} {B:Nat} {t:TypeId} {v:Value} {n sz:Nat} {cs:List Value} {g:Nat} (h:w.ownsRow B t sz v n cs) (hn:some g≠v.ownBlock) (a b:Value):(lJ w g a b).ownsRow B t sz v n cs:=eY (eY h hn a) hn b
theorem jU {w:World} {g:Nat} {a0 b0:Value} {t:TypeId} (h:w.heap[g]? = some (.cells #[a0,b0] t (0,0))) (a b:Value):(lJ w g a b).heap[g]? = some (.cells #[a,b] t (0,0)):=by
 have:=az (i:=1) (v:=b) (az (i:=0) (v:=a) h)
 exact this
theorem iu {w:World} {g k:Nat} {o:Obj} (h:w.heap[k]? = some o) (hn:k≠g) (a b:Value):(lJ w g a b).heap[k]? = some o:=by
 unfold lJ
 rw [heap_setCell_other _ _ _ _ hn,heap_setCell_other _ _ _ _ hn]
 exact h
theorem jM {w:World} {g:Nat} {a b:Value} {t:TypeId} (h:w.heap[g]? = some (.cells #[a,b] t (0,0))):w.cell? ⟨g,0,none⟩=some a∧w.cell? ⟨g,1,none⟩=some b ∧ ∀ i,w.frozen? ⟨g,i,none⟩=false:=⟨cell_of h 0,cell_of h 1,fun i=>aF h i⟩
def LY (o:Option ByteArray) (w:World) (e:Ending) (w':World):Prop:=e=.returned (.tuple #[.string (o.getD ⟨#[]⟩),.bool o.isSome])∧Below w.heap.size w w'
theorem xj (bl:Bool) (v:Value) (ps:List aK) (k:ByteArray) (w:World) (h:aT w v ps.length 2 (aE ps)) (hn:ps.length≤1000):Calls prog 38 #[.agg #[.bool bl,v],.string k] w (LY (gP ps k) w):=by
 have H:=zH h
 have HX:=zH (fun i (hi:i<ps.length)=>dF ps i hi)
 obtain ⟨a,c,rfl⟩:=h.slice
 have HG:=zH (zA (ae (Below.refl w.heap.size w) (.cells #[.bool bl,.slice a ps.length c] 61)) (af w (.cells #[.bool bl,.slice a ps.length c] 61)))
 clear h
 go_enter func38,ntmps38
 go_wp2
 go_loopg [6] ps.length (fun n i wr => ∃ j:Nat,n=ps.length - j∧i=.int .i64 j∧j≤ps.length∧wr=w.alloc (.cells #[.bool bl,.slice a ps.length c] 61) ∧ ∀ m (hm:m<ps.length),m<j→ps[m].key≠k)
 case atStart=>exact ⟨0,rfl,rfl,Nat.zero_le _,rfl,fun m _ hm=>absurd hm (Nat.not_lt_zero _)⟩
 case round =>
  obtain ⟨j,hgn,rfl,hj,rfl,hno⟩:=hrel
  have HB:=zH (zA hgn hno)
  clear hgn hno
  have c1:(w.alloc (.cells #[.bool bl,.slice a ps.length c] 61)).cell? ⟨w.heap.size,1,none⟩=some (.slice a ps.length c):=cell_of HG.out.2 1
  by_cases hlt:j<ps.length
  ·
   have hlt':(j:Int)<(ps.length:Int):=by omega
   obtain ⟨b,o,rfl,hc,hx⟩:=H.out.some (by omega)
   obtain ⟨p0,p1⟩:=HX.out j hlt
   have cc : ∀ i u,(aE ps)[2 * j+i]? = some u→(w.alloc (.cells #[.bool bl,.slice (some ⟨b,o,none⟩) ps.length c] 61)).cell? ⟨b,o+j * 2+i,none⟩=some u:=fun i u hu=>by
    have e:=hx _ _ hu
    rw [show o+j * 2+i=o+(2 * j+i) by omega]
    exact (HG.out.1.cell (p:=⟨b,o+(2 * j+i),none⟩) (zL w _ e)).trans e
   have d0:(w.alloc (.cells #[.bool bl,.slice (some ⟨b,o,none⟩) ps.length c] 61)).cell? ⟨b,o+j * 2,none⟩=some (.string ps[j].key):=cc 0 _ p0
   have d1:(w.alloc (.cells #[.bool bl,.slice (some ⟨b,o,none⟩) ps.length c] 61)).cell? ⟨b,o+j * 2+1,none⟩=some (.string ps[j].value):=cc 1 _ p1
   clear p0 p1 cc hx
   by_cases hk:ps[j].key=k
   ·
    have ek:(ps[j].key.toList == k.toList)=true:=by rw [js,decide_eq_true hk]
    have HF:=zH (show gP ps k=some ps[j].value from wR (k:=k) (ps:=ps) (i:=j) ⟨hlt,hk,fun m hm hmj=>HB.out.2 m hm hmj⟩)
    clear hk
    go_wp2
    go_ret2
    rw [HF.out]
    exact ⟨rfl,HG.out.1⟩
   ·
    have ek:(ps[j].key.toList == k.toList)=false:=by rw [js,decide_eq_false hk]
    have HK:=zH hk
    clear hk
    go_wp2
    go_roundg (ps.length - (j+1))
    case measure=>have:=HB.out.1;omega
    case rel=>exact ⟨j+1,rfl,by go_num,by omega,rfl,fun m hm hmj=>by
     by_cases e:m=j
     ·
      subst e;exact HK.out
     ·
      exact HB.out.2 m hm (by omega)⟩
  ·
   obtain rfl:j=ps.length:=by omega
   have HF:=zH (FA (k:=k) (ps:=ps) fun m hm=>HB.out.2 m hm hm)
   go_wp2
   go_ret2
   rw [HF.out]
   exact ⟨rfl,HG.out.1⟩
def BC (ps:List aK) (w:World) (e:Ending) (w':World):Prop := ∃ v,e=.returned (.agg #[.bool false,v])∧w'.ownsRow w.heap.size 83 2 v ps.length (aE ps)∧Below w.heap.size w w'
theorem jR (ps:List aK) (p:aK):aE (ps++[p])=aE ps++[.string p.key,.string p.value]:=by rw [iB];rfl
theorem Ja (k:ByteArray) (ps:List aK) (j:Nat) (h:j<ps.length):fu k (ps.take (j+1))=if ps[j].key=k then fu k (ps.take j) else fu k (ps.take j)++[ps[j]]:=by
 rw [List.take_succ_eq_append_getElem h]
 unfold fu
 rw [List.filter_append]
 by_cases e:ps[j].key=k
 ·
  rw [if_pos e];simp [e]
 ·
  rw [if_neg e];simp [e]
theorem CI (bl:Bool) (v:Value) (ps:List aK) (k:ByteArray) (w:World) (h:aT w v ps.length 2 (aE ps)) (hn:ps.length≤1000):Calls prog 70 #[.agg #[.bool bl,v],.string k] w (BC (fu k ps) w):=by
 have H:=zH h
 have HX:=zH (fun i (hi:i<ps.length)=>dF ps i hi)
 have HT:=zH (fun j (hj:j<ps.length)=>Ja k ps j hj)
 have HLE:=zH (fun j=>show (fu k (ps.take j)).length≤ps.length from Nat.le_trans (List.length_filter_le _ _) (List.length_take_le' ..))
 obtain ⟨i0,hi,hz0,hz1,hz2⟩:=info_parts jH
 obtain ⟨a,c,rfl⟩:=h.slice
 have hb1:=ae (Below.refl w.heap.size w) (.cells #[.bool bl,.slice a ps.length c] 61)
 have HG:=zH (zA (ae hb1 (.cells #[.bool false,.slice none 0 0] 61)) (zA (aa (ae zR (.cells #[.bool false,.slice none 0 0] 61)) (af w (.cells #[.bool bl,.slice a ps.length c] 61))) (show ((w.alloc (.cells #[.bool bl,.slice a ps.length c] 61)).alloc (.cells #[.bool false,.slice none 0 0] 61)).heap[w.heap.size+1]? = some (.cells #[.bool false,.slice none 0 0] 61 (0,0)) from by simpa using af (w.alloc (.cells #[.bool bl,.slice a ps.length c] 61)) (.cells #[.bool false,.slice none 0 0] 61))))
 have hg1:w.heap.size≤w.heap.size+1:=by omega
 clear h hb1
 go_enter func70,ntmps70
 go_wp2
 go_loopg [5,6] ps.length (fun n x i wr => ∃ j:Nat,n=ps.length - j∧i=.int .i64 j∧j≤ps.length∧Below w.heap.size w wr∧wr.heap[w.heap.size]? = some (.cells #[.bool bl,.slice a ps.length c] 61 (0,0))∧wr.heap[w.heap.size+1]? = some (.cells #[.bool false,.slice none 0 0] 61 (0,0))∧wr.ownsRow w.heap.size 83 2 x (fu k (ps.take j)).length (aE (fu k (ps.take j))))
 case atStart=>exact ⟨0,rfl,rfl,Nat.zero_le _,HG.out.1,HG.out.2.1,HG.out.2.2,zN⟩
 case round =>
  obtain ⟨j,hgn,rfl,hj,hb,hk0,hk1,ho⟩:=hrel
  obtain ⟨xa,xc,rfl⟩:=bF ho
  have HB:=zH (zA hgn (zA hb (zA hk0 (zA hk1 ho))))
  have c1:wr.cell? ⟨w.heap.size,1,none⟩=some (.slice a ps.length c):=cell_of hk0 1
  have hlt1:w.heap.size+1<wr.heap.size:=aP hk1
  clear hgn hb hk0 ho
  by_cases hlt:j<ps.length
  ·
   have hlt':(j:Int)<(ps.length:Int):=by omega
   obtain ⟨b,o,rfl,hc,hx⟩:=H.out.some (by omega)
   obtain ⟨p0,p1⟩:=HX.out j hlt
   have cc : ∀ i u,(aE ps)[2 * j+i]? = some u→wr.cell? ⟨b,o+j * 2+i,none⟩=some u:=fun i u hu=>by
    have e:=hx _ _ hu
    rw [show o+j * 2+i=o+(2 * j+i) by omega]
    exact (HB.out.2.1.cell (p:=⟨b,o+(2 * j+i),none⟩) (zL w _ e)).trans e
   have d0:wr.cell? ⟨b,o+j * 2,none⟩=some (.string ps[j].key):=cc 0 _ p0
   have d1:wr.cell? ⟨b,o+j * 2+1,none⟩=some (.string ps[j].value):=cc 1 _ p1
   have hT:=HT.out j hlt
   clear p0 p1 cc hx hk1
   by_cases hk:ps[j].key=k
   ·
    have ek:(ps[j].key.toList == k.toList)=true:=by rw [js,decide_eq_true hk]
    rw [if_pos hk] at hT
    have HTT:=zH hT
    clear hk hT
    go_wp2
    go_roundg (ps.length - (j+1))
    case measure=>have:=HB.out.1;omega
    case rel=>exact ⟨j+1,rfl,by go_num,by omega,HB.out.2.1,HB.out.2.2.1,HB.out.2.2.2.1,by rw [HTT.out];exact HB.out.2.2.2.2⟩
   ·
    have ek:(ps[j].key.toList == k.toList)=false:=by rw [js,decide_eq_false hk]
    rw [if_neg hk] at hT
    have HTT:=zH hT
    have hle:=HLE.out j
    clear hk hT
    go_wp2_with (at_builtin;refine wpList_append_lies _ rfl _ _ 32 rfl w.heap.size 83 i0 (.agg #[.string ⟨#[]⟩,.string ⟨#[]⟩]) 2 32 underlying32 hi hz0 hz1 hz2 rfl (by decide) (.slice xa (fu k (ps.take j)).length xc) (fu k (ps.take j)).length (aE (fu k (ps.take j))) ?a1 (World.ownsRow.aj HB.out.2.2.2.2 (ae zR _)) ⟨wr.heap.size,0,none⟩ 1 1 [.string ps[j].key,.string ps[j].value] ?a2 rfl ?a3 ?a4 (by decide) ?a5 ?a6 ?a7 _ rfl ?_)
    case a1=>rfl
    case a2=>rfl
    case a3=>exact World.news_of_block (cs := #[.string ps[j].key,.string ps[j].value]) (t:=83) (fr:=(0,0)) (af wr _)
    case a4=>intro u hu;simp only [List.mem_cons,List.not_mem_nil,or_false] at hu;rcases hu with rfl | rfl <;> rfl
    case a5=>simp only [maxLen];omega
    case a6=>omega
    case a7=>have:=HB.out.2.1.size;simp only [World.size_alloc];omega
    intro g4 cap4 w2 how hgr _ _
    have hgr2:=eO (ae (Below.refl wr.heap.size wr) (.cells #[.string ps[j].key,.string ps[j].value] 83)) hgr
    have hown2:w2.ownsRow w.heap.size 83 2 (.slice (some ⟨g4,0,none⟩) ((fu k (ps.take j)).length+1) cap4) (fu k (ps.take (j+1))).length (aE (fu k (ps.take (j+1)))):=by
     rw [HTT.out,List.length_append,jR];exact how
    have k0':w2.heap[w.heap.size]? = some (.cells #[.bool bl,.slice (some ⟨b,o,none⟩) ps.length c] 61 (0,0)):=(hgr2.block _ (aP HB.out.2.2.1) (cP HB.out.2.2.2.2 HB.out.2.2.1 (by decide))).trans HB.out.2.2.1
    have k1':w2.heap[w.heap.size+1]? = some (.cells #[.bool false,.slice none 0 0] 61 (0,0)):=(hgr2.block _ hlt1 (cP HB.out.2.2.2.2 HB.out.2.2.2.1 (by decide))).trans HB.out.2.2.2.1
    have HN:=zH (zA (ja HB.out.2.1 (bQ HB.out.2.2.2.2) hgr2) (zA k0' (zA k1' hown2)))
    clear how hgr hgr2 hown2 k0' k1' c1 d0 d1 hle
    go_wp2
    go_roundg (ps.length - (j+1))
    case measure=>have:=HB.out.1;omega
    case rel=>exact ⟨j+1,rfl,by go_num,by omega,HN.out.1,HN.out.2.1,HN.out.2.2.1,HN.out.2.2.2⟩
  ·
   obtain rfl:j=ps.length:=by omega
   rw [List.take_length] at HB
   obtain ⟨z0,z1,zf⟩:=jM hk1
   have e:=jM (jU hk1 (.bool false) (.slice xa (fu k ps).length xc))
   unfold lJ at e
   obtain ⟨d0,d1,df⟩:=e
   clear hk1
   go_wp2
   refine bodyPost_ret (v:=.agg #[.bool false,.slice xa (fu k ps).length xc]) (by simp [results,results70,go_sem,d0,d1]) rfl ?_
   exact ⟨_,rfl,kc HB.out.2.2.2.2 (cP HB.out.2.2.2.2 HB.out.2.2.2.1 (by decide)) _ _,dC HB.out.2.1 hg1 _ _⟩
structure sW (w wr:World) (bl:Bool) (a:Option Addr) (n c:Nat) (x:Value) (o:List aK):Prop where
 below:Below w.heap.size w wr
 k0:wr.heap[w.heap.size]? = some (.cells #[.bool bl,.slice a n c] 61 (0,0))
 k1:wr.heap[w.heap.size+1]? = some (.cells #[.bool false,.slice none 0 0] 61 (0,0))
 own:wr.ownsRow w.heap.size 83 2 x o.length (aE o)
theorem sJ (k v:ByteArray) : ∀ (ps:List aK) (b:Bool),(vI k v b ps).length≤ps.length+(if b=true then 0 else 1)
 | [],b=>by cases b <;> simp [vI]
 | p::ps,b=>by
  have h1:(if p.key=k then ([]:List aK) else [p]).length≤1:=by split <;> simp
  unfold vI
  rw [List.length_append,List.length_append]
  generalize (if p.key=k then ([]:List aK) else [p])=q at *
  cases b with
  | true =>
   have ih:(vI k v true ps).length≤ps.length+0:=sJ k v ps true
   rw [if_neg (by simp),Bool.true_or]
   show 0+(q.length+(vI k v true ps).length)≤ps.length+1+0
   omega
  | false =>
   cases hl:cI p.key k with
   | true =>
    have ih:(vI k v false ps).length≤ps.length+1:=sJ k v ps false
    rw [if_neg (by simp)]
    show 0+(q.length+(vI k v false ps).length)≤ps.length+1+1
    omega
   | false =>
    have ih:(vI k v true ps).length≤ps.length+0:=sJ k v ps true
    rw [if_pos ⟨rfl,rfl⟩]
    show 1+(q.length+(vI k v true ps).length)≤ps.length+1+1
    omega
theorem F8 (k v:ByteArray) (ps:List aK) (b:Bool):(vI k v b ps).length≤ps.length+1:=by
 have:=sJ k v ps b
 split at this <;> omega
theorem Kk (k v:ByteArray) (b:Bool) (ps:List aK) (j:Nat) (h:j<ps.length):vI k v b (ps.drop j)=(if b=false∧cI ps[j].key k=false then [⟨k,v⟩] else [])++((if ps[j].key=k then [] else [ps[j]])++vI k v (b || !cI ps[j].key k) (ps.drop (j+1))):=by
 rw [List.drop_eq_getElem_cons h]
 rfl
theorem CO (bl:Bool) (u:Value) (ps:List aK) (k v:ByteArray) (w:World) (h:aT w u ps.length 2 (aE ps)) (hn:ps.length≤1000):Calls prog 71 #[.agg #[.bool bl,u],.string k,.string v] w (BC (vI k v false ps) w):=by
 have H:=zH h
 have HX:=zH (fun i (hi:i<ps.length)=>dF ps i hi)
 have HT:=zH (fun b j (hj:j<ps.length)=>Kk k v b ps j hj)
 have HLE:=zH (fun b j=>F8 k v (ps.drop j) b)
 have HLF:=zH (F8 k v ps false)
 obtain ⟨i0,hi,hz0,hz1,hz2⟩:=info_parts jH
 obtain ⟨a,c,rfl⟩:=h.slice
 have hb1:=ae (Below.refl w.heap.size w) (.cells #[.bool bl,.slice a ps.length c] 61)
 have HG:=zH (show sW w ((w.alloc (.cells #[.bool bl,.slice a ps.length c] 61)).alloc (.cells #[.bool false,.slice none 0 0] 61)) bl a ps.length c (.slice none 0 0) [] from ⟨ae hb1 (.cells #[.bool false,.slice none 0 0] 61),aa (ae zR (.cells #[.bool false,.slice none 0 0] 61)) (af w (.cells #[.bool bl,.slice a ps.length c] 61)),by simpa using af (w.alloc (.cells #[.bool bl,.slice a ps.length c] 61)) (.cells #[.bool false,.slice none 0 0] 61),zN⟩)
 have hg1:w.heap.size≤w.heap.size+1:=by omega
 clear h hb1
 go_enter func71,ntmps71
 go_wp2
 go_loopg [7,8,9] ps.length (fun n x y i wr => ∃ (j:Nat) (b:Bool) (o:List aK),n=ps.length - j∧y=.bool b∧i=.int .i64 j∧j≤ps.length∧sW w wr bl a ps.length c x o∧o++vI k v b (ps.drop j)=vI k v false ps)
 case atStart=>exact ⟨0,false,[],rfl,rfl,rfl,Nat.zero_le _,HG.out,rfl⟩
 case round =>
  obtain ⟨j,bo,o,hgn,rfl,rfl,hj,hw,heq⟩:=hrel
  obtain ⟨xa,xc,rfl⟩:=bF hw.own
  have HB:=zH (zA hgn (zA hw heq))
  have c1:wr.cell? ⟨w.heap.size,1,none⟩=some (.slice a ps.length c):=cell_of hw.k0 1
  have hlt1:w.heap.size+1<wr.heap.size:=aP hw.k1
  have hol:o.length+(vI k v bo (ps.drop j)).length≤ps.length+1:=by rw [← List.length_append,heq];exact HLF.out
  clear hgn hw heq
  by_cases hlt:j<ps.length
  ·
   have hlt':(j:Int)<(ps.length:Int):=by omega
   obtain ⟨b,off,rfl,hc,hx⟩:=H.out.some (by omega)
   obtain ⟨p0,p1⟩:=HX.out j hlt
   have cc : ∀ w',Below wr.heap.size wr w' → ∀ i q,(aE ps)[2 * j+i]? = some q→w'.cell? ⟨b,off+j * 2+i,none⟩=some q:=fun w' hb' i q hu=>by
    have e:=hx _ _ hu
    rw [show off+j * 2+i=off+(2 * j+i) by omega]
    exact ((gtr HB.out.2.1.below hb').cell (p:=⟨b,off+(2 * j+i),none⟩) (zL w _ e)).trans e
   have hcw : ∀ w',Below w.heap.size w w'→w'.cell? ⟨b,off+j * 2,none⟩=some (.string ps[j].key)∧w'.cell? ⟨b,off+j * 2+1,none⟩=some (.string ps[j].value):=fun w' hb'=>by
    have e0:=hx _ _ p0
    have e1:=hx _ _ p1
    rw [show off+j * 2=off+(2 * j) by omega,show off+2 * j+1=off+(2 * j+1) by omega]
    exact ⟨(hb'.cell (p:=⟨b,off+2 * j,none⟩) (zL w _ e0)).trans e0,(hb'.cell (p:=⟨b,off+(2 * j+1),none⟩) (zL w _ e1)).trans e1⟩
   have HCW:=zH hcw
   have d0:wr.cell? ⟨b,off+j * 2,none⟩=some (.string ps[j].key):=cc wr zR 0 _ p0
   have hT:=HT.out bo j hlt
   have HOL:=zH hol
   clear p0 p1 cc hx hcw hol
   go_upto_region 6 with fail
   go_cut [28] from 10 to 50 (fun v wx=>v=.bool (!bo && !cI ps[j].key k)∧wr=wx)
   case first =>
    cases bo with
    | true =>
     go_wp2
     go_meet
     exact ⟨rfl,rfl⟩
    | false =>
     obtain ⟨q,hq⟩ : ∃ q,Op.bytesLess ps[j].key.toList k.toList=q:=⟨_,rfl⟩
     have hq2:cI ps[j].key k=q:=hq
     have HQ:=zH hq2
     clear hq2
     go_wp2
     go_meet
     exact ⟨by rw [HQ.out];rfl,rfl⟩
   case rest =>
   obtain ⟨rfl,rfl⟩:=hcut
   go_upto_if 28 with fail
   go_cut [7,8] from 10 to 50 (fun x' y' wx => ∃ o',sW w wx bl (some ⟨b,off,none⟩) ps.length c x' o'∧y'=.bool (bo || !cI ps[j].key k)∧o'=o++(if bo=false∧cI ps[j].key k=false then [⟨k,v⟩] else []))
   case first =>
    cases hc:(!bo && !cI ps[j].key k) with
    | false =>
     go_wp2
     go_meet
     refine ⟨o,HB.out.2.1,?_,?_⟩
     ·
      cases bo with
      | true=>rfl
      | false=>cases hl:cI ps[j].key k with
       | true=>rfl
       | false=>rw [hl] at hc;cases hc
     ·
      rw [if_neg (by rintro ⟨rfl,hl⟩;rw [hl] at hc;cases hc)];simp
    | true =>
      obtain ⟨rfl,hl⟩:bo=false∧cI ps[j].key k=false:=by simpa using hc
      clear hc
      have hob:o.length≤ps.length+1:=by have:=HOL.out;omega
      go_wp2_with (at_builtin;refine wpList_append_lies _ rfl _ _ 32 rfl w.heap.size 83 i0 (.agg #[.string ⟨#[]⟩,.string ⟨#[]⟩]) 2 32 underlying32 hi hz0 hz1 hz2 rfl (by decide) (.slice xa o.length xc) o.length (aE o) ?b1 (World.ownsRow.aj HB.out.2.1.own (ae zR _)) ⟨wr.heap.size,0,none⟩ 1 1 [.string k,.string v] ?b2 rfl ?b3 ?b4 (by decide) ?b5 ?b6 ?b7 _ rfl ?_)
      case b4=>first | (intro u hu;simp only [List.mem_cons,List.not_mem_nil,or_false] at hu;rcases hu with rfl | rfl <;> rfl) | exact ⟨rfl,rfl⟩
      case b5=>first | (simp only [maxLen];omega) | omega
      case b6=>omega
      case b7=>(have:=HB.out.2.1.below.size;first | omega | (simp only [World.size_alloc];omega))
      intro g4 cap4 w2 how hgr _ _
      have hgr2:=eO (ae (Below.refl wr.heap.size wr) (.cells #[.string k,.string v] 83)) hgr
      have hown2:w2.ownsRow w.heap.size 83 2 (.slice (some ⟨g4,0,none⟩) (o.length+1) cap4) (o++[(⟨k,v⟩:aK)]).length (aE (o++[⟨k,v⟩])):=by
       rw [List.length_append,jR];exact how
      have k0':w2.heap[w.heap.size]? = some (.cells #[.bool bl,.slice (some ⟨b,off,none⟩) ps.length c] 61 (0,0)):=(hgr2.block _ (aP HB.out.2.1.k0) (cP HB.out.2.1.own HB.out.2.1.k0 (by decide))).trans HB.out.2.1.k0
      have k1':w2.heap[w.heap.size+1]? = some (.cells #[.bool false,.slice none 0 0] 61 (0,0)):=(hgr2.block _ (aP HB.out.2.1.k1) (cP HB.out.2.1.own HB.out.2.1.k1 (by decide))).trans HB.out.2.1.k1
      have HN:=zH (show sW w w2 bl (some ⟨b,off,none⟩) ps.length c (.slice (some ⟨g4,0,none⟩) (o.length+1) cap4) (o++[⟨k,v⟩]) from ⟨ja HB.out.2.1.below (bQ HB.out.2.1.own) hgr2,k0',k1',hown2⟩)
      clear how hgr hgr2 hown2 k0' k1'
      go_wp2
      go_meet
      refine ⟨_,HN.out,?_,?_⟩
      ·
       first | trivial | (rw [hl];rfl)
      ·
       rw [if_pos (show _∧_ from ⟨by first | trivial | rfl,hl⟩)]
   case rest =>
    obtain ⟨o',hw',rfl,ho'⟩:=hcut
    obtain ⟨xa',xc',rfl⟩:=bF hw'.own
    have HB2:=zH (zA hw' ho')
    obtain ⟨d0',d1'⟩:=HCW.out wc hw'.below
    have c1':wc.cell? ⟨w.heap.size,1,none⟩=some (.slice (some ⟨b,off,none⟩) ps.length c):=cell_of hw'.k0 1
    have hlt2:w.heap.size+1<wc.heap.size:=aP hw'.k1
    clear hw' ho' d0 c1 hlt1
    by_cases hk:ps[j].key=k
    ·
     have ek:(ps[j].key.toList == k.toList)=true:=by rw [js,decide_eq_true hk]
     rw [if_pos hk] at hT
     have HTT:=zH hT
     clear hk hT
     go_wp2
     go_roundg (ps.length - (j+1))
     case measure=>have:=HB.out.1;omega
     case rel=>exact ⟨j+1,_,o',rfl,rfl,by go_num,by omega,HB2.out.1,by rw [← HB.out.2.2,HTT.out,HB2.out.2];simp⟩
    ·
     have ek:(ps[j].key.toList == k.toList)=false:=by rw [js,decide_eq_false hk]
     rw [if_neg hk] at hT
     have HTT:=zH hT
     have hob:o'.length≤ps.length+1:=by have:=HOL.out;rw [HTT.out] at this;rw [HB2.out.2];simp only [List.length_append] at this ⊢;omega
     clear hk hT
     go_wp2_with (at_builtin;refine wpList_append_lies _ rfl _ _ 32 rfl w.heap.size 83 i0 (.agg #[.string ⟨#[]⟩,.string ⟨#[]⟩]) 2 32 underlying32 hi hz0 hz1 hz2 rfl (by decide) (.slice xa' o'.length xc') o'.length (aE o') ?d1 (World.ownsRow.aj HB2.out.1.own (ae zR _)) ⟨wc.heap.size,0,none⟩ 1 1 [.string ps[j].key,.string ps[j].value] ?d2 rfl ?d3 ?d4 (by decide) ?d5 ?d6 ?d7 _ rfl ?_)
     case d1=>rfl
     case d2=>rfl
     case d3=>exact World.news_of_block (cs := #[.string ps[j].key,.string ps[j].value]) (t:=83) (fr:=(0,0)) (af wc _)
     case d4=>first | (intro u hu;simp only [List.mem_cons,List.not_mem_nil,or_false] at hu;rcases hu with rfl | rfl <;> rfl) | exact ⟨rfl,rfl⟩
     case d5=>first | (simp only [maxLen];omega) | omega
     case d6=>omega
     case d7=>(have:=HB2.out.1.below.size;first | omega | (simp only [World.size_alloc];omega))
     intro g4 cap4 w2 how hgr _ _
     have hgr2:=eO (ae (Below.refl wc.heap.size wc) (.cells #[.string ps[j].key,.string ps[j].value] 83)) hgr
     have hown2:w2.ownsRow w.heap.size 83 2 (.slice (some ⟨g4,0,none⟩) (o'.length+1) cap4) (o'++[(⟨ps[j].key,ps[j].value⟩:aK)]).length (aE (o'++[⟨ps[j].key,ps[j].value⟩])):=by
      rw [List.length_append,jR];exact how
     have k0':w2.heap[w.heap.size]? = some (.cells #[.bool bl,.slice (some ⟨b,off,none⟩) ps.length c] 61 (0,0)):=(hgr2.block _ (aP HB2.out.1.k0) (cP HB2.out.1.own HB2.out.1.k0 (by decide))).trans HB2.out.1.k0
     have k1':w2.heap[w.heap.size+1]? = some (.cells #[.bool false,.slice none 0 0] 61 (0,0)):=(hgr2.block _ (aP HB2.out.1.k1) (cP HB2.out.1.own HB2.out.1.k1 (by decide))).trans HB2.out.1.k1
     have HN:=zH (show sW w w2 bl (some ⟨b,off,none⟩) ps.length c (.slice (some ⟨g4,0,none⟩) (o'.length+1) cap4) (o'++[⟨ps[j].key,ps[j].value⟩]) from ⟨ja HB2.out.1.below (bQ HB2.out.1.own) hgr2,k0',k1',hown2⟩)
     clear how hgr hgr2 hown2 k0' k1'
     clear d0' d1' c1' hlt2 hob
     go_wp2
     go_roundg (ps.length - (j+1))
     case measure=>have:=HB.out.1;omega
     case rel=>exact ⟨j+1,_,_,rfl,rfl,by go_num,by omega,HN.out,by rw [← HB.out.2.2,HTT.out,HB2.out.2];simp⟩
  ·
   obtain rfl:j=ps.length:=by omega
   rw [List.drop_length] at HB
   cases bo with
   | true =>
    obtain ⟨z0,z1,zf⟩:=jM HB.out.2.1.k1
    have e:=jM (jU HB.out.2.1.k1 (.bool false) (.slice xa o.length xc))
    unfold lJ at e
    obtain ⟨d0,d1,df⟩:=e
    go_wp2
    refine bodyPost_ret (v:=.agg #[.bool false,.slice xa o.length xc]) (by simp [results,results71,go_sem,d0,d1]) rfl ?_
    have e:=HB.out.2.2
    rw [show vI k v true []=[] from rfl,List.append_nil] at e
    rw [← e]
    exact ⟨_,rfl,kc HB.out.2.1.own (cP HB.out.2.1.own HB.out.2.1.k1 (by decide)) _ _,dC HB.out.2.1.below hg1 _ _⟩
   | false =>
    have hob:o.length≤ps.length+1:=by omega
    go_wp2_with (at_builtin;refine wpList_append_lies _ rfl _ _ 32 rfl w.heap.size 83 i0 (.agg #[.string ⟨#[]⟩,.string ⟨#[]⟩]) 2 32 underlying32 hi hz0 hz1 hz2 rfl (by decide) (.slice xa o.length xc) o.length (aE o) ?e1 (World.ownsRow.aj HB.out.2.1.own (ae zR _)) ⟨wr.heap.size,0,none⟩ 1 1 [.string k,.string v] ?e2 rfl ?e3 ?e4 (by decide) ?e5 ?e6 ?e7 _ rfl ?_)
    case e1=>rfl
    case e2=>rfl
    case e3=>exact World.news_of_block (cs := #[.string k,.string v]) (t:=83) (fr:=(0,0)) (af wr _)
    case e4=>first | (intro u hu;simp only [List.mem_cons,List.not_mem_nil,or_false] at hu;rcases hu with rfl | rfl <;> rfl) | exact ⟨rfl,rfl⟩
    case e5=>first | (simp only [maxLen];omega) | omega
    case e6=>omega
    case e7=>(have:=HB.out.2.1.below.size;first | omega | (simp only [World.size_alloc];omega))
    intro g4 cap4 w2 how hgr _ _
    have hgr2:=eO (ae (Below.refl wr.heap.size wr) (.cells #[.string k,.string v] 83)) hgr
    have hown2:w2.ownsRow w.heap.size 83 2 (.slice (some ⟨g4,0,none⟩) (o.length+1) cap4) (o++[(⟨k,v⟩:aK)]).length (aE (o++[⟨k,v⟩])):=by
     rw [List.length_append,jR];exact how
    have k0':w2.heap[w.heap.size]? = some (.cells #[.bool bl,.slice a ps.length c] 61 (0,0)):=(hgr2.block _ (aP HB.out.2.1.k0) (cP HB.out.2.1.own HB.out.2.1.k0 (by decide))).trans HB.out.2.1.k0
    have k1':w2.heap[w.heap.size+1]? = some (.cells #[.bool false,.slice none 0 0] 61 (0,0)):=(hgr2.block _ (aP HB.out.2.1.k1) (cP HB.out.2.1.own HB.out.2.1.k1 (by decide))).trans HB.out.2.1.k1
    have HN:=zH (show sW w w2 bl a ps.length c (.slice (some ⟨g4,0,none⟩) (o.length+1) cap4) (o++[⟨k,v⟩]) from ⟨ja HB.out.2.1.below (bQ HB.out.2.1.own) hgr2,k0',k1',hown2⟩)
    clear how hgr hgr2 hown2 k0' k1'
    clear c1 hlt1
    have HEQ:=zH (show o++[⟨k,v⟩]=vI k v false ps from HB.out.2.2)
    obtain ⟨z0,z1,zf⟩:=jM HN.out.k1
    have e:=jM (jU HN.out.k1 (.bool false) (.slice (some ⟨g4,0,none⟩) (o.length+1) cap4))
    unfold lJ at e
    obtain ⟨d0,d1,df⟩:=e
    go_wp2
    refine bodyPost_ret (v:=.agg #[.bool false,.slice (some ⟨g4,0,none⟩) (o.length+1) cap4]) (by simp [results,results71,go_sem,d0,d1]) rfl ?_
    rw [← HEQ.out]
    refine ⟨_,?_,kc HN.out.own (cP HN.out.own HN.out.k1 (by decide)) _ _,dC HN.out.below hg1 _ _⟩
    rfl
end
end Go.Proofs.YtcfdenckiigdaaaGreat

/- Part 22 of the contracts. -/
import Derived.Test.YtcfdenckiigdaaaGreatRd21
set_option linter.unusedVariables false
set_option maxRecDepth 100000
set_option maxHeartbeats 4000000
namespace Go.Proofs.YtcfdenckiigdaaaGreat
open Tryz Go.RowKit
section
open Go.RowKit Go.ChangeMaps
def hasB (s:ByteArray) (c:UInt8):Bool:=decide (0≤Lib.indexByte s.data.toList c)
def qQ (x:cG):List (UInt8×Bool):=[(107,!x.key.toList.isEmpty),(118,!x.value.toList.isEmpty),(114,decide (0<x.reads.length)),(98,x.at_ != 0 || x.width != 0),(108,x.cj != 0 || decide (0<x.busy.length))]
def oP (x:cG):Bool:=(qQ x).all fun p => !p.2 || hasB (lp x.kind) p.1
def kx (x:cG) (i:Nat):UInt8×Bool:=if i=6 then (107,!x.key.toList.isEmpty) else if i=12 then (118,!x.value.toList.isEmpty) else if i=19 then (114,decide (0<x.reads.length)) else if i=32 then (98,x.at_ != 0 || x.width != 0) else (108,x.cj != 0 || decide (0<x.busy.length))
def te:List Nat:=[6,12,19,32,46]
theorem jH {i:Nat} (h:i ∈ te):i=6∨i=12∨i=19∨i=32∨i=46:=by simpa [te] using h
theorem Nr (x:cG) {i j:Nat} (hi:i ∈ te) (hj:j ∈ te) (e:(kx x i).1=(kx x j).1):i=j:=by
 rcases jH hi with rfl | rfl | rfl | rfl | rfl <;> rcases jH hj with rfl | rfl | rfl | rfl | rfl <;> first | rfl | (simp [kx] at e)
theorem LV (x:cG):qQ x=te.map (kx x):=rfl
structure og (x:cG) (w:World) (g:Nat) (done:List Nat) (wr:World):Prop where
 map:pZ wr g (done.map (kx x))
 below:Below w.heap.size w wr
 lt:g<wr.heap.size
 sub : ∀ i ∈ done,i ∈ te
theorem Cz {P:Program} {mty kt et:TypeId} (hm:P.underlying mty=some (.map kt et)) (hk:P.underlying kt=some .string) {x:cG} {w wr:World} {g:Nat} {done:List Nat} (h:og x w g done wr) (hg:w.heap.size≤g) {i:Nat} (hi:i ∈ te) (hn:i ∉ done) {a:Act} {o:Oper} {m k v:Operand} (ho:o.op=.insert mty m k v) (h1:a.eval m=.map (some g)) (h2:a.eval k=.string ⟨#[(kx x i).1]⟩) (h3:a.eval v=.bool (kx x i).2) : ∃ w',(execOp a.eval o).run P wr=.ok .skip w'∧og x w g (done++[i]) w':=by
 obtain ⟨w',e,h4,h5⟩:=h.map.insert hm hk (kx x i) (fun hmem=>by
  obtain ⟨q,hq,e⟩:=List.mem_map.1 hmem
  obtain ⟨j,hj,rfl⟩:=List.mem_map.1 hq
  rw [Nr x (h.sub j hj) hi e] at hj
  exact hn hj)
 have hb:=h5 _ _ h.below hg
 have hsz:=(h5 wr.heap.size wr zR)
 refine ⟨w',?_,⟨by rw [List.map_append];exact h4,hb,?_,fun j hj => ?_⟩⟩
 ·
  unfold execOp
  simp only [ho,h1,h2,h3,Sem.run_bind,e,Result.andThen]
  rfl
 ·
  obtain ⟨es,hes,_⟩:=h4.ex
  exact (Array.getElem?_eq_some_iff.1 hes).1
 ·
  rcases List.mem_append.1 hj with h | h'
  ·
   exact og.sub ‹_› j h
  ·
   rw [List.mem_singleton.1 h'];exact hi
theorem cm {P:Program} {mty kt et:TypeId} (hm:P.underlying mty=some (.map kt et)) (hk:P.underlying kt=some .string) {x:cG} {w wr:World} {g:Nat} {done:List Nat} (h:og x w g done wr) (hg:w.heap.size≤g) {i:Nat} (hi:i ∈ te) (hn:i ∉ done) {a:Act} {o:Oper} {m k v:Operand} (ho:o.op=.insert mty m k v) (h1:a.eval m=.map (some g)) (h2:a.eval k=.string ⟨#[(kx x i).1]⟩) (h3:a.eval v=.bool (kx x i).2) {S:World→Prop} (hS : ∀ w',Below w.heap.size w w'→S w') : ∃ w',(execOp a.eval o).run P wr=.ok .skip w'∧og x w g (done++[i]) w'∧S w':=by
 obtain ⟨w',e1,e2⟩:=Cz hm hk h hg hi hn ho h1 h2 h3
 exact ⟨w',e1,e2,hS _ e2.below⟩
theorem vE {x:cG} {w wr:World} {g:Nat} {done:List Nat} (h:og x w g done wr) (hall : ∀ i ∈ te,i ∈ done) : ∃ ps,pZ wr g ps∧(∀ q,q ∈ ps ↔ q ∈ qQ x)∧Below w.heap.size w wr∧g<wr.heap.size:=by
 refine ⟨_,h.map,fun q => ?_,h.below,h.lt⟩
 rw [LV,List.mem_map,List.mem_map]
 exact ⟨fun ⟨i,hi,e⟩=>⟨i,h.sub i hi,e⟩,fun ⟨i,hi,e⟩=>⟨i,hall i hi,e⟩⟩
theorem pK (x:cG) (w:World) {W:World} (hb:Below w.heap.size w W):og x w W.heap.size [] (W.alloc (.map #[] 0)) :=
 ⟨⟨⟨#[],by show (W.heap.push _)[W.heap.size]? = _;simp,MapKept.stamped_empty 0,rfl⟩⟩,hb.trans ((Below.refl _ _).alloc zY _ |>.mono hb.size),by show _<(W.heap.push _).size;simp,fun _ h=>by cases h⟩
def MP (T:ByteArray) (e:MapEntry):Prop := ∀ p:UInt8×Bool,e.key=.string ⟨#[p.1]⟩→e.val=.bool p.2→(!p.2 || hasB T p.1)=true
theorem JP {x:cG} {es:Array MapEntry} {ps:List (UInt8×Bool)} {seen:Array Nat} (hes:es.toList.map (fun e=>(e.key,e.val))=ps.map fun p=>(Value.string ⟨#[p.1]⟩,Value.bool p.2)) (hps : ∀ q,q ∈ ps ↔ q ∈ qQ x) (hs : ∀ e ∈ es.toList,seen.contains e.born=true→MP (lp x.kind) e) (h0:(leftOf es seen).size=0):oP x=true:=by
 unfold oP
 rw [List.all_eq_true]
 intro q hq
 have:(Value.string ⟨#[q.1]⟩,Value.bool q.2) ∈ ps.map fun p=>(Value.string ⟨#[p.1]⟩,Value.bool p.2):=List.mem_map.2 ⟨q,(hps q).2 hq,rfl⟩
 rw [← hes] at this
 obtain ⟨e,he,h1⟩:=List.mem_map.1 this
 simp only [Prod.mk.injEq] at h1
 refine hs e he ?_ q h1.1 h1.2
 cases hc:seen.contains e.born with
 | true=>rfl
 | false =>
  exfalso
  have hm:e ∈ leftOf es seen:=Array.mem_filter.2 ⟨by simpa using he,by rw [hc];rfl⟩
  rw [Array.eq_empty_of_size_eq_zero h0] at hm
  simp at hm
theorem Lv {x:cG} {p:UInt8×Bool} (hp:p ∈ qQ x) (h1:p.2=true) (h2:hasB (lp x.kind) p.1=false):oP x=false:=by
 unfold oP
 rw [List.all_eq_false]
 exact ⟨p,hp,by rw [h1,h2];decide⟩
theorem LM {T:ByteArray} {es:Array MapEntry} {seen:Array Nat} (hs : ∀ e ∈ es.toList,seen.contains e.born=true→MP T e) (hn:(es.toList.map (·.born)).Nodup) {e:MapEntry} (he:e ∈ es.toList) (ho:MP T e) : ∀ e' ∈ es.toList,(seen.push e.born).contains e'.born=true→MP T e':=fun e' he' hc=>by
 rw [contains_push,Bool.or_eq_true] at hc
 rcases hc with hc | hc
 ·
  exact hs e' he' hc
 ·
  have h1:=find_born e es.toList hn he
  have h2:=find_born e' es.toList hn he'
  rw [beq_iff_eq.1 hc,h1] at h2
  obtain rfl:e=e':=by simpa using h2
  exact ho
theorem MF {T:ByteArray} {e:MapEntry} {p:UInt8×Bool} (h1:e.key=.string ⟨#[p.1]⟩) (h2:e.val=.bool p.2) (h:(!p.2 || hasB T p.1)=true):MP T e:=fun q h3 h4=>by
 rw [h1] at h3
 rw [h2] at h4
 simp only [Value.string.injEq,ByteArray.mk.injEq,Array.mk.injEq,List.cons.injEq,and_true] at h3
 simp only [Value.bool.injEq] at h4
 rw [← h3,← h4]
 exact h
theorem BX {N:Nat} {w0 w:World} (h:Below N w0 w) {r:Nat} (hr:N≤r) (o:Obj):Below N w0 (setBlock w r o) :=
 ⟨h.os,h.tape,h.output,by show _≤(w.heap.setIfInBounds r o).size;rw [Array.size_setIfInBounds];exact h.size,fun k hk=>by
  show (w.heap.setIfInBounds r o)[k]? = _
  rw [Array.getElem?_setIfInBounds_ne (by omega)]
  exact h.block k hk⟩
theorem Jf {w:World} {r:Nat} {o o':Obj} (h:w.heap[r]? = some o):(setBlock w r o').heap[r]? = some o':=by
 show (w.heap.setIfInBounds r o')[r]? = _
 rw [Array.getElem?_setIfInBounds,if_pos rfl,if_pos (Array.getElem?_eq_some_iff.1 h).1]
theorem Jg {w:World} {r g:Nat} (hne:r≠g) (o':Obj):(setBlock w r o').heap[g]? = w.heap[g]? := by
 show (w.heap.setIfInBounds r o')[g]? = _
 rw [Array.getElem?_setIfInBounds_ne hne]
abbrev BH (p:Nat) (x:cG) (ba:Option Addr) (bc:Nat) (ra:Option Addr) (rc:Nat) (W w':World):Prop:=w'.cell? ⟨p,1,none⟩=some (.string x.key)∧w'.cell? ⟨p,2,none⟩=some (.string x.value)∧w'.cell? ⟨p,3,none⟩=some (.int .i64 x.at_)∧w'.cell? ⟨p,4,none⟩=some (.int .i64 x.width)∧w'.cell? ⟨p,5,none⟩=some (.int .i64 x.cj)∧w'.cell? ⟨p,7,none⟩=some (.slice ba x.busy.length bc)∧w'.cell? ⟨p,8,none⟩=some (.slice ra x.reads.length rc)∧Below W.heap.size W w'
theorem EB (p:Nat) (x:cG) (ba:Option Addr) (bc:Nat) (ra:Option Addr) (rc:Nat) (w:World) (h:fS w p x ba bc ra rc):Calls prog 53 #[.pointer (some ⟨p,0,none⟩)] w fun e w'=>e=.returned (.bool (oP x))∧Below w.heap.size w w':=by
 have hl:p<w.heap.size:=(Array.getElem?_eq_some_iff.1 h).1
 have hS : ∀ w',Below w.heap.size w w'→BH p x ba bc ra rc w w':=fun w' hb=>by
  have e:=fun i=>hb.cell (p:=⟨p,i,none⟩) hl
  exact ⟨(e 1).trans (cell_of h 1),(e 2).trans (cell_of h 2),(e 3).trans (cell_of h 3),(e 4).trans (cell_of h 4),(e 5).trans (cell_of h 5),(e 7).trans (cell_of h 7),(e 8).trans (cell_of h 8),hb⟩
 have HS:=zH hS
 have c0:w.cell? ⟨p,0,none⟩=some (.int .i64 x.kind):=cell_of h 0
 clear h hS
 go_enter func53,ntmps53
 go_upto_region 2 with (go_at_call 84;refine (CV _ _).mono ?_;rintro e w1 ⟨rfl,rfl⟩)
 go_cut [4] from 12 to 55 (fun v wx => ∃ g ps,v=.map (some g)∧pZ wx g ps∧(∀ q,q ∈ ps ↔ q ∈ qQ x)∧Below w.heap.size w wx∧g<wx.heap.size)
 case first =>
  have hum:prog.underlying 171=some (.map 9 4):=by kernel_rfl
  have huk:prog.underlying 9=some .string:=by kernel_rfl
  rcases Bool.eq_false_or_eq_true (x.at_ != 0) with h1 | h1 <;> rcases Bool.eq_false_or_eq_true (x.cj != 0) with h2 | h2
  ·
   skip
   refine wp_region_noPanic ?_
   refine wp_region_held_drew (S:=BH p x ba bc ra rc w) (by kernel_rfl) ?hS4000 (fun hHeld => ?_)
   case hS4000=>exact HS.out _ (au zR)
   refine tk 1 ?_
   refine tk 2 ?_
   refine tk 3 ?_
   refine tk 4 ?_
   refine tk 5 ?_
   refine tk 7 ?_
   refine tk 8 ?_
   refine tk 9 ?_
   refine tk 10 ?_
   refine tk 11 ?_
   refine tk 13 ?_
   refine tk 14 ?_
   refine tk 15 ?_
   refine tk 16 ?_
   refine tk 17 ?_
   refine tk 18 ?_
   refine tk 20 ?_
   refine tk 21 ?_
   refine tk 22 ?_
   refine tk 23 ?_
   refine tk 24 ?_
   refine tk 25 ?_
   refine tn 26 ?_
   refine tn 27 ?_
   refine tn 28 ?_
   refine tn 29 ?_
   refine tn 30 ?_
   refine tk 31 ?_
   refine tk 33 ?_
   refine tk 34 ?_
   refine tk 35 ?_
   refine tk 36 ?_
   refine tk 37 ?_
   refine tk 38 ?_
   refine tn 39 ?_
   refine tn 40 ?_
   refine tn 41 ?_
   refine tn 42 ?_
   refine tn 43 ?_
   refine tn 44 ?_
   refine tk 45 ?_
   refine tr 0 fun K hK => ?_
   go_simp
   refine hK.out _ _ ?hM4000 (fun hHeld2 => ?_)
   case hM4000=>exact HS.out _ (ae (au zR) _)
   clear hK K
   try simp only [Act.put,zS,zT,zU]
   refine lW (R:=te) (fin := #[true,true,true,true,true,true,true,true,true,true,true,true,true,true,true,true,true,true,true,true,true,true,true,true,true,true,true,true,true,true,true,true,true,true,true,true,true,true,true,true,true,true,true,true,true,true,true,false,false]) (fuel:=2) (by kernel_rfl) (by kernel_rfl) (by decide) (fun done wr=>og x w w.drew.heap.size done wr) (fun done i wr o hi hn ho hI hSr => ?step11) (fun k done wr hall hI hSr => ?fin11) ?ini11 (by assumption)
   case ini11=>exact pK x w (au zR)
   case step11 =>
    have hg:w.heap.size≤w.drew.heap.size:=Nat.le_refl _
    rcases jH hi with rfl | rfl | rfl | rfl | rfl
    ·
     have ho2:some ⟨none,.insert 171 (.tmp 12) (.const (.string ⟨#[107]⟩)) (.tmp 17),0, "script.go:53",#[⟨0,.data⟩,⟨5,.data⟩],none⟩=some o:=ho
     obtain rfl:=Option.some.inj ho2
     refine ⟨by rfl,?_⟩
     refine cm hum huk hI hg hi hn rfl rfl rfl ?_ HS.out
     first | rfl | (unfold kx;rw [h1];rfl) | (unfold kx;rw [h2];rfl)
    ·
     have ho2:some ⟨none,.insert 171 (.tmp 12) (.const (.string ⟨#[118]⟩)) (.tmp 22),0, "script.go:53",#[⟨0,.data⟩,⟨11,.data⟩],none⟩=some o:=ho
     obtain rfl:=Option.some.inj ho2
     refine ⟨by rfl,?_⟩
     refine cm hum huk hI hg hi hn rfl rfl rfl ?_ HS.out
     first | rfl | (unfold kx;rw [h1];rfl) | (unfold kx;rw [h2];rfl)
    ·
     have ho2:some ⟨none,.insert 171 (.tmp 12) (.const (.string ⟨#[114]⟩)) (.tmp 28),0, "script.go:53",#[⟨0,.data⟩,⟨18,.data⟩],none⟩=some o:=ho
     obtain rfl:=Option.some.inj ho2
     refine ⟨by rfl,?_⟩
     refine cm hum huk hI hg hi hn rfl rfl rfl ?_ HS.out
     first | rfl | (unfold kx;rw [h1];rfl) | (unfold kx;rw [h2];rfl)
    ·
     have ho2:some ⟨none,.insert 171 (.tmp 12) (.const (.string ⟨#[98]⟩)) (.tmp 40),0, "script.go:53",#[⟨0,.data⟩,⟨31,.data⟩],none⟩=some o:=ho
     obtain rfl:=Option.some.inj ho2
     refine ⟨by rfl,?_⟩
     refine cm hum huk hI hg hi hn rfl rfl rfl ?_ HS.out
     first | rfl | (unfold kx;rw [h1];rfl) | (unfold kx;rw [h2];rfl)
    ·
     have ho2:some ⟨none,.insert 171 (.tmp 12) (.const (.string ⟨#[108]⟩)) (.tmp 53),0, "script.go:53",#[⟨0,.data⟩,⟨45,.data⟩],none⟩=some o:=ho
     obtain rfl:=Option.some.inj ho2
     refine ⟨by rfl,?_⟩
     refine cm hum huk hI hg hi hn rfl rfl rfl ?_ HS.out
     first | rfl | (unfold kx;rw [h1];rfl) | (unfold kx;rw [h2];rfl)
   case fin11 =>
    refine tk 47 ?_ (hy:=by intro w h;clear h;go_simp;try with_reducible rfl)
    refine tk 48 ?_ (hy:=by intro w h;clear h;go_simp;try with_reducible rfl)
    refine wpAnyH_done (by kernel_rfl) ?_ _
    refine NoPanic.normal ?_
    go_wp2
    go_meet
    obtain ⟨ps,i1,i2,i3,i4⟩:=vE hI hall
    exact ⟨_,ps,rfl,i1,i2,i3,i4⟩
  ·
   skip
   refine wp_region_noPanic ?_
   refine wp_region_held_drew (S:=BH p x ba bc ra rc w) (by kernel_rfl) ?hS3000 (fun hHeld => ?_)
   case hS3000=>exact HS.out _ (au zR)
   refine tk 1 ?_
   refine tk 2 ?_
   refine tk 3 ?_
   refine tk 4 ?_
   refine tk 5 ?_
   refine tk 7 ?_
   refine tk 8 ?_
   refine tk 9 ?_
   refine tk 10 ?_
   refine tk 11 ?_
   refine tk 13 ?_
   refine tk 14 ?_
   refine tk 15 ?_
   refine tk 16 ?_
   refine tk 17 ?_
   refine tk 18 ?_
   refine tk 20 ?_
   refine tk 21 ?_
   refine tk 22 ?_
   refine tk 23 ?_
   refine tk 24 ?_
   refine tk 25 ?_
   refine tn 26 ?_
   refine tn 27 ?_
   refine tn 28 ?_
   refine tn 29 ?_
   refine tn 30 ?_
   refine tk 31 ?_
   refine tk 33 ?_
   refine tk 34 ?_
   refine tk 35 ?_
   refine tk 36 ?_
   refine tk 37 ?_
   refine tk 38 ?_
   refine tk 39 ?_
   refine tk 40 ?_
   refine tk 41 ?_
   refine tk 42 ?_
   refine tk 43 ?_
   refine tk 44 ?_
   refine tk 45 ?_
   refine tr 0 fun K hK => ?_
   go_simp
   refine hK.out _ _ ?hM3000 (fun hHeld2 => ?_)
   case hM3000=>exact HS.out _ (ae (au zR) _)
   clear hK K
   try simp only [Act.put,zS,zT,zU]
   refine lW (R:=te) (fin := #[true,true,true,true,true,true,true,true,true,true,true,true,true,true,true,true,true,true,true,true,true,true,true,true,true,true,true,true,true,true,true,true,true,true,true,true,true,true,true,true,true,true,true,true,true,true,true,false,false]) (fuel:=2) (by kernel_rfl) (by kernel_rfl) (by decide) (fun done wr=>og x w w.drew.heap.size done wr) (fun done i wr o hi hn ho hI hSr => ?step10) (fun k done wr hall hI hSr => ?fin10) ?ini10 (by assumption)
   case ini10=>exact pK x w (au zR)
   case step10 =>
    have hg:w.heap.size≤w.drew.heap.size:=Nat.le_refl _
    rcases jH hi with rfl | rfl | rfl | rfl | rfl
    ·
     have ho2:some ⟨none,.insert 171 (.tmp 12) (.const (.string ⟨#[107]⟩)) (.tmp 17),0, "script.go:53",#[⟨0,.data⟩,⟨5,.data⟩],none⟩=some o:=ho
     obtain rfl:=Option.some.inj ho2
     refine ⟨by rfl,?_⟩
     refine cm hum huk hI hg hi hn rfl rfl rfl ?_ HS.out
     first | rfl | (unfold kx;rw [h1];rfl) | (unfold kx;rw [h2];rfl)
    ·
     have ho2:some ⟨none,.insert 171 (.tmp 12) (.const (.string ⟨#[118]⟩)) (.tmp 22),0, "script.go:53",#[⟨0,.data⟩,⟨11,.data⟩],none⟩=some o:=ho
     obtain rfl:=Option.some.inj ho2
     refine ⟨by rfl,?_⟩
     refine cm hum huk hI hg hi hn rfl rfl rfl ?_ HS.out
     first | rfl | (unfold kx;rw [h1];rfl) | (unfold kx;rw [h2];rfl)
    ·
     have ho2:some ⟨none,.insert 171 (.tmp 12) (.const (.string ⟨#[114]⟩)) (.tmp 28),0, "script.go:53",#[⟨0,.data⟩,⟨18,.data⟩],none⟩=some o:=ho
     obtain rfl:=Option.some.inj ho2
     refine ⟨by rfl,?_⟩
     refine cm hum huk hI hg hi hn rfl rfl rfl ?_ HS.out
     first | rfl | (unfold kx;rw [h1];rfl) | (unfold kx;rw [h2];rfl)
    ·
     have ho2:some ⟨none,.insert 171 (.tmp 12) (.const (.string ⟨#[98]⟩)) (.tmp 40),0, "script.go:53",#[⟨0,.data⟩,⟨31,.data⟩],none⟩=some o:=ho
     obtain rfl:=Option.some.inj ho2
     refine ⟨by rfl,?_⟩
     refine cm hum huk hI hg hi hn rfl rfl rfl ?_ HS.out
     first | rfl | (unfold kx;rw [h1];rfl) | (unfold kx;rw [h2];rfl)
    ·
     have ho2:some ⟨none,.insert 171 (.tmp 12) (.const (.string ⟨#[108]⟩)) (.tmp 53),0, "script.go:53",#[⟨0,.data⟩,⟨45,.data⟩],none⟩=some o:=ho
     obtain rfl:=Option.some.inj ho2
     refine ⟨by rfl,?_⟩
     refine cm hum huk hI hg hi hn rfl rfl rfl ?_ HS.out
     first | rfl | (unfold kx;rw [h1];rfl) | (unfold kx;rw [h2];rfl)
   case fin10 =>
    refine tk 47 ?_ (hy:=by intro w h;clear h;go_simp;try with_reducible rfl)
    refine tk 48 ?_ (hy:=by intro w h;clear h;go_simp;try with_reducible rfl)
    refine wpAnyH_done (by kernel_rfl) ?_ _
    refine NoPanic.normal ?_
    go_wp2
    go_meet
    obtain ⟨ps,i1,i2,i3,i4⟩:=vE hI hall
    exact ⟨_,ps,rfl,i1,i2,i3,i4⟩
  ·
   skip
   refine wp_region_noPanic ?_
   refine wp_region_held_drew (S:=BH p x ba bc ra rc w) (by kernel_rfl) ?hS2000 (fun hHeld => ?_)
   case hS2000=>exact HS.out _ (au zR)
   refine tk 1 ?_
   refine tk 2 ?_
   refine tk 3 ?_
   refine tk 4 ?_
   refine tk 5 ?_
   refine tk 7 ?_
   refine tk 8 ?_
   refine tk 9 ?_
   refine tk 10 ?_
   refine tk 11 ?_
   refine tk 13 ?_
   refine tk 14 ?_
   refine tk 15 ?_
   refine tk 16 ?_
   refine tk 17 ?_
   refine tk 18 ?_
   refine tk 20 ?_
   refine tk 21 ?_
   refine tk 22 ?_
   refine tk 23 ?_
   refine tk 24 ?_
   refine tk 25 ?_
   refine tk 26 ?_
   refine tk 27 ?_
   refine tk 28 ?_
   refine tk 29 ?_
   refine tk 30 ?_
   refine tk 31 ?_
   refine tk 33 ?_
   refine tk 34 ?_
   refine tk 35 ?_
   refine tk 36 ?_
   refine tk 37 ?_
   refine tk 38 ?_
   refine tn 39 ?_
   refine tn 40 ?_
   refine tn 41 ?_
   refine tn 42 ?_
   refine tn 43 ?_
   refine tn 44 ?_
   refine tk 45 ?_
   refine tr 0 fun K hK => ?_
   go_simp
   refine hK.out _ _ ?hM2000 (fun hHeld2 => ?_)
   case hM2000=>exact HS.out _ (ae (au zR) _)
   clear hK K
   try simp only [Act.put,zS,zT,zU]
   refine lW (R:=te) (fin := #[true,true,true,true,true,true,true,true,true,true,true,true,true,true,true,true,true,true,true,true,true,true,true,true,true,true,true,true,true,true,true,true,true,true,true,true,true,true,true,true,true,true,true,true,true,true,true,false,false]) (fuel:=2) (by kernel_rfl) (by kernel_rfl) (by decide) (fun done wr=>og x w w.drew.heap.size done wr) (fun done i wr o hi hn ho hI hSr => ?step01) (fun k done wr hall hI hSr => ?fin01) ?ini01 (by assumption)
   case ini01=>exact pK x w (au zR)
   case step01 =>
    have hg:w.heap.size≤w.drew.heap.size:=Nat.le_refl _
    rcases jH hi with rfl | rfl | rfl | rfl | rfl
    ·
     have ho2:some ⟨none,.insert 171 (.tmp 12) (.const (.string ⟨#[107]⟩)) (.tmp 17),0, "script.go:53",#[⟨0,.data⟩,⟨5,.data⟩],none⟩=some o:=ho
     obtain rfl:=Option.some.inj ho2
     refine ⟨by rfl,?_⟩
     refine cm hum huk hI hg hi hn rfl rfl rfl ?_ HS.out
     first | rfl | (unfold kx;rw [h1];rfl) | (unfold kx;rw [h2];rfl)
    ·
     have ho2:some ⟨none,.insert 171 (.tmp 12) (.const (.string ⟨#[118]⟩)) (.tmp 22),0, "script.go:53",#[⟨0,.data⟩,⟨11,.data⟩],none⟩=some o:=ho
     obtain rfl:=Option.some.inj ho2
     refine ⟨by rfl,?_⟩
     refine cm hum huk hI hg hi hn rfl rfl rfl ?_ HS.out
     first | rfl | (unfold kx;rw [h1];rfl) | (unfold kx;rw [h2];rfl)
    ·
     have ho2:some ⟨none,.insert 171 (.tmp 12) (.const (.string ⟨#[114]⟩)) (.tmp 28),0, "script.go:53",#[⟨0,.data⟩,⟨18,.data⟩],none⟩=some o:=ho
     obtain rfl:=Option.some.inj ho2
     refine ⟨by rfl,?_⟩
     refine cm hum huk hI hg hi hn rfl rfl rfl ?_ HS.out
     first | rfl | (unfold kx;rw [h1];rfl) | (unfold kx;rw [h2];rfl)
    ·
     have ho2:some ⟨none,.insert 171 (.tmp 12) (.const (.string ⟨#[98]⟩)) (.tmp 40),0, "script.go:53",#[⟨0,.data⟩,⟨31,.data⟩],none⟩=some o:=ho
     obtain rfl:=Option.some.inj ho2
     refine ⟨by rfl,?_⟩
     refine cm hum huk hI hg hi hn rfl rfl rfl ?_ HS.out
     first | rfl | (unfold kx;rw [h1];rfl) | (unfold kx;rw [h2];rfl)
    ·
     have ho2:some ⟨none,.insert 171 (.tmp 12) (.const (.string ⟨#[108]⟩)) (.tmp 53),0, "script.go:53",#[⟨0,.data⟩,⟨45,.data⟩],none⟩=some o:=ho
     obtain rfl:=Option.some.inj ho2
     refine ⟨by rfl,?_⟩
     refine cm hum huk hI hg hi hn rfl rfl rfl ?_ HS.out
     first | rfl | (unfold kx;rw [h1];rfl) | (unfold kx;rw [h2];rfl)
   case fin01 =>
    refine tk 47 ?_ (hy:=by intro w h;clear h;go_simp;try with_reducible rfl)
    refine tk 48 ?_ (hy:=by intro w h;clear h;go_simp;try with_reducible rfl)
    refine wpAnyH_done (by kernel_rfl) ?_ _
    refine NoPanic.normal ?_
    go_wp2
    go_meet
    obtain ⟨ps,i1,i2,i3,i4⟩:=vE hI hall
    exact ⟨_,ps,rfl,i1,i2,i3,i4⟩
  ·
   skip
   refine wp_region_noPanic ?_
   refine wp_region_held_drew (S:=BH p x ba bc ra rc w) (by kernel_rfl) ?hS1000 (fun hHeld => ?_)
   case hS1000=>exact HS.out _ (au zR)
   refine tk 1 ?_
   refine tk 2 ?_
   refine tk 3 ?_
   refine tk 4 ?_
   refine tk 5 ?_
   refine tk 7 ?_
   refine tk 8 ?_
   refine tk 9 ?_
   refine tk 10 ?_
   refine tk 11 ?_
   refine tk 13 ?_
   refine tk 14 ?_
   refine tk 15 ?_
   refine tk 16 ?_
   refine tk 17 ?_
   refine tk 18 ?_
   refine tk 20 ?_
   refine tk 21 ?_
   refine tk 22 ?_
   refine tk 23 ?_
   refine tk 24 ?_
   refine tk 25 ?_
   refine tk 26 ?_
   refine tk 27 ?_
   refine tk 28 ?_
   refine tk 29 ?_
   refine tk 30 ?_
   refine tk 31 ?_
   refine tk 33 ?_
   refine tk 34 ?_
   refine tk 35 ?_
   refine tk 36 ?_
   refine tk 37 ?_
   refine tk 38 ?_
   refine tk 39 ?_
   refine tk 40 ?_
   refine tk 41 ?_
   refine tk 42 ?_
   refine tk 43 ?_
   refine tk 44 ?_
   refine tk 45 ?_
   refine tr 0 fun K hK => ?_
   go_simp
   refine hK.out _ _ ?hM1000 (fun hHeld2 => ?_)
   case hM1000=>exact HS.out _ (ae (au zR) _)
   clear hK K
   try simp only [Act.put,zS,zT,zU]
   refine lW (R:=te) (fin := #[true,true,true,true,true,true,true,true,true,true,true,true,true,true,true,true,true,true,true,true,true,true,true,true,true,true,true,true,true,true,true,true,true,true,true,true,true,true,true,true,true,true,true,true,true,true,true,false,false]) (fuel:=2) (by kernel_rfl) (by kernel_rfl) (by decide) (fun done wr=>og x w w.drew.heap.size done wr) (fun done i wr o hi hn ho hI hSr => ?step00) (fun k done wr hall hI hSr => ?fin00) ?ini00 (by assumption)
   case ini00=>exact pK x w (au zR)
   case step00 =>
    have hg:w.heap.size≤w.drew.heap.size:=Nat.le_refl _
    rcases jH hi with rfl | rfl | rfl | rfl | rfl
    ·
     have ho2:some ⟨none,.insert 171 (.tmp 12) (.const (.string ⟨#[107]⟩)) (.tmp 17),0, "script.go:53",#[⟨0,.data⟩,⟨5,.data⟩],none⟩=some o:=ho
     obtain rfl:=Option.some.inj ho2
     refine ⟨by rfl,?_⟩
     refine cm hum huk hI hg hi hn rfl rfl rfl ?_ HS.out
     first | rfl | (unfold kx;rw [h1];rfl) | (unfold kx;rw [h2];rfl)
    ·
     have ho2:some ⟨none,.insert 171 (.tmp 12) (.const (.string ⟨#[118]⟩)) (.tmp 22),0, "script.go:53",#[⟨0,.data⟩,⟨11,.data⟩],none⟩=some o:=ho
     obtain rfl:=Option.some.inj ho2
     refine ⟨by rfl,?_⟩
     refine cm hum huk hI hg hi hn rfl rfl rfl ?_ HS.out
     first | rfl | (unfold kx;rw [h1];rfl) | (unfold kx;rw [h2];rfl)
    ·
     have ho2:some ⟨none,.insert 171 (.tmp 12) (.const (.string ⟨#[114]⟩)) (.tmp 28),0, "script.go:53",#[⟨0,.data⟩,⟨18,.data⟩],none⟩=some o:=ho
     obtain rfl:=Option.some.inj ho2
     refine ⟨by rfl,?_⟩
     refine cm hum huk hI hg hi hn rfl rfl rfl ?_ HS.out
     first | rfl | (unfold kx;rw [h1];rfl) | (unfold kx;rw [h2];rfl)
    ·
     have ho2:some ⟨none,.insert 171 (.tmp 12) (.const (.string ⟨#[98]⟩)) (.tmp 40),0, "script.go:53",#[⟨0,.data⟩,⟨31,.data⟩],none⟩=some o:=ho
     obtain rfl:=Option.some.inj ho2
     refine ⟨by rfl,?_⟩
     refine cm hum huk hI hg hi hn rfl rfl rfl ?_ HS.out
     first | rfl | (unfold kx;rw [h1];rfl) | (unfold kx;rw [h2];rfl)
    ·
     have ho2:some ⟨none,.insert 171 (.tmp 12) (.const (.string ⟨#[108]⟩)) (.tmp 53),0, "script.go:53",#[⟨0,.data⟩,⟨45,.data⟩],none⟩=some o:=ho
     obtain rfl:=Option.some.inj ho2
     refine ⟨by rfl,?_⟩
     refine cm hum huk hI hg hi hn rfl rfl rfl ?_ HS.out
     first | rfl | (unfold kx;rw [h1];rfl) | (unfold kx;rw [h2];rfl)
   case fin00 =>
    refine tk 47 ?_ (hy:=by intro w h;clear h;go_simp;try with_reducible rfl)
    refine tk 48 ?_ (hy:=by intro w h;clear h;go_simp;try with_reducible rfl)
    refine wpAnyH_done (by kernel_rfl) ?_ _
    refine NoPanic.normal ?_
    go_wp2
    go_meet
    obtain ⟨ps,i1,i2,i3,i4⟩:=vE hI hall
    exact ⟨_,ps,rfl,i1,i2,i3,i4⟩
 case rest =>
  obtain ⟨g,ps,rfl,hmap,hps,hbw,hgl⟩:=hcut
  obtain ⟨es,hb,hst,hes⟩:=hmap.ex
  have hrg:=run_range_map (P:=prog) wc 171 9 4 g es ps.length (by kernel_rfl) hb
  have HK:=zH (zA hst (zA (fun (e:MapEntry) (he:e ∈ es.toList)=>pZ.keys hes he) (zA hps hbw)))
  have HE:=zH hes
  clear hmap hst hes hps hbw
  generalize ps.length=clock at *
  have hR:(wc.alloc (.mapIter (some g) clock #[] clock)).heap[wc.heap.size]? = some (.mapIter (some g) clock #[] clock):=af _ _
  have hG:(wc.alloc (.mapIter (some g) clock #[] clock)).heap[g]? = some (.map es clock):=(heap_alloc_old wc _ hgl).trans hb
  have hB:=zH (Below.alloc HK.out.2.2.2 HK.out.2.2.2.size (.mapIter (some g) clock #[] clock))
  have hN:=zH HK.out.2.2.2.size
  have hne:=zH (show wc.heap.size≠g by omega)
  have H0:=zH (zA hR hG)
  clear hR hG hgl hb
  go_upto_if 68 with fail
  clear hrg
  generalize wc.alloc (.mapIter (some g) clock #[] clock)=wl at *
  generalize wc.heap.size=R at *
  go_loopg [5,6] (leftOf es #[]).size (fun n s5 s6 wr => ∃ seen,n=(leftOf es seen).size∧wr.heap[R]? = some (.mapIter (some g) clock seen clock)∧wr.heap[g]? = some (.map es clock)∧Below w.heap.size w wr ∧ ∀ e ∈ es.toList,seen.contains e.born=true→MP (lp x.kind) e)
  case atStart=>exact ⟨#[],rfl,H0.out.1,H0.out.2,hB.out,fun e _ h=>by simp at h⟩
  case round =>
   obtain ⟨seen,hn,hr1,hg1,hbl,hok⟩:=hrel
   have law:=run_next_at (P:=prog) wr 0 R g clock clock seen es clock hr1 hg1 HK.out.1.1 zY
   have HN:=zH hn
   have HO:=zH hok
   have HA:=zH (zA hr1 (zA hg1 hbl))
   clear hn hok hr1 hg1 hbl H0 hB
   rcases law with ⟨h0,hrun⟩ | ⟨e,he,w1,hw1,hrun⟩
   ·
    have hnx : ∀ ty,(Instr.next (.pointer (some ⟨R,0,none⟩)) false ty).run prog wr=_:=fun _=>hrun
    have HL:=zH (JP HE.out HK.out.2.2.1 HO.out h0)
    clear hrun h0
    go_wp2
    go_ret
    rw [HL.out]
    exact ⟨rfl,HA.out.2.2⟩
   ·
    obtain ⟨q,hq,hk1,hv1⟩:=HK.out.2.1 e (mem_left he).1
    rw [hk1,hv1] at hrun
    have hnx : ∀ ty,(Instr.next (.pointer (some ⟨R,0,none⟩)) false ty).run prog wr=_:=fun _=>hrun
    have hb1:Below w.heap.size w w1∧w1.heap[R]? = some (.mapIter (some g) clock seen clock)∧w1.heap[g]? = some (.map es clock):=by
     rcases hw1 with rfl | rfl
     ·
      exact ⟨HA.out.2.2,HA.out.1,HA.out.2.1⟩
     ·
      exact ⟨HA.out.2.2.drew,HA.out.1,HA.out.2.1⟩
    have hb2:(setBlock w1 R (.mapIter (some g) clock (seen.push e.born) clock)).heap[R]? = _:=Jf hb1.2.1
    have hb3:(setBlock w1 R (.mapIter (some g) clock (seen.push e.born) clock)).heap[g]? = some (.map es clock):=(Jg hne.out _).trans hb1.2.2
    have hb4:=BX hb1.1 hN.out (.mapIter (some g) clock (seen.push e.born) clock)
    have hen:=run_entry_at (P:=prog) _ R g clock seen es clock e hb2 hb3 (mem_left he).1 HK.out.1.2.1
    rw [hk1,hv1] at hen
    have HM:=zH (left_shrinks es seen e he)
    have HX:=zH (zA hb2 (zA hb3 hb4))
    have HP:=zH (fun h=>LM HO.out HK.out.1.2.1 (mem_left he).1 (MF hk1 hv1 h))
    have HQ:=zH ((HK.out.2.2.1 q).1 hq)
    clear hb1 hb2 hb3 hb4 hw1 hrun he hk1 hv1 hq
    generalize setBlock w1 R (.mapIter (some g) clock (seen.push e.born) clock)=w3 at *
    generalize seen.push e.born=seen3 at *
    obtain ⟨c,v⟩:=q
    cases v with
    | false =>
     go_wp2
     go_roundg (leftOf es seen3).size
     case measure=>rw [HN.out];exact HM.out
     case rel=>exact ⟨seen3,rfl,HX.out.1,HX.out.2.1,HX.out.2.2,HP.out rfl⟩
    | true =>
     have HC:=zH (fun w=>Tryz.strings_Contains_one (lp x.kind) c w)
     cases hh:hasB (lp x.kind) c with
     | true =>
      unfold hasB at hh
      rw [hh] at HC
      have HH:=zH hh
      clear hh
      go_wp2_with (go_at_call 85;refine (HC.out _).mono ?_;rintro e w1 ⟨rfl,rfl⟩)
      go_roundg (leftOf es seen3).size
      case measure=>rw [HN.out];exact HM.out
      case rel=>exact ⟨seen3,rfl,HX.out.1,HX.out.2.1,HX.out.2.2,HP.out HH.out⟩
     | false =>
      have HF:=zH (Lv HQ.out rfl hh)
      unfold hasB at hh
      rw [hh] at HC
      clear hh
      go_wp2_with (go_at_call 85;refine (HC.out _).mono ?_;rintro e w1 ⟨rfl,rfl⟩)
      go_ret
      rw [HF.out]
      exact ⟨rfl,HX.out.2.2⟩
end
def pY (x:cG):Bool:=cv 0 7 [x.kind]&&pe x&&oP x&&cv 0 4095 [x.at_]&&cv 0 8 [x.width]&&cv 0 65535 [x.cj]&&cv 1 400 x.busy&&cv 0 4095 x.reads
theorem EK {w:World} {g:Nat} {x:Int} (h:w.cell? ⟨g,0,none⟩=some (.int .i64 x)):aP w (some ⟨g,0,none⟩) [x]:=aP.of fun i hi=>by
 have hi:i<1:=hi
 obtain rfl:i=0:=by omega
 exact h
theorem lQ (l u:Int) (g:Nat) (x:Int) (w:World) (h:w.cell? ⟨g,0,none⟩=some (.int .i64 x)):Calls prog 51 #[.int .i64 l,.int .i64 u,.slice (some ⟨g,0,none⟩) 1 1] w fun e w'=>e=.returned (.bool (cv l u [x]))∧w=w' :=
 lY l u _ _ [x] w (EK h) (by show 1≤_;decide)
theorem Hw (x:cG) (ba:Option Addr) (bc:Nat) (ra:Option Addr) (rc:Nat) (w:World) (hb:aP w ba x.busy) (hr:aP w ra x.reads) (lb:x.busy.length≤4611686018427387904) (lr:x.reads.length≤4611686018427387904):Calls prog 29 #[.agg (x.row ba bc ra rc)] w fun e w'=>e=.returned (.bool (pY x))∧Below w.heap.size w w':=by
 have hbW:=ae (Below.refl w.heap.size w) (.cells (x.row ba bc ra rc) 31)
 have e0:fS (w.alloc (.cells (x.row ba bc ra rc) 31)) w.heap.size x ba bc ra rc:=af _ _
 have HD:=zH (fun w' (h:Below (w.alloc (.cells (x.row ba bc ra rc) 31)).heap.size (w.alloc (.cells (x.row ba bc ra rc) 31)) w')=>(show fS w' w.heap.size x ba bc ra rc from aa h e0))
 have HI:=zH (fun w' (h:Below w.heap.size w w')=>zA (hb.aj h) (hr.aj h))
 have HL:=zH (zA lb lr)
 have HBW:=zH hbW
 have hrow:x.row ba bc ra rc = #[.int .i64 x.kind,.string x.key,.string x.value,.int .i64 x.at_,.int .i64 x.width,.int .i64 x.cj,.string x.mask,.slice ba x.busy.length bc,.slice ra x.reads.length rc]:=rfl
 clear e0 hbW hb hr lb lr
 rw [hrow] at HD HBW ⊢
 clear hrow
 have HM:=zH (show pY x=(cv 0 7 [x.kind]&&pe x&&oP x&&cv 0 4095 [x.at_]&&cv 0 8 [x.width]&&cv 0 65535 [x.cj]&&cv 1 400 x.busy&&cv 0 4095 x.reads) from rfl)
 have H1:=zH (fun g w h=>lQ 0 7 g x.kind w h)
 have H2:=zH (fun w' (h:fS w' w.heap.size x ba bc ra rc)=>Dp w.heap.size x ba bc ra rc w' h)
 have H3:=zH (fun w' (h:fS w' w.heap.size x ba bc ra rc)=>EB w.heap.size x ba bc ra rc w' h)
 have H4:=zH (fun g w h=>lQ 0 4095 g x.at_ w h)
 have H5:=zH (fun g w h=>lQ 0 8 g x.width w h)
 have H6:=zH (fun g w h=>lQ 0 65535 g x.cj w h)
 generalize hW:w.alloc (.cells #[.int .i64 x.kind,.string x.key,.string x.value,.int .i64 x.at_,.int .i64 x.width,.int .i64 x.cj,.string x.mask,.slice ba x.busy.length bc,.slice ra x.reads.length rc] 31)=W at HD HBW
 have H7:=zH (fun w' (hb:Below W.heap.size W w')=>lY 1 400 ba bc x.busy w' (HI.out w' (gtr HBW.out hb)).1 HL.out.1)
 have H8:=zH (fun w' (hb:Below W.heap.size W w')=>lY 0 4095 ra rc x.reads w' (HI.out w' (gtr HBW.out hb)).2 HL.out.2)
 replace HD:=zH (fun w' (h:Below W.heap.size W w')=>have e:=HD.out w' h;zA e (zA (show w'.cell? ⟨w.heap.size,3,none⟩=some (.int .i64 x.at_) from cell_of e 3) (zA (show w'.cell? ⟨w.heap.size,4,none⟩=some (.int .i64 x.width) from cell_of e 4) (zA (show w'.cell? ⟨w.heap.size,5,none⟩=some (.int .i64 x.cj) from cell_of e 5) (zA (show w'.cell? ⟨w.heap.size,7,none⟩=some (.slice ba x.busy.length bc) from cell_of e 7) (show w'.cell? ⟨w.heap.size,8,none⟩=some (.slice ra x.reads.length rc) from cell_of e 8))))))
 have c0:W.cell? ⟨w.heap.size,0,none⟩=some (.int .i64 x.kind):=cell_of (HD.out W zR).1 0
 generalize cv 0 7 [x.kind]=b1 at *
 generalize pe x=b2 at *
 generalize oP x=b3 at *
 generalize cv 0 4095 [x.at_]=b4 at *
 generalize cv 0 8 [x.width]=b5 at *
 generalize cv 0 65535 [x.cj]=b6 at *
 generalize cv 1 400 x.busy=b7 at *
 generalize cv 0 4095 x.reads=b8 at *
 go_enter func29,ntmps29
 go_upto_region 1 with fail
 try rw [hW]
 clear hW
 cases b1 with
 | false =>
  go_wp2_with (first
   | (go_at_call 51;(with_reducible refine Calls.mono (H1.out _ _ ?_) ?_);exact cell_of (af W _) 0;rintro e w1 ⟨rfl,he⟩;have hb1:Below W.heap.size W w1:=(by rw [← he];exact ae zR _);clear he))
  go_ret
  rw [HM.out]
  exact ⟨by simp,gtr HBW.out hb1⟩
 | true =>
  cases b2 with
  | false =>
   go_wp2_with (first
    | (go_at_call 51;(with_reducible refine Calls.mono (H1.out _ _ ?_) ?_);exact cell_of (af W _) 0;rintro e w1 ⟨rfl,he⟩;have hb1:Below W.heap.size W w1:=(by rw [← he];exact ae zR _);clear he)
    | (go_at_call 52;refine (H2.out w1 (HD.out w1 hb1).1).mono ?_;rintro e wx ⟨rfl,rfl⟩))
   go_ret
   rw [HM.out]
   exact ⟨by simp,gtr HBW.out hb1⟩
  | true =>
   cases b3 with
   | false =>
    go_wp2_with (first
     | (go_at_call 51;(with_reducible refine Calls.mono (H1.out _ _ ?_) ?_);exact cell_of (af W _) 0;rintro e w1 ⟨rfl,he⟩;have hb1:Below W.heap.size W w1:=(by rw [← he];exact ae zR _);clear he)
     | (go_at_call 52;refine (H2.out w1 (HD.out w1 hb1).1).mono ?_;rintro e wx ⟨rfl,rfl⟩)
     | (go_at_call 53;refine (H3.out w1 (HD.out w1 hb1).1).mono ?_;rintro e w3 ⟨rfl,hb⟩;have hb3:=gtr hb1 hb;have c3:=(HD.out w3 hb3).2.1;clear hb))
    go_ret
    rw [HM.out]
    exact ⟨by simp,gtr HBW.out hb3⟩
   | true =>
    cases b4 with
    | false =>
     go_wp2_with (first
      | (go_at_call 51;(with_reducible refine Calls.mono (H1.out _ _ ?_) ?_);exact cell_of (af W _) 0;rintro e w1 ⟨rfl,he⟩;have hb1:Below W.heap.size W w1:=(by rw [← he];exact ae zR _);clear he)
      | (go_at_call 52;refine (H2.out w1 (HD.out w1 hb1).1).mono ?_;rintro e wx ⟨rfl,rfl⟩)
      | (go_at_call 53;refine (H3.out w1 (HD.out w1 hb1).1).mono ?_;rintro e w3 ⟨rfl,hb⟩;have hb3:=gtr hb1 hb;have c3:=(HD.out w3 hb3).2.1;clear hb)
      | (go_at_call 51;(with_reducible refine Calls.mono (H4.out _ _ ?_) ?_);exact cell_of (af w3 _) 0;rintro e w4 ⟨rfl,he⟩;have hb4:Below W.heap.size W w4:=(by rw [← he];exact ae hb3 _);have c4:=(HD.out w4 hb4).2.2.1;clear he))
     go_ret
     rw [HM.out]
     exact ⟨by simp,gtr HBW.out hb4⟩
    | true =>
     cases b5 with
     | false =>
      go_wp2_with (first
       | (go_at_call 51;(with_reducible refine Calls.mono (H1.out _ _ ?_) ?_);exact cell_of (af W _) 0;rintro e w1 ⟨rfl,he⟩;have hb1:Below W.heap.size W w1:=(by rw [← he];exact ae zR _);clear he)
       | (go_at_call 52;refine (H2.out w1 (HD.out w1 hb1).1).mono ?_;rintro e wx ⟨rfl,rfl⟩)
       | (go_at_call 53;refine (H3.out w1 (HD.out w1 hb1).1).mono ?_;rintro e w3 ⟨rfl,hb⟩;have hb3:=gtr hb1 hb;have c3:=(HD.out w3 hb3).2.1;clear hb)
       | (go_at_call 51;(with_reducible refine Calls.mono (H4.out _ _ ?_) ?_);exact cell_of (af w3 _) 0;rintro e w4 ⟨rfl,he⟩;have hb4:Below W.heap.size W w4:=(by rw [← he];exact ae hb3 _);have c4:=(HD.out w4 hb4).2.2.1;clear he)
       | (go_at_call 51;(with_reducible refine Calls.mono (H5.out _ _ ?_) ?_);exact cell_of (af w4 _) 0;rintro e w5 ⟨rfl,he⟩;have hb5:Below W.heap.size W w5:=(by rw [← he];exact ae hb4 _);have c5:=(HD.out w5 hb5).2.2.2.1;clear he))
      go_ret
      rw [HM.out]
      exact ⟨by simp,gtr HBW.out hb5⟩
     | true =>
      cases b6 with
      | false =>
       go_wp2_with (first
        | (go_at_call 51;(with_reducible refine Calls.mono (H1.out _ _ ?_) ?_);exact cell_of (af W _) 0;rintro e w1 ⟨rfl,he⟩;have hb1:Below W.heap.size W w1:=(by rw [← he];exact ae zR _);clear he)
        | (go_at_call 52;refine (H2.out w1 (HD.out w1 hb1).1).mono ?_;rintro e wx ⟨rfl,rfl⟩)
        | (go_at_call 53;refine (H3.out w1 (HD.out w1 hb1).1).mono ?_;rintro e w3 ⟨rfl,hb⟩;have hb3:=gtr hb1 hb;have c3:=(HD.out w3 hb3).2.1;clear hb)
        | (go_at_call 51;(with_reducible refine Calls.mono (H4.out _ _ ?_) ?_);exact cell_of (af w3 _) 0;rintro e w4 ⟨rfl,he⟩;have hb4:Below W.heap.size W w4:=(by rw [← he];exact ae hb3 _);have c4:=(HD.out w4 hb4).2.2.1;clear he)
        | (go_at_call 51;(with_reducible refine Calls.mono (H5.out _ _ ?_) ?_);exact cell_of (af w4 _) 0;rintro e w5 ⟨rfl,he⟩;have hb5:Below W.heap.size W w5:=(by rw [← he];exact ae hb4 _);have c5:=(HD.out w5 hb5).2.2.2.1;clear he)
        | (go_at_call 51;(with_reducible refine Calls.mono (H6.out _ _ ?_) ?_);exact cell_of (af w5 _) 0;rintro e w6 ⟨rfl,he⟩;have hb6:Below W.heap.size W w6:=(by rw [← he];exact ae hb5 _);have c7:=(HD.out w6 hb6).2.2.2.2.1;have c8:=(HD.out w6 hb6).2.2.2.2.2;clear he))
       go_ret
       rw [HM.out]
       exact ⟨by simp,gtr HBW.out hb6⟩
      | true =>
       cases b7 with
       | false =>
        go_wp2_with (first
         | (go_at_call 51;(with_reducible refine Calls.mono (H1.out _ _ ?_) ?_);exact cell_of (af W _) 0;rintro e w1 ⟨rfl,he⟩;have hb1:Below W.heap.size W w1:=(by rw [← he];exact ae zR _);clear he)
         | (go_at_call 52;refine (H2.out w1 (HD.out w1 hb1).1).mono ?_;rintro e wx ⟨rfl,rfl⟩)
         | (go_at_call 53;refine (H3.out w1 (HD.out w1 hb1).1).mono ?_;rintro e w3 ⟨rfl,hb⟩;have hb3:=gtr hb1 hb;have c3:=(HD.out w3 hb3).2.1;clear hb)
         | (go_at_call 51;(with_reducible refine Calls.mono (H4.out _ _ ?_) ?_);exact cell_of (af w3 _) 0;rintro e w4 ⟨rfl,he⟩;have hb4:Below W.heap.size W w4:=(by rw [← he];exact ae hb3 _);have c4:=(HD.out w4 hb4).2.2.1;clear he)
         | (go_at_call 51;(with_reducible refine Calls.mono (H5.out _ _ ?_) ?_);exact cell_of (af w4 _) 0;rintro e w5 ⟨rfl,he⟩;have hb5:Below W.heap.size W w5:=(by rw [← he];exact ae hb4 _);have c5:=(HD.out w5 hb5).2.2.2.1;clear he)
         | (go_at_call 51;(with_reducible refine Calls.mono (H6.out _ _ ?_) ?_);exact cell_of (af w5 _) 0;rintro e w6 ⟨rfl,he⟩;have hb6:Below W.heap.size W w6:=(by rw [← he];exact ae hb5 _);have c7:=(HD.out w6 hb6).2.2.2.2.1;have c8:=(HD.out w6 hb6).2.2.2.2.2;clear he)
         | (go_at_call 51;(with_reducible refine (H7.out w6 hb6).mono ?_);rintro e wx ⟨rfl,rfl⟩))
        go_ret
        rw [HM.out]
        exact ⟨by simp,gtr HBW.out hb6⟩
       | true =>
        go_wp2_with (first
         | (go_at_call 51;(with_reducible refine Calls.mono (H1.out _ _ ?_) ?_);exact cell_of (af W _) 0;rintro e w1 ⟨rfl,he⟩;have hb1:Below W.heap.size W w1:=(by rw [← he];exact ae zR _);clear he)
         | (go_at_call 52;refine (H2.out w1 (HD.out w1 hb1).1).mono ?_;rintro e wx ⟨rfl,rfl⟩)
         | (go_at_call 53;refine (H3.out w1 (HD.out w1 hb1).1).mono ?_;rintro e w3 ⟨rfl,hb⟩;have hb3:=gtr hb1 hb;have c3:=(HD.out w3 hb3).2.1;clear hb)
         | (go_at_call 51;(with_reducible refine Calls.mono (H4.out _ _ ?_) ?_);exact cell_of (af w3 _) 0;rintro e w4 ⟨rfl,he⟩;have hb4:Below W.heap.size W w4:=(by rw [← he];exact ae hb3 _);have c4:=(HD.out w4 hb4).2.2.1;clear he)
         | (go_at_call 51;(with_reducible refine Calls.mono (H5.out _ _ ?_) ?_);exact cell_of (af w4 _) 0;rintro e w5 ⟨rfl,he⟩;have hb5:Below W.heap.size W w5:=(by rw [← he];exact ae hb4 _);have c5:=(HD.out w5 hb5).2.2.2.1;clear he)
         | (go_at_call 51;(with_reducible refine Calls.mono (H6.out _ _ ?_) ?_);exact cell_of (af w5 _) 0;rintro e w6 ⟨rfl,he⟩;have hb6:Below W.heap.size W w6:=(by rw [← he];exact ae hb5 _);have c7:=(HD.out w6 hb6).2.2.2.2.1;have c8:=(HD.out w6 hb6).2.2.2.2.2;clear he)
         | (go_at_call 51;(with_reducible refine (H7.out w6 hb6).mono ?_);rintro e wx ⟨rfl,rfl⟩)
         | (go_at_call 51;(with_reducible refine (H8.out w6 hb6).mono ?_);rintro e wx ⟨rfl,rfl⟩))
        go_ret
        rw [HM.out]
        exact ⟨by simp,gtr HBW.out hb6⟩
section
open Go.RowKit
variable {X:Nat→Prop}
theorem bO.ar {w:World} {k c:Nat} {m:aG} {G:Nat→Prop} (h:bO X w k c m G) : ∃ F,aT w c m.ar F∧(∀ i,F i→G i) ∧ ∀ (w':World) (m':ag) (F':Nat→Prop),aT w' c m' F'→Step F F' w w'→(0<m'.busy.length→w.heap.size≤m'.home∨(m'.home=m.ar.home∧0<m.ar.busy.length))→bO X w' k c { m with ar:=m' } (fun i=>G i∨F' i)∧Step G (fun i=>G i∨F' i) w w':=by
 obtain ⟨s,F,rfl,h⟩:=h
 refine ⟨F,h.ar,h.sub,fun w' m' F' hc st hh => ?_⟩
 have hst:Step G (fun i=>G i∨F' i) w w':=⟨st.aH.mono h.sub,fun i hi=>hi.elim .inl fun hf=>(st.gP i hf).imp (h.sub i) id⟩
 refine ⟨⟨s,F',rfl,st.aH.at h.raw h.fA,h.aD,h.left,h.lost,hc,h.leave.step hst,fun hf => ?_,fun b hb=>.inr hb,.inl h.own,fun hl hg => ?_,fun b hb => ?_⟩,hst⟩
 ·
  rcases st.gP k hf with hk | hk
  ·
   exact h.fA hk
  ·
   have:=aO h.raw
   omega
 ·
  rcases hg with hg | hg
  ·
   rcases hh hl with h1 | ⟨h1,h2⟩
   ·
    have:m'.home<w.heap.size:=h.lt _ hg
    omega
   ·
    rw [h1] at hg
    exact h.home h2 hg
  ·
   exact (hc.home hl).2 hg
 ·
  rcases hb with hb | hb
  ·
   exact zV (h.lt b hb) st.aH.size
  ·
   exact hc.lt b hb
theorem Sys.ar {w:World} {s k c b:Nat} {m:aG} {q:Cache} {S:aA} {H:Nat→Prop} (h:Sys X w s k c b m q S H) : ∃ F,aT w c m.ar F∧(∀ i,F i→H i) ∧ ∀ (w':World) (m':ag) (F':Nat→Prop),aT w' c m' F'→Step F F' w w'→(0<m'.busy.length→w.heap.size≤m'.home∨(m'.home=m.ar.home∧0<m.ar.busy.length)) → ∃ H',Sys X w' s k c b { m with ar:=m' } q S H'∧Step H H' w w':=by
 obtain ⟨G,hc,hw,hH,hb⟩:=h.both.ex
 obtain ⟨F,h1,h2,h3⟩:=hc.ar
 refine ⟨F,h1,fun i hi=>(hH i).2 (.inl (h2 i hi)),fun w' m' F' k1 k2 k3 => ?_⟩
 obtain ⟨g1,g2⟩:=h3 w' m' F' k1 k2 k3
 have hlt:=h.lt
 have st:Step H (fun i=>(G i∨F' i)∨i=b) w w':=g2.both hH fun i=>Iff.rfl
 obtain ⟨a,cp,r1,r2⟩:=h.st
 have hb':b<w.heap.size:=h.both.lt b ((hH b).2 (.inr rfl))
 have hs':s<w.heap.size:=aO r1
 refine ⟨_,⟨⟨⟨_,g1,hw.step g2.Jo,fun i=>Iff.rfl,fun hl => ?_⟩⟩,⟨a,cp,st.aH.at r1 h.fA,r2.step st.off⟩,st.safe hs' h.fA,fun hl => ?_⟩,st⟩
 ·
  show m'.home≠b
  rcases k3 hl with e | ⟨e1,e2⟩
  ·
   omega
  ·
   rw [e1];exact hb e2
 ·
  show m'.home≠s
  rcases k3 hl with e | ⟨e1,e2⟩
  ·
   omega
  ·
   rw [e1];exact h.home e2
theorem GF (p o:Nat) (z y:Int) (w:World) (hc:w.cell? ⟨p,o,none⟩=some (.int .i64 z)) (hz:w.frozen? ⟨p,o,none⟩=false):Calls prog 65 #[.pointer (some ⟨p,o,none⟩),.int .i64 y] w fun e w' => ∃ x:Int,e=.returned (.int .i64 x)∧w'=w.setCell ⟨p,o,none⟩ (.int .i64 x):=by
 have hadd:=run_call_add (P:=prog) func102 (by kernel_rfl) (by kernel_rfl) (by kernel_rfl) .i64 (by kernel_rfl) (y:=y) (s:=IntKind.i64.wrap (z+y)) hc hz (by simp [go_sem])
 generalize IntKind.i64.wrap (z+y)=x at hadd
 go_enter func65,ntmps65
 go_wp2
 go_ret
 exact ⟨x,rfl,rfl⟩
def jD (w:World) (p c:Nat) (ko bo so:Option Addr) (z:Int):Prop:=w.heap[p]? = some (.cells #[.pointer (some ⟨c,0,none⟩),.pointer ko,.pointer bo,.pointer so,.int .i64 z] 94 (0,0))
theorem jD.odd {w:World} {p c:Nat} {ko bo so:Option Addr} {z:Int} (h:jD w p c ko bo so z):Mq w p:=by
 refine ⟨⟨_,cell_of h 0⟩,fun o hf => ?_⟩
 obtain ⟨x,hx⟩:=hf 0 (by omega)
 obtain ⟨y,hy⟩:=hf 1 (by omega)
 have hlt:o+0<5:=by
  unfold World.cell? at hx
  rw [h] at hx
  exact (Array.getElem?_eq_some_iff.1 (show (#[Value.pointer (some ⟨c,0,none⟩),.pointer ko,.pointer bo,.pointer so,.int .i64 z])[o+0]? = some (.int .i64 x) by simpa using hx)).1
 match o,hlt with
 | 0,_=>rw [cell_of h 0] at hx;cases hx
 | 1,_=>rw [cell_of h 1] at hx;cases hx
 | 2,_=>rw [cell_of h 2] at hx;cases hx
 | 3,_=>rw [cell_of h 3] at hx;cases hx
 | 4,_ =>
  have:w.cell? ⟨p,4+1,none⟩=none:=by
   unfold World.cell?
   rw [h]
   rfl
  rw [this] at hy;cases hy
theorem mq {w:World} {g:Nat} {a b c d e:Value} {t:TypeId} (h:w.heap[g]? = some (.cells #[a,b,c,d,e] t (0,0))):w.cell? ⟨g,0,none⟩=some a∧w.cell? ⟨g,1,none⟩=some b∧w.cell? ⟨g,2,none⟩=some c∧w.cell? ⟨g,3,none⟩=some d∧w.cell? ⟨g,4,none⟩=some e ∧ ∀ i,w.frozen? ⟨g,i,none⟩=false :=
 ⟨cell_of h 0,cell_of h 1,cell_of h 2,cell_of h 3,cell_of h 4,fun i=>aF h i⟩
theorem my.mono {w:World} {b k:Nat} {q:Cache} {F G:Nat→Prop} (h:my w b k q F) (hG : ∀ i,G i→F i):my w b k q G:=by
 obtain ⟨ab,ac,tb,tc,h⟩:=h
 exact ⟨ab,ac,tb,tc,h.raw,h.cap,h.a0,h.a1,h.t0,h.t1,⟨fun e=>h.out.1 (hG _ e),fun e=>h.out.2.1 (hG _ e),fun e=>h.out.2.2 (hG _ e)⟩,h.na,h.nt⟩
theorem Touch.qT {F:Nat→Prop} {a b c:World} (h:Touch F a b) (k:Below b.heap.size b c):Touch F a c:=h.trans (Touch.ah k)
theorem Sys.LK {w w':World} {s k c b p:Nat} {m:aG} {q:Cache} {H:Nat→Prop} (h:Sys X w s k c b m q shut H) (t:Touch (aN p) w w') (hn : ¬ bS s H p) (o:Mq w p) (hh:0<m.ar.busy.length→m.ar.home≠p):Sys X w' s k c b m q shut H:=by
 obtain ⟨a,cp,h1,h2⟩:=h.st
 refine ⟨h.both.odd t (fun e=>hn (.inl e)) o hh,⟨a,cp,t.at h1 (fun e=>hn (.inr (show s=p from e).symm)),⟨?_,fun x o f e h0=>by simp [shut,cE] at h0⟩⟩,h.fA,h.home⟩
 refine ⟨h2.at_.len,?_⟩
 rcases h2.at_.ex with e | ⟨b',o',c',e1,e2,_⟩
 ·
  exact .inl e
 ·
  exact .inr ⟨b',o',c',e1,e2,fun i u hu=>by simp [shut,cE,bp] at hu⟩
def BK (X:Nat→Prop) (c:Nat) (m:ag) (F:Nat→Prop) (w:World) (e:Ending) (w':World):Prop := ∃ k G,e=.returned (.tuple #[.pointer (some ⟨k,0,none⟩),.int .i64 0])∧w.heap.size≤k∧bO X w' k c (aG.new m) G∧(∀ b,G b→F b∨b=k)∧Below w.heap.size w w'
theorem yv (c:Nat) (m:ag) (F:Nat→Prop) (w:World) (h:aT w c m F) (hX : ∀ i,X i→i<w.heap.size):Calls prog 67 #[.pointer (some ⟨c,0,none⟩)] w (BK X c m F w):=by
 have HH:=zH h
 have HX0:=zH hX
 clear h hX
 go_enter func67,ntmps67
 go_wp2_with fail
 refine (p8 _).mono ?_
 rintro e w1 ⟨b1,rfl,hb1⟩
 go_wp2_with fail
 refine (p8 _).mono ?_
 rintro e w2 ⟨b2,rfl,hb2⟩
 have hb12:=gtr hb1 hb2
 have h2:=HH.out.aj hb12
 have hb3:Below w2.heap.size w2 (w2.alloc (.cells (mw.row ⟨c,0,0,0,some ⟨b1,0,none⟩,some ⟨b2,0,none⟩,0,false,-1,false,0,0,0,.slice none 0 0⟩) 141)):=ae zR _
 have h3:=h2.aj hb3
 have hr:fE (w2.alloc (.cells (mw.row ⟨c,0,0,0,some ⟨b1,0,none⟩,some ⟨b2,0,none⟩,0,false,-1,false,0,0,0,.slice none 0 0⟩) 141)) w2.heap.size ⟨c,0,0,0,some ⟨b1,0,none⟩,some ⟨b2,0,none⟩,0,false,-1,false,0,0,0,.slice none 0 0⟩:=af _ _
 have hC:bO X (w2.alloc (.cells (mw.row ⟨c,0,0,0,some ⟨b1,0,none⟩,some ⟨b2,0,none⟩,0,false,-1,false,0,0,0,.slice none 0 0⟩) 141)) w2.heap.size c (aG.new m) (fun b=>F b∨b=w2.heap.size):=by
  refine ⟨_,F,rfl,hr,rfl,rfl,rfl,h3,⟨fun i h=>zV (HX0.out i h) (gtr hb12 hb3).size,.inl ⟨rfl,rfl,rfl⟩⟩,fun hf => ?_,fun b hb=>.inl hb,.inr rfl,fun hl hf => ?_,fun b hb => ?_⟩
  ·
   have:=h2.lt _ hf;omega
  ·
   obtain ⟨q1,q2⟩:=h2.home hl
   rcases hf with hf | hf
   ·
    exact q2 hf
   ·
    have hf':m.home=w2.heap.size:=hf
    omega
  ·
   simp only [World.size_alloc]
   rcases hb with hb | hb
   ·
    have:=h2.lt b hb;omega
   ·
    omega
 have HX:=zH (zA hC (gtr hb12 hb3))
 have hsz:=hb12.size
 clear hC h3 hr hb3 h2 hb12 hb1 hb2
 go_wp2
 go_ret2
 exact ⟨_,_,rfl,hsz,HX.out.1,fun b hb=>hb,HX.out.2⟩
def DR (X:Nat→Prop) (p c:Nat) (m:ag) (F:Nat→Prop) (w:World) (e:Ending) (w':World):Prop :=
 e=.returned (.tuple #[]) ∧ ∃ s k b H z,jD w' p c (some ⟨k,0,none⟩) (some ⟨b,0,none⟩) (some ⟨s,0,none⟩) z∧Sys X w' s k c b (aG.new m) Cache.new shut H ∧ ¬ bS s H p∧Touch (aN p) w w' ∧ ∀ i,bS s H i→F i∨w.heap.size≤i
theorem lV (p c:Nat) (ko bo so:Option Addr) (z:Int) (m:ag) (F:Nat→Prop) (w:World) (hr:jD w p c ko bo so z) (h:aT w c m F) (hp : ¬ F p) (hbz:m.busy=[]) (hX : ∀ i,X i→i<w.heap.size) (hk : ∀ w',Below w.heap.size w w'→Calls prog 66 #[.pointer ko] w' fun e w'' => ∃ x:Int,e=.returned (.int .i64 x)∧w'=w''):Calls prog 35 #[.pointer (some ⟨p,0,none⟩)] w (DR X p c m F w):=by
 have hpl:p<w.heap.size:=aO hr
 have hh : ∀ (P:Nat→Prop),0<m.busy.length→P m.home:=fun P hl=>by rw [hbz] at hl;cases hl
 have HH:=zH hh
 have H0:=zH (zA hr (zA h hp))
 have HK:=zH hk
 have HX:=zH hX
 obtain ⟨c0,c1,c2,c3,c4,cf⟩:=mq hr
 clear hr h hp hbz hk hh hX
 go_enter func35,ntmps35
 go_upto_region 0 with fail
 go_region_with (first
  | (go_at_call 66;refine (HK.out _ (au zR)).mono ?_;rintro e w1 ⟨x,rfl,rfl⟩)
  | (go_at_call 65;refine (GF p 4 z _ w.drew c4 (cf 4)).mono ?_;rintro e w1 ⟨y,rfl,rfl⟩))
 have tA:Touch (aN p) w (w.setCell ⟨p,4,none⟩ (.int .i64 y)).drew:=((Touch.refl (aN p) w).set p 4 _ rfl).drew
 have rA:jD (w.setCell ⟨p,4,none⟩ (.int .i64 y)).drew p c ko bo so y:=aa (au zR) (az H0.out.1)
 have hA:=H0.out.2.1.fA tA (fun b hb e=>H0.out.2.2 (by rw [← show b=p from e];exact hb)) (HH.out (fun i => ¬ aN p i))
 have HA:=zH (zA tA (zA rA hA))
 clear c0 c1 c2 c3 c4 cf tA rA hA
 generalize (w.setCell ⟨p,4,none⟩ (.int .i64 y)).drew=wA at *
 obtain ⟨c0,c1,c2,c3,c4,cf⟩:=mq HA.out.2.1
 have HN:=zH (yv (X:=X) c m F wA HA.out.2.2 (fun i hi=>zV (HX.out i hi) HA.out.1.size))
 go_upto_region 2 with (go_at_call 67;refine HN.out.mono ?_;rintro e w1 ⟨k,G,rfl,hkl,hc,hG,hb1⟩;obtain ⟨d0,d1,d2,d3,d4,df⟩:=mq (aa hb1 HA.out.2.1))
 have hpA:p<wA.heap.size:=aO HA.out.2.1
 have hnG : ∀ i,aN p i → ¬ G i:=fun i e hi=>by
  rw [show i=p from e] at hi
  rcases hG p hi with h | h
  ·
   exact H0.out.2.2 h
  ·
   omega
 have tB:Touch (aN p) w1 (w1.setCell ⟨p,1,none⟩ (.pointer (some ⟨k,0,none⟩))):=(Touch.refl (aN p) w1).set p 1 _ rfl
 have rB:jD (w1.setCell ⟨p,1,none⟩ (.pointer (some ⟨k,0,none⟩))) p c (some ⟨k,0,none⟩) bo so y:=az (aa hb1 HA.out.2.1)
 have hB:=hc.fA tB hnG (HH.out (fun i => ¬ aN p i)) (fun i e _=>.inl (by rw [show i=p from e];exact jD.odd (aa hb1 HA.out.2.1)))
 have HB:=zH (zA ((HA.out.1.qT hb1).trans tB) (zA rB (zA hB (zA hG (zA hkl hnG)))))
 clear c0 c1 c2 c3 c4 cf d0 d1 d2 d3 d4 df tB rB hB hc hb1 hG hkl hnG
 generalize w1.setCell ⟨p,1,none⟩ (.pointer (some ⟨k,0,none⟩))=wB at *
 obtain ⟨c0,c1,c2,c3,c4,cf⟩:=mq HB.out.2.1
 have HNW:=zH (vq k wB)
 go_upto_region 3 with (go_at_call 68;refine HNW.out.mono ?_;rintro e w2 ⟨b,rfl,hbl,hw,hb2⟩;obtain ⟨d0,d1,d2,d3,d4,df⟩:=mq (aa hb2 HB.out.2.1))
 have hpB:p<wB.heap.size:=aO HB.out.2.1
 have tC:Touch (aN p) w2 (w2.setCell ⟨p,2,none⟩ (.pointer (some ⟨b,0,none⟩))):=(Touch.refl (aN p) w2).set p 2 _ rfl
 have rC:jD (w2.setCell ⟨p,2,none⟩ (.pointer (some ⟨b,0,none⟩))) p c (some ⟨k,0,none⟩) (some ⟨b,0,none⟩) so y:=az (aa hb2 HB.out.2.1)
 have hC0:fh X w2 k c b (aG.new m) Cache.new (fun i=>G i∨i=b):=⟨⟨G,HB.out.2.2.1.aj hb2,hw.mono (fun i hi=>hi.elim (fun hg=>HB.out.2.2.1.lt i hg) (fun h=>zV (HX.out i h) HB.out.1.size)),fun i=>Iff.rfl,HH.out (fun i=>i≠b)⟩⟩
 have hnb : ¬ (G p∨p=b):=fun h=>h.elim (fun h=>HB.out.2.2.2.2.2 p rfl h) (fun h=>by omega)
 have hC:=hC0.odd tC hnb (jD.odd (aa hb2 HB.out.2.1)) (HH.out (fun i=>i≠p))
 have HC:=zH (zA ((HB.out.1.qT hb2).trans tC) (zA rC (zA hC (zA hnb hbl))))
 clear c0 c1 c2 c3 c4 cf d0 d1 d2 d3 d4 df tC rC hC hC0 hb2 hbl hw hnb
 generalize w2.setCell ⟨p,2,none⟩ (.pointer (some ⟨b,0,none⟩))=wC at *
 obtain ⟨c0,c1,c2,c3,c4,cf⟩:=mq HC.out.2.1
 have HS:=zH (fun w' (hb:Below wC.heap.size wC w')=>yb k c b (aG.new m) Cache.new _ w' (HC.out.2.2.1.aj hb) (HH.out (fun i=>i<w'.heap.size)))
 have HD:=zH (fun w' (hb:Below wC.heap.size wC w')=>mq (aa hb HC.out.2.1))
 go_region_with (go_at_call 69;refine (HS.out _ (au zR)).mono ?_;rintro e w3 ⟨s,rfl,hs,hb3,hsl⟩;obtain ⟨d0,d1,d2,d3,d4,df⟩:=HD.out w3 (gtr (au (Below.refl wC.heap.size wC)) hb3))
 all_goals
  go_end0
  have hb4:=gtr (au (Below.refl wC.heap.size wC)) hb3
  have hpC:p<wC.heap.size:=aO HC.out.2.1
  have hsl':wC.heap.size≤s:=hsl
  have hnM : ¬ bS s (fun i=>G i∨i=b) p:=fun h=>h.elim HC.out.2.2.2.1 (fun e=>by omega)
  have tD:Touch (aN p) w3 (w3.setCell ⟨p,3,none⟩ (.pointer (some ⟨s,0,none⟩))):=(Touch.refl (aN p) w3).set p 3 _ rfl
  refine ⟨rfl,s,k,b,_,y,az (aa hb4 HC.out.2.1),hs.LK tD hnM (jD.odd (aa hb4 HC.out.2.1)) (HH.out (fun i=>i≠p)),hnM,(HC.out.1.qT hb4).trans tD,fun i hi => ?_⟩
  have z1:=HA.out.1.size
  have z2:=HB.out.1.size
  have z3:=HC.out.1.size
  rcases hi with (hi | hi) | hi
  ·
   rcases HB.out.2.2.2.1 i hi with h | h
   ·
    exact .inl h
   ·
    have:=HB.out.2.2.2.2.1
    omega
  ·
   have:=HC.out.2.2.2.2
   omega
  ·
   omega
end
end Go.Proofs.YtcfdenckiigdaaaGreat

/- Part 40 of the contracts. -/
import Derived.Test.YtcfdenckiigdaaaGreatFl39
set_option linter.unusedVariables false
set_option maxRecDepth 100000
set_option maxHeartbeats 4000000
namespace Go.Proofs.YtcfdenckiigdaaaGreat
open Tryz
section
open Go.RowKit Go.ChangeMaps
def hasB (s:ByteArray) (c:UInt8):Bool:=decide (0≤Lib.indexByte s.data.toList c)
def qP (x:cd):List (UInt8×Bool):=[(107,!x.key.toList.isEmpty),(118,!x.value.toList.isEmpty),(114,decide (0<x.reads.length)),(98,x.at_ != 0 || x.width != 0),(108,x.cm != 0 || decide (0<x.busy.length))]
def qc (x:cd):Bool:=(qP x).all fun p => !p.2 || hasB (ma x.kind) p.1
def ky (x:cd) (i:Nat):UInt8×Bool:=if i=6 then (107,!x.key.toList.isEmpty) else if i=12 then (118,!x.value.toList.isEmpty) else if i=19 then (114,decide (0<x.reads.length)) else if i=32 then (98,x.at_ != 0 || x.width != 0) else (108,x.cm != 0 || decide (0<x.busy.length))
def th:List Nat:=[6,12,19,32,46]
theorem jI {i:Nat} (h:i ∈ th):i=6∨i=12∨i=19∨i=32∨i=46:=by simpa [th] using h
theorem M0 (x:cd) {i j:Nat} (hi:i ∈ th) (hj:j ∈ th) (e:(ky x i).1=(ky x j).1):i=j:=by
 rcases jI hi with rfl | rfl | rfl | rfl | rfl <;> rcases jI hj with rfl | rfl | rfl | rfl | rfl <;> first | rfl | (simp [ky] at e)
theorem Lv (x:cd):qP x=th.map (ky x):=rfl
structure ox (x:cd) (w:World) (g:Nat) (done:List Nat) (wr:World):Prop where
 map:p6 wr g (done.map (ky x))
 below:Below w.heap.size w wr
 lt:g<wr.heap.size
 sub : ∀ i ∈ done,i ∈ th
theorem Cp {P:Program} {mty kt et:TypeId} (hm:P.underlying mty=some (.map kt et)) (hk:P.underlying kt=some .string) {x:cd} {w wr:World} {g:Nat} {done:List Nat} (h:ox x w g done wr) (hg:w.heap.size≤g) {i:Nat} (hi:i ∈ th) (hn:i ∉ done) {a:Act} {o:Oper} {m k v:Operand} (ho:o.op=.insert mty m k v) (h1:a.eval m=.map (some g)) (h2:a.eval k=.string ⟨#[(ky x i).1]⟩) (h3:a.eval v=.bool (ky x i).2) : ∃ w',(execOp a.eval o).run P wr=.ok .skip w'∧ox x w g (done++[i]) w':=by
 obtain ⟨w',e,h4,h5⟩:=h.map.insert hm hk (ky x i) (fun hmem=>by
  obtain ⟨q,hq,e⟩:=List.mem_map.1 hmem
  obtain ⟨j,hj,rfl⟩:=List.mem_map.1 hq
  rw [M0 x (h.sub j hj) hi e] at hj
  exact hn hj)
 have hb:=h5 _ _ h.below hg
 have hsz:=(h5 wr.heap.size wr zR)
 refine ⟨w',?_,⟨by rw [List.map_append];exact h4,hb,?_,fun j hj => ?_⟩⟩
 ·
  unfold execOp
  simp only [ho,h1,h2,h3,Sem.run_bind,e,Result.andThen]
  rfl
 ·
  obtain ⟨es,hes,_⟩:=h4.ex
  exact (Array.getElem?_eq_some_iff.1 hes).1
 ·
  rcases List.mem_append.1 hj with h | h'
  ·
   exact ox.sub ‹_› j h
  ·
   rw [List.mem_singleton.1 h'];exact hi
theorem cv {P:Program} {mty kt et:TypeId} (hm:P.underlying mty=some (.map kt et)) (hk:P.underlying kt=some .string) {x:cd} {w wr:World} {g:Nat} {done:List Nat} (h:ox x w g done wr) (hg:w.heap.size≤g) {i:Nat} (hi:i ∈ th) (hn:i ∉ done) {a:Act} {o:Oper} {m k v:Operand} (ho:o.op=.insert mty m k v) (h1:a.eval m=.map (some g)) (h2:a.eval k=.string ⟨#[(ky x i).1]⟩) (h3:a.eval v=.bool (ky x i).2) {S:World→Prop} (hS : ∀ w',Below w.heap.size w w'→S w') : ∃ w',(execOp a.eval o).run P wr=.ok .skip w'∧ox x w g (done++[i]) w'∧S w':=by
 obtain ⟨w',e1,e2⟩:=Cp hm hk h hg hi hn ho h1 h2 h3
 exact ⟨w',e1,e2,hS _ e2.below⟩
theorem vz {x:cd} {w wr:World} {g:Nat} {done:List Nat} (h:ox x w g done wr) (hall : ∀ i ∈ th,i ∈ done) : ∃ ps,p6 wr g ps∧(∀ q,q ∈ ps ↔ q ∈ qP x)∧Below w.heap.size w wr∧g<wr.heap.size:=by
 refine ⟨_,h.map,fun q => ?_,h.below,h.lt⟩
 rw [Lv,List.mem_map,List.mem_map]
 exact ⟨fun ⟨i,hi,e⟩=>⟨i,h.sub i hi,e⟩,fun ⟨i,hi,e⟩=>⟨i,hall i hi,e⟩⟩
theorem pL (x:cd) (w:World) {W:World} (hb:Below w.heap.size w W):ox x w W.heap.size [] (W.alloc (.map #[] 0)) :=
 ⟨⟨⟨#[],by show (W.heap.push _)[W.heap.size]? = _;simp,MapKept.stamped_empty 0,rfl⟩⟩,hb.trans ((Below.refl _ _).alloc zY _ |>.mono hb.size),by show _<(W.heap.push _).size;simp,fun _ h=>by cases h⟩
def Mv (T:ByteArray) (e:MapEntry):Prop := ∀ p:UInt8×Bool,e.key=.string ⟨#[p.1]⟩→e.val=.bool p.2→(!p.2 || hasB T p.1)=true
theorem JA {x:cd} {es:Array MapEntry} {ps:List (UInt8×Bool)} {seen:Array Nat} (hes:es.toList.map (fun e=>(e.key,e.val))=ps.map fun p=>(Value.string ⟨#[p.1]⟩,Value.bool p.2)) (hps : ∀ q,q ∈ ps ↔ q ∈ qP x) (hs : ∀ e ∈ es.toList,seen.contains e.born=true→Mv (ma x.kind) e) (h0:(leftOf es seen).size=0):qc x=true:=by
 unfold qc
 rw [List.all_eq_true]
 intro q hq
 have:(Value.string ⟨#[q.1]⟩,Value.bool q.2) ∈ ps.map fun p=>(Value.string ⟨#[p.1]⟩,Value.bool p.2):=List.mem_map.2 ⟨q,(hps q).2 hq,rfl⟩
 rw [← hes] at this
 obtain ⟨e,he,h1⟩:=List.mem_map.1 this
 simp only [Prod.mk.injEq] at h1
 refine hs e he ?_ q h1.1 h1.2
 cases hc:seen.contains e.born with
 | true=>rfl
 | false =>
  exfalso
  have hm:e ∈ leftOf es seen:=Array.mem_filter.2 ⟨by simpa using he,by rw [hc];rfl⟩
  rw [Array.eq_empty_of_size_eq_zero h0] at hm
  simp at hm
theorem K9 {x:cd} {p:UInt8×Bool} (hp:p ∈ qP x) (h1:p.2=true) (h2:hasB (ma x.kind) p.1=false):qc x=false:=by
 unfold qc
 rw [List.all_eq_false]
 exact ⟨p,hp,by rw [h1,h2];decide⟩
theorem Ln {T:ByteArray} {es:Array MapEntry} {seen:Array Nat} (hs : ∀ e ∈ es.toList,seen.contains e.born=true→Mv T e) (hn:(es.toList.map (·.born)).Nodup) {e:MapEntry} (he:e ∈ es.toList) (ho:Mv T e) : ∀ e' ∈ es.toList,(seen.push e.born).contains e'.born=true→Mv T e':=fun e' he' hc=>by
 rw [contains_push,Bool.or_eq_true] at hc
 rcases hc with hc | hc
 ·
  exact hs e' he' hc
 ·
  have h1:=find_born e es.toList hn he
  have h2:=find_born e' es.toList hn he'
  rw [beq_iff_eq.1 hc,h1] at h2
  obtain rfl:e=e':=by simpa using h2
  exact ho
theorem Mj {T:ByteArray} {e:MapEntry} {p:UInt8×Bool} (h1:e.key=.string ⟨#[p.1]⟩) (h2:e.val=.bool p.2) (h:(!p.2 || hasB T p.1)=true):Mv T e:=fun q h3 h4=>by
 rw [h1] at h3
 rw [h2] at h4
 simp only [Value.string.injEq,ByteArray.mk.injEq,Array.mk.injEq,List.cons.injEq,and_true] at h3
 simp only [Value.bool.injEq] at h4
 rw [← h3,← h4]
 exact h
theorem BN {N:Nat} {w0 w:World} (h:Below N w0 w) {r:Nat} (hr:N≤r) (o:Obj):Below N w0 (setBlock w r o) :=
 ⟨h.os,h.tape,h.output,by show _≤(w.heap.setIfInBounds r o).size;rw [Array.size_setIfInBounds];exact h.size,fun k hk=>by
  show (w.heap.setIfInBounds r o)[k]? = _
  rw [Array.getElem?_setIfInBounds_ne (by omega)]
  exact h.block k hk⟩
theorem I0 {w:World} {r:Nat} {o o':Obj} (h:w.heap[r]? = some o):(setBlock w r o').heap[r]? = some o':=by
 show (w.heap.setIfInBounds r o')[r]? = _
 rw [Array.getElem?_setIfInBounds,if_pos rfl,if_pos (Array.getElem?_eq_some_iff.1 h).1]
theorem I1 {w:World} {r g:Nat} (hne:r≠g) (o':Obj):(setBlock w r o').heap[g]? = w.heap[g]? := by
 show (w.heap.setIfInBounds r o')[g]? = _
 rw [Array.getElem?_setIfInBounds_ne hne]
def aJ (p:Nat) (x:cd) (ba:Option Addr) (bc:Nat) (ra:Option Addr) (rc:Nat) (W w':World):Prop:=w'.cell? ⟨p,1,none⟩=some (.string x.key)∧w'.cell? ⟨p,2,none⟩=some (.string x.value)∧w'.cell? ⟨p,3,none⟩=some (.int .i64 x.at_)∧w'.cell? ⟨p,4,none⟩=some (.int .i64 x.width)∧w'.cell? ⟨p,5,none⟩=some (.int .i64 x.cm)∧w'.cell? ⟨p,7,none⟩=some (.slice ba x.busy.length bc)∧w'.cell? ⟨p,8,none⟩=some (.slice ra x.reads.length rc)∧Below W.heap.size W w'
theorem Et (p:Nat) (x:cd) (ba:Option Addr) (bc:Nat) (ra:Option Addr) (rc:Nat) (w:World) (h:fV w p x ba bc ra rc):Calls prog 53 #[.pointer (some ⟨p,0,none⟩)] w fun e w'=>e=.returned (.bool (qc x))∧Below w.heap.size w w':=by
 have hl:p<w.heap.size:=(Array.getElem?_eq_some_iff.1 h).1
 have hS : ∀ w',Below w.heap.size w w'→aJ p x ba bc ra rc w w':=fun w' hb=>by
  have e:=fun i=>hb.cell (p:=⟨p,i,none⟩) hl
  exact ⟨(e 1).trans (cell_of h 1),(e 2).trans (cell_of h 2),(e 3).trans (cell_of h 3),(e 4).trans (cell_of h 4),(e 5).trans (cell_of h 5),(e 7).trans (cell_of h 7),(e 8).trans (cell_of h 8),hb⟩
 have HS:=zH hS
 have c0:w.cell? ⟨p,0,none⟩=some (.int .i64 x.kind):=cell_of h 0
 clear h hS
 go_enter func53,ntmps53
 go_upto_region 2 with (go_at_call 84;refine (CP _ _).mono ?_;rintro e w1 ⟨rfl,rfl⟩)
 go_cut [4] from 12 to 55 (fun v wx => ∃ g ps,v=.map (some g)∧p6 wx g ps∧(∀ q,q ∈ ps ↔ q ∈ qP x)∧Below w.heap.size w wx∧g<wx.heap.size)
 case first =>
  have hum:prog.underlying 171=some (.map 9 4):=by kernel_rfl
  have huk:prog.underlying 9=some .string:=by kernel_rfl
  rcases Bool.eq_false_or_eq_true (x.at_ != 0) with h1 | h1 <;> rcases Bool.eq_false_or_eq_true (x.cm != 0) with h2 | h2
  ·
   skip
   refine wp_region_noPanic ?_
   refine wp_region_held_drew (S:=aJ p x ba bc ra rc w) (by kernel_rfl) ?hS4000 (fun hHeld => ?_)
   case hS4000=>exact HS.out _ (au zR)
   refine tk 1 ?_ (hy:=by (intro w hSw;unfold aJ at hSw;go_simp;try with_reducible rfl))
   refine tk 2 ?_ (hy:=by (intro w hSw;unfold aJ at hSw;go_simp;try with_reducible rfl))
   refine tk 3 ?_ (hy:=by (intro w hSw;unfold aJ at hSw;go_simp;try with_reducible rfl))
   refine tk 4 ?_ (hy:=by (intro w hSw;unfold aJ at hSw;go_simp;try with_reducible rfl))
   refine tk 5 ?_ (hy:=by (intro w hSw;unfold aJ at hSw;go_simp;try with_reducible rfl))
   refine tk 7 ?_ (hy:=by (intro w hSw;unfold aJ at hSw;go_simp;try with_reducible rfl))
   refine tk 8 ?_ (hy:=by (intro w hSw;unfold aJ at hSw;go_simp;try with_reducible rfl))
   refine tk 9 ?_ (hy:=by (intro w hSw;unfold aJ at hSw;go_simp;try with_reducible rfl))
   refine tk 10 ?_ (hy:=by (intro w hSw;unfold aJ at hSw;go_simp;try with_reducible rfl))
   refine tk 11 ?_ (hy:=by (intro w hSw;unfold aJ at hSw;go_simp;try with_reducible rfl))
   refine tk 13 ?_ (hy:=by (intro w hSw;unfold aJ at hSw;go_simp;try with_reducible rfl))
   refine tk 14 ?_ (hy:=by (intro w hSw;unfold aJ at hSw;go_simp;try with_reducible rfl))
   refine tk 15 ?_ (hy:=by (intro w hSw;unfold aJ at hSw;go_simp;try with_reducible rfl))
   refine tk 16 ?_ (hy:=by (intro w hSw;unfold aJ at hSw;go_simp;try with_reducible rfl))
   refine tk 17 ?_ (hy:=by (intro w hSw;unfold aJ at hSw;go_simp;try with_reducible rfl))
   refine tk 18 ?_ (hy:=by (intro w hSw;unfold aJ at hSw;go_simp;try with_reducible rfl))
   refine tk 20 ?_ (hy:=by (intro w hSw;unfold aJ at hSw;go_simp;try with_reducible rfl))
   refine tk 21 ?_ (hy:=by (intro w hSw;unfold aJ at hSw;go_simp;try with_reducible rfl))
   refine tk 22 ?_ (hy:=by (intro w hSw;unfold aJ at hSw;go_simp;try with_reducible rfl))
   refine tk 23 ?_ (hy:=by (intro w hSw;unfold aJ at hSw;go_simp;try with_reducible rfl))
   refine tk 24 ?_ (hy:=by (intro w hSw;unfold aJ at hSw;go_simp;try with_reducible rfl))
   refine tk 25 ?_ (hy:=by (intro w hSw;unfold aJ at hSw;go_simp;try with_reducible rfl))
   refine tn 26 ?_
   refine tn 27 ?_
   refine tn 28 ?_
   refine tn 29 ?_
   refine tn 30 ?_
   refine tk 31 ?_ (hy:=by (intro w hSw;unfold aJ at hSw;go_simp;try with_reducible rfl))
   refine tk 33 ?_ (hy:=by (intro w hSw;unfold aJ at hSw;go_simp;try with_reducible rfl))
   refine tk 34 ?_ (hy:=by (intro w hSw;unfold aJ at hSw;go_simp;try with_reducible rfl))
   refine tk 35 ?_ (hy:=by (intro w hSw;unfold aJ at hSw;go_simp;try with_reducible rfl))
   refine tk 36 ?_ (hy:=by (intro w hSw;unfold aJ at hSw;go_simp;try with_reducible rfl))
   refine tk 37 ?_ (hy:=by (intro w hSw;unfold aJ at hSw;go_simp;try with_reducible rfl))
   refine tk 38 ?_ (hy:=by (intro w hSw;unfold aJ at hSw;go_simp;try with_reducible rfl))
   refine tn 39 ?_
   refine tn 40 ?_
   refine tn 41 ?_
   refine tn 42 ?_
   refine tn 43 ?_
   refine tn 44 ?_
   refine tk 45 ?_ (hy:=by (intro w hSw;unfold aJ at hSw;go_simp;try with_reducible rfl))
   refine tr 0 fun K hK => ?_
   go_simp
   refine hK.out _ _ ?hM4000 (fun hHeld2 => ?_)
   case hM4000=>exact HS.out _ (ae (au zR) _)
   clear hK K
   try simp only [Act.put,zS,zT,zU]
   refine lY (R:=th) (fin := #[true,true,true,true,true,true,true,true,true,true,true,true,true,true,true,true,true,true,true,true,true,true,true,true,true,true,true,true,true,true,true,true,true,true,true,true,true,true,true,true,true,true,true,true,true,true,true,false,false]) (fuel:=2) (by kernel_rfl) (by kernel_rfl) (by decide) (fun done wr=>ox x w w.drew.heap.size done wr) (fun done i wr o hi hn ho hI hSr => ?step11) (fun k done wr hall hI hSr => ?fin11) ?ini11 (by assumption)
   case ini11=>exact pL x w (au zR)
   case step11 =>
    have hg:w.heap.size≤w.drew.heap.size:=Nat.le_refl _
    rcases jI hi with rfl | rfl | rfl | rfl | rfl
    ·
     have ho2:some ⟨none,.insert 171 (.tmp 12) (.const (.string ⟨#[107]⟩)) (.tmp 17),0, "script.go:53",#[⟨0,.data⟩,⟨5,.data⟩],none⟩=some o:=ho
     obtain rfl:=Option.some.inj ho2
     refine ⟨by rfl,?_⟩
     refine cv hum huk hI hg hi hn rfl rfl rfl ?_ HS.out
     first | rfl | (unfold ky;rw [h1];rfl) | (unfold ky;rw [h2];rfl)
    ·
     have ho2:some ⟨none,.insert 171 (.tmp 12) (.const (.string ⟨#[118]⟩)) (.tmp 22),0, "script.go:53",#[⟨0,.data⟩,⟨11,.data⟩],none⟩=some o:=ho
     obtain rfl:=Option.some.inj ho2
     refine ⟨by rfl,?_⟩
     refine cv hum huk hI hg hi hn rfl rfl rfl ?_ HS.out
     first | rfl | (unfold ky;rw [h1];rfl) | (unfold ky;rw [h2];rfl)
    ·
     have ho2:some ⟨none,.insert 171 (.tmp 12) (.const (.string ⟨#[114]⟩)) (.tmp 28),0, "script.go:53",#[⟨0,.data⟩,⟨18,.data⟩],none⟩=some o:=ho
     obtain rfl:=Option.some.inj ho2
     refine ⟨by rfl,?_⟩
     refine cv hum huk hI hg hi hn rfl rfl rfl ?_ HS.out
     first | rfl | (unfold ky;rw [h1];rfl) | (unfold ky;rw [h2];rfl)
    ·
     have ho2:some ⟨none,.insert 171 (.tmp 12) (.const (.string ⟨#[98]⟩)) (.tmp 40),0, "script.go:53",#[⟨0,.data⟩,⟨31,.data⟩],none⟩=some o:=ho
     obtain rfl:=Option.some.inj ho2
     refine ⟨by rfl,?_⟩
     refine cv hum huk hI hg hi hn rfl rfl rfl ?_ HS.out
     first | rfl | (unfold ky;rw [h1];rfl) | (unfold ky;rw [h2];rfl)
    ·
     have ho2:some ⟨none,.insert 171 (.tmp 12) (.const (.string ⟨#[108]⟩)) (.tmp 53),0, "script.go:53",#[⟨0,.data⟩,⟨45,.data⟩],none⟩=some o:=ho
     obtain rfl:=Option.some.inj ho2
     refine ⟨by rfl,?_⟩
     refine cv hum huk hI hg hi hn rfl rfl rfl ?_ HS.out
     first | rfl | (unfold ky;rw [h1];rfl) | (unfold ky;rw [h2];rfl)
   case fin11 =>
    refine tk 47 ?_ (hy:=by (intro w hSw;clear hSw;go_simp;try with_reducible rfl))
    refine tk 48 ?_ (hy:=by (intro w hSw;clear hSw;go_simp;try with_reducible rfl))
    refine wpAnyH_done (by kernel_rfl) ?_ _
    refine NoPanic.normal ?_
    go_wp2
    go_meet
    obtain ⟨ps,i1,i2,i3,i4⟩:=vz hI hall
    exact ⟨_,ps,rfl,i1,i2,i3,i4⟩
  ·
   skip
   refine wp_region_noPanic ?_
   refine wp_region_held_drew (S:=aJ p x ba bc ra rc w) (by kernel_rfl) ?hS3000 (fun hHeld => ?_)
   case hS3000=>exact HS.out _ (au zR)
   refine tk 1 ?_ (hy:=by (intro w hSw;unfold aJ at hSw;go_simp;try with_reducible rfl))
   refine tk 2 ?_ (hy:=by (intro w hSw;unfold aJ at hSw;go_simp;try with_reducible rfl))
   refine tk 3 ?_ (hy:=by (intro w hSw;unfold aJ at hSw;go_simp;try with_reducible rfl))
   refine tk 4 ?_ (hy:=by (intro w hSw;unfold aJ at hSw;go_simp;try with_reducible rfl))
   refine tk 5 ?_ (hy:=by (intro w hSw;unfold aJ at hSw;go_simp;try with_reducible rfl))
   refine tk 7 ?_ (hy:=by (intro w hSw;unfold aJ at hSw;go_simp;try with_reducible rfl))
   refine tk 8 ?_ (hy:=by (intro w hSw;unfold aJ at hSw;go_simp;try with_reducible rfl))
   refine tk 9 ?_ (hy:=by (intro w hSw;unfold aJ at hSw;go_simp;try with_reducible rfl))
   refine tk 10 ?_ (hy:=by (intro w hSw;unfold aJ at hSw;go_simp;try with_reducible rfl))
   refine tk 11 ?_ (hy:=by (intro w hSw;unfold aJ at hSw;go_simp;try with_reducible rfl))
   refine tk 13 ?_ (hy:=by (intro w hSw;unfold aJ at hSw;go_simp;try with_reducible rfl))
   refine tk 14 ?_ (hy:=by (intro w hSw;unfold aJ at hSw;go_simp;try with_reducible rfl))
   refine tk 15 ?_ (hy:=by (intro w hSw;unfold aJ at hSw;go_simp;try with_reducible rfl))
   refine tk 16 ?_ (hy:=by (intro w hSw;unfold aJ at hSw;go_simp;try with_reducible rfl))
   refine tk 17 ?_ (hy:=by (intro w hSw;unfold aJ at hSw;go_simp;try with_reducible rfl))
   refine tk 18 ?_ (hy:=by (intro w hSw;unfold aJ at hSw;go_simp;try with_reducible rfl))
   refine tk 20 ?_ (hy:=by (intro w hSw;unfold aJ at hSw;go_simp;try with_reducible rfl))
   refine tk 21 ?_ (hy:=by (intro w hSw;unfold aJ at hSw;go_simp;try with_reducible rfl))
   refine tk 22 ?_ (hy:=by (intro w hSw;unfold aJ at hSw;go_simp;try with_reducible rfl))
   refine tk 23 ?_ (hy:=by (intro w hSw;unfold aJ at hSw;go_simp;try with_reducible rfl))
   refine tk 24 ?_ (hy:=by (intro w hSw;unfold aJ at hSw;go_simp;try with_reducible rfl))
   refine tk 25 ?_ (hy:=by (intro w hSw;unfold aJ at hSw;go_simp;try with_reducible rfl))
   refine tn 26 ?_
   refine tn 27 ?_
   refine tn 28 ?_
   refine tn 29 ?_
   refine tn 30 ?_
   refine tk 31 ?_ (hy:=by (intro w hSw;unfold aJ at hSw;go_simp;try with_reducible rfl))
   refine tk 33 ?_ (hy:=by (intro w hSw;unfold aJ at hSw;go_simp;try with_reducible rfl))
   refine tk 34 ?_ (hy:=by (intro w hSw;unfold aJ at hSw;go_simp;try with_reducible rfl))
   refine tk 35 ?_ (hy:=by (intro w hSw;unfold aJ at hSw;go_simp;try with_reducible rfl))
   refine tk 36 ?_ (hy:=by (intro w hSw;unfold aJ at hSw;go_simp;try with_reducible rfl))
   refine tk 37 ?_ (hy:=by (intro w hSw;unfold aJ at hSw;go_simp;try with_reducible rfl))
   refine tk 38 ?_ (hy:=by (intro w hSw;unfold aJ at hSw;go_simp;try with_reducible rfl))
   refine tk 39 ?_ (hy:=by (intro w hSw;unfold aJ at hSw;go_simp;try with_reducible rfl))
   refine tk 40 ?_ (hy:=by (intro w hSw;unfold aJ at hSw;go_simp;try with_reducible rfl))
   refine tk 41 ?_ (hy:=by (intro w hSw;unfold aJ at hSw;go_simp;try with_reducible rfl))
   refine tk 42 ?_ (hy:=by (intro w hSw;unfold aJ at hSw;go_simp;try with_reducible rfl))
   refine tk 43 ?_ (hy:=by (intro w hSw;unfold aJ at hSw;go_simp;try with_reducible rfl))
   refine tk 44 ?_ (hy:=by (intro w hSw;unfold aJ at hSw;go_simp;try with_reducible rfl))
   refine tk 45 ?_ (hy:=by (intro w hSw;unfold aJ at hSw;go_simp;try with_reducible rfl))
   refine tr 0 fun K hK => ?_
   go_simp
   refine hK.out _ _ ?hM3000 (fun hHeld2 => ?_)
   case hM3000=>exact HS.out _ (ae (au zR) _)
   clear hK K
   try simp only [Act.put,zS,zT,zU]
   refine lY (R:=th) (fin := #[true,true,true,true,true,true,true,true,true,true,true,true,true,true,true,true,true,true,true,true,true,true,true,true,true,true,true,true,true,true,true,true,true,true,true,true,true,true,true,true,true,true,true,true,true,true,true,false,false]) (fuel:=2) (by kernel_rfl) (by kernel_rfl) (by decide) (fun done wr=>ox x w w.drew.heap.size done wr) (fun done i wr o hi hn ho hI hSr => ?step10) (fun k done wr hall hI hSr => ?fin10) ?ini10 (by assumption)
   case ini10=>exact pL x w (au zR)
   case step10 =>
    have hg:w.heap.size≤w.drew.heap.size:=Nat.le_refl _
    rcases jI hi with rfl | rfl | rfl | rfl | rfl
    ·
     have ho2:some ⟨none,.insert 171 (.tmp 12) (.const (.string ⟨#[107]⟩)) (.tmp 17),0, "script.go:53",#[⟨0,.data⟩,⟨5,.data⟩],none⟩=some o:=ho
     obtain rfl:=Option.some.inj ho2
     refine ⟨by rfl,?_⟩
     refine cv hum huk hI hg hi hn rfl rfl rfl ?_ HS.out
     first | rfl | (unfold ky;rw [h1];rfl) | (unfold ky;rw [h2];rfl)
    ·
     have ho2:some ⟨none,.insert 171 (.tmp 12) (.const (.string ⟨#[118]⟩)) (.tmp 22),0, "script.go:53",#[⟨0,.data⟩,⟨11,.data⟩],none⟩=some o:=ho
     obtain rfl:=Option.some.inj ho2
     refine ⟨by rfl,?_⟩
     refine cv hum huk hI hg hi hn rfl rfl rfl ?_ HS.out
     first | rfl | (unfold ky;rw [h1];rfl) | (unfold ky;rw [h2];rfl)
    ·
     have ho2:some ⟨none,.insert 171 (.tmp 12) (.const (.string ⟨#[114]⟩)) (.tmp 28),0, "script.go:53",#[⟨0,.data⟩,⟨18,.data⟩],none⟩=some o:=ho
     obtain rfl:=Option.some.inj ho2
     refine ⟨by rfl,?_⟩
     refine cv hum huk hI hg hi hn rfl rfl rfl ?_ HS.out
     first | rfl | (unfold ky;rw [h1];rfl) | (unfold ky;rw [h2];rfl)
    ·
     have ho2:some ⟨none,.insert 171 (.tmp 12) (.const (.string ⟨#[98]⟩)) (.tmp 40),0, "script.go:53",#[⟨0,.data⟩,⟨31,.data⟩],none⟩=some o:=ho
     obtain rfl:=Option.some.inj ho2
     refine ⟨by rfl,?_⟩
     refine cv hum huk hI hg hi hn rfl rfl rfl ?_ HS.out
     first | rfl | (unfold ky;rw [h1];rfl) | (unfold ky;rw [h2];rfl)
    ·
     have ho2:some ⟨none,.insert 171 (.tmp 12) (.const (.string ⟨#[108]⟩)) (.tmp 53),0, "script.go:53",#[⟨0,.data⟩,⟨45,.data⟩],none⟩=some o:=ho
     obtain rfl:=Option.some.inj ho2
     refine ⟨by rfl,?_⟩
     refine cv hum huk hI hg hi hn rfl rfl rfl ?_ HS.out
     first | rfl | (unfold ky;rw [h1];rfl) | (unfold ky;rw [h2];rfl)
   case fin10 =>
    refine tk 47 ?_ (hy:=by (intro w hSw;clear hSw;go_simp;try with_reducible rfl))
    refine tk 48 ?_ (hy:=by (intro w hSw;clear hSw;go_simp;try with_reducible rfl))
    refine wpAnyH_done (by kernel_rfl) ?_ _
    refine NoPanic.normal ?_
    go_wp2
    go_meet
    obtain ⟨ps,i1,i2,i3,i4⟩:=vz hI hall
    exact ⟨_,ps,rfl,i1,i2,i3,i4⟩
  ·
   skip
   refine wp_region_noPanic ?_
   refine wp_region_held_drew (S:=aJ p x ba bc ra rc w) (by kernel_rfl) ?hS2000 (fun hHeld => ?_)
   case hS2000=>exact HS.out _ (au zR)
   refine tk 1 ?_ (hy:=by (intro w hSw;unfold aJ at hSw;go_simp;try with_reducible rfl))
   refine tk 2 ?_ (hy:=by (intro w hSw;unfold aJ at hSw;go_simp;try with_reducible rfl))
   refine tk 3 ?_ (hy:=by (intro w hSw;unfold aJ at hSw;go_simp;try with_reducible rfl))
   refine tk 4 ?_ (hy:=by (intro w hSw;unfold aJ at hSw;go_simp;try with_reducible rfl))
   refine tk 5 ?_ (hy:=by (intro w hSw;unfold aJ at hSw;go_simp;try with_reducible rfl))
   refine tk 7 ?_ (hy:=by (intro w hSw;unfold aJ at hSw;go_simp;try with_reducible rfl))
   refine tk 8 ?_ (hy:=by (intro w hSw;unfold aJ at hSw;go_simp;try with_reducible rfl))
   refine tk 9 ?_ (hy:=by (intro w hSw;unfold aJ at hSw;go_simp;try with_reducible rfl))
   refine tk 10 ?_ (hy:=by (intro w hSw;unfold aJ at hSw;go_simp;try with_reducible rfl))
   refine tk 11 ?_ (hy:=by (intro w hSw;unfold aJ at hSw;go_simp;try with_reducible rfl))
   refine tk 13 ?_ (hy:=by (intro w hSw;unfold aJ at hSw;go_simp;try with_reducible rfl))
   refine tk 14 ?_ (hy:=by (intro w hSw;unfold aJ at hSw;go_simp;try with_reducible rfl))
   refine tk 15 ?_ (hy:=by (intro w hSw;unfold aJ at hSw;go_simp;try with_reducible rfl))
   refine tk 16 ?_ (hy:=by (intro w hSw;unfold aJ at hSw;go_simp;try with_reducible rfl))
   refine tk 17 ?_ (hy:=by (intro w hSw;unfold aJ at hSw;go_simp;try with_reducible rfl))
   refine tk 18 ?_ (hy:=by (intro w hSw;unfold aJ at hSw;go_simp;try with_reducible rfl))
   refine tk 20 ?_ (hy:=by (intro w hSw;unfold aJ at hSw;go_simp;try with_reducible rfl))
   refine tk 21 ?_ (hy:=by (intro w hSw;unfold aJ at hSw;go_simp;try with_reducible rfl))
   refine tk 22 ?_ (hy:=by (intro w hSw;unfold aJ at hSw;go_simp;try with_reducible rfl))
   refine tk 23 ?_ (hy:=by (intro w hSw;unfold aJ at hSw;go_simp;try with_reducible rfl))
   refine tk 24 ?_ (hy:=by (intro w hSw;unfold aJ at hSw;go_simp;try with_reducible rfl))
   refine tk 25 ?_ (hy:=by (intro w hSw;unfold aJ at hSw;go_simp;try with_reducible rfl))
   refine tk 26 ?_ (hy:=by (intro w hSw;unfold aJ at hSw;go_simp;try with_reducible rfl))
   refine tk 27 ?_ (hy:=by (intro w hSw;unfold aJ at hSw;go_simp;try with_reducible rfl))
   refine tk 28 ?_ (hy:=by (intro w hSw;unfold aJ at hSw;go_simp;try with_reducible rfl))
   refine tk 29 ?_ (hy:=by (intro w hSw;unfold aJ at hSw;go_simp;try with_reducible rfl))
   refine tk 30 ?_ (hy:=by (intro w hSw;unfold aJ at hSw;go_simp;try with_reducible rfl))
   refine tk 31 ?_ (hy:=by (intro w hSw;unfold aJ at hSw;go_simp;try with_reducible rfl))
   refine tk 33 ?_ (hy:=by (intro w hSw;unfold aJ at hSw;go_simp;try with_reducible rfl))
   refine tk 34 ?_ (hy:=by (intro w hSw;unfold aJ at hSw;go_simp;try with_reducible rfl))
   refine tk 35 ?_ (hy:=by (intro w hSw;unfold aJ at hSw;go_simp;try with_reducible rfl))
   refine tk 36 ?_ (hy:=by (intro w hSw;unfold aJ at hSw;go_simp;try with_reducible rfl))
   refine tk 37 ?_ (hy:=by (intro w hSw;unfold aJ at hSw;go_simp;try with_reducible rfl))
   refine tk 38 ?_ (hy:=by (intro w hSw;unfold aJ at hSw;go_simp;try with_reducible rfl))
   refine tn 39 ?_
   refine tn 40 ?_
   refine tn 41 ?_
   refine tn 42 ?_
   refine tn 43 ?_
   refine tn 44 ?_
   refine tk 45 ?_ (hy:=by (intro w hSw;unfold aJ at hSw;go_simp;try with_reducible rfl))
   refine tr 0 fun K hK => ?_
   go_simp
   refine hK.out _ _ ?hM2000 (fun hHeld2 => ?_)
   case hM2000=>exact HS.out _ (ae (au zR) _)
   clear hK K
   try simp only [Act.put,zS,zT,zU]
   refine lY (R:=th) (fin := #[true,true,true,true,true,true,true,true,true,true,true,true,true,true,true,true,true,true,true,true,true,true,true,true,true,true,true,true,true,true,true,true,true,true,true,true,true,true,true,true,true,true,true,true,true,true,true,false,false]) (fuel:=2) (by kernel_rfl) (by kernel_rfl) (by decide) (fun done wr=>ox x w w.drew.heap.size done wr) (fun done i wr o hi hn ho hI hSr => ?step01) (fun k done wr hall hI hSr => ?fin01) ?ini01 (by assumption)
   case ini01=>exact pL x w (au zR)
   case step01 =>
    have hg:w.heap.size≤w.drew.heap.size:=Nat.le_refl _
    rcases jI hi with rfl | rfl | rfl | rfl | rfl
    ·
     have ho2:some ⟨none,.insert 171 (.tmp 12) (.const (.string ⟨#[107]⟩)) (.tmp 17),0, "script.go:53",#[⟨0,.data⟩,⟨5,.data⟩],none⟩=some o:=ho
     obtain rfl:=Option.some.inj ho2
     refine ⟨by rfl,?_⟩
     refine cv hum huk hI hg hi hn rfl rfl rfl ?_ HS.out
     first | rfl | (unfold ky;rw [h1];rfl) | (unfold ky;rw [h2];rfl)
    ·
     have ho2:some ⟨none,.insert 171 (.tmp 12) (.const (.string ⟨#[118]⟩)) (.tmp 22),0, "script.go:53",#[⟨0,.data⟩,⟨11,.data⟩],none⟩=some o:=ho
     obtain rfl:=Option.some.inj ho2
     refine ⟨by rfl,?_⟩
     refine cv hum huk hI hg hi hn rfl rfl rfl ?_ HS.out
     first | rfl | (unfold ky;rw [h1];rfl) | (unfold ky;rw [h2];rfl)
    ·
     have ho2:some ⟨none,.insert 171 (.tmp 12) (.const (.string ⟨#[114]⟩)) (.tmp 28),0, "script.go:53",#[⟨0,.data⟩,⟨18,.data⟩],none⟩=some o:=ho
     obtain rfl:=Option.some.inj ho2
     refine ⟨by rfl,?_⟩
     refine cv hum huk hI hg hi hn rfl rfl rfl ?_ HS.out
     first | rfl | (unfold ky;rw [h1];rfl) | (unfold ky;rw [h2];rfl)
    ·
     have ho2:some ⟨none,.insert 171 (.tmp 12) (.const (.string ⟨#[98]⟩)) (.tmp 40),0, "script.go:53",#[⟨0,.data⟩,⟨31,.data⟩],none⟩=some o:=ho
     obtain rfl:=Option.some.inj ho2
     refine ⟨by rfl,?_⟩
     refine cv hum huk hI hg hi hn rfl rfl rfl ?_ HS.out
     first | rfl | (unfold ky;rw [h1];rfl) | (unfold ky;rw [h2];rfl)
    ·
     have ho2:some ⟨none,.insert 171 (.tmp 12) (.const (.string ⟨#[108]⟩)) (.tmp 53),0, "script.go:53",#[⟨0,.data⟩,⟨45,.data⟩],none⟩=some o:=ho
     obtain rfl:=Option.some.inj ho2
     refine ⟨by rfl,?_⟩
     refine cv hum huk hI hg hi hn rfl rfl rfl ?_ HS.out
     first | rfl | (unfold ky;rw [h1];rfl) | (unfold ky;rw [h2];rfl)
   case fin01 =>
    refine tk 47 ?_ (hy:=by (intro w hSw;clear hSw;go_simp;try with_reducible rfl))
    refine tk 48 ?_ (hy:=by (intro w hSw;clear hSw;go_simp;try with_reducible rfl))
    refine wpAnyH_done (by kernel_rfl) ?_ _
    refine NoPanic.normal ?_
    go_wp2
    go_meet
    obtain ⟨ps,i1,i2,i3,i4⟩:=vz hI hall
    exact ⟨_,ps,rfl,i1,i2,i3,i4⟩
  ·
   skip
   refine wp_region_noPanic ?_
   refine wp_region_held_drew (S:=aJ p x ba bc ra rc w) (by kernel_rfl) ?hS1000 (fun hHeld => ?_)
   case hS1000=>exact HS.out _ (au zR)
   refine tk 1 ?_ (hy:=by (intro w hSw;unfold aJ at hSw;go_simp;try with_reducible rfl))
   refine tk 2 ?_ (hy:=by (intro w hSw;unfold aJ at hSw;go_simp;try with_reducible rfl))
   refine tk 3 ?_ (hy:=by (intro w hSw;unfold aJ at hSw;go_simp;try with_reducible rfl))
   refine tk 4 ?_ (hy:=by (intro w hSw;unfold aJ at hSw;go_simp;try with_reducible rfl))
   refine tk 5 ?_ (hy:=by (intro w hSw;unfold aJ at hSw;go_simp;try with_reducible rfl))
   refine tk 7 ?_ (hy:=by (intro w hSw;unfold aJ at hSw;go_simp;try with_reducible rfl))
   refine tk 8 ?_ (hy:=by (intro w hSw;unfold aJ at hSw;go_simp;try with_reducible rfl))
   refine tk 9 ?_ (hy:=by (intro w hSw;unfold aJ at hSw;go_simp;try with_reducible rfl))
   refine tk 10 ?_ (hy:=by (intro w hSw;unfold aJ at hSw;go_simp;try with_reducible rfl))
   refine tk 11 ?_ (hy:=by (intro w hSw;unfold aJ at hSw;go_simp;try with_reducible rfl))
   refine tk 13 ?_ (hy:=by (intro w hSw;unfold aJ at hSw;go_simp;try with_reducible rfl))
   refine tk 14 ?_ (hy:=by (intro w hSw;unfold aJ at hSw;go_simp;try with_reducible rfl))
   refine tk 15 ?_ (hy:=by (intro w hSw;unfold aJ at hSw;go_simp;try with_reducible rfl))
   refine tk 16 ?_ (hy:=by (intro w hSw;unfold aJ at hSw;go_simp;try with_reducible rfl))
   refine tk 17 ?_ (hy:=by (intro w hSw;unfold aJ at hSw;go_simp;try with_reducible rfl))
   refine tk 18 ?_ (hy:=by (intro w hSw;unfold aJ at hSw;go_simp;try with_reducible rfl))
   refine tk 20 ?_ (hy:=by (intro w hSw;unfold aJ at hSw;go_simp;try with_reducible rfl))
   refine tk 21 ?_ (hy:=by (intro w hSw;unfold aJ at hSw;go_simp;try with_reducible rfl))
   refine tk 22 ?_ (hy:=by (intro w hSw;unfold aJ at hSw;go_simp;try with_reducible rfl))
   refine tk 23 ?_ (hy:=by (intro w hSw;unfold aJ at hSw;go_simp;try with_reducible rfl))
   refine tk 24 ?_ (hy:=by (intro w hSw;unfold aJ at hSw;go_simp;try with_reducible rfl))
   refine tk 25 ?_ (hy:=by (intro w hSw;unfold aJ at hSw;go_simp;try with_reducible rfl))
   refine tk 26 ?_ (hy:=by (intro w hSw;unfold aJ at hSw;go_simp;try with_reducible rfl))
   refine tk 27 ?_ (hy:=by (intro w hSw;unfold aJ at hSw;go_simp;try with_reducible rfl))
   refine tk 28 ?_ (hy:=by (intro w hSw;unfold aJ at hSw;go_simp;try with_reducible rfl))
   refine tk 29 ?_ (hy:=by (intro w hSw;unfold aJ at hSw;go_simp;try with_reducible rfl))
   refine tk 30 ?_ (hy:=by (intro w hSw;unfold aJ at hSw;go_simp;try with_reducible rfl))
   refine tk 31 ?_ (hy:=by (intro w hSw;unfold aJ at hSw;go_simp;try with_reducible rfl))
   refine tk 33 ?_ (hy:=by (intro w hSw;unfold aJ at hSw;go_simp;try with_reducible rfl))
   refine tk 34 ?_ (hy:=by (intro w hSw;unfold aJ at hSw;go_simp;try with_reducible rfl))
   refine tk 35 ?_ (hy:=by (intro w hSw;unfold aJ at hSw;go_simp;try with_reducible rfl))
   refine tk 36 ?_ (hy:=by (intro w hSw;unfold aJ at hSw;go_simp;try with_reducible rfl))
   refine tk 37 ?_ (hy:=by (intro w hSw;unfold aJ at hSw;go_simp;try with_reducible rfl))
   refine tk 38 ?_ (hy:=by (intro w hSw;unfold aJ at hSw;go_simp;try with_reducible rfl))
   refine tk 39 ?_ (hy:=by (intro w hSw;unfold aJ at hSw;go_simp;try with_reducible rfl))
   refine tk 40 ?_ (hy:=by (intro w hSw;unfold aJ at hSw;go_simp;try with_reducible rfl))
   refine tk 41 ?_ (hy:=by (intro w hSw;unfold aJ at hSw;go_simp;try with_reducible rfl))
   refine tk 42 ?_ (hy:=by (intro w hSw;unfold aJ at hSw;go_simp;try with_reducible rfl))
   refine tk 43 ?_ (hy:=by (intro w hSw;unfold aJ at hSw;go_simp;try with_reducible rfl))
   refine tk 44 ?_ (hy:=by (intro w hSw;unfold aJ at hSw;go_simp;try with_reducible rfl))
   refine tk 45 ?_ (hy:=by (intro w hSw;unfold aJ at hSw;go_simp;try with_reducible rfl))
   refine tr 0 fun K hK => ?_
   go_simp
   refine hK.out _ _ ?hM1000 (fun hHeld2 => ?_)
   case hM1000=>exact HS.out _ (ae (au zR) _)
   clear hK K
   try simp only [Act.put,zS,zT,zU]
   refine lY (R:=th) (fin := #[true,true,true,true,true,true,true,true,true,true,true,true,true,true,true,true,true,true,true,true,true,true,true,true,true,true,true,true,true,true,true,true,true,true,true,true,true,true,true,true,true,true,true,true,true,true,true,false,false]) (fuel:=2) (by kernel_rfl) (by kernel_rfl) (by decide) (fun done wr=>ox x w w.drew.heap.size done wr) (fun done i wr o hi hn ho hI hSr => ?step00) (fun k done wr hall hI hSr => ?fin00) ?ini00 (by assumption)
   case ini00=>exact pL x w (au zR)
   case step00 =>
    have hg:w.heap.size≤w.drew.heap.size:=Nat.le_refl _
    rcases jI hi with rfl | rfl | rfl | rfl | rfl
    ·
     have ho2:some ⟨none,.insert 171 (.tmp 12) (.const (.string ⟨#[107]⟩)) (.tmp 17),0, "script.go:53",#[⟨0,.data⟩,⟨5,.data⟩],none⟩=some o:=ho
     obtain rfl:=Option.some.inj ho2
     refine ⟨by rfl,?_⟩
     refine cv hum huk hI hg hi hn rfl rfl rfl ?_ HS.out
     first | rfl | (unfold ky;rw [h1];rfl) | (unfold ky;rw [h2];rfl)
    ·
     have ho2:some ⟨none,.insert 171 (.tmp 12) (.const (.string ⟨#[118]⟩)) (.tmp 22),0, "script.go:53",#[⟨0,.data⟩,⟨11,.data⟩],none⟩=some o:=ho
     obtain rfl:=Option.some.inj ho2
     refine ⟨by rfl,?_⟩
     refine cv hum huk hI hg hi hn rfl rfl rfl ?_ HS.out
     first | rfl | (unfold ky;rw [h1];rfl) | (unfold ky;rw [h2];rfl)
    ·
     have ho2:some ⟨none,.insert 171 (.tmp 12) (.const (.string ⟨#[114]⟩)) (.tmp 28),0, "script.go:53",#[⟨0,.data⟩,⟨18,.data⟩],none⟩=some o:=ho
     obtain rfl:=Option.some.inj ho2
     refine ⟨by rfl,?_⟩
     refine cv hum huk hI hg hi hn rfl rfl rfl ?_ HS.out
     first | rfl | (unfold ky;rw [h1];rfl) | (unfold ky;rw [h2];rfl)
    ·
     have ho2:some ⟨none,.insert 171 (.tmp 12) (.const (.string ⟨#[98]⟩)) (.tmp 40),0, "script.go:53",#[⟨0,.data⟩,⟨31,.data⟩],none⟩=some o:=ho
     obtain rfl:=Option.some.inj ho2
     refine ⟨by rfl,?_⟩
     refine cv hum huk hI hg hi hn rfl rfl rfl ?_ HS.out
     first | rfl | (unfold ky;rw [h1];rfl) | (unfold ky;rw [h2];rfl)
    ·
     have ho2:some ⟨none,.insert 171 (.tmp 12) (.const (.string ⟨#[108]⟩)) (.tmp 53),0, "script.go:53",#[⟨0,.data⟩,⟨45,.data⟩],none⟩=some o:=ho
     obtain rfl:=Option.some.inj ho2
     refine ⟨by rfl,?_⟩
     refine cv hum huk hI hg hi hn rfl rfl rfl ?_ HS.out
     first | rfl | (unfold ky;rw [h1];rfl) | (unfold ky;rw [h2];rfl)
   case fin00 =>
    refine tk 47 ?_ (hy:=by (intro w hSw;clear hSw;go_simp;try with_reducible rfl))
    refine tk 48 ?_ (hy:=by (intro w hSw;clear hSw;go_simp;try with_reducible rfl))
    refine wpAnyH_done (by kernel_rfl) ?_ _
    refine NoPanic.normal ?_
    go_wp2
    go_meet
    obtain ⟨ps,i1,i2,i3,i4⟩:=vz hI hall
    exact ⟨_,ps,rfl,i1,i2,i3,i4⟩
 case rest =>
  obtain ⟨g,ps,rfl,hmap,hps,hbw,hgl⟩:=hcut
  obtain ⟨es,hb,hst,hes⟩:=hmap.ex
  have hrg:=run_range_map (P:=prog) wc 171 9 4 g es ps.length (by kernel_rfl) hb
  have HK:=zH (zA hst (zA (fun (e:MapEntry) (he:e ∈ es.toList)=>p6.keys hes he) (zA hps hbw)))
  have HE:=zH hes
  clear hmap hst hes hps hbw
  generalize ps.length=clock at *
  have hR:(wc.alloc (.mapIter (some g) clock #[] clock)).heap[wc.heap.size]? = some (.mapIter (some g) clock #[] clock):=af _ _
  have hG:(wc.alloc (.mapIter (some g) clock #[] clock)).heap[g]? = some (.map es clock):=(heap_alloc_old wc _ hgl).trans hb
  have hB:=zH (Below.alloc HK.out.2.2.2 HK.out.2.2.2.size (.mapIter (some g) clock #[] clock))
  have hN:=zH HK.out.2.2.2.size
  have hne:=zH (show wc.heap.size≠g by omega)
  have H0:=zH (zA hR hG)
  clear hR hG hgl hb
  go_upto_if 68 with fail
  clear hrg
  generalize wc.alloc (.mapIter (some g) clock #[] clock)=wl at *
  generalize wc.heap.size=R at *
  go_loopg [5,6] (leftOf es #[]).size (fun n s5 s6 wr => ∃ seen,n=(leftOf es seen).size∧wr.heap[R]? = some (.mapIter (some g) clock seen clock)∧wr.heap[g]? = some (.map es clock)∧Below w.heap.size w wr ∧ ∀ e ∈ es.toList,seen.contains e.born=true→Mv (ma x.kind) e)
  case atStart=>exact ⟨#[],rfl,H0.out.1,H0.out.2,hB.out,fun e _ h=>by simp at h⟩
  case round =>
   obtain ⟨seen,hn,hr1,hg1,hbl,hok⟩:=hrel
   have law:=run_next_at (P:=prog) wr 0 R g clock clock seen es clock hr1 hg1 HK.out.1.1 zY
   have HN:=zH hn
   have HO:=zH hok
   have HA:=zH (zA hr1 (zA hg1 hbl))
   clear hn hok hr1 hg1 hbl H0 hB
   rcases law with ⟨h0,hrun⟩ | ⟨e,he,w1,hw1,hrun⟩
   ·
    have hnx : ∀ ty,(Instr.next (.pointer (some ⟨R,0,none⟩)) false ty).run prog wr=_:=fun _=>hrun
    have HL:=zH (JA HE.out HK.out.2.2.1 HO.out h0)
    clear hrun h0
    go_wp2
    go_ret
    rw [HL.out]
    exact ⟨rfl,HA.out.2.2⟩
   ·
    obtain ⟨q,hq,hk1,hv1⟩:=HK.out.2.1 e (mem_left he).1
    rw [hk1,hv1] at hrun
    have hnx : ∀ ty,(Instr.next (.pointer (some ⟨R,0,none⟩)) false ty).run prog wr=_:=fun _=>hrun
    have hb1:Below w.heap.size w w1∧w1.heap[R]? = some (.mapIter (some g) clock seen clock)∧w1.heap[g]? = some (.map es clock):=by
     rcases hw1 with rfl | rfl
     ·
      exact ⟨HA.out.2.2,HA.out.1,HA.out.2.1⟩
     ·
      exact ⟨HA.out.2.2.drew,HA.out.1,HA.out.2.1⟩
    have hb2:(setBlock w1 R (.mapIter (some g) clock (seen.push e.born) clock)).heap[R]? = _:=I0 hb1.2.1
    have hb3:(setBlock w1 R (.mapIter (some g) clock (seen.push e.born) clock)).heap[g]? = some (.map es clock):=(I1 hne.out _).trans hb1.2.2
    have hb4:=BN hb1.1 hN.out (.mapIter (some g) clock (seen.push e.born) clock)
    have hen:=run_entry_at (P:=prog) _ R g clock seen es clock e hb2 hb3 (mem_left he).1 HK.out.1.2.1
    rw [hk1,hv1] at hen
    have HM:=zH (left_shrinks es seen e he)
    have HX:=zH (zA hb2 (zA hb3 hb4))
    have HP:=zH (fun h=>Ln HO.out HK.out.1.2.1 (mem_left he).1 (Mj hk1 hv1 h))
    have HQ:=zH ((HK.out.2.2.1 q).1 hq)
    clear hb1 hb2 hb3 hb4 hw1 hrun he hk1 hv1 hq
    generalize setBlock w1 R (.mapIter (some g) clock (seen.push e.born) clock)=w3 at *
    generalize seen.push e.born=seen3 at *
    obtain ⟨c,v⟩:=q
    cases v with
    | false =>
     go_wp2
     go_roundg (leftOf es seen3).size
     case measure=>rw [HN.out];exact HM.out
     case rel=>exact ⟨seen3,rfl,HX.out.1,HX.out.2.1,HX.out.2.2,HP.out rfl⟩
    | true =>
     have HC:=zH (fun w=>Tryz.strings_Contains_one (ma x.kind) c w)
     cases hh:hasB (ma x.kind) c with
     | true =>
      unfold hasB at hh
      rw [hh] at HC
      have HH:=zH hh
      clear hh
      go_wp2_with (go_at_call 85;refine (HC.out _).mono ?_;rintro e w1 ⟨rfl,rfl⟩)
      go_roundg (leftOf es seen3).size
      case measure=>rw [HN.out];exact HM.out
      case rel=>exact ⟨seen3,rfl,HX.out.1,HX.out.2.1,HX.out.2.2,HP.out HH.out⟩
     | false =>
      have HF:=zH (K9 HQ.out rfl hh)
      unfold hasB at hh
      rw [hh] at HC
      clear hh
      go_wp2_with (go_at_call 85;refine (HC.out _).mono ?_;rintro e w1 ⟨rfl,rfl⟩)
      go_ret
      rw [HF.out]
      exact ⟨rfl,HX.out.2.2⟩
end
end Go.Proofs.YtcfdenckiigdaaaGreat

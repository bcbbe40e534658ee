/- Part 21 of the contracts. -/
import Derived.Test.YtcfdenckiigdaaaGreatBu20
set_option linter.unusedVariables false
set_option maxRecDepth 100000
set_option maxHeartbeats 4000000
namespace Go.Proofs.YtcfdenckiigdaaaGreat
open Tryz Go.RowKit
def mN (k:Int):ByteArray:=if k=0 then ⟨#[114,108]⟩ else if k=2 then ⟨#[107,118,114,108]⟩ else if k=3 then ⟨#[107,108]⟩ else if k=4 then ⟨#[107,114,108]⟩ else if k=6 then ⟨#[98,108]⟩ else if k=7 then ⟨#[]⟩ else ⟨#[108]⟩
theorem BT (k:Int) (w:World):Calls prog 84 #[.int .i64 k] w fun e w'=>e=.returned (.string (mN k))∧w=w':=by
 unfold mN
 by_cases h0:k=0
 ·
  subst h0;go_enter func84,ntmps84;go_wp2_with fail;go_ret;exact ⟨rfl,rfl⟩
 by_cases h2:k=2
 ·
  subst h2;go_enter func84,ntmps84;go_wp2_with fail;go_ret;exact ⟨rfl,rfl⟩
 by_cases h3:k=3
 ·
  subst h3;go_enter func84,ntmps84;go_wp2_with fail;go_ret;exact ⟨rfl,rfl⟩
 by_cases h4:k=4
 ·
  subst h4;go_enter func84,ntmps84;go_wp2_with fail;go_ret;exact ⟨rfl,rfl⟩
 by_cases h6:k=6
 ·
  subst h6;go_enter func84,ntmps84;go_wp2_with fail;go_ret;exact ⟨rfl,rfl⟩
 by_cases h7:k=7
 ·
  subst h7;go_enter func84,ntmps84;go_wp2_with fail;go_ret;exact ⟨rfl,rfl⟩
 rw [if_neg h0,if_neg h2,if_neg h3,if_neg h4,if_neg h6,if_neg h7]
 have e0:(k == 0)=false:=zQ h0
 have e2:(k == 2)=false:=zQ h2
 have e3:(k == 3)=false:=zQ h3
 have e4:(k == 4)=false:=zQ h4
 have e6:(k == 6)=false:=zQ h6
 have e7:(k == 7)=false:=zQ h7
 clear h0 h2 h3 h4 h6 h7
 go_enter func84,ntmps84
 go_wp2
 go_ret
 exact ⟨rfl,rfl⟩
def bG (l u:Int) (xs:List Int):Bool:=xs.all (fun x=>decide (l≤x)&&decide (x≤u))&&decide (xs.length≤16)
theorem lA (l u:Int) (a:Option Addr) (cap:Nat) (xs:List Int) (w:World) (h:aK w a xs) (hm:xs.length≤4611686018427387904):Calls prog 51 #[.int .i64 l,.int .i64 u,.slice a xs.length cap] w fun e w'=>e=.returned (.bool (bG l u xs))∧w=w':=by
 have H:=zH h
 clear h
 go_enter func51,ntmps51
 go_wp2
 go_loopg [11] xs.length (fun n i wr => ∃ j:Nat,n=xs.length - j∧i=.int .i64 j∧j≤xs.length∧wr=w∧(xs.take j).all (fun x=>decide (l≤x)&&decide (x≤u))=true)
 case atStart=>exact ⟨0,rfl,rfl,Nat.zero_le _,rfl,rfl⟩
 case round =>
  obtain ⟨j,hgn,rfl,hj,rfl,ha⟩:=hrel
  have HGN:=zH hgn
  have HB:=zH (zA hgn ha)
  clear hgn ha
  by_cases hlt:j<xs.length
  ·
   have hlt':(j:Int)<(xs.length:Int):=by omega
   obtain ⟨b,o,rfl,hc⟩:=H.out j hlt
   have HT:=zH (show (xs.take (j+1)).all (fun x=>decide (l≤x)&&decide (x≤u))=(decide (l≤xs[j])&&decide (xs[j]≤u)) by
    rw [List.take_succ_eq_append_getElem hlt,List.all_append,HB.out.2];simp)
   have HV:=zH (show (decide (l≤xs[j])&&decide (xs[j]≤u))=false→bG l u xs=false from fun hf=>by
    unfold bG
    rw [Bool.and_eq_false_iff]
    left
    rw [List.all_eq_false]
    exact ⟨xs[j],List.getElem_mem hlt,by rw [hf];decide⟩)
   rw [show xs.getD j 0=xs[j] by rw [List.getD_eq_getElem?_getD,List.getElem?_eq_getElem hlt];rfl] at hc
   generalize xs[j]=x at *
   by_cases k1:x<l
   ·
    replace HV:=zH (HV.out (by rw [decide_eq_false (show ¬ l≤x by omega)];rfl))
    go_wp2
    go_ret
    rw [HV.out]
    exact ⟨rfl,rfl⟩
   ·
    have k1':decide (x<l)=false:=decide_eq_false k1
    by_cases k2:u<x
    ·
     replace HV:=zH (HV.out (by rw [decide_eq_false (show ¬ x≤u by omega),Bool.and_false]))
     go_wp2
     go_ret
     rw [HV.out]
     exact ⟨rfl,rfl⟩
    ·
     have k2':decide (u<x)=false:=decide_eq_false k2
     replace HT:=zH (HT.out.trans (show (decide (l≤x)&&decide (x≤u))=true by rw [decide_eq_true (show l≤x by omega),decide_eq_true (show x≤u by omega)];rfl))
     go_wp2
     go_roundg (xs.length - (j+1))
     case measure=>have:=HGN.out;omega
     case rel=>exact ⟨j+1,rfl,by go_num,by omega,rfl,HT.out⟩
  ·
   obtain rfl:j=xs.length:=by omega
   have HV:=zH (show bG l u xs=decide (xs.length≤16) by
    unfold bG
    have:=HB.out.2
    rw [List.take_length] at this
    rw [this];rfl)
   by_cases h16:xs.length≤16
   ·
    have h16':(xs.length:Int)≤16:=by omega
    rw [decide_eq_true h16] at HV
    go_wp2
    go_ret
    rw [HV.out]
    exact ⟨rfl,rfl⟩
   ·
    have h16' : ¬ (xs.length:Int)≤16:=by omega
    rw [decide_eq_false h16] at HV
    go_wp2
    go_ret
    rw [HV.out]
    exact ⟨by simp,rfl⟩
structure cW where
 kind:Int
 key:ByteArray
 value:ByteArray
 at_:Int
 width:Int
 cD:Int
 mask:ByteArray
 busy:List Int
 reads:List Int
def cW.row (x:cW) (ba:Option Addr) (bc:Nat) (ra:Option Addr) (rc:Nat):Array Value := #[.int .i64 x.kind,.string x.key,.string x.value,.int .i64 x.at_,.int .i64 x.width,.int .i64 x.cD,.string x.mask,.slice ba x.busy.length bc,.slice ra x.reads.length rc]
def fG (w:World) (p:Nat) (x:cW) (ba:Option Addr) (bc:Nat) (ra:Option Addr) (rc:Nat):Prop:=w.heap[p]? = some (.cells (x.row ba bc ra rc) 31 (0,0))
def qd (x:cW):Bool:=decide (x.key.size≤12)&&decide (x.value.size≤40)&&decide (x.mask.size≤16)
theorem Co (p:Nat) (x:cW) (ba:Option Addr) (bc:Nat) (ra:Option Addr) (rc:Nat) (w:World) (h:fG w p x ba bc ra rc):Calls prog 52 #[.pointer (some ⟨p,0,none⟩)] w fun e w'=>e=.returned (.bool (qd x))∧w=w':=by
 have c1:w.cell? ⟨p,1,none⟩=some (.string x.key):=cell_of h 1
 have c2:w.cell? ⟨p,2,none⟩=some (.string x.value):=cell_of h 2
 have c6:w.cell? ⟨p,6,none⟩=some (.string x.mask):=cell_of h 6
 clear h
 unfold qd
 by_cases k1:x.key.size≤12
 ·
  have k1':(x.key.size:Int)≤12:=by omega
  by_cases k2:x.value.size≤40
  ·
   have k2':(x.value.size:Int)≤40:=by omega
   by_cases k3:x.mask.size≤16
   ·
    have k3':(x.mask.size:Int)≤16:=by omega
    rw [decide_eq_true k1,decide_eq_true k2,decide_eq_true k3]
    clear k1 k2 k3
    go_enter func52,ntmps52
    go_wp2
    go_ret
    exact ⟨rfl,rfl⟩
   ·
    have k3' : ¬ (x.mask.size:Int)≤16:=by omega
    rw [decide_eq_true k1,decide_eq_true k2,decide_eq_false k3]
    clear k1 k2 k3
    go_enter func52,ntmps52
    go_wp2
    go_ret
    exact ⟨rfl,rfl⟩
  ·
   have k2' : ¬ (x.value.size:Int)≤40:=by omega
   rw [decide_eq_true k1,decide_eq_false k2,Bool.and_false,Bool.false_and]
   clear k1 k2
   go_enter func52,ntmps52
   go_wp2
   go_ret
   exact ⟨rfl,rfl⟩
 ·
  have k1' : ¬ (x.key.size:Int)≤12:=by omega
  rw [decide_eq_false k1,Bool.false_and,Bool.false_and]
  clear k1
  go_enter func52,ntmps52
  go_wp2
  go_ret
  exact ⟨rfl,rfl⟩
section
open Go.RowKit Go.ChangeMaps
def hasB (s:ByteArray) (c:UInt8):Bool:=decide (0≤Lib.indexByte s.data.toList c)
def qg (x:cW):List (UInt8×Bool):=[(107,!x.key.toList.isEmpty),(118,!x.value.toList.isEmpty),(114,decide (0<x.reads.length)),(98,x.at_ != 0 || x.width != 0),(108,x.cD != 0 || decide (0<x.busy.length))]
def pA (x:cW):Bool:=(qg x).all fun p => !p.2 || hasB (mN x.kind) p.1
def jT (x:cW) (i:Nat):UInt8×Bool:=if i=6 then (107,!x.key.toList.isEmpty) else if i=12 then (118,!x.value.toList.isEmpty) else if i=19 then (114,decide (0<x.reads.length)) else if i=32 then (98,x.at_ != 0 || x.width != 0) else (108,x.cD != 0 || decide (0<x.busy.length))
def su:List Nat:=[6,12,19,32,46]
theorem jo {i:Nat} (h:i ∈ su):i=6∨i=12∨i=19∨i=32∨i=46:=by simpa [su] using h
theorem LU (x:cW) {i j:Nat} (hi:i ∈ su) (hj:j ∈ su) (e:(jT x i).1=(jT x j).1):i=j:=by
 rcases jo hi with rfl | rfl | rfl | rfl | rfl <;> rcases jo hj with rfl | rfl | rfl | rfl | rfl <;> first | rfl | (simp [jT] at e)
theorem Kf (x:cW):qg x=su.map (jT x):=rfl
structure nv (x:cW) (w:World) (g:Nat) (done:List Nat) (wr:World):Prop where
 map:pj wr g (done.map (jT x))
 below:Below w.heap.size w wr
 lt:g<wr.heap.size
 sub : ∀ i ∈ done,i ∈ su
theorem BF {P:Program} {mty kt et:TypeId} (hm:P.underlying mty=some (.map kt et)) (hk:P.underlying kt=some .string) {x:cW} {w wr:World} {g:Nat} {done:List Nat} (h:nv x w g done wr) (hg:w.heap.size≤g) {i:Nat} (hi:i ∈ su) (hn:i ∉ done) {a:Act} {o:Oper} {m k v:Operand} (ho:o.op=.insert mty m k v) (h1:a.eval m=.map (some g)) (h2:a.eval k=.string ⟨#[(jT x i).1]⟩) (h3:a.eval v=.bool (jT x i).2) : ∃ w',(execOp a.eval o).run P wr=.ok .skip w'∧nv x w g (done++[i]) w':=by
 obtain ⟨w',e,h4,h5⟩:=h.map.insert hm hk (jT x i) (fun hmem=>by
  obtain ⟨q,hq,e⟩:=List.mem_map.1 hmem
  obtain ⟨j,hj,rfl⟩:=List.mem_map.1 hq
  rw [LU x (h.sub j hj) hi e] at hj
  exact hn hj)
 have hb:=h5 _ _ h.below hg
 have hsz:=(h5 wr.heap.size wr zR)
 refine ⟨w',?_,⟨by rw [List.map_append];exact h4,hb,?_,fun j hj => ?_⟩⟩
 ·
  unfold execOp
  simp only [ho,h1,h2,h3,Sem.run_bind,e,Result.andThen]
  rfl
 ·
  obtain ⟨es,hes,_⟩:=h4.ex
  exact (Array.getElem?_eq_some_iff.1 hes).1
 ·
  rcases List.mem_append.1 hj with h | h'
  ·
   exact nv.sub ‹_› j h
  ·
   rw [List.mem_singleton.1 h'];exact hi
theorem cd {P:Program} {mty kt et:TypeId} (hm:P.underlying mty=some (.map kt et)) (hk:P.underlying kt=some .string) {x:cW} {w wr:World} {g:Nat} {done:List Nat} (h:nv x w g done wr) (hg:w.heap.size≤g) {i:Nat} (hi:i ∈ su) (hn:i ∉ done) {a:Act} {o:Oper} {m k v:Operand} (ho:o.op=.insert mty m k v) (h1:a.eval m=.map (some g)) (h2:a.eval k=.string ⟨#[(jT x i).1]⟩) (h3:a.eval v=.bool (jT x i).2) {S:World→Prop} (hS : ∀ w',Below w.heap.size w w'→S w') : ∃ w',(execOp a.eval o).run P wr=.ok .skip w'∧nv x w g (done++[i]) w'∧S w':=by
 obtain ⟨w',e1,e2⟩:=BF hm hk h hg hi hn ho h1 h2 h3
 exact ⟨w',e1,e2,hS _ e2.below⟩
theorem uO {x:cW} {w wr:World} {g:Nat} {done:List Nat} (h:nv x w g done wr) (hall : ∀ i ∈ su,i ∈ done) : ∃ ps,pj wr g ps∧(∀ q,q ∈ ps ↔ q ∈ qg x)∧Below w.heap.size w wr∧g<wr.heap.size:=by
 refine ⟨_,h.map,fun q => ?_,h.below,h.lt⟩
 rw [Kf,List.mem_map,List.mem_map]
 exact ⟨fun ⟨i,hi,e⟩=>⟨i,h.sub i hi,e⟩,fun ⟨i,hi,e⟩=>⟨i,hall i hi,e⟩⟩
theorem oQ (x:cW) (w:World) {W:World} (hb:Below w.heap.size w W):nv x w W.heap.size [] (W.alloc (.map #[] 0)) :=
 ⟨⟨⟨#[],by show (W.heap.push _)[W.heap.size]? = _;simp,MapKept.stamped_empty 0,rfl⟩⟩,hb.trans ((Below.refl _ _).alloc zY _ |>.mono hb.size),by show _<(W.heap.push _).size;simp,fun _ h=>by cases h⟩
def Li (T:ByteArray) (e:MapEntry):Prop := ∀ p:UInt8×Bool,e.key=.string ⟨#[p.1]⟩→e.val=.bool p.2→(!p.2 || hasB T p.1)=true
theorem Ic {x:cW} {es:Array MapEntry} {ps:List (UInt8×Bool)} {seen:Array Nat} (hes:es.toList.map (fun e=>(e.key,e.val))=ps.map fun p=>(Value.string ⟨#[p.1]⟩,Value.bool p.2)) (hps : ∀ q,q ∈ ps ↔ q ∈ qg x) (hs : ∀ e ∈ es.toList,seen.contains e.born=true→Li (mN x.kind) e) (h0:(leftOf es seen).size=0):pA x=true:=by
 unfold pA
 rw [List.all_eq_true]
 intro q hq
 have:(Value.string ⟨#[q.1]⟩,Value.bool q.2) ∈ ps.map fun p=>(Value.string ⟨#[p.1]⟩,Value.bool p.2):=List.mem_map.2 ⟨q,(hps q).2 hq,rfl⟩
 rw [← hes] at this
 obtain ⟨e,he,h1⟩:=List.mem_map.1 this
 simp only [Prod.mk.injEq] at h1
 refine hs e he ?_ q h1.1 h1.2
 cases hc:seen.contains e.born with
 | true=>rfl
 | false =>
  exfalso
  have hm:e ∈ leftOf es seen:=Array.mem_filter.2 ⟨by simpa using he,by rw [hc];rfl⟩
  rw [Array.eq_empty_of_size_eq_zero h0] at hm
  simp at hm
theorem JS {x:cW} {p:UInt8×Bool} (hp:p ∈ qg x) (h1:p.2=true) (h2:hasB (mN x.kind) p.1=false):pA x=false:=by
 unfold pA
 rw [List.all_eq_false]
 exact ⟨p,hp,by rw [h1,h2];decide⟩
theorem J6 {T:ByteArray} {es:Array MapEntry} {seen:Array Nat} (hs : ∀ e ∈ es.toList,seen.contains e.born=true→Li T e) (hn:(es.toList.map (·.born)).Nodup) {e:MapEntry} (he:e ∈ es.toList) (ho:Li T e) : ∀ e' ∈ es.toList,(seen.push e.born).contains e'.born=true→Li T e':=fun e' he' hc=>by
 rw [contains_push,Bool.or_eq_true] at hc
 rcases hc with hc | hc
 ·
  exact hs e' he' hc
 ·
  have h1:=find_born e es.toList hn he
  have h2:=find_born e' es.toList hn he'
  rw [beq_iff_eq.1 hc,h1] at h2
  obtain rfl:e=e':=by simpa using h2
  exact ho
theorem K6 {T:ByteArray} {e:MapEntry} {p:UInt8×Bool} (h1:e.key=.string ⟨#[p.1]⟩) (h2:e.val=.bool p.2) (h:(!p.2 || hasB T p.1)=true):Li T e:=fun q h3 h4=>by
 rw [h1] at h3
 rw [h2] at h4
 simp only [Value.string.injEq,ByteArray.mk.injEq,Array.mk.injEq,List.cons.injEq,and_true] at h3
 simp only [Value.bool.injEq] at h4
 rw [← h3,← h4]
 exact h
theorem A0 {N:Nat} {w0 w:World} (h:Below N w0 w) {r:Nat} (hr:N≤r) (o:Obj):Below N w0 (setBlock w r o) :=
 ⟨h.os,h.tape,h.output,by show _≤(w.heap.setIfInBounds r o).size;rw [Array.size_setIfInBounds];exact h.size,fun k hk=>by
  show (w.heap.setIfInBounds r o)[k]? = _
  rw [Array.getElem?_setIfInBounds_ne (by omega)]
  exact h.block k hk⟩
theorem GX {w:World} {r:Nat} {o o':Obj} (h:w.heap[r]? = some o):(setBlock w r o').heap[r]? = some o':=by
 show (w.heap.setIfInBounds r o')[r]? = _
 rw [Array.getElem?_setIfInBounds,if_pos rfl,if_pos (Array.getElem?_eq_some_iff.1 h).1]
theorem GY {w:World} {r g:Nat} (hne:r≠g) (o':Obj):(setBlock w r o').heap[g]? = w.heap[g]? := by
 show (w.heap.setIfInBounds r o')[g]? = _
 rw [Array.getElem?_setIfInBounds_ne hne]
def aF (p:Nat) (x:cW) (ba:Option Addr) (bc:Nat) (ra:Option Addr) (rc:Nat) (W w':World):Prop:=w'.cell? ⟨p,1,none⟩=some (.string x.key)∧w'.cell? ⟨p,2,none⟩=some (.string x.value)∧w'.cell? ⟨p,3,none⟩=some (.int .i64 x.at_)∧w'.cell? ⟨p,4,none⟩=some (.int .i64 x.width)∧w'.cell? ⟨p,5,none⟩=some (.int .i64 x.cD)∧w'.cell? ⟨p,7,none⟩=some (.slice ba x.busy.length bc)∧w'.cell? ⟨p,8,none⟩=some (.slice ra x.reads.length rc)∧Below W.heap.size W w'
theorem Dw (p:Nat) (x:cW) (ba:Option Addr) (bc:Nat) (ra:Option Addr) (rc:Nat) (w:World) (h:fG w p x ba bc ra rc):Calls prog 53 #[.pointer (some ⟨p,0,none⟩)] w fun e w'=>e=.returned (.bool (pA x))∧Below w.heap.size w w':=by
 have hl:p<w.heap.size:=(Array.getElem?_eq_some_iff.1 h).1
 have hS : ∀ w',Below w.heap.size w w'→aF p x ba bc ra rc w w':=fun w' hb=>by
  have e:=fun i=>hb.cell (p:=⟨p,i,none⟩) hl
  exact ⟨(e 1).trans (cell_of h 1),(e 2).trans (cell_of h 2),(e 3).trans (cell_of h 3),(e 4).trans (cell_of h 4),(e 5).trans (cell_of h 5),(e 7).trans (cell_of h 7),(e 8).trans (cell_of h 8),hb⟩
 have HS:=zH hS
 have c0:w.cell? ⟨p,0,none⟩=some (.int .i64 x.kind):=cell_of h 0
 clear h hS
 go_enter func53,ntmps53
 go_upto_region 2 with (go_at_call 84;refine (BT _ _).mono ?_;rintro e w1 ⟨rfl,rfl⟩)
 go_cut [4] from 12 to 55 (fun v wx => ∃ g ps,v=.map (some g)∧pj wx g ps∧(∀ q,q ∈ ps ↔ q ∈ qg x)∧Below w.heap.size w wx∧g<wx.heap.size)
 case first =>
  have hum:prog.underlying 171=some (.map 9 4):=by kernel_rfl
  have huk:prog.underlying 9=some .string:=by kernel_rfl
  rcases Bool.eq_false_or_eq_true (x.at_ != 0) with h1 | h1 <;> rcases Bool.eq_false_or_eq_true (x.cD != 0) with h2 | h2
  ·
   skip
   refine wp_region_noPanic ?_
   refine wp_region_held_drew (S:=aF p x ba bc ra rc w) (by kernel_rfl) ?hS4000 (fun hHeld => ?_)
   case hS4000=>exact HS.out _ (aw zR)
   refine tk 1 ?_ (hy:=by intro w h;unfold aF at h;go_simp;try with_reducible rfl)
   refine tk 2 ?_ (hy:=by intro w h;unfold aF at h;go_simp;try with_reducible rfl)
   refine tk 3 ?_ (hy:=by intro w h;unfold aF at h;go_simp;try with_reducible rfl)
   refine tk 4 ?_ (hy:=by intro w h;unfold aF at h;go_simp;try with_reducible rfl)
   refine tk 5 ?_ (hy:=by intro w h;unfold aF at h;go_simp;try with_reducible rfl)
   refine tk 7 ?_ (hy:=by intro w h;unfold aF at h;go_simp;try with_reducible rfl)
   refine tk 8 ?_ (hy:=by intro w h;unfold aF at h;go_simp;try with_reducible rfl)
   refine tk 9 ?_ (hy:=by intro w h;unfold aF at h;go_simp;try with_reducible rfl)
   refine tk 10 ?_ (hy:=by intro w h;unfold aF at h;go_simp;try with_reducible rfl)
   refine tk 11 ?_ (hy:=by intro w h;unfold aF at h;go_simp;try with_reducible rfl)
   refine tk 13 ?_ (hy:=by intro w h;unfold aF at h;go_simp;try with_reducible rfl)
   refine tk 14 ?_ (hy:=by intro w h;unfold aF at h;go_simp;try with_reducible rfl)
   refine tk 15 ?_ (hy:=by intro w h;unfold aF at h;go_simp;try with_reducible rfl)
   refine tk 16 ?_ (hy:=by intro w h;unfold aF at h;go_simp;try with_reducible rfl)
   refine tk 17 ?_ (hy:=by intro w h;unfold aF at h;go_simp;try with_reducible rfl)
   refine tk 18 ?_ (hy:=by intro w h;unfold aF at h;go_simp;try with_reducible rfl)
   refine tk 20 ?_ (hy:=by intro w h;unfold aF at h;go_simp;try with_reducible rfl)
   refine tk 21 ?_ (hy:=by intro w h;unfold aF at h;go_simp;try with_reducible rfl)
   refine tk 22 ?_ (hy:=by intro w h;unfold aF at h;go_simp;try with_reducible rfl)
   refine tk 23 ?_ (hy:=by intro w h;unfold aF at h;go_simp;try with_reducible rfl)
   refine tk 24 ?_ (hy:=by intro w h;unfold aF at h;go_simp;try with_reducible rfl)
   refine tk 25 ?_ (hy:=by intro w h;unfold aF at h;go_simp;try with_reducible rfl)
   refine tn 26 ?_
   refine tn 27 ?_
   refine tn 28 ?_
   refine tn 29 ?_
   refine tn 30 ?_
   refine tk 31 ?_ (hy:=by intro w h;unfold aF at h;go_simp;try with_reducible rfl)
   refine tk 33 ?_ (hy:=by intro w h;unfold aF at h;go_simp;try with_reducible rfl)
   refine tk 34 ?_ (hy:=by intro w h;unfold aF at h;go_simp;try with_reducible rfl)
   refine tk 35 ?_ (hy:=by intro w h;unfold aF at h;go_simp;try with_reducible rfl)
   refine tk 36 ?_ (hy:=by intro w h;unfold aF at h;go_simp;try with_reducible rfl)
   refine tk 37 ?_ (hy:=by intro w h;unfold aF at h;go_simp;try with_reducible rfl)
   refine tk 38 ?_ (hy:=by intro w h;unfold aF at h;go_simp;try with_reducible rfl)
   refine tn 39 ?_
   refine tn 40 ?_
   refine tn 41 ?_
   refine tn 42 ?_
   refine tn 43 ?_
   refine tn 44 ?_
   refine tk 45 ?_ (hy:=by intro w h;unfold aF at h;go_simp;try with_reducible rfl)
   refine tr 0 fun K hK => ?_
   go_simp
   refine hK.out _ _ ?hM4000 (fun hHeld2 => ?_)
   case hM4000=>exact HS.out _ (ae (aw zR) _)
   clear hK K
   try simp only [Act.put,zS,zT,zU]
   refine lu (R:=su) (fin := #[true,true,true,true,true,true,true,true,true,true,true,true,true,true,true,true,true,true,true,true,true,true,true,true,true,true,true,true,true,true,true,true,true,true,true,true,true,true,true,true,true,true,true,true,true,true,true,false,false]) (fuel:=2) (by kernel_rfl) (by kernel_rfl) (by decide) (fun done wr=>nv x w w.drew.heap.size done wr) (fun done i wr o hi hn ho hI hSr => ?step11) (fun k done wr hall hI hSr => ?fin11) ?ini11 (by assumption)
   case ini11=>exact oQ x w (aw zR)
   case step11 =>
    have hg:w.heap.size≤w.drew.heap.size:=Nat.le_refl _
    rcases jo hi with rfl | rfl | rfl | rfl | rfl
    ·
     have ho2:some ⟨none,.insert 171 (.tmp 12) (.const (.string ⟨#[107]⟩)) (.tmp 17),0, "script.go:53",#[⟨0,.data⟩,⟨5,.data⟩],none⟩=some o:=ho
     obtain rfl:=Option.some.inj ho2
     refine ⟨by rfl,?_⟩
     refine cd hum huk hI hg hi hn rfl rfl rfl ?_ HS.out
     first | rfl | (unfold jT;rw [h1];rfl) | (unfold jT;rw [h2];rfl)
    ·
     have ho2:some ⟨none,.insert 171 (.tmp 12) (.const (.string ⟨#[118]⟩)) (.tmp 22),0, "script.go:53",#[⟨0,.data⟩,⟨11,.data⟩],none⟩=some o:=ho
     obtain rfl:=Option.some.inj ho2
     refine ⟨by rfl,?_⟩
     refine cd hum huk hI hg hi hn rfl rfl rfl ?_ HS.out
     first | rfl | (unfold jT;rw [h1];rfl) | (unfold jT;rw [h2];rfl)
    ·
     have ho2:some ⟨none,.insert 171 (.tmp 12) (.const (.string ⟨#[114]⟩)) (.tmp 28),0, "script.go:53",#[⟨0,.data⟩,⟨18,.data⟩],none⟩=some o:=ho
     obtain rfl:=Option.some.inj ho2
     refine ⟨by rfl,?_⟩
     refine cd hum huk hI hg hi hn rfl rfl rfl ?_ HS.out
     first | rfl | (unfold jT;rw [h1];rfl) | (unfold jT;rw [h2];rfl)
    ·
     have ho2:some ⟨none,.insert 171 (.tmp 12) (.const (.string ⟨#[98]⟩)) (.tmp 40),0, "script.go:53",#[⟨0,.data⟩,⟨31,.data⟩],none⟩=some o:=ho
     obtain rfl:=Option.some.inj ho2
     refine ⟨by rfl,?_⟩
     refine cd hum huk hI hg hi hn rfl rfl rfl ?_ HS.out
     first | rfl | (unfold jT;rw [h1];rfl) | (unfold jT;rw [h2];rfl)
    ·
     have ho2:some ⟨none,.insert 171 (.tmp 12) (.const (.string ⟨#[108]⟩)) (.tmp 53),0, "script.go:53",#[⟨0,.data⟩,⟨45,.data⟩],none⟩=some o:=ho
     obtain rfl:=Option.some.inj ho2
     refine ⟨by rfl,?_⟩
     refine cd hum huk hI hg hi hn rfl rfl rfl ?_ HS.out
     first | rfl | (unfold jT;rw [h1];rfl) | (unfold jT;rw [h2];rfl)
   case fin11 =>
    refine tk 47 ?_ (hy:=by intro w h;clear h;go_simp;try with_reducible rfl)
    refine tk 48 ?_ (hy:=by intro w h;clear h;go_simp;try with_reducible rfl)
    refine wpAnyH_done (by kernel_rfl) ?_ _
    refine NoPanic.normal ?_
    go_wp2
    go_meet
    obtain ⟨ps,i1,i2,i3,i4⟩:=uO hI hall
    exact ⟨_,ps,rfl,i1,i2,i3,i4⟩
  ·
   skip
   refine wp_region_noPanic ?_
   refine wp_region_held_drew (S:=aF p x ba bc ra rc w) (by kernel_rfl) ?hS3000 (fun hHeld => ?_)
   case hS3000=>exact HS.out _ (aw zR)
   refine tk 1 ?_ (hy:=by intro w h;unfold aF at h;go_simp;try with_reducible rfl)
   refine tk 2 ?_ (hy:=by intro w h;unfold aF at h;go_simp;try with_reducible rfl)
   refine tk 3 ?_ (hy:=by intro w h;unfold aF at h;go_simp;try with_reducible rfl)
   refine tk 4 ?_ (hy:=by intro w h;unfold aF at h;go_simp;try with_reducible rfl)
   refine tk 5 ?_ (hy:=by intro w h;unfold aF at h;go_simp;try with_reducible rfl)
   refine tk 7 ?_ (hy:=by intro w h;unfold aF at h;go_simp;try with_reducible rfl)
   refine tk 8 ?_ (hy:=by intro w h;unfold aF at h;go_simp;try with_reducible rfl)
   refine tk 9 ?_ (hy:=by intro w h;unfold aF at h;go_simp;try with_reducible rfl)
   refine tk 10 ?_ (hy:=by intro w h;unfold aF at h;go_simp;try with_reducible rfl)
   refine tk 11 ?_ (hy:=by intro w h;unfold aF at h;go_simp;try with_reducible rfl)
   refine tk 13 ?_ (hy:=by intro w h;unfold aF at h;go_simp;try with_reducible rfl)
   refine tk 14 ?_ (hy:=by intro w h;unfold aF at h;go_simp;try with_reducible rfl)
   refine tk 15 ?_ (hy:=by intro w h;unfold aF at h;go_simp;try with_reducible rfl)
   refine tk 16 ?_ (hy:=by intro w h;unfold aF at h;go_simp;try with_reducible rfl)
   refine tk 17 ?_ (hy:=by intro w h;unfold aF at h;go_simp;try with_reducible rfl)
   refine tk 18 ?_ (hy:=by intro w h;unfold aF at h;go_simp;try with_reducible rfl)
   refine tk 20 ?_ (hy:=by intro w h;unfold aF at h;go_simp;try with_reducible rfl)
   refine tk 21 ?_ (hy:=by intro w h;unfold aF at h;go_simp;try with_reducible rfl)
   refine tk 22 ?_ (hy:=by intro w h;unfold aF at h;go_simp;try with_reducible rfl)
   refine tk 23 ?_ (hy:=by intro w h;unfold aF at h;go_simp;try with_reducible rfl)
   refine tk 24 ?_ (hy:=by intro w h;unfold aF at h;go_simp;try with_reducible rfl)
   refine tk 25 ?_ (hy:=by intro w h;unfold aF at h;go_simp;try with_reducible rfl)
   refine tn 26 ?_
   refine tn 27 ?_
   refine tn 28 ?_
   refine tn 29 ?_
   refine tn 30 ?_
   refine tk 31 ?_ (hy:=by intro w h;unfold aF at h;go_simp;try with_reducible rfl)
   refine tk 33 ?_ (hy:=by intro w h;unfold aF at h;go_simp;try with_reducible rfl)
   refine tk 34 ?_ (hy:=by intro w h;unfold aF at h;go_simp;try with_reducible rfl)
   refine tk 35 ?_ (hy:=by intro w h;unfold aF at h;go_simp;try with_reducible rfl)
   refine tk 36 ?_ (hy:=by intro w h;unfold aF at h;go_simp;try with_reducible rfl)
   refine tk 37 ?_ (hy:=by intro w h;unfold aF at h;go_simp;try with_reducible rfl)
   refine tk 38 ?_ (hy:=by intro w h;unfold aF at h;go_simp;try with_reducible rfl)
   refine tk 39 ?_ (hy:=by intro w h;unfold aF at h;go_simp;try with_reducible rfl)
   refine tk 40 ?_ (hy:=by intro w h;unfold aF at h;go_simp;try with_reducible rfl)
   refine tk 41 ?_ (hy:=by intro w h;unfold aF at h;go_simp;try with_reducible rfl)
   refine tk 42 ?_ (hy:=by intro w h;unfold aF at h;go_simp;try with_reducible rfl)
   refine tk 43 ?_ (hy:=by intro w h;unfold aF at h;go_simp;try with_reducible rfl)
   refine tk 44 ?_ (hy:=by intro w h;unfold aF at h;go_simp;try with_reducible rfl)
   refine tk 45 ?_ (hy:=by intro w h;unfold aF at h;go_simp;try with_reducible rfl)
   refine tr 0 fun K hK => ?_
   go_simp
   refine hK.out _ _ ?hM3000 (fun hHeld2 => ?_)
   case hM3000=>exact HS.out _ (ae (aw zR) _)
   clear hK K
   try simp only [Act.put,zS,zT,zU]
   refine lu (R:=su) (fin := #[true,true,true,true,true,true,true,true,true,true,true,true,true,true,true,true,true,true,true,true,true,true,true,true,true,true,true,true,true,true,true,true,true,true,true,true,true,true,true,true,true,true,true,true,true,true,true,false,false]) (fuel:=2) (by kernel_rfl) (by kernel_rfl) (by decide) (fun done wr=>nv x w w.drew.heap.size done wr) (fun done i wr o hi hn ho hI hSr => ?step10) (fun k done wr hall hI hSr => ?fin10) ?ini10 (by assumption)
   case ini10=>exact oQ x w (aw zR)
   case step10 =>
    have hg:w.heap.size≤w.drew.heap.size:=Nat.le_refl _
    rcases jo hi with rfl | rfl | rfl | rfl | rfl
    ·
     have ho2:some ⟨none,.insert 171 (.tmp 12) (.const (.string ⟨#[107]⟩)) (.tmp 17),0, "script.go:53",#[⟨0,.data⟩,⟨5,.data⟩],none⟩=some o:=ho
     obtain rfl:=Option.some.inj ho2
     refine ⟨by rfl,?_⟩
     refine cd hum huk hI hg hi hn rfl rfl rfl ?_ HS.out
     first | rfl | (unfold jT;rw [h1];rfl) | (unfold jT;rw [h2];rfl)
    ·
     have ho2:some ⟨none,.insert 171 (.tmp 12) (.const (.string ⟨#[118]⟩)) (.tmp 22),0, "script.go:53",#[⟨0,.data⟩,⟨11,.data⟩],none⟩=some o:=ho
     obtain rfl:=Option.some.inj ho2
     refine ⟨by rfl,?_⟩
     refine cd hum huk hI hg hi hn rfl rfl rfl ?_ HS.out
     first | rfl | (unfold jT;rw [h1];rfl) | (unfold jT;rw [h2];rfl)
    ·
     have ho2:some ⟨none,.insert 171 (.tmp 12) (.const (.string ⟨#[114]⟩)) (.tmp 28),0, "script.go:53",#[⟨0,.data⟩,⟨18,.data⟩],none⟩=some o:=ho
     obtain rfl:=Option.some.inj ho2
     refine ⟨by rfl,?_⟩
     refine cd hum huk hI hg hi hn rfl rfl rfl ?_ HS.out
     first | rfl | (unfold jT;rw [h1];rfl) | (unfold jT;rw [h2];rfl)
    ·
     have ho2:some ⟨none,.insert 171 (.tmp 12) (.const (.string ⟨#[98]⟩)) (.tmp 40),0, "script.go:53",#[⟨0,.data⟩,⟨31,.data⟩],none⟩=some o:=ho
     obtain rfl:=Option.some.inj ho2
     refine ⟨by rfl,?_⟩
     refine cd hum huk hI hg hi hn rfl rfl rfl ?_ HS.out
     first | rfl | (unfold jT;rw [h1];rfl) | (unfold jT;rw [h2];rfl)
    ·
     have ho2:some ⟨none,.insert 171 (.tmp 12) (.const (.string ⟨#[108]⟩)) (.tmp 53),0, "script.go:53",#[⟨0,.data⟩,⟨45,.data⟩],none⟩=some o:=ho
     obtain rfl:=Option.some.inj ho2
     refine ⟨by rfl,?_⟩
     refine cd hum huk hI hg hi hn rfl rfl rfl ?_ HS.out
     first | rfl | (unfold jT;rw [h1];rfl) | (unfold jT;rw [h2];rfl)
   case fin10 =>
    refine tk 47 ?_ (hy:=by intro w h;clear h;go_simp;try with_reducible rfl)
    refine tk 48 ?_ (hy:=by intro w h;clear h;go_simp;try with_reducible rfl)
    refine wpAnyH_done (by kernel_rfl) ?_ _
    refine NoPanic.normal ?_
    go_wp2
    go_meet
    obtain ⟨ps,i1,i2,i3,i4⟩:=uO hI hall
    exact ⟨_,ps,rfl,i1,i2,i3,i4⟩
  ·
   skip
   refine wp_region_noPanic ?_
   refine wp_region_held_drew (S:=aF p x ba bc ra rc w) (by kernel_rfl) ?hS2000 (fun hHeld => ?_)
   case hS2000=>exact HS.out _ (aw zR)
   refine tk 1 ?_ (hy:=by intro w h;unfold aF at h;go_simp;try with_reducible rfl)
   refine tk 2 ?_ (hy:=by intro w h;unfold aF at h;go_simp;try with_reducible rfl)
   refine tk 3 ?_ (hy:=by intro w h;unfold aF at h;go_simp;try with_reducible rfl)
   refine tk 4 ?_ (hy:=by intro w h;unfold aF at h;go_simp;try with_reducible rfl)
   refine tk 5 ?_ (hy:=by intro w h;unfold aF at h;go_simp;try with_reducible rfl)
   refine tk 7 ?_ (hy:=by intro w h;unfold aF at h;go_simp;try with_reducible rfl)
   refine tk 8 ?_ (hy:=by intro w h;unfold aF at h;go_simp;try with_reducible rfl)
   refine tk 9 ?_ (hy:=by intro w h;unfold aF at h;go_simp;try with_reducible rfl)
   refine tk 10 ?_ (hy:=by intro w h;unfold aF at h;go_simp;try with_reducible rfl)
   refine tk 11 ?_ (hy:=by intro w h;unfold aF at h;go_simp;try with_reducible rfl)
   refine tk 13 ?_ (hy:=by intro w h;unfold aF at h;go_simp;try with_reducible rfl)
   refine tk 14 ?_ (hy:=by intro w h;unfold aF at h;go_simp;try with_reducible rfl)
   refine tk 15 ?_ (hy:=by intro w h;unfold aF at h;go_simp;try with_reducible rfl)
   refine tk 16 ?_ (hy:=by intro w h;unfold aF at h;go_simp;try with_reducible rfl)
   refine tk 17 ?_ (hy:=by intro w h;unfold aF at h;go_simp;try with_reducible rfl)
   refine tk 18 ?_ (hy:=by intro w h;unfold aF at h;go_simp;try with_reducible rfl)
   refine tk 20 ?_ (hy:=by intro w h;unfold aF at h;go_simp;try with_reducible rfl)
   refine tk 21 ?_ (hy:=by intro w h;unfold aF at h;go_simp;try with_reducible rfl)
   refine tk 22 ?_ (hy:=by intro w h;unfold aF at h;go_simp;try with_reducible rfl)
   refine tk 23 ?_ (hy:=by intro w h;unfold aF at h;go_simp;try with_reducible rfl)
   refine tk 24 ?_ (hy:=by intro w h;unfold aF at h;go_simp;try with_reducible rfl)
   refine tk 25 ?_ (hy:=by intro w h;unfold aF at h;go_simp;try with_reducible rfl)
   refine tk 26 ?_ (hy:=by intro w h;unfold aF at h;go_simp;try with_reducible rfl)
   refine tk 27 ?_ (hy:=by intro w h;unfold aF at h;go_simp;try with_reducible rfl)
   refine tk 28 ?_ (hy:=by intro w h;unfold aF at h;go_simp;try with_reducible rfl)
   refine tk 29 ?_ (hy:=by intro w h;unfold aF at h;go_simp;try with_reducible rfl)
   refine tk 30 ?_ (hy:=by intro w h;unfold aF at h;go_simp;try with_reducible rfl)
   refine tk 31 ?_ (hy:=by intro w h;unfold aF at h;go_simp;try with_reducible rfl)
   refine tk 33 ?_ (hy:=by intro w h;unfold aF at h;go_simp;try with_reducible rfl)
   refine tk 34 ?_ (hy:=by intro w h;unfold aF at h;go_simp;try with_reducible rfl)
   refine tk 35 ?_ (hy:=by intro w h;unfold aF at h;go_simp;try with_reducible rfl)
   refine tk 36 ?_ (hy:=by intro w h;unfold aF at h;go_simp;try with_reducible rfl)
   refine tk 37 ?_ (hy:=by intro w h;unfold aF at h;go_simp;try with_reducible rfl)
   refine tk 38 ?_ (hy:=by intro w h;unfold aF at h;go_simp;try with_reducible rfl)
   refine tn 39 ?_
   refine tn 40 ?_
   refine tn 41 ?_
   refine tn 42 ?_
   refine tn 43 ?_
   refine tn 44 ?_
   refine tk 45 ?_ (hy:=by intro w h;unfold aF at h;go_simp;try with_reducible rfl)
   refine tr 0 fun K hK => ?_
   go_simp
   refine hK.out _ _ ?hM2000 (fun hHeld2 => ?_)
   case hM2000=>exact HS.out _ (ae (aw zR) _)
   clear hK K
   try simp only [Act.put,zS,zT,zU]
   refine lu (R:=su) (fin := #[true,true,true,true,true,true,true,true,true,true,true,true,true,true,true,true,true,true,true,true,true,true,true,true,true,true,true,true,true,true,true,true,true,true,true,true,true,true,true,true,true,true,true,true,true,true,true,false,false]) (fuel:=2) (by kernel_rfl) (by kernel_rfl) (by decide) (fun done wr=>nv x w w.drew.heap.size done wr) (fun done i wr o hi hn ho hI hSr => ?step01) (fun k done wr hall hI hSr => ?fin01) ?ini01 (by assumption)
   case ini01=>exact oQ x w (aw zR)
   case step01 =>
    have hg:w.heap.size≤w.drew.heap.size:=Nat.le_refl _
    rcases jo hi with rfl | rfl | rfl | rfl | rfl
    ·
     have ho2:some ⟨none,.insert 171 (.tmp 12) (.const (.string ⟨#[107]⟩)) (.tmp 17),0, "script.go:53",#[⟨0,.data⟩,⟨5,.data⟩],none⟩=some o:=ho
     obtain rfl:=Option.some.inj ho2
     refine ⟨by rfl,?_⟩
     refine cd hum huk hI hg hi hn rfl rfl rfl ?_ HS.out
     first | rfl | (unfold jT;rw [h1];rfl) | (unfold jT;rw [h2];rfl)
    ·
     have ho2:some ⟨none,.insert 171 (.tmp 12) (.const (.string ⟨#[118]⟩)) (.tmp 22),0, "script.go:53",#[⟨0,.data⟩,⟨11,.data⟩],none⟩=some o:=ho
     obtain rfl:=Option.some.inj ho2
     refine ⟨by rfl,?_⟩
     refine cd hum huk hI hg hi hn rfl rfl rfl ?_ HS.out
     first | rfl | (unfold jT;rw [h1];rfl) | (unfold jT;rw [h2];rfl)
    ·
     have ho2:some ⟨none,.insert 171 (.tmp 12) (.const (.string ⟨#[114]⟩)) (.tmp 28),0, "script.go:53",#[⟨0,.data⟩,⟨18,.data⟩],none⟩=some o:=ho
     obtain rfl:=Option.some.inj ho2
     refine ⟨by rfl,?_⟩
     refine cd hum huk hI hg hi hn rfl rfl rfl ?_ HS.out
     first | rfl | (unfold jT;rw [h1];rfl) | (unfold jT;rw [h2];rfl)
    ·
     have ho2:some ⟨none,.insert 171 (.tmp 12) (.const (.string ⟨#[98]⟩)) (.tmp 40),0, "script.go:53",#[⟨0,.data⟩,⟨31,.data⟩],none⟩=some o:=ho
     obtain rfl:=Option.some.inj ho2
     refine ⟨by rfl,?_⟩
     refine cd hum huk hI hg hi hn rfl rfl rfl ?_ HS.out
     first | rfl | (unfold jT;rw [h1];rfl) | (unfold jT;rw [h2];rfl)
    ·
     have ho2:some ⟨none,.insert 171 (.tmp 12) (.const (.string ⟨#[108]⟩)) (.tmp 53),0, "script.go:53",#[⟨0,.data⟩,⟨45,.data⟩],none⟩=some o:=ho
     obtain rfl:=Option.some.inj ho2
     refine ⟨by rfl,?_⟩
     refine cd hum huk hI hg hi hn rfl rfl rfl ?_ HS.out
     first | rfl | (unfold jT;rw [h1];rfl) | (unfold jT;rw [h2];rfl)
   case fin01 =>
    refine tk 47 ?_ (hy:=by intro w h;clear h;go_simp;try with_reducible rfl)
    refine tk 48 ?_ (hy:=by intro w h;clear h;go_simp;try with_reducible rfl)
    refine wpAnyH_done (by kernel_rfl) ?_ _
    refine NoPanic.normal ?_
    go_wp2
    go_meet
    obtain ⟨ps,i1,i2,i3,i4⟩:=uO hI hall
    exact ⟨_,ps,rfl,i1,i2,i3,i4⟩
  ·
   skip
   refine wp_region_noPanic ?_
   refine wp_region_held_drew (S:=aF p x ba bc ra rc w) (by kernel_rfl) ?hS1000 (fun hHeld => ?_)
   case hS1000=>exact HS.out _ (aw zR)
   refine tk 1 ?_ (hy:=by intro w h;unfold aF at h;go_simp;try with_reducible rfl)
   refine tk 2 ?_ (hy:=by intro w h;unfold aF at h;go_simp;try with_reducible rfl)
   refine tk 3 ?_ (hy:=by intro w h;unfold aF at h;go_simp;try with_reducible rfl)
   refine tk 4 ?_ (hy:=by intro w h;unfold aF at h;go_simp;try with_reducible rfl)
   refine tk 5 ?_ (hy:=by intro w h;unfold aF at h;go_simp;try with_reducible rfl)
   refine tk 7 ?_ (hy:=by intro w h;unfold aF at h;go_simp;try with_reducible rfl)
   refine tk 8 ?_ (hy:=by intro w h;unfold aF at h;go_simp;try with_reducible rfl)
   refine tk 9 ?_ (hy:=by intro w h;unfold aF at h;go_simp;try with_reducible rfl)
   refine tk 10 ?_ (hy:=by intro w h;unfold aF at h;go_simp;try with_reducible rfl)
   refine tk 11 ?_ (hy:=by intro w h;unfold aF at h;go_simp;try with_reducible rfl)
   refine tk 13 ?_ (hy:=by intro w h;unfold aF at h;go_simp;try with_reducible rfl)
   refine tk 14 ?_ (hy:=by intro w h;unfold aF at h;go_simp;try with_reducible rfl)
   refine tk 15 ?_ (hy:=by intro w h;unfold aF at h;go_simp;try with_reducible rfl)
   refine tk 16 ?_ (hy:=by intro w h;unfold aF at h;go_simp;try with_reducible rfl)
   refine tk 17 ?_ (hy:=by intro w h;unfold aF at h;go_simp;try with_reducible rfl)
   refine tk 18 ?_ (hy:=by intro w h;unfold aF at h;go_simp;try with_reducible rfl)
   refine tk 20 ?_ (hy:=by intro w h;unfold aF at h;go_simp;try with_reducible rfl)
   refine tk 21 ?_ (hy:=by intro w h;unfold aF at h;go_simp;try with_reducible rfl)
   refine tk 22 ?_ (hy:=by intro w h;unfold aF at h;go_simp;try with_reducible rfl)
   refine tk 23 ?_ (hy:=by intro w h;unfold aF at h;go_simp;try with_reducible rfl)
   refine tk 24 ?_ (hy:=by intro w h;unfold aF at h;go_simp;try with_reducible rfl)
   refine tk 25 ?_ (hy:=by intro w h;unfold aF at h;go_simp;try with_reducible rfl)
   refine tk 26 ?_ (hy:=by intro w h;unfold aF at h;go_simp;try with_reducible rfl)
   refine tk 27 ?_ (hy:=by intro w h;unfold aF at h;go_simp;try with_reducible rfl)
   refine tk 28 ?_ (hy:=by intro w h;unfold aF at h;go_simp;try with_reducible rfl)
   refine tk 29 ?_ (hy:=by intro w h;unfold aF at h;go_simp;try with_reducible rfl)
   refine tk 30 ?_ (hy:=by intro w h;unfold aF at h;go_simp;try with_reducible rfl)
   refine tk 31 ?_ (hy:=by intro w h;unfold aF at h;go_simp;try with_reducible rfl)
   refine tk 33 ?_ (hy:=by intro w h;unfold aF at h;go_simp;try with_reducible rfl)
   refine tk 34 ?_ (hy:=by intro w h;unfold aF at h;go_simp;try with_reducible rfl)
   refine tk 35 ?_ (hy:=by intro w h;unfold aF at h;go_simp;try with_reducible rfl)
   refine tk 36 ?_ (hy:=by intro w h;unfold aF at h;go_simp;try with_reducible rfl)
   refine tk 37 ?_ (hy:=by intro w h;unfold aF at h;go_simp;try with_reducible rfl)
   refine tk 38 ?_ (hy:=by intro w h;unfold aF at h;go_simp;try with_reducible rfl)
   refine tk 39 ?_ (hy:=by intro w h;unfold aF at h;go_simp;try with_reducible rfl)
   refine tk 40 ?_ (hy:=by intro w h;unfold aF at h;go_simp;try with_reducible rfl)
   refine tk 41 ?_ (hy:=by intro w h;unfold aF at h;go_simp;try with_reducible rfl)
   refine tk 42 ?_ (hy:=by intro w h;unfold aF at h;go_simp;try with_reducible rfl)
   refine tk 43 ?_ (hy:=by intro w h;unfold aF at h;go_simp;try with_reducible rfl)
   refine tk 44 ?_ (hy:=by intro w h;unfold aF at h;go_simp;try with_reducible rfl)
   refine tk 45 ?_ (hy:=by intro w h;unfold aF at h;go_simp;try with_reducible rfl)
   refine tr 0 fun K hK => ?_
   go_simp
   refine hK.out _ _ ?hM1000 (fun hHeld2 => ?_)
   case hM1000=>exact HS.out _ (ae (aw zR) _)
   clear hK K
   try simp only [Act.put,zS,zT,zU]
   refine lu (R:=su) (fin := #[true,true,true,true,true,true,true,true,true,true,true,true,true,true,true,true,true,true,true,true,true,true,true,true,true,true,true,true,true,true,true,true,true,true,true,true,true,true,true,true,true,true,true,true,true,true,true,false,false]) (fuel:=2) (by kernel_rfl) (by kernel_rfl) (by decide) (fun done wr=>nv x w w.drew.heap.size done wr) (fun done i wr o hi hn ho hI hSr => ?step00) (fun k done wr hall hI hSr => ?fin00) ?ini00 (by assumption)
   case ini00=>exact oQ x w (aw zR)
   case step00 =>
    have hg:w.heap.size≤w.drew.heap.size:=Nat.le_refl _
    rcases jo hi with rfl | rfl | rfl | rfl | rfl
    ·
     have ho2:some ⟨none,.insert 171 (.tmp 12) (.const (.string ⟨#[107]⟩)) (.tmp 17),0, "script.go:53",#[⟨0,.data⟩,⟨5,.data⟩],none⟩=some o:=ho
     obtain rfl:=Option.some.inj ho2
     refine ⟨by rfl,?_⟩
     refine cd hum huk hI hg hi hn rfl rfl rfl ?_ HS.out
     first | rfl | (unfold jT;rw [h1];rfl) | (unfold jT;rw [h2];rfl)
    ·
     have ho2:some ⟨none,.insert 171 (.tmp 12) (.const (.string ⟨#[118]⟩)) (.tmp 22),0, "script.go:53",#[⟨0,.data⟩,⟨11,.data⟩],none⟩=some o:=ho
     obtain rfl:=Option.some.inj ho2
     refine ⟨by rfl,?_⟩
     refine cd hum huk hI hg hi hn rfl rfl rfl ?_ HS.out
     first | rfl | (unfold jT;rw [h1];rfl) | (unfold jT;rw [h2];rfl)
    ·
     have ho2:some ⟨none,.insert 171 (.tmp 12) (.const (.string ⟨#[114]⟩)) (.tmp 28),0, "script.go:53",#[⟨0,.data⟩,⟨18,.data⟩],none⟩=some o:=ho
     obtain rfl:=Option.some.inj ho2
     refine ⟨by rfl,?_⟩
     refine cd hum huk hI hg hi hn rfl rfl rfl ?_ HS.out
     first | rfl | (unfold jT;rw [h1];rfl) | (unfold jT;rw [h2];rfl)
    ·
     have ho2:some ⟨none,.insert 171 (.tmp 12) (.const (.string ⟨#[98]⟩)) (.tmp 40),0, "script.go:53",#[⟨0,.data⟩,⟨31,.data⟩],none⟩=some o:=ho
     obtain rfl:=Option.some.inj ho2
     refine ⟨by rfl,?_⟩
     refine cd hum huk hI hg hi hn rfl rfl rfl ?_ HS.out
     first | rfl | (unfold jT;rw [h1];rfl) | (unfold jT;rw [h2];rfl)
    ·
     have ho2:some ⟨none,.insert 171 (.tmp 12) (.const (.string ⟨#[108]⟩)) (.tmp 53),0, "script.go:53",#[⟨0,.data⟩,⟨45,.data⟩],none⟩=some o:=ho
     obtain rfl:=Option.some.inj ho2
     refine ⟨by rfl,?_⟩
     refine cd hum huk hI hg hi hn rfl rfl rfl ?_ HS.out
     first | rfl | (unfold jT;rw [h1];rfl) | (unfold jT;rw [h2];rfl)
   case fin00 =>
    refine tk 47 ?_ (hy:=by intro w h;clear h;go_simp;try with_reducible rfl)
    refine tk 48 ?_ (hy:=by intro w h;clear h;go_simp;try with_reducible rfl)
    refine wpAnyH_done (by kernel_rfl) ?_ _
    refine NoPanic.normal ?_
    go_wp2
    go_meet
    obtain ⟨ps,i1,i2,i3,i4⟩:=uO hI hall
    exact ⟨_,ps,rfl,i1,i2,i3,i4⟩
 case rest =>
  obtain ⟨g,ps,rfl,hmap,hps,hbw,hgl⟩:=hcut
  obtain ⟨es,hb,hst,hes⟩:=hmap.ex
  have hrg:=run_range_map (P:=prog) wc 171 9 4 g es ps.length (by kernel_rfl) hb
  have HK:=zH (zA hst (zA (fun (e:MapEntry) (he:e ∈ es.toList)=>pj.keys hes he) (zA hps hbw)))
  have HE:=zH hes
  clear hmap hst hes hps hbw
  generalize ps.length=clock at *
  have hR:(wc.alloc (.mapIter (some g) clock #[] clock)).heap[wc.heap.size]? = some (.mapIter (some g) clock #[] clock):=ag _ _
  have hG:(wc.alloc (.mapIter (some g) clock #[] clock)).heap[g]? = some (.map es clock):=(heap_alloc_old wc _ hgl).trans hb
  have hB:=zH (Below.alloc HK.out.2.2.2 HK.out.2.2.2.size (.mapIter (some g) clock #[] clock))
  have hN:=zH HK.out.2.2.2.size
  have hne:=zH (show wc.heap.size≠g by omega)
  have H0:=zH (zA hR hG)
  clear hR hG hgl hb
  go_upto_if 68 with fail
  clear hrg
  generalize wc.alloc (.mapIter (some g) clock #[] clock)=wl at *
  generalize wc.heap.size=R at *
  go_loopg [5,6] (leftOf es #[]).size (fun n s5 s6 wr => ∃ seen,n=(leftOf es seen).size∧wr.heap[R]? = some (.mapIter (some g) clock seen clock)∧wr.heap[g]? = some (.map es clock)∧Below w.heap.size w wr ∧ ∀ e ∈ es.toList,seen.contains e.born=true→Li (mN x.kind) e)
  case atStart=>exact ⟨#[],rfl,H0.out.1,H0.out.2,hB.out,fun e _ h=>by simp at h⟩
  case round =>
   obtain ⟨seen,hn,hr1,hg1,hbl,hok⟩:=hrel
   have law:=run_next_at (P:=prog) wr 0 R g clock clock seen es clock hr1 hg1 HK.out.1.1 zY
   have HN:=zH hn
   have HO:=zH hok
   have HA:=zH (zA hr1 (zA hg1 hbl))
   clear hn hok hr1 hg1 hbl H0 hB
   rcases law with ⟨h0,hrun⟩ | ⟨e,he,w1,hw1,hrun⟩
   ·
    have hnx : ∀ ty,(Instr.next (.pointer (some ⟨R,0,none⟩)) false ty).run prog wr=_:=fun _=>hrun
    have HL:=zH (Ic HE.out HK.out.2.2.1 HO.out h0)
    clear hrun h0
    go_wp2
    go_ret
    rw [HL.out]
    exact ⟨rfl,HA.out.2.2⟩
   ·
    obtain ⟨q,hq,hk1,hv1⟩:=HK.out.2.1 e (mem_left he).1
    rw [hk1,hv1] at hrun
    have hnx : ∀ ty,(Instr.next (.pointer (some ⟨R,0,none⟩)) false ty).run prog wr=_:=fun _=>hrun
    have hb1:Below w.heap.size w w1∧w1.heap[R]? = some (.mapIter (some g) clock seen clock)∧w1.heap[g]? = some (.map es clock):=by
     rcases hw1 with rfl | rfl
     ·
      exact ⟨HA.out.2.2,HA.out.1,HA.out.2.1⟩
     ·
      exact ⟨HA.out.2.2.drew,HA.out.1,HA.out.2.1⟩
    have hb2:(setBlock w1 R (.mapIter (some g) clock (seen.push e.born) clock)).heap[R]? = _:=GX hb1.2.1
    have hb3:(setBlock w1 R (.mapIter (some g) clock (seen.push e.born) clock)).heap[g]? = some (.map es clock):=(GY hne.out _).trans hb1.2.2
    have hb4:=A0 hb1.1 hN.out (.mapIter (some g) clock (seen.push e.born) clock)
    have hen:=run_entry_at (P:=prog) _ R g clock seen es clock e hb2 hb3 (mem_left he).1 HK.out.1.2.1
    rw [hk1,hv1] at hen
    have HM:=zH (left_shrinks es seen e he)
    have HX:=zH (zA hb2 (zA hb3 hb4))
    have HP:=zH (fun h=>J6 HO.out HK.out.1.2.1 (mem_left he).1 (K6 hk1 hv1 h))
    have HQ:=zH ((HK.out.2.2.1 q).1 hq)
    clear hb1 hb2 hb3 hb4 hw1 hrun he hk1 hv1 hq
    generalize setBlock w1 R (.mapIter (some g) clock (seen.push e.born) clock)=w3 at *
    generalize seen.push e.born=seen3 at *
    obtain ⟨c,v⟩:=q
    cases v with
    | false =>
     go_wp2
     go_roundg (leftOf es seen3).size
     case measure=>rw [HN.out];exact HM.out
     case rel=>exact ⟨seen3,rfl,HX.out.1,HX.out.2.1,HX.out.2.2,HP.out rfl⟩
    | true =>
     have HC:=zH (fun w=>Tryz.strings_Contains_one (mN x.kind) c w)
     cases hh:hasB (mN x.kind) c with
     | true =>
      unfold hasB at hh
      rw [hh] at HC
      have HH:=zH hh
      clear hh
      go_wp2_with (go_at_call 85;refine (HC.out _).mono ?_;rintro e w1 ⟨rfl,rfl⟩)
      go_roundg (leftOf es seen3).size
      case measure=>rw [HN.out];exact HM.out
      case rel=>exact ⟨seen3,rfl,HX.out.1,HX.out.2.1,HX.out.2.2,HP.out HH.out⟩
     | false =>
      have HF:=zH (JS HQ.out rfl hh)
      unfold hasB at hh
      rw [hh] at HC
      clear hh
      go_wp2_with (go_at_call 85;refine (HC.out _).mono ?_;rintro e w1 ⟨rfl,rfl⟩)
      go_ret
      rw [HF.out]
      exact ⟨rfl,HX.out.2.2⟩
end
def qQ (x:cW):Bool:=bG 0 7 [x.kind]&&qd x&&pA x&&bG 0 4095 [x.at_]&&bG 0 8 [x.width]&&bG 0 65535 [x.cD]&&bG 1 400 x.busy&&bG 0 4095 x.reads
theorem K8 {w:World} {g:Nat} {x:Int} (h:w.cell? ⟨g,0,none⟩=some (.int .i64 x)):aK w (some ⟨g,0,none⟩) [x]:=aK.of fun i hi=>by
 have hi:i<1:=hi
 obtain rfl:i=0:=by omega
 exact h
theorem kZ (l u:Int) (g:Nat) (x:Int) (w:World) (h:w.cell? ⟨g,0,none⟩=some (.int .i64 x)):Calls prog 51 #[.int .i64 l,.int .i64 u,.slice (some ⟨g,0,none⟩) 1 1] w fun e w'=>e=.returned (.bool (bG l u [x]))∧w=w' :=
 lA l u _ _ [x] w (K8 h) (by show 1≤_;decide)
theorem FL (x:cW) (ba:Option Addr) (bc:Nat) (ra:Option Addr) (rc:Nat) (w:World) (hb:aK w ba x.busy) (hr:aK w ra x.reads) (lb:x.busy.length≤4611686018427387904) (lr:x.reads.length≤4611686018427387904):Calls prog 29 #[.agg (x.row ba bc ra rc)] w fun e w'=>e=.returned (.bool (qQ x))∧Below w.heap.size w w':=by
 have hbW:=ae (Below.refl w.heap.size w) (.cells (x.row ba bc ra rc) 31)
 have e0:fG (w.alloc (.cells (x.row ba bc ra rc) 31)) w.heap.size x ba bc ra rc:=ag _ _
 have HD:=zH (fun w' (h:Below (w.alloc (.cells (x.row ba bc ra rc) 31)).heap.size (w.alloc (.cells (x.row ba bc ra rc) 31)) w')=>(show fG w' w.heap.size x ba bc ra rc from aa h e0))
 have HI:=zH (fun w' (h:Below w.heap.size w w')=>zA (hb.aj h) (hr.aj h))
 have HL:=zH (zA lb lr)
 have HBW:=zH hbW
 have hrow:x.row ba bc ra rc = #[.int .i64 x.kind,.string x.key,.string x.value,.int .i64 x.at_,.int .i64 x.width,.int .i64 x.cD,.string x.mask,.slice ba x.busy.length bc,.slice ra x.reads.length rc]:=rfl
 clear e0 hbW hb hr lb lr
 rw [hrow] at HD HBW ⊢
 clear hrow
 have HM:=zH (show qQ x=(bG 0 7 [x.kind]&&qd x&&pA x&&bG 0 4095 [x.at_]&&bG 0 8 [x.width]&&bG 0 65535 [x.cD]&&bG 1 400 x.busy&&bG 0 4095 x.reads) from rfl)
 have H1:=zH (fun g w h=>kZ 0 7 g x.kind w h)
 have H2:=zH (fun w' (h:fG w' w.heap.size x ba bc ra rc)=>Co w.heap.size x ba bc ra rc w' h)
 have H3:=zH (fun w' (h:fG w' w.heap.size x ba bc ra rc)=>Dw w.heap.size x ba bc ra rc w' h)
 have H4:=zH (fun g w h=>kZ 0 4095 g x.at_ w h)
 have H5:=zH (fun g w h=>kZ 0 8 g x.width w h)
 have H6:=zH (fun g w h=>kZ 0 65535 g x.cD w h)
 generalize hW:w.alloc (.cells #[.int .i64 x.kind,.string x.key,.string x.value,.int .i64 x.at_,.int .i64 x.width,.int .i64 x.cD,.string x.mask,.slice ba x.busy.length bc,.slice ra x.reads.length rc] 31)=W at HD HBW
 have H7:=zH (fun w' (hb:Below W.heap.size W w')=>lA 1 400 ba bc x.busy w' (HI.out w' (gtr HBW.out hb)).1 HL.out.1)
 have H8:=zH (fun w' (hb:Below W.heap.size W w')=>lA 0 4095 ra rc x.reads w' (HI.out w' (gtr HBW.out hb)).2 HL.out.2)
 replace HD:=zH (fun w' (h:Below W.heap.size W w')=>have e:=HD.out w' h;zA e (zA (show w'.cell? ⟨w.heap.size,3,none⟩=some (.int .i64 x.at_) from cell_of e 3) (zA (show w'.cell? ⟨w.heap.size,4,none⟩=some (.int .i64 x.width) from cell_of e 4) (zA (show w'.cell? ⟨w.heap.size,5,none⟩=some (.int .i64 x.cD) from cell_of e 5) (zA (show w'.cell? ⟨w.heap.size,7,none⟩=some (.slice ba x.busy.length bc) from cell_of e 7) (show w'.cell? ⟨w.heap.size,8,none⟩=some (.slice ra x.reads.length rc) from cell_of e 8))))))
 have c0:W.cell? ⟨w.heap.size,0,none⟩=some (.int .i64 x.kind):=cell_of (HD.out W zR).1 0
 generalize bG 0 7 [x.kind]=b1 at *
 generalize qd x=b2 at *
 generalize pA x=b3 at *
 generalize bG 0 4095 [x.at_]=b4 at *
 generalize bG 0 8 [x.width]=b5 at *
 generalize bG 0 65535 [x.cD]=b6 at *
 generalize bG 1 400 x.busy=b7 at *
 generalize bG 0 4095 x.reads=b8 at *
 go_enter func29,ntmps29
 go_upto_region 1 with fail
 try rw [hW]
 clear hW
 cases b1 with
 | false =>
  go_wp2_with (first
   | (go_at_call 51;(with_reducible refine Calls.mono (H1.out _ _ ?_) ?_);exact cell_of (ag W _) 0;rintro e w1 ⟨rfl,he⟩;have hb1:Below W.heap.size W w1:=(by rw [← he];exact ae zR _);clear he))
  go_ret
  rw [HM.out]
  exact ⟨by simp,gtr HBW.out hb1⟩
 | true =>
  cases b2 with
  | false =>
   go_wp2_with (first
    | (go_at_call 51;(with_reducible refine Calls.mono (H1.out _ _ ?_) ?_);exact cell_of (ag W _) 0;rintro e w1 ⟨rfl,he⟩;have hb1:Below W.heap.size W w1:=(by rw [← he];exact ae zR _);clear he)
    | (go_at_call 52;refine (H2.out w1 (HD.out w1 hb1).1).mono ?_;rintro e wx ⟨rfl,rfl⟩))
   go_ret
   rw [HM.out]
   exact ⟨by simp,gtr HBW.out hb1⟩
  | true =>
   cases b3 with
   | false =>
    go_wp2_with (first
     | (go_at_call 51;(with_reducible refine Calls.mono (H1.out _ _ ?_) ?_);exact cell_of (ag W _) 0;rintro e w1 ⟨rfl,he⟩;have hb1:Below W.heap.size W w1:=(by rw [← he];exact ae zR _);clear he)
     | (go_at_call 52;refine (H2.out w1 (HD.out w1 hb1).1).mono ?_;rintro e wx ⟨rfl,rfl⟩)
     | (go_at_call 53;refine (H3.out w1 (HD.out w1 hb1).1).mono ?_;rintro e w3 ⟨rfl,hb⟩;have hb3:=gtr hb1 hb;have c3:=(HD.out w3 hb3).2.1;clear hb))
    go_ret
    rw [HM.out]
    exact ⟨by simp,gtr HBW.out hb3⟩
   | true =>
    cases b4 with
    | false =>
     go_wp2_with (first
      | (go_at_call 51;(with_reducible refine Calls.mono (H1.out _ _ ?_) ?_);exact cell_of (ag W _) 0;rintro e w1 ⟨rfl,he⟩;have hb1:Below W.heap.size W w1:=(by rw [← he];exact ae zR _);clear he)
      | (go_at_call 52;refine (H2.out w1 (HD.out w1 hb1).1).mono ?_;rintro e wx ⟨rfl,rfl⟩)
      | (go_at_call 53;refine (H3.out w1 (HD.out w1 hb1).1).mono ?_;rintro e w3 ⟨rfl,hb⟩;have hb3:=gtr hb1 hb;have c3:=(HD.out w3 hb3).2.1;clear hb)
      | (go_at_call 51;(with_reducible refine Calls.mono (H4.out _ _ ?_) ?_);exact cell_of (ag w3 _) 0;rintro e w4 ⟨rfl,he⟩;have hb4:Below W.heap.size W w4:=(by rw [← he];exact ae hb3 _);have c4:=(HD.out w4 hb4).2.2.1;clear he))
     go_ret
     rw [HM.out]
     exact ⟨by simp,gtr HBW.out hb4⟩
    | true =>
     cases b5 with
     | false =>
      go_wp2_with (first
       | (go_at_call 51;(with_reducible refine Calls.mono (H1.out _ _ ?_) ?_);exact cell_of (ag W _) 0;rintro e w1 ⟨rfl,he⟩;have hb1:Below W.heap.size W w1:=(by rw [← he];exact ae zR _);clear he)
       | (go_at_call 52;refine (H2.out w1 (HD.out w1 hb1).1).mono ?_;rintro e wx ⟨rfl,rfl⟩)
       | (go_at_call 53;refine (H3.out w1 (HD.out w1 hb1).1).mono ?_;rintro e w3 ⟨rfl,hb⟩;have hb3:=gtr hb1 hb;have c3:=(HD.out w3 hb3).2.1;clear hb)
       | (go_at_call 51;(with_reducible refine Calls.mono (H4.out _ _ ?_) ?_);exact cell_of (ag w3 _) 0;rintro e w4 ⟨rfl,he⟩;have hb4:Below W.heap.size W w4:=(by rw [← he];exact ae hb3 _);have c4:=(HD.out w4 hb4).2.2.1;clear he)
       | (go_at_call 51;(with_reducible refine Calls.mono (H5.out _ _ ?_) ?_);exact cell_of (ag w4 _) 0;rintro e w5 ⟨rfl,he⟩;have hb5:Below W.heap.size W w5:=(by rw [← he];exact ae hb4 _);have c5:=(HD.out w5 hb5).2.2.2.1;clear he))
      go_ret
      rw [HM.out]
      exact ⟨by simp,gtr HBW.out hb5⟩
     | true =>
      cases b6 with
      | false =>
       go_wp2_with (first
        | (go_at_call 51;(with_reducible refine Calls.mono (H1.out _ _ ?_) ?_);exact cell_of (ag W _) 0;rintro e w1 ⟨rfl,he⟩;have hb1:Below W.heap.size W w1:=(by rw [← he];exact ae zR _);clear he)
        | (go_at_call 52;refine (H2.out w1 (HD.out w1 hb1).1).mono ?_;rintro e wx ⟨rfl,rfl⟩)
        | (go_at_call 53;refine (H3.out w1 (HD.out w1 hb1).1).mono ?_;rintro e w3 ⟨rfl,hb⟩;have hb3:=gtr hb1 hb;have c3:=(HD.out w3 hb3).2.1;clear hb)
        | (go_at_call 51;(with_reducible refine Calls.mono (H4.out _ _ ?_) ?_);exact cell_of (ag w3 _) 0;rintro e w4 ⟨rfl,he⟩;have hb4:Below W.heap.size W w4:=(by rw [← he];exact ae hb3 _);have c4:=(HD.out w4 hb4).2.2.1;clear he)
        | (go_at_call 51;(with_reducible refine Calls.mono (H5.out _ _ ?_) ?_);exact cell_of (ag w4 _) 0;rintro e w5 ⟨rfl,he⟩;have hb5:Below W.heap.size W w5:=(by rw [← he];exact ae hb4 _);have c5:=(HD.out w5 hb5).2.2.2.1;clear he)
        | (go_at_call 51;(with_reducible refine Calls.mono (H6.out _ _ ?_) ?_);exact cell_of (ag w5 _) 0;rintro e w6 ⟨rfl,he⟩;have hb6:Below W.heap.size W w6:=(by rw [← he];exact ae hb5 _);have c7:=(HD.out w6 hb6).2.2.2.2.1;have c8:=(HD.out w6 hb6).2.2.2.2.2;clear he))
       go_ret
       rw [HM.out]
       exact ⟨by simp,gtr HBW.out hb6⟩
      | true =>
       cases b7 with
       | false =>
        go_wp2_with (first
         | (go_at_call 51;(with_reducible refine Calls.mono (H1.out _ _ ?_) ?_);exact cell_of (ag W _) 0;rintro e w1 ⟨rfl,he⟩;have hb1:Below W.heap.size W w1:=(by rw [← he];exact ae zR _);clear he)
         | (go_at_call 52;refine (H2.out w1 (HD.out w1 hb1).1).mono ?_;rintro e wx ⟨rfl,rfl⟩)
         | (go_at_call 53;refine (H3.out w1 (HD.out w1 hb1).1).mono ?_;rintro e w3 ⟨rfl,hb⟩;have hb3:=gtr hb1 hb;have c3:=(HD.out w3 hb3).2.1;clear hb)
         | (go_at_call 51;(with_reducible refine Calls.mono (H4.out _ _ ?_) ?_);exact cell_of (ag w3 _) 0;rintro e w4 ⟨rfl,he⟩;have hb4:Below W.heap.size W w4:=(by rw [← he];exact ae hb3 _);have c4:=(HD.out w4 hb4).2.2.1;clear he)
         | (go_at_call 51;(with_reducible refine Calls.mono (H5.out _ _ ?_) ?_);exact cell_of (ag w4 _) 0;rintro e w5 ⟨rfl,he⟩;have hb5:Below W.heap.size W w5:=(by rw [← he];exact ae hb4 _);have c5:=(HD.out w5 hb5).2.2.2.1;clear he)
         | (go_at_call 51;(with_reducible refine Calls.mono (H6.out _ _ ?_) ?_);exact cell_of (ag w5 _) 0;rintro e w6 ⟨rfl,he⟩;have hb6:Below W.heap.size W w6:=(by rw [← he];exact ae hb5 _);have c7:=(HD.out w6 hb6).2.2.2.2.1;have c8:=(HD.out w6 hb6).2.2.2.2.2;clear he)
         | (go_at_call 51;(with_reducible refine (H7.out w6 hb6).mono ?_);rintro e wx ⟨rfl,rfl⟩))
        go_ret
        rw [HM.out]
        exact ⟨by simp,gtr HBW.out hb6⟩
       | true =>
        go_wp2_with (first
         | (go_at_call 51;(with_reducible refine Calls.mono (H1.out _ _ ?_) ?_);exact cell_of (ag W _) 0;rintro e w1 ⟨rfl,he⟩;have hb1:Below W.heap.size W w1:=(by rw [← he];exact ae zR _);clear he)
         | (go_at_call 52;refine (H2.out w1 (HD.out w1 hb1).1).mono ?_;rintro e wx ⟨rfl,rfl⟩)
         | (go_at_call 53;refine (H3.out w1 (HD.out w1 hb1).1).mono ?_;rintro e w3 ⟨rfl,hb⟩;have hb3:=gtr hb1 hb;have c3:=(HD.out w3 hb3).2.1;clear hb)
         | (go_at_call 51;(with_reducible refine Calls.mono (H4.out _ _ ?_) ?_);exact cell_of (ag w3 _) 0;rintro e w4 ⟨rfl,he⟩;have hb4:Below W.heap.size W w4:=(by rw [← he];exact ae hb3 _);have c4:=(HD.out w4 hb4).2.2.1;clear he)
         | (go_at_call 51;(with_reducible refine Calls.mono (H5.out _ _ ?_) ?_);exact cell_of (ag w4 _) 0;rintro e w5 ⟨rfl,he⟩;have hb5:Below W.heap.size W w5:=(by rw [← he];exact ae hb4 _);have c5:=(HD.out w5 hb5).2.2.2.1;clear he)
         | (go_at_call 51;(with_reducible refine Calls.mono (H6.out _ _ ?_) ?_);exact cell_of (ag w5 _) 0;rintro e w6 ⟨rfl,he⟩;have hb6:Below W.heap.size W w6:=(by rw [← he];exact ae hb5 _);have c7:=(HD.out w6 hb6).2.2.2.2.1;have c8:=(HD.out w6 hb6).2.2.2.2.2;clear he)
         | (go_at_call 51;(with_reducible refine (H7.out w6 hb6).mono ?_);rintro e wx ⟨rfl,rfl⟩)
         | (go_at_call 51;(with_reducible refine (H8.out w6 hb6).mono ?_);rintro e wx ⟨rfl,rfl⟩))
        go_ret
        rw [HM.out]
        exact ⟨by simp,gtr HBW.out hb6⟩
end Go.Proofs.YtcfdenckiigdaaaGreat

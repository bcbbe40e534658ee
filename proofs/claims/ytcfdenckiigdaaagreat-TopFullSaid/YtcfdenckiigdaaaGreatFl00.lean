/- Part 0 of the contracts. -/
import Derived.BigQuiet
import Derived.Deep.AppendLies
import Derived.Deep.DeepCutAuto
import Derived.Deep.RegionHeld3
import Derived.Laws.AppendOwnNone
import Derived.Lib.Hide
import Derived.ProofKit
import Derived.Test.YtcfdenckiigdaaaGreatChecked
import Derived.WalkSpells
set_option linter.unusedVariables false
set_option maxRecDepth 100000
set_option maxHeartbeats 4000000
namespace Go.Proofs.YtcfdenckiigdaaaGreat
open Tryz
section
open Go.RowKit
theorem zS {α:Type _} {l:List α} {i:Nat} {a:α}:l.toArray.setIfInBounds i a=(l.set i a).toArray:=List.setIfInBounds_toArray ..
theorem zT {α:Type _} {xs:List α} {a b:α}:(a::xs).set 0 b=b::xs:=rfl
theorem zU {α:Type _} {xs:List α} {a b:α} {n:Nat}:(a::xs).set (n+1) b=a::xs.set n b:=rfl
theorem zR {n:Nat} {w:World}:Below n w w:=Below.refl _ _
theorem zN {w:World} {b:Nat} {t:TypeId} {z:Nat}:w.ownsRow b t z (.slice none 0 0) 0 []:=World.ownsRow_nil _ _ _ _
theorem zY {n:Nat}:n≤n:=Nat.le_refl _
theorem zX {n:Nat}:0≤n:=Nat.zero_le _
theorem zL (w:World) (a:Addr) {v:Value} (h:w.cell? a=some v):a.block<w.heap.size:=World.block_lt_of_cell? w a h
theorem zQ {α:Type _} [BEq α] [LawfulBEq α] {a b:α} (h:a≠b):(a==b)=false:=beq_eq_false_iff_ne.2 h
theorem zV {a b c:Nat} (h:a<b) (k:b≤c):a<c:=Nat.lt_of_lt_of_le h k
theorem zH {p:Prop} (h:p):RowKit.Hid p:=h
theorem zA {a b:Prop} (h:a) (k:b):a∧b:=⟨h,k⟩
theorem tk {P:Program} {ops:Array Oper} {Q:Exit→Act→World→Prop} {md:Region.Mode} {S:World→Prop} (i:Nat) {oi:Oper} {v:Value} {fuel:Nat} {listed:Array Bool} {a a':Act} {w:World} (h:wpAnyH P md ops Q S fuel (listed.setIfInBounds i true) a' w) (hi:ops[i]? = some oi:=by (simp only [List.getElem?_toArray,List.getElem?_cons_succ,List.getElem?_cons_zero];rfl)) (hs:Region.noSelect ops=true:=by kernel_rfl) (hf:Region.free md ops listed i=true:=by kernel_rfl) (hr:(Region.ready md ops listed).contains i=true:=by kernel_rfl) (hw:Region.wanted oi (yielded ops a.tmps)=true:=by rfl) (hy : ∀ w,S w→(execOp a.eval oi).run P w=.ok (.value v) w:=by (intro w hSw;(try dsimp only at hSw);go_simp;try with_reducible rfl)) (ha:a.put oi.dst v=a':=by (simp only [Act.put,zS,zT,zU];rfl)) (hQ : ∀ c a w,Q (.panic c) (a.put oi.dst v) w→Q (.panic c) a w:=by exact fun _ _ _ h=>h) (hS:S w:=by assumption):wpAnyH P md ops Q S (fuel+1) listed a w:=by
 subst ha
 exact wpAnyH_take hi hs hf hr hQ (.inl ⟨hw,hy⟩) hS h
theorem tn {P:Program} {ops:Array Oper} {Q:Exit→Act→World→Prop} {md:Region.Mode} {S:World→Prop} (i:Nat) {oi:Oper} {fuel:Nat} {listed:Array Bool} {a a':Act} {w:World} (h:wpAnyH P md ops Q S fuel (listed.setIfInBounds i true) a' w) (hi:ops[i]? = some oi:=by (simp only [List.getElem?_toArray,List.getElem?_cons_succ,List.getElem?_cons_zero];rfl)) (hs:Region.noSelect ops=true:=by kernel_rfl) (hf:Region.free md ops listed i=true:=by kernel_rfl) (hr:(Region.ready md ops listed).contains i=true:=by kernel_rfl) (hw:Region.wanted oi (yielded ops a.tmps)=false:=by rfl) (ha:a.put oi.dst undef=a':=by (simp only [Act.put,zS,zT,zU];rfl)) (hQ : ∀ c a w,Q (.panic c) (a.put oi.dst undef) w→Q (.panic c) a w:=by exact fun _ _ _ h=>h) (hS:S w:=by assumption):wpAnyH P md ops Q S (fuel+1) listed a w:=by
 subst ha
 exact wpAnyH_take hi hs hf hr hQ (.inr ⟨hw,rfl⟩) hS h
theorem tr {P:Program} {ops:Array Oper} {Q:Exit→Act→World→Prop} {md:Region.Mode} {S:World→Prop} (i:Nat) {o:Oper} {fuel:Nat} {listed:Array Bool} {a:Act} {w:World} (h : ∀ K':Act→World→Prop,Shut (∀ a w,S w→(S w→wpAnyH P md ops Q S fuel (listed.setIfInBounds i true) a w)→K' a w)→if Region.wanted o (yielded ops a.tmps)=true then Oper.wp P o a w K' Q else K' (a.put o.dst undef) w) (ho:ops[i]? = some o:=by (simp only [List.getElem?_toArray,List.getElem?_cons_succ,List.getElem?_cons_zero];rfl)) (hr:Region.ready md ops listed=[i]:=by kernel_rfl):wpAnyH P md ops Q S (fuel+1) listed a w :=
 wpAnyH_ready hr (by simp) (AllReadyH.cons ho h AllReadyH.nil)
end
section
open Go.RowKit
theorem gtr {a b c:World} (h:Below a.heap.size a b) (k:Below b.heap.size b c):Below a.heap.size a c:=h.trans (k.mono h.size)
theorem ae {a b:World} (h:Below a.heap.size a b) (o:Obj):Below a.heap.size a (b.alloc o):=h.alloc h.size o
theorem au {a b:World} (h:Below a.heap.size a b):Below a.heap.size a b.drew:=h.drew
theorem aY {a b:World} (h:Below a.heap.size a b) (n:Nat):Below a.heap.size a (b.drewN n):=h.trans ⟨rfl,rfl,rfl,Nat.le_refl _,fun _ _=>rfl⟩
theorem lh {a b:World} (h:Below a.heap.size a b) {p:Addr} (hp:a.heap.size≤p.block) (v:Value):Below a.heap.size a (b.setCell p v):=h.setCell hp v
theorem af (w:World) (o:Obj):(w.alloc o).heap[w.heap.size]? = some o:=by show (w.heap.push o)[w.heap.size]? = _;simp
theorem cell_of {w:World} {b:Nat} {c:Array Value} {t:TypeId} {f:Nat×Nat} (h:w.heap[b]? = some (.cells c t f)) (i:Nat):w.cell? ⟨b,i,none⟩=c[i]? := by simp [World.cell?,h]
theorem aF {w:World} {b:Nat} {c:Array Value} {t:TypeId} (h:w.heap[b]? = some (.cells c t (0,0))) (i:Nat):w.frozen? ⟨b,i,none⟩=false:=by simp [World.frozen?,h]
theorem aP {w:World} {b:Nat} {o:Obj} (h:w.heap[b]? = some o):b<w.heap.size:=by
 rcases Nat.lt_or_ge b w.heap.size with h' | h'
 ·
  exact h'
 ·
  simp [Array.getElem?_eq_none h'] at h
theorem aa {w w':World} {b:Nat} {o:Obj} (hb:Below w.heap.size w w') (h:w.heap[b]? = some o):w'.heap[b]? = some o:=(hb.block b (aP h)).trans h
theorem di (b o j:Nat):(⟨b,o,none⟩:Addr).add j=⟨b,o+j,none⟩:=by unfold Addr.add;split <;> simp_all
def vt (x:Bool) (w:World) (e:Ending) (w':World):Prop:=e=.returned (.bool x)∧Below w.heap.size w w'
end
section
open Go.RowKit
def aU (w:World) (a:Option Addr) (xs:List Int):Prop :=
 ∀ i,i<xs.length → ∃ b off,a=some ⟨b,off,none⟩∧w.cell? ⟨b,off+i,none⟩=some (.int .i64 (xs.getD i 0))
theorem aU.at {w:World} {a:Option Addr} {xs:List Int} (h:aU w a xs) (hp:0<xs.length) : ∃ b off,a=some ⟨b,off,none⟩ ∧ ∀ i,i<xs.length→w.cell? ⟨b,off+i,none⟩=some (.int .i64 (xs.getD i 0)):=by
 obtain ⟨b,off,ha,_⟩:=h 0 hp
 refine ⟨b,off,ha,fun i hi => ?_⟩
 obtain ⟨b',off',ha',hc⟩:=h i hi
 rw [ha] at ha'
 obtain ⟨rfl,rfl⟩:b=b'∧off=off':=by simpa using ha'
 exact hc
theorem aU.of {w:World} {b off:Nat} {xs:List Int} (h : ∀ i,i<xs.length→w.cell? ⟨b,off+i,none⟩=some (.int .i64 (xs.getD i 0))):aU w (some ⟨b,off,none⟩) xs:=fun i hi=>⟨b,off,rfl,h i hi⟩
theorem aU.nil (w:World) (a:Option Addr):aU w a []:=fun i hi=>by simp at hi
def IA (b:Bool) (w:World) (e:Ending) (w':World):Prop:=e=.returned (.bool b) ∧ ∃ n,w'=w.drewN n
end
section
open Go.RowKit
theorem iK:(prog.info? 3).map (fun i=>(i.zero,i.size,i.bytes))=some (some (.int .i64 0),1,8):=by kernel_rfl
def aC (xs:List Int):List Value:=xs.map (.int .i64)
theorem uq (xs:List Int):(aC xs).length=xs.length * 1:=by simp [aC]
theorem ur (xs:List Int) : ∀ u ∈ aC xs,u.oneCell'=true:=by
 intro u hu;simp only [aC,List.mem_map] at hu;obtain ⟨x,_,rfl⟩:=hu;rfl
theorem uo (xs:List Int) (j:Nat) (u:Value) (h:(aC xs)[j]? = some u):j<xs.length∧u=.int .i64 (xs.getD j 0):=by
 simp only [aC,List.getElem?_map,Option.map_eq_some_iff] at h
 obtain ⟨x,hx,rfl⟩:=h
 have hj:=(List.getElem?_eq_some_iff.1 hx).1
 exact ⟨hj,by simp [List.getD,hx]⟩
def bz (w:World) (B:Nat) (v:Value) (xs:List Int):Prop :=
 ∃ a c,v=.slice a xs.length c ∧ ∀ i,i<xs.length → ∃ b off cur,a=some ⟨b,off,none⟩∧B≤b∧w.heap[b]? = some (.cells cur 3 (0,0))∧cur[off+i]? = some (.int .i64 (xs.getD i 0))
theorem bz.ints {w:World} {B:Nat} {v:Value} {xs:List Int} (h:bz w B v xs) : ∃ a c,v=.slice a xs.length c∧aU w a xs:=by
 obtain ⟨a,c,hv,hc⟩:=h
 refine ⟨a,c,hv,fun i hi => ?_⟩
 obtain ⟨b,off,cur,ha,_,hb,hx⟩:=hc i hi
 exact ⟨b,off,ha,(cell_of hb _).trans hx⟩
theorem bz.aj {w w':World} {B:Nat} {v:Value} {xs:List Int} (h:bz w B v xs) (hb:Below w.heap.size w w'):bz w' B v xs:=by
 obtain ⟨a,c,hv,hc⟩:=h
 refine ⟨a,c,hv,fun i hi => ?_⟩
 obtain ⟨b,off,cur,ha,hB,hh,hx⟩:=hc i hi
 exact ⟨b,off,cur,ha,hB,aa hb hh,hx⟩
theorem bz.mono {w:World} {B B':Nat} {v:Value} {xs:List Int} (h:bz w B v xs) (hB:B'≤B):bz w B' v xs:=by
 obtain ⟨a,c,hv,hc⟩:=h
 refine ⟨a,c,hv,fun i hi => ?_⟩
 obtain ⟨b,off,cur,ha,hB',hh,hx⟩:=hc i hi
 exact ⟨b,off,cur,ha,Nat.le_trans hB hB',hh,hx⟩
theorem bz.nil (w:World) (B:Nat):bz w B (.slice none 0 0) []:=⟨none,0,rfl,fun i hi=>by simp at hi⟩
theorem bz.dd {w:World} {B:Nat} {v:Value} {xs:List Int} (h:w.ownsRow B 3 1 v xs.length (aC xs)):bz w B v xs:=by
 rcases h.2 with ⟨rfl,hn⟩ | ⟨g,cap,cur,rfl,hb,hg,hnc,_,hcs,htake⟩
 ·
  refine ⟨none,0,by rw [hn],fun i hi=>by omega⟩
 ·
  refine ⟨some ⟨g,0,none⟩,cap,rfl,fun i hi=>⟨g,0,cur,rfl,hb,hg,?_⟩⟩
  have h1:(aC xs)[i]? = some (.int .i64 (xs.getD i 0)):=by simp [aC,List.getD,List.getElem?_eq_getElem hi]
  rw [← htake,List.getElem?_take] at h1
  split at h1
  ·
   simpa using h1
  ·
   cases h1
structure dg (f:FuncId) (p:Int→Bool):Prop where
 calls : ∀ (x:Int) (w:World),Calls prog f #[.int .i64 x] w fun e w'=>e=.returned (.bool (p x))∧w=w'
 run : ∀ (args:Array Value) (w:World),(callFunc f args).run prog w=.ok (.enter f args) w
def idxOf (p:Int→Bool) (xs:List Int):Int:=match xs.findIdx? p with | some i=>(i:Int) | none => -1
def Kr (x:Int) (w:World) (e:Ending) (w':World):Prop:=e=.returned (.int .i64 x) ∧ ∃ n,w'=w.drewN n
theorem Eg (p:Int→Bool) (xs:List Int) (k:Nat) (hk:k<xs.length) (hn : ∀ j,j<k→p (xs.getD j 0)=false) (h:p (xs.getD k 0)=true):idxOf p xs=k:=by
 have:xs.findIdx? p=some k:=by
  rw [List.findIdx?_eq_some_iff_getElem]
  refine ⟨hk,by simpa [List.getD,List.getElem?_eq_getElem hk] using h,fun j hj => ?_⟩
  have:=hn j hj
  have hj':j<xs.length:=by omega
  simpa [List.getD,List.getElem?_eq_getElem hj'] using this
 simp [idxOf,this]
theorem Eh (p:Int→Bool) (xs:List Int) (hn : ∀ j,j<xs.length→p (xs.getD j 0)=false):idxOf p xs = -1:=by
 have:xs.findIdx? p=none:=by
  rw [List.findIdx?_eq_none_iff]
  intro x hx
  obtain ⟨j,hj,rfl⟩:=List.getElem_of_mem hx
  have:=hn j hj
  simpa [List.getD,List.getElem?_eq_getElem hj] using this
 simp [idxOf,this]
theorem u5 (F:FuncId) (p:Int→Bool) (hF:dg F p) (a:Option Addr) (c:Nat) (xs:List Int) (w:World) (h1:aU w a xs) (hm:xs.length≤9223372036854775807):Calls prog 86 #[.slice a xs.length c,.func (.func F) #[] #[]] w (Kr (idxOf p xs) w):=by
 have HF:=zH hF
 have hrun:=hF.run
 clear hF
 go_enter func86,ntmps86
 go_wp2
 go_loopw [8] (fun i wr => ∃ k n:Nat,k≤xs.length∧i=.int .i64 k∧wr=w.drewN n ∧ ∀ j,j<k→p (xs.getD j 0)=false) (fun i _=>xs.length - (intOf i).toNat)
 case atStart=>exact ⟨0,0,Nat.zero_le _,rfl,rfl,fun j hj=>by omega⟩
 case round =>
  obtain ⟨k,n,hk,rfl,rfl,hsame⟩:=hrel
  have HS:=zH hsame
  clear hsame
  by_cases hlt:k<xs.length
  ·
   obtain ⟨b1,o1,rfl,g1⟩:=h1.at (by omega)
   have q1:=g1 k hlt
   have hlt':(k:Int)<(xs.length:Int):=by omega
   clear g1 h1
   cases hp:p (xs.getD k 0) with
   | true =>
    have HR:=zH (Eg p xs k hlt HS.out hp)
    have HP:=zH hp
    clear hp
    generalize hx:xs.getD k 0=x at *
    clear hx
    go_wp2_with fail
    refine (HF.out.calls x _).mono ?_
    rintro e w' ⟨rfl,rfl⟩
    rw [HP.out]
    go_wp2
    go_ret
    exact ⟨by rw [HR.out];rfl,n,rfl⟩
   | false =>
    have HN:=zH hp
    have HP:=zH hp
    clear hp
    generalize hx:xs.getD k 0=x at HP q1
    have HX:=zH hx
    clear hx
    go_wp2_with fail
    refine (HF.out.calls x _).mono ?_
    rintro e w' ⟨rfl,rfl⟩
    rw [HP.out]
    go_wp2
    go_roundw
    case rel=>exact ⟨k+1,n,by omega,by go_num,rfl,fun j hj=>by
     by_cases hjk:j<k
     ·
      exact HS.out j hjk
     ·
      obtain rfl:j=k:=by omega
      exact HN.out⟩
    case measure=>simp [intOf];omega
  ·
   obtain rfl:k=xs.length:=by omega
   have HR:=zH (Eh p xs HS.out)
   go_wp2
   go_ret
   exact ⟨by rw [HR.out];rfl,n,rfl⟩
theorem GS (p:Int→Bool) (xs:List Int):decide (0≤idxOf p xs)=xs.any p:=by
 cases h:xs.findIdx? p with
 | none =>
  have:xs.any p=false:=by
   rw [List.findIdx?_eq_none_iff] at h
   simpa [List.any_eq_false] using h
  simp [idxOf,h,this]
 | some i =>
  have:xs.any p=true:=by
   rw [List.findIdx?_eq_some_iff_getElem] at h
   obtain ⟨hi,hp,_⟩:=h
   exact List.any_eq_true.2 ⟨_,List.getElem_mem hi,hp⟩
  simp [idxOf,h,this]
theorem fq (F:FuncId) (p:Int→Bool) (hF:dg F p) (a:Option Addr) (c:Nat) (xs:List Int) (w:World) (h1:aU w a xs) (hm:xs.length≤9223372036854775807):Calls prog 55 #[.slice a xs.length c,.func (.func F) #[] #[]] w (IA (xs.any p) w):=by
 have HA:=zH (GS p xs)
 have HF:=zH hF
 clear hF
 go_enter func55,ntmps55
 go_wp2_with fail
 refine (u5 F p HF.out a c xs w h1 hm).mono ?_
 rintro e w' ⟨rfl,n,rfl⟩
 generalize idxOf p xs=r at *
 go_wp2
 go_ret
 refine ⟨?_,n,rfl⟩
 rw [← HA.out]
 simp
def Bw (xs:List Int) (w:World) (e:Ending) (w':World):Prop := ∃ a c,e=.returned (.slice a xs.length c)∧bz w' w.heap.size (.slice a xs.length c) xs∧Below w.heap.size w w'
theorem qe (w:World) (t:TypeId) (size:Nat) (B:Nat) (hB:B≤w.heap.size):(w.alloc (.cells #[] t)).ownsRow B t size (.slice (some ⟨w.heap.size,0,none⟩) 0 0) 0 [] :=
 World.ownsRow_made w #[] 0 hB zX (by simp)
theorem dP {w w1 w2:World} (h:Below w.heap.size w w1) {v:Value} (hg:w1.grownBy w2 v.ownBlock) (ho : ∀ k,v.ownBlock=some k→w.heap.size≤k):Below w.heap.size w w2 :=
 h.grown hg h.size ho
theorem nZ (a:Option Addr) (c:Nat) (xs:List Int) (w:World) (h1:aU w a xs) (hn:a=none→c=0) (hm:xs.length * 8≤140737488355328):Calls prog 56 #[.slice a xs.length c] w (Bw xs w):=by
 have kn:=fun (w:World) (x:Option Addr) (n c:Nat)=>Lib.run_eql_slice_nil (P:=prog) w 22 3 x n c 0 0 underlying22
 cases a with
 | none =>
  obtain rfl:c=0:=hn rfl
  have hx:xs=[]:=by
   cases xs with
   | nil=>rfl
   | cons x r=>obtain ⟨b,o,h,_⟩:=h1 0 (by simp);cases h
  subst hx
  go_enter func56,ntmps56
  go_wp2
  go_ret
  exact ⟨_,_,rfl,bz.nil _ _,Below.refl _ _⟩
 | some ad =>
  obtain ⟨i0,hi,hz0,hz1,hz2⟩:=info_parts iK
  have HI:=zH h1
  clear h1
  go_enter func56,ntmps56
  go_wp2_with (at_builtin;refine wpList_append_own _ rfl _ _ 22 rfl w.heap.size 3 i0 (.int .i64 0) 1 8 underlying22 hi hz0 hz1 hz2 rfl (by decide) _ 0 [] rfl (qe w 3 1 _ zY) ad xs.length c (aC xs) rfl (uq xs) ?c1 (ur xs) ?c2 ?c3 ?c4 ?_)
  case c1 =>
   intro j u hu
   obtain ⟨hj,rfl⟩:=uo xs j u hu
   obtain ⟨b,off,ha,hcell⟩:=HI.out j hj
   obtain rfl:ad=⟨b,off,none⟩:=by simpa using ha
   have hlt:=zL w _ hcell
   rw [di,World.cell?_alloc_lt _ _ _ hlt]
   exact hcell
  case c2=>simp only [maxLen];omega
  case c3=>omega
  case c4=>simp
  intro v' w' hown hg _
  go_wp2
  go_ret
  have hnew:=bz.dd hown
  obtain ⟨a',c',rfl,_⟩:=hnew
  exact ⟨a',c',rfl,bz.dd hown,dP (ae zR _) hg (fun k hk=>by simp [Value.ownBlock] at hk;omega)⟩
end
section
open Go.RowKit
structure gF where
 byte:Int
 addr:Int
 mode:Bool
 dummy:Int
 data:Int
 jB:Bool
 deriving DecidableEq
def gF.cells (r:gF):Array Value := #[.int .i64 r.byte,.int .i64 r.addr,.bool r.mode,.int .i64 r.dummy,.int .i64 r.data,.bool r.jB]
def gF.zero:gF:=⟨0,0,false,0,0,false⟩
def fN (b:Int):Option gF :=
 if b=1 then some ⟨1,0,false,0,1,true⟩ else
 if b=2 then some ⟨2,1,false,0,1,true⟩ else
 if b=3 then some ⟨3,1,false,0,1,false⟩ else
 if b=4 then some ⟨4,0,false,0,0,false⟩ else
 if b=5 then some ⟨5,0,false,0,1,false⟩ else
 if b=6 then some ⟨6,0,false,0,0,false⟩ else
 if b=32 then some ⟨32,1,false,0,0,false⟩ else
 if b=53 then some ⟨53,0,false,0,1,false⟩ else
 if b=90 then some ⟨90,1,false,8,1,false⟩ else
 if b=107 then some ⟨107,1,false,8,4,false⟩ else
 if b=117 then some ⟨117,0,false,0,0,false⟩ else
 if b=122 then some ⟨122,0,false,0,0,false⟩ else
 if b=159 then some ⟨159,0,false,0,1,false⟩ else
 if b=235 then some ⟨235,4,true,4,4,false⟩ else none
def ak (b:Int):gF:=(fN b).getD gF.zero
def gH (b:Int):Int:=if (fN b).isSome then 0 else 400
def gY:List Int:=[1,2,3,4,5,6,32,53,90,107,117,122,159,235]
theorem nH (b:Int) (h : ∀ k ∈ gY,b≠k):fN b=none:=by
 simp only [gY,List.mem_cons,List.not_mem_nil,or_false,forall_eq_or_imp,forall_eq,ne_eq] at h
 obtain ⟨h1,h2,h3,h4,h5,h6,h7,h8,h9,h10,h11,h12,h13,h14⟩:=h
 simp only [fN,h1,h2,h3,h4,h5,h6,h7,h8,h9,h10,h11,h12,h13,h14,if_false]
def dv (b:Int) (w:World) (e:Ending) (w':World):Prop :=
 e=.returned (.tuple #[.agg (ak b).cells,.int .i64 (gH b)])∧Below w.heap.size w w'
theorem Nf (w:World):Calls prog 180 #[.int .i64 1] w (dv 1 w):=by
 have hfin:dv 1 w=fun e w'=>e=.returned (.tuple #[.agg (ak 1).cells,.int .i64 0])∧Below w.heap.size w w':=rfl
 rw [hfin];clear hfin
 go_enter func180,ntmps180
 go_wp2
 exact bodyPost_ret (v:=.tuple #[.agg (ak 1).cells,.int .i64 0]) (by simp [results,results180,go_sem,ak,fN,gF.cells]) rfl ⟨rfl,((Below.refl _ _).alloc zY _).alloc (by simp) _⟩
theorem Ng (w:World):Calls prog 180 #[.int .i64 2] w (dv 2 w):=by
 have hfin:dv 2 w=fun e w'=>e=.returned (.tuple #[.agg (ak 2).cells,.int .i64 0])∧Below w.heap.size w w':=rfl
 rw [hfin];clear hfin
 go_enter func180,ntmps180
 go_wp2
 exact bodyPost_ret (v:=.tuple #[.agg (ak 2).cells,.int .i64 0]) (by simp [results,results180,go_sem,ak,fN,gF.cells]) rfl ⟨rfl,((Below.refl _ _).alloc zY _).alloc (by simp) _⟩
theorem Nh (w:World):Calls prog 180 #[.int .i64 3] w (dv 3 w):=by
 have hfin:dv 3 w=fun e w'=>e=.returned (.tuple #[.agg (ak 3).cells,.int .i64 0])∧Below w.heap.size w w':=rfl
 rw [hfin];clear hfin
 go_enter func180,ntmps180
 go_wp2
 exact bodyPost_ret (v:=.tuple #[.agg (ak 3).cells,.int .i64 0]) (by simp [results,results180,go_sem,ak,fN,gF.cells]) rfl ⟨rfl,((Below.refl _ _).alloc zY _).alloc (by simp) _⟩
theorem Ni (w:World):Calls prog 180 #[.int .i64 4] w (dv 4 w):=by
 have hfin:dv 4 w=fun e w'=>e=.returned (.tuple #[.agg (ak 4).cells,.int .i64 0])∧Below w.heap.size w w':=rfl
 rw [hfin];clear hfin
 go_enter func180,ntmps180
 go_wp2
 exact bodyPost_ret (v:=.tuple #[.agg (ak 4).cells,.int .i64 0]) (by simp [results,results180,go_sem,ak,fN,gF.cells]) rfl ⟨rfl,((Below.refl _ _).alloc zY _).alloc (by simp) _⟩
theorem Nj (w:World):Calls prog 180 #[.int .i64 5] w (dv 5 w):=by
 have hfin:dv 5 w=fun e w'=>e=.returned (.tuple #[.agg (ak 5).cells,.int .i64 0])∧Below w.heap.size w w':=rfl
 rw [hfin];clear hfin
 go_enter func180,ntmps180
 go_wp2
 exact bodyPost_ret (v:=.tuple #[.agg (ak 5).cells,.int .i64 0]) (by simp [results,results180,go_sem,ak,fN,gF.cells]) rfl ⟨rfl,((Below.refl _ _).alloc zY _).alloc (by simp) _⟩
theorem Nk (w:World):Calls prog 180 #[.int .i64 6] w (dv 6 w):=by
 have hfin:dv 6 w=fun e w'=>e=.returned (.tuple #[.agg (ak 6).cells,.int .i64 0])∧Below w.heap.size w w':=rfl
 rw [hfin];clear hfin
 go_enter func180,ntmps180
 go_wp2
 exact bodyPost_ret (v:=.tuple #[.agg (ak 6).cells,.int .i64 0]) (by simp [results,results180,go_sem,ak,fN,gF.cells]) rfl ⟨rfl,((Below.refl _ _).alloc zY _).alloc (by simp) _⟩
theorem MR (w:World):Calls prog 180 #[.int .i64 32] w (dv 32 w):=by
 have hfin:dv 32 w=fun e w'=>e=.returned (.tuple #[.agg (ak 32).cells,.int .i64 0])∧Below w.heap.size w w':=rfl
 rw [hfin];clear hfin
 go_enter func180,ntmps180
 go_wp2
 exact bodyPost_ret (v:=.tuple #[.agg (ak 32).cells,.int .i64 0]) (by simp [results,results180,go_sem,ak,fN,gF.cells]) rfl ⟨rfl,((Below.refl _ _).alloc zY _).alloc (by simp) _⟩
theorem MS (w:World):Calls prog 180 #[.int .i64 53] w (dv 53 w):=by
 have hfin:dv 53 w=fun e w'=>e=.returned (.tuple #[.agg (ak 53).cells,.int .i64 0])∧Below w.heap.size w w':=rfl
 rw [hfin];clear hfin
 go_enter func180,ntmps180
 go_wp2
 exact bodyPost_ret (v:=.tuple #[.agg (ak 53).cells,.int .i64 0]) (by simp [results,results180,go_sem,ak,fN,gF.cells]) rfl ⟨rfl,((Below.refl _ _).alloc zY _).alloc (by simp) _⟩
theorem MT (w:World):Calls prog 180 #[.int .i64 90] w (dv 90 w):=by
 have hfin:dv 90 w=fun e w'=>e=.returned (.tuple #[.agg (ak 90).cells,.int .i64 0])∧Below w.heap.size w w':=rfl
 rw [hfin];clear hfin
 go_enter func180,ntmps180
 go_wp2
 exact bodyPost_ret (v:=.tuple #[.agg (ak 90).cells,.int .i64 0]) (by simp [results,results180,go_sem,ak,fN,gF.cells]) rfl ⟨rfl,((Below.refl _ _).alloc zY _).alloc (by simp) _⟩
theorem Me (w:World):Calls prog 180 #[.int .i64 107] w (dv 107 w):=by
 have hfin:dv 107 w=fun e w'=>e=.returned (.tuple #[.agg (ak 107).cells,.int .i64 0])∧Below w.heap.size w w':=rfl
 rw [hfin];clear hfin
 go_enter func180,ntmps180
 go_wp2
 exact bodyPost_ret (v:=.tuple #[.agg (ak 107).cells,.int .i64 0]) (by simp [results,results180,go_sem,ak,fN,gF.cells]) rfl ⟨rfl,((Below.refl _ _).alloc zY _).alloc (by simp) _⟩
theorem Mf (w:World):Calls prog 180 #[.int .i64 117] w (dv 117 w):=by
 have hfin:dv 117 w=fun e w'=>e=.returned (.tuple #[.agg (ak 117).cells,.int .i64 0])∧Below w.heap.size w w':=rfl
 rw [hfin];clear hfin
 go_enter func180,ntmps180
 go_wp2
 exact bodyPost_ret (v:=.tuple #[.agg (ak 117).cells,.int .i64 0]) (by simp [results,results180,go_sem,ak,fN,gF.cells]) rfl ⟨rfl,((Below.refl _ _).alloc zY _).alloc (by simp) _⟩
theorem Mg (w:World):Calls prog 180 #[.int .i64 122] w (dv 122 w):=by
 have hfin:dv 122 w=fun e w'=>e=.returned (.tuple #[.agg (ak 122).cells,.int .i64 0])∧Below w.heap.size w w':=rfl
 rw [hfin];clear hfin
 go_enter func180,ntmps180
 go_wp2
 exact bodyPost_ret (v:=.tuple #[.agg (ak 122).cells,.int .i64 0]) (by simp [results,results180,go_sem,ak,fN,gF.cells]) rfl ⟨rfl,((Below.refl _ _).alloc zY _).alloc (by simp) _⟩
theorem Mh (w:World):Calls prog 180 #[.int .i64 159] w (dv 159 w):=by
 have hfin:dv 159 w=fun e w'=>e=.returned (.tuple #[.agg (ak 159).cells,.int .i64 0])∧Below w.heap.size w w':=rfl
 rw [hfin];clear hfin
 go_enter func180,ntmps180
 go_wp2
 exact bodyPost_ret (v:=.tuple #[.agg (ak 159).cells,.int .i64 0]) (by simp [results,results180,go_sem,ak,fN,gF.cells]) rfl ⟨rfl,((Below.refl _ _).alloc zY _).alloc (by simp) _⟩
theorem Mi (w:World):Calls prog 180 #[.int .i64 235] w (dv 235 w):=by
 have hfin:dv 235 w=fun e w'=>e=.returned (.tuple #[.agg (ak 235).cells,.int .i64 0])∧Below w.heap.size w w':=rfl
 rw [hfin];clear hfin
 go_enter func180,ntmps180
 go_wp2
 exact bodyPost_ret (v:=.tuple #[.agg (ak 235).cells,.int .i64 0]) (by simp [results,results180,go_sem,ak,fN,gF.cells]) rfl ⟨rfl,((Below.refl _ _).alloc zY _).alloc (by simp) _⟩
theorem Lm (b:Int) (w:World) (h : ∀ k ∈ gY,b≠k):Calls prog 180 #[.int .i64 b] w (dv b w):=by
 have hn:=nH b h
 have hr:ak b=gF.zero:=by simp [ak,hn]
 have he:gH b=400:=by simp [gH,hn]
 have hfin:dv b w=fun e w'=>e=.returned (.tuple #[.agg gF.zero.cells,.int .i64 400])∧Below w.heap.size w w':=by
  funext e w';simp only [dv,hr,he]
 rw [hfin]
 clear hfin hr he hn
 simp only [gY,List.mem_cons,List.not_mem_nil,or_false,forall_eq_or_imp,forall_eq,ne_eq] at h
 obtain ⟨h1,h2,h3,h4,h5,h6,h7,h8,h9,h10,h11,h12,h13,h14⟩:=h
 have g1:(b == 1)=false:=zQ h1
 have g2:(b == 2)=false:=zQ h2
 have g3:(b == 3)=false:=zQ h3
 have g4:(b == 4)=false:=zQ h4
 have g5:(b == 5)=false:=zQ h5
 have g6:(b == 6)=false:=zQ h6
 have g7:(b == 32)=false:=zQ h7
 have g8:(b == 53)=false:=zQ h8
 have g9:(b == 90)=false:=zQ h9
 have g10:(b == 107)=false:=zQ h10
 have g11:(b == 117)=false:=zQ h11
 have g12:(b == 122)=false:=zQ h12
 have g13:(b == 159)=false:=zQ h13
 have g14:(b == 235)=false:=zQ h14
 clear h1 h2 h3 h4 h5 h6 h7 h8 h9 h10 h11 h12 h13 h14
 go_enter func180,ntmps180
 go_wp2
 exact bodyPost_ret (v:=.tuple #[.agg gF.zero.cells,.int .i64 400]) (by simp [results,results180,go_sem,gF.zero,gF.cells]) rfl ⟨rfl,((Below.refl _ _).alloc zY _).alloc (by simp) _⟩
theorem rL (b:Int) (w:World):Calls prog 180 #[.int .i64 b] w (dv b w):=by
 by_cases h : ∀ k ∈ gY,b≠k
 ·
  exact Lm b w h
 ·
  simp only [gY,List.mem_cons,List.not_mem_nil,or_false,forall_eq_or_imp,forall_eq,ne_eq] at h
  by_cases h1:b=1;· subst h1;exact Nf w
  by_cases h2:b=2;· subst h2;exact Ng w
  by_cases h3:b=3;· subst h3;exact Nh w
  by_cases h4:b=4;· subst h4;exact Ni w
  by_cases h5:b=5;· subst h5;exact Nj w
  by_cases h6:b=6;· subst h6;exact Nk w
  by_cases h7:b=32;· subst h7;exact MR w
  by_cases h8:b=53;· subst h8;exact MS w
  by_cases h9:b=90;· subst h9;exact MT w
  by_cases h10:b=107;· subst h10;exact Me w
  by_cases h11:b=117;· subst h11;exact Mf w
  by_cases h12:b=122;· subst h12;exact Mg w
  by_cases h13:b=159;· subst h13;exact Mh w
  by_cases h14:b=235;· subst h14;exact Mi w
  exact absurd ⟨h1,h2,h3,h4,h5,h6,h7,h8,h9,h10,h11,h12,h13,h14⟩ h
end
section
open Go.RowKit
def isByte (b:Int):Bool:=decide (0≤b)&&decide (b<256)
theorem ns (b:Int) (w:World):Calls prog 182 #[.int .i64 b] w fun e w'=>e=.returned (.bool (isByte b))∧w=w':=by
 by_cases h:0≤b
 ·
  have e:isByte b=decide (b<256):=by unfold isByte;rw [decide_eq_true h];simp
  rw [e];clear e
  go_enter func182,ntmps182
  go_wp2
  go_ret
  exact ⟨rfl,rfl⟩
 ·
  have e:isByte b=false:=by unfold isByte;rw [decide_eq_false h];simp
  rw [e];clear e
  go_enter func182,ntmps182
  go_wp2
  go_ret
  exact ⟨rfl,rfl⟩
theorem yJ:dg 181 (fun b => !isByte b) where
 calls b w:=by
  go_enter func181,ntmps181
  go_wp2_with (go_at_call 182;refine (ns _ _).mono ?_;rintro e w' ⟨rfl,rfl⟩)
  go_ret
  exact ⟨rfl,rfl⟩
 run args w:=by go_simp
theorem q8 (xs:List Int):xs.any (fun b => !isByte b) = !xs.all isByte:=by
 induction xs with
 | nil=>rfl
 | cons x r ih=>simp [ih,Bool.not_and]
def kv (r:gF) (data read:Int):Bool :=
 if r.data=0 then decide (data=0)&&decide (read=0) else if r.jB then decide (read=0) else if r.mode then decide (data=1) else decide (data=0)
def lL (w:World) (b:Nat) (r:gF):Prop := ∃ t f,w.heap[b]? = some (.cells r.cells t f)
theorem lL.cell {w:World} {b:Nat} {r:gF} (h:lL w b r):w.cell? ⟨b,0,none⟩=some (.int .i64 r.byte)∧w.cell? ⟨b,1,none⟩=some (.int .i64 r.addr)∧w.cell? ⟨b,2,none⟩=some (.bool r.mode)∧w.cell? ⟨b,3,none⟩=some (.int .i64 r.dummy)∧w.cell? ⟨b,4,none⟩=some (.int .i64 r.data)∧w.cell? ⟨b,5,none⟩=some (.bool r.jB):=by
 obtain ⟨t,f,h⟩:=h
 exact ⟨cell_of h 0,cell_of h 1,cell_of h 2,cell_of h 3,cell_of h 4,cell_of h 5⟩
theorem lL.aj {w w':World} {b:Nat} {r:gF} (h:lL w b r) (hb:Below w.heap.size w w'):lL w' b r:=by
 obtain ⟨t,f,h⟩:=h
 exact ⟨t,f,aa hb h⟩
theorem wT (b:Nat) (r:gF) (data read:Int) (w:World) (h:lL w b r):Calls prog 183 #[.pointer (some ⟨b,0,none⟩),.int .i64 data,.int .i64 read] w fun e w'=>e=.returned (.bool (kv r data read))∧w=w':=by
 obtain ⟨_,_,c2,_,c4,c5⟩:=h.cell
 clear h
 by_cases h1:r.data=0
 ·
  have e:kv r data read=(decide (data=0)&&decide (read=0)):=by simp [kv,h1]
  rw [e];clear e
  rw [h1] at c4
  by_cases h2:data=0
  ·
   subst h2
   go_enter func183,ntmps183
   go_wp2
   go_ret
   exact ⟨by simp;rfl,rfl⟩
  ·
   have g2:(data == 0)=false:=zQ h2
   have e2:decide (data=0)=false:=by simp [h2]
   rw [e2]
   clear h2 e2
   go_enter func183,ntmps183
   go_wp2
   go_ret
   exact ⟨by simp,rfl⟩
 ·
  have g1:(r.data == 0)=false:=zQ h1
  cases h2:r.jB with
  | true =>
   have e:kv r data read=decide (read=0):=by simp [kv,h1,h2]
   rw [e];clear e h1
   rw [h2] at c5
   go_enter func183,ntmps183
   go_wp2
   go_ret
   exact ⟨by simp;rfl,rfl⟩
  | false =>
   rw [h2] at c5
   cases h3:r.mode with
   | true =>
    have e:kv r data read=decide (data=1):=by simp [kv,h1,h2,h3]
    rw [e];clear e h1
    rw [h3] at c2
    go_enter func183,ntmps183
    go_wp2
    go_ret
    exact ⟨by simp;rfl,rfl⟩
   | false =>
    have e:kv r data read=decide (data=0):=by simp [kv,h1,h2,h3]
    rw [e];clear e h1
    rw [h3] at c2
    go_enter func183,ntmps183
    go_wp2
    go_ret
    exact ⟨by simp;rfl,rfl⟩
def ou (b:Int) (w:World) (e:Ending) (w':World):Prop :=
 e=.returned (.tuple #[.agg (ak b).cells,.int .i64 (if gH b=0 then 0 else 900)])∧Below w.heap.size w w'
theorem EC (b:Int) (h:gH b≠0):ak b=gF.zero:=by
 unfold gH at h;unfold ak
 cases ho:fN b with
 | none=>rfl
 | some r=>simp [ho] at h
theorem ny (b:Int) (w:World):Calls prog 154 #[.int .i64 b] w (ou b w):=by
 by_cases h:gH b=0
 ·
  have hfin:ou b w=fun e w'=>e=.returned (.tuple #[.agg (ak b).cells,.int .i64 0])∧Below w.heap.size w w':=by
   funext e w';simp only [ou,h,if_true]
  rw [hfin];clear hfin
  go_enter func154,ntmps154
  go_wp2_with fail
  refine (rL b _).mono ?_
  rintro e w1 ⟨rfl,hb1⟩
  rw [h]
  clear h
  have hz1:w.heap.size<w1.heap.size:=by have:=hb1.size;simp at this;omega
  have ho:w1.heap[w.heap.size]? = some (.cells gF.zero.cells 125):=aa hb1 (af _ _)
  have c0:w1.cell? ⟨w.heap.size,0,none⟩=some (.int .i64 0):=cell_of ho 0
  have c1:w1.cell? ⟨w.heap.size,1,none⟩=some (.int .i64 0):=cell_of ho 1
  have c2:w1.cell? ⟨w.heap.size,2,none⟩=some (.bool false):=cell_of ho 2
  have c3:w1.cell? ⟨w.heap.size,3,none⟩=some (.int .i64 0):=cell_of ho 3
  have c4:w1.cell? ⟨w.heap.size,4,none⟩=some (.int .i64 0):=cell_of ho 4
  have c5:w1.cell? ⟨w.heap.size,5,none⟩=some (.bool false):=cell_of ho 5
  have f0:=fun i=>aF ho i
  clear ho
  rw [show (ak b).cells = #[.int .i64 (ak b).byte,.int .i64 (ak b).addr,.bool (ak b).mode,.int .i64 (ak b).dummy,.int .i64 (ak b).data,.bool (ak b).jB] from rfl]
  go_wp2
  refine bodyPost_ret (v:=.tuple #[.agg (ak b).cells,.int .i64 0]) (by simp [results,results154,go_sem,c0,c1,c2,c3,c4,c5,hz1,gF.cells]) rfl ⟨rfl,?_⟩
  repeat (first | with_reducible exact Below.refl _ _ | with_reducible refine lh ?_ (by simp) _ | with_reducible refine ae ?_ _ | with_reducible refine gtr ?_ hb1)
 ·
  have hfin:ou b w=fun e w'=>e=.returned (.tuple #[.agg gF.zero.cells,.int .i64 900])∧Below w.heap.size w w':=by
   funext e w';simp only [ou,h,if_false,EC b h]
  rw [hfin];clear hfin
  go_enter func154,ntmps154
  go_wp2_with fail
  refine (rL b _).mono ?_
  rintro e w1 ⟨rfl,hb1⟩
  have he:(gH b != 0)=true:=bne_iff_ne.2 h
  clear h
  have hz1:w.heap.size<w1.heap.size:=by have:=hb1.size;simp at this;omega
  have ho:w1.heap[w.heap.size]? = some (.cells gF.zero.cells 125):=aa hb1 (af _ _)
  have c0:w1.cell? ⟨w.heap.size,0,none⟩=some (.int .i64 0):=cell_of ho 0
  have c1:w1.cell? ⟨w.heap.size,1,none⟩=some (.int .i64 0):=cell_of ho 1
  have c2:w1.cell? ⟨w.heap.size,2,none⟩=some (.bool false):=cell_of ho 2
  have c3:w1.cell? ⟨w.heap.size,3,none⟩=some (.int .i64 0):=cell_of ho 3
  have c4:w1.cell? ⟨w.heap.size,4,none⟩=some (.int .i64 0):=cell_of ho 4
  have c5:w1.cell? ⟨w.heap.size,5,none⟩=some (.bool false):=cell_of ho 5
  have f0:=fun i=>aF ho i
  clear ho
  rw [show (ak b).cells = #[.int .i64 (ak b).byte,.int .i64 (ak b).addr,.bool (ak b).mode,.int .i64 (ak b).dummy,.int .i64 (ak b).data,.bool (ak b).jB] from rfl]
  go_wp2
  refine bodyPost_ret (v:=.tuple #[.agg gF.zero.cells,.int .i64 900]) (by simp [results,results154,go_sem,c0,c1,c2,c3,c4,c5,hz1,gF.cells,gF.zero]) rfl ⟨rfl,?_⟩
  repeat (first | with_reducible exact Below.refl _ _ | with_reducible refine lh ?_ (by simp) _ | with_reducible refine ae ?_ _ | with_reducible refine gtr ?_ hb1)
end
section
open Go.RowKit
theorem du {n:Int} (h : -9223372036854775808≤n) (h':n≤9223372036854775807):IntKind.i64.wrap n=n:=by
 rw [IntKind.wrap_i64];omega
theorem nd (x:Int) (j:Nat) (hj:j≤62):bits .and .i64 x ((2 ^ j - 1:Nat):Int)=x % (2 ^ j:Nat):=by
 have hp:(2:Nat) ^ j≤2 ^ 62:=Nat.pow_le_pow_right (by omega) hj
 have hp0:0<(2:Nat) ^ j:=Nat.pow_pos (by omega)
 have e:(BitVec.ofInt 64 x &&& BitVec.ofInt 64 ((2 ^ j - 1:Nat):Int)).toNat=(x % (2 ^ j:Nat)).toNat:=by
  rw [BitVec.toNat_and,BitVec.toNat_ofInt,BitVec.toNat_ofInt]
  have e1:(((2 ^ j - 1:Nat):Int) % ((2 ^ 64:Nat):Int)).toNat=2 ^ j - 1:=by
   rw [Int.emod_eq_of_lt (by omega) (by have:(2:Nat)^62<2^64:=(by decide);omega)]
   simp
  rw [e1,Nat.and_two_pow_sub_one_eq_mod]
  have h0:0≤x % ((2 ^ 64:Nat):Int):=Int.emod_nonneg _ (by decide)
  have hdvd:((2 ^ j:Nat):Int) ∣ ((2 ^ 64:Nat):Int):=by
   refine Int.natCast_dvd_natCast.2 (Nat.pow_dvd_pow 2 (by omega))
  have e2:x % ((2 ^ j:Nat):Int)=(x % ((2 ^ 64:Nat):Int)) % ((2 ^ j:Nat):Int):=(Int.emod_emod_of_dvd x hdvd).symm
  rw [e2]
  generalize hy:x % ((2 ^ 64:Nat):Int)=y at *
  obtain ⟨k,rfl⟩:=Int.eq_ofNat_of_zero_le h0
  rw [← Int.natCast_emod,Int.toNat_natCast,Int.toNat_natCast]
 have hr0:0≤x % ((2 ^ j:Nat):Int):=Int.emod_nonneg _ (by omega)
 have hr1:x % ((2 ^ j:Nat):Int)<((2 ^ j:Nat):Int):=Int.emod_lt_of_pos _ (by omega)
 show IntKind.i64.wrap ((BitVec.ofInt 64 x &&& BitVec.ofInt 64 ((2 ^ j - 1:Nat):Int)).toNat:Int)=_
 rw [e,Int.toNat_of_nonneg hr0]
 have:(2:Nat) ^ 62=4611686018427387904:=by decide
 exact du (by omega) (by omega)
theorem Gq (x:Int):bits .and .i64 x 1=x % 2:=nd x 1 (by omega)
theorem BH (x:Int):bits .and .i64 x 15=x % 16:=nd x 4 (by omega)
theorem IT (x:Int):bits .and .i64 x 255=x % 256:=nd x 8 (by omega)
end
end Go.Proofs.YtcfdenckiigdaaaGreat

/- Part 0 of the contracts. -/
import Derived.BigQuiet
import Derived.Deep.AppendLies
import Derived.Deep.DeepCutAuto
import Derived.Deep.RegionHeld3
import Derived.Deep.RegionLaw
import Derived.Laws.AppendOwnNone
import Derived.Lib.Hide
import Derived.ProofKit
import Derived.Test.YtcfdenckiigdaaaGreatChecked
import Derived.WalkSpells
set_option linter.unusedVariables false
set_option maxRecDepth 100000
set_option maxHeartbeats 4000000
namespace Go.Proofs.YtcfdenckiigdaaaGreat
open Tryz Go.RowKit
theorem zS {α:Type _} {l:List α} {i:Nat} {a:α}:l.toArray.setIfInBounds i a=(l.set i a).toArray:=List.setIfInBounds_toArray ..
theorem zT {α:Type _} {xs:List α} {a b:α}:(a::xs).set 0 b=b::xs:=rfl
theorem zU {α:Type _} {xs:List α} {a b:α} {n:Nat}:(a::xs).set (n+1) b=a::xs.set n b:=rfl
theorem zR {n:Nat} {w:World}:Below n w w:=Below.refl _ _
theorem zN {w:World} {b:Nat} {t:TypeId} {z:Nat}:w.ownsRow b t z (.slice none 0 0) 0 []:=World.ownsRow_nil _ _ _ _
theorem zY {n:Nat}:n≤n:=Nat.le_refl _
theorem zX {n:Nat}:0≤n:=Nat.zero_le _
theorem zL (w:World) (a:Addr) {v:Value} (h:w.cell? a=some v):a.block<w.heap.size:=World.block_lt_of_cell? w a h
theorem zQ {α:Type _} [BEq α] [LawfulBEq α] {a b:α} (h:a≠b):(a==b)=false:=beq_eq_false_iff_ne.2 h
theorem zV {a b c:Nat} (h:a<b) (k:b≤c):a<c:=Nat.lt_of_lt_of_le h k
theorem zH {p:Prop} (h:p):RowKit.Hid p:=h
theorem zA {a b:Prop} (h:a) (k:b):a∧b:=⟨h,k⟩
theorem tk {P:Program} {ops:Array Oper} {Q:Exit→Act→World→Prop} {md:Region.Mode} {S:World→Prop} (i:Nat) {oi:Oper} {v:Value} {fuel:Nat} {listed:Array Bool} {a a':Act} {w:World} (h:wpAnyH P md ops Q S fuel (listed.setIfInBounds i true) a' w) (hi:ops[i]? = some oi:=by (simp only [List.getElem?_toArray,List.getElem?_cons_succ,List.getElem?_cons_zero];rfl)) (hs:Region.noSelect ops=true:=by kernel_rfl) (hf:Region.free md ops listed i=true:=by kernel_rfl) (hr:(Region.ready md ops listed).contains i=true:=by kernel_rfl) (hw:Region.wanted oi (yielded ops a.tmps)=true:=by rfl) (hy : ∀ w,S w→(execOp a.eval oi).run P w=.ok (.value v) w:=by (intro w hSw;(try dsimp only at hSw);go_simp;try with_reducible rfl)) (ha:a.put oi.dst v=a':=by (simp only [Act.put,zS,zT,zU];rfl)) (hQ : ∀ c a w,Q (.panic c) (a.put oi.dst v) w→Q (.panic c) a w:=by exact fun _ _ _ h=>h) (hS:S w:=by assumption):wpAnyH P md ops Q S (fuel+1) listed a w:=by
 subst ha
 exact wpAnyH_take hi hs hf hr hQ (.inl ⟨hw,hy⟩) hS h
theorem tn {P:Program} {ops:Array Oper} {Q:Exit→Act→World→Prop} {md:Region.Mode} {S:World→Prop} (i:Nat) {oi:Oper} {fuel:Nat} {listed:Array Bool} {a a':Act} {w:World} (h:wpAnyH P md ops Q S fuel (listed.setIfInBounds i true) a' w) (hi:ops[i]? = some oi:=by (simp only [List.getElem?_toArray,List.getElem?_cons_succ,List.getElem?_cons_zero];rfl)) (hs:Region.noSelect ops=true:=by kernel_rfl) (hf:Region.free md ops listed i=true:=by kernel_rfl) (hr:(Region.ready md ops listed).contains i=true:=by kernel_rfl) (hw:Region.wanted oi (yielded ops a.tmps)=false:=by rfl) (ha:a.put oi.dst undef=a':=by (simp only [Act.put,zS,zT,zU];rfl)) (hQ : ∀ c a w,Q (.panic c) (a.put oi.dst undef) w→Q (.panic c) a w:=by exact fun _ _ _ h=>h) (hS:S w:=by assumption):wpAnyH P md ops Q S (fuel+1) listed a w:=by
 subst ha
 exact wpAnyH_take hi hs hf hr hQ (.inr ⟨hw,rfl⟩) hS h
theorem tr {P:Program} {ops:Array Oper} {Q:Exit→Act→World→Prop} {md:Region.Mode} {S:World→Prop} (i:Nat) {o:Oper} {fuel:Nat} {listed:Array Bool} {a:Act} {w:World} (h : ∀ K':Act→World→Prop,Shut (∀ a w,S w→(S w→wpAnyH P md ops Q S fuel (listed.setIfInBounds i true) a w)→K' a w)→if Region.wanted o (yielded ops a.tmps)=true then Oper.wp P o a w K' Q else K' (a.put o.dst undef) w) (ho:ops[i]? = some o:=by (simp only [List.getElem?_toArray,List.getElem?_cons_succ,List.getElem?_cons_zero];rfl)) (hr:Region.ready md ops listed=[i]:=by kernel_rfl):wpAnyH P md ops Q S (fuel+1) listed a w :=
 wpAnyH_ready hr (by simp) (AllReadyH.cons ho h AllReadyH.nil)
theorem gtr {a b c:World} (h:Below a.heap.size a b) (k:Below b.heap.size b c):Below a.heap.size a c:=h.trans (k.mono h.size)
theorem ae {a b:World} (h:Below a.heap.size a b) (o:Obj):Below a.heap.size a (b.alloc o):=h.alloc h.size o
theorem au {a b:World} (h:Below a.heap.size a b):Below a.heap.size a b.drew:=h.drew
theorem aY {a b:World} (h:Below a.heap.size a b) (n:Nat):Below a.heap.size a (b.drewN n):=h.trans ⟨rfl,rfl,rfl,Nat.le_refl _,fun _ _=>rfl⟩
theorem lg {a b:World} (h:Below a.heap.size a b) {p:Addr} (hp:a.heap.size≤p.block) (v:Value):Below a.heap.size a (b.setCell p v):=h.setCell hp v
theorem af (w:World) (o:Obj):(w.alloc o).heap[w.heap.size]? = some o:=by show (w.heap.push o)[w.heap.size]? = _;simp
theorem cell_of {w:World} {b:Nat} {c:Array Value} {t:TypeId} {f:Nat×Nat} (h:w.heap[b]? = some (.cells c t f)) (i:Nat):w.cell? ⟨b,i,none⟩=c[i]? := by simp [World.cell?,h]
theorem aF {w:World} {b:Nat} {c:Array Value} {t:TypeId} (h:w.heap[b]? = some (.cells c t (0,0))) (i:Nat):w.frozen? ⟨b,i,none⟩=false:=by simp [World.frozen?,h]
theorem aO {w:World} {b:Nat} {o:Obj} (h:w.heap[b]? = some o):b<w.heap.size:=by
 rcases Nat.lt_or_ge b w.heap.size with h' | h'
 ·
  exact h'
 ·
  simp [Array.getElem?_eq_none h'] at h
theorem aa {w w':World} {b:Nat} {o:Obj} (hb:Below w.heap.size w w') (h:w.heap[b]? = some o):w'.heap[b]? = some o:=(hb.block b (aO h)).trans h
theorem dh (b o j:Nat):(⟨b,o,none⟩:Addr).add j=⟨b,o+j,none⟩:=by unfold Addr.add;split <;> simp_all
def vx (x:Bool) (w:World) (e:Ending) (w':World):Prop:=e=.returned (.bool x)∧Below w.heap.size w w'
def aP (w:World) (a:Option Addr) (xs:List Int):Prop :=
 ∀ i,i<xs.length → ∃ b off,a=some ⟨b,off,none⟩∧w.cell? ⟨b,off+i,none⟩=some (.int .i64 (xs.getD i 0))
theorem aP.at {w:World} {a:Option Addr} {xs:List Int} (h:aP w a xs) (hp:0<xs.length) : ∃ b off,a=some ⟨b,off,none⟩ ∧ ∀ i,i<xs.length→w.cell? ⟨b,off+i,none⟩=some (.int .i64 (xs.getD i 0)):=by
 obtain ⟨b,off,ha,_⟩:=h 0 hp
 refine ⟨b,off,ha,fun i hi => ?_⟩
 obtain ⟨b',off',ha',hc⟩:=h i hi
 rw [ha] at ha'
 obtain ⟨rfl,rfl⟩:b=b'∧off=off':=by simpa using ha'
 exact hc
theorem aP.of {w:World} {b off:Nat} {xs:List Int} (h : ∀ i,i<xs.length→w.cell? ⟨b,off+i,none⟩=some (.int .i64 (xs.getD i 0))):aP w (some ⟨b,off,none⟩) xs:=fun i hi=>⟨b,off,rfl,h i hi⟩
theorem aP.nil (w:World) (a:Option Addr):aP w a []:=fun i hi=>by simp at hi
def IQ (b:Bool) (w:World) (e:Ending) (w':World):Prop:=e=.returned (.bool b) ∧ ∃ n,w'=w.drewN n
theorem iq:(prog.info? 3).map (fun i=>(i.zero,i.size,i.bytes))=some (some (.int .i64 0),1,8):=by kernel_rfl
def aB (xs:List Int):List Value:=xs.map (.int .i64)
theorem uk (xs:List Int):(aB xs).length=xs.length * 1:=by simp [aB]
theorem um (xs:List Int) : ∀ u ∈ aB xs,u.oneCell'=true:=by
 intro u hu;simp only [aB,List.mem_map] at hu;obtain ⟨x,_,rfl⟩:=hu;rfl
theorem uj (xs:List Int) (j:Nat) (u:Value) (h:(aB xs)[j]? = some u):j<xs.length∧u=.int .i64 (xs.getD j 0):=by
 simp only [aB,List.getElem?_map,Option.map_eq_some_iff] at h
 obtain ⟨x,hx,rfl⟩:=h
 have hj:=(List.getElem?_eq_some_iff.1 hx).1
 exact ⟨hj,by simp [List.getD,hx]⟩
def bw (w:World) (B:Nat) (v:Value) (xs:List Int):Prop :=
 ∃ a c,v=.slice a xs.length c ∧ ∀ i,i<xs.length → ∃ b off cur,a=some ⟨b,off,none⟩∧B≤b∧w.heap[b]? = some (.cells cur 3 (0,0))∧cur[off+i]? = some (.int .i64 (xs.getD i 0))
theorem bw.ints {w:World} {B:Nat} {v:Value} {xs:List Int} (h:bw w B v xs) : ∃ a c,v=.slice a xs.length c∧aP w a xs:=by
 obtain ⟨a,c,hv,hc⟩:=h
 refine ⟨a,c,hv,fun i hi => ?_⟩
 obtain ⟨b,off,cur,ha,_,hb,hx⟩:=hc i hi
 exact ⟨b,off,ha,(cell_of hb _).trans hx⟩
theorem bw.aj {w w':World} {B:Nat} {v:Value} {xs:List Int} (h:bw w B v xs) (hb:Below w.heap.size w w'):bw w' B v xs:=by
 obtain ⟨a,c,hv,hc⟩:=h
 refine ⟨a,c,hv,fun i hi => ?_⟩
 obtain ⟨b,off,cur,ha,hB,hh,hx⟩:=hc i hi
 exact ⟨b,off,cur,ha,hB,aa hb hh,hx⟩
theorem bw.mono {w:World} {B B':Nat} {v:Value} {xs:List Int} (h:bw w B v xs) (hB:B'≤B):bw w B' v xs:=by
 obtain ⟨a,c,hv,hc⟩:=h
 refine ⟨a,c,hv,fun i hi => ?_⟩
 obtain ⟨b,off,cur,ha,hB',hh,hx⟩:=hc i hi
 exact ⟨b,off,cur,ha,Nat.le_trans hB hB',hh,hx⟩
theorem bw.nil (w:World) (B:Nat):bw w B (.slice none 0 0) []:=⟨none,0,rfl,fun i hi=>by simp at hi⟩
theorem bw.cZ {w:World} {B:Nat} {v:Value} {xs:List Int} (h:w.ownsRow B 3 1 v xs.length (aB xs)):bw w B v xs:=by
 rcases h.2 with ⟨rfl,hn⟩ | ⟨g,cap,cur,rfl,hb,hg,hnc,_,hcs,htake⟩
 ·
  refine ⟨none,0,by rw [hn],fun i hi=>by omega⟩
 ·
  refine ⟨some ⟨g,0,none⟩,cap,rfl,fun i hi=>⟨g,0,cur,rfl,hb,hg,?_⟩⟩
  have h1:(aB xs)[i]? = some (.int .i64 (xs.getD i 0)):=by simp [aB,List.getD,List.getElem?_eq_getElem hi]
  rw [← htake,List.getElem?_take] at h1
  split at h1
  ·
   simpa using h1
  ·
   cases h1
structure de (f:FuncId) (p:Int→Bool):Prop where
 calls : ∀ (x:Int) (w:World),Calls prog f #[.int .i64 x] w fun e w'=>e=.returned (.bool (p x))∧w=w'
 run : ∀ (args:Array Value) (w:World),(callFunc f args).run prog w=.ok (.enter f args) w
def idxOf (p:Int→Bool) (xs:List Int):Int:=match xs.findIdx? p with | some i=>(i:Int) | none => -1
def KK (x:Int) (w:World) (e:Ending) (w':World):Prop:=e=.returned (.int .i64 x) ∧ ∃ n,w'=w.drewN n
theorem Eo (p:Int→Bool) (xs:List Int) (k:Nat) (hk:k<xs.length) (hn : ∀ j,j<k→p (xs.getD j 0)=false) (h:p (xs.getD k 0)=true):idxOf p xs=k:=by
 have:xs.findIdx? p=some k:=by
  rw [List.findIdx?_eq_some_iff_getElem]
  refine ⟨hk,by simpa [List.getD,List.getElem?_eq_getElem hk] using h,fun j hj => ?_⟩
  have:=hn j hj
  have hj':j<xs.length:=by omega
  simpa [List.getD,List.getElem?_eq_getElem hj'] using this
 simp [idxOf,this]
theorem Ep (p:Int→Bool) (xs:List Int) (hn : ∀ j,j<xs.length→p (xs.getD j 0)=false):idxOf p xs = -1:=by
 have:xs.findIdx? p=none:=by
  rw [List.findIdx?_eq_none_iff]
  intro x hx
  obtain ⟨j,hj,rfl⟩:=List.getElem_of_mem hx
  have:=hn j hj
  simpa [List.getD,List.getElem?_eq_getElem hj] using this
 simp [idxOf,this]
theorem u7 (F:FuncId) (p:Int→Bool) (hF:de F p) (a:Option Addr) (c:Nat) (xs:List Int) (w:World) (h1:aP w a xs) (hm:xs.length≤9223372036854775807):Calls prog 86 #[.slice a xs.length c,.func (.func F) #[] #[]] w (KK (idxOf p xs) w):=by
 have HF:=zH hF
 have hrun:=hF.run
 clear hF
 go_enter func86,ntmps86
 go_wp2
 go_loopw [8] (fun i wr => ∃ k n:Nat,k≤xs.length∧i=.int .i64 k∧wr=w.drewN n ∧ ∀ j,j<k→p (xs.getD j 0)=false) (fun i _=>xs.length - (intOf i).toNat)
 case atStart=>exact ⟨0,0,Nat.zero_le _,rfl,rfl,fun j hj=>by omega⟩
 case round =>
  obtain ⟨k,n,hk,rfl,rfl,hsame⟩:=hrel
  have HS:=zH hsame
  clear hsame
  by_cases hlt:k<xs.length
  ·
   obtain ⟨b1,o1,rfl,g1⟩:=h1.at (by omega)
   have q1:=g1 k hlt
   have hlt':(k:Int)<(xs.length:Int):=by omega
   clear g1 h1
   cases hp:p (xs.getD k 0) with
   | true =>
    have HR:=zH (Eo p xs k hlt HS.out hp)
    have HP:=zH hp
    clear hp
    generalize hx:xs.getD k 0=x at *
    clear hx
    go_wp2_with fail
    refine (HF.out.calls x _).mono ?_
    rintro e w' ⟨rfl,rfl⟩
    rw [HP.out]
    go_wp2
    go_ret
    exact ⟨by rw [HR.out];rfl,n,rfl⟩
   | false =>
    have HN:=zH hp
    have HP:=zH hp
    clear hp
    generalize hx:xs.getD k 0=x at HP q1
    have HX:=zH hx
    clear hx
    go_wp2_with fail
    refine (HF.out.calls x _).mono ?_
    rintro e w' ⟨rfl,rfl⟩
    rw [HP.out]
    go_wp2
    go_roundw
    case rel=>exact ⟨k+1,n,by omega,by go_num,rfl,fun j hj=>by
     by_cases hjk:j<k
     ·
      exact HS.out j hjk
     ·
      obtain rfl:j=k:=by omega
      exact HN.out⟩
    case measure=>simp [intOf];omega
  ·
   obtain rfl:k=xs.length:=by omega
   have HR:=zH (Ep p xs HS.out)
   go_wp2
   go_ret
   exact ⟨by rw [HR.out];rfl,n,rfl⟩
theorem Hh (p:Int→Bool) (xs:List Int):decide (0≤idxOf p xs)=xs.any p:=by
 cases h:xs.findIdx? p with
 | none =>
  have:xs.any p=false:=by
   rw [List.findIdx?_eq_none_iff] at h
   simpa [List.any_eq_false] using h
  simp [idxOf,h,this]
 | some i =>
  have:xs.any p=true:=by
   rw [List.findIdx?_eq_some_iff_getElem] at h
   obtain ⟨hi,hp,_⟩:=h
   exact List.any_eq_true.2 ⟨_,List.getElem_mem hi,hp⟩
  simp [idxOf,h,this]
theorem fq (F:FuncId) (p:Int→Bool) (hF:de F p) (a:Option Addr) (c:Nat) (xs:List Int) (w:World) (h1:aP w a xs) (hm:xs.length≤9223372036854775807):Calls prog 55 #[.slice a xs.length c,.func (.func F) #[] #[]] w (IQ (xs.any p) w):=by
 have HA:=zH (Hh p xs)
 have HF:=zH hF
 clear hF
 go_enter func55,ntmps55
 go_wp2_with fail
 refine (u7 F p HF.out a c xs w h1 hm).mono ?_
 rintro e w' ⟨rfl,n,rfl⟩
 generalize idxOf p xs=r at *
 go_wp2
 go_ret
 refine ⟨?_,n,rfl⟩
 rw [← HA.out]
 simp
def BL (xs:List Int) (w:World) (e:Ending) (w':World):Prop := ∃ a c,e=.returned (.slice a xs.length c)∧bw w' w.heap.size (.slice a xs.length c) xs∧Below w.heap.size w w'
theorem qc (w:World) (t:TypeId) (size:Nat) (B:Nat) (hB:B≤w.heap.size):(w.alloc (.cells #[] t)).ownsRow B t size (.slice (some ⟨w.heap.size,0,none⟩) 0 0) 0 [] :=
 World.ownsRow_made w #[] 0 hB zX (by simp)
theorem dO {w w1 w2:World} (h:Below w.heap.size w w1) {v:Value} (hg:w1.grownBy w2 v.ownBlock) (ho : ∀ k,v.ownBlock=some k→w.heap.size≤k):Below w.heap.size w w2 :=
 h.grown hg h.size ho
theorem nP (a:Option Addr) (c:Nat) (xs:List Int) (w:World) (h1:aP w a xs) (hn:a=none→c=0) (hm:xs.length * 8≤140737488355328):Calls prog 56 #[.slice a xs.length c] w (BL xs w):=by
 have kn:=fun (w:World) (x:Option Addr) (n c:Nat)=>Lib.run_eql_slice_nil (P:=prog) w 22 3 x n c 0 0 underlying22
 cases a with
 | none =>
  obtain rfl:c=0:=hn rfl
  have hx:xs=[]:=by
   cases xs with
   | nil=>rfl
   | cons x r=>obtain ⟨b,o,h,_⟩:=h1 0 (by simp);cases h
  subst hx
  go_enter func56,ntmps56
  go_wp2
  go_ret
  exact ⟨_,_,rfl,bw.nil _ _,Below.refl _ _⟩
 | some ad =>
  obtain ⟨i0,hi,hz0,hz1,hz2⟩:=info_parts iq
  have HI:=zH h1
  clear h1
  go_enter func56,ntmps56
  go_wp2_with (at_builtin;refine wpList_append_own _ rfl _ _ 22 rfl w.heap.size 3 i0 (.int .i64 0) 1 8 underlying22 hi hz0 hz1 hz2 rfl (by decide) _ 0 [] rfl (qc w 3 1 _ zY) ad xs.length c (aB xs) rfl (uk xs) ?c1 (um xs) ?c2 ?c3 ?c4 ?_)
  case c1 =>
   intro j u hu
   obtain ⟨hj,rfl⟩:=uj xs j u hu
   obtain ⟨b,off,ha,hcell⟩:=HI.out j hj
   obtain rfl:ad=⟨b,off,none⟩:=by simpa using ha
   have hlt:=zL w _ hcell
   rw [dh,World.cell?_alloc_lt _ _ _ hlt]
   exact hcell
  case c2=>simp only [maxLen];omega
  case c3=>omega
  case c4=>simp
  intro v' w' hown hg _
  go_wp2
  go_ret
  have hnew:=bw.cZ hown
  obtain ⟨a',c',rfl,_⟩:=hnew
  exact ⟨a',c',rfl,bw.cZ hown,dO (ae zR _) hg (fun k hk=>by simp [Value.ownBlock] at hk;omega)⟩
structure gD where
 byte:Int
 addr:Int
 mode:Bool
 dummy:Int
 data:Int
 jz:Bool
 deriving DecidableEq
def gD.cells (r:gD):Array Value := #[.int .i64 r.byte,.int .i64 r.addr,.bool r.mode,.int .i64 r.dummy,.int .i64 r.data,.bool r.jz]
def gD.zero:gD:=⟨0,0,false,0,0,false⟩
def fL (b:Int):Option gD :=
 if b=1 then some ⟨1,0,false,0,1,true⟩ else
 if b=2 then some ⟨2,1,false,0,1,true⟩ else
 if b=3 then some ⟨3,1,false,0,1,false⟩ else
 if b=4 then some ⟨4,0,false,0,0,false⟩ else
 if b=5 then some ⟨5,0,false,0,1,false⟩ else
 if b=6 then some ⟨6,0,false,0,0,false⟩ else
 if b=32 then some ⟨32,1,false,0,0,false⟩ else
 if b=53 then some ⟨53,0,false,0,1,false⟩ else
 if b=90 then some ⟨90,1,false,8,1,false⟩ else
 if b=107 then some ⟨107,1,false,8,4,false⟩ else
 if b=117 then some ⟨117,0,false,0,0,false⟩ else
 if b=122 then some ⟨122,0,false,0,0,false⟩ else
 if b=159 then some ⟨159,0,false,0,1,false⟩ else
 if b=235 then some ⟨235,4,true,4,4,false⟩ else none
def ak (b:Int):gD:=(fL b).getD gD.zero
def gF (b:Int):Int:=if (fL b).isSome then 0 else 400
def gZ:List Int:=[1,2,3,4,5,6,32,53,90,107,117,122,159,235]
theorem nB (b:Int) (h : ∀ k ∈ gZ,b≠k):fL b=none:=by
 simp only [gZ,List.mem_cons,List.not_mem_nil,or_false,forall_eq_or_imp,forall_eq,ne_eq] at h
 obtain ⟨h1,h2,h3,h4,h5,h6,h7,h8,h9,h10,h11,h12,h13,h14⟩:=h
 simp only [fL,h1,h2,h3,h4,h5,h6,h7,h8,h9,h10,h11,h12,h13,h14,if_false]
def dv (b:Int) (w:World) (e:Ending) (w':World):Prop :=
 e=.returned (.tuple #[.agg (ak b).cells,.int .i64 (gF b)])∧Below w.heap.size w w'
theorem NI (w:World):Calls prog 180 #[.int .i64 1] w (dv 1 w):=by
 have hfin:dv 1 w=fun e w'=>e=.returned (.tuple #[.agg (ak 1).cells,.int .i64 0])∧Below w.heap.size w w':=rfl
 rw [hfin];clear hfin
 go_enter func180,ntmps180
 go_wp2
 exact bodyPost_ret (v:=.tuple #[.agg (ak 1).cells,.int .i64 0]) (by simp [results,results180,go_sem,ak,fL,gD.cells]) rfl ⟨rfl,((Below.refl _ _).alloc zY _).alloc (by simp) _⟩
theorem NJ (w:World):Calls prog 180 #[.int .i64 2] w (dv 2 w):=by
 have hfin:dv 2 w=fun e w'=>e=.returned (.tuple #[.agg (ak 2).cells,.int .i64 0])∧Below w.heap.size w w':=rfl
 rw [hfin];clear hfin
 go_enter func180,ntmps180
 go_wp2
 exact bodyPost_ret (v:=.tuple #[.agg (ak 2).cells,.int .i64 0]) (by simp [results,results180,go_sem,ak,fL,gD.cells]) rfl ⟨rfl,((Below.refl _ _).alloc zY _).alloc (by simp) _⟩
theorem NK (w:World):Calls prog 180 #[.int .i64 3] w (dv 3 w):=by
 have hfin:dv 3 w=fun e w'=>e=.returned (.tuple #[.agg (ak 3).cells,.int .i64 0])∧Below w.heap.size w w':=rfl
 rw [hfin];clear hfin
 go_enter func180,ntmps180
 go_wp2
 exact bodyPost_ret (v:=.tuple #[.agg (ak 3).cells,.int .i64 0]) (by simp [results,results180,go_sem,ak,fL,gD.cells]) rfl ⟨rfl,((Below.refl _ _).alloc zY _).alloc (by simp) _⟩
theorem NL (w:World):Calls prog 180 #[.int .i64 4] w (dv 4 w):=by
 have hfin:dv 4 w=fun e w'=>e=.returned (.tuple #[.agg (ak 4).cells,.int .i64 0])∧Below w.heap.size w w':=rfl
 rw [hfin];clear hfin
 go_enter func180,ntmps180
 go_wp2
 exact bodyPost_ret (v:=.tuple #[.agg (ak 4).cells,.int .i64 0]) (by simp [results,results180,go_sem,ak,fL,gD.cells]) rfl ⟨rfl,((Below.refl _ _).alloc zY _).alloc (by simp) _⟩
theorem NM (w:World):Calls prog 180 #[.int .i64 5] w (dv 5 w):=by
 have hfin:dv 5 w=fun e w'=>e=.returned (.tuple #[.agg (ak 5).cells,.int .i64 0])∧Below w.heap.size w w':=rfl
 rw [hfin];clear hfin
 go_enter func180,ntmps180
 go_wp2
 exact bodyPost_ret (v:=.tuple #[.agg (ak 5).cells,.int .i64 0]) (by simp [results,results180,go_sem,ak,fL,gD.cells]) rfl ⟨rfl,((Below.refl _ _).alloc zY _).alloc (by simp) _⟩
theorem NN (w:World):Calls prog 180 #[.int .i64 6] w (dv 6 w):=by
 have hfin:dv 6 w=fun e w'=>e=.returned (.tuple #[.agg (ak 6).cells,.int .i64 0])∧Below w.heap.size w w':=rfl
 rw [hfin];clear hfin
 go_enter func180,ntmps180
 go_wp2
 exact bodyPost_ret (v:=.tuple #[.agg (ak 6).cells,.int .i64 0]) (by simp [results,results180,go_sem,ak,fL,gD.cells]) rfl ⟨rfl,((Below.refl _ _).alloc zY _).alloc (by simp) _⟩
theorem Nh (w:World):Calls prog 180 #[.int .i64 32] w (dv 32 w):=by
 have hfin:dv 32 w=fun e w'=>e=.returned (.tuple #[.agg (ak 32).cells,.int .i64 0])∧Below w.heap.size w w':=rfl
 rw [hfin];clear hfin
 go_enter func180,ntmps180
 go_wp2
 exact bodyPost_ret (v:=.tuple #[.agg (ak 32).cells,.int .i64 0]) (by simp [results,results180,go_sem,ak,fL,gD.cells]) rfl ⟨rfl,((Below.refl _ _).alloc zY _).alloc (by simp) _⟩
theorem Ni (w:World):Calls prog 180 #[.int .i64 53] w (dv 53 w):=by
 have hfin:dv 53 w=fun e w'=>e=.returned (.tuple #[.agg (ak 53).cells,.int .i64 0])∧Below w.heap.size w w':=rfl
 rw [hfin];clear hfin
 go_enter func180,ntmps180
 go_wp2
 exact bodyPost_ret (v:=.tuple #[.agg (ak 53).cells,.int .i64 0]) (by simp [results,results180,go_sem,ak,fL,gD.cells]) rfl ⟨rfl,((Below.refl _ _).alloc zY _).alloc (by simp) _⟩
theorem Nj (w:World):Calls prog 180 #[.int .i64 90] w (dv 90 w):=by
 have hfin:dv 90 w=fun e w'=>e=.returned (.tuple #[.agg (ak 90).cells,.int .i64 0])∧Below w.heap.size w w':=rfl
 rw [hfin];clear hfin
 go_enter func180,ntmps180
 go_wp2
 exact bodyPost_ret (v:=.tuple #[.agg (ak 90).cells,.int .i64 0]) (by simp [results,results180,go_sem,ak,fL,gD.cells]) rfl ⟨rfl,((Below.refl _ _).alloc zY _).alloc (by simp) _⟩
theorem MA (w:World):Calls prog 180 #[.int .i64 107] w (dv 107 w):=by
 have hfin:dv 107 w=fun e w'=>e=.returned (.tuple #[.agg (ak 107).cells,.int .i64 0])∧Below w.heap.size w w':=rfl
 rw [hfin];clear hfin
 go_enter func180,ntmps180
 go_wp2
 exact bodyPost_ret (v:=.tuple #[.agg (ak 107).cells,.int .i64 0]) (by simp [results,results180,go_sem,ak,fL,gD.cells]) rfl ⟨rfl,((Below.refl _ _).alloc zY _).alloc (by simp) _⟩
theorem MB (w:World):Calls prog 180 #[.int .i64 117] w (dv 117 w):=by
 have hfin:dv 117 w=fun e w'=>e=.returned (.tuple #[.agg (ak 117).cells,.int .i64 0])∧Below w.heap.size w w':=rfl
 rw [hfin];clear hfin
 go_enter func180,ntmps180
 go_wp2
 exact bodyPost_ret (v:=.tuple #[.agg (ak 117).cells,.int .i64 0]) (by simp [results,results180,go_sem,ak,fL,gD.cells]) rfl ⟨rfl,((Below.refl _ _).alloc zY _).alloc (by simp) _⟩
theorem MC (w:World):Calls prog 180 #[.int .i64 122] w (dv 122 w):=by
 have hfin:dv 122 w=fun e w'=>e=.returned (.tuple #[.agg (ak 122).cells,.int .i64 0])∧Below w.heap.size w w':=rfl
 rw [hfin];clear hfin
 go_enter func180,ntmps180
 go_wp2
 exact bodyPost_ret (v:=.tuple #[.agg (ak 122).cells,.int .i64 0]) (by simp [results,results180,go_sem,ak,fL,gD.cells]) rfl ⟨rfl,((Below.refl _ _).alloc zY _).alloc (by simp) _⟩
theorem MD (w:World):Calls prog 180 #[.int .i64 159] w (dv 159 w):=by
 have hfin:dv 159 w=fun e w'=>e=.returned (.tuple #[.agg (ak 159).cells,.int .i64 0])∧Below w.heap.size w w':=rfl
 rw [hfin];clear hfin
 go_enter func180,ntmps180
 go_wp2
 exact bodyPost_ret (v:=.tuple #[.agg (ak 159).cells,.int .i64 0]) (by simp [results,results180,go_sem,ak,fL,gD.cells]) rfl ⟨rfl,((Below.refl _ _).alloc zY _).alloc (by simp) _⟩
theorem ME (w:World):Calls prog 180 #[.int .i64 235] w (dv 235 w):=by
 have hfin:dv 235 w=fun e w'=>e=.returned (.tuple #[.agg (ak 235).cells,.int .i64 0])∧Below w.heap.size w w':=rfl
 rw [hfin];clear hfin
 go_enter func180,ntmps180
 go_wp2
 exact bodyPost_ret (v:=.tuple #[.agg (ak 235).cells,.int .i64 0]) (by simp [results,results180,go_sem,ak,fL,gD.cells]) rfl ⟨rfl,((Below.refl _ _).alloc zY _).alloc (by simp) _⟩
theorem LL (b:Int) (w:World) (h : ∀ k ∈ gZ,b≠k):Calls prog 180 #[.int .i64 b] w (dv b w):=by
 have hn:=nB b h
 have hr:ak b=gD.zero:=by simp [ak,hn]
 have he:gF b=400:=by simp [gF,hn]
 have hfin:dv b w=fun e w'=>e=.returned (.tuple #[.agg gD.zero.cells,.int .i64 400])∧Below w.heap.size w w':=by
  funext e w';simp only [dv,hr,he]
 rw [hfin]
 clear hfin hr he hn
 simp only [gZ,List.mem_cons,List.not_mem_nil,or_false,forall_eq_or_imp,forall_eq,ne_eq] at h
 obtain ⟨h1,h2,h3,h4,h5,h6,h7,h8,h9,h10,h11,h12,h13,h14⟩:=h
 have g1:(b == 1)=false:=zQ h1
 have g2:(b == 2)=false:=zQ h2
 have g3:(b == 3)=false:=zQ h3
 have g4:(b == 4)=false:=zQ h4
 have g5:(b == 5)=false:=zQ h5
 have g6:(b == 6)=false:=zQ h6
 have g7:(b == 32)=false:=zQ h7
 have g8:(b == 53)=false:=zQ h8
 have g9:(b == 90)=false:=zQ h9
 have g10:(b == 107)=false:=zQ h10
 have g11:(b == 117)=false:=zQ h11
 have g12:(b == 122)=false:=zQ h12
 have g13:(b == 159)=false:=zQ h13
 have g14:(b == 235)=false:=zQ h14
 clear h1 h2 h3 h4 h5 h6 h7 h8 h9 h10 h11 h12 h13 h14
 go_enter func180,ntmps180
 go_wp2
 exact bodyPost_ret (v:=.tuple #[.agg gD.zero.cells,.int .i64 400]) (by simp [results,results180,go_sem,gD.zero,gD.cells]) rfl ⟨rfl,((Below.refl _ _).alloc zY _).alloc (by simp) _⟩
theorem rN (b:Int) (w:World):Calls prog 180 #[.int .i64 b] w (dv b w):=by
 by_cases h : ∀ k ∈ gZ,b≠k
 ·
  exact LL b w h
 ·
  simp only [gZ,List.mem_cons,List.not_mem_nil,or_false,forall_eq_or_imp,forall_eq,ne_eq] at h
  by_cases h1:b=1;· subst h1;exact NI w
  by_cases h2:b=2;· subst h2;exact NJ w
  by_cases h3:b=3;· subst h3;exact NK w
  by_cases h4:b=4;· subst h4;exact NL w
  by_cases h5:b=5;· subst h5;exact NM w
  by_cases h6:b=6;· subst h6;exact NN w
  by_cases h7:b=32;· subst h7;exact Nh w
  by_cases h8:b=53;· subst h8;exact Ni w
  by_cases h9:b=90;· subst h9;exact Nj w
  by_cases h10:b=107;· subst h10;exact MA w
  by_cases h11:b=117;· subst h11;exact MB w
  by_cases h12:b=122;· subst h12;exact MC w
  by_cases h13:b=159;· subst h13;exact MD w
  by_cases h14:b=235;· subst h14;exact ME w
  exact absurd ⟨h1,h2,h3,h4,h5,h6,h7,h8,h9,h10,h11,h12,h13,h14⟩ h
def isByte (b:Int):Bool:=decide (0≤b)&&decide (b<256)
theorem nh (b:Int) (w:World):Calls prog 182 #[.int .i64 b] w fun e w'=>e=.returned (.bool (isByte b))∧w=w':=by
 by_cases h:0≤b
 ·
  have e:isByte b=decide (b<256):=by unfold isByte;rw [decide_eq_true h];simp
  rw [e];clear e
  go_enter func182,ntmps182
  go_wp2
  go_ret
  exact ⟨rfl,rfl⟩
 ·
  have e:isByte b=false:=by unfold isByte;rw [decide_eq_false h];simp
  rw [e];clear e
  go_enter func182,ntmps182
  go_wp2
  go_ret
  exact ⟨rfl,rfl⟩
theorem yU:de 181 (fun b => !isByte b) where
 calls b w:=by
  go_enter func181,ntmps181
  go_wp2_with (go_at_call 182;refine (nh _ _).mono ?_;rintro e w' ⟨rfl,rfl⟩)
  go_ret
  exact ⟨rfl,rfl⟩
 run args w:=by go_simp
theorem re (xs:List Int):xs.any (fun b => !isByte b) = !xs.all isByte:=by
 induction xs with
 | nil=>rfl
 | cons x r ih=>simp [ih,Bool.not_and]
def ku (r:gD) (data read:Int):Bool :=
 if r.data=0 then decide (data=0)&&decide (read=0) else if r.jz then decide (read=0) else if r.mode then decide (data=1) else decide (data=0)
def lK (w:World) (b:Nat) (r:gD):Prop := ∃ t f,w.heap[b]? = some (.cells r.cells t f)
theorem lK.cell {w:World} {b:Nat} {r:gD} (h:lK w b r):w.cell? ⟨b,0,none⟩=some (.int .i64 r.byte)∧w.cell? ⟨b,1,none⟩=some (.int .i64 r.addr)∧w.cell? ⟨b,2,none⟩=some (.bool r.mode)∧w.cell? ⟨b,3,none⟩=some (.int .i64 r.dummy)∧w.cell? ⟨b,4,none⟩=some (.int .i64 r.data)∧w.cell? ⟨b,5,none⟩=some (.bool r.jz):=by
 obtain ⟨t,f,h⟩:=h
 exact ⟨cell_of h 0,cell_of h 1,cell_of h 2,cell_of h 3,cell_of h 4,cell_of h 5⟩
theorem lK.aj {w w':World} {b:Nat} {r:gD} (h:lK w b r) (hb:Below w.heap.size w w'):lK w' b r:=by
 obtain ⟨t,f,h⟩:=h
 exact ⟨t,f,aa hb h⟩
theorem xb (b:Nat) (r:gD) (data read:Int) (w:World) (h:lK w b r):Calls prog 183 #[.pointer (some ⟨b,0,none⟩),.int .i64 data,.int .i64 read] w fun e w'=>e=.returned (.bool (ku r data read))∧w=w':=by
 obtain ⟨_,_,c2,_,c4,c5⟩:=h.cell
 clear h
 by_cases h1:r.data=0
 ·
  have e:ku r data read=(decide (data=0)&&decide (read=0)):=by simp [ku,h1]
  rw [e];clear e
  rw [h1] at c4
  by_cases h2:data=0
  ·
   subst h2
   go_enter func183,ntmps183
   go_wp2
   go_ret
   exact ⟨by simp;rfl,rfl⟩
  ·
   have g2:(data == 0)=false:=zQ h2
   have e2:decide (data=0)=false:=by simp [h2]
   rw [e2]
   clear h2 e2
   go_enter func183,ntmps183
   go_wp2
   go_ret
   exact ⟨by simp,rfl⟩
 ·
  have g1:(r.data == 0)=false:=zQ h1
  cases h2:r.jz with
  | true =>
   have e:ku r data read=decide (read=0):=by simp [ku,h1,h2]
   rw [e];clear e h1
   rw [h2] at c5
   go_enter func183,ntmps183
   go_wp2
   go_ret
   exact ⟨by simp;rfl,rfl⟩
  | false =>
   rw [h2] at c5
   cases h3:r.mode with
   | true =>
    have e:ku r data read=decide (data=1):=by simp [ku,h1,h2,h3]
    rw [e];clear e h1
    rw [h3] at c2
    go_enter func183,ntmps183
    go_wp2
    go_ret
    exact ⟨by simp;rfl,rfl⟩
   | false =>
    have e:ku r data read=decide (data=0):=by simp [ku,h1,h2,h3]
    rw [e];clear e h1
    rw [h3] at c2
    go_enter func183,ntmps183
    go_wp2
    go_ret
    exact ⟨by simp;rfl,rfl⟩
def oe (b:Int) (w:World) (e:Ending) (w':World):Prop :=
 e=.returned (.tuple #[.agg (ak b).cells,.int .i64 (if gF b=0 then 0 else 900)])∧Below w.heap.size w w'
theorem EL (b:Int) (h:gF b≠0):ak b=gD.zero:=by
 unfold gF at h;unfold ak
 cases ho:fL b with
 | none=>rfl
 | some r=>simp [ho] at h
theorem nn (b:Int) (w:World):Calls prog 154 #[.int .i64 b] w (oe b w):=by
 by_cases h:gF b=0
 ·
  have hfin:oe b w=fun e w'=>e=.returned (.tuple #[.agg (ak b).cells,.int .i64 0])∧Below w.heap.size w w':=by
   funext e w';simp only [oe,h,if_true]
  rw [hfin];clear hfin
  go_enter func154,ntmps154
  go_wp2_with fail
  refine (rN b _).mono ?_
  rintro e w1 ⟨rfl,hb1⟩
  rw [h]
  clear h
  have hz1:w.heap.size<w1.heap.size:=by have:=hb1.size;simp at this;omega
  have ho:w1.heap[w.heap.size]? = some (.cells gD.zero.cells 125):=aa hb1 (af _ _)
  have c0:w1.cell? ⟨w.heap.size,0,none⟩=some (.int .i64 0):=cell_of ho 0
  have c1:w1.cell? ⟨w.heap.size,1,none⟩=some (.int .i64 0):=cell_of ho 1
  have c2:w1.cell? ⟨w.heap.size,2,none⟩=some (.bool false):=cell_of ho 2
  have c3:w1.cell? ⟨w.heap.size,3,none⟩=some (.int .i64 0):=cell_of ho 3
  have c4:w1.cell? ⟨w.heap.size,4,none⟩=some (.int .i64 0):=cell_of ho 4
  have c5:w1.cell? ⟨w.heap.size,5,none⟩=some (.bool false):=cell_of ho 5
  have f0:=fun i=>aF ho i
  clear ho
  rw [show (ak b).cells = #[.int .i64 (ak b).byte,.int .i64 (ak b).addr,.bool (ak b).mode,.int .i64 (ak b).dummy,.int .i64 (ak b).data,.bool (ak b).jz] from rfl]
  go_wp2
  refine bodyPost_ret (v:=.tuple #[.agg (ak b).cells,.int .i64 0]) (by simp [results,results154,go_sem,c0,c1,c2,c3,c4,c5,hz1,gD.cells]) rfl ⟨rfl,?_⟩
  repeat (first | with_reducible exact Below.refl _ _ | with_reducible refine lg ?_ (by simp) _ | with_reducible refine ae ?_ _ | with_reducible refine gtr ?_ hb1)
 ·
  have hfin:oe b w=fun e w'=>e=.returned (.tuple #[.agg gD.zero.cells,.int .i64 900])∧Below w.heap.size w w':=by
   funext e w';simp only [oe,h,if_false,EL b h]
  rw [hfin];clear hfin
  go_enter func154,ntmps154
  go_wp2_with fail
  refine (rN b _).mono ?_
  rintro e w1 ⟨rfl,hb1⟩
  have he:(gF b != 0)=true:=bne_iff_ne.2 h
  clear h
  have hz1:w.heap.size<w1.heap.size:=by have:=hb1.size;simp at this;omega
  have ho:w1.heap[w.heap.size]? = some (.cells gD.zero.cells 125):=aa hb1 (af _ _)
  have c0:w1.cell? ⟨w.heap.size,0,none⟩=some (.int .i64 0):=cell_of ho 0
  have c1:w1.cell? ⟨w.heap.size,1,none⟩=some (.int .i64 0):=cell_of ho 1
  have c2:w1.cell? ⟨w.heap.size,2,none⟩=some (.bool false):=cell_of ho 2
  have c3:w1.cell? ⟨w.heap.size,3,none⟩=some (.int .i64 0):=cell_of ho 3
  have c4:w1.cell? ⟨w.heap.size,4,none⟩=some (.int .i64 0):=cell_of ho 4
  have c5:w1.cell? ⟨w.heap.size,5,none⟩=some (.bool false):=cell_of ho 5
  have f0:=fun i=>aF ho i
  clear ho
  rw [show (ak b).cells = #[.int .i64 (ak b).byte,.int .i64 (ak b).addr,.bool (ak b).mode,.int .i64 (ak b).dummy,.int .i64 (ak b).data,.bool (ak b).jz] from rfl]
  go_wp2
  refine bodyPost_ret (v:=.tuple #[.agg gD.zero.cells,.int .i64 900]) (by simp [results,results154,go_sem,c0,c1,c2,c3,c4,c5,hz1,gD.cells,gD.zero]) rfl ⟨rfl,?_⟩
  repeat (first | with_reducible exact Below.refl _ _ | with_reducible refine lg ?_ (by simp) _ | with_reducible refine ae ?_ _ | with_reducible refine gtr ?_ hb1)
theorem cX {n:Int} (h : -9223372036854775808≤n) (h':n≤9223372036854775807):IntKind.i64.wrap n=n:=by
 rw [IntKind.wrap_i64];omega
theorem kz (x:Int) (j:Nat) (hj:j≤62):bits .and .i64 x ((2 ^ j - 1:Nat):Int)=x % (2 ^ j:Nat):=by
 have hp:(2:Nat) ^ j≤2 ^ 62:=Nat.pow_le_pow_right (by omega) hj
 have hp0:0<(2:Nat) ^ j:=Nat.pow_pos (by omega)
 have e:(BitVec.ofInt 64 x &&& BitVec.ofInt 64 ((2 ^ j - 1:Nat):Int)).toNat=(x % (2 ^ j:Nat)).toNat:=by
  rw [BitVec.toNat_and,BitVec.toNat_ofInt,BitVec.toNat_ofInt]
  have e1:(((2 ^ j - 1:Nat):Int) % ((2 ^ 64:Nat):Int)).toNat=2 ^ j - 1:=by
   rw [Int.emod_eq_of_lt (by omega) (by have:(2:Nat)^62<2^64:=(by decide);omega)]
   simp
  rw [e1,Nat.and_two_pow_sub_one_eq_mod]
  have h0:0≤x % ((2 ^ 64:Nat):Int):=Int.emod_nonneg _ (by decide)
  have hdvd:((2 ^ j:Nat):Int) ∣ ((2 ^ 64:Nat):Int):=by
   refine Int.natCast_dvd_natCast.2 (Nat.pow_dvd_pow 2 (by omega))
  have e2:x % ((2 ^ j:Nat):Int)=(x % ((2 ^ 64:Nat):Int)) % ((2 ^ j:Nat):Int):=(Int.emod_emod_of_dvd x hdvd).symm
  rw [e2]
  generalize hy:x % ((2 ^ 64:Nat):Int)=y at *
  obtain ⟨k,rfl⟩:=Int.eq_ofNat_of_zero_le h0
  rw [← Int.natCast_emod,Int.toNat_natCast,Int.toNat_natCast]
 have hr0:0≤x % ((2 ^ j:Nat):Int):=Int.emod_nonneg _ (by omega)
 have hr1:x % ((2 ^ j:Nat):Int)<((2 ^ j:Nat):Int):=Int.emod_lt_of_pos _ (by omega)
 show IntKind.i64.wrap ((BitVec.ofInt 64 x &&& BitVec.ofInt 64 ((2 ^ j - 1:Nat):Int)).toNat:Int)=_
 rw [e,Int.toNat_of_nonneg hr0]
 have:(2:Nat) ^ 62=4611686018427387904:=by decide
 exact cX (by omega) (by omega)
theorem GG (x:Int):bits .and .i64 x 1=x % 2:=kz x 1 (by omega)
theorem KS (x:Int):bits .and .i64 x 3=x % 4:=kz x 2 (by omega)
theorem I7 (x:Int):bits .and .i64 x 15=x % 16:=kz x 4 (by omega)
theorem I8 (x:Int):bits .and .i64 x 255=x % 256:=kz x 8 (by omega)
structure Ph where
 bW:Int
 bytes:List Int
 eN:Int
 read:Int
 deriving DecidableEq
def aQ (r:gD) (i:Int) (data:List Int) (read:Int):List Ph :=
 [⟨1,[r.byte],0,0⟩]++(if 0<r.addr then [⟨r.addr,[0,i / 256,i % 256],0,0⟩] else [])++(if r.mode then [⟨r.addr,data,0,0⟩] else [])++(if 0<r.dummy then [⟨0,[],r.dummy,0⟩] else [])++(if r.jz=true∧0<data.length then [⟨r.data,data,0,0⟩] else [])++(if 0<read then [⟨r.data,[],0,read⟩] else [])
structure Mc (r:gD) (i:Int) (data:List Int) (read:Int):Prop where
 err:gF r.byte=0
 row:ak r.byte=r
 lo:0≤i
 hi:i<4096
 EH:r.addr=0→i=0
 len:data.length≤512
 bytes:data.all isByte=true
 Nt:0≤read
 Ns:read≤512
 fits:ku r data.length read=true
def eK (l:List (Ph×Value)):List Value:=l.flatMap fun x=>[.int .i64 x.1.bW,x.2,.int .i64 x.1.eN,.int .i64 x.1.read]
def gh (w:World) (B:Nat) (v:Value) (ps:List Ph):Prop :=
 ∃ l:List (Ph×Value),l.map (·.1)=ps∧(∀ x ∈ l,bw w B x.2 x.1.bytes)∧w.ownsRow B 281 4 v l.length (eK l)
theorem EW:(prog.info? 281).map (fun i=>(i.zero,i.size,i.bytes))=some (some (.agg #[.int .i64 0,.slice none 0 0,.int .i64 0,.int .i64 0]),4,48):=by kernel_rfl
theorem tt {w:World} {B B':Nat} {t:TypeId} {size:Nat} {v:Value} {n:Nat} {xs:List Value} (h:w.ownsRow B t size v n xs) (hB:B'≤B):w.ownsRow B' t size v n xs:=by
 refine ⟨h.1,?_⟩
 rcases h.2 with h2 | ⟨g,cap,cur,hv,hb,r⟩
 ·
  exact .inl h2
 ·
  exact .inr ⟨g,cap,cur,hv,Nat.le_trans hB hb,r⟩
theorem gh.mono {w:World} {B B':Nat} {v:Value} {ps:List Ph} (h:gh w B v ps) (hB:B'≤B):gh w B' v ps:=by
 obtain ⟨l,hl,hN,ho⟩:=h
 exact ⟨l,hl,fun x hx=>(hN x hx).mono hB,tt ho hB⟩
theorem EX (w:World) (B:Nat) (hB:B≤w.heap.size) (p:Ph) (bv:Value) (hN:bw w B bv p.bytes):gh (w.alloc (.cells #[.int .i64 p.bW,bv,.int .i64 p.eN,.int .i64 p.read] 281)) B (.slice (some ⟨w.heap.size,0,none⟩) 1 1) [p] :=
 ⟨[(p,bv)],rfl,fun x hx=>by
  obtain rfl:x=(p,bv):=by simpa using hx
  exact hN.aj (ae zR _),World.ownsRow_lit w _ 1 hB (by decide) rfl⟩
theorem uo (w:World) (B:Nat) (hB:B≤w.heap.size) (xs:List Int) (cur:Array Value) (h:cur=(aB xs).toArray) (n:Nat) (hn:n=xs.length):bw (w.alloc (.cells cur 3)) B (.slice (some ⟨w.heap.size,0,none⟩) n n) xs:=by
 subst hn
 refine ⟨some ⟨w.heap.size,0,none⟩,xs.length,rfl,fun i hi=>⟨w.heap.size,0,cur,rfl,hB,af _ _,?_⟩⟩
 subst h
 simp [aB,List.getD,List.getElem?_eq_getElem hi]
theorem ka {wx W w':World} {B:Nat} {v v' bv:Value} {l:List (Ph×Value)} {p:Ph} (hN : ∀ x ∈ l,bw wx B x.2 x.1.bytes) (hown:wx.ownsRow B 281 4 v l.length (eK l)) (hb:Below wx.heap.size wx W) (hnew:bw W B bv p.bytes) (hg:W.grownBy w' v.ownBlock) (hown':w'.ownsRow B 281 4 v' (l.length+1) (eK l++[.int .i64 p.bW,bv,.int .i64 p.eN,.int .i64 p.read])):gh w' B v' (l.map (·.1)++[p]):=by
 have hne : ∀ (b:Nat) (cur:Array Value),W.heap[b]? = some (.cells cur 3 (0,0))→w'.heap[b]? = some (.cells cur 3 (0,0)):=by
  intro b cur hc
  have hlt:b<W.heap.size:=aO hc
  refine (hg.block b hlt fun e => ?_).trans hc
  rcases hown.2 with ⟨rfl,_⟩ | ⟨g,cap,cu,rfl,_,hgg,_⟩
  ·
   simp [Value.ownBlock] at e
  ·
   simp [Value.ownBlock] at e
   subst e
   have:=aa hb hgg
   rw [hc] at this
   simp at this
 have go : ∀ x:Ph×Value,bw W B x.2 x.1.bytes→bw w' B x.2 x.1.bytes:=by
  intro x hx
  obtain ⟨a,c,hv,hc⟩:=hx
  refine ⟨a,c,hv,fun i hi => ?_⟩
  obtain ⟨b,off,cur,ha,hB',hh,hx⟩:=hc i hi
  exact ⟨b,off,cur,ha,hB',hne b cur hh,hx⟩
 refine ⟨l++[(p,bv)],by simp,fun x hx => ?_,by simpa [eK] using hown'⟩
 rcases List.mem_append.1 hx with h | h
 ·
  exact go x ((hN x h).aj hb)
 ·
  obtain rfl:x=(p,bv):=by simpa using h
  exact go _ hnew
theorem rH {n:Nat} {w:World} (o:Obj) (h:n≤w.heap.size):n≤(w.alloc o).heap.size:=by simp;omega
theorem lK.lt {w:World} {b:Nat} {r:gD} (h:lK w b r):b<w.heap.size:=by obtain ⟨t,f,h⟩:=h;exact aO h
theorem CW (a b c:Int) (v:Value) (h:v.oneCell'=true) : ∀ u ∈ [Value.int .i64 a,v,.int .i64 b,.int .i64 c],u.oneCell'=true:=by
 intro u hu;simp only [List.mem_cons,List.not_mem_nil,or_false] at hu;rcases hu with rfl | rfl | rfl | rfl <;> first | rfl | exact h
theorem bw.one {w:World} {B:Nat} {v:Value} {xs:List Int} (h:bw w B v xs):v.oneCell'=true:=by obtain ⟨a,c,rfl,_⟩:=h;rfl
theorem Au {n:Nat} (h:n≤6):n+1≤maxLen∧(n+1) * 48≤140737488355328:=by simp only [maxLen];omega
theorem gV {w:World} {B:Nat} {t:TypeId} {size:Nat} {v:Value} {n:Nat} {xs:List Value} (h:w.ownsRow B t size v n xs) : ∀ k,v.ownBlock=some k→B≤k:=fun k hk=>(h.lt k hk).1
theorem _root_.Go.World.ownsRow.aj {w w':World} {B:Nat} {t:TypeId} {size:Nat} {v:Value} {n:Nat} {xs:List Value} (h:w.ownsRow B t size v n xs) (hb:Below w.heap.size w w'):w'.ownsRow B t size v n xs:=by
 refine ⟨h.1,?_⟩
 rcases h.2 with h2 | ⟨g,cap,cur,hv,hB,hg,r⟩
 ·
  exact .inl h2
 ·
  exact .inr ⟨g,cap,cur,hv,hB,aa hb hg,r⟩
theorem aP.aj {w w':World} {a:Option Addr} {xs:List Int} (h:aP w a xs) (hb:Below w.heap.size w w'):aP w' a xs:=by
 intro i hi
 obtain ⟨b,off,ha,hc⟩:=h i hi
 exact ⟨b,off,ha,(hb.cell (p:=⟨b,off+i,none⟩) (zL w _ hc)).trans hc⟩
theorem GJ (r:gD):r.cells = #[.int .i64 r.byte,.int .i64 r.addr,.bool r.mode,.int .i64 r.dummy,.int .i64 r.data,.bool r.jz]:=rfl
def KJ (ps:List Ph) (w:World) (e:Ending) (w':World):Prop := ∃ v,e=.returned (.tuple #[v,.int .i64 0])∧gh w' w.heap.size v ps∧Below w.heap.size w w'
theorem nk (r:gD) (i:Int) (a:Option Addr) (c:Nat) (xs:List Int) (read:Int) (w:World) (ok:Mc r i xs read) (h1:aP w a xs) (hn:a=none→c=0):Calls prog 155 #[.agg r.cells,.int .i64 i,.slice a xs.length c,.int .i64 read] w (KJ (aQ r i xs read) w):=by
 rw [GJ r]
 go_enter func155,ntmps155
 go_wp2_with fail
 refine (rN _ _).mono ?_
 rintro e w1 ⟨rfl,hb1⟩
 rw [ok.err,ok.row,GJ r]
 go_upto_region 3 with (fail)
 generalize hW:w1.alloc _=w2
 have q2:Below w.heap.size w w2:=by rw [← hW];exact ae (gtr (ae zR _) hb1) _
 have x4:lK w2 w.heap.size r:=by
  rw [← hW];exact lK.aj ⟨_,_,aa hb1 (af _ _)⟩ (ae zR _)
 have x10:lK w2 w1.heap.size r:=by rw [← hW];exact ⟨_,_,af _ _⟩
 generalize w1.heap.size=b10 at *
 clear hW hb1 w1
 have h2:aP w2 a xs:=h1.aj q2
 have hl:xs.length≤512:=ok.len
 have hx8:xs.length * 8≤140737488355328:=by omega
 go_cut [68] from 20 to 68 (fun s wx=>s=.bool false ∧ ∃ n,wx=w2.drewN n)
 case first =>
  obtain ⟨c0,c1,c2,c3,c4,c5⟩:=x4.cell
  obtain ⟨d0,d1,d2,d3,d4,d5⟩:=x10.cell
  have g1 : ¬ i<0:=by have:=ok.lo;omega
  have g2 : ¬ 4096≤i:=by have:=ok.hi;omega
  have g3:(r.addr == 0)=true→(i != 0)=false:=fun h=>by
   have:=ok.EH (by simpa using h);simp [this]
  have g4 : ¬ (512:Int)<(xs.length:Int):=by omega
  have g5 : ¬ read<0:=by have:=ok.Nt;omega
  have g6 : ¬ 512<read:=by have:=ok.Ns;omega
  have HB:=zH ok.bytes
  have HFt:=zH ok.fits
  clear ok
  have hany:xs.any (fun b => !isByte b)=false:=by rw [re,HB.out];rfl
  have HA:=zH hany
  clear hany HB
  cases ha:(r.addr == 0) with
  | true =>
   have i0:=g3 ha
   clear g3
   go_wp2_with fail
   refine (fq _ _ yU a c xs _ h2 (by omega)).mono ?_
   rintro e w' ⟨rfl,n,rfl⟩
   rw [HA.out]
   go_wp2_with fail
   refine (xb _ r _ _ _ ?_).mono ?_
   ·
    exact x4.aj (aY zR _)
   rintro e w' ⟨rfl,rfl⟩
   rw [HFt.out]
   go_wp2
   go_meet
   exact ⟨by rw [decide_eq_false (by omega),decide_eq_false (by omega)];rfl,n,rfl⟩
  | false =>
   clear g3
   go_wp2_with fail
   refine (fq _ _ yU a c xs _ h2 (by omega)).mono ?_
   rintro e w' ⟨rfl,n,rfl⟩
   rw [HA.out]
   go_wp2_with fail
   refine (xb _ r _ _ _ ?_).mono ?_
   ·
    exact x4.aj (aY zR _)
   rintro e w' ⟨rfl,rfl⟩
   rw [HFt.out]
   go_wp2
   go_meet
   exact ⟨by rw [decide_eq_false (by omega),decide_eq_false (by omega)];rfl,n,rfl⟩
 case rest =>
  obtain ⟨rfl,n,rfl⟩:=hcut
  have q3:Below w.heap.size w (w2.drewN n):=aY q2 n
  have x3:lK (w2.drewN n) w.heap.size r:=x4.aj (aY zR n)
  have h3:aP (w2.drewN n) a xs:=h2.aj (aY zR n)
  generalize w2.drewN n=w3 at *
  clear h2 h1 x4 x10 q2 w2
  have hi0:=ok.lo
  have hi1:=ok.hi
  have hr0:=ok.Nt
  have hr1:=ok.Ns
  have e1:i / 65536=0:=by omega
  have e2:bits .and .i64 (i / 256) 255=i / 256:=by rw [I8];omega
  have e3:bits .and .i64 i 255=i % 256:=I8 i
  clear ok
  generalize Value.agg #[.int .i64 r.byte,.int .i64 r.addr,.bool r.mode,.int .i64 r.dummy,.int .i64 r.data,.bool r.jz]=vagg
  obtain ⟨i0,hi,hz0,hz1,hz2⟩:=info_parts EW
  obtain ⟨c0,c1,c2,c3,c4,c5⟩:=x3.cell
  clear c1 c2 c3 c4 c5
  go_upto_region 6 with (fail)
  have hN4:=EX (w3.alloc (.cells #[.int .i64 r.byte] 3)) w3.heap.size (by simp) ⟨1,[r.byte],0,0⟩ _ (uo w3 w3.heap.size zY [r.byte] _ rfl 1 rfl)
  have hb4:Below w3.heap.size w3 ((w3.alloc (.cells #[.int .i64 r.byte] 3)).alloc (.cells #[.int .i64 1,.slice (some ⟨w3.heap.size,0,none⟩) 1 1,.int .i64 0,.int .i64 0] 281)):=ae (ae zR _) _
  simp only [World.size_alloc] at hN4
  generalize (w3.alloc _).alloc _=w4 at *
  generalize Value.slice (some ⟨w3.heap.size+1,0,none⟩) 1 1=v4 at *
  have x4:=x3.aj hb4
  obtain ⟨c0,c1,c2,c3,c4,c5⟩:=x4.cell
  go_upto_if 76 with (fail)
  go_cut [13] from 14 (fun v wx=>gh wx w3.heap.size v ([⟨1,[r.byte],0,0⟩]++(if 0<r.addr then [⟨r.addr,[0,i / 256,i % 256],0,0⟩] else []))∧Below w3.heap.size w3 wx)
  case first =>
   by_cases ha:0<r.addr
   ·
    obtain ⟨l,hll,hN,hown⟩:=hN4
    have hlen:l.length≤6:=by have:=congrArg List.length hll;simp at this;omega
    have hN:=zH hN
    have hll:=zH hll
    clear c0 c2 c3 c4 c5
    go_wp2_with (at_builtin;refine wpList_append_own _ rfl _ _ 139 rfl w3.heap.size 281 i0 (.agg #[.int .i64 0,.slice none 0 0,.int .i64 0,.int .i64 0]) 4 48 underlying139 hi hz0 hz1 hz2 rfl (by decide) v4 l.length (eK l) ?a1 ((hown.alloc _).alloc _) ⟨w4.heap.size+1,0,none⟩ 1 1 [.int .i64 r.addr,.slice (some ⟨w4.heap.size,0,none⟩) 3 3,.int .i64 0,.int .i64 0] ?a2 rfl ?a3 ?a4 ?a5 ?a6 ?a7 ?_)
    case a1=>rfl
    case a2=>rfl
    case a3=>exact World.news_of_block (cs := #[.int .i64 r.addr,.slice (some ⟨w4.heap.size,0,none⟩) 3 3,.int .i64 0,.int .i64 0]) (t:=281) (fr:=(0,0)) (by simpa using af (w4.alloc _) _)
    case a4=>intro u hu;simp only [List.mem_cons,List.not_mem_nil,or_false] at hu;rcases hu with rfl | rfl | rfl | rfl <;> rfl
    case a5=>simp only [maxLen];omega
    case a6=>omega
    case a7=>have:=hb4.size;simp;omega
    intro v' w' hown' hg _
    have hpush:=ka (p:=⟨r.addr,[0,i / 256,i % 256],0,0⟩) hN.out hown (ae (ae zR _) _) ((uo w4 _ hb4.size [0,i / 256,i % 256] _ rfl 3 rfl).aj (ae zR _)) hg hown'
    have hbel:Below w3.heap.size w3 w':=dO (gtr hb4 (ae (ae zR _) _)) hg (gV hown)
    rw [hll.out] at hpush
    clear hown' hg
    go_wp2
    go_meet
    exact ⟨by rw [if_pos ha];exact hpush,hbel⟩
   ·
    go_wp2
    go_meet
    exact ⟨by rw [if_neg (by omega),List.append_nil];exact hN4,hb4⟩
  case rest =>
   obtain ⟨hN5,hb5⟩:=hcut
   generalize hps:([⟨1,[r.byte],0,0⟩]++(if 0<r.addr then [⟨r.addr,[0,i / 256,i % 256],0,0⟩] else []):List Ph)=ps5 at *
   have hlen5:ps5.length≤2:=by rw [← hps];simp;split <;> simp
   have HPS:=zH hps
   clear hps c0 c1 c2 c3 c4 c5 hN4 hb4 x4 e1 e2 e3
   have x5:=x3.aj hb5
   have h5:=h3.aj hb5
   obtain ⟨c0,c1,c2,c3,c4,c5⟩:=x5.cell
   clear c0 c3 c4 c5
   go_upto_if 92 with (fail)
   go_cut [13] from 14 (fun v wx=>gh wx w3.heap.size v (ps5++(if r.mode then [⟨r.addr,xs,0,0⟩] else []))∧Below w3.heap.size w3 wx)
   case first =>
    cases hmode:r.mode with
    | false =>
     go_wp2
     go_meet
     exact ⟨by rw [if_neg (by rw [hmode];decide),List.append_nil];exact hN5,hb5⟩
    | true =>
     obtain ⟨l,hll,hN,hown⟩:=hN5
     have hlen:l.length≤6:=by have:=congrArg List.length hll;simp at this;omega
     have hN:=zH hN
     have hll:=zH hll
     clear c2
     go_wp2_with fail
     have hs5:=hb5.size
     have hownd:wc.drew.ownsRow _ _ _ _ _ _:=hown
     have hne:u13.ownBlock≠some w.heap.size:=fun e=>by have:=gV hown _ e;have:=x3.lt;omega
     have h5d:aP wc.drew a xs:=h5
     have hlt5:=x5.lt
     obtain ⟨m1,m2⟩:=Au hlen
     go_region_held3 (fun w'=>w'.cell? ⟨w.heap.size,1,none⟩=some (.int .i64 r.addr)) (first | go_keep | exact (hbx.cell (p:=⟨w.heap.size,1,none⟩) hlt5).trans c1 | exact (hgrow.cell_far ⟨w.heap.size,1,none⟩ (rH _ hltx) (Ne.symm hne)).trans ((World.cell?_alloc_lt _ _ _ hltx).trans ((hbx.cell (p:=⟨w.heap.size,1,none⟩) hlt5).trans c1))) (first
       | (go_at_call 56;refine (nP a c xs _ h5d hn hx8).mono ?_;rintro e wx ⟨ax,cx,rfl,hvx,hbx⟩;have hsx:=hbx.size;have hltx:=zV hlt5 hsx)
       | (refine step_append_lies _ rfl _ _ _ rfl w3.heap.size 281 i0 (.agg #[.int .i64 0,.slice none 0 0,.int .i64 0,.int .i64 0]) 4 48 underlying139 hi hz0 hz1 hz2 rfl (Nat.lt_of_sub_eq_succ rfl) u13 l.length (eK l) rfl ((hownd.aj hbx).alloc _) ⟨wx.heap.size,0,none⟩ 1 1 [.int .i64 r.addr,.slice ax xs.length cx,.int .i64 0,.int .i64 0] rfl rfl (World.news_of_block (cs := #[.int .i64 r.addr,.slice ax xs.length cx,.int .i64 0,.int .i64 0]) (t:=281) (fr:=(0,0)) (heap_alloc_new wx _)) (CW _ _ _ _ hvx.one) Nat.one_pos m1 m2 (rH _ (Nat.le_trans hs5 hsx)) (wx.heap.size+1) (World.size_alloc _ _) ?_;intro gg cap w7 hown7 hgrow hat hlt))
     all_goals
      have hpush:=ka (p:=⟨r.addr,xs,0,0⟩) hN.out hown (gtr (au zR) (gtr hbx (ae zR _))) ((hvx.mono hs5).aj (ae zR _)) hgrow hown7
      have hbel:=dO (gtr hb5 (gtr (au zR) (gtr hbx (ae zR _)))) hgrow (gV hown)
      rw [hll.out] at hpush
      clear hown7 hgrow hat hlt
      go_wp2
      go_meet
      exact ⟨by rw [if_pos hmode];exact hpush,hbel⟩
   case rest =>
    obtain ⟨hN6,hb6⟩:=hcut
    generalize hps6:(ps5++(if r.mode then [⟨r.addr,xs,0,0⟩] else []):List Ph)=ps6 at *
    have hlen6:ps6.length≤3:=by rw [← hps6];simp;split <;> simp <;> omega
    have HPS6:=zH hps6
    clear hps6 hN5 hb5 x5 h5 c1 c2
    have x6:=x3.aj hb6
    have h6:=h3.aj hb6
    obtain ⟨c0,c1,c2,c3,c4,c5⟩:=x6.cell
    clear c0 c1 c2 c4 c5
    go_upto_if 103 with (fail)
    go_cut [13] from 14 (fun v wx=>gh wx w3.heap.size v (ps6++(if 0<r.dummy then [⟨0,[],r.dummy,0⟩] else []))∧Below w3.heap.size w3 wx)
    case first =>
     by_cases ha:0<r.dummy
     ·
      obtain ⟨l,hll,hN,hown⟩:=hN6
      have hlen:l.length≤6:=by have:=congrArg List.length hll;simp at this;omega
      have hN:=zH hN
      have hll:=zH hll
      go_wp2_with (at_builtin;refine wpList_append_own _ rfl _ _ 139 rfl w3.heap.size 281 i0 (.agg #[.int .i64 0,.slice none 0 0,.int .i64 0,.int .i64 0]) 4 48 underlying139 hi hz0 hz1 hz2 rfl (by decide) _ l.length (eK l) ?b1 (hown.alloc _) ⟨wc.heap.size,0,none⟩ 1 1 [.int .i64 0,.slice none 0 0,.int .i64 r.dummy,.int .i64 0] ?b2 rfl ?b3 ?b4 ?b5 ?b6 ?b7 ?_)
      case b1=>rfl
      case b2=>rfl
      case b3=>exact World.news_of_block (cs := #[.int .i64 0,.slice none 0 0,.int .i64 r.dummy,.int .i64 0]) (t:=281) (fr:=(0,0)) (af wc _)
      case b4=>intro u hu;simp only [List.mem_cons,List.not_mem_nil,or_false] at hu;rcases hu with rfl | rfl | rfl | rfl <;> rfl
      case b5=>simp only [maxLen];omega
      case b6=>omega
      case b7=>have:=hb6.size;simp;omega
      intro v' w' hown' hg _
      have hpush:=ka (p:=⟨0,[],r.dummy,0⟩) hN.out hown (ae zR _) (bw.nil _ _) hg hown'
      have hbel:Below w3.heap.size w3 w':=dO (gtr hb6 (ae zR _)) hg (gV hown)
      rw [hll.out] at hpush
      clear hown' hg
      go_wp2
      go_meet
      exact ⟨by rw [if_pos ha];exact hpush,hbel⟩
     ·
      go_wp2
      go_meet
      exact ⟨by rw [if_neg (by omega),List.append_nil];exact hN6,hb6⟩
    case rest =>
     obtain ⟨hN7,hb7⟩:=hcut
     generalize hps7:(ps6++(if 0<r.dummy then [⟨0,[],r.dummy,0⟩] else []):List Ph)=ps7 at *
     have hlen7:ps7.length≤4:=by rw [← hps7];simp;split <;> simp <;> omega
     have HPS7:=zH hps7
     clear hps7 hN6 hb6 x6 h6 c3
     have x7:=x3.aj hb7
     have h7:=h3.aj hb7
     obtain ⟨c0,c1,c2,c3,c4,c5⟩:=x7.cell
     clear c0 c1 c2 c3
     go_upto_region 12 with (fail)
     go_cut [116] from 14 (fun v wx=>v=.bool (r.jz&&decide (0<(xs.length:Int)))∧wx=wc)
     case first =>
      cases hinn:r.jz with
      | true=>rw [hinn] at c5;go_wp2_with fail;go_meet;exact ⟨by simp [hinn],rfl⟩
      | false=>rw [hinn] at c5;go_wp2_with fail;go_meet;exact ⟨by simp [hinn],rfl⟩
     case rest =>
      obtain ⟨rfl,rfl⟩:=hcut
      go_upto_if 116 with (fail)
      go_cut [13] from 14 (fun v wx=>gh wx w3.heap.size v (ps7++(if r.jz=true∧0<xs.length then [⟨r.data,xs,0,0⟩] else []))∧Below w3.heap.size w3 wx)
      case first =>
       cases hcond:(r.jz&&decide (0<(xs.length:Int))) with
       | false =>
        have hno : ¬ (r.jz=true∧0<xs.length):=by
         intro ⟨k1,k2⟩;rw [k1,decide_eq_true (by omega)] at hcond;cases hcond
        clear c4 c5 hcond
        go_wp2
        go_meet
        exact ⟨by rw [if_neg hno,List.append_nil];exact hN7,hb7⟩
       | true =>
        have hyes:r.jz=true∧0<xs.length:=by
         simp at hcond;exact ⟨hcond.1,by omega⟩
        have HY:=zH hyes
        clear hyes hcond c5
        obtain ⟨l,hll,hN,hown⟩:=hN7
        have hlen:l.length≤6:=by have:=congrArg List.length hll;simp at this;omega
        have hN:=zH hN
        have hll:=zH hll
        go_wp2_with fail
        have hs5:=hb7.size
        have hownd:wc.drew.ownsRow _ _ _ _ _ _:=hown
        have hne:u13.ownBlock≠some w.heap.size:=fun e=>by have:=gV hown _ e;have:=x3.lt;omega
        have h7d:aP wc.drew a xs:=h7
        have hlt5:=x7.lt
        obtain ⟨m1,m2⟩:=Au hlen
        go_region_held3 (fun w'=>w'.cell? ⟨w.heap.size,4,none⟩=some (.int .i64 r.data)) (first | go_keep | exact (hbx.cell (p:=⟨w.heap.size,4,none⟩) hlt5).trans c4 | exact (hgrow.cell_far ⟨w.heap.size,4,none⟩ (rH _ hltx) (Ne.symm hne)).trans ((World.cell?_alloc_lt _ _ _ hltx).trans ((hbx.cell (p:=⟨w.heap.size,4,none⟩) hlt5).trans c4))) (first
          | (go_at_call 56;refine (nP a c xs _ h7d hn hx8).mono ?_;rintro e wx ⟨ax,cx,rfl,hvx,hbx⟩;have hsx:=hbx.size;have hltx:=zV hlt5 hsx)
          | (refine step_append_lies _ rfl _ _ _ rfl w3.heap.size 281 i0 (.agg #[.int .i64 0,.slice none 0 0,.int .i64 0,.int .i64 0]) 4 48 underlying139 hi hz0 hz1 hz2 rfl (Nat.lt_of_sub_eq_succ rfl) u13 l.length (eK l) rfl ((hownd.aj hbx).alloc _) ⟨wx.heap.size,0,none⟩ 1 1 [.int .i64 r.data,.slice ax xs.length cx,.int .i64 0,.int .i64 0] rfl rfl (World.news_of_block (cs := #[.int .i64 r.data,.slice ax xs.length cx,.int .i64 0,.int .i64 0]) (t:=281) (fr:=(0,0)) (heap_alloc_new wx _)) (CW _ _ _ _ hvx.one) Nat.one_pos m1 m2 (rH _ (Nat.le_trans hs5 hsx)) (wx.heap.size+1) (World.size_alloc _ _) ?_;intro gg cap w7 hown7 hgrow hat hlt))
        all_goals
         have hpush:=ka (p:=⟨r.data,xs,0,0⟩) hN.out hown (gtr (au zR) (gtr hbx (ae zR _))) ((hvx.mono hs5).aj (ae zR _)) hgrow hown7
         have hbel:=dO (gtr hb7 (gtr (au zR) (gtr hbx (ae zR _)))) hgrow (gV hown)
         rw [hll.out] at hpush
         clear hown7 hgrow hat hlt
         go_wp2
         go_meet
         exact ⟨by rw [if_pos HY.out];exact hpush,hbel⟩
      case rest =>
       obtain ⟨hN8,hb8⟩:=hcut
       generalize hps8:(ps7++(if r.jz=true∧0<xs.length then [⟨r.data,xs,0,0⟩] else []):List Ph)=ps8 at *
       have hlen8:ps8.length≤5:=by rw [← hps8];simp;split <;> simp <;> omega
       have HPS8:=zH hps8
       clear hps8 hN7 hb7 x7 h7 c4 c5
       have x8:=x3.aj hb8
       obtain ⟨c0,c1,c2,c3,c4,c5⟩:=x8.cell
       clear c0 c1 c2 c3 c5
       have hfin:aQ r i xs read=ps8++(if 0<read then [⟨r.data,[],0,read⟩] else []):=by
        unfold aQ;rw [HPS.out,HPS6.out,HPS7.out,HPS8.out]
       have HFIN:=zH hfin
       clear hfin HPS HPS6 HPS7 HPS8
       by_cases ha:0<read
       ·
        obtain ⟨l,hll,hN,hown⟩:=hN8
        have hlen:l.length≤6:=by have:=congrArg List.length hll;simp at this;omega
        have hN:=zH hN
        have hll:=zH hll
        go_wp2_with (at_builtin;refine wpList_append_own _ rfl _ _ 139 rfl w3.heap.size 281 i0 (.agg #[.int .i64 0,.slice none 0 0,.int .i64 0,.int .i64 0]) 4 48 underlying139 hi hz0 hz1 hz2 rfl (by decide) _ l.length (eK l) ?d1 (hown.alloc _) ⟨wc.heap.size,0,none⟩ 1 1 [.int .i64 r.data,.slice none 0 0,.int .i64 0,.int .i64 read] ?d2 rfl ?d3 ?d4 ?d5 ?d6 ?d7 ?_)
        case d1=>rfl
        case d2=>rfl
        case d3=>exact World.news_of_block (cs := #[.int .i64 r.data,.slice none 0 0,.int .i64 0,.int .i64 read]) (t:=281) (fr:=(0,0)) (af wc _)
        case d4=>intro u hu;simp only [List.mem_cons,List.not_mem_nil,or_false] at hu;rcases hu with rfl | rfl | rfl | rfl <;> rfl
        case d5=>simp only [maxLen];omega
        case d6=>omega
        case d7=>have:=hb8.size;simp;omega
        intro v' w' hown' hg _
        have hpush:=ka (p:=⟨r.data,[],0,read⟩) hN.out hown (ae zR _) (bw.nil _ _) hg hown'
        have hbel:Below w3.heap.size w3 w':=dO (gtr hb8 (ae zR _)) hg (gV hown)
        rw [hll.out] at hpush
        clear hown' hg
        go_wp2
        go_ret2
        exact ⟨v',rfl,by rw [HFIN.out,if_pos ha];exact hpush.mono q3.size,gtr q3 hbel⟩
       ·
        go_wp2
        go_ret2
        exact ⟨_,rfl,by rw [HFIN.out,if_neg (by omega),List.append_nil];exact hN8.mono q3.size,gtr q3 hb8⟩
def bt (s:ByteArray) (i:Nat):UInt8:=s.data.getD i 0
def mk (n:Nat) (f:Nat→UInt8):ByteArray:=⟨Array.ofFn (n:=n) fun i=>f i⟩
theorem eJ (n:Nat) (f:Nat→UInt8):(mk n f).size=n:=by simp [mk,ByteArray.size]
theorem lP (n:Nat) (f:Nat→UInt8) (i:Nat) (h:i<n):bt (mk n f) i=f i:=by simp [bt,mk,h]
theorem pF (s:ByteArray) (i:Nat) (h:i<s.data.size):s.data[i]'h=bt s i:=by
 unfold bt
 rw [Array.getD_eq_getD_getElem?,Array.getElem?_eq_getElem h]
 rfl
theorem gT (s:ByteArray) (i:Nat) (h:i<s.size):s[i]'h=bt s i:=pF s i h
theorem fF {s t:ByteArray} (h:s.size=t.size) (hb : ∀ i,i<s.size→bt s i=bt t i):s=t:=by
 obtain ⟨a⟩:=s
 obtain ⟨b⟩:=t
 congr 1
 refine Array.ext h fun i h1 h2 => ?_
 have:=hb i h1
 rw [← pF ⟨a⟩ i h1,← pF ⟨b⟩ i h2] at this
 exact this
theorem mk_congr {n:Nat} {f g:Nat→UInt8} (h : ∀ i,i<n→f i=g i):mk n f=mk n g :=
 fF (by rw [eJ,eJ]) fun i hi=>by rw [eJ] at hi;rw [lP _ _ _ hi,lP _ _ _ hi,h i hi]
theorem back_mk (l:List UInt8) (f:Nat→UInt8) (n:Nat) (hn:l.length=n) (h : ∀ i (hi:i<l.length),l[i]=f i):(⟨l.toArray⟩:ByteArray)=mk n f:=by
 subst hn
 refine fF (by rw [eJ];simp [ByteArray.size]) fun i hi => ?_
 have hi':i<l.length:=by simpa [ByteArray.size] using hi
 rw [lP _ _ _ hi',← h i hi']
 simp [bt,hi']
theorem qk (x y:UInt8):bits .andNot .u8 (x.toNat:Int) (y.toNat:Int)=((x &&& ~~~y).toNat:Int):=by
 rw [u8_andNot_nat _ _ x.toNat_lt y.toNat_lt]
 simp [UInt8.toNat_and,UInt8.toNat_not]
theorem IJ (x y:UInt8):bits .or .u8 (x.toNat:Int) (y.toNat:Int)=((x ||| y).toNat:Int):=by
 rw [u8_or_nat _ _ x.toNat_lt y.toNat_lt]
 simp [UInt8.toNat_or]
def eG (m:ByteArray) (i:Nat):UInt8:=if m.size=0 then 0 else bt m (i % m.size)
def iF (m d:ByteArray) (i:Nat) (old:UInt8):UInt8:=old &&& ~~~(eG m i &&& ~~~(bt d i))
def iS (m:ByteArray) (i:Nat) (old:UInt8):UInt8:=old ||| eG m i
def lE (s:ByteArray) (p n:Nat) (f:Nat→UInt8→UInt8):ByteArray:=mk s.size fun j=>if p≤j∧j<p+n then f (j - p) (bt s j) else bt s j
end Go.Proofs.YtcfdenckiigdaaaGreat

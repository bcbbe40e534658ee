/- Part 0 of the contracts. -/
import Derived.BigQuiet
import Derived.Deep.AppendLies
import Derived.Deep.DeepCutAuto
import Derived.Deep.RegionHeld3
import Derived.Laws.AppendOwnNone
import Derived.Lib.Hide
import Derived.ProofKit
import Derived.Test.YtcfdenckiigdaaaGreatChecked
import Derived.WalkSpells
set_option linter.unusedVariables false
set_option maxRecDepth 100000
set_option maxHeartbeats 4000000
namespace Go.Proofs.YtcfdenckiigdaaaGreat
section
open Go.RowKit
theorem zS {α:Type _} {l:List α} {i:Nat} {a:α}:l.toArray.setIfInBounds i a=(l.set i a).toArray:=List.setIfInBounds_toArray ..
theorem zT {α:Type _} {xs:List α} {a b:α}:(a::xs).set 0 b=b::xs:=rfl
theorem zU {α:Type _} {xs:List α} {a b:α} {n:Nat}:(a::xs).set (n+1) b=a::xs.set n b:=rfl
theorem zH {p:Prop} (h:p):RowKit.Hid p:=h
theorem zA {a b:Prop} (h:a) (k:b):a∧b:=⟨h,k⟩
theorem tk {P:Program} {ops:Array Oper} {Q:Exit→Act→World→Prop} {md:Region.Mode} {S:World→Prop} (i:Nat) {oi:Oper} {v:Value} {fuel:Nat} {listed:Array Bool} {a a':Act} {w:World} (h:wpAnyH P md ops Q S fuel (listed.setIfInBounds i true) a' w) (hi:ops[i]? = some oi:=by (simp only [List.getElem?_toArray,List.getElem?_cons_succ,List.getElem?_cons_zero];rfl)) (hs:Region.noSelect ops=true:=by kernel_rfl) (hf:Region.free md ops listed i=true:=by kernel_rfl) (hr:(Region.ready md ops listed).contains i=true:=by kernel_rfl) (hw:Region.wanted oi (yielded ops a.tmps)=true:=by rfl) (hy : ∀ w,S w→(execOp a.eval oi).run P w=.ok (.value v) w:=by (intro w hSw;(try dsimp only at hSw);go_simp;try with_reducible rfl)) (ha:a.put oi.dst v=a':=by (simp only [Act.put,zS,zT,zU];rfl)) (hQ : ∀ c a w,Q (.panic c) (a.put oi.dst v) w→Q (.panic c) a w:=by exact fun _ _ _ h=>h) (hS:S w:=by assumption):wpAnyH P md ops Q S (fuel+1) listed a w:=by
 subst ha
 exact wpAnyH_take hi hs hf hr hQ (.inl ⟨hw,hy⟩) hS h
theorem tr {P:Program} {ops:Array Oper} {Q:Exit→Act→World→Prop} {md:Region.Mode} {S:World→Prop} (i:Nat) {o:Oper} {fuel:Nat} {listed:Array Bool} {a:Act} {w:World} (h : ∀ K':Act→World→Prop,Shut (∀ a w,S w→(S w→wpAnyH P md ops Q S fuel (listed.setIfInBounds i true) a w)→K' a w)→if Region.wanted o (yielded ops a.tmps)=true then Oper.wp P o a w K' Q else K' (a.put o.dst undef) w) (ho:ops[i]? = some o:=by (simp only [List.getElem?_toArray,List.getElem?_cons_succ,List.getElem?_cons_zero];rfl)) (hr:Region.ready md ops listed=[i]:=by kernel_rfl):wpAnyH P md ops Q S (fuel+1) listed a w :=
 wpAnyH_ready hr (by simp) (AllReadyH.cons ho h AllReadyH.nil)
end
section
open Go.RowKit
theorem gtr {a b c:World} (h:Below a.heap.size a b) (k:Below b.heap.size b c):Below a.heap.size a c:=h.trans (k.mono h.size)
theorem qac {a b:World} (h:Below a.heap.size a b) (o:Obj):Below a.heap.size a (b.alloc o):=h.alloc h.size o
theorem qai {a b:World} (h:Below a.heap.size a b):Below a.heap.size a b.drew:=h.drew
theorem qao {a b:World} (h:Below a.heap.size a b) (n:Nat):Below a.heap.size a (b.drewN n):=h.trans ⟨rfl,rfl,rfl,Nat.le_refl _,fun _ _=>rfl⟩
theorem gset {a b:World} (h:Below a.heap.size a b) {p:Addr} (hp:a.heap.size≤p.block) (v:Value):Below a.heap.size a (b.setCell p v):=h.setCell hp v
theorem qad (w:World) (o:Obj):(w.alloc o).heap[w.heap.size]? = some o:=by show (w.heap.push o)[w.heap.size]? = _;simp
theorem qaa {w:World} {b:Nat} {c:Array Value} {t:TypeId} {f:Nat×Nat} (h:w.heap[b]? = some (.cells c t f)) (i:Nat):w.cell? ⟨b,i,none⟩=c[i]? := by simp [World.cell?,h]
theorem qah {w:World} {b:Nat} {c:Array Value} {t:TypeId} (h:w.heap[b]? = some (.cells c t (0,0))) (i:Nat):w.frozen? ⟨b,i,none⟩=false:=by simp [World.frozen?,h]
theorem qat {w:World} {b:Nat} {o:Obj} (h:w.heap[b]? = some o):b<w.heap.size:=by
 rcases Nat.lt_or_ge b w.heap.size with h' | h'
 ·
  exact h'
 ·
  simp [Array.getElem?_eq_none h'] at h
theorem qab {w w':World} {b:Nat} {o:Obj} (hb:Below w.heap.size w w') (h:w.heap[b]? = some o):w'.heap[b]? = some o:=(hb.block b (qat h)).trans h
theorem qaP (b o j:Nat):(⟨b,o,none⟩:Addr).add j=⟨b,o+j,none⟩:=by unfold Addr.add;split <;> simp_all
def qkQ (x:Bool) (w:World) (e:Ending) (w':World):Prop:=e=.returned (.bool x)∧Below w.heap.size w w'
end
section
open Go.RowKit
def qal (w:World) (a:Option Addr) (xs:List Int):Prop :=
 ∀ i,i<xs.length → ∃ b off,a=some ⟨b,off,none⟩∧w.cell? ⟨b,off+i,none⟩=some (.int .i64 (xs.getD i 0))
theorem qal.at {w:World} {a:Option Addr} {xs:List Int} (h:qal w a xs) (hp:0<xs.length) : ∃ b off,a=some ⟨b,off,none⟩ ∧ ∀ i,i<xs.length→w.cell? ⟨b,off+i,none⟩=some (.int .i64 (xs.getD i 0)):=by
 obtain ⟨b,off,ha,_⟩:=h 0 hp
 refine ⟨b,off,ha,fun i hi => ?_⟩
 obtain ⟨b',off',ha',hc⟩:=h i hi
 rw [ha] at ha'
 obtain ⟨rfl,rfl⟩:b=b'∧off=off':=by simpa using ha'
 exact hc
theorem qal.of {w:World} {b off:Nat} {xs:List Int} (h : ∀ i,i<xs.length→w.cell? ⟨b,off+i,none⟩=some (.int .i64 (xs.getD i 0))):qal w (some ⟨b,off,none⟩) xs:=fun i hi=>⟨b,off,rfl,h i hi⟩
theorem qal.nil (w:World) (a:Option Addr):qal w a []:=fun i hi=>by simp at hi
def qta (b:Bool) (w:World) (e:Ending) (w':World):Prop:=e=.returned (.bool b) ∧ ∃ n,w'=w.drewN n
end
section
open Go.RowKit
theorem qcD:(Tryz.prog.info? 3).map (fun i=>(i.zero,i.size,i.bytes))=some (some (.int .i64 0),1,8):=by kernel_rfl
def intVals (xs:List Int):List Value:=xs.map (.int .i64)
theorem qiP (xs:List Int):(intVals xs).length=xs.length * 1:=by simp [intVals]
theorem qiQ (xs:List Int) : ∀ u ∈ intVals xs,u.oneCell'=true:=by
 intro u hu;simp only [intVals,List.mem_map] at hu;obtain ⟨x,_,rfl⟩:=hu;rfl
theorem qiO (xs:List Int) (j:Nat) (u:Value) (h:(intVals xs)[j]? = some u):j<xs.length∧u=.int .i64 (xs.getD j 0):=by
 simp only [intVals,List.getElem?_map,Option.map_eq_some_iff] at h
 obtain ⟨x,hx,rfl⟩:=h
 have hj:=(List.getElem?_eq_some_iff.1 hx).1
 exact ⟨hj,by simp [List.getD,hx]⟩
def qar (w:World) (B:Nat) (v:Value) (xs:List Int):Prop :=
 ∃ a c,v=.slice a xs.length c ∧ ∀ i,i<xs.length → ∃ b off cur,a=some ⟨b,off,none⟩∧B≤b∧w.heap[b]? = some (.cells cur 3 (0,0))∧cur[off+i]? = some (.int .i64 (xs.getD i 0))
theorem qar.ints {w:World} {B:Nat} {v:Value} {xs:List Int} (h:qar w B v xs) : ∃ a c,v=.slice a xs.length c∧qal w a xs:=by
 obtain ⟨a,c,hv,hc⟩:=h
 refine ⟨a,c,hv,fun i hi => ?_⟩
 obtain ⟨b,off,cur,ha,_,hb,hx⟩:=hc i hi
 exact ⟨b,off,ha,(qaa hb _).trans hx⟩
theorem qar.later {w w':World} {B:Nat} {v:Value} {xs:List Int} (h:qar w B v xs) (hb:Below w.heap.size w w'):qar w' B v xs:=by
 obtain ⟨a,c,hv,hc⟩:=h
 refine ⟨a,c,hv,fun i hi => ?_⟩
 obtain ⟨b,off,cur,ha,hB,hh,hx⟩:=hc i hi
 exact ⟨b,off,cur,ha,hB,qab hb hh,hx⟩
theorem qar.mono {w:World} {B B':Nat} {v:Value} {xs:List Int} (h:qar w B v xs) (hB:B'≤B):qar w B' v xs:=by
 obtain ⟨a,c,hv,hc⟩:=h
 refine ⟨a,c,hv,fun i hi => ?_⟩
 obtain ⟨b,off,cur,ha,hB',hh,hx⟩:=hc i hi
 exact ⟨b,off,cur,ha,Nat.le_trans hB hB',hh,hx⟩
theorem qar.nil (w:World) (B:Nat):qar w B (.slice none 0 0) []:=⟨none,0,rfl,fun i hi=>by simp at hi⟩
theorem qar.of_own {w:World} {B:Nat} {v:Value} {xs:List Int} (h:w.ownsRow B 3 1 v xs.length (intVals xs)):qar w B v xs:=by
 rcases h.2 with ⟨rfl,hn⟩ | ⟨g,cap,cur,rfl,hb,hg,hnc,_,hcs,htake⟩
 ·
  refine ⟨none,0,by rw [hn],fun i hi=>by omega⟩
 ·
  refine ⟨some ⟨g,0,none⟩,cap,rfl,fun i hi=>⟨g,0,cur,rfl,hb,hg,?_⟩⟩
  have h1:(intVals xs)[i]? = some (.int .i64 (xs.getD i 0)):=by simp [intVals,List.getD,List.getElem?_eq_getElem hi]
  rw [← htake,List.getElem?_take] at h1
  split at h1
  ·
   simpa using h1
  ·
   cases h1
structure Tells (f:FuncId) (p:Int→Bool):Prop where
 calls : ∀ (x:Int) (w:World),Calls Tryz.prog f #[.int .i64 x] w fun e w'=>e=.returned (.bool (p x))∧w=w'
 run : ∀ (args:Array Value) (w:World),(callFunc f args).run Tryz.prog w=.ok (.enter f args) w
def idxOf (p:Int→Bool) (xs:List Int):Int:=match xs.findIdx? p with | some i=>(i:Int) | none => -1
def quS (x:Int) (w:World) (e:Ending) (w':World):Prop:=e=.returned (.int .i64 x) ∧ ∃ n,w'=w.drewN n
theorem qp1 (p:Int→Bool) (xs:List Int) (k:Nat) (hk:k<xs.length) (hn : ∀ j,j<k→p (xs.getD j 0)=false) (h:p (xs.getD k 0)=true):idxOf p xs=k:=by
 have:xs.findIdx? p=some k:=by
  rw [List.findIdx?_eq_some_iff_getElem]
  refine ⟨hk,by simpa [List.getD,List.getElem?_eq_getElem hk] using h,fun j hj => ?_⟩
  have:=hn j hj
  have hj':j<xs.length:=by omega
  simpa [List.getD,List.getElem?_eq_getElem hj'] using this
 simp [idxOf,this]
theorem qp2 (p:Int→Bool) (xs:List Int) (hn : ∀ j,j<xs.length→p (xs.getD j 0)=false):idxOf p xs = -1:=by
 have:xs.findIdx? p=none:=by
  rw [List.findIdx?_eq_none_iff]
  intro x hx
  obtain ⟨j,hj,rfl⟩:=List.getElem_of_mem hx
  have:=hn j hj
  simpa [List.getD,List.getElem?_eq_getElem hj] using this
 simp [idxOf,this]
theorem qiM (F:FuncId) (p:Int→Bool) (hF:Tells F p) (a:Option Addr) (c:Nat) (xs:List Int) (w:World) (h1:qal w a xs) (hm:xs.length≤9223372036854775807):Calls Tryz.prog 86 #[.slice a xs.length c,.func (.func F) #[] #[]] w (quS (idxOf p xs) w):=by
 have HF:=zH hF
 have hrun:=hF.run
 clear hF
 go_enter Tryz.func86,Tryz.ntmps86
 go_wp2_with fail
 go_loopw [8] (fun i wr => ∃ k n:Nat,k≤xs.length∧i=.int .i64 k∧wr=w.drewN n ∧ ∀ j,j<k→p (xs.getD j 0)=false) (fun i _=>xs.length - (intOf i).toNat)
 case atStart=>exact ⟨0,0,Nat.zero_le _,rfl,rfl,fun j hj=>by omega⟩
 case round =>
  obtain ⟨k,n,hk,rfl,rfl,hsame⟩:=hrel
  have HS:=zH hsame
  clear hsame
  by_cases hlt:k<xs.length
  ·
   obtain ⟨b1,o1,rfl,g1⟩:=h1.at (by omega)
   have q1:=g1 k hlt
   have hlt':(k:Int)<(xs.length:Int):=by omega
   clear g1 h1
   cases hp:p (xs.getD k 0) with
   | true =>
    have HR:=zH (qp1 p xs k hlt HS.out hp)
    have HP:=zH hp
    clear hp
    generalize hx:xs.getD k 0=x at *
    clear hx
    go_wp2_with fail
    refine (HF.out.calls x _).mono ?_
    rintro e w' ⟨rfl,rfl⟩
    rw [HP.out]
    go_wp2_with fail
    go_ret
    exact ⟨by rw [HR.out];rfl,n,rfl⟩
   | false =>
    have HN:=zH hp
    have HP:=zH hp
    clear hp
    generalize hx:xs.getD k 0=x at HP q1
    have HX:=zH hx
    clear hx
    go_wp2_with fail
    refine (HF.out.calls x _).mono ?_
    rintro e w' ⟨rfl,rfl⟩
    rw [HP.out]
    go_wp2_with fail
    go_roundw
    case rel=>exact ⟨k+1,n,by omega,by go_num,rfl,fun j hj=>by
     by_cases hjk:j<k
     ·
      exact HS.out j hjk
     ·
      obtain rfl:j=k:=by omega
      exact HN.out⟩
    case measure=>simp [intOf];omega
  ·
   obtain rfl:k=xs.length:=by omega
   have HR:=zH (qp2 p xs HS.out)
   go_wp2_with fail
   go_ret
   exact ⟨by rw [HR.out];rfl,n,rfl⟩
theorem qrT (p:Int→Bool) (xs:List Int):decide (0≤idxOf p xs)=xs.any p:=by
 cases h:xs.findIdx? p with
 | none =>
  have:xs.any p=false:=by
   rw [List.findIdx?_eq_none_iff] at h
   simpa [List.any_eq_false] using h
  simp [idxOf,h,this]
 | some i =>
  have:xs.any p=true:=by
   rw [List.findIdx?_eq_some_iff_getElem] at h
   obtain ⟨hi,hp,_⟩:=h
   exact List.any_eq_true.2 ⟨_,List.getElem_mem hi,hp⟩
  simp [idxOf,h,this]
theorem qbf (F:FuncId) (p:Int→Bool) (hF:Tells F p) (a:Option Addr) (c:Nat) (xs:List Int) (w:World) (h1:qal w a xs) (hm:xs.length≤9223372036854775807):Calls Tryz.prog 55 #[.slice a xs.length c,.func (.func F) #[] #[]] w (qta (xs.any p) w):=by
 have HA:=zH (qrT p xs)
 have HF:=zH hF
 clear hF
 go_enter Tryz.func55,Tryz.ntmps55
 go_wp2_with fail
 refine (qiM F p HF.out a c xs w h1 hm).mono ?_
 rintro e w' ⟨rfl,n,rfl⟩
 generalize idxOf p xs=r at *
 go_wp2_with fail
 go_ret
 refine ⟨?_,n,rfl⟩
 rw [← HA.out]
 simp
def qna (xs:List Int) (w:World) (e:Ending) (w':World):Prop := ∃ a c,e=.returned (.slice a xs.length c)∧qar w' w.heap.size (.slice a xs.length c) xs∧Below w.heap.size w w'
theorem qgn (w:World) (t:TypeId) (size:Nat) (B:Nat) (hB:B≤w.heap.size):(w.alloc (.cells #[] t)).ownsRow B t size (.slice (some ⟨w.heap.size,0,none⟩) 0 0) 0 [] :=
 World.ownsRow_made w #[] 0 hB (Nat.zero_le _) (by simp)
theorem qa0 {w w1 w2:World} (h:Below w.heap.size w w1) {v:Value} (hg:w1.grownBy w2 v.ownBlock) (ho : ∀ k,v.ownBlock=some k→w.heap.size≤k):Below w.heap.size w w2 :=
 h.grown hg h.size ho
theorem qeu (a:Option Addr) (c:Nat) (xs:List Int) (w:World) (h1:qal w a xs) (hn:a=none→c=0) (hm:xs.length * 8≤140737488355328):Calls Tryz.prog 56 #[.slice a xs.length c] w (qna xs w):=by
 have kn:=fun (w:World) (x:Option Addr) (n c:Nat)=>Lib.run_eql_slice_nil (P:=Tryz.prog) w 22 3 x n c 0 0 Tryz.underlying22
 cases a with
 | none =>
  obtain rfl:c=0:=hn rfl
  have hx:xs=[]:=by
   cases xs with
   | nil=>rfl
   | cons x r=>obtain ⟨b,o,h,_⟩:=h1 0 (by simp);cases h
  subst hx
  go_enter Tryz.func56,Tryz.ntmps56
  go_wp2_with fail
  go_ret
  exact ⟨_,_,rfl,qar.nil _ _,Below.refl _ _⟩
 | some ad =>
  obtain ⟨i0,hi,hz0,hz1,hz2⟩:=info_parts qcD
  have HI:=zH h1
  clear h1
  go_enter Tryz.func56,Tryz.ntmps56
  go_wp2_with (at_builtin;refine wpList_append_own _ rfl _ _ 22 rfl w.heap.size 3 i0 (.int .i64 0) 1 8 Tryz.underlying22 hi hz0 hz1 hz2 rfl (by decide) _ 0 [] rfl (qgn w 3 1 _ (Nat.le_refl _)) ad xs.length c (intVals xs) rfl (qiP xs) ?c1 (qiQ xs) ?c2 ?c3 ?c4 ?_)
  case c1 =>
   intro j u hu
   obtain ⟨hj,rfl⟩:=qiO xs j u hu
   obtain ⟨b,off,ha,hcell⟩:=HI.out j hj
   obtain rfl:ad=⟨b,off,none⟩:=by simpa using ha
   have hlt:=World.block_lt_of_cell? w _ hcell
   rw [qaP,World.cell?_alloc_lt _ _ _ hlt]
   exact hcell
  case c2=>simp only [maxLen];omega
  case c3=>omega
  case c4=>simp
  intro v' w' hown hg _
  go_wp2_with fail
  go_ret
  have hnew:=qar.of_own hown
  obtain ⟨a',c',rfl,_⟩:=hnew
  exact ⟨a',c',rfl,qar.of_own hown,qa0 (qac (Below.refl _ _) _) hg (fun k hk=>by simp [Value.ownBlock] at hk;omega)⟩
end
section
open Go.RowKit
structure OpR where
 byte:Int
 addr:Int
 mode:Bool
 dummy:Int
 data:Int
 inn:Bool
 deriving DecidableEq
def OpR.cells (r:OpR):Array Value := #[.int .i64 r.byte,.int .i64 r.addr,.bool r.mode,.int .i64 r.dummy,.int .i64 r.data,.bool r.inn]
def OpR.zero:OpR:=⟨0,0,false,0,0,false⟩
def qcj (b:Int):Option OpR :=
 if b=1 then some ⟨1,0,false,0,1,true⟩ else
 if b=2 then some ⟨2,1,false,0,1,true⟩ else
 if b=3 then some ⟨3,1,false,0,1,false⟩ else
 if b=4 then some ⟨4,0,false,0,0,false⟩ else
 if b=5 then some ⟨5,0,false,0,1,false⟩ else
 if b=6 then some ⟨6,0,false,0,0,false⟩ else
 if b=32 then some ⟨32,1,false,0,0,false⟩ else
 if b=53 then some ⟨53,0,false,0,1,false⟩ else
 if b=90 then some ⟨90,1,false,8,1,false⟩ else
 if b=107 then some ⟨107,1,false,8,4,false⟩ else
 if b=117 then some ⟨117,0,false,0,0,false⟩ else
 if b=122 then some ⟨122,0,false,0,0,false⟩ else
 if b=159 then some ⟨159,0,false,0,1,false⟩ else
 if b=235 then some ⟨235,4,true,4,4,false⟩ else none
def opRow (b:Int):OpR:=(qcj b).getD OpR.zero
def opErr (b:Int):Int:=if (qcj b).isSome then 0 else 400
def opBytes:List Int:=[1,2,3,4,5,6,32,53,90,107,117,122,159,235]
theorem qfa (b:Int) (h : ∀ k ∈ opBytes,b≠k):qcj b=none:=by
 simp only [opBytes,List.mem_cons,List.not_mem_nil,or_false,forall_eq_or_imp,forall_eq,ne_eq] at h
 obtain ⟨h1,h2,h3,h4,h5,h6,h7,h8,h9,h10,h11,h12,h13,h14⟩:=h
 simp only [qcj,h1,h2,h3,h4,h5,h6,h7,h8,h9,h10,h11,h12,h13,h14,if_false]
def qa6 (b:Int) (w:World) (e:Ending) (w':World):Prop :=
 e=.returned (.tuple #[.agg (opRow b).cells,.int .i64 (opErr b)])∧Below w.heap.size w w'
theorem qxe (w:World):Calls Tryz.prog 180 #[.int .i64 1] w (qa6 1 w):=by
 have hfin:qa6 1 w=fun e w'=>e=.returned (.tuple #[.agg (opRow 1).cells,.int .i64 0])∧Below w.heap.size w w':=rfl
 rw [hfin];clear hfin
 go_enter Tryz.func180,Tryz.ntmps180
 go_wp2
 exact bodyPost_ret (v:=.tuple #[.agg (opRow 1).cells,.int .i64 0]) (by simp [results,Tryz.results180,go_sem,opRow,qcj,OpR.cells]) rfl ⟨rfl,((Below.refl _ _).alloc (Nat.le_refl _) _).alloc (by simp) _⟩
theorem qxf (w:World):Calls Tryz.prog 180 #[.int .i64 2] w (qa6 2 w):=by
 have hfin:qa6 2 w=fun e w'=>e=.returned (.tuple #[.agg (opRow 2).cells,.int .i64 0])∧Below w.heap.size w w':=rfl
 rw [hfin];clear hfin
 go_enter Tryz.func180,Tryz.ntmps180
 go_wp2
 exact bodyPost_ret (v:=.tuple #[.agg (opRow 2).cells,.int .i64 0]) (by simp [results,Tryz.results180,go_sem,opRow,qcj,OpR.cells]) rfl ⟨rfl,((Below.refl _ _).alloc (Nat.le_refl _) _).alloc (by simp) _⟩
theorem qxg (w:World):Calls Tryz.prog 180 #[.int .i64 3] w (qa6 3 w):=by
 have hfin:qa6 3 w=fun e w'=>e=.returned (.tuple #[.agg (opRow 3).cells,.int .i64 0])∧Below w.heap.size w w':=rfl
 rw [hfin];clear hfin
 go_enter Tryz.func180,Tryz.ntmps180
 go_wp2
 exact bodyPost_ret (v:=.tuple #[.agg (opRow 3).cells,.int .i64 0]) (by simp [results,Tryz.results180,go_sem,opRow,qcj,OpR.cells]) rfl ⟨rfl,((Below.refl _ _).alloc (Nat.le_refl _) _).alloc (by simp) _⟩
theorem qxh (w:World):Calls Tryz.prog 180 #[.int .i64 4] w (qa6 4 w):=by
 have hfin:qa6 4 w=fun e w'=>e=.returned (.tuple #[.agg (opRow 4).cells,.int .i64 0])∧Below w.heap.size w w':=rfl
 rw [hfin];clear hfin
 go_enter Tryz.func180,Tryz.ntmps180
 go_wp2
 exact bodyPost_ret (v:=.tuple #[.agg (opRow 4).cells,.int .i64 0]) (by simp [results,Tryz.results180,go_sem,opRow,qcj,OpR.cells]) rfl ⟨rfl,((Below.refl _ _).alloc (Nat.le_refl _) _).alloc (by simp) _⟩
theorem qxi (w:World):Calls Tryz.prog 180 #[.int .i64 5] w (qa6 5 w):=by
 have hfin:qa6 5 w=fun e w'=>e=.returned (.tuple #[.agg (opRow 5).cells,.int .i64 0])∧Below w.heap.size w w':=rfl
 rw [hfin];clear hfin
 go_enter Tryz.func180,Tryz.ntmps180
 go_wp2
 exact bodyPost_ret (v:=.tuple #[.agg (opRow 5).cells,.int .i64 0]) (by simp [results,Tryz.results180,go_sem,opRow,qcj,OpR.cells]) rfl ⟨rfl,((Below.refl _ _).alloc (Nat.le_refl _) _).alloc (by simp) _⟩
theorem qxj (w:World):Calls Tryz.prog 180 #[.int .i64 6] w (qa6 6 w):=by
 have hfin:qa6 6 w=fun e w'=>e=.returned (.tuple #[.agg (opRow 6).cells,.int .i64 0])∧Below w.heap.size w w':=rfl
 rw [hfin];clear hfin
 go_enter Tryz.func180,Tryz.ntmps180
 go_wp2
 exact bodyPost_ret (v:=.tuple #[.agg (opRow 6).cells,.int .i64 0]) (by simp [results,Tryz.results180,go_sem,opRow,qcj,OpR.cells]) rfl ⟨rfl,((Below.refl _ _).alloc (Nat.le_refl _) _).alloc (by simp) _⟩
theorem qwW (w:World):Calls Tryz.prog 180 #[.int .i64 32] w (qa6 32 w):=by
 have hfin:qa6 32 w=fun e w'=>e=.returned (.tuple #[.agg (opRow 32).cells,.int .i64 0])∧Below w.heap.size w w':=rfl
 rw [hfin];clear hfin
 go_enter Tryz.func180,Tryz.ntmps180
 go_wp2
 exact bodyPost_ret (v:=.tuple #[.agg (opRow 32).cells,.int .i64 0]) (by simp [results,Tryz.results180,go_sem,opRow,qcj,OpR.cells]) rfl ⟨rfl,((Below.refl _ _).alloc (Nat.le_refl _) _).alloc (by simp) _⟩
theorem qwX (w:World):Calls Tryz.prog 180 #[.int .i64 53] w (qa6 53 w):=by
 have hfin:qa6 53 w=fun e w'=>e=.returned (.tuple #[.agg (opRow 53).cells,.int .i64 0])∧Below w.heap.size w w':=rfl
 rw [hfin];clear hfin
 go_enter Tryz.func180,Tryz.ntmps180
 go_wp2
 exact bodyPost_ret (v:=.tuple #[.agg (opRow 53).cells,.int .i64 0]) (by simp [results,Tryz.results180,go_sem,opRow,qcj,OpR.cells]) rfl ⟨rfl,((Below.refl _ _).alloc (Nat.le_refl _) _).alloc (by simp) _⟩
theorem qwY (w:World):Calls Tryz.prog 180 #[.int .i64 90] w (qa6 90 w):=by
 have hfin:qa6 90 w=fun e w'=>e=.returned (.tuple #[.agg (opRow 90).cells,.int .i64 0])∧Below w.heap.size w w':=rfl
 rw [hfin];clear hfin
 go_enter Tryz.func180,Tryz.ntmps180
 go_wp2
 exact bodyPost_ret (v:=.tuple #[.agg (opRow 90).cells,.int .i64 0]) (by simp [results,Tryz.results180,go_sem,opRow,qcj,OpR.cells]) rfl ⟨rfl,((Below.refl _ _).alloc (Nat.le_refl _) _).alloc (by simp) _⟩
theorem qwi (w:World):Calls Tryz.prog 180 #[.int .i64 107] w (qa6 107 w):=by
 have hfin:qa6 107 w=fun e w'=>e=.returned (.tuple #[.agg (opRow 107).cells,.int .i64 0])∧Below w.heap.size w w':=rfl
 rw [hfin];clear hfin
 go_enter Tryz.func180,Tryz.ntmps180
 go_wp2
 exact bodyPost_ret (v:=.tuple #[.agg (opRow 107).cells,.int .i64 0]) (by simp [results,Tryz.results180,go_sem,opRow,qcj,OpR.cells]) rfl ⟨rfl,((Below.refl _ _).alloc (Nat.le_refl _) _).alloc (by simp) _⟩
theorem qwj (w:World):Calls Tryz.prog 180 #[.int .i64 117] w (qa6 117 w):=by
 have hfin:qa6 117 w=fun e w'=>e=.returned (.tuple #[.agg (opRow 117).cells,.int .i64 0])∧Below w.heap.size w w':=rfl
 rw [hfin];clear hfin
 go_enter Tryz.func180,Tryz.ntmps180
 go_wp2
 exact bodyPost_ret (v:=.tuple #[.agg (opRow 117).cells,.int .i64 0]) (by simp [results,Tryz.results180,go_sem,opRow,qcj,OpR.cells]) rfl ⟨rfl,((Below.refl _ _).alloc (Nat.le_refl _) _).alloc (by simp) _⟩
theorem qwk (w:World):Calls Tryz.prog 180 #[.int .i64 122] w (qa6 122 w):=by
 have hfin:qa6 122 w=fun e w'=>e=.returned (.tuple #[.agg (opRow 122).cells,.int .i64 0])∧Below w.heap.size w w':=rfl
 rw [hfin];clear hfin
 go_enter Tryz.func180,Tryz.ntmps180
 go_wp2
 exact bodyPost_ret (v:=.tuple #[.agg (opRow 122).cells,.int .i64 0]) (by simp [results,Tryz.results180,go_sem,opRow,qcj,OpR.cells]) rfl ⟨rfl,((Below.refl _ _).alloc (Nat.le_refl _) _).alloc (by simp) _⟩
theorem qwl (w:World):Calls Tryz.prog 180 #[.int .i64 159] w (qa6 159 w):=by
 have hfin:qa6 159 w=fun e w'=>e=.returned (.tuple #[.agg (opRow 159).cells,.int .i64 0])∧Below w.heap.size w w':=rfl
 rw [hfin];clear hfin
 go_enter Tryz.func180,Tryz.ntmps180
 go_wp2
 exact bodyPost_ret (v:=.tuple #[.agg (opRow 159).cells,.int .i64 0]) (by simp [results,Tryz.results180,go_sem,opRow,qcj,OpR.cells]) rfl ⟨rfl,((Below.refl _ _).alloc (Nat.le_refl _) _).alloc (by simp) _⟩
theorem qwm (w:World):Calls Tryz.prog 180 #[.int .i64 235] w (qa6 235 w):=by
 have hfin:qa6 235 w=fun e w'=>e=.returned (.tuple #[.agg (opRow 235).cells,.int .i64 0])∧Below w.heap.size w w':=rfl
 rw [hfin];clear hfin
 go_enter Tryz.func180,Tryz.ntmps180
 go_wp2
 exact bodyPost_ret (v:=.tuple #[.agg (opRow 235).cells,.int .i64 0]) (by simp [results,Tryz.results180,go_sem,opRow,qcj,OpR.cells]) rfl ⟨rfl,((Below.refl _ _).alloc (Nat.le_refl _) _).alloc (by simp) _⟩
theorem qvC (b:Int) (w:World) (h : ∀ k ∈ opBytes,b≠k):Calls Tryz.prog 180 #[.int .i64 b] w (qa6 b w):=by
 have hn:=qfa b h
 have hr:opRow b=OpR.zero:=by simp [opRow,hn]
 have he:opErr b=400:=by simp [opErr,hn]
 have hfin:qa6 b w=fun e w'=>e=.returned (.tuple #[.agg OpR.zero.cells,.int .i64 400])∧Below w.heap.size w w':=by
  funext e w';simp only [qa6,hr,he]
 rw [hfin]
 clear hfin hr he hn
 simp only [opBytes,List.mem_cons,List.not_mem_nil,or_false,forall_eq_or_imp,forall_eq,ne_eq] at h
 obtain ⟨h1,h2,h3,h4,h5,h6,h7,h8,h9,h10,h11,h12,h13,h14⟩:=h
 have g1:(b == 1)=false:=beq_eq_false_iff_ne.2 h1
 have g2:(b == 2)=false:=beq_eq_false_iff_ne.2 h2
 have g3:(b == 3)=false:=beq_eq_false_iff_ne.2 h3
 have g4:(b == 4)=false:=beq_eq_false_iff_ne.2 h4
 have g5:(b == 5)=false:=beq_eq_false_iff_ne.2 h5
 have g6:(b == 6)=false:=beq_eq_false_iff_ne.2 h6
 have g7:(b == 32)=false:=beq_eq_false_iff_ne.2 h7
 have g8:(b == 53)=false:=beq_eq_false_iff_ne.2 h8
 have g9:(b == 90)=false:=beq_eq_false_iff_ne.2 h9
 have g10:(b == 107)=false:=beq_eq_false_iff_ne.2 h10
 have g11:(b == 117)=false:=beq_eq_false_iff_ne.2 h11
 have g12:(b == 122)=false:=beq_eq_false_iff_ne.2 h12
 have g13:(b == 159)=false:=beq_eq_false_iff_ne.2 h13
 have g14:(b == 235)=false:=beq_eq_false_iff_ne.2 h14
 clear h1 h2 h3 h4 h5 h6 h7 h8 h9 h10 h11 h12 h13 h14
 go_enter Tryz.func180,Tryz.ntmps180
 go_wp2
 exact bodyPost_ret (v:=.tuple #[.agg OpR.zero.cells,.int .i64 400]) (by simp [results,Tryz.results180,go_sem,OpR.zero,OpR.cells]) rfl ⟨rfl,((Below.refl _ _).alloc (Nat.le_refl _) _).alloc (by simp) _⟩
theorem qhJ (b:Int) (w:World):Calls Tryz.prog 180 #[.int .i64 b] w (qa6 b w):=by
 by_cases h : ∀ k ∈ opBytes,b≠k
 ·
  exact qvC b w h
 ·
  simp only [opBytes,List.mem_cons,List.not_mem_nil,or_false,forall_eq_or_imp,forall_eq,ne_eq] at h
  by_cases h1:b=1;· subst h1;exact qxe w
  by_cases h2:b=2;· subst h2;exact qxf w
  by_cases h3:b=3;· subst h3;exact qxg w
  by_cases h4:b=4;· subst h4;exact qxh w
  by_cases h5:b=5;· subst h5;exact qxi w
  by_cases h6:b=6;· subst h6;exact qxj w
  by_cases h7:b=32;· subst h7;exact qwW w
  by_cases h8:b=53;· subst h8;exact qwX w
  by_cases h9:b=90;· subst h9;exact qwY w
  by_cases h10:b=107;· subst h10;exact qwi w
  by_cases h11:b=117;· subst h11;exact qwj w
  by_cases h12:b=122;· subst h12;exact qwk w
  by_cases h13:b=159;· subst h13;exact qwl w
  by_cases h14:b=235;· subst h14;exact qwm w
  exact absurd ⟨h1,h2,h3,h4,h5,h6,h7,h8,h9,h10,h11,h12,h13,h14⟩ h
end
section
open Go.RowKit
def isByte (b:Int):Bool:=decide (0≤b)&&decide (b<256)
theorem qe1 (b:Int) (w:World):Calls Tryz.prog 182 #[.int .i64 b] w fun e w'=>e=.returned (.bool (isByte b))∧w=w':=by
 by_cases h:0≤b
 ·
  have e:isByte b=decide (b<256):=by unfold isByte;rw [decide_eq_true h];simp
  rw [e];clear e
  go_enter Tryz.func182,Tryz.ntmps182
  go_wp2
  go_ret
  exact ⟨rfl,rfl⟩
 ·
  have e:isByte b=false:=by unfold isByte;rw [decide_eq_false h];simp
  rw [e];clear e
  go_enter Tryz.func182,Tryz.ntmps182
  go_wp2
  go_ret
  exact ⟨rfl,rfl⟩
theorem qlJ:Tells 181 (fun b => !isByte b) where
 calls b w:=by
  go_enter Tryz.func181,Tryz.ntmps181
  go_wp2_with (go_at_call 182;refine (qe1 _ _).mono ?_;rintro e w' ⟨rfl,rfl⟩)
  go_ret
  exact ⟨rfl,rfl⟩
 run args w:=by go_simp
theorem qhf (xs:List Int):xs.any (fun b => !isByte b) = !xs.all isByte:=by
 induction xs with
 | nil=>rfl
 | cons x r ih=>simp [ih,Bool.not_and]
def qfj (r:OpR) (data read:Int):Bool :=
 if r.data=0 then decide (data=0)&&decide (read=0) else if r.inn then decide (read=0) else if r.mode then decide (data=1) else decide (data=0)
def qfY (w:World) (b:Nat) (r:OpR):Prop := ∃ t f,w.heap[b]? = some (.cells r.cells t f)
theorem qfY.cell {w:World} {b:Nat} {r:OpR} (h:qfY w b r):w.cell? ⟨b,0,none⟩=some (.int .i64 r.byte)∧w.cell? ⟨b,1,none⟩=some (.int .i64 r.addr)∧w.cell? ⟨b,2,none⟩=some (.bool r.mode)∧w.cell? ⟨b,3,none⟩=some (.int .i64 r.dummy)∧w.cell? ⟨b,4,none⟩=some (.int .i64 r.data)∧w.cell? ⟨b,5,none⟩=some (.bool r.inn):=by
 obtain ⟨t,f,h⟩:=h
 exact ⟨qaa h 0,qaa h 1,qaa h 2,qaa h 3,qaa h 4,qaa h 5⟩
theorem qfY.later {w w':World} {b:Nat} {r:OpR} (h:qfY w b r) (hb:Below w.heap.size w w'):qfY w' b r:=by
 obtain ⟨t,f,h⟩:=h
 exact ⟨t,f,qab hb h⟩
theorem qkf (b:Nat) (r:OpR) (data read:Int) (w:World) (h:qfY w b r):Calls Tryz.prog 183 #[.pointer (some ⟨b,0,none⟩),.int .i64 data,.int .i64 read] w fun e w'=>e=.returned (.bool (qfj r data read))∧w=w':=by
 obtain ⟨_,_,c2,_,c4,c5⟩:=h.cell
 clear h
 by_cases h1:r.data=0
 ·
  have e:qfj r data read=(decide (data=0)&&decide (read=0)):=by simp [qfj,h1]
  rw [e];clear e
  rw [h1] at c4
  by_cases h2:data=0
  ·
   subst h2
   go_enter Tryz.func183,Tryz.ntmps183
   go_wp2
   go_ret
   exact ⟨by simp;rfl,rfl⟩
  ·
   have g2:(data == 0)=false:=beq_eq_false_iff_ne.2 h2
   have e2:decide (data=0)=false:=by simp [h2]
   rw [e2]
   clear h2 e2
   go_enter Tryz.func183,Tryz.ntmps183
   go_wp2
   go_ret
   exact ⟨by simp,rfl⟩
 ·
  have g1:(r.data == 0)=false:=beq_eq_false_iff_ne.2 h1
  cases h2:r.inn with
  | true =>
   have e:qfj r data read=decide (read=0):=by simp [qfj,h1,h2]
   rw [e];clear e h1
   rw [h2] at c5
   go_enter Tryz.func183,Tryz.ntmps183
   go_wp2
   go_ret
   exact ⟨by simp;rfl,rfl⟩
  | false =>
   rw [h2] at c5
   cases h3:r.mode with
   | true =>
    have e:qfj r data read=decide (data=1):=by simp [qfj,h1,h2,h3]
    rw [e];clear e h1
    rw [h3] at c2
    go_enter Tryz.func183,Tryz.ntmps183
    go_wp2
    go_ret
    exact ⟨by simp;rfl,rfl⟩
   | false =>
    have e:qfj r data read=decide (data=0):=by simp [qfj,h1,h2,h3]
    rw [e];clear e h1
    rw [h3] at c2
    go_enter Tryz.func183,Tryz.ntmps183
    go_wp2
    go_ret
    exact ⟨by simp;rfl,rfl⟩
def qfW (b:Int) (w:World) (e:Ending) (w':World):Prop :=
 e=.returned (.tuple #[.agg (opRow b).cells,.int .i64 (if opErr b=0 then 0 else 900)])∧Below w.heap.size w w'
theorem qqo (b:Int) (h:opErr b≠0):opRow b=OpR.zero:=by
 unfold opErr at h;unfold opRow
 cases ho:qcj b with
 | none=>rfl
 | some r=>simp [ho] at h
theorem qe5 (b:Int) (w:World):Calls Tryz.prog 154 #[.int .i64 b] w (qfW b w):=by
 by_cases h:opErr b=0
 ·
  have hfin:qfW b w=fun e w'=>e=.returned (.tuple #[.agg (opRow b).cells,.int .i64 0])∧Below w.heap.size w w':=by
   funext e w';simp only [qfW,h,if_true]
  rw [hfin];clear hfin
  go_enter Tryz.func154,Tryz.ntmps154
  go_wp2_with fail
  refine (qhJ b _).mono ?_
  rintro e w1 ⟨rfl,hb1⟩
  rw [h]
  clear h
  have hz1:w.heap.size<w1.heap.size:=by have:=hb1.size;simp at this;omega
  have ho:w1.heap[w.heap.size]? = some (.cells OpR.zero.cells 125):=qab hb1 (qad _ _)
  have c0:w1.cell? ⟨w.heap.size,0,none⟩=some (.int .i64 0):=qaa ho 0
  have c1:w1.cell? ⟨w.heap.size,1,none⟩=some (.int .i64 0):=qaa ho 1
  have c2:w1.cell? ⟨w.heap.size,2,none⟩=some (.bool false):=qaa ho 2
  have c3:w1.cell? ⟨w.heap.size,3,none⟩=some (.int .i64 0):=qaa ho 3
  have c4:w1.cell? ⟨w.heap.size,4,none⟩=some (.int .i64 0):=qaa ho 4
  have c5:w1.cell? ⟨w.heap.size,5,none⟩=some (.bool false):=qaa ho 5
  have f0:=fun i=>qah ho i
  clear ho
  rw [show (opRow b).cells = #[.int .i64 (opRow b).byte,.int .i64 (opRow b).addr,.bool (opRow b).mode,.int .i64 (opRow b).dummy,.int .i64 (opRow b).data,.bool (opRow b).inn] from rfl]
  go_wp2_with fail
  refine bodyPost_ret (v:=.tuple #[.agg (opRow b).cells,.int .i64 0]) (by simp [results,Tryz.results154,go_sem,c0,c1,c2,c3,c4,c5,hz1,OpR.cells]) rfl ⟨rfl,?_⟩
  repeat (first | with_reducible exact Below.refl _ _ | with_reducible refine gset ?_ (by simp) _ | with_reducible refine qac ?_ _ | with_reducible refine gtr ?_ hb1)
 ·
  have hfin:qfW b w=fun e w'=>e=.returned (.tuple #[.agg OpR.zero.cells,.int .i64 900])∧Below w.heap.size w w':=by
   funext e w';simp only [qfW,h,if_false,qqo b h]
  rw [hfin];clear hfin
  go_enter Tryz.func154,Tryz.ntmps154
  go_wp2_with fail
  refine (qhJ b _).mono ?_
  rintro e w1 ⟨rfl,hb1⟩
  have he:(opErr b != 0)=true:=bne_iff_ne.2 h
  clear h
  have hz1:w.heap.size<w1.heap.size:=by have:=hb1.size;simp at this;omega
  have ho:w1.heap[w.heap.size]? = some (.cells OpR.zero.cells 125):=qab hb1 (qad _ _)
  have c0:w1.cell? ⟨w.heap.size,0,none⟩=some (.int .i64 0):=qaa ho 0
  have c1:w1.cell? ⟨w.heap.size,1,none⟩=some (.int .i64 0):=qaa ho 1
  have c2:w1.cell? ⟨w.heap.size,2,none⟩=some (.bool false):=qaa ho 2
  have c3:w1.cell? ⟨w.heap.size,3,none⟩=some (.int .i64 0):=qaa ho 3
  have c4:w1.cell? ⟨w.heap.size,4,none⟩=some (.int .i64 0):=qaa ho 4
  have c5:w1.cell? ⟨w.heap.size,5,none⟩=some (.bool false):=qaa ho 5
  have f0:=fun i=>qah ho i
  clear ho
  rw [show (opRow b).cells = #[.int .i64 (opRow b).byte,.int .i64 (opRow b).addr,.bool (opRow b).mode,.int .i64 (opRow b).dummy,.int .i64 (opRow b).data,.bool (opRow b).inn] from rfl]
  go_wp2_with fail
  refine bodyPost_ret (v:=.tuple #[.agg OpR.zero.cells,.int .i64 900]) (by simp [results,Tryz.results154,go_sem,c0,c1,c2,c3,c4,c5,hz1,OpR.cells,OpR.zero]) rfl ⟨rfl,?_⟩
  repeat (first | with_reducible exact Below.refl _ _ | with_reducible refine gset ?_ (by simp) _ | with_reducible refine qac ?_ _ | with_reducible refine gtr ?_ hb1)
end
section
open Go.RowKit
theorem qaT {n:Int} (h : -9223372036854775808≤n) (h':n≤9223372036854775807):IntKind.i64.wrap n=n:=by
 rw [IntKind.wrap_i64];omega
theorem qeo (x:Int) (j:Nat) (hj:j≤62):bits .and .i64 x ((2 ^ j - 1:Nat):Int)=x % (2 ^ j:Nat):=by
 have hp:(2:Nat) ^ j≤2 ^ 62:=Nat.pow_le_pow_right (by omega) hj
 have hp0:0<(2:Nat) ^ j:=Nat.pow_pos (by omega)
 have e:(BitVec.ofInt 64 x &&& BitVec.ofInt 64 ((2 ^ j - 1:Nat):Int)).toNat=(x % (2 ^ j:Nat)).toNat:=by
  rw [BitVec.toNat_and,BitVec.toNat_ofInt,BitVec.toNat_ofInt]
  have e1:(((2 ^ j - 1:Nat):Int) % ((2 ^ 64:Nat):Int)).toNat=2 ^ j - 1:=by
   rw [Int.emod_eq_of_lt (by omega) (by have:(2:Nat)^62<2^64:=(by decide);omega)]
   simp
  rw [e1,Nat.and_two_pow_sub_one_eq_mod]
  have h0:0≤x % ((2 ^ 64:Nat):Int):=Int.emod_nonneg _ (by decide)
  have hdvd:((2 ^ j:Nat):Int) ∣ ((2 ^ 64:Nat):Int):=by
   refine Int.natCast_dvd_natCast.2 (Nat.pow_dvd_pow 2 (by omega))
  have e2:x % ((2 ^ j:Nat):Int)=(x % ((2 ^ 64:Nat):Int)) % ((2 ^ j:Nat):Int):=(Int.emod_emod_of_dvd x hdvd).symm
  rw [e2]
  generalize hy:x % ((2 ^ 64:Nat):Int)=y at *
  obtain ⟨k,rfl⟩:=Int.eq_ofNat_of_zero_le h0
  rw [← Int.natCast_emod,Int.toNat_natCast,Int.toNat_natCast]
 have hr0:0≤x % ((2 ^ j:Nat):Int):=Int.emod_nonneg _ (by omega)
 have hr1:x % ((2 ^ j:Nat):Int)<((2 ^ j:Nat):Int):=Int.emod_lt_of_pos _ (by omega)
 show IntKind.i64.wrap ((BitVec.ofInt 64 x &&& BitVec.ofInt 64 ((2 ^ j - 1:Nat):Int)).toNat:Int)=_
 rw [e,Int.toNat_of_nonneg hr0]
 have:(2:Nat) ^ 62=4611686018427387904:=by decide
 exact qaT (by omega) (by omega)
theorem and1 (x:Int):bits .and .i64 x 1=x % 2:=qeo x 1 (by omega)
theorem quZ (x:Int):bits .and .i64 x 15=x % 16:=qeo x 4 (by omega)
theorem quE (x:Int):bits .and .i64 x 255=x % 256:=qeo x 8 (by omega)
end
end Go.Proofs.YtcfdenckiigdaaaGreat

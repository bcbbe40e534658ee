/- Part 0 of the contracts. -/
import Derived.BigQuiet
import Derived.Deep.AppendLies
import Derived.Deep.DeepCutAuto
import Derived.Deep.RegionHeld3
import Derived.Laws.AppendOwnNone
import Derived.Lib.Hide
import Derived.ProofKit
import Derived.Test.YtcfdenckiigdaaaGreatChecked
import Derived.WalkSpells
set_option linter.unusedVariables false
set_option maxRecDepth 100000
set_option maxHeartbeats 4000000
namespace Go.Proofs.YtcfdenckiigdaaaGreat
section
open Go.RowKit
theorem zS {α:Type _} {l:List α} {i:Nat} {a:α}:l.toArray.setIfInBounds i a=(l.set i a).toArray:=List.setIfInBounds_toArray ..
theorem zT {α:Type _} {xs:List α} {a b:α}:(a::xs).set 0 b=b::xs:=rfl
theorem zU {α:Type _} {xs:List α} {a b:α} {n:Nat}:(a::xs).set (n+1) b=a::xs.set n b:=rfl
theorem zH {p:Prop} (h:p):RowKit.Hid p:=h
theorem zA {a b:Prop} (h:a) (k:b):a∧b:=⟨h,k⟩
theorem tk {P:Program} {ops:Array Oper} {Q:Exit→Act→World→Prop} {md:Region.Mode} {S:World→Prop} (i:Nat) {oi:Oper} {v:Value} {fuel:Nat} {listed:Array Bool} {a a':Act} {w:World} (h:wpAnyH P md ops Q S fuel (listed.setIfInBounds i true) a' w) (hi:ops[i]? = some oi:=by (simp only [List.getElem?_toArray,List.getElem?_cons_succ,List.getElem?_cons_zero];rfl)) (hs:Region.noSelect ops=true:=by kernel_rfl) (hf:Region.free md ops listed i=true:=by kernel_rfl) (hr:(Region.ready md ops listed).contains i=true:=by kernel_rfl) (hw:Region.wanted oi (yielded ops a.tmps)=true:=by rfl) (hy : ∀ w,S w→(execOp a.eval oi).run P w=.ok (.value v) w:=by (intro w hSw;(try dsimp only at hSw);go_simp;try with_reducible rfl)) (ha:a.put oi.dst v=a':=by (simp only [Act.put,zS,zT,zU];rfl)) (hQ : ∀ c a w,Q (.panic c) (a.put oi.dst v) w→Q (.panic c) a w:=by exact fun _ _ _ h=>h) (hS:S w:=by assumption):wpAnyH P md ops Q S (fuel+1) listed a w:=by
 subst ha
 exact wpAnyH_take hi hs hf hr hQ (.inl ⟨hw,hy⟩) hS h
theorem tr {P:Program} {ops:Array Oper} {Q:Exit→Act→World→Prop} {md:Region.Mode} {S:World→Prop} (i:Nat) {o:Oper} {fuel:Nat} {listed:Array Bool} {a:Act} {w:World} (h : ∀ K':Act→World→Prop,Shut (∀ a w,S w→(S w→wpAnyH P md ops Q S fuel (listed.setIfInBounds i true) a w)→K' a w)→if Region.wanted o (yielded ops a.tmps)=true then Oper.wp P o a w K' Q else K' (a.put o.dst undef) w) (ho:ops[i]? = some o:=by (simp only [List.getElem?_toArray,List.getElem?_cons_succ,List.getElem?_cons_zero];rfl)) (hr:Region.ready md ops listed=[i]:=by kernel_rfl):wpAnyH P md ops Q S (fuel+1) listed a w :=
 wpAnyH_ready hr (by simp) (AllReadyH.cons ho h AllReadyH.nil)
end
section
open Go.RowKit
theorem gtr {a b c:World} (h:Below a.heap.size a b) (k:Below b.heap.size b c):Below a.heap.size a c:=h.trans (k.mono h.size)
theorem qac {a b:World} (h:Below a.heap.size a b) (o:Obj):Below a.heap.size a (b.alloc o):=h.alloc h.size o
theorem qai {a b:World} (h:Below a.heap.size a b):Below a.heap.size a b.drew:=h.drew
theorem qao {a b:World} (h:Below a.heap.size a b) (n:Nat):Below a.heap.size a (b.drewN n):=h.trans ⟨rfl,rfl,rfl,Nat.le_refl _,fun _ _=>rfl⟩
theorem gset {a b:World} (h:Below a.heap.size a b) {p:Addr} (hp:a.heap.size≤p.block) (v:Value):Below a.heap.size a (b.setCell p v):=h.setCell hp v
theorem qad (w:World) (o:Obj):(w.alloc o).heap[w.heap.size]? = some o:=by show (w.heap.push o)[w.heap.size]? = _;simp
theorem qaa {w:World} {b:Nat} {c:Array Value} {t:TypeId} {f:Nat×Nat} (h:w.heap[b]? = some (.cells c t f)) (i:Nat):w.cell? ⟨b,i,none⟩=c[i]? := by simp [World.cell?,h]
theorem qah {w:World} {b:Nat} {c:Array Value} {t:TypeId} (h:w.heap[b]? = some (.cells c t (0,0))) (i:Nat):w.frozen? ⟨b,i,none⟩=false:=by simp [World.frozen?,h]
theorem qap {w:World} {b:Nat} {o:Obj} (h:w.heap[b]? = some o):b<w.heap.size:=by
 rcases Nat.lt_or_ge b w.heap.size with h' | h'
 ·
  exact h'
 ·
  simp [Array.getElem?_eq_none h'] at h
theorem qab {w w':World} {b:Nat} {o:Obj} (hb:Below w.heap.size w w') (h:w.heap[b]? = some o):w'.heap[b]? = some o:=(hb.block b (qap h)).trans h
theorem qaO (b o j:Nat):(⟨b,o,none⟩:Addr).add j=⟨b,o+j,none⟩:=by unfold Addr.add;split <;> simp_all
def qko (x:Bool) (w:World) (e:Ending) (w':World):Prop:=e=.returned (.bool x)∧Below w.heap.size w w'
end
section
open Go.RowKit
def qal (w:World) (a:Option Addr) (xs:List Int):Prop :=
 ∀ i,i<xs.length → ∃ b off,a=some ⟨b,off,none⟩∧w.cell? ⟨b,off+i,none⟩=some (.int .i64 (xs.getD i 0))
theorem qal.at {w:World} {a:Option Addr} {xs:List Int} (h:qal w a xs) (hp:0<xs.length) : ∃ b off,a=some ⟨b,off,none⟩ ∧ ∀ i,i<xs.length→w.cell? ⟨b,off+i,none⟩=some (.int .i64 (xs.getD i 0)):=by
 obtain ⟨b,off,ha,_⟩:=h 0 hp
 refine ⟨b,off,ha,fun i hi => ?_⟩
 obtain ⟨b',off',ha',hc⟩:=h i hi
 rw [ha] at ha'
 obtain ⟨rfl,rfl⟩:b=b'∧off=off':=by simpa using ha'
 exact hc
theorem qal.of {w:World} {b off:Nat} {xs:List Int} (h : ∀ i,i<xs.length→w.cell? ⟨b,off+i,none⟩=some (.int .i64 (xs.getD i 0))):qal w (some ⟨b,off,none⟩) xs:=fun i hi=>⟨b,off,rfl,h i hi⟩
theorem qal.nil (w:World) (a:Option Addr):qal w a []:=fun i hi=>by simp at hi
theorem qtK (xs ys:List Int) (hl:xs.length=ys.length) (h : ∀ j,j<xs.length→xs.getD j 0=ys.getD j 0):xs=ys:=by
 refine List.ext_getElem hl fun i h1 h2 => ?_
 have:=h i h1
 simpa [List.getD,List.getElem?_eq_getElem h1,List.getElem?_eq_getElem h2] using this
def qhd (b:Bool) (w:World) (e:Ending) (w':World):Prop:=e=.returned (.bool b) ∧ ∃ n,w'=w.drewN n
theorem qmn (a1 a2:Option Addr) (c1 c2:Nat) (xs ys:List Int) (w:World) (hl:xs.length≠ys.length):Calls Tryz.prog 24 #[.slice a1 xs.length c1,.slice a2 ys.length c2] w (qhd false w):=by
 have g:((xs.length:Int) != (ys.length:Int))=true:=by simp;omega
 clear hl
 go_enter Tryz.func24,Tryz.ntmps24
 go_wp2
 go_ret
 exact ⟨rfl,0,rfl⟩
theorem qjm (a1 a2:Option Addr) (c1 c2:Nat) (xs ys:List Int) (w:World) (h1:qal w a1 xs) (h2:qal w a2 ys) (hm:xs.length≤9223372036854775807):Calls Tryz.prog 24 #[.slice a1 xs.length c1,.slice a2 ys.length c2] w (qhd (decide (xs=ys)) w):=by
 by_cases hl:xs.length=ys.length
 case neg =>
  have e:decide (xs=ys)=false:=by simp;intro h;exact hl (by rw [h])
  rw [e];exact qmn a1 a2 c1 c2 xs ys w hl
 rw [← hl]
 have HL:=zH hl
 clear hl
 go_enter Tryz.func24,Tryz.ntmps24
 go_wp2
 go_loopw [5] (fun i wr => ∃ k n:Nat,k≤xs.length∧i=.int .i64 k∧wr=w.drewN n ∧ ∀ j,j<k→xs.getD j 0=ys.getD j 0) (fun i _=>xs.length - (intOf i).toNat)
 case atStart=>exact ⟨0,0,Nat.zero_le _,rfl,rfl,fun j hj=>by omega⟩
 case round =>
  obtain ⟨k,n,hk,rfl,rfl,hsame⟩:=hrel
  have HS:=zH hsame
  clear hsame
  by_cases hlt:k<xs.length
  ·
   obtain ⟨b1,o1,rfl,g1⟩:=h1.at (by omega)
   obtain ⟨b2,o2,rfl,g2⟩:=h2.at (by rw [← HL.out];omega)
   have q1:=g1 k hlt
   have q2:=g2 k (by rw [← HL.out];omega)
   have hlt':(k:Int)<(xs.length:Int):=by omega
   clear g1 g2 h1 h2
   by_cases he:xs.getD k 0=ys.getD k 0
   ·
    have he':(xs.getD k 0 != ys.getD k 0)=false:=by rw [bne_eq_false_iff_eq];exact he
    have HE:=zH he
    clear he
    generalize hx:xs.getD k 0=x at *
    generalize hy:ys.getD k 0=y at *
    have HX:=zH hx
    have HY:=zH hy
    clear hx hy
    go_wp2_with fail
    go_quiet (fail)
    go_wp2
    go_roundw
    case rel=>exact ⟨k+1,n+nq,by omega,by go_num,by simp,fun j hj=>by
     by_cases hjk:j<k
     ·
      exact HS.out j hjk
     ·
      obtain rfl:j=k:=by omega
      rw [HX.out,HY.out,HE.out]⟩
    case measure=>simp [intOf];omega
   ·
    have he':(xs.getD k 0 != ys.getD k 0)=true:=bne_iff_ne.2 he
    have hf:decide (xs=ys)=false:=by simp;intro h;exact he (by rw [h])
    have HF:=zH hf
    clear hf he
    generalize hx:xs.getD k 0=x at *
    generalize hy:ys.getD k 0=y at *
    clear hx hy
    go_wp2_with fail
    go_quiet (fail)
    go_wp2
    go_ret
    exact ⟨by rw [HF.out];rfl,n+nq,by simp⟩
  ·
   obtain rfl:k=xs.length:=by omega
   have hf:decide (xs=ys)=true:=by simp;exact qtK xs ys HL.out HS.out
   have HF:=zH hf
   clear hf
   go_wp2
   go_ret
   exact ⟨by rw [HF.out];rfl,n,rfl⟩
end
section
open Go.RowKit
theorem qce:(Tryz.prog.info? 3).map (fun i=>(i.zero,i.size,i.bytes))=some (some (.int .i64 0),1,8):=by kernel_rfl
def intVals (xs:List Int):List Value:=xs.map (.int .i64)
theorem qdL (xs:List Int):(intVals xs).length=xs.length * 1:=by simp [intVals]
theorem qdM (xs:List Int) : ∀ u ∈ intVals xs,u.oneCell'=true:=by
 intro u hu;simp only [intVals,List.mem_map] at hu;obtain ⟨x,_,rfl⟩:=hu;rfl
theorem qdK (xs:List Int) (j:Nat) (u:Value) (h:(intVals xs)[j]? = some u):j<xs.length∧u=.int .i64 (xs.getD j 0):=by
 simp only [intVals,List.getElem?_map,Option.map_eq_some_iff] at h
 obtain ⟨x,hx,rfl⟩:=h
 have hj:=(List.getElem?_eq_some_iff.1 hx).1
 exact ⟨hj,by simp [List.getD,hx]⟩
def qaq (w:World) (B:Nat) (v:Value) (xs:List Int):Prop :=
 ∃ a c,v=.slice a xs.length c ∧ ∀ i,i<xs.length → ∃ b off cur,a=some ⟨b,off,none⟩∧B≤b∧w.heap[b]? = some (.cells cur 3 (0,0))∧cur[off+i]? = some (.int .i64 (xs.getD i 0))
theorem qaq.ints {w:World} {B:Nat} {v:Value} {xs:List Int} (h:qaq w B v xs) : ∃ a c,v=.slice a xs.length c∧qal w a xs:=by
 obtain ⟨a,c,hv,hc⟩:=h
 refine ⟨a,c,hv,fun i hi => ?_⟩
 obtain ⟨b,off,cur,ha,_,hb,hx⟩:=hc i hi
 exact ⟨b,off,ha,(qaa hb _).trans hx⟩
theorem qaq.later {w w':World} {B:Nat} {v:Value} {xs:List Int} (h:qaq w B v xs) (hb:Below w.heap.size w w'):qaq w' B v xs:=by
 obtain ⟨a,c,hv,hc⟩:=h
 refine ⟨a,c,hv,fun i hi => ?_⟩
 obtain ⟨b,off,cur,ha,hB,hh,hx⟩:=hc i hi
 exact ⟨b,off,cur,ha,hB,qab hb hh,hx⟩
theorem qaq.mono {w:World} {B B':Nat} {v:Value} {xs:List Int} (h:qaq w B v xs) (hB:B'≤B):qaq w B' v xs:=by
 obtain ⟨a,c,hv,hc⟩:=h
 refine ⟨a,c,hv,fun i hi => ?_⟩
 obtain ⟨b,off,cur,ha,hB',hh,hx⟩:=hc i hi
 exact ⟨b,off,cur,ha,Nat.le_trans hB hB',hh,hx⟩
theorem qaq.nil (w:World) (B:Nat):qaq w B (.slice none 0 0) []:=⟨none,0,rfl,fun i hi=>by simp at hi⟩
theorem qaq.of_own {w:World} {B:Nat} {v:Value} {xs:List Int} (h:w.ownsRow B 3 1 v xs.length (intVals xs)):qaq w B v xs:=by
 rcases h.2 with ⟨rfl,hn⟩ | ⟨g,cap,cur,rfl,hb,hg,hnc,_,hcs,htake⟩
 ·
  refine ⟨none,0,by rw [hn],fun i hi=>by omega⟩
 ·
  refine ⟨some ⟨g,0,none⟩,cap,rfl,fun i hi=>⟨g,0,cur,rfl,hb,hg,?_⟩⟩
  have h1:(intVals xs)[i]? = some (.int .i64 (xs.getD i 0)):=by simp [intVals,List.getD,List.getElem?_eq_getElem hi]
  rw [← htake,List.getElem?_take] at h1
  split at h1
  ·
   simpa using h1
  ·
   cases h1
structure Tells (f:FuncId) (p:Int→Bool):Prop where
 calls : ∀ (x:Int) (w:World),Calls Tryz.prog f #[.int .i64 x] w fun e w'=>e=.returned (.bool (p x))∧w=w'
 run : ∀ (args:Array Value) (w:World),(callFunc f args).run Tryz.prog w=.ok (.enter f args) w
def idxOf (p:Int→Bool) (xs:List Int):Int:=match xs.findIdx? p with | some i=>(i:Int) | none => -1
def qum (x:Int) (w:World) (e:Ending) (w':World):Prop:=e=.returned (.int .i64 x) ∧ ∃ n,w'=w.drewN n
theorem qpv (p:Int→Bool) (xs:List Int) (k:Nat) (hk:k<xs.length) (hn : ∀ j,j<k→p (xs.getD j 0)=false) (h:p (xs.getD k 0)=true):idxOf p xs=k:=by
 have:xs.findIdx? p=some k:=by
  rw [List.findIdx?_eq_some_iff_getElem]
  refine ⟨hk,by simpa [List.getD,List.getElem?_eq_getElem hk] using h,fun j hj => ?_⟩
  have:=hn j hj
  have hj':j<xs.length:=by omega
  simpa [List.getD,List.getElem?_eq_getElem hj'] using this
 simp [idxOf,this]
theorem qpw (p:Int→Bool) (xs:List Int) (hn : ∀ j,j<xs.length→p (xs.getD j 0)=false):idxOf p xs = -1:=by
 have:xs.findIdx? p=none:=by
  rw [List.findIdx?_eq_none_iff]
  intro x hx
  obtain ⟨j,hj,rfl⟩:=List.getElem_of_mem hx
  have:=hn j hj
  simpa [List.getD,List.getElem?_eq_getElem hj] using this
 simp [idxOf,this]
theorem qil (F:FuncId) (p:Int→Bool) (hF:Tells F p) (a:Option Addr) (c:Nat) (xs:List Int) (w:World) (h1:qal w a xs) (hm:xs.length≤9223372036854775807):Calls Tryz.prog 86 #[.slice a xs.length c,.func (.func F) #[] #[]] w (qum (idxOf p xs) w):=by
 have HF:=zH hF
 have hrun:=hF.run
 clear hF
 go_enter Tryz.func86,Tryz.ntmps86
 go_wp2_with fail
 go_loopw [8] (fun i wr => ∃ k n:Nat,k≤xs.length∧i=.int .i64 k∧wr=w.drewN n ∧ ∀ j,j<k→p (xs.getD j 0)=false) (fun i _=>xs.length - (intOf i).toNat)
 case atStart=>exact ⟨0,0,Nat.zero_le _,rfl,rfl,fun j hj=>by omega⟩
 case round =>
  obtain ⟨k,n,hk,rfl,rfl,hsame⟩:=hrel
  have HS:=zH hsame
  clear hsame
  by_cases hlt:k<xs.length
  ·
   obtain ⟨b1,o1,rfl,g1⟩:=h1.at (by omega)
   have q1:=g1 k hlt
   have hlt':(k:Int)<(xs.length:Int):=by omega
   clear g1 h1
   cases hp:p (xs.getD k 0) with
   | true =>
    have HR:=zH (qpv p xs k hlt HS.out hp)
    have HP:=zH hp
    clear hp
    generalize hx:xs.getD k 0=x at *
    clear hx
    go_wp2_with fail
    refine (HF.out.calls x _).mono ?_
    rintro e w' ⟨rfl,rfl⟩
    rw [HP.out]
    go_wp2_with fail
    go_ret
    exact ⟨by rw [HR.out];rfl,n,rfl⟩
   | false =>
    have HN:=zH hp
    have HP:=zH hp
    clear hp
    generalize hx:xs.getD k 0=x at HP q1
    have HX:=zH hx
    clear hx
    go_wp2_with fail
    refine (HF.out.calls x _).mono ?_
    rintro e w' ⟨rfl,rfl⟩
    rw [HP.out]
    go_wp2_with fail
    go_roundw
    case rel=>exact ⟨k+1,n,by omega,by go_num,rfl,fun j hj=>by
     by_cases hjk:j<k
     ·
      exact HS.out j hjk
     ·
      obtain rfl:j=k:=by omega
      exact HN.out⟩
    case measure=>simp [intOf];omega
  ·
   obtain rfl:k=xs.length:=by omega
   have HR:=zH (qpw p xs HS.out)
   go_wp2_with fail
   go_ret
   exact ⟨by rw [HR.out];rfl,n,rfl⟩
theorem qrj (p:Int→Bool) (xs:List Int):decide (0≤idxOf p xs)=xs.any p:=by
 cases h:xs.findIdx? p with
 | none =>
  have:xs.any p=false:=by
   rw [List.findIdx?_eq_none_iff] at h
   simpa [List.any_eq_false] using h
  simp [idxOf,h,this]
 | some i =>
  have:xs.any p=true:=by
   rw [List.findIdx?_eq_some_iff_getElem] at h
   obtain ⟨hi,hp,_⟩:=h
   exact List.any_eq_true.2 ⟨_,List.getElem_mem hi,hp⟩
  simp [idxOf,h,this]
theorem qa8 (F:FuncId) (p:Int→Bool) (hF:Tells F p) (a:Option Addr) (c:Nat) (xs:List Int) (w:World) (h1:qal w a xs) (hm:xs.length≤9223372036854775807):Calls Tryz.prog 55 #[.slice a xs.length c,.func (.func F) #[] #[]] w (qhd (xs.any p) w):=by
 have HA:=zH (qrj p xs)
 have HF:=zH hF
 clear hF
 go_enter Tryz.func55,Tryz.ntmps55
 go_wp2_with fail
 refine (qil F p HF.out a c xs w h1 hm).mono ?_
 rintro e w' ⟨rfl,n,rfl⟩
 generalize idxOf p xs=r at *
 go_wp2_with fail
 go_ret
 refine ⟨?_,n,rfl⟩
 rw [← HA.out]
 simp
def qmH (xs:List Int) (w:World) (e:Ending) (w':World):Prop := ∃ a c,e=.returned (.slice a xs.length c)∧qaq w' w.heap.size (.slice a xs.length c) xs∧Below w.heap.size w w'
theorem qbu (w:World) (t:TypeId) (size:Nat) (B:Nat) (hB:B≤w.heap.size):(w.alloc (.cells #[] t)).ownsRow B t size (.slice (some ⟨w.heap.size,0,none⟩) 0 0) 0 [] :=
 World.ownsRow_made w #[] 0 hB (Nat.zero_le _) (by simp)
theorem qaQ {w w1 w2:World} (h:Below w.heap.size w w1) {v:Value} (hg:w1.grownBy w2 v.ownBlock) (ho : ∀ k,v.ownBlock=some k→w.heap.size≤k):Below w.heap.size w w2 :=
 h.grown hg h.size ho
theorem qeh (a:Option Addr) (c:Nat) (xs:List Int) (w:World) (h1:qal w a xs) (hn:a=none→c=0) (hm:xs.length * 8≤140737488355328):Calls Tryz.prog 56 #[.slice a xs.length c] w (qmH xs w):=by
 have kn:=fun (w:World) (x:Option Addr) (n c:Nat)=>Lib.run_eql_slice_nil (P:=Tryz.prog) w 22 3 x n c 0 0 Tryz.underlying22
 cases a with
 | none =>
  obtain rfl:c=0:=hn rfl
  have hx:xs=[]:=by
   cases xs with
   | nil=>rfl
   | cons x r=>obtain ⟨b,o,h,_⟩:=h1 0 (by simp);cases h
  subst hx
  go_enter Tryz.func56,Tryz.ntmps56
  go_wp2_with fail
  go_ret
  exact ⟨_,_,rfl,qaq.nil _ _,Below.refl _ _⟩
 | some ad =>
  obtain ⟨i0,hi,hz0,hz1,hz2⟩:=info_parts qce
  have HI:=zH h1
  clear h1
  go_enter Tryz.func56,Tryz.ntmps56
  go_wp2_with (at_builtin;refine wpList_append_own _ rfl _ _ 22 rfl w.heap.size 3 i0 (.int .i64 0) 1 8 Tryz.underlying22 hi hz0 hz1 hz2 rfl (by decide) _ 0 [] rfl (qbu w 3 1 _ (Nat.le_refl _)) ad xs.length c (intVals xs) rfl (qdL xs) ?c1 (qdM xs) ?c2 ?c3 ?c4 ?_)
  case c1 =>
   intro j u hu
   obtain ⟨hj,rfl⟩:=qdK xs j u hu
   obtain ⟨b,off,ha,hcell⟩:=HI.out j hj
   obtain rfl:ad=⟨b,off,none⟩:=by simpa using ha
   have hlt:=World.block_lt_of_cell? w _ hcell
   rw [qaO,World.cell?_alloc_lt _ _ _ hlt]
   exact hcell
  case c2=>simp only [maxLen];omega
  case c3=>omega
  case c4=>simp
  intro v' w' hown hg _
  go_wp2_with fail
  go_ret
  have hnew:=qaq.of_own hown
  obtain ⟨a',c',rfl,_⟩:=hnew
  exact ⟨a',c',rfl,qaq.of_own hown,qaQ (qac (Below.refl _ _) _) hg (fun k hk=>by simp [Value.ownBlock] at hk;omega)⟩
end
section
open Go.RowKit
structure OpR where
 byte:Int
 addr:Int
 mode:Bool
 dummy:Int
 data:Int
 inn:Bool
 deriving DecidableEq
def OpR.cells (r:OpR):Array Value := #[.int .i64 r.byte,.int .i64 r.addr,.bool r.mode,.int .i64 r.dummy,.int .i64 r.data,.bool r.inn]
def OpR.zero:OpR:=⟨0,0,false,0,0,false⟩
def qcg (b:Int):Option OpR :=
 if b=1 then some ⟨1,0,false,0,1,true⟩ else
 if b=2 then some ⟨2,1,false,0,1,true⟩ else
 if b=3 then some ⟨3,1,false,0,1,false⟩ else
 if b=4 then some ⟨4,0,false,0,0,false⟩ else
 if b=5 then some ⟨5,0,false,0,1,false⟩ else
 if b=6 then some ⟨6,0,false,0,0,false⟩ else
 if b=32 then some ⟨32,1,false,0,0,false⟩ else
 if b=53 then some ⟨53,0,false,0,1,false⟩ else
 if b=90 then some ⟨90,1,false,8,1,false⟩ else
 if b=107 then some ⟨107,1,false,8,4,false⟩ else
 if b=117 then some ⟨117,0,false,0,0,false⟩ else
 if b=122 then some ⟨122,0,false,0,0,false⟩ else
 if b=159 then some ⟨159,0,false,0,1,false⟩ else
 if b=235 then some ⟨235,4,true,4,4,false⟩ else none
def opRow (b:Int):OpR:=(qcg b).getD OpR.zero
def opErr (b:Int):Int:=if (qcg b).isSome then 0 else 400
def opBytes:List Int:=[1,2,3,4,5,6,32,53,90,107,117,122,159,235]
theorem qeW (b:Int) (h : ∀ k ∈ opBytes,b≠k):qcg b=none:=by
 simp only [opBytes,List.mem_cons,List.not_mem_nil,or_false,forall_eq_or_imp,forall_eq,ne_eq] at h
 obtain ⟨h1,h2,h3,h4,h5,h6,h7,h8,h9,h10,h11,h12,h13,h14⟩:=h
 simp only [qcg,h1,h2,h3,h4,h5,h6,h7,h8,h9,h10,h11,h12,h13,h14,if_false]
def qa0 (b:Int) (w:World) (e:Ending) (w':World):Prop :=
 e=.returned (.tuple #[.agg (opRow b).cells,.int .i64 (opErr b)])∧Below w.heap.size w w'
theorem qwJ (w:World):Calls Tryz.prog 180 #[.int .i64 1] w (qa0 1 w):=by
 have hfin:qa0 1 w=fun e w'=>e=.returned (.tuple #[.agg (opRow 1).cells,.int .i64 0])∧Below w.heap.size w w':=rfl
 rw [hfin];clear hfin
 go_enter Tryz.func180,Tryz.ntmps180
 go_wp2
 exact bodyPost_ret (v:=.tuple #[.agg (opRow 1).cells,.int .i64 0]) (by simp [results,Tryz.results180,go_sem,opRow,qcg,OpR.cells]) rfl ⟨rfl,((Below.refl _ _).alloc (Nat.le_refl _) _).alloc (by simp) _⟩
theorem qwK (w:World):Calls Tryz.prog 180 #[.int .i64 2] w (qa0 2 w):=by
 have hfin:qa0 2 w=fun e w'=>e=.returned (.tuple #[.agg (opRow 2).cells,.int .i64 0])∧Below w.heap.size w w':=rfl
 rw [hfin];clear hfin
 go_enter Tryz.func180,Tryz.ntmps180
 go_wp2
 exact bodyPost_ret (v:=.tuple #[.agg (opRow 2).cells,.int .i64 0]) (by simp [results,Tryz.results180,go_sem,opRow,qcg,OpR.cells]) rfl ⟨rfl,((Below.refl _ _).alloc (Nat.le_refl _) _).alloc (by simp) _⟩
theorem qwL (w:World):Calls Tryz.prog 180 #[.int .i64 3] w (qa0 3 w):=by
 have hfin:qa0 3 w=fun e w'=>e=.returned (.tuple #[.agg (opRow 3).cells,.int .i64 0])∧Below w.heap.size w w':=rfl
 rw [hfin];clear hfin
 go_enter Tryz.func180,Tryz.ntmps180
 go_wp2
 exact bodyPost_ret (v:=.tuple #[.agg (opRow 3).cells,.int .i64 0]) (by simp [results,Tryz.results180,go_sem,opRow,qcg,OpR.cells]) rfl ⟨rfl,((Below.refl _ _).alloc (Nat.le_refl _) _).alloc (by simp) _⟩
theorem qwM (w:World):Calls Tryz.prog 180 #[.int .i64 4] w (qa0 4 w):=by
 have hfin:qa0 4 w=fun e w'=>e=.returned (.tuple #[.agg (opRow 4).cells,.int .i64 0])∧Below w.heap.size w w':=rfl
 rw [hfin];clear hfin
 go_enter Tryz.func180,Tryz.ntmps180
 go_wp2
 exact bodyPost_ret (v:=.tuple #[.agg (opRow 4).cells,.int .i64 0]) (by simp [results,Tryz.results180,go_sem,opRow,qcg,OpR.cells]) rfl ⟨rfl,((Below.refl _ _).alloc (Nat.le_refl _) _).alloc (by simp) _⟩
theorem qwN (w:World):Calls Tryz.prog 180 #[.int .i64 5] w (qa0 5 w):=by
 have hfin:qa0 5 w=fun e w'=>e=.returned (.tuple #[.agg (opRow 5).cells,.int .i64 0])∧Below w.heap.size w w':=rfl
 rw [hfin];clear hfin
 go_enter Tryz.func180,Tryz.ntmps180
 go_wp2
 exact bodyPost_ret (v:=.tuple #[.agg (opRow 5).cells,.int .i64 0]) (by simp [results,Tryz.results180,go_sem,opRow,qcg,OpR.cells]) rfl ⟨rfl,((Below.refl _ _).alloc (Nat.le_refl _) _).alloc (by simp) _⟩
theorem qwO (w:World):Calls Tryz.prog 180 #[.int .i64 6] w (qa0 6 w):=by
 have hfin:qa0 6 w=fun e w'=>e=.returned (.tuple #[.agg (opRow 6).cells,.int .i64 0])∧Below w.heap.size w w':=rfl
 rw [hfin];clear hfin
 go_enter Tryz.func180,Tryz.ntmps180
 go_wp2
 exact bodyPost_ret (v:=.tuple #[.agg (opRow 6).cells,.int .i64 0]) (by simp [results,Tryz.results180,go_sem,opRow,qcg,OpR.cells]) rfl ⟨rfl,((Below.refl _ _).alloc (Nat.le_refl _) _).alloc (by simp) _⟩
theorem qwp (w:World):Calls Tryz.prog 180 #[.int .i64 32] w (qa0 32 w):=by
 have hfin:qa0 32 w=fun e w'=>e=.returned (.tuple #[.agg (opRow 32).cells,.int .i64 0])∧Below w.heap.size w w':=rfl
 rw [hfin];clear hfin
 go_enter Tryz.func180,Tryz.ntmps180
 go_wp2
 exact bodyPost_ret (v:=.tuple #[.agg (opRow 32).cells,.int .i64 0]) (by simp [results,Tryz.results180,go_sem,opRow,qcg,OpR.cells]) rfl ⟨rfl,((Below.refl _ _).alloc (Nat.le_refl _) _).alloc (by simp) _⟩
theorem qwq (w:World):Calls Tryz.prog 180 #[.int .i64 53] w (qa0 53 w):=by
 have hfin:qa0 53 w=fun e w'=>e=.returned (.tuple #[.agg (opRow 53).cells,.int .i64 0])∧Below w.heap.size w w':=rfl
 rw [hfin];clear hfin
 go_enter Tryz.func180,Tryz.ntmps180
 go_wp2
 exact bodyPost_ret (v:=.tuple #[.agg (opRow 53).cells,.int .i64 0]) (by simp [results,Tryz.results180,go_sem,opRow,qcg,OpR.cells]) rfl ⟨rfl,((Below.refl _ _).alloc (Nat.le_refl _) _).alloc (by simp) _⟩
theorem qwr (w:World):Calls Tryz.prog 180 #[.int .i64 90] w (qa0 90 w):=by
 have hfin:qa0 90 w=fun e w'=>e=.returned (.tuple #[.agg (opRow 90).cells,.int .i64 0])∧Below w.heap.size w w':=rfl
 rw [hfin];clear hfin
 go_enter Tryz.func180,Tryz.ntmps180
 go_wp2
 exact bodyPost_ret (v:=.tuple #[.agg (opRow 90).cells,.int .i64 0]) (by simp [results,Tryz.results180,go_sem,opRow,qcg,OpR.cells]) rfl ⟨rfl,((Below.refl _ _).alloc (Nat.le_refl _) _).alloc (by simp) _⟩
theorem qvO (w:World):Calls Tryz.prog 180 #[.int .i64 107] w (qa0 107 w):=by
 have hfin:qa0 107 w=fun e w'=>e=.returned (.tuple #[.agg (opRow 107).cells,.int .i64 0])∧Below w.heap.size w w':=rfl
 rw [hfin];clear hfin
 go_enter Tryz.func180,Tryz.ntmps180
 go_wp2
 exact bodyPost_ret (v:=.tuple #[.agg (opRow 107).cells,.int .i64 0]) (by simp [results,Tryz.results180,go_sem,opRow,qcg,OpR.cells]) rfl ⟨rfl,((Below.refl _ _).alloc (Nat.le_refl _) _).alloc (by simp) _⟩
theorem qvP (w:World):Calls Tryz.prog 180 #[.int .i64 117] w (qa0 117 w):=by
 have hfin:qa0 117 w=fun e w'=>e=.returned (.tuple #[.agg (opRow 117).cells,.int .i64 0])∧Below w.heap.size w w':=rfl
 rw [hfin];clear hfin
 go_enter Tryz.func180,Tryz.ntmps180
 go_wp2
 exact bodyPost_ret (v:=.tuple #[.agg (opRow 117).cells,.int .i64 0]) (by simp [results,Tryz.results180,go_sem,opRow,qcg,OpR.cells]) rfl ⟨rfl,((Below.refl _ _).alloc (Nat.le_refl _) _).alloc (by simp) _⟩
theorem qvQ (w:World):Calls Tryz.prog 180 #[.int .i64 122] w (qa0 122 w):=by
 have hfin:qa0 122 w=fun e w'=>e=.returned (.tuple #[.agg (opRow 122).cells,.int .i64 0])∧Below w.heap.size w w':=rfl
 rw [hfin];clear hfin
 go_enter Tryz.func180,Tryz.ntmps180
 go_wp2
 exact bodyPost_ret (v:=.tuple #[.agg (opRow 122).cells,.int .i64 0]) (by simp [results,Tryz.results180,go_sem,opRow,qcg,OpR.cells]) rfl ⟨rfl,((Below.refl _ _).alloc (Nat.le_refl _) _).alloc (by simp) _⟩
theorem qvR (w:World):Calls Tryz.prog 180 #[.int .i64 159] w (qa0 159 w):=by
 have hfin:qa0 159 w=fun e w'=>e=.returned (.tuple #[.agg (opRow 159).cells,.int .i64 0])∧Below w.heap.size w w':=rfl
 rw [hfin];clear hfin
 go_enter Tryz.func180,Tryz.ntmps180
 go_wp2
 exact bodyPost_ret (v:=.tuple #[.agg (opRow 159).cells,.int .i64 0]) (by simp [results,Tryz.results180,go_sem,opRow,qcg,OpR.cells]) rfl ⟨rfl,((Below.refl _ _).alloc (Nat.le_refl _) _).alloc (by simp) _⟩
theorem qvS (w:World):Calls Tryz.prog 180 #[.int .i64 235] w (qa0 235 w):=by
 have hfin:qa0 235 w=fun e w'=>e=.returned (.tuple #[.agg (opRow 235).cells,.int .i64 0])∧Below w.heap.size w w':=rfl
 rw [hfin];clear hfin
 go_enter Tryz.func180,Tryz.ntmps180
 go_wp2
 exact bodyPost_ret (v:=.tuple #[.agg (opRow 235).cells,.int .i64 0]) (by simp [results,Tryz.results180,go_sem,opRow,qcg,OpR.cells]) rfl ⟨rfl,((Below.refl _ _).alloc (Nat.le_refl _) _).alloc (by simp) _⟩
theorem qu7 (b:Int) (w:World) (h : ∀ k ∈ opBytes,b≠k):Calls Tryz.prog 180 #[.int .i64 b] w (qa0 b w):=by
 have hn:=qeW b h
 have hr:opRow b=OpR.zero:=by simp [opRow,hn]
 have he:opErr b=400:=by simp [opErr,hn]
 have hfin:qa0 b w=fun e w'=>e=.returned (.tuple #[.agg OpR.zero.cells,.int .i64 400])∧Below w.heap.size w w':=by
  funext e w';simp only [qa0,hr,he]
 rw [hfin]
 clear hfin hr he hn
 simp only [opBytes,List.mem_cons,List.not_mem_nil,or_false,forall_eq_or_imp,forall_eq,ne_eq] at h
 obtain ⟨h1,h2,h3,h4,h5,h6,h7,h8,h9,h10,h11,h12,h13,h14⟩:=h
 have g1:(b == 1)=false:=beq_eq_false_iff_ne.2 h1
 have g2:(b == 2)=false:=beq_eq_false_iff_ne.2 h2
 have g3:(b == 3)=false:=beq_eq_false_iff_ne.2 h3
 have g4:(b == 4)=false:=beq_eq_false_iff_ne.2 h4
 have g5:(b == 5)=false:=beq_eq_false_iff_ne.2 h5
 have g6:(b == 6)=false:=beq_eq_false_iff_ne.2 h6
 have g7:(b == 32)=false:=beq_eq_false_iff_ne.2 h7
 have g8:(b == 53)=false:=beq_eq_false_iff_ne.2 h8
 have g9:(b == 90)=false:=beq_eq_false_iff_ne.2 h9
 have g10:(b == 107)=false:=beq_eq_false_iff_ne.2 h10
 have g11:(b == 117)=false:=beq_eq_false_iff_ne.2 h11
 have g12:(b == 122)=false:=beq_eq_false_iff_ne.2 h12
 have g13:(b == 159)=false:=beq_eq_false_iff_ne.2 h13
 have g14:(b == 235)=false:=beq_eq_false_iff_ne.2 h14
 clear h1 h2 h3 h4 h5 h6 h7 h8 h9 h10 h11 h12 h13 h14
 go_enter Tryz.func180,Tryz.ntmps180
 go_wp2
 exact bodyPost_ret (v:=.tuple #[.agg OpR.zero.cells,.int .i64 400]) (by simp [results,Tryz.results180,go_sem,OpR.zero,OpR.cells]) rfl ⟨rfl,((Below.refl _ _).alloc (Nat.le_refl _) _).alloc (by simp) _⟩
theorem qhk (b:Int) (w:World):Calls Tryz.prog 180 #[.int .i64 b] w (qa0 b w):=by
 by_cases h : ∀ k ∈ opBytes,b≠k
 ·
  exact qu7 b w h
 ·
  simp only [opBytes,List.mem_cons,List.not_mem_nil,or_false,forall_eq_or_imp,forall_eq,ne_eq] at h
  by_cases h1:b=1;· subst h1;exact qwJ w
  by_cases h2:b=2;· subst h2;exact qwK w
  by_cases h3:b=3;· subst h3;exact qwL w
  by_cases h4:b=4;· subst h4;exact qwM w
  by_cases h5:b=5;· subst h5;exact qwN w
  by_cases h6:b=6;· subst h6;exact qwO w
  by_cases h7:b=32;· subst h7;exact qwp w
  by_cases h8:b=53;· subst h8;exact qwq w
  by_cases h9:b=90;· subst h9;exact qwr w
  by_cases h10:b=107;· subst h10;exact qvO w
  by_cases h11:b=117;· subst h11;exact qvP w
  by_cases h12:b=122;· subst h12;exact qvQ w
  by_cases h13:b=159;· subst h13;exact qvR w
  by_cases h14:b=235;· subst h14;exact qvS w
  exact absurd ⟨h1,h2,h3,h4,h5,h6,h7,h8,h9,h10,h11,h12,h13,h14⟩ h
end
section
open Go.RowKit
def isByte (b:Int):Bool:=decide (0≤b)&&decide (b<256)
theorem qeN (b:Int) (w:World):Calls Tryz.prog 182 #[.int .i64 b] w fun e w'=>e=.returned (.bool (isByte b))∧w=w':=by
 by_cases h:0≤b
 ·
  have e:isByte b=decide (b<256):=by unfold isByte;rw [decide_eq_true h];simp
  rw [e];clear e
  go_enter Tryz.func182,Tryz.ntmps182
  go_wp2
  go_ret
  exact ⟨rfl,rfl⟩
 ·
  have e:isByte b=false:=by unfold isByte;rw [decide_eq_false h];simp
  rw [e];clear e
  go_enter Tryz.func182,Tryz.ntmps182
  go_wp2
  go_ret
  exact ⟨rfl,rfl⟩
theorem qlg:Tells 181 (fun b => !isByte b) where
 calls b w:=by
  go_enter Tryz.func181,Tryz.ntmps181
  go_wp2_with (go_at_call 182;refine (qeN _ _).mono ?_;rintro e w' ⟨rfl,rfl⟩)
  go_ret
  exact ⟨rfl,rfl⟩
 run args w:=by go_simp
theorem qgQ (xs:List Int):xs.any (fun b => !isByte b) = !xs.all isByte:=by
 induction xs with
 | nil=>rfl
 | cons x r ih=>simp [ih,Bool.not_and]
def qe4 (r:OpR) (data read:Int):Bool :=
 if r.data=0 then decide (data=0)&&decide (read=0) else if r.inn then decide (read=0) else if r.mode then decide (data=1) else decide (data=0)
def qfK (w:World) (b:Nat) (r:OpR):Prop := ∃ t f,w.heap[b]? = some (.cells r.cells t f)
theorem qfK.cell {w:World} {b:Nat} {r:OpR} (h:qfK w b r):w.cell? ⟨b,0,none⟩=some (.int .i64 r.byte)∧w.cell? ⟨b,1,none⟩=some (.int .i64 r.addr)∧w.cell? ⟨b,2,none⟩=some (.bool r.mode)∧w.cell? ⟨b,3,none⟩=some (.int .i64 r.dummy)∧w.cell? ⟨b,4,none⟩=some (.int .i64 r.data)∧w.cell? ⟨b,5,none⟩=some (.bool r.inn):=by
 obtain ⟨t,f,h⟩:=h
 exact ⟨qaa h 0,qaa h 1,qaa h 2,qaa h 3,qaa h 4,qaa h 5⟩
theorem qfK.later {w w':World} {b:Nat} {r:OpR} (h:qfK w b r) (hb:Below w.heap.size w w'):qfK w' b r:=by
 obtain ⟨t,f,h⟩:=h
 exact ⟨t,f,qab hb h⟩
theorem qjR (b:Nat) (r:OpR) (data read:Int) (w:World) (h:qfK w b r):Calls Tryz.prog 183 #[.pointer (some ⟨b,0,none⟩),.int .i64 data,.int .i64 read] w fun e w'=>e=.returned (.bool (qe4 r data read))∧w=w':=by
 obtain ⟨_,_,c2,_,c4,c5⟩:=h.cell
 clear h
 by_cases h1:r.data=0
 ·
  have e:qe4 r data read=(decide (data=0)&&decide (read=0)):=by simp [qe4,h1]
  rw [e];clear e
  rw [h1] at c4
  by_cases h2:data=0
  ·
   subst h2
   go_enter Tryz.func183,Tryz.ntmps183
   go_wp2
   go_ret
   exact ⟨by simp;rfl,rfl⟩
  ·
   have g2:(data == 0)=false:=beq_eq_false_iff_ne.2 h2
   have e2:decide (data=0)=false:=by simp [h2]
   rw [e2]
   clear h2 e2
   go_enter Tryz.func183,Tryz.ntmps183
   go_wp2
   go_ret
   exact ⟨by simp,rfl⟩
 ·
  have g1:(r.data == 0)=false:=beq_eq_false_iff_ne.2 h1
  cases h2:r.inn with
  | true =>
   have e:qe4 r data read=decide (read=0):=by simp [qe4,h1,h2]
   rw [e];clear e h1
   rw [h2] at c5
   go_enter Tryz.func183,Tryz.ntmps183
   go_wp2
   go_ret
   exact ⟨by simp;rfl,rfl⟩
  | false =>
   rw [h2] at c5
   cases h3:r.mode with
   | true =>
    have e:qe4 r data read=decide (data=1):=by simp [qe4,h1,h2,h3]
    rw [e];clear e h1
    rw [h3] at c2
    go_enter Tryz.func183,Tryz.ntmps183
    go_wp2
    go_ret
    exact ⟨by simp;rfl,rfl⟩
   | false =>
    have e:qe4 r data read=decide (data=0):=by simp [qe4,h1,h2,h3]
    rw [e];clear e h1
    rw [h3] at c2
    go_enter Tryz.func183,Tryz.ntmps183
    go_wp2
    go_ret
    exact ⟨by simp;rfl,rfl⟩
def qfI (b:Int) (w:World) (e:Ending) (w':World):Prop :=
 e=.returned (.tuple #[.agg (opRow b).cells,.int .i64 (if opErr b=0 then 0 else 900)])∧Below w.heap.size w w'
theorem qpR (b:Int) (h:opErr b≠0):opRow b=OpR.zero:=by
 unfold opErr at h;unfold opRow
 cases ho:qcg b with
 | none=>rfl
 | some r=>simp [ho] at h
theorem qeR (b:Int) (w:World):Calls Tryz.prog 154 #[.int .i64 b] w (qfI b w):=by
 by_cases h:opErr b=0
 ·
  have hfin:qfI b w=fun e w'=>e=.returned (.tuple #[.agg (opRow b).cells,.int .i64 0])∧Below w.heap.size w w':=by
   funext e w';simp only [qfI,h,if_true]
  rw [hfin];clear hfin
  go_enter Tryz.func154,Tryz.ntmps154
  go_wp2_with fail
  refine (qhk b _).mono ?_
  rintro e w1 ⟨rfl,hb1⟩
  rw [h]
  clear h
  have hz1:w.heap.size<w1.heap.size:=by have:=hb1.size;simp at this;omega
  have ho:w1.heap[w.heap.size]? = some (.cells OpR.zero.cells 125):=qab hb1 (qad _ _)
  have c0:w1.cell? ⟨w.heap.size,0,none⟩=some (.int .i64 0):=qaa ho 0
  have c1:w1.cell? ⟨w.heap.size,1,none⟩=some (.int .i64 0):=qaa ho 1
  have c2:w1.cell? ⟨w.heap.size,2,none⟩=some (.bool false):=qaa ho 2
  have c3:w1.cell? ⟨w.heap.size,3,none⟩=some (.int .i64 0):=qaa ho 3
  have c4:w1.cell? ⟨w.heap.size,4,none⟩=some (.int .i64 0):=qaa ho 4
  have c5:w1.cell? ⟨w.heap.size,5,none⟩=some (.bool false):=qaa ho 5
  have f0:=fun i=>qah ho i
  clear ho
  rw [show (opRow b).cells = #[.int .i64 (opRow b).byte,.int .i64 (opRow b).addr,.bool (opRow b).mode,.int .i64 (opRow b).dummy,.int .i64 (opRow b).data,.bool (opRow b).inn] from rfl]
  go_wp2_with fail
  refine bodyPost_ret (v:=.tuple #[.agg (opRow b).cells,.int .i64 0]) (by simp [results,Tryz.results154,go_sem,c0,c1,c2,c3,c4,c5,hz1,OpR.cells]) rfl ⟨rfl,?_⟩
  repeat (first | with_reducible exact Below.refl _ _ | with_reducible refine gset ?_ (by simp) _ | with_reducible refine qac ?_ _ | with_reducible refine gtr ?_ hb1)
 ·
  have hfin:qfI b w=fun e w'=>e=.returned (.tuple #[.agg OpR.zero.cells,.int .i64 900])∧Below w.heap.size w w':=by
   funext e w';simp only [qfI,h,if_false,qpR b h]
  rw [hfin];clear hfin
  go_enter Tryz.func154,Tryz.ntmps154
  go_wp2_with fail
  refine (qhk b _).mono ?_
  rintro e w1 ⟨rfl,hb1⟩
  have he:(opErr b != 0)=true:=bne_iff_ne.2 h
  clear h
  have hz1:w.heap.size<w1.heap.size:=by have:=hb1.size;simp at this;omega
  have ho:w1.heap[w.heap.size]? = some (.cells OpR.zero.cells 125):=qab hb1 (qad _ _)
  have c0:w1.cell? ⟨w.heap.size,0,none⟩=some (.int .i64 0):=qaa ho 0
  have c1:w1.cell? ⟨w.heap.size,1,none⟩=some (.int .i64 0):=qaa ho 1
  have c2:w1.cell? ⟨w.heap.size,2,none⟩=some (.bool false):=qaa ho 2
  have c3:w1.cell? ⟨w.heap.size,3,none⟩=some (.int .i64 0):=qaa ho 3
  have c4:w1.cell? ⟨w.heap.size,4,none⟩=some (.int .i64 0):=qaa ho 4
  have c5:w1.cell? ⟨w.heap.size,5,none⟩=some (.bool false):=qaa ho 5
  have f0:=fun i=>qah ho i
  clear ho
  rw [show (opRow b).cells = #[.int .i64 (opRow b).byte,.int .i64 (opRow b).addr,.bool (opRow b).mode,.int .i64 (opRow b).dummy,.int .i64 (opRow b).data,.bool (opRow b).inn] from rfl]
  go_wp2_with fail
  refine bodyPost_ret (v:=.tuple #[.agg OpR.zero.cells,.int .i64 900]) (by simp [results,Tryz.results154,go_sem,c0,c1,c2,c3,c4,c5,hz1,OpR.cells,OpR.zero]) rfl ⟨rfl,?_⟩
  repeat (first | with_reducible exact Below.refl _ _ | with_reducible refine gset ?_ (by simp) _ | with_reducible refine qac ?_ _ | with_reducible refine gtr ?_ hb1)
end
end Go.Proofs.YtcfdenckiigdaaaGreat

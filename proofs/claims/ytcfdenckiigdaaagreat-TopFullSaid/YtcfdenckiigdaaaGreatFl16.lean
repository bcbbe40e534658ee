/- Part 16 of the contracts. -/
import Derived.Deep.OwnRows
import Derived.Laws.CopyOwn
import Derived.Test.YtcfdenckiigdaaaGreatFl15
set_option linter.unusedVariables false
set_option maxRecDepth 100000
set_option maxHeartbeats 4000000
namespace Go.Proofs.YtcfdenckiigdaaaGreat
open Tryz
section
open Go.RowKit
theorem FU {j:Nat} {x v:Value} (h:[x][j]? = some v):j=0∧x=v:=by
 have hj0:j=0:=by
  have:=(List.getElem?_eq_some_iff.1 h).1
  simpa using this
 subst hj0
 exact ⟨rfl,by simpa using h⟩
theorem FV : ∀ v ∈ [Value.int .i64 (-1)],v.oneCell'=true:=by
 intro v hv
 obtain rfl:v=.int .i64 (-1):=by simpa using hv
 rfl
theorem dN {B:Nat} {a b:World} (h:Below B a b) (g:Nat) (r:Array Value) (hg:B≤g):Below B a (b.setRow g r) :=
 ⟨h.os,h.tape,h.output,by show _≤(b.heap.modify _ _).size;simp;exact h.size,fun k hk=>(bj _ _ _ _ (by omega)).trans (h.block k hk)⟩
theorem fg {ops:Array Oper} {o:Oper} {a:Act} {w:World} {K:Act→World→Prop} {Q:Exit→Act→World→Prop} {E:Prop} (hgd:o.guard=none) (ty:TypeId) (x y:Operand) (ho:o.op=.store ty x y) (hd:o.dst=none) (g off:Nat) (cells:Array Value) (hx:a.eval x=.pointer (some ⟨g,off,none⟩)) (hy:a.eval y=.agg cells) (t:TypeId) (old:Array Value) (hg:w.heap[g]? = some (.cells old t (0,0))) (hi:(prog.info? ty).map (·.size)=some cells.size) (hold:off+cells.size≤old.size) (h1:cells.all (·.oneCell')=true) (h : ∀ w',Hid (w'=w.setRow g (putAt old off cells.toList))→Hid (w'.heap[g]? = some (.cells (putAt old off cells.toList) t (0,0)))→K a w'):if Region.wanted o (yielded ops a.tmps)=true then Oper.wp prog o a w K Q else E:=by
 have hw:Region.wanted o (yielded ops a.tmps)=true:=by simp [Region.wanted,hgd]
 rw [if_pos hw]
 have hrun:(storeVar ty ⟨g,off,none⟩ (.agg cells)).run prog w=.ok () (w.setRow g (putAt old off cells.toList)):=by
  have:=run_storeCells_at g off t cells.toList 0 old w hg (by simp;omega) (fun v hv=>(Array.all_eq_true_iff_forall_mem.1 h1) v (by simpa using hv))
  cases hq:prog.info? ty with
  | none=>simp [hq] at hi
  | some i =>
   have hs:cells.size=i.size:=by simp [hq] at hi;omega
   simp [storeVar,sizeOf,typeInfo,hq,Value.cells,hs,this]
 unfold Oper.wp execOp
 simp only [ho,hx,hy,Instr.storeAt,Instr.sureAddr,Sem.run_bind,Sem.run_pure,Result.andThen_ok,hrun]
 have:=h _ (zH rfl) (zH (setRow_heap w g old _ t _ hg))
 show K (a.put o.dst undef) _
 rw [hd]
 exact this
def Ku (w:World) (e:Ending) (w':World):Prop := ∃ g,e=.returned (.slice (some ⟨g,0,none⟩) 2 2)∧w.heap.size≤g∧w'.heap[g]? = some (.cells #[.int .i64 (-1),.int .i64 (-1)] 3)∧Below w.heap.size w w'
theorem nL (b:Nat) (w:World) (h:w.cell? ⟨b,0,none⟩=some (.int .i64 (-1))):Calls prog 147 #[.slice (some ⟨b,0,none⟩) 1 1,.int .i64 2] w (Ku w):=by
 have HM:=zH (fun w=>Tryz.bits_Mul 1 2 (by decide) (by decide) w)
 have hmk : ∀ w,(Instr.makeSlice 22 (.int .i64 2) (.int .i64 2)).run prog w=.ok (.slice (some ⟨w.heap.size,0,none⟩) 2 2) (w.alloc (.cells #[.int .i64 0,.int .i64 0] 3)):=fun _=>by kernel_rfl
 go_enter func147,ntmps147
 go_wp2_with fail
 refine (HM.out _).mono ?_
 rintro e w ⟨rfl,rfl⟩
 go_wp2_with (refine wpList_copy_splice rfl (.tmp 31) (.tmp 32) 22 22 rfl 3 underlying22 (by kernel_rfl) (some ⟨w.heap.size,0,none⟩) (some ⟨b,0,none⟩) 2 2 1 1 rfl rfl w.heap.size 0 [.int .i64 0,.int .i64 0] 3 ?c1 [.int .i64 (-1)] rfl ?c2 ?c3 ?c4 w.heap.size w ?c5 ?c6 ?_)
 case c1=>exact af w _
 case c2 =>
  intro j v hj
  obtain ⟨rfl,rfl⟩:=FU hj
  rw [World.cell?_alloc_lt _ _ _ (zL w _ h)]
  exact h
 case c3=>decide
 case c4=>exact FV
 case c5=>exact ae zR _
 case c6=>exact Nat.le_refl _
 intro w1 hid hb1
 have hr1:w1.heap[w.heap.size]? = some (.cells #[.int .i64 (-1),.int .i64 0] 3):=hid.out
 obtain ⟨nb,hnb⟩ : ∃ nb,w.heap.size=nb:=⟨_,rfl⟩
 rw [hnb] at hr1
 have HNB:=zH hnb
 have HB1:=zH hb1
 have HR1:=zH hr1
 have i1:(1:Int)≤2:=by decide
 clear hid hb1 hr1 hmk HM
 rw [hnb]
 go_wp2_with fail
 refine wp_loop_rounds 2 ?_
 rw [rounds_succ]
 go_wp2_with fail
 have HD1:w1.drew.heap[nb]? = some (.cells [Value.int .i64 (-1),.int .i64 0].toArray 3 (0,0)):=HR1.out
 have HD2:0<[Value.int .i64 (-1)].length→(some ⟨nb,1,none⟩:Option Addr)=some ⟨nb,1,none⟩ ∧ ∃ ad:Addr,(some ⟨nb,0,none⟩:Option Addr)=some ad ∧ ∀ j v,[Value.int .i64 (-1)][j]? = some v→w1.drew.cell? (ad.add j)=some v:=fun _=>⟨rfl,_,rfl,fun j v hj=>by
  obtain ⟨rfl,rfl⟩:=FU hj
  rw [di]
  exact cell_of HR1.out 0⟩
 have HD5:=au HB1.out
 have HH1:=zH HD1
 have HH2:=zH HD2
 have HH5:=zH HD5
 have HH6:=zH (Nat.le_of_eq HNB.out)
 have HH4:=zH FV
 clear HD1 HD2 HD5
 go_region_law ((refine step_copy_splice rfl (.tmp 41) (.tmp 44) 22 22 rfl 3 underlying22 (by kernel_rfl) (some ⟨nb,1,none⟩) (some ⟨nb,0,none⟩) 1 1 1 2 (by kernel_rfl) (by kernel_rfl) nb 1 [.int .i64 (-1),.int .i64 0] 3 HH1.out [.int .i64 (-1)] rfl HH2.out (by decide) HH4.out w.heap.size w HH5.out HH6.out ?_;intro w2 hid2 hb2))
 all_goals
  have HX:=zH (zA (show w2.heap[nb]? = some (.cells #[.int .i64 (-1),.int .i64 (-1)] 3) from hid2.out) hb2)
  clear hid2 hb2
  go_wp2_with fail
  rw [rounds_succ]
  go_wp2
  go_ret
  exact ⟨nb,rfl,Nat.le_of_eq HNB.out,HX.out.1,HX.out.2⟩
structure Cache where
 a0:Int
 a1:Int
 t0:ByteArray
 t1:ByteArray
 next:Int
def Cache.new:Cache:=⟨-1,-1,ByteArray.empty,ByteArray.empty,0⟩
def vo (w:World) (v:Value) (q:Cache) (G:Nat→Prop):Prop :=
 ∃ ab ac tb tc:Nat,v=.agg #[.slice (some ⟨ab,0,none⟩) 2 ac,.slice (some ⟨tb,0,none⟩) 2 tc,.int .i64 q.next]∧2≤ac∧2≤tc∧w.cell? ⟨ab,0,none⟩=some (.int .i64 q.a0)∧w.cell? ⟨ab,1,none⟩=some (.int .i64 q.a1)∧w.cell? ⟨tb,0,none⟩=some (.string q.t0)∧w.cell? ⟨tb,1,none⟩=some (.string q.t1) ∧ ¬ G ab ∧ ¬ G tb
theorem vo.step {G G':Nat→Prop} {w w':World} {v:Value} {q:Cache} (h:vo w v q G) (st:Step G G' w w'):vo w' v q G':=by
 obtain ⟨ab,ac,tb,tc,e,l1,l2,h1,h2,h3,h4,n1,n2⟩:=h
 exact ⟨ab,ac,tb,tc,e,l1,l2,st.aH.cell _ _ h1 n1,st.aH.cell _ _ h2 n1,st.aH.cell _ _ h3 n2,st.aH.cell _ _ h4 n2,st.safe (zL w _ h1) n1,st.safe (zL w _ h3) n2⟩
def qV (w:World) (e:Ending) (w':World):Prop := ∃ v,e=.returned v∧vo w' v Cache.new (fun b=>b<w.heap.size)∧Below w.heap.size w w'
theorem mc {w w2 w3:World} {g c:Nat} (hg:w.heap.size+1≤g) (hc:w.heap.size+1≤c) (hr:w2.heap[g]? = some (.cells #[.int .i64 (-1),.int .i64 (-1)] 3)) (ht:w2.heap[c]? = some (.cells #[.string ByteArray.empty,.string ByteArray.empty] 9)) (hb:Below w.heap.size w w2) (x:Array Value) (e:w3=w2.setRow w.heap.size x):qV w (.returned (.agg #[.slice (some ⟨g,0,none⟩) 2 2,.slice (some ⟨c,0,none⟩) 2 2,.int .i64 0])) w3:=by
 subst e
 have hg3:(w2.setRow w.heap.size x).heap[g]? = _:=(bj w2 w.heap.size x g (by omega)).trans hr
 have hc3:(w2.setRow w.heap.size x).heap[c]? = _:=(bj w2 w.heap.size x c (by omega)).trans ht
 exact ⟨_,rfl,⟨g,2,c,2,rfl,by omega,by omega,cell_of hg3 0,cell_of hg3 1,cell_of hc3 0,cell_of hc3 1,by omega,by omega⟩,dN hb _ _ zY⟩
theorem qd (w:World):Calls prog 104 #[] w (qV w):=by
 have hmk : ∀ w,(Instr.makeSlice 65 (.int .i64 2) (.int .i64 2)).run prog w=.ok (.slice (some ⟨w.heap.size,0,none⟩) 2 2) (w.alloc (.cells #[.string ByteArray.empty,.string ByteArray.empty] 9)):=fun _=>by kernel_rfl
 go_enter func104,ntmps104
 go_wp2_with fail
 refine wp_region_noPanic ?_
 refine wp_region_held_drew (S:=(fun _=>True)) (by kernel_rfl) (by (try dsimp only);first | done | exact trivial) fun hHeld => ?_
 refine wpAnyH_ready (rs:=[0,2]) (by kernel_rfl) (by simp) ?_
 refine (AllReadyH.cons (o:=⟨some 1,.buildSlice 22 1 #[(0,.const (.int .i64 (-1)))],22, "line.go:15",#[],none⟩) rfl (fun K hK => ?_) (AllReadyH.cons (o:=⟨some 3,.makeSlice 65 (.const (.int .i64 2)) (.const (.int .i64 2)),65, "line.go:15",#[],none⟩) rfl (fun K hK => ?_) AllReadyH.nil))
 ·
  skip
  go_simp
  refine hK.out _ _ (by (try dsimp only);first | done | exact trivial) fun hHeld => ?_
  clear hK K
  try simp only [Act.put,zS,zT,zU]
  refine wpAnyH_ready (rs:=[1,2]) (by kernel_rfl) (by simp) ?_
  refine (AllReadyH.cons (o:=⟨some 2,.call ⟨.value (.func 147),#[.tmp 1,.const (.int .i64 2)],#[22,3]⟩,22, "line.go:15",#[⟨0,.data⟩],none⟩) rfl (fun K hK => ?_) (AllReadyH.cons (o:=⟨some 3,.makeSlice 65 (.const (.int .i64 2)) (.const (.int .i64 2)),65, "line.go:15",#[],none⟩) rfl (fun K hK => ?_) AllReadyH.nil))
  ·
   skip
   go_simp
   go_at_call 147
   have hnb:((w.alloc (.cells #[.slice none 0 0,.slice none 0 0,.int .i64 0] 188)).alloc (.cells #[.int .i64 (-1)] 3)).heap[w.heap.size+1]? = some (.cells #[.int .i64 (-1)] 3):=by simpa using af (w.alloc (.cells #[.slice none 0 0,.slice none 0 0,.int .i64 0] 188)) (.cells #[.int .i64 (-1)] 3)
   refine (nL (w.heap.size+1) _ (cell_of (show ((w.alloc (.cells #[.slice none 0 0,.slice none 0 0,.int .i64 0] 188)).alloc (.cells #[.int .i64 (-1)] 3)).drew.heap[w.heap.size+1]? = _ from hnb) 0)).mono ?_
   rintro e w2 ⟨g,rfl,hg,hr,hb⟩
   have hb0:Below w.heap.size w w2:=gtr (au (ae (ae zR _) _)) hb
   have hz0:=aa (gtr (au (ae zR _)) hb) (af w (.cells #[.slice none 0 0,.slice none 0 0,.int .i64 0] 188))
   go_wp2_with fail
   refine hK.out _ _ (by (try dsimp only);first | done | exact trivial) fun hHeld => ?_
   clear hK K
   try simp only [Act.put,zS,zT,zU]
   refine tr 2 fun K hK => ?_
   go_simp
   refine hK.out _ _ (by (try dsimp only);first | done | exact trivial) fun hHeld => ?_
   clear hK K
   try simp only [Act.put,zS,zT,zU]
   refine tk 3 ?_
   refine tr 4 fun K hK => ?_
   have hz1:=aa (au (ae zR (.cells #[.string ByteArray.empty,.string ByteArray.empty] 9))) hz0
   have hb1:=ae hb0 (.cells #[.string ByteArray.empty,.string ByteArray.empty] 9)
   refine fg rfl 188 (.tmp 0) (.tmp 4) rfl rfl w.heap.size 0 #[.slice (some ⟨g,0,none⟩) 2 2,.slice (some ⟨w2.heap.size,0,none⟩) 2 2,.int .i64 0] (by kernel_rfl) (by kernel_rfl) 188 #[.slice none 0 0,.slice none 0 0,.int .i64 0] hz1 rfl (Nat.le_of_ble_eq_true rfl) (by kernel_rfl) (fun w3 hw3 hz3 => ?_)
   refine hK.out _ _ (by (try dsimp only);first | done | exact trivial) fun hHeld => ?_
   clear hK K
   try simp only [Act.put,zS,zT,zU]
   refine wpAnyH_done (by kernel_rfl) ?_ _
   refine NoPanic.normal ?_
   have hrr:=aa (ae zR (.cells #[.string ByteArray.empty,.string ByteArray.empty] 9)) hr
   have hgl:w.heap.size+1≤g:=by simp at hg;omega
   have htt:(w2.alloc (.cells #[.string ByteArray.empty,.string ByteArray.empty] 9)).heap[w2.heap.size]? = some (.cells #[.string ByteArray.empty,.string ByteArray.empty] 9):=by simpa using (af w2 _)
   have hz4:w3.heap[w.heap.size]? = some (.cells #[.slice (some ⟨g,0,none⟩) 2 2,.slice (some ⟨w2.heap.size,0,none⟩) 2 2,.int .i64 0] 188):=hz3.out
   go_wp2
   refine bodyPost_ret_by (results_cell_row rfl _ _ w.heap.size 188 _ (0,0) _ rfl hz4 underlying188 rfl rfl) rfl ?_
   exact mc hgl (by have:=hb0.size;have:=(Array.getElem?_eq_some_iff.1 hz0).1;omega) hrr htt (ae hb0 _) _ hw3.out
  ·
   skip
   go_simp
   refine hK.out _ _ (by (try dsimp only);first | done | exact trivial) fun hHeld => ?_
   clear hK K
   try simp only [Act.put,zS,zT,zU]
   refine tr 1 fun K hK => ?_
   go_simp
   go_at_call 147
   have hnb:(((w.alloc (.cells #[.slice none 0 0,.slice none 0 0,.int .i64 0] 188)).alloc (.cells #[.int .i64 (-1)] 3)).alloc (.cells #[.string ByteArray.empty,.string ByteArray.empty] 9)).heap[w.heap.size+1]? = some (.cells #[.int .i64 (-1)] 3):=by simpa using (aa (ae zR (.cells #[.string ByteArray.empty,.string ByteArray.empty] 9)) (af (w.alloc (.cells #[.slice none 0 0,.slice none 0 0,.int .i64 0] 188)) (.cells #[.int .i64 (-1)] 3)))
   refine (nL (w.heap.size+1) _ (cell_of (show (((w.alloc (.cells #[.slice none 0 0,.slice none 0 0,.int .i64 0] 188)).alloc (.cells #[.int .i64 (-1)] 3)).alloc (.cells #[.string ByteArray.empty,.string ByteArray.empty] 9)).drew.heap[w.heap.size+1]? = _ from hnb) 0)).mono ?_
   rintro e w2 ⟨g,rfl,hg,hr,hb⟩
   have hb0:Below w.heap.size w w2:=gtr (au (ae (ae (ae zR _) _) _)) hb
   have hz0:=aa (gtr (au (ae (ae zR _) _)) hb) (af w (.cells #[.slice none 0 0,.slice none 0 0,.int .i64 0] 188))
   go_wp2_with fail
   refine hK.out _ _ (by (try dsimp only);first | done | exact trivial) fun hHeld => ?_
   clear hK K
   try simp only [Act.put,zS,zT,zU]
   refine tk 3 ?_
   refine tr 4 fun K hK => ?_
   refine fg rfl 188 (.tmp 0) (.tmp 4) rfl rfl w.heap.size 0 #[.slice (some ⟨g,0,none⟩) 2 2,.slice (some ⟨w.heap.size+2,0,none⟩) 2 2,.int .i64 0] (by kernel_rfl) (by kernel_rfl) 188 #[.slice none 0 0,.slice none 0 0,.int .i64 0] hz0 rfl (Nat.le_of_ble_eq_true rfl) (by kernel_rfl) (fun w3 hw3 hz3 => ?_)
   refine hK.out _ _ (by (try dsimp only);first | done | exact trivial) fun hHeld => ?_
   clear hK K
   try simp only [Act.put,zS,zT,zU]
   refine wpAnyH_done (by kernel_rfl) ?_ _
   refine NoPanic.normal ?_
   have hrr:=hr
   have hgl:w.heap.size+1≤g:=by simp at hg;omega
   have htt:w2.heap[w.heap.size+1+1]? = some (.cells #[.string ByteArray.empty,.string ByteArray.empty] 9):=by simpa using (aa hb (af ((w.alloc (.cells #[.slice none 0 0,.slice none 0 0,.int .i64 0] 188)).alloc (.cells #[.int .i64 (-1)] 3)) (.cells #[.string ByteArray.empty,.string ByteArray.empty] 9)))
   have hz4:w3.heap[w.heap.size]? = some (.cells #[.slice (some ⟨g,0,none⟩) 2 2,.slice (some ⟨w.heap.size+1+1,0,none⟩) 2 2,.int .i64 0] 188):=hz3.out
   go_wp2
   refine bodyPost_ret_by (results_cell_row rfl _ _ w.heap.size 188 _ (0,0) _ rfl hz4 underlying188 rfl rfl) rfl ?_
   exact mc hgl (by omega) hrr htt (hb0) _ hw3.out
 ·
  skip
  go_simp
  refine hK.out _ _ (by (try dsimp only);first | done | exact trivial) fun hHeld => ?_
  clear hK K
  try simp only [Act.put,zS,zT,zU]
  refine tr 0 fun K hK => ?_
  go_simp
  refine hK.out _ _ (by (try dsimp only);first | done | exact trivial) fun hHeld => ?_
  clear hK K
  try simp only [Act.put,zS,zT,zU]
  refine tr 1 fun K hK => ?_
  go_simp
  go_at_call 147
  have hnb:(((w.alloc (.cells #[.slice none 0 0,.slice none 0 0,.int .i64 0] 188)).alloc (.cells #[.string ByteArray.empty,.string ByteArray.empty] 9)).alloc (.cells #[.int .i64 (-1)] 3)).heap[w.heap.size+2]? = some (.cells #[.int .i64 (-1)] 3):=by simpa using af ((w.alloc (.cells #[.slice none 0 0,.slice none 0 0,.int .i64 0] 188)).alloc (.cells #[.string ByteArray.empty,.string ByteArray.empty] 9)) (.cells #[.int .i64 (-1)] 3)
  refine (nL (w.heap.size+2) _ (cell_of (show (((w.alloc (.cells #[.slice none 0 0,.slice none 0 0,.int .i64 0] 188)).alloc (.cells #[.string ByteArray.empty,.string ByteArray.empty] 9)).alloc (.cells #[.int .i64 (-1)] 3)).drew.heap[w.heap.size+2]? = _ from hnb) 0)).mono ?_
  rintro e w2 ⟨g,rfl,hg,hr,hb⟩
  have hb0:Below w.heap.size w w2:=gtr (au (ae (ae (ae zR _) _) _)) hb
  have hz0:=aa (gtr (au (ae (ae zR _) _)) hb) (af w (.cells #[.slice none 0 0,.slice none 0 0,.int .i64 0] 188))
  go_wp2_with fail
  refine hK.out _ _ (by (try dsimp only);first | done | exact trivial) fun hHeld => ?_
  clear hK K
  try simp only [Act.put,zS,zT,zU]
  refine tk 3 ?_
  refine tr 4 fun K hK => ?_
  refine fg rfl 188 (.tmp 0) (.tmp 4) rfl rfl w.heap.size 0 #[.slice (some ⟨g,0,none⟩) 2 2,.slice (some ⟨w.heap.size+1,0,none⟩) 2 2,.int .i64 0] (by kernel_rfl) (by kernel_rfl) 188 #[.slice none 0 0,.slice none 0 0,.int .i64 0] hz0 rfl (Nat.le_of_ble_eq_true rfl) (by kernel_rfl) (fun w3 hw3 hz3 => ?_)
  refine hK.out _ _ (by (try dsimp only);first | done | exact trivial) fun hHeld => ?_
  clear hK K
  try simp only [Act.put,zS,zT,zU]
  refine wpAnyH_done (by kernel_rfl) ?_ _
  refine NoPanic.normal ?_
  have hrr:=hr
  have hgl:w.heap.size+1≤g:=by simp at hg;omega
  have htt:w2.heap[w.heap.size+1]? = some (.cells #[.string ByteArray.empty,.string ByteArray.empty] 9):=by simpa using (aa (gtr (au (ae zR _)) hb) (af (w.alloc (.cells #[.slice none 0 0,.slice none 0 0,.int .i64 0] 188)) (.cells #[.string ByteArray.empty,.string ByteArray.empty] 9)))
  have hz4:w3.heap[w.heap.size]? = some (.cells #[.slice (some ⟨g,0,none⟩) 2 2,.slice (some ⟨w.heap.size+1,0,none⟩) 2 2,.int .i64 0] 188):=hz3.out
  go_wp2
  refine bodyPost_ret_by (results_cell_row rfl _ _ w.heap.size 188 _ (0,0) _ rfl hz4 underlying188 rfl rfl) rfl ?_
  exact mc hgl (by omega) hrr htt (hb0) _ hw3.out
end
section
open Go.RowKit
variable {X:Nat→Prop}
theorem KS (L:Int) (d:aI) (h:(aI.get L d).1=true):(aI.get L d).2.out.length=d.out.length+1:=by
 have ho:=wX L (many L).toNat [] d
 unfold aI.get aI.cO at h ⊢
 split
 ·
  show ((aI.im L (many L).toNat [] d).2.2.out++[_]).length=_
  rw [ho];simp
 ·
  rename_i hh;rw [if_neg hh] at h;cases h
theorem Cd (L:Int) : ∀ (k:Nat) (d:aI),(aI.fZ L k d).1=true→(aI.fZ L k d).2.out.length=d.out.length+k
 | 0,d,h=>rfl
 | k+1,d,h=>by
  unfold aI.fZ at h ⊢
  split
  ·
   rename_i hg
   rw [if_pos hg] at h
   rw [Cd L k _ h,KS L d hg];omega
  ·
   rename_i hg;rw [if_neg hg] at h;cases h
theorem Hq (p:Ph) (d:aI) (h:(aI.phase p d).1=true):(aI.phase p d).2.out.length=d.out.length+p.read.toNat:=by
 have h1:=xv p.bW p.bytes d
 unfold aI.phase andThen at h ⊢
 dsimp only at h ⊢
 split
 ·
  rename_i hg
  rw [if_pos hg] at h
  have h2:=vE (List.replicate p.eN.toNat 15) (aI.dB p.bW p.bytes d).2
  split
  ·
   rename_i hg2
   rw [if_pos hg2] at h
   rw [Cd _ _ _ h,h2,h1]
  ·
   rename_i hg2;rw [if_neg hg2] at h;cases h
 ·
  rename_i hg;rw [if_neg hg] at h;cases h
def reads (ps:List Ph):Nat:=(ps.map fun p=>p.read.toNat).sum
theorem xq : ∀ (ps:List Ph) (d:aI),(aI.eR ps d).1=true→(aI.eR ps d).2.out.length=d.out.length+reads ps
 | [],d,h=>rfl
 | p::r,d,h=>by
  unfold aI.eR andThen at h ⊢
  split
  ·
   rename_i hg
   rw [if_pos hg] at h
   rw [xq r _ h,Hq p d hg]
   simp [reads];omega
  ·
   rename_i hg;rw [if_neg hg] at h;cases h
theorem GD (r:gF) (at_:Int) (xs:List Int) (read:Int) (h0:0≤read):reads (aQ r at_ xs read)=read.toNat∧reads ((aQ r at_ xs read).drop 1)=read.toNat:=by
 unfold aQ reads
 constructor
 ·
  split <;> split <;> split <;> split <;> split <;> simp <;> omega
 ·
  split <;> split <;> split <;> split <;> split <;> simp <;> omega
theorem AK (m:aG) (b:Int) (xs:List Int) (ps:List Ph) (h:(m.fin b xs ps).2.2=0):(m.fin b xs ps).2.1.length=reads ps:=by
 unfold aG.fin at h ⊢
 split
 ·
  rename_i he
  show (m.gq ps).length=_
  unfold aG.iR at he
  unfold aG.gq
  split
  ·
   rename_i hr
   have:=xq ps (aI.new m.ar m.left) hr
   exact this.trans (by show 0+reads ps=_;omega)
  ·
   rename_i hr;rw [if_neg hr] at he;cases he
 ·
  rename_i he;rw [if_neg he] at h;cases h
theorem nM {m:aG} {b at_:Int} {xs:List Int} {read:Int} (h0:0≤read) (h:(m.run b at_ xs read).2.2=0):(m.run b at_ xs read).2.1.length=read.toNat:=by
 obtain ⟨e1,e2⟩:=GD (ak b) at_ xs read h0
 unfold aG.run at h ⊢
 split
 ·
  rename_i hl;rw [if_pos hl] at h;cases h
 ·
  rename_i hl
  rw [if_neg hl] at h
  split
  ·
   rename_i hq
   rw [if_pos hq] at h
   exact (AK _ _ _ _ h).trans e2
  ·
   rename_i hq
   rw [if_neg hq] at h
   split
   ·
    rename_i hg
    rw [if_pos hg] at h
    split
    ·
     rename_i he
     rw [if_pos he] at h
     exact (AK _ _ _ _ h).trans e1
    ·
     rename_i he
     rw [if_neg he] at h;cases h
   ·
    rename_i hg
    rw [if_neg hg] at h
    exact (AK _ _ _ _ h).trans e1
theorem AJ (m:aG) (b:Int) (xs:List Int) (ps:List Ph):(m.fin b xs ps).2.2=0∨((m.fin b xs ps).2.2=1101∧(m.fin b xs ps).2.1=[]):=by
 unfold aG.fin
 split
 ·
  exact .inl rfl
 ·
  exact .inr ⟨rfl,rfl⟩
theorem lU (m:aG) (b at_:Int) (xs:List Int) (read:Int):(m.run b at_ xs read).2.2=0∨((m.run b at_ xs read).2.2=1101∧(m.run b at_ xs read).2.1=[]):=by
 unfold aG.run
 split
 ·
  exact .inr ⟨rfl,rfl⟩
 split
 ·
  exact AJ _ _ _ _
 split
 ·
  split
  ·
   exact AJ _ _ _ _
  ·
   exact .inr ⟨rfl,rfl⟩
 ·
  exact AJ _ _ _ _
theorem nF (w:World) (G:Nat→Prop):aN w none [] G:=⟨aU.nil _ _,fun _ _ e=>by cases e⟩
theorem yq:gX 5 0 [] 1:=⟨by decide,by decide,by decide,fun _=>rfl,by decide,by decide,by decide,by decide,by decide⟩
def aG.dp (m:aG):aG×Bool×Int:=((m.run 5 0 [] 1).1,decide ((m.run 5 0 [] 1).2.2=0)&&((m.run 5 0 [] 1).2.1.headD 0 % 2 != 0),(m.run 5 0 [] 1).2.2)
def IB (X:Nat→Prop) (y:Bool) (er:Int) (k c:Nat) (m:aG) (G:Nat→Prop) (w:World) (e:Ending) (w':World):Prop:=e=.returned (.tuple #[.bool y,.int .i64 er]) ∧ ∃ G',bO X w' k c m G'∧Step G G' w w'
theorem wg (k c:Nat) (m:aG) (G:Nat→Prop) (w:World) (h:bO X w k c m G) (ok:m.Ok):Calls prog 167 #[.pointer (some ⟨k,0,none⟩)] w (IB X m.dp.2.1 m.dp.2.2 k c m.dp.1 G w):=by
 have HR:=zH (fj k c m G 5 0 none [] 0 1 w h ok yq (nF w G) (fun _=>rfl) (by simp))
 have HL:=zH (fun h=>nM (m:=m) (b:=5) (at_:=0) (xs:=[]) (read:=1) (by decide) h)
 have HE:=zH (lU m 5 0 [] 1)
 have HB:=zH (show m.dp=((m.run 5 0 [] 1).1,decide ((m.run 5 0 [] 1).2.2=0)&&((m.run 5 0 [] 1).2.1.headD 0 % 2 != 0),(m.run 5 0 [] 1).2.2) from rfl)
 clear h ok
 generalize m.dp=br at *
 generalize m.run 5 0 [] 1=r at *
 obtain ⟨m',xs,er⟩:=r
 simp only at HR HL HE HB
 simp only [List.length_nil] at HR
 rcases HE.out with he | ⟨he,hx⟩
 ·
  subst he
  have hl:xs.length=1:=HL.out (by trivial)
  obtain ⟨x,rfl⟩ : ∃ x,xs=[x]:=List.length_eq_one_iff.1 hl
  have ha:bits .and .i64 x 1=x % 2:=Gq x
  clear hl
  go_enter func167,ntmps167
  go_wp2_with fail
  refine HR.out.mono ?_
  rintro e w1 ⟨a,cp,G1,rfl,hc,hs,st⟩
  obtain ⟨b,o,rfl,hcell⟩:=hs.1 0 (by simp)
  rw [Nat.add_zero] at hcell
  have hcell:w1.cell? ⟨b,o,none⟩=some (.int .i64 x):=hcell
  have H1:=zH (zA hc st)
  have i0:(0:Int)<1:=by decide
  clear hc hs st
  simp only [List.length_singleton]
  go_wp2
  go_ret2
  rw [HB.out]
  exact ⟨by simp,G1,H1.out⟩
 ·
  subst he
  subst hx
  go_enter func167,ntmps167
  go_wp2_with fail
  refine HR.out.mono ?_
  rintro e w1 ⟨a,cp,G1,rfl,hc,hs,st⟩
  have H1:=zH (zA hc st)
  clear hc hs st
  go_wp2
  go_ret2
  rw [HB.out]
  exact ⟨by simp,G1,H1.out⟩
theorem mD {m:aG} (ok:m.Ok):m.dp.1.Ok:=ew ok 5 0 [] 1 yq
def aG.gR:Nat→Int→aG→aG×Int×Int
 | 0,n,m=>(m,0,1400)
 | k+1,n,m=>if m.dp.2.2≠0 then (m.dp.1,0,m.dp.2.2) else if m.dp.2.1=false then (m.dp.1,n,0) else aG.gR k (n+1) m.dp.1
def IP (X:Nat→Prop) (y:Int) (er:Int) (k c:Nat) (m:aG) (G:Nat→Prop) (w:World) (e:Ending) (w':World):Prop:=e=.returned (.tuple #[.int .i64 y,.int .i64 er]) ∧ ∃ G',bO X w' k c m G'∧Step G G' w w'
theorem DA : ∀ (k:Nat) (n:Int) (m:aG),m.Ok→(aG.gR k n m).1.Ok
 | 0,n,m,ok=>ok
 | k+1,n,m,ok=>by
  unfold aG.gR
  split
  ·
   exact mD ok
  ·
   split
   ·
    exact mD ok
   ·
    exact DA k _ _ (mD ok)
theorem Fe (k c:Nat) (m:aG) (G:Nat→Prop) (N:Nat) (w:World) (h:bO X w k c m G) (ok:m.Ok) (hN:N≤1000000):Calls prog 193 #[.pointer (some ⟨k,0,none⟩),.int .i64 N] w (IP X (aG.gR N 1 m).2.1 (aG.gR N 1 m).2.2 k c (aG.gR N 1 m).1 G w):=by
 have H0:=zH (zA h ok)
 obtain ⟨rr,hrr⟩ : ∃ rr,rr=aG.gR N 1 m:=⟨_,rfl⟩
 rw [← hrr]
 have HV:=zH hrr
 clear h ok hrr
 go_enter func193,ntmps193
 go_wp2
 go_loopw [6] (fun i wr => ∃ (j:Nat) (mj:aG) (Gj:Nat→Prop),j≤N∧i=.int .i64 ((j:Int)+1)∧bO X wr k c mj Gj∧mj.Ok∧Step G Gj w wr∧rr=aG.gR (N - j) ((j:Int)+1) mj) (fun i _=>N+1 - (intOf i).toNat)
 case atStart=>exact ⟨0,m,G,Nat.zero_le _,rfl,H0.out.1,H0.out.2,Step.refl _ _,HV.out⟩
 case round =>
  obtain ⟨j,mj,Gj,hj,rfl,hC,hok,hst,hr⟩:=hrel
  by_cases hlt:j<N
  ·
   have g1:(j:Int)+1≤(N:Int):=by omega
   have HB:=zH (wg k c mj Gj _ hC hok)
   have HBO:=zH (mD hok)
   rw [show N - j=(N - (j+1))+1 by omega] at hr
   have HR:=zH (show rr=if mj.dp.2.2≠0 then (mj.dp.1,0,mj.dp.2.2) else if mj.dp.2.1=false then (mj.dp.1,(j:Int)+1,0) else aG.gR (N - (j+1)) ((j:Int)+1+1) mj.dp.1 from hr)
   have HST:=zH hst
   clear hC hok hst hr
   generalize mj.dp=br at *
   obtain ⟨mn,y,er⟩:=br
   simp only at HB HBO HR
   by_cases he:er=0
   ·
    subst he
    cases y with
    | false =>
     go_wp2_with fail
     refine HB.out.mono ?_
     rintro e w2 ⟨rfl,G2,hc2,st2⟩
     have H2:=zH (zA hc2 (HST.out.trans st2))
     clear hc2 st2
     go_wp2
     go_ret2
     rw [show rr=(mn,(j:Int)+1,0) from HR.out]
     exact ⟨rfl,G2,H2.out⟩
    | true =>
     go_wp2_with fail
     refine HB.out.mono ?_
     rintro e w2 ⟨rfl,G2,hc2,st2⟩
     have H2:=zH (zA hc2 (HST.out.trans st2))
     clear hc2 st2
     go_wp2
     go_roundw
     case rel=>exact ⟨j+1,mn,G2,by omega,by go_num,H2.out.1,HBO.out,H2.out.2,HR.out.trans (by simp)⟩
     case measure=>simp [intOf];omega
   ·
    have he':(er != 0)=true:=bne_iff_ne.2 he
    have HE:=zH he
    clear he
    go_wp2_with fail
    refine HB.out.mono ?_
    rintro e w2 ⟨rfl,G2,hc2,st2⟩
    have H2:=zH (zA hc2 (HST.out.trans st2))
    clear hc2 st2
    go_wp2
    go_ret2
    rw [show rr=(mn,0,er) from HR.out.trans (if_pos HE.out)]
    exact ⟨rfl,G2,H2.out⟩
  ·
   obtain rfl:N=j:=by omega
   rw [Nat.sub_self] at hr
   have H2:=zH (zA hC hst)
   have HR:=zH (show rr=(mj,0,1400) from hr)
   clear hC hok hst hr
   go_wp2
   go_ret2
   rw [HR.out]
   exact ⟨rfl,Gj,H2.out⟩
end
section
open Go.RowKit
def byteOf (x:Int):UInt8:=UInt8.ofNat (x % 256).toNat
def bytesOf (xs:List Int):List UInt8:=xs.map byteOf
def eE (xs:List Int):ByteArray:=⟨(bytesOf xs).toArray⟩
theorem fh (xs:List Int):(eE xs).size=xs.length:=by simp [eE,bytesOf,ByteArray.size]
theorem CF (z:Value) (n j:Nat) (h:j<n):(madeCells #[z] n)[j]? = some z:=by simp [madeCells,h,Nat.mod_one]
theorem mG:(prog.info? 5).map (fun i=>(i.zero,i.size,i.bytes))=some (some (.int .u8 0),1,1):=by kernel_rfl
structure fK (w wr:World) (nb n k:Nat) (xs:List Int):Prop where
 below:Below w.heap.size w wr
 cell : ∀ j,j<n → ∃ x:Int,wr.cell? ⟨nb,j,none⟩=some (.int .u8 x)∧(j<k→x=((byteOf (xs.getD j 0)).toNat:Int))
 free : ∀ j,wr.frozen? ⟨nb,j,none⟩=false
theorem fK.start {w:World} (n:Nat) (xs:List Int):fK w (w.alloc (.cells (madeCells #[.int .u8 0] n) 5)) w.heap.size n 0 xs :=
 ⟨ae zR _,fun j hj=>⟨0,(cell_of (af w _) j).trans (CF _ _ _ hj),fun h=>by omega⟩,fun j=>aF (af w _) j⟩
theorem fK.next {w wr:World} {nb n k:Nat} {xs:List Int} (h:fK w wr nb n k xs) (hnb:w.heap.size≤nb) (hk:k<n):fK w (wr.setCell ⟨nb,k,none⟩ (.int .u8 ((byteOf (xs.getD k 0)).toNat:Int))) nb n (k+1) xs:=by
 refine ⟨lh h.below hnb _,fun j hj => ?_,fun j=>(World.frozen?_setCell _ _ _ _).trans (h.free j)⟩
 by_cases hjk:j=k
 ·
  subst hjk
  obtain ⟨x,hx,_⟩:=h.cell j hj
  exact ⟨_,World.cell?_setCell_same wr _ _ hx,fun _=>rfl⟩
 ·
  obtain ⟨x,hx,hx2⟩:=h.cell j hj
  exact ⟨x,(World.cell?_setCell_other _ _ _ _ (by intro e;exact hjk (congrArg Addr.off e).symm)).trans hx,fun hl=>hx2 (by omega)⟩
theorem fK.done {w wr:World} {nb:Nat} {xs:List Int} (h:fK w wr nb xs.length xs.length xs):(convert 29 9 (.slice (some ⟨nb,0,none⟩) xs.length xs.length)).run prog wr=.ok (.string (eE xs)) wr:=by
 have:=run_convert_bytes_back (P:=prog) wr 29 9 5 ⟨nb,0,none⟩ xs.length (bytesOf xs) underlying29 underlying5 underlying9 (fun j hj=>by
  have hj':j<xs.length:=by simpa [bytesOf] using hj
  obtain ⟨x,hx,hx2⟩:=h.cell j hj'
  rw [di,Nat.zero_add,hx,hx2 hj']
  simp [bytesOf,List.getD,List.getElem?_eq_getElem hj'])
 rw [show (bytesOf xs).length=xs.length by simp [bytesOf]] at this
 exact this
theorem oI (x:Int):((byteOf x).toNat:Int)=x % 256:=F6 x
theorem E9 (a:Option Addr) (c:Nat) (xs:List Int) (w:World) (h:aU w a xs) (hl:xs.length≤100000):Calls prog 164 #[.slice a xs.length c] w (jm (eE xs) w):=by
 have hmk:=fun w=>run_make_row' (P:=prog) 29 5 (.int .u8 0) 1 underlying29 mG rfl .i64 .i64 xs.length (by omega) (by omega) w
 have H:=zH h
 clear h
 go_enter func164,ntmps164
 go_wp2_with fail
 have hs:=fK.start (w:=w) xs.length xs
 have HS:=zH hs
 generalize hW:w.alloc (.cells (madeCells #[.int .u8 0] xs.length) 5)=w2 at *
 clear hmk hs hW
 go_loopw [11] (fun i wr => ∃ k:Nat,i=.int .i64 k∧k≤xs.length∧fK w wr w.heap.size xs.length k xs) (fun i _=>xs.length - (intOf i).toNat)
 case atStart=>exact ⟨0,rfl,Nat.zero_le _,HS.out⟩
 case round =>
  obtain ⟨k,rfl,hk,hB⟩:=hrel
  by_cases hlt:k<xs.length
  ·
   obtain ⟨b,o,rfl,hc⟩:=(H.out.aj hB.below) k hlt
   obtain ⟨y,hy,_⟩:=hB.cell k hlt
   have hf:=hB.free k
   have hconv:=oI (xs.getD k 0)
   have HN:=zH (hB.next zY hlt)
   rw [hconv] at HN
   clear hB hconv
   generalize hx:xs.getD k 0=x at *
   clear hx
   go_wp2
   go_roundw
   case rel=>exact ⟨k+1,by go_num,by omega,HN.out⟩
   case measure=>simp [intOf];omega
  ·
   obtain rfl:k=xs.length:=by omega
   have hback:=hB.done
   have HB:=zH hB.below
   clear hB
   go_wp2
   go_ret
   exact ⟨rfl,HB.out⟩
end
section
open Go.RowKit
variable {X:Nat→Prop}
theorem oN (p n:Int) (w:World) (h0:0≤n) (h1:n≤512) (h2:0≤p) (h3:p≤4096 - n):Calls prog 165 #[.int .i64 p,.int .i64 n] w fun e w'=>e=.returned (.bool true)∧w=w':=by
 go_enter func165,ntmps165
 go_wp2
 go_ret
 exact ⟨by simp_all,rfl⟩
theorem JX (p n:Int) (h0:0≤n) (h1:n≤512) (h2:0≤p) (h3:p<4096):gX 107 p [] n :=
 ⟨by decide,h2,h3,fun e=>absurd e (by decide),by decide,by decide,h0,h1,by unfold kv;rfl⟩
def aG.cT (m:aG) (p n:Int):aG×ByteArray×Int:=if (m.run 107 p [] n).2.2=0 then ((m.run 107 p [] n).1,eE (m.run 107 p [] n).2.1,0) else ((m.run 107 p [] n).1,ByteArray.empty,(m.run 107 p [] n).2.2)
def IN (X:Nat→Prop) (s:ByteArray) (er:Int) (k c:Nat) (m:aG) (G:Nat→Prop) (w:World) (e:Ending) (w':World):Prop:=e=.returned (.tuple #[.string s,.int .i64 er]) ∧ ∃ G',bO X w' k c m G'∧Step G G' w w'
theorem zk {m:aG} (ok:m.Ok) (p n:Int) (h0:0≤n) (h1:n≤512) (h2:0≤p) (h3:p<4096):(m.cT p n).1.Ok:=by
 have:=ew ok 107 p [] n (JX p n h0 h1 h2 h3)
 unfold aG.cT
 split <;> exact this
theorem B2 (k c:Nat) (m:aG) (G:Nat→Prop) (p:Int) (n:Nat) (w:World) (h:bO X w k c m G) (ok:m.Ok) (h0:1≤n) (h1:n≤512) (h2:0≤p) (h3:p≤4096 - n):Calls prog 124 #[.pointer (some ⟨k,0,none⟩),.int .i64 p,.int .i64 n] w (IN X (m.cT p n).2.1 (m.cT p n).2.2 k c (m.cT p n).1 G w):=by
 have HM:=zH (fun w=>oN p n w (by omega) (by omega) h2 h3)
 have HR:=zH (fj k c m G 107 p none [] 0 n w h ok (JX p n (by omega) (by omega) h2 (by omega)) (nF w G) (fun _=>rfl) (by simp))
 have HL:=zH (fun h=>nM (m:=m) (b:=107) (at_:=p) (xs:=[]) (read:=n) (by omega) h)
 have HE:=zH (lU m 107 p [] n)
 have HB:=zH (show m.cT p n=if (m.run 107 p [] n).2.2=0 then ((m.run 107 p [] n).1,eE (m.run 107 p [] n).2.1,0) else ((m.run 107 p [] n).1,ByteArray.empty,(m.run 107 p [] n).2.2) from rfl)
 have hn0:((n:Int) == 0)=false:=zQ (by omega)
 clear h ok
 generalize m.cT p n=br at *
 generalize m.run 107 p [] n=r at *
 obtain ⟨m',xs,er⟩:=r
 simp only at HR HL HE HB
 simp only [List.length_nil] at HR
 rcases HE.out with he | ⟨he,hx⟩
 ·
  subst he
  have hl:xs.length=n:=by simpa using HL.out (by trivial)
  have hl2:xs.length≤512:=by omega
  have HLEN:=zH hl
  clear hl
  go_enter func124,ntmps124
  go_wp2_with fail
  refine (HM.out _).mono ?_
  rintro e w ⟨rfl,rfl⟩
  go_wp2_with fail
  refine HR.out.mono ?_
  rintro e w1 ⟨a,cp,G1,rfl,hc,hs,st⟩
  have hmk:=fun w=>run_make_row' (P:=prog) 29 5 (.int .u8 0) 1 underlying29 mG rfl .i64 .i64 xs.length (by omega) (by omega) w
  have H1:=zH (zA hc st)
  have H:=zH hs.1
  clear hc hs st
  go_wp2_with fail
  have hs:=fK.start (w:=w1) xs.length xs
  have HS:=zH hs
  generalize hW:w1.alloc (.cells (madeCells #[.int .u8 0] xs.length) 5)=w2 at *
  clear hmk hs hW
  go_loopw [39] (fun i wr => ∃ k:Nat,i=.int .i64 k∧k≤xs.length∧fK w1 wr w1.heap.size xs.length k xs) (fun i _=>xs.length - (intOf i).toNat)
  case atStart=>exact ⟨0,rfl,Nat.zero_le _,HS.out⟩
  case round =>
   obtain ⟨j,rfl,hk,hB⟩:=hrel
   by_cases hlt:j<xs.length
   ·
    obtain ⟨b,o,rfl,hc⟩:=(H.out.aj hB.below) j hlt
    obtain ⟨y,hy,_⟩:=hB.cell j hlt
    have hf:=hB.free j
    have hconv:=oI (xs.getD j 0)
    have HN:=zH (hB.next zY hlt)
    rw [hconv] at HN
    clear hB hconv
    generalize hx:xs.getD j 0=x at *
    clear hx
    go_wp2
    go_roundw
    case rel=>exact ⟨j+1,by go_num,by omega,HN.out⟩
    case measure=>simp [intOf];omega
   ·
    obtain rfl:j=xs.length:=by omega
    have hback:=hB.done
    have HBB:=zH hB.below
    clear hB
    go_wp2
    go_ret2
    rw [show br=(m',eE xs,0) from HB.out]
    exact ⟨rfl,G1,H1.out.1.aj HBB.out,H1.out.2.trans (Step.ah HBB.out)⟩
 ·
  subst he
  subst hx
  go_enter func124,ntmps124
  go_wp2_with fail
  refine (HM.out _).mono ?_
  rintro e w ⟨rfl,rfl⟩
  go_wp2_with fail
  refine HR.out.mono ?_
  rintro e w1 ⟨a,cp,G1,rfl,hc,hs,st⟩
  have H1:=zH (zA hc st)
  clear hc hs st
  go_wp2
  go_ret2
  rw [show br=(m',ByteArray.empty,1101) from HB.out]
  exact ⟨rfl,G1,H1.out⟩
end
end Go.Proofs.YtcfdenckiigdaaaGreat

/- Part 14 of the contracts. -/
import Derived.Test.YtcfdenckiigdaaaGreatKp13
set_option linter.unusedVariables false
set_option maxRecDepth 100000
set_option maxHeartbeats 4000000
namespace Go.Proofs.YtcfdenckiigdaaaGreat
section
open Go.RowKit
variable {X:Nat→Prop}
def quA (k:Nat) (s:qjY) (w:World) (G:Nat→Prop) (w3:World):Prop := ∃ b,qbX w3 k { s with lv:=.slice (some ⟨b,0,none⟩) 1 1 }∧Touch (Only k) w w3∧w.heap.size≤b∧qbM w3 b 0 [leavePh] G
theorem qr4 (w:World) (G:Nat→Prop) (hG : ∀ b,G b→b<w.heap.size):qbM ((w.alloc (.cells (Array.replicate 4 (.int .i64 0)) 3)).alloc (.cells #[.int .i64 4,.slice (some ⟨w.heap.size,0,none⟩) 4 4,.int .i64 0,.int .i64 0] 281)) (w.heap.size+1) 0 [leavePh] G:=by
 have hb:((w.alloc (.cells (Array.replicate 4 (.int .i64 0)) 3)).alloc (.cells #[.int .i64 4,.slice (some ⟨w.heap.size,0,none⟩) 4 4,.int .i64 0,.int .i64 0] 281)).heap[w.heap.size+1]? = some (.cells #[.int .i64 4,.slice (some ⟨w.heap.size,0,none⟩) 4 4,.int .i64 0,.int .i64 0] 281):=by
  have:=qad (w.alloc (.cells (Array.replicate 4 (.int .i64 0)) 3)) (.cells #[.int .i64 4,.slice (some ⟨w.heap.size,0,none⟩) 4 4,.int .i64 0,.int .i64 0] 281)
  simpa using this
 have hi:((w.alloc (.cells (Array.replicate 4 (.int .i64 0)) 3)).alloc (.cells #[.int .i64 4,.slice (some ⟨w.heap.size,0,none⟩) 4 4,.int .i64 0,.int .i64 0] 281)).heap[w.heap.size]? = some (.cells (Array.replicate 4 (.int .i64 0)) 3) :=
  qab (qac (Below.refl _ _) _) (qad w _)
 refine ⟨fun _ hf=>by have:=hG _ hf;omega,fun i hi' => ?_⟩
 obtain rfl:i=0:=by simp at hi';omega
 refine ⟨some ⟨w.heap.size,0,none⟩,4,⟨qaa hb 0,qaa hb 1,qaa hb 2,qaa hb 3,?_⟩,fun b' o' e _ hf => ?_⟩
 ·
  intro j hj
  have hj4:j<4:=hj
  refine ⟨w.heap.size,0,rfl,?_⟩
  rw [qaa hi]
  have:j=0∨j=1∨j=2∨j=3:=by omega
  rcases this with rfl | rfl | rfl | rfl <;> rfl
 ·
  obtain ⟨rfl,rfl⟩:w.heap.size=b'∧0=o':=by simpa using e
  exact Nat.lt_irrefl _ (hG _ hf)
theorem qmq (k bx:Nat) (s:qjY) (G:Nat→Prop) (w:World) (h:qbX w k s) (hb:w.cell? ⟨bx,0,none⟩=some (.pointer (some ⟨k,0,none⟩))) (hs0:s.o0=0) (hs1:s.o1=1) (hne:bx≠k) (hG : ∀ b,G b→b<w.heap.size) (hk:G k):Calls Tryz.prog 186 #[.pointer (some ⟨bx,0,none⟩)] w (qox k 10 (quA k s w G)):=by
 have hmk : ∀ w,(Instr.makeSlice 22 (.int .i64 4) (.int .i64 4)).run Tryz.prog w=.ok (.slice (some ⟨w.heap.size,0,none⟩) 4 4) (w.alloc (.cells (Array.replicate 4 (.int .i64 0)) 3)):=fun _=>by kernel_rfl
 have hr0:=qr4 w G hG
 have hb2:Below w.heap.size w ((w.alloc (.cells (Array.replicate 4 (.int .i64 0)) 3)).alloc (.cells #[.int .i64 4,.slice (some ⟨w.heap.size,0,none⟩) 4 4,.int .i64 0,.int .i64 0] 281)):=qac (qac (Below.refl _ _) _) _
 have h2:qbX _ k s:=qab hb2 h
 have x0:w.drew.cell? ⟨bx,0,none⟩=some (.pointer (some ⟨k,0,none⟩)):=hb
 have hxl:bx<w.heap.size:=World.block_lt_of_cell? w _ hb
 have x1:=(hb2.cell (p:=⟨bx,0,none⟩) hxl).trans hb
 have x1a:=((qac (Below.refl w.heap.size w) (.cells (Array.replicate 4 (.int .i64 0)) 3)).cell (p:=⟨bx,0,none⟩) hxl).trans hb
 have d13:((w.alloc (.cells (Array.replicate 4 (.int .i64 0)) 3)).alloc (.cells #[.int .i64 4,.slice (some ⟨w.heap.size,0,none⟩) 4 4,.int .i64 0,.int .i64 0] 281)).cell? ⟨k,13,none⟩=some s.lv:=qaa h2 13
 have f13:((w.alloc (.cells (Array.replicate 4 (.int .i64 0)) 3)).alloc (.cells #[.int .i64 4,.slice (some ⟨w.heap.size,0,none⟩) 4 4,.int .i64 0,.int .i64 0] 281)).frozen? ⟨k,13,none⟩=false:=qah h2 13
 have HD:=zH (zA h2 (zA hs0 (zA hs1 (zA hr0 hb2))))
 clear h hb hs0 hs1 h2 hr0
 go_enter Tryz.func186,Tryz.ntmps186
 go_wp2_with fail
 refine wp_region_noPanic ?_
 refine wp_region_held_drew (S:=(fun w'=>w'.cell? ⟨bx,0,none⟩=some (.pointer (some ⟨k,0,none⟩)))) (by kernel_rfl) ?hS0 (fun hHeld => ?_)
 case hS0=>(try dsimp only);exact x0
 refine tk 0 ?_
 refine tr 1 fun K hK => ?_
 go_simp
 refine hK.out _ _ ?hS1 (fun hHeld => ?_)
 case hS1=>(try dsimp only);exact x1a
 clear hK K
 try simp only [Act.put,zS,zT,zU]
 refine tk 2 ?_
 refine tr 3 fun K hK => ?_
 go_simp
 refine hK.out _ _ ?hS3 (fun hHeld => ?_)
 case hS3=>(try dsimp only);exact x1
 clear hK K
 try simp only [Act.put,zS,zT,zU]
 refine tk 4 ?_
 refine tk 5 ?_
 refine tr 6 fun K hK => ?_
 go_simp
 refine hK.out _ _ ?hS6 (fun hHeld => ?_)
 case hS6=>(try dsimp only);exact ((World.cell?_setCell_other _ _ _ _ (by intro e;have:=congrArg Addr.block e;simp at this;omega)).trans x1)
 clear hK K
 try simp only [Act.put,zS,zT,zU]
 refine wpAnyH_done (by kernel_rfl) ?_ _
 refine NoPanic.normal ?_
 go_wp2_with fail
 go_end0
 obtain ⟨h2,hs0,hs1,hr0,hb2⟩:=HD.out
 generalize (w.alloc (.cells (Array.replicate 4 (.int .i64 0)) 3)).alloc (.cells #[.int .i64 4,.slice (some ⟨w.heap.size,0,none⟩) 4 4,.int .i64 0,.int .i64 0] 281)=w2 at *
 have hr:qbX (w2.setCell ⟨k,13,none⟩ (.slice (some ⟨w.heap.size+1,0,none⟩) 1 1)) k { s with lv:=.slice (some ⟨w.heap.size+1,0,none⟩) 1 1 }:=qag (i:=13) (v:=.slice (some ⟨w.heap.size+1,0,none⟩) 1 1) h2
 have t2:Touch (Only k) w2 (w2.setCell ⟨k,13,none⟩ (.slice (some ⟨w.heap.size+1,0,none⟩) 1 1)):=(Touch.refl _ _).set k 13 _ rfl
 have hp:=(hr0.step (Step.of_touch (t2.mono fun b e=>by rw [show b=k from e];exact hk))).step (Step.of_below (qai (Below.refl _ _)))
 refine ⟨rfl,⟨w.heap.size+1,hr,((Touch.of_below hb2).trans t2).drew,by omega,hp⟩,(qaa hr 10).trans (by simp [qjY.row,hs0]),(qaa hr 11).trans (by simp [qjY.row,hs1]),qah hr 10,qah hr 11⟩
def qq3 (X:Nat→Prop) (k c:Nat) (m:Ctl) (G:Nat→Prop) (w:World) (e:Ending) (w':World):Prop :=
 ∃ (b:Nat) (G':Nat→Prop),e=.returned (.slice (some ⟨b,0,none⟩) 1 1)∧qaL X w' k c m G'∧Step G G' w w'∧qbM w' b 0 [leavePh] G'
theorem qk8 (k c:Nat) (m:Ctl) (G:Nat→Prop) (w:World) (h:qaL X w k c m G):Calls Tryz.prog 157 #[.pointer (some ⟨k,0,none⟩)] w (qq3 X k c m G w):=by
 have hmf : ∀ (fn:Fn) (first cap:Array Value) (w:World),(Instr.makeFunc fn first cap).run Tryz.prog w=.ok (.func fn first cap) w:=fun _ _ _ _=>rfl
 have hb1:Below w.heap.size w (w.alloc (.cells #[.pointer (some ⟨k,0,none⟩)] 85)):=qac (Below.refl _ _) _
 obtain ⟨s,F,rfl,h0⟩:=h
 have hkl:k<w.heap.size:=h0.lt k h0.own
 have h1:=h0.later hb1
 have p0:(w.alloc (.cells #[.pointer (some ⟨k,0,none⟩)] 85)).cell? ⟨w.heap.size,0,none⟩=some (.pointer (some ⟨k,0,none⟩)):=qaa (qad w _) 0
 have HB:=zH hb1
 clear h0 hb1
 generalize hW:w.alloc (.cells #[.pointer (some ⟨k,0,none⟩)] 85)=w1 at *
 have hXlt:=h1.leave.1
 rcases h1.leave.2 with ⟨o0,o1,o2⟩ | ⟨o0,o1,o2,b,o3,hph⟩
 ·
  have hr1:qbX (w1.setCell ⟨k,11,none⟩ (.int .i32 1)) k { s with o1:=1 }:=qag (i:=11) (v:=.int .i32 1) h1.raw
  have k0:(w1.setCell ⟨k,11,none⟩ (.int .i32 1)).cell? ⟨w.heap.size,0,none⟩=some (.pointer (some ⟨k,0,none⟩)):=by
   rw [World.cell?_setCell_other _ _ _ _ (by intro e;have:=congrArg Addr.block e;simp at this;omega)];exact p0
  have HD:=zH (qoJ k 10 186 #[.pointer (some ⟨w.heap.size,0,none⟩)] (quA k { s with o1:=1 } (w1.setCell ⟨k,11,none⟩ (.int .i32 1)) (fun i=>G i∨X i)) w1 ((qaa h1.raw 10).trans (by simp [qjY.row,o0])) ((qaa h1.raw 11).trans (by simp [qjY.row,o1])) (qah h1.raw 10) (qah h1.raw 11) (fun _=>by kernel_rfl) (qmq k w.heap.size { s with o1:=1 } (fun i=>G i∨X i) _ hr1 k0 o0 rfl (by omega) (fun b hb=>by rw [World.size_setCell];exact hb.elim (h1.lt b) (hXlt b)) (.inl h1.own)))
  have t1:Touch (Only k) w1 (w1.setCell ⟨k,11,none⟩ (.int .i32 1)):=(Touch.refl _ _).set k 11 _ rfl
  have HH:=zH (zA h1 (zA t1 o2))
  clear h1 hr1 k0 o0 o1 o2 t1
  go_enter Tryz.func157,Tryz.ntmps157
  go_wp2_with fail
  try rw [hW]
  refine HD.out.mono ?_
  rintro e w2 ⟨rfl,w3,⟨b,q,tq,hbs,hph⟩,rfl⟩
  obtain ⟨h1,t1,o2⟩:=HH.out
  have q2:qbX ((w3.drew.setCell ⟨k,10,none⟩ (.int .u32 1)).setCell ⟨k,11,none⟩ (.int .i32 0)) k { s with o0:=1,o1:=0,lv:=.slice (some ⟨b,0,none⟩) 1 1 } :=
   qag (i:=11) (v:=.int .i32 0) (qag (i:=10) (v:=.int .u32 1) (show qbX w3.drew k _ from q))
  have t3:Touch (Only k) w3 ((w3.drew.setCell ⟨k,10,none⟩ (.int .u32 1)).setCell ⟨k,11,none⟩ (.int .i32 0)):=(((Touch.refl (Only k) w3).drew).set k 10 _ rfl).set k 11 _ rfl
  have t2:Touch (Only k) w1 ((w3.drew.setCell ⟨k,10,none⟩ (.int .u32 1)).setCell ⟨k,11,none⟩ (.int .i32 0)):=(t1.trans tq).trans t3
  have hG : ∀ b,Only k b→G b:=fun b e=>by rw [show b=k from e];exact h1.own
  have hph2:=hph.step (Step.of_touch (t3.mono fun b e=>.inl (hG b e)))
  have px:((w3.drew.setCell ⟨k,10,none⟩ (.int .u32 1)).setCell ⟨k,11,none⟩ (.int .i32 0)).cell? ⟨w.heap.size,0,none⟩=some (.pointer (some ⟨k,0,none⟩)):=t2.cell _ _ p0 (fun e=>by have:w.heap.size=k:=e;omega)
  have h2:qek X ((w3.drew.setCell ⟨k,10,none⟩ (.int .u32 1)).setCell ⟨k,11,none⟩ (.int .i32 0)) k { s with o0:=1,o1:=0,lv:=.slice (some ⟨b,0,none⟩) 1 1 } m F G :=
   ⟨q2,h1.goes,h1.left,h1.lost,h1.chip.far t2 (fun b hb e=>h1.far (by rw [← show b=k from e];exact hb)) (fun hl e=>h1.home hl (by rw [show m.chip.home=k from e];exact h1.own)),⟨fun i hi=>Nat.lt_of_lt_of_le (hXlt i hi) t2.size,.inr ⟨rfl,rfl,o2,b,rfl,hph2⟩⟩,h1.far,h1.sub,h1.own,h1.home,fun b hb=>Nat.lt_of_lt_of_le (h1.lt b hb) t2.size⟩
  have st:=(Step.of_below (F:=G) HB.out).trans (Step.of_touch (t2.mono hG))
  have c13:=qaa q2 13
  have HF:=zH (zA h2 (zA st (hph2.sub fun _ h=>.inl h)))
  generalize (w3.drew.setCell ⟨k,10,none⟩ (.int .u32 1)).setCell ⟨k,11,none⟩ (.int .i32 0)=w4 at *
  replace c13:w4.cell? ⟨k,13,none⟩=some (.slice (some ⟨b,0,none⟩) 1 1):=c13
  clear q tq q2 t2 h2 t3 st h1 t1 HD HH hph hph2 hG hbs
  go_wp2_with fail
  go_ret
  exact ⟨b,G,rfl,⟨{ s with o0:=1,o1:=0,lv:=.slice (some ⟨b,0,none⟩) 1 1 },F,rfl,HF.out.1⟩,HF.out.2⟩
 ·
  have HD:=zH (fun fv=>qrx ⟨k,10,none⟩ 1 (by decide) fv w1 ((qaa h1.raw 10).trans (by simp [qjY.row,o0])))
  have c13:w1.cell? ⟨k,13,none⟩=some (.slice (some ⟨b,0,none⟩) 1 1):=by rw [← o3];exact qaa h1.raw 13
  have HF:=zH (zA h1 (zA (Step.of_below (F:=G) HB.out) (hph.sub fun _ h=>.inl h)))
  clear h1 o0 o1 o2 o3 hph
  go_enter Tryz.func157,Tryz.ntmps157
  go_wp2_with fail
  try rw [hW]
  refine (HD.out _).mono ?_
  rintro e w2 ⟨rfl,rfl⟩
  go_wp2_with fail
  go_ret
  exact ⟨b,G,rfl,⟨_,F,rfl,HF.out.1⟩,HF.out.2⟩
end
section
open Go.RowKit
variable {X:Nat→Prop}
structure qae.Good (m:qae):Prop where
 ok:m.Ok
 busy : ∀ x ∈ m.busy,1≤x∧x≤400
theorem qji {m:qae} (h:m.Good) (j:Job) (hj:qkO j):(m.starts j).Good:=by
 unfold qae.starts
 split
 ·
  exact h
 ·
  split
  ·
   exact ⟨⟨h.ok.size,h.ok.job,h.ok.addr0,h.ok.addr1,h.ok.op,h.ok.data⟩,h.busy⟩
  ·
   refine ⟨⟨h.ok.size,fun x hx => ?_,h.ok.addr0,h.ok.addr1,h.ok.op,h.ok.data⟩,fun x hx=>h.busy x (List.mem_of_mem_drop hx)⟩
   obtain rfl:({ j with left:=m.busy.headD 8 }:Job)=x:=by simpa using hx
   have hb:1≤m.busy.headD 8∧m.busy.headD 8≤400:=by
    cases hm:m.busy with
    | nil=>exact ⟨by decide,by decide⟩
    | cons y r=>exact h.busy y (by rw [hm];simp)
   exact ⟨hj,by show 1≤m.busy.headD 8;omega,by show m.busy.headD 8≤4096;omega⟩
theorem qrz {m:qae} (h:m.Good):m.does.Good:=by
 have o:=h.ok
 unfold qae.does
 split
 ·
  exact ⟨⟨o.size,o.job,o.addr0,o.addr1,o.op,o.data⟩,h.busy⟩
 split
 ·
  exact ⟨⟨o.size,o.job,o.addr0,o.addr1,o.op,o.data⟩,h.busy⟩
 split
 ·
  unfold qae.suspends
  split
  ·
   rename_i j hj
   split
   ·
    exact h
   ·
    refine ⟨⟨o.size,fun x hx => ?_,o.addr0,o.addr1,o.op,o.data⟩,h.busy⟩
    obtain rfl:({ j with susp:=true }:Job)=x:=by simpa using hx
    exact o.job j hj
  ·
   exact h
 split
 ·
  unfold qae.resumes
  split
  ·
   rename_i j hj
   refine ⟨⟨o.size,fun x hx => ?_,o.addr0,o.addr1,o.op,o.data⟩,h.busy⟩
   obtain rfl:({ j with susp:=false }:Job)=x:=by simpa using hx
   exact o.job j hj
  ·
   exact h
 split
 ·
  unfold qae.puts
  split
  ·
   exact ⟨⟨o.size,o.job,o.addr0,o.addr1,o.op,o.data⟩,h.busy⟩
  ·
   exact h
 split
 ·
  unfold qae.programs
  split
  ·
   refine qji h _ (.inl ⟨rfl,(m.addr - m.addr % 32).toNat,?_,?_,qfP _ _⟩)
   ·
    have:=o.addr0;show m.addr - m.addr % 32=_;omega
   ·
    have:=o.addr0;have:=o.addr1;omega
  ·
   exact h
 split
 ·
  unfold qae.erases
  refine qji h _ (.inr ⟨(m.addr / 512).toNat,?_,?_⟩)
  ·
   have:=o.addr0;show m.addr / 512=_;omega
  ·
   have:=o.addr0;have:=o.addr1;omega
 split
 ·
  exact ⟨⟨o.size,o.job,o.addr0,o.addr1,o.op,o.data⟩,h.busy⟩
 ·
  exact h
theorem qrE {m:qae} (h:m.Good):m.ends.Good:=by
 unfold qae.ends
 split
 ·
  exact h
 ·
  exact qrz h
theorem qkX {m:qae} (h:m.Good):m.deselect.Good:=qrE ⟨qps h.ok,h.busy⟩
theorem qjj (m:qae) (j:Job):(m.starts j).sel=m.sel∧(m.starts j).home=m.home∧((m.starts j).busy=m.busy∨(m.starts j).busy=m.busy.drop 1):=by
 unfold qae.starts
 split
 ·
  exact ⟨rfl,rfl,.inl rfl⟩
 ·
  split
  ·
   exact ⟨rfl,rfl,.inl rfl⟩
  ·
   exact ⟨rfl,rfl,.inr rfl⟩
theorem qrA (m:qae):m.does.sel=m.sel∧m.does.home=m.home∧(m.does.busy=m.busy∨m.does.busy=m.busy.drop 1):=by
 unfold qae.does
 split
 ·
  exact ⟨rfl,rfl,.inl rfl⟩
 split
 ·
  exact ⟨rfl,rfl,.inl rfl⟩
 split
 ·
  unfold qae.suspends
  split
  ·
   split <;> exact ⟨rfl,rfl,.inl rfl⟩
  ·
   exact ⟨rfl,rfl,.inl rfl⟩
 split
 ·
  unfold qae.resumes
  split <;> exact ⟨rfl,rfl,.inl rfl⟩
 split
 ·
  unfold qae.puts
  split <;> exact ⟨rfl,rfl,.inl rfl⟩
 split
 ·
  unfold qae.programs
  split
  ·
   exact qjj _ _
  ·
   exact ⟨rfl,rfl,.inl rfl⟩
 split
 ·
  exact qjj _ _
 split <;> exact ⟨rfl,rfl,.inl rfl⟩
theorem qdX (m:qae):m.deselect.sel=false∧m.deselect.home=m.home∧(m.deselect.busy=m.busy∨m.deselect.busy=m.busy.drop 1):=by
 unfold qae.deselect qae.ends
 split
 ·
  exact ⟨rfl,rfl,.inl rfl⟩
 ·
  exact qrA m.unsel
theorem qjc (P:qae→Prop) (hP : ∀ m x,P m→P (m.clock x).2) : ∀ (xs:List Int) (d:Drv),P d.chip→P (Drv.row xs d).2.chip
 | [],d,h=>h
 | x::r,d,h=>by
  unfold Drv.row
  split
  ·
   exact h
  ·
   exact qjc P hP r (d.tick x) (hP _ _ h)
theorem qoY (P:qae→Prop) (hP : ∀ m x,P m→P (m.clock x).2) (L:Int) : ∀ (k:Nat) (xs:List Int) (d:Drv),P d.chip→P (Drv.hear L k xs d).2.2.chip
 | 0,xs,d,h=>h
 | k+1,xs,d,h=>by
  unfold Drv.hear
  split
  ·
   exact h
  ·
   exact qoY P hP L k _ (d.tick 15) (hP _ _ h)
theorem qrN (P:qae→Prop) (hP : ∀ m x,P m→P (m.clock x).2) (L:Int) (d:Drv) (h:P d.chip):P (Drv.get L d).2.chip:=by
 have h:=qoY P hP L (many L).toNat [] d h
 unfold Drv.get Drv.got
 split <;> exact h
theorem qhO (P:qae→Prop) (hP : ∀ m x,P m→P (m.clock x).2) (L:Int) : ∀ (bs:List Int) (d:Drv),P d.chip→P (Drv.puts L bs d).2.chip
 | [],d,h=>h
 | b::r,d,h=>by
  unfold Drv.puts
  split
  ·
   exact qhO P hP L r _ (qjc P hP _ _ h)
  ·
   exact qjc P hP _ _ h
theorem qoQ (P:qae→Prop) (hP : ∀ m x,P m→P (m.clock x).2) (L:Int) : ∀ (k:Nat) (d:Drv),P d.chip→P (Drv.gets L k d).2.chip
 | 0,d,h=>h
 | k+1,d,h=>by
  unfold Drv.gets
  split
  ·
   exact qoQ P hP L k _ (qrN P hP L d h)
  ·
   exact qrN P hP L d h
theorem qmH (P:qae→Prop) (hP : ∀ m x,P m→P (m.clock x).2) (p:Ph) (d:Drv) (h:P d.chip):P (Drv.phase p d).2.chip:=by
 unfold Drv.phase andThen
 dsimp only
 split
 ·
  split
  ·
   exact qoQ P hP _ _ _ (qjc P hP _ _ (qhO P hP _ _ _ h))
  ·
   exact qjc P hP _ _ (qhO P hP _ _ _ h)
 ·
  exact qhO P hP _ _ _ h
theorem qg1 (P:qae→Prop) (hP : ∀ m x,P m→P (m.clock x).2) : ∀ (ps:List Ph) (d:Drv),P d.chip→P (Drv.phases ps d).2.chip
 | [],d,h=>h
 | p::r,d,h=>by
  unfold Drv.phases andThen
  split
  ·
   exact qg1 P hP r _ (qmH P hP p d h)
  ·
   exact qmH P hP p d h
theorem qoc (m:qae):m.select.busy=m.busy∧m.select.home=m.home:=by
 unfold qae.select
 split
 ·
  exact ⟨(qep _ _).2.1,qfE _ _⟩
 ·
  exact ⟨rfl,rfl⟩
theorem qiv (m:qae) (ps:List Ph) (most:Int):(driven m ps most).2.chip.busy=m.busy∧(driven m ps most).2.chip.home=m.home :=
 qg1 (fun c=>c.busy=m.busy∧c.home=m.home) (fun c x h=>⟨(qbq c x).1.trans h.1,(qbq c x).2.trans h.2⟩) ps (Drv.new m most) (qoc m)
theorem qkp : ∀ (ps:List Ph) (ok : ∀ i,i<ps.length→qkP (ps.getD i Ph.none)) (d:Drv) (k:Nat),d.Fit (qbp * ps.length+k)→(Drv.phases ps d).2.Fit k
 | [],ok,d,k,h=>by simpa [Drv.phases] using h
 | p::r,ok,d,k,h=>by
  have h1:=qmG p (ok 0 (by simp)) d (qbp * r.length+k) (qaA h (by simp [Nat.mul_add];omega))
  unfold Drv.phases andThen
  split
  ·
   exact qkp r (fun i hi=>ok (i+1) (by simp;omega)) _ k h1
  ·
   exact qaA h1 (by omega)
theorem qiw {m:qae} (h:m.Good) (ps:List Ph) (ok : ∀ i,i<ps.length→qkP (ps.getD i Ph.none)) (hl:ps.length≤100) (most:Int):(qax (driven m ps most)).Good∧(driven m ps most).2.n<1099511627776:=by
 have hf:=qkp ps ok (Drv.new m most) 0 ⟨qkz h.ok 0,by show 0+(qbp * ps.length+0)<_;unfold qbp;omega⟩
 have hb:=qiv m ps most
 have hg:(driven m ps most).2.chip.Good:=⟨hf.chip.base.ok,fun x hx=>h.busy x (by rw [← hb.1];exact hx)⟩
 refine ⟨?_,by have h:=hf.few;have e:(driven m ps most).2.n+0<1099511627776:=h;omega⟩
 unfold qax
 split
 ·
  exact qkX hg
 ·
  exact hg
theorem qix (m:qae) (ps:List Ph) (most:Int):(qax (driven m ps most)).home=m.home∧((qax (driven m ps most)).busy=m.busy∨(qax (driven m ps most)).busy=m.busy.drop 1):=by
 have hb:=qiv m ps most
 unfold qax
 split
 ·
  obtain ⟨_,h1,h2⟩:=qdX (driven m ps most).2.chip
  rw [hb.2] at h1
  rw [hb.1] at h2
  exact ⟨h1,h2⟩
 ·
  exact ⟨hb.2,.inl hb.1⟩
structure Ctl.Ok (m:Ctl):Prop where
 good:m.chip.Good
 sel:m.lost=false→m.chip.sel=false
 left0 : -1≤m.left
 left1:m.left≤1099511627776
def Ctl.r (m:Ctl) (ps:List Ph):Bool×Drv:=driven m.chip ps m.left
def Ctl.drive (m:Ctl) (ps:List Ph):Ctl:={ chip:=qax (m.r ps),goes:=m.goes,left:=if 0≤m.left then m.left - ((m.r ps).2.n:Int) else m.left,lost:=m.lost || !(m.r ps).1 }
def Ctl.driveX (m:Ctl) (ps:List Ph):List Int:=if (m.r ps).1=true then (m.r ps).2.out else []
def Ctl.driveE (m:Ctl) (ps:List Ph):Int:=if (m.r ps).1=true then 0 else 1101
theorem qlk : ∀ (xs:List Int) (d:Drv),(Drv.row xs d).2.most=d.most∧(0≤d.most→(d.n:Int)≤d.most→((Drv.row xs d).2.n:Int)≤d.most)
 | [],d=>⟨rfl,fun _ h=>h⟩
 | x::r,d=>by
  unfold Drv.row
  split
  ·
   exact ⟨rfl,fun _ h=>h⟩
  ·
   rename_i hs
   obtain ⟨h1,h2⟩:=qlk r (d.tick x)
   refine ⟨h1,fun h0 hn=>h2 h0 ?_⟩
   unfold Drv.stop at hs
   simp at hs
   have:=hs h0
   show ((d.n+1:Nat):Int)≤d.most
   omega
theorem qmk (L:Int) : ∀ (k:Nat) (xs:List Int) (d:Drv),(Drv.hear L k xs d).2.2.most=d.most∧(0≤d.most→(d.n:Int)≤d.most→((Drv.hear L k xs d).2.2.n:Int)≤d.most)
 | 0,xs,d=>⟨rfl,fun _ h=>h⟩
 | k+1,xs,d=>by
  unfold Drv.hear
  split
  ·
   exact ⟨rfl,fun _ h=>h⟩
  ·
   rename_i hs
   obtain ⟨h1,h2⟩:=qmk L k (xs++[heard L (d.said 15)]) (d.tick 15)
   refine ⟨h1,fun h0 hn=>h2 h0 ?_⟩
   unfold Drv.stop at hs
   simp at hs
   have:=hs h0
   show ((d.n+1:Nat):Int)≤d.most
   omega
def Kept (d e:Drv):Prop:=e.most=d.most∧(0≤d.most→(d.n:Int)≤d.most→(e.n:Int)≤d.most)
theorem Kept.trans {a b c:Drv} (h:Kept a b) (k:Kept b c):Kept a c:=⟨k.1.trans h.1,fun h0 hn=>by have:=k.2 (by rw [h.1];exact h0) (by rw [h.1];exact h.2 h0 hn);rw [h.1] at this;exact this⟩
theorem Kept.refl (d:Drv):Kept d d:=⟨rfl,fun _ h=>h⟩
theorem qoO (L:Int) (d:Drv):Kept d (Drv.get L d).2:=by
 have h:=qmk L (many L).toNat [] d
 unfold Drv.get Drv.got
 split <;> exact h
theorem qmL (L:Int) : ∀ (bs:List Int) (d:Drv),Kept d (Drv.puts L bs d).2
 | [],d=>Kept.refl d
 | b::r,d=>by
  have h:Kept d (Drv.put b L d).2:=qlk _ d
  unfold Drv.puts
  split
  ·
   exact h.trans (qmL L r _)
  ·
   exact h
theorem qmh (L:Int) : ∀ (k:Nat) (d:Drv),Kept d (Drv.gets L k d).2
 | 0,d=>Kept.refl d
 | k+1,d=>by
  unfold Drv.gets
  split
  ·
   exact (qoO L d).trans (qmh L k _)
  ·
   exact qoO L d
theorem qko (p:Ph) (d:Drv):Kept d (Drv.phase p d).2:=by
 have h1:=qmL p.lanes p.bytes d
 unfold Drv.phase andThen
 dsimp only
 split
 ·
  have h2:Kept _ (Drv.row (List.replicate p.clocks.toNat 15) (Drv.puts p.lanes p.bytes d).2).2:=qlk _ _
  split
  ·
   exact (h1.trans h2).trans (qmh _ _ _)
  ·
   exact h1.trans h2
 ·
  exact h1
theorem qfQ : ∀ (ps:List Ph) (d:Drv),Kept d (Drv.phases ps d).2
 | [],d=>Kept.refl d
 | p::r,d=>by
  unfold Drv.phases andThen
  split
  ·
   exact (qko p d).trans (qfQ r _)
  ·
   exact qko p d
theorem Ctl.Ok.drive {m:Ctl} (h:m.Ok) (hl:m.lost=false) (ps:List Ph) (ok : ∀ i,i<ps.length→qkP (ps.getD i Ph.none)) (hn:ps.length≤100):(m.drive ps).Ok:=by
 obtain ⟨h1,h2⟩:=qiw h.good ps ok hn m.left
 have hk:Kept (Drv.new m.chip m.left) (m.r ps).2:=qfQ ps (Drv.new m.chip m.left)
 have a:=h.left0
 have b:=h.left1
 refine ⟨h1,fun he => ?_,?_,?_⟩
 ·
  have he':(m.lost || !(m.r ps).1)=false:=he
  have:(m.r ps).1=true:=by rw [hl] at he';simpa using he'
  show (qax (m.r ps)).sel=false
  unfold qax
  rw [if_pos this]
  exact (qdX _).1
 ·
  show -1≤if 0≤m.left then m.left - ((m.r ps).2.n:Int) else m.left
  split
  ·
   rename_i h0
   have:=hk.2 h0 h0
   have e:((m.r ps).2.n:Int)≤m.left:=this
   omega
  ·
   exact a
 ·
  show (if 0≤m.left then m.left - ((m.r ps).2.n:Int) else m.left)≤_
  split <;> omega
def qfB (X:Nat→Prop) (xs:List Int) (er:Int) (k c:Nat) (m:Ctl) (G:Nat→Prop) (w:World) (e:Ending) (w':World):Prop :=
 ∃ (a:Option Addr) (cp:Nat) (G':Nat→Prop),e=.returned (.tuple #[.slice a xs.length cp,.int .i64 er])∧qaL X w' k c m G'∧qak w' a xs G'∧Step G G' w w'
theorem qb1 (k c b o cap:Nat) (m:Ctl) (G:Nat→Prop) (ps:List Ph) (w:World) (h:qaL X w k c m G) (ok:m.Ok) (hlost:m.lost=false) (hph:qbM w b o ps G) (hps : ∀ i,i<ps.length→qkP (ps.getD i Ph.none)) (hl:ps.length≤100):Calls Tryz.prog 156 #[.pointer (some ⟨k,0,none⟩),.slice (some ⟨b,o,none⟩) ps.length cap] w (qfB X (m.driveX ps) (m.driveE ps) k c (m.drive ps) G w):=by
 obtain ⟨s,F,rfl,h0⟩:=h
 have h:=h0.later (qai (Below.refl w.heap.size w))
 have hph1:=hph.step (Step.of_below (F:=G) (qai (Below.refl w.heap.size w)))
 have c0:w.drew.cell? ⟨k,0,none⟩=some (.pointer (some ⟨s.c,0,none⟩)):=qaa h.raw 0
 have c8:w.drew.cell? ⟨k,8,none⟩=some (.int .i64 m.left):=by rw [← h.left];exact qaa h.raw 8
 have HD:=zH (qnz s.c b o cap m.chip F ps m.left w.drew h.chip ok.good.ok (ok.sel hlost) (hph1.sub h.sub) hps hl)
 have HH:=zH h
 have HL:=zH hlost
 have HK:=zH (zA ok.left0 ok.left1)
 have HN:=zH (qiw ok.good ps hps hl m.left).2
 have HHM:=zH (qix m.chip ps m.left)
 have hkm:0≤m.left→((m.r ps).2.n:Int)≤m.left:=fun h0'=>(qfQ ps (Drv.new m.chip m.left)).2 h0' h0'
 have HKM:=zH hkm
 have HR:=zH (show m.drive ps={ chip:=qax (m.r ps),goes:=m.goes,left:=if 0≤m.left then m.left - ((m.r ps).2.n:Int) else m.left,lost:=m.lost || !(m.r ps).1 }∧m.driveX ps=(if (m.r ps).1=true then (m.r ps).2.out else [])∧m.driveE ps=(if (m.r ps).1=true then 0 else 1101) from ⟨rfl,rfl,rfl⟩)
 have hrr:driven m.chip ps m.left=m.r ps:=rfl
 rw [hrr] at HD HN HHM
 clear h0 h ok hlost hph hph1 hps hl hkm hrr
 generalize m.r ps=r at *
 generalize m.drive ps=mm at *
 generalize m.driveX ps=xx at *
 generalize m.driveE ps=ee at *
 obtain ⟨whole,d⟩:=r
 simp only at HD HN HHM HKM HR
 go_enter Tryz.func156,Tryz.ntmps156
 go_wp2_with fail
 refine wp_region_noPanic ?_
 refine wp_region_held_drew (S:=(fun w'=>w'.cell? ⟨k,0,none⟩=some (.pointer (some ⟨s.c,0,none⟩))∧w'.cell? ⟨k,8,none⟩=some (.int .i64 m.left))) (by kernel_rfl) ?hS1000 (fun hHeld => ?_)
 case hS1000=>(try dsimp only);exact ⟨c0,c8⟩
 refine tk 0 ?_
 refine tk 1 ?_
 refine tk 2 ?_
 refine tk 3 ?_
 refine tk 4 ?_
 refine tk 5 ?_
 refine tk 6 ?_
 refine tk 7 ?_
 refine tk 8 ?_
 refine tr 9 fun K hK => ?_
 go_simp
 go_at_call 184
 refine HD.out.mono ?_
 rintro e w2 ⟨a,cp,F',rfl,hc,hs,st,hnew⟩
 simp only at hc hs
 have hr2:qbX w2 k s:=st.touch.at HH.out.raw HH.out.far
 have hkl:k<w.drew.heap.size:=qat HH.out.raw
 obtain ⟨m2,hm2⟩ : ∃ m2:Ctl,m2={ m with chip:=qax (whole,d) }:=⟨_,rfl⟩
 have hC:qek X w2 k s m2 F' (fun b=>F' b∨G b):=by
  have h:=HH.out
  rw [hm2]
  refine ⟨hr2,h.goes,h.left,h.lost,hc,?_,fun hf=>st.safe hkl h.far hf,fun b hb=>.inl hb,.inr h.own,fun hl hf => ?_,fun b hb => ?_⟩
  ·
   have st':Step G (fun b=>F' b∨G b) w.drew w2:=⟨st.touch.mono h.sub,fun b hb=>hb.elim (fun hb=>(st.foot b hb).elim (fun x=>.inl (h.sub b x)) .inr) .inl⟩
   exact h.leave.step st'
  ·
   obtain ⟨q1,q2⟩:=HHM.out
   have hl2:0<m.chip.busy.length:=by
    have hl':0<(qax (whole,d)).busy.length:=hl
    rcases q2 with q2 | q2
    ·
     rw [q2] at hl';exact hl'
    ·
     rw [q2] at hl';simp at hl';omega
   obtain ⟨q3,q4⟩:=h.chip.home hl2
   have hf':F' m.chip.home∨G m.chip.home:=by
    have hf2:F' (qax (whole,d)).home∨G (qax (whole,d)).home:=hf
    rw [q1] at hf2;exact hf2
   rcases hf' with hf' | hf'
   ·
    exact st.safe q3 q4 hf'
   ·
    exact h.home hl2 hf'
  ·
   rcases hb with hb | hb
   ·
    exact hc.lt b hb
   ·
    exact Nat.lt_of_lt_of_le (h.lt b hb) st.touch.size
 have hsafe:qak w2 a d.out (fun b=>F' b∨G b):=⟨hs.1,fun b o e hl hf=>by
  rcases hf with hf | hf
  ·
   exact hs.2 b o e hl hf
  ·
   have:=hnew b o e;have:=HH.out.lt b hf;omega⟩
 have st2:Step G (fun b=>F' b∨G b) w w2:=(Step.of_below (qai (Below.refl _ _))).trans ⟨st.touch.mono HH.out.sub,fun b hb=>hb.elim (fun hb=>(st.foot b hb).elim (fun x=>.inl (HH.out.sub b x)) .inr) .inl⟩
 have HX:=zH (zA hC (zA hsafe st2))
 have HM2:=zH hm2
 have d0:w2.cell? ⟨k,0,none⟩=some (.pointer (some ⟨s.c,0,none⟩)):=qaa hr2 0
 have d8:w2.cell? ⟨k,8,none⟩=some (.int .i64 m.left):=by rw [← HH.out.left];exact qaa hr2 8
 clear hc hs st hnew hr2 hC hsafe st2 hm2
 go_wp2_with fail
 refine hK.out _ _ ?hS1009 (fun hHeld => ?_)
 case hS1009=>(try dsimp only);exact ⟨d0,d8⟩
 clear hK K
 try simp only [Act.put,zS,zT,zU]
 refine tk 10 ?_
 refine tk 11 ?_
 refine tk 12 ?_
 refine tk 13 ?_
 refine tk 14 ?_
 refine tk 15 ?_
 refine tk 16 ?_
 refine tk 17 ?_
 refine tk 18 ?_
 refine wpAnyH_done (by kernel_rfl) ?_ _
 refine NoPanic.normal ?_
 have hr2:qbX w2 k s:=HX.out.1.raw
 have d6:w2.cell? ⟨k,6,none⟩=some (.int .i64 s.cl):=qaa hr2 6
 have f6:w2.frozen? ⟨k,6,none⟩=false:=qah hr2 6
 obtain ⟨z,hz⟩ : ∃ z:Int,wrap64 (s.cl+(d.n:Int))=z:=⟨_,rfl⟩
 have hr3:qbX (w2.setCell ⟨k,6,none⟩ (.int .i64 z)) k { s with cl:=z }:=qag (i:=6) (v:=.int .i64 z) hr2
 have t3:Touch (Only k) w2 (w2.setCell ⟨k,6,none⟩ (.int .i64 z)):=(Touch.refl _ _).set k 6 _ rfl
 have h3:=HX.out.1.block hr3 t3 rfl HX.out.1.goes HX.out.1.left HX.out.1.lost rfl rfl rfl rfl rfl
 have st3:=HX.out.2.2.trans (HX.out.1.step t3)
 have hs3:=HX.out.2.1.step (HX.out.1.step t3)
 have H3:=zH (zA h3 (zA hs3 st3))
 have e8:(w2.setCell ⟨k,6,none⟩ (.int .i64 z)).cell? ⟨k,8,none⟩=some (.int .i64 m.left):=by rw [← HH.out.left];exact qaa hr3 8
 have g8:(w2.setCell ⟨k,6,none⟩ (.int .i64 z)).frozen? ⟨k,8,none⟩=false:=qah hr3 8
 have g9:(w2.setCell ⟨k,6,none⟩ (.int .i64 z)).frozen? ⟨k,9,none⟩=false:=qah hr3 9
 have e9:(w2.setCell ⟨k,6,none⟩ (.int .i64 z)).cell? ⟨k,9,none⟩=some (.bool s.lost):=qaa hr3 9
 clear hr2 hr3 t3 h3 st3 hs3
 obtain ⟨k0,k1⟩:=HK.out
 by_cases hl0:0≤m.left
 ·
  have hkn:=HKM.out hl0
  have r4:qbX ((w2.setCell ⟨k,6,none⟩ (.int .i64 z)).setCell ⟨k,8,none⟩ (.int .i64 (m.left - (d.n:Int)))) k { s with cl:=z,left:=m.left - (d.n:Int) }:=qag (i:=8) (v:=.int .i64 (m.left - (d.n:Int))) H3.out.1.raw
  have t4:Touch (Only k) (w2.setCell ⟨k,6,none⟩ (.int .i64 z)) ((w2.setCell ⟨k,6,none⟩ (.int .i64 z)).setCell ⟨k,8,none⟩ (.int .i64 (m.left - (d.n:Int)))):=(Touch.refl _ _).set k 8 _ rfl
  have h4:=H3.out.1.block (m':={ m2 with left:=m.left - (d.n:Int) }) r4 t4 rfl H3.out.1.goes rfl H3.out.1.lost rfl rfl rfl rfl rfl
  have H4:=zH (zA h4 (zA (H3.out.2.1.step (H3.out.1.step t4)) (H3.out.2.2.trans (H3.out.1.step t4))))
  have x9:((w2.setCell ⟨k,6,none⟩ (.int .i64 z)).setCell ⟨k,8,none⟩ (.int .i64 (m.left - (d.n:Int)))).cell? ⟨k,9,none⟩=some (.bool s.lost):=qaa r4 9
  have y9:((w2.setCell ⟨k,6,none⟩ (.int .i64 z)).setCell ⟨k,8,none⟩ (.int .i64 (m.left - (d.n:Int)))).frozen? ⟨k,9,none⟩=false:=qah r4 9
  have E:=zH (show (if 0≤m.left then m.left - (d.n:Int) else m.left)=m.left - (d.n:Int) from if_pos hl0)
  have hnn:0≤(d.n:Int):=by omega
  clear r4 t4 h4
  cases whole with
  | true =>
   have HE:=zH (show { m2 with left:=m.left - (d.n:Int) }={ chip:=qax (true,d),goes:=m.goes,left:=m.left - (d.n:Int),lost:=m.lost || !true } by rw [HM2.out,HL.out];rfl)
   go_wp2_with fail
   go_ret2
   obtain ⟨q1,q2,q3⟩:=HR.out
   rw [q1,q2,q3,E.out,← HE.out]
   exact ⟨a,cp,_,rfl,⟨{ s with cl:=z,left:=m.left - (d.n:Int) },F',rfl,H4.out.1⟩,H4.out.2.1,H4.out.2.2⟩
  | false =>
   have r5:qbX (((w2.setCell ⟨k,6,none⟩ (.int .i64 z)).setCell ⟨k,8,none⟩ (.int .i64 (m.left - (d.n:Int)))).setCell ⟨k,9,none⟩ (.bool true)) k { { s with cl:=z,left:=m.left - (d.n:Int) } with lost:=true }:=qag (i:=9) (v:=.bool true) H4.out.1.raw
   have t5:Touch (Only k) ((w2.setCell ⟨k,6,none⟩ (.int .i64 z)).setCell ⟨k,8,none⟩ (.int .i64 (m.left - (d.n:Int)))) (((w2.setCell ⟨k,6,none⟩ (.int .i64 z)).setCell ⟨k,8,none⟩ (.int .i64 (m.left - (d.n:Int)))).setCell ⟨k,9,none⟩ (.bool true)):=(Touch.refl _ _).set k 9 _ rfl
   have h5:=H4.out.1.block (m':={ { m2 with left:=m.left - (d.n:Int) } with lost:=true }) r5 t5 rfl H4.out.1.goes H4.out.1.left rfl rfl rfl rfl rfl rfl
   have H5:=zH (zA h5 (H4.out.2.2.trans (H4.out.1.step t5)))
   have HE:=zH (show { { m2 with left:=m.left - (d.n:Int) } with lost:=true }={ chip:=qax (false,d),goes:=m.goes,left:=m.left - (d.n:Int),lost:=m.lost || !false } by rw [HM2.out,HL.out];rfl)
   clear r5 t5 h5
   go_wp2_with fail
   go_ret2
   obtain ⟨q1,q2,q3⟩:=HR.out
   rw [q1,q2,q3,E.out,← HE.out]
   exact ⟨none,0,_,rfl,⟨{ { s with cl:=z,left:=m.left - (d.n:Int) } with lost:=true },F',rfl,H5.out.1⟩,⟨qal.nil _ _,fun _ _ e=>by cases e⟩,H5.out.2⟩
 ·
  have E:=zH (show (if 0≤m.left then m.left - (d.n:Int) else m.left)=m.left from if_neg hl0)
  cases whole with
  | true =>
   have HE:=zH (show m2={ chip:=qax (true,d),goes:=m.goes,left:=m.left,lost:=m.lost || !true } by rw [HM2.out,HL.out];rfl)
   go_wp2_with fail
   go_ret2
   obtain ⟨q1,q2,q3⟩:=HR.out
   rw [q1,q2,q3,E.out,← HE.out]
   exact ⟨a,cp,_,rfl,⟨{ s with cl:=z },F',rfl,H3.out.1⟩,H3.out.2.1,H3.out.2.2⟩
  | false =>
   have r5:qbX ((w2.setCell ⟨k,6,none⟩ (.int .i64 z)).setCell ⟨k,9,none⟩ (.bool true)) k { { s with cl:=z } with lost:=true }:=qag (i:=9) (v:=.bool true) H3.out.1.raw
   have t5:Touch (Only k) (w2.setCell ⟨k,6,none⟩ (.int .i64 z)) ((w2.setCell ⟨k,6,none⟩ (.int .i64 z)).setCell ⟨k,9,none⟩ (.bool true)):=(Touch.refl _ _).set k 9 _ rfl
   have h5:=H3.out.1.block (m':={ m2 with lost:=true }) r5 t5 rfl H3.out.1.goes H3.out.1.left rfl rfl rfl rfl rfl rfl
   have H5:=zH (zA h5 (H3.out.2.2.trans (H3.out.1.step t5)))
   have HE:=zH (show { m2 with lost:=true }={ chip:=qax (false,d),goes:=m.goes,left:=m.left,lost:=m.lost || !false } by rw [HM2.out,HL.out];rfl)
   clear r5 t5 h5
   go_wp2_with fail
   go_ret2
   obtain ⟨q1,q2,q3⟩:=HR.out
   rw [q1,q2,q3,E.out,← HE.out]
   exact ⟨none,0,_,rfl,⟨{ { s with cl:=z } with lost:=true },F',rfl,H5.out.1⟩,⟨qal.nil _ _,fun _ _ e=>by cases e⟩,H5.out.2⟩
end
end Go.Proofs.YtcfdenckiigdaaaGreat

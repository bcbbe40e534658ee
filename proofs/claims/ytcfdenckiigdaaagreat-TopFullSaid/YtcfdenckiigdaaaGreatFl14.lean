/- Part 14 of the contracts. -/
import Derived.Test.YtcfdenckiigdaaaGreatFl13
set_option linter.unusedVariables false
set_option maxRecDepth 100000
set_option maxHeartbeats 4000000
namespace Go.Proofs.YtcfdenckiigdaaaGreat
open Tryz
section
open Go.RowKit
variable {X:Nat→Prop}
def IF (k:Nat) (s:mz) (w:World) (G:Nat→Prop) (w3:World):Prop := ∃ b,fF w3 k { s with lv:=.slice (some ⟨b,0,none⟩) 1 1 }∧Touch (aO k) w w3∧w.heap.size≤b∧eB w3 b 0 [bX] G
theorem G8 (w:World) (G:Nat→Prop) (hG : ∀ b,G b→b<w.heap.size):eB ((w.alloc (.cells (Array.replicate 4 (.int .i64 0)) 3)).alloc (.cells #[.int .i64 4,.slice (some ⟨w.heap.size,0,none⟩) 4 4,.int .i64 0,.int .i64 0] 281)) (w.heap.size+1) 0 [bX] G:=by
 have hb:((w.alloc (.cells (Array.replicate 4 (.int .i64 0)) 3)).alloc (.cells #[.int .i64 4,.slice (some ⟨w.heap.size,0,none⟩) 4 4,.int .i64 0,.int .i64 0] 281)).heap[w.heap.size+1]? = some (.cells #[.int .i64 4,.slice (some ⟨w.heap.size,0,none⟩) 4 4,.int .i64 0,.int .i64 0] 281):=by
  have:=af (w.alloc (.cells (Array.replicate 4 (.int .i64 0)) 3)) (.cells #[.int .i64 4,.slice (some ⟨w.heap.size,0,none⟩) 4 4,.int .i64 0,.int .i64 0] 281)
  simpa using this
 have hi:((w.alloc (.cells (Array.replicate 4 (.int .i64 0)) 3)).alloc (.cells #[.int .i64 4,.slice (some ⟨w.heap.size,0,none⟩) 4 4,.int .i64 0,.int .i64 0] 281)).heap[w.heap.size]? = some (.cells (Array.replicate 4 (.int .i64 0)) 3) :=
  aa (ae zR _) (af w _)
 refine ⟨fun _ hf=>by have:=hG _ hf;omega,fun i hi' => ?_⟩
 obtain rfl:i=0:=by simp at hi';omega
 refine ⟨some ⟨w.heap.size,0,none⟩,4,⟨cell_of hb 0,cell_of hb 1,cell_of hb 2,cell_of hb 3,?_⟩,fun b' o' e _ hf => ?_⟩
 ·
  intro j hj
  have hj4:j<4:=hj
  refine ⟨w.heap.size,0,rfl,?_⟩
  rw [cell_of hi]
  have:j=0∨j=1∨j=2∨j=3:=by omega
  rcases this with rfl | rfl | rfl | rfl <;> rfl
 ·
  obtain ⟨rfl,rfl⟩:w.heap.size=b'∧0=o':=by simpa using e
  exact Nat.lt_irrefl _ (hG _ hf)
theorem AR (k bx:Nat) (s:mz) (G:Nat→Prop) (w:World) (h:fF w k s) (hb:w.cell? ⟨bx,0,none⟩=some (.pointer (some ⟨k,0,none⟩))) (hs0:s.o0=0) (hs1:s.o1=1) (hne:bx≠k) (hG : ∀ b,G b→b<w.heap.size) (hk:G k):Calls prog 186 #[.pointer (some ⟨bx,0,none⟩)] w (Ar k 10 (IF k s w G)):=by
 have hmk : ∀ w,(Instr.makeSlice 22 (.int .i64 4) (.int .i64 4)).run prog w=.ok (.slice (some ⟨w.heap.size,0,none⟩) 4 4) (w.alloc (.cells (Array.replicate 4 (.int .i64 0)) 3)):=fun _=>by kernel_rfl
 have hr0:=G8 w G hG
 have hb2:Below w.heap.size w ((w.alloc (.cells (Array.replicate 4 (.int .i64 0)) 3)).alloc (.cells #[.int .i64 4,.slice (some ⟨w.heap.size,0,none⟩) 4 4,.int .i64 0,.int .i64 0] 281)):=ae (ae zR _) _
 have h2:fF _ k s:=aa hb2 h
 have x0:w.drew.cell? ⟨bx,0,none⟩=some (.pointer (some ⟨k,0,none⟩)):=hb
 have hxl:bx<w.heap.size:=zL w _ hb
 have x1:=(hb2.cell (p:=⟨bx,0,none⟩) hxl).trans hb
 have x1a:=((ae (Below.refl w.heap.size w) (.cells (Array.replicate 4 (.int .i64 0)) 3)).cell (p:=⟨bx,0,none⟩) hxl).trans hb
 have d13:((w.alloc (.cells (Array.replicate 4 (.int .i64 0)) 3)).alloc (.cells #[.int .i64 4,.slice (some ⟨w.heap.size,0,none⟩) 4 4,.int .i64 0,.int .i64 0] 281)).cell? ⟨k,13,none⟩=some s.lv:=cell_of h2 13
 have f13:((w.alloc (.cells (Array.replicate 4 (.int .i64 0)) 3)).alloc (.cells #[.int .i64 4,.slice (some ⟨w.heap.size,0,none⟩) 4 4,.int .i64 0,.int .i64 0] 281)).frozen? ⟨k,13,none⟩=false:=aF h2 13
 have HD:=zH (zA h2 (zA hs0 (zA hs1 (zA hr0 hb2))))
 clear h hb hs0 hs1 h2 hr0
 go_enter func186,ntmps186
 go_wp2_with fail
 refine wp_region_noPanic ?_
 refine wp_region_held_drew (S:=(fun w'=>w'.cell? ⟨bx,0,none⟩=some (.pointer (some ⟨k,0,none⟩)))) (by kernel_rfl) (by (try dsimp only);exact x0) fun hHeld => ?_
 refine tk 0 ?_
 refine tr 1 fun K hK => ?_
 go_simp
 refine hK.out _ _ (by (try dsimp only);exact x1a) fun hHeld => ?_
 clear hK K
 try simp only [Act.put,zS,zT,zU]
 refine tk 2 ?_
 refine tr 3 fun K hK => ?_
 go_simp
 refine hK.out _ _ (by (try dsimp only);exact x1) fun hHeld => ?_
 clear hK K
 try simp only [Act.put,zS,zT,zU]
 refine tk 4 ?_
 refine tk 5 ?_
 refine tr 6 fun K hK => ?_
 go_simp
 refine hK.out _ _ (by (try dsimp only);exact ((World.cell?_setCell_other _ _ _ _ (by intro e;have:=congrArg Addr.block e;simp at this;omega)).trans x1)) fun hHeld => ?_
 clear hK K
 try simp only [Act.put,zS,zT,zU]
 refine wpAnyH_done (by kernel_rfl) ?_ _
 refine NoPanic.normal ?_
 go_wp2_with fail
 go_end0
 obtain ⟨h2,hs0,hs1,hr0,hb2⟩:=HD.out
 generalize (w.alloc (.cells (Array.replicate 4 (.int .i64 0)) 3)).alloc (.cells #[.int .i64 4,.slice (some ⟨w.heap.size,0,none⟩) 4 4,.int .i64 0,.int .i64 0] 281)=w2 at *
 have hr:fF (w2.setCell ⟨k,13,none⟩ (.slice (some ⟨w.heap.size+1,0,none⟩) 1 1)) k { s with lv:=.slice (some ⟨w.heap.size+1,0,none⟩) 1 1 }:=az (i:=13) (v:=.slice (some ⟨w.heap.size+1,0,none⟩) 1 1) h2
 have t2:Touch (aO k) w2 (w2.setCell ⟨k,13,none⟩ (.slice (some ⟨w.heap.size+1,0,none⟩) 1 1)):=(Touch.refl _ _).set k 13 _ rfl
 have hp:=(hr0.step (Step.dD (t2.mono fun b e=>by rw [show b=k from e];exact hk))).step (Step.ah (au zR))
 refine ⟨rfl,⟨w.heap.size+1,hr,((Touch.ah hb2).trans t2).drew,by omega,hp⟩,(cell_of hr 10).trans (by simp [mz.row,hs0]),(cell_of hr 11).trans (by simp [mz.row,hs1]),aF hr 10,aF hr 11⟩
def Gd (X:Nat→Prop) (k c:Nat) (m:aG) (G:Nat→Prop) (w:World) (e:Ending) (w':World):Prop :=
 ∃ (b:Nat) (G':Nat→Prop),e=.returned (.slice (some ⟨b,0,none⟩) 1 1)∧bO X w' k c m G'∧Step G G' w w'∧eB w' b 0 [bX] G'
theorem yo (k c:Nat) (m:aG) (G:Nat→Prop) (w:World) (h:bO X w k c m G):Calls prog 157 #[.pointer (some ⟨k,0,none⟩)] w (Gd X k c m G w):=by
 have hmf : ∀ (fn:Fn) (first cap:Array Value) (w:World),(Instr.makeFunc fn first cap).run prog w=.ok (.func fn first cap) w:=fun _ _ _ _=>rfl
 have hb1:Below w.heap.size w (w.alloc (.cells #[.pointer (some ⟨k,0,none⟩)] 85)):=ae zR _
 obtain ⟨s,F,rfl,h0⟩:=h
 have hkl:k<w.heap.size:=h0.lt k h0.own
 have h1:=h0.aj hb1
 have p0:(w.alloc (.cells #[.pointer (some ⟨k,0,none⟩)] 85)).cell? ⟨w.heap.size,0,none⟩=some (.pointer (some ⟨k,0,none⟩)):=cell_of (af w _) 0
 have HB:=zH hb1
 clear h0 hb1
 generalize hW:w.alloc (.cells #[.pointer (some ⟨k,0,none⟩)] 85)=w1 at *
 have hXlt:=h1.leave.1
 rcases h1.leave.2 with ⟨o0,o1,o2⟩ | ⟨o0,o1,o2,b,o3,hph⟩
 ·
  have hr1:fF (w1.setCell ⟨k,11,none⟩ (.int .i32 1)) k { s with o1:=1 }:=az (i:=11) (v:=.int .i32 1) h1.raw
  have k0:(w1.setCell ⟨k,11,none⟩ (.int .i32 1)).cell? ⟨w.heap.size,0,none⟩=some (.pointer (some ⟨k,0,none⟩)):=by
   rw [World.cell?_setCell_other _ _ _ _ (by intro e;have:=congrArg Addr.block e;simp at this;omega)];exact p0
  have HD:=zH (BZ k 10 186 #[.pointer (some ⟨w.heap.size,0,none⟩)] (IF k { s with o1:=1 } (w1.setCell ⟨k,11,none⟩ (.int .i32 1)) (fun i=>G i∨X i)) w1 ((cell_of h1.raw 10).trans (by simp [mz.row,o0])) ((cell_of h1.raw 11).trans (by simp [mz.row,o1])) (aF h1.raw 10) (aF h1.raw 11) (fun _=>by kernel_rfl) (AR k w.heap.size { s with o1:=1 } (fun i=>G i∨X i) _ hr1 k0 o0 rfl (by omega) (fun b hb=>by rw [World.size_setCell];exact hb.elim (h1.lt b) (hXlt b)) (.inl h1.own)))
  have t1:Touch (aO k) w1 (w1.setCell ⟨k,11,none⟩ (.int .i32 1)):=(Touch.refl _ _).set k 11 _ rfl
  have HH:=zH (zA h1 (zA t1 o2))
  clear h1 hr1 k0 o0 o1 o2 t1
  go_enter func157,ntmps157
  go_wp2_with fail
  try rw [hW]
  refine HD.out.mono ?_
  rintro e w2 ⟨rfl,w3,⟨b,q,tq,hbs,hph⟩,rfl⟩
  obtain ⟨h1,t1,o2⟩:=HH.out
  have q2:fF ((w3.drew.setCell ⟨k,10,none⟩ (.int .u32 1)).setCell ⟨k,11,none⟩ (.int .i32 0)) k { s with o0:=1,o1:=0,lv:=.slice (some ⟨b,0,none⟩) 1 1 } :=
   az (i:=11) (v:=.int .i32 0) (az (i:=10) (v:=.int .u32 1) (show fF w3.drew k _ from q))
  have t3:Touch (aO k) w3 ((w3.drew.setCell ⟨k,10,none⟩ (.int .u32 1)).setCell ⟨k,11,none⟩ (.int .i32 0)):=(((Touch.refl (aO k) w3).drew).set k 10 _ rfl).set k 11 _ rfl
  have t2:Touch (aO k) w1 ((w3.drew.setCell ⟨k,10,none⟩ (.int .u32 1)).setCell ⟨k,11,none⟩ (.int .i32 0)):=(t1.trans tq).trans t3
  have hG : ∀ b,aO k b→G b:=fun b e=>by rw [show b=k from e];exact h1.own
  have hph2:=hph.step (Step.dD (t3.mono fun b e=>.inl (hG b e)))
  have px:((w3.drew.setCell ⟨k,10,none⟩ (.int .u32 1)).setCell ⟨k,11,none⟩ (.int .i32 0)).cell? ⟨w.heap.size,0,none⟩=some (.pointer (some ⟨k,0,none⟩)):=t2.cell _ _ p0 (fun e=>by have:w.heap.size=k:=e;omega)
  have h2:kQ X ((w3.drew.setCell ⟨k,10,none⟩ (.int .u32 1)).setCell ⟨k,11,none⟩ (.int .i32 0)) k { s with o0:=1,o1:=0,lv:=.slice (some ⟨b,0,none⟩) 1 1 } m F G :=
   ⟨q2,h1.aD,h1.left,h1.lost,h1.ar.fB t2 (fun b hb e=>h1.fB (by rw [← show b=k from e];exact hb)) (fun hl e=>h1.home hl (by rw [show m.ar.home=k from e];exact h1.own)),⟨fun i hi=>zV (hXlt i hi) t2.size,.inr ⟨rfl,rfl,o2,b,rfl,hph2⟩⟩,h1.fB,h1.sub,h1.own,h1.home,fun b hb=>zV (h1.lt b hb) t2.size⟩
  have st:=(Step.ah (F:=G) HB.out).trans (Step.dD (t2.mono hG))
  have c13:=cell_of q2 13
  have HF:=zH (zA h2 (zA st (hph2.sub fun _ h=>.inl h)))
  generalize (w3.drew.setCell ⟨k,10,none⟩ (.int .u32 1)).setCell ⟨k,11,none⟩ (.int .i32 0)=w4 at *
  replace c13:w4.cell? ⟨k,13,none⟩=some (.slice (some ⟨b,0,none⟩) 1 1):=c13
  clear q tq q2 t2 h2 t3 st h1 t1 HD HH hph hph2 hG hbs
  go_wp2
  go_ret
  exact ⟨b,G,rfl,⟨{ s with o0:=1,o1:=0,lv:=.slice (some ⟨b,0,none⟩) 1 1 },F,rfl,HF.out.1⟩,HF.out.2⟩
 ·
  have HD:=zH (fun fv=>Fx ⟨k,10,none⟩ 1 (by decide) fv w1 ((cell_of h1.raw 10).trans (by simp [mz.row,o0])))
  have c13:w1.cell? ⟨k,13,none⟩=some (.slice (some ⟨b,0,none⟩) 1 1):=by rw [← o3];exact cell_of h1.raw 13
  have HF:=zH (zA h1 (zA (Step.ah (F:=G) HB.out) (hph.sub fun _ h=>.inl h)))
  clear h1 o0 o1 o2 o3 hph
  go_enter func157,ntmps157
  go_wp2_with fail
  try rw [hW]
  refine (HD.out _).mono ?_
  rintro e w2 ⟨rfl,rfl⟩
  go_wp2
  go_ret
  exact ⟨b,G,rfl,⟨_,F,rfl,HF.out.1⟩,HF.out.2⟩
end
section
open Go.RowKit
variable {X:Nat→Prop}
structure ag.Good (m:ag):Prop where
 ok:m.Ok
 busy : ∀ x ∈ m.busy,1≤x∧x≤400
theorem uI {m:ag} (h:m.Good) (j:iE) (hj:vK j):(m.dO j).Good:=by
 unfold ag.dO
 split
 ·
  exact h
 ·
  split
  ·
   exact ⟨⟨h.ok.size,h.ok.aZ,h.ok.fX,h.ok.gG,h.ok.op,h.ok.data⟩,h.busy⟩
  ·
   refine ⟨⟨h.ok.size,fun x hx => ?_,h.ok.fX,h.ok.gG,h.ok.op,h.ok.data⟩,fun x hx=>h.busy x (List.mem_of_mem_drop hx)⟩
   obtain rfl:({ j with left:=m.busy.headD 8 }:iE)=x:=by simpa using hx
   have hb:1≤m.busy.headD 8∧m.busy.headD 8≤400:=by
    cases hm:m.busy with
    | nil=>exact ⟨by decide,by decide⟩
    | cons y r=>exact h.busy y (by rw [hm];simp)
   exact ⟨hj,by show 1≤m.busy.headD 8;omega,by show m.busy.headD 8≤4096;omega⟩
theorem GJ {m:ag} (h:m.Good):m.gp.Good:=by
 have o:=h.ok
 unfold ag.gp
 split
 ·
  exact ⟨⟨o.size,o.aZ,o.fX,o.gG,o.op,o.data⟩,h.busy⟩
 split
 ·
  exact ⟨⟨o.size,o.aZ,o.fX,o.gG,o.op,o.data⟩,h.busy⟩
 split
 ·
  unfold ag.bN
  split
  ·
   rename_i j hj
   split
   ·
    exact h
   ·
    refine ⟨⟨o.size,fun x hx => ?_,o.fX,o.gG,o.op,o.data⟩,h.busy⟩
    obtain rfl:({ j with hZ:=true }:iE)=x:=by simpa using hx
    exact o.aZ j hj
  ·
   exact h
 split
 ·
  unfold ag.gM
  split
  ·
   rename_i j hj
   refine ⟨⟨o.size,fun x hx => ?_,o.fX,o.gG,o.op,o.data⟩,h.busy⟩
   obtain rfl:({ j with hZ:=false }:iE)=x:=by simpa using hx
   exact o.aZ j hj
  ·
   exact h
 split
 ·
  unfold ag.dB
  split
  ·
   exact ⟨⟨o.size,o.aZ,o.fX,o.gG,o.op,o.data⟩,h.busy⟩
  ·
   exact h
 split
 ·
  unfold ag.ju
  split
  ·
   refine uI h _ (.inl ⟨rfl,(m.addr - m.addr % 32).toNat,?_,?_,oY _ _⟩)
   ·
    have:=o.fX;show m.addr - m.addr % 32=_;omega
   ·
    have:=o.fX;have:=o.gG;omega
  ·
   exact h
 split
 ·
  unfold ag.erases
  refine uI h _ (.inr ⟨(m.addr / 512).toNat,?_,?_⟩)
  ·
   have:=o.fX;show m.addr / 512=_;omega
  ·
   have:=o.fX;have:=o.gG;omega
 split
 ·
  exact ⟨⟨o.size,o.aZ,o.fX,o.gG,o.op,o.data⟩,h.busy⟩
 ·
  exact h
theorem GM {m:ag} (h:m.Good):m.ends.Good:=by
 unfold ag.ends
 split
 ·
  exact h
 ·
  exact GJ h
theorem yk {m:ag} (h:m.Good):m.fw.Good:=GM ⟨Dw h.ok,h.busy⟩
theorem uJ (m:ag) (j:iE):(m.dO j).dQ=m.dQ∧(m.dO j).home=m.home∧((m.dO j).busy=m.busy∨(m.dO j).busy=m.busy.drop 1):=by
 unfold ag.dO
 split
 ·
  exact ⟨rfl,rfl,.inl rfl⟩
 ·
  split
  ·
   exact ⟨rfl,rfl,.inl rfl⟩
  ·
   exact ⟨rfl,rfl,.inr rfl⟩
theorem GK (m:ag):m.gp.dQ=m.dQ∧m.gp.home=m.home∧(m.gp.busy=m.busy∨m.gp.busy=m.busy.drop 1):=by
 unfold ag.gp
 split
 ·
  exact ⟨rfl,rfl,.inl rfl⟩
 split
 ·
  exact ⟨rfl,rfl,.inl rfl⟩
 split
 ·
  unfold ag.bN
  split
  ·
   split <;> exact ⟨rfl,rfl,.inl rfl⟩
  ·
   exact ⟨rfl,rfl,.inl rfl⟩
 split
 ·
  unfold ag.gM
  split <;> exact ⟨rfl,rfl,.inl rfl⟩
 split
 ·
  unfold ag.dB
  split <;> exact ⟨rfl,rfl,.inl rfl⟩
 split
 ·
  unfold ag.ju
  split
  ·
   exact uJ _ _
  ·
   exact ⟨rfl,rfl,.inl rfl⟩
 split
 ·
  exact uJ _ _
 split <;> exact ⟨rfl,rfl,.inl rfl⟩
theorem l9 (m:ag):m.fw.dQ=false∧m.fw.home=m.home∧(m.fw.busy=m.busy∨m.fw.busy=m.busy.drop 1):=by
 unfold ag.fw ag.ends
 split
 ·
  exact ⟨rfl,rfl,.inl rfl⟩
 ·
  exact GK m.uQ
theorem sk (P:ag→Prop) (hP : ∀ m x,P m→P (m.clock x).2) : ∀ (xs:List Int) (d:aI),P d.ar→P (aI.row xs d).2.ar
 | [],d,h=>h
 | x::r,d,h=>by
  unfold aI.row
  split
  ·
   exact h
  ·
   exact sk P hP r (d.tick x) (hP _ _ h)
theorem Cj (P:ag→Prop) (hP : ∀ m x,P m→P (m.clock x).2) (L:Int) : ∀ (k:Nat) (xs:List Int) (d:aI),P d.ar→P (aI.im L k xs d).2.2.ar
 | 0,xs,d,h=>h
 | k+1,xs,d,h=>by
  unfold aI.im
  split
  ·
   exact h
  ·
   exact Cj P hP L k _ (d.tick 15) (hP _ _ h)
theorem FD (P:ag→Prop) (hP : ∀ m x,P m→P (m.clock x).2) (L:Int) (d:aI) (h:P d.ar):P (aI.get L d).2.ar:=by
 have h:=Cj P hP L (many L).toNat [] d h
 unfold aI.get aI.cO
 split <;> exact h
theorem rU (P:ag→Prop) (hP : ∀ m x,P m→P (m.clock x).2) (L:Int) : ∀ (bs:List Int) (d:aI),P d.ar→P (aI.dB L bs d).2.ar
 | [],d,h=>h
 | b::r,d,h=>by
  unfold aI.dB
  split
  ·
   exact rU P hP L r _ (sk P hP _ _ h)
  ·
   exact sk P hP _ _ h
theorem Cc (P:ag→Prop) (hP : ∀ m x,P m→P (m.clock x).2) (L:Int) : ∀ (k:Nat) (d:aI),P d.ar→P (aI.fZ L k d).2.ar
 | 0,d,h=>h
 | k+1,d,h=>by
  unfold aI.fZ
  split
  ·
   exact Cc P hP L k _ (FD P hP L d h)
  ·
   exact FD P hP L d h
theorem zJ (P:ag→Prop) (hP : ∀ m x,P m→P (m.clock x).2) (p:Ph) (d:aI) (h:P d.ar):P (aI.phase p d).2.ar:=by
 unfold aI.phase andThen
 dsimp only
 split
 ·
  split
  ·
   exact Cc P hP _ _ _ (sk P hP _ _ (rU P hP _ _ _ h))
  ·
   exact sk P hP _ _ (rU P hP _ _ _ h)
 ·
  exact rU P hP _ _ _ h
theorem qI (P:ag→Prop) (hP : ∀ m x,P m→P (m.clock x).2) : ∀ (ps:List Ph) (d:aI),P d.ar→P (aI.eR ps d).2.ar
 | [],d,h=>h
 | p::r,d,h=>by
  unfold aI.eR andThen
  split
  ·
   exact qI P hP r _ (zJ P hP p d h)
  ·
   exact zJ P hP p d h
theorem Dc (m:ag):m.select.busy=m.busy∧m.select.home=m.home:=by
 unfold ag.select
 split
 ·
  exact ⟨(ng _ _).2.1,oD _ _⟩
 ·
  exact ⟨rfl,rfl⟩
theorem ud (m:ag) (ps:List Ph) (bh:Int):(ie m ps bh).2.ar.busy=m.busy∧(ie m ps bh).2.ar.home=m.home :=
 qI (fun c=>c.busy=m.busy∧c.home=m.home) (fun c x h=>⟨(fp c x).1.trans h.1,(fp c x).2.trans h.2⟩) ps (aI.new m bh) (Dc m)
theorem xp : ∀ (ps:List Ph) (ok : ∀ i,i<ps.length→mW (ps.getD i Ph.none)) (d:aI) (k:Nat),d.Fit (eU * ps.length+k)→(aI.eR ps d).2.Fit k
 | [],ok,d,k,h=>by simpa [aI.eR] using h
 | p::r,ok,d,k,h=>by
  have h1:=zI p (ok 0 (by simp)) d (eU * r.length+k) (cA h (by simp [Nat.mul_add];omega))
  unfold aI.eR andThen
  split
  ·
   exact xp r (fun i hi=>ok (i+1) (by simp;omega)) _ k h1
  ·
   exact cA h1 (by omega)
theorem ue {m:ag} (h:m.Good) (ps:List Ph) (ok : ∀ i,i<ps.length→mW (ps.getD i Ph.none)) (hl:ps.length≤100) (bh:Int):(cj (ie m ps bh)).Good∧(ie m ps bh).2.n<1099511627776:=by
 have hf:=xp ps ok (aI.new m bh) 0 ⟨xJ h.ok 0,by show 0+(eU * ps.length+0)<_;unfold eU;omega⟩
 have hb:=ud m ps bh
 have hg:(ie m ps bh).2.ar.Good:=⟨hf.ar.base.ok,fun x hx=>h.busy x (by rw [← hb.1];exact hx)⟩
 refine ⟨?_,by have h:=hf.Kp;have e:(ie m ps bh).2.n+0<1099511627776:=h;omega⟩
 unfold cj
 split
 ·
  exact yk hg
 ·
  exact hg
theorem uf (m:ag) (ps:List Ph) (bh:Int):(cj (ie m ps bh)).home=m.home∧((cj (ie m ps bh)).busy=m.busy∨(cj (ie m ps bh)).busy=m.busy.drop 1):=by
 have hb:=ud m ps bh
 unfold cj
 split
 ·
  obtain ⟨_,h1,h2⟩:=l9 (ie m ps bh).2.ar
  rw [hb.2] at h1
  rw [hb.1] at h2
  exact ⟨h1,h2⟩
 ·
  exact ⟨hb.2,.inl hb.1⟩
structure aG.Ok (m:aG):Prop where
 cn:m.ar.Good
 dQ:m.lost=false→m.ar.dQ=false
 kx : -1≤m.left
 ln:m.left≤1099511627776
def aG.r (m:aG) (ps:List Ph):Bool×aI:=ie m.ar ps m.left
def aG.cN (m:aG) (ps:List Ph):aG:={ ar:=cj (m.r ps),aD:=m.aD,left:=if 0≤m.left then m.left - ((m.r ps).2.n:Int) else m.left,lost:=m.lost || !(m.r ps).1 }
def aG.gq (m:aG) (ps:List Ph):List Int:=if (m.r ps).1=true then (m.r ps).2.out else []
def aG.iR (m:aG) (ps:List Ph):Int:=if (m.r ps).1=true then 0 else 1101
theorem xE : ∀ (xs:List Int) (d:aI),(aI.row xs d).2.bh=d.bh∧(0≤d.bh→(d.n:Int)≤d.bh→((aI.row xs d).2.n:Int)≤d.bh)
 | [],d=>⟨rfl,fun _ h=>h⟩
 | x::r,d=>by
  unfold aI.row
  split
  ·
   exact ⟨rfl,fun _ h=>h⟩
  ·
   rename_i hs
   obtain ⟨h1,h2⟩:=xE r (d.tick x)
   refine ⟨h1,fun h0 hn=>h2 h0 ?_⟩
   unfold aI.stop at hs
   simp at hs
   have:=hs h0
   show ((d.n+1:Nat):Int)≤d.bh
   omega
theorem zr (L:Int) : ∀ (k:Nat) (xs:List Int) (d:aI),(aI.im L k xs d).2.2.bh=d.bh∧(0≤d.bh→(d.n:Int)≤d.bh→((aI.im L k xs d).2.2.n:Int)≤d.bh)
 | 0,xs,d=>⟨rfl,fun _ h=>h⟩
 | k+1,xs,d=>by
  unfold aI.im
  split
  ·
   exact ⟨rfl,fun _ h=>h⟩
  ·
   rename_i hs
   obtain ⟨h1,h2⟩:=zr L k (xs++[heard L (d.said 15)]) (d.tick 15)
   refine ⟨h1,fun h0 hn=>h2 h0 ?_⟩
   unfold aI.stop at hs
   simp at hs
   have:=hs h0
   show ((d.n+1:Nat):Int)≤d.bh
   omega
def Kept (d e:aI):Prop:=e.bh=d.bh∧(0≤d.bh→(d.n:Int)≤d.bh→(e.n:Int)≤d.bh)
theorem Kept.trans {a b c:aI} (h:Kept a b) (k:Kept b c):Kept a c:=⟨k.1.trans h.1,fun h0 hn=>by have:=k.2 (by rw [h.1];exact h0) (by rw [h.1];exact h.2 h0 hn);rw [h.1] at this;exact this⟩
theorem Kept.refl (d:aI):Kept d d:=⟨rfl,fun _ h=>h⟩
theorem Ca (L:Int) (d:aI):Kept d (aI.get L d).2:=by
 have h:=zr L (many L).toNat [] d
 unfold aI.get aI.cO
 split <;> exact h
theorem zW (L:Int) : ∀ (bs:List Int) (d:aI),Kept d (aI.dB L bs d).2
 | [],d=>Kept.refl d
 | b::r,d=>by
  have h:Kept d (aI.put b L d).2:=xE _ d
  unfold aI.dB
  split
  ·
   exact h.trans (zW L r _)
  ·
   exact h
theorem zo (L:Int) : ∀ (k:Nat) (d:aI),Kept d (aI.fZ L k d).2
 | 0,d=>Kept.refl d
 | k+1,d=>by
  unfold aI.fZ
  split
  ·
   exact (Ca L d).trans (zo L k _)
  ·
   exact Ca L d
theorem xo (p:Ph) (d:aI):Kept d (aI.phase p d).2:=by
 have h1:=zW p.bW p.bytes d
 unfold aI.phase andThen
 dsimp only
 split
 ·
  have h2:Kept _ (aI.row (List.replicate p.eN.toNat 15) (aI.dB p.bW p.bytes d).2).2:=xE _ _
  split
  ·
   exact (h1.trans h2).trans (zo _ _ _)
  ·
   exact h1.trans h2
 ·
  exact h1
theorem oZ : ∀ (ps:List Ph) (d:aI),Kept d (aI.eR ps d).2
 | [],d=>Kept.refl d
 | p::r,d=>by
  unfold aI.eR andThen
  split
  ·
   exact (xo p d).trans (oZ r _)
  ·
   exact xo p d
theorem aG.Ok.cN {m:aG} (h:m.Ok) (hl:m.lost=false) (ps:List Ph) (ok : ∀ i,i<ps.length→mW (ps.getD i Ph.none)) (hn:ps.length≤100):(m.cN ps).Ok:=by
 obtain ⟨h1,h2⟩:=ue h.cn ps ok hn m.left
 have hk:Kept (aI.new m.ar m.left) (m.r ps).2:=oZ ps (aI.new m.ar m.left)
 have a:=h.kx
 have b:=h.ln
 refine ⟨h1,fun he => ?_,?_,?_⟩
 ·
  have he':(m.lost || !(m.r ps).1)=false:=he
  have:(m.r ps).1=true:=by rw [hl] at he';simpa using he'
  show (cj (m.r ps)).dQ=false
  unfold cj
  rw [if_pos this]
  exact (l9 _).1
 ·
  show -1≤if 0≤m.left then m.left - ((m.r ps).2.n:Int) else m.left
  split
  ·
   rename_i h0
   have:=hk.2 h0 h0
   have e:((m.r ps).2.n:Int)≤m.left:=this
   omega
  ·
   exact a
 ·
  show (if 0≤m.left then m.left - ((m.r ps).2.n:Int) else m.left)≤_
  split <;> omega
def mY (X:Nat→Prop) (xs:List Int) (er:Int) (k c:Nat) (m:aG) (G:Nat→Prop) (w:World) (e:Ending) (w':World):Prop :=
 ∃ (a:Option Addr) (cp:Nat) (G':Nat→Prop),e=.returned (.tuple #[.slice a xs.length cp,.int .i64 er])∧bO X w' k c m G'∧aN w' a xs G'∧Step G G' w w'
theorem ic (k c b o cap:Nat) (m:aG) (G:Nat→Prop) (ps:List Ph) (w:World) (h:bO X w k c m G) (ok:m.Ok) (hlost:m.lost=false) (hph:eB w b o ps G) (hps : ∀ i,i<ps.length→mW (ps.getD i Ph.none)) (hl:ps.length≤100):Calls prog 156 #[.pointer (some ⟨k,0,none⟩),.slice (some ⟨b,o,none⟩) ps.length cap] w (mY X (m.gq ps) (m.iR ps) k c (m.cN ps) G w):=by
 obtain ⟨s,F,rfl,h0⟩:=h
 have h:=h0.aj (au (Below.refl w.heap.size w))
 have hph1:=hph.step (Step.ah (F:=G) (au (Below.refl w.heap.size w)))
 have c0:w.drew.cell? ⟨k,0,none⟩=some (.pointer (some ⟨s.c,0,none⟩)):=cell_of h.raw 0
 have c8:w.drew.cell? ⟨k,8,none⟩=some (.int .i64 m.left):=by rw [← h.left];exact cell_of h.raw 8
 have HD:=zH (B0 s.c b o cap m.ar F ps m.left w.drew h.ar ok.cn.ok (ok.dQ hlost) (hph1.sub h.sub) hps hl)
 have HH:=zH h
 have HL:=zH hlost
 have HK:=zH (zA ok.kx ok.ln)
 have HN:=zH (ue ok.cn ps hps hl m.left).2
 have HHM:=zH (uf m.ar ps m.left)
 have hkm:0≤m.left→((m.r ps).2.n:Int)≤m.left:=fun h0'=>(oZ ps (aI.new m.ar m.left)).2 h0' h0'
 have HKM:=zH hkm
 have HR:=zH (show m.cN ps={ ar:=cj (m.r ps),aD:=m.aD,left:=if 0≤m.left then m.left - ((m.r ps).2.n:Int) else m.left,lost:=m.lost || !(m.r ps).1 }∧m.gq ps=(if (m.r ps).1=true then (m.r ps).2.out else [])∧m.iR ps=(if (m.r ps).1=true then 0 else 1101) from ⟨rfl,rfl,rfl⟩)
 have hrr:ie m.ar ps m.left=m.r ps:=rfl
 rw [hrr] at HD HN HHM
 clear h0 h ok hlost hph hph1 hps hl hkm hrr
 generalize m.r ps=r at *
 generalize m.cN ps=mm at *
 generalize m.gq ps=xx at *
 generalize m.iR ps=ee at *
 obtain ⟨whole,d⟩:=r
 simp only at HD HN HHM HKM HR
 go_enter func156,ntmps156
 go_wp2_with fail
 refine wp_region_noPanic ?_
 refine wp_region_held_drew (S:=(fun w'=>w'.cell? ⟨k,0,none⟩=some (.pointer (some ⟨s.c,0,none⟩))∧w'.cell? ⟨k,8,none⟩=some (.int .i64 m.left))) (by kernel_rfl) (by (try dsimp only);exact ⟨c0,c8⟩) fun hHeld => ?_
 refine tk 0 ?_
 refine tk 1 ?_
 refine tk 2 ?_
 refine tk 3 ?_
 refine tk 4 ?_
 refine tk 5 ?_
 refine tk 6 ?_
 refine tk 7 ?_
 refine tk 8 ?_
 refine tr 9 fun K hK => ?_
 go_simp
 go_at_call 184
 refine HD.out.mono ?_
 rintro e w2 ⟨a,cp,F',rfl,hc,hs,st,hnew⟩
 simp only at hc hs
 have hr2:fF w2 k s:=st.aH.at HH.out.raw HH.out.fB
 have hkl:k<w.drew.heap.size:=aP HH.out.raw
 obtain ⟨m2,hm2⟩ : ∃ m2:aG,m2={ m with ar:=cj (whole,d) }:=⟨_,rfl⟩
 have hC:kQ X w2 k s m2 F' (fun b=>F' b∨G b):=by
  have h:=HH.out
  rw [hm2]
  refine ⟨hr2,h.aD,h.left,h.lost,hc,?_,fun hf=>st.safe hkl h.fB hf,fun b hb=>.inl hb,.inr h.own,fun hl hf => ?_,fun b hb => ?_⟩
  ·
   have st':Step G (fun b=>F' b∨G b) w.drew w2:=⟨st.aH.mono h.sub,fun b hb=>hb.elim (fun hb=>(st.ik b hb).elim (fun x=>.inl (h.sub b x)) .inr) .inl⟩
   exact h.leave.step st'
  ·
   obtain ⟨q1,q2⟩:=HHM.out
   have hl2:0<m.ar.busy.length:=by
    have hl':0<(cj (whole,d)).busy.length:=hl
    rcases q2 with q2 | q2
    ·
     rw [q2] at hl';exact hl'
    ·
     rw [q2] at hl';simp at hl';omega
   obtain ⟨q3,q4⟩:=h.ar.home hl2
   have hf':F' m.ar.home∨G m.ar.home:=by
    have hf2:F' (cj (whole,d)).home∨G (cj (whole,d)).home:=hf
    rw [q1] at hf2;exact hf2
   rcases hf' with hf' | hf'
   ·
    exact st.safe q3 q4 hf'
   ·
    exact h.home hl2 hf'
  ·
   rcases hb with hb | hb
   ·
    exact hc.lt b hb
   ·
    exact zV (h.lt b hb) st.aH.size
 have hsafe:aN w2 a d.out (fun b=>F' b∨G b):=⟨hs.1,fun b o e hl hf=>by
  rcases hf with hf | hf
  ·
   exact hs.2 b o e hl hf
  ·
   have:=hnew b o e;have:=HH.out.lt b hf;omega⟩
 have st2:Step G (fun b=>F' b∨G b) w w2:=(Step.ah (au zR)).trans ⟨st.aH.mono HH.out.sub,fun b hb=>hb.elim (fun hb=>(st.ik b hb).elim (fun x=>.inl (HH.out.sub b x)) .inr) .inl⟩
 have HX:=zH (zA hC (zA hsafe st2))
 have HM2:=zH hm2
 have d0:w2.cell? ⟨k,0,none⟩=some (.pointer (some ⟨s.c,0,none⟩)):=cell_of hr2 0
 have d8:w2.cell? ⟨k,8,none⟩=some (.int .i64 m.left):=by rw [← HH.out.left];exact cell_of hr2 8
 clear hc hs st hnew hr2 hC hsafe st2 hm2
 go_wp2_with fail
 refine hK.out _ _ (by (try dsimp only);exact ⟨d0,d8⟩) fun hHeld => ?_
 clear hK K
 try simp only [Act.put,zS,zT,zU]
 refine tk 10 ?_
 refine tk 11 ?_
 refine tk 12 ?_
 refine tk 13 ?_
 refine tk 14 ?_
 refine tk 15 ?_
 refine tk 16 ?_
 refine tk 17 ?_
 refine tk 18 ?_
 refine wpAnyH_done (by kernel_rfl) ?_ _
 refine NoPanic.normal ?_
 have hr2:fF w2 k s:=HX.out.1.raw
 have d6:w2.cell? ⟨k,6,none⟩=some (.int .i64 s.cl):=cell_of hr2 6
 have f6:w2.frozen? ⟨k,6,none⟩=false:=aF hr2 6
 obtain ⟨z,hz⟩ : ∃ z:Int,wrap64 (s.cl+(d.n:Int))=z:=⟨_,rfl⟩
 have hr3:fF (w2.setCell ⟨k,6,none⟩ (.int .i64 z)) k { s with cl:=z }:=az (i:=6) (v:=.int .i64 z) hr2
 have t3:Touch (aO k) w2 (w2.setCell ⟨k,6,none⟩ (.int .i64 z)):=(Touch.refl _ _).set k 6 _ rfl
 have h3:=HX.out.1.block hr3 t3 rfl HX.out.1.aD HX.out.1.left HX.out.1.lost rfl rfl rfl rfl rfl
 have st3:=HX.out.2.2.trans (HX.out.1.step t3)
 have hs3:=HX.out.2.1.step (HX.out.1.step t3)
 have H3:=zH (zA h3 (zA hs3 st3))
 have e8:(w2.setCell ⟨k,6,none⟩ (.int .i64 z)).cell? ⟨k,8,none⟩=some (.int .i64 m.left):=by rw [← HH.out.left];exact cell_of hr3 8
 have g8:(w2.setCell ⟨k,6,none⟩ (.int .i64 z)).frozen? ⟨k,8,none⟩=false:=aF hr3 8
 have g9:(w2.setCell ⟨k,6,none⟩ (.int .i64 z)).frozen? ⟨k,9,none⟩=false:=aF hr3 9
 have e9:(w2.setCell ⟨k,6,none⟩ (.int .i64 z)).cell? ⟨k,9,none⟩=some (.bool s.lost):=cell_of hr3 9
 clear hr2 hr3 t3 h3 st3 hs3
 obtain ⟨k0,k1⟩:=HK.out
 by_cases hl0:0≤m.left
 ·
  have hkn:=HKM.out hl0
  have r4:fF ((w2.setCell ⟨k,6,none⟩ (.int .i64 z)).setCell ⟨k,8,none⟩ (.int .i64 (m.left - (d.n:Int)))) k { s with cl:=z,left:=m.left - (d.n:Int) }:=az (i:=8) (v:=.int .i64 (m.left - (d.n:Int))) H3.out.1.raw
  have t4:Touch (aO k) (w2.setCell ⟨k,6,none⟩ (.int .i64 z)) ((w2.setCell ⟨k,6,none⟩ (.int .i64 z)).setCell ⟨k,8,none⟩ (.int .i64 (m.left - (d.n:Int)))):=(Touch.refl _ _).set k 8 _ rfl
  have h4:=H3.out.1.block (m':={ m2 with left:=m.left - (d.n:Int) }) r4 t4 rfl H3.out.1.aD rfl H3.out.1.lost rfl rfl rfl rfl rfl
  have H4:=zH (zA h4 (zA (H3.out.2.1.step (H3.out.1.step t4)) (H3.out.2.2.trans (H3.out.1.step t4))))
  have x9:((w2.setCell ⟨k,6,none⟩ (.int .i64 z)).setCell ⟨k,8,none⟩ (.int .i64 (m.left - (d.n:Int)))).cell? ⟨k,9,none⟩=some (.bool s.lost):=cell_of r4 9
  have y9:((w2.setCell ⟨k,6,none⟩ (.int .i64 z)).setCell ⟨k,8,none⟩ (.int .i64 (m.left - (d.n:Int)))).frozen? ⟨k,9,none⟩=false:=aF r4 9
  have E:=zH (show (if 0≤m.left then m.left - (d.n:Int) else m.left)=m.left - (d.n:Int) from if_pos hl0)
  have hnn:0≤(d.n:Int):=by omega
  clear r4 t4 h4
  cases whole with
  | true =>
   have HE:=zH (show { m2 with left:=m.left - (d.n:Int) }={ ar:=cj (true,d),aD:=m.aD,left:=m.left - (d.n:Int),lost:=m.lost || !true } by rw [HM2.out,HL.out];rfl)
   go_wp2
   go_ret2
   obtain ⟨q1,q2,q3⟩:=HR.out
   rw [q1,q2,q3,E.out,← HE.out]
   exact ⟨a,cp,_,rfl,⟨{ s with cl:=z,left:=m.left - (d.n:Int) },F',rfl,H4.out.1⟩,H4.out.2.1,H4.out.2.2⟩
  | false =>
   have r5:fF (((w2.setCell ⟨k,6,none⟩ (.int .i64 z)).setCell ⟨k,8,none⟩ (.int .i64 (m.left - (d.n:Int)))).setCell ⟨k,9,none⟩ (.bool true)) k { { s with cl:=z,left:=m.left - (d.n:Int) } with lost:=true }:=az (i:=9) (v:=.bool true) H4.out.1.raw
   have t5:Touch (aO k) ((w2.setCell ⟨k,6,none⟩ (.int .i64 z)).setCell ⟨k,8,none⟩ (.int .i64 (m.left - (d.n:Int)))) (((w2.setCell ⟨k,6,none⟩ (.int .i64 z)).setCell ⟨k,8,none⟩ (.int .i64 (m.left - (d.n:Int)))).setCell ⟨k,9,none⟩ (.bool true)):=(Touch.refl _ _).set k 9 _ rfl
   have h5:=H4.out.1.block (m':={ { m2 with left:=m.left - (d.n:Int) } with lost:=true }) r5 t5 rfl H4.out.1.aD H4.out.1.left rfl rfl rfl rfl rfl rfl
   have H5:=zH (zA h5 (H4.out.2.2.trans (H4.out.1.step t5)))
   have HE:=zH (show { { m2 with left:=m.left - (d.n:Int) } with lost:=true }={ ar:=cj (false,d),aD:=m.aD,left:=m.left - (d.n:Int),lost:=m.lost || !false } by rw [HM2.out,HL.out];rfl)
   clear r5 t5 h5
   go_wp2
   go_ret2
   obtain ⟨q1,q2,q3⟩:=HR.out
   rw [q1,q2,q3,E.out,← HE.out]
   exact ⟨none,0,_,rfl,⟨{ { s with cl:=z,left:=m.left - (d.n:Int) } with lost:=true },F',rfl,H5.out.1⟩,⟨aU.nil _ _,fun _ _ e=>by cases e⟩,H5.out.2⟩
 ·
  have E:=zH (show (if 0≤m.left then m.left - (d.n:Int) else m.left)=m.left from if_neg hl0)
  cases whole with
  | true =>
   have HE:=zH (show m2={ ar:=cj (true,d),aD:=m.aD,left:=m.left,lost:=m.lost || !true } by rw [HM2.out,HL.out];rfl)
   go_wp2
   go_ret2
   obtain ⟨q1,q2,q3⟩:=HR.out
   rw [q1,q2,q3,E.out,← HE.out]
   exact ⟨a,cp,_,rfl,⟨{ s with cl:=z },F',rfl,H3.out.1⟩,H3.out.2.1,H3.out.2.2⟩
  | false =>
   have r5:fF ((w2.setCell ⟨k,6,none⟩ (.int .i64 z)).setCell ⟨k,9,none⟩ (.bool true)) k { { s with cl:=z } with lost:=true }:=az (i:=9) (v:=.bool true) H3.out.1.raw
   have t5:Touch (aO k) (w2.setCell ⟨k,6,none⟩ (.int .i64 z)) ((w2.setCell ⟨k,6,none⟩ (.int .i64 z)).setCell ⟨k,9,none⟩ (.bool true)):=(Touch.refl _ _).set k 9 _ rfl
   have h5:=H3.out.1.block (m':={ m2 with lost:=true }) r5 t5 rfl H3.out.1.aD H3.out.1.left rfl rfl rfl rfl rfl rfl
   have H5:=zH (zA h5 (H3.out.2.2.trans (H3.out.1.step t5)))
   have HE:=zH (show { m2 with lost:=true }={ ar:=cj (false,d),aD:=m.aD,left:=m.left,lost:=m.lost || !false } by rw [HM2.out,HL.out];rfl)
   clear r5 t5 h5
   go_wp2
   go_ret2
   obtain ⟨q1,q2,q3⟩:=HR.out
   rw [q1,q2,q3,E.out,← HE.out]
   exact ⟨none,0,_,rfl,⟨{ { s with cl:=z } with lost:=true },F',rfl,H5.out.1⟩,⟨aU.nil _ _,fun _ _ e=>by cases e⟩,H5.out.2⟩
end
end Go.Proofs.YtcfdenckiigdaaaGreat

/- Part 18 of the contracts. -/
import Derived.Test.YtcfdenckiigdaaaGreatFl17
set_option linter.unusedVariables false
set_option maxRecDepth 100000
set_option maxHeartbeats 4000000
namespace Go.Proofs.YtcfdenckiigdaaaGreat
open Tryz
section
open Go.RowKit
def aM (x:Int):Int:=x - x % 16
def fY (x:Int):Nat:=(x % 16).toNat
def Cache.where (q:Cache) (f:Int):Int:=Lib.idxOf [q.a0,q.a1] f
theorem uR (q:Cache) (f:Int):(q.where f=0∧q.a0=f)∨(q.where f=1∧q.a0≠f∧q.a1=f)∨(q.where f = -1∧q.a0≠f∧q.a1≠f):=by
 unfold Cache.where
 by_cases h0:q.a0=f
 ·
  exact .inl ⟨by simp [Lib.idxOf,Lib.idxFrom,h0],h0⟩
 ·
  by_cases h1:q.a1=f
  ·
   exact .inr (.inl ⟨by simp [Lib.idxOf,Lib.idxFrom,h0,h1],h0,h1⟩)
  ·
   exact .inr (.inr ⟨by simp [Lib.idxOf,Lib.idxFrom,h0,h1],h0,h1⟩)
def Cache.find (q:Cache) (x:Int):Int×Bool :=
 if q.a0=aM x then (((bt q.t0 (fY x)).toNat:Int),true) else if q.a1=aM x then (((bt q.t1 (fY x)).toNat:Int),true) else (0,false)
def kC (x:Int) (b:Bool) (w:World) (e:Ending) (w':World):Prop:=e=.returned (.tuple #[.int .i64 x,.bool b])∧Below w.heap.size w w'
theorem MK (ab ac tb tc:Nat) (q:Cache) (x:Int) (w:World) (h:dz w ab ac tb tc q) (g:q.Good) (x0:0≤x) (x1:x<4096) (hs:q.t0.size=16) (he:q.where (aM x)=0):Calls prog 98 #[.agg #[.slice (some ⟨ab,0,none⟩) 2 ac,.slice (some ⟨tb,0,none⟩) 2 tc,.int .i64 q.next],.int .i64 x] w (kC ((bt q.t0 (fY x)).toNat:Int) true w):=by
 have hb:Below w.heap.size w (w.alloc (.cells #[.slice (some ⟨ab,0,none⟩) 2 ac,.slice (some ⟨tb,0,none⟩) 2 tc,.int .i64 q.next] 188)):=ae zR _
 have h2:=h.aj hb
 have HB:=zH hb
 have HM:=zH (jP ab ac tb tc q _ h2 g)
 have HE:=zH he
 have H2:=zH h2
 have hz0:(w.alloc (.cells #[.slice (some ⟨ab,0,none⟩) 2 ac,.slice (some ⟨tb,0,none⟩) 2 tc,.int .i64 q.next] 188)).heap[w.heap.size]? = some (.cells #[.slice (some ⟨ab,0,none⟩) 2 ac,.slice (some ⟨tb,0,none⟩) 2 tc,.int .i64 q.next] 188):=af w _
 clear h2 h g he
 go_enter func98,ntmps98
 go_wp2_with fail
 refine HM.out.mono ?_
 rintro e w1 ⟨rfl,hb1⟩
 have HB1:=zH (gtr HB.out hb1)
 have HI:=zH (H2.out.aj hb1)
 have hz1:=aa hb1 hz0
 have k0:w1.cell? ⟨w.heap.size,0,none⟩=some (.slice (some ⟨ab,0,none⟩) 2 ac):=cell_of hz1 0
 have k1:w1.cell? ⟨w.heap.size,1,none⟩=some (.slice (some ⟨tb,0,none⟩) 2 tc):=cell_of hz1 1
 have k0':w1.drew.cell? ⟨w.heap.size,0,none⟩=some (.slice (some ⟨ab,0,none⟩) 2 ac):=k0
 have k1':w1.drew.cell? ⟨w.heap.size,1,none⟩=some (.slice (some ⟨tb,0,none⟩) 2 tc):=k1
 have HI2:=zH ((HI.out.aj (au zR)).index)
 have hj:x.tmod 16=((fY x:Nat):Int):=by unfold fY;rw [Int.tmod_eq_emod_of_nonneg x0];omega
 have hj1:fY x<16:=by unfold fY;omega
 have i1:((fY x:Nat):Int)<16:=by omega
 have gb:q.t0[fY x]'(by omega)=bt q.t0 (fY x):=gT q.t0 (fY x) (by omega)
 have tc':w1.cell? ⟨tb,0,none⟩=some (.string q.t0):=HI.out.t0
 have tc'':w1.drew.cell? ⟨tb,0,none⟩=some (.string q.t0):=tc'
 clear hb hb1 hz0 hz1
 go_wp2_with fail
 refine wp_region_noPanic ?_
 refine wp_region_held_drew (S:=(fun (v:World)=>v.cell? ⟨w.heap.size,0,none⟩=some (.slice (some ⟨ab,0,none⟩) 2 ac))) (by kernel_rfl) (by (try dsimp only);exact k0') fun hHeld => ?_
 refine tk 0 ?_
 refine tk 1 ?_
 refine tk 2 ?_
 refine tr 3 fun K hK => ?_
 go_simp
 refine (iP x _ x0 x1).mono ?_
 rintro e w2 ⟨rfl,rfl⟩
 go_wp2_with fail
 refine hK.out _ _ (by (try dsimp only);exact k0') fun hHeld => ?_
 clear hK K
 try simp only [Act.put,zS,zT,zU]
 refine tr 4 fun K hK => ?_
 go_simp
 refine (HI2.out (aM x)).mono ?_
 rintro e w3 ⟨rfl,rfl⟩
 rw [show Lib.idxOf [q.a0,q.a1] (aM x)=_ from HE.out]
 go_wp2_with fail
 refine hK.out _ _ (by (try dsimp only);exact k0') fun hHeld => ?_
 clear hK K
 try simp only [Act.put,zS,zT,zU]
 refine tk 5 ?_
 refine wpAnyH_done (by kernel_rfl) ?_ _
 refine NoPanic.normal ?_
 go_wp2
 go_ret2
 exact ⟨by first | rfl | simp [gE],au HB1.out⟩
theorem ML (ab ac tb tc:Nat) (q:Cache) (x:Int) (w:World) (h:dz w ab ac tb tc q) (g:q.Good) (x0:0≤x) (x1:x<4096) (hs:q.t1.size=16) (he:q.where (aM x)=1):Calls prog 98 #[.agg #[.slice (some ⟨ab,0,none⟩) 2 ac,.slice (some ⟨tb,0,none⟩) 2 tc,.int .i64 q.next],.int .i64 x] w (kC ((bt q.t1 (fY x)).toNat:Int) true w):=by
 have hb:Below w.heap.size w (w.alloc (.cells #[.slice (some ⟨ab,0,none⟩) 2 ac,.slice (some ⟨tb,0,none⟩) 2 tc,.int .i64 q.next] 188)):=ae zR _
 have h2:=h.aj hb
 have HB:=zH hb
 have HM:=zH (jP ab ac tb tc q _ h2 g)
 have HE:=zH he
 have H2:=zH h2
 have hz0:(w.alloc (.cells #[.slice (some ⟨ab,0,none⟩) 2 ac,.slice (some ⟨tb,0,none⟩) 2 tc,.int .i64 q.next] 188)).heap[w.heap.size]? = some (.cells #[.slice (some ⟨ab,0,none⟩) 2 ac,.slice (some ⟨tb,0,none⟩) 2 tc,.int .i64 q.next] 188):=af w _
 clear h2 h g he
 go_enter func98,ntmps98
 go_wp2_with fail
 refine HM.out.mono ?_
 rintro e w1 ⟨rfl,hb1⟩
 have HB1:=zH (gtr HB.out hb1)
 have HI:=zH (H2.out.aj hb1)
 have hz1:=aa hb1 hz0
 have k0:w1.cell? ⟨w.heap.size,0,none⟩=some (.slice (some ⟨ab,0,none⟩) 2 ac):=cell_of hz1 0
 have k1:w1.cell? ⟨w.heap.size,1,none⟩=some (.slice (some ⟨tb,0,none⟩) 2 tc):=cell_of hz1 1
 have k0':w1.drew.cell? ⟨w.heap.size,0,none⟩=some (.slice (some ⟨ab,0,none⟩) 2 ac):=k0
 have k1':w1.drew.cell? ⟨w.heap.size,1,none⟩=some (.slice (some ⟨tb,0,none⟩) 2 tc):=k1
 have HI2:=zH ((HI.out.aj (au zR)).index)
 have hj:x.tmod 16=((fY x:Nat):Int):=by unfold fY;rw [Int.tmod_eq_emod_of_nonneg x0];omega
 have hj1:fY x<16:=by unfold fY;omega
 have i1:((fY x:Nat):Int)<16:=by omega
 have gb:q.t1[fY x]'(by omega)=bt q.t1 (fY x):=gT q.t1 (fY x) (by omega)
 have tc':w1.cell? ⟨tb,1,none⟩=some (.string q.t1):=HI.out.t1
 have tc'':w1.drew.cell? ⟨tb,1,none⟩=some (.string q.t1):=tc'
 clear hb hb1 hz0 hz1
 go_wp2_with fail
 refine wp_region_noPanic ?_
 refine wp_region_held_drew (S:=(fun (v:World)=>v.cell? ⟨w.heap.size,0,none⟩=some (.slice (some ⟨ab,0,none⟩) 2 ac))) (by kernel_rfl) (by (try dsimp only);exact k0') fun hHeld => ?_
 refine tk 0 ?_
 refine tk 1 ?_
 refine tk 2 ?_
 refine tr 3 fun K hK => ?_
 go_simp
 refine (iP x _ x0 x1).mono ?_
 rintro e w2 ⟨rfl,rfl⟩
 go_wp2_with fail
 refine hK.out _ _ (by (try dsimp only);exact k0') fun hHeld => ?_
 clear hK K
 try simp only [Act.put,zS,zT,zU]
 refine tr 4 fun K hK => ?_
 go_simp
 refine (HI2.out (aM x)).mono ?_
 rintro e w3 ⟨rfl,rfl⟩
 rw [show Lib.idxOf [q.a0,q.a1] (aM x)=_ from HE.out]
 go_wp2_with fail
 refine hK.out _ _ (by (try dsimp only);exact k0') fun hHeld => ?_
 clear hK K
 try simp only [Act.put,zS,zT,zU]
 refine tk 5 ?_
 refine wpAnyH_done (by kernel_rfl) ?_ _
 refine NoPanic.normal ?_
 go_wp2
 go_ret2
 exact ⟨by first | rfl | simp [gE],au HB1.out⟩
theorem MM (ab ac tb tc:Nat) (q:Cache) (x:Int) (w:World) (h:dz w ab ac tb tc q) (g:q.Good) (x0:0≤x) (x1:x<4096) (he:q.where (aM x) = -1):Calls prog 98 #[.agg #[.slice (some ⟨ab,0,none⟩) 2 ac,.slice (some ⟨tb,0,none⟩) 2 tc,.int .i64 q.next],.int .i64 x] w (kC 0 false w):=by
 have hb:Below w.heap.size w (w.alloc (.cells #[.slice (some ⟨ab,0,none⟩) 2 ac,.slice (some ⟨tb,0,none⟩) 2 tc,.int .i64 q.next] 188)):=ae zR _
 have h2:=h.aj hb
 have HB:=zH hb
 have HM:=zH (jP ab ac tb tc q _ h2 g)
 have HE:=zH he
 have H2:=zH h2
 have hz0:(w.alloc (.cells #[.slice (some ⟨ab,0,none⟩) 2 ac,.slice (some ⟨tb,0,none⟩) 2 tc,.int .i64 q.next] 188)).heap[w.heap.size]? = some (.cells #[.slice (some ⟨ab,0,none⟩) 2 ac,.slice (some ⟨tb,0,none⟩) 2 tc,.int .i64 q.next] 188):=af w _
 clear h2 h g he
 go_enter func98,ntmps98
 go_wp2_with fail
 refine HM.out.mono ?_
 rintro e w1 ⟨rfl,hb1⟩
 have HB1:=zH (gtr HB.out hb1)
 have HI:=zH (H2.out.aj hb1)
 have hz1:=aa hb1 hz0
 have k0:w1.cell? ⟨w.heap.size,0,none⟩=some (.slice (some ⟨ab,0,none⟩) 2 ac):=cell_of hz1 0
 have k1:w1.cell? ⟨w.heap.size,1,none⟩=some (.slice (some ⟨tb,0,none⟩) 2 tc):=cell_of hz1 1
 have k0':w1.drew.cell? ⟨w.heap.size,0,none⟩=some (.slice (some ⟨ab,0,none⟩) 2 ac):=k0
 have k1':w1.drew.cell? ⟨w.heap.size,1,none⟩=some (.slice (some ⟨tb,0,none⟩) 2 tc):=k1
 have HI2:=zH ((HI.out.aj (au zR)).index)
 clear hb hb1 hz0 hz1
 go_wp2_with fail
 refine wp_region_noPanic ?_
 refine wp_region_held_drew (S:=(fun (v:World)=>v.cell? ⟨w.heap.size,0,none⟩=some (.slice (some ⟨ab,0,none⟩) 2 ac))) (by kernel_rfl) (by (try dsimp only);exact k0') fun hHeld => ?_
 refine tk 0 ?_
 refine tk 1 ?_
 refine tk 2 ?_
 refine tr 3 fun K hK => ?_
 go_simp
 refine (iP x _ x0 x1).mono ?_
 rintro e w2 ⟨rfl,rfl⟩
 go_wp2_with fail
 refine hK.out _ _ (by (try dsimp only);exact k0') fun hHeld => ?_
 clear hK K
 try simp only [Act.put,zS,zT,zU]
 refine tr 4 fun K hK => ?_
 go_simp
 refine (HI2.out (aM x)).mono ?_
 rintro e w3 ⟨rfl,rfl⟩
 rw [show Lib.idxOf [q.a0,q.a1] (aM x)=_ from HE.out]
 go_wp2_with fail
 refine hK.out _ _ (by (try dsimp only);exact k0') fun hHeld => ?_
 clear hK K
 try simp only [Act.put,zS,zT,zU]
 refine tk 5 ?_
 refine wpAnyH_done (by kernel_rfl) ?_ _
 refine NoPanic.normal ?_
 go_wp2
 go_ret2
 exact ⟨by first | rfl | simp [gE],au HB1.out⟩
theorem oV (ab ac tb tc:Nat) (q:Cache) (x:Int) (w:World) (h:dz w ab ac tb tc q) (g:q.Good) (x0:0≤x) (x1:x<4096):Calls prog 98 #[.agg #[.slice (some ⟨ab,0,none⟩) 2 ac,.slice (some ⟨tb,0,none⟩) 2 tc,.int .i64 q.next],.int .i64 x] w (kC (q.find x).1 (q.find x).2 w):=by
 have hF:aM x ≠ -1:=by unfold aM;omega
 rcases uR q (aM x) with ⟨e,h0⟩ | ⟨e,h0,h1⟩ | ⟨e,h0,h1⟩
 ·
  have hs:q.t0.size=16:=by rcases g.l0 with ⟨e0,_⟩ | ⟨_,_,_,hs⟩;exact absurd (h0.symm.trans e0) hF;exact hs
  have:=MK ab ac tb tc q x w h g x0 x1 hs e
  rw [show q.find x=(((bt q.t0 (fY x)).toNat:Int),true) from if_pos h0]
  exact this
 ·
  have hs:q.t1.size=16:=by rcases g.l1 with ⟨e0,_⟩ | ⟨_,_,_,hs⟩;exact absurd (h1.symm.trans e0) hF;exact hs
  have:=ML ab ac tb tc q x w h g x0 x1 hs e
  rw [show q.find x=(((bt q.t1 (fY x)).toNat:Int),true) from (if_neg h0).trans (if_pos h1)]
  exact this
 ·
  have:=MM ab ac tb tc q x w h g x0 x1 e
  rw [show q.find x=(0,false) from (if_neg h0).trans (if_neg h1)]
  exact this
end
end Go.Proofs.YtcfdenckiigdaaaGreat

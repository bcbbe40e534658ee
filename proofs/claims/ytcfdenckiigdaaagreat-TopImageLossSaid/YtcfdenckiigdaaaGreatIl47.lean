/- Part 47 of the contracts. -/
import Derived.Test.YtcfdenckiigdaaaGreatIl46
set_option linter.unusedVariables false
set_option maxRecDepth 100000
set_option maxHeartbeats 4000000
namespace Go.Proofs.YtcfdenckiigdaaaGreat
section
open Go.RowKit
def qkq:Array Value := #[.int .i64 0,.string ⟨#[]⟩,.string ⟨#[]⟩,.int .i64 0,.int .i64 0,.int .i64 0,.string ⟨#[]⟩,.slice none 0 0,.slice none 0 0]
structure qe5 (w wr:World) (x:qbI) (ba:Option Addr) (bc:Nat) (ra:Option Addr) (rc:Nat):Prop where
 below:Below w.heap.size w wr
 act:wr.heap[w.heap.size]? = some (.cells (x.row ba bc ra rc) 31 (0,0))
 res:wr.heap[w.heap.size+1]? = some (.cells qkq 31 (0,0))
def qsC (x:qbI) (w:World) (e:Ending) (w':World):Prop := ∃ ba bc ra rc,e=.returned (.agg (x.row ba bc ra rc))∧w'.ownsRow w.heap.size 3 1 (.slice ba x.busy.length bc) x.busy.length (intVals x.busy)∧w'.ownsRow w.heap.size 3 1 (.slice ra x.reads.length rc) x.reads.length (intVals x.reads)∧Below w.heap.size w w'
theorem qtF {w:World} {g:Nat} {a b c d e f h i j:Value} {t:TypeId} (k:w.heap[g]? = some (.cells #[a,b,c,d,e,f,h,i,j] t (0,0))):w.cell? ⟨g,0,none⟩=some a∧w.cell? ⟨g,1,none⟩=some b∧w.cell? ⟨g,2,none⟩=some c∧w.cell? ⟨g,3,none⟩=some d∧w.cell? ⟨g,4,none⟩=some e∧w.cell? ⟨g,5,none⟩=some f∧w.cell? ⟨g,6,none⟩=some h∧w.cell? ⟨g,7,none⟩=some i∧w.cell? ⟨g,8,none⟩=some j ∧ ∀ i,w.frozen? ⟨g,i,none⟩=false :=
 ⟨qaa k 0,qaa k 1,qaa k 2,qaa k 3,qaa k 4,qaa k 5,qaa k 6,qaa k 7,qaa k 8,fun i=>qah k i⟩
theorem qlW {w:World} {xs:List Int} (h:qal w none xs):xs=[]:=by
 cases xs with
 | nil=>rfl
 | cons x r=>obtain ⟨b,o,e,_⟩:=h 0 (by simp);cases e
theorem qua {w w1 w2:World} {x:qbI} {ba ra b':Option Addr} {bc rc bc':Nat} (h:qe5 w w1 x ba bc ra rc) (hb:Below w1.heap.size w1 w2):qe5 w (w2.setCell ⟨w.heap.size,7,none⟩ (.slice b' x.busy.length bc')) x b' bc' ra rc :=
 ⟨gset (gtr h.below hb) (Nat.le_refl _) _,qaf (i:=7) (qab hb h.act),((Touch.refl (Only w.heap.size) w2).set w.heap.size 7 _ rfl).at (qab hb h.res) (fun e=>by have:w.heap.size+1=w.heap.size:=e;omega)⟩
theorem qub {w w1 w2:World} {x:qbI} {ba ra b':Option Addr} {bc rc bc':Nat} (h:qe5 w w1 x ba bc ra rc) (hb:Below w1.heap.size w1 w2):qe5 w (w2.setCell ⟨w.heap.size,8,none⟩ (.slice b' x.reads.length bc')) x ba bc b' bc' :=
 ⟨gset (gtr h.below hb) (Nat.le_refl _) _,qaf (i:=8) (qab hb h.act),((Touch.refl (Only w.heap.size) w2).set w.heap.size 8 _ rfl).at (qab hb h.res) (fun e=>by have:w.heap.size+1=w.heap.size:=e;omega)⟩
theorem qe5.later {w w1 w2:World} {x:qbI} {ba ra:Option Addr} {bc rc:Nat} (h:qe5 w w1 x ba bc ra rc) (hb:Below w1.heap.size w1 w2):qe5 w w2 x ba bc ra rc:=⟨gtr h.below hb,qab hb h.act,qab hb h.res⟩
theorem qlE {w:World} {B:Nat} (hB:B≤w.heap.size) {xs:List Int} (h:xs=[]) {n:Nat} (hn:n=w.heap.size):(w.alloc (.cells #[] 3)).ownsRow B 3 1 (.slice (some ⟨n,0,none⟩) xs.length 0) xs.length (intVals xs):=by
 subst h hn
 exact qbu w 3 1 B hB
theorem qwG {w w1 w2:World} (h:Below w.heap.size w w1) (t:Touch (Only (w.heap.size+1)) w1 w2):Below w.heap.size w w2:=h.trans (t.below h.size (fun i hi e=>by have e:i=w.heap.size+1:=e;omega))
theorem qkL {w:World} {B b:Nat} {t:TypeId} {v:Value} {n sz:Nat} {cs:List Value} (h:w.ownsRow B t sz v n cs) (hb:b<B):some b≠v.ownBlock:=fun e=>by
 have:=qaF h b e.symm
 omega
def qwB (w:World) (g:Nat) (a b c d e f h i j:Value):World:=((((((((w.setCell ⟨g,0,none⟩ a).setCell ⟨g,1,none⟩ b).setCell ⟨g,2,none⟩ c).setCell ⟨g,3,none⟩ d).setCell ⟨g,4,none⟩ e).setCell ⟨g,5,none⟩ f).setCell ⟨g,6,none⟩ h).setCell ⟨g,7,none⟩ i).setCell ⟨g,8,none⟩ j
theorem qp9 (w:World) (g:Nat) (a b c d e f h i j:Value):Touch (Only g) w (qwB w g a b c d e f h i j):=((((((((((Touch.refl (Only g) w).set g 0 a rfl).set g 1 b rfl).set g 2 c rfl).set g 3 d rfl).set g 4 e rfl).set g 5 f rfl).set g 6 h rfl).set g 7 i rfl).set g 8 j rfl)
theorem qvh {w:World} {g:Nat} {a0 b0 c0 d0 e0 f0 h0 i0 j0:Value} {t:TypeId} (k:w.heap[g]? = some (.cells #[a0,b0,c0,d0,e0,f0,h0,i0,j0] t (0,0))) (a b c d e f h i j:Value):(qwB w g a b c d e f h i j).heap[g]? = some (.cells #[a,b,c,d,e,f,h,i,j] t (0,0)):=by
 have k0:(w.setCell ⟨g,0,none⟩ a).heap[g]? = some (.cells #[a,b0,c0,d0,e0,f0,h0,i0,j0] t (0,0)):=qaf (i:=0) (v:=a) k
 have k1:((w.setCell ⟨g,0,none⟩ a).setCell ⟨g,1,none⟩ b).heap[g]? = some (.cells #[a,b,c0,d0,e0,f0,h0,i0,j0] t (0,0)):=qaf (i:=1) (v:=b) k0
 have k2:(((w.setCell ⟨g,0,none⟩ a).setCell ⟨g,1,none⟩ b).setCell ⟨g,2,none⟩ c).heap[g]? = some (.cells #[a,b,c,d0,e0,f0,h0,i0,j0] t (0,0)):=qaf (i:=2) (v:=c) k1
 have k3:((((w.setCell ⟨g,0,none⟩ a).setCell ⟨g,1,none⟩ b).setCell ⟨g,2,none⟩ c).setCell ⟨g,3,none⟩ d).heap[g]? = some (.cells #[a,b,c,d,e0,f0,h0,i0,j0] t (0,0)):=qaf (i:=3) (v:=d) k2
 have k4:(((((w.setCell ⟨g,0,none⟩ a).setCell ⟨g,1,none⟩ b).setCell ⟨g,2,none⟩ c).setCell ⟨g,3,none⟩ d).setCell ⟨g,4,none⟩ e).heap[g]? = some (.cells #[a,b,c,d,e,f0,h0,i0,j0] t (0,0)):=qaf (i:=4) (v:=e) k3
 have k5:((((((w.setCell ⟨g,0,none⟩ a).setCell ⟨g,1,none⟩ b).setCell ⟨g,2,none⟩ c).setCell ⟨g,3,none⟩ d).setCell ⟨g,4,none⟩ e).setCell ⟨g,5,none⟩ f).heap[g]? = some (.cells #[a,b,c,d,e,f,h0,i0,j0] t (0,0)):=qaf (i:=5) (v:=f) k4
 have k6:(((((((w.setCell ⟨g,0,none⟩ a).setCell ⟨g,1,none⟩ b).setCell ⟨g,2,none⟩ c).setCell ⟨g,3,none⟩ d).setCell ⟨g,4,none⟩ e).setCell ⟨g,5,none⟩ f).setCell ⟨g,6,none⟩ h).heap[g]? = some (.cells #[a,b,c,d,e,f,h,i0,j0] t (0,0)):=qaf (i:=6) (v:=h) k5
 have k7:((((((((w.setCell ⟨g,0,none⟩ a).setCell ⟨g,1,none⟩ b).setCell ⟨g,2,none⟩ c).setCell ⟨g,3,none⟩ d).setCell ⟨g,4,none⟩ e).setCell ⟨g,5,none⟩ f).setCell ⟨g,6,none⟩ h).setCell ⟨g,7,none⟩ i).heap[g]? = some (.cells #[a,b,c,d,e,f,h,i,j0] t (0,0)):=qaf (i:=7) (v:=i) k6
 have k8:(((((((((w.setCell ⟨g,0,none⟩ a).setCell ⟨g,1,none⟩ b).setCell ⟨g,2,none⟩ c).setCell ⟨g,3,none⟩ d).setCell ⟨g,4,none⟩ e).setCell ⟨g,5,none⟩ f).setCell ⟨g,6,none⟩ h).setCell ⟨g,7,none⟩ i).setCell ⟨g,8,none⟩ j).heap[g]? = some (.cells #[a,b,c,d,e,f,h,i,j] t (0,0)):=qaf (i:=8) (v:=j) k7
 exact k8
theorem qku (x:qbI) (ba:Option Addr) (bc:Nat) (ra:Option Addr) (rc:Nat) (w:World) (hb:qal w ba x.busy) (hbn:ba=none→bc=0) (hr:qal w ra x.reads) (hrn:ra=none→rc=0) (lb:x.busy.length * 8≤140737488355328) (lr:x.reads.length * 8≤140737488355328):Calls Tryz.prog 23 #[.agg (x.row ba bc ra rc)] w (qsC x w):=by
 obtain ⟨i0,hi,hz0,hz1,hz2⟩:=info_parts qce
 have HI:=zH (zA hb hr)
 have hrow:x.row ba bc ra rc = #[.int .i64 x.kind,.string x.key,.string x.value,.int .i64 x.at_,.int .i64 x.width,.int .i64 x.loss,.string x.mask,.slice ba x.busy.length bc,.slice ra x.reads.length rc]:=rfl
 have HC:=zH (show qe5 w ((w.alloc (.cells (x.row ba bc ra rc) 31)).alloc (.cells qkq 31)) x ba bc ra rc from ⟨qac (qac (Below.refl _ _) _) _,qab (qac (Below.refl _ _) _) (qad w _),by simpa using qad (w.alloc (.cells (x.row ba bc ra rc) 31)) (.cells qkq 31)⟩)
 have HZ:=zH (zA hbn hrn)
 clear hb hr hbn hrn
 rw [hrow] at HC ⊢
 clear hrow
 go_enter Tryz.func23,Tryz.ntmps23
 go_upto_region 1 with fail
 have hc:=HC.out
 clear HC
 rw [show qkq = #[.int .i64 0,.string ⟨#[]⟩,.string ⟨#[]⟩,.int .i64 0,.int .i64 0,.int .i64 0,.string ⟨#[]⟩,.slice none 0 0,.slice none 0 0] from rfl] at hc
 generalize (w.alloc (.cells #[.int .i64 x.kind,.string x.key,.string x.value,.int .i64 x.at_,.int .i64 x.width,.int .i64 x.loss,.string x.mask,.slice ba x.busy.length bc,.slice ra x.reads.length rc] 31)).alloc (.cells #[.int .i64 0,.string ⟨#[]⟩,.string ⟨#[]⟩,.int .i64 0,.int .i64 0,.int .i64 0,.string ⟨#[]⟩,.slice none 0 0,.slice none 0 0] 31)=w0 at *
 go_cut [3] from 4 to 7 (fun v3 wx => ∃ b' bc',qe5 w wx x b' bc' ra rc∧wx.ownsRow (w.heap.size+2) 3 1 (.slice b' x.busy.length bc') x.busy.length (intVals x.busy))
 case first =>
  have HC:=zH hc
  obtain ⟨z0,z1,z2,z3,z4,z5,z6,z7,z8,zf⟩:=qtF hc.act
  have hl0:=qap hc.act
  have hcs:w.heap.size+2≤w0.heap.size:=by have:=qap hc.res;omega
  clear hc z0 z1 z2 z3 z4 z5 z6 z8
  cases ba with
  | none =>
   obtain rfl:bc=0:=HZ.out.1 rfl
   have hx:=qlW HI.out.1
   have hl:x.busy.length=0:=by rw [hx];rfl
   have HL:=zH (zA hx hl)
   rw [hl] at z7
   clear hx hl
   go_wp2_with (at_builtin;refine wpList_append_own_none _ rfl _ _ 22 rfl w0.heap.size 3 i0 1 Tryz.underlying22 hi _ 0 [] rfl (qbu w0 3 1 _ (Nat.le_refl _)) rfl ?_)
   go_meet
   refine ⟨some ⟨w0.heap.size,0,none⟩,0,?_⟩
   have k1:=(qua (b':=some ⟨w0.heap.size,0,none⟩) (bc':=0) HC.out (Below.refl _ _)).later (qac (Below.refl _ _) (.cells #[] 3))
   rw [HL.out.2] at k1
   exact ⟨k1,qlE (w:=w0.setCell ⟨w.heap.size,7,none⟩ (.slice (some ⟨w0.heap.size,0,none⟩) 0 0)) (by simpa using hcs) HL.out.1 (by simp)⟩
  | some ad =>
   go_wp2_with (at_builtin;refine wpList_append_own _ rfl _ _ 22 rfl w0.heap.size 3 i0 (.int .i64 0) 1 8 Tryz.underlying22 hi hz0 hz1 hz2 rfl (by decide) _ 0 [] rfl (qbu w0 3 1 _ (Nat.le_refl _)) ad x.busy.length bc (intVals x.busy) rfl (qdL x.busy) ?c17 (qdM x.busy) ?c27 ?c37 ?c47 ?_)
   case c17 =>
    intro j u hu
    obtain ⟨hj,rfl⟩:=qdK x.busy j u hu
    obtain ⟨b,off,ha,hcell⟩:=(HI.out.1.later HC.out.below) j hj
    obtain rfl:ad=⟨b,off,none⟩:=by simpa using ha
    have hlt:=World.block_lt_of_cell? w0 _ hcell
    rw [qaO,World.cell?_alloc_lt _ _ _ hlt]
    exact hcell
   case c27=>simp only [maxLen];omega
   case c37=>omega
   case c47=>simp
   intro v' w' hown hg _
   have hbw:Below w0.heap.size w0 w':=qaQ (qac (Below.refl _ _) _) hg (fun k hk=>by simp [Value.ownBlock] at hk;omega)
   obtain ⟨a',c',rfl⟩:=qax hown
   obtain ⟨y0,y1,y2,y3,y4,y5,y6,y7,y8,yf⟩:=qtF (qab hbw HC.out.act)
   have HO:=zH (zA hown (zA hbw hg))
   clear hown hbw hg y0 y1 y2 y3 y4 y5 y6 y8 z7 zf
   go_wp2_with fail
   go_meet
   have ho:=HO.out.1
   refine ⟨a',c',?_,qbe (qbt ho hcs) (qkL ho hl0) _⟩
   have k1:=qua (b':=a') (bc':=c') HC.out HO.out.2.1
   exact k1
 case rest =>
  obtain ⟨b',bc',hc,ho⟩:=hcut
  have HBO:=zH ho
  clear ho
  obtain ⟨w2,hw2⟩ : ∃ w2,w2=wc:=⟨_,rfl⟩
  subst hw2
  go_upto_region 2 with fail
  go_cut [8] from 9 to 12 (fun v8 wx => ∃ r' rc',qe5 w wx x b' bc' r' rc'∧wx.ownsRow (w.heap.size+2) 3 1 (.slice r' x.reads.length rc') x.reads.length (intVals x.reads)∧wx.ownsRow (w.heap.size+2) 3 1 (.slice b' x.busy.length bc') x.busy.length (intVals x.busy))
  case first =>
   have HC:=zH hc
   obtain ⟨z0,z1,z2,z3,z4,z5,z6,z7,z8,zf⟩:=qtF hc.act
   have hl0:=qap hc.act
   have hcs:w.heap.size+2≤w2.heap.size:=by have:=qap hc.res;omega
   clear hc z0 z1 z2 z3 z4 z5 z6 z7
   cases ra with
   | none =>
    obtain rfl:rc=0:=HZ.out.2 rfl
    have hx:=qlW HI.out.2
    have hl:x.reads.length=0:=by rw [hx];rfl
    have HL:=zH (zA hx hl)
    rw [hl] at z8
    clear hx hl
    go_wp2_with (at_builtin;refine wpList_append_own_none _ rfl _ _ 22 rfl w2.heap.size 3 i0 1 Tryz.underlying22 hi _ 0 [] rfl (qbu w2 3 1 _ (Nat.le_refl _)) rfl ?_)
    go_meet
    refine ⟨some ⟨w2.heap.size,0,none⟩,0,?_⟩
    have k1:=(qub (b':=some ⟨w2.heap.size,0,none⟩) (bc':=0) HC.out (Below.refl _ _)).later (qac (Below.refl _ _) (.cells #[] 3))
    rw [HL.out.2] at k1
    exact ⟨k1,qlE (w:=w2.setCell ⟨w.heap.size,8,none⟩ (.slice (some ⟨w2.heap.size,0,none⟩) 0 0)) (by simpa using hcs) HL.out.1 (by simp),World.ownsRow.later (qbe HBO.out (qkL HBO.out (by omega)) _) (qac (Below.refl _ _) _)⟩
   | some ad =>
    go_wp2_with (at_builtin;refine wpList_append_own _ rfl _ _ 22 rfl w2.heap.size 3 i0 (.int .i64 0) 1 8 Tryz.underlying22 hi hz0 hz1 hz2 rfl (by decide) _ 0 [] rfl (qbu w2 3 1 _ (Nat.le_refl _)) ad x.reads.length rc (intVals x.reads) rfl (qdL x.reads) ?c18 (qdM x.reads) ?c28 ?c38 ?c48 ?_)
    case c18 =>
     intro j u hu
     obtain ⟨hj,rfl⟩:=qdK x.reads j u hu
     obtain ⟨b,off,ha,hcell⟩:=(HI.out.2.later HC.out.below) j hj
     obtain rfl:ad=⟨b,off,none⟩:=by simpa using ha
     have hlt:=World.block_lt_of_cell? w2 _ hcell
     rw [qaO,World.cell?_alloc_lt _ _ _ hlt]
     exact hcell
    case c28=>simp only [maxLen];omega
    case c38=>omega
    case c48=>simp
    intro v' w' hown hg _
    have hbw:Below w2.heap.size w2 w':=qaQ (qac (Below.refl _ _) _) hg (fun k hk=>by simp [Value.ownBlock] at hk;omega)
    obtain ⟨a',c',rfl⟩:=qax hown
    obtain ⟨y0,y1,y2,y3,y4,y5,y6,y7,y8,yf⟩:=qtF (qab hbw HC.out.act)
    have HO:=zH (zA hown (zA hbw hg))
    clear hown hbw hg y0 y1 y2 y3 y4 y5 y6 y7 z8 zf
    go_wp2_with fail
    go_meet
    have ho:=HO.out.1
    refine ⟨a',c',?_,qbe (qbt ho hcs) (qkL ho hl0) _,qbe (World.ownsRow.later HBO.out HO.out.2.1) (qkL HBO.out (by omega)) _⟩
    have k1:=qub (b':=a') (bc':=c') HC.out HO.out.2.1
    exact k1
  case rest =>
   obtain ⟨r',rc',hc3,o2,o1⟩:=hcut
   obtain ⟨z0,z1,z2,z3,z4,z5,z6,z7,z8,zf⟩:=qtF hc3.act
   obtain ⟨y0,y1,y2,y3,y4,y5,y6,y7,y8,yf⟩:=qtF hc3.res
   have HE:=zH (zA hc3 (zA o1 o2))
   clear hc3 o1 o2
   go_wp2_with fail
   obtain ⟨q0,q1,q2,q3,q4,q5,q6,q7,q8,qf⟩:=qtF (qvh HE.out.1.res (.int .i64 x.kind) (.string x.key) (.string x.value) (.int .i64 x.at_) (.int .i64 x.width) (.int .i64 x.loss) (.string x.mask) (.slice b' x.busy.length bc') (.slice r' x.reads.length rc'))
   have hl:=qap HE.out.1.res
   have t9:=qp9 wc (w.heap.size+1) (.int .i64 x.kind) (.string x.key) (.string x.value) (.int .i64 x.at_) (.int .i64 x.width) (.int .i64 x.loss) (.string x.mask) (.slice b' x.busy.length bc') (.slice r' x.reads.length rc')
   refine bodyPost_ret (v:=.agg #[.int .i64 x.kind,.string x.key,.string x.value,.int .i64 x.at_,.int .i64 x.width,.int .i64 x.loss,.string x.mask,.slice b' x.busy.length bc',.slice r' x.reads.length rc']) ?_ rfl ?_
   ·
    change (results _ _).run _ (qwB _ _ _ _ _ _ _ _ _ _ _)=_
    simp [results,Tryz.results23,go_sem,q0,q1,q2,q3,q4,q5,q6,q7,q8]
    rfl
   ·
    refine ⟨b',bc',r',rc',rfl,?_,?_,?_⟩
    ·
     exact qbt (qaI HE.out.2.1 t9 (fun g hg e=>by have:=qaF HE.out.2.1 g hg;have e:g=w.heap.size+1:=e;omega)) (by omega)
    ·
     exact qbt (qaI HE.out.2.2 t9 (fun g hg e=>by have:=qaF HE.out.2.2 g hg;have e:g=w.heap.size+1:=e;omega)) (by omega)
    ·
     exact qwG HE.out.1.below t9
end
section
open Go.RowKit
theorem qrD (p:Nat) (W:Wld) (G:Nat→Prop) (x:qbI) (ba:Option Addr) (bc:Nat) (ra:Option Addr) (rc:Nat) (cx img:ByteArray) (w:World) (h:qaE w p W G) (n:Now W cx img) (fit:W.S.Fit) (hl:x.loss=0) (hk:x.kind≠7) (hb:qal w ba x.busy) (hbn:ba=none→bc=0) (hi:qak w ra x.reads G) (hcap:x.reads.length≤rc) (lb:x.busy.length≤4611686018427387904) (lr:x.reads.length≤4611686018427387904):Calls Tryz.prog 11 #[.pointer (some ⟨p,0,none⟩),.agg (x.row ba bc ra rc)] w fun e w' => ∃ W',Now W' (doX cx img W.S x).1 img∧W'.S=(doX cx img W.S x).2.1∧qa4 p W' (doX cx img W.S x).2.2.1 (doX cx img W.S x).2.2.2 G w e w':=by
 refine (qky p W G x ba bc ra rc cx w h n.calm n.ok n.good fit hb hbn hi hcap lb lr).mono ?_
 rintro e w' ⟨hm,hp⟩
 obtain ⟨k1,k2,k3⟩:=qvN n fit hl hk hm
 refine ⟨(doR W x hm).1,k1,k2,?_⟩
 rw [← k3]
 exact hp
theorem qpN (p:Nat) (W:Wld) (G:Nat→Prop) (x:qbI) (ba:Option Addr) (bc:Nat) (ra:Option Addr) (rc:Nat) (cx img:ByteArray) (w:World) (h:qaE w p W G) (n:Now W cx img) (fit:W.S.Fit) (hmb:mayB x=true) (hl : ¬ (x.loss=0∧x.kind≠7)) (hb:qal w ba x.busy) (hbn:ba=none→bc=0) (hi:qak w ra x.reads G) (hcap:x.reads.length≤rc) (lb:x.busy.length≤4611686018427387904) (lr:x.reads.length≤4611686018427387904):Calls Tryz.prog 11 #[.pointer (some ⟨p,0,none⟩),.agg (x.row ba bc ra rc)] w fun e w' => ∃ W' y A er,Now W' y img∧W'.S=shut∧((y=(qhe cx img W.S x).1∧(A,er)=((qhe cx img W.S x).2.2.1.lose,(qhe cx img W.S x).2.2.2))∨(qhy cx W.S x y∧(A,er)=(ansZero.lose,0)))∧qa4 p W' A er G w e w':=by
 refine (qky p W G x ba bc ra rc cx w h n.calm n.ok n.good fit hb hbn hi hcap lb lr).mono ?_
 rintro e w' ⟨hm,hp⟩
 obtain ⟨y,k1,k2,k3⟩:=qtu n fit hmb hl hm
 exact ⟨(doR W x hm).1,y,_,_,k1,k2,k3,hp⟩
theorem qnm (p:Nat) (W:Wld) (G:Nat→Prop) (x:qbI) (ba:Option Addr) (bc:Nat) (ra:Option Addr) (rc:Nat) (cx img:ByteArray) (w:World) (h:qaE w p W G) (n:Now W cx img) (fit:W.S.Fit) (hmb:mayB x=false) (hb:qal w ba x.busy) (hbn:ba=none→bc=0) (hi:qak w ra x.reads G) (hcap:x.reads.length≤rc) (lb:x.busy.length≤4611686018427387904) (lr:x.reads.length≤4611686018427387904):Calls Tryz.prog 11 #[.pointer (some ⟨p,0,none⟩),.agg (x.row ba bc ra rc)] w fun e w'=>qa4 p W ansZero 2500 G w e w':=by
 refine (qky p W G x ba bc ra rc cx w h n.calm n.ok n.good fit hb hbn hi hcap lb lr).mono ?_
 rintro e w' ⟨hm,hp⟩
 rw [show doR W x hm=(W,ansZero,2500) from if_pos hmb] at hp
 exact hp
def qjb (kind:Int) (key value:ByteArray):qbI:=⟨kind,key,value,0,0,0,⟨#[]⟩,[],[]⟩
theorem qdS (p:Nat) (W:Wld) (G:Nat→Prop) (x:qbI) (cx img:ByteArray) (w:World) (h:qaE w p W G) (n:Now W cx img) (fit:W.S.Fit) (hl:x.loss=0) (hk:x.kind≠7) (hb:x.busy=[]) (hr:x.reads=[]):Calls Tryz.prog 11 #[.pointer (some ⟨p,0,none⟩),.agg #[.int .i64 x.kind,.string x.key,.string x.value,.int .i64 x.at_,.int .i64 x.width,.int .i64 x.loss,.string x.mask,.slice none 0 0,.slice none 0 0]] w fun e w' => ∃ W',Now W' (doX cx img W.S x).1 img∧W'.S=(doX cx img W.S x).2.1∧qa4 p W' (doX cx img W.S x).2.2.1 (doX cx img W.S x).2.2.2 G w e w':=by
 have:=qrD p W G x none 0 none 0 cx img w h n fit hl hk (by rw [hb];exact qal.nil _ _) (fun _=>rfl) (by rw [hr];exact ⟨qal.nil _ _,fun b o e=>by cases e⟩) (by rw [hr];exact Nat.le_refl _) (by rw [hb];exact Nat.zero_le _) (by rw [hr];exact Nat.zero_le _)
 rw [show x.row none 0 none 0 = #[.int .i64 x.kind,.string x.key,.string x.value,.int .i64 x.at_,.int .i64 x.width,.int .i64 x.loss,.string x.mask,.slice none 0 0,.slice none 0 0] from by unfold qbI.row;rw [hb,hr];rfl] at this
 exact this
theorem qpj {x:ByteArray} {sec:Nat} {V:qaA} (h:Lay x sec V) {r:qaL} (hr:qcJ r) (h0:(changeR V sec r).1=0) (hf:V.free<8):Lay (qdc x (changeR V sec r).2) sec ⟨true,V.epoch,V.recs++[r],V.free+1⟩∧(⟨true,(changeR V sec r).2.sector,behindV ⟨true,sec,V⟩ (changeR V sec r).2⟩:qag)=⟨true,sec,⟨true,V.epoch,V.recs++[r],V.free+1⟩⟩:=by
 have vk:=h.vok
 revert h0
 unfold changeR
 split
 ·
  intro h0;exact absurd h0 (show ¬ (2202:Int)=0 by decide)
 split
 ·
  intro h0;exact absurd h0 (show ¬ (2201:Int)=0 by decide)
 intro _
 obtain ⟨f,hfe⟩ : ∃ f:Nat,V.free=(f:Int):=⟨V.free.toNat,by have:=vk.free;omega⟩
 have hf1:1≤f:=by have:=vk.free;omega
 have hf8:f<8:=by omega
 have hsame:=qeL x sec f (recText r)
 obtain ⟨b0,_⟩:=qj2 (x:=x) (y:=burnt x (slotP sec f) (recText r)) (sec:=sec) hf1 hf8 (by rw [h.view];exact hfe) hsame
 have hslot:=qgr h.size h.s1 hf8 (qbS _ hr.1) b0
 have hlay:=quV h hf1 hf8 hfe hsame hr.1 hr.2 hslot
 refine ⟨?_,?_⟩
 ·
  show Lay (burnsX (sec:Int) [(V.free,r)] x) sec _
  rw [hfe]
  rw [hfe] at hlay
  exact hlay
 ·
  unfold behindV
  have:([r]:List qaL).filter notHead=[r]:=by
   unfold notHead
   simp [hr.2]
  show (⟨true,(sec:Int),⟨true,V.epoch,(if (-1:Int)<0 then V.recs else [])++[r].filter notHead,V.free+1⟩⟩:qag)=_
  rw [this,if_pos (by decide)]
theorem qta {x:ByteArray} (h:x.size=4096):Has x x:=⟨h,fun _ _=>rfl⟩
theorem qjO (x:ByteArray) (a n:Nat) (h:a+n≤x.size):x.extract a (a+n)=mk n fun i=>bt x (a+i):=by
 refine qbN ?_ fun i hi => ?_
 ·
  rw [qbn,ByteArray.size_extract];omega
 ·
  have hi':i<n:=by rw [ByteArray.size_extract] at hi;omega
  rw [qf4 _ _ _ hi',qbl _ _ _ _ (by omega) h]
theorem qwA {x:ByteArray} (h:x.size=4096):x.extract 2048 2560=qfE x 4:=qjO x 2048 512 (by omega)
theorem qvi {x:ByteArray} (h:x.size=4096):x.extract 2048 2112=qa6 x 4 0:=qjO x 2048 64 (by omega)
def kB:ByteArray:=⟨#[107]⟩
def vB:ByteArray:=⟨#[118]⟩
def abcd:ByteArray:=⟨#[97,98,99,100]⟩
def V0:qaA:=⟨true,1,[],1⟩
def V1:qaA:=⟨true,1,[⟨1,0,kB,vB⟩],2⟩
theorem qpP:mayB (qjb 0 ⟨#[]⟩ ⟨#[]⟩)=true:=by decide +kernel
theorem qu2:mayB (qjb 2 kB vB)=true:=by decide +kernel
theorem qtp:mayB (qjb 5 ⟨#[]⟩ ⟨#[]⟩)=true:=by decide +kernel
theorem qlI {x img:ByteArray} (h:qvv x) : ∃ x1,Lay x1 4 V0∧doX x img shut (qjb 0 ⟨#[]⟩ ⟨#[]⟩)=(x1,⟨true,4,V0⟩,ansZero,0):=by
 have he:epOf (qla x)=0:=by rw [qlh h];rfl
 have hs:newSec x=((4:Nat):Int):=by unfold newSec;rw [qlh h];rfl
 have hn:newEp x=1:=by unfold newEp;rw [he];rfl
 have e:qcG x img []=(burnt (qjx x (newSec x)) (slotP (newSec x) 0) (recText (headRec (newEp x))),⟨true,newSec x,⟨true,newEp x,[],1⟩⟩,[],0):=by
  unfold qcG
  rw [he,if_neg (by decide),if_pos (by decide)]
  rfl
 refine ⟨_,qpC h.size (by omega) (by omega) (by decide) (by decide) h.dead,?_⟩
 unfold doX
 rw [qpP,if_neg (by decide)]
 unfold qhe
 rw [if_pos (show (qjb 0 ⟨#[]⟩ ⟨#[]⟩).kind=0 from rfl),show (qjb 0 ⟨#[]⟩ ⟨#[]⟩).reads=[] from rfl,e,hs,hn]
 rfl
theorem qq9 {x img:ByteArray} (h:Lay x 4 V0) : ∃ x1,Lay x1 4 V1∧doX x img ⟨true,4,V0⟩ (qjb 2 kB vB)=(x1,⟨true,4,V1⟩,ansZero,0):=by
 have hr:qcJ ⟨1,0,kB,vB⟩:=qiE (by decide) (by decide) (by decide)
 have hc:(changeR V0 4 ⟨1,0,kB,vB⟩).1=0:=by decide +kernel
 have h12:=qpj h hr hc (by decide)
 rw [show ((4:Nat):Int)=4 from rfl] at h12
 obtain ⟨h1,h2⟩:=h12
 refine ⟨_,h1,?_⟩
 unfold doX
 rw [qu2,if_neg (by decide)]
 unfold qhe
 rw [if_neg (show ¬ (qjb 2 kB vB).kind=0 by decide),if_neg (show ¬ (qjb 2 kB vB).kind=1 by decide),if_pos (show (qjb 2 kB vB).kind=2 from rfl)]
 unfold qvd
 rw [if_neg (show ¬ askedE ⟨true,4,V0⟩ (qjb 2 kB vB).key≠0 by decide),if_neg (show ¬ 20<(qjb 2 kB vB).value.size by decide)]
 unfold qef qtB
 rw [show (⟨true,4,V0⟩:qag).view=V0 from rfl,show (⟨true,4,V0⟩:qag).sector=4 from rfl,show (qjb 2 kB vB).key=kB from rfl,show (qjb 2 kB vB).value=vB from rfl,show (qjb 2 kB vB).reads=[] from rfl]
 generalize changeR V0 4 ⟨1,0,kB,vB⟩=c at hc h1 h2
 rw [hc,if_neg (by decide),if_neg (by decide),if_pos (by decide),h2]
 rfl
theorem qpA {x img:ByteArray}:doX x img ⟨true,4,V1⟩ (qjb 5 ⟨#[]⟩ ⟨#[]⟩)=(x,⟨true,4,V1⟩,⟨⟨#[]⟩,[⟨kB,vB⟩],[],false⟩,0):=by
 unfold doX
 rw [qtp,if_neg (by decide)]
 unfold qhe
 rw [if_neg (by decide),if_neg (by decide),if_neg (by decide),if_neg (by decide),if_neg (by decide),if_pos (show (qjb 5 ⟨#[]⟩ ⟨#[]⟩).kind=5 from rfl)]
 have:listR ⟨true,4,V1⟩=([⟨kB,vB⟩],0):=by decide +kernel
 rw [this]
theorem qm9:buildL V1.recs=[⟨kB,vB⟩]:=by decide +kernel
theorem qpz {x:ByteArray} (h:Lay x 4 V1):scanR (qfE x 4)=V1∧qaZ (qa6 x 4 0)=some (headRec 1) ∧ ∃ t,qbv (qa6 x 4 0)=some t∧t.size=32:=by
 have h1:=h.epoch.2.2
 have hg:qaZ (qa6 x 4 0)=some (headRec 1):=by
  rw [h1]
  exact qcV (qb6 (by decide) (by decide))
 refine ⟨h.view,hg,?_⟩
 unfold qaZ at hg
 cases hp:qbv (qa6 x 4 0) with
 | none=>rw [hp] at hg;cases hg
 | some t=>exact ⟨t,rfl,qgW hp⟩
end
section
open Go.RowKit
theorem qrG (x:Int) (w:World):Calls Tryz.prog 13 #[.int .i64 x] w fun e w'=>e=.returned (.int .i64 x)∧w'=w:=(qrF x w).mono fun e w' h=>⟨h.1,h.2.symm⟩
theorem qrs {x:ByteArray} {S:qag} {V:qaA} (h:Lay x 4 V) (e:S=⟨true,4,V⟩):S.Fit:=by
 subst e
 exact .inr ⟨rfl,show (4:Int)≤4 by decide,show (4:Int)<8 by decide,h.vok⟩
theorem qs5 (p:Nat) (W:Wld) (G:Nat→Prop) (x0 img:ByteArray) (w:World) (h:qaE w p W G) (n:Now W x0 img) (hs:W.S=shut) (hx:qvv x0):Calls Tryz.prog 11 #[.pointer (some ⟨p,0,none⟩),.agg #[.int .i64 0,.string ⟨#[]⟩,.string ⟨#[]⟩,.int .i64 0,.int .i64 0,.int .i64 0,.string ⟨#[]⟩,.slice none 0 0,.slice none 0 0]] w fun e w' => ∃ W' x1,Now W' x1 img∧W'.S=⟨true,4,V0⟩∧Lay x1 4 V0∧qa4 p W' ansZero 0 G w e w':=by
 obtain ⟨x1,h1,h2⟩:=qlI (img:=img) hx
 have:=qdS p W G (qjb 0 ⟨#[]⟩ ⟨#[]⟩) x0 img w h n (.inl hs) rfl (by decide) rfl rfl
 rw [hs,h2] at this
 refine this.mono ?_
 rintro e w' ⟨W',k1,k2,k3⟩
 exact ⟨W',x1,k1,k2,h1,k3⟩
theorem qr2 (p:Nat) (W:Wld) (G:Nat→Prop) (x0 img:ByteArray) (w:World) (h:qaE w p W G) (n:Now W x0 img) (hs:W.S=⟨true,4,V0⟩) (hx:Lay x0 4 V0):Calls Tryz.prog 11 #[.pointer (some ⟨p,0,none⟩),.agg #[.int .i64 2,.string ⟨#[107]⟩,.string ⟨#[118]⟩,.int .i64 0,.int .i64 0,.int .i64 0,.string ⟨#[]⟩,.slice none 0 0,.slice none 0 0]] w fun e w' => ∃ W' x1,Now W' x1 img∧W'.S=⟨true,4,V1⟩∧Lay x1 4 V1∧qa4 p W' ansZero 0 G w e w':=by
 obtain ⟨x1,h1,h2⟩:=qq9 (img:=img) hx
 have:=qdS p W G (qjb 2 kB vB) x0 img w h n (qrs hx hs) rfl (by decide) rfl rfl
 rw [hs,h2] at this
 refine this.mono ?_
 rintro e w' ⟨W',k1,k2,k3⟩
 exact ⟨W',x1,k1,k2,h1,k3⟩
def listA:qg6:=⟨⟨#[]⟩,[⟨kB,vB⟩],[],false⟩
theorem qtW (p:Nat) (W:Wld) (G:Nat→Prop) (x0 img:ByteArray) (w:World) (h:qaE w p W G) (n:Now W x0 img) (hs:W.S=⟨true,4,V1⟩) (hx:Lay x0 4 V1):Calls Tryz.prog 11 #[.pointer (some ⟨p,0,none⟩),.agg #[.int .i64 5,.string ⟨#[]⟩,.string ⟨#[]⟩,.int .i64 0,.int .i64 0,.int .i64 0,.string ⟨#[]⟩,.slice none 0 0,.slice none 0 0]] w fun e w' => ∃ W',Now W' x0 img∧qa4 p W' listA 0 G w e w':=by
 have:=qdS p W G (qjb 5 ⟨#[]⟩ ⟨#[]⟩) x0 img w h n (qrs hx hs) rfl (by decide) rfl rfl
 rw [hs,qpA] at this
 refine this.mono ?_
 rintro e w' ⟨W',k1,k2,k3⟩
 exact ⟨W',k1,k3⟩
structure Own (w w':World) (p:Nat) (W:Wld) (G:Nat→Prop):Prop where
 at_:qaE w' p W G
 below:Below w.heap.size w w'
 new : ∀ i,G i→w.heap.size≤i
theorem Own.later {w w1 w2:World} {p:Nat} {W:Wld} {G:Nat→Prop} (h:Own w w1 p W G) (hb:Below w1.heap.size w1 w2):Own w w2 p W G:=⟨h.at_.later hb,gtr h.below hb,h.new⟩
theorem Own.step {w w1 w2:World} {p:Nat} {W W':Wld} {G G':Nat→Prop} (h:Own w w1 p W G) (h2:qaE w2 p W' G') (st:Step G G' w1 w2):Own w w2 p W' G' :=
 ⟨h2,h.below.trans (st.touch.below h.below.size fun i hi hg=>by have:=h.new i hg;omega),fun i hi=>(st.foot i hi).elim (h.new i) (fun hl=>Nat.le_trans h.below.size hl)⟩
theorem qmR (w:World):Calls Tryz.prog 9 #[] w fun e w'=>e=.returned (.bool true)∧Below w.heap.size w w':=by
 have HN:=zH (show Calls Tryz.prog 16 #[.string ⟨#[97,98,99,100]⟩] w (qgM abcd w) from qfj abcd w (by decide))
 have HX:=zH (show qvv (firstX abcd) from qpy (by decide))
 have HM:=zH qrG
 go_enter Tryz.func9,Tryz.ntmps9
 go_upto_region 2 with (go_at_call 16;refine HN.out.mono ?_;rintro e w1 ⟨p,W0,G0,rfl,hw,hb,hg,hc,hl,ok,hbusy,hq,hs⟩)
 have HO:=zH (zA (show Own w w1 p W0 G0 from ⟨hw,hb,hg⟩) (zA (qrE hc hl ok hq (qta HX.out.size)) hs))
 clear hw hb hg hc hl ok hbusy hq hs HN
 generalize firstX abcd=x0 at *
 go_upto_region 4 with (go_at_call 13;refine (HM.out _ _).mono ?_;rintro e w' ⟨rfl,rfl⟩)
 have HD:=zH (fun w' hb=>qs5 p W0 G0 x0 x0 w' (HO.out.1.later hb).at_ HO.out.2.1 HO.out.2.2 HX.out)
 go_upto_region 5 with (go_at_call 11;refine (HD.out _ (Below.refl _ _)).mono ?_;rintro e w2 ⟨W1,x1,n1,hs1,lay1,va,vc,vb,vd,rfl,o1,o2,G1,hw1,st1,m1,m2⟩)
 have HO1:=zH (zA ((HO.out.1.step hw1 st1).later (qac (Below.refl _ _) (.cells #[.string ansZero.value,.slice va ansZero.pairs.length vc,.slice vb ansZero.reads.length vd,.bool ansZero.lost] 34))) (zA n1 (zA hs1 lay1)))
 generalize Value.agg #[.string ansZero.value,.slice va ansZero.pairs.length vc,.slice vb ansZero.reads.length vd,.bool ansZero.lost]=va1 at *
 generalize w2.alloc (.cells #[.string ansZero.value,.slice va ansZero.pairs.length vc,.slice vb ansZero.reads.length vd,.bool ansZero.lost] 34)=wA at *
 clear n1 hs1 lay1 o1 o2 hw1 st1 m1 m2 HD HO HX
 have HD:=zH (qr2 p W1 G1 x1 x0 wA HO1.out.1.at_ HO1.out.2.1 HO1.out.2.2.1 HO1.out.2.2.2)
 go_upto_region 6 with (go_at_call 11;refine HD.out.mono ?_;rintro e w3 ⟨W2,x2,n1,hs1,lay1,va,vc,vb,vd,rfl,o1,o2,G2,hw1,st1,m1,m2⟩)
 have HO2:=zH (zA ((HO1.out.1.step hw1 st1).later (qac (Below.refl _ _) (.cells #[.string ansZero.value,.slice va ansZero.pairs.length vc,.slice vb ansZero.reads.length vd,.bool ansZero.lost] 34))) (zA n1 (zA hs1 lay1)))
 generalize Value.agg #[.string ansZero.value,.slice va ansZero.pairs.length vc,.slice vb ansZero.reads.length vd,.bool ansZero.lost]=va2 at *
 generalize w3.alloc (.cells #[.string ansZero.value,.slice va ansZero.pairs.length vc,.slice vb ansZero.reads.length vd,.bool ansZero.lost] 34)=wB at *
 clear n1 hs1 lay1 o1 o2 hw1 st1 m1 m2 HD HO1
 have HD:=zH (qtW p W2 G2 x2 x0 wB HO2.out.1.at_ HO2.out.2.1 HO2.out.2.2.1 HO2.out.2.2.2)
 go_upto_region 7 with (go_at_call 11;refine HD.out.mono ?_;rintro e w4 ⟨W3,n1,va,vc,vb,vd,rfl,o1,o2,G3,hw1,st1,m1,m2⟩)
 have kD:=qad w4 (.cells #[.string listA.value,.slice va listA.pairs.length vc,.slice vb listA.reads.length vd,.bool listA.lost] 34)
 have HO3:=zH (zA ((HO2.out.1.step hw1 st1).later (qac (Below.refl _ _) (.cells #[.string listA.value,.slice va listA.pairs.length vc,.slice vb listA.reads.length vd,.bool listA.lost] 34))) (zA n1.calm.cells (SliceAt.of_own (o1.alloc (.cells #[.string listA.value,.slice va listA.pairs.length vc,.slice vb listA.reads.length vd,.bool listA.lost] 34)))))
 have HK:=zH kD
 have hx4:x2.size=4096:=HO2.out.2.2.2.size
 have HH:=zH (qpz HO2.out.2.2.2)
 have HE:=zH (zA (qwA hx4) (qvi hx4))
 generalize Value.agg #[.string listA.value,.slice va listA.pairs.length vc,.slice vb listA.reads.length vd,.bool listA.lost]=va3 at *
 generalize w4.alloc (.cells #[.string listA.value,.slice va listA.pairs.length vc,.slice vb listA.reads.length vd,.bool listA.lost] 34)=wC at *
 generalize w4.heap.size=bL at *
 clear n1 o1 o2 hw1 st1 m1 m2 HD HO2 kD
 have HC:=zH (qd4 p W3 G3 wC HO3.out.1.at_)
 rw [HO3.out.2.1] at HC
 go_upto_region 8 with (go_at_call 14;refine HC.out.mono ?_;rintro e w5 ⟨rfl,rfl⟩)
 go_upto_region 10 with fail
 have HS:=zH (qj8 (qfE x2 4) w5 (qbn _ _))
 rw [HH.out.1] at HS
 have b10:(2048:Int)≤4096:=by decide
 go_upto_region 11 with (go_at_call 19;rw [HE.out.1];refine HS.out.mono ?_;rintro e w6 ⟨vr,rfl,o6,hb6⟩;obtain ⟨va5,vc5,rfl⟩:=qax o6)
 have HV:=zH (qad w6 (.cells #[.bool V1.good,.int .i64 V1.epoch,.slice va5 V1.recs.length vc5,.int .i64 V1.free] 52))
 have HB6:=zH (gtr hb6 (qac (Below.refl w6.heap.size w6) (.cells #[.bool V1.good,.int .i64 V1.epoch,.slice va5 V1.recs.length vc5,.int .i64 V1.free] 52)))
 have HR:=zH (SliceAt.of_own (o6.alloc (.cells #[.bool V1.good,.int .i64 V1.epoch,.slice va5 V1.recs.length vc5,.int .i64 V1.free] 52)))
 generalize Value.agg #[.bool V1.good,.int .i64 V1.epoch,.slice va5 V1.recs.length vc5,.int .i64 V1.free]=va6 at *
 generalize w6.alloc (.cells #[.bool V1.good,.int .i64 V1.epoch,.slice va5 V1.recs.length vc5,.int .i64 V1.free] 52)=wD at *
 generalize w6.heap.size=bV at *
 clear o6 hb6 HS HC
 obtain ⟨t,ht1,ht2⟩:=HH.out.2.2
 have HG:=zH (qf8 (qa6 x2 4 0) wD)
 rw [ht1,show qgA (some t) 200=.tuple #[.string t,.int .i64 0] from rfl] at HG
 have HT:=zH ht2
 clear ht1 ht2
 go_upto_region 12 with (go_at_call 25;rw [HE.out.2];refine HG.out.mono ?_;rintro e w7 ⟨rfl,hb7⟩)
 have HB7:=zH hb7
 have HG2:=zH (qgY (qa6 x2 4 0) w7)
 rw [HH.out.2.1,show qiw (some (headRec 1)) 1900=.tuple #[.agg #[.int .i64 0,.int .i64 1,.string ⟨#[]⟩,.string ⟨#[]⟩],.int .i64 0] from rfl] at HG2
 clear hb7 HG
 go_upto_region 13 with (go_at_call 26;rw [HE.out.2];refine HG2.out.mono ?_;rintro e w8 ⟨rfl,hb8⟩)
 have HRB:=zH (qad w8 (.cells #[.int .i64 0,.int .i64 1,.string ⟨#[]⟩,.string ⟨#[]⟩] 74))
 have HB8:=zH (gtr hb8 (qac (Below.refl w8.heap.size w8) (.cells #[.int .i64 0,.int .i64 1,.string ⟨#[]⟩,.string ⟨#[]⟩] 74)))
 generalize w8.alloc (.cells #[.int .i64 0,.int .i64 1,.string ⟨#[]⟩,.string ⟨#[]⟩] 74)=wE at *
 generalize w8.heap.size=bR at *
 clear hb8 HG2
 have HBD:=zH (gtr HB7.out HB8.out)
 have kV:=qab HBD.out HV.out
 have c2:wE.cell? ⟨bV,2,none⟩=some (.slice va5 V1.recs.length vc5):=qaa kV 2
 have HBU:=zH (qfq _ V1.recs wE (HR.out.later HBD.out) (by decide) (by
  intro r hr
  rw [show V1.recs=[⟨1,0,kB,vB⟩] from rfl,List.mem_singleton] at hr
  rw [hr]
  exact qiE (by decide) (by decide) (by decide)))
 clear kV
 rw [qm9] at HBU
 go_upto_region 14 with (go_at_call 27;refine HBU.out.mono ?_;rintro e w9 ⟨vp,rfl,o9,hb9⟩;obtain ⟨va9,vc9,rfl⟩:=qax o9)
 have HB9:=zH hb9
 have H9:=zH (SliceAt.of_own o9)
 clear hb9 o9 c2 HBU
 have HCN:=zH (qfQ x2 w9 hx4)
 go_upto_region 15 with (go_at_call 28;refine HCN.out.mono ?_;rintro e w10 ⟨pc,rfl,hch,hb10,_⟩)
 have HB10:=zH hb10
 clear hch hb10 HCN
 have HL10:=zH (gtr HB6.out (gtr HBD.out (gtr HB9.out HB10.out)))
 have HVV:=zH (qab (gtr HBD.out (gtr HB9.out HB10.out)) HV.out)
 have HRR:=zH (qab (gtr HB9.out HB10.out) HRB.out)
 have HKK:=zH (qab HL10.out HK.out)
 have HLS:=zH (HO3.out.2.2.later HL10.out)
 have HPS:=zH (H9.out.later HB10.out)
 have HBW:=zH (gtr HO3.out.1.below HL10.out)
 have HFW:=zH (fun w' (hb:Below w10.heap.size w10 w')=>(show w'.cell? ⟨bL,1,none⟩=some (.slice va listA.pairs.length vc)∧w'.cell? ⟨bV,0,none⟩=some (.bool true)∧w'.cell? ⟨bR,1,none⟩=some (.int .i64 1) from ⟨qaa (qab hb HKK.out) 1,qaa (qab hb HVV.out) 0,qaa (qab hb HRR.out) 1⟩))
 have hnew:=SliceAt.of_own (qkN (B:=0) (sz:=2) (n:=1) (qad w10 (.cells #[.string ⟨#[107]⟩,.string ⟨#[118]⟩] 83)) (Nat.zero_le _) rfl (by decide))
 have HP1:=zH (qeB _ _ listA.pairs [⟨kB,vB⟩] _ (HLS.out.later (qac (Below.refl _ _) _)) hnew (by decide))
 rw [show decide (listA.pairs=[⟨kB,vB⟩])=true from by decide +kernel] at HP1
 have HP2:=zH (fun w' (hb:Below w10.heap.size w10 w')=>(show Calls Tryz.prog 22 #[.slice va9 1 vc9,.slice va listA.pairs.length vc] w' (qup true w') from by
  have:=qeB _ _ [⟨kB,vB⟩] listA.pairs w' (HPS.out.later hb) (HLS.out.later hb) (by decide)
  rw [show decide ([⟨kB,vB⟩]=listA.pairs)=true from by decide +kernel] at this
  exact this))
 obtain ⟨c1,c2,c3⟩:=HFW.out w10 (Below.refl _ _)
 have ht:=HT.out
 clear hnew
 go_wp2_with (first
  | (go_at_call 13;refine (HM.out _ _).mono ?_;rintro e w' ⟨rfl,rfl⟩)
  | (go_at_call 22;(with_reducible refine HP1.out.mono ?_);rintro e w11 ⟨rfl,hb11⟩;obtain ⟨d1,d2,d3⟩:=HFW.out w11 (gtr (qac (Below.refl _ _) _) hb11))
  | (go_at_call 22;(with_reducible refine (HP2.out _ (gtr (qac (Below.refl _ _) _) hb11)).mono ?_);rintro e w12 ⟨rfl,hb12⟩))
 go_ret
 exact ⟨rfl,gtr HBW.out (gtr (gtr (qac (Below.refl _ _) _) hb11) hb12)⟩
end
end Go.Proofs.YtcfdenckiigdaaaGreat

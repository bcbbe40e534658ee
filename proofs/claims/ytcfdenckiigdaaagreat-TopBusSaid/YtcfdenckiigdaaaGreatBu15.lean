/- Part 15 of the contracts. -/
import Derived.Test.YtcfdenckiigdaaaGreatBu14
set_option linter.unusedVariables false
set_option maxRecDepth 100000
set_option maxHeartbeats 4000000
namespace Go.Proofs.YtcfdenckiigdaaaGreat
open Tryz Go.RowKit
def fw (s:Int):Int:=if s+1 ≥ 8 then 4 else s+1
theorem oq (s:Int) (w:World) (h0:0≤s) (h1:s≤100):Calls prog 89 #[.int .i64 s] w fun e w'=>e=.returned (.int .i64 (fw s))∧w=w':=by
 have hw:wrap64 (s+1)=s+1:=by unfold wrap64;omega
 by_cases h:s+1 ≥ 8
 ·
  have e:fw s=4:=by unfold fw;rw [if_pos h]
  rw [e];clear e
  go_enter func89,ntmps89
  go_wp2
  go_ret
  exact ⟨rfl,rfl⟩
 ·
  have e:fw s=s+1:=by unfold fw;rw [if_neg h]
  rw [e];clear e
  go_enter func89,ntmps89
  go_wp2
  go_ret
  exact ⟨rfl,rfl⟩
structure KM (w:World) (b:Nat) (V:bg):Prop where
 ex : ∃ vr,w.heap[b]? = some (.cells #[.bool V.bX,.int .i64 V.ak,vr,.int .i64 V.free] 52 (0,0))∧bj w vr V.ay.length 4 (bk V.ay)
structure bg.Ok (V:bg):Prop where
 bX:V.bX=true
 ak:1≤V.ak∧V.ak≤1048576
 free:1≤V.free∧V.free≤8
 len:V.ay.length≤7
 ay : ∀ r ∈ V.ay,gI r
def GD (ps qs:List aU) (w:World) (e:Ending) (w':World):Prop := ∃ x y,e=.returned (.tuple #[x,y,.int .i64 0])∧w'.ownsRow w.heap.size 83 2 x ps.length (aI ps)∧w'.ownsRow w.heap.size 83 2 y qs.length (aI qs)∧Below w.heap.size w w'
theorem wj (b:Nat) (V:bg) (r:aS) (w:World) (h:KM w b V) (ok:V.Ok) (hr:gI r):Calls prog 172 #[.pointer (some ⟨b,0,none⟩),.agg r.cells] w (GD (cg V.ay) (ew (cg V.ay) r) w):=by
 obtain ⟨vr,hb,hs⟩:=h
 have HBL:=zH (fun w h=>nE vr V.ay w h (by have:=ok.len;omega) ok.ay)
 have HW:=zH (fun v w h=>xn v (cg V.ay) r w h (dq _ V.ay rfl ok.ay).1 (by have:=(dq _ V.ay rfl ok.ay).2;have:=ok.len;omega) hr.1 hr.2)
 have HS:=zH (zA hb hs)
 obtain ⟨c0,c1,c2,c3,hf⟩:=cw hb
 have hbl:b<w.heap.size:=aV hb
 have hg:=ok.bX
 have he:=ok.ak
 have hfr:=ok.free
 have HE:=zH (fun n w=>oy n w)
 obtain ⟨va,vc,rfl⟩:=hs.slice
 unfold aS.cells at HW ⊢
 rw [hg] at c0
 clear hb hs hg hr ok
 go_enter func172,ntmps172
 go_wp2_with (go_at_call 114;refine (HE.out _ _).mono ?_;rintro e w' ⟨rfl,rfl⟩)
 have hnb:=ae (Below.refl _ w) (.cells #[.int .i64 r.kind,.int .i64 r.ak,.string r.key,.string r.value] 74)
 refine (HBL.out _ (HS.out.2.aj hnb)).mono ?_
 rintro e w1 ⟨x,rfl,ho,hb1⟩
 obtain ⟨d0,d1,d2,d3,df⟩:=cw (aa hb1 (ag w (.cells #[.int .i64 r.kind,.int .i64 r.ak,.string r.key,.string r.value] 74)))
 have HB1:=zH (zA (gtr hnb hb1) (gu ho hnb.size))
 clear hb1 ho hnb
 obtain ⟨xa,xc,rfl⟩:=cA HB1.out.2
 clear c0 c1 c2 c3 hf
 go_wp2_with fail
 refine (HW.out _ _ (bj.cX HB1.out.2)).mono ?_
 rintro e w2 ⟨y,rfl,ho2,hb2⟩
 have HB2:=zH (zA (gtr HB1.out.1 hb2) (zA (World.ownsRow.aj HB1.out.2 hb2) (gu ho2 HB1.out.1.size)))
 clear hb2 ho2
 go_wp2
 refine bodyPost_ret (v:=.tuple #[.slice xa (cg V.ay).length xc,y,.int .i64 0]) (by simp [results,results172,go_sem]) rfl ?_
 exact ⟨_,_,rfl,HB2.out.2.1,HB2.out.2.2,HB2.out.1⟩
structure fu where
 dy:Int
 aq:Int
 bH:List Int
 ay:List aS
 free:Int
 ak:Int
def eI (p:aU):aS:=⟨1,0,p.key,p.value⟩
def jq (aq ak:Int) (ps:List aU):fu:=⟨aq,aq,(List.range ps.length).map (fun i:Nat=>(i:Int)+1)++[0],ps.map eI++[⟨0,ak,⟨#[]⟩,⟨#[]⟩⟩],ps.length+1,ak⟩
def oU (p:fu) (vs vr:Value):Array Value := #[.int .i64 p.dy,.int .i64 p.aq,vs,vr,.int .i64 p.free,.int .i64 p.ak]
def AP (p:fu) (w:World) (e:Ending) (w':World):Prop := ∃ vs vr,e=.returned (.agg (oU p vs vr))∧w'.ownsRow w.heap.size 3 1 vs p.bH.length (az p.bH)∧w'.ownsRow w.heap.size 74 4 vr p.ay.length (bk p.ay)∧Below w.heap.size w w'
structure gp (w wr:World) (b g:Nat) (aq ak:Int) (sl:List Int) (rs:List aS) (free:Int):Prop where
 below:Below w.heap.size w wr
 ne:b≠g
 res:wr.heap[b]? = some (.cells #[.int .i64 0,.int .i64 0,.slice none 0 0,.slice none 0 0,.int .i64 0,.int .i64 0] 228 (0,0))
 row : ∃ vs vr,wr.heap[g]? = some (.cells #[.int .i64 aq,.int .i64 aq,vs,vr,.int .i64 free,.int .i64 ak] 228 (0,0))∧wr.ownsRow w.heap.size 3 1 vs sl.length (az sl)∧wr.ownsRow w.heap.size 74 4 vr rs.length (bk rs)
theorem qU {w w2:World} {B B':Nat} {t t':TypeId} {v v':Value} {n n' sz sz':Nat} {cs cs':List Value} (h:w.ownsRow B t sz v n cs) (h':w.ownsRow B' t' sz' v' n' cs') (ht:t≠t') (hg:w.grownBy w2 v'.ownBlock):w2.ownsRow B t sz v n cs:=by
 refine ⟨h.1,h.2.imp id fun ⟨g,cap,cur,hv,hB,hh,r⟩=>⟨g,cap,cur,hv,hB,?_,r⟩⟩
 exact (hg.block g (aV hh) (eG h' hh (fun e=>ht e.symm))).trans hh
theorem jN {w:World} {g:Nat} {a b c d e f:Value} {t:TypeId} (h:w.heap[g]? = some (.cells #[a,b,c,d,e,f] t (0,0))):w.cell? ⟨g,0,none⟩=some a∧w.cell? ⟨g,1,none⟩=some b∧w.cell? ⟨g,2,none⟩=some c∧w.cell? ⟨g,3,none⟩=some d∧w.cell? ⟨g,4,none⟩=some e∧w.cell? ⟨g,5,none⟩=some f ∧ ∀ i,w.frozen? ⟨g,i,none⟩=false :=
 ⟨cell_of h 0,cell_of h 1,cell_of h 2,cell_of h 3,cell_of h 4,cell_of h 5,fun i=>aC h i⟩
theorem nS {w w2:World} {N:Nat} {v:Value} {w0:World} (hb:Below N w0 w) (hN:N≤w.heap.size) (ho : ∀ k,v.ownBlock=some k→N≤k) (hg:w.grownBy w2 v.ownBlock):Below N w0 w2 :=
 hb.trans ⟨hg.os,hg.tape,hg.output,hg.size,fun i hi=>hg.block i (zV hi hN) (fun e=>by have:=ho i e.symm;omega)⟩
theorem gp.aj {w wr w2:World} {b g:Nat} {aq ak free:Int} {sl:List Int} {rs:List aS} (h:gp w wr b g aq ak sl rs free) (hb:Below wr.heap.size wr w2):gp w w2 b g aq ak sl rs free:=by
 obtain ⟨vs,vr,h1,h2,h3⟩:=h.row
 exact ⟨gtr h.below hb,h.ne,aa hb h.res,vs,vr,aa hb h1,World.ownsRow.aj h2 hb,World.ownsRow.aj h3 hb⟩
theorem gp.bH {w wr w2:World} {b g:Nat} {aq ak free:Int} {sl sl':List Int} {rs:List aS} {v v':Value} (h:gp w wr b g aq ak sl rs free) (hw:w.heap.size≤g) (hv:wr.cell? ⟨g,2,none⟩=some v) (hg:wr.grownBy w2 v.ownBlock) (ho:w2.ownsRow w.heap.size 3 1 v' sl'.length (az sl')):(∃ x,w2.cell? ⟨g,2,none⟩=some x)∧(∀ i,w2.frozen? ⟨g,i,none⟩=false)∧gp w (w2.setCell ⟨g,2,none⟩ v') b g aq ak sl' rs free:=by
 obtain ⟨vs,vr,h1,h2,h3⟩:=h.row
 obtain rfl:vs=v:=by rw [cell_of h1] at hv;simpa using hv
 have e1:w2.heap[g]? = _:=(hg.block g (aV h1) (eG h2 h1 (by decide))).trans h1
 have e2:w2.heap[b]? = _:=(hg.block b (aV h.res) (eG h2 h.res (by decide))).trans h.res
 have hb:=nS h.below h.below.size (cH h2) hg
 refine ⟨⟨_,cell_of e1 2⟩,fun i=>aC e1 i,kv hb hw _,h.ne,?_,v',vr,av (i:=2) (v:=v') e1,fy ho (eG ho e1 (by decide)) _,fy (qU h3 h2 (by decide) hg) (eG (qU h3 h2 (by decide) hg) e1 (by decide)) _⟩
 rw [Below.heap_setCell _ _ _ _ h.ne];exact e2
theorem gp.ay {w wr w2:World} {b g:Nat} {aq ak free:Int} {sl:List Int} {rs rs':List aS} {v v':Value} (h:gp w wr b g aq ak sl rs free) (hw:w.heap.size≤g) (hv:wr.cell? ⟨g,3,none⟩=some v) (hg:wr.grownBy w2 v.ownBlock) (ho:w2.ownsRow w.heap.size 74 4 v' rs'.length (bk rs')):(∃ x,w2.cell? ⟨g,3,none⟩=some x)∧(∀ i,w2.frozen? ⟨g,i,none⟩=false)∧gp w (w2.setCell ⟨g,3,none⟩ v') b g aq ak sl rs' free:=by
 obtain ⟨vs,vr,h1,h2,h3⟩:=h.row
 obtain rfl:vr=v:=by rw [cell_of h1] at hv;simpa using hv
 have e1:w2.heap[g]? = _:=(hg.block g (aV h1) (eG h3 h1 (by decide))).trans h1
 have e2:w2.heap[b]? = _:=(hg.block b (aV h.res) (eG h3 h.res (by decide))).trans h.res
 have hb:=nS h.below h.below.size (cH h3) hg
 refine ⟨⟨_,cell_of e1 3⟩,fun i=>aC e1 i,kv hb hw _,h.ne,?_,vs,v',av (i:=3) (v:=v') e1,fy (qU h2 h3 (by decide) hg) (eG (qU h2 h3 (by decide) hg) e1 (by decide)) _,fy ho (eG ho e1 (by decide)) _⟩
 rw [Below.heap_setCell _ _ _ _ h.ne];exact e2
theorem gp.LG {w wr:World} {b g:Nat} {aq ak free:Int} {sl:List Int} {rs:List aS} (h:gp w wr b g aq ak sl rs free) (hw:w.heap.size≤g) (x:Int):gp w (wr.setCell ⟨g,4,none⟩ (.int .i64 x)) b g aq ak sl rs x:=by
 obtain ⟨vs,vr,h1,h2,h3⟩:=h.row
 refine ⟨kv h.below hw _,h.ne,?_,vs,vr,av (i:=4) (v:=.int .i64 x) h1,fy h2 (eG h2 h1 (by decide)) _,fy h3 (eG h3 h1 (by decide)) _⟩
 rw [Below.heap_setCell _ _ _ _ h.ne];exact h.res
theorem gp.jN {w wr:World} {b g:Nat} {aq ak free:Int} {sl:List Int} {rs:List aS} (h:gp w wr b g aq ak sl rs free) : ∃ vs vr,(wr.cell? ⟨g,0,none⟩=some (.int .i64 aq)∧wr.cell? ⟨g,1,none⟩=some (.int .i64 aq)∧wr.cell? ⟨g,2,none⟩=some vs∧wr.cell? ⟨g,3,none⟩=some vr∧wr.cell? ⟨g,4,none⟩=some (.int .i64 free)∧wr.cell? ⟨g,5,none⟩=some (.int .i64 ak) ∧ ∀ i,wr.frozen? ⟨g,i,none⟩=false)∧wr.ownsRow w.heap.size 3 1 vs sl.length (az sl)∧wr.ownsRow w.heap.size 74 4 vr rs.length (bk rs):=by
 obtain ⟨vs,vr,h1,h2,h3⟩:=h.row
 exact ⟨vs,vr,YtcfdenckiigdaaaGreat.jN h1,h2,h3⟩
theorem ku {w w1 w2:World} {r:Option Nat} (hb:Below w.heap.size w w1) (hg:w1.grownBy w2 r):w.grownBy w2 r :=
 ⟨hg.os.trans hb.os,hg.tape.trans hb.tape,hg.output.trans hb.output,Nat.le_trans hb.size hg.size,fun i hi hn=>(hg.block i (zV hi hb.size) hn).trans (hb.block i hi)⟩
def Au (w:World) (g:Nat) (a b c d e f:Value):World:=(((((w.setCell ⟨g,0,none⟩ a).setCell ⟨g,1,none⟩ b).setCell ⟨g,2,none⟩ c).setCell ⟨g,3,none⟩ d).setCell ⟨g,4,none⟩ e).setCell ⟨g,5,none⟩ f
theorem fE {N:Nat} {w0 w:World} {g:Nat} (h:Below N w0 w) (hg:N≤g) (a b c d e f:Value):Below N w0 (Au w g a b c d e f) :=
 ((((((h.setCell (p:=⟨g,0,none⟩) hg a).setCell (p:=⟨g,1,none⟩) hg b).setCell (p:=⟨g,2,none⟩) hg c).setCell (p:=⟨g,3,none⟩) hg d).setCell (p:=⟨g,4,none⟩) hg e).setCell (p:=⟨g,5,none⟩) hg f)
theorem jI {w:World} {B:Nat} {t:TypeId} {v:Value} {n sz:Nat} {cs:List Value} {g:Nat} (h:w.ownsRow B t sz v n cs) (hn:some g≠v.ownBlock) (a b c d e f:Value):(Au w g a b c d e f).ownsRow B t sz v n cs :=
 fy (fy (fy (fy (fy (fy h hn a) hn b) hn c) hn d) hn e) hn f
theorem uC (aq ak:Int) (v:Value) (ps:List aU) (w:World) (h:bj w v ps.length 2 (aI ps)) (hn:ps.length≤100):Calls prog 173 #[.int .i64 aq,.int .i64 ak,v] w (AP (jq aq ak ps) w):=by
 have H:=zH h
 have HX:=zH (fun i (hi:i<ps.length)=>fz ps i hi)
 obtain ⟨a,c,rfl⟩:=h.slice
 clear h
 obtain ⟨i0,hi,hz0,hz1,hz2⟩:=info_parts (show (prog.info? 3).map (fun i=>(i.zero,i.size,i.bytes))=some (some (.int .i64 0),1,8) by kernel_rfl)
 obtain ⟨j0,ji,jz0,jz1,jz2⟩:=info_parts vM
 have hg1:w.heap.size≤w.heap.size+1:=by omega
 go_enter func173,ntmps173
 go_wp2
 go_loopg [16] ps.length (fun n i wr => ∃ j:Nat,n=ps.length - j∧i=.int .i64 j∧j≤ps.length∧gp w wr w.heap.size (w.heap.size+1) aq ak ((List.range j).map (fun i:Nat=>(i:Int)+1)) ((ps.take j).map eI) (j+1))
 case atStart =>
  refine ⟨0,rfl,rfl,Nat.zero_le _,ae (ae zR _) _,by omega,?_,.slice none 0 0,.slice none 0 0,?_,zN,zN⟩
  ·
   exact aa (ae (Below.refl _ (w.alloc _)) _) (ag w _)
  ·
   simpa using ag (w.alloc _) _
 case round =>
  obtain ⟨j,hgn,rfl,hj,hM⟩:=hrel
  have HB:=zH (zA hgn hM)
  clear hgn hM
  obtain ⟨vs,vr,⟨c0,c1,c2,c3,c4,c5,hf⟩,hs,hr⟩:=HB.out.2.jN
  have hgl:w.heap.size+1<wr.heap.size:=zL wr _ c0
  by_cases hlt:j<ps.length
  ·
   have hlt':(j:Int)<(ps.length:Int):=by omega
   obtain ⟨b,o,rfl,hc,hx⟩:=H.out.some (by omega)
   obtain ⟨p0,p1⟩:=HX.out j hlt
   have cc : ∀ i u,(aI ps)[2 * j+i]? = some u→wr.cell? ⟨b,o+j * 2+i,none⟩=some u:=fun i u hu=>by
    have e:=hx _ _ hu
    rw [show o+j * 2+i=o+(2 * j+i) by omega]
    exact (HB.out.2.below.cell (p:=⟨b,o+(2 * j+i),none⟩) (zL w _ e)).trans e
   have d0:wr.cell? ⟨b,o+j * 2,none⟩=some (.string ps[j].key):=cc 0 _ p0
   have d1:wr.cell? ⟨b,o+j * 2+1,none⟩=some (.string ps[j].value):=cc 1 _ p1
   have HS:=zH (zA hs hr)
   clear p0 p1 cc hx hs hr
   go_wp2_with (at_builtin;refine wpList_append_lies _ rfl _ _ 22 rfl w.heap.size 3 i0 (.int .i64 0) 1 8 underlying22 hi hz0 hz1 hz2 rfl (by decide) vs ((List.range j).map (fun i:Nat=>(i:Int)+1)).length (az ((List.range j).map (fun i:Nat=>(i:Int)+1))) ?a1 (World.ownsRow.aj HS.out.1 (ae (ae zR _) _)) ⟨wr.heap.size+1,0,none⟩ 1 1 [.int .i64 ((j:Int)+1)] ?a2 rfl ?a3 ?a4 (by decide) ?a5 ?a6 ?a7 _ rfl ?_)
   case a1=>rfl
   case a2=>rfl
   case a3=>exact World.news_of_block (cs := #[.int .i64 ((j:Int)+1)]) (t:=3) (fr:=(0,0)) (by simpa using ag (wr.alloc _) _)
   case a4=>intro u hu;simp only [List.mem_cons,List.not_mem_nil,or_false] at hu;rcases hu with rfl;rfl
   case a5=>simp only [maxLen,List.length_map,List.length_range];omega
   case a6=>simp only [List.length_map,List.length_range];omega
   case a7=>have:=HB.out.2.below.size;simp only [World.size_alloc];omega
   intro g4 cap4 w2 how hgr _ _
   have hgr2:=ku (ae (ae (Below.refl wr.heap.size wr) (.cells #[.string ps[j].key,.string ps[j].value] 83)) (.cells #[.int .i64 ((j:Int)+1)] 3)) hgr
   have hpr:w2.heap[wr.heap.size]? = some (.cells #[.string ps[j].key,.string ps[j].value] 83 (0,0)):=(hgr.block wr.heap.size (by simp only [World.size_alloc];omega) (Ae HS.out.1)).trans (aa (ae (Below.refl _ (wr.alloc _)) _) (ag wr _))
   have how2:w2.ownsRow w.heap.size 3 1 (.slice (some ⟨g4,0,none⟩) (j+1) cap4) ((List.range (j+1)).map (fun i:Nat=>(i:Int)+1)).length (az ((List.range (j+1)).map (fun i:Nat=>(i:Int)+1))):=by
    rw [List.range_succ,List.map_append,List.length_append]
    have e:az ((List.range j).map (fun i:Nat=>(i:Int)+1)++[j].map (fun i:Nat=>(i:Int)+1))=az ((List.range j).map (fun i:Nat=>(i:Int)+1))++[.int .i64 ((j:Int)+1)]:=by simp [az]
    rw [e];simp only [List.length_map,List.length_range,List.length_cons,List.length_nil];exact how
   have hgl2:wr.heap.size<w2.heap.size:=aV hpr
   obtain ⟨⟨y,e2⟩,hf',hM2⟩:=HB.out.2.bH hg1 c2 hgr2 how2
   have hpr2:(w2.setCell ⟨w.heap.size+1,2,none⟩ (.slice (some ⟨g4,0,none⟩) (j+1) cap4)).heap[wr.heap.size]? = some (.cells #[.string ps[j].key,.string ps[j].value] 83 (0,0)):=by
    rw [Below.heap_setCell _ _ _ _ (show wr.heap.size≠w.heap.size+1 by omega)];exact hpr
   have HM2:=zH (zA hM2 hpr2)
   clear how hgr hgr2 how2 hM2 hpr hpr2 HS c0 c1 c2 c3 c4 c5 hf d0 d1
   go_upto_region 6 with fail
   generalize w2.setCell ⟨w.heap.size+1,2,none⟩ (.slice (some ⟨g4,0,none⟩) (j+1) cap4)=w3 at *
   clear e2 hf' hgl2
   obtain ⟨vs3,vr3,⟨c0,c1,c2,c3,c4,c5,hf⟩,hs,hr⟩:=HM2.out.1.jN
   have d0:w3.cell? ⟨wr.heap.size,0,none⟩=some (.string ps[j].key):=cell_of HM2.out.2 0
   have d1:w3.cell? ⟨wr.heap.size,1,none⟩=some (.string ps[j].value):=cell_of HM2.out.2 1
   have HS3:=zH (zA hs hr)
   have hgl3:w.heap.size+1<w3.heap.size:=zL w3 _ c0
   clear hs hr
   go_wp2_with (at_builtin;refine wpList_append_lies _ rfl _ _ 50 rfl w.heap.size 74 j0 (.agg #[.int .i64 0,.int .i64 0,.string ⟨#[]⟩,.string ⟨#[]⟩]) 4 48 underlying50 ji jz0 jz1 jz2 rfl (by decide) vr3 ((ps.take j).map eI).length (bk ((ps.take j).map eI)) ?b1 (World.ownsRow.aj HS3.out.2 (ae zR _)) ⟨w3.heap.size,0,none⟩ 1 1 [.int .i64 1,.int .i64 0,.string ps[j].key,.string ps[j].value] ?b2 rfl ?b3 ?b4 (by decide) ?b5 ?b6 ?b7 _ rfl ?_)
   case b1=>rfl
   case b2=>rfl
   case b3=>exact World.news_of_block (cs := #[.int .i64 1,.int .i64 0,.string ps[j].key,.string ps[j].value]) (t:=74) (fr:=(0,0)) (ag w3 _)
   case b4=>intro u hu;simp only [List.mem_cons,List.not_mem_nil,or_false] at hu;rcases hu with rfl | rfl | rfl | rfl <;> rfl
   case b5=>simp only [maxLen,List.length_map,List.length_take];omega
   case b6=>simp only [List.length_map,List.length_take];omega
   case b7=>have:=HM2.out.1.below.size;simp only [World.size_alloc];omega
   intro g5 cap5 w4 how hgr _ _
   have hgr2:=ku (ae (Below.refl w3.heap.size w3) (.cells #[.int .i64 1,.int .i64 0,.string ps[j].key,.string ps[j].value] 74)) hgr
   have how2:w4.ownsRow w.heap.size 74 4 (.slice (some ⟨g5,0,none⟩) (j+1) cap5) ((ps.take (j+1)).map eI).length (bk ((ps.take (j+1)).map eI)):=by
    have hjl:((ps.take j).map eI).length=j:=by rw [List.length_map,List.length_take];omega
    rw [← List.map_take] at how
    rw [List.take_succ_eq_append_getElem hlt,List.map_append,List.length_append,List.map_cons,List.map_nil,jY,hjl]
    exact how
   obtain ⟨⟨y5,e2⟩,hf',hM2⟩:=HM2.out.1.ay hg1 c3 hgr2 how2
   have HM3:=zH hM2
   clear how hgr hgr2 how2 hM2 HS3 c0 c1 c2 c3 c4 c5 hf d0 d1 HM2
   go_upto_region 7 with fail
   generalize w4.setCell ⟨w.heap.size+1,3,none⟩ (.slice (some ⟨g5,0,none⟩) (j+1) cap5)=w5 at *
   clear e2 hf'
   obtain ⟨vs5,vr5,⟨c0,c1,c2,c3,c4,c5,hf⟩,hs,hr⟩:=HM3.out.jN
   have HM4:=zH (HM3.out.LG hg1 ((j:Int)+1+1))
   clear hs hr c0 c1 c2 c3 c5
   go_wp2
   go_roundg (ps.length - (j+1))
   case measure=>have:=HB.out.1;omega
   case rel=>exact ⟨j+1,rfl,by go_num,by omega,HM4.out⟩
  ·
   obtain rfl:j=ps.length:=by omega
   have HV:=zH (show jq aq ak ps=⟨aq,aq,(List.range ps.length).map (fun i:Nat=>(i:Int)+1)++[0],ps.map eI++[⟨0,ak,⟨#[]⟩,⟨#[]⟩⟩],ps.length+1,ak⟩ from rfl)
   rw [List.take_length] at HB hr
   have HS:=zH (zA hs hr)
   clear hs hr
   generalize hsl:(List.range ps.length).map (fun i:Nat=>(i:Int)+1)=sl at *
   generalize hrl:ps.map eI=rl at *
   have hsn:sl.length=ps.length:=by rw [← hsl];simp
   have hrn:rl.length=ps.length:=by rw [← hrl];simp
   clear hsl hrl
   go_wp2_with (at_builtin;refine wpList_append_lies _ rfl _ _ 22 rfl w.heap.size 3 i0 (.int .i64 0) 1 8 underlying22 hi hz0 hz1 hz2 rfl (by decide) vs sl.length (az sl) ?a1 (World.ownsRow.aj HS.out.1 (ae zR _)) ⟨wr.heap.size,0,none⟩ 1 1 [.int .i64 0] ?a2 rfl ?a3 ?a4 (by decide) ?a5 ?a6 ?a7 _ rfl ?_)
   case a1=>rfl
   case a2=>rfl
   case a3=>exact World.news_of_block (cs := #[.int .i64 0]) (t:=3) (fr:=(0,0)) (ag wr _)
   case a4=>intro u hu;simp only [List.mem_cons,List.not_mem_nil,or_false] at hu;rcases hu with rfl;rfl
   case a5=>simp only [maxLen];omega
   case a6=>omega
   case a7=>have:=HB.out.2.below.size;simp only [World.size_alloc];omega
   intro g4 cap4 w2 how hgr _ _
   have hgr2:=ku (ae (Below.refl wr.heap.size wr) (.cells #[.int .i64 0] 3)) hgr
   have how2:w2.ownsRow w.heap.size 3 1 (.slice (some ⟨g4,0,none⟩) (ps.length+1) cap4) (sl++[0]).length (az (sl++[0])):=by
    rw [List.length_append]
    have e:az (sl++[0])=az sl++[.int .i64 0]:=by simp [az]
    rw [e,hsn];exact how
   obtain ⟨⟨y,e2⟩,hf',hM2⟩:=HB.out.2.bH hg1 c2 hgr2 how2
   have HM2:=zH hM2
   clear how hgr hgr2 how2 hM2 HS c0 c1 c2 c3 c4 c5 hf
   go_upto_region 10 with fail
   generalize w2.setCell ⟨w.heap.size+1,2,none⟩ (.slice (some ⟨g4,0,none⟩) (ps.length+1) cap4)=w3 at *
   clear e2 hf'
   obtain ⟨vs3,vr3,⟨c0,c1,c2,c3,c4,c5,hf⟩,hs,hr⟩:=HM2.out.jN
   have HS3:=zH (zA hs hr)
   have hgl3:w.heap.size+1<w3.heap.size:=zL w3 _ c0
   clear hs hr
   go_wp2_with (at_builtin;refine wpList_append_lies _ rfl _ _ 50 rfl w.heap.size 74 j0 (.agg #[.int .i64 0,.int .i64 0,.string ⟨#[]⟩,.string ⟨#[]⟩]) 4 48 underlying50 ji jz0 jz1 jz2 rfl (by decide) vr3 rl.length (bk rl) ?b1 (World.ownsRow.aj HS3.out.2 (ae zR _)) ⟨w3.heap.size,0,none⟩ 1 1 [.int .i64 0,.int .i64 ak,.string ⟨#[]⟩,.string ⟨#[]⟩] ?b2 rfl ?b3 ?b4 (by decide) ?b5 ?b6 ?b7 _ rfl ?_)
   case b1=>rfl
   case b2=>rfl
   case b3=>exact World.news_of_block (cs := #[.int .i64 0,.int .i64 ak,.string ⟨#[]⟩,.string ⟨#[]⟩]) (t:=74) (fr:=(0,0)) (ag w3 _)
   case b4=>intro u hu;simp only [List.mem_cons,List.not_mem_nil,or_false] at hu;rcases hu with rfl | rfl | rfl | rfl <;> rfl
   case b5=>simp only [maxLen];omega
   case b6=>omega
   case b7=>have:=HM2.out.below.size;simp only [World.size_alloc];omega
   intro g5 cap5 w4 how hgr _ _
   have hgr2:=ku (ae (Below.refl w3.heap.size w3) (.cells #[.int .i64 0,.int .i64 ak,.string ⟨#[]⟩,.string ⟨#[]⟩] 74)) hgr
   have how2:w4.ownsRow w.heap.size 74 4 (.slice (some ⟨g5,0,none⟩) (ps.length+1) cap5) (rl++[(⟨0,ak,⟨#[]⟩,⟨#[]⟩⟩:aS)]).length (bk (rl++[(⟨0,ak,⟨#[]⟩,⟨#[]⟩⟩:aS)])):=by
    rw [List.length_append,jY,hrn];exact how
   obtain ⟨⟨y5,e2⟩,hf',hM2⟩:=HM2.out.ay hg1 c3 hgr2 how2
   have HM3:=zH hM2
   clear how hgr hgr2 how2 hM2 HS3 c0 c1 c2 c3 c4 c5 hf HM2
   go_upto_region 11 with fail
   generalize w4.setCell ⟨w.heap.size+1,3,none⟩ (.slice (some ⟨g5,0,none⟩) (ps.length+1) cap5)=w5 at *
   clear e2 hf'
   obtain ⟨vs5,vr5,⟨c0,c1,c2,c3,c4,c5,hf⟩,hs,hr⟩:=HM3.out.jN
   obtain ⟨d0,d1,d2,d3,d4,d5,df⟩:=jN HM3.out.res
   have HS5:=zH (zA hs hr)
   clear hs hr
   obtain ⟨sa,sc,rfl⟩:=cA HS5.out.1
   obtain ⟨ra,rc,rfl⟩:=cA HS5.out.2
   go_wp2
   refine bodyPost_ret (v:=.agg #[.int .i64 aq,.int .i64 aq,.slice sa (sl++[0]).length sc,.slice ra (rl++[(⟨0,ak,⟨#[]⟩,⟨#[]⟩⟩:aS)]).length rc,.int .i64 (ps.length+1),.int .i64 ak]) (by simp [results,results173,go_sem,d0,d1,d2,d3,d4,d5,hsn,hrn]) rfl ?_
   rw [HV.out]
   refine ⟨_,_,rfl,jI HS5.out.1 (eG HS5.out.1 HM3.out.res (by decide)) _ _ _ _ _ _,jI HS5.out.2 (eG HS5.out.2 HM3.out.res (by decide)) _ _ _ _ _ _,fE HM3.out.below zY _ _ _ _ _ _⟩
def jQ (ps:List aU) (k:ByteArray):Option ByteArray:=match ps.find? fun p=>decide (p.key=k) with | some p=>some p.value | none=>none
def D8 (k:ByteArray) (ps:List aU) (i:Nat):Prop := ∃ hi:i<ps.length,ps[i].key=k ∧ ∀ j (hj:j<ps.length),j<i→ps[j].key≠k
theorem Dl {k:ByteArray} {ps:List aU} {i:Nat} (h:D8 k ps i):jQ ps k=some (ps[i]'h.1).value:=by
 obtain ⟨hi,hk,hj⟩:=h
 have:ps.find? (fun p=>decide (p.key=k))=some ps[i]:=List.find?_eq_some_iff_getElem.2 ⟨decide_eq_true hk,i,hi,rfl,fun j hji=>by simpa using hj j (by omega) hji⟩
 unfold jQ
 rw [this]
theorem JE {k:ByteArray} {ps:List aU} (h : ∀ j (hj:j<ps.length),ps[j].key≠k):jQ ps k=none:=by
 have:ps.find? (fun p=>decide (p.key=k))=none:=List.find?_eq_none.2 fun p hp=>by
  obtain ⟨j,hj,rfl⟩:=List.getElem_of_mem hp
  simpa using h j hj
 unfold jQ
 rw [this]
theorem ux (v:Value) (ps:List aU) (k:ByteArray) (kb:Nat) (w:World) (h:bj w v ps.length 2 (aI ps)) (hk:w.cell? ⟨kb,0,none⟩=some (.string k)) (hn:ps.length≤1000):Calls prog 136 #[v,.func (.func 137) #[] #[.pointer (some ⟨kb,0,none⟩)]] w fun e w' => ∃ x:Int,e=.returned (.int .i64 x)∧Below w.heap.size w w'∧((∃ i:Nat,x=i∧D8 k ps i)∨(x = -1 ∧ ∀ j (hj:j<ps.length),ps[j].key≠k)):=by
 have HF:=zH (fun a b w h=>Bk a b k kb w h)
 have HK:=zH (fun (w':World) (hb:Below w.heap.size w w')=>(hb.cell (p:=⟨kb,0,none⟩) (zL w _ hk)).trans hk)
 have H:=zH h
 have HX:=zH (fun i (hi:i<ps.length)=>fz ps i hi)
 obtain ⟨a,c,rfl⟩:=h.slice
 clear h hk
 go_enter func136,ntmps136
 go_wp2
 go_loopg [8] ps.length (fun n i wr => ∃ j:Nat,n=ps.length - j∧i=.int .i64 j∧j≤ps.length∧Below w.heap.size w wr ∧ ∀ q (hq:q<ps.length),q<j→ps[q].key≠k)
 case atStart=>exact ⟨0,rfl,rfl,Nat.zero_le _,Below.refl _ _,fun q _ h=>absurd h (Nat.not_lt_zero _)⟩
 case round =>
  obtain ⟨j,hgn,rfl,hj,hb,hne⟩:=hrel
  have HB:=zH (zA hgn (zA hb hne))
  clear hgn hb hne
  by_cases hlt:j<ps.length
  ·
   have hlt':(j:Int)<(ps.length:Int):=by omega
   obtain ⟨b,o,rfl,hc,hx⟩:=H.out.some (by omega)
   obtain ⟨p0,p1⟩:=HX.out j hlt
   have cc : ∀ i u,(aI ps)[2 * j+i]? = some u→wr.cell? ⟨b,o+j * 2+i,none⟩=some u:=fun i u hu=>by
    have e:=hx _ _ hu
    rw [show o+j * 2+i=o+(2 * j+i) by omega]
    exact (HB.out.2.1.cell (p:=⟨b,o+(2 * j+i),none⟩) (zL w _ e)).trans e
   have c0:wr.cell? ⟨b,o+j * 2,none⟩=some (.string ps[j].key):=cc 0 _ p0
   have c1:wr.cell? ⟨b,o+j * 2+1,none⟩=some (.string ps[j].value):=cc 1 _ p1
   clear p0 p1 cc hx
   go_wp2_with fail
   refine (HF.out _ _ _ (HK.out _ HB.out.2.1)).mono ?_
   rintro e w1 ⟨rfl,hb1⟩
   have HB1:=zH (gtr HB.out.2.1 hb1)
   clear hb1
   rw [qL]
   by_cases hkk:ps[j].key=k
   ·
    rw [decide_eq_true hkk]
    have HE:=zH hkk
    clear hkk
    go_wp2
    go_ret
    exact ⟨_,rfl,HB1.out,.inl ⟨j,rfl,hlt,HE.out,HB.out.2.2⟩⟩
   ·
    rw [decide_eq_false hkk]
    have HE:=zH hkk
    clear hkk
    go_wp2
    go_roundg (ps.length - (j+1))
    case measure=>have:=HB.out.1;omega
    case rel =>
     refine ⟨j+1,rfl,by go_num,by omega,HB1.out,fun q hq hl => ?_⟩
     rcases Nat.lt_or_ge q j with h' | h'
     ·
      exact HB.out.2.2 q hq h'
     ·
      obtain rfl:q=j:=by omega
      exact HE.out
  ·
   have hlt' : ¬ (j:Int)<(ps.length:Int):=by omega
   go_wp2
   go_ret
   exact ⟨_,rfl,HB.out.2.1,.inr ⟨rfl,fun q hq=>HB.out.2.2 q hq (by omega)⟩⟩
def ET (r:Option ByteArray) (w:World) (e:Ending) (w':World):Prop:=e=.returned (.tuple #[.string (r.getD ⟨#[]⟩),.bool r.isSome])∧Below w.heap.size w w'
theorem py (v:Value) (ps:List aU) (k:ByteArray) (w:World) (h:bj w v ps.length 2 (aI ps)) (hn:ps.length≤1000):Calls prog 95 #[v,.string k] w (ET (jQ ps k) w):=by
 have HI:=zH (ux v ps k w.heap.size (w.alloc (.cells #[.string k] 9)) (h.aj (ae zR _)) (cell_of (ag w _) 0) hn)
 have H:=zH h
 have HX:=zH (fun i (hi:i<ps.length)=>fz ps i hi)
 have HF:=zH (fun i (h:D8 k ps i)=>Dl h)
 have HN:=zH (fun (h : ∀ j (hj:j<ps.length),ps[j].key≠k)=>JE h)
 obtain ⟨a,c,rfl⟩:=h.slice
 clear h
 generalize jQ ps k=fl at *
 go_enter func95,ntmps95
 go_wp2_with fail
 refine HI.out.mono ?_
 rintro e w1 ⟨x,rfl,hb,hx⟩
 have HB:=zH (gtr (ae (Below.refl _ w) (.cells #[.string k] 9)) hb)
 clear hb HI
 rcases hx with ⟨i,rfl,hi⟩ | ⟨rfl,hno⟩
 ·
  obtain rfl:=HF.out i hi
  obtain ⟨hil,_,_⟩:=hi
  obtain ⟨b,o,rfl,hc,hx⟩:=H.out.some (by omega)
  obtain ⟨_,p1⟩:=HX.out i hil
  have e:=hx _ _ p1
  have c1:w1.cell? ⟨b,o+i * 2+1,none⟩=some (.string ps[i].value):=by
   rw [show o+i * 2+1=o+(2 * i+1) by omega]
   exact (HB.out.cell (p:=⟨b,o+(2 * i+1),none⟩) (zL w _ e)).trans e
  have hlt':(i:Int)<(ps.length:Int):=by omega
  clear hx e p1 HX H
  go_wp2
  go_ret2
  exact ⟨rfl,HB.out⟩
 ·
  obtain rfl:=HN.out hno
  clear hno
  go_wp2
  go_ret2
  exact ⟨rfl,HB.out⟩
def kI:fu:=⟨0,0,[],[],0,0⟩
def cm (V:bg) (aq:Int) (r:aS):Int×fu :=
 if (jQ (cg V.ay) r.key).isSome=false∧r.kind=2 then (2202,kI)
 else if 7<(ew (cg V.ay) r).length then (2201,kI)
 else if V.free<8 then (0,⟨-1,aq,[V.free],[r],V.free+1,V.ak⟩)
 else if 1048576≤V.ak then (2201,kI)
 else (0,jq (fw aq) (V.ak+1) (ew (cg V.ay) r))
def uV (c:Int×fu) (w:World) (e:Ending) (w':World):Prop := ∃ vs vr,e=.returned (.tuple #[.agg (oU c.2 vs vr),.int .i64 c.1])∧w'.ownsRow w.heap.size 3 1 vs c.2.bH.length (az c.2.bH)∧w'.ownsRow w.heap.size 74 4 vr c.2.ay.length (bk c.2.ay)∧Below w.heap.size w w'
theorem nJ (er:Int) {w w':World} (hb:Below w.heap.size w w'):uV (er,kI) w (.returned (.tuple #[.agg #[.int .i64 0,.int .i64 0,.slice none 0 0,.slice none 0 0,.int .i64 0,.int .i64 0],.int .i64 er])) w' :=
 ⟨_,_,rfl,zN,zN,hb⟩
theorem uQ {w:World} {B b n sz:Nat} {cs:Array Value} {t:TypeId} (h:w.heap[b]? = some (.cells cs t (0,0))) (hB:B≤b) (hl:cs.size=n * sz) (hn:n≤1000):w.ownsRow B t sz (.slice (some ⟨b,0,none⟩) n n) n cs.toList :=
 ⟨by simpa using hl,.inr ⟨b,n,cs,rfl,hB,h,Nat.le_refl _,by unfold maxLen;omega,hl,List.take_of_length_le (Nat.le_of_eq hl)⟩⟩
theorem F8 (w:World) (g:Nat) (a b c d e f:Value):(Au w g a b c d e f).heap.size=w.heap.size:=by simp [Au]
theorem uS {w:World} {g:Nat} {a0 b0 c0 d0 e0 f0:Value} {t:TypeId} (h:w.heap[g]? = some (.cells #[a0,b0,c0,d0,e0,f0] t (0,0))) (a b c d e f:Value):(Au w g a b c d e f).heap[g]? = some (.cells #[a,b,c,d,e,f] t (0,0)) :=
 av (i:=5) (v:=f) (av (i:=4) (v:=e) (av (i:=3) (v:=d) (av (i:=2) (v:=c) (av (i:=1) (v:=b) (av (i:=0) (v:=a) h)))))
theorem sG (V:bg) (vr:Value) (aq:Int) (r:aS) (w:World) (hs:bj w vr V.ay.length 4 (bk V.ay)) (ok:V.Ok) (hr:gI r) (s0:4≤aq) (s1:aq<8):Calls prog 133 #[.agg #[.bool V.bX,.int .i64 V.ak,vr,.int .i64 V.free],.int .i64 aq,.agg r.cells] w (uV (cm V aq r) w):=by
 have HL:=zH (fun b w h=>wj b V r w h ok hr)
 have HF:=zH (fun v w h=>py v (cg V.ay) r.key w h (by have:=(dq _ V.ay rfl ok.ay).2;have:=ok.len;omega))
 have HM:=zH (fun sec ep v w h=>uC sec ep v (ew (cg V.ay) r) w h (by have:=(dq _ V.ay rfl ok.ay);have:=(ng this.1 hr).2;have:=ok.len;omega))
 have HN:=zH (fun w=>oq aq w (by omega) (by omega))
 have hve:=ok.ak
 have hvf:=ok.free
 have HS:=zH hs
 obtain ⟨va,vc,rfl⟩:=hs.slice
 have hnb:=ae (ae (ae (Below.refl w.heap.size w) (.cells #[.bool V.bX,.int .i64 V.ak,.slice va V.ay.length vc,.int .i64 V.free] 52)) (.cells #[.int .i64 r.kind,.int .i64 r.ak,.string r.key,.string r.value] 74)) (.cells #[.int .i64 0,.int .i64 0,.slice none 0 0,.slice none 0 0,.int .i64 0,.int .i64 0] 228)
 have e0:=aa (ae (ae (Below.refl _ (w.alloc _)) (.cells #[.int .i64 r.kind,.int .i64 r.ak,.string r.key,.string r.value] 74)) (.cells #[.int .i64 0,.int .i64 0,.slice none 0 0,.slice none 0 0,.int .i64 0,.int .i64 0] 228)) (ag w (.cells #[.bool V.bX,.int .i64 V.ak,.slice va V.ay.length vc,.int .i64 V.free] 52))
 have e1:=aa (ae (Below.refl _ ((w.alloc (.cells #[.bool V.bX,.int .i64 V.ak,.slice va V.ay.length vc,.int .i64 V.free] 52)).alloc _)) (.cells #[.int .i64 0,.int .i64 0,.slice none 0 0,.slice none 0 0,.int .i64 0,.int .i64 0] 228)) (ag (w.alloc _) (.cells #[.int .i64 r.kind,.int .i64 r.ak,.string r.key,.string r.value] 74))
 have e2:=ag ((w.alloc (.cells #[.bool V.bX,.int .i64 V.ak,.slice va V.ay.length vc,.int .i64 V.free] 52)).alloc (.cells #[.int .i64 r.kind,.int .i64 r.ak,.string r.key,.string r.value] 74)) (.cells #[.int .i64 0,.int .i64 0,.slice none 0 0,.slice none 0 0,.int .i64 0,.int .i64 0] 228)
 simp only [World.size_alloc] at e1 e2
 have HW:=zH (zA hnb (zA e0 (zA e1 e2)))
 clear hnb e0 e1 e2 hs
 have HC:=zH (show cm V aq r=if (jQ (cg V.ay) r.key).isSome=false∧r.kind=2 then (2202,kI) else if 7<(ew (cg V.ay) r).length then (2201,kI) else if V.free<8 then (0,⟨-1,aq,[V.free],[r],V.free+1,V.ak⟩) else if 1048576≤V.ak then (2201,kI) else (0,jq (fw aq) (V.ak+1) (ew (cg V.ay) r)) from rfl)
 unfold aS.cells at HL ⊢
 generalize cm V aq r=cr at *
 generalize jQ (cg V.ay) r.key=fl at *
 generalize cg V.ay=now at *
 generalize ew now r=then_ at *
 clear ok hr
 go_enter func133,ntmps133
 go_upto_region 1 with fail
 generalize ((w.alloc (.cells #[.bool V.bX,.int .i64 V.ak,.slice va V.ay.length vc,.int .i64 V.free] 52)).alloc (.cells #[.int .i64 r.kind,.int .i64 r.ak,.string r.key,.string r.value] 74)).alloc (.cells #[.int .i64 0,.int .i64 0,.slice none 0 0,.slice none 0 0,.int .i64 0,.int .i64 0] 228)=W at *
 obtain ⟨c0,c1,c2,c3,hf⟩:=cw HW.out.2.2.1
 go_wp2_with fail
 refine (HL.out _ _ ⟨_,HW.out.2.1,HS.out.aj HW.out.1⟩).mono ?_
 rintro e w1 ⟨x,y,rfl,hx,hy,hb⟩
 have HB:=zH (zA (gtr HW.out.1 hb) (zA (aa hb HW.out.2.1) (zA (aa hb HW.out.2.2.1) (zA (aa hb HW.out.2.2.2) (zA hx hy)))))
 clear hb hx hy c0 c1 c2 c3 hf HW
 obtain ⟨xa,xc,rfl⟩:=cA HB.out.2.2.2.2.1
 obtain ⟨ya,yc,rfl⟩:=cA HB.out.2.2.2.2.2
 obtain ⟨c0,c1,c2,c3,hf⟩:=cw HB.out.2.2.1
 go_wp2_with fail
 refine (HF.out _ _ (bj.cX HB.out.2.2.2.2.1)).mono ?_
 rintro e w2 ⟨rfl,hb⟩
 have HB2:=zH (zA (gtr HB.out.1 hb) (zA (aa hb HB.out.2.1) (zA (aa hb HB.out.2.2.1) (zA (aa hb HB.out.2.2.2.1) (World.ownsRow.aj HB.out.2.2.2.2.2 hb)))))
 clear hb c0 c1 c2 c3 hf HB
 obtain ⟨c0,c1,c2,c3,hf⟩:=cw HB2.out.2.2.1
 obtain ⟨v0,v1,v2,v3,vf⟩:=cw HB2.out.2.1
 obtain ⟨p0,p1,p2,p3,p4,p5,pf⟩:=jN HB2.out.2.2.2.1
 have hbl2:w.heap.size+1+1<w2.heap.size:=aV HB2.out.2.2.2.1
 have hbl1:w.heap.size+1<w2.heap.size:=by omega
 have hbl0:w.heap.size<w2.heap.size:=by omega
 generalize fl.isSome=fs at *
 by_cases k1:fs=false∧r.kind=2
 ·
  obtain ⟨rfl,k2⟩:=k1
  rw [if_pos ⟨rfl,k2⟩] at HC
  rw [k2] at c0 ⊢
  go_wp2
  refine bodyPost_ret (v:=.tuple #[.agg #[.int .i64 0,.int .i64 0,.slice none 0 0,.slice none 0 0,.int .i64 0,.int .i64 0],.int .i64 2202]) (by simp [results,results133,go_sem,p0,p1,p2,p3,p4,p5]) rfl ?_
  rw [HC.out]
  exact nJ 2202 (fE HB2.out.1 (show w.heap.size≤w.heap.size+1+1 by omega) _ _ _ _ _ _)
 ·
  have k1':(!fs&&(r.kind == 2))=false:=by
   cases hfs:fs with
   | true=>rfl
   | false =>
    have:r.kind≠2:=fun e=>k1 ⟨hfs,e⟩
    simpa using this
  rw [if_neg k1] at HC
  have hsplit:fs=true∨(fs=false∧(r.kind == 2)=false):=by
   cases hfs:fs with
   | true=>exact .inl rfl
   | false=>exact .inr ⟨rfl,by rw [hfs] at k1';simpa using k1'⟩
  clear k1 k1'
  go_upto_region 5 with fail
  go_cut [43] from 37 to 43 (fun v wx=>v=.bool false∧wx=w2)
  case first =>
   rcases hsplit with rfl | ⟨rfl,hk⟩
   all_goals
    go_wp2
    go_meet
    exact ⟨rfl,rfl⟩
  case rest =>
   obtain ⟨rfl,hwc⟩:=hcut
   subst hwc
   clear hsplit
   by_cases k2:7<then_.length
   ·
    have k2':(7:Int)<(then_.length:Int):=by omega
    rw [if_pos k2] at HC
    go_wp2
    refine bodyPost_ret (v:=.tuple #[.agg #[.int .i64 0,.int .i64 0,.slice none 0 0,.slice none 0 0,.int .i64 0,.int .i64 0],.int .i64 2201]) (by simp [results,results133,go_sem,p0,p1,p2,p3,p4,p5]) rfl ?_
    rw [HC.out]
    exact nJ 2201 (fE HB2.out.1 (show w.heap.size≤w.heap.size+1+1 by omega) _ _ _ _ _ _)
   ·
    have k2' : ¬ (7:Int)<(then_.length:Int):=by omega
    rw [if_neg k2] at HC
    by_cases k3:V.free<8
    ·
     rw [if_pos k3] at HC
     go_wp2_with fail
     have hS:=fE (w:=wc) HB2.out.1 (show w.heap.size≤w.heap.size+1+1 by omega) (.int .i64 (-1)) (.int .i64 aq) (.slice (some ⟨wc.heap.size,0,none⟩) 1 1) (.slice (some ⟨wc.heap.size+1,0,none⟩) 1 1) (.int .i64 (V.free+1)) (.int .i64 V.ak)
     have hz:=F8 wc (w.heap.size+1+1) (.int .i64 (-1)) (.int .i64 aq) (.slice (some ⟨wc.heap.size,0,none⟩) 1 1) (.slice (some ⟨wc.heap.size+1,0,none⟩) 1 1) (.int .i64 (V.free+1)) (.int .i64 V.ak)
     have hat:=uS HB2.out.2.2.2.1 (.int .i64 (-1)) (.int .i64 aq) (.slice (some ⟨wc.heap.size,0,none⟩) 1 1) (.slice (some ⟨wc.heap.size+1,0,none⟩) 1 1) (.int .i64 (V.free+1)) (.int .i64 V.ak)
     have hA:=ag (Au wc (w.heap.size+1+1) (.int .i64 (-1)) (.int .i64 aq) (.slice (some ⟨wc.heap.size,0,none⟩) 1 1) (.slice (some ⟨wc.heap.size+1,0,none⟩) 1 1) (.int .i64 (V.free+1)) (.int .i64 V.ak)) (.cells #[.int .i64 V.free] 3)
     change bodyPost _ _ _ _ _ (((Au wc (w.heap.size+1+1) (.int .i64 (-1)) (.int .i64 aq) (.slice (some ⟨wc.heap.size,0,none⟩) 1 1) (.slice (some ⟨wc.heap.size+1,0,none⟩) 1 1) (.int .i64 (V.free+1)) (.int .i64 V.ak)).alloc _).alloc _)
     generalize Au wc (w.heap.size+1+1) (.int .i64 (-1)) (.int .i64 aq) (.slice (some ⟨wc.heap.size,0,none⟩) 1 1) (.slice (some ⟨wc.heap.size+1,0,none⟩) 1 1) (.int .i64 (V.free+1)) (.int .i64 V.ak)=w5 at *
     have hB:=ag (w5.alloc (.cells #[.int .i64 V.free] 3)) (.cells #[.int .i64 r.kind,.int .i64 r.ak,.string r.key,.string r.value] 74)
     have hA:=aa (ae (Below.refl _ (w5.alloc (.cells #[.int .i64 V.free] 3))) (.cells #[.int .i64 r.kind,.int .i64 r.ak,.string r.key,.string r.value] 74)) hA
     have hat:=aa (ae (ae (Below.refl _ w5) (.cells #[.int .i64 V.free] 3)) (.cells #[.int .i64 r.kind,.int .i64 r.ak,.string r.key,.string r.value] 74)) hat
     have hS:=ae (ae hS (.cells #[.int .i64 V.free] 3)) (.cells #[.int .i64 r.kind,.int .i64 r.ak,.string r.key,.string r.value] 74)
     simp only [World.size_alloc] at hB
     generalize (w5.alloc (.cells #[.int .i64 V.free] 3)).alloc (.cells #[.int .i64 r.kind,.int .i64 r.ak,.string r.key,.string r.value] 74)=w6 at *
     rw [hz] at hA hB
     obtain ⟨q0,q1,q2,q3,q4,q5,qf⟩:=jN hat
     refine bodyPost_ret (v:=.tuple #[.agg #[.int .i64 (-1),.int .i64 aq,.slice (some ⟨wc.heap.size,0,none⟩) 1 1,.slice (some ⟨wc.heap.size+1,0,none⟩) 1 1,.int .i64 (V.free+1),.int .i64 V.ak],.int .i64 0]) (by simp [results,results133,go_sem,q0,q1,q2,q3,q4,q5]) rfl ?_
     rw [HC.out]
     exact ⟨_,_,rfl,uQ (cs := #[.int .i64 V.free]) (t:=3) hA (by omega) rfl (by omega),uQ (cs := #[.int .i64 r.kind,.int .i64 r.ak,.string r.key,.string r.value]) (t:=74) hB (by omega) rfl (by omega),hS⟩
    ·
     rw [if_neg k3] at HC
     by_cases k4:1048576≤V.ak
     ·
      rw [if_pos k4] at HC
      go_wp2
      refine bodyPost_ret (v:=.tuple #[.agg #[.int .i64 0,.int .i64 0,.slice none 0 0,.slice none 0 0,.int .i64 0,.int .i64 0],.int .i64 2201]) (by simp [results,results133,go_sem,p0,p1,p2,p3,p4,p5]) rfl ?_
      rw [HC.out]
      exact nJ 2201 (fE HB2.out.1 (show w.heap.size≤w.heap.size+1+1 by omega) _ _ _ _ _ _)
     ·
      rw [if_neg k4] at HC
      have hw1:wrap64 (V.ak+1)=V.ak+1:=by unfold wrap64;omega
      have HO:=zH (bj.cX HB2.out.2.2.2.2)
      have HW2:=zH (dz (n:=V.ak+1) (by omega) (by omega))
      go_wp2_with fail
      clear p0 p1 p2 p3 p4 p5 pf c0 c1 c2 c3 hf v0 v2 v3 HF HL HS
      go_region_with (first | (go_at_call 89;refine (HN.out _).mono ?_;rintro e w' ⟨rfl,rfl⟩) | (go_at_call 173;refine (HM.out _ _ _ _ (HO.out.aj (aw zR))).mono ?_;rintro e w' ⟨vs,vr,rfl,hs,hr,hb⟩;have HR:=zH (zA hs (zA hr (zA (gtr (aw zR) hb) (aa (gtr (aw zR) hb) HB2.out.2.2.2.1))));clear hs hr hb;obtain ⟨sa,sc,rfl⟩:=cA HR.out.1;obtain ⟨ra,rc,rfl⟩:=cA HR.out.2.1;obtain ⟨q0,q1,q2,q3,q4,q5,qf⟩:=jN HR.out.2.2.2;unfold oU))
      all_goals
       simp only [HW2.out] at HR ⊢
       generalize jq (fw aq) (V.ak+1) then_=pl at *
       have hS:=fE (gtr HB2.out.1 HR.out.2.2.1) (show w.heap.size≤w.heap.size+1+1 by omega) (.int .i64 pl.dy) (.int .i64 pl.aq) (.slice sa pl.bH.length sc) (.slice ra pl.ay.length rc) (.int .i64 pl.free) (.int .i64 pl.ak)
       have hat:=uS HR.out.2.2.2 (.int .i64 pl.dy) (.int .i64 pl.aq) (.slice sa pl.bH.length sc) (.slice ra pl.ay.length rc) (.int .i64 pl.free) (.int .i64 pl.ak)
       have hs:=jI HR.out.1 (eG HR.out.1 HR.out.2.2.2 (by decide)) (.int .i64 pl.dy) (.int .i64 pl.aq) (.slice sa pl.bH.length sc) (.slice ra pl.ay.length rc) (.int .i64 pl.free) (.int .i64 pl.ak)
       have hr:=jI HR.out.2.1 (eG HR.out.2.1 HR.out.2.2.2 (by decide)) (.int .i64 pl.dy) (.int .i64 pl.aq) (.slice sa pl.bH.length sc) (.slice ra pl.ay.length rc) (.int .i64 pl.free) (.int .i64 pl.ak)
       obtain ⟨d0,d1,d2,d3,d4,d5,df⟩:=jN hat
       clear q0 q1 q2 q3 q4 q5 qf
       go_wp2
       refine bodyPost_ret (v:=.tuple #[.agg #[.int .i64 pl.dy,.int .i64 pl.aq,.slice sa pl.bH.length sc,.slice ra pl.ay.length rc,.int .i64 pl.free,.int .i64 pl.ak],.int .i64 0]) ?_ rfl ?_
       ·
        change (results _ _).run _ (Au _ _ _ _ _ _ _ _)=_
        simp [results,results133,go_sem,d0,d1,d2,d3,d4,d5]
        rfl
       ·
        rw [HC.out]
        exact ⟨_,_,rfl,gu hs HB2.out.1.size,gu hr HB2.out.1.size,hS⟩
def bg.row (V:bg) (x:Option Addr×Nat):List Value:=[.bool V.bX,.int .i64 V.ak,.slice x.1 V.ay.length x.2,.int .i64 V.free]
def dV (vs:List (bg×(Option Addr×Nat))):List Value:=vs.flatMap fun p=>p.1.row p.2
theorem oF : ∀ (vs:List (bg×(Option Addr×Nat))) (i:Nat) (p:bg×(Option Addr×Nat)),vs[i]? = some p→(dV vs)[4 * i]? = some (.bool p.1.bX)∧(dV vs)[4 * i+1]? = some (.int .i64 p.1.ak)∧(dV vs)[4 * i+2]? = some (.slice p.2.1 p.1.ay.length p.2.2)∧(dV vs)[4 * i+3]? = some (.int .i64 p.1.free)
 | [],i,p,h=>by simp at h
 | q::vs,0,p,h=>by
  obtain rfl:q=p:=by simpa using h
  simp [dV,bg.row]
 | q::vs,i+1,p,h=>by
  have:=oF vs i p (by simpa using h)
  have e : ∀ j,(dV (q::vs))[4 * (i+1)+j]? = (dV vs)[4 * i+j]? := fun j=>by
   have:dV (q::vs)=q.1.row q.2++dV vs:=by simp [dV]
   rw [this,List.getElem?_append_right (by simp [bg.row];omega)]
   congr 1
   simp [bg.row];omega
  exact ⟨(e 0).trans this.1,(e 1).trans this.2.1,(e 2).trans this.2.2.1,(e 3).trans this.2.2.2⟩
def iH (vs:List (bg×(Option Addr×Nat))):Nat→Option Nat
 | 0=>none
 | j+1=>match vs[j]? with
  | none=>iH vs j
  | some p=>if p.1.bX=false then iH vs j else
   match iH vs j with
   | none=>some j
   | some k=>match vs[k]? with
    | none=>iH vs j
    | some q=>if q.1.ak<p.1.ak then some j else some k
def xU (o:Option Nat):Int:=match o with | none => -1 | some k=>k
theorem ve (vs:List (bg×(Option Addr×Nat))) : ∀ j k,iH vs j=some k→k<j
 | 0,k,h=>by simp [iH] at h
 | j+1,k,h=>by
  have ih:=ve vs j
  unfold iH at h
  split at h
  ·
   have:=ih k h;omega
  ·
   split at h
   ·
    have:=ih k h;omega
   ·
    split at h
    ·
     simp at h;omega
    ·
     rename_i hk
     have hk':=ih _ hk
     split at h
     ·
      have:=ih k h;omega
     ·
      split at h <;> simp at h <;> omega
def Gx (o:Option Nat) (w:World) (e:Ending) (w':World):Prop:=e=.returned (match o with | none=>.tuple #[.int .i64 0,.int .i64 2001] | some k=>.tuple #[.int .i64 k,.int .i64 0])∧Below w.heap.size w w'
theorem CX (v:Value) (vs:List (bg×(Option Addr×Nat))) (w:World) (h:bj w v vs.length 4 (dV vs)) (hn:vs.length≤100):Calls prog 20 #[v] w (Gx (iH vs vs.length) w):=by
 have H:=zH h
 have HX:=zH (oF vs)
 have HL:=zH (ve vs)
 obtain ⟨a,c,rfl⟩:=h.slice
 clear h
 go_enter func20,ntmps20
 go_wp2
 go_loopg [4,9] vs.length (fun n b i wr => ∃ j:Nat,n=vs.length - j∧b=.int .i64 (xU (iH vs j))∧i=.int .i64 j∧j≤vs.length∧Below w.heap.size w wr)
 case atStart=>exact ⟨0,rfl,rfl,rfl,Nat.zero_le _,Below.refl _ _⟩
 case round =>
  obtain ⟨j,hgn,rfl,rfl,hj,hM⟩:=hrel
  have HB:=zH (zA hgn hM)
  clear hgn hM
  by_cases hlt:j<vs.length
  ·
   have hlt':(j:Int)<(vs.length:Int):=by omega
   obtain ⟨b,o,rfl,hc,hx⟩:=H.out.some (by omega)
   have hp:vs[j]? = some vs[j]:=List.getElem?_eq_getElem hlt
   have HS:=zH (show iH vs (j+1)=(match some vs[j] with | none=>iH vs j | some p=>if p.1.bX=false then iH vs j else match iH vs j with | none=>some j | some k=>match vs[k]? with | none=>iH vs j | some q=>if q.1.ak<p.1.ak then some j else some k) from by rw [iH,hp])
   generalize vs[j]=p at *
   obtain ⟨V,ra,rc⟩:=p
   obtain ⟨p0,p1,p2,p3⟩:=HX.out j _ hp
   have cc : ∀ i u,(dV vs)[i]? = some u→wr.cell? ⟨b,o+i,none⟩=some u:=fun i u hu=>by
    have e:=hx _ _ hu
    exact (HB.out.2.cell (p:=⟨b,o+i,none⟩) (zL w _ e)).trans e
   have d0:wr.cell? ⟨b,o+j * 4,none⟩=some (.bool V.bX):=by rw [Nat.mul_comm];exact cc _ _ p0
   have d1:wr.cell? ⟨b,o+j * 4+1,none⟩=some (.int .i64 V.ak):=by rw [Nat.mul_comm,Nat.add_assoc];exact cc _ _ p1
   have d2:wr.cell? ⟨b,o+j * 4+2,none⟩=some (.slice ra V.ay.length rc):=by rw [Nat.mul_comm,Nat.add_assoc];exact cc _ _ p2
   have d3:wr.cell? ⟨b,o+j * 4+3,none⟩=some (.int .i64 V.free):=by rw [Nat.mul_comm,Nat.add_assoc];exact cc _ _ p3
   have HC:=zH cc
   have hbl:b<wr.heap.size:=zL wr _ d0
   clear p0 p1 p2 p3 cc hx
   go_upto_region 5 with fail
   have e0:=ag wr (.cells #[.bool V.bX,.int .i64 V.ak,.slice ra V.ay.length rc,.int .i64 V.free] 52)
   obtain ⟨f0,f1,f2,f3,ff⟩:=cw e0
   have hN:=gtr HB.out.2 (ae (Below.refl _ wr) (.cells #[.bool V.bX,.int .i64 V.ak,.slice ra V.ay.length rc,.int .i64 V.free] 52))
   have HN:=zH hN
   have HC2:=zH (fun i u hu=>((ae (Below.refl wr.heap.size wr) (.cells #[.bool V.bX,.int .i64 V.ak,.slice ra V.ay.length rc,.int .i64 V.free] 52)).cell (p:=⟨b,o+i,none⟩) hbl).trans (HC.out i u hu))
   clear d0 d1 d2 d3 e0 hN HC
   generalize wr.heap.size=g at *
   generalize wr.alloc (.cells #[.bool V.bX,.int .i64 V.ak,.slice ra V.ay.length rc,.int .i64 V.free] 52)=w2 at *
   clear hbl
   replace HS:=HS.out
   dsimp only at HS
   cases hg:V.bX with
   | false =>
    rw [hg,if_pos rfl] at HS
    rw [hg] at f0
    replace HS:=zH HS
    clear hg hp f2 f3
    go_quiet (fail)
    go_wp2
    go_roundg (vs.length - (j+1))
    case measure=>have:=HB.out.1;omega
    case rel=>exact ⟨j+1,rfl,by first | (rw [HS.out];done) | (rw [HS.out];rfl),by go_num,by omega,aT HN.out _⟩
   | true =>
    rw [hg,if_neg (by decide)] at HS
    rw [hg] at f0
    clear hg hp f2 f3
    cases hb:iH vs j with
    | none =>
     rw [hb] at HS
     replace HS:=zH HS
     clear hb
     rw [show xU none = -1 from rfl]
     go_quiet (fail)
     go_wp2
     go_roundg (vs.length - (j+1))
     case measure=>have:=HB.out.1;omega
     case rel=>exact ⟨j+1,rfl,by first | (rw [HS.out];done) | (rw [HS.out];rfl),by go_num,by omega,aT HN.out _⟩
    | some k =>
     have hk:=HL.out j k hb
     rw [hb] at HS
     obtain ⟨q,hq⟩ : ∃ q,vs[k]? = some q:=⟨_,List.getElem?_eq_getElem (by omega)⟩
     dsimp only at HS
     rw [hq] at HS
     dsimp only at HS
     have g1:w2.cell? ⟨b,o+k * 4+1,none⟩=some (.int .i64 q.1.ak):=by rw [Nat.mul_comm,Nat.add_assoc];exact HC2.out _ _ (HX.out k q hq).2.1
     have hk1:k<vs.length:=by omega
     have hk2:(k:Int)<(vs.length:Int):=by omega
     clear hq
     by_cases hlt:q.1.ak<V.ak
     ·
      rw [if_pos hlt] at HS
      replace HS:=zH HS
      clear hb
      rw [show xU (some k)=(k:Int) from rfl]
      have hk0:decide ((k:Int)<0)=false:=decide_eq_false (by omega)
      go_quiet (fail)
      go_wp2
      go_roundg (vs.length - (j+1))
      case measure=>have:=HB.out.1;omega
      case rel=>exact ⟨j+1,rfl,by first | (rw [HS.out];done) | (rw [HS.out];rfl),by go_num,by omega,aT HN.out _⟩
     ·
      rw [if_neg hlt] at HS
      replace HS:=zH HS
      clear hb
      have hlt2:decide (q.1.ak<V.ak)=false:=decide_eq_false hlt
      clear hlt
      rw [show xU (some k)=(k:Int) from rfl]
      have hk0:decide ((k:Int)<0)=false:=decide_eq_false (by omega)
      go_quiet (fail)
      go_wp2
      go_roundg (vs.length - (j+1))
      case measure=>have:=HB.out.1;omega
      case rel=>exact ⟨j+1,rfl,by first | (rw [HS.out];done) | (rw [HS.out];rfl),by go_num,by omega,aT HN.out _⟩
  ·
   obtain rfl:j=vs.length:=by omega
   have HL2:=HL.out vs.length
   clear HL HX
   cases hb:iH vs vs.length with
   | none =>
    have HZ:=zH hb
    clear hb HL2
    rw [show xU none = -1 from rfl]
    go_wp2
    go_ret2
    rw [HZ.out]
    exact ⟨rfl,HB.out.2⟩
   | some k =>
    have HZ:=zH hb
    clear hb HL2
    rw [show xU (some k)=(k:Int) from rfl]
    have hk0:decide ((k:Int)<0)=false:=decide_eq_false (by omega)
    go_wp2
    go_ret2
    rw [HZ.out]
    exact ⟨rfl,HB.out.2⟩
end Go.Proofs.YtcfdenckiigdaaaGreat

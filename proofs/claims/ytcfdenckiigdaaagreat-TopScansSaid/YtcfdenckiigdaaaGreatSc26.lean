/- Part 26 of the contracts. -/
import Derived.Test.YtcfdenckiigdaaaGreatSc25
set_option linter.unusedVariables false
set_option maxRecDepth 100000
set_option maxHeartbeats 4000000
namespace Go.Proofs.YtcfdenckiigdaaaGreat
open Tryz Go.RowKit
def Ab (w:World) (g:Nat) (a b:Value):World:=(w.setCell ⟨g,2,none⟩ a).setCell ⟨g,3,none⟩ b
theorem Ac {w:World} {g k:Nat} {o:Obj} (h:w.heap[k]? = some o) (hn:k≠g) (a b:Value):(Ab w g a b).heap[k]? = some o:=by
 unfold Ab
 rw [heap_setCell_other _ _ _ _ hn,heap_setCell_other _ _ _ _ hn]
 exact h
theorem GS {w:World} {g:Nat} {a0 b0 m2 m3 t:Value} {T:TypeId} (h:w.heap[g]? = some (.cells #[a0,b0,m2,m3,t] T (0,0))) (a b:Value):(lG w g a b).heap[g]? = some (.cells #[a,b,m2,m3,t] T (0,0)):=by
 have:=az (i:=1) (v:=b) (az (i:=0) (v:=a) h)
 exact this
theorem Er {w:World} {g:Nat} {a0 b0 m2 m3 t:Value} {T:TypeId} (h:w.heap[g]? = some (.cells #[a0,b0,m2,m3,t] T (0,0))) (a b:Value):(Ab w g a b).heap[g]? = some (.cells #[a0,b0,a,b,t] T (0,0)):=by
 have:=az (i:=3) (v:=b) (az (i:=2) (v:=a) h)
 exact this
theorem AX (ps:List aK) : ∀ u ∈ aC ps,∃ s,u=.string s:=by
 intro u hu
 obtain ⟨p,_,hp⟩:=List.mem_flatMap.1 hu
 simp only [List.mem_cons,List.not_mem_nil,or_false] at hp
 rcases hp with rfl | rfl <;> exact ⟨_,rfl⟩
theorem CE (q0 q q1:Bool) (a0 a3:Option Addr) (n0 c0 n3 c3:Nat) (s:ByteArray) : ∀ j:Nat,(#[.bool q0,.slice a0 n0 c0,.bool q,.slice a3 n3 c3,.bool q1]:Array Value)[j]? ≠ some (.string s)
 | 0=>by simp
 | 1=>by simp
 | 2=>by simp
 | 3=>by simp
 | 4=>by simp
 | j+5=>by simp
theorem CC {w w':World} {g n:Nat} {q0 q q1:Bool} {a0 a3:Option Addr} {n0 c0 n3 c3:Nat} {v:Value} {ps:List aK} (hg:w.heap[g]? = some (.cells #[.bool q0,.slice a0 n0 c0,.bool q,.slice a3 n3 c3,.bool q1] 63 (0,0))) (h:aQ w v n 2 (aC ps)) (ht:Touch (aN g) w w'):aQ w' v n 2 (aC ps) :=
 ⟨h.len,h.ex.imp id fun ⟨b,o,c,hv,hc,hx⟩=>⟨b,o,c,hv,hc,fun i u hu=>ht.cell b (o+i) (hx i u hu) fun e=>by
  have e:b=g:=e
  subst e
  have h1:=hx i u hu
  rw [cell_of hg] at h1
  obtain ⟨s,rfl⟩:=AX ps u (List.mem_of_getElem? hu)
  exact CE _ _ _ _ _ _ _ _ _ s _ h1⟩⟩
def BG (g:Nat) (G:Nat→Prop) (qs:List aK) (w:World) (e:Ending) (w':World):Prop:=e=.returned (.bool true)∧il w' g G qs∧Touch (aN g) w w'
theorem E4 (g:Nat) (G:Nat→Prop) (ps qs:List aK) (x:cL) (ba:Option Addr) (bc:Nat) (ra:Option Addr) (rc:Nat) (val:ByteArray) (va:Option Addr) (np vc:Nat) (vb:Option Addr) (nr vd:Nat) (er:Int) (w:World) (hw:gE ps x=(er,qs)) (hv:er≠0→val=⟨#[]⟩∧np=0∧nr=0) (hm:il w g G ps) (hG : ∀ i,G i→i<w.heap.size) (hk:x.kind=2∨x.kind=4) (s1:1≤x.key.size) (s2:x.key.size≤6) (s3:x.value.size≤20) (hr:aS w ra x.reads) (hr2 : ∀ i (h:i<x.reads.length),x.reads[i]<2048) (hso:eK ps) (hl:ps.length≤7) (hrl:x.reads.length≤1000000):Calls prog 12 #[.pointer (some ⟨g,0,none⟩),.agg (x.row ba bc ra rc),.agg #[.string val,.slice va np vc,.slice vb nr vd,.bool false],.int .i64 er] w (BG g G qs w):=by
 have e0:(x.kind == 0)=false:=zQ (by omega)
 have e1:(x.kind == 1)=false:=zQ (by omega)
 have e3:(x.kind != 3)=true:=bne_iff_ne.2 (by omega)
 have e5:(x.kind != 5)=true:=bne_iff_ne.2 (by omega)
 have HWANT:=zH (fun (w':World) (hb:Below w.heap.size w w')=>(show Calls prog 36 #[.pointer (some ⟨g,0,none⟩),.agg (x.row ba bc ra rc)] w' (yF (er,qs) G w') from by
  rw [← hw]
  obtain ⟨m1,a,c,q,a3,n3,c3,m2,m3,m4⟩:=hm
  exact Ds g G ps x ba bc ra rc w' ⟨m1,a,c,q,a3,n3,c3,aa hb m2,m3.aj hb,m4⟩ (fun i hi=>zV (hG i hi) hb.size) hk s1 s2 s3 (hr.aj hb) hr2 hso hl hrl))
 have HPS:=zH (show er≠0→qs=ps from by
  intro h
  unfold gE at hw
  split at hw
  ·
   split at hw
   ·
    exact (Prod.mk.inj hw).2.symm
   ·
    exact absurd (Prod.mk.inj hw).1.symm h
  ·
   split at hw
   ·
    exact (Prod.mk.inj hw).2.symm
   ·
    exact absurd (Prod.mk.inj hw).1.symm h)
 have HQL:=zH (show qs.length≤8 from by
  have e:=congrArg Prod.snd hw
  dsimp only at e
  rw [← e]
  unfold gE
  have:=AE x.key ps
  split
  ·
   split
   ·
    show ps.length≤8;omega
   ·
    show (gv x.key x.value ps).length≤8;omega
  ·
   split
   ·
    show ps.length≤8;omega
   ·
    show (fo x.key ps).length≤8;omega)
 obtain ⟨m1,a,c,q,a3,n3,c3,hg,hsl,hsf⟩:=hm
 have hgl:g<w.heap.size:=aO hg
 unfold cL.row at HWANT ⊢
 have hb1:=ae (Below.refl w.heap.size w) (.cells #[.int .i64 x.kind,.string x.key,.string x.value,.int .i64 x.at_,.int .i64 x.width,.int .i64 x.cn,.string x.mask,.slice ba x.busy.length bc,.slice ra x.reads.length rc] 31)
 have hb2:=ae hb1 (.cells #[.string val,.slice va np vc,.slice vb nr vd,.bool false] 34)
 have n0:=aa (ae zR (.cells #[.string val,.slice va np vc,.slice vb nr vd,.bool false] 34)) (af w (.cells #[.int .i64 x.kind,.string x.key,.string x.value,.int .i64 x.at_,.int .i64 x.width,.int .i64 x.cn,.string x.mask,.slice ba x.busy.length bc,.slice ra x.reads.length rc] 31))
 have n1:((w.alloc (.cells #[.int .i64 x.kind,.string x.key,.string x.value,.int .i64 x.at_,.int .i64 x.width,.int .i64 x.cn,.string x.mask,.slice ba x.busy.length bc,.slice ra x.reads.length rc] 31)).alloc (.cells #[.string val,.slice va np vc,.slice vb nr vd,.bool false] 34)).heap[w.heap.size+1]? = some (.cells #[.string val,.slice va np vc,.slice vb nr vd,.bool false] 34 (0,0)):=by simpa using af (w.alloc (.cells #[.int .i64 x.kind,.string x.key,.string x.value,.int .i64 x.at_,.int .i64 x.width,.int .i64 x.cn,.string x.mask,.slice ba x.busy.length bc,.slice ra x.reads.length rc] 31)) (.cells #[.string val,.slice va np vc,.slice vb nr vd,.bool false] 34)
 have HB:=zH (zA hb2 (zA n0 (zA n1 (aa hb2 hg))))
 have HM:=zH (zA m1 (zA hg (zA hsl hsf)))
 have HV:=zH hv
 clear hb1 hb2 n0 n1 hg hsl hsf m1 hr hr2 hso hl hk hG hw hv
 obtain ⟨y0,y1,y2,y3,y4,y5,y6,y7,y8,yf⟩:=yp HB.out.2.1
 go_enter func12,ntmps12
 go_upto_region 1 with fail
 generalize (w.alloc (.cells #[.int .i64 x.kind,.string x.key,.string x.value,.int .i64 x.at_,.int .i64 x.width,.int .i64 x.cn,.string x.mask,.slice ba x.busy.length bc,.slice ra x.reads.length rc] 31)).alloc (.cells #[.string val,.slice va np vc,.slice vb nr vd,.bool false] 34)=w1 at *
 have HW:=zH (HWANT.out w1 HB.out.1)
 go_upto_region 2 with (go_at_call 36;refine HW.out.mono ?_;rintro e w2 ⟨aq,cq,rfl,hsq,hbq,hsa⟩)
 have hb13:=ae hbq (.cells #[.bool false,.slice aq qs.length cq] 61)
 have HB2:=zH (zA (aa hb13 HB.out.2.1) (zA (aa hb13 HB.out.2.2.1) (zA (aa hb13 HB.out.2.2.2) (zA (af w2 (.cells #[.bool false,.slice aq qs.length cq] 61)) (zA (hsq.aj (ae zR (.cells #[.bool false,.slice aq qs.length cq] 61))) (zA hsa (HB.out.1.trans (hb13.mono HB.out.1.size))))))))
 have HNE:=zH (show g≠w2.heap.size∧g≠w.heap.size∧g≠w.heap.size+1 from ⟨by have:=hbq.size;have:=HB.out.1.size;omega,by omega,by omega⟩)
 clear y0 y1 y2 y3 y4 y5 y6 y7 y8 yf hsq hbq hsa hb13
 generalize w2.alloc (.cells #[.bool false,.slice aq qs.length cq] 61)=w3 at *
 generalize w2.heap.size=b2 at *
 obtain ⟨y0,y1,y2,y3,y4,y5,y6,y7,y8,yf⟩:=yp HB2.out.1
 obtain ⟨z0,z1,z2,z3,zf⟩:=ck HB2.out.2.1
 refine wp_region_noPanic ?_
 refine wp_region_held_drew (S:=(fun w':World=>w'.cell? ⟨w.heap.size,0,none⟩=some (.int .i64 x.kind))) (by kernel_rfl) (by (try dsimp only);exact cell_of HB2.out.1 0) fun hHeld => ?_
 refine tk 0 ?_
 refine tk 1 ?_
 refine tk 2 ?_
 refine tk 3 ?_
 refine tn 4 ?_
 refine tn 5 ?_
 refine tn 6 ?_
 refine tn 7 ?_
 refine tn 8 ?_
 refine tn 9 ?_
 refine tn 10 ?_
 refine tn 11 ?_
 refine tn 12 ?_
 refine tn 13 ?_
 refine tk 14 ?_
 refine wpAnyH_done (by kernel_rfl) ?_ _
 refine NoPanic.normal ?_
 clear y1 y2 y3 y4 y5 y6 y7 y8 yf
 by_cases her:er=0
 case neg =>
  obtain ⟨rfl,rfl,rfl⟩:=HV.out her
  have er1:(er != 0)=true:=bne_iff_ne.2 her
  have HE:=zH her
  clear her
  go_wp2
  go_ret
  have hb:=av HB2.out.2.2.2.2.2.2
  rw [HPS.out HE.out]
  exact ⟨rfl,⟨HM.out.1,a,c,q,a3,n3,c3,aa hb HM.out.2.1,HM.out.2.2.1.aj hb,HM.out.2.2.2⟩,Touch.ah hb⟩
 case pos =>
  subst her
  obtain ⟨x0,x1,xf⟩:=jJ HB2.out.2.2.2.1
  obtain ⟨g0,g1,g2,g3,g4,gf⟩:=lF HB2.out.2.2.1
  go_upto_region 11 with fail
  have hb4:=av HB2.out.2.2.2.2.2.2
  have HE1:=zH (zA (show Touch (aN g) w3 (lG w3 g (.bool false) (.slice aq qs.length cq)).drew from (((Touch.refl (aN g) w3).set g 0 (.bool false) rfl).set g 1 (.slice aq qs.length cq) rfl).drew) (zA (show (lG w3 g (.bool false) (.slice aq qs.length cq)).drew.heap[g]? = _ from GS HB2.out.2.2.1 (.bool false) (.slice aq qs.length cq)) (zA (show (lG w3 g (.bool false) (.slice aq qs.length cq)).drew.heap[w.heap.size]? = _ from ik HB2.out.1 (fun e=>HNE.out.2.1 e.symm) (.bool false) (.slice aq qs.length cq)) (zA (show (lG w3 g (.bool false) (.slice aq qs.length cq)).drew.heap[w.heap.size+1]? = _ from ik HB2.out.2.1 (fun e=>HNE.out.2.2 e.symm) (.bool false) (.slice aq qs.length cq)) (zA (show (lG w3 g (.bool false) (.slice aq qs.length cq)).drew.heap[b2]? = _ from ik HB2.out.2.2.2.1 (fun e=>HNE.out.1 e.symm) (.bool false) (.slice aq qs.length cq)) (show Touch (aN g) w (lG w3 g (.bool false) (.slice aq qs.length cq)).drew from (((Touch.ah (F:=aN g) HB2.out.2.2.2.2.2.2).set g 0 (.bool false) rfl).set g 1 (.slice aq qs.length cq) rfl).drew))))))
  unfold lG at HE1
  clear y0 z0 z1 z2 z3 zf x0 x1 xf g0 g1 g2 g3 g4 gf hb4
  generalize ((w3.setCell ⟨g,0,none⟩ (.bool false)).setCell ⟨g,1,none⟩ (.slice aq qs.length cq)).drew=w4 at *
  obtain ⟨x0,x1,xf⟩:=jJ HE1.out.2.2.2.2.1
  obtain ⟨g0,g1,g2,g3,g4,gf⟩:=lF HE1.out.2.1
  go_upto_region 12 with fail
  have HT5:=zH (show Touch (aN g) w3 (Ab w4 g (.bool false) (.slice aq qs.length cq)) from (HE1.out.1.set g 2 (.bool false) rfl).set g 3 (.slice aq qs.length cq) rfl)
  have HE:=zH (zA (Er HE1.out.2.1 (.bool false) (.slice aq qs.length cq)) (zA (Ac HE1.out.2.2.1 (fun e=>HNE.out.2.1 e.symm) (.bool false) (.slice aq qs.length cq)) (zA (Ac HE1.out.2.2.2.1 (fun e=>HNE.out.2.2 e.symm) (.bool false) (.slice aq qs.length cq)) (show Touch (aN g) w (Ab w4 g (.bool false) (.slice aq qs.length cq)) from (HE1.out.2.2.2.2.2.set g 2 (.bool false) rfl).set g 3 (.slice aq qs.length cq) rfl))))
  unfold Ab at HE HT5
  clear x0 x1 xf g0 g1 g2 g3 g4 gf
  generalize (w4.setCell ⟨g,2,none⟩ (.bool false)).setCell ⟨g,3,none⟩ (.slice aq qs.length cq)=w5 at *
  obtain ⟨y0,y1,y2,y3,y4,y5,y6,y7,y8,yf⟩:=yp HE.out.2.1
  obtain ⟨g0,g1,g2,g3,g4,gf⟩:=lF HE.out.1
  have HSQ:=zH (show aQ w5 (.slice aq qs.length cq) qs.length 2 (aC qs) from CC HB2.out.2.2.1 HB2.out.2.2.2.2.1 HT5.out)
  have HHAS:=zH (fun (w':World) (hb:Below w5.heap.size w5 w')=>xe false (.slice aq qs.length cq) qs x.key w' (HSQ.out.aj hb) (by have:=HQL.out;omega))
  clear y2 y3 y4 y5 y6 y7 y8 yf
  refine wp_region_noPanic ?_
  refine wp_region_held_drew (S:=(fun w':World=>w'.cell? ⟨g,0,none⟩=some (.bool false)∧w'.cell? ⟨g,1,none⟩=some (.slice aq qs.length cq)∧w'.cell? ⟨w.heap.size,1,none⟩=some (.string x.key))) (by kernel_rfl) (by (try dsimp only);exact ⟨cell_of (aa (av zR) HE.out.1) 0,cell_of (aa (av zR) HE.out.1) 1,cell_of (aa (av zR) HE.out.2.1) 1⟩) fun hHeld => ?_
  refine tk 0 ?_
  refine tk 1 ?_
  refine tk 2 ?_
  refine tk 3 ?_
  refine tk 4 ?_
  refine tk 5 ?_
  refine tr 6 fun K hK => ?_
  go_simp
  go_at_call 38
  refine (HHAS.out _ (av zR)).mono ?_
  rintro e wx ⟨rfl,hbx⟩
  have hbh:=gtr (av (Below.refl w5.heap.size w5)) hbx
  go_wp2_with fail
  refine hK.out _ _ (by (try dsimp only);exact ⟨cell_of (aa hbh HE.out.1) 0,cell_of (aa hbh HE.out.1) 1,cell_of (aa hbh HE.out.2.1) 1⟩) fun hHeld => ?_
  clear hK K
  try simp only [Act.put,zS,zT,zU]
  refine tk 7 ?_
  refine tk 8 ?_
  refine tk 9 ?_
  refine tk 10 ?_
  refine tk 11 ?_
  refine wpAnyH_done (by kernel_rfl) ?_ _
  refine NoPanic.normal ?_
  go_upto_region 13 with fail
  obtain ⟨w6,hw6⟩ : ∃ w6,w6=wx:=⟨_,rfl⟩
  subst hw6
  obtain ⟨y0,y1,y2,y3,y4,y5,y6,y7,y8,yf⟩:=yp (aa hbh HE.out.2.1)
  clear y1 y2 y3 y4 y5 y6 y7 y8 yf
  refine wp_region_noPanic ?_
  refine wp_region_held_drew (S:=(fun w':World=>w'.cell? ⟨w.heap.size,0,none⟩=some (.int .i64 x.kind))) (by kernel_rfl) (by (try dsimp only);exact cell_of (aa hbh HE.out.2.1) 0) fun hHeld => ?_
  refine tk 0 ?_
  refine tk 1 ?_
  refine tk 2 ?_
  refine tk 3 ?_
  refine tn 4 ?_
  refine tn 5 ?_
  refine tn 6 ?_
  refine tn 7 ?_
  refine tk 8 ?_
  refine tk 9 ?_
  refine tk 10 ?_
  refine tk 11 ?_
  refine tk 12 ?_
  refine tk 13 ?_
  refine tn 14 ?_
  refine tn 15 ?_
  refine tn 16 ?_
  refine tn 17 ?_
  refine tn 18 ?_
  refine tn 19 ?_
  refine tn 20 ?_
  refine tn 21 ?_
  refine tk 22 ?_
  refine tk 23 ?_
  refine tk 24 ?_
  refine wpAnyH_done (by kernel_rfl) ?_ _
  refine NoPanic.normal ?_
  go_wp2
  go_ret
  have hb:=av hbh
  exact ⟨rfl,⟨HM.out.1,aq,cq,false,aq,qs.length,cq,aa hb HE.out.1,HSQ.out.aj hb,HB2.out.2.2.2.2.2.1⟩,HE.out.2.2.2.trans (Touch.ah hb)⟩
theorem GV (p:Nat) (W:iy) (G:Nat→Prop) (x:cL) (ba:Option Addr) (bc:Nat) (ra:Option Addr) (rc:Nat) (cx img:ByteArray) (w:World) (h:cM w p W G) (n:Bo W cx img) (fit:W.S.Fit) (hl:x.cn=0) (hk:x.kind≠7) (hb:aS w ba x.busy) (hbn:ba=none→bc=0) (hi:aP w ra x.reads G) (hcap:x.reads.length≤rc) (lb:x.busy.length≤4611686018427387904) (lr:x.reads.length≤4611686018427387904):Calls prog 11 #[.pointer (some ⟨p,0,none⟩),.agg (x.row ba bc ra rc)] w fun e w' => ∃ W',Bo W' (wy cx img W.S x).1 img∧W'.S=(wy cx img W.S x).2.1∧eU p W' (wy cx img W.S x).2.2.1 (wy cx img W.S x).2.2.2 G w e w':=by
 refine (I1 p W G x ba bc ra rc cx w h n.calm n.ok n.bI fit hb hbn hi hcap lb lr).mono ?_
 rintro e w' ⟨hm,hp⟩
 obtain ⟨k1,k2,k3⟩:=LZ n fit hl hk hm
 refine ⟨(Ka W x hm).1,k1,k2,?_⟩
 rw [← k3]
 exact hp
def ku (kind:Int) (key value:ByteArray):cL:=⟨kind,key,value,0,0,0,⟨#[]⟩,[],[]⟩
theorem lP (p:Nat) (W:iy) (G:Nat→Prop) (x:cL) (cx img:ByteArray) (w:World) (h:cM w p W G) (n:Bo W cx img) (fit:W.S.Fit) (hl:x.cn=0) (hk:x.kind≠7) (hb:x.busy=[]) (hr:x.reads=[]):Calls prog 11 #[.pointer (some ⟨p,0,none⟩),.agg #[.int .i64 x.kind,.string x.key,.string x.value,.int .i64 x.at_,.int .i64 x.width,.int .i64 x.cn,.string x.mask,.slice none 0 0,.slice none 0 0]] w fun e w' => ∃ W',Bo W' (wy cx img W.S x).1 img∧W'.S=(wy cx img W.S x).2.1∧eU p W' (wy cx img W.S x).2.2.1 (wy cx img W.S x).2.2.2 G w e w':=by
 have:=GV p W G x none 0 none 0 cx img w h n fit hl hk (by rw [hb];exact aS.nil _ _) (fun _=>rfl) (by rw [hr];exact ⟨aS.nil _ _,fun b o e=>by cases e⟩) (by rw [hr];exact Nat.le_refl _) (by rw [hb];exact Nat.zero_le _) (by rw [hr];exact Nat.zero_le _)
 rw [show x.row none 0 none 0 = #[.int .i64 x.kind,.string x.key,.string x.value,.int .i64 x.at_,.int .i64 x.width,.int .i64 x.cn,.string x.mask,.slice none 0 0,.slice none 0 0] from by unfold cL.row;rw [hb,hr];rfl] at this
 exact this
theorem DW {x:ByteArray} {sec:Nat} {V:bj} (h:Lay x sec V) {r:aT} (hr:fQ r) (h0:(cA V sec r).1=0) (hf:V.free<8):Lay (gW x (cA V sec r).2) sec ⟨true,V.ak,V.aB++[r],V.free+1⟩∧(⟨true,(cA V sec r).2.au,iL ⟨true,sec,V⟩ (cA V sec r).2⟩:aA)=⟨true,sec,⟨true,V.ak,V.aB++[r],V.free+1⟩⟩:=by
 have vk:=h.LL
 revert h0
 unfold cA
 split
 ·
  intro h0;exact absurd h0 (show ¬ (2202:Int)=0 by decide)
 split
 ·
  intro h0;exact absurd h0 (show ¬ (2201:Int)=0 by decide)
 intro _
 obtain ⟨f,hfe⟩ : ∃ f:Nat,V.free=(f:Int):=⟨V.free.toNat,by have:=vk.free;omega⟩
 have hf1:1≤f:=by have:=vk.free;omega
 have hf8:f<8:=by omega
 have hsame:=kS x sec f (aL r)
 obtain ⟨b0,_⟩:=qH (x:=x) (y:=jn x (cj sec f) (aL r)) (sec:=sec) hf1 hf8 (by rw [h.view];exact hfe) hsame
 have hslot:=nh h.size h.s1 hf8 (fJ _ hr.1) b0
 have hlay:=FI h hf1 hf8 hfe hsame hr.1 hr.2 hslot
 refine ⟨?_,?_⟩
 ·
  show Lay (gR (sec:Int) [(V.free,r)] x) sec _
  rw [hfe]
  rw [hfe] at hlay
  exact hlay
 ·
  unfold iL
  have:([r]:List aT).filter dI=[r]:=by
   unfold dI
   simp [hr.2]
  show (⟨true,(sec:Int),⟨true,V.ak,(if (-1:Int)<0 then V.aB else [])++[r].filter dI,V.free+1⟩⟩:aA)=_
  rw [this,if_pos (by decide)]
theorem Je {x:ByteArray} (h:x.size=4096):Has x x:=⟨h,fun _ _=>rfl⟩
theorem extract_mk (x:ByteArray) (a n:Nat) (h:a+n≤x.size):x.extract a (a+n)=mk n fun i=>bt x (a+i):=by
 refine fC ?_ fun i hi => ?_
 ·
  rw [eB,ByteArray.size_extract];omega
 ·
  have hi':i<n:=by rw [ByteArray.size_extract] at hi;omega
  rw [lN _ _ _ hi',fD _ _ _ _ (by omega) h]
theorem MS {x:ByteArray} (h:x.size=4096):x.extract 2048 2560=iD x 4:=extract_mk x 2048 512 (by omega)
theorem Lp {x:ByteArray} (h:x.size=4096):x.extract 2048 2112=dt x 4 0:=extract_mk x 2048 64 (by omega)
def kB:ByteArray:=⟨#[107]⟩
def vB:ByteArray:=⟨#[118]⟩
def Kh:ByteArray:=⟨#[97,98,99,100]⟩
def V0:bj:=⟨true,1,[],1⟩
def V1:bj:=⟨true,1,[⟨1,0,kB,vB⟩],2⟩
theorem Ep:rJ (ku 0 ⟨#[]⟩ ⟨#[]⟩)=true:=by decide +kernel
theorem KZ:rJ (ku 2 kB vB)=true:=by decide +kernel
theorem Jt:rJ (ku 5 ⟨#[]⟩ ⟨#[]⟩)=true:=by decide +kernel
theorem AI {x img:ByteArray} (h:Ik x) : ∃ x1,Lay x1 4 V0∧wy x img shut (ku 0 ⟨#[]⟩ ⟨#[]⟩)=(x1,⟨true,4,V0⟩,aW,0):=by
 have he:qx (oh x)=0:=by rw [yH h];rfl
 have hs:eO x=((4:Nat):Int):=by unfold eO;rw [yH h];rfl
 have hn:ll x=1:=by unfold ll;rw [he];rfl
 have e:iM x img []=(jn (oe x (eO x)) (cj (eO x) 0) (aL (cQ (ll x))),⟨true,eO x,⟨true,ll x,[],1⟩⟩,[],0):=by
  unfold iM
  rw [he,if_neg (by decide),if_pos (by decide)]
  rfl
 refine ⟨_,Ee h.size (by omega) (by omega) (by decide) (by decide) h.dead,?_⟩
 unfold wy
 rw [Ep,if_neg (by decide)]
 unfold og
 rw [if_pos (show (ku 0 ⟨#[]⟩ ⟨#[]⟩).kind=0 from rfl),show (ku 0 ⟨#[]⟩ ⟨#[]⟩).reads=[] from rfl,e,hs,hn]
 rfl
theorem GB {x img:ByteArray} (h:Lay x 4 V0) : ∃ x1,Lay x1 4 V1∧wy x img ⟨true,4,V0⟩ (ku 2 kB vB)=(x1,⟨true,4,V1⟩,aW,0):=by
 have hr:fQ ⟨1,0,kB,vB⟩:=qI (by decide) (by decide) (by decide)
 have hc:(cA V0 4 ⟨1,0,kB,vB⟩).1=0:=by decide +kernel
 have h12:=DW h hr hc (by decide)
 rw [show ((4:Nat):Int)=4 from rfl] at h12
 obtain ⟨h1,h2⟩:=h12
 refine ⟨_,h1,?_⟩
 unfold wy
 rw [KZ,if_neg (by decide)]
 unfold og
 rw [if_neg (show ¬ (ku 2 kB vB).kind=0 by decide),if_neg (show ¬ (ku 2 kB vB).kind=1 by decide),if_pos (show (ku 2 kB vB).kind=2 from rfl)]
 unfold u5
 rw [if_neg (show ¬ cR ⟨true,4,V0⟩ (ku 2 kB vB).key≠0 by decide),if_neg (show ¬ 20<(ku 2 kB vB).value.size by decide)]
 unfold jL zJ
 rw [show (⟨true,4,V0⟩:aA).view=V0 from rfl,show (⟨true,4,V0⟩:aA).au=4 from rfl,show (ku 2 kB vB).key=kB from rfl,show (ku 2 kB vB).value=vB from rfl,show (ku 2 kB vB).reads=[] from rfl]
 generalize cA V0 4 ⟨1,0,kB,vB⟩=c at hc h1 h2
 rw [hc,if_neg (by decide),if_neg (by decide),if_pos (by decide),h2]
 rfl
theorem Ec {x img:ByteArray}:wy x img ⟨true,4,V1⟩ (ku 5 ⟨#[]⟩ ⟨#[]⟩)=(x,⟨true,4,V1⟩,⟨⟨#[]⟩,[⟨kB,vB⟩],[],false⟩,0):=by
 unfold wy
 rw [Jt,if_neg (by decide)]
 unfold og
 rw [if_neg (by decide),if_neg (by decide),if_neg (by decide),if_neg (by decide),if_neg (by decide),if_pos (show (ku 5 ⟨#[]⟩ ⟨#[]⟩).kind=5 from rfl)]
 have:nU ⟨true,4,V1⟩=([⟨kB,vB⟩],0):=by decide +kernel
 rw [this]
theorem B3:bU V1.aB=[⟨kB,vB⟩]:=by decide +kernel
theorem Eb {x:ByteArray} (h:Lay x 4 V1):iK (iD x 4)=V1∧dJ (dt x 4 0)=some (cQ 1) ∧ ∃ t,fq (dt x 4 0)=some t∧t.size=32:=by
 have h1:=h.ak.2.2
 have hg:dJ (dt x 4 0)=some (cQ 1):=by
  rw [h1]
  exact jI (ic (by decide) (by decide))
 refine ⟨h.view,hg,?_⟩
 unfold dJ at hg
 cases hp:fq (dt x 4 0) with
 | none=>rw [hp] at hg;cases hg
 | some t=>exact ⟨t,rfl,rP hp⟩
theorem AQ (x:Int) (w:World):Calls prog 13 #[.int .i64 x] w fun e w'=>e=.returned (.int .i64 x)∧w'=w:=(GW x w).mono fun e w' h=>⟨h.1,h.2.symm⟩
theorem FH {x:ByteArray} {S:aA} {V:bj} (h:Lay x 4 V) (e:S=⟨true,4,V⟩):S.Fit:=by
 subst e
 exact .inr ⟨rfl,show (4:Int)≤4 by decide,show (4:Int)<8 by decide,h.LL⟩
theorem B4 (p:Nat) (W:iy) (G:Nat→Prop) (x0 img:ByteArray) (w:World) (h:cM w p W G) (n:Bo W x0 img) (hs:W.S=shut) (hx:Ik x0):Calls prog 11 #[.pointer (some ⟨p,0,none⟩),.agg #[.int .i64 0,.string ⟨#[]⟩,.string ⟨#[]⟩,.int .i64 0,.int .i64 0,.int .i64 0,.string ⟨#[]⟩,.slice none 0 0,.slice none 0 0]] w fun e w' => ∃ W' x1,Bo W' x1 img∧W'.S=⟨true,4,V0⟩∧Lay x1 4 V0∧eU p W' aW 0 G w e w':=by
 obtain ⟨x1,h1,h2⟩:=AI (img:=img) hx
 have:=lP p W G (ku 0 ⟨#[]⟩ ⟨#[]⟩) x0 img w h n (.inl hs) rfl (by decide) rfl rfl
 rw [hs,h2] at this
 refine this.mono ?_
 rintro e w' ⟨W',k1,k2,k3⟩
 exact ⟨W',x1,k1,k2,h1,k3⟩
theorem Hn (p:Nat) (W:iy) (G:Nat→Prop) (x0 img:ByteArray) (w:World) (h:cM w p W G) (n:Bo W x0 img) (hs:W.S=⟨true,4,V0⟩) (hx:Lay x0 4 V0):Calls prog 11 #[.pointer (some ⟨p,0,none⟩),.agg #[.int .i64 2,.string ⟨#[107]⟩,.string ⟨#[118]⟩,.int .i64 0,.int .i64 0,.int .i64 0,.string ⟨#[]⟩,.slice none 0 0,.slice none 0 0]] w fun e w' => ∃ W' x1,Bo W' x1 img∧W'.S=⟨true,4,V1⟩∧Lay x1 4 V1∧eU p W' aW 0 G w e w':=by
 obtain ⟨x1,h1,h2⟩:=GB (img:=img) hx
 have:=lP p W G (ku 2 kB vB) x0 img w h n (FH hx hs) rfl (by decide) rfl rfl
 rw [hs,h2] at this
 refine this.mono ?_
 rintro e w' ⟨W',k1,k2,k3⟩
 exact ⟨W',x1,k1,k2,h1,k3⟩
def gm:kJ:=⟨⟨#[]⟩,[⟨kB,vB⟩],[],false⟩
theorem J3 (p:Nat) (W:iy) (G:Nat→Prop) (x0 img:ByteArray) (w:World) (h:cM w p W G) (n:Bo W x0 img) (hs:W.S=⟨true,4,V1⟩) (hx:Lay x0 4 V1):Calls prog 11 #[.pointer (some ⟨p,0,none⟩),.agg #[.int .i64 5,.string ⟨#[]⟩,.string ⟨#[]⟩,.int .i64 0,.int .i64 0,.int .i64 0,.string ⟨#[]⟩,.slice none 0 0,.slice none 0 0]] w fun e w' => ∃ W',Bo W' x0 img∧eU p W' gm 0 G w e w':=by
 have:=lP p W G (ku 5 ⟨#[]⟩ ⟨#[]⟩) x0 img w h n (FH hx hs) rfl (by decide) rfl rfl
 rw [hs,Ec] at this
 refine this.mono ?_
 rintro e w' ⟨W',k1,k2,k3⟩
 exact ⟨W',k1,k3⟩
structure Own (w w':World) (p:Nat) (W:iy) (G:Nat→Prop):Prop where
 at_:cM w' p W G
 below:Below w.heap.size w w'
 new : ∀ i,G i→w.heap.size≤i
theorem Own.aj {w w1 w2:World} {p:Nat} {W:iy} {G:Nat→Prop} (h:Own w w1 p W G) (hb:Below w1.heap.size w1 w2):Own w w2 p W G:=⟨h.at_.aj hb,gtr h.below hb,h.new⟩
theorem Own.step {w w1 w2:World} {p:Nat} {W W':iy} {G G':Nat→Prop} (h:Own w w1 p W G) (h2:cM w2 p W' G') (st:Step G G' w1 w2):Own w w2 p W' G' :=
 ⟨h2,h.below.trans (st.aH.below h.below.size fun i hi hg=>by have:=h.new i hg;omega),fun i hi=>(st.ib i hi).elim (h.new i) (fun hl=>Nat.le_trans h.below.size hl)⟩
theorem BI (w:World):Calls prog 9 #[] w fun e w'=>e=.returned (.bool true)∧Below w.heap.size w w':=by
 have HN:=zH (show Calls prog 16 #[.string ⟨#[97,98,99,100]⟩] w (qW Kh w) from py Kh w (by decide))
 have HX:=zH (show Ik (ia Kh) from wN (by decide))
 have HM:=zH AQ
 go_enter func9,ntmps9
 go_upto_region 2 with (go_at_call 16;refine HN.out.mono ?_;rintro e w1 ⟨p,W0,G0,rfl,hw,hb,hg,hc,hl,ok,hbusy,hq,hs⟩)
 have HO:=zH (zA (show Own w w1 p W0 G0 from ⟨hw,hb,hg⟩) (zA (FK hc hl ok hq (Je HX.out.size)) hs))
 clear hw hb hg hc hl ok hbusy hq hs HN
 generalize ia Kh=x0 at *
 go_upto_region 4 with (go_at_call 13;refine (HM.out _ _).mono ?_;rintro e w' ⟨rfl,rfl⟩)
 have HD:=zH (fun w' hb=>B4 p W0 G0 x0 x0 w' (HO.out.1.aj hb).at_ HO.out.2.1 HO.out.2.2 HX.out)
 go_upto_region 5 with (go_at_call 11;refine (HD.out _ zR).mono ?_;rintro e w2 ⟨W1,x1,n1,hs1,lay1,va,vc,vb,vd,rfl,o1,o2,G1,hw1,st1,m1,m2⟩)
 have HO1:=zH (zA ((HO.out.1.step hw1 st1).aj (ae zR (.cells #[.string aW.value,.slice va aW.cB.length vc,.slice vb aW.reads.length vd,.bool aW.lost] 34))) (zA n1 (zA hs1 lay1)))
 generalize Value.agg #[.string aW.value,.slice va aW.cB.length vc,.slice vb aW.reads.length vd,.bool aW.lost]=va1 at *
 generalize w2.alloc (.cells #[.string aW.value,.slice va aW.cB.length vc,.slice vb aW.reads.length vd,.bool aW.lost] 34)=wA at *
 clear n1 hs1 lay1 o1 o2 hw1 st1 m1 m2 HD HO HX
 have HD:=zH (Hn p W1 G1 x1 x0 wA HO1.out.1.at_ HO1.out.2.1 HO1.out.2.2.1 HO1.out.2.2.2)
 go_upto_region 6 with (go_at_call 11;refine HD.out.mono ?_;rintro e w3 ⟨W2,x2,n1,hs1,lay1,va,vc,vb,vd,rfl,o1,o2,G2,hw1,st1,m1,m2⟩)
 have HO2:=zH (zA ((HO1.out.1.step hw1 st1).aj (ae zR (.cells #[.string aW.value,.slice va aW.cB.length vc,.slice vb aW.reads.length vd,.bool aW.lost] 34))) (zA n1 (zA hs1 lay1)))
 generalize Value.agg #[.string aW.value,.slice va aW.cB.length vc,.slice vb aW.reads.length vd,.bool aW.lost]=va2 at *
 generalize w3.alloc (.cells #[.string aW.value,.slice va aW.cB.length vc,.slice vb aW.reads.length vd,.bool aW.lost] 34)=wB at *
 clear n1 hs1 lay1 o1 o2 hw1 st1 m1 m2 HD HO1
 have HD:=zH (J3 p W2 G2 x2 x0 wB HO2.out.1.at_ HO2.out.2.1 HO2.out.2.2.1 HO2.out.2.2.2)
 go_upto_region 7 with (go_at_call 11;refine HD.out.mono ?_;rintro e w4 ⟨W3,n1,va,vc,vb,vd,rfl,o1,o2,G3,hw1,st1,m1,m2⟩)
 have kD:=af w4 (.cells #[.string gm.value,.slice va gm.cB.length vc,.slice vb gm.reads.length vd,.bool gm.lost] 34)
 have HO3:=zH (zA ((HO2.out.1.step hw1 st1).aj (ae zR (.cells #[.string gm.value,.slice va gm.cB.length vc,.slice vb gm.reads.length vd,.bool gm.lost] 34))) (zA n1.calm.cells (aQ.cX (o1.alloc (.cells #[.string gm.value,.slice va gm.cB.length vc,.slice vb gm.reads.length vd,.bool gm.lost] 34)))))
 have HK:=zH kD
 have hx4:x2.size=4096:=HO2.out.2.2.2.size
 have HH:=zH (Eb HO2.out.2.2.2)
 have HE:=zH (zA (MS hx4) (Lp hx4))
 generalize Value.agg #[.string gm.value,.slice va gm.cB.length vc,.slice vb gm.reads.length vd,.bool gm.lost]=va3 at *
 generalize w4.alloc (.cells #[.string gm.value,.slice va gm.cB.length vc,.slice vb gm.reads.length vd,.bool gm.lost] 34)=wC at *
 generalize w4.heap.size=bL at *
 clear n1 o1 o2 hw1 st1 m1 m2 HD HO2 kD
 have HC:=zH (mR p W3 G3 wC HO3.out.1.at_)
 rw [HO3.out.2.1] at HC
 go_upto_region 8 with (go_at_call 14;refine HC.out.mono ?_;rintro e w5 ⟨rfl,rfl⟩)
 go_upto_region 10 with fail
 have HS:=zH (qL (iD x2 4) w5 (eB _ _))
 rw [HH.out.1] at HS
 have b10:(2048:Int)≤4096:=by decide
 go_upto_region 11 with (go_at_call 19;rw [HE.out.1];refine HS.out.mono ?_;rintro e w6 ⟨vr,rfl,o6,hb6⟩;obtain ⟨va5,vc5,rfl⟩:=bz o6)
 have HV:=zH (af w6 (.cells #[.bool V1.bI,.int .i64 V1.ak,.slice va5 V1.aB.length vc5,.int .i64 V1.free] 52))
 have HB6:=zH (gtr hb6 (ae (Below.refl w6.heap.size w6) (.cells #[.bool V1.bI,.int .i64 V1.ak,.slice va5 V1.aB.length vc5,.int .i64 V1.free] 52)))
 have HR:=zH (aQ.cX (o6.alloc (.cells #[.bool V1.bI,.int .i64 V1.ak,.slice va5 V1.aB.length vc5,.int .i64 V1.free] 52)))
 generalize Value.agg #[.bool V1.bI,.int .i64 V1.ak,.slice va5 V1.aB.length vc5,.int .i64 V1.free]=va6 at *
 generalize w6.alloc (.cells #[.bool V1.bI,.int .i64 V1.ak,.slice va5 V1.aB.length vc5,.int .i64 V1.free] 52)=wD at *
 generalize w6.heap.size=bV at *
 clear o6 hb6 HS HC
 obtain ⟨t,ht1,ht2⟩:=HH.out.2.2
 have HG:=zH (qa (dt x2 4 0) wD)
 rw [ht1,show pL (some t) 200=.tuple #[.string t,.int .i64 0] from rfl] at HG
 have HT:=zH ht2
 clear ht1 ht2
 go_upto_region 12 with (go_at_call 25;rw [HE.out.2];refine HG.out.mono ?_;rintro e w7 ⟨rfl,hb7⟩)
 have HB7:=zH hb7
 have HG2:=zH (rZ (dt x2 4 0) w7)
 rw [HH.out.2.1,show qE (some (cQ 1)) 1900=.tuple #[.agg #[.int .i64 0,.int .i64 1,.string ⟨#[]⟩,.string ⟨#[]⟩],.int .i64 0] from rfl] at HG2
 clear hb7 HG
 go_upto_region 13 with (go_at_call 26;rw [HE.out.2];refine HG2.out.mono ?_;rintro e w8 ⟨rfl,hb8⟩)
 have HRB:=zH (af w8 (.cells #[.int .i64 0,.int .i64 1,.string ⟨#[]⟩,.string ⟨#[]⟩] 74))
 have HB8:=zH (gtr hb8 (ae (Below.refl w8.heap.size w8) (.cells #[.int .i64 0,.int .i64 1,.string ⟨#[]⟩,.string ⟨#[]⟩] 74)))
 generalize w8.alloc (.cells #[.int .i64 0,.int .i64 1,.string ⟨#[]⟩,.string ⟨#[]⟩] 74)=wE at *
 generalize w8.heap.size=bR at *
 clear hb8 HG2
 have HBD:=zH (gtr HB7.out HB8.out)
 have kV:=aa HBD.out HV.out
 have c2:wE.cell? ⟨bV,2,none⟩=some (.slice va5 V1.aB.length vc5):=cell_of kV 2
 have HBU:=zH (oB _ V1.aB wE (HR.out.aj HBD.out) (by decide) (by
  intro r hr
  rw [show V1.aB=[⟨1,0,kB,vB⟩] from rfl,List.mem_singleton] at hr
  rw [hr]
  exact qI (by decide) (by decide) (by decide)))
 clear kV
 rw [B3] at HBU
 go_upto_region 14 with (go_at_call 27;refine HBU.out.mono ?_;rintro e w9 ⟨vp,rfl,o9,hb9⟩;obtain ⟨va9,vc9,rfl⟩:=bz o9)
 have HB9:=zH hb9
 have H9:=zH (aQ.cX o9)
 clear hb9 o9 c2 HBU
 have HCN:=zH (pX x2 w9 hx4)
 go_upto_region 15 with (go_at_call 28;refine HCN.out.mono ?_;rintro e w10 ⟨pc,rfl,hch,hb10,_⟩)
 have HB10:=zH hb10
 clear hch hb10 HCN
 have HL10:=zH (gtr HB6.out (gtr HBD.out (gtr HB9.out HB10.out)))
 have HVV:=zH (aa (gtr HBD.out (gtr HB9.out HB10.out)) HV.out)
 have HRR:=zH (aa (gtr HB9.out HB10.out) HRB.out)
 have HKK:=zH (aa HL10.out HK.out)
 have HLS:=zH (HO3.out.2.2.aj HL10.out)
 have HPS:=zH (H9.out.aj HB10.out)
 have HBW:=zH (gtr HO3.out.1.below HL10.out)
 have HFW:=zH (fun w' (hb:Below w10.heap.size w10 w')=>(show w'.cell? ⟨bL,1,none⟩=some (.slice va gm.cB.length vc)∧w'.cell? ⟨bV,0,none⟩=some (.bool true)∧w'.cell? ⟨bR,1,none⟩=some (.int .i64 1) from ⟨cell_of (aa hb HKK.out) 1,cell_of (aa hb HVV.out) 0,cell_of (aa hb HRR.out) 1⟩))
 have hnew:=aQ.cX (vu (B:=0) (sz:=2) (n:=1) (af w10 (.cells #[.string ⟨#[107]⟩,.string ⟨#[118]⟩] 83)) zX rfl (by decide))
 have HP1:=zH (kh _ _ gm.cB [⟨kB,vB⟩] _ (HLS.out.aj (ae zR _)) hnew (by decide))
 rw [show decide (gm.cB=[⟨kB,vB⟩])=true from by decide +kernel] at HP1
 have HP2:=zH (fun w' (hb:Below w10.heap.size w10 w')=>(show Calls prog 22 #[.slice va9 1 vc9,.slice va gm.cB.length vc] w' (Ix true w') from by
  have:=kh _ _ [⟨kB,vB⟩] gm.cB w' (HPS.out.aj hb) (HLS.out.aj hb) (by decide)
  rw [show decide ([⟨kB,vB⟩]=gm.cB)=true from by decide +kernel] at this
  exact this))
 obtain ⟨c1,c2,c3⟩:=HFW.out w10 zR
 have ht:=HT.out
 clear hnew
 go_wp2_with (first
  | (go_at_call 13;refine (HM.out _ _).mono ?_;rintro e w' ⟨rfl,rfl⟩)
  | (go_at_call 22;(with_reducible refine HP1.out.mono ?_);rintro e w11 ⟨rfl,hb11⟩;obtain ⟨d1,d2,d3⟩:=HFW.out w11 (gtr (ae zR _) hb11))
  | (go_at_call 22;(with_reducible refine (HP2.out _ (gtr (ae zR _) hb11)).mono ?_);rintro e w12 ⟨rfl,hb12⟩))
 go_ret
 exact ⟨rfl,gtr HBW.out (gtr (gtr (ae zR _) hb11) hb12)⟩
structure Br where
 x:cL
 ba:Option Addr
 bc:Nat
 ra:Option Addr
 rc:Nat
def Br.row (a:Br):Array Value:=a.x.row a.ba a.bc a.ra a.rc
structure Br.At (w:World) (a:Br):Prop where
 busy:aS w a.ba a.x.busy
 MZ:a.ba=none→a.bc=0
 reads:aS w a.ra a.x.reads
 Ni:a.ra=none→a.rc=0
 MY:a.x.busy.length * 8≤140737488355328
 Nh:a.x.reads.length * 8≤140737488355328
 Ng:a.x.reads.length≤a.rc
theorem Br.At.aj {w w':World} {a:Br} (h:a.At w) (hb:Below w.heap.size w w'):a.At w':=⟨h.busy.aj hb,h.MZ,h.reads.aj hb,h.Ni,h.MY,h.Nh,h.Ng⟩
def DB (w:World) (a:Option Addr) (us:List Br):Prop :=
 ∀ i (h:i<us.length),us[i].At w ∧ ∃ b off,a=some ⟨b,off,none⟩ ∧ ∀ j u,us[i].row[j]? = some u→w.cell? ⟨b,off+i * 9+j,none⟩=some u
theorem DB.aj {w w':World} {a:Option Addr} {us:List Br} (h:DB w a us) (hb:Below w.heap.size w w'):DB w' a us:=fun i hi=>by
 obtain ⟨h1,b,off,ha,hc⟩:=h i hi
 exact ⟨h1.aj hb,b,off,ha,fun j u hu=>(hb.cell (p:=⟨b,off+i * 9+j,none⟩) (zL w _ (hc j u hu))).trans (hc j u hu)⟩
theorem il.aj {w w':World} {g:Nat} {G:Nat→Prop} {ps:List aK} (h:il w g G ps) (hb:Below w.heap.size w w'):il w' g G ps:=by
 obtain ⟨m1,a,c,q,a3,n3,c3,m2,m3,m4⟩:=h
 exact ⟨m1,a,c,q,a3,n3,c3,aa hb m2,m3.aj hb,m4⟩
theorem il.step {w w':World} {g:Nat} {G G':Nat→Prop} {ps:List aK} (h:il w g G ps) (st:Step G G' w w'):il w' g G' ps:=by
 obtain ⟨m1,a,c,q,a3,n3,c3,m2,m3,m4⟩:=h
 have key : ∀ b o,a=some ⟨b,o,none⟩→0<ps.length→b<w.heap.size ∧ ¬ G b:=fun b o e h0=>by
  refine ⟨?_,m4 b o e h0⟩
  obtain ⟨b',o',e',_,hx⟩:=m3.some h0
  rw [e] at e'
  cases e'
  obtain ⟨p0,_⟩:=dw ps 0 h0
  exact zL w _ (hx _ _ p0)
 refine ⟨st.safe (aO m2) m1,a,c,q,a3,n3,c3,st.aH.at m2 m1,⟨m3.len,m3.ex.imp id ?_⟩,fun b o e h0=>st.safe (key b o e h0).1 (key b o e h0).2⟩
 rintro ⟨b,o,c',hv,hc,hx⟩
 refine ⟨b,o,c',hv,hc,fun i u hu => ?_⟩
 have h0:0<ps.length:=by
  have:=(List.getElem?_eq_some_iff.1 hu).1
  rw [kz] at this
  omega
 simp only [Value.slice.injEq,true_and] at hv
 exact st.aH.cell b (o+i) (hx i u hu) (m4 b o hv.1 h0)
structure lW (x:cL):Prop where
 kind:x.kind=2∨x.kind=4
 k1:1≤x.key.size
 k6:x.key.size≤6
 v20:x.value.size≤20
 del:x.kind=4→x.value=⟨#[]⟩
 at_:x.at_=0
 width:x.width=0
 cn:x.cn=0
 mask:x.mask=⟨#[]⟩
 busy:x.busy=[]
 reads:x.reads=[]
theorem Hd {x:cL} (h:lW x):rJ x=true:=by
 obtain ⟨kind,key,value,at_,width,cn,mask,busy,reads⟩:=x
 obtain ⟨h1,h2,h3,h4,h5,h6,h7,h8,h9,h10,h11⟩:=h
 simp only at h1 h2 h3 h4 h5 h6 h7 h8 h9 h10 h11
 subst h6 h7 h8 h9 h10 h11
 have e0:(⟨#[]⟩:ByteArray).toList=[]:=by rw [ByteArray.toList_eq]
 have hs:qM ⟨kind,key,value,0,0,0,⟨#[]⟩,[],[]⟩=true:=by
  show (decide (key.size≤12)&&decide (value.size≤40)&&decide ((⟨#[]⟩:ByteArray).size≤16))=true
  rw [decide_eq_true (show key.size≤12 by omega),decide_eq_true (show value.size≤40 by omega)]
  rfl
 have hl:p7 ⟨kind,key,value,0,0,0,⟨#[]⟩,[],[]⟩=true:=by
  have key2 : ∀ b1 b2:Bool,([(107,b1),(118,b2),(114,false),(98,false),(108,false)]:List (UInt8×Bool)).all (fun p => !p.2 || hasB (l8 2) p.1)=true:=by decide +kernel
  have key4 : ∀ b1:Bool,([(107,b1),(118,false),(114,false),(98,false),(108,false)]:List (UInt8×Bool)).all (fun p => !p.2 || hasB (l8 4) p.1)=true:=by decide +kernel
  unfold p7 qO
  rcases h1 with rfl | rfl
  ·
   exact key2 _ _
  ·
   rw [h5 rfl]
   show ([(107,!key.toList.isEmpty),(118,!(⟨#[]⟩:ByteArray).toList.isEmpty),(114,false),(98,false),(108,false)]:List (UInt8×Bool)).all _=true
   rw [e0]
   exact key4 _
 unfold rJ
 rw [hs,hl]
 rcases h1 with rfl | rfl <;> rfl
theorem EH {ps:List aK} {x:cL} (h:lW x):(x.kind=2→EJ ps x.key x.value x.reads=(gE ps x).1)∧(x.kind=4→D3 ps x.key x.reads=(gE ps x).1):=by
 refine ⟨fun hk => ?_,fun hk => ?_⟩
 ·
  unfold EJ gE
  rw [if_neg (not_not_intro ⟨h.k1,h.k6⟩),if_neg (by have:=h.v20;omega),if_pos hk,h.reads,if_pos (show dd []=true by decide)]
  split <;> rfl
 ·
  unfold D3 gE
  rw [if_neg (not_not_intro ⟨h.k1,h.k6⟩),if_neg (show ¬ x.kind=2 by omega),h.reads,if_pos (show dd []=true by decide)]
  split <;> rfl
theorem JF {cx img:ByteArray} {S:aA} {ps:List aK} {E:Int} (ho:gP cx S ps E) (hE:E<1048576) {x:cL} (h:lW x):gP (wy cx img S x).1 (wy cx img S x).2.1 (gE ps x).2 (E+1)∧(wy cx img S x).2.2=(aW,(gE ps x).1):=by
 have e:wy cx img S x=og cx img S x:=by unfold wy;rw [Hd h,if_neg (by decide)]
 rw [e]
 have hm:=ho.more (show E≤E+1 by omega)
 obtain ⟨w1,w2⟩:=EH (ps:=ps) h
 unfold og
 rcases h.kind with hk | hk
 ·
  have hw:=w1 hk
  rw [hk,if_neg (by decide),if_neg (by decide),if_pos rfl]
  obtain ⟨o1,o2⟩:=Ex (img:=img) ho hE x.key x.value x.reads
  unfold nM
  by_cases h0:EJ ps x.key x.value x.reads=0
  ·
   obtain ⟨p1,p2⟩:=o2 h0
   rw [hw] at h0
   have hs:(gE ps x).2=gv x.key x.value ps:=by
    unfold gE at h0 ⊢
    rw [if_pos hk] at h0 ⊢
    split at h0
    ·
     cases h0
    ·
     rename_i h7;rw [if_neg h7]
   refine ⟨by rw [hs];exact p1,?_⟩
   dsimp only
   rw [p2,h0,h.reads]
   rfl
  ·
   rw [o1 h0]
   have h1:=h0
   rw [hw] at h1
   have hs:(gE ps x).2=ps:=by
    unfold gE at h1 ⊢
    rw [if_pos hk] at h1 ⊢
    split at h1
    ·
     rename_i h7;rw [if_pos h7]
    ·
     exact absurd rfl h1
   refine ⟨by rw [hs];exact hm,?_⟩
   dsimp only
   rw [hw]
   unfold outs
   rw [if_neg h1]
   rfl
 ·
  have hw:=w2 hk
  rw [hk,if_neg (by decide),if_neg (by decide),if_neg (by decide),if_neg (by decide),if_pos rfl]
  obtain ⟨o1,o2⟩:=Ew (img:=img) ho hE x.key x.reads
  unfold nM
  by_cases h0:D3 ps x.key x.reads=0
  ·
   obtain ⟨p1,p2⟩:=o2 h0
   rw [hw] at h0
   have hs:(gE ps x).2=fo x.key ps:=by
    unfold gE at h0 ⊢
    rw [if_neg (show ¬ x.kind=2 by omega)] at h0 ⊢
    split at h0
    ·
     cases h0
    ·
     rename_i h7;rw [if_neg h7]
   refine ⟨by rw [hs];exact p1,?_⟩
   dsimp only
   rw [p2,h0,h.reads]
   rfl
  ·
   rw [o1 h0]
   have h1:=h0
   rw [hw] at h1
   have hs:(gE ps x).2=ps:=by
    unfold gE at h1 ⊢
    rw [if_neg (show ¬ x.kind=2 by omega)] at h1 ⊢
    split at h1
    ·
     rename_i h7;rw [if_pos h7]
    ·
     exact absurd rfl h1
   refine ⟨by rw [hs];exact hm,?_⟩
   dsimp only
   rw [hw]
   unfold outs
   rw [if_neg h1]
   rfl
theorem Ju (p:Nat) (W:iy) (G:Nat→Prop) (x:cL) (cx img:ByteArray) (w:World) (h:cM w p W G) (n:Bo W cx img) {ps:List aK} {E:Int} (ho:gP cx W.S ps E) (hE:E<1048576) (hx:lW x):Calls prog 11 #[.pointer (some ⟨p,0,none⟩),.agg #[.int .i64 x.kind,.string x.key,.string x.value,.int .i64 0,.int .i64 0,.int .i64 0,.string ⟨#[]⟩,.slice none 0 0,.slice none 0 0]] w fun e w' => ∃ W' y,Bo W' y img∧gP y W'.S (gE ps x).2 (E+1)∧eU p W' aW (gE ps x).1 G w e w':=by
 have:=lP p W G x cx img w h n ho.fit hx.cn (by rcases hx.kind with h | h <;> omega) hx.busy hx.reads
 rw [hx.at_,hx.width,hx.cn,hx.mask] at this
 obtain ⟨d1,d2⟩:=JF (img:=img) ho hE hx
 refine this.mono ?_
 rintro e w' ⟨W',k1,k2,k3⟩
 rw [d2] at k3
 rw [← k2] at d1
 exact ⟨W',_,k1,d1,k3⟩
def k8:List ByteArray:=[⟨#[97]⟩,⟨#[98]⟩,⟨#[99]⟩,⟨#[100]⟩,⟨#[101]⟩,⟨#[102]⟩,⟨#[103]⟩,⟨#[104]⟩]
def k7:List ByteArray:=[⟨#[97]⟩,⟨#[98]⟩,⟨#[99]⟩,⟨#[100]⟩,⟨#[101]⟩,⟨#[102]⟩,⟨#[103]⟩]
def M1:ByteArray:=⟨#[104]⟩
def M3 (i:Nat):ByteArray:=k8.getD i M1
def mZ (x:cL):List Value:=[.int .i64 x.kind,.string x.key,.string x.value,.int .i64 0,.int .i64 0,.int .i64 0,.string ⟨#[]⟩,.slice none 0 0,.slice none 0 0]
def pB (l:List cL):List Value:=l.flatMap mZ
theorem vK : ∀ (l:List cL) (i:Nat) (h:i<l.length) (j:Nat) (hj:j<9),(pB l)[9 * i+j]? = (mZ l[i])[j]?
 | x::l,0,h,j,hj=>by
  show (mZ x++pB l)[9 * 0+j]? = _
  rw [Nat.mul_zero,Nat.zero_add,List.getElem?_append_left (by simp [mZ];omega)]
  rfl
 | x::l,i+1,h,j,hj=>by
  show (mZ x++pB l)[9 * (i+1)+j]? = _
  rw [List.getElem?_append_right (by simp [mZ];omega)]
  have e:9 * (i+1)+j - (mZ x).length=9 * i+j:=by simp [mZ];omega
  rw [e,vK l i (Nat.lt_of_succ_lt_succ h) j hj]
  rfl
theorem KN {img:ByteArray} (h:img.size=2048):Has (ia img) img:=by
 refine ⟨jV (by omega),fun i hi => ?_⟩
 unfold ia
 rw [qq,if_pos (by omega)]
def pK:Array Value := #[.bool false,.slice none 0 0,.bool false,.slice none 0 0,.bool true]
structure DJ (w3 wr:World) (v:Value) (l:List cL) (sh:List (Int×ByteArray)):Prop where
 below:Below w3.heap.size w3 wr
 own:wr.ownsRow w3.heap.size 31 9 v l.length (pB l)
 shape:(l.map fun x=>(x.kind,x.key))=sh
 plain : ∀ a ∈ l,lW a
theorem DJ.grow {w3 wr w1 w2:World} {v v':Value} {l:List cL} {sh:List (Int×ByteArray)} (h:DJ w3 wr v l sh) (hb:Below wr.heap.size wr w1) (hg:w1.grownBy w2 v.ownBlock) (xs:List cL) (ho:w2.ownsRow w3.heap.size 31 9 v' (l++xs).length (pB (l++xs))) (hp : ∀ a ∈ xs,lW a):DJ w3 w2 v' (l++xs) (sh++xs.map fun x=>(x.kind,x.key)) :=
 ⟨gO h.below (bK h.own) (dM hb hg),ho,by rw [List.map_append,h.shape],fun a ha=>(List.mem_append.1 ha).elim (h.plain a) (hp a)⟩
theorem He {k v:ByteArray} (h1:k.size=1) (h2:v.size≤20):lW (ku 2 k v):=⟨.inl rfl,by show 1≤k.size;omega,by show k.size≤6;omega,h2,fun h=>(by cases h),rfl,rfl,rfl,rfl,rfl,rfl⟩
theorem Hc {k:ByteArray} (h1:k.size=1):lW (ku 4 k ⟨#[]⟩):=⟨.inr rfl,by show 1≤k.size;omega,by show k.size≤6;omega,by show (⟨#[]⟩:ByteArray).size≤20;decide,fun _=>rfl,rfl,rfl,rfl,rfl,rfl,rfl⟩
theorem AP (w:World) (o1 o2:Obj):((w.alloc o1).alloc o2).heap[w.heap.size+1]? = some o2:=by simpa using af (w.alloc o1) o2
def DH (w:World) (b:Nat):Prop := ∀ j,j<8→w.cell? ⟨b,j,none⟩=some (.string (M3 j))
theorem DH.aj {w w':World} {b:Nat} (h:DH w b) (hb:Below w.heap.size w w'):DH w' b:=fun j hj=>(hb.cell (p:=⟨b,j,none⟩) (zL w _ (h j hj))).trans (h j hj)
theorem CD (q0 q q1:Bool) (a0 a3:Option Addr) (n0 c0 n3 c3:Nat) (x:Int) : ∀ j:Nat,(#[.bool q0,.slice a0 n0 c0,.bool q,.slice a3 n3 c3,.bool q1]:Array Value)[j]? ≠ some (.int .i64 x)
 | 0=>by simp
 | 1=>by simp
 | 2=>by simp
 | 3=>by simp
 | 4=>by simp
 | j+5=>by simp
theorem CF {w:World} {g:Nat} {G:Nat→Prop} {ps:List aK} (h:il w g G ps):Plain w g:=by
 obtain ⟨_,a,c,q,a3,n3,c3,m2,_⟩:=h
 refine ⟨fun i x => ?_,fun t => ?_⟩
 ·
  rw [cell_of m2]
  exact CD _ _ _ _ _ _ _ _ _ x i
 ·
  rw [cell_of m2]
  simp
def qT (w:World) (ab:Nat) (l:List cL):Prop := ∀ i q,(pB l)[i]? = some q→w.cell? ⟨ab,i,none⟩=some q
theorem qT.aH {w w':World} {ab:Nat} {l:List cL} {F:Nat→Prop} (h:qT w ab l) (t:Touch F w w') (hn : ¬ F ab):qT w' ab l:=fun i q hq=>t.cell ab i (h i q hq) hn
theorem qT.row {w:World} {ab:Nat} {l:List cL} (h:qT w ab l) (i:Nat) (hi:i<l.length) (j:Nat) (q:Value) (hj:j<9) (hq:(mZ l[i])[j]? = some q):w.cell? ⟨ab,i * 9+j,none⟩=some q:=by
 rw [show i * 9+j=9 * i+j by omega]
 exact h _ _ ((vK l i hi j hj).trans hq)
theorem Hf {x:cL} (h:lW x):x.row none 0 none 0 = #[.int .i64 x.kind,.string x.key,.string x.value,.int .i64 0,.int .i64 0,.int .i64 0,.string ⟨#[]⟩,.slice none 0 0,.slice none 0 0]:=by
 unfold cL.row
 rw [h.at_,h.width,h.cn,h.mask,h.busy,h.reads]
 rfl
theorem byte_back (K:UInt8) (c:Int) (hc:c=(K.toNat:Int)) (w':World) (b:Nat) (h:w'.cell? ⟨b,0,none⟩=some (.int .u8 c)):(convert 29 9 (.slice (some ⟨b,0,none⟩) 1 1)).run prog w'=.ok (.string ⟨#[K]⟩) w':=by
 have hback:=run_convert_bytes_back (P:=prog) w' 29 9 5 ⟨b,0,none⟩ 1 [K] underlying29 underlying5 underlying9 (fun i hi=>by
  rw [dq]
  match i,hi with
  | 0,_=>rw [show b=b from rfl,Nat.add_zero,h,hc];rfl)
 simp only [List.length_cons,List.length_nil] at hback
 exact hback
theorem Kn (w:World) (v:Value) (t:TypeId) (o2:Obj):((w.alloc (.cells #[v] t)).alloc o2).cell? ⟨w.heap.size,0,none⟩=some v:=cell_of (aa (ae zR _) (af w _)) 0
theorem Ko (w:World) (v:Value) (t:TypeId) (o2 o3:Obj):(((w.alloc (.cells #[v] t)).alloc o2).alloc o3).cell? ⟨w.heap.size,0,none⟩=some v:=cell_of (aa (ae (ae zR _) _) (af w _)) 0
theorem Kp (w:World) (v:Value) (t:TypeId) (o1:Obj):((w.alloc o1).alloc (.cells #[v] t)).cell? ⟨w.heap.size+1,0,none⟩=some v:=cell_of (AP w _ _) 0
theorem Kq (w:World) (v:Value) (t:TypeId) (o1 o3:Obj):(((w.alloc o1).alloc (.cells #[v] t)).alloc o3).cell? ⟨w.heap.size+1,0,none⟩=some v:=cell_of (aa (ae zR _) (AP w _ _)) 0
theorem zx (w:World) (o1 o2 o3:Obj):(((w.alloc o1).alloc o2).alloc o3).heap[w.heap.size+2]? = some o3:=by simpa using af ((w.alloc o1).alloc o2) o3
theorem Kr (w:World) (v:Value) (t:TypeId) (o1 o2:Obj):(((w.alloc o1).alloc o2).alloc (.cells #[v] t)).cell? ⟨w.heap.size+2,0,none⟩=some v:=cell_of (zx w _ _ _) 0
def Il (w:World) (img:ByteArray) (e:Ending) (w':World):Prop :=
 ∃ p W G y g ps E,e=.returned (.tuple #[.pointer (some ⟨p,0,none⟩),.pointer (some ⟨g,0,none⟩)])∧Own w w' p W G∧Bo W y img∧gP y W.S ps E∧il w' g G ps∧w.heap.size≤g∧E≤30
theorem Ay (t:ByteArray) (a:Option Addr) (c:Nat) (rs:List Int) (mx:Nat) (w:World) (ht:t.size<140737488355328) (hr:aS w a rs) (hn:rs.length≤9223372036854775807) (hmx:mx≤25):Calls prog 10 #[.string t,.slice a rs.length c,.int .i64 mx] w (Il w (jE t)):=by
 have HI:=zH (fun w=>xV t w ht)
 have hsz:(jE t).size=2048:=eB _ _
 have HN:=zH (fun w=>py (jE t) w (by rw [hsz];exact Nat.le_refl _))
 have HX:=zH (zA (KN (img:=jE t) hsz) (wN (img:=jE t) (Nat.le_of_eq hsz)))
 have HM:=zH AQ
 have HRI:=zH hr
 clear hsz hr
 generalize jE t=img at *
 go_enter func10,ntmps10
 go_upto_region 2 with (first
  | (go_at_call 17;refine (HI.out _).mono ?_;rintro e w1 ⟨rfl,hb1⟩)
  | (go_at_call 16;refine (HN.out _).mono ?_;rintro e w2 ⟨p,W0,G0,rfl,hw,hb,hg,hc,hl,ok,hbusy,hq,hs⟩))
 have HO:=zH (zA (show Own w w2 p W0 G0 from ⟨hw,gtr hb1 hb,fun i hi=>Nat.le_trans hb1.size (hg i hi)⟩) (zA (FK hc hl ok hq HX.out.1) hs))
 have HB:=zH HX.out.2
 clear hw hb hg hc hl ok hbusy hq hs hb1 HI HN HX
 generalize ia img=x0 at *
 go_upto_region 4 with (go_at_call 13;refine (HM.out _ _).mono ?_;rintro e w' ⟨rfl,rfl⟩)
 have HD:=zH (B4 p W0 G0 x0 img w' HO.out.1.at_ HO.out.2.1 HO.out.2.2 HB.out)
 go_upto_region 5 with (go_at_call 11;refine HD.out.mono ?_;rintro e w3 ⟨W1,x1,n1,hs1,lay1,va,vc,vb,vd,rfl,o1,o2,G1,hw1,st1,m1,m2⟩)
 rw [show aW.value=⟨#[]⟩ from rfl,show aW.cB.length=0 from rfl,show aW.reads.length=0 from rfl,show aW.lost=false from rfl] at *
 have HO1:=zH (zA ((HO.out.1.step hw1 st1).aj (ae zR (.cells pK 63))) (zA n1 (zA (show gP x1 W1.S [] 1 from ⟨4,V0,lay1,rfl,by decide,hs1⟩) (zA (show il (w3.alloc (.cells pK 63)) w3.heap.size G1 [] from ⟨fun h=>Nat.lt_irrefl _ (hw1.lt _ h),none,0,false,none,0,0,af w3 (.cells pK 63),aQ.nil _ _,fun b o e=>by cases e⟩) (HO.out.1.step hw1 st1).below.size))))
 unfold pK at HO1
 clear n1 hs1 lay1 o1 o2 hw1 st1 m1 m2 HD HO HB
 go_upto_region 6 with fail
 generalize w3.alloc (.cells #[.bool false,.slice none 0 0,.bool false,.slice none 0 0,.bool true] 63)=w4 at *
 generalize w3.heap.size=g at *
 go_wp2
 go_loopw [11] (fun i wr => ∃ k:Nat,i=.int .i64 k∧k≤rs.length∧k≤mx ∧ ∃ W G y ps,Own w wr p W G∧Bo W y img∧gP y W.S ps (1+k)∧il wr g G ps) (fun i _=>rs.length - (intOf i).toNat)
 case atStart=>exact ⟨0,rfl,Nat.zero_le _,Nat.zero_le _,W1,G1,x1,[],HO1.out.1,HO1.out.2.1,HO1.out.2.2.1,HO1.out.2.2.2.1⟩
 case round =>
  obtain ⟨k,rfl,hk1,hk2,W,G,y,ps,ho,hnow,hop,hmo⟩:=hrel
  have HR:=zH (zA ho (zA hnow (zA hop hmo)))
  clear ho hnow hop hmo
  by_cases hlt:k<rs.length∧k<mx
  ·
   obtain ⟨hl1,hl2⟩:=hlt
   have hi1:(k:Int)<(rs.length:Int):=by omega
   have hi2:(k:Int)<(mx:Int):=by omega
   obtain ⟨b,off,rfl,hcell⟩:=(HRI.out.aj HR.out.1.below) k hl1
   rw [show rs.getD k 0=rs[k] from by simp [List.getD,hl1]] at hcell
   generalize rs[k]=z at *
   have hblt:b<wr.heap.size:=zL wr _ hcell
   have hbn0:b≠wr.heap.size:=Nat.ne_of_lt hblt
   have hbn1:b≠wr.heap.size+1:=by omega
   have hbn2:b≠wr.heap.size+2:=by omega
   obtain ⟨K,hK⟩ : ∃ K:UInt8,IntKind.u8.wrap (97+bits .and .i64 z 3)=(K.toNat:Int):=⟨UInt8.ofNat (97+(z % 4).toNat),by
    rw [Mw,IntWalk.u8_in _ (by omega)]
    simp
    omega⟩
   have hKw:IntKind.i64.wrap (97+bits .and .i64 z 3)=97+bits .and .i64 z 3:=by rw [Mw];exact cU (by omega) (by omega)
   have hIw:IntKind.u8.wrap (k:Int)=(k:Int):=IntWalk.u8_in _ (by omega)
   have hcv1:=byte_back K (K.toNat:Int) rfl
   have hcv2:=byte_back (UInt8.ofNat k) (k:Int) (by simp;omega)
   obtain ⟨V,hV⟩ : ∃ V:UInt8,V=UInt8.ofNat k:=⟨_,rfl⟩
   rw [← hV] at hcv2
   clear hV
   have hca:=Kn wr
   have hcb:=Ko wr
   have hcc:=Kp wr
   have hcd:=Kq wr
   have hce:=Kr wr
   go_upto_region 9 with fail
   go_cut [12] from 33 to 79 (fun v wx => ∃ gA,v=.pointer (some ⟨gA,0,none⟩)∧Below wr.heap.size wr wx∧wr.heap.size≤gA∧wx.heap[gA]? = some (.cells #[.int .i64 2,.string ⟨#[K]⟩,.string ⟨#[V]⟩,.int .i64 0,.int .i64 0,.int .i64 0,.string ⟨#[]⟩,.slice none 0 0,.slice none 0 0] 31 (0,0)))
   case first =>
    go_region
    all_goals
     go_wp2
     go_meet
     refine ⟨_,rfl,av (ae (ae (ae zR _) _) _),by omega,?_⟩
     rw [show ∀ q:World,q.drew.heap=q.heap from fun _=>rfl]
     first
      | exact aa (ae (ae zR _) _) (af wr _)
      | exact aa (ae zR _) (AP wr _ _)
      | exact zx wr _ _ _
   case rest =>
    obtain ⟨gA,rfl,hbc,hgA,hza⟩:=hcut
    obtain ⟨w5,hw5⟩ : ∃ q,q=wc:=⟨_,rfl⟩
    subst hw5
    have HR5:=zH (zA hza (zA hbc (zA hgA (show ¬ G gA from fun h=>by have:=HR.out.1.at_.lt _ h;omega))))
    have hcell5:=(hbc.cell (p:=⟨b,off+k,none⟩) hblt).trans hcell
    have hgg:g<wr.heap.size:=by obtain ⟨_,a',c',q,a3,n3,c3,m2',_⟩:=HR.out.2.2.2;exact aO m2'
    have HGG:=zH (show g≠gA by omega)
    obtain ⟨z0,z1,z2,z3,z4,z5,z6,z7,z8,zf⟩:=yp hza
    obtain ⟨q12,h12⟩ : ∃ q,(bits .and .i64 z 12 == 12)=q:=⟨_,rfl⟩
    clear hcv1 hcv2 hca hcb hcc hcd hce hcell hbc hza hgg hbn0 hbn1 hbn2 hblt hgA hKw hIw hK
    go_upto_if 63 with fail
    go_cut [] from 33 to 79 (fun wx => ∃ x:cL,lW x∧wx.heap[gA]? = some (.cells #[.int .i64 x.kind,.string x.key,.string x.value,.int .i64 0,.int .i64 0,.int .i64 0,.string ⟨#[]⟩,.slice none 0 0,.slice none 0 0] 31 (0,0))∧Touch (aN gA) w5 wx)
    case first =>
     cases q12 with
     | true =>
      go_wp2
      go_meet
      refine ⟨ku 4 ⟨#[K]⟩ ⟨#[]⟩,Hc rfl,?_,?_⟩
      ·
       exact Lo HR5.out.1 (.int .i64 4) (.string ⟨#[K]⟩) (.string ⟨#[]⟩) (.int .i64 0) (.int .i64 0) (.int .i64 0) (.string ⟨#[]⟩) (.slice none 0 0) (.slice none 0 0)
      ·
       exact ES w5 gA (.int .i64 4) (.string ⟨#[K]⟩) (.string ⟨#[]⟩) (.int .i64 0) (.int .i64 0) (.int .i64 0) (.string ⟨#[]⟩) (.slice none 0 0) (.slice none 0 0)
     | false =>
      go_wp2
      go_meet
      exact ⟨ku 2 ⟨#[K]⟩ ⟨#[V]⟩,He rfl (show 1≤20 by decide),HR5.out.1,Touch.refl _ _⟩
    case rest =>
     obtain ⟨x,hpx,hza,htA⟩:=hcut
     obtain ⟨wz,hwz⟩ : ∃ q,q=wc:=⟨_,rfl⟩
     subst hwz
     have hbz:Below wr.heap.size wr wz:=HR5.out.2.1.trans (htA.below HR5.out.2.1.size (fun i hi e=>by have e:i=gA:=e;have:=HR5.out.2.2.1;omega))
     have HPL:=zH hpx
     have HRZ:=zH (zA (HR.out.1.aj hbz) (zA HR.out.2.1 (zA HR.out.2.2.1 (zA (HR.out.2.2.2.aj hbz) (zA hza HR5.out.2.2.2)))))
     clear z0 z1 z2 z3 z4 z5 z6 z7 z8 zf hcell5 hpx htA hbz h12
     obtain ⟨z0,z1,z2,z3,z4,z5,z6,z7,z8,zf⟩:=yp hza
     have hgAl:gA<wz.heap.size:=aO hza
     clear hza zf
     have HD:=zH (Ju p W G x y img wz HRZ.out.1.at_ HRZ.out.2.1 HRZ.out.2.2.1 (by omega) HPL.out)
     go_upto_region 13 with (go_at_call 11;refine HD.out.mono ?_;rintro e w5 ⟨W1,y1,n1,k1,va,vc,vb,vd,rfl,o1,o2,G1,hw1,st1,m1,m2⟩)
     rw [show aW.value=⟨#[]⟩ from rfl,show aW.cB.length=0 from rfl,show aW.reads.length=0 from rfl,show aW.lost=false from rfl] at *
     have hb6:=ae (Below.refl w5.heap.size w5) (.cells #[.string ⟨#[]⟩,.slice va 0 vc,.slice vb 0 vd,.bool false] 34)
     have HR6:=zH (zA ((HRZ.out.1.step hw1 st1).aj hb6) (zA n1 (zA k1 (zA ((HRZ.out.2.2.2.1.step st1).aj hb6) (zA (aa hb6 (st1.aH.at HRZ.out.2.2.2.2.1 HRZ.out.2.2.2.2.2)) (zA (st1.safe hgAl HRZ.out.2.2.2.2.2) (zA (af w5 (.cells #[.string ⟨#[]⟩,.slice va 0 vc,.slice vb 0 vd,.bool false] 34)) (zA (show g≠w5.heap.size from fun e=>by obtain ⟨_,a,c,q,a3,n3,c3,mm2,_⟩:=HRZ.out.2.2.2.1.step st1;have:=aO mm2;omega) (fun i hi=>zV (hw1.lt i hi) hb6.size)))))))))
     generalize Value.agg #[.string ⟨#[]⟩,.slice va 0 vc,.slice vb 0 vd,.bool false]=vagz at *
     generalize hw6:w5.alloc (.cells #[.string ⟨#[]⟩,.slice va 0 vc,.slice vb 0 vd,.bool false] 34)=w6 at *
     generalize w5.heap.size=bA at *
     clear hw6 hb6 n1 k1 o1 o2 hw1 st1 m1 m2 HD z0 z1 z2 z3 z4 z5 z6 z7 z8 hgAl
     have HS13:=zH (fun (w':World) (t:Touch (aN g) w6 w')=>(show w'.cell? ⟨gA,0,none⟩=some (.int .i64 x.kind)∧w'.cell? ⟨gA,1,none⟩=some (.string x.key)∧w'.cell? ⟨gA,2,none⟩=some (.string x.value)∧w'.cell? ⟨gA,3,none⟩=some (.int .i64 0)∧w'.cell? ⟨gA,4,none⟩=some (.int .i64 0)∧w'.cell? ⟨gA,5,none⟩=some (.int .i64 0)∧w'.cell? ⟨gA,6,none⟩=some (.string ⟨#[]⟩)∧w'.cell? ⟨gA,7,none⟩=some (.slice none 0 0)∧w'.cell? ⟨gA,8,none⟩=some (.slice none 0 0)∧w'.cell? ⟨bA,0,none⟩=some (.string ⟨#[]⟩)∧w'.cell? ⟨bA,1,none⟩=some (.slice va 0 vc)∧w'.cell? ⟨bA,2,none⟩=some (.slice vb 0 vd)∧w'.cell? ⟨bA,3,none⟩=some (.bool false) from by
      have hB:=t.at HR6.out.2.2.2.2.1 (show ¬ gA=g from fun e=>HGG.out e.symm)
      have hA:=t.at HR6.out.2.2.2.2.2.2.1 (show ¬ bA=g from fun e=>HR6.out.2.2.2.2.2.2.2.1 e.symm)
      exact ⟨cell_of hB 0,cell_of hB 1,cell_of hB 2,cell_of hB 3,cell_of hB 4,cell_of hB 5,cell_of hB 6,cell_of hB 7,cell_of hB 8,cell_of hA 0,cell_of hA 1,cell_of hA 2,cell_of hA 3⟩))
     have HTOLD:=zH (fun (w':World) (hb:Below w6.heap.size w6 w')=>(show Calls prog 12 #[.pointer (some ⟨g,0,none⟩),.agg #[.int .i64 x.kind,.string x.key,.string x.value,.int .i64 0,.int .i64 0,.int .i64 0,.string ⟨#[]⟩,.slice none 0 0,.slice none 0 0],.agg #[.string ⟨#[]⟩,.slice va 0 vc,.slice vb 0 vd,.bool false],.int .i64 (gE ps x).1] w' (BG g G1 (gE ps x).2 w') from by
      rw [← Hf HPL.out]
      exact E4 g G1 ps (gE ps x).2 x none 0 none 0 ⟨#[]⟩ va 0 vc vb 0 vd (gE ps x).1 w' rfl (fun _=>⟨rfl,rfl,rfl⟩) (HR6.out.2.2.2.1.aj hb) (fun i hi=>zV (HR6.out.2.2.2.2.2.2.2.2 i hi) hb.size) HPL.out.kind HPL.out.k1 HPL.out.k6 HPL.out.v20 (by rw [HPL.out.reads];exact aS.nil _ _) (by rw [HPL.out.reads];exact fun i hi=>absurd hi (Nat.not_lt_zero _)) HRZ.out.2.2.1.kept.sorted.1 HRZ.out.2.2.1.kept.sorted.2 (by rw [HPL.out.reads];exact Nat.zero_le _)))
     refine wp_region_noPanic ?_
     refine wp_region_held_drew (S:=(fun w':World=>w'.cell? ⟨gA,0,none⟩=some (.int .i64 x.kind)∧w'.cell? ⟨gA,1,none⟩=some (.string x.key)∧w'.cell? ⟨gA,2,none⟩=some (.string x.value)∧w'.cell? ⟨gA,3,none⟩=some (.int .i64 0)∧w'.cell? ⟨gA,4,none⟩=some (.int .i64 0)∧w'.cell? ⟨gA,5,none⟩=some (.int .i64 0)∧w'.cell? ⟨gA,6,none⟩=some (.string ⟨#[]⟩)∧w'.cell? ⟨gA,7,none⟩=some (.slice none 0 0)∧w'.cell? ⟨gA,8,none⟩=some (.slice none 0 0)∧w'.cell? ⟨bA,0,none⟩=some (.string ⟨#[]⟩)∧w'.cell? ⟨bA,1,none⟩=some (.slice va 0 vc)∧w'.cell? ⟨bA,2,none⟩=some (.slice vb 0 vd)∧w'.cell? ⟨bA,3,none⟩=some (.bool false))) (by kernel_rfl) (by (try dsimp only);exact HS13.out _ (Touch.ah (av zR))) fun hHeld => ?_
     refine tk 0 ?_
     refine tk 1 ?_
     refine tk 2 ?_
     refine tk 3 ?_
     refine tr 4 fun K hK => ?_
     go_simp
     go_at_call 13
     refine (HM.out _ _).mono ?_
     rintro e wx ⟨rfl,rfl⟩
     go_wp2_with fail
     refine hK.out _ _ (by (try dsimp only);exact HS13.out _ (Touch.ah (av zR))) fun hHeld => ?_
     clear hK K
     try simp only [Act.put,zS,zT,zU]
     refine tr 5 fun K hK => ?_
     go_simp
     go_at_call 12
     refine (HTOLD.out _ (av zR)).mono ?_
     rintro e w7 ⟨rfl,hm7,ht7⟩
     have ht67:=(Touch.ah (F:=aN g) (av (Below.refl w6.heap.size w6))).trans ht7
     go_wp2_with fail
     refine hK.out _ _ (by (try dsimp only);exact HS13.out _ ht67) fun hHeld => ?_
     clear hK K
     try simp only [Act.put,zS,zT,zU]
     refine tk 6 ?_
     refine wpAnyH_done (by kernel_rfl) ?_ _
     refine NoPanic.normal ?_
     have HEND:=zH (zA (show Own w w7 p W1 G1 from ⟨HR6.out.1.at_.plain ht67 HR6.out.2.2.2.1.1 (CF HR6.out.2.2.2.1),HR6.out.1.below.trans (ht67.below HR6.out.1.below.size (fun i hi e=>by have e:i=g:=e;have:=HO1.out.2.2.2.2;omega)),HR6.out.1.new⟩) hm7)
     clear hm7 ht7 ht67 hHeld
     go_wp2
     go_roundw
     case rel=>exact ⟨k+1,by go_num,by omega,by omega,W1,G1,y1,_,HEND.out.1,HR6.out.2.1,by have h:=HR6.out.2.2.1;rw [show (1:Int)+((k+1:Nat):Int)=1+(k:Int)+1 by omega];exact h,HEND.out.2⟩
     case measure=>simp [intOf];omega
  ·
   by_cases hlu:k<rs.length
   ·
    have hi1:(k:Int)<(rs.length:Int):=by omega
    have hi2 : ¬ (k:Int)<(mx:Int):=by omega
    clear hlt
    go_wp2
    go_ret2
    exact ⟨p,W,G,y,g,ps,1+k,rfl,HR.out.1,HR.out.2.1,HR.out.2.2.1,HR.out.2.2.2,HO1.out.2.2.2.2,by omega⟩
   ·
    have hi1 : ¬ (k:Int)<(rs.length:Int):=by omega
    clear hlt
    go_wp2
    go_ret2
    exact ⟨p,W,G,y,g,ps,1+k,rfl,HR.out.1,HR.out.2.1,HR.out.2.2.1,HR.out.2.2.2,HO1.out.2.2.2.2,by omega⟩
end Go.Proofs.YtcfdenckiigdaaaGreat

/- Part 26 of the contracts. -/
import Derived.Test.YtcfdenckiigdaaaGreatRd25
set_option linter.unusedVariables false
set_option maxRecDepth 100000
set_option maxHeartbeats 4000000
namespace Go.Proofs.YtcfdenckiigdaaaGreat
open Tryz Go.RowKit
def Aq (w:World) (g:Nat) (a b:Value):World:=(w.setCell ⟨g,2,none⟩ a).setCell ⟨g,3,none⟩ b
theorem Ar {w:World} {g k:Nat} {o:Obj} (h:w.heap[k]? = some o) (hn:k≠g) (a b:Value):(Aq w g a b).heap[k]? = some o:=by
 unfold Aq
 rw [heap_setCell_other _ _ _ _ hn,heap_setCell_other _ _ _ _ hn]
 exact h
theorem Hz {w:World} {g:Nat} {a0 b0 m2 m3 t:Value} {T:TypeId} (h:w.heap[g]? = some (.cells #[a0,b0,m2,m3,t] T (0,0))) (a b:Value):(lI w g a b).heap[g]? = some (.cells #[a,b,m2,m3,t] T (0,0)):=by
 have:=az (i:=1) (v:=b) (az (i:=0) (v:=a) h)
 exact this
theorem EG {w:World} {g:Nat} {a0 b0 m2 m3 t:Value} {T:TypeId} (h:w.heap[g]? = some (.cells #[a0,b0,m2,m3,t] T (0,0))) (a b:Value):(Aq w g a b).heap[g]? = some (.cells #[a0,b0,a,b,t] T (0,0)):=by
 have:=az (i:=3) (v:=b) (az (i:=2) (v:=a) h)
 exact this
theorem Bc (ps:List aJ) : ∀ u ∈ aE ps,∃ s,u=.string s:=by
 intro u hu
 obtain ⟨p,_,hp⟩:=List.mem_flatMap.1 hu
 simp only [List.mem_cons,List.not_mem_nil,or_false] at hp
 rcases hp with rfl | rfl <;> exact ⟨_,rfl⟩
theorem CS (q0 q q1:Bool) (a0 a3:Option Addr) (n0 c0 n3 c3:Nat) (s:ByteArray) : ∀ j:Nat,(#[.bool q0,.slice a0 n0 c0,.bool q,.slice a3 n3 c3,.bool q1]:Array Value)[j]? ≠ some (.string s)
 | 0=>by simp
 | 1=>by simp
 | 2=>by simp
 | 3=>by simp
 | 4=>by simp
 | j+5=>by simp
theorem uy {w w':World} {g n:Nat} {q0 q q1:Bool} {a0 a3:Option Addr} {n0 c0 n3 c3:Nat} {v:Value} {ps:List aJ} (hg:w.heap[g]? = some (.cells #[.bool q0,.slice a0 n0 c0,.bool q,.slice a3 n3 c3,.bool q1] 63 (0,0))) (h:aU w v n 2 (aE ps)) (ht:Touch (aN g) w w'):aU w' v n 2 (aE ps) :=
 ⟨h.len,h.ex.imp id fun ⟨b,o,c,hv,hc,hx⟩=>⟨b,o,c,hv,hc,fun i u hu=>ht.cell b (o+i) (hx i u hu) fun e=>by
  have e:b=g:=e
  subst e
  have h1:=hx i u hu
  rw [cell_of hg] at h1
  obtain ⟨s,rfl⟩:=Bc ps u (List.mem_of_getElem? hu)
  exact CS _ _ _ _ _ _ _ _ _ s _ h1⟩⟩
def vX (g:Nat) (G:Nat→Prop) (qs:List aJ) (w:World) (e:Ending) (w':World):Prop:=e=.returned (.bool true)∧cV w' g G qs∧Touch (aN g) w w'
theorem yj (g:Nat) (G:Nat→Prop) (ps qs:List aJ) (x:cG) (ba:Option Addr) (bc:Nat) (ra:Option Addr) (rc:Nat) (val:ByteArray) (va:Option Addr) (np vc:Nat) (vb:Option Addr) (nr vd:Nat) (er:Int) (w:World) (hw:fD ps x=(er,qs)) (hv:er≠0→val=⟨#[]⟩∧np=0∧nr=0) (hm:cV w g G ps) (hG : ∀ i,G i→i<w.heap.size) (hk:x.kind=2∨x.kind=4) (s1:1≤x.key.size) (s2:x.key.size≤6) (s3:x.value.size≤20) (hr:aP w ra x.reads) (hr2 : ∀ i (h:i<x.reads.length),x.reads[i]<2048) (hso:fo ps) (hl:ps.length≤7) (hrl:x.reads.length≤1000000):Calls prog 12 #[.pointer (some ⟨g,0,none⟩),.agg (x.row ba bc ra rc),.agg #[.string val,.slice va np vc,.slice vb nr vd,.bool false],.int .i64 er] w (vX g G qs w):=by
 have e0:(x.kind == 0)=false:=zQ (by omega)
 have e1:(x.kind == 1)=false:=zQ (by omega)
 have e3:(x.kind != 3)=true:=bne_iff_ne.2 (by omega)
 have e5:(x.kind != 5)=true:=bne_iff_ne.2 (by omega)
 have HWANT:=zH (fun (w':World) (hb:Below w.heap.size w w')=>(show Calls prog 36 #[.pointer (some ⟨g,0,none⟩),.agg (x.row ba bc ra rc)] w' (yT (er,qs) G w') from by
  rw [← hw]
  obtain ⟨m1,a,c,q,a3,n3,c3,m2,m3,m4⟩:=hm
  exact DJ g G ps x ba bc ra rc w' ⟨m1,a,c,q,a3,n3,c3,aa hb m2,m3.aj hb,m4⟩ (fun i hi=>zV (hG i hi) hb.size) hk s1 s2 s3 (hr.aj hb) hr2 hso hl hrl))
 have HPS:=zH (show er≠0→qs=ps from by
  intro h
  unfold fD at hw
  split at hw
  ·
   split at hw
   ·
    exact (Prod.mk.inj hw).2.symm
   ·
    exact absurd (Prod.mk.inj hw).1.symm h
  ·
   split at hw
   ·
    exact (Prod.mk.inj hw).2.symm
   ·
    exact absurd (Prod.mk.inj hw).1.symm h)
 have HQL:=zH (show qs.length≤8 from by
  have e:=congrArg Prod.snd hw
  dsimp only at e
  rw [← e]
  unfold fD
  have:=AT x.key ps
  split
  ·
   split
   ·
    show ps.length≤8;omega
   ·
    show (eB x.key x.value ps).length≤8;omega
  ·
   split
   ·
    show ps.length≤8;omega
   ·
    show (fi x.key ps).length≤8;omega)
 obtain ⟨m1,a,c,q,a3,n3,c3,hg,hsl,hsf⟩:=hm
 have hgl:g<w.heap.size:=aO hg
 unfold cG.row at HWANT ⊢
 have hb1:=ae (Below.refl w.heap.size w) (.cells #[.int .i64 x.kind,.string x.key,.string x.value,.int .i64 x.at_,.int .i64 x.width,.int .i64 x.cj,.string x.mask,.slice ba x.busy.length bc,.slice ra x.reads.length rc] 31)
 have hb2:=ae hb1 (.cells #[.string val,.slice va np vc,.slice vb nr vd,.bool false] 34)
 have n0:=aa (ae zR (.cells #[.string val,.slice va np vc,.slice vb nr vd,.bool false] 34)) (af w (.cells #[.int .i64 x.kind,.string x.key,.string x.value,.int .i64 x.at_,.int .i64 x.width,.int .i64 x.cj,.string x.mask,.slice ba x.busy.length bc,.slice ra x.reads.length rc] 31))
 have n1:((w.alloc (.cells #[.int .i64 x.kind,.string x.key,.string x.value,.int .i64 x.at_,.int .i64 x.width,.int .i64 x.cj,.string x.mask,.slice ba x.busy.length bc,.slice ra x.reads.length rc] 31)).alloc (.cells #[.string val,.slice va np vc,.slice vb nr vd,.bool false] 34)).heap[w.heap.size+1]? = some (.cells #[.string val,.slice va np vc,.slice vb nr vd,.bool false] 34 (0,0)):=by simpa using af (w.alloc (.cells #[.int .i64 x.kind,.string x.key,.string x.value,.int .i64 x.at_,.int .i64 x.width,.int .i64 x.cj,.string x.mask,.slice ba x.busy.length bc,.slice ra x.reads.length rc] 31)) (.cells #[.string val,.slice va np vc,.slice vb nr vd,.bool false] 34)
 have HB:=zH (zA hb2 (zA n0 (zA n1 (aa hb2 hg))))
 have HM:=zH (zA m1 (zA hg (zA hsl hsf)))
 have HV:=zH hv
 clear hb1 hb2 n0 n1 hg hsl hsf m1 hr hr2 hso hl hk hG hw hv
 obtain ⟨y0,y1,y2,y3,y4,y5,y6,y7,y8,yf⟩:=vm HB.out.2.1
 go_enter func12,ntmps12
 go_upto_region 1 with fail
 generalize (w.alloc (.cells #[.int .i64 x.kind,.string x.key,.string x.value,.int .i64 x.at_,.int .i64 x.width,.int .i64 x.cj,.string x.mask,.slice ba x.busy.length bc,.slice ra x.reads.length rc] 31)).alloc (.cells #[.string val,.slice va np vc,.slice vb nr vd,.bool false] 34)=w1 at *
 have HW:=zH (HWANT.out w1 HB.out.1)
 go_upto_region 2 with (go_at_call 36;refine HW.out.mono ?_;rintro e w2 ⟨aq,cq,rfl,hsq,hbq,hsa⟩)
 have hb13:=ae hbq (.cells #[.bool false,.slice aq qs.length cq] 61)
 have HB2:=zH (zA (aa hb13 HB.out.2.1) (zA (aa hb13 HB.out.2.2.1) (zA (aa hb13 HB.out.2.2.2) (zA (af w2 (.cells #[.bool false,.slice aq qs.length cq] 61)) (zA (hsq.aj (ae zR (.cells #[.bool false,.slice aq qs.length cq] 61))) (zA hsa (HB.out.1.trans (hb13.mono HB.out.1.size))))))))
 have HNE:=zH (show g≠w2.heap.size∧g≠w.heap.size∧g≠w.heap.size+1 from ⟨by have:=hbq.size;have:=HB.out.1.size;omega,by omega,by omega⟩)
 clear y0 y1 y2 y3 y4 y5 y6 y7 y8 yf hsq hbq hsa hb13
 generalize w2.alloc (.cells #[.bool false,.slice aq qs.length cq] 61)=w3 at *
 generalize w2.heap.size=b2 at *
 obtain ⟨y0,y1,y2,y3,y4,y5,y6,y7,y8,yf⟩:=vm HB2.out.1
 obtain ⟨z0,z1,z2,z3,zf⟩:=cC HB2.out.2.1
 refine wp_region_noPanic ?_
 refine wp_region_held_drew (S:=(fun w':World=>w'.cell? ⟨w.heap.size,0,none⟩=some (.int .i64 x.kind))) (by kernel_rfl) (by (try dsimp only);exact cell_of HB2.out.1 0) fun hHeld => ?_
 refine tk 0 ?_
 refine tk 1 ?_
 refine tk 2 ?_
 refine tk 3 ?_
 refine tn 4 ?_
 refine tn 5 ?_
 refine tn 6 ?_
 refine tn 7 ?_
 refine tn 8 ?_
 refine tn 9 ?_
 refine tn 10 ?_
 refine tn 11 ?_
 refine tn 12 ?_
 refine tn 13 ?_
 refine tk 14 ?_
 refine wpAnyH_done (by kernel_rfl) ?_ _
 refine NoPanic.normal ?_
 clear y1 y2 y3 y4 y5 y6 y7 y8 yf
 by_cases her:er=0
 case neg =>
  obtain ⟨rfl,rfl,rfl⟩:=HV.out her
  have er1:(er != 0)=true:=bne_iff_ne.2 her
  have HE:=zH her
  clear her
  go_wp2
  go_ret
  have hb:=au HB2.out.2.2.2.2.2.2
  rw [HPS.out HE.out]
  exact ⟨rfl,⟨HM.out.1,a,c,q,a3,n3,c3,aa hb HM.out.2.1,HM.out.2.2.1.aj hb,HM.out.2.2.2⟩,Touch.ah hb⟩
 case pos =>
  subst her
  obtain ⟨x0,x1,xf⟩:=jM HB2.out.2.2.2.1
  obtain ⟨g0,g1,g2,g3,g4,gf⟩:=mq HB2.out.2.2.1
  go_upto_region 11 with fail
  have hb4:=au HB2.out.2.2.2.2.2.2
  have HE1:=zH (zA (show Touch (aN g) w3 (lI w3 g (.bool false) (.slice aq qs.length cq)).drew from (((Touch.refl (aN g) w3).set g 0 (.bool false) rfl).set g 1 (.slice aq qs.length cq) rfl).drew) (zA (show (lI w3 g (.bool false) (.slice aq qs.length cq)).drew.heap[g]? = _ from Hz HB2.out.2.2.1 (.bool false) (.slice aq qs.length cq)) (zA (show (lI w3 g (.bool false) (.slice aq qs.length cq)).drew.heap[w.heap.size]? = _ from iu HB2.out.1 (fun e=>HNE.out.2.1 e.symm) (.bool false) (.slice aq qs.length cq)) (zA (show (lI w3 g (.bool false) (.slice aq qs.length cq)).drew.heap[w.heap.size+1]? = _ from iu HB2.out.2.1 (fun e=>HNE.out.2.2 e.symm) (.bool false) (.slice aq qs.length cq)) (zA (show (lI w3 g (.bool false) (.slice aq qs.length cq)).drew.heap[b2]? = _ from iu HB2.out.2.2.2.1 (fun e=>HNE.out.1 e.symm) (.bool false) (.slice aq qs.length cq)) (show Touch (aN g) w (lI w3 g (.bool false) (.slice aq qs.length cq)).drew from (((Touch.ah (F:=aN g) HB2.out.2.2.2.2.2.2).set g 0 (.bool false) rfl).set g 1 (.slice aq qs.length cq) rfl).drew))))))
  unfold lI at HE1
  clear y0 z0 z1 z2 z3 zf x0 x1 xf g0 g1 g2 g3 g4 gf hb4
  generalize ((w3.setCell ⟨g,0,none⟩ (.bool false)).setCell ⟨g,1,none⟩ (.slice aq qs.length cq)).drew=w4 at *
  obtain ⟨x0,x1,xf⟩:=jM HE1.out.2.2.2.2.1
  obtain ⟨g0,g1,g2,g3,g4,gf⟩:=mq HE1.out.2.1
  go_upto_region 12 with fail
  have HT5:=zH (show Touch (aN g) w3 (Aq w4 g (.bool false) (.slice aq qs.length cq)) from (HE1.out.1.set g 2 (.bool false) rfl).set g 3 (.slice aq qs.length cq) rfl)
  have HE:=zH (zA (EG HE1.out.2.1 (.bool false) (.slice aq qs.length cq)) (zA (Ar HE1.out.2.2.1 (fun e=>HNE.out.2.1 e.symm) (.bool false) (.slice aq qs.length cq)) (zA (Ar HE1.out.2.2.2.1 (fun e=>HNE.out.2.2 e.symm) (.bool false) (.slice aq qs.length cq)) (show Touch (aN g) w (Aq w4 g (.bool false) (.slice aq qs.length cq)) from (HE1.out.2.2.2.2.2.set g 2 (.bool false) rfl).set g 3 (.slice aq qs.length cq) rfl))))
  unfold Aq at HE HT5
  clear x0 x1 xf g0 g1 g2 g3 g4 gf
  generalize (w4.setCell ⟨g,2,none⟩ (.bool false)).setCell ⟨g,3,none⟩ (.slice aq qs.length cq)=w5 at *
  obtain ⟨y0,y1,y2,y3,y4,y5,y6,y7,y8,yf⟩:=vm HE.out.2.1
  obtain ⟨g0,g1,g2,g3,g4,gf⟩:=mq HE.out.1
  have HSQ:=zH (show aU w5 (.slice aq qs.length cq) qs.length 2 (aE qs) from uy HB2.out.2.2.1 HB2.out.2.2.2.2.1 HT5.out)
  have HHAS:=zH (fun (w':World) (hb:Below w5.heap.size w5 w')=>xq false (.slice aq qs.length cq) qs x.key w' (HSQ.out.aj hb) (by have:=HQL.out;omega))
  clear y2 y3 y4 y5 y6 y7 y8 yf
  refine wp_region_noPanic ?_
  refine wp_region_held_drew (S:=(fun w':World=>w'.cell? ⟨g,0,none⟩=some (.bool false)∧w'.cell? ⟨g,1,none⟩=some (.slice aq qs.length cq)∧w'.cell? ⟨w.heap.size,1,none⟩=some (.string x.key))) (by kernel_rfl) (by (try dsimp only);exact ⟨cell_of (aa (au zR) HE.out.1) 0,cell_of (aa (au zR) HE.out.1) 1,cell_of (aa (au zR) HE.out.2.1) 1⟩) fun hHeld => ?_
  refine tk 0 ?_
  refine tk 1 ?_
  refine tk 2 ?_
  refine tk 3 ?_
  refine tk 4 ?_
  refine tk 5 ?_
  refine tr 6 fun K hK => ?_
  go_simp
  go_at_call 38
  refine (HHAS.out _ (au zR)).mono ?_
  rintro e wx ⟨rfl,hbx⟩
  have hbh:=gtr (au (Below.refl w5.heap.size w5)) hbx
  go_wp2_with fail
  refine hK.out _ _ (by (try dsimp only);exact ⟨cell_of (aa hbh HE.out.1) 0,cell_of (aa hbh HE.out.1) 1,cell_of (aa hbh HE.out.2.1) 1⟩) fun hHeld => ?_
  clear hK K
  try simp only [Act.put,zS,zT,zU]
  refine tk 7 ?_
  refine tk 8 ?_
  refine tk 9 ?_
  refine tk 10 ?_
  refine tk 11 ?_
  refine wpAnyH_done (by kernel_rfl) ?_ _
  refine NoPanic.normal ?_
  go_upto_region 13 with fail
  obtain ⟨w6,hw6⟩ : ∃ w6,w6=wx:=⟨_,rfl⟩
  subst hw6
  obtain ⟨y0,y1,y2,y3,y4,y5,y6,y7,y8,yf⟩:=vm (aa hbh HE.out.2.1)
  clear y1 y2 y3 y4 y5 y6 y7 y8 yf
  refine wp_region_noPanic ?_
  refine wp_region_held_drew (S:=(fun w':World=>w'.cell? ⟨w.heap.size,0,none⟩=some (.int .i64 x.kind))) (by kernel_rfl) (by (try dsimp only);exact cell_of (aa hbh HE.out.2.1) 0) fun hHeld => ?_
  refine tk 0 ?_
  refine tk 1 ?_
  refine tk 2 ?_
  refine tk 3 ?_
  refine tn 4 ?_
  refine tn 5 ?_
  refine tn 6 ?_
  refine tn 7 ?_
  refine tk 8 ?_
  refine tk 9 ?_
  refine tk 10 ?_
  refine tk 11 ?_
  refine tk 12 ?_
  refine tk 13 ?_
  refine tn 14 ?_
  refine tn 15 ?_
  refine tn 16 ?_
  refine tn 17 ?_
  refine tn 18 ?_
  refine tn 19 ?_
  refine tn 20 ?_
  refine tn 21 ?_
  refine tk 22 ?_
  refine tk 23 ?_
  refine tk 24 ?_
  refine wpAnyH_done (by kernel_rfl) ?_ _
  refine NoPanic.normal ?_
  go_wp2
  go_ret
  have hb:=au hbh
  exact ⟨rfl,⟨HM.out.1,aq,cq,false,aq,qs.length,cq,aa hb HE.out.1,HSQ.out.aj hb,HB2.out.2.2.2.2.2.1⟩,HE.out.2.2.2.trans (Touch.ah hb)⟩
section
open Go.RowKit
variable {X:Nat→Prop}
theorem zO (p:Nat) (W:fT) (G:Nat→Prop) (x:cG) (ba:Option Addr) (bc:Nat) (ra:Option Addr) (rc:Nat) (cx img:ByteArray) (w:World) (h:bg X w p W G) (n:sU W cx img) (fit:W.S.Fit) (hl:x.cj=0) (hk:x.kind≠7) (hb:aP w ba x.busy) (hbn:ba=none→bc=0) (hi:aL w ra x.reads G) (hcap:x.reads.length≤rc) (lb:x.busy.length≤4611686018427387904) (lr:x.reads.length≤4611686018427387904):Calls prog 11 #[.pointer (some ⟨p,0,none⟩),.agg (x.row ba bc ra rc)] w fun e w' => ∃ W',sU W' (od cx img W.S x).1 img∧W'.S=(od cx img W.S x).2.1∧ew X p W' (od cx img W.S x).2.2.1 (od cx img W.S x).2.2.2 G w e w':=by
 refine (Jr p W G x ba bc ra rc cx w h n.calm n.ok n.ck fit hb hbn hi hcap lb lr).mono ?_
 rintro e w' ⟨hm,hp⟩
 obtain ⟨k1,k2,k3⟩:=Mz n fit hl hk hm
 refine ⟨(KH W x hm).1,k1,k2,?_⟩
 rw [← k3]
 exact hp
def ib (kind:Int) (key value:ByteArray):cG:=⟨kind,key,value,0,0,0,⟨#[]⟩,[],[]⟩
theorem iZ (p:Nat) (W:fT) (G:Nat→Prop) (x:cG) (cx img:ByteArray) (w:World) (h:bg X w p W G) (n:sU W cx img) (fit:W.S.Fit) (hl:x.cj=0) (hk:x.kind≠7) (hb:x.busy=[]) (hr:x.reads=[]):Calls prog 11 #[.pointer (some ⟨p,0,none⟩),.agg #[.int .i64 x.kind,.string x.key,.string x.value,.int .i64 x.at_,.int .i64 x.width,.int .i64 x.cj,.string x.mask,.slice none 0 0,.slice none 0 0]] w fun e w' => ∃ W',sU W' (od cx img W.S x).1 img∧W'.S=(od cx img W.S x).2.1∧ew X p W' (od cx img W.S x).2.2.1 (od cx img W.S x).2.2.2 G w e w':=by
 have:=zO p W G x none 0 none 0 cx img w h n fit hl hk (by rw [hb];exact aP.nil _ _) (fun _=>rfl) (by rw [hr];exact ⟨aP.nil _ _,fun b o e=>by cases e⟩) (by rw [hr];exact Nat.le_refl _) (by rw [hb];exact Nat.zero_le _) (by rw [hr];exact Nat.zero_le _)
 rw [show x.row none 0 none 0 = #[.int .i64 x.kind,.string x.key,.string x.value,.int .i64 x.at_,.int .i64 x.width,.int .i64 x.cj,.string x.mask,.slice none 0 0,.slice none 0 0] from by unfold cG.row;rw [hb,hr];rfl] at this
 exact this
theorem Eb {x:ByteArray} {sec:Nat} {V:bC} (h:Lay x sec V) {r:aX} (hr:gW r) (h0:(cA V sec r).1=0) (hf:V.free<8):Lay (hZ x (cA V sec r).2) sec ⟨true,V.an,V.aC++[r],V.free+1⟩∧(⟨true,(cA V sec r).2.av,iL ⟨true,sec,V⟩ (cA V sec r).2⟩:aA)=⟨true,sec,⟨true,V.an,V.aC++[r],V.free+1⟩⟩:=by
 have vk:=h.MM
 revert h0
 unfold cA
 split
 ·
  intro h0;exact absurd h0 (show ¬ (2202:Int)=0 by decide)
 split
 ·
  intro h0;exact absurd h0 (show ¬ (2201:Int)=0 by decide)
 intro _
 obtain ⟨f,hfe⟩ : ∃ f:Nat,V.free=(f:Int):=⟨V.free.toNat,by have:=vk.free;omega⟩
 have hf1:1≤f:=by have:=vk.free;omega
 have hf8:f<8:=by omega
 have hsame:=kW x sec f (aK r)
 obtain ⟨b0,_⟩:=qK (x:=x) (y:=jm x (cd sec f) (aK r)) (sec:=sec) hf1 hf8 (by rw [h.view];exact hfe) hsame
 have hslot:=nc h.size h.s1 hf8 (fN _ hr.1) b0
 have hlay:=F6 h hf1 hf8 hfe hsame hr.1 hr.2 hslot
 refine ⟨?_,?_⟩
 ·
  show Lay (gU (sec:Int) [(V.free,r)] x) sec _
  rw [hfe]
  rw [hfe] at hlay
  exact hlay
 ·
  unfold iL
  have:([r]:List aX).filter dH=[r]:=by
   unfold dH
   simp [hr.2]
  show (⟨true,(sec:Int),⟨true,V.an,(if (-1:Int)<0 then V.aC else [])++[r].filter dH,V.free+1⟩⟩:aA)=_
  rw [this,if_pos (by decide)]
theorem JH {x:ByteArray} (h:x.size=4096):Has x x:=⟨h,fun _ _=>rfl⟩
theorem extract_mk (x:ByteArray) (a n:Nat) (h:a+n≤x.size):x.extract a (a+n)=mk n fun i=>bt x (a+i):=by
 refine fF ?_ fun i hi => ?_
 ·
  rw [eJ,ByteArray.size_extract];omega
 ·
  have hi':i<n:=by rw [ByteArray.size_extract] at hi;omega
  rw [lP _ _ _ hi',fG _ _ _ _ (by omega) h]
theorem Nv {x:ByteArray} (h:x.size=4096):x.extract 2048 2560=iR x 4:=extract_mk x 2048 512 (by omega)
theorem L2 {x:ByteArray} (h:x.size=4096):x.extract 2048 2112=dp x 4 0:=extract_mk x 2048 64 (by omega)
def kB:ByteArray:=⟨#[107]⟩
def vB:ByteArray:=⟨#[118]⟩
def KP:ByteArray:=⟨#[97,98,99,100]⟩
def V0:bC:=⟨true,1,[],1⟩
def V1:bC:=⟨true,1,[⟨1,0,kB,vB⟩],2⟩
theorem EF:pY (ib 0 ⟨#[]⟩ ⟨#[]⟩)=true:=by decide +kernel
theorem LD:pY (ib 2 kB vB)=true:=by decide +kernel
theorem CP:pY (ib 5 ⟨#[]⟩ ⟨#[]⟩)=true:=by decide +kernel
theorem ry {x img:ByteArray} (h:Gu x) : ∃ x1,Lay x1 4 V0∧od x img shut (ib 0 ⟨#[]⟩ ⟨#[]⟩)=(x1,⟨true,4,V0⟩,aR,0):=by
 have he:qz (nZ x)=0:=by rw [yV h];rfl
 have hs:eO x=((4:Nat):Int):=by unfold eO;rw [yV h];rfl
 have hn:lq x=1:=by unfold lq;rw [he];rfl
 have e:iM x img []=(jm (nW x (eO x)) (cd (eO x) 0) (aK (cP (lq x))),⟨true,eO x,⟨true,lq x,[],1⟩⟩,[],0):=by
  unfold iM
  rw [he,if_neg (by decide),if_pos (by decide)]
  rfl
 refine ⟨_,Eu h.size (by omega) (by omega) (by decide) (by decide) h.dead,?_⟩
 unfold od
 rw [EF,if_neg (by decide)]
 unfold mz
 rw [if_pos (show (ib 0 ⟨#[]⟩ ⟨#[]⟩).kind=0 from rfl),show (ib 0 ⟨#[]⟩ ⟨#[]⟩).reads=[] from rfl,e,hs,hn]
 rfl
theorem Hf {x img:ByteArray} (h:Lay x 4 V0) : ∃ x1,Lay x1 4 V1∧od x img ⟨true,4,V0⟩ (ib 2 kB vB)=(x1,⟨true,4,V1⟩,aR,0):=by
 have hr:gW ⟨1,0,kB,vB⟩:=qM (by decide) (by decide) (by decide)
 have hc:(cA V0 4 ⟨1,0,kB,vB⟩).1=0:=by decide +kernel
 have h12:=Eb h hr hc (by decide)
 rw [show ((4:Nat):Int)=4 from rfl] at h12
 obtain ⟨h1,h2⟩:=h12
 refine ⟨_,h1,?_⟩
 unfold od
 rw [LD,if_neg (by decide)]
 unfold mz
 rw [if_neg (show ¬ (ib 2 kB vB).kind=0 by decide),if_neg (show ¬ (ib 2 kB vB).kind=1 by decide),if_pos (show (ib 2 kB vB).kind=2 from rfl)]
 unfold kF
 rw [if_neg (show ¬ cQ ⟨true,4,V0⟩ (ib 2 kB vB).key≠0 by decide),if_neg (show ¬ 20<(ib 2 kB vB).value.size by decide)]
 unfold jn oW
 rw [show (⟨true,4,V0⟩:aA).view=V0 from rfl,show (⟨true,4,V0⟩:aA).av=4 from rfl,show (ib 2 kB vB).key=kB from rfl,show (ib 2 kB vB).value=vB from rfl,show (ib 2 kB vB).reads=[] from rfl]
 generalize cA V0 4 ⟨1,0,kB,vB⟩=c at hc h1 h2
 rw [hc,if_neg (by decide),if_neg (by decide),if_pos (by decide),h2]
 rfl
theorem Es {x img:ByteArray}:od x img ⟨true,4,V1⟩ (ib 5 ⟨#[]⟩ ⟨#[]⟩)=(x,⟨true,4,V1⟩,⟨⟨#[]⟩,[⟨kB,vB⟩],[],false⟩,0):=by
 unfold od
 rw [CP,if_neg (by decide)]
 unfold mz
 rw [if_neg (by decide),if_neg (by decide),if_neg (by decide),if_neg (by decide),if_neg (by decide),if_pos (show (ib 5 ⟨#[]⟩ ⟨#[]⟩).kind=5 from rfl)]
 have:lN ⟨true,4,V1⟩=([⟨kB,vB⟩],0):=by decide +kernel
 rw [this]
theorem Cg:cn V1.aC=[⟨kB,vB⟩]:=by decide +kernel
theorem Er {x:ByteArray} (h:Lay x 4 V1):iK (iR x 4)=V1∧dI (dp x 4 0)=some (cP 1) ∧ ∃ t,fx (dp x 4 0)=some t∧t.size=32:=by
 have h1:=h.an.2.2
 have hg:dI (dp x 4 0)=some (cP 1):=by
  rw [h1]
  exact jL (ik (by decide) (by decide))
 refine ⟨h.view,hg,?_⟩
 unfold dI at hg
 cases hp:fx (dp x 4 0) with
 | none=>rw [hp] at hg;cases hg
 | some t=>exact ⟨t,rfl,rT hp⟩
end
section
open Go.RowKit
variable {X:Nat→Prop}
theorem vG (x:Int) (w:World):Calls prog 13 #[.int .i64 x] w fun e w'=>e=.returned (.int .i64 x)∧w'=w:=(Ia x w).mono fun e w' h=>⟨h.1,h.2.symm⟩
theorem F4 {x:ByteArray} {S:aA} {V:bC} (h:Lay x 4 V) (e:S=⟨true,4,V⟩):S.Fit:=by
 subst e
 exact .inr ⟨rfl,show (4:Int)≤4 by decide,show (4:Int)<8 by decide,h.MM⟩
theorem Jz (p:Nat) (W:fT) (G:Nat→Prop) (x0 img:ByteArray) (w:World) (h:bg X w p W G) (n:sU W x0 img) (hs:W.S=shut) (hx:Gu x0):Calls prog 11 #[.pointer (some ⟨p,0,none⟩),.agg #[.int .i64 0,.string ⟨#[]⟩,.string ⟨#[]⟩,.int .i64 0,.int .i64 0,.int .i64 0,.string ⟨#[]⟩,.slice none 0 0,.slice none 0 0]] w fun e w' => ∃ W' x1,sU W' x1 img∧W'.S=⟨true,4,V0⟩∧Lay x1 4 V0∧ew X p W' aR 0 G w e w':=by
 obtain ⟨x1,h1,h2⟩:=ry (img:=img) hx
 have:=iZ p W G (ib 0 ⟨#[]⟩ ⟨#[]⟩) x0 img w h n (.inl hs) rfl (by decide) rfl rfl
 rw [hs,h2] at this
 refine this.mono ?_
 rintro e w' ⟨W',k1,k2,k3⟩
 exact ⟨W',x1,k1,k2,h1,k3⟩
theorem It (p:Nat) (W:fT) (G:Nat→Prop) (x0 img:ByteArray) (w:World) (h:bg X w p W G) (n:sU W x0 img) (hs:W.S=⟨true,4,V0⟩) (hx:Lay x0 4 V0):Calls prog 11 #[.pointer (some ⟨p,0,none⟩),.agg #[.int .i64 2,.string ⟨#[107]⟩,.string ⟨#[118]⟩,.int .i64 0,.int .i64 0,.int .i64 0,.string ⟨#[]⟩,.slice none 0 0,.slice none 0 0]] w fun e w' => ∃ W' x1,sU W' x1 img∧W'.S=⟨true,4,V1⟩∧Lay x1 4 V1∧ew X p W' aR 0 G w e w':=by
 obtain ⟨x1,h1,h2⟩:=Hf (img:=img) hx
 have:=iZ p W G (ib 2 kB vB) x0 img w h n (F4 hx hs) rfl (by decide) rfl rfl
 rw [hs,h2] at this
 refine this.mono ?_
 rintro e w' ⟨W',k1,k2,k3⟩
 exact ⟨W',x1,k1,k2,h1,k3⟩
def gu:ey:=⟨⟨#[]⟩,[⟨kB,vB⟩],[],false⟩
theorem Kz (p:Nat) (W:fT) (G:Nat→Prop) (x0 img:ByteArray) (w:World) (h:bg X w p W G) (n:sU W x0 img) (hs:W.S=⟨true,4,V1⟩) (hx:Lay x0 4 V1):Calls prog 11 #[.pointer (some ⟨p,0,none⟩),.agg #[.int .i64 5,.string ⟨#[]⟩,.string ⟨#[]⟩,.int .i64 0,.int .i64 0,.int .i64 0,.string ⟨#[]⟩,.slice none 0 0,.slice none 0 0]] w fun e w' => ∃ W',sU W' x0 img∧ew X p W' gu 0 G w e w':=by
 have:=iZ p W G (ib 5 ⟨#[]⟩ ⟨#[]⟩) x0 img w h n (F4 hx hs) rfl (by decide) rfl rfl
 rw [hs,Es] at this
 refine this.mono ?_
 rintro e w' ⟨W',k1,k2,k3⟩
 exact ⟨W',k1,k3⟩
structure Own (X:Nat→Prop) (w w':World) (p:Nat) (W:fT) (G:Nat→Prop):Prop where
 at_:bg X w' p W G
 below:Below w.heap.size w w'
 new : ∀ i,G i→w.heap.size≤i
theorem Own.aj {w w1 w2:World} {p:Nat} {W:fT} {G:Nat→Prop} (h:Own X w w1 p W G) (hb:Below w1.heap.size w1 w2):Own X w w2 p W G:=⟨h.at_.aj hb,gtr h.below hb,h.new⟩
theorem Own.step {w w1 w2:World} {p:Nat} {W W':fT} {G G':Nat→Prop} (h:Own X w w1 p W G) (h2:bg X w2 p W' G') (st:Step G G' w1 w2):Own X w w2 p W' G' :=
 ⟨h2,h.below.trans (st.aH.below h.below.size fun i hi hg=>by have:=h.new i hg;omega),fun i hi=>(st.gP i hi).elim (h.new i) (fun hl=>Nat.le_trans h.below.size hl)⟩
theorem BT (w:World):Calls prog 9 #[] w fun e w'=>e=.returned (.bool true)∧Below w.heap.size w w':=by
 have HN:=zH (show Calls prog 16 #[.string ⟨#[97,98,99,100]⟩] w (qY (fun _=>False) KP w) from pB KP w (by decide) (fun _ h=>h.elim))
 have HX:=zH (show Gu (gL KP) from wZ (by decide))
 have HM:=zH vG
 go_enter func9,ntmps9
 go_upto_region 2 with (go_at_call 16;refine HN.out.mono ?_;rintro e w1 ⟨p,W0,G0,rfl,hw,hb,hg,hc,hl,ok,hbusy,hq,hs⟩)
 have HO:=zH (zA (show Own (fun _=>False) w w1 p W0 G0 from ⟨hw,hb,hg⟩) (zA (F9 hc hl ok hq (JH HX.out.size)) hs))
 clear hw hb hg hc hl ok hbusy hq hs HN
 generalize gL KP=x0 at *
 go_upto_region 4 with (go_at_call 13;refine (HM.out _ _).mono ?_;rintro e w' ⟨rfl,rfl⟩)
 have HD:=zH (fun w' hb=>Jz p W0 G0 x0 x0 w' (HO.out.1.aj hb).at_ HO.out.2.1 HO.out.2.2 HX.out)
 go_upto_region 5 with (go_at_call 11;refine (HD.out _ zR).mono ?_;rintro e w2 ⟨W1,x1,n1,hs1,lay1,va,vc,vb,vd,rfl,o1,o2,G1,hw1,st1,m1,m2⟩)
 have HO1:=zH (zA ((HO.out.1.step hw1 st1).aj (ae zR (.cells #[.string aR.value,.slice va aR.bP.length vc,.slice vb aR.reads.length vd,.bool aR.lost] 34))) (zA n1 (zA hs1 lay1)))
 generalize Value.agg #[.string aR.value,.slice va aR.bP.length vc,.slice vb aR.reads.length vd,.bool aR.lost]=va1 at *
 generalize w2.alloc (.cells #[.string aR.value,.slice va aR.bP.length vc,.slice vb aR.reads.length vd,.bool aR.lost] 34)=wA at *
 clear n1 hs1 lay1 o1 o2 hw1 st1 m1 m2 HD HO HX
 have HD:=zH (It p W1 G1 x1 x0 wA HO1.out.1.at_ HO1.out.2.1 HO1.out.2.2.1 HO1.out.2.2.2)
 go_upto_region 6 with (go_at_call 11;refine HD.out.mono ?_;rintro e w3 ⟨W2,x2,n1,hs1,lay1,va,vc,vb,vd,rfl,o1,o2,G2,hw1,st1,m1,m2⟩)
 have HO2:=zH (zA ((HO1.out.1.step hw1 st1).aj (ae zR (.cells #[.string aR.value,.slice va aR.bP.length vc,.slice vb aR.reads.length vd,.bool aR.lost] 34))) (zA n1 (zA hs1 lay1)))
 generalize Value.agg #[.string aR.value,.slice va aR.bP.length vc,.slice vb aR.reads.length vd,.bool aR.lost]=va2 at *
 generalize w3.alloc (.cells #[.string aR.value,.slice va aR.bP.length vc,.slice vb aR.reads.length vd,.bool aR.lost] 34)=wB at *
 clear n1 hs1 lay1 o1 o2 hw1 st1 m1 m2 HD HO1
 have HD:=zH (Kz p W2 G2 x2 x0 wB HO2.out.1.at_ HO2.out.2.1 HO2.out.2.2.1 HO2.out.2.2.2)
 go_upto_region 7 with (go_at_call 11;refine HD.out.mono ?_;rintro e w4 ⟨W3,n1,va,vc,vb,vd,rfl,o1,o2,G3,hw1,st1,m1,m2⟩)
 have kD:=af w4 (.cells #[.string gu.value,.slice va gu.bP.length vc,.slice vb gu.reads.length vd,.bool gu.lost] 34)
 have HO3:=zH (zA ((HO2.out.1.step hw1 st1).aj (ae zR (.cells #[.string gu.value,.slice va gu.bP.length vc,.slice vb gu.reads.length vd,.bool gu.lost] 34))) (zA n1.calm.cells (aU.cZ (o1.alloc (.cells #[.string gu.value,.slice va gu.bP.length vc,.slice vb gu.reads.length vd,.bool gu.lost] 34)))))
 have HK:=zH kD
 have hx4:x2.size=4096:=HO2.out.2.2.2.size
 have HH:=zH (Er HO2.out.2.2.2)
 have HE:=zH (zA (Nv hx4) (L2 hx4))
 generalize Value.agg #[.string gu.value,.slice va gu.bP.length vc,.slice vb gu.reads.length vd,.bool gu.lost]=va3 at *
 generalize w4.alloc (.cells #[.string gu.value,.slice va gu.bP.length vc,.slice vb gu.reads.length vd,.bool gu.lost] 34)=wC at *
 generalize w4.heap.size=bL at *
 clear n1 o1 o2 hw1 st1 m1 m2 HD HO2 kD
 have HC:=zH (jO p W3 G3 wC HO3.out.1.at_)
 rw [HO3.out.2.1] at HC
 go_upto_region 8 with (go_at_call 14;refine HC.out.mono ?_;rintro e w5 ⟨rfl,rfl⟩)
 go_upto_region 10 with fail
 have HS:=zH (xR (iR x2 4) w5 (eJ _ _))
 rw [HH.out.1] at HS
 have b10:(2048:Int)≤4096:=by decide
 go_upto_region 11 with (go_at_call 19;rw [HE.out.1];refine HS.out.mono ?_;rintro e w6 ⟨vr,rfl,o6,hb6⟩;obtain ⟨va5,vc5,rfl⟩:=bG o6)
 have HV:=zH (af w6 (.cells #[.bool V1.ck,.int .i64 V1.an,.slice va5 V1.aC.length vc5,.int .i64 V1.free] 52))
 have HB6:=zH (gtr hb6 (ae (Below.refl w6.heap.size w6) (.cells #[.bool V1.ck,.int .i64 V1.an,.slice va5 V1.aC.length vc5,.int .i64 V1.free] 52)))
 have HR:=zH (aU.cZ (o6.alloc (.cells #[.bool V1.ck,.int .i64 V1.an,.slice va5 V1.aC.length vc5,.int .i64 V1.free] 52)))
 generalize Value.agg #[.bool V1.ck,.int .i64 V1.an,.slice va5 V1.aC.length vc5,.int .i64 V1.free]=va6 at *
 generalize w6.alloc (.cells #[.bool V1.ck,.int .i64 V1.an,.slice va5 V1.aC.length vc5,.int .i64 V1.free] 52)=wD at *
 generalize w6.heap.size=bV at *
 clear o6 hb6 HS HC
 obtain ⟨t,ht1,ht2⟩:=HH.out.2.2
 have HG:=zH (qd (dp x2 4 0) wD)
 rw [ht1,show pO (some t) 200=.tuple #[.string t,.int .i64 0] from rfl] at HG
 have HT:=zH ht2
 clear ht1 ht2
 go_upto_region 12 with (go_at_call 25;rw [HE.out.2];refine HG.out.mono ?_;rintro e w7 ⟨rfl,hb7⟩)
 have HB7:=zH hb7
 have HG2:=zH (r9 (dp x2 4 0) w7)
 rw [HH.out.2.1,show qH (some (cP 1)) 1900=.tuple #[.agg #[.int .i64 0,.int .i64 1,.string ⟨#[]⟩,.string ⟨#[]⟩],.int .i64 0] from rfl] at HG2
 clear hb7 HG
 go_upto_region 13 with (go_at_call 26;rw [HE.out.2];refine HG2.out.mono ?_;rintro e w8 ⟨rfl,hb8⟩)
 have HRB:=zH (af w8 (.cells #[.int .i64 0,.int .i64 1,.string ⟨#[]⟩,.string ⟨#[]⟩] 74))
 have HB8:=zH (gtr hb8 (ae (Below.refl w8.heap.size w8) (.cells #[.int .i64 0,.int .i64 1,.string ⟨#[]⟩,.string ⟨#[]⟩] 74)))
 generalize w8.alloc (.cells #[.int .i64 0,.int .i64 1,.string ⟨#[]⟩,.string ⟨#[]⟩] 74)=wE at *
 generalize w8.heap.size=bR at *
 clear hb8 HG2
 have HBD:=zH (gtr HB7.out HB8.out)
 have kV:=aa HBD.out HV.out
 have c2:wE.cell? ⟨bV,2,none⟩=some (.slice va5 V1.aC.length vc5):=cell_of kV 2
 have HBU:=zH (oz _ V1.aC wE (HR.out.aj HBD.out) (by decide) (by
  intro r hr
  rw [show V1.aC=[⟨1,0,kB,vB⟩] from rfl,List.mem_singleton] at hr
  rw [hr]
  exact qM (by decide) (by decide) (by decide)))
 clear kV
 rw [Cg] at HBU
 go_upto_region 14 with (go_at_call 27;refine HBU.out.mono ?_;rintro e w9 ⟨vp,rfl,o9,hb9⟩;obtain ⟨va9,vc9,rfl⟩:=bG o9)
 have HB9:=zH hb9
 have H9:=zH (aU.cZ o9)
 clear hb9 o9 c2 HBU
 have HCN:=zH (p7 x2 w9 hx4)
 go_upto_region 15 with (go_at_call 28;refine HCN.out.mono ?_;rintro e w10 ⟨pc,rfl,hch,hb10,_⟩)
 have HB10:=zH hb10
 clear hch hb10 HCN
 have HL10:=zH (gtr HB6.out (gtr HBD.out (gtr HB9.out HB10.out)))
 have HVV:=zH (aa (gtr HBD.out (gtr HB9.out HB10.out)) HV.out)
 have HRR:=zH (aa (gtr HB9.out HB10.out) HRB.out)
 have HKK:=zH (aa HL10.out HK.out)
 have HLS:=zH (HO3.out.2.2.aj HL10.out)
 have HPS:=zH (H9.out.aj HB10.out)
 have HBW:=zH (gtr HO3.out.1.below HL10.out)
 have HFW:=zH (fun w' (hb:Below w10.heap.size w10 w')=>(show w'.cell? ⟨bL,1,none⟩=some (.slice va gu.bP.length vc)∧w'.cell? ⟨bV,0,none⟩=some (.bool true)∧w'.cell? ⟨bR,1,none⟩=some (.int .i64 1) from ⟨cell_of (aa hb HKK.out) 1,cell_of (aa hb HVV.out) 0,cell_of (aa hb HRR.out) 1⟩))
 have hnew:=aU.cZ (vI (B:=0) (sz:=2) (n:=1) (af w10 (.cells #[.string ⟨#[107]⟩,.string ⟨#[118]⟩] 83)) zX rfl (by decide))
 have HP1:=zH (kq _ _ gu.bP [⟨kB,vB⟩] _ (HLS.out.aj (ae zR _)) hnew (by decide))
 rw [show decide (gu.bP=[⟨kB,vB⟩])=true from by decide +kernel] at HP1
 have HP2:=zH (fun w' (hb:Below w10.heap.size w10 w')=>(show Calls prog 22 #[.slice va9 1 vc9,.slice va gu.bP.length vc] w' (FA true w') from by
  have:=kq _ _ [⟨kB,vB⟩] gu.bP w' (HPS.out.aj hb) (HLS.out.aj hb) (by decide)
  rw [show decide ([⟨kB,vB⟩]=gu.bP)=true from by decide +kernel] at this
  exact this))
 obtain ⟨c1,c2,c3⟩:=HFW.out w10 zR
 have ht:=HT.out
 clear hnew
 go_wp2_with (first
  | (go_at_call 13;refine (HM.out _ _).mono ?_;rintro e w' ⟨rfl,rfl⟩)
  | (go_at_call 22;(with_reducible refine HP1.out.mono ?_);rintro e w11 ⟨rfl,hb11⟩;obtain ⟨d1,d2,d3⟩:=HFW.out w11 (gtr (ae zR _) hb11))
  | (go_at_call 22;(with_reducible refine (HP2.out _ (gtr (ae zR _) hb11)).mono ?_);rintro e w12 ⟨rfl,hb12⟩))
 go_ret
 exact ⟨rfl,gtr HBW.out (gtr (gtr (ae zR _) hb11) hb12)⟩
end
section
open Go.RowKit
variable {X:Nat→Prop}
structure BB where
 x:cG
 ba:Option Addr
 bc:Nat
 ra:Option Addr
 rc:Nat
def BB.row (a:BB):Array Value:=a.x.row a.ba a.bc a.ra a.rc
structure BB.At (w:World) (a:BB):Prop where
 busy:aP w a.ba a.x.busy
 NC:a.ba=none→a.bc=0
 reads:aP w a.ra a.x.reads
 NU:a.ra=none→a.rc=0
 NB:a.x.busy.length * 8≤140737488355328
 NT:a.x.reads.length * 8≤140737488355328
 NS:a.x.reads.length≤a.rc
theorem BB.At.aj {w w':World} {a:BB} (h:a.At w) (hb:Below w.heap.size w w'):a.At w':=⟨h.busy.aj hb,h.NC,h.reads.aj hb,h.NU,h.NB,h.NT,h.NS⟩
def DQ (w:World) (a:Option Addr) (us:List BB):Prop :=
 ∀ i (h:i<us.length),us[i].At w ∧ ∃ b off,a=some ⟨b,off,none⟩ ∧ ∀ j u,us[i].row[j]? = some u→w.cell? ⟨b,off+i * 9+j,none⟩=some u
theorem DQ.aj {w w':World} {a:Option Addr} {us:List BB} (h:DQ w a us) (hb:Below w.heap.size w w'):DQ w' a us:=fun i hi=>by
 obtain ⟨h1,b,off,ha,hc⟩:=h i hi
 exact ⟨h1.aj hb,b,off,ha,fun j u hu=>(hb.cell (p:=⟨b,off+i * 9+j,none⟩) (zL w _ (hc j u hu))).trans (hc j u hu)⟩
theorem J7 {w:World} {B:Nat} {a:Option Addr} {c:Nat} {xs:List Int} (h:w.ownsRow B 3 1 (.slice a xs.length c) xs.length (aB xs)):aP w a xs∧(a=none→c=0)∧xs.length≤c ∧ ∀ b o,a=some ⟨b,o,none⟩→B≤b:=by
 have hn:=bw.cZ h
 obtain ⟨a',c',e,hi⟩:=hn.ints
 obtain ⟨rfl,rfl⟩:a=a'∧c=c':=by simpa using e
 refine ⟨hi,?_⟩
 rcases h.2 with ⟨e2,hx⟩ | ⟨g,cap,cur,e2,hb,hh,hle,r⟩
 ·
  obtain ⟨rfl,h0,rfl⟩:a=none∧xs.length=0∧c=0:=by simpa using e2
  exact ⟨fun _=>rfl,by omega,fun b o e=>by cases e⟩
 ·
  obtain ⟨rfl,rfl⟩:a=some ⟨g,0,none⟩∧c=cap:=by simpa using e2
  exact ⟨fun e=>(by cases e),hle,fun b o e=>by cases e;exact hb⟩
end
section
open Go.RowKit
variable {X:Nat→Prop}
end
section
open Go.RowKit
variable {X:Nat→Prop}
theorem cV.aj {w w':World} {g:Nat} {G:Nat→Prop} {ps:List aJ} (h:cV w g G ps) (hb:Below w.heap.size w w'):cV w' g G ps:=by
 obtain ⟨m1,a,c,q,a3,n3,c3,m2,m3,m4⟩:=h
 exact ⟨m1,a,c,q,a3,n3,c3,aa hb m2,m3.aj hb,m4⟩
theorem cV.step {w w':World} {g:Nat} {G G':Nat→Prop} {ps:List aJ} (h:cV w g G ps) (st:Step G G' w w'):cV w' g G' ps:=by
 obtain ⟨m1,a,c,q,a3,n3,c3,m2,m3,m4⟩:=h
 have key : ∀ b o,a=some ⟨b,o,none⟩→0<ps.length→b<w.heap.size ∧ ¬ G b:=fun b o e h0=>by
  refine ⟨?_,m4 b o e h0⟩
  obtain ⟨b',o',e',_,hx⟩:=m3.some h0
  rw [e] at e'
  cases e'
  obtain ⟨p0,_⟩:=dt ps 0 h0
  exact zL w _ (hx _ _ p0)
 refine ⟨st.safe (aO m2) m1,a,c,q,a3,n3,c3,st.aH.at m2 m1,⟨m3.len,m3.ex.imp id ?_⟩,fun b o e h0=>st.safe (key b o e h0).1 (key b o e h0).2⟩
 rintro ⟨b,o,c',hv,hc,hx⟩
 refine ⟨b,o,c',hv,hc,fun i u hu => ?_⟩
 have h0:0<ps.length:=by
  have:=(List.getElem?_eq_some_iff.1 hu).1
  rw [kE] at this
  omega
 simp only [Value.slice.injEq,true_and] at hv
 exact st.aH.cell b (o+i) (hx i u hu) (m4 b o hv.1 h0)
structure kS (x:cG):Prop where
 kind:x.kind=2∨x.kind=4
 k1:1≤x.key.size
 k6:x.key.size≤6
 v20:x.value.size≤20
 del:x.kind=4→x.value=⟨#[]⟩
 at_:x.at_=0
 width:x.width=0
 cj:x.cj=0
 mask:x.mask=⟨#[]⟩
 busy:x.busy=[]
 reads:x.reads=[]
theorem Ij {x:cG} (h:kS x):pY x=true:=by
 obtain ⟨kind,key,value,at_,width,cj,mask,busy,reads⟩:=x
 obtain ⟨h1,h2,h3,h4,h5,h6,h7,h8,h9,h10,h11⟩:=h
 simp only at h1 h2 h3 h4 h5 h6 h7 h8 h9 h10 h11
 subst h6 h7 h8 h9 h10 h11
 have e0:(⟨#[]⟩:ByteArray).toList=[]:=by rw [ByteArray.toList_eq]
 have hs:pe ⟨kind,key,value,0,0,0,⟨#[]⟩,[],[]⟩=true:=by
  show (decide (key.size≤12)&&decide (value.size≤40)&&decide ((⟨#[]⟩:ByteArray).size≤16))=true
  rw [decide_eq_true (show key.size≤12 by omega),decide_eq_true (show value.size≤40 by omega)]
  rfl
 have hl:oP ⟨kind,key,value,0,0,0,⟨#[]⟩,[],[]⟩=true:=by
  have key2 : ∀ b1 b2:Bool,([(107,b1),(118,b2),(114,false),(98,false),(108,false)]:List (UInt8×Bool)).all (fun p => !p.2 || hasB (lp 2) p.1)=true:=by decide +kernel
  have key4 : ∀ b1:Bool,([(107,b1),(118,false),(114,false),(98,false),(108,false)]:List (UInt8×Bool)).all (fun p => !p.2 || hasB (lp 4) p.1)=true:=by decide +kernel
  unfold oP qQ
  rcases h1 with rfl | rfl
  ·
   exact key2 _ _
  ·
   rw [h5 rfl]
   show ([(107,!key.toList.isEmpty),(118,!(⟨#[]⟩:ByteArray).toList.isEmpty),(114,false),(98,false),(108,false)]:List (UInt8×Bool)).all _=true
   rw [e0]
   exact key4 _
 unfold pY
 rw [hs,hl]
 rcases h1 with rfl | rfl <;> rfl
theorem EY {ps:List aJ} {x:cG} (h:kS x):(x.kind=2→xD ps x.key x.value x.reads=(fD ps x).1)∧(x.kind=4→Ei ps x.key x.reads=(fD ps x).1):=by
 refine ⟨fun hk => ?_,fun hk => ?_⟩
 ·
  unfold xD fD
  rw [if_neg (not_not_intro ⟨h.k1,h.k6⟩),if_neg (by have:=h.v20;omega),if_pos hk,h.reads,if_pos (show cH []=true by decide)]
  split <;> rfl
 ·
  unfold Ei fD
  rw [if_neg (not_not_intro ⟨h.k1,h.k6⟩),if_neg (show ¬ x.kind=2 by omega),h.reads,if_pos (show cH []=true by decide)]
  split <;> rfl
theorem J9 {cx img:ByteArray} {S:aA} {ps:List aJ} {E:Int} (ho:dJ cx S ps E) (hE:E<1048576) {x:cG} (h:kS x):dJ (od cx img S x).1 (od cx img S x).2.1 (fD ps x).2 (E+1)∧(od cx img S x).2.2=(aR,(fD ps x).1):=by
 have e:od cx img S x=mz cx img S x:=by unfold od;rw [Ij h,if_neg (by decide)]
 rw [e]
 have hm:=ho.more (show E≤E+1 by omega)
 obtain ⟨w1,w2⟩:=EY (ps:=ps) h
 unfold mz
 rcases h.kind with hk | hk
 ·
  have hw:=w1 hk
  rw [hk,if_neg (by decide),if_neg (by decide),if_pos rfl]
  obtain ⟨o1,o2⟩:=qG (img:=img) ho hE x.key x.value x.reads
  unfold mu
  by_cases h0:xD ps x.key x.value x.reads=0
  ·
   obtain ⟨p1,p2⟩:=o2 h0
   rw [hw] at h0
   have hs:(fD ps x).2=eB x.key x.value ps:=by
    unfold fD at h0 ⊢
    rw [if_pos hk] at h0 ⊢
    split at h0
    ·
     cases h0
    ·
     rename_i h7;rw [if_neg h7]
   refine ⟨by rw [hs];exact p1,?_⟩
   dsimp only
   rw [p2,h0,h.reads]
   rfl
  ·
   rw [o1 h0]
   have h1:=h0
   rw [hw] at h1
   have hs:(fD ps x).2=ps:=by
    unfold fD at h1 ⊢
    rw [if_pos hk] at h1 ⊢
    split at h1
    ·
     rename_i h7;rw [if_pos h7]
    ·
     exact absurd rfl h1
   refine ⟨by rw [hs];exact hm,?_⟩
   dsimp only
   rw [hw]
   unfold outs
   rw [if_neg h1]
   rfl
 ·
  have hw:=w2 hk
  rw [hk,if_neg (by decide),if_neg (by decide),if_neg (by decide),if_neg (by decide),if_pos rfl]
  obtain ⟨o1,o2⟩:=EM (img:=img) ho hE x.key x.reads
  unfold mu
  by_cases h0:Ei ps x.key x.reads=0
  ·
   obtain ⟨p1,p2⟩:=o2 h0
   rw [hw] at h0
   have hs:(fD ps x).2=fi x.key ps:=by
    unfold fD at h0 ⊢
    rw [if_neg (show ¬ x.kind=2 by omega)] at h0 ⊢
    split at h0
    ·
     cases h0
    ·
     rename_i h7;rw [if_neg h7]
   refine ⟨by rw [hs];exact p1,?_⟩
   dsimp only
   rw [p2,h0,h.reads]
   rfl
  ·
   rw [o1 h0]
   have h1:=h0
   rw [hw] at h1
   have hs:(fD ps x).2=ps:=by
    unfold fD at h1 ⊢
    rw [if_neg (show ¬ x.kind=2 by omega)] at h1 ⊢
    split at h1
    ·
     rename_i h7;rw [if_pos h7]
    ·
     exact absurd rfl h1
   refine ⟨by rw [hs];exact hm,?_⟩
   dsimp only
   rw [hw]
   unfold outs
   rw [if_neg h1]
   rfl
theorem Lx (p:Nat) (W:fT) (G:Nat→Prop) (cx img:ByteArray) (w:World) (h:bg X w p W G) (n:sU W cx img) {ps:List aJ} {E:Int} (ho:dJ cx W.S ps E):Calls prog 11 #[.pointer (some ⟨p,0,none⟩),.agg #[.int .i64 5,.string ⟨#[]⟩,.string ⟨#[]⟩,.int .i64 0,.int .i64 0,.int .i64 0,.string ⟨#[]⟩,.slice none 0 0,.slice none 0 0]] w fun e w' => ∃ W',sU W' cx img∧dJ cx W'.S ps E∧ew X p W' ⟨⟨#[]⟩,ps,[],false⟩ 0 G w e w':=by
 have:=iZ p W G (ib 5 ⟨#[]⟩ ⟨#[]⟩) cx img w h n ho.fit rfl (show (5:Int)≠7 by decide) rfl rfl
 have g:=CX ho
 have e:od cx img W.S (ib 5 ⟨#[]⟩ ⟨#[]⟩)=(cx,W.S,⟨⟨#[]⟩,ps,[],false⟩,0):=by
  unfold od
  rw [CP,if_neg (by decide)]
  unfold mz
  rw [show (ib 5 ⟨#[]⟩ ⟨#[]⟩).kind=5 from rfl,if_neg (by decide),if_neg (by decide),if_neg (by decide),if_neg (by decide),if_neg (by decide),if_pos rfl,g]
 rw [e] at this
 refine this.mono ?_
 rintro e w' ⟨W',k1,k2,k3⟩
 dsimp only at k2
 rw [← k2] at ho
 exact ⟨W',k1,ho,k3⟩
end
section
open Go.RowKit
variable {X:Nat→Prop}
def Gy (X:Nat→Prop) (p g:Nat) (G:Nat→Prop) (cx img:ByteArray) (ps:List aJ) (E:Int) (w:World) (e:Ending) (w':World):Prop:=e=.returned (.bool true) ∧ ∃ W' G',sU W' cx img∧dJ cx W'.S ps E∧bg X w' p W' G'∧Step G G' w w'
theorem uu (p g:Nat) (W:fT) (G:Nat→Prop) (cx img:ByteArray) (w:World) (h:bg X w p W G) (n:sU W cx img) {ps:List aJ} {E:Int} (ho:dJ cx W.S ps E) (hm:cV w g G ps):Calls prog 15 #[.pointer (some ⟨p,0,none⟩),.pointer (some ⟨g,0,none⟩)] w (Gy X p g G cx img ps E w):=by
 have HD:=zH (Lx p W G cx img w h n ho)
 have HM:=zH vG
 have HL:=zH ho.kept.sorted.2
 have HMO:=zH hm
 clear h n ho hm
 go_enter func15,ntmps15
 go_upto_region 2 with (go_at_call 11;refine HD.out.mono ?_;rintro e w1 ⟨W1,n1,k1,va,vc,vb,vd,rfl,o1,o2,G1,hw1,st1,m1,m2⟩)
 have hm1:=(HMO.out.step st1).aj (ae zR (.cells #[.string (⟨⟨#[]⟩,ps,[],false⟩:ey).value,.slice va (⟨⟨#[]⟩,ps,[],false⟩:ey).bP.length vc,.slice vb (⟨⟨#[]⟩,ps,[],false⟩:ey).reads.length vd,.bool (⟨⟨#[]⟩,ps,[],false⟩:ey).lost] 34))
 obtain ⟨mg,a,c,q,a3,n3,c3,m2',m3,m4⟩:=hm1
 have HK:=zH (zA (af w1 (.cells #[.string (⟨⟨#[]⟩,ps,[],false⟩:ey).value,.slice va (⟨⟨#[]⟩,ps,[],false⟩:ey).bP.length vc,.slice vb (⟨⟨#[]⟩,ps,[],false⟩:ey).reads.length vd,.bool (⟨⟨#[]⟩,ps,[],false⟩:ey).lost] 34)) (zA m2' (zA m3 (aU.cZ (o1.alloc (.cells #[.string (⟨⟨#[]⟩,ps,[],false⟩:ey).value,.slice va (⟨⟨#[]⟩,ps,[],false⟩:ey).bP.length vc,.slice vb (⟨⟨#[]⟩,ps,[],false⟩:ey).reads.length vd,.bool (⟨⟨#[]⟩,ps,[],false⟩:ey).lost] 34))))))
 have HW:=zH (zA n1 (zA k1 (zA (hw1.aj (ae zR (.cells #[.string (⟨⟨#[]⟩,ps,[],false⟩:ey).value,.slice va (⟨⟨#[]⟩,ps,[],false⟩:ey).bP.length vc,.slice vb (⟨⟨#[]⟩,ps,[],false⟩:ey).reads.length vd,.bool (⟨⟨#[]⟩,ps,[],false⟩:ey).lost] 34))) (st1.trans (Step.ah (ae zR (.cells #[.string (⟨⟨#[]⟩,ps,[],false⟩:ey).value,.slice va (⟨⟨#[]⟩,ps,[],false⟩:ey).bP.length vc,.slice vb (⟨⟨#[]⟩,ps,[],false⟩:ey).reads.length vd,.bool (⟨⟨#[]⟩,ps,[],false⟩:ey).lost] 34)))))))
 rw [show (⟨⟨#[]⟩,ps,[],false⟩:ey).bP=ps from rfl] at HK
 generalize Value.agg #[.string (⟨⟨#[]⟩,ps,[],false⟩:ey).value,.slice va (⟨⟨#[]⟩,ps,[],false⟩:ey).bP.length vc,.slice vb (⟨⟨#[]⟩,ps,[],false⟩:ey).reads.length vd,.bool (⟨⟨#[]⟩,ps,[],false⟩:ey).lost]=vag at *
 generalize hwA:w1.alloc (.cells #[.string (⟨⟨#[]⟩,ps,[],false⟩:ey).value,.slice va (⟨⟨#[]⟩,ps,[],false⟩:ey).bP.length vc,.slice vb (⟨⟨#[]⟩,ps,[],false⟩:ey).reads.length vd,.bool (⟨⟨#[]⟩,ps,[],false⟩:ey).lost] 34)=wA at *
 generalize w1.heap.size=bA at *
 clear hwA n1 k1 o1 o2 hw1 st1 m1 m2 m2' m3 m4 mg HD HMO
 have HP:=zH (fun (w':World) (hb:Below wA.heap.size wA w')=>(show Calls prog 22 #[.slice va ps.length vc,.slice a ps.length c] w' (FA true w') from by
  have:=kq _ _ ps ps w' (HK.out.2.2.2.aj hb) (HK.out.2.2.1.aj hb) (by have:=HL.out;omega)
  rw [show decide (ps=ps)=true from decide_eq_true rfl] at this
  exact this))
 refine wp_region_noPanic ?_
 refine wp_region_held_drew (S:=(fun w':World=>w'.cell? ⟨bA,1,none⟩=some (.slice va ps.length vc)∧w'.cell? ⟨g,1,none⟩=some (.slice a ps.length c)∧Below wA.heap.size wA w')) (by kernel_rfl) (by (try dsimp only);exact ⟨cell_of (aa (au zR) HK.out.1) 1,cell_of (aa (au zR) HK.out.2.1) 1,(au zR)⟩) fun hHeld => ?_
 refine tk 0 ?_
 refine tr 1 fun K hK => ?_
 go_simp
 go_at_call 13
 refine (HM.out _ _).mono ?_
 rintro e wx ⟨rfl,rfl⟩
 go_wp2_with fail
 refine hK.out _ _ (by (try dsimp only);exact ⟨cell_of (aa (au zR) HK.out.1) 1,cell_of (aa (au zR) HK.out.2.1) 1,(au zR)⟩) fun hHeld => ?_
 clear hK K
 try simp only [Act.put,zS,zT,zU]
 refine tk 2 ?_
 refine tk 3 ?_
 refine tk 4 ?_
 refine tk 5 ?_
 refine tk 6 ?_
 refine tk 7 ?_
 refine tk 8 ?_
 refine tk 9 ?_
 refine tk 10 ?_
 refine tr 11 fun K hK => ?_
 go_simp
 go_at_call 22
 refine (HP.out _ (au zR)).mono ?_
 rintro e wx ⟨rfl,hbx⟩
 have hby:=gtr (au (Below.refl wA.heap.size wA)) hbx
 go_wp2_with fail
 refine hK.out _ _ (by (try dsimp only);exact ⟨cell_of (aa hby HK.out.1) 1,cell_of (aa hby HK.out.2.1) 1,hby⟩) fun hHeld => ?_
 clear hK K
 try simp only [Act.put,zS,zT,zU]
 refine tk 12 ?_
 refine tk 13 ?_
 refine wpAnyH_done (by kernel_rfl) ?_ _
 refine NoPanic.normal ?_
 go_wp2
 go_ret
 have hb:=hby
 exact ⟨rfl,W1,G1,HW.out.1,HW.out.2.1,HW.out.2.2.1.aj hb,HW.out.2.2.2.trans (Step.ah hb)⟩
end
def lk (ps:List aJ):List ByteArray:=ps.map fun p=>p.key
def Lp (k:ByteArray):List ByteArray→List ByteArray
 | []=>[k]
 | p::r=>if cF p k=true then p::Lp k r else if p=k then k::r else k::p::r
theorem CD (k v:ByteArray) : ∀ ps:List aJ,lk (eB k v ps)=Lp k (lk ps)
 | []=>rfl
 | p::ps=>by
  show lk (if cF p.key k=true then p::eB k v ps else if p.key=k then ⟨k,v⟩::ps else ⟨k,v⟩::p::ps)=(if cF p.key k=true then p.key::Lp k (lk ps) else if p.key=k then k::lk ps else k::p.key::lk ps)
  split
  ·
   rw [← CD k v ps];rfl
  ·
   split <;> rfl
theorem CC (k:ByteArray) : ∀ ps:List aJ,lk (fi k ps)=(lk ps).filter fun x=>decide (x≠k)
 | []=>rfl
 | p::ps=>by
  have ih:=CC k ps
  unfold fi lk at ih ⊢
  rw [List.filter_cons,List.map_cons,List.filter_cons]
  split
  ·
   rw [List.map_cons,ih]
  ·
   exact ih
theorem JO (ps:List aJ):(lk ps).length=ps.length:=List.length_map ..
def k8:List ByteArray:=[⟨#[97]⟩,⟨#[98]⟩,⟨#[99]⟩,⟨#[100]⟩,⟨#[101]⟩,⟨#[102]⟩,⟨#[103]⟩,⟨#[104]⟩]
def k7:List ByteArray:=[⟨#[97]⟩,⟨#[98]⟩,⟨#[99]⟩,⟨#[100]⟩,⟨#[101]⟩,⟨#[102]⟩,⟨#[103]⟩]
def NG:ByteArray:=⟨#[104]⟩
def NH (i:Nat):ByteArray:=k8.getD i NG
def mV (x:cG):List Value:=[.int .i64 x.kind,.string x.key,.string x.value,.int .i64 0,.int .i64 0,.int .i64 0,.string ⟨#[]⟩,.slice none 0 0,.slice none 0 0]
def pE (l:List cG):List Value:=l.flatMap mV
theorem vZ : ∀ (l:List cG) (i:Nat) (h:i<l.length) (j:Nat) (hj:j<9),(pE l)[9 * i+j]? = (mV l[i])[j]?
 | x::l,0,h,j,hj=>by
  show (mV x++pE l)[9 * 0+j]? = _
  rw [Nat.mul_zero,Nat.zero_add,List.getElem?_append_left (by simp [mV];omega)]
  rfl
 | x::l,i+1,h,j,hj=>by
  show (mV x++pE l)[9 * (i+1)+j]? = _
  rw [List.getElem?_append_right (by simp [mV];omega)]
  have e:9 * (i+1)+j - (mV x).length=9 * i+j:=by simp [mV];omega
  rw [e,vZ l i (Nat.lt_of_succ_lt_succ h) j hj]
  rfl
theorem Ln {img:ByteArray} (h:img.size=2048):Has (gL img) img:=by
 refine ⟨j5 (by omega),fun i hi => ?_⟩
 unfold gL
 rw [qu,if_pos (by omega)]
def pN:Array Value := #[.bool false,.slice none 0 0,.bool false,.slice none 0 0,.bool true]
structure DY (w3 wr:World) (v:Value) (l:List cG) (sh:List (Int×ByteArray)):Prop where
 below:Below w3.heap.size w3 wr
 own:wr.ownsRow w3.heap.size 31 9 v l.length (pE l)
 shape:(l.map fun x=>(x.kind,x.key))=sh
 plain : ∀ a ∈ l,kS a
theorem DY.grow {w3 wr w1 w2:World} {v v':Value} {l:List cG} {sh:List (Int×ByteArray)} (h:DY w3 wr v l sh) (hb:Below wr.heap.size wr w1) (hg:w1.grownBy w2 v.ownBlock) (xs:List cG) (ho:w2.ownsRow w3.heap.size 31 9 v' (l++xs).length (pE (l++xs))) (hp : ∀ a ∈ xs,kS a):DY w3 w2 v' (l++xs) (sh++xs.map fun x=>(x.kind,x.key)) :=
 ⟨jJ h.below (bZ h.own) (fw hb hg),ho,by rw [List.map_append,h.shape],fun a ha=>(List.mem_append.1 ha).elim (h.plain a) (hp a)⟩
theorem Ai {k v:ByteArray} (h1:k.size=1) (h2:v.size≤20):kS (ib 2 k v):=⟨.inl rfl,by show 1≤k.size;omega,by show k.size≤6;omega,h2,fun h=>(by cases h),rfl,rfl,rfl,rfl,rfl,rfl⟩
theorem Ah {k:ByteArray} (h1:k.size=1):kS (ib 4 k ⟨#[]⟩):=⟨.inr rfl,by show 1≤k.size;omega,by show k.size≤6;omega,by show (⟨#[]⟩:ByteArray).size≤20;decide,fun _=>rfl,rfl,rfl,rfl,rfl,rfl,rfl⟩
theorem rL (w:World) (o1 o2:Obj):((w.alloc o1).alloc o2).heap[w.heap.size+1]? = some o2:=by simpa using af (w.alloc o1) o2
def DW (w:World) (b:Nat):Prop := ∀ j,j<8→w.cell? ⟨b,j,none⟩=some (.string (NH j))
theorem DW.aj {w w':World} {b:Nat} (h:DW w b) (hb:Below w.heap.size w w'):DW w' b:=fun j hj=>(hb.cell (p:=⟨b,j,none⟩) (zL w _ (h j hj))).trans (h j hj)
theorem CR (q0 q q1:Bool) (a0 a3:Option Addr) (n0 c0 n3 c3:Nat) (x:Int) : ∀ j:Nat,(#[.bool q0,.slice a0 n0 c0,.bool q,.slice a3 n3 c3,.bool q1]:Array Value)[j]? ≠ some (.int .i64 x)
 | 0=>by simp
 | 1=>by simp
 | 2=>by simp
 | 3=>by simp
 | 4=>by simp
 | j+5=>by simp
theorem uz {w:World} {g:Nat} {G:Nat→Prop} {ps:List aJ} (h:cV w g G ps):Plain w g:=by
 obtain ⟨_,a,c,q,a3,n3,c3,m2,_⟩:=h
 refine ⟨fun i x => ?_,fun t => ?_⟩
 ·
  rw [cell_of m2]
  exact CR _ _ _ _ _ _ _ _ _ x i
 ·
  rw [cell_of m2]
  simp
def qV (w:World) (ab:Nat) (l:List cG):Prop := ∀ i q,(pE l)[i]? = some q→w.cell? ⟨ab,i,none⟩=some q
theorem qV.aH {w w':World} {ab:Nat} {l:List cG} {F:Nat→Prop} (h:qV w ab l) (t:Touch F w w') (hn : ¬ F ab):qV w' ab l:=fun i q hq=>t.cell ab i (h i q hq) hn
theorem qV.row {w:World} {ab:Nat} {l:List cG} (h:qV w ab l) (i:Nat) (hi:i<l.length) (j:Nat) (q:Value) (hj:j<9) (hq:(mV l[i])[j]? = some q):w.cell? ⟨ab,i * 9+j,none⟩=some q:=by
 rw [show i * 9+j=9 * i+j by omega]
 exact h _ _ ((vZ l i hi j hj).trans hq)
theorem Ik {x:cG} (h:kS x):x.row none 0 none 0 = #[.int .i64 x.kind,.string x.key,.string x.value,.int .i64 0,.int .i64 0,.int .i64 0,.string ⟨#[]⟩,.slice none 0 0,.slice none 0 0]:=by
 unfold cG.row
 rw [h.at_,h.width,h.cj,h.mask,h.busy,h.reads]
 rfl
section
open Go.RowKit
variable {X:Nat→Prop}
theorem byte_back (K:UInt8) (c:Int) (hc:c=(K.toNat:Int)) (w':World) (b:Nat) (h:w'.cell? ⟨b,0,none⟩=some (.int .u8 c)):(convert 29 9 (.slice (some ⟨b,0,none⟩) 1 1)).run prog w'=.ok (.string ⟨#[K]⟩) w':=by
 have hback:=run_convert_bytes_back (P:=prog) w' 29 9 5 ⟨b,0,none⟩ 1 [K] underlying29 underlying5 underlying9 (fun i hi=>by
  rw [dh]
  match i,hi with
  | 0,_=>rw [show b=b from rfl,Nat.add_zero,h,hc];rfl)
 simp only [List.length_cons,List.length_nil] at hback
 exact hback
theorem FE (w:World) (v:Value) (t:TypeId) (o2:Obj):((w.alloc (.cells #[v] t)).alloc o2).cell? ⟨w.heap.size,0,none⟩=some v:=cell_of (aa (ae zR _) (af w _)) 0
theorem FF (w:World) (v:Value) (t:TypeId) (o2 o3:Obj):(((w.alloc (.cells #[v] t)).alloc o2).alloc o3).cell? ⟨w.heap.size,0,none⟩=some v:=cell_of (aa (ae (ae zR _) _) (af w _)) 0
theorem FG (w:World) (v:Value) (t:TypeId) (o1:Obj):((w.alloc o1).alloc (.cells #[v] t)).cell? ⟨w.heap.size+1,0,none⟩=some v:=cell_of (rL w _ _) 0
theorem FH (w:World) (v:Value) (t:TypeId) (o1 o3:Obj):(((w.alloc o1).alloc (.cells #[v] t)).alloc o3).cell? ⟨w.heap.size+1,0,none⟩=some v:=cell_of (aa (ae zR _) (rL w _ _)) 0
theorem ts (w:World) (o1 o2 o3:Obj):(((w.alloc o1).alloc o2).alloc o3).heap[w.heap.size+2]? = some o3:=by simpa using af ((w.alloc o1).alloc o2) o3
theorem FI (w:World) (v:Value) (t:TypeId) (o1 o2:Obj):(((w.alloc o1).alloc o2).alloc (.cells #[v] t)).cell? ⟨w.heap.size+2,0,none⟩=some v:=cell_of (ts w _ _ _) 0
end
def BI (x:ByteArray) (S:aA) (E:Int):Prop:=(Gu x∧S=shut) ∨ ∃ ps,(qq x ps E∧S=shut)∨dJ x S ps E
theorem BI.fit {x:ByteArray} {S:aA} {E:Int} (h:BI x S E):S.Fit:=by
 rcases h with ⟨_,h⟩ | ⟨ps,⟨_,h⟩ | h⟩
 ·
  exact .inl h
 ·
  exact .inl h
 ·
  exact h.fit
theorem BI.more {x:ByteArray} {S:aA} {E E':Int} (h:BI x S E) (k:E≤E'):BI x S E':=by
 rcases h with h | ⟨ps,⟨h1,h2⟩ | h⟩
 ·
  exact .inl h
 ·
  exact .inr ⟨ps,.inl ⟨h1.more k,h2⟩⟩
 ·
  exact .inr ⟨ps,.inr (h.more k)⟩
def gY:List ByteArray:=[⟨#[97]⟩,⟨#[98]⟩,⟨#[99]⟩,⟨#[100]⟩]
def sI:List ByteArray→List (List ByteArray)
 | []=>[[]]
 | k::r=>(sI r).map (fun l=>k::l)++sI r
theorem F8 {α : Type} [DecidableEq α] (x : α) (l:List α):l.any (fun y=>decide (y=x))=true ↔ x ∈ l:=by
 rw [List.any_eq_true]
 exact ⟨fun ⟨y,h1,h2⟩=>by rw [← of_decide_eq_true h2];exact h1,fun h=>⟨x,h,decide_eq_true rfl⟩⟩
instance (x:ByteArray) (l:List ByteArray):Decidable (x ∈ l):=decidable_of_iff _ (F8 x l)
instance (x:List ByteArray) (l:List (List ByteArray)):Decidable (x ∈ l):=decidable_of_iff _ (F8 x l)
def By (ps:List aJ):Prop:=lk ps ∈ sI gY
theorem Lg:By []:=by
 show ([]:List ByteArray) ∈ sI gY
 decide +kernel
theorem Lf {ps:List aJ} (h:By ps):ps.length≤4:=by
 rw [← JO]
 have key : ∀ l ∈ sI gY,l.length≤4:=by decide +kernel
 exact key _ h
theorem vz {ps:List aJ} (h:By ps) {k:ByteArray} (hk:k ∈ gY) (v:ByteArray):By (eB k v ps):=by
 unfold By
 rw [CD]
 have key : ∀ l ∈ sI gY,∀ k ∈ gY,Lp k l ∈ sI gY:=by decide +kernel
 exact key _ h _ hk
theorem Le {ps:List aJ} (h:By ps) {k:ByteArray} (hk:k ∈ gY):By (fi k ps):=by
 unfold By
 rw [CC]
 have key : ∀ l ∈ sI gY,∀ k ∈ gY,(l.filter fun x=>decide (x≠k)) ∈ sI gY:=by decide +kernel
 exact key _ h _ hk
theorem Jy {ps:List aJ} (h:By ps) {x:cG} (hk:x.key ∈ gY):By (fD ps x).2:=by
 unfold fD
 split
 ·
  split
  ·
   exact h
  ·
   exact vz h hk _
 ·
  split
  ·
   exact h
  ·
   exact Le h hk
theorem wX {ps:List aJ} (h:By ps) {k:ByteArray} (hk:k ∈ gY) (v:ByteArray) : ¬ 7<(eB k v ps).length:=by
 have:=Lf (vz h hk v)
 omega
def E7 (z:Int):ByteArray:=⟨#[UInt8.ofNat (97+(z % 4).toNat)]⟩
def kp (z:Int) (k:Nat):cG:=if (bits .and .i64 z 12 == 12)=true then ib 4 (E7 z) ⟨#[]⟩ else ib 2 (E7 z) ⟨#[UInt8.ofNat k]⟩
theorem JN (j:Nat) (h:j<4):(⟨#[UInt8.ofNat (97+j)]⟩:ByteArray) ∈ gY:=by
 match j,h with
 | 0,_=>decide +kernel
 | 1,_=>decide +kernel
 | 2,_=>decide +kernel
 | 3,_=>decide +kernel
theorem row_in (z:Int):E7 z ∈ gY:=JN _ (by omega)
theorem Ki (z:Int) (k:Nat):kS (kp z k)∧(kp z k).key ∈ gY:=by
 unfold kp
 split
 ·
  exact ⟨Ah rfl,row_in z⟩
 ·
  exact ⟨Ai rfl (show 1≤20 by decide),row_in z⟩
def JB (img:ByteArray):ByteArray×aA×ey×Int:=od (gL img) img shut (ib 0 ⟨#[]⟩ ⟨#[]⟩)
def lC (img:ByteArray) (f:Nat→Int):Nat→ByteArray×aA
 | 0=>((JB img).1,(JB img).2.1)
 | k+1=>((od (lC img f k).1 img (lC img f k).2 (kp (f k) k)).1,(od (lC img f k).1 img (lC img f k).2 (kp (f k) k)).2.1)
def pw:ByteArray:=⟨#[118]⟩
def qL (key:ByteArray) (rs:List Int):cG:=⟨2,key,pw,0,0,0,⟨#[]⟩,[150],rs⟩
theorem oM {k:ByteArray} (h:k ∈ gY):k.size=1:=by
 have key : ∀ k ∈ gY,k.size=1:=by decide +kernel
 exact key k h
theorem JX {k:ByteArray} (hk:k ∈ gY) {rs:List Int} (hl:rs.length≤16) (hr : ∀ x ∈ rs,0≤x∧x<2048):pY (qL k rs)=true:=by
 have hs:pe (qL k rs)=true:=by
  show (decide (k.size≤12)&&decide (pw.size≤40)&&decide ((⟨#[]⟩:ByteArray).size≤16))=true
  rw [oM hk]
  rfl
 have hb:oP (qL k rs)=true:=by
  have key2 : ∀ b1 b2 b3:Bool,([(107,b1),(118,b2),(114,b3),(98,false),(108,true)]:List (UInt8×Bool)).all (fun p => !p.2 || hasB (lp 2) p.1)=true:=by decide +kernel
  exact key2 _ _ _
 have h1:cv 0 4095 rs=true:=by
  unfold cv
  rw [Bool.and_eq_true]
  refine ⟨List.all_eq_true.2 fun x hx => ?_,decide_eq_true hl⟩
  have:=hr x hx
  rw [decide_eq_true (show (0:Int)≤x by omega),decide_eq_true (show x≤4095 by omega)]
  rfl
 unfold pY
 rw [hs,hb,show (qL k rs).reads=rs from rfl,h1]
 rfl
theorem Kc {rs:List Int} (hl:rs.length≤16) (hr : ∀ x ∈ rs,0≤x∧x<2048):cH rs=true:=by
 unfold cH
 rw [Bool.and_eq_true]
 refine ⟨decide_eq_true hl,List.all_eq_true.2 fun x hx => ?_⟩
 have:=hr x hx
 unfold l8
 rw [decide_eq_true this.1,decide_eq_true this.2]
 rfl
theorem EZ (c:Int×fJ) (x img:ByteArray) (S:aA) {rs:List Int} (h:cH rs=true):(oW c x img S rs).1=(oW c x img S []).1∧(oW c x img S rs).2.1=(oW c x img S []).2.1:=by
 unfold oW
 rw [if_pos h,if_pos (show cH []=true by decide)]
 split
 ·
  exact ⟨rfl,rfl⟩
 ·
  split <;> exact ⟨rfl,rfl⟩
theorem Io (x img:ByteArray) (S:aA) (k v:ByteArray) {rs:List Int} (h:cH rs=true):(kF x img S k v rs).1=(kF x img S k v []).1∧(kF x img S k v rs).2.1=(kF x img S k v []).2.1:=by
 unfold kF jn
 split
 ·
  exact ⟨rfl,rfl⟩
 ·
  split
  ·
   exact ⟨rfl,rfl⟩
  ·
   exact EZ _ _ _ _ h
theorem vJ {y img:ByteArray} {S:aA} {ps:List aJ} {E:Int} (h:dJ y S ps E) (hE:E<1048576) (hf:By ps) {k:ByteArray} (hk:k ∈ gY) {rs:List Int} (hl:rs.length≤16) (hr : ∀ x ∈ rs,0≤x∧x<2048):od y img S (qL k rs)=((kF y img S k pw []).1,(kF y img S k pw []).2.1,⟨⟨#[]⟩,[],rs.map (j7 img),false⟩,0)∧dJ (kF y img S k pw []).1 (kF y img S k pw []).2.1 (eB k pw ps) (E+1)∧fD ps (qL k rs)=(0,eB k pw ps):=by
 have ho:=Kc hl hr
 have hz:xD ps k pw rs=0:=by
  unfold xD
  rw [if_neg (not_not_intro (by rw [oM hk];decide)),if_neg (by decide),if_neg (wX hf hk pw),if_pos ho]
 have hz0:xD ps k pw []=0:=by
  unfold xD
  rw [if_neg (not_not_intro (by rw [oM hk];decide)),if_neg (by decide),if_neg (wX hf hk pw),if_pos (show cH []=true by decide)]
 obtain ⟨o1,o2⟩:=(qG (img:=img) h hE k pw rs).2 hz
 obtain ⟨p1,p2⟩:=(qG (img:=img) h hE k pw []).2 hz0
 obtain ⟨r1,r2⟩:=Io y img S k pw ho
 refine ⟨?_,p1,?_⟩
 ·
  unfold od
  rw [JX hk hl hr,if_neg (by decide)]
  unfold mz
  rw [if_neg (show ¬ (qL k rs).kind=0 from (by decide : ¬ (2:Int)=0)),if_neg (show ¬ (qL k rs).kind=1 from (by decide : ¬ (2:Int)=1)),if_pos (show (qL k rs).kind=2 from rfl)]
  unfold mu
  rw [show (qL k rs).key=k from rfl,show (qL k rs).value=pw from rfl,show (qL k rs).reads=rs from rfl,r1,r2,o2]
  rfl
 ·
  unfold fD
  rw [if_pos (show (qL k rs).kind=2 from rfl)]
  exact if_neg (wX hf hk pw)
end Go.Proofs.YtcfdenckiigdaaaGreat

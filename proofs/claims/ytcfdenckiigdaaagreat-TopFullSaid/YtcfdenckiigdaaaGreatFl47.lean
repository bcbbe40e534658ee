/- Part 47 of the contracts. -/
import Derived.Test.YtcfdenckiigdaaaGreatFl46
set_option linter.unusedVariables false
set_option maxRecDepth 100000
set_option maxHeartbeats 4000000
namespace Go.Proofs.YtcfdenckiigdaaaGreat
open Tryz
section
open Go.RowKit
def Ad (w:World) (g:Nat) (a b:Value):World:=(w.setCell ⟨g,2,none⟩ a).setCell ⟨g,3,none⟩ b
theorem Ae {w:World} {g k:Nat} {o:Obj} (h:w.heap[k]? = some o) (hn:k≠g) (a b:Value):(Ad w g a b).heap[k]? = some o:=by
 unfold Ad
 rw [heap_setCell_other _ _ _ _ hn,heap_setCell_other _ _ _ _ hn]
 exact h
theorem Hh {w:World} {g:Nat} {a0 b0 m2 m3 t:Value} {T:TypeId} (h:w.heap[g]? = some (.cells #[a0,b0,m2,m3,t] T (0,0))) (a b:Value):(lJ w g a b).heap[g]? = some (.cells #[a,b,m2,m3,t] T (0,0)):=by
 have:=az (i:=1) (v:=b) (az (i:=0) (v:=a) h)
 exact this
theorem Ey {w:World} {g:Nat} {a0 b0 m2 m3 t:Value} {T:TypeId} (h:w.heap[g]? = some (.cells #[a0,b0,m2,m3,t] T (0,0))) (a b:Value):(Ad w g a b).heap[g]? = some (.cells #[a0,b0,a,b,t] T (0,0)):=by
 have:=az (i:=3) (v:=b) (az (i:=2) (v:=a) h)
 exact this
theorem A0 (ps:List aK) : ∀ u ∈ aE ps,∃ s,u=.string s:=by
 intro u hu
 obtain ⟨p,_,hp⟩:=List.mem_flatMap.1 hu
 simp only [List.mem_cons,List.not_mem_nil,or_false] at hp
 rcases hp with rfl | rfl <;> exact ⟨_,rfl⟩
theorem CL (q0 q q1:Bool) (a0 a3:Option Addr) (n0 c0 n3 c3:Nat) (s:ByteArray) : ∀ j:Nat,(#[.bool q0,.slice a0 n0 c0,.bool q,.slice a3 n3 c3,.bool q1]:Array Value)[j]? ≠ some (.string s)
 | 0=>by simp
 | 1=>by simp
 | 2=>by simp
 | 3=>by simp
 | 4=>by simp
 | j+5=>by simp
theorem CJ {w w':World} {g n:Nat} {q0 q q1:Bool} {a0 a3:Option Addr} {n0 c0 n3 c3:Nat} {v:Value} {ps:List aK} (hg:w.heap[g]? = some (.cells #[.bool q0,.slice a0 n0 c0,.bool q,.slice a3 n3 c3,.bool q1] 63 (0,0))) (h:aT w v n 2 (aE ps)) (ht:Touch (aO g) w w'):aT w' v n 2 (aE ps) :=
 ⟨h.len,h.ex.imp id fun ⟨b,o,c,hv,hc,hx⟩=>⟨b,o,c,hv,hc,fun i u hu=>ht.cell b (o+i) (hx i u hu) fun e=>by
  have e:b=g:=e
  subst e
  have h1:=hx i u hu
  rw [cell_of hg] at h1
  obtain ⟨s,rfl⟩:=A0 ps u (List.mem_of_getElem? hu)
  exact CL _ _ _ _ _ _ _ _ _ s _ h1⟩⟩
def BE (g:Nat) (G:Nat→Prop) (qs:List aK) (w:World) (e:Ending) (w':World):Prop:=e=.returned (.bool true)∧iw w' g G qs∧Touch (aO g) w w'
theorem Fa (g:Nat) (G:Nat→Prop) (ps qs:List aK) (x:cd) (ba:Option Addr) (bc:Nat) (ra:Option Addr) (rc:Nat) (val:ByteArray) (va:Option Addr) (np vc:Nat) (vb:Option Addr) (nr vd:Nat) (er:Int) (w:World) (hw:fA ps x=(er,qs)) (hv:er≠0→val=⟨#[]⟩∧np=0∧nr=0) (hm:iw w g G ps) (hG : ∀ i,G i→i<w.heap.size) (hk:x.kind=2∨x.kind=4) (s1:1≤x.key.size) (s2:x.key.size≤6) (s3:x.value.size≤20) (hr:aU w ra x.reads) (hr2 : ∀ i (h:i<x.reads.length),x.reads[i]<2048) (hso:fo ps) (hl:ps.length≤7) (hrl:x.reads.length≤1000000):Calls prog 12 #[.pointer (some ⟨g,0,none⟩),.agg (x.row ba bc ra rc),.agg #[.string val,.slice va np vc,.slice vb nr vd,.bool false],.int .i64 er] w (BE g G qs w):=by
 have e0:(x.kind == 0)=false:=zQ (by omega)
 have e1:(x.kind == 1)=false:=zQ (by omega)
 have e3:(x.kind != 3)=true:=bne_iff_ne.2 (by omega)
 have e5:(x.kind != 5)=true:=bne_iff_ne.2 (by omega)
 have HWANT:=zH (fun (w':World) (hb:Below w.heap.size w w')=>(show Calls prog 36 #[.pointer (some ⟨g,0,none⟩),.agg (x.row ba bc ra rc)] w' (yI (er,qs) G w') from by
  rw [← hw]
  obtain ⟨m1,a,c,q,a3,n3,c3,m2,m3,m4⟩:=hm
  exact DC g G ps x ba bc ra rc w' ⟨m1,a,c,q,a3,n3,c3,aa hb m2,m3.aj hb,m4⟩ (fun i hi=>zV (hG i hi) hb.size) hk s1 s2 s3 (hr.aj hb) hr2 hso hl hrl))
 have HPS:=zH (show er≠0→qs=ps from by
  intro h
  unfold fA at hw
  split at hw
  ·
   split at hw
   ·
    exact (Prod.mk.inj hw).2.symm
   ·
    exact absurd (Prod.mk.inj hw).1.symm h
  ·
   split at hw
   ·
    exact (Prod.mk.inj hw).2.symm
   ·
    exact absurd (Prod.mk.inj hw).1.symm h)
 have HQL:=zH (show qs.length≤8 from by
  have e:=congrArg Prod.snd hw
  dsimp only at e
  rw [← e]
  unfold fA
  have:=AH x.key ps
  split
  ·
   split
   ·
    show ps.length≤8;omega
   ·
    show (fS x.key x.value ps).length≤8;omega
  ·
   split
   ·
    show ps.length≤8;omega
   ·
    show (fu x.key ps).length≤8;omega)
 obtain ⟨m1,a,c,q,a3,n3,c3,hg,hsl,hsf⟩:=hm
 have hgl:g<w.heap.size:=aP hg
 unfold cd.row at HWANT ⊢
 have hb1:=ae (Below.refl w.heap.size w) (.cells #[.int .i64 x.kind,.string x.key,.string x.value,.int .i64 x.at_,.int .i64 x.width,.int .i64 x.cm,.string x.mask,.slice ba x.busy.length bc,.slice ra x.reads.length rc] 31)
 have hb2:=ae hb1 (.cells #[.string val,.slice va np vc,.slice vb nr vd,.bool false] 34)
 have n0:=aa (ae zR (.cells #[.string val,.slice va np vc,.slice vb nr vd,.bool false] 34)) (af w (.cells #[.int .i64 x.kind,.string x.key,.string x.value,.int .i64 x.at_,.int .i64 x.width,.int .i64 x.cm,.string x.mask,.slice ba x.busy.length bc,.slice ra x.reads.length rc] 31))
 have n1:((w.alloc (.cells #[.int .i64 x.kind,.string x.key,.string x.value,.int .i64 x.at_,.int .i64 x.width,.int .i64 x.cm,.string x.mask,.slice ba x.busy.length bc,.slice ra x.reads.length rc] 31)).alloc (.cells #[.string val,.slice va np vc,.slice vb nr vd,.bool false] 34)).heap[w.heap.size+1]? = some (.cells #[.string val,.slice va np vc,.slice vb nr vd,.bool false] 34 (0,0)):=by simpa using af (w.alloc (.cells #[.int .i64 x.kind,.string x.key,.string x.value,.int .i64 x.at_,.int .i64 x.width,.int .i64 x.cm,.string x.mask,.slice ba x.busy.length bc,.slice ra x.reads.length rc] 31)) (.cells #[.string val,.slice va np vc,.slice vb nr vd,.bool false] 34)
 have HB:=zH (zA hb2 (zA n0 (zA n1 (aa hb2 hg))))
 have HM:=zH (zA m1 (zA hg (zA hsl hsf)))
 have HV:=zH hv
 clear hb1 hb2 n0 n1 hg hsl hsf m1 hr hr2 hso hl hk hG hw hv
 obtain ⟨y0,y1,y2,y3,y4,y5,y6,y7,y8,yf⟩:=Da HB.out.2.1
 go_enter func12,ntmps12
 go_upto_region 1 with fail
 generalize (w.alloc (.cells #[.int .i64 x.kind,.string x.key,.string x.value,.int .i64 x.at_,.int .i64 x.width,.int .i64 x.cm,.string x.mask,.slice ba x.busy.length bc,.slice ra x.reads.length rc] 31)).alloc (.cells #[.string val,.slice va np vc,.slice vb nr vd,.bool false] 34)=w1 at *
 have HW:=zH (HWANT.out w1 HB.out.1)
 go_upto_region 2 with (go_at_call 36;refine HW.out.mono ?_;rintro e w2 ⟨aq,cq,rfl,hsq,hbq,hsa⟩)
 have hb13:=ae hbq (.cells #[.bool false,.slice aq qs.length cq] 61)
 have HB2:=zH (zA (aa hb13 HB.out.2.1) (zA (aa hb13 HB.out.2.2.1) (zA (aa hb13 HB.out.2.2.2) (zA (af w2 (.cells #[.bool false,.slice aq qs.length cq] 61)) (zA (hsq.aj (ae zR (.cells #[.bool false,.slice aq qs.length cq] 61))) (zA hsa (HB.out.1.trans (hb13.mono HB.out.1.size))))))))
 have HNE:=zH (show g≠w2.heap.size∧g≠w.heap.size∧g≠w.heap.size+1 from ⟨by have:=hbq.size;have:=HB.out.1.size;omega,by omega,by omega⟩)
 clear y0 y1 y2 y3 y4 y5 y6 y7 y8 yf hsq hbq hsa hb13
 generalize w2.alloc (.cells #[.bool false,.slice aq qs.length cq] 61)=w3 at *
 generalize w2.heap.size=b2 at *
 obtain ⟨y0,y1,y2,y3,y4,y5,y6,y7,y8,yf⟩:=Da HB2.out.1
 obtain ⟨z0,z1,z2,z3,zf⟩:=cF HB2.out.2.1
 refine wp_region_noPanic ?_
 refine wp_region_held_drew (S:=(fun w':World=>w'.cell? ⟨w.heap.size,0,none⟩=some (.int .i64 x.kind))) (by kernel_rfl) (by (try dsimp only);exact cell_of HB2.out.1 0) fun hHeld => ?_
 refine tk 0 ?_
 refine tk 1 ?_
 refine tk 2 ?_
 refine tk 3 ?_
 refine tn 4 ?_
 refine tn 5 ?_
 refine tn 6 ?_
 refine tn 7 ?_
 refine tn 8 ?_
 refine tn 9 ?_
 refine tn 10 ?_
 refine tn 11 ?_
 refine tn 12 ?_
 refine tn 13 ?_
 refine tk 14 ?_
 refine wpAnyH_done (by kernel_rfl) ?_ _
 refine NoPanic.normal ?_
 clear y1 y2 y3 y4 y5 y6 y7 y8 yf
 by_cases her:er=0
 case neg =>
  obtain ⟨rfl,rfl,rfl⟩:=HV.out her
  have er1:(er != 0)=true:=bne_iff_ne.2 her
  have HE:=zH her
  clear her
  go_wp2
  go_ret
  have hb:=au HB2.out.2.2.2.2.2.2
  rw [HPS.out HE.out]
  exact ⟨rfl,⟨HM.out.1,a,c,q,a3,n3,c3,aa hb HM.out.2.1,HM.out.2.2.1.aj hb,HM.out.2.2.2⟩,Touch.ah hb⟩
 case pos =>
  subst her
  obtain ⟨x0,x1,xf⟩:=jM HB2.out.2.2.2.1
  obtain ⟨g0,g1,g2,g3,g4,gf⟩:=mu HB2.out.2.2.1
  go_upto_region 11 with fail
  have hb4:=au HB2.out.2.2.2.2.2.2
  have HE1:=zH (zA (show Touch (aO g) w3 (lJ w3 g (.bool false) (.slice aq qs.length cq)).drew from (((Touch.refl (aO g) w3).set g 0 (.bool false) rfl).set g 1 (.slice aq qs.length cq) rfl).drew) (zA (show (lJ w3 g (.bool false) (.slice aq qs.length cq)).drew.heap[g]? = _ from Hh HB2.out.2.2.1 (.bool false) (.slice aq qs.length cq)) (zA (show (lJ w3 g (.bool false) (.slice aq qs.length cq)).drew.heap[w.heap.size]? = _ from iu HB2.out.1 (fun e=>HNE.out.2.1 e.symm) (.bool false) (.slice aq qs.length cq)) (zA (show (lJ w3 g (.bool false) (.slice aq qs.length cq)).drew.heap[w.heap.size+1]? = _ from iu HB2.out.2.1 (fun e=>HNE.out.2.2 e.symm) (.bool false) (.slice aq qs.length cq)) (zA (show (lJ w3 g (.bool false) (.slice aq qs.length cq)).drew.heap[b2]? = _ from iu HB2.out.2.2.2.1 (fun e=>HNE.out.1 e.symm) (.bool false) (.slice aq qs.length cq)) (show Touch (aO g) w (lJ w3 g (.bool false) (.slice aq qs.length cq)).drew from (((Touch.ah (F:=aO g) HB2.out.2.2.2.2.2.2).set g 0 (.bool false) rfl).set g 1 (.slice aq qs.length cq) rfl).drew))))))
  unfold lJ at HE1
  clear y0 z0 z1 z2 z3 zf x0 x1 xf g0 g1 g2 g3 g4 gf hb4
  generalize ((w3.setCell ⟨g,0,none⟩ (.bool false)).setCell ⟨g,1,none⟩ (.slice aq qs.length cq)).drew=w4 at *
  obtain ⟨x0,x1,xf⟩:=jM HE1.out.2.2.2.2.1
  obtain ⟨g0,g1,g2,g3,g4,gf⟩:=mu HE1.out.2.1
  go_upto_region 12 with fail
  have HT5:=zH (show Touch (aO g) w3 (Ad w4 g (.bool false) (.slice aq qs.length cq)) from (HE1.out.1.set g 2 (.bool false) rfl).set g 3 (.slice aq qs.length cq) rfl)
  have HE:=zH (zA (Ey HE1.out.2.1 (.bool false) (.slice aq qs.length cq)) (zA (Ae HE1.out.2.2.1 (fun e=>HNE.out.2.1 e.symm) (.bool false) (.slice aq qs.length cq)) (zA (Ae HE1.out.2.2.2.1 (fun e=>HNE.out.2.2 e.symm) (.bool false) (.slice aq qs.length cq)) (show Touch (aO g) w (Ad w4 g (.bool false) (.slice aq qs.length cq)) from (HE1.out.2.2.2.2.2.set g 2 (.bool false) rfl).set g 3 (.slice aq qs.length cq) rfl))))
  unfold Ad at HE HT5
  clear x0 x1 xf g0 g1 g2 g3 g4 gf
  generalize (w4.setCell ⟨g,2,none⟩ (.bool false)).setCell ⟨g,3,none⟩ (.slice aq qs.length cq)=w5 at *
  obtain ⟨y0,y1,y2,y3,y4,y5,y6,y7,y8,yf⟩:=Da HE.out.2.1
  obtain ⟨g0,g1,g2,g3,g4,gf⟩:=mu HE.out.1
  have HSQ:=zH (show aT w5 (.slice aq qs.length cq) qs.length 2 (aE qs) from CJ HB2.out.2.2.1 HB2.out.2.2.2.2.1 HT5.out)
  have HHAS:=zH (fun (w':World) (hb:Below w5.heap.size w5 w')=>xj false (.slice aq qs.length cq) qs x.key w' (HSQ.out.aj hb) (by have:=HQL.out;omega))
  clear y2 y3 y4 y5 y6 y7 y8 yf
  refine wp_region_noPanic ?_
  refine wp_region_held_drew (S:=(fun w':World=>w'.cell? ⟨g,0,none⟩=some (.bool false)∧w'.cell? ⟨g,1,none⟩=some (.slice aq qs.length cq)∧w'.cell? ⟨w.heap.size,1,none⟩=some (.string x.key))) (by kernel_rfl) (by (try dsimp only);exact ⟨cell_of (aa (au zR) HE.out.1) 0,cell_of (aa (au zR) HE.out.1) 1,cell_of (aa (au zR) HE.out.2.1) 1⟩) fun hHeld => ?_
  refine tk 0 ?_
  refine tk 1 ?_
  refine tk 2 ?_
  refine tk 3 ?_
  refine tk 4 ?_
  refine tk 5 ?_
  refine tr 6 fun K hK => ?_
  go_simp
  go_at_call 38
  refine (HHAS.out _ (au zR)).mono ?_
  rintro e wx ⟨rfl,hbx⟩
  have hbh:=gtr (au (Below.refl w5.heap.size w5)) hbx
  go_wp2_with fail
  refine hK.out _ _ (by (try dsimp only);exact ⟨cell_of (aa hbh HE.out.1) 0,cell_of (aa hbh HE.out.1) 1,cell_of (aa hbh HE.out.2.1) 1⟩) fun hHeld => ?_
  clear hK K
  try simp only [Act.put,zS,zT,zU]
  refine tk 7 ?_
  refine tk 8 ?_
  refine tk 9 ?_
  refine tk 10 ?_
  refine tk 11 ?_
  refine wpAnyH_done (by kernel_rfl) ?_ _
  refine NoPanic.normal ?_
  go_upto_region 13 with fail
  obtain ⟨w6,hw6⟩ : ∃ w6,w6=wx:=⟨_,rfl⟩
  subst hw6
  obtain ⟨y0,y1,y2,y3,y4,y5,y6,y7,y8,yf⟩:=Da (aa hbh HE.out.2.1)
  clear y1 y2 y3 y4 y5 y6 y7 y8 yf
  refine wp_region_noPanic ?_
  refine wp_region_held_drew (S:=(fun w':World=>w'.cell? ⟨w.heap.size,0,none⟩=some (.int .i64 x.kind))) (by kernel_rfl) (by (try dsimp only);exact cell_of (aa hbh HE.out.2.1) 0) fun hHeld => ?_
  refine tk 0 ?_
  refine tk 1 ?_
  refine tk 2 ?_
  refine tk 3 ?_
  refine tn 4 ?_
  refine tn 5 ?_
  refine tn 6 ?_
  refine tn 7 ?_
  refine tk 8 ?_
  refine tk 9 ?_
  refine tk 10 ?_
  refine tk 11 ?_
  refine tk 12 ?_
  refine tk 13 ?_
  refine tn 14 ?_
  refine tn 15 ?_
  refine tn 16 ?_
  refine tn 17 ?_
  refine tn 18 ?_
  refine tn 19 ?_
  refine tn 20 ?_
  refine tn 21 ?_
  refine tk 22 ?_
  refine tk 23 ?_
  refine tk 24 ?_
  refine wpAnyH_done (by kernel_rfl) ?_ _
  refine NoPanic.normal ?_
  go_wp2
  go_ret
  have hb:=au hbh
  exact ⟨rfl,⟨HM.out.1,aq,cq,false,aq,qs.length,cq,aa hb HE.out.1,HSQ.out.aj hb,HB2.out.2.2.2.2.2.1⟩,HE.out.2.2.2.trans (Touch.ah hb)⟩
end
section
open Go.RowKit
theorem Hk (p:Nat) (W:ia) (G:Nat→Prop) (x:cd) (ba:Option Addr) (bc:Nat) (ra:Option Addr) (rc:Nat) (cx img:ByteArray) (w:World) (h:cB w p W G) (n:ye W cx img) (fit:W.S.Fit) (hl:x.cm=0) (hk:x.kind≠7) (hb:aU w ba x.busy) (hbn:ba=none→bc=0) (hi:aN w ra x.reads G) (hcap:x.reads.length≤rc) (lb:x.busy.length≤4611686018427387904) (lr:x.reads.length≤4611686018427387904):Calls prog 11 #[.pointer (some ⟨p,0,none⟩),.agg (x.row ba bc ra rc)] w fun e w' => ∃ W',ye W' (u4 cx img W.S x).1 img∧W'.S=(u4 cx img W.S x).2.1∧eI p W' (u4 cx img W.S x).2.2.1 (u4 cx img W.S x).2.2.2 G w e w':=by
 refine (Jc p W G x ba bc ra rc cx w h n.calm n.ok n.cn fit hb hbn hi hcap lb lr).mono ?_
 rintro e w' ⟨hm,hp⟩
 obtain ⟨k1,k2,k3⟩:=Md n fit hl hk hm
 refine ⟨(Ko W x hm).1,k1,k2,?_⟩
 rw [← k3]
 exact hp
def fL (kind:Int) (key value:ByteArray):cd:=⟨kind,key,value,0,0,0,⟨#[]⟩,[],[]⟩
theorem ka (p:Nat) (W:ia) (G:Nat→Prop) (x:cd) (cx img:ByteArray) (w:World) (h:cB w p W G) (n:ye W cx img) (fit:W.S.Fit) (hl:x.cm=0) (hk:x.kind≠7) (hb:x.busy=[]) (hr:x.reads=[]):Calls prog 11 #[.pointer (some ⟨p,0,none⟩),.agg #[.int .i64 x.kind,.string x.key,.string x.value,.int .i64 x.at_,.int .i64 x.width,.int .i64 x.cm,.string x.mask,.slice none 0 0,.slice none 0 0]] w fun e w' => ∃ W',ye W' (u4 cx img W.S x).1 img∧W'.S=(u4 cx img W.S x).2.1∧eI p W' (u4 cx img W.S x).2.2.1 (u4 cx img W.S x).2.2.2 G w e w':=by
 have:=Hk p W G x none 0 none 0 cx img w h n fit hl hk (by rw [hb];exact aU.nil _ _) (fun _=>rfl) (by rw [hr];exact ⟨aU.nil _ _,fun b o e=>by cases e⟩) (by rw [hr];exact Nat.le_refl _) (by rw [hb];exact Nat.zero_le _) (by rw [hr];exact Nat.zero_le _)
 rw [show x.row none 0 none 0 = #[.int .i64 x.kind,.string x.key,.string x.value,.int .i64 x.at_,.int .i64 x.width,.int .i64 x.cm,.string x.mask,.slice none 0 0,.slice none 0 0] from by unfold cd.row;rw [hb,hr];rfl] at this
 exact this
theorem D3 {x:ByteArray} {sec:Nat} {V:bB} (h:Lay x sec V) {r:aX} (hr:gW r) (h0:(cC V sec r).1=0) (hf:V.free<8):Lay (hU x (cC V sec r).2) sec ⟨true,V.an,V.aB++[r],V.free+1⟩∧(⟨true,(cC V sec r).2.av,iN ⟨true,sec,V⟩ (cC V sec r).2⟩:aA)=⟨true,sec,⟨true,V.an,V.aB++[r],V.free+1⟩⟩:=by
 have vk:=h.Mr
 revert h0
 unfold cC
 split
 ·
  intro h0;exact absurd h0 (show ¬ (2202:Int)=0 by decide)
 split
 ·
  intro h0;exact absurd h0 (show ¬ (2201:Int)=0 by decide)
 intro _
 obtain ⟨f,hfe⟩ : ∃ f:Nat,V.free=(f:Int):=⟨V.free.toNat,by have:=vk.free;omega⟩
 have hf1:1≤f:=by have:=vk.free;omega
 have hf8:f<8:=by omega
 have hsame:=kX x sec f (aL r)
 obtain ⟨b0,_⟩:=qJ (x:=x) (y:=jq x (bZ sec f) (aL r)) (sec:=sec) hf1 hf8 (by rw [h.view];exact hfe) hsame
 have hslot:=nk h.size h.s1 hf8 (fP _ hr.1) b0
 have hlay:=FO h hf1 hf8 hfe hsame hr.1 hr.2 hslot
 refine ⟨?_,?_⟩
 ·
  show Lay (gU (sec:Int) [(V.free,r)] x) sec _
  rw [hfe]
  rw [hfe] at hlay
  exact hlay
 ·
  unfold iN
  have:([r]:List aX).filter dI=[r]:=by
   unfold dI
   simp [hr.2]
  show (⟨true,(sec:Int),⟨true,V.an,(if (-1:Int)<0 then V.aB else [])++[r].filter dI,V.free+1⟩⟩:aA)=_
  rw [this,if_pos (by decide)]
theorem Js {x:ByteArray} (h:x.size=4096):Has x x:=⟨h,fun _ _=>rfl⟩
theorem extract_mk (x:ByteArray) (a n:Nat) (h:a+n≤x.size):x.extract a (a+n)=mk n fun i=>bt x (a+i):=by
 refine fH ?_ fun i hi => ?_
 ·
  rw [eJ,ByteArray.size_extract];omega
 ·
  have hi':i<n:=by rw [ByteArray.size_extract] at hi;omega
  rw [lR _ _ _ hi',fI _ _ _ _ (by omega) h]
theorem M5 {x:ByteArray} (h:x.size=4096):x.extract 2048 2560=iT x 4:=extract_mk x 2048 512 (by omega)
theorem LC {x:ByteArray} (h:x.size=4096):x.extract 2048 2112=dq x 4 0:=extract_mk x 2048 64 (by omega)
def kB:ByteArray:=⟨#[107]⟩
def vB:ByteArray:=⟨#[118]⟩
def Kw:ByteArray:=⟨#[97,98,99,100]⟩
def V0:bB:=⟨true,1,[],1⟩
def V1:bB:=⟨true,1,[⟨1,0,kB,vB⟩],2⟩
theorem Ex:rJ (fL 0 ⟨#[]⟩ ⟨#[]⟩)=true:=by decide +kernel
theorem Lf:rJ (fL 2 kB vB)=true:=by decide +kernel
theorem CH:rJ (fL 5 ⟨#[]⟩ ⟨#[]⟩)=true:=by decide +kernel
theorem AL {x img:ByteArray} (h:Iy x) : ∃ x1,Lay x1 4 V0∧u4 x img shut (fL 0 ⟨#[]⟩ ⟨#[]⟩)=(x1,⟨true,4,V0⟩,bg,0):=by
 have he:qz (ot x)=0:=by rw [yK h];rfl
 have hs:eP x=((4:Nat):Int):=by unfold eP;rw [yK h];rfl
 have hn:lq x=1:=by unfold lq;rw [he];rfl
 have e:iO x img []=(jq (oq x (eP x)) (bZ (eP x) 0) (aL (cR (lq x))),⟨true,eP x,⟨true,lq x,[],1⟩⟩,[],0):=by
  unfold iO
  rw [he,if_neg (by decide),if_pos (by decide)]
  rfl
 refine ⟨_,El h.size (by omega) (by omega) (by decide) (by decide) h.dead,?_⟩
 unfold u4
 rw [Ex,if_neg (by decide)]
 unfold mZ
 rw [if_pos (show (fL 0 ⟨#[]⟩ ⟨#[]⟩).kind=0 from rfl),show (fL 0 ⟨#[]⟩ ⟨#[]⟩).reads=[] from rfl,e,hs,hn]
 rfl
theorem GQ {x img:ByteArray} (h:Lay x 4 V0) : ∃ x1,Lay x1 4 V1∧u4 x img ⟨true,4,V0⟩ (fL 2 kB vB)=(x1,⟨true,4,V1⟩,bg,0):=by
 have hr:gW ⟨1,0,kB,vB⟩:=qK (by decide) (by decide) (by decide)
 have hc:(cC V0 4 ⟨1,0,kB,vB⟩).1=0:=by decide +kernel
 have h12:=D3 h hr hc (by decide)
 rw [show ((4:Nat):Int)=4 from rfl] at h12
 obtain ⟨h1,h2⟩:=h12
 refine ⟨_,h1,?_⟩
 unfold u4
 rw [Lf,if_neg (by decide)]
 unfold mZ
 rw [if_neg (show ¬ (fL 2 kB vB).kind=0 by decide),if_neg (show ¬ (fL 2 kB vB).kind=1 by decide),if_pos (show (fL 2 kB vB).kind=2 from rfl)]
 unfold vh
 rw [if_neg (show ¬ cS ⟨true,4,V0⟩ (fL 2 kB vB).key≠0 by decide),if_neg (show ¬ 20<(fL 2 kB vB).value.size by decide)]
 unfold jO zM
 rw [show (⟨true,4,V0⟩:aA).view=V0 from rfl,show (⟨true,4,V0⟩:aA).av=4 from rfl,show (fL 2 kB vB).key=kB from rfl,show (fL 2 kB vB).value=vB from rfl,show (fL 2 kB vB).reads=[] from rfl]
 generalize cC V0 4 ⟨1,0,kB,vB⟩=c at hc h1 h2
 rw [hc,if_neg (by decide),if_neg (by decide),if_pos (by decide),h2]
 rfl
theorem Ej {x img:ByteArray}:u4 x img ⟨true,4,V1⟩ (fL 5 ⟨#[]⟩ ⟨#[]⟩)=(x,⟨true,4,V1⟩,⟨⟨#[]⟩,[⟨kB,vB⟩],[],false⟩,0):=by
 unfold u4
 rw [CH,if_neg (by decide)]
 unfold mZ
 rw [if_neg (by decide),if_neg (by decide),if_neg (by decide),if_neg (by decide),if_neg (by decide),if_pos (show (fL 5 ⟨#[]⟩ ⟨#[]⟩).kind=5 from rfl)]
 have:lO ⟨true,4,V1⟩=([⟨kB,vB⟩],0):=by decide +kernel
 rw [this]
theorem B5:cz V1.aB=[⟨kB,vB⟩]:=by decide +kernel
theorem Ei {x:ByteArray} (h:Lay x 4 V1):iM (iT x 4)=V1∧dJ (dq x 4 0)=some (cR 1) ∧ ∃ t,fx (dq x 4 0)=some t∧t.size=32:=by
 have h1:=h.an.2.2
 have hg:dJ (dq x 4 0)=some (cR 1):=by
  rw [h1]
  exact jL (il (by decide) (by decide))
 refine ⟨h.view,hg,?_⟩
 unfold dJ at hg
 cases hp:fx (dq x 4 0) with
 | none=>rw [hp] at hg;cases hg
 | some t=>exact ⟨t,rfl,rQ hp⟩
end
section
open Go.RowKit
theorem vC (x:Int) (w:World):Calls prog 13 #[.int .i64 x] w fun e w'=>e=.returned (.int .i64 x)∧w'=w:=(Hl x w).mono fun e w' h=>⟨h.1,h.2.symm⟩
theorem FN {x:ByteArray} {S:aA} {V:bB} (h:Lay x 4 V) (e:S=⟨true,4,V⟩):S.Fit:=by
 subst e
 exact .inr ⟨rfl,show (4:Int)≤4 by decide,show (4:Int)<8 by decide,h.Mr⟩
theorem B6 (p:Nat) (W:ia) (G:Nat→Prop) (x0 img:ByteArray) (w:World) (h:cB w p W G) (n:ye W x0 img) (hs:W.S=shut) (hx:Iy x0):Calls prog 11 #[.pointer (some ⟨p,0,none⟩),.agg #[.int .i64 0,.string ⟨#[]⟩,.string ⟨#[]⟩,.int .i64 0,.int .i64 0,.int .i64 0,.string ⟨#[]⟩,.slice none 0 0,.slice none 0 0]] w fun e w' => ∃ W' x1,ye W' x1 img∧W'.S=⟨true,4,V0⟩∧Lay x1 4 V0∧eI p W' bg 0 G w e w':=by
 obtain ⟨x1,h1,h2⟩:=AL (img:=img) hx
 have:=ka p W G (fL 0 ⟨#[]⟩ ⟨#[]⟩) x0 img w h n (.inl hs) rfl (by decide) rfl rfl
 rw [hs,h2] at this
 refine this.mono ?_
 rintro e w' ⟨W',k1,k2,k3⟩
 exact ⟨W',x1,k1,k2,h1,k3⟩
theorem Ib (p:Nat) (W:ia) (G:Nat→Prop) (x0 img:ByteArray) (w:World) (h:cB w p W G) (n:ye W x0 img) (hs:W.S=⟨true,4,V0⟩) (hx:Lay x0 4 V0):Calls prog 11 #[.pointer (some ⟨p,0,none⟩),.agg #[.int .i64 2,.string ⟨#[107]⟩,.string ⟨#[118]⟩,.int .i64 0,.int .i64 0,.int .i64 0,.string ⟨#[]⟩,.slice none 0 0,.slice none 0 0]] w fun e w' => ∃ W' x1,ye W' x1 img∧W'.S=⟨true,4,V1⟩∧Lay x1 4 V1∧eI p W' bg 0 G w e w':=by
 obtain ⟨x1,h1,h2⟩:=GQ (img:=img) hx
 have:=ka p W G (fL 2 kB vB) x0 img w h n (FN hx hs) rfl (by decide) rfl rfl
 rw [hs,h2] at this
 refine this.mono ?_
 rintro e w' ⟨W',k1,k2,k3⟩
 exact ⟨W',x1,k1,k2,h1,k3⟩
def gy:eH:=⟨⟨#[]⟩,[⟨kB,vB⟩],[],false⟩
theorem Kh (p:Nat) (W:ia) (G:Nat→Prop) (x0 img:ByteArray) (w:World) (h:cB w p W G) (n:ye W x0 img) (hs:W.S=⟨true,4,V1⟩) (hx:Lay x0 4 V1):Calls prog 11 #[.pointer (some ⟨p,0,none⟩),.agg #[.int .i64 5,.string ⟨#[]⟩,.string ⟨#[]⟩,.int .i64 0,.int .i64 0,.int .i64 0,.string ⟨#[]⟩,.slice none 0 0,.slice none 0 0]] w fun e w' => ∃ W',ye W' x0 img∧eI p W' gy 0 G w e w':=by
 have:=ka p W G (fL 5 ⟨#[]⟩ ⟨#[]⟩) x0 img w h n (FN hx hs) rfl (by decide) rfl rfl
 rw [hs,Ej] at this
 refine this.mono ?_
 rintro e w' ⟨W',k1,k2,k3⟩
 exact ⟨W',k1,k3⟩
structure Own (w w':World) (p:Nat) (W:ia) (G:Nat→Prop):Prop where
 at_:cB w' p W G
 below:Below w.heap.size w w'
 new : ∀ i,G i→w.heap.size≤i
theorem Own.aj {w w1 w2:World} {p:Nat} {W:ia} {G:Nat→Prop} (h:Own w w1 p W G) (hb:Below w1.heap.size w1 w2):Own w w2 p W G:=⟨h.at_.aj hb,gtr h.below hb,h.new⟩
theorem Own.step {w w1 w2:World} {p:Nat} {W W':ia} {G G':Nat→Prop} (h:Own w w1 p W G) (h2:cB w2 p W' G') (st:Step G G' w1 w2):Own w w2 p W' G' :=
 ⟨h2,h.below.trans (st.aH.below h.below.size fun i hi hg=>by have:=h.new i hg;omega),fun i hi=>(st.ik i hi).elim (h.new i) (fun hl=>Nat.le_trans h.below.size hl)⟩
theorem BI (w:World):Calls prog 9 #[] w fun e w'=>e=.returned (.bool true)∧Below w.heap.size w w':=by
 have HN:=zH (show Calls prog 16 #[.string ⟨#[97,98,99,100]⟩] w (qW Kw w) from pD Kw w (by decide))
 have HX:=zH (show Iy (ij Kw) from wS (by decide))
 have HM:=zH vC
 go_enter func9,ntmps9
 go_upto_region 2 with (go_at_call 16;refine HN.out.mono ?_;rintro e w1 ⟨p,W0,G0,rfl,hw,hb,hg,hc,hl,ok,hbusy,hq,hs⟩)
 have HO:=zH (zA (show Own w w1 p W0 G0 from ⟨hw,hb,hg⟩) (zA (FR hc hl ok hq (Js HX.out.size)) hs))
 clear hw hb hg hc hl ok hbusy hq hs HN
 generalize ij Kw=x0 at *
 go_upto_region 4 with (go_at_call 13;refine (HM.out _ _).mono ?_;rintro e w' ⟨rfl,rfl⟩)
 have HD:=zH (fun w' hb=>B6 p W0 G0 x0 x0 w' (HO.out.1.aj hb).at_ HO.out.2.1 HO.out.2.2 HX.out)
 go_upto_region 5 with (go_at_call 11;refine (HD.out _ zR).mono ?_;rintro e w2 ⟨W1,x1,n1,hs1,lay1,va,vc,vb,vd,rfl,o1,o2,G1,hw1,st1,m1,m2⟩)
 have HO1:=zH (zA ((HO.out.1.step hw1 st1).aj (ae zR (.cells #[.string bg.value,.slice va bg.bS.length vc,.slice vb bg.reads.length vd,.bool bg.lost] 34))) (zA n1 (zA hs1 lay1)))
 generalize Value.agg #[.string bg.value,.slice va bg.bS.length vc,.slice vb bg.reads.length vd,.bool bg.lost]=va1 at *
 generalize w2.alloc (.cells #[.string bg.value,.slice va bg.bS.length vc,.slice vb bg.reads.length vd,.bool bg.lost] 34)=wA at *
 clear n1 hs1 lay1 o1 o2 hw1 st1 m1 m2 HD HO HX
 have HD:=zH (Ib p W1 G1 x1 x0 wA HO1.out.1.at_ HO1.out.2.1 HO1.out.2.2.1 HO1.out.2.2.2)
 go_upto_region 6 with (go_at_call 11;refine HD.out.mono ?_;rintro e w3 ⟨W2,x2,n1,hs1,lay1,va,vc,vb,vd,rfl,o1,o2,G2,hw1,st1,m1,m2⟩)
 have HO2:=zH (zA ((HO1.out.1.step hw1 st1).aj (ae zR (.cells #[.string bg.value,.slice va bg.bS.length vc,.slice vb bg.reads.length vd,.bool bg.lost] 34))) (zA n1 (zA hs1 lay1)))
 generalize Value.agg #[.string bg.value,.slice va bg.bS.length vc,.slice vb bg.reads.length vd,.bool bg.lost]=va2 at *
 generalize w3.alloc (.cells #[.string bg.value,.slice va bg.bS.length vc,.slice vb bg.reads.length vd,.bool bg.lost] 34)=wB at *
 clear n1 hs1 lay1 o1 o2 hw1 st1 m1 m2 HD HO1
 have HD:=zH (Kh p W2 G2 x2 x0 wB HO2.out.1.at_ HO2.out.2.1 HO2.out.2.2.1 HO2.out.2.2.2)
 go_upto_region 7 with (go_at_call 11;refine HD.out.mono ?_;rintro e w4 ⟨W3,n1,va,vc,vb,vd,rfl,o1,o2,G3,hw1,st1,m1,m2⟩)
 have kD:=af w4 (.cells #[.string gy.value,.slice va gy.bS.length vc,.slice vb gy.reads.length vd,.bool gy.lost] 34)
 have HO3:=zH (zA ((HO2.out.1.step hw1 st1).aj (ae zR (.cells #[.string gy.value,.slice va gy.bS.length vc,.slice vb gy.reads.length vd,.bool gy.lost] 34))) (zA n1.calm.cells (aT.dd (o1.alloc (.cells #[.string gy.value,.slice va gy.bS.length vc,.slice vb gy.reads.length vd,.bool gy.lost] 34)))))
 have HK:=zH kD
 have hx4:x2.size=4096:=HO2.out.2.2.2.size
 have HH:=zH (Ei HO2.out.2.2.2)
 have HE:=zH (zA (M5 hx4) (LC hx4))
 generalize Value.agg #[.string gy.value,.slice va gy.bS.length vc,.slice vb gy.reads.length vd,.bool gy.lost]=va3 at *
 generalize w4.alloc (.cells #[.string gy.value,.slice va gy.bS.length vc,.slice vb gy.reads.length vd,.bool gy.lost] 34)=wC at *
 generalize w4.heap.size=bL at *
 clear n1 o1 o2 hw1 st1 m1 m2 HD HO2 kD
 have HC:=zH (tP p W3 G3 wC HO3.out.1.at_)
 rw [HO3.out.2.1] at HC
 go_upto_region 8 with (go_at_call 14;refine HC.out.mono ?_;rintro e w5 ⟨rfl,rfl⟩)
 go_upto_region 10 with fail
 have HS:=zH (xI (iT x2 4) w5 (eJ _ _))
 rw [HH.out.1] at HS
 have b10:(2048:Int)≤4096:=by decide
 go_upto_region 11 with (go_at_call 19;rw [HE.out.1];refine HS.out.mono ?_;rintro e w6 ⟨vr,rfl,o6,hb6⟩;obtain ⟨va5,vc5,rfl⟩:=bF o6)
 have HV:=zH (af w6 (.cells #[.bool V1.cn,.int .i64 V1.an,.slice va5 V1.aB.length vc5,.int .i64 V1.free] 52))
 have HB6:=zH (gtr hb6 (ae (Below.refl w6.heap.size w6) (.cells #[.bool V1.cn,.int .i64 V1.an,.slice va5 V1.aB.length vc5,.int .i64 V1.free] 52)))
 have HR:=zH (aT.dd (o6.alloc (.cells #[.bool V1.cn,.int .i64 V1.an,.slice va5 V1.aB.length vc5,.int .i64 V1.free] 52)))
 generalize Value.agg #[.bool V1.cn,.int .i64 V1.an,.slice va5 V1.aB.length vc5,.int .i64 V1.free]=va6 at *
 generalize w6.alloc (.cells #[.bool V1.cn,.int .i64 V1.an,.slice va5 V1.aB.length vc5,.int .i64 V1.free] 52)=wD at *
 generalize w6.heap.size=bV at *
 clear o6 hb6 HS HC
 obtain ⟨t,ht1,ht2⟩:=HH.out.2.2
 have HG:=zH (qg (dq x2 4 0) wD)
 rw [ht1,show pQ (some t) 200=.tuple #[.string t,.int .i64 0] from rfl] at HG
 have HT:=zH ht2
 clear ht1 ht2
 go_upto_region 12 with (go_at_call 25;rw [HE.out.2];refine HG.out.mono ?_;rintro e w7 ⟨rfl,hb7⟩)
 have HB7:=zH hb7
 have HG2:=zH (r7 (dq x2 4 0) w7)
 rw [HH.out.2.1,show qG (some (cR 1)) 1900=.tuple #[.agg #[.int .i64 0,.int .i64 1,.string ⟨#[]⟩,.string ⟨#[]⟩],.int .i64 0] from rfl] at HG2
 clear hb7 HG
 go_upto_region 13 with (go_at_call 26;rw [HE.out.2];refine HG2.out.mono ?_;rintro e w8 ⟨rfl,hb8⟩)
 have HRB:=zH (af w8 (.cells #[.int .i64 0,.int .i64 1,.string ⟨#[]⟩,.string ⟨#[]⟩] 74))
 have HB8:=zH (gtr hb8 (ae (Below.refl w8.heap.size w8) (.cells #[.int .i64 0,.int .i64 1,.string ⟨#[]⟩,.string ⟨#[]⟩] 74)))
 generalize w8.alloc (.cells #[.int .i64 0,.int .i64 1,.string ⟨#[]⟩,.string ⟨#[]⟩] 74)=wE at *
 generalize w8.heap.size=bR at *
 clear hb8 HG2
 have HBD:=zH (gtr HB7.out HB8.out)
 have kV:=aa HBD.out HV.out
 have c2:wE.cell? ⟨bV,2,none⟩=some (.slice va5 V1.aB.length vc5):=cell_of kV 2
 have HBU:=zH (oG _ V1.aB wE (HR.out.aj HBD.out) (by decide) (by
  intro r hr
  rw [show V1.aB=[⟨1,0,kB,vB⟩] from rfl,List.mem_singleton] at hr
  rw [hr]
  exact qK (by decide) (by decide) (by decide)))
 clear kV
 rw [B5] at HBU
 go_upto_region 14 with (go_at_call 27;refine HBU.out.mono ?_;rintro e w9 ⟨vp,rfl,o9,hb9⟩;obtain ⟨va9,vc9,rfl⟩:=bF o9)
 have HB9:=zH hb9
 have H9:=zH (aT.dd o9)
 clear hb9 o9 c2 HBU
 have HCN:=zH (p8 x2 w9 hx4)
 go_upto_region 15 with (go_at_call 28;refine HCN.out.mono ?_;rintro e w10 ⟨pc,rfl,hch,hb10,_⟩)
 have HB10:=zH hb10
 clear hch hb10 HCN
 have HL10:=zH (gtr HB6.out (gtr HBD.out (gtr HB9.out HB10.out)))
 have HVV:=zH (aa (gtr HBD.out (gtr HB9.out HB10.out)) HV.out)
 have HRR:=zH (aa (gtr HB9.out HB10.out) HRB.out)
 have HKK:=zH (aa HL10.out HK.out)
 have HLS:=zH (HO3.out.2.2.aj HL10.out)
 have HPS:=zH (H9.out.aj HB10.out)
 have HBW:=zH (gtr HO3.out.1.below HL10.out)
 have HFW:=zH (fun w' (hb:Below w10.heap.size w10 w')=>(show w'.cell? ⟨bL,1,none⟩=some (.slice va gy.bS.length vc)∧w'.cell? ⟨bV,0,none⟩=some (.bool true)∧w'.cell? ⟨bR,1,none⟩=some (.int .i64 1) from ⟨cell_of (aa hb HKK.out) 1,cell_of (aa hb HVV.out) 0,cell_of (aa hb HRR.out) 1⟩))
 have hnew:=aT.dd (vD (B:=0) (sz:=2) (n:=1) (af w10 (.cells #[.string ⟨#[107]⟩,.string ⟨#[118]⟩] 83)) zX rfl (by decide))
 have HP1:=zH (kq _ _ gy.bS [⟨kB,vB⟩] _ (HLS.out.aj (ae zR _)) hnew (by decide))
 rw [show decide (gy.bS=[⟨kB,vB⟩])=true from by decide +kernel] at HP1
 have HP2:=zH (fun w' (hb:Below w10.heap.size w10 w')=>(show Calls prog 22 #[.slice va9 1 vc9,.slice va gy.bS.length vc] w' (Fs true w') from by
  have:=kq _ _ [⟨kB,vB⟩] gy.bS w' (HPS.out.aj hb) (HLS.out.aj hb) (by decide)
  rw [show decide ([⟨kB,vB⟩]=gy.bS)=true from by decide +kernel] at this
  exact this))
 obtain ⟨c1,c2,c3⟩:=HFW.out w10 zR
 have ht:=HT.out
 clear hnew
 go_wp2_with (first
  | (go_at_call 13;refine (HM.out _ _).mono ?_;rintro e w' ⟨rfl,rfl⟩)
  | (go_at_call 22;(with_reducible refine HP1.out.mono ?_);rintro e w11 ⟨rfl,hb11⟩;obtain ⟨d1,d2,d3⟩:=HFW.out w11 (gtr (ae zR _) hb11))
  | (go_at_call 22;(with_reducible refine (HP2.out _ (gtr (ae zR _) hb11)).mono ?_);rintro e w12 ⟨rfl,hb12⟩))
 go_ret
 exact ⟨rfl,gtr HBW.out (gtr (gtr (ae zR _) hb11) hb12)⟩
end
section
open Go.RowKit
structure Bp where
 x:cd
 ba:Option Addr
 bc:Nat
 ra:Option Addr
 rc:Nat
def Bp.row (a:Bp):Array Value:=a.x.row a.ba a.bc a.ra a.rc
structure Bp.At (w:World) (a:Bp):Prop where
 busy:aU w a.ba a.x.busy
 Nc:a.ba=none→a.bc=0
 reads:aU w a.ra a.x.reads
 Ns:a.ra=none→a.rc=0
 Nb:a.x.busy.length * 8≤140737488355328
 Nr:a.x.reads.length * 8≤140737488355328
 Nq:a.x.reads.length≤a.rc
theorem Bp.At.aj {w w':World} {a:Bp} (h:a.At w) (hb:Below w.heap.size w w'):a.At w':=⟨h.busy.aj hb,h.Nc,h.reads.aj hb,h.Ns,h.Nb,h.Nr,h.Nq⟩
def DJ (w:World) (a:Option Addr) (us:List Bp):Prop :=
 ∀ i (h:i<us.length),us[i].At w ∧ ∃ b off,a=some ⟨b,off,none⟩ ∧ ∀ j u,us[i].row[j]? = some u→w.cell? ⟨b,off+i * 9+j,none⟩=some u
theorem DJ.aj {w w':World} {a:Option Addr} {us:List Bp} (h:DJ w a us) (hb:Below w.heap.size w w'):DJ w' a us:=fun i hi=>by
 obtain ⟨h1,b,off,ha,hc⟩:=h i hi
 exact ⟨h1.aj hb,b,off,ha,fun j u hu=>(hb.cell (p:=⟨b,off+i * 9+j,none⟩) (zL w _ (hc j u hu))).trans (hc j u hu)⟩
end
section
open Go.RowKit
theorem GO (p:aK) (ps:List aK) (j:ByteArray):gP (p::ps) j=if p.key=j then some p.value else gP ps j:=by
 unfold gP
 rw [List.find?_cons]
 by_cases e:p.key=j
 ·
  rw [decide_eq_true e,if_pos e]
 ·
  rw [decide_eq_false e,if_neg e]
end
end Go.Proofs.YtcfdenckiigdaaaGreat

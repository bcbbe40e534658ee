/- Part 21 of the contracts. -/
import Derived.Test.YtcfdenckiigdaaaGreatRd18
set_option linter.unusedVariables false
set_option maxRecDepth 100000
set_option maxHeartbeats 4000000
namespace Go.Proofs.YtcfdenckiigdaaaGreat
open Tryz Go.RowKit
section
open Go.RowKit
variable {X:Nat→Prop}
def rj (t:aG×Cache×List Int×Int) (S:aA) (p:fJ):aG×Cache×aA×List Int×Int :=
 if t.2.2.2≠0 then (t.1,t.2.1,shut,[],t.2.2.2) else (t.1,t.2.1,⟨true,p.av,iL S p⟩,t.2.2.1,0)
def vy (c:Int×fJ) (m:aG) (q:Cache) (S:aA) (reads:List Int):aG×Cache×aA×List Int×Int :=
 if c.1=2202 then (m,q,S,[],2303) else if c.1≠0 then (m,q,S,[],2304) else if cH reads=true then rj (dX m q c.2 reads) S c.2 else (m,q,S,[],1800)
def dV (m:aG) (q:Cache) (S:aA) (r:aX) (reads:List Int):aG×Cache×aA×List Int×Int:=vy (cA S.view S.av r) m q S reads
abbrev MQ (s:Nat) (S:aA) (r:aX) (a0:Option Addr) (cp0:Nat) (g:Nat) (w':World):Prop:=w'.cell? ⟨s,3,none⟩=some (.int .i64 S.av)∧w'.cell? ⟨s,4,none⟩=some (.bool S.view.ck)∧w'.cell? ⟨s,5,none⟩=some (.int .i64 S.view.an)∧w'.cell? ⟨s,6,none⟩=some (.slice a0 S.view.aC.length cp0)∧w'.cell? ⟨s,7,none⟩=some (.int .i64 S.view.free)∧w'.cell? ⟨g,0,none⟩=some (.int .i64 r.kind)∧w'.cell? ⟨g,1,none⟩=some (.int .i64 r.an)∧w'.cell? ⟨g,2,none⟩=some (.string r.key)∧w'.cell? ⟨g,3,none⟩=some (.string r.value)
theorem rk (s k c b cap:Nat) (m:aG) (q:Cache) (S:aA) (H:Nat→Prop) (r:aX) (a:Option Addr) (reads:List Int) (w:World) (h:Sys X w s k c b m q S H) (ok:m.Ok) (g:q.Good) (hh:0<m.ar.busy.length→m.ar.home<w.heap.size) (hi:aL w a reads H) (hcap:reads.length≤cap) (hm:reads.length≤1000000) (vk:S.view.Ok) (s0:4≤S.av) (s1:S.av<8) (hr:gW r):Calls prog 94 #[.pointer (some ⟨s,0,none⟩),.agg r.cells,.slice a reads.length cap] w (dK X s k c b (dV m q S r reads).1 (dV m q S r reads).2.1 (dV m q S r reads).2.2.1 (dV m q S r reads).2.2.2.1 (dV m q S r reads).2.2.2.2 H w):=by
 obtain ⟨a0,cp0,h1,h2⟩:=h.st
 have HCH:=zH (fun w' (hb:Below w.heap.size w w')=>tu S.view (.slice a0 S.view.aC.length cp0) S.av r w' (h2.at_.aj hb) vk hr s0 s1)
 obtain ⟨c0,c1,c2,c3,c4,c5,c6,c7,cf⟩:=tE h1
 have hsl:s<w.heap.size:=aO h1
 have H0:=zH (zA h (zA hi hh))
 have HQ:=zH (show dV m q S r reads=vy (cA S.view S.av r) m q S reads from rfl)
 have HOK:=zH (fun he=>pG vk s0 s1 hr he)
 have HFW:=zH (show S.view.aC.length≤100 from Nat.le_trans vk.len (by decide))
 clear h hi hh h1 h2
 unfold aX.cells at HCH ⊢
 have hbW:=ae (Below.refl w.heap.size w) (.cells #[.int .i64 r.kind,.int .i64 r.an,.string r.key,.string r.value] 74)
 have e0:=af w (.cells #[.int .i64 r.kind,.int .i64 r.an,.string r.key,.string r.value] 74)
 have hsz:(w.alloc (.cells #[.int .i64 r.kind,.int .i64 r.an,.string r.key,.string r.value] 74)).heap.size=w.heap.size+1:=by simp
 have hS : ∀ w',Below (w.alloc (.cells #[.int .i64 r.kind,.int .i64 r.an,.string r.key,.string r.value] 74)).heap.size (w.alloc (.cells #[.int .i64 r.kind,.int .i64 r.an,.string r.key,.string r.value] 74)) w'→MQ s S r a0 cp0 w.heap.size w':=fun w' hb=>by
  have hl1:s<(w.alloc (.cells #[.int .i64 r.kind,.int .i64 r.an,.string r.key,.string r.value] 74)).heap.size:=by rw [hsz];omega
  have e : ∀ i,w'.cell? ⟨s,i,none⟩=w.cell? ⟨s,i,none⟩:=fun i=>(hb.cell (p:=⟨s,i,none⟩) hl1).trans (hbW.cell (p:=⟨s,i,none⟩) hsl)
  obtain ⟨f0,f1,f2,f3,_⟩:=cC (aa hb e0)
  exact ⟨(e 3).trans c3,(e 4).trans c4,(e 5).trans c5,(e 6).trans c6,(e 7).trans c7,f0,f1,f2,f3⟩
 have HS:=zH hS
 have HBW:=zH hbW
 clear c0 c1 c2 c3 c4 c5 c6 c7 cf e0 hbW hS
 generalize cA S.view S.av r=ch at *
 go_enter func94,ntmps94
 go_upto_region 1 with fail
 generalize w.alloc (.cells #[.int .i64 r.kind,.int .i64 r.an,.string r.key,.string r.value] 74)=W at *
 have HSZ:=zH hsz
 clear hsz
 go_cut [8,9] from 11 to 23 (fun v8 v9 wx=>v9=.int .i64 ch.1 ∧ ∃ pb sa sc ra rc,v8=.pointer (some ⟨pb,0,none⟩)∧Below W.heap.size W wx∧D0 wx pb ch.2 (.slice sa ch.2.bJ.length sc) (.slice ra ch.2.aC.length rc)∧W.heap.size≤pb∧wx.ownsRow W.heap.size 3 1 (.slice sa ch.2.bJ.length sc) ch.2.bJ.length (aB ch.2.bJ)∧wx.ownsRow W.heap.size 74 4 (.slice ra ch.2.aC.length rc) ch.2.aC.length (bp ch.2.aC))
 case first =>
  refine wp_region_noPanic ?_
  refine wp_region_held_drew (S:=(MQ s S r a0 cp0 w.heap.size)) (by kernel_rfl) (by (try dsimp only);exact HS.out _ (au zR)) fun hHeld => ?_
  refine tk 0 ?_
  refine tk 1 ?_
  refine tk 2 ?_
  refine tk 3 ?_
  refine tk 4 ?_
  refine tk 5 ?_
  refine tk 6 ?_
  refine tk 7 ?_
  refine tk 8 ?_
  refine wpAnyH_ready (rs:=[9,13]) (by kernel_rfl) (by simp) ?_
  refine (AllReadyH.cons (o:=⟨some 21,.call ⟨.value (.func 133),#[.tmp 15,.tmp 19,.tmp 20],#[52,3,74]⟩,229, "store.go:168",#[⟨3,.data⟩,⟨7,.data⟩,⟨8,.data⟩],none⟩) rfl (fun K hK => ?_) (AllReadyH.cons (o:=⟨some 8,.alloc 228,0, "store.go:168",#[],none⟩) rfl (fun K hK => ?_) AllReadyH.nil))
  ·
   skip
   go_simp
   go_at_call 133
   have hw0:Below W.heap.size W W.drew:=au zR
   refine (HCH.out _ (gtr HBW.out hw0)).mono ?_
   rintro e w1 ⟨vs,vr,he,ho1,ho2,hb1⟩
   unfold pP at he
   obtain ⟨sa,sc,rfl⟩:=bG ho1
   obtain ⟨ra,rc,rfl⟩:=bG ho2
   subst he
   have hw1:Below W.heap.size W w1:=gtr hw0 hb1
   go_wp2_with fail
   refine hK.out _ _ (by (try dsimp only);exact HS.out _ hw1) fun hHeld => ?_
   clear hK K
   try simp only [Act.put,zS,zT,zU]
   refine tk 10 ?_
   refine tk 11 ?_
   refine tk 12 ?_
   refine tr 13 fun K hK => ?_
   go_simp
   refine hK.out _ _ (by (try dsimp only);exact HS.out _ (ae hw1 _)) fun hHeld => ?_
   clear hK K
   try simp only [Act.put,zS,zT,zU]
   refine tr 14 fun K hK => ?_
   have hz:=af w1 (.cells #[.int .i64 0,.int .i64 0,.slice none 0 0,.slice none 0 0,.int .i64 0,.int .i64 0] 228)
   have hw2:=ae hw1 (.cells #[.int .i64 0,.int .i64 0,.slice none 0 0,.slice none 0 0,.int .i64 0,.int .i64 0] 228)
   have hg1:=hw1.size
   have HO:=zH (zA (show w1.ownsRow W.heap.size 3 1 (.slice sa ch.2.bJ.length sc) ch.2.bJ.length (aB ch.2.bJ) from ho1) (show w1.ownsRow W.heap.size 74 4 (.slice ra ch.2.aC.length rc) ch.2.aC.length (bp ch.2.aC) from ho2))
   have HO2:=zH (zA (HO.out.1.alloc (.cells #[.int .i64 0,.int .i64 0,.slice none 0 0,.slice none 0 0,.int .i64 0,.int .i64 0] 228)) (HO.out.2.alloc (.cells #[.int .i64 0,.int .i64 0,.slice none 0 0,.slice none 0 0,.int .i64 0,.int .i64 0] 228)))
   have HN:=zH (zA (Ba HO.out.1) (Ba HO.out.2))
   have HZ:=zH (zA hz hw2)
   obtain ⟨z0,z1,z2,z3,z4,z5,zf⟩:=km hz
   clear ho1 ho2 hb1 hz hw2
   generalize w1.heap.size=pb at *
   generalize w1.alloc (.cells #[.int .i64 0,.int .i64 0,.slice none 0 0,.slice none 0 0,.int .i64 0,.int .i64 0] 228)=w2 at *
   go_simp
   refine hK.out _ _ (by (try dsimp only);exact HS.out _ (fQ HZ.out.2 hg1 _ _ _ _ _ _)) fun hHeld => ?_
   clear hK K
   try simp only [Act.put,zS,zT,zU]
   refine tk 15 ?_
   refine wpAnyH_done (by kernel_rfl) ?_ _
   refine NoPanic.normal ?_
   go_wp2
   go_meet
   exact ⟨rfl,pb,sa,sc,ra,rc,rfl,fQ HZ.out.2 hg1 _ _ _ _ _ _,vL HZ.out.1 _ _ _ _ _ _,hg1,kg HO2.out.1 HN.out.1 _ _ _ _ _ _,kg HO2.out.2 HN.out.2 _ _ _ _ _ _⟩
  ·
   skip
   go_simp
   refine hK.out _ _ (by (try dsimp only);exact HS.out _ (ae (au zR) _)) fun hHeld => ?_
   clear hK K
   try simp only [Act.put,zS,zT,zU]
   refine tr 9 fun K hK => ?_
   go_simp
   go_at_call 133
   have hw0:Below W.heap.size W (W.drew.alloc (.cells #[.int .i64 0,.int .i64 0,.slice none 0 0,.slice none 0 0,.int .i64 0,.int .i64 0] 228)):=ae (au zR) _
   refine (HCH.out _ (gtr HBW.out hw0)).mono ?_
   rintro e w1 ⟨vs,vr,he,ho1,ho2,hb1⟩
   unfold pP at he
   obtain ⟨sa,sc,rfl⟩:=bG ho1
   obtain ⟨ra,rc,rfl⟩:=bG ho2
   subst he
   have hz:=aa hb1 (af W.drew (.cells #[.int .i64 0,.int .i64 0,.slice none 0 0,.slice none 0 0,.int .i64 0,.int .i64 0] 228))
   have hw1:Below W.heap.size W w1:=gtr hw0 hb1
   go_wp2_with fail
   refine hK.out _ _ (by (try dsimp only);exact HS.out _ hw1) fun hHeld => ?_
   clear hK K
   try simp only [Act.put,zS,zT,zU]
   refine tk 10 ?_
   refine tk 11 ?_
   refine tk 12 ?_
   refine tr 14 fun K hK => ?_
   have HO:=zH (zA (bZ ho1) (zA (bZ ho2) (zA (eV ho1 hw0.size) (eV ho2 hw0.size))))
   have HZ:=zH (zA hz hw1)
   have hg1:=Nat.le_refl W.heap.size
   obtain ⟨z0,z1,z2,z3,z4,z5,zf⟩:=km (show w1.heap[W.heap.size]? = _ from hz)
   clear ho1 ho2 hb1 hz
   go_simp
   refine hK.out _ _ (by (try dsimp only);exact HS.out _ (fQ HZ.out.2 hg1 _ _ _ _ _ _)) fun hHeld => ?_
   clear hK K
   try simp only [Act.put,zS,zT,zU]
   refine tk 15 ?_
   refine wpAnyH_done (by kernel_rfl) ?_ _
   refine NoPanic.normal ?_
   go_wp2
   go_meet
   have n1:some W.heap.size≠(Value.slice sa ch.2.bJ.length sc).ownBlock:=fun e=>by
    have:=HO.out.1 _ e.symm
    simp at this
    omega
   have n2:some W.heap.size≠(Value.slice ra ch.2.aC.length rc).ownBlock:=fun e=>by
    have:=HO.out.2.1 _ e.symm
    simp at this
    omega
   exact ⟨rfl,W.heap.size,sa,sc,ra,rc,rfl,fQ HZ.out.2 hg1 _ _ _ _ _ _,vL HZ.out.1 _ _ _ _ _ _,hg1,kg HO.out.2.2.1 n1 _ _ _ _ _ _,kg HO.out.2.2.2 n2 _ _ _ _ _ _⟩
 case rest =>
  obtain ⟨rfl,pb,sa,sc,ra,rc,rfl,hbw,hpl,hpb,ho1,ho2⟩:=hcut
  have hb:=gtr HBW.out hbw
  have HSW:=zH hb.size
  have hHl : ∀ i,bS s H i→i<w.heap.size:=H0.out.1.lt
  have HP:=zH (show vT wc pb ch.2 sa sc ra rc (bS s H) from ⟨hpl,fun hm=>by have:=hHl _ hm;have:=HSZ.out;omega,⟨aU.cZ ho1,fun x o f e _ hm=>by
   have:=bZ ho1 x (by rw [e];rfl)
   have:=hHl _ hm
   have:=HSZ.out
   omega⟩,⟨aU.cZ ho2,fun x o f e _ hm=>by
   have:=bZ ho2 x (by rw [e];rfl)
   have:=hHl _ hm
   have:=HSZ.out
   omega⟩⟩)
  have H1:=zH (zA (H0.out.1.aj hb) (zA (H0.out.2.1.step (G':=H) (Step.ah hb)) (zA (show 0<m.ar.busy.length→m.ar.home<wc.heap.size from fun hl=>zV (H0.out.2.2 hl) hb.size) (show Step (bS s H) (bS s H) w wc from Step.ah hb))))
  clear H0 HCH HS HBW HSZ hbw hpl hpb ho1 ho2 hb hHl hsl vk s0 s1 hr
  replace HQ:=zH (show dV m q S r reads=if ch.1=2202 then (m,q,S,[],2303) else if ch.1≠0 then (m,q,S,[],2304) else if cH reads=true then rj (dX m q ch.2 reads) S ch.2 else (m,q,S,[],1800) from HQ.out)
  by_cases e1:ch.1=2202
  ·
   replace HQ:=zH (HQ.out.trans (if_pos e1))
   have e1':(ch.1 == 2202)=true:=beq_iff_eq.2 e1
   have HE:=zH e1
   clear e1
   go_wp2
   go_ret2
   rw [HQ.out]
   exact dK.none H1.out.1 H1.out.2.2.2 (show (2303:Int)≠0 by decide)
  ·
   replace HQ:=zH (HQ.out.trans (if_neg e1))
   have e1':(ch.1 == 2202)=false:=zQ e1
   by_cases e2:ch.1≠0
   ·
    replace HQ:=zH (HQ.out.trans (if_pos e2))
    have e2':(ch.1 != 0)=true:=bne_iff_ne.2 e2
    clear e1 e2
    go_wp2
    go_ret2
    rw [HQ.out]
    exact dK.none H1.out.1 H1.out.2.2.2 (show (2304:Int)≠0 by decide)
   ·
    replace HQ:=zH (HQ.out.trans (if_neg e2))
    have e2':(ch.1 != 0)=false:=by simpa using e2
    have HPK:=zH (HOK.out (by simpa using e2))
    clear e1 e2 HOK
    have HR:=zH (fun w' (hb:Below wc.heap.size wc w')=>oY a cap reads w' (H1.out.2.1.step (G':=H) (Step.ah hb)).1 hm)
    cases e3:cH reads with
    | false =>
     replace HQ:=zH (HQ.out.trans (if_neg (by rw [e3];decide)))
     rw [e3] at HR
     clear e3
     go_wp2_with (go_at_call 125;refine (HR.out _ zR).mono ?_;rintro e w1 ⟨rfl,n,rfl⟩)
     go_ret2
     have hb:=aY (Below.refl wc.heap.size wc) n
     rw [HQ.out]
     exact dK.none (H1.out.1.aj hb) (H1.out.2.2.2.trans (Step.ah hb)) (show (1800:Int)≠0 by decide)
    | true =>
     replace HQ:=zH (HQ.out.trans (if_pos e3))
     rw [e3] at HR
     have HE3:=zH e3
     clear e3
     have HW:=zH (fun n=>Bx s k c b cap pb m q S H ch.2 sa sc ra rc a reads (wc.drewN n) (H1.out.1.aj (aY zR n)) ok g (fun hl=>H1.out.2.2.1 hl) (H1.out.2.1.step (G':=H) (Step.ah (aY zR n))) hcap HE3.out ((HP.out.step (G:=H) ⟨(Step.ah (F:=bS s H) (aY zR n)).aH,fun i hi=>.inl (.inl hi)⟩)) HPK.out)
     have HX:=zH (fun n=>HP.out.step (G:=bS s H) (Step.ah (aY zR n)))
     generalize dX m q ch.2 reads=t at *
     obtain ⟨m1,q1,out,er⟩:=t
     unfold rj at HQ
     simp only at HW HQ
     go_upto_region 9 with (first
      | (go_at_call 125;refine (HR.out _ zR).mono ?_;rintro e w1 ⟨rfl,n,rfl⟩;have hn:=aY (Below.refl wc.heap.size wc) n)
      | (go_at_call 134;refine (HW.out _).mono ?_;rintro e w2 ⟨v,rfl,hv0,H2,hs2,st2,how⟩))
     have st0:=H1.out.2.2.2.trans ((Step.ah hn).trans st2.ln)
     have hsz:=H1.out.2.2.2.gP
     have HP2:=zH ((HX.out n).step st2.ln)
     have hfar : ∀ g,v.ownBlock=some g→er=0 → ¬ bS s H2 g:=fun g hg he hm=>by
      rcases hm with hm | rfl
      ·
       exact (how he).2 g hg hm
      ·
       have h1:=bZ (how he).1 g hg
       have h2:=(H1.out.1.aj hn).lt g (.inr rfl)
       omega
     have HW2:=zH (zA hs2 (zA st0 (zA how hfar)))
     clear hs2 st2 how hfar st0 hsz
     by_cases ke:er=0
     ·
      have HK:=zH ke
      subst ke
      replace HQ:=zH (HQ.out.trans (if_neg (by simp)))
      obtain ⟨oa,oc,rfl⟩:=bG (HW2.out.2.2.1 rfl).1
      have HO:=zH (zA (HW2.out.2.2.1 rfl).1 (fun g hg=>HW2.out.2.2.2 g hg rfl))
      obtain ⟨r0,r1,r2,r3,r4,r5,rf⟩:=km HP2.out.at_
      have HD:=zH (fun w' (hb:Below w2.heap.size w2 w')=>(hb.cell (p:=⟨pb,1,none⟩) (aO HP2.out.at_)).trans r1)
      have HB:=zH (fun w' (hb:Below w2.heap.size w2 w')=>sG s k c b pb m1 q1 S H2 ch.2 _ ra rc w' (HW2.out.1.aj hb) (aa hb HP2.out.at_) (HP2.out.aC.at_.aj hb) (Nat.le_trans HPK.out.KI (by decide)) HFW.out)
      have HC:=zH (fun w' (hb:Below w2.heap.size w2 w') va vc hr=>oS s k c b m1 q1 S H2 ch.2.av (iL S ch.2) va vc w' (HW2.out.1.aj hb) hr)
      clear r0 r2 r3 r4 r5 rf hv0
      go_upto_region 11 with fail
      go_region_with (first
       | (go_at_call 135;refine (HB.out _ (by first | exact au zR | exact Below.refl _ _)).mono ?_;rintro e w3 ⟨va,vc,rfl,ho3,hb3⟩;have hb4:=gtr (au (Below.refl w2.heap.size w2)) hb3;have d1:=HD.out _ hb4;have hr3:dS w3 va vc (iL S ch.2).aC (yR X s H2):=dS.cZ ho3 (fun i hi=>hi.elim (fun hm=>HW2.out.1.lt i hm) (fun h=>HW2.out.1.both.Gt i h));clear ho3 hb3)
       | (go_at_call 92;refine (HC.out _ hb4 _ _ hr3).mono ?_;rintro e w4 ⟨rfl,H3,hs3,st3⟩;have HF:=zH (zA hs3 ((Step.ah hb4).trans st3));clear hs3 st3 hb4 d1 hr3))
      all_goals
       go_wp2
       go_ret2
       rw [HQ.out]
       exact ⟨_,rfl,fun h=>absurd rfl h,H3,HF.out.1,HW2.out.2.1.trans HF.out.2,fun _=>⟨dE (eV HO.out.1 HSW.out) HF.out.2.aH HO.out.2,fun g hg=>HF.out.2.safe (lx HO.out.1 g hg) (HO.out.2 g hg)⟩⟩
     ·
      have HE:=zH ke
      have hne:(er != 0)=true:=bne_iff_ne.2 ke
      replace HQ:=zH (HQ.out.trans (if_pos ke))
      clear ke
      go_wp2_with (go_at_call 88;refine (nj s k c b m1 q1 S H2 er w2 HW2.out.1).mono ?_;rintro e w3 ⟨rfl,H3,hs3,st3⟩)
      go_ret2
      rw [HQ.out]
      exact dK.none hs3 (HW2.out.2.1.trans st3) HE.out
end
section
open Go.RowKit
variable {X:Nat→Prop}
def aA.Fit (S:aA):Prop:=S=shut∨(S.opened=true∧4≤S.av∧S.av<8∧S.view.Ok)
def jg (m:aG) (q:Cache) (S:aA) (key value:ByteArray) (reads:List Int):aG×Cache×aA×List Int×Int :=
 if cQ S key≠0 then (m,q,S,[],cQ S key) else if 20<value.size then (m,q,S,[],2301) else dV m q S ⟨1,0,key,value⟩ reads
def je (m:aG) (q:Cache) (S:aA) (key:ByteArray) (reads:List Int):aG×Cache×aA×List Int×Int :=
 if cQ S key≠0 then (m,q,S,[],cQ S key) else dV m q S ⟨2,0,key,⟨#[]⟩⟩ reads
theorem ic {S:aA} {key:ByteArray} (h:cQ S key=0):S.opened=true∧1≤key.size∧key.size≤6:=by
 unfold cQ at h
 split at h
 ·
  cases h
 ·
  rename_i ho
  split at h
  ·
   rename_i hk
   exact ⟨by simpa using ho,hk⟩
  ·
   cases h
theorem j6 {S:aA} (f:S.Fit) (h:S.opened=true):4≤S.av∧S.av<8∧S.view.Ok:=by
 rcases f with rfl | f
 ·
  cases h
 ·
  exact f.2
theorem qM {key value:ByteArray} (h1:1≤key.size) (h2:key.size≤6) (h3:value.size≤20):gW ⟨1,0,key,value⟩:=by
 refine ⟨?_,show (1:Int)≠0 by decide⟩
 unfold bD A1
 simp [h1,h2,h3]
theorem EI:lu ⟨#[]⟩=true:=by
 unfold lu
 rw [ByteArray.toList_eq]
 rfl
theorem wS {key:ByteArray} (h1:1≤key.size) (h2:key.size≤6):gW ⟨2,0,key,⟨#[]⟩⟩:=by
 refine ⟨?_,show (2:Int)≠0 by decide⟩
 unfold bD A1
 simp [h1,h2,EI]
theorem yd (s k c b cap:Nat) (m:aG) (q:Cache) (S:aA) (H:Nat→Prop) (key value:ByteArray) (a:Option Addr) (reads:List Int) (w:World) (h:Sys X w s k c b m q S H) (ok:m.Ok) (g:q.Good) (hh:0<m.ar.busy.length→m.ar.home<w.heap.size) (hi:aL w a reads H) (hcap:reads.length≤cap) (hm:reads.length≤1000000) (hv:value.size<140737488355328) (fit:S.Fit):Calls prog 59 #[.pointer (some ⟨s,0,none⟩),.string key,.string value,.slice a reads.length cap] w (dK X s k c b (jg m q S key value reads).1 (jg m q S key value reads).2.1 (jg m q S key value reads).2.2.1 (jg m q S key value reads).2.2.2.1 (jg m q S key value reads).2.2.2.2 H w):=by
 have HA:=zH (fun w h=>ot (X:=X) s k c b m q S H key w h)
 have HQ:=zH (show jg m q S key value reads=if cQ S key≠0 then (m,q,S,[],cQ S key) else if 20<value.size then (m,q,S,[],2301) else dV m q S ⟨1,0,key,value⟩ reads from rfl)
 have HC:=zH (fun he hl=>have hz:=ic he;have hf:=j6 fit hz.1;rk s k c b cap m q S H ⟨1,0,key,value⟩ a reads w h ok g hh hi hcap hm hf.2.2 hf.1 hf.2.1 (qM hz.2.1 hz.2.2 hl))
 have H0:=zH h
 clear h hi hh ok g fit hcap hm
 by_cases e1:cQ S key=0
 ·
  replace HQ:=zH (HQ.out.trans (if_neg (by simpa using e1)))
  replace HC:=zH (HC.out e1)
  rw [e1] at HA
  clear e1
  by_cases e2:20<value.size
  ·
   replace HQ:=zH (HQ.out.trans (if_pos e2))
   have e2':(20:Int)<value.size:=by omega
   clear e2
   go_enter func59,ntmps59
   go_wp2_with (go_at_call 93;refine (HA.out _ H0.out).mono ?_;rintro e w1 ⟨rfl,rfl⟩)
   go_ret2
   rw [HQ.out]
   exact dK.none H0.out (Step.refl _ _) (show (2301:Int)≠0 by decide)
  ·
   replace HQ:=zH (HQ.out.trans (if_neg e2))
   have e2' : ¬ (20:Int)<value.size:=by omega
   replace HC:=zH (HC.out (by omega))
   unfold aX.cells at HC
   clear e2
   go_enter func59,ntmps59
   go_wp2_with (first
    | (go_at_call 93;refine (HA.out _ H0.out).mono ?_;rintro e w1 ⟨rfl,rfl⟩)
    | (go_at_call 94;refine HC.out.mono ?_;rintro e w2 ⟨v,rfl,hr⟩;have HR:=zH hr;clear hr))
   go_ret2
   rw [HQ.out]
   exact ⟨_,rfl,HR.out⟩
 ·
  replace HQ:=zH (HQ.out.trans (if_pos e1))
  have hne:(cQ S key != 0)=true:=bne_iff_ne.2 e1
  have HE:=zH e1
  clear e1
  generalize cQ S key=er at *
  go_enter func59,ntmps59
  go_wp2_with (go_at_call 93;refine (HA.out _ H0.out).mono ?_;rintro e w1 ⟨rfl,rfl⟩)
  go_ret2
  rw [HQ.out]
  exact dK.none H0.out (Step.refl _ _) HE.out
theorem xY (s k c b cap:Nat) (m:aG) (q:Cache) (S:aA) (H:Nat→Prop) (key:ByteArray) (a:Option Addr) (reads:List Int) (w:World) (h:Sys X w s k c b m q S H) (ok:m.Ok) (g:q.Good) (hh:0<m.ar.busy.length→m.ar.home<w.heap.size) (hi:aL w a reads H) (hcap:reads.length≤cap) (hm:reads.length≤1000000) (fit:S.Fit):Calls prog 61 #[.pointer (some ⟨s,0,none⟩),.string key,.slice a reads.length cap] w (dK X s k c b (je m q S key reads).1 (je m q S key reads).2.1 (je m q S key reads).2.2.1 (je m q S key reads).2.2.2.1 (je m q S key reads).2.2.2.2 H w):=by
 have HA:=zH (fun w h=>ot (X:=X) s k c b m q S H key w h)
 have HQ:=zH (show je m q S key reads=if cQ S key≠0 then (m,q,S,[],cQ S key) else dV m q S ⟨2,0,key,⟨#[]⟩⟩ reads from rfl)
 have HC:=zH (fun he=>have hz:=ic he;have hf:=j6 fit hz.1;rk s k c b cap m q S H ⟨2,0,key,⟨#[]⟩⟩ a reads w h ok g hh hi hcap hm hf.2.2 hf.1 hf.2.1 (wS hz.2.1 hz.2.2))
 have H0:=zH h
 clear h hi hh ok g fit hcap hm
 by_cases e1:cQ S key=0
 ·
  replace HQ:=zH (HQ.out.trans (if_neg (by simpa using e1)))
  replace HC:=zH (HC.out e1)
  rw [e1] at HA
  unfold aX.cells at HC
  clear e1
  go_enter func61,ntmps61
  go_wp2_with (first
   | (go_at_call 93;refine (HA.out _ H0.out).mono ?_;rintro e w1 ⟨rfl,rfl⟩)
   | (go_at_call 94;refine HC.out.mono ?_;rintro e w2 ⟨v,rfl,hr⟩;have HR:=zH hr;clear hr))
  go_ret2
  rw [HQ.out]
  exact ⟨_,rfl,HR.out⟩
 ·
  replace HQ:=zH (HQ.out.trans (if_pos e1))
  have hne:(cQ S key != 0)=true:=bne_iff_ne.2 e1
  have HE:=zH e1
  clear e1
  generalize cQ S key=er at *
  go_enter func61,ntmps61
  go_wp2_with (go_at_call 93;refine (HA.out _ H0.out).mono ?_;rintro e w1 ⟨rfl,rfl⟩)
  go_ret2
  rw [HQ.out]
  exact dK.none H0.out (Step.refl _ _) HE.out
end
section
open Go.RowKit Go
section
variable {P:Program} {ops:Array Oper} {Q:Exit→Act→World→Prop} {md:Region.Mode} {S:World→Prop}
def rI (R done:List Nat):List Nat:=R.filter fun i => !done.contains i
theorem EC {R done:List Nat} {i:Nat} (hi:i ∈ R) (hd:i ∉ done):(rI R (done++[i])).length<(rI R done).length :=
 filter_lt (fun j => !done.contains j) (fun j => !(done++[i]).contains j) (fun x hx=>by
  simp only [List.contains_eq_mem,List.mem_append,Bool.not_eq_true',decide_eq_false_iff_not,not_or] at hx ⊢
  exact hx.1) i (by simpa using hd) (by simp) R hi
theorem th {R done:List Nat} {i:Nat}:i ∈ rI R done ↔ i ∈ R∧i ∉ done:=by
 unfold rI
 simp
def Kd (md:Region.Mode) (ops:Array Oper) (listed fin:Array Bool) (R:List Nat):Bool :=
 listed.size == ops.size&&fin.size == ops.size&&(List.range ops.size).all (fun j=>R.contains j || (listed.getD j true == fin.getD j true))&&R.all fun i=>decide (i<ops.size)&&(listed.getD i true == false)&&(fin.getD i false == true)&&match ops[i]? with | none=>false | some o=>o.dst.isNone&&o.after.all fun e => !Region.binds md e || (listed.getD e.on false && !R.contains e.on)
def De (md:Region.Mode) (ops:Array Oper) (listed:Array Bool) (R:List Nat):Bool :=
 (List.range ops.size).all fun j=>R.contains j || listed.getD j true || match ops[j]? with | none=>true | some o=>R.all fun i=>o.after.any fun e=>Region.binds md e&&e.on == i
theorem lW {listed fin:Array Bool} {R:List Nat} {a:Act} (hok:Kd md ops listed fin R=true) (honly:De md ops listed R=true) (hne:R≠[]) (Inv:List Nat→World→Prop) (hstep : ∀ done i w o,i ∈ R→i ∉ done→ops[i]? = some o→Inv done w→S w→Region.wanted o (yielded ops a.tmps)=true ∧ ∃ w',(execOp a.eval o).run P w=.ok .skip w'∧Inv (done++[i]) w'∧S w') {fuel:Nat} (hend : ∀ k done w,(∀ i ∈ R,i ∈ done)→Inv done w→S w→wpAnyH P md ops Q S (k+fuel) fin a w) {w:World} (h0:Inv [] w) (hS:S w):wpAnyH P md ops Q S (R.length+fuel) listed a w:=by
 unfold Kd at hok
 simp only [Bool.and_eq_true,beq_iff_eq,List.all_eq_true,List.mem_range,Bool.or_eq_true,List.contains_eq_mem,decide_eq_true_eq] at hok
 obtain ⟨⟨⟨hz,hzf⟩,hsame⟩,hR⟩:=hok
 unfold De at honly
 simp only [List.all_eq_true,List.mem_range,Bool.or_eq_true,List.contains_eq_mem,decide_eq_true_eq] at honly
 have hall : ∀ done,rI R done=[] → ∀ i ∈ R,i ∈ done:=fun done h0 i hi=>by
  by_cases hd:i ∈ done
  ·
   exact hd
  ·
   have:i ∈ rI R done:=th.2 ⟨hi,hd⟩
   rw [h0] at this
   cases this
 have hfin : ∀ (done:List Nat) (cur:Array Bool),cur.size=ops.size→(∀ j,j<ops.size→cur.getD j true=(listed.getD j true || (decide (j ∈ R)&&decide (j ∈ done))))→(∀ i ∈ R,i ∈ done)→cur=fin:=fun done cur hcz hc hall=>by
  refine Array.ext (by rw [hcz,hzf]) fun j h1 h2 => ?_
  have hj:j<ops.size:=by rw [← hcz];exact h1
  have e:=hc j hj
  rw [Array.getD_eq_getD_getElem?,Array.getElem?_eq_getElem h1] at e
  simp only [Option.getD_some] at e
  rw [e]
  by_cases hjR:j ∈ R
  ·
   have:=(hR j hjR).1.2
   rw [Array.getD_eq_getD_getElem?,Array.getElem?_eq_getElem h2] at this
   simp only [Option.getD_some] at this
   rw [this,decide_eq_true hjR,decide_eq_true (hall j hjR)]
   simp
  ·
   have:=(hsame j hj).resolve_left hjR
   rw [this,Array.getD_eq_getD_getElem?,Array.getElem?_eq_getElem h2,decide_eq_false hjR]
   simp
 have key : ∀ (n:Nat) (done:List Nat) (cur:Array Bool) (w:World),(rI R done).length≤n→cur.size=ops.size→(∀ j,j<ops.size→cur.getD j true=(listed.getD j true || (decide (j ∈ R)&&decide (j ∈ done))))→Inv done w→S w→wpAnyH P md ops Q S (n+fuel) cur a w:=by
  intro n
  induction n with
  | zero =>
   intro done cur w hn hcz hc hI hSw
   have h0:rI R done=[]:=List.length_eq_zero_iff.1 (by omega)
   have:=hfin done cur hcz hc (hall done h0)
   subst this
   exact hend 0 done w (hall done h0) hI hSw
  | succ m ih =>
   intro done cur w hn hcz hc hI hSw
   by_cases h0:rI R done=[]
   ·
    have:=hfin done cur hcz hc (hall done h0)
    subst this
    exact hend (m+1) done w (hall done h0) hI hSw
   ·
    rw [Nat.add_right_comm]
    show wpAnyH P md ops Q S (m+fuel+1) cur a w
    have hrdy : ∀ i,i ∈ R→i ∉ done→i ∈ Region.ready md ops cur:=fun i hi hd=>by
     have hRi:=hR i hi
     rw [mem_ready]
     refine ⟨by rw [hc i hRi.1.1.1,hRi.1.1.2,decide_eq_false hd];simp,?_⟩
     have:=hRi.2
     revert this
     cases ho:ops[i]? with
     | none=>intro h;cases h
     | some o =>
      intro h
      simp only [Bool.and_eq_true] at h
      refine ⟨o,rfl,fun e he hb => ?_⟩
      have h2:=Array.all_eq_true_iff_forall_mem.1 h.2 e he
      simp only [hb,Bool.not_true,Bool.false_or,Bool.and_eq_true,Bool.not_eq_true',decide_eq_false_iff_not] at h2
      have hlt:e.on<ops.size:=by
       rcases Nat.lt_or_ge e.on ops.size with h | h
       ·
        exact h
       ·
        have:=h2.1
        rw [Array.getD_eq_getD_getElem?,Array.getElem?_eq_none (by rw [hz];exact h)] at this
        cases this
      have h3:=hc e.on hlt
      rw [Array.getD_eq_getD_getElem?,Array.getElem?_eq_getElem (by rw [hcz];exact hlt)] at h3 ⊢
      have h4:=h2.1
      rw [Array.getD_eq_getD_getElem?,Array.getElem?_eq_getElem (by rw [hz];exact hlt)] at h4
      rw [Array.getD_eq_getD_getElem?,Array.getElem?_eq_getElem (by rw [hz];exact hlt)] at h3
      simp only [Option.getD_some] at h3 h4 ⊢
      rw [h3,h4,Bool.true_or]
    refine ⟨fun hr => ?_,fun i hi => ?_⟩
    ·
     exfalso
     obtain ⟨i,hi⟩:=List.exists_mem_of_ne_nil _ h0
     obtain ⟨h1,h2⟩:=th.1 hi
     have:=hrdy i h1 h2
     rw [hr] at this
     cases this
    ·
     obtain ⟨hun,o,ho,hdeps⟩:=mem_ready.1 hi
     have hlt:i<ops.size:=(Array.getElem?_eq_some_iff.1 ho).1
     rw [hc i hlt] at hun
     have hiR:i ∈ R:=by
      by_cases hiR:i ∈ R
      ·
       exact hiR
      ·
       exfalso
       rw [Bool.or_eq_false_iff] at hun
       rcases honly i hlt with (h | h) | h
       ·
        exact hiR h
       ·
        rw [hun.1] at h;cases h
       ·
        rw [ho] at h
        simp only [List.all_eq_true] at h
        obtain ⟨k,hk⟩:=List.exists_mem_of_ne_nil _ h0
        obtain ⟨h1,h2⟩:=th.1 hk
        obtain ⟨e,he,hb⟩:=Array.any_eq_true'.1 (h k h1)
        simp only [Bool.and_eq_true,beq_iff_eq] at hb
        have h3:=hdeps e he hb.1
        have hkl:k<ops.size:=(hR k h1).1.1.1
        rw [hb.2,Array.getD_eq_getD_getElem?,Array.getElem?_eq_getElem (by rw [hcz];exact hkl)] at h3
        have h4:=hc k hkl
        rw [Array.getD_eq_getD_getElem?,Array.getElem?_eq_getElem (by rw [hcz];exact hkl),(hR k h1).1.1.2,decide_eq_false h2] at h4
        simp only [Option.getD_some] at h3 h4
        rw [h3] at h4
        simp at h4
     have hid:i ∉ done:=by
      intro hd
      rw [decide_eq_true hiR,decide_eq_true hd] at hun
      simp at hun
     obtain ⟨hw,w',hrun,hI',hS'⟩:=hstep done i w o hiR hid ho hI hSw
     have hdst:o.dst=none:=by
      have:=(hR i hiR).2
      rw [ho] at this
      simp only [Bool.and_eq_true,Option.isNone_iff_eq_none] at this
      exact this.1
     unfold wpOp
     simp only [ho,hw,if_true]
     refine .inl ?_
     unfold Oper.wp
     rw [hrun,Oper.upon_skip,hdst]
     refine ⟨hS',?_⟩
     have hll:=EC hiR hid
     refine ih (done++[i]) (cur.setIfInBounds i true) w' (by omega) (by rw [Array.size_setIfInBounds,hcz]) (fun j hj => ?_) hI' hS'
     rw [Array.getD_eq_getD_getElem?,Array.getElem?_setIfInBounds]
     by_cases e:i=j
     ·
      subst e
      rw [if_pos rfl,if_pos (by rw [hcz];exact hj),decide_eq_true hiR,decide_eq_true (show i ∈ done++[i] by simp)]
      simp
     ·
      rw [if_neg e,← Array.getD_eq_getD_getElem?,hc j hj]
      have:decide (j ∈ done++[i])=decide (j ∈ done):=by
       have:j≠i:=fun h=>e h.symm
       simp [this]
      rw [this]
 exact key R.length [] listed w (List.length_filter_le _ _) hz (fun j hj=>by simp) h0 hS
end
structure pZ (w:World) (g:Nat) (ps:List (UInt8×Bool)):Prop where
 ex : ∃ es,w.heap[g]? = some (.map es ps.length)∧MapKept.Stamped es ps.length∧es.toList.map (fun e=>(e.key,e.val))=ps.map fun p=>(Value.string ⟨#[p.1]⟩,Value.bool p.2)
theorem pZ.keys {es:Array MapEntry} {ps:List (UInt8×Bool)} (h:es.toList.map (fun e=>(e.key,e.val))=ps.map fun p=>(Value.string ⟨#[p.1]⟩,Value.bool p.2)) {e:MapEntry} (he:e ∈ es.toList) : ∃ p ∈ ps,e.key=.string ⟨#[p.1]⟩∧e.val=.bool p.2:=by
 have:(e.key,e.val) ∈ es.toList.map (fun e=>(e.key,e.val)):=List.mem_map.2 ⟨e,he,rfl⟩
 rw [h] at this
 obtain ⟨p,hp,hq⟩:=List.mem_map.1 this
 simp only [Prod.mk.injEq] at hq
 exact ⟨p,hp,hq.1.symm,hq.2.symm⟩
theorem pZ.insert {P:Program} {mty kt et:TypeId} (hm:P.underlying mty=some (.map kt et)) (hk:P.underlying kt=some .string) {w:World} {g:Nat} {ps:List (UInt8×Bool)} (h:pZ w g ps) (p:UInt8×Bool) (hp:p.1 ∉ ps.map Prod.fst) : ∃ w',(Instr.mapUpdate mty (.map (some g)) (.string ⟨#[p.1]⟩) (.bool p.2)).run P w=.ok () w'∧pZ w' g (ps++[p]) ∧ ∀ N w0,Below N w0 w→N≤g→Below N w0 w':=by
 obtain ⟨es,hb,hs,he⟩:=h.ex
 have hne : ∀ x ∈ es.toList,x.key≠.string ⟨#[p.1]⟩:=fun x hx=>by
  obtain ⟨q,hq,h1,_⟩:=pZ.keys he hx
  rw [h1]
  intro e
  simp only [Value.string.injEq,ByteArray.mk.injEq,Array.mk.injEq,List.cons.injEq,and_true] at e
  exact hp (List.mem_map.2 ⟨q,hq,e⟩)
 have hik : ∀ x ∈ es.toList,MapKept.IsKey .string x.key:=fun x hx=>by
  obtain ⟨q,hq,h1,_⟩:=pZ.keys he hx
  rw [h1]
  simp [MapKept.IsKey]
 have hf:Instr.findNow .string (.string ⟨#[p.1]⟩) es.toList 0=some none:=by
  rcases MapKept.findNow_spec (d:=.string) (k:=.string ⟨#[p.1]⟩) (by simp [MapKept.IsKey]) es.toList 0 hik with h | ⟨j,e,_,h2,h3⟩
  ·
   exact h.1
  ·
   exact absurd h3 (hne e (List.mem_of_getElem? h2))
 have hc:(Instr.checkKey false 10000 kt (.string ⟨#[p.1]⟩)).run P w=.ok () w:=MapKept.run_checkKey (k:=.string ⟨#[p.1]⟩) hk (by simp [MapKept.IsKey]) false 9999
 have hlt:g<w.heap.size:=(Array.getElem?_eq_some_iff.1 hb).1
 refine ⟨{ w with heap:=w.heap.setIfInBounds g (.map (es.push { key:=.string ⟨#[p.1]⟩,val:=.bool p.2,born:=ps.length }) (ps.length+1)) },?_,?_,fun N w0 hbl hN => ?_⟩
 ·
  simp [Instr.mapUpdate,run_underlying hm,MapKept.run_getObj_map hb,hc,MapKept.run_findKey hk hf,MapKept.run_setObj_map _ hb,Result.andThen]
 ·
  refine ⟨⟨_,by rw [List.length_append];exact (MapKept.heap_set hb).1,by rw [List.length_append];exact MapKept.stamped_push hs hne,by simp [he]⟩⟩
 ·
  refine ⟨hbl.os,hbl.tape,hbl.output,by rw [Array.size_setIfInBounds];exact hbl.size,fun k hkN => ?_⟩
  rw [Array.getElem?_setIfInBounds_ne (by omega)]
  exact hbl.block k hkN
end
def kJ (s:ByteArray):ag:=⟨s,false,false,false,false,false,none,[],⟨0,0,false,0,0,false⟩,0,0,0,0,0,false,[],0,0,false,0⟩
def r7 (s:ByteArray):Raw:=⟨s,false,false,0,0,0,0,0,0,0,0,0,0,0,⟨#[]⟩,false,false,false,none,.slice none 0 0,⟨0,0,false,0,0,false⟩,0,0,0,0,0,false,.slice none 0 0,0,0,false⟩
theorem JD {w:World} {c:Nat} {s:ByteArray} (h:aV w c (r7 s)):aT w c (kJ s) (aN c):=by
 refine ⟨⟨r7 s,h,⟨rfl,rfl,rfl,rfl,rfl,rfl,rfl,rfl,rfl,rfl,rfl,rfl,rfl,rfl,rfl,rfl,.inl ⟨rfl,rfl,rfl⟩⟩,?_,⟨none,0,rfl,fun i hi => ?_,fun b o e => ?_,fun _=>rfl,Nat.le_refl _,fun b o e => ?_⟩,zN,rfl,fun b e => ?_,fun g e => ?_⟩,fun b hb => ?_⟩
 ·
  rfl
 ·
  simp [kJ] at hi
 ·
  simp at e
 ·
  simp at e
 ·
  simp [r7] at e
 ·
  simp [r7,Value.ownBlock] at e
 ·
  rw [show b=c from hb];exact h.lt
theorem p7 (s:ByteArray) (w:World) (hs:s.size=4096):Calls prog 28 #[.string s] w fun e w' => ∃ c,e=.returned (.tuple #[.pointer (some ⟨c,0,none⟩),.int .i64 0])∧aT w' c (kJ s) (aN c)∧Below w.heap.size w w'∧w.heap.size≤c:=by
 have HM:=zH (l6 s w)
 rw [decide_eq_true hs] at HM
 go_enter func28,ntmps28
 go_wp2_with fail
 refine HM.out.mono ?_
 rintro e w1 ⟨rfl,rfl⟩
 go_wp2
 go_ret2
 exact ⟨w1.heap.size,rfl,JD (af w1 _),ae zR _,Nat.le_refl _⟩
def lp (k:Int):ByteArray:=if k=0 then ⟨#[114,108]⟩ else if k=2 then ⟨#[107,118,114,108]⟩ else if k=3 then ⟨#[107,108]⟩ else if k=4 then ⟨#[107,114,108]⟩ else if k=6 then ⟨#[98,108]⟩ else if k=7 then ⟨#[]⟩ else ⟨#[108]⟩
theorem CV (k:Int) (w:World):Calls prog 84 #[.int .i64 k] w fun e w'=>e=.returned (.string (lp k))∧w=w':=by
 unfold lp
 by_cases h0:k=0
 ·
  subst h0;go_enter func84,ntmps84;go_wp2_with fail;go_ret;exact ⟨rfl,rfl⟩
 by_cases h2:k=2
 ·
  subst h2;go_enter func84,ntmps84;go_wp2_with fail;go_ret;exact ⟨rfl,rfl⟩
 by_cases h3:k=3
 ·
  subst h3;go_enter func84,ntmps84;go_wp2_with fail;go_ret;exact ⟨rfl,rfl⟩
 by_cases h4:k=4
 ·
  subst h4;go_enter func84,ntmps84;go_wp2_with fail;go_ret;exact ⟨rfl,rfl⟩
 by_cases h6:k=6
 ·
  subst h6;go_enter func84,ntmps84;go_wp2_with fail;go_ret;exact ⟨rfl,rfl⟩
 by_cases h7:k=7
 ·
  subst h7;go_enter func84,ntmps84;go_wp2_with fail;go_ret;exact ⟨rfl,rfl⟩
 rw [if_neg h0,if_neg h2,if_neg h3,if_neg h4,if_neg h6,if_neg h7]
 have e0:(k == 0)=false:=zQ h0
 have e2:(k == 2)=false:=zQ h2
 have e3:(k == 3)=false:=zQ h3
 have e4:(k == 4)=false:=zQ h4
 have e6:(k == 6)=false:=zQ h6
 have e7:(k == 7)=false:=zQ h7
 clear h0 h2 h3 h4 h6 h7
 go_enter func84,ntmps84
 go_wp2
 go_ret
 exact ⟨rfl,rfl⟩
def cv (l u:Int) (xs:List Int):Bool:=xs.all (fun x=>decide (l≤x)&&decide (x≤u))&&decide (xs.length≤16)
theorem lY (l u:Int) (a:Option Addr) (cap:Nat) (xs:List Int) (w:World) (h:aP w a xs) (hm:xs.length≤4611686018427387904):Calls prog 51 #[.int .i64 l,.int .i64 u,.slice a xs.length cap] w fun e w'=>e=.returned (.bool (cv l u xs))∧w=w':=by
 have H:=zH h
 clear h
 go_enter func51,ntmps51
 go_wp2
 go_loopg [11] xs.length (fun n i wr => ∃ j:Nat,n=xs.length - j∧i=.int .i64 j∧j≤xs.length∧wr=w∧(xs.take j).all (fun x=>decide (l≤x)&&decide (x≤u))=true)
 case atStart=>exact ⟨0,rfl,rfl,Nat.zero_le _,rfl,rfl⟩
 case round =>
  obtain ⟨j,hgn,rfl,hj,rfl,ha⟩:=hrel
  have HGN:=zH hgn
  have HB:=zH (zA hgn ha)
  clear hgn ha
  by_cases hlt:j<xs.length
  ·
   have hlt':(j:Int)<(xs.length:Int):=by omega
   obtain ⟨b,o,rfl,hc⟩:=H.out j hlt
   have HT:=zH (show (xs.take (j+1)).all (fun x=>decide (l≤x)&&decide (x≤u))=(decide (l≤xs[j])&&decide (xs[j]≤u)) by
    rw [List.take_succ_eq_append_getElem hlt,List.all_append,HB.out.2];simp)
   have HV:=zH (show (decide (l≤xs[j])&&decide (xs[j]≤u))=false→cv l u xs=false from fun hf=>by
    unfold cv
    rw [Bool.and_eq_false_iff]
    left
    rw [List.all_eq_false]
    exact ⟨xs[j],List.getElem_mem hlt,by rw [hf];decide⟩)
   rw [show xs.getD j 0=xs[j] by rw [List.getD_eq_getElem?_getD,List.getElem?_eq_getElem hlt];rfl] at hc
   generalize xs[j]=x at *
   by_cases k1:x<l
   ·
    replace HV:=zH (HV.out (by rw [decide_eq_false (show ¬ l≤x by omega)];rfl))
    go_wp2
    go_ret
    rw [HV.out]
    exact ⟨rfl,rfl⟩
   ·
    have k1':decide (x<l)=false:=decide_eq_false k1
    by_cases k2:u<x
    ·
     replace HV:=zH (HV.out (by rw [decide_eq_false (show ¬ x≤u by omega),Bool.and_false]))
     go_wp2
     go_ret
     rw [HV.out]
     exact ⟨rfl,rfl⟩
    ·
     have k2':decide (u<x)=false:=decide_eq_false k2
     replace HT:=zH (HT.out.trans (show (decide (l≤x)&&decide (x≤u))=true by rw [decide_eq_true (show l≤x by omega),decide_eq_true (show x≤u by omega)];rfl))
     go_wp2
     go_roundg (xs.length - (j+1))
     case measure=>have:=HGN.out;omega
     case rel=>exact ⟨j+1,rfl,by go_num,by omega,rfl,HT.out⟩
  ·
   obtain rfl:j=xs.length:=by omega
   have HV:=zH (show cv l u xs=decide (xs.length≤16) by
    unfold cv
    have:=HB.out.2
    rw [List.take_length] at this
    rw [this];rfl)
   by_cases h16:xs.length≤16
   ·
    have h16':(xs.length:Int)≤16:=by omega
    rw [decide_eq_true h16] at HV
    go_wp2
    go_ret
    rw [HV.out]
    exact ⟨rfl,rfl⟩
   ·
    have h16' : ¬ (xs.length:Int)≤16:=by omega
    rw [decide_eq_false h16] at HV
    go_wp2
    go_ret
    rw [HV.out]
    exact ⟨by simp,rfl⟩
structure cG where
 kind:Int
 key:ByteArray
 value:ByteArray
 at_:Int
 width:Int
 cj:Int
 mask:ByteArray
 busy:List Int
 reads:List Int
def cG.row (x:cG) (ba:Option Addr) (bc:Nat) (ra:Option Addr) (rc:Nat):Array Value := #[.int .i64 x.kind,.string x.key,.string x.value,.int .i64 x.at_,.int .i64 x.width,.int .i64 x.cj,.string x.mask,.slice ba x.busy.length bc,.slice ra x.reads.length rc]
def fS (w:World) (p:Nat) (x:cG) (ba:Option Addr) (bc:Nat) (ra:Option Addr) (rc:Nat):Prop:=w.heap[p]? = some (.cells (x.row ba bc ra rc) 31 (0,0))
def pe (x:cG):Bool:=decide (x.key.size≤12)&&decide (x.value.size≤40)&&decide (x.mask.size≤16)
theorem Dp (p:Nat) (x:cG) (ba:Option Addr) (bc:Nat) (ra:Option Addr) (rc:Nat) (w:World) (h:fS w p x ba bc ra rc):Calls prog 52 #[.pointer (some ⟨p,0,none⟩)] w fun e w'=>e=.returned (.bool (pe x))∧w=w':=by
 have c1:w.cell? ⟨p,1,none⟩=some (.string x.key):=cell_of h 1
 have c2:w.cell? ⟨p,2,none⟩=some (.string x.value):=cell_of h 2
 have c6:w.cell? ⟨p,6,none⟩=some (.string x.mask):=cell_of h 6
 clear h
 unfold pe
 by_cases k1:x.key.size≤12
 ·
  have k1':(x.key.size:Int)≤12:=by omega
  by_cases k2:x.value.size≤40
  ·
   have k2':(x.value.size:Int)≤40:=by omega
   by_cases k3:x.mask.size≤16
   ·
    have k3':(x.mask.size:Int)≤16:=by omega
    rw [decide_eq_true k1,decide_eq_true k2,decide_eq_true k3]
    clear k1 k2 k3
    go_enter func52,ntmps52
    go_wp2
    go_ret
    exact ⟨rfl,rfl⟩
   ·
    have k3' : ¬ (x.mask.size:Int)≤16:=by omega
    rw [decide_eq_true k1,decide_eq_true k2,decide_eq_false k3]
    clear k1 k2 k3
    go_enter func52,ntmps52
    go_wp2
    go_ret
    exact ⟨rfl,rfl⟩
  ·
   have k2' : ¬ (x.value.size:Int)≤40:=by omega
   rw [decide_eq_true k1,decide_eq_false k2,Bool.and_false,Bool.false_and]
   clear k1 k2
   go_enter func52,ntmps52
   go_wp2
   go_ret
   exact ⟨rfl,rfl⟩
 ·
  have k1' : ¬ (x.key.size:Int)≤12:=by omega
  rw [decide_eq_false k1,Bool.false_and,Bool.false_and]
  clear k1
  go_enter func52,ntmps52
  go_wp2
  go_ret
  exact ⟨rfl,rfl⟩
end Go.Proofs.YtcfdenckiigdaaaGreat

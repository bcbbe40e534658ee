/- Part 32 of the contracts. -/
import Derived.Test.YtcfdenckiigdaaaGreatFl31
set_option linter.unusedVariables false
set_option maxRecDepth 100000
set_option maxHeartbeats 4000000
namespace Go.Proofs.YtcfdenckiigdaaaGreat
open Tryz
section
open Go.RowKit
def cR (e:Int):aX:=⟨0,e,⟨#[]⟩,⟨#[]⟩⟩
def pJ (b:aG×Int) (q:Cache) (n ep:Int) (out:List Int):aG×Cache×aA×List Int×Int :=
 if b.2≠0 then (b.1,q,shut,[],b.2) else (b.1,q,⟨true,n,⟨true,ep,[],1⟩⟩,out,0)
def ru (t:aG×Cache×List Int×Int) (n ep:Int):aG×Cache×aA×List Int×Int :=
 if t.2.2.2≠0 then (t.1,t.2.1,shut,[],t.2.2.2) else pJ (t.1.dZ (bZ n 0) (aL (cR ep))) t.2.1 n ep t.2.2.1
def vx (m:aG) (q:Cache) (sec ep:Int) (reads:List Int):aG×Cache×aA×List Int×Int :=
 if 1048576≤ep then (m,q,shut,[],2304) else ru (jf m q (fM sec) reads) (fM sec) (ep+1)
def og (o:Option (Int×bB)):Int:=match o with | none=>7 | some x=>x.1
def qz (o:Option (Int×bB)):Int:=match o with | none=>0 | some x=>x.2.an
def rq (l:aG×Option (Int×bB)×Int) (q:Cache) (reads:List Int):aG×Cache×aA×List Int×Int :=
 if l.2.2≠0 then (l.1,q,shut,[],l.2.2) else vx l.1 q (og l.2.1) (qz l.2.1) reads
def cX (m:aG) (q:Cache) (reads:List Int):aG×Cache×aA×List Int×Int:=rq (fE m) q reads
def dK (s k c b:Nat) (m:aG) (q:Cache) (S:aA) (out:List Int) (er:Int) (H:Nat→Prop) (w:World) (e:Ending) (w':World):Prop :=
 ∃ v,e=.returned (.tuple #[v,.int .i64 er])∧(er≠0→v=.slice none 0 0) ∧ ∃ H',Sys (fun _=>False) w' s k c b m q S H'∧Step (bK s H) (bK s H') w w'∧(er=0→w'.ownsRow w.heap.size 3 1 v out.length (aC out) ∧ ∀ g,v.ownBlock=some g → ¬ bK s H' g)
theorem dK.none {s k c b:Nat} {m:aG} {q:Cache} {S:aA} {er:Int} {H H':Nat→Prop} {w w':World} (h:Sys (fun _=>False) w' s k c b m q S H') (st:Step (bK s H) (bK s H') w w') (he:er≠0):dK s k c b m q S [] er H w (.returned (.tuple #[.slice none 0 0,.int .i64 er])) w' :=
 ⟨_,rfl,fun _=>rfl,H',h,st,fun h0=>absurd h0 he⟩
theorem CE : ∀ (n:Nat) (j:Int) (m:aG) (vs:List bB),m.Ok→0≤j→(j+n) * 512≤4096→(gQ n j m vs).1.Ok∧bG m (gQ n j m vs).1
 | 0,j,m,vs,ok,h0,h1=>⟨ok,bG.refl m⟩
 | n+1,j,m,vs,ok,h0,h1=>by
  have o1:=zk ok (j * 512) 512 (by omega) (by omega) (by omega) (by omega)
  have h2:=oO m (j * 512) 512
  unfold gQ
  split
  ·
   exact ⟨o1,h2⟩
  ·
   have:=CE n (j+1) _ (vs++[iM (m.cT (j * 512) 512).2.1]) o1 (by omega) (by omega)
   exact ⟨this.1,h2.trans this.2⟩
theorem xg {m:aG} (ok:m.Ok):(fE m).1.Ok∧bG m (fE m).1:=by
 have o1:=zO ok
 have h1:=o8 m
 unfold fE
 split
 ·
  exact ⟨o1,h1⟩
 ·
  have:=CE 4 4 m.dV.1 [] o1 (by omega) (by omega)
  unfold ux
  split <;> exact ⟨this.1,h1.trans this.2⟩
theorem aN.wide {w:World} {a:Option Addr} {xs:List Int} {G:Nat→Prop} (h:aN w a xs G):aN w a xs (fun i=>G i∨w.heap.size≤i):=by
 refine ⟨h.1,fun b o e hl hg => ?_⟩
 rcases hg with hg | hg
 ·
  exact h.2 b o e hl hg
 ·
  obtain ⟨b2,o2,g1,g2⟩:=h.1 0 hl
  rw [e] at g1
  obtain ⟨rfl,rfl⟩:b=b2∧o=o2:=by simpa using g1
  have:=zL w _ g2
  simp only at this
  omega
theorem aN.mono {w:World} {a:Option Addr} {xs:List Int} {F G:Nat→Prop} (h:aN w a xs F) (hG : ∀ i,G i→F i):aN w a xs G:=⟨h.1,fun b o e hl hg=>h.2 b o e hl (hG b hg)⟩
theorem aN.new {w w':World} {a:Option Addr} {xs:List Int} {G F:Nat→Prop} (h:aN w a xs G) (t:Touch F w w') (hF : ∀ i,F i→w.heap.size≤i):aN w' a xs G :=
 (h.wide.step (G':=fun i=>G i∨w.heap.size≤i) (Step.dD (t.mono fun i hi=>.inr (hF i hi)))).mono fun i hi=>.inl hi
theorem rK {n:Int} (h0:4≤n) (h1:n<8):4≤fM n∧fM n<8:=by unfold fM;split <;> omega
theorem qZ.lp {X:Nat→Prop} {s k c b:Nat} {m:aG} {q:Cache} {S:aA} {H:Nat→Prop} {w w':World} (h:qZ X s k c b m q S H w w') : ∃ H',Sys X w' s k c b m q S H'∧Step (bK s H) (bK s H') w w':=by
 obtain ⟨H',h1,h2⟩:=h
 exact ⟨H',h1,h2.lp⟩
theorem AN (s k c b cap:Nat) (m:aG) (q:Cache) (S:aA) (H:Nat→Prop) (a:Option Addr) (reads:List Int) (w:World) (h:Sys (fun _=>False) w s k c b m q S H) (ok:m.Ok) (kn:m.kS) (hh:0<m.ar.busy.length→m.ar.home<w.heap.size) (hi:aN w a reads H) (hcap:reads.length≤cap) (hm:reads.length≤1000000):Calls prog 57 #[.pointer (some ⟨s,0,none⟩),.slice a reads.length cap] w (dK s k c b (cX m q reads).1 (cX m q reads).2.1 (cX m q reads).2.2.1 (cX m q reads).2.2.2.1 (cX m q reads).2.2.2.2 H w):=by
 have HL:=zH (xh s k c b m q S H w h ok kn hh)
 have HLO:=zH (fun sec V => @look_ok m sec V)
 obtain ⟨okl,hml⟩:=xg ok
 have HI:=zH (zA hi (zA okl (fun (w':World) (h:w.heap.size≤w'.heap.size) (hl:0<(fE m).1.ar.busy.length)=>by
  have h1:=hh (zV hl hml.2)
  have h2:(fE m).1.ar.home<w'.heap.size:=by rw [hml.1];omega
  exact h2)))
 unfold cX
 generalize fE m=lr at *
 obtain ⟨m',o,er⟩:=lr
 simp only at HL HLO HI
 have HC:=zH (fun m q H er w (h:Sys (fun _=>False) w s k c b m q S H)=>nu s k c b m q S H er w h)
 have HO:=zH (fun m q H sec V va vc w (h:Sys (fun _=>False) w s k c b m q S H) hv=>oX s k c b m q S H sec V va vc w h hv)
 clear h ok kn hh okl hml hi
 go_enter func57,ntmps57
 go_wp2_with fail
 refine HL.out.mono ?_
 rintro e w1 ⟨va,vc,rfl,H',hs,st,hr⟩
 have HS:=zH (zA hs (zA st (HI.out.1.step st)))
 clear hs st hr HL
 by_cases k1:er=0
 ·
  subst k1
  have HSEC:=zH (show 4≤og o∧og o<8∧0≤qz o∧qz o=(o.getD (0,cH)).2.an∧og o=(if o.isSome=true then (o.getD (0,cH)).1 else 7) by
   cases o with
   | none=>exact ⟨by decide,by decide,by decide,rfl,rfl⟩
   | some x =>
    obtain ⟨h0,h1,h2⟩:=HLO.out x.1 x.2 rfl
    exact ⟨h0,h1,by have:=h2.an;show 0≤x.2.an;omega,rfl,rfl⟩)
  have HR:=zH (show rq (m',o,0) q reads=vx m' q (og o) (qz o) reads from if_neg (by simp))
  clear HLO
  generalize og o=sc at *
  generalize qz o=ep at *
  generalize o.isSome=oi at *
  generalize o.getD (0,cH)=p at *
  obtain ⟨sec,V⟩:=p
  simp only at HSEC ⊢
  obtain rfl:ep=V.an:=HSEC.out.2.2.2.1
  have hep:=HSEC.out.2.2.1
  have HN:=zH (ae (Below.refl w1.heap.size w1) (.cells #[.bool V.cn,.int .i64 V.an,.slice va V.aB.length vc,.int .i64 V.free] 52))
  have HV:=zH (af w1 (.cells #[.bool V.cn,.int .i64 V.an,.slice va V.aB.length vc,.int .i64 V.free] 52))
  have hlt:=aP HV.out
  have HB:=zH (zA (HS.out.1.aj HN.out) (zA ((HS.out.2.1.lp (s:=s)).trans (Step.ah HN.out)) (HS.out.2.2.step (Step.ah HN.out))))
  have HG:=zH (show Sys (aO w1.heap.size) _ s k c b m' q S H' from HS.out.1.grow (Touch.ah HN.out) (fun i hi=>hi.elim) (fun _ hi=>hi.elim) (fun i hi=>.inr (by rw [show i=w1.heap.size from hi];exact ⟨Nat.le_refl _,hlt⟩)))
  have HGD:=zH (show (∀ i,aO w1.heap.size i → ¬ bK s H' i)∧(0<m'.ar.busy.length → ¬ aO w1.heap.size m'.ar.home) from ⟨fun i hi hm=>by
   have:=HS.out.1.lt i hm
   rw [show i=w1.heap.size from hi] at this;omega,fun hl hx=>by
   have:=HI.out.2.2 w1 HS.out.2.1.aH.size hl
   rw [show m'.ar.home=w1.heap.size from hx] at this;omega⟩)
  go_upto_if 26 with fail
  generalize w1.alloc (.cells #[.bool V.cn,.int .i64 V.an,.slice va V.aB.length vc,.int .i64 V.free] 52)=w2 at *
  generalize hg:w1.heap.size=g at *
  go_cut [6] from 26 to 26 (fun v wx=>v=.int .i64 sc∧wx=w2)
  case first =>
   have h5:=HSEC.out.2.2.2.2
   cases oi with
   | true =>
    obtain rfl:sc=sec:=by simpa using h5
    clear h5
    go_wp2
    go_meet
    exact ⟨rfl,rfl⟩
   | false =>
    obtain rfl:sc=7:=by simpa using h5
    clear h5
    go_wp2
    go_meet
    exact ⟨rfl,rfl⟩
  case rest =>
   obtain ⟨rfl,hwc⟩:=hcut
   subst hwc
   obtain ⟨wa,hwa⟩ : ∃ wa,wa=wc:=⟨_,rfl⟩
   subst hwa
   have HN2:=zH (show Below w1.heap.size w1 wa by rw [hg];exact HN.out)
   clear HN
   obtain ⟨d0,d1,d2,d3,df⟩:=cF HV.out
   by_cases k2:1048576≤V.an
   ·
    replace HR:=zH (HR.out.trans (if_pos k2))
    go_wp2_with fail
    refine (HC.out _ _ _ 2304 _ HB.out.1).mono ?_
    rintro e w3 ⟨rfl,H2,h2,st2⟩
    have HF:=zH (zA h2 (HB.out.2.1.trans st2))
    clear h2 st2
    go_wp2
    go_ret2
    rw [HR.out]
    exact dK.none HF.out.1 HF.out.2 (show (2304:Int)≠0 by decide)
   ·
    replace HR:=zH (HR.out.trans (if_neg k2))
    have hn:=rK HSEC.out.1 HSEC.out.2.1
    have HNX:=zH (fun w=>o7 sc w (by have:=HSEC.out.1;omega) (by have:=HSEC.out.2.1;omega))
    have hw1:IntKind.i64.wrap (V.an+1)=V.an+1:=du (by omega) (by omega)
    have HW1:=zH hw1
    clear hw1
    generalize fM sc=n at *
    go_upto_region 10 with fail
    go_cut [6] from 32 to 37 (fun v wx=>v=.int .i64 n∧wx.heap[g]? = some (.cells #[.bool true,.int .i64 (V.an+1),.slice none 0 0,.int .i64 1] 52 (0,0))∧Touch (aO g) wa wx)
    case first =>
     go_region_with (go_at_call 89;refine (HNX.out _).mono ?_;rintro e w' ⟨rfl,rfl⟩)
     all_goals
      rw [HW1.out]
      go_wp2
      go_meet
      exact ⟨rfl,aa (au zR) (fb HV.out _ _ _ _),(cW wa g _ _ _ _).drew⟩
    case rest =>
     obtain ⟨rfl,hgx,htx⟩:=hcut
     have hgw:w.heap.size≤g:=by rw [← hg];exact HS.out.2.1.aH.size
     have hx0 : ∀ i,aO g i→w1.heap.size≤i:=fun i hi=>by rw [show i=g from hi,hg];exact Nat.le_refl _
     have HS2:=zH (zA (HG.out.grow (Y:=fun _=>False) htx HGD.out.1 HGD.out.2 (fun i hi=>hi.elim)) (zA (show Step (bK s H) (bK s H') w wc from ⟨HB.out.2.1.aH.then htx (fun i hi=>.inr (by rw [show i=g from hi];exact hgw)),HB.out.2.1.ik⟩) (zA (HS.out.2.2.new ((Touch.ah HN2.out).trans htx) hx0) hgx)))
     have hsz:w.heap.size≤wc.heap.size:=HS2.out.2.1.aH.size
     have HWT:=zH (fun w' (hb:Below wc.heap.size wc w')=>Ak s k c b cap m' q S H' n a reads w' (HS2.out.1.aj hb) HI.out.2.1 (HS2.out.2.2.1.step (Step.ah hb)) hcap hm (HI.out.2.2 w' (Nat.le_trans hsz hb.size)) hn.1 hn.2)
     have HTO:=zH (DE HI.out.2.1 (q:=q) n hn.1 hn.2 reads)
     have hgH : ¬ bK s H' g:=HGD.out.1 g rfl
     have HGH:=zH hgH
     generalize jf m' q n reads=t at *
     obtain ⟨m2,q2,out,er2⟩:=t
     simp only at HWT HTO
     obtain ⟨a0,cp0,h1,h2⟩:=HS2.out.1.st
     obtain ⟨c0,c1,c2,c3,c4,c5,c6,c7,cf⟩:=tH h1
     clear h1 h2 c2 c3 c4 c5 c6 c7 d0 d1 d2 d3 df hgx htx hx0 hgH
     go_upto_region 11 with fail
     go_cut [9,10] from 38 to 51 (fun v9 v10 wx=>v9=.int .i64 er2 ∧ ∃ H2,Sys (fun _=>False) wx s k c b m2 q2 S H2∧Step H' H2 wc wx∧(er2=0→wx.ownsRow wc.heap.size 3 1 v10 out.length (aC out) ∧ ∀ g,v10.ownBlock=some g → ¬ H2 g))
     case first =>
      go_region_with (go_at_call 90;refine (HWT.out _ (au zR)).mono ?_;rintro e w' ⟨v,rfl,hv0,H2,hs2,st2,how⟩;have HQ:=zH (zA hs2 (zA ((Step.ah (au zR)).trans st2) how));clear hs2 st2 how hv0)
      all_goals
       go_wp2
       go_meet
       exact ⟨rfl,H2,HQ.out.1,HQ.out.2.1,HQ.out.2.2⟩
     case rest =>
      obtain ⟨wb,hwb⟩ : ∃ wb,wb=wc:=⟨_,rfl⟩
      obtain ⟨rfl,H2,hs2,st2,how⟩:=hcut
      have HS3:=zH (zA hs2 (zA (HS2.out.2.1.trans st2.lp) (st2.aH.at HS2.out.2.2.2 (fun h=>HGH.out (.inl h)))))
      have HOW:=zH (zA how (zA (st2.lp.safe (aP HS2.out.2.2.2) HGH.out) (aP (HS2.out.1.st.choose_spec.choose_spec.1))))
      clear hs2 st2 how hwb
      obtain ⟨d0,d1,d2,d3,df⟩:=cF HS3.out.2.2
      by_cases k3:er2=0
      ·
       subst k3
       have HR2:=zH (show ru (m2,q2,out,0) n (V.an+1)=pJ (m2.dZ (bZ n 0) (aL (cR (V.an+1)))) q2 n (V.an+1) out from if_neg (by simp))
       have hrm:bC (cR (V.an+1))=true:=by
        unfold bC cR
        rw [if_pos rfl]
        simp only [oM,lu]
        simp
        omega
       have HBU:=zH (fun w h=>tV (X:=fun _=>False) s k c b m2 q2 S H2 n 0 (cR (V.an+1)) w h HTO.out hn.1 hn.2 (by decide) (by decide) hrm)
       rw [show (cR (V.an+1)).cells = #[.int .i64 0,.int .i64 (V.an+1),.string ⟨#[]⟩,.string ⟨#[]⟩] from rfl] at HBU
       clear hrm
       generalize m2.dZ (bZ n 0) (aL (cR (V.an+1)))=br at *
       obtain ⟨m3,er3⟩:=br
       simp only at HBU
       go_wp2_with fail
       refine (HBU.out _ HS3.out.1).mono ?_
       rintro e w3 ⟨rfl,H3,hs3,st3⟩
       have HS4:=zH (zA hs3 (zA (HS3.out.2.1.trans st3.lp) st3))
       have HVW:=zH (st3.aH.at HS3.out.2.2 (fun h=>HOW.out.2.1 (.inl h)))
       clear hs3 st3 d0 d1 d2 d3 df c0 c1 cf
       obtain ⟨d0,d1,d2,d3,df⟩:=cF HVW.out
       by_cases k4:er3=0
       ·
        subst k4
        have HR3:=zH (show pJ (m3,0) q2 n (V.an+1) out=(m3,q2,⟨true,n,⟨true,V.an+1,[],1⟩⟩,out,0) from if_neg (by simp))
        go_wp2_with fail
        refine (HO.out _ _ _ n ⟨true,V.an+1,[],1⟩ none 0 _ HS4.out.1 (dU.nil _ _)).mono ?_
        rintro e w4 ⟨rfl,H4,hs4,st4⟩
        have HS5:=zH (zA hs4 (zA (HS4.out.2.1.trans st4) ((HS4.out.2.2.lp (s:=s)).trans st4)))
        clear hs4 st4
        go_wp2
        go_ret2
        rw [HR.out,HR2.out,HR3.out]
        have how:=HOW.out.1 (by trivial)
        have hfar : ∀ y,u10.ownBlock=some y → ¬ bK s H2 y:=fun y hy hm=>by
         have h1:=bQ how.1 y hy
         rcases hm with hm | hm
         ·
          exact how.2 y hy hm
         ·
          have:=HOW.out.2.2;omega
        exact ⟨_,rfl,fun h0=>absurd rfl h0,H4,HS5.out.1,HS5.out.2.1,fun _=>⟨eX (dE how.1 HS5.out.2.2.aH hfar) hsz,fun y hy=>HS5.out.2.2.safe (lx how.1 y hy) (hfar y hy)⟩⟩
       ·
        have hne:(er3 != 0)=true:=bne_iff_ne.2 k4
        have HR3:=zH (show pJ (m3,er3) q2 n (V.an+1) out=(m3,q2,shut,[],er3) from if_pos k4)
        have HE:=zH k4
        clear k4
        go_wp2_with fail
        refine (HC.out _ _ _ er3 _ HS4.out.1).mono ?_
        rintro e w4 ⟨rfl,H4,hs4,st4⟩
        have HS5:=zH (zA hs4 (HS4.out.2.1.trans st4))
        clear hs4 st4
        go_wp2
        go_ret2
        rw [HR.out,HR2.out,HR3.out]
        exact dK.none HS5.out.1 HS5.out.2 HE.out
      ·
       have hne:(er2 == 0)=false:=zQ k3
       have hne2:(er2 != 0)=true:=bne_iff_ne.2 k3
       have HR2:=zH (show ru (m2,q2,out,er2) n (V.an+1)=(m2,q2,shut,[],er2) from if_pos k3)
       have HE:=zH k3
       clear k3
       go_wp2_with fail
       refine (HC.out _ _ _ er2 _ HS3.out.1).mono ?_
       rintro e w3 ⟨rfl,H3,h3,st3⟩
       have HF:=zH (zA h3 (HS3.out.2.1.trans st3))
       clear h3 st3
       go_wp2
       go_ret2
       rw [HR.out,HR2.out]
       exact dK.none HF.out.1 HF.out.2 HE.out
 ·
  have hne:(er != 0)=true:=bne_iff_ne.2 k1
  have HR:=zH (show rq (m',o,er) q reads=(m',q,shut,[],er) from if_pos k1)
  have HE:=zH k1
  generalize o.isSome=oi at *
  generalize o.getD (0,cH)=p at *
  obtain ⟨sec,V⟩:=p
  simp only
  clear k1
  have HN:=zH (ae (Below.refl w1.heap.size w1) (.cells #[.bool V.cn,.int .i64 V.an,.slice va V.aB.length vc,.int .i64 V.free] 52))
  go_wp2_with fail
  refine (HC.out _ _ _ er _ (HS.out.1.aj HN.out)).mono ?_
  rintro e w2 ⟨rfl,H2,h2,st2⟩
  have HF:=zH (zA h2 (((HS.out.2.1.lp (s:=s)).trans (Step.ah HN.out)).trans st2))
  clear h2 st2
  go_wp2
  go_ret2
  rw [HR.out]
  exact dK.none HF.out.1 HF.out.2 HE.out
end
section
open Go.RowKit
variable {X:Nat→Prop}
def bB.Kt (V:bB):Prop:=V.aB.length≤7 ∧ ∀ r ∈ V.aB,gW r
theorem oh (s k c b:Nat) (m:aG) (q:Cache) (S:aA) (H:Nat→Prop) (w:World) (h:Sys X w s k c b m q S H) (ok:S.view.Kt):Calls prog 96 #[.pointer (some ⟨s,0,none⟩)] w fun e w' => ∃ v,e=.returned v∧w'.ownsRow w.heap.size 83 2 v (cz S.view.aB).length (aE (cz S.view.aB))∧Below w.heap.size w w':=by
 obtain ⟨a,cp,h1,h2⟩:=h.st
 have HB:=zH (oG (.slice a S.view.aB.length cp) S.view.aB w h2.at_ (by have:=ok.1;omega) ok.2)
 obtain ⟨c0,c1,c2,c3,c4,c5,c6,c7,cf⟩:=tH h1
 clear h h1 h2 ok c0 c1 c2 c3 c4 c5 c7
 go_enter func96,ntmps96
 go_wp2_with fail
 refine HB.out.mono ?_
 rintro e w1 ⟨v,rfl,ho,hb⟩
 have HS:=zH (zA ho hb)
 clear ho hb
 go_wp2
 go_ret
 exact ⟨v,rfl,HS.out⟩
def wV (S:aA) (key:ByteArray):ByteArray×Int:=if cS S key≠0 then (⟨#[]⟩,cS S key) else match gP (cz S.view.aB) key with | none=>(⟨#[]⟩,2303) | some v=>(v,0)
theorem xQ (s k c b:Nat) (m:aG) (q:Cache) (S:aA) (H:Nat→Prop) (key:ByteArray) (w:World) (h:Sys X w s k c b m q S H) (ok:S.view.Kt):Calls prog 60 #[.pointer (some ⟨s,0,none⟩),.string key] w fun e w'=>e=.returned (.tuple #[.string (wV S key).1,.int .i64 (wV S key).2])∧Below w.heap.size w w':=by
 have HA:=zH (oC s k c b m q S H key w h)
 have HL:=zH (oh s k c b m q S H w h ok)
 have hbl:(cz S.view.aB).length≤100:=by
  have:=(dx _ S.view.aB rfl ok.2).2;have:=ok.1;omega
 have HF:=zH (fun v w h=>qa v (cz S.view.aB) key w h (by omega))
 have HR:=zH (show wV S key=if cS S key≠0 then (⟨#[]⟩,cS S key) else match gP (cz S.view.aB) key with | none=>(⟨#[]⟩,2303) | some v=>(v,0) from rfl)
 clear h ok
 generalize wV S key=gr at *
 generalize cS S key=er at *
 generalize gP (cz S.view.aB) key=fl at *
 generalize cz S.view.aB=ps at *
 go_enter func60,ntmps60
 go_wp2_with fail
 refine HA.out.mono ?_
 rintro e w1 ⟨rfl,rfl⟩
 by_cases k1:er=0
 ·
  subst k1
  replace HR:=zH (HR.out.trans (if_neg (by simp)))
  go_wp2_with fail
  refine HL.out.mono ?_
  rintro e w1 ⟨v,rfl,ho,hb⟩
  have HS:=zH (zA ho hb)
  clear ho hb
  obtain ⟨xa,xc,rfl⟩:=bF HS.out.1
  go_wp2_with fail
  refine (HF.out _ _ (aT.dd HS.out.1)).mono ?_
  rintro e w2 ⟨rfl,hb⟩
  have HS2:=zH (gtr HS.out.2 hb)
  clear hb
  cases fl with
  | none =>
   simp only [Option.getD_none,Option.isSome_none]
   go_wp2
   go_ret2
   rw [HR.out]
   exact ⟨rfl,HS2.out⟩
  | some x =>
   simp only [Option.getD_some,Option.isSome_some]
   go_wp2
   go_ret2
   rw [HR.out]
   exact ⟨rfl,HS2.out⟩
 ·
  have hne:(er != 0)=true:=bne_iff_ne.2 k1
  replace HR:=zH (HR.out.trans (if_pos k1))
  clear k1
  go_wp2
  go_ret2
  rw [HR.out]
  exact ⟨rfl,Below.refl _ _⟩
def lO (S:aA):List aK×Int:=if S.opened=true then (cz S.view.aB,0) else ([],2302)
theorem vi (s k c b:Nat) (m:aG) (q:Cache) (S:aA) (H:Nat→Prop) (w:World) (h:Sys X w s k c b m q S H) (ok:S.view.Kt):Calls prog 62 #[.pointer (some ⟨s,0,none⟩)] w fun e w' => ∃ v,e=.returned (.tuple #[v,.int .i64 (lO S).2])∧w'.ownsRow w.heap.size 83 2 v (lO S).1.length (aE (lO S).1)∧Below w.heap.size w w':=by
 have HL:=zH (oh s k c b m q S H w h ok)
 obtain ⟨a,cp,h1,h2⟩:=h.st
 obtain ⟨c0,c1,c2,c3,c4,c5,c6,c7,cf⟩:=tH h1
 clear h ok h1 h2 c0 c1 c3 c4 c5 c6 c7
 unfold lO
 cases hs:S.opened with
 | false =>
  rw [hs] at c2
  rw [if_neg (by decide)]
  go_enter func62,ntmps62
  go_wp2
  go_ret2
  exact ⟨_,rfl,zN,Below.refl _ _⟩
 | true =>
  rw [hs] at c2
  rw [if_pos rfl]
  go_enter func62,ntmps62
  go_wp2_with fail
  refine HL.out.mono ?_
  rintro e w1 ⟨v,rfl,ho,hb⟩
  have HS:=zH (zA ho hb)
  clear ho hb
  go_wp2
  go_ret2
  exact ⟨v,rfl,HS.out⟩
end
section
open Go.RowKit
variable {X:Nat→Prop}
def DS (w:World) (b:Nat) (p:fW) (vs vr:Value):Prop:=w.heap[b]? = some (.cells (pR p vs vr) 228 (0,0))
def dI (r:aX):Bool:=r.kind != 0
def iN (S:aA) (p:fW):bB:=⟨true,p.an,(if p.dH<0 then S.view.aB else [])++p.aB.filter dI,p.free⟩
structure gO (w wr:World) (ep free:Int) (rs:List aX):Prop where
 below:Below w.heap.size w wr
 res:wr.heap[w.heap.size]? = some (.cells #[.bool false,.int .i64 0,.slice none 0 0,.int .i64 0] 52 (0,0))
 row : ∃ v,wr.heap[w.heap.size+1]? = some (.cells #[.bool true,.int .i64 ep,v,.int .i64 free] 52 (0,0))∧wr.ownsRow w.heap.size 74 4 v rs.length (bp rs)
theorem gO.put {w w2:World} {ep free:Int} {v v':Value} {rs:List aX} (hb:Below w.heap.size w w2) (e1:w2.heap[w.heap.size]? = some (.cells #[.bool false,.int .i64 0,.slice none 0 0,.int .i64 0] 52 (0,0))) (e2:w2.heap[w.heap.size+1]? = some (.cells #[.bool true,.int .i64 ep,v,.int .i64 free] 52 (0,0))) (ho:w2.ownsRow w.heap.size 74 4 v' rs.length (bp rs)):gO w (w2.setCell ⟨w.heap.size+1,2,none⟩ v') ep free rs :=
 ⟨lh hb (by simp) _,by rw [Below.heap_setCell _ _ _ _ (show w.heap.size≠w.heap.size+1 by omega)];exact e1,v',az (i:=2) (v:=v') e2,eY ho (cP ho e2 (by decide)) _⟩
theorem gO.aj {w wr w2:World} {ep free:Int} {rs:List aX} (h:gO w wr ep free rs) (hb:Below wr.heap.size wr w2):gO w w2 ep free rs:=by
 obtain ⟨v,h1,h2⟩:=h.row
 exact ⟨gtr h.below hb,aa hb h.res,v,aa hb h1,World.ownsRow.aj h2 hb⟩
def DL (V:bB) (w:World) (e:Ending) (w':World):Prop := ∃ va vc,e=.returned (.agg #[.bool V.cn,.int .i64 V.an,.slice va V.aB.length vc,.int .i64 V.free])∧w'.ownsRow w.heap.size 74 4 (.slice va V.aB.length vc) V.aB.length (bp V.aB)∧Below w.heap.size w w'
theorem sF (s k c b pb:Nat) (m:aG) (q:Cache) (S:aA) (H:Nat→Prop) (p:fW) (vs:Value) (ra:Option Addr) (rc:Nat) (w:World) (h:Sys X w s k c b m q S H) (hp:DS w pb p vs (.slice ra p.aB.length rc)) (hr:aT w (.slice ra p.aB.length rc) p.aB.length 4 (bp p.aB)) (hn:p.aB.length≤100) (ho:S.view.aB.length≤100):Calls prog 135 #[.pointer (some ⟨s,0,none⟩),.pointer (some ⟨pb,0,none⟩)] w (DL (iN S p) w):=by
 obtain ⟨a,cp,h1,h2⟩:=h.st
 have HCL:=zH (fun w h=>uZ (.slice a S.view.aB.length cp) S.view.aB w h (by omega))
 have H0:=zH (zA hp (zA hr (zA h2.at_ h1)))
 obtain ⟨c0,c1,c2,c3,c4,c5,c6,c7,cf⟩:=tH h1
 obtain ⟨p0,p1,p2,p3,p4,p5,pf⟩:=kp hp
 have hpl:pb<w.heap.size:=aP hp
 have hsl:s<w.heap.size:=aP h1
 have hbB:=ae (Below.refl w.heap.size w) (.cells #[.bool false,.int .i64 0,.slice none 0 0,.int .i64 0] 52)
 have e4:=(hbB.cell (p:=⟨pb,4,none⟩) hpl).trans p4
 have e5:=(hbB.cell (p:=⟨pb,5,none⟩) hpl).trans p5
 have hres:=af w (.cells #[.bool false,.int .i64 0,.slice none 0 0,.int .i64 0] 52)
 have hsz:(w.alloc (.cells #[.bool false,.int .i64 0,.slice none 0 0,.int .i64 0] 52)).heap.size=w.heap.size+1:=by simp
 have HB:=zH (zA hbB hres)
 clear h hp hr h1 h2 c0 c1 c2 c3 c4 c5 c6 c7 cf p0 p1 p2 p3 p4 p5 pf hbB hres
 go_enter func135,ntmps135
 go_upto_region 1 with fail
 generalize w.alloc (.cells #[.bool false,.int .i64 0,.slice none 0 0,.int .i64 0] 52)=W at *
 have hne:W.heap.size≠pb:=by omega
 have hne2:pb≠W.heap.size:=by omega
 have hlp:pb<W.heap.size:=by omega
 go_region_held3 (fun w'=>w'.cell? ⟨pb,4,none⟩=some (.int .i64 p.free)∧w'.cell? ⟨pb,5,none⟩=some (.int .i64 p.an)) (first | go_keep | exact ⟨(World.cell?_alloc_lt _ _ _ hlp).trans e4,(World.cell?_alloc_lt _ _ _ hlp).trans e5⟩) (fail)
 have hbW:Below w.heap.size w (W.alloc (.cells #[.bool true,.int .i64 p.an,.slice none 0 0,.int .i64 p.free] 52)).drew:=au (ae HB.out.1 _)
 have hrow:(W.alloc (.cells #[.bool true,.int .i64 p.an,.slice none 0 0,.int .i64 p.free] 52)).drew.heap[w.heap.size+1]? = some (.cells #[.bool true,.int .i64 p.an,.slice none 0 0,.int .i64 p.free] 52 (0,0)):=by
  rw [← hsz];exact af W _
 have hres2:=aa (au (ae (Below.refl W.heap.size W) (.cells #[.bool true,.int .i64 p.an,.slice none 0 0,.int .i64 p.free] 52))) HB.out.2
 generalize (W.alloc (.cells #[.bool true,.int .i64 p.an,.slice none 0 0,.int .i64 p.free] 52)).drew=w2 at *
 have HA:=zH (show gO w w2 p.an p.free [] from ⟨hbW,hres2,_,hrow,zN⟩)
 have HR:=zH hrow
 have p0:w2.cell? ⟨pb,0,none⟩=some (.int .i64 p.dH):=(hbW.cell (p:=⟨pb,0,none⟩) hpl).trans (cell_of H0.out.1 0)
 have c6:w2.cell? ⟨s,6,none⟩=some (.slice a S.view.aB.length cp):=(hbW.cell (p:=⟨s,6,none⟩) hsl).trans (cell_of H0.out.2.2.2 6)
 clear hbW hrow hres2 e4 e5 hne hne2 hlp hsz HB
 go_upto_if 21 with fail
 go_cut [28] from 21 to 28 (fun v wx=>gO w wx p.an p.free (if p.dH<0 then S.view.aB else []))
 case first =>
  by_cases hw:p.dH<0
  ·
   have HW:=zH hw
   go_wp2_with fail
   refine (HCL.out _ (H0.out.2.2.1.aj HA.out.below)).mono ?_
   rintro e w3 ⟨v,rfl,ho,hb⟩
   have HS:=zH (zA (eX ho HA.out.below.size) (zA hb (aa hb HR.out)))
   clear ho hb
   obtain ⟨xa,xc,rfl⟩:=bF HS.out.1
   obtain ⟨d0,d1,d2,d3,df⟩:=cF HS.out.2.2
   go_wp2
   go_meet
   show gO _ _ _ _ _
   rw [if_pos (by have:=HW.out;omega)]
   exact gO.put (gtr HA.out.below HS.out.2.1) (aa HS.out.2.1 HA.out.res) HS.out.2.2 HS.out.1
  ·
   have HW:=zH hw
   go_wp2
   go_meet
   show gO _ _ _ _ _
   rw [if_neg (by have:=HW.out;omega)]
   exact HA.out
 case rest =>
  have HV:=zH (show iN S p=⟨true,p.an,(if p.dH<0 then S.view.aB else [])++p.aB.filter dI,p.free⟩ from rfl)
  have hL:(if p.dH<0 then S.view.aB else []).length≤100:=by
   split
   ·
    exact ho
   ·
    simp
  generalize iN S p=V at *
  generalize (if p.dH<0 then S.view.aB else [])=L at *
  have HC:=zH hcut
  have q3:wc.cell? ⟨pb,3,none⟩=some (.slice ra p.aB.length rc):=(hcut.below.cell (p:=⟨pb,3,none⟩) hpl).trans (cell_of H0.out.1 3)
  have HX:=zH (fun i (hi:i<p.aB.length)=>nK p.aB i hi)
  have HT:=zH (fun j (hj:j<p.aB.length)=>List.take_succ_eq_append_getElem hj)
  obtain ⟨j0,ji,jz0,jz1,jz2⟩:=info_parts wY
  clear p0 c6 HA HR HCL hcut
  go_wp2
  go_loopg [34] p.aB.length (fun n i wr => ∃ j:Nat,n=p.aB.length - j∧i=.int .i64 j∧j≤p.aB.length∧gO w wr p.an p.free (L++(p.aB.take j).filter dI))
  case atStart=>exact ⟨0,rfl,rfl,Nat.zero_le _,by simpa using HC.out⟩
  case round =>
   obtain ⟨j,hgn,rfl,hj,hM⟩:=hrel
   have HB:=zH (zA hgn hM)
   clear hgn hM
   by_cases hlt:j<p.aB.length
   ·
    have hlt':(j:Int)<(p.aB.length:Int):=by omega
    obtain ⟨b',o,rfl,hc,hx⟩:=H0.out.2.1.some (by omega)
    obtain ⟨r0,r1,r2,r3⟩:=HX.out j hlt
    have cc : ∀ i u,(bp p.aB)[4 * j+i]? = some u→wr.cell? ⟨b',o+j * 4+i,none⟩=some u:=fun i u hu=>by
     have e:=hx _ _ hu
     rw [show o+j * 4+i=o+(4 * j+i) by omega]
     exact (HB.out.2.below.cell (p:=⟨b',o+(4 * j+i),none⟩) (zL w _ e)).trans e
    have HCC:=zH cc
    have d0:wr.cell? ⟨b',o+j * 4,none⟩=some (.int .i64 p.aB[j].kind):=cc 0 _ r0
    have d1:wr.cell? ⟨b',o+j * 4+1,none⟩=some (.int .i64 p.aB[j].an):=cc 1 _ r1
    have d2:wr.cell? ⟨b',o+j * 4+2,none⟩=some (.string p.aB[j].key):=cc 2 _ r2
    have d3:wr.cell? ⟨b',o+j * 4+3,none⟩=some (.string p.aB[j].value):=cc 3 _ r3
    have HTK:=zH (show (p.aB.take (j+1)).filter dI=(p.aB.take j).filter dI++[p.aB[j]].filter dI by rw [HT.out j hlt,List.filter_append])
    have HLE:=zH (show ((p.aB.take j).filter dI).length≤j from Nat.le_trans (List.length_filter_le _ _) (by rw [List.length_take];omega))
    clear cc r0 r1 r2 r3 hx
    generalize p.aB[j]=r at *
    have e0:=af wr (.cells #[.int .i64 r.kind,.int .i64 r.an,.string r.key,.string r.value] 74)
    have HN:=zH (HB.out.2.aj (ae (Below.refl _ wr) (.cells #[.int .i64 r.kind,.int .i64 r.an,.string r.key,.string r.value] 74)))
    obtain ⟨f0,f1,f2,f3,ff⟩:=cF e0
    have HE0:=zH e0
    have hgl:=aP e0
    clear e0
    go_upto_region 7 with fail
    clear d0 d1 d2 d3
    generalize wr.heap.size=g at *
    generalize wr.alloc (.cells #[.int .i64 r.kind,.int .i64 r.an,.string r.key,.string r.value] 74)=w3 at *
    by_cases hk:r.kind=0
    ·
     have hkb:(r.kind != 0)=false:=by rw [hk];rfl
     replace HTK:=zH (show (p.aB.take (j+1)).filter dI=(p.aB.take j).filter dI by rw [HTK.out,List.filter_cons_of_neg (by unfold dI;rw [hkb];decide)];simp)
     rw [hk] at f0
     clear hk hkb
     go_wp2
     go_roundg (p.aB.length - (j+1))
     case measure=>have:=HB.out.1;omega
     case rel=>exact ⟨j+1,rfl,by go_num,by omega,by rw [HTK.out];exact HN.out⟩
    ·
     have hkb:(r.kind != 0)=true:=bne_iff_ne.2 hk
     replace HTK:=zH (show L++(p.aB.take (j+1)).filter dI=(L++(p.aB.take j).filter dI)++[r] by rw [HTK.out,List.filter_cons_of_pos (by unfold dI;exact hkb),List.append_assoc];rfl)
     have hML:(L++(p.aB.take j).filter dI).length≤200:=by rw [List.length_append];have:=HLE.out;omega
     generalize L++(p.aB.take j).filter dI=M at *
     obtain ⟨v,hrow,hown⟩:=HN.out.row
     obtain ⟨t0,t1,t2,t3,tf⟩:=cF hrow
     have HO:=zH (zA hrow hown)
     clear hrow hown hk
     go_wp2_with (at_builtin;refine wpList_append_lies _ rfl _ _ 50 rfl w.heap.size 74 j0 (.agg #[.int .i64 0,.int .i64 0,.string ⟨#[]⟩,.string ⟨#[]⟩]) 4 48 underlying50 ji jz0 jz1 jz2 rfl (by decide) v M.length (bp M) ?b1 (World.ownsRow.aj HO.out.2 (ae zR _)) ⟨w3.heap.size,0,none⟩ 1 1 [.int .i64 r.kind,.int .i64 r.an,.string r.key,.string r.value] ?b2 rfl ?b3 ?b4 (by decide) ?b5 ?b6 ?b7 _ rfl ?_)
     case b1=>rfl
     case b2=>rfl
     case b3=>exact World.news_of_block (cs := #[.int .i64 r.kind,.int .i64 r.an,.string r.key,.string r.value]) (t:=74) (fr:=(0,0)) (af w3 _)
     case b4=>intro u hu;simp only [List.mem_cons,List.not_mem_nil,or_false] at hu;rcases hu with rfl | rfl | rfl | rfl <;> rfl
     case b5=>simp only [maxLen];omega
     case b6=>omega
     case b7=>have:=HN.out.below.size;simp only [World.size_alloc];omega
     intro g5 cap5 w4 how hgr _ _
     have hgr2:=eO (ae (Below.refl w3.heap.size w3) (.cells #[.int .i64 r.kind,.int .i64 r.an,.string r.key,.string r.value] 74)) hgr
     have how2:w4.ownsRow w.heap.size 74 4 (.slice (some ⟨g5,0,none⟩) (M.length+1) cap5) (M++[r]).length (bp (M++[r])):=by
      rw [List.length_append,kH];exact how
     have h1:w4.heap[w.heap.size]? = _:=(hgr2.block _ (aP HN.out.res) (cP HO.out.2 HN.out.res (by decide))).trans HN.out.res
     have h2:w4.heap[w.heap.size+1]? = _:=(hgr2.block _ (aP HO.out.1) (cP HO.out.2 HO.out.1 (by decide))).trans HO.out.1
     have HP:=zH (gO.put (oQ HN.out.below HN.out.below.size (bQ HO.out.2) hgr2) h1 h2 how2)
     obtain ⟨x0,x1,x2,x3,xf⟩:=cF h2
     clear how hgr hgr2 how2 h1 h2 t0 t1 t2 t3 tf f0 f1 f2 f3 ff
     go_wp2
     go_roundg (p.aB.length - (j+1))
     case measure=>have:=HB.out.1;omega
     case rel=>exact ⟨j+1,rfl,by go_num,by omega,by rw [HTK.out];exact HP.out⟩
   ·
    obtain rfl:j=p.aB.length:=by omega
    rw [List.take_length] at HB
    generalize L++p.aB.filter dI=M at *
    obtain ⟨v,hrow,hown⟩:=HB.out.2.row
    obtain ⟨xa,xc,rfl⟩:=bF hown
    obtain ⟨t0,t1,t2,t3,tf⟩:=cF hrow
    obtain ⟨z0,z1,z2,z3,zf⟩:=cF HB.out.2.res
    have HO:=zH (zA hrow hown)
    clear hrow hown
    go_wp2_with fail
    have hq:=fb HB.out.2.res (.bool true) (.int .i64 p.an) (.slice xa M.length xc) (.int .i64 p.free)
    obtain ⟨q0,q1,q2,q3,qf⟩:=cF hq
    refine bodyPost_ret (v:=.agg #[.bool true,.int .i64 p.an,.slice xa M.length xc,.int .i64 p.free]) ?_ rfl ?_
    ·
     change (results _ _).run _ (mr _ _ _ _ _ _)=_
     simp [results,results135,go_sem,q0,q1,q2,q3]
     rfl
    ·
     rw [HV.out]
     have ht:=dE HO.out.2 (cW wr w.heap.size (.bool true) (.int .i64 p.an) (.slice xa M.length xc) (.int .i64 p.free)) (fun y hy hx=>cP HO.out.2 HB.out.2.res (by decide) (by rw [hy];exact congrArg some (show y=w.heap.size from hx).symm))
     exact ⟨xa,xc,rfl,ht,((((HB.out.2.below.setCell (p:=⟨w.heap.size,0,none⟩) zY _).setCell (p:=⟨w.heap.size,1,none⟩) zY _).setCell (p:=⟨w.heap.size,2,none⟩) zY _).setCell (p:=⟨w.heap.size,3,none⟩) zY _)⟩
end
section
open Go.RowKit
structure Bz (w:World) (a:Option Addr) (cp n sz:Nat) (cs:List Value) (F:Nat→Prop):Prop where
 at_:aT w (.slice a n cp) n sz cs
 fB : ∀ x o f,a=some ⟨x,o,f⟩→0<n → ¬ F x
theorem Bz.step {w w':World} {a:Option Addr} {cp n sz:Nat} {cs:List Value} {F G:Nat→Prop} (h:Bz w a cp n sz cs F) (hz:0<sz) (st:Step F G w w'):Bz w' a cp n sz cs G:=by
 rcases h.at_.ex with ⟨h1,h0⟩ | ⟨b,o,c,hv,hc,hx⟩
 ·
  exact ⟨⟨h.at_.len,.inl ⟨h1,h0⟩⟩,fun x o f e hl=>by omega⟩
 ·
  have hv':a=some ⟨b,o,none⟩:=by simp only [Value.slice.injEq] at hv;exact hv.1
  have hpos : ∀ i u,cs[i]? = some u→0<n:=fun i u hu=>by
   have h1:=(List.getElem?_eq_some_iff.1 hu).1
   rw [h.at_.len] at h1
   rcases Nat.eq_zero_or_pos n with h2 | h2
   ·
    rw [h2] at h1;simp at h1
   ·
    exact h2
  refine ⟨⟨h.at_.len,.inr ⟨b,o,c,hv,hc,fun i u hu=>st.aH.cell _ _ (hx i u hu) (h.fB _ _ _ hv' (hpos i u hu))⟩⟩,fun x o' f e hl => ?_⟩
  have hlen:0<cs.length:=by rw [h.at_.len];exact Nat.mul_pos hl hz
  have hb:=zL w _ (hx 0 _ (List.getElem?_eq_getElem hlen))
  rw [hv'] at e
  obtain ⟨rfl,_⟩:b=x∧_:=by simpa using e
  exact st.safe hb (h.fB _ _ _ hv' hl)
structure vN (w:World) (pb:Nat) (p:fW) (sa:Option Addr) (sc:Nat) (ra:Option Addr) (rc:Nat) (F:Nat→Prop):Prop where
 at_:DS w pb p (.slice sa p.bI.length sc) (.slice ra p.aB.length rc)
 fB : ¬ F pb
 bI:Bz w sa sc p.bI.length 1 (aC p.bI) F
 aB:Bz w ra rc p.aB.length 4 (bp p.aB) F
theorem vN.step {w w':World} {pb:Nat} {p:fW} {sa:Option Addr} {sc:Nat} {ra:Option Addr} {rc:Nat} {F G:Nat→Prop} (h:vN w pb p sa sc ra rc F) (st:Step F G w w'):vN w' pb p sa sc ra rc G :=
 ⟨st.aH.at h.at_ h.fB,st.safe (aP h.at_) h.fB,h.bI.step (by decide) st,h.aB.step (by decide) st⟩
structure fW.Ok (p:fW):Prop where
 av:4≤p.av∧p.av<8
 dH:p.dH<0∨(4≤p.dH∧p.dH<8)
 len:p.bI.length=p.aB.length
 Kp:p.aB.length≤8
 bI : ∀ x ∈ p.bI,0≤x∧x<8
 aB : ∀ r ∈ p.aB,bC r=true
def eL (sec:Int):List (Int×aX)→aG→aG×Int
 | [],m=>(m,0)
 | x::l,m=>if (m.dZ (bZ sec x.1) (aL x.2)).2≠0 then m.dZ (bZ sec x.1) (aL x.2) else eL sec l (m.dZ (bZ sec x.1) (aL x.2)).1
theorem yP (sec:Int) (s0:4≤sec) (s1:sec<8) : ∀ (l:List (Int×aX)) (m:aG),m.Ok→(∀ x ∈ l,0≤x.1∧x.1<8∧bC x.2=true)→(eL sec l m).1.Ok∧bG m (eL sec l m).1
 | [],m,ok,h=>⟨ok,bG.refl m⟩
 | x::l,m,ok,h=>by
  obtain ⟨h0,h1,h2⟩:=h x (by simp)
  have hsz:(aL x.2).size=64:=by
   unfold aL
   rw [fe,dh _ _ (gu h2)]
  have o1:=vY ok (bZ sec x.1) (aL x.2) (by unfold bZ;omega) (by unfold bZ;omega) hsz
  have m1:=nj m (bZ sec x.1) (aL x.2)
  unfold eL
  split
  ·
   exact ⟨o1,m1⟩
  ·
   have:=yP sec s0 s1 l _ o1 (fun y hy=>h y (by simp [hy]))
   exact ⟨this.1,m1.trans this.2⟩
def firstT (m:aG) (q:Cache) (p:fW) (reads:List Int):aG×Cache×List Int×Int:=if 0≤p.dH then jf m q p.dH reads else (m,q,[],0)
def gi (b:aG×Int) (q:Cache) (dH:Int) (out reads:List Int):aG×Cache×List Int×Int:=if b.2≠0 then (b.1,q,[],b.2) else if 0≤dH then (b.1,q,out,0) else dG reads [] b.1 q
def pX (t:aG×Cache×List Int×Int) (p:fW) (reads:List Int):aG×Cache×List Int×Int:=if t.2.2.2≠0 then (t.1,t.2.1,[],t.2.2.2) else gi (eL p.av (p.bI.zip p.aB) t.1) t.2.1 p.dH t.2.2.1 reads
def dY (m:aG) (q:Cache) (p:fW) (reads:List Int):aG×Cache×List Int×Int:=pX (firstT m q p reads) p reads
end
end Go.Proofs.YtcfdenckiigdaaaGreat

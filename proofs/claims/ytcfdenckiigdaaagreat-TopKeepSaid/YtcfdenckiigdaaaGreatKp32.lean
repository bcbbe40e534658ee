/- Part 32 of the contracts. -/
import Derived.Test.YtcfdenckiigdaaaGreatKp31
set_option linter.unusedVariables false
set_option maxRecDepth 100000
set_option maxHeartbeats 4000000
namespace Go.Proofs.YtcfdenckiigdaaaGreat
section
open Go.RowKit
def headRec (e:Int):qaC:=⟨0,e,⟨#[]⟩,⟨#[]⟩⟩
def qgS (b:Ctl×Int) (q:Cache) (n ep:Int) (out:List Int):Ctl×Cache×qaf×List Int×Int :=
 if b.2≠0 then (b.1,q,shut,[],b.2) else (b.1,q,⟨true,n,⟨true,ep,[],1⟩⟩,out,0)
def qiG (t:Ctl×Cache×List Int×Int) (n ep:Int):Ctl×Cache×qaf×List Int×Int :=
 if t.2.2.2≠0 then (t.1,t.2.1,shut,[],t.2.2.2) else qgS (t.1.burnR (slotP n 0) (recText (headRec ep))) t.2.1 n ep t.2.2.1
def qk2 (m:Ctl) (q:Cache) (sec ep:Int) (reads:List Int):Ctl×Cache×qaf×List Int×Int :=
 if 1048576≤ep then (m,q,shut,[],2304) else qiG (wipeT m q (nextS sec) reads) (nextS sec) (ep+1)
def secOf (o:Option (Int×qau)):Int:=match o with | none=>7 | some x=>x.1
def epOf (o:Option (Int×qau)):Int:=match o with | none=>0 | some x=>x.2.epoch
def qiF (l:Ctl×Option (Int×qau)×Int) (q:Cache) (reads:List Int):Ctl×Cache×qaf×List Int×Int :=
 if l.2.2≠0 then (l.1,q,shut,[],l.2.2) else qk2 l.1 q (secOf l.2.1) (epOf l.2.1) reads
def formatR (m:Ctl) (q:Cache) (reads:List Int):Ctl×Cache×qaf×List Int×Int:=qiF (lookR m) q reads
def qa3 (s k c b:Nat) (m:Ctl) (q:Cache) (S:qaf) (out:List Int) (er:Int) (H:Nat→Prop) (w:World) (e:Ending) (w':World):Prop :=
 ∃ v,e=.returned (.tuple #[v,.int .i64 er])∧(er≠0→v=.slice none 0 0) ∧ ∃ H',Sys (fun _=>False) w' s k c b m q S H'∧Step (Mine s H) (Mine s H') w w'∧(er=0→w'.ownsRow w.heap.size 3 1 v out.length (intVals out) ∧ ∀ g,v.ownBlock=some g → ¬ Mine s H' g)
theorem qa3.none {s k c b:Nat} {m:Ctl} {q:Cache} {S:qaf} {er:Int} {H H':Nat→Prop} {w w':World} (h:Sys (fun _=>False) w' s k c b m q S H') (st:Step (Mine s H) (Mine s H') w w') (he:er≠0):qa3 s k c b m q S [] er H w (.returned (.tuple #[.slice none 0 0,.int .i64 er])) w' :=
 ⟨_,rfl,fun _=>rfl,H',h,st,fun h0=>absurd h0 he⟩
theorem qo4 : ∀ (n:Nat) (j:Int) (m:Ctl) (vs:List qau),m.Ok→0≤j→(j+n) * 512≤4096→(lookS n j m vs).1.Ok∧qaF m (lookS n j m vs).1
 | 0,j,m,vs,ok,h0,h1=>⟨ok,qaF.refl m⟩
 | n+1,j,m,vs,ok,h0,h1=>by
  have o1:=qma ok (j * 512) 512 (by omega) (by omega) (by omega) (by omega)
  have h2:=qfI m (j * 512) 512
  unfold lookS
  split
  ·
   exact ⟨o1,h2⟩
  ·
   have:=qo4 n (j+1) _ (vs++[scanR (m.fetchR (j * 512) 512).2.1]) o1 (by omega) (by omega)
   exact ⟨this.1,h2.trans this.2⟩
theorem qla {m:Ctl} (ok:m.Ok):(lookR m).1.Ok∧qaF m (lookR m).1:=by
 have o1:=qmJ ok
 have h1:=qfR m
 unfold lookR
 split
 ·
  exact ⟨o1,h1⟩
 ·
  have:=qo4 4 4 m.probeR.1 [] o1 (by omega) (by omega)
  unfold qmt
  split <;> exact ⟨this.1,h1.trans this.2⟩
theorem qak.wide {w:World} {a:Option Addr} {xs:List Int} {G:Nat→Prop} (h:qak w a xs G):qak w a xs (fun i=>G i∨w.heap.size≤i):=by
 refine ⟨h.1,fun b o e hl hg => ?_⟩
 rcases hg with hg | hg
 ·
  exact h.2 b o e hl hg
 ·
  obtain ⟨b2,o2,g1,g2⟩:=h.1 0 hl
  rw [e] at g1
  obtain ⟨rfl,rfl⟩:b=b2∧o=o2:=by simpa using g1
  have:=World.block_lt_of_cell? w _ g2
  simp only at this
  omega
theorem qak.mono {w:World} {a:Option Addr} {xs:List Int} {F G:Nat→Prop} (h:qak w a xs F) (hG : ∀ i,G i→F i):qak w a xs G:=⟨h.1,fun b o e hl hg=>h.2 b o e hl (hG b hg)⟩
theorem qak.new {w w':World} {a:Option Addr} {xs:List Int} {G F:Nat→Prop} (h:qak w a xs G) (t:Touch F w w') (hF : ∀ i,F i→w.heap.size≤i):qak w' a xs G :=
 (h.wide.step (G':=fun i=>G i∨w.heap.size≤i) (Step.of_touch (t.mono fun i hi=>.inr (hF i hi)))).mono fun i hi=>.inl hi
theorem qhI {n:Int} (h0:4≤n) (h1:n<8):4≤nextS n∧nextS n<8:=by unfold nextS;split <;> omega
theorem qkR.mine {X:Nat→Prop} {s k c b:Nat} {m:Ctl} {q:Cache} {S:qaf} {H:Nat→Prop} {w w':World} (h:qkR X s k c b m q S H w w') : ∃ H',Sys X w' s k c b m q S H'∧Step (Mine s H) (Mine s H') w w':=by
 obtain ⟨H',h1,h2⟩:=h
 exact ⟨H',h1,h2.mine⟩
theorem qme (s k c b cap:Nat) (m:Ctl) (q:Cache) (S:qaf) (H:Nat→Prop) (a:Option Addr) (reads:List Int) (w:World) (h:Sys (fun _=>False) w s k c b m q S H) (ok:m.Ok) (kn:m.Known) (hh:0<m.chip.busy.length→m.chip.home<w.heap.size) (hi:qak w a reads H) (hcap:reads.length≤cap) (hm:reads.length≤1000000):Calls Tryz.prog 57 #[.pointer (some ⟨s,0,none⟩),.slice a reads.length cap] w (qa3 s k c b (formatR m q reads).1 (formatR m q reads).2.1 (formatR m q reads).2.2.1 (formatR m q reads).2.2.2.1 (formatR m q reads).2.2.2.2 H w):=by
 have HL:=zH (qkk s k c b m q S H w h ok kn hh)
 have HLO:=zH (fun sec V => @qnP m sec V)
 obtain ⟨okl,hml⟩:=qla ok
 have HI:=zH (zA hi (zA okl (fun (w':World) (h:w.heap.size≤w'.heap.size) (hl:0<(lookR m).1.chip.busy.length)=>by
  have h1:=hh (Nat.lt_of_lt_of_le hl hml.2)
  have h2:(lookR m).1.chip.home<w'.heap.size:=by rw [hml.1];omega
  exact h2)))
 unfold formatR
 generalize lookR m=lr at *
 obtain ⟨m',o,er⟩:=lr
 simp only at HL HLO HI
 have HC:=zH (fun m q H er w (h:Sys (fun _=>False) w s k c b m q S H)=>qev s k c b m q S H er w h)
 have HO:=zH (fun m q H sec V va vc w (h:Sys (fun _=>False) w s k c b m q S H) hv=>qfO s k c b m q S H sec V va vc w h hv)
 clear h ok kn hh okl hml hi
 go_enter Tryz.func57,Tryz.ntmps57
 go_wp2_with fail
 refine HL.out.mono ?_
 rintro e w1 ⟨va,vc,rfl,H',hs,st,hr⟩
 have HS:=zH (zA hs (zA st (HI.out.1.step st)))
 clear hs st hr HL
 by_cases k1:er=0
 ·
  subst k1
  have HSEC:=zH (show 4≤secOf o∧secOf o<8∧0≤epOf o∧epOf o=(o.getD (0,qaB)).2.epoch∧secOf o=(if o.isSome=true then (o.getD (0,qaB)).1 else 7) by
   cases o with
   | none=>exact ⟨by decide,by decide,by decide,rfl,rfl⟩
   | some x =>
    obtain ⟨h0,h1,h2⟩:=HLO.out x.1 x.2 rfl
    exact ⟨h0,h1,by have:=h2.epoch;show 0≤x.2.epoch;omega,rfl,rfl⟩)
  have HR:=zH (show qiF (m',o,0) q reads=qk2 m' q (secOf o) (epOf o) reads from if_neg (by simp))
  clear HLO
  generalize secOf o=sc at *
  generalize epOf o=ep at *
  generalize o.isSome=oi at *
  generalize o.getD (0,qaB)=p at *
  obtain ⟨sec,V⟩:=p
  simp only at HSEC ⊢
  obtain rfl:ep=V.epoch:=HSEC.out.2.2.2.1
  have hep:=HSEC.out.2.2.1
  have HN:=zH (qac (Below.refl w1.heap.size w1) (.cells #[.bool V.good,.int .i64 V.epoch,.slice va V.recs.length vc,.int .i64 V.free] 52))
  have HV:=zH (qad w1 (.cells #[.bool V.good,.int .i64 V.epoch,.slice va V.recs.length vc,.int .i64 V.free] 52))
  have hlt:=qat HV.out
  have HB:=zH (zA (HS.out.1.later HN.out) (zA ((HS.out.2.1.mine (s:=s)).trans (Step.of_below HN.out)) (HS.out.2.2.step (Step.of_below HN.out))))
  have HG:=zH (show Sys (Only w1.heap.size) _ s k c b m' q S H' from HS.out.1.grow (Touch.of_below HN.out) (fun i hi=>hi.elim) (fun _ hi=>hi.elim) (fun i hi=>.inr (by rw [show i=w1.heap.size from hi];exact ⟨Nat.le_refl _,hlt⟩)))
  have HGD:=zH (show (∀ i,Only w1.heap.size i → ¬ Mine s H' i)∧(0<m'.chip.busy.length → ¬ Only w1.heap.size m'.chip.home) from ⟨fun i hi hm=>by
   have:=HS.out.1.lt i hm
   rw [show i=w1.heap.size from hi] at this;omega,fun hl hx=>by
   have:=HI.out.2.2 w1 HS.out.2.1.touch.size hl
   rw [show m'.chip.home=w1.heap.size from hx] at this;omega⟩)
  go_upto_if 26 with fail
  generalize w1.alloc (.cells #[.bool V.good,.int .i64 V.epoch,.slice va V.recs.length vc,.int .i64 V.free] 52)=w2 at *
  generalize hg:w1.heap.size=g at *
  go_cut [6] from 26 to 26 (fun v wx=>v=.int .i64 sc∧wx=w2)
  case first =>
   have h5:=HSEC.out.2.2.2.2
   cases oi with
   | true =>
    obtain rfl:sc=sec:=by simpa using h5
    clear h5
    go_wp2_with fail
    go_meet
    exact ⟨rfl,rfl⟩
   | false =>
    obtain rfl:sc=7:=by simpa using h5
    clear h5
    go_wp2_with fail
    go_meet
    exact ⟨rfl,rfl⟩
  case rest =>
   obtain ⟨rfl,hwc⟩:=hcut
   subst hwc
   obtain ⟨wa,hwa⟩ : ∃ wa,wa=wc:=⟨_,rfl⟩
   subst hwa
   have HN2:=zH (show Below w1.heap.size w1 wa by rw [hg];exact HN.out)
   clear HN
   obtain ⟨d0,d1,d2,d3,df⟩:=row4 HV.out
   by_cases k2:1048576≤V.epoch
   ·
    replace HR:=zH (HR.out.trans (if_pos k2))
    go_wp2_with fail
    refine (HC.out _ _ _ 2304 _ HB.out.1).mono ?_
    rintro e w3 ⟨rfl,H2,h2,st2⟩
    have HF:=zH (zA h2 (HB.out.2.1.trans st2))
    clear h2 st2
    go_wp2_with fail
    go_ret2
    rw [HR.out]
    exact qa3.none HF.out.1 HF.out.2 (show (2304:Int)≠0 by decide)
   ·
    replace HR:=zH (HR.out.trans (if_neg k2))
    have hn:=qhI HSEC.out.1 HSEC.out.2.1
    have HNX:=zH (fun w=>qfs sc w (by have:=HSEC.out.1;omega) (by have:=HSEC.out.2.1;omega))
    have hw1:IntKind.i64.wrap (V.epoch+1)=V.epoch+1:=qaT (by omega) (by omega)
    have HW1:=zH hw1
    clear hw1
    generalize nextS sc=n at *
    go_upto_region 10 with fail
    go_cut [6] from 32 to 37 (fun v wx=>v=.int .i64 n∧wx.heap[g]? = some (.cells #[.bool true,.int .i64 (V.epoch+1),.slice none 0 0,.int .i64 1] 52 (0,0))∧Touch (Only g) wa wx)
    case first =>
     go_region_with (go_at_call 89;refine (HNX.out _).mono ?_;rintro e w' ⟨rfl,rfl⟩)
     all_goals
      rw [HW1.out]
      go_wp2_with fail
      go_meet
      exact ⟨rfl,qab (qai (Below.refl _ _)) (qbA HV.out _ _ _ _),(qaK wa g _ _ _ _).drew⟩
    case rest =>
     obtain ⟨rfl,hgx,htx⟩:=hcut
     have hgw:w.heap.size≤g:=by rw [← hg];exact HS.out.2.1.touch.size
     have hx0 : ∀ i,Only g i→w1.heap.size≤i:=fun i hi=>by rw [show i=g from hi,hg];exact Nat.le_refl _
     have HS2:=zH (zA (HG.out.grow (Y:=fun _=>False) htx HGD.out.1 HGD.out.2 (fun i hi=>hi.elim)) (zA (show Step (Mine s H) (Mine s H') w wc from ⟨HB.out.2.1.touch.then htx (fun i hi=>.inr (by rw [show i=g from hi];exact hgw)),HB.out.2.1.foot⟩) (zA (HS.out.2.2.new ((Touch.of_below HN2.out).trans htx) hx0) hgx)))
     have hsz:w.heap.size≤wc.heap.size:=HS2.out.2.1.touch.size
     have HWT:=zH (fun w' (hb:Below wc.heap.size wc w')=>qm1 s k c b cap m' q S H' n a reads w' (HS2.out.1.later hb) HI.out.2.1 (HS2.out.2.2.1.step (Step.of_below hb)) hcap hm (HI.out.2.2 w' (Nat.le_trans hsz hb.size)) hn.1 hn.2)
     have HTO:=zH (qpv HI.out.2.1 (q:=q) n hn.1 hn.2 reads)
     have hgH : ¬ Mine s H' g:=HGD.out.1 g rfl
     have HGH:=zH hgH
     generalize wipeT m' q n reads=t at *
     obtain ⟨m2,q2,out,er2⟩:=t
     simp only at HWT HTO
     obtain ⟨a0,cp0,h1,h2⟩:=HS2.out.1.st
     obtain ⟨c0,c1,c2,c3,c4,c5,c6,c7,cf⟩:=qqE h1
     clear h1 h2 c2 c3 c4 c5 c6 c7 d0 d1 d2 d3 df hgx htx hx0 hgH
     go_upto_region 11 with fail
     go_cut [9,10] from 38 to 51 (fun v9 v10 wx=>v9=.int .i64 er2 ∧ ∃ H2,Sys (fun _=>False) wx s k c b m2 q2 S H2∧Step H' H2 wc wx∧(er2=0→wx.ownsRow wc.heap.size 3 1 v10 out.length (intVals out) ∧ ∀ g,v10.ownBlock=some g → ¬ H2 g))
     case first =>
      go_region_with (go_at_call 90;refine (HWT.out _ (qai (Below.refl _ _))).mono ?_;rintro e w' ⟨v,rfl,hv0,H2,hs2,st2,how⟩;have HQ:=zH (zA hs2 (zA ((Step.of_below (qai (Below.refl _ _))).trans st2) how));clear hs2 st2 how hv0)
      all_goals
       go_wp2_with fail
       go_meet
       exact ⟨rfl,H2,HQ.out.1,HQ.out.2.1,HQ.out.2.2⟩
     case rest =>
      obtain ⟨wb,hwb⟩ : ∃ wb,wb=wc:=⟨_,rfl⟩
      obtain ⟨rfl,H2,hs2,st2,how⟩:=hcut
      have HS3:=zH (zA hs2 (zA (HS2.out.2.1.trans st2.mine) (st2.touch.at HS2.out.2.2.2 (fun h=>HGH.out (.inl h)))))
      have HOW:=zH (zA how (zA (st2.mine.safe (qat HS2.out.2.2.2) HGH.out) (qat (HS2.out.1.st.choose_spec.choose_spec.1))))
      clear hs2 st2 how hwb
      obtain ⟨d0,d1,d2,d3,df⟩:=row4 HS3.out.2.2
      by_cases k3:er2=0
      ·
       subst k3
       have HR2:=zH (show qiG (m2,q2,out,0) n (V.epoch+1)=qgS (m2.burnR (slotP n 0) (recText (headRec (V.epoch+1)))) q2 n (V.epoch+1) out from if_neg (by simp))
       have hrm:qap (headRec (V.epoch+1))=true:=by
        unfold qap headRec
        rw [if_pos rfl]
        simp only [qhi,qeA]
        simp
        omega
       have HBU:=zH (fun w h=>qic (X:=fun _=>False) s k c b m2 q2 S H2 n 0 (headRec (V.epoch+1)) w h HTO.out hn.1 hn.2 (by decide) (by decide) hrm)
       rw [show (headRec (V.epoch+1)).cells = #[.int .i64 0,.int .i64 (V.epoch+1),.string ⟨#[]⟩,.string ⟨#[]⟩] from rfl] at HBU
       clear hrm
       generalize m2.burnR (slotP n 0) (recText (headRec (V.epoch+1)))=br at *
       obtain ⟨m3,er3⟩:=br
       simp only at HBU
       go_wp2_with fail
       refine (HBU.out _ HS3.out.1).mono ?_
       rintro e w3 ⟨rfl,H3,hs3,st3⟩
       have HS4:=zH (zA hs3 (zA (HS3.out.2.1.trans st3.mine) st3))
       have HVW:=zH (st3.touch.at HS3.out.2.2 (fun h=>HOW.out.2.1 (.inl h)))
       clear hs3 st3 d0 d1 d2 d3 df c0 c1 cf
       obtain ⟨d0,d1,d2,d3,df⟩:=row4 HVW.out
       by_cases k4:er3=0
       ·
        subst k4
        have HR3:=zH (show qgS (m3,0) q2 n (V.epoch+1) out=(m3,q2,⟨true,n,⟨true,V.epoch+1,[],1⟩⟩,out,0) from if_neg (by simp))
        go_wp2_with fail
        refine (HO.out _ _ _ n ⟨true,V.epoch+1,[],1⟩ none 0 _ HS4.out.1 (qbn.nil _ _)).mono ?_
        rintro e w4 ⟨rfl,H4,hs4,st4⟩
        have HS5:=zH (zA hs4 (zA (HS4.out.2.1.trans st4) ((HS4.out.2.2.mine (s:=s)).trans st4)))
        clear hs4 st4
        go_wp2_with fail
        go_ret2
        rw [HR.out,HR2.out,HR3.out]
        have how:=HOW.out.1 (by trivial)
        have hfar : ∀ y,u10.ownBlock=some y → ¬ Mine s H2 y:=fun y hy hm=>by
         have h1:=qaN how.1 y hy
         rcases hm with hm | hm
         ·
          exact how.2 y hy hm
         ·
          have:=HOW.out.2.2;omega
        exact ⟨_,rfl,fun h0=>absurd rfl h0,H4,HS5.out.1,HS5.out.2.1,fun _=>⟨qb9 (qaR how.1 HS5.out.2.2.touch hfar) hsz,fun y hy=>HS5.out.2.2.safe (qeC how.1 y hy) (hfar y hy)⟩⟩
       ·
        have hne:(er3 != 0)=true:=bne_iff_ne.2 k4
        have HR3:=zH (show qgS (m3,er3) q2 n (V.epoch+1) out=(m3,q2,shut,[],er3) from if_pos k4)
        have HE:=zH k4
        clear k4
        go_wp2_with fail
        refine (HC.out _ _ _ er3 _ HS4.out.1).mono ?_
        rintro e w4 ⟨rfl,H4,hs4,st4⟩
        have HS5:=zH (zA hs4 (HS4.out.2.1.trans st4))
        clear hs4 st4
        go_wp2_with fail
        go_ret2
        rw [HR.out,HR2.out,HR3.out]
        exact qa3.none HS5.out.1 HS5.out.2 HE.out
      ·
       have hne:(er2 == 0)=false:=beq_eq_false_iff_ne.2 k3
       have hne2:(er2 != 0)=true:=bne_iff_ne.2 k3
       have HR2:=zH (show qiG (m2,q2,out,er2) n (V.epoch+1)=(m2,q2,shut,[],er2) from if_pos k3)
       have HE:=zH k3
       clear k3
       go_wp2_with fail
       refine (HC.out _ _ _ er2 _ HS3.out.1).mono ?_
       rintro e w3 ⟨rfl,H3,h3,st3⟩
       have HF:=zH (zA h3 (HS3.out.2.1.trans st3))
       clear h3 st3
       go_wp2_with fail
       go_ret2
       rw [HR.out,HR2.out]
       exact qa3.none HF.out.1 HF.out.2 HE.out
 ·
  have hne:(er != 0)=true:=bne_iff_ne.2 k1
  have HR:=zH (show qiF (m',o,er) q reads=(m',q,shut,[],er) from if_pos k1)
  have HE:=zH k1
  generalize o.isSome=oi at *
  generalize o.getD (0,qaB)=p at *
  obtain ⟨sec,V⟩:=p
  simp only
  clear k1
  have HN:=zH (qac (Below.refl w1.heap.size w1) (.cells #[.bool V.good,.int .i64 V.epoch,.slice va V.recs.length vc,.int .i64 V.free] 52))
  go_wp2_with fail
  refine (HC.out _ _ _ er _ (HS.out.1.later HN.out)).mono ?_
  rintro e w2 ⟨rfl,H2,h2,st2⟩
  have HF:=zH (zA h2 (((HS.out.2.1.mine (s:=s)).trans (Step.of_below HN.out)).trans st2))
  clear h2 st2
  go_wp2_with fail
  go_ret2
  rw [HR.out]
  exact qa3.none HF.out.1 HF.out.2 HE.out
end
section
open Go.RowKit
variable {X:Nat→Prop}
def qau.Recs (V:qau):Prop:=V.recs.length≤7 ∧ ∀ r ∈ V.recs,qcH r
theorem qeQ (s k c b:Nat) (m:Ctl) (q:Cache) (S:qaf) (H:Nat→Prop) (w:World) (h:Sys X w s k c b m q S H) (ok:S.view.Recs):Calls Tryz.prog 96 #[.pointer (some ⟨s,0,none⟩)] w fun e w' => ∃ v,e=.returned v∧w'.ownsRow w.heap.size 83 2 v (buildL S.view.recs).length (pairVals (buildL S.view.recs))∧Below w.heap.size w w':=by
 obtain ⟨a,cp,h1,h2⟩:=h.st
 have HB:=zH (qfF (.slice a S.view.recs.length cp) S.view.recs w h2.at_ (by have:=ok.1;omega) ok.2)
 obtain ⟨c0,c1,c2,c3,c4,c5,c6,c7,cf⟩:=qqE h1
 clear h h1 h2 ok c0 c1 c2 c3 c4 c5 c7
 go_enter Tryz.func96,Tryz.ntmps96
 go_wp2_with fail
 refine HB.out.mono ?_
 rintro e w1 ⟨v,rfl,ho,hb⟩
 have HS:=zH (zA ho hb)
 clear ho hb
 go_wp2_with fail
 go_ret
 exact ⟨v,rfl,HS.out⟩
def getR (S:qaf) (key:ByteArray):ByteArray×Int:=if askedE S key≠0 then (⟨#[]⟩,askedE S key) else match findL (buildL S.view.recs) key with | none=>(⟨#[]⟩,2303) | some v=>(v,0)
theorem qjO (s k c b:Nat) (m:Ctl) (q:Cache) (S:qaf) (H:Nat→Prop) (key:ByteArray) (w:World) (h:Sys X w s k c b m q S H) (ok:S.view.Recs):Calls Tryz.prog 60 #[.pointer (some ⟨s,0,none⟩),.string key] w fun e w'=>e=.returned (.tuple #[.string (getR S key).1,.int .i64 (getR S key).2])∧Below w.heap.size w w':=by
 have HA:=zH (qfD s k c b m q S H key w h)
 have HL:=zH (qeQ s k c b m q S H w h ok)
 have hbl:(buildL S.view.recs).length≤100:=by
  have:=(qaJ _ S.view.recs rfl ok.2).2;have:=ok.1;omega
 have HF:=zH (fun v w h=>qga v (buildL S.view.recs) key w h (by omega))
 have HR:=zH (show getR S key=if askedE S key≠0 then (⟨#[]⟩,askedE S key) else match findL (buildL S.view.recs) key with | none=>(⟨#[]⟩,2303) | some v=>(v,0) from rfl)
 clear h ok
 generalize getR S key=gr at *
 generalize askedE S key=er at *
 generalize findL (buildL S.view.recs) key=fl at *
 generalize buildL S.view.recs=ps at *
 go_enter Tryz.func60,Tryz.ntmps60
 go_wp2_with fail
 refine HA.out.mono ?_
 rintro e w1 ⟨rfl,rfl⟩
 by_cases k1:er=0
 ·
  subst k1
  replace HR:=zH (HR.out.trans (if_neg (by simp)))
  go_wp2_with fail
  refine HL.out.mono ?_
  rintro e w1 ⟨v,rfl,ho,hb⟩
  have HS:=zH (zA ho hb)
  clear ho hb
  obtain ⟨xa,xc,rfl⟩:=qaD HS.out.1
  go_wp2_with fail
  refine (HF.out _ _ (SliceAt.of_own HS.out.1)).mono ?_
  rintro e w2 ⟨rfl,hb⟩
  have HS2:=zH (gtr HS.out.2 hb)
  clear hb
  cases fl with
  | none =>
   simp only [Option.getD_none,Option.isSome_none]
   go_wp2_with fail
   go_ret2
   rw [HR.out]
   exact ⟨rfl,HS2.out⟩
  | some x =>
   simp only [Option.getD_some,Option.isSome_some]
   go_wp2_with fail
   go_ret2
   rw [HR.out]
   exact ⟨rfl,HS2.out⟩
 ·
  have hne:(er != 0)=true:=bne_iff_ne.2 k1
  replace HR:=zH (HR.out.trans (if_pos k1))
  clear k1
  go_wp2_with fail
  go_ret2
  rw [HR.out]
  exact ⟨rfl,Below.refl _ _⟩
def listR (S:qaf):List qaq×Int:=if S.opened=true then (buildL S.view.recs,0) else ([],2302)
theorem qjk (s k c b:Nat) (m:Ctl) (q:Cache) (S:qaf) (H:Nat→Prop) (w:World) (h:Sys X w s k c b m q S H) (ok:S.view.Recs):Calls Tryz.prog 62 #[.pointer (some ⟨s,0,none⟩)] w fun e w' => ∃ v,e=.returned (.tuple #[v,.int .i64 (listR S).2])∧w'.ownsRow w.heap.size 83 2 v (listR S).1.length (pairVals (listR S).1)∧Below w.heap.size w w':=by
 have HL:=zH (qeQ s k c b m q S H w h ok)
 obtain ⟨a,cp,h1,h2⟩:=h.st
 obtain ⟨c0,c1,c2,c3,c4,c5,c6,c7,cf⟩:=qqE h1
 clear h ok h1 h2 c0 c1 c3 c4 c5 c6 c7
 unfold listR
 cases hs:S.opened with
 | false =>
  rw [hs] at c2
  rw [if_neg (by decide)]
  go_enter Tryz.func62,Tryz.ntmps62
  go_wp2_with fail
  go_ret2
  exact ⟨_,rfl,World.ownsRow_nil _ _ _ _,Below.refl _ _⟩
 | true =>
  rw [hs] at c2
  rw [if_pos rfl]
  go_enter Tryz.func62,Tryz.ntmps62
  go_wp2_with fail
  refine HL.out.mono ?_
  rintro e w1 ⟨v,rfl,ho,hb⟩
  have HS:=zH (zA ho hb)
  clear ho hb
  go_wp2_with fail
  go_ret2
  exact ⟨v,rfl,HS.out⟩
end
section
open Go.RowKit
variable {X:Nat→Prop}
def qq5 (w:World) (b:Nat) (p:qcd) (vs vr:Value):Prop:=w.heap[b]? = some (.cells (qg2 p vs vr) 228 (0,0))
def notHead (r:qaC):Bool:=r.kind != 0
def behindV (S:qaf) (p:qcd):qau:=⟨true,p.epoch,(if p.wipe<0 then S.view.recs else [])++p.recs.filter notHead,p.free⟩
structure qb3 (w wr:World) (ep free:Int) (rs:List qaC):Prop where
 below:Below w.heap.size w wr
 res:wr.heap[w.heap.size]? = some (.cells #[.bool false,.int .i64 0,.slice none 0 0,.int .i64 0] 52 (0,0))
 row : ∃ v,wr.heap[w.heap.size+1]? = some (.cells #[.bool true,.int .i64 ep,v,.int .i64 free] 52 (0,0))∧wr.ownsRow w.heap.size 74 4 v rs.length (recVals rs)
theorem qb3.put {w w2:World} {ep free:Int} {v v':Value} {rs:List qaC} (hb:Below w.heap.size w w2) (e1:w2.heap[w.heap.size]? = some (.cells #[.bool false,.int .i64 0,.slice none 0 0,.int .i64 0] 52 (0,0))) (e2:w2.heap[w.heap.size+1]? = some (.cells #[.bool true,.int .i64 ep,v,.int .i64 free] 52 (0,0))) (ho:w2.ownsRow w.heap.size 74 4 v' rs.length (recVals rs)):qb3 w (w2.setCell ⟨w.heap.size+1,2,none⟩ v') ep free rs :=
 ⟨gset hb (by simp) _,by rw [Below.heap_setCell _ _ _ _ (show w.heap.size≠w.heap.size+1 by omega)];exact e1,v',qag (i:=2) (v:=v') e2,qbQ ho (qbD ho e2 (by decide)) _⟩
theorem qb3.later {w wr w2:World} {ep free:Int} {rs:List qaC} (h:qb3 w wr ep free rs) (hb:Below wr.heap.size wr w2):qb3 w w2 ep free rs:=by
 obtain ⟨v,h1,h2⟩:=h.row
 exact ⟨gtr h.below hb,qab hb h.res,v,qab hb h1,World.ownsRow.later h2 hb⟩
def qpA (V:qau) (w:World) (e:Ending) (w':World):Prop := ∃ va vc,e=.returned (.agg #[.bool V.good,.int .i64 V.epoch,.slice va V.recs.length vc,.int .i64 V.free])∧w'.ownsRow w.heap.size 74 4 (.slice va V.recs.length vc) V.recs.length (recVals V.recs)∧Below w.heap.size w w'
theorem qg8 (s k c b pb:Nat) (m:Ctl) (q:Cache) (S:qaf) (H:Nat→Prop) (p:qcd) (vs:Value) (ra:Option Addr) (rc:Nat) (w:World) (h:Sys X w s k c b m q S H) (hp:qq5 w pb p vs (.slice ra p.recs.length rc)) (hr:SliceAt w (.slice ra p.recs.length rc) p.recs.length 4 (recVals p.recs)) (hn:p.recs.length≤100) (ho:S.view.recs.length≤100):Calls Tryz.prog 135 #[.pointer (some ⟨s,0,none⟩),.pointer (some ⟨pb,0,none⟩)] w (qpA (behindV S p) w):=by
 obtain ⟨a,cp,h1,h2⟩:=h.st
 have HCL:=zH (fun w h=>qip (.slice a S.view.recs.length cp) S.view.recs w h (by omega))
 have H0:=zH (zA hp (zA hr (zA h2.at_ h1)))
 obtain ⟨c0,c1,c2,c3,c4,c5,c6,c7,cf⟩:=qqE h1
 obtain ⟨p0,p1,p2,p3,p4,p5,pf⟩:=row6 hp
 have hpl:pb<w.heap.size:=qat hp
 have hsl:s<w.heap.size:=qat h1
 have hbB:=qac (Below.refl w.heap.size w) (.cells #[.bool false,.int .i64 0,.slice none 0 0,.int .i64 0] 52)
 have e4:=(hbB.cell (p:=⟨pb,4,none⟩) hpl).trans p4
 have e5:=(hbB.cell (p:=⟨pb,5,none⟩) hpl).trans p5
 have hres:=qad w (.cells #[.bool false,.int .i64 0,.slice none 0 0,.int .i64 0] 52)
 have hsz:(w.alloc (.cells #[.bool false,.int .i64 0,.slice none 0 0,.int .i64 0] 52)).heap.size=w.heap.size+1:=by simp
 have HB:=zH (zA hbB hres)
 clear h hp hr h1 h2 c0 c1 c2 c3 c4 c5 c6 c7 cf p0 p1 p2 p3 p4 p5 pf hbB hres
 go_enter Tryz.func135,Tryz.ntmps135
 go_upto_region 1 with fail
 generalize w.alloc (.cells #[.bool false,.int .i64 0,.slice none 0 0,.int .i64 0] 52)=W at *
 have hne:W.heap.size≠pb:=by omega
 have hne2:pb≠W.heap.size:=by omega
 have hlp:pb<W.heap.size:=by omega
 go_region_held3 (fun w'=>w'.cell? ⟨pb,4,none⟩=some (.int .i64 p.free)∧w'.cell? ⟨pb,5,none⟩=some (.int .i64 p.epoch)) (first | go_keep | exact ⟨(World.cell?_alloc_lt _ _ _ hlp).trans e4,(World.cell?_alloc_lt _ _ _ hlp).trans e5⟩) (fail)
 have hbW:Below w.heap.size w (W.alloc (.cells #[.bool true,.int .i64 p.epoch,.slice none 0 0,.int .i64 p.free] 52)).drew:=qai (qac HB.out.1 _)
 have hrow:(W.alloc (.cells #[.bool true,.int .i64 p.epoch,.slice none 0 0,.int .i64 p.free] 52)).drew.heap[w.heap.size+1]? = some (.cells #[.bool true,.int .i64 p.epoch,.slice none 0 0,.int .i64 p.free] 52 (0,0)):=by
  rw [← hsz];exact qad W _
 have hres2:=qab (qai (qac (Below.refl W.heap.size W) (.cells #[.bool true,.int .i64 p.epoch,.slice none 0 0,.int .i64 p.free] 52))) HB.out.2
 generalize (W.alloc (.cells #[.bool true,.int .i64 p.epoch,.slice none 0 0,.int .i64 p.free] 52)).drew=w2 at *
 have HA:=zH (show qb3 w w2 p.epoch p.free [] from ⟨hbW,hres2,_,hrow,World.ownsRow_nil _ _ _ _⟩)
 have HR:=zH hrow
 have p0:w2.cell? ⟨pb,0,none⟩=some (.int .i64 p.wipe):=(hbW.cell (p:=⟨pb,0,none⟩) hpl).trans (qaa H0.out.1 0)
 have c6:w2.cell? ⟨s,6,none⟩=some (.slice a S.view.recs.length cp):=(hbW.cell (p:=⟨s,6,none⟩) hsl).trans (qaa H0.out.2.2.2 6)
 clear hbW hrow hres2 e4 e5 hne hne2 hlp hsz HB
 go_upto_if 21 with fail
 go_cut [28] from 21 to 28 (fun v wx=>qb3 w wx p.epoch p.free (if p.wipe<0 then S.view.recs else []))
 case first =>
  by_cases hw:p.wipe<0
  ·
   have HW:=zH hw
   go_wp2_with fail
   refine (HCL.out _ (H0.out.2.2.1.later HA.out.below)).mono ?_
   rintro e w3 ⟨v,rfl,ho,hb⟩
   have HS:=zH (zA (qb9 ho HA.out.below.size) (zA hb (qab hb HR.out)))
   clear ho hb
   obtain ⟨xa,xc,rfl⟩:=qaD HS.out.1
   obtain ⟨d0,d1,d2,d3,df⟩:=row4 HS.out.2.2
   go_wp2_with fail
   go_meet
   show qb3 _ _ _ _ _
   rw [if_pos (by have:=HW.out;omega)]
   exact qb3.put (gtr HA.out.below HS.out.2.1) (qab HS.out.2.1 HA.out.res) HS.out.2.2 HS.out.1
  ·
   have HW:=zH hw
   go_wp2_with fail
   go_meet
   show qb3 _ _ _ _ _
   rw [if_neg (by have:=HW.out;omega)]
   exact HA.out
 case rest =>
  have HV:=zH (show behindV S p=⟨true,p.epoch,(if p.wipe<0 then S.view.recs else [])++p.recs.filter notHead,p.free⟩ from rfl)
  have hL:(if p.wipe<0 then S.view.recs else []).length≤100:=by
   split
   ·
    exact ho
   ·
    simp
  generalize behindV S p=V at *
  generalize (if p.wipe<0 then S.view.recs else [])=L at *
  have HC:=zH hcut
  have q3:wc.cell? ⟨pb,3,none⟩=some (.slice ra p.recs.length rc):=(hcut.below.cell (p:=⟨pb,3,none⟩) hpl).trans (qaa H0.out.1 3)
  have HX:=zH (fun i (hi:i<p.recs.length)=>qfc p.recs i hi)
  have HT:=zH (fun j (hj:j<p.recs.length)=>List.take_succ_eq_append_getElem hj)
  obtain ⟨j0,ji,jz0,jz1,jz2⟩:=info_parts qk5
  clear p0 c6 HA HR HCL hcut
  go_wp2_with fail
  go_loopg [34] p.recs.length (fun n i wr => ∃ j:Nat,n=p.recs.length - j∧i=.int .i64 j∧j≤p.recs.length∧qb3 w wr p.epoch p.free (L++(p.recs.take j).filter notHead))
  case atStart=>exact ⟨0,rfl,rfl,Nat.zero_le _,by simpa using HC.out⟩
  case round =>
   obtain ⟨j,hgn,rfl,hj,hM⟩:=hrel
   have HB:=zH (zA hgn hM)
   clear hgn hM
   by_cases hlt:j<p.recs.length
   ·
    have hlt':(j:Int)<(p.recs.length:Int):=by omega
    obtain ⟨b',o,rfl,hc,hx⟩:=H0.out.2.1.some (by omega)
    obtain ⟨r0,r1,r2,r3⟩:=HX.out j hlt
    have cc : ∀ i u,(recVals p.recs)[4 * j+i]? = some u→wr.cell? ⟨b',o+j * 4+i,none⟩=some u:=fun i u hu=>by
     have e:=hx _ _ hu
     rw [show o+j * 4+i=o+(4 * j+i) by omega]
     exact (HB.out.2.below.cell (p:=⟨b',o+(4 * j+i),none⟩) (World.block_lt_of_cell? w _ e)).trans e
    have HCC:=zH cc
    have d0:wr.cell? ⟨b',o+j * 4,none⟩=some (.int .i64 p.recs[j].kind):=cc 0 _ r0
    have d1:wr.cell? ⟨b',o+j * 4+1,none⟩=some (.int .i64 p.recs[j].epoch):=cc 1 _ r1
    have d2:wr.cell? ⟨b',o+j * 4+2,none⟩=some (.string p.recs[j].key):=cc 2 _ r2
    have d3:wr.cell? ⟨b',o+j * 4+3,none⟩=some (.string p.recs[j].value):=cc 3 _ r3
    have HTK:=zH (show (p.recs.take (j+1)).filter notHead=(p.recs.take j).filter notHead++[p.recs[j]].filter notHead by rw [HT.out j hlt,List.filter_append])
    have HLE:=zH (show ((p.recs.take j).filter notHead).length≤j from Nat.le_trans (List.length_filter_le _ _) (by rw [List.length_take];omega))
    clear cc r0 r1 r2 r3 hx
    generalize p.recs[j]=r at *
    have e0:=qad wr (.cells #[.int .i64 r.kind,.int .i64 r.epoch,.string r.key,.string r.value] 74)
    have HN:=zH (HB.out.2.later (qac (Below.refl _ wr) (.cells #[.int .i64 r.kind,.int .i64 r.epoch,.string r.key,.string r.value] 74)))
    obtain ⟨f0,f1,f2,f3,ff⟩:=row4 e0
    have HE0:=zH e0
    have hgl:=qat e0
    clear e0
    go_upto_region 7 with fail
    clear d0 d1 d2 d3
    generalize wr.heap.size=g at *
    generalize wr.alloc (.cells #[.int .i64 r.kind,.int .i64 r.epoch,.string r.key,.string r.value] 74)=w3 at *
    by_cases hk:r.kind=0
    ·
     have hkb:(r.kind != 0)=false:=by rw [hk];rfl
     replace HTK:=zH (show (p.recs.take (j+1)).filter notHead=(p.recs.take j).filter notHead by rw [HTK.out,List.filter_cons_of_neg (by unfold notHead;rw [hkb];decide)];simp)
     rw [hk] at f0
     clear hk hkb
     go_wp2_with fail
     go_roundg (p.recs.length - (j+1))
     case measure=>have:=HB.out.1;omega
     case rel=>exact ⟨j+1,rfl,by go_num,by omega,by rw [HTK.out];exact HN.out⟩
    ·
     have hkb:(r.kind != 0)=true:=bne_iff_ne.2 hk
     replace HTK:=zH (show L++(p.recs.take (j+1)).filter notHead=(L++(p.recs.take j).filter notHead)++[r] by rw [HTK.out,List.filter_cons_of_pos (by unfold notHead;exact hkb),List.append_assoc];rfl)
     have hML:(L++(p.recs.take j).filter notHead).length≤200:=by rw [List.length_append];have:=HLE.out;omega
     generalize L++(p.recs.take j).filter notHead=M at *
     obtain ⟨v,hrow,hown⟩:=HN.out.row
     obtain ⟨t0,t1,t2,t3,tf⟩:=row4 hrow
     have HO:=zH (zA hrow hown)
     clear hrow hown hk
     go_wp2_with (at_builtin;refine wpList_append_lies _ rfl _ _ 50 rfl w.heap.size 74 j0 (.agg #[.int .i64 0,.int .i64 0,.string ⟨#[]⟩,.string ⟨#[]⟩]) 4 48 Tryz.underlying50 ji jz0 jz1 jz2 rfl (by decide) v M.length (recVals M) ?b1 (World.ownsRow.later HO.out.2 (qac (Below.refl _ _) _)) ⟨w3.heap.size,0,none⟩ 1 1 [.int .i64 r.kind,.int .i64 r.epoch,.string r.key,.string r.value] ?b2 rfl ?b3 ?b4 (by decide) ?b5 ?b6 ?b7 _ rfl ?_)
     case b1=>rfl
     case b2=>rfl
     case b3=>exact World.news_of_block (cs := #[.int .i64 r.kind,.int .i64 r.epoch,.string r.key,.string r.value]) (t:=74) (fr:=(0,0)) (qad w3 _)
     case b4=>intro u hu;simp only [List.mem_cons,List.not_mem_nil,or_false] at hu;rcases hu with rfl | rfl | rfl | rfl <;> rfl
     case b5=>simp only [maxLen];omega
     case b6=>omega
     case b7=>have:=HN.out.below.size;simp only [World.size_alloc];omega
     intro g5 cap5 w4 how hgr _ _
     have hgr2:=qdK (qac (Below.refl w3.heap.size w3) (.cells #[.int .i64 r.kind,.int .i64 r.epoch,.string r.key,.string r.value] 74)) hgr
     have how2:w4.ownsRow w.heap.size 74 4 (.slice (some ⟨g5,0,none⟩) (M.length+1) cap5) (M++[r]).length (recVals (M++[r])):=by
      rw [List.length_append,qdm];exact how
     have h1:w4.heap[w.heap.size]? = _:=(hgr2.block _ (qat HN.out.res) (qbD HO.out.2 HN.out.res (by decide))).trans HN.out.res
     have h2:w4.heap[w.heap.size+1]? = _:=(hgr2.block _ (qat HO.out.1) (qbD HO.out.2 HO.out.1 (by decide))).trans HO.out.1
     have HP:=zH (qb3.put (qfJ HN.out.below HN.out.below.size (qaN HO.out.2) hgr2) h1 h2 how2)
     obtain ⟨x0,x1,x2,x3,xf⟩:=row4 h2
     clear how hgr hgr2 how2 h1 h2 t0 t1 t2 t3 tf f0 f1 f2 f3 ff
     go_wp2_with fail
     go_roundg (p.recs.length - (j+1))
     case measure=>have:=HB.out.1;omega
     case rel=>exact ⟨j+1,rfl,by go_num,by omega,by rw [HTK.out];exact HP.out⟩
   ·
    obtain rfl:j=p.recs.length:=by omega
    rw [List.take_length] at HB
    generalize L++p.recs.filter notHead=M at *
    obtain ⟨v,hrow,hown⟩:=HB.out.2.row
    obtain ⟨xa,xc,rfl⟩:=qaD hown
    obtain ⟨t0,t1,t2,t3,tf⟩:=row4 hrow
    obtain ⟨z0,z1,z2,z3,zf⟩:=row4 HB.out.2.res
    have HO:=zH (zA hrow hown)
    clear hrow hown
    go_wp2_with fail
    have hq:=qbA HB.out.2.res (.bool true) (.int .i64 p.epoch) (.slice xa M.length xc) (.int .i64 p.free)
    obtain ⟨q0,q1,q2,q3,qf⟩:=row4 hq
    refine bodyPost_ret (v:=.agg #[.bool true,.int .i64 p.epoch,.slice xa M.length xc,.int .i64 p.free]) ?_ rfl ?_
    ·
     change (results _ _).run _ (put4 _ _ _ _ _ _)=_
     simp [results,Tryz.results135,go_sem,q0,q1,q2,q3]
     rfl
    ·
     rw [HV.out]
     have ht:=qaR HO.out.2 (qaK wr w.heap.size (.bool true) (.int .i64 p.epoch) (.slice xa M.length xc) (.int .i64 p.free)) (fun y hy hx=>qbD HO.out.2 HB.out.2.res (by decide) (by rw [hy];exact congrArg some (show y=w.heap.size from hx).symm))
     exact ⟨xa,xc,rfl,ht,((((HB.out.2.below.setCell (p:=⟨w.heap.size,0,none⟩) (Nat.le_refl _) _).setCell (p:=⟨w.heap.size,1,none⟩) (Nat.le_refl _) _).setCell (p:=⟨w.heap.size,2,none⟩) (Nat.le_refl _) _).setCell (p:=⟨w.heap.size,3,none⟩) (Nat.le_refl _) _)⟩
end
end Go.Proofs.YtcfdenckiigdaaaGreat

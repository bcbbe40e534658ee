/- Part 33 of the contracts. -/
import Derived.Test.YtcfdenckiigdaaaGreatKp32
set_option linter.unusedVariables false
set_option maxRecDepth 100000
set_option maxHeartbeats 4000000
namespace Go.Proofs.YtcfdenckiigdaaaGreat
section
open Go.RowKit
structure qq7 (w:World) (a:Option Addr) (cp n sz:Nat) (cs:List Value) (F:Nat→Prop):Prop where
 at_:SliceAt w (.slice a n cp) n sz cs
 far : ∀ x o f,a=some ⟨x,o,f⟩→0<n → ¬ F x
theorem qq7.step {w w':World} {a:Option Addr} {cp n sz:Nat} {cs:List Value} {F G:Nat→Prop} (h:qq7 w a cp n sz cs F) (hz:0<sz) (st:Step F G w w'):qq7 w' a cp n sz cs G:=by
 rcases h.at_.ex with ⟨h1,h0⟩ | ⟨b,o,c,hv,hc,hx⟩
 ·
  exact ⟨⟨h.at_.len,.inl ⟨h1,h0⟩⟩,fun x o f e hl=>by omega⟩
 ·
  have hv':a=some ⟨b,o,none⟩:=by simp only [Value.slice.injEq] at hv;exact hv.1
  have hpos : ∀ i u,cs[i]? = some u→0<n:=fun i u hu=>by
   have h1:=(List.getElem?_eq_some_iff.1 hu).1
   rw [h.at_.len] at h1
   rcases Nat.eq_zero_or_pos n with h2 | h2
   ·
    rw [h2] at h1;simp at h1
   ·
    exact h2
  refine ⟨⟨h.at_.len,.inr ⟨b,o,c,hv,hc,fun i u hu=>st.touch.cell _ _ (hx i u hu) (h.far _ _ _ hv' (hpos i u hu))⟩⟩,fun x o' f e hl => ?_⟩
  have hlen:0<cs.length:=by rw [h.at_.len];exact Nat.mul_pos hl hz
  have hb:=World.block_lt_of_cell? w _ (hx 0 _ (List.getElem?_eq_getElem hlen))
  rw [hv'] at e
  obtain ⟨rfl,_⟩:b=x∧_:=by simpa using e
  exact st.safe hb (h.far _ _ _ hv' hl)
structure qlH (w:World) (pb:Nat) (p:qcd) (sa:Option Addr) (sc:Nat) (ra:Option Addr) (rc:Nat) (F:Nat→Prop):Prop where
 at_:qq5 w pb p (.slice sa p.slots.length sc) (.slice ra p.recs.length rc)
 far : ¬ F pb
 slots:qq7 w sa sc p.slots.length 1 (intVals p.slots) F
 recs:qq7 w ra rc p.recs.length 4 (recVals p.recs) F
theorem qlH.step {w w':World} {pb:Nat} {p:qcd} {sa:Option Addr} {sc:Nat} {ra:Option Addr} {rc:Nat} {F G:Nat→Prop} (h:qlH w pb p sa sc ra rc F) (st:Step F G w w'):qlH w' pb p sa sc ra rc G :=
 ⟨st.touch.at h.at_ h.far,st.safe (qat h.at_) h.far,h.slots.step (by decide) st,h.recs.step (by decide) st⟩
structure qcd.Ok (p:qcd):Prop where
 sector:4≤p.sector∧p.sector<8
 wipe:p.wipe<0∨(4≤p.wipe∧p.wipe<8)
 len:p.slots.length=p.recs.length
 few:p.recs.length≤8
 slots : ∀ x ∈ p.slots,0≤x∧x<8
 recs : ∀ r ∈ p.recs,qap r=true
def burnsL (sec:Int):List (Int×qaC)→Ctl→Ctl×Int
 | [],m=>(m,0)
 | x::l,m=>if (m.burnR (slotP sec x.1) (recText x.2)).2≠0 then m.burnR (slotP sec x.1) (recText x.2) else burnsL sec l (m.burnR (slotP sec x.1) (recText x.2)).1
theorem qlQ (sec:Int) (s0:4≤sec) (s1:sec<8) : ∀ (l:List (Int×qaC)) (m:Ctl),m.Ok→(∀ x ∈ l,0≤x.1∧x.1<8∧qap x.2=true)→(burnsL sec l m).1.Ok∧qaF m (burnsL sec l m).1
 | [],m,ok,h=>⟨ok,qaF.refl m⟩
 | x::l,m,ok,h=>by
  obtain ⟨h0,h1,h2⟩:=h x (by simp)
  have hsz:(recText x.2).size=64:=by
   unfold recText
   rw [qbg,qaO _ _ (qbO h2)]
  have o1:=qkT ok (slotP sec x.1) (recText x.2) (by unfold slotP;omega) (by unfold slotP;omega) hsz
  have m1:=qeY m (slotP sec x.1) (recText x.2)
  unfold burnsL
  split
  ·
   exact ⟨o1,m1⟩
  ·
   have:=qlQ sec s0 s1 l _ o1 (fun y hy=>h y (by simp [hy]))
   exact ⟨this.1,m1.trans this.2⟩
def firstT (m:Ctl) (q:Cache) (p:qcd) (reads:List Int):Ctl×Cache×List Int×Int:=if 0≤p.wipe then wipeT m q p.wipe reads else (m,q,[],0)
def qb0 (b:Ctl×Int) (q:Cache) (wipe:Int) (out reads:List Int):Ctl×Cache×List Int×Int:=if b.2≠0 then (b.1,q,[],b.2) else if 0≤wipe then (b.1,q,out,0) else restR reads [] b.1 q
def qha (t:Ctl×Cache×List Int×Int) (p:qcd) (reads:List Int):Ctl×Cache×List Int×Int:=if t.2.2.2≠0 then (t.1,t.2.1,[],t.2.2.2) else qb0 (burnsL p.sector (p.slots.zip p.recs) t.1) t.2.1 p.wipe t.2.2.1 reads
def writesR (m:Ctl) (q:Cache) (p:qcd) (reads:List Int):Ctl×Cache×List Int×Int:=qha (firstT m q p reads) p reads
end
section
open Go.RowKit
theorem qm7 (s k c b cap pb:Nat) (m:Ctl) (q:Cache) (S:qaf) (H:Nat→Prop) (p:qcd) (sa:Option Addr) (sc:Nat) (ra:Option Addr) (rc:Nat) (a:Option Addr) (reads:List Int) (w:World) (h:Sys (fun _=>False) w s k c b m q S H) (ok:m.Ok) (g:q.Good) (hh:0<m.chip.busy.length→m.chip.home<w.heap.size) (hi:qak w a reads H) (hcap:reads.length≤cap) (hr:readsOk reads=true) (hp:qlH w pb p sa sc ra rc H) (pk:p.Ok):Calls Tryz.prog 134 #[.pointer (some ⟨s,0,none⟩),.pointer (some ⟨pb,0,none⟩),.slice a reads.length cap] w (qoA s k c b (writesR m q p reads).1 (writesR m q p reads).2.1 S (writesR m q p reads).2.2.1 (writesR m q p reads).2.2.2 H w):=by
 have hlen:=(qcL hr).1
 have HWT:=zH (fun w' (hb:Below w.heap.size w w') (h0:4≤p.wipe∧p.wipe<8)=>qm1 s k c b cap m q S H p.wipe a reads w' (h.later hb) ok (hi.step (Step.of_below hb)) hcap (by omega) (fun hl=>Nat.lt_of_lt_of_le (hh hl) hb.size) h0.1 h0.2)
 have HTF:=zH (show (0≤p.wipe→firstT m q p reads=wipeT m q p.wipe reads)∧(¬ 0≤p.wipe→firstT m q p reads=(m,q,[],0)) from ⟨fun h=>if_pos h,fun h=>if_neg h⟩)
 have HTO:=zH (show (firstT m q p reads).1.Ok∧qaF m (firstT m q p reads).1 by
  unfold firstT
  split
  ·
   rename_i h0
   have h4:4≤p.wipe∧p.wipe<8:=by have:=pk.wipe;omega
   refine ⟨qpv ok p.wipe h4.1 h4.2 reads,?_⟩
   unfold wipeT
   rw [if_pos hr]
   exact (qhX ok _ (by omega) (by omega) reads (fun x hx=>by have:=(qcL hr).2 x hx;omega)).2.2
  ·
   exact ⟨ok,qaF.refl m⟩)
 have HR:=zH (show writesR m q p reads=qha (firstT m q p reads) p reads from rfl)
 have H0:=zH (zA h (zA hi (zA hp hh)))
 have HPK:=zH pk
 have HG:=zH (zA g hr)
 have hw48:p.wipe<0∨(4≤p.wipe∧p.wipe<8):=pk.wipe
 obtain ⟨a0,cp0,h1,h2⟩:=h.st
 obtain ⟨c0,c1,c2,c3,c4,c5,c6,c7,cf⟩:=qqE h1
 obtain ⟨p0,p1,p2,p3,p4,p5,pf⟩:=row6 hp.at_
 clear h ok g hi hr hp pk hh h1 h2 c2 c3 c4 c5 c6 c7 p4 p5
 generalize writesR m q p reads=wr0 at *
 generalize firstT m q p reads=T at *
 obtain ⟨m1,q1,out1,er1⟩:=T
 simp only at HTO
 go_enter Tryz.func134,Tryz.ntmps134
 go_upto_if 18 with fail
 go_cut [8] from 18 to 39 (fun v wx => ∃ H1,Sys (fun _=>False) wx s k c b m1 q1 S H1∧Step H H1 w wx∧er1=0∧wx.ownsRow w.heap.size 3 1 v out1.length (intVals out1)∧(∀ g,v.ownBlock=some g → ¬ H1 g))
 case first =>
  by_cases hw:p.wipe<0
  ·
   have HWN:=zH (HTF.out.2 (by omega))
   go_wp2_with fail
   go_meet
   have e:=HWN.out
   simp only [Prod.mk.injEq] at e
   obtain ⟨rfl,rfl,rfl,rfl⟩:=e
   exact ⟨H,H0.out.1,Step.refl _ _,rfl,World.ownsRow_nil _ _ _ _,by simp [Value.ownBlock]⟩
  ·
   have h4:4≤p.wipe∧p.wipe<8:=by omega
   have HWX:=zH (fun w' hb=>HWT.out w' hb h4)
   rw [← HTF.out.1 (by omega)] at HWX
   simp only at HWX
   have hge:0≤p.wipe:=by omega
   clear HWT HTF hw48
   go_upto_region 3 with fail
   go_cut [9,10] from 18 to 35 (fun v9 v10 wx=>v10=.int .i64 er1 ∧ ∃ H1,Sys (fun _=>False) wx s k c b m1 q1 S H1∧Step H H1 w wx∧(er1=0→wx.ownsRow w.heap.size 3 1 v9 out1.length (intVals out1) ∧ ∀ g,v9.ownBlock=some g → ¬ H1 g))
   case first =>
    go_region_with (go_at_call 90;refine (HWX.out _ (qai (Below.refl _ _))).mono ?_;rintro e w' ⟨v,rfl,hv0,H2,hs2,st2,how⟩;have HQ:=zH (zA hs2 (zA ((Step.of_below (qai (Below.refl _ _))).trans st2) how));clear hs2 st2 how hv0)
    all_goals
     go_wp2_with fail
     go_meet
     exact ⟨rfl,H2,HQ.out.1,HQ.out.2.1,HQ.out.2.2⟩
   case rest =>
    obtain ⟨rfl,H2,hs2,st2,how⟩:=hcut
    have HS:=zH (zA hs2 (zA st2 how))
    clear hs2 st2 how
    by_cases ke:er1=0
    ·
     have HE:=zH ke
     subst ke
     go_wp2_with fail
     go_meet
     exact ⟨H2,HS.out.1,HS.out.2.1,by trivial,(HS.out.2.2 (by trivial)).1,(HS.out.2.2 (by trivial)).2⟩
    ·
     have hne:(er1 != 0)=true:=bne_iff_ne.2 ke
     have HE:=zH ke
     clear ke
     go_wp2_with fail
     go_ret2
     rw [HR.out,qha,if_pos HE.out]
     exact ⟨_,rfl,fun _=>rfl,H2,HS.out.1,HS.out.2.1,fun h0=>absurd h0 HE.out⟩
 case rest =>
  obtain ⟨H1,hs1,st1,rfl,ho1⟩:=hcut
  have HS:=zH (zA hs1 (zA st1 ho1))
  replace HR:=zH (show wr0=qb0 (burnsL p.sector (p.slots.zip p.recs) m1) q1 p.wipe out1 reads from HR.out.trans (if_neg (by simp)))
  have HPL:=zH (H0.out.2.2.1.step st1)
  clear hs1 st1 ho1 p0 p1 p2 p3 pf c0 c1 cf HWT
  obtain ⟨p0,p1,p2,p3,p4,p5,pf⟩:=row6 HPL.out.at_
  have hsl:(intVals p.slots).length=p.slots.length:=by simp [intVals]
  have hsn:p.slots.length≤8:=by have:=HPK.out.few;have:=HPK.out.len;omega
  go_wp2_with fail
  go_loopg [45] p.slots.length (fun gn i wr => ∃ (j:Nat) (mj:Ctl) (Hj:Nat→Prop),gn=p.slots.length - j∧i=.int .i64 j∧j≤p.slots.length∧burnsL p.sector ((p.slots.zip p.recs).drop j) mj=burnsL p.sector (p.slots.zip p.recs) m1∧mj.Ok∧qaF m mj∧Sys (fun _=>False) wr s k c b mj q1 S Hj∧Step H Hj w wr∧wr.ownsRow w.heap.size 3 1 u8 out1.length (intVals out1) ∧ ∀ g,u8.ownBlock=some g → ¬ Hj g)
  case atStart=>exact ⟨0,m1,H1,rfl,rfl,Nat.zero_le _,rfl,HTO.out.1,HTO.out.2,HS.out.1,HS.out.2.1,HS.out.2.2.1,HS.out.2.2.2⟩
  case round =>
   obtain ⟨j,mj,Hj,hgn,rfl,hj,hbl,okj,hmj,hsj,stj,hoj⟩:=hrel
   have HJ:=zH (zA hgn (zA hbl (zA okj (zA hmj (zA hsj (zA stj hoj))))))
   have HPJ:=zH (H0.out.2.2.1.step stj)
   clear hgn hbl okj hmj hsj stj hoj p0 p1 p2 p3 p4 p5 pf
   obtain ⟨p0,p1,p2,p3,p4,p5,pf⟩:=row6 HPJ.out.at_
   by_cases hlt:j<p.slots.length
   ·
    have hlt':(j:Int)<(p.slots.length:Int):=by omega
    have hrl:p.recs.length=p.slots.length:=HPK.out.len.symm
    have hrlt:j<p.recs.length:=by omega
    have hrlt':(j:Int)<(p.recs.length:Int):=by omega
    obtain ⟨sb,so,rfl,hsc,hsx⟩:=HPJ.out.slots.at_.some (by omega)
    obtain ⟨rb,ro,rfl,hrc,hrx⟩:=HPJ.out.recs.at_.some (by omega)
    obtain ⟨r0,r1,r2,r3⟩:=qfc p.recs j hrlt
    have x0:wr.cell? ⟨sb,so+j,none⟩=some (.int .i64 p.slots[j]):=hsx j _ (by simp [intVals,hlt])
    have d0:wr.cell? ⟨rb,ro+j * 4,none⟩=some (.int .i64 p.recs[j].kind):=by rw [Nat.mul_comm];exact hrx _ _ r0
    have d1:wr.cell? ⟨rb,ro+j * 4+1,none⟩=some (.int .i64 p.recs[j].epoch):=by rw [Nat.mul_comm,Nat.add_assoc];exact hrx _ _ r1
    have d2:wr.cell? ⟨rb,ro+j * 4+2,none⟩=some (.string p.recs[j].key):=by rw [Nat.mul_comm,Nat.add_assoc];exact hrx _ _ r2
    have d3:wr.cell? ⟨rb,ro+j * 4+3,none⟩=some (.string p.recs[j].value):=by rw [Nat.mul_comm,Nat.add_assoc];exact hrx _ _ r3
    have hl8:=HPK.out.slots _ (List.getElem_mem hlt)
    have hrm:=HPK.out.recs _ (List.getElem_mem hrlt)
    have hsec:=HPK.out.sector
    have HDR:=zH (show (p.slots.zip p.recs).drop j=(p.slots[j],p.recs[j])::(p.slots.zip p.recs).drop (j+1) by
     rw [List.drop_eq_getElem_cons (by rw [List.length_zip];omega),List.getElem_zip])
    generalize p.slots[j]=l at *
    generalize p.recs[j]=r at *
    have HBU:=zH (fun w' (hb:Below wr.heap.size wr w')=>qic (X:=fun _=>False) s k c b mj q1 S Hj p.sector l r w' (HJ.out.2.2.2.2.1.later hb) HJ.out.2.2.1 hsec.1 hsec.2 hl8.1 hl8.2 hrm)
    have HMB:=zH (show (mj.burnR (slotP p.sector l) (recText r)).1.Ok∧qaF mj (mj.burnR (slotP p.sector l) (recText r)).1 by
     have hsz:(recText r).size=64:=by
      unfold recText
      rw [qbg,qaO _ _ (qbO hrm)]
     exact ⟨qkT HJ.out.2.2.1 (slotP p.sector l) (recText r) (by unfold slotP;omega) (by unfold slotP;omega) hsz,qeY _ _ _⟩)
    replace HDR:=zH (show burnsL p.sector ((p.slots.zip p.recs).drop j) mj=if (mj.burnR (slotP p.sector l) (recText r)).2≠0 then mj.burnR (slotP p.sector l) (recText r) else burnsL p.sector ((p.slots.zip p.recs).drop (j+1)) (mj.burnR (slotP p.sector l) (recText r)).1 by rw [HDR.out];rfl)
    unfold qaC.cells at HBU
    generalize mj.burnR (slotP p.sector l) (recText r)=br at *
    obtain ⟨m2,er2⟩:=br
    simp only at HBU HMB HDR
    clear r0 r1 r2 r3 hsx hrx hl8 hrm p0 p2 p4 p5
    go_upto_region 10 with fail
    go_cut [13] from 50 to 63 (fun v wx=>v=.int .i64 er2 ∧ ∃ H2,Sys (fun _=>False) wx s k c b m2 q1 S H2∧Step Hj H2 wr wx)
    case first =>
     go_region_with (go_at_call 91;refine (HBU.out _ (qai (Below.refl _ _))).mono ?_;rintro e w' ⟨rfl,H2,hs2,st2⟩;have HQ:=zH (zA hs2 ((Step.of_below (qai (Below.refl _ _))).trans st2));clear hs2 st2)
     all_goals
      go_wp2_with fail
      go_meet
      exact ⟨rfl,H2,HQ.out⟩
    case rest =>
     obtain ⟨rfl,H2,hs2,st2⟩:=hcut
     have HS2:=zH (zA hs2 (zA (HJ.out.2.2.2.2.2.1.trans st2) (zA (qaR HJ.out.2.2.2.2.2.2.1 st2.touch (fun y hy=>HJ.out.2.2.2.2.2.2.2 y hy)) (fun y hy=>st2.safe (qeC HJ.out.2.2.2.2.2.2.1 y hy) (HJ.out.2.2.2.2.2.2.2 y hy)))))
     clear hs2 st2 p1 p3 pf d0 d1 d2 d3 x0
     by_cases ke:er2=0
     ·
      subst ke
      have HD2:=zH (HDR.out.symm.trans HJ.out.2.1)
      replace HD2:=zH ((if_neg (by simp)).symm.trans HD2.out)
      have HQ:=zH (zA HMB.out.1 (HJ.out.2.2.2.1.trans HMB.out.2))
      go_wp2_with fail
      go_roundg (p.slots.length - (j+1))
      case measure=>have:=HJ.out.1;omega
      case rel=>exact ⟨j+1,m2,H2,rfl,by go_num,by omega,HD2.out,HQ.out.1,HQ.out.2,HS2.out.1,HS2.out.2.1,HS2.out.2.2.1,HS2.out.2.2.2⟩
     ·
      have hne:(er2 != 0)=true:=bne_iff_ne.2 ke
      have HE:=zH ke
      have HD2:=zH (HJ.out.2.1.symm.trans (HDR.out.trans (if_pos ke)))
      clear ke
      go_wp2_with fail
      go_ret2
      rw [HR.out,HD2.out,qb0,if_pos HE.out]
      exact ⟨_,rfl,fun _=>rfl,H2,HS2.out.1,HS2.out.2.1,fun h0=>absurd h0 HE.out⟩
   ·
    obtain rfl:j=p.slots.length:=by omega
    have HB:=zH (show (mj,(0:Int))=burnsL p.sector (p.slots.zip p.recs) m1 by
     rw [← HJ.out.2.1,List.drop_of_length_le (by rw [List.length_zip];omega)];rfl)
    obtain ⟨a1,cp1,h1,h2⟩:=HJ.out.2.2.2.2.1.st
    obtain ⟨c0,c1,c2,c3,c4,c5,c6,c7,cf⟩:=qqE h1
    clear h1 h2 c0 c2 c3 c4 c5 c6 c7 p1 p2 p3 p4 p5
    by_cases hw:p.wipe<0
    ·
     have e:=HTF.out.2 (by omega)
     simp only [Prod.mk.injEq] at e
     have hq1:q1=q:=e.2.1
     have HAL:=zH (qvO s k c b cap mj q1 S Hj a reads wr HJ.out.2.2.2.2.1 HJ.out.2.2.1 (by rw [hq1];exact HG.out.1) (H0.out.2.1.step HJ.out.2.2.2.2.2.1) hcap (fun hl=>by
      have h3:=HJ.out.2.2.2.1
      have h4:=H0.out.2.2.2 (Nat.lt_of_lt_of_le hl h3.2)
      have h5:=HJ.out.2.2.2.2.2.1.touch.size
      rw [h3.1];omega) HG.out.2)
     have HW:=zH (show qb0 (mj,0) q1 p.wipe out1 reads=restR reads [] mj q1 by
      unfold qb0
      rw [if_neg (by simp),if_neg (by omega)])
     clear e hq1 hw48 HTF
     generalize restR reads [] mj q1=rr at *
     go_wp2_with fail
     refine HAL.out.mono ?_
     rintro e w2 ⟨v,rfl,hv0,H2,hs2,st2,how⟩
     have HQ:=zH (zA hs2 (zA (HJ.out.2.2.2.2.2.1.trans st2) (zA hv0 how)))
     clear hs2 st2 hv0 how
     go_wp2_with fail
     go_ret2
     rw [HR.out,← HB.out,HW.out]
     exact ⟨v,rfl,HQ.out.2.2.1,H2,HQ.out.1,HQ.out.2.1,fun h0=>⟨qb9 (HQ.out.2.2.2 h0).1 HJ.out.2.2.2.2.2.1.touch.size,(HQ.out.2.2.2 h0).2⟩⟩
    ·
     have hge:0≤p.wipe:=by omega
     have HW:=zH (show qb0 (mj,0) q1 p.wipe out1 reads=(mj,q1,out1,0) by
      unfold qb0
      rw [if_neg (by simp),if_pos hge])
     clear hw48 HTF hw
     go_wp2_with fail
     go_ret2
     rw [HR.out,← HB.out,HW.out]
     exact ⟨_,rfl,fun h0=>absurd rfl h0,Hj,HJ.out.2.2.2.2.1,HJ.out.2.2.2.2.2.1,fun _=>⟨HJ.out.2.2.2.2.2.2.1,HJ.out.2.2.2.2.2.2.2⟩⟩
end
section
open Go.RowKit
def qfk (x:qaq):Prop:=qap (putRec x)=true
theorem qsn {r:qaC} (h:qap r=true) (hk:r.kind=1):qfk ⟨r.key,r.value⟩:=by
 unfold qfk putRec
 unfold qap at h ⊢
 rw [if_neg (by rw [hk];decide),if_pos hk] at h
 simp only at h ⊢
 rw [if_neg (by decide)]
 simp only [Bool.and_eq_true,if_true] at h ⊢
 exact ⟨⟨by decide,h.1.2⟩,h.2⟩
theorem qeb {ps:List qaq} {r:qaC} (h : ∀ x ∈ ps,qfk x) (hr:qcH r) : ∀ x ∈ withL ps r,qfk x:=by
 intro x hx
 have hnew:r.kind=1→x=⟨r.key,r.value⟩→qfk x:=fun hk e=>by rw [e];exact qsn hr.1 hk
 unfold withL at hx
 split at hx
 ·
  split at hx
  ·
   rcases List.mem_append.1 hx with hx | hx
   ·
    exact h x (List.mem_of_mem_take hx)
   ·
    exact h x (List.mem_of_mem_drop hx)
  ·
   rename_i hk
   have hk1:r.kind=1:=(qo0 hr).resolve_right hk
   rcases List.mem_append.1 hx with hx | hx
   ·
    rcases List.mem_append.1 hx with hx | hx
    ·
     exact h x (List.mem_of_mem_take hx)
    ·
     exact hnew hk1 (by simpa using hx)
   ·
    exact h x (List.mem_of_mem_drop hx)
 ·
  split at hx
  ·
   rename_i hk1
   rcases List.mem_append.1 hx with hx | hx
   ·
    rcases List.mem_append.1 hx with hx | hx
    ·
     exact h x (List.mem_of_mem_take hx)
    ·
     exact hnew hk1 (by simpa using hx)
   ·
    exact h x (List.mem_of_mem_drop hx)
  ·
   exact h x hx
theorem qiE : ∀ (rs:List qaC) (ps:List qaq),(∀ x ∈ ps,qfk x)→(∀ r ∈ rs,qcH r) → ∀ x ∈ rs.foldl withL ps,qfk x
 | [],ps,h,_=>h
 | r::rs,ps,h,hr=>qiE rs (withL ps r) (qeb h (hr r (by simp))) (fun y hy=>hr y (by simp [hy]))
theorem qer {rs:List qaC} (h : ∀ r ∈ rs,qcH r) : ∀ x ∈ buildL rs,qfk x:=qiE rs [] (fun x hx=>by simp at hx) h
theorem qbw {e:Int} (h0:1≤e) (h1:e≤1048576):qap (headRec e)=true:=by
 unfold qap headRec
 rw [if_pos rfl]
 simp only [qhi,qeA]
 simp
 omega
theorem qet {V:qau} (ok:V.Ok) {sec:Int} (s0:4≤sec) (s1:sec<8) {r:qaC} (hr:qcH r) (h:(changeR V sec r).1=0):(changeR V sec r).2.Ok:=by
 have hve:=ok.epoch
 have hvf:=ok.free
 unfold changeR at h ⊢
 split at h
 ·
  simp at h
 ·
  rename_i n1
  rw [if_neg n1]
  split at h
  ·
   simp at h
  ·
   rename_i n2
   rw [if_neg n2]
   split at h
   ·
    rename_i n3
    rw [if_pos n3]
    exact ⟨⟨s0,s1⟩,.inl (show (-1:Int)<0 by decide),rfl,by simp,fun x hx=>by
     obtain rfl:x=V.free:=by simpa using hx
     omega,fun x hx=>by
     obtain rfl:x=r:=by simpa using hx
     exact hr.1⟩
   ·
    rename_i n3
    rw [if_neg n3]
    split at h
    ·
     simp at h
    ·
     rename_i n4
     rw [if_neg n4]
     have hn:=qhI s0 s1
     have hp:=qeb (qer ok.recs) hr
     have hlen:(withL (buildL V.recs) r).length≤7:=by omega
     generalize withL (buildL V.recs) r=ps at *
     refine ⟨hn,.inr hn,?_,?_,fun x hx => ?_,fun x hx => ?_⟩
     ·
      simp [movedR]
     ·
      simp [movedR];omega
     ·
      simp only [movedR,List.mem_append,List.mem_map,List.mem_range,List.mem_singleton] at hx
      rcases hx with ⟨i,hi,rfl⟩ | rfl
      ·
       omega
      ·
       omega
     ·
      simp only [movedR,List.mem_append,List.mem_map,List.mem_singleton] at hx
      rcases hx with ⟨y,hy,rfl⟩ | rfl
      ·
       exact hp y hy
      ·
       exact qbw (by omega) (by omega)
end
section
structure Core where
 cells:ByteArray
 prot:Bool
 quad:Bool
 en:Bool
 goes:Bool
 job:Option Job
 busy:List Int
def qae.core (m:qae):Core:=⟨m.cells,m.prot,m.quad,m.en,m.goes,m.job,m.busy⟩
def Core.pass (c:Core):Core:=match c.job with
 | none=>c
 | some j=>if j.susp then c else if j.left - 1≤0 then { c with cells:=jobCells j c.cells ⟨#[255]⟩,job:=none,en:=false } else { c with job:=some { j with left:=j.left - 1 } }
def Core.passN:Nat→Core→Core
 | 0,c=>c
 | n+1,c=>Core.passN n c.pass
theorem qcl : ∀ (a b:Nat) (c:Core),Core.passN (a+b) c=Core.passN b (Core.passN a c)
 | 0,b,c=>by rw [Nat.zero_add];rfl
 | a+1,b,c=>by rw [Nat.add_right_comm];exact qcl a b c.pass
def qae.withCore (m:qae) (c:Core):qae:={ m with cells:=c.cells,prot:=c.prot,quad:=c.quad,en:=c.en,goes:=c.goes,job:=c.job,busy:=c.busy }
theorem qeI (m:qae):m.pass=m.withCore m.core.pass:=by
 unfold qae.pass Core.pass qae.withCore qae.core
 cases h:m.job with
 | none=>simp only;rw [← h]
 | some j =>
  simp only
  split
  ·
   simp only;rw [← h]
  ·
   split <;> rfl
theorem qc9 (m:qae):m.behind.core=m.core:=by
 unfold qae.behind
 repeat' split
 all_goals rfl
theorem qh7 (m:qae) (b:Int):(m.begins b).core=m.core:=by
 unfold qae.begins
 split
 ·
  rfl
 ·
  split
  ·
   rfl
  ·
   exact qc9 _
theorem qsK (m:qae) (x:Int):(m.step x).2.core=m.core:=by
 unfold qae.step
 split
 ·
  unfold qae.step0;split;exact qh7 _ _;rfl
 split
 ·
  unfold qae.step2;split;exact qc9 _;rfl
 split
 ·
  unfold qae.step3;split;exact qc9 _;rfl
 split
 ·
  unfold qae.step4;split;exact qc9 _;rfl
 split
 ·
  unfold qae.step5;split;exact qc9 _;rfl
 split
 ·
  unfold qae.says qae.next;split <;> rfl
 split <;> rfl
theorem qpT (m:qae) (x:Int):(m.clock x).2.core=m.core.pass:=by
 have h:m.pass.core=m.core.pass:=by rw [qeI];rfl
 unfold qae.clock
 split
 ·
  rw [qsK];exact h
 ·
  exact h
def feed:List Int→qae→qae
 | [],m=>m
 | x::r,m=>feed r (m.clock x).2
theorem qhE : ∀ (a b:List Int) (m:qae),feed (a++b) m=feed b (feed a m)
 | [],b,m=>rfl
 | x::a,b,m=>qhE a b _
theorem qlm : ∀ (xs:List Int) (d:Drv),(Drv.row xs d).1=true→(Drv.row xs d).2={ d with chip:=feed xs d.chip,n:=d.n+xs.length }
 | [],d,h=>rfl
 | x::r,d,h=>by
  cases hs:d.stop with
  | true=>rw [qhS x r d hs] at h;cases h
  | false =>
   rw [qmR x r d hs] at h ⊢
   rw [qlm r _ h]
   simp only [Drv.tick,feed,List.length_cons]
   congr 1
   omega
theorem qaQ {r:Bool×Drv} {f:Drv→Bool×Drv} (h:(andThen r f).1=true):r.1=true∧(f r.2).1=true∧(andThen r f).2=(f r.2).2:=by
 unfold andThen at h ⊢
 split at h
 ·
  rename_i hr;exact ⟨hr,h,by rw [if_pos hr]⟩
 ·
  cases h
def qfm (L b:Int):List Int:=(laneOut b L).map (qb2 L)
def qbj (L:Int):List Int→List Int
 | []=>[]
 | b::r=>qfm L b++qbj L r
theorem qmN (L:Int) : ∀ (bs:List Int) (d:Drv),(Drv.puts L bs d).1=true→(Drv.puts L bs d).2={ d with chip:=feed (qbj L bs) d.chip,n:=d.n+(qbj L bs).length }
 | [],d,h=>rfl
 | b::r,d,h=>by
  cases hp:(Drv.put b L d).1 with
  | false=>rw [qmM L b r d hp] at h;cases h
  | true =>
   rw [qn8 L b r d hp] at h ⊢
   rw [qmN L r _ h,show (Drv.put b L d).2={ d with chip:=feed (qfm L b) d.chip,n:=d.n+(qfm L b).length } from qlm _ d hp]
   simp only [qbj,qhE,List.length_append]
   congr 1
   omega
theorem qmi (L:Int) : ∀ (k:Nat) (xs:List Int) (d:Drv),(Drv.hear L k xs d).1=true→(Drv.hear L k xs d).2.2={ d with chip:=feed (List.replicate k 15) d.chip,n:=d.n+k }
 | 0,xs,d,h=>rfl
 | k+1,xs,d,h=>by
  cases hs:d.stop with
  | true=>rw [qf9 L k xs d hs] at h;cases h
  | false =>
   rw [qiL L k xs d hs] at h ⊢
   rw [qmi L k _ _ h]
   simp only [Drv.tick,List.replicate_succ,feed]
   congr 1
   omega
def listen (L:Int):Nat→qae→List Int
 | 0,m=>[]
 | k+1,m=>heard L (m.clock 15).1::listen L k (m.clock 15).2
theorem qrS (L:Int) : ∀ (k:Nat) (xs:List Int) (d:Drv),(Drv.hear L k xs d).1=true→(Drv.hear L k xs d).2.1=xs++listen L k d.chip
 | 0,xs,d,h=>by simp [Drv.hear,listen]
 | k+1,xs,d,h=>by
  cases hs:d.stop with
  | true=>rw [qf9 L k xs d hs] at h;cases h
  | false =>
   rw [qiL L k xs d hs] at h ⊢
   rw [qrS L k _ _ h]
   simp [listen,Drv.tick,Drv.said]
theorem qtI (L:Int) (d:Drv) (h:(Drv.get L d).1=true):(Drv.get L d).2={ d with chip:=feed (List.replicate (many L).toNat 15) d.chip,n:=d.n+(many L).toNat,out:=d.out++[laneIn (listen L (many L).toNat d.chip) L] }:=by
 unfold Drv.get Drv.got at h ⊢
 split at h
 ·
  rename_i hr
  rw [if_pos hr,qmi L _ _ _ hr,qrS L _ _ _ hr]
  rfl
 ·
  cases h
def qtj (a b:qae):Prop := ∃ k,b.core=Core.passN k a.core
theorem qtj.refl (a:qae):qtj a a:=⟨0,rfl⟩
theorem qtj.trans {a b c:qae} (h:qtj a b) (k:qtj b c):qtj a c:=by
 obtain ⟨n,h⟩:=h
 obtain ⟨m,k⟩:=k
 exact ⟨n+m,by rw [k,h,qcl]⟩
theorem qn3 (ps:List Ph) (d:Drv):qtj d.chip (Drv.phases ps d).2.chip :=
 qg1 (fun m=>qtj d.chip m) (fun m x h=>h.trans ⟨1,qpT m x⟩) ps d (qtj.refl _)
theorem qmZ {d:Drv} (h:d.most<0):d.stop=false:=by unfold Drv.stop;simp;intro;omega
theorem qlj : ∀ (xs:List Int) (d:Drv),d.most<0→(Drv.row xs d).1=true∧(Drv.row xs d).2.most<0
 | [],d,h=>⟨rfl,h⟩
 | x::r,d,h=>by rw [qmR x r d (qmZ h)];exact qlj r _ h
theorem qmj (L:Int) : ∀ (k:Nat) (xs:List Int) (d:Drv),d.most<0→(Drv.hear L k xs d).1=true∧(Drv.hear L k xs d).2.2.most<0
 | 0,xs,d,h=>⟨rfl,h⟩
 | k+1,xs,d,h=>by rw [qiL L k xs d (qmZ h)];exact qmj L k _ _ h
theorem qtH (L:Int) (d:Drv) (h:d.most<0):(Drv.get L d).1=true∧(Drv.get L d).2.most<0:=by
 have:=qmj L (many L).toNat [] d h
 unfold Drv.get Drv.got
 rw [if_pos this.1]
 exact ⟨rfl,this.2⟩
theorem qmK (L:Int) : ∀ (bs:List Int) (d:Drv),d.most<0→(Drv.puts L bs d).1=true∧(Drv.puts L bs d).2.most<0
 | [],d,h=>⟨rfl,h⟩
 | b::r,d,h=>by
  have:=qlj ((laneOut b L).map (qb2 L)) d h
  rw [qn8 L b r d this.1]
  exact qmK L r _ this.2
theorem qmg (L:Int) : ∀ (k:Nat) (d:Drv),d.most<0→(Drv.gets L k d).1=true∧(Drv.gets L k d).2.most<0
 | 0,d,h=>⟨rfl,h⟩
 | k+1,d,h=>by
  have:=qtH L d h
  rw [qk3 L k d this.1]
  exact qmg L k _ this.2
theorem qen {r:Bool×Drv} {f:Drv→Bool×Drv} (h:r.1=true∧r.2.most<0) (k:r.2.most<0→(f r.2).1=true∧(f r.2).2.most<0):(andThen r f).1=true∧(andThen r f).2.most<0:=by
 unfold andThen
 rw [if_pos h.1]
 exact k h.2
theorem qi6 : ∀ (ps:List Ph) (d:Drv),d.most<0→(Drv.phases ps d).1=true∧(Drv.phases ps d).2.most<0
 | [],d,h=>⟨rfl,h⟩
 | p::r,d,h=>qen (qen (qmK _ _ _ h) fun h=>qen (qlj _ _ h) fun h=>qmg _ _ _ h) (qi6 r _)
end
end Go.Proofs.YtcfdenckiigdaaaGreat

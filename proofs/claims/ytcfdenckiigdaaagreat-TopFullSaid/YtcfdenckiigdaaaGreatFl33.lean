/- Part 33 of the contracts. -/
import Derived.Test.YtcfdenckiigdaaaGreatFl32
set_option linter.unusedVariables false
set_option maxRecDepth 100000
set_option maxHeartbeats 4000000
namespace Go.Proofs.YtcfdenckiigdaaaGreat
open Tryz
section
open Go.RowKit
theorem Bm (s k c b cap pb:Nat) (m:aG) (q:Cache) (S:aA) (H:Nat→Prop) (p:fW) (sa:Option Addr) (sc:Nat) (ra:Option Addr) (rc:Nat) (a:Option Addr) (reads:List Int) (w:World) (h:Sys (fun _=>False) w s k c b m q S H) (ok:m.Ok) (g:q.Good) (hh:0<m.ar.busy.length→m.ar.home<w.heap.size) (hi:aN w a reads H) (hcap:reads.length≤cap) (hr:cY reads=true) (hp:vN w pb p sa sc ra rc H) (pk:p.Ok):Calls prog 134 #[.pointer (some ⟨s,0,none⟩),.pointer (some ⟨pb,0,none⟩),.slice a reads.length cap] w (Ax s k c b (dY m q p reads).1 (dY m q p reads).2.1 S (dY m q p reads).2.2.1 (dY m q p reads).2.2.2 H w):=by
 have hlen:=(jd hr).1
 have HWT:=zH (fun w' (hb:Below w.heap.size w w') (h0:4≤p.dH∧p.dH<8)=>Ak s k c b cap m q S H p.dH a reads w' (h.aj hb) ok (hi.step (Step.ah hb)) hcap (by omega) (fun hl=>zV (hh hl) hb.size) h0.1 h0.2)
 have HTF:=zH (show (0≤p.dH→firstT m q p reads=jf m q p.dH reads)∧(¬ 0≤p.dH→firstT m q p reads=(m,q,[],0)) from ⟨fun h=>if_pos h,fun h=>if_neg h⟩)
 have HTO:=zH (show (firstT m q p reads).1.Ok∧bG m (firstT m q p reads).1 by
  unfold firstT
  split
  ·
   rename_i h0
   have h4:4≤p.dH∧p.dH<8:=by have:=pk.dH;omega
   refine ⟨DE ok p.dH h4.1 h4.2 reads,?_⟩
   unfold jf
   rw [if_pos hr]
   exact (sK ok _ (by omega) (by omega) reads (fun x hx=>by have:=(jd hr).2 x hx;omega)).2.2
  ·
   exact ⟨ok,bG.refl m⟩)
 have HR:=zH (show dY m q p reads=pX (firstT m q p reads) p reads from rfl)
 have H0:=zH (zA h (zA hi (zA hp hh)))
 have HPK:=zH pk
 have HG:=zH (zA g hr)
 have hw48:p.dH<0∨(4≤p.dH∧p.dH<8):=pk.dH
 obtain ⟨a0,cp0,h1,h2⟩:=h.st
 obtain ⟨c0,c1,c2,c3,c4,c5,c6,c7,cf⟩:=tH h1
 obtain ⟨p0,p1,p2,p3,p4,p5,pf⟩:=kp hp.at_
 clear h ok g hi hr hp pk hh h1 h2 c2 c3 c4 c5 c6 c7 p4 p5
 generalize dY m q p reads=wr0 at *
 generalize firstT m q p reads=T at *
 obtain ⟨m1,q1,out1,er1⟩:=T
 simp only at HTO
 go_enter func134,ntmps134
 go_upto_if 18 with fail
 go_cut [8] from 18 to 39 (fun v wx => ∃ H1,Sys (fun _=>False) wx s k c b m1 q1 S H1∧Step H H1 w wx∧er1=0∧wx.ownsRow w.heap.size 3 1 v out1.length (aC out1)∧(∀ g,v.ownBlock=some g → ¬ H1 g))
 case first =>
  by_cases hw:p.dH<0
  ·
   have HWN:=zH (HTF.out.2 (by omega))
   go_wp2
   go_meet
   have e:=HWN.out
   simp only [Prod.mk.injEq] at e
   obtain ⟨rfl,rfl,rfl,rfl⟩:=e
   exact ⟨H,H0.out.1,Step.refl _ _,rfl,zN,by simp [Value.ownBlock]⟩
  ·
   have h4:4≤p.dH∧p.dH<8:=by omega
   have HWX:=zH (fun w' hb=>HWT.out w' hb h4)
   rw [← HTF.out.1 (by omega)] at HWX
   simp only at HWX
   have hge:0≤p.dH:=by omega
   clear HWT HTF hw48
   go_upto_region 3 with fail
   go_cut [9,10] from 18 to 35 (fun v9 v10 wx=>v10=.int .i64 er1 ∧ ∃ H1,Sys (fun _=>False) wx s k c b m1 q1 S H1∧Step H H1 w wx∧(er1=0→wx.ownsRow w.heap.size 3 1 v9 out1.length (aC out1) ∧ ∀ g,v9.ownBlock=some g → ¬ H1 g))
   case first =>
    go_region_with (go_at_call 90;refine (HWX.out _ (au zR)).mono ?_;rintro e w' ⟨v,rfl,hv0,H2,hs2,st2,how⟩;have HQ:=zH (zA hs2 (zA ((Step.ah (au zR)).trans st2) how));clear hs2 st2 how hv0)
    all_goals
     go_wp2
     go_meet
     exact ⟨rfl,H2,HQ.out.1,HQ.out.2.1,HQ.out.2.2⟩
   case rest =>
    obtain ⟨rfl,H2,hs2,st2,how⟩:=hcut
    have HS:=zH (zA hs2 (zA st2 how))
    clear hs2 st2 how
    by_cases ke:er1=0
    ·
     have HE:=zH ke
     subst ke
     go_wp2
     go_meet
     exact ⟨H2,HS.out.1,HS.out.2.1,by trivial,(HS.out.2.2 (by trivial)).1,(HS.out.2.2 (by trivial)).2⟩
    ·
     have hne:(er1 != 0)=true:=bne_iff_ne.2 ke
     have HE:=zH ke
     clear ke
     go_wp2
     go_ret2
     rw [HR.out,pX,if_pos HE.out]
     exact ⟨_,rfl,fun _=>rfl,H2,HS.out.1,HS.out.2.1,fun h0=>absurd h0 HE.out⟩
 case rest =>
  obtain ⟨H1,hs1,st1,rfl,ho1⟩:=hcut
  have HS:=zH (zA hs1 (zA st1 ho1))
  replace HR:=zH (show wr0=gi (eL p.av (p.bI.zip p.aB) m1) q1 p.dH out1 reads from HR.out.trans (if_neg (by simp)))
  have HPL:=zH (H0.out.2.2.1.step st1)
  clear hs1 st1 ho1 p0 p1 p2 p3 pf c0 c1 cf HWT
  obtain ⟨p0,p1,p2,p3,p4,p5,pf⟩:=kp HPL.out.at_
  have hsl:(aC p.bI).length=p.bI.length:=by simp [aC]
  have hsn:p.bI.length≤8:=by have:=HPK.out.Kp;have:=HPK.out.len;omega
  go_wp2
  go_loopg [45] p.bI.length (fun gn i wr => ∃ (j:Nat) (mj:aG) (Hj:Nat→Prop),gn=p.bI.length - j∧i=.int .i64 j∧j≤p.bI.length∧eL p.av ((p.bI.zip p.aB).drop j) mj=eL p.av (p.bI.zip p.aB) m1∧mj.Ok∧bG m mj∧Sys (fun _=>False) wr s k c b mj q1 S Hj∧Step H Hj w wr∧wr.ownsRow w.heap.size 3 1 u8 out1.length (aC out1) ∧ ∀ g,u8.ownBlock=some g → ¬ Hj g)
  case atStart=>exact ⟨0,m1,H1,rfl,rfl,Nat.zero_le _,rfl,HTO.out.1,HTO.out.2,HS.out.1,HS.out.2.1,HS.out.2.2.1,HS.out.2.2.2⟩
  case round =>
   obtain ⟨j,mj,Hj,hgn,rfl,hj,hbl,okj,hmj,hsj,stj,hoj⟩:=hrel
   have HJ:=zH (zA hgn (zA hbl (zA okj (zA hmj (zA hsj (zA stj hoj))))))
   have HPJ:=zH (H0.out.2.2.1.step stj)
   clear hgn hbl okj hmj hsj stj hoj p0 p1 p2 p3 p4 p5 pf
   obtain ⟨p0,p1,p2,p3,p4,p5,pf⟩:=kp HPJ.out.at_
   by_cases hlt:j<p.bI.length
   ·
    have hlt':(j:Int)<(p.bI.length:Int):=by omega
    have hrl:p.aB.length=p.bI.length:=HPK.out.len.symm
    have hrlt:j<p.aB.length:=by omega
    have hrlt':(j:Int)<(p.aB.length:Int):=by omega
    obtain ⟨sb,so,rfl,hsc,hsx⟩:=HPJ.out.bI.at_.some (by omega)
    obtain ⟨rb,ro,rfl,hrc,hrx⟩:=HPJ.out.aB.at_.some (by omega)
    obtain ⟨r0,r1,r2,r3⟩:=nK p.aB j hrlt
    have x0:wr.cell? ⟨sb,so+j,none⟩=some (.int .i64 p.bI[j]):=hsx j _ (by simp [aC,hlt])
    have d0:wr.cell? ⟨rb,ro+j * 4,none⟩=some (.int .i64 p.aB[j].kind):=by rw [Nat.mul_comm];exact hrx _ _ r0
    have d1:wr.cell? ⟨rb,ro+j * 4+1,none⟩=some (.int .i64 p.aB[j].an):=by rw [Nat.mul_comm,Nat.add_assoc];exact hrx _ _ r1
    have d2:wr.cell? ⟨rb,ro+j * 4+2,none⟩=some (.string p.aB[j].key):=by rw [Nat.mul_comm,Nat.add_assoc];exact hrx _ _ r2
    have d3:wr.cell? ⟨rb,ro+j * 4+3,none⟩=some (.string p.aB[j].value):=by rw [Nat.mul_comm,Nat.add_assoc];exact hrx _ _ r3
    have hl8:=HPK.out.bI _ (List.getElem_mem hlt)
    have hrm:=HPK.out.aB _ (List.getElem_mem hrlt)
    have hsec:=HPK.out.av
    have HDR:=zH (show (p.bI.zip p.aB).drop j=(p.bI[j],p.aB[j])::(p.bI.zip p.aB).drop (j+1) by
     rw [List.drop_eq_getElem_cons (by rw [List.length_zip];omega),List.getElem_zip])
    generalize p.bI[j]=l at *
    generalize p.aB[j]=r at *
    have HBU:=zH (fun w' (hb:Below wr.heap.size wr w')=>tV (X:=fun _=>False) s k c b mj q1 S Hj p.av l r w' (HJ.out.2.2.2.2.1.aj hb) HJ.out.2.2.1 hsec.1 hsec.2 hl8.1 hl8.2 hrm)
    have HMB:=zH (show (mj.dZ (bZ p.av l) (aL r)).1.Ok∧bG mj (mj.dZ (bZ p.av l) (aL r)).1 by
     have hsz:(aL r).size=64:=by
      unfold aL
      rw [fe,dh _ _ (gu hrm)]
     exact ⟨vY HJ.out.2.2.1 (bZ p.av l) (aL r) (by unfold bZ;omega) (by unfold bZ;omega) hsz,nj _ _ _⟩)
    replace HDR:=zH (show eL p.av ((p.bI.zip p.aB).drop j) mj=if (mj.dZ (bZ p.av l) (aL r)).2≠0 then mj.dZ (bZ p.av l) (aL r) else eL p.av ((p.bI.zip p.aB).drop (j+1)) (mj.dZ (bZ p.av l) (aL r)).1 by rw [HDR.out];rfl)
    unfold aX.cells at HBU
    generalize mj.dZ (bZ p.av l) (aL r)=br at *
    obtain ⟨m2,er2⟩:=br
    simp only at HBU HMB HDR
    clear r0 r1 r2 r3 hsx hrx hl8 hrm p0 p2 p4 p5
    go_upto_region 10 with fail
    go_cut [13] from 50 to 63 (fun v wx=>v=.int .i64 er2 ∧ ∃ H2,Sys (fun _=>False) wx s k c b m2 q1 S H2∧Step Hj H2 wr wx)
    case first =>
     go_region_with (go_at_call 91;refine (HBU.out _ (au zR)).mono ?_;rintro e w' ⟨rfl,H2,hs2,st2⟩;have HQ:=zH (zA hs2 ((Step.ah (au zR)).trans st2));clear hs2 st2)
     all_goals
      go_wp2
      go_meet
      exact ⟨rfl,H2,HQ.out⟩
    case rest =>
     obtain ⟨rfl,H2,hs2,st2⟩:=hcut
     have HS2:=zH (zA hs2 (zA (HJ.out.2.2.2.2.2.1.trans st2) (zA (dE HJ.out.2.2.2.2.2.2.1 st2.aH (fun y hy=>HJ.out.2.2.2.2.2.2.2 y hy)) (fun y hy=>st2.safe (lx HJ.out.2.2.2.2.2.2.1 y hy) (HJ.out.2.2.2.2.2.2.2 y hy)))))
     clear hs2 st2 p1 p3 pf d0 d1 d2 d3 x0
     by_cases ke:er2=0
     ·
      subst ke
      have HD2:=zH (HDR.out.symm.trans HJ.out.2.1)
      replace HD2:=zH ((if_neg (by simp)).symm.trans HD2.out)
      have HQ:=zH (zA HMB.out.1 (HJ.out.2.2.2.1.trans HMB.out.2))
      go_wp2
      go_roundg (p.bI.length - (j+1))
      case measure=>have:=HJ.out.1;omega
      case rel=>exact ⟨j+1,m2,H2,rfl,by go_num,by omega,HD2.out,HQ.out.1,HQ.out.2,HS2.out.1,HS2.out.2.1,HS2.out.2.2.1,HS2.out.2.2.2⟩
     ·
      have hne:(er2 != 0)=true:=bne_iff_ne.2 ke
      have HE:=zH ke
      have HD2:=zH (HJ.out.2.1.symm.trans (HDR.out.trans (if_pos ke)))
      clear ke
      go_wp2
      go_ret2
      rw [HR.out,HD2.out,gi,if_pos HE.out]
      exact ⟨_,rfl,fun _=>rfl,H2,HS2.out.1,HS2.out.2.1,fun h0=>absurd h0 HE.out⟩
   ·
    obtain rfl:j=p.bI.length:=by omega
    have HB:=zH (show (mj,(0:Int))=eL p.av (p.bI.zip p.aB) m1 by
     rw [← HJ.out.2.1,List.drop_of_length_le (by rw [List.length_zip];omega)];rfl)
    obtain ⟨a1,cp1,h1,h2⟩:=HJ.out.2.2.2.2.1.st
    obtain ⟨c0,c1,c2,c3,c4,c5,c6,c7,cf⟩:=tH h1
    clear h1 h2 c0 c2 c3 c4 c5 c6 c7 p1 p2 p3 p4 p5
    by_cases hw:p.dH<0
    ·
     have e:=HTF.out.2 (by omega)
     simp only [Prod.mk.injEq] at e
     have hq1:q1=q:=e.2.1
     have HAL:=zH (LF s k c b cap mj q1 S Hj a reads wr HJ.out.2.2.2.2.1 HJ.out.2.2.1 (by rw [hq1];exact HG.out.1) (H0.out.2.1.step HJ.out.2.2.2.2.2.1) hcap (fun hl=>by
      have h3:=HJ.out.2.2.2.1
      have h4:=H0.out.2.2.2 (zV hl h3.2)
      have h5:=HJ.out.2.2.2.2.2.1.aH.size
      rw [h3.1];omega) HG.out.2)
     have HW:=zH (show gi (mj,0) q1 p.dH out1 reads=dG reads [] mj q1 by
      unfold gi
      rw [if_neg (by simp),if_neg (by omega)])
     clear e hq1 hw48 HTF
     generalize dG reads [] mj q1=rr at *
     go_wp2_with fail
     refine HAL.out.mono ?_
     rintro e w2 ⟨v,rfl,hv0,H2,hs2,st2,how⟩
     have HQ:=zH (zA hs2 (zA (HJ.out.2.2.2.2.2.1.trans st2) (zA hv0 how)))
     clear hs2 st2 hv0 how
     go_wp2
     go_ret2
     rw [HR.out,← HB.out,HW.out]
     exact ⟨v,rfl,HQ.out.2.2.1,H2,HQ.out.1,HQ.out.2.1,fun h0=>⟨eX (HQ.out.2.2.2 h0).1 HJ.out.2.2.2.2.2.1.aH.size,(HQ.out.2.2.2 h0).2⟩⟩
    ·
     have hge:0≤p.dH:=by omega
     have HW:=zH (show gi (mj,0) q1 p.dH out1 reads=(mj,q1,out1,0) by
      unfold gi
      rw [if_neg (by simp),if_pos hge])
     clear hw48 HTF hw
     go_wp2
     go_ret2
     rw [HR.out,← HB.out,HW.out]
     exact ⟨_,rfl,fun h0=>absurd rfl h0,Hj,HJ.out.2.2.2.2.1,HJ.out.2.2.2.2.2.1,fun _=>⟨HJ.out.2.2.2.2.2.2.1,HJ.out.2.2.2.2.2.2.2⟩⟩
end
section
open Go.RowKit
def mV (x:aK):Prop:=bC (eS x)=true
theorem Ho {r:aX} (h:bC r=true) (hk:r.kind=1):mV ⟨r.key,r.value⟩:=by
 unfold mV eS
 unfold bC at h ⊢
 rw [if_neg (by rw [hk];decide),if_pos hk] at h
 simp only at h ⊢
 rw [if_neg (by decide)]
 simp only [Bool.and_eq_true,if_true] at h ⊢
 exact ⟨⟨by decide,h.1.2⟩,h.2⟩
theorem pB {ps:List aK} {r:aX} (h : ∀ x ∈ ps,mV x) (hr:gW r) : ∀ x ∈ eG ps r,mV x:=by
 intro x hx
 have hnew:r.kind=1→x=⟨r.key,r.value⟩→mV x:=fun hk e=>by rw [e];exact Ho hr.1 hk
 unfold eG at hx
 split at hx
 ·
  split at hx
  ·
   rcases List.mem_append.1 hx with hx | hx
   ·
    exact h x (List.mem_of_mem_take hx)
   ·
    exact h x (List.mem_of_mem_drop hx)
  ·
   rename_i hk
   have hk1:r.kind=1:=(Cl hr).resolve_right hk
   rcases List.mem_append.1 hx with hx | hx
   ·
    rcases List.mem_append.1 hx with hx | hx
    ·
     exact h x (List.mem_of_mem_take hx)
    ·
     exact hnew hk1 (by simpa using hx)
   ·
    exact h x (List.mem_of_mem_drop hx)
 ·
  split at hx
  ·
   rename_i hk1
   rcases List.mem_append.1 hx with hx | hx
   ·
    rcases List.mem_append.1 hx with hx | hx
    ·
     exact h x (List.mem_of_mem_take hx)
    ·
     exact hnew hk1 (by simpa using hx)
   ·
    exact h x (List.mem_of_mem_drop hx)
  ·
   exact h x hx
theorem uk : ∀ (rs:List aX) (ps:List aK),(∀ x ∈ ps,mV x)→(∀ r ∈ rs,gW r) → ∀ x ∈ rs.foldl eG ps,mV x
 | [],ps,h,_=>h
 | r::rs,ps,h,hr=>uk rs (eG ps r) (pB h (hr r (by simp))) (fun y hy=>hr y (by simp [hy]))
theorem re {rs:List aX} (h : ∀ r ∈ rs,gW r) : ∀ x ∈ cz rs,mV x:=uk rs [] (fun x hx=>by simp at hx) h
theorem il {e:Int} (h0:1≤e) (h1:e≤1048576):bC (cR e)=true:=by
 unfold bC cR
 rw [if_pos rfl]
 simp only [oM,lu]
 simp
 omega
theorem pH {V:bB} (ok:V.Ok) {sec:Int} (s0:4≤sec) (s1:sec<8) {r:aX} (hr:gW r) (h:(cC V sec r).1=0):(cC V sec r).2.Ok:=by
 have hve:=ok.an
 have hvf:=ok.free
 unfold cC at h ⊢
 split at h
 ·
  simp at h
 ·
  rename_i n1
  rw [if_neg n1]
  split at h
  ·
   simp at h
  ·
   rename_i n2
   rw [if_neg n2]
   split at h
   ·
    rename_i n3
    rw [if_pos n3]
    exact ⟨⟨s0,s1⟩,.inl (show (-1:Int)<0 by decide),rfl,by simp,fun x hx=>by
     obtain rfl:x=V.free:=by simpa using hx
     omega,fun x hx=>by
     obtain rfl:x=r:=by simpa using hx
     exact hr.1⟩
   ·
    rename_i n3
    rw [if_neg n3]
    split at h
    ·
     simp at h
    ·
     rename_i n4
     rw [if_neg n4]
     have hn:=rK s0 s1
     have hp:=pB (re ok.aB) hr
     have hlen:(eG (cz V.aB) r).length≤7:=by omega
     generalize eG (cz V.aB) r=ps at *
     refine ⟨hn,.inr hn,?_,?_,fun x hx => ?_,fun x hx => ?_⟩
     ·
      simp [jJ]
     ·
      simp [jJ];omega
     ·
      simp only [jJ,List.mem_append,List.mem_map,List.mem_range,List.mem_singleton] at hx
      rcases hx with ⟨i,hi,rfl⟩ | rfl
      ·
       omega
      ·
       omega
     ·
      simp only [jJ,List.mem_append,List.mem_map,List.mem_singleton] at hx
      rcases hx with ⟨y,hy,rfl⟩ | rfl
      ·
       exact hp y hy
      ·
       exact il (by omega) (by omega)
end
section
structure Core where
 cells:ByteArray
 bq:Bool
 bk:Bool
 en:Bool
 aD:Bool
 aZ:Option iE
 busy:List Int
def ag.core (m:ag):Core:=⟨m.cells,m.bq,m.bk,m.en,m.aD,m.aZ,m.busy⟩
def Core.pass (c:Core):Core:=match c.aZ with
 | none=>c
 | some j=>if j.hZ then c else if j.left - 1≤0 then { c with cells:=cK j c.cells ⟨#[255]⟩,aZ:=none,en:=false } else { c with aZ:=some { j with left:=j.left - 1 } }
def Core.bD:Nat→Core→Core
 | 0,c=>c
 | n+1,c=>Core.bD n c.pass
theorem iC : ∀ (a b:Nat) (c:Core),Core.bD (a+b) c=Core.bD b (Core.bD a c)
 | 0,b,c=>by rw [Nat.zero_add];rfl
 | a+1,b,c=>by rw [Nat.add_right_comm];exact iC a b c.pass
def ag.aW (m:ag) (c:Core):ag:={ m with cells:=c.cells,bq:=c.bq,bk:=c.bk,en:=c.en,aD:=c.aD,aZ:=c.aZ,busy:=c.busy }
theorem mK (m:ag):m.pass=m.aW m.core.pass:=by
 unfold ag.pass Core.pass ag.aW ag.core
 cases h:m.aZ with
 | none=>simp only;rw [← h]
 | some j =>
  simp only
  split
  ·
   simp only;rw [← h]
  ·
   split <;> rfl
theorem jX (m:ag):m.behind.core=m.core:=by
 unfold ag.behind
 repeat' split
 all_goals rfl
theorem tS (m:ag) (b:Int):(m.cV b).core=m.core:=by
 unfold ag.cV
 split
 ·
  rfl
 ·
  split
  ·
   rfl
  ·
   exact jX _
theorem Ij (m:ag) (x:Int):(m.step x).2.core=m.core:=by
 unfold ag.step
 split
 ·
  unfold ag.sB;split;exact tS _ _;rfl
 split
 ·
  unfold ag.sC;split;exact jX _;rfl
 split
 ·
  unfold ag.sD;split;exact jX _;rfl
 split
 ·
  unfold ag.uK;split;exact jX _;rfl
 split
 ·
  unfold ag.sE;split;exact jX _;rfl
 split
 ·
  unfold ag.bU ag.next;split <;> rfl
 split <;> rfl
theorem D5 (m:ag) (x:Int):(m.clock x).2.core=m.core.pass:=by
 have h:m.pass.core=m.core.pass:=by rw [mK];rfl
 unfold ag.clock
 split
 ·
  rw [Ij];exact h
 ·
  exact h
def feed:List Int→ag→ag
 | [],m=>m
 | x::r,m=>feed r (m.clock x).2
theorem rn : ∀ (a b:List Int) (m:ag),feed (a++b) m=feed b (feed a m)
 | [],b,m=>rfl
 | x::a,b,m=>rn a b _
theorem xF : ∀ (xs:List Int) (d:aI),(aI.row xs d).1=true→(aI.row xs d).2={ d with ar:=feed xs d.ar,n:=d.n+xs.length }
 | [],d,h=>rfl
 | x::r,d,h=>by
  cases hs:d.stop with
  | true=>rw [sn x r d hs] at h;cases h
  | false =>
   rw [xD x r d hs] at h ⊢
   rw [xF r _ h]
   simp only [aI.tick,feed,List.length_cons]
   congr 1
   omega
theorem dA {r:Bool×aI} {f:aI→Bool×aI} (h:(andThen r f).1=true):r.1=true∧(f r.2).1=true∧(andThen r f).2=(f r.2).2:=by
 unfold andThen at h ⊢
 split at h
 ·
  rename_i hr;exact ⟨hr,h,by rw [if_pos hr]⟩
 ·
  cases h
def l7 (L b:Int):List Int:=(bM b L).map (fU L)
def ey (L:Int):List Int→List Int
 | []=>[]
 | b::r=>l7 L b++ey L r
theorem Aa (L:Int) : ∀ (bs:List Int) (d:aI),(aI.dB L bs d).1=true→(aI.dB L bs d).2={ d with ar:=feed (ey L bs) d.ar,n:=d.n+(ey L bs).length }
 | [],d,h=>rfl
 | b::r,d,h=>by
  cases hp:(aI.put b L d).1 with
  | false=>rw [zZ L b r d hp] at h;cases h
  | true =>
   rw [A3 L b r d hp] at h ⊢
   rw [Aa L r _ h,show (aI.put b L d).2={ d with ar:=feed (l7 L b) d.ar,n:=d.n+(l7 L b).length } from xF _ d hp]
   simp only [ey,rn,List.length_append]
   congr 1
   omega
theorem zp (L:Int) : ∀ (k:Nat) (xs:List Int) (d:aI),(aI.im L k xs d).1=true→(aI.im L k xs d).2.2={ d with ar:=feed (List.replicate k 15) d.ar,n:=d.n+k }
 | 0,xs,d,h=>rfl
 | k+1,xs,d,h=>by
  cases hs:d.stop with
  | true=>rw [pK L k xs d hs] at h;cases h
  | false =>
   rw [rz L k xs d hs] at h ⊢
   rw [zp L k _ _ h]
   simp only [aI.tick,List.replicate_succ,feed]
   congr 1
   omega
def listen (L:Int):Nat→ag→List Int
 | 0,m=>[]
 | k+1,m=>heard L (m.clock 15).1::listen L k (m.clock 15).2
theorem FH (L:Int) : ∀ (k:Nat) (xs:List Int) (d:aI),(aI.im L k xs d).1=true→(aI.im L k xs d).2.1=xs++listen L k d.ar
 | 0,xs,d,h=>by simp [aI.im,listen]
 | k+1,xs,d,h=>by
  cases hs:d.stop with
  | true=>rw [pK L k xs d hs] at h;cases h
  | false =>
   rw [rz L k xs d hs] at h ⊢
   rw [FH L k _ _ h]
   simp [listen,aI.tick,aI.said]
theorem Jq (L:Int) (d:aI) (h:(aI.get L d).1=true):(aI.get L d).2={ d with ar:=feed (List.replicate (many L).toNat 15) d.ar,n:=d.n+(many L).toNat,out:=d.out++[cZ (listen L (many L).toNat d.ar) L] }:=by
 unfold aI.get aI.cO at h ⊢
 split at h
 ·
  rename_i hr
  rw [if_pos hr,zp L _ _ _ hr,FH L _ _ _ hr]
  rfl
 ·
  cases h
def Az (a b:ag):Prop := ∃ k,b.core=Core.bD k a.core
theorem Az.refl (a:ag):Az a a:=⟨0,rfl⟩
theorem Az.trans {a b c:ag} (h:Az a b) (k:Az b c):Az a c:=by
 obtain ⟨n,h⟩:=h
 obtain ⟨m,k⟩:=k
 exact ⟨n+m,by rw [k,h,iC]⟩
theorem C0 (ps:List Ph) (d:aI):Az d.ar (aI.eR ps d).2.ar :=
 qI (fun m=>Az d.ar m) (fun m x h=>h.trans ⟨1,D5 m x⟩) ps d (Az.refl _)
theorem Ai {d:aI} (h:d.bh<0):d.stop=false:=by unfold aI.stop;simp;intro;omega
theorem xC : ∀ (xs:List Int) (d:aI),d.bh<0→(aI.row xs d).1=true∧(aI.row xs d).2.bh<0
 | [],d,h=>⟨rfl,h⟩
 | x::r,d,h=>by rw [xD x r d (Ai h)];exact xC r _ h
theorem zq (L:Int) : ∀ (k:Nat) (xs:List Int) (d:aI),d.bh<0→(aI.im L k xs d).1=true∧(aI.im L k xs d).2.2.bh<0
 | 0,xs,d,h=>⟨rfl,h⟩
 | k+1,xs,d,h=>by rw [rz L k xs d (Ai h)];exact zq L k _ _ h
theorem Jp (L:Int) (d:aI) (h:d.bh<0):(aI.get L d).1=true∧(aI.get L d).2.bh<0:=by
 have:=zq L (many L).toNat [] d h
 unfold aI.get aI.cO
 rw [if_pos this.1]
 exact ⟨rfl,this.2⟩
theorem zP (L:Int) : ∀ (bs:List Int) (d:aI),d.bh<0→(aI.dB L bs d).1=true∧(aI.dB L bs d).2.bh<0
 | [],d,h=>⟨rfl,h⟩
 | b::r,d,h=>by
  have:=xC ((bM b L).map (fU L)) d h
  rw [A3 L b r d this.1]
  exact zP L r _ this.2
theorem zn (L:Int) : ∀ (k:Nat) (d:aI),d.bh<0→(aI.fZ L k d).1=true∧(aI.fZ L k d).2.bh<0
 | 0,d,h=>⟨rfl,h⟩
 | k+1,d,h=>by
  have:=Jp L d h
  rw [vy L k d this.1]
  exact zn L k _ this.2
theorem nc {r:Bool×aI} {f:aI→Bool×aI} (h:r.1=true∧r.2.bh<0) (k:r.2.bh<0→(f r.2).1=true∧(f r.2).2.bh<0):(andThen r f).1=true∧(andThen r f).2.bh<0:=by
 unfold andThen
 rw [if_pos h.1]
 exact k h.2
theorem uD : ∀ (ps:List Ph) (d:aI),d.bh<0→(aI.eR ps d).1=true∧(aI.eR ps d).2.bh<0
 | [],d,h=>⟨rfl,h⟩
 | p::r,d,h=>nc (nc (zP _ _ _ h) fun h=>nc (xC _ _ h) fun h=>zn _ _ _ h) (uD r _)
end
section
def ag.bW (m:ag):Int:=if m.ay=0 then 1 else if m.ay=5 then m.op.data else m.op.addr
def ag.fin (m:ag):ag:=if m.ay=0 then m.cV m.cO else if m.ay=2 then ag.behind { m with addr:=m.cO % 4096 } else if m.ay=3 then ag.behind { m with mode:=m.cO,cL:=true } else ag.behind { m with data:=m.data++[m.cO] }
def Fu (s:Int):Prop:=s=0∨s=2∨s=3∨s=5
theorem E4 (m:ag) (x:Int) (h:Fu m.ay):(m.step x).2=if m.left - 1=0 then (m.de x m.bW).fin else m.de x m.bW:=by
 rcases h with h | h | h | h <;> simp [ag.step,h,ag.sB,ag.sC,ag.sD,ag.sE,ag.bW,ag.de,ag.fin]
theorem ua (m:ag) (x:Int) (hs:m.dQ=true) (h:Fu m.ay):(m.clock x).2=if m.left - 1=0 then ((m.aW m.core.pass).de x m.bW).fin else (m.aW m.core.pass).de x m.bW:=by
 unfold ag.clock
 rw [mK,if_pos (show (m.aW m.core.pass).dQ=true from hs),E4 _ x (show Fu (m.aW m.core.pass).ay from h)]
 rfl
def qm (m:ag) (xs:List Int):ag:={ m.aW (Core.bD xs.length m.core) with cO:=xs.foldl (fun g x=>aR g x m.bW) m.cO,left:=m.left - xs.length }
theorem xX (m:ag) (x:Int) (r:List Int):qm ((m.aW m.core.pass).de x m.bW) r=qm m (x::r):=by
 unfold qm
 simp only [List.length_cons,List.foldl_cons]
 have e:((m.aW m.core.pass).de x m.bW).left - (r.length:Int)=m.left - ((r.length+1:Nat):Int):=by simp only [ag.de,ag.aW];omega
 rw [e];rfl
theorem lg : ∀ (xs:List Int) (m:ag),xs≠[]→m.dQ=true→Fu m.ay→(xs.length:Int)=m.left→feed xs m=(qm m xs).fin
 | [],m,h,_,_,_=>absurd rfl h
 | [x],m,_,hs,ht,hl=>by
  have hl:1=m.left:=hl
  show (m.clock x).2=_
  rw [ua m x hs ht,if_pos (by omega)]
  rw [← xX]
  congr 1
  have e:(m.aW m.core.pass).de x m.bW=qm ((m.aW m.core.pass).de x m.bW) []:=by
   unfold qm
   simp [Core.bD,ag.aW,ag.core]
  exact e
 | x::y::r,m,_,hs,ht,hl=>by
  simp only [List.length_cons] at hl
  show feed (y::r) (m.clock x).2=_
  have hl':(((y::r).length:Nat):Int)=((m.aW m.core.pass).de x m.bW).left:=by simp only [ag.de,ag.aW,List.length_cons];omega
  rw [ua m x hs ht,if_neg (by omega)]
  exact (lg (y::r) ((m.aW m.core.pass).de x m.bW) (by simp) hs ht hl').trans (congrArg ag.fin (xX m x (y::r)))
theorem vX (L b:Int):(l7 L b).length=(many L).toNat:=by
 unfold l7 bM many
 split <;> rfl
theorem zl (L g b:Int) (hL:L=1∨L=4) (h0:0≤b) (h1:b<256):(l7 L b).foldl (fun g x=>aR g x L) g=g * 256+b:=by
 rcases hL with rfl | rfl
 ·
  have e : ∀ y:Int,(14+y % 2) % 2=y % 2:=fun y=>by omega
  simp only [l7,bM,fU,aR,if_true,List.map_cons,List.map_nil,List.foldl_cons,List.foldl_nil,e]
  simp only [show ((2:Int) ^ 7)=128 by decide,show ((2:Int) ^ 6)=64 by decide,show ((2:Int) ^ 5)=32 by decide,show ((2:Int) ^ 4)=16 by decide,show ((2:Int) ^ 3)=8 by decide,show ((2:Int) ^ 2)=4 by decide,show ((2:Int) ^ 1)=2 by decide,show ((2:Int) ^ 0)=1 by decide]
  have e7:b / 128 % 2=b / 128:=by omega
  have e6:b / 64=2 * (b / 128)+b / 64 % 2:=by omega
  have e5:b / 32=2 * (b / 64)+b / 32 % 2:=by omega
  have e4:b / 16=2 * (b / 32)+b / 16 % 2:=by omega
  have e3:b / 8=2 * (b / 16)+b / 8 % 2:=by omega
  have e2:b / 4=2 * (b / 8)+b / 4 % 2:=by omega
  have e1:b / 2=2 * (b / 4)+b / 2 % 2:=by omega
  have e0:b=2 * (b / 2)+b / 1 % 2:=by omega
  generalize b / 128 % 2=x7 at *
  generalize b / 64 % 2=x6 at *
  generalize b / 32 % 2=x5 at *
  generalize b / 16 % 2=x4 at *
  generalize b / 8 % 2=x3 at *
  generalize b / 4 % 2=x2 at *
  generalize b / 2 % 2=x1 at *
  generalize b / 1 % 2=x0 at *
  omega
 ·
  simp only [l7,bM,fU,aR,show ¬((4:Int)=1) by decide,if_false,List.map_cons,List.map_nil,List.foldl_cons,List.foldl_nil]
  simp only [show ((2:Int) ^ 4)=16 by decide,show ((2:Int) ^ 0)=1 by decide]
  omega
theorem Le {L:Int} (h:L=1∨L=4):(many L=8∧L=1)∨(many L=2∧L=4):=by
 rcases h with rfl | rfl <;> simp [many]
theorem oE (L:Int) : ∀ bs:List Int,(ey L bs).length=(many L).toNat * bs.length
 | []=>rfl
 | b::r=>by rw [ey,List.length_append,vX,oE L r,List.length_cons,Nat.mul_succ];omega
theorem nz (L:Int) (hL:L=1∨L=4) : ∀ (bs:List Int) (g:Int),(∀ b ∈ bs,0≤b∧b<256)→(ey L bs).foldl (fun g x=>aR g x L) g=bs.foldl (fun g b=>g * 256+b) g
 | [],g,_=>rfl
 | b::r,g,h=>by
  rw [ey,List.foldl_append,zl L g b hL (h b (by simp)).1 (h b (by simp)).2,nz L hL r _ (fun x hx=>h x (by simp [hx]))];rfl
def K (c:Core) (op:gF) (st left addr mode:Int) (cL:Bool) (data:List Int) (told now:Int) (h:Nat):ag :=
 ⟨c.cells,c.bq,c.bk,true,c.en,c.aD,c.aZ,c.busy,op,st,left,0,addr,mode,cL,data,told,now,false,h⟩
theorem KR (m:ag):m.fresh=K m.core gF.zero 0 8 0 0 false [] 0 0 m.home:=rfl
theorem lM (m:ag) (g l:Int):ag.behind { m with cO:=g,left:=l }=m.behind:=by
 unfold ag.behind ag.enter
 repeat' split
 all_goals first | rfl | simp_all
theorem BJ (m:ag) (g l b:Int):ag.cV { m with cO:=g,left:=l } b=m.cV b:=by
 unfold ag.cV
 have e:ag.known { m with cO:=g,left:=l } b=m.known b:=rfl
 rw [e]
 split
 ·
  rfl
 ·
  split
  ·
   rfl
  ·
   exact lM { m with op:=ak b } g l
theorem xi {L:Int} (hL:L=1∨L=4):0<(many L).toNat:=by rcases Le hL with ⟨e,_⟩ | ⟨e,_⟩ <;> rw [e] <;> decide
variable {c:Core} {op:gF} {a mo t nw:Int} {md:Bool} {ds:List Int} {h:Nat}
theorem jr (b:Int) (h0:0≤b) (h1:b<256):feed (ey 1 [b]) (K c op 0 8 a mo md ds t nw h)=(K (c.bD 8) op 0 8 a mo md ds t nw h).cV b:=by
 have hb : ∀ x ∈ [b],0≤x∧x<256:=by simp;omega
 rw [lg _ _ (by simp [ey,l7,bM]) rfl (.inl rfl) (by rw [oE];rfl)]
 unfold qm
 rw [show (K c op 0 8 a mo md ds t nw h).bW=1 from rfl,nz 1 (.inl rfl) [b] _ hb,oE]
 have e:List.foldl (fun g b=>g * 256+b) (K c op 0 8 a mo md ds t nw h).cO [b]=b:=by simp [K]
 rw [e]
 exact BJ (K (c.bD 8) op 0 8 a mo md ds t nw h) _ _ _
theorem kL (L i:Int) (hL:L=1∨L=4) (ho:op.addr=L) (h0:0≤i) (h1:i<4096):feed (ey L [0,i / 256,i % 256]) (K c op 2 (if L=1 then 24 else 6) a mo md ds t nw h)=ag.behind (K (c.bD (if L=1 then 24 else 6)) op 2 0 i mo md ds t nw h):=by
 have hb : ∀ x ∈ [0,i / 256,i % 256],0≤x∧x<256:=by simp;omega
 have hl:(ey L [0,i / 256,i % 256]).length=if L=1 then 24 else 6:=by rw [oE];rcases hL with rfl | rfl <;> rfl
 have hlan:(K c op 2 (if L=1 then 24 else 6) a mo md ds t nw h).bW=L:=by simp [ag.bW,K,ho]
 rw [lg _ _ (by intro e;rw [e] at hl;simp at hl;split at hl <;> omega) rfl (.inr (.inl rfl)) (by rw [hl];simp only [K];split <;> rfl)]
 unfold qm
 rw [hlan,nz L hL _ _ hb,hl]
 unfold ag.fin
 rw [if_neg (by simp [K,ag.aW]),if_pos (by simp [K,ag.aW])]
 have e:List.foldl (fun g b=>g * 256+b) (K c op 2 (if L=1 then 24 else 6) a mo md ds t nw h).cO [0,i / 256,i % 256]=i:=by simp [K];omega
 rw [e]
 show ag.behind { K (c.bD (if L=1 then 24 else 6)) op 2 0 (i % 4096) mo md ds t nw h with cO:=_,left:=_ }=_
 rw [lM,Int.emod_eq_of_lt h0 h1]
theorem zj (L b:Int) (hL:L=1∨L=4) (ho:op.addr=L) (h0:0≤b) (h1:b<256):feed (ey L [b]) (K c op 3 (many L) a mo md ds t nw h)=ag.behind (K (c.bD (many L).toNat) op 3 0 a b true ds t nw h):=by
 have hb : ∀ x ∈ [b],0≤x∧x<256:=by simp;omega
 have hl:(ey L [b]).length=(many L).toNat:=by rw [oE];simp
 have hp:=xi hL
 have hlan:(K c op 3 (many L) a mo md ds t nw h).bW=L:=by simp [ag.bW,K,ho]
 rw [lg _ _ (by intro e;rw [e] at hl;simp at hl;omega) rfl (.inr (.inr (.inl rfl))) (by rw [hl];simp only [K];omega)]
 unfold qm
 rw [hlan,nz L hL _ _ hb,hl]
 unfold ag.fin
 rw [if_neg (by simp [K,ag.aW]),if_neg (by simp [K,ag.aW]),if_pos (by simp [K,ag.aW])]
 have e:List.foldl (fun g b=>g * 256+b) (K c op 3 (many L) a mo md ds t nw h).cO [b]=b:=by simp [K]
 rw [e]
 exact lM (K (c.bD (many L).toNat) op 3 0 a b true ds t nw h) _ _
theorem Ji (L b:Int) (hL:L=1∨L=4) (ho:op.data=L) (h0:0≤b) (h1:b<256):feed (l7 L b) (K c op 5 (many L) a mo md ds t nw h)=ag.behind (K (c.bD (many L).toNat) op 5 0 a mo md (ds++[b]) t nw h):=by
 have hl:=vX L b
 have hp:=xi hL
 have hlan:(K c op 5 (many L) a mo md ds t nw h).bW=L:=by simp [ag.bW,K,ho]
 rw [lg _ _ (by intro e;rw [e] at hl;simp at hl;omega) rfl (.inr (.inr (.inr rfl))) (by rw [hl];simp only [K];omega)]
 unfold qm
 rw [hlan,zl L _ b hL h0 h1,hl]
 unfold ag.fin
 rw [if_neg (by simp [K,ag.aW]),if_neg (by simp [K,ag.aW]),if_neg (by simp [K,ag.aW])]
 have e:(K c op 5 (many L) a mo md ds t nw h).cO * 256+b=b:=by simp [K]
 rw [e]
 exact lM (K (c.bD (many L).toNat) op 5 0 a mo md (ds++[b]) t nw h) _ _
theorem BM (hm:op.mode=false) (hd:op.dummy=0) (h1:op.data=1) (hi:op.jB=true) (s:Int):ag.behind (K c op s 0 a mo md ds t nw h)=K c op 5 8 a mo md ds t nw h:=by
 unfold ag.behind
 simp [K,hm,hd,h1,hi,ag.enter,many]
theorem sZ (hm:op.mode=false) (hd:op.dummy=0) (hda:op.data=1) (hi:op.jB=true) : ∀ (bs:List Int) (c:Core) (ds:List Int),(∀ b ∈ bs,0≤b∧b<256)→feed (ey 1 bs) (K c op 5 8 a mo md ds t nw h)=K (c.bD (8 * bs.length)) op 5 8 a mo md (ds++bs) t nw h
 | [],c,ds,_=>by simp [ey,feed,Core.bD]
 | b::r,c,ds,hb=>by
  have h:=Ji (c:=c) (ds:=ds) (a:=a) (mo:=mo) (md:=md) (t:=t) (nw:=nw) (h:=h) 1 b (.inl rfl) hda (hb b (by simp)).1 (hb b (by simp)).2
  rw [show many 1=8 from rfl,BM hm hd hda hi] at h
  rw [ey,rn,h,sZ hm hd hda hi r _ _ (fun x hx=>hb x (by simp [hx])),List.append_assoc,List.length_cons,Nat.mul_succ,Nat.add_comm,iC]
  rfl
theorem tZ (m:ag) (x:Int) (hs:m.dQ=true) (h4:m.ay=4):(m.clock x).2=if m.left - 1=0 then ag.behind { m.aW m.core.pass with left:=m.left - 1 } else { m.aW m.core.pass with left:=m.left - 1 }:=by
 unfold ag.clock
 rw [mK,if_pos (show (m.aW m.core.pass).dQ=true from hs)]
 unfold ag.step
 rw [show (m.aW m.core.pass).ay=4 from h4,if_neg (by decide),if_neg (by decide),if_neg (by decide),if_pos rfl]
 rfl
theorem nx : ∀ (n:Nat) (c:Core),feed (List.replicate (n+1) 15) (K c op 4 ((n+1:Nat):Int) a mo md ds t nw h)=ag.behind (K (c.bD (n+1)) op 4 0 a mo md ds t nw h)
 | 0,c=>tZ (K c op 4 ((0+1:Nat):Int) a mo md ds t nw h) 15 rfl rfl
 | n+1,c=>by
  have e:((K c op 4 ((n+1+1:Nat):Int) a mo md ds t nw h).clock 15).2=K c.pass op 4 ((n+1:Nat):Int) a mo md ds t nw h:=by
   have hl:(K c op 4 ((n+1+1:Nat):Int) a mo md ds t nw h).left - 1=((n+1:Nat):Int):=by simp only [K];omega
   rw [tZ _ 15 rfl rfl,hl,if_neg (by omega)]
   rfl
  show feed (List.replicate (n+1) 15) (ag.clock _ 15).2=_
  rw [e,nx n c.pass]
  rfl
end
end Go.Proofs.YtcfdenckiigdaaaGreat

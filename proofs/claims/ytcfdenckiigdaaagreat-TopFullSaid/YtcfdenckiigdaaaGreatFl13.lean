/- Part 13 of the contracts. -/
import Derived.Test.YtcfdenckiigdaaaGreatFl12
set_option linter.unusedVariables false
set_option maxRecDepth 100000
set_option maxHeartbeats 4000000
namespace Go.Proofs.YtcfdenckiigdaaaGreat
open Tryz
section
open Go.RowKit
def LP (w:World) (b o:Nat) (p:Ph) (a:Option Addr) (c:Nat) (G:Nat→Prop):Prop:=qo w b o p a c ∧ ¬ G b ∧ ∀ b' o',a=some ⟨b',o',none⟩→0<p.bytes.length → ¬ G b'
theorem LP.step {G G':Nat→Prop} {w w':World} {b o:Nat} {p:Ph} {a:Option Addr} {c:Nat} (h:LP w b o p a c G) (st:Step G G' w w'):LP w' b o p a c G':=by
 refine ⟨h.1.step st h.2.1 h.2.2,st.safe (zL w _ h.1.c0) h.2.1,fun b' o' e hl => ?_⟩
 obtain ⟨b2,o2,g1,g2⟩:=h.1.ints 0 hl
 rw [e] at g1
 obtain ⟨rfl,rfl⟩:b'=b2∧o'=o2:=by simpa using g1
 exact st.safe (zL w _ g2) (h.2.2 _ _ e hl)
theorem vE : ∀ (xs:List Int) (d:aI),(aI.row xs d).2.out=d.out
 | [],d=>rfl
 | x::r,d=>by
  unfold aI.row
  split
  ·
   rfl
  ·
   exact vE r (d.tick x)
theorem wX (L:Int) : ∀ (k:Nat) (xs:List Int) (d:aI),(aI.im L k xs d).2.2.out=d.out
 | 0,xs,d=>rfl
 | k+1,xs,d=>by
  unfold aI.im
  split
  ·
   rfl
  ·
   exact wX L k _ (d.tick 15)
theorem A1 (b L:Int) (d:aI):(aI.put b L d).2.out=d.out:=vE _ _
theorem FE (L:Int) (d:aI):(aI.get L d).2.out.length≤d.out.length+1:=by
 have h:=wX L (many L).toNat [] d
 unfold aI.get aI.cO
 split
 ·
  show ((aI.im L (many L).toNat [] d).2.2.out++[_]).length≤_
  rw [h];simp
 ·
  show (aI.im L (many L).toNat [] d).2.2.out.length≤_
  rw [h];omega
theorem zZ (L b:Int) (r:List Int) (d:aI) (h:(aI.put b L d).1=false):aI.dB L (b::r) d=(false,(aI.put b L d).2):=by
 show (if (aI.put b L d).1=true then _ else _)=_
 rw [if_neg (by rw [h];decide)]
theorem A3 (L b:Int) (r:List Int) (d:aI) (h:(aI.put b L d).1=true):aI.dB L (b::r) d=aI.dB L r (aI.put b L d).2:=by
 show (if (aI.put b L d).1=true then _ else _)=_
 rw [if_pos h]
theorem te (L:Int) (k:Nat) (d:aI) (h:(aI.get L d).1=false):aI.fZ L (k+1) d=(false,(aI.get L d).2):=by
 show (if (aI.get L d).1=true then _ else _)=_
 rw [if_neg (by rw [h];decide)]
theorem vy (L:Int) (k:Nat) (d:aI) (h:(aI.get L d).1=true):aI.fZ L (k+1) d=aI.fZ L k (aI.get L d).2:=by
 show (if (aI.get L d).1=true then _ else _)=_
 rw [if_pos h]
theorem drop_cons (xs:List Int) (k:Nat) (hk:k<xs.length):xs.drop k=xs.getD k 0::xs.drop (k+1):=by
 rw [List.drop_eq_getElem_cons hk,show xs.getD k 0=xs[k] by simp [List.getD,List.getElem?_eq_getElem hk]]
theorem bytes_at {xs:List Int} (h:xs.all isByte=true) (k:Nat) (hk:k<xs.length):0≤xs.getD k 0∧xs.getD k 0<256:=by
 have:=List.all_eq_true.1 h xs[k] (List.getElem_mem hk)
 rw [show xs.getD k 0=xs[k] by simp [List.getD,List.getElem?_eq_getElem hk]]
 unfold isByte at this
 simpa using this
theorem mW.parts {p:Ph} (ok:mW p):p.bytes.length≤512∧(0<p.bytes.length→(p.bW=1∨p.bW=4)∧p.bytes.all isByte=true)∧0≤p.eN∧p.eN≤400∧0≤p.read∧p.read≤512∧(0<p.read→p.bW=1∨p.bW=4):=by
 rcases ok with ⟨h1,h2,h3,h4,h5,h6⟩ | ⟨h1,h2,h3,h4,h5⟩ | ⟨h1,h2,h3,h4,h5⟩
 ·
  exact ⟨h3,fun _=>⟨h1,h4⟩,by omega,by omega,by omega,by omega,fun _=>h1⟩
 ·
  exact ⟨by rw [h2];simp,fun hl=>by rw [h2] at hl;simp at hl,by omega,by omega,by omega,by omega,fun _=>h1⟩
 ·
  exact ⟨by rw [h2];simp,fun hl=>by rw [h2] at hl;simp at hl,by omega,by omega,by omega,by omega,fun hl=>by omega⟩
theorem CY (p c b o:Nat) (d:aI) (G:Nat→Prop) (k:Nat) (ph:Ph) (a:Option Addr) (cp:Nat) (w:World) (h:fm w p c d G) (fit:d.Fit (eU+k)) (hout:d.out.length≤90000) (ok:mW ph) (hph:LP w b o ph a cp G):Calls prog 196 #[.pointer (some ⟨p,0,none⟩),.pointer (some ⟨b,o,none⟩)] w (mU (aI.phase ph d).1 p c (aI.phase ph d).2 G w):=by
 obtain ⟨L,bs,cl,rd⟩:=ph
 obtain ⟨q1,q2,q3,q4,q5,q6,q7⟩:=ok.parts
 simp only at q1 q2 q3 q4 q5 q6 q7
 obtain ⟨C,rfl⟩:=Int.eq_ofNat_of_zero_le q3
 obtain ⟨R,rfl⟩:=Int.eq_ofNat_of_zero_le q5
 have HH:=zH h
 have HPH:=zH hph
 have HF:=zH (cA fit (show 8 * bs.length+(8 * R+C+k)≤eU+k by unfold eU;omega))
 have HP:=zH (show aI.phase ⟨L,bs,C,R⟩ d=andThen (aI.dB L bs d) fun d1=>andThen (aI.row (List.replicate C 15) d1) fun d2=>aI.fZ L R d2 from rfl)
 have HQ:=zH q2
 have HQ7:=zH q7
 have hc:=hph.1
 have e1:=hc.c1
 simp only at e1
 have HR0:=zH (show aI.dB L bs d=aI.dB L (bs.drop 0) d from rfl)
 have HO:=zH hout
 clear h hph fit q2 q3 q5 q7 ok hout hc
 generalize aI.phase ⟨L,bs,C,R⟩ d=r at *
 obtain ⟨r1,hr1⟩ : ∃ r1,r1=aI.dB L bs d:=⟨_,rfl⟩
 rw [← hr1] at HP HR0
 clear hr1
 go_enter func196,ntmps196
 go_wp2_with fail
 clear e1
 go_loopw [14] (fun i wr => ∃ (j:Nat) (dk:aI) (Gk:Nat→Prop),j≤bs.length∧i=.int .i64 j∧fm wr p c dk Gk∧Step G Gk w wr∧dk.Fit (8 * (bs.length - j)+(8 * R+C+k))∧r1=aI.dB L (bs.drop j) dk∧dk.out=d.out∧LP wr b o ⟨L,bs,C,R⟩ a cp Gk) (fun i _=>bs.length - (intOf i).toNat)
 case atStart=>exact ⟨0,d,G,Nat.zero_le _,rfl,HH.out,Step.refl _ _,HF.out,HR0.out,rfl,HPH.out⟩
 case round =>
  obtain ⟨j,dk,Gk,hj,rfl,hD,hst,hf,hr,ho,hs⟩:=hrel
  by_cases hlt:j<bs.length
  ·
   obtain ⟨hL,hby⟩:=HQ.out (by omega)
   obtain ⟨b0,b1⟩:=bytes_at hby j hlt
   obtain ⟨bb,off,rfl,hcell⟩:=hs.1.ints j hlt
   have c0:wr.cell? ⟨b,o,none⟩=some (.int .i64 L):=hs.1.c0
   have hcell:wr.cell? ⟨bb,off+j,none⟩=some (.int .i64 (bs.getD j 0)):=hcell
   rw [drop_cons bs j hlt] at hr
   have hf':dk.Fit (8+(8 * (bs.length - (j+1))+(8 * R+C+k))):=cA hf (by omega)
   have HPC:=zH (Hw p c dk Gk (8 * (bs.length - (j+1))+(8 * R+C+k)) (bs.getD j 0) L wr hD hf' hL b0 b1)
   have HFF:=zH (FY (bs.getD j 0) L dk _ hf')
   have HX:=zH (zA hst (zA hs (zA ((A1 (bs.getD j 0) L dk).trans ho) hr)))
   have HS1:=zH (zZ L (bs.getD j 0) (bs.drop (j+1)) dk)
   have HS2:=zH (A3 L (bs.getD j 0) (bs.drop (j+1)) dk)
   clear hD hst hf hr ho hs hf' hby hL
   generalize bs.getD j 0=x at *
   generalize aI.put x L dk=rp at *
   obtain ⟨y,dn⟩:=rp
   simp only at HPC HFF HX HS1 HS2
   go_wp2_with fail
   refine HPC.out.mono ?_
   rintro e w2 ⟨rfl,G2,hD2,st2⟩
   have H2:=zH (zA hD2 st2)
   clear hD2 st2
   cases y with
   | false =>
    go_wp2
    go_ret
    rw [HP.out,HX.out.2.2.2,HS1.out (by trivial)]
    exact ⟨rfl,G2,H2.out.1,HX.out.1.trans H2.out.2⟩
   | true =>
    go_wp2
    go_roundw
    case rel=>exact ⟨j+1,dn,G2,by omega,by go_num,H2.out.1,HX.out.1.trans H2.out.2,HFF.out,HX.out.2.2.2.trans (HS2.out (by trivial)),HX.out.2.2.1,HX.out.2.1.step H2.out.2⟩
    case measure=>simp [intOf];omega
  ·
   obtain rfl:j=bs.length:=by omega
   rw [List.drop_of_length_le zY] at hr
   have c2:wr.cell? ⟨b,o+2,none⟩=some (.int .i64 (C:Int)):=hs.1.c2
   have HX:=zH (zA hD (zA hst (zA hs ho)))
   have HF1:=zH (show dk.Fit (C - 0+(8 * R+k)) from cA hf (by omega))
   rw [show r1=(true,dk) from hr] at HP
   have HP1:=zH (show r=andThen (aI.row (List.replicate C 15) dk) fun d2=>aI.fZ L R d2 from HP.out)
   obtain ⟨r2,hr2⟩ : ∃ r2,r2=aI.row (List.replicate C 15) dk:=⟨_,rfl⟩
   rw [← hr2] at HP1
   have HR2:=zH hr2
   clear hD hst hf hr ho hs HP HR0 HF HH HPH hr2
   go_wp2_with fail
   clear c2
   obtain ⟨wo,hwo⟩ : ∃ wo:World,wo=wr:=⟨_,rfl⟩
   go_loopw [31] (fun i wr2 => ∃ (j:Nat) (dj:aI) (Gj:Nat→Prop),j≤C∧i=.int .i64 j∧fm wr2 p c dj Gj∧Step G Gj w wr2∧dj.Fit (C - j+(8 * R+k))∧r2=aI.row (List.replicate (C - j) 15) dj∧dj.out=d.out∧LP wr2 b o ⟨L,bs,C,R⟩ a cp Gj) (fun i _=>C - (intOf i).toNat)
   case atStart=>exact ⟨0,dk,Gk,Nat.zero_le _,rfl,HX.out.1,HX.out.2.1,HF1.out,HR2.out,HX.out.2.2.2,HX.out.2.2.1⟩
   case round =>
    obtain ⟨j,dj,Gj,hj,rfl,hD,hst,hf,hr,ho,hs⟩:=hrel
    by_cases hlt2:j<C
    ·
     rw [show C - j=(C - (j+1))+1 by omega,List.replicate_succ] at hr
     have hf':dj.Fit (C - (j+1)+(8 * R+k)+1):=cA hf (by omega)
     have HX2:=zH (zA hst (zA hs (zA ho (zA hr hf'))))
     have HDD:=zH hD
     clear hst hs ho hr hf hD
     cases hstop:dj.stop with
     | true =>
      have HT:=zH (mO p c dj Gj 15 _ HDD.out hstop)
      have HE:=zH (sn 15 (List.replicate (C - (j+1)) 15) dj hstop)
      clear hstop hf'
      go_wp2_with fail
      refine HT.out.mono ?_
      rintro e w2 ⟨rfl,G2,hD2,st2⟩
      have H2:=zH (zA hD2 st2)
      clear hD2 st2
      go_wp2
      go_ret
      rw [HP1.out,HX2.out.2.2.2.1,HE.out]
      exact ⟨rfl,G2,H2.out.1,HX2.out.1.trans H2.out.2⟩
     | false =>
      have HT:=zH (sH p c dj Gj _ 15 _ HDD.out hf' hstop (by decide) (by decide))
      have HE:=zH (xD 15 (List.replicate (C - (j+1)) 15) dj hstop)
      clear hstop hf'
      go_wp2_with fail
      refine HT.out.mono ?_
      rintro e w2 ⟨rfl,G2,hD2,st2⟩
      have H2:=zH (zA hD2 st2)
      clear hD2 st2
      go_wp2
      go_roundw
      case rel=>exact ⟨j+1,dj.tick 15,G2,by omega,by go_num,H2.out.1,HX2.out.1.trans H2.out.2,lE HX2.out.2.2.2.2 15,HX2.out.2.2.2.1.trans HE.out,HX2.out.2.2.1,HX2.out.2.1.step H2.out.2⟩
      case measure=>simp [intOf];omega
    ·
     obtain rfl:C=j:=by omega
     rw [Nat.sub_self] at hr
     have c3:_=some (Value.int .i64 (R:Int)):=hs.1.c3
     have HY:=zH (zA hD (zA hst (zA hs ho)))
     have HF2:=zH (show dj.Fit (8 * (R - 0)+k) from cA hf (by omega))
     rw [show r2=(true,dj) from hr] at HP1
     have HP2:=zH (show r=aI.fZ L R dj from HP1.out)
     clear hD hst hf hr ho hs HP1 HR2
     go_wp2_with fail
     clear c3
     go_loopw [45] (fun i wr3 => ∃ (j:Nat) (dm:aI) (Gm:Nat→Prop),j≤R∧i=.int .i64 j∧fm wr3 p c dm Gm∧Step G Gm w wr3∧dm.Fit (8 * (R - j)+k)∧r=aI.fZ L (R - j) dm∧dm.out.length≤d.out.length+j∧LP wr3 b o ⟨L,bs,C,R⟩ a cp Gm) (fun i _=>R - (intOf i).toNat)
     case atStart=>exact ⟨0,dj,Gj,Nat.zero_le _,rfl,HY.out.1,HY.out.2.1,HF2.out,HP2.out,by rw [HY.out.2.2.2];exact Nat.le_refl _,HY.out.2.2.1⟩
     case round =>
      obtain ⟨j,dm,Gm,hj,rfl,hD,hst,hf,hr,ho,hs⟩:=hrel
      by_cases hlt3:j<R
      ·
       have hL:=HQ7.out (by omega)
       have c0:_=some (Value.int .i64 L):=hs.1.c0
       rw [show R - j=(R - (j+1))+1 by omega] at hr
       have hf':dm.Fit (8+(8 * (R - (j+1))+k)):=cA hf (by omega)
       have hdo:=HO.out
       have HGC:=zH (GR p c dm Gm (8 * (R - (j+1))+k) L _ hD hf' hL (by omega))
       have HFF:=zH (FC L dm _ hf')
       have hgo:=FE L dm
       have HX3:=zH (zA hst (zA hs (zA (show (aI.get L dm).2.out.length≤d.out.length+(j+1) by omega) hr)))
       have HS1:=zH (te L (R - (j+1)) dm)
       have HS2:=zH (vy L (R - (j+1)) dm)
       clear hD hst hf hr ho hs hf' hL hgo
       generalize aI.get L dm=rp at *
       obtain ⟨y,dn⟩:=rp
       simp only at HGC HFF HX3 HS1 HS2
       go_wp2_with fail
       refine HGC.out.mono ?_
       rintro e w2 ⟨rfl,G2,hD2,st2⟩
       have H2:=zH (zA hD2 st2)
       clear hD2 st2
       cases y with
       | false =>
        go_wp2
        go_ret
        rw [HX3.out.2.2.2,HS1.out (by trivial)]
        exact ⟨rfl,G2,H2.out.1,HX3.out.1.trans H2.out.2⟩
       | true =>
        go_wp2
        go_roundw
        case rel=>exact ⟨j+1,dn,G2,by omega,by go_num,H2.out.1,HX3.out.1.trans H2.out.2,HFF.out,HX3.out.2.2.2.trans (HS2.out (by trivial)),HX3.out.2.2.1,HX3.out.2.1.step H2.out.2⟩
        case measure=>simp [intOf];omega
      ·
       obtain rfl:R=j:=by omega
       rw [Nat.sub_self] at hr
       have HX3:=zH (zA hD (zA hst hr))
       clear hD hst hf hr ho hs
       go_wp2
       go_ret
       rw [show r=(true,dm) from HX3.out.2.2]
       exact ⟨rfl,Gm,HX3.out.1,HX3.out.2.1⟩
theorem xv (L:Int) : ∀ (bs:List Int) (d:aI),(aI.dB L bs d).2.out=d.out
 | [],d=>rfl
 | b::r,d=>by
  unfold aI.dB
  split
  ·
   exact (xv L r _).trans (A1 b L d)
  ·
   exact A1 b L d
theorem Ce (L:Int) : ∀ (k:Nat) (d:aI),(aI.fZ L k d).2.out.length≤d.out.length+k
 | 0,d=>Nat.le_refl _
 | k+1,d=>by
  have h:=FE L d
  unfold aI.fZ
  split
  ·
   have:=Ce L k (aI.get L d).2;omega
  ·
   show (aI.get L d).2.out.length≤_;omega
theorem Hr (p:Ph) (ok:mW p) (d:aI):(aI.phase p d).2.out.length≤d.out.length+512:=by
 obtain ⟨q1,q2,q3,q4,q5,q6,q7⟩:=ok.parts
 have h1:=xv p.bW p.bytes d
 unfold aI.phase andThen
 dsimp only
 split
 ·
  have h2:=vE (List.replicate p.eN.toNat 15) (aI.dB p.bW p.bytes d).2
  split
  ·
   have h3:=Ce p.bW p.read.toNat (aI.row (List.replicate p.eN.toNat 15) (aI.dB p.bW p.bytes d).2).2
   rw [h2,h1] at h3
   omega
  ·
   show (aI.row (List.replicate p.eN.toNat 15) (aI.dB p.bW p.bytes d).2).2.out.length≤_
   rw [h2,h1];omega
 ·
  show (aI.dB p.bW p.bytes d).2.out.length≤_
  rw [h1];omega
end
section
open Go.RowKit
theorem eB.free {w:World} {b o:Nat} {ps:List Ph} {G:Nat→Prop} (h:eB w b o ps G):eB w b o ps (fun _=>False) :=
 ⟨fun _ h=>h,fun i hi=>let ⟨a,c,h1,_⟩:=h.ph i hi;⟨a,c,h1,fun _ _ _ _ h=>h⟩⟩
theorem eB.at {w:World} {b o:Nat} {ps:List Ph} {G:Nat→Prop} (h:eB w b o ps G) (i:Nat) (hi:i<ps.length) : ∃ a c,LP w b (o+i * 4) (ps.getD i Ph.none) a c G:=by
 obtain ⟨a,c,h1,h2⟩:=h.ph i hi
 exact ⟨a,c,h1,h.fB (Nat.lt_of_le_of_lt zX hi),h2⟩
theorem CZ (ps:List Ph) (k:Nat) (hk:k<ps.length) (d:aI):aI.eR (ps.drop k) d=andThen (aI.phase (ps.getD k Ph.none) d) (aI.eR (ps.drop (k+1))):=by
 rw [List.drop_eq_getElem_cons hk,show ps.getD k Ph.none=ps[k] by simp [List.getD,List.getElem?_eq_getElem hk]]
 rfl
theorem kW (m:ag):m.behind.dQ=m.dQ:=by
 unfold ag.behind;split;rfl;split;rfl;split;rfl;split <;> rfl
theorem vV (m:ag) (b:Int):(m.cV b).dQ=m.dQ:=by
 unfold ag.cV;split;rfl;split;rfl;exact kW _
theorem EY (m:ag):m.select.dQ=true:=by
 unfold ag.select;split;exact vV _ _;rfl
theorem J9 (m:ag) (x:Int):(m.step x).2.dQ=m.dQ:=by
 unfold ag.step
 split
 ·
  unfold ag.sB;split;exact vV _ _;rfl
 split
 ·
  unfold ag.sC;split;exact kW _;rfl
 split
 ·
  unfold ag.sD;split;exact kW _;rfl
 split
 ·
  unfold ag.uK;split;exact kW _;rfl
 split
 ·
  unfold ag.sE;split;exact kW _;rfl
 split
 ·
  unfold ag.bU ag.next;split <;> rfl
 split <;> rfl
theorem yZ (m:ag) (x:Int):(m.clock x).2.dQ=m.dQ:=by
 obtain ⟨_,_,_,_,_,_,_,_,_,_,_,es,_⟩:=rS m
 unfold ag.clock
 split
 ·
  exact (J9 _ _).trans es
 ·
  exact es
theorem sm : ∀ (xs:List Int) (d:aI),(aI.row xs d).2.ar.dQ=d.ar.dQ
 | [],d=>rfl
 | x::r,d=>by
  unfold aI.row
  split
  ·
   rfl
  ·
   exact (sm r (d.tick x)).trans (yZ _ _)
theorem Ck (L:Int) : ∀ (k:Nat) (xs:List Int) (d:aI),(aI.im L k xs d).2.2.ar.dQ=d.ar.dQ
 | 0,xs,d=>rfl
 | k+1,xs,d=>by
  unfold aI.im
  split
  ·
   rfl
  ·
   exact (Ck L k _ (d.tick 15)).trans (yZ _ _)
theorem FF (L:Int) (d:aI):(aI.get L d).2.ar.dQ=d.ar.dQ:=by
 have h:=Ck L (many L).toNat [] d
 unfold aI.get aI.cO
 split <;> exact h
theorem rV (L:Int) : ∀ (bs:List Int) (d:aI),(aI.dB L bs d).2.ar.dQ=d.ar.dQ
 | [],d=>rfl
 | b::r,d=>by
  unfold aI.dB
  split
  ·
   exact (rV L r _).trans (sm _ _)
  ·
   exact sm _ _
theorem Cf (L:Int) : ∀ (k:Nat) (d:aI),(aI.fZ L k d).2.ar.dQ=d.ar.dQ
 | 0,d=>rfl
 | k+1,d=>by
  unfold aI.fZ
  split
  ·
   exact (Cf L k _).trans (FF L d)
  ·
   exact FF L d
theorem zK (p:Ph) (d:aI):(aI.phase p d).2.ar.dQ=d.ar.dQ:=by
 unfold aI.phase andThen
 dsimp only
 split
 ·
  split
  ·
   exact (Cf _ _ _).trans ((sm _ _).trans (rV _ _ _))
  ·
   exact (sm _ _).trans (rV _ _ _)
 ·
  exact rV _ _ _
theorem xr : ∀ (ps:List Ph) (d:aI),(aI.eR ps d).2.ar.dQ=d.ar.dQ
 | [],d=>rfl
 | p::r,d=>by
  unfold aI.eR andThen
  split
  ·
   exact (xr r _).trans (zK p d)
  ·
   exact zK p d
def aI.new (m:ag) (bh:Int):aI:=⟨m.select,[],0,bh⟩
def ie (m:ag) (ps:List Ph) (bh:Int):Bool×aI:=aI.eR ps (aI.new m bh)
def cj (r:Bool×aI):ag:=if r.1=true then r.2.ar.fw else r.2.ar
theorem zh {w w1 w':World} {p c:Nat} {d:aI} {F G':Nat→Prop} (h:fm w' p c d G') (st:Step (fun b=>F b∨b=p) G' w1 w') (t:Touch F w w1) (hp:w.heap.size≤p) : ∃ (F':Nat→Prop) (ov:Value),w'.heap[p]? = some (.cells #[.pointer (some ⟨c,0,none⟩),ov,.int .i64 (d.n:Int),.int .i64 d.bh] 291 (0,0))∧aS w' c d.ar F'∧w'.ownsRow 0 3 1 ov d.out.length (aC d.out) ∧ ¬ F' p∧(∀ g,ov.ownBlock=some g → ¬ F' g∧w.heap.size≤g)∧Step F F' w w':=by
 obtain ⟨F',ov,h1,h2,h3,h4,h5,h6,h7,h8,_⟩:=h.ex
 refine ⟨F',ov,h1,h2,h3,h4,fun g hg=>⟨h5 g hg,Nat.le_trans hp (h8 g hg).2⟩,t.then st.aH (fun b hb=>hb.elim .inl (fun e=>.inr (by rw [e];exact hp))),fun b hb => ?_⟩
 rcases st.ik b (h6 b hb) with hf | hf
 ·
  exact hf.elim .inl (fun e=>.inr (by rw [e];exact hp))
 ·
  exact .inr (Nat.le_trans t.size hf)
def Gb (r:Bool×aI) (c:Nat) (F:Nat→Prop) (w:World) (e:Ending) (w':World):Prop :=
 ∃ (a:Option Addr) (cp:Nat) (F':Nat→Prop),e=.returned (.tuple #[.slice a r.2.out.length cp,.int .i64 (r.2.n:Int),.bool r.1,.int .i64 0])∧aS w' c (cj r) F'∧aN w' a r.2.out F'∧Step F F' w w' ∧ ∀ b o,a=some ⟨b,o,none⟩→w.heap.size≤b
theorem CT {w:World} {v:Value} {xs:List Int} {F:Nat→Prop} {B:Nat} (h:w.ownsRow 0 3 1 v xs.length (aC xs)) (hn : ∀ g,v.ownBlock=some g → ¬ F g∧B≤g) : ∃ a cp,v=.slice a xs.length cp∧aN w a xs F ∧ ∀ b o,a=some ⟨b,o,none⟩→B≤b:=by
 obtain ⟨a,cp,hv,hi⟩:=(bz.dd h).ints
 refine ⟨a,cp,hv,⟨hi,fun b o e hl hf=>(hn b ?_).1 hf⟩,fun b o e=>(hn b ?_).2⟩
 ·
  rw [hv,e];rfl
 ·
  rw [hv,e];rfl
theorem B0 (c b o cap:Nat) (m:ag) (F:Nat→Prop) (ps:List Ph) (bh:Int) (w:World) (h:aS w c m F) (ok:m.Ok) (hsel:m.dQ=false) (hph:eB w b o ps F) (hps : ∀ i,i<ps.length→mW (ps.getD i Ph.none)) (hl:ps.length≤100):Calls prog 184 #[.pointer (some ⟨c,0,none⟩),.slice (some ⟨b,o,none⟩) ps.length cap,.int .i64 bh] w (Gb (ie m ps bh) c F w):=by
 have HC:=zH (tM b o cap ps w hph.free hps hl)
 have HS:=zH (fun (w1:World) (hb:Below w.heap.size w w1)=>sX c m F w1 (h.aj hb) hsel)
 have HPH:=zH (fun (w1:World) (hb:Below w.heap.size w w1)=>hph.step (Step.ah (F:=F) hb))
 have HOK:=zH hps
 have HFIT:=zH (show (aI.new m bh).Fit (eU * ps.length) from ⟨xJ ok 0,by show 0+eU * ps.length<_;unfold eU;omega⟩)
 have HD:=zH (show ie m ps bh=aI.eR (ps.drop 0) (aI.new m bh) from rfl)
 have HSEL:=zH (show (ie m ps bh).2.ar.dQ=true from (xr ps (aI.new m bh)).trans (EY m))
 clear h ok hsel hph hps
 go_enter func184,ntmps184
 go_wp2_with fail
 refine HC.out.mono ?_
 rintro e w1 ⟨z,rfl,hb1⟩
 have HS1:=zH (HS.out w1 hb1)
 have H1:=zH (zA hb1 (HPH.out w1 hb1))
 clear hb1 HS HPH HC
 go_wp2_with fail
 refine HS1.out.mono ?_
 rintro e w2 ⟨rfl,h2,t2⟩
 have hcF:F c:=by obtain ⟨s,hr⟩:=h2.open;exact hr.own
 have T2:Touch F w w2:=(Touch.ah H1.out.1).trans (t2.mono fun b e=>by rw [show b=c from e];exact hcF)
 have hph2:eB w2 b o ps F:=H1.out.2.step (Step.dD (t2.mono fun b e=>by rw [show b=c from e];exact hcF))
 have hlt2:=h2.lt
 have hsel:m.select=(aI.new m bh).ar:=rfl
 rw [hsel] at h2
 have H2:=zH h2
 have HT2:=zH T2
 have HP2:=zH hph2
 have HLT2:=zH hlt2
 have HHM:=zH (fun hl=>h2.home hl)
 have HO0:=zH (show (aI.new m bh).out=[]∧(aI.new m bh).n=0∧(aI.new m bh).bh=bh from ⟨rfl,rfl,rfl⟩)
 clear h2 t2 T2 hph2 hlt2 hcF hsel HS1 H1
 generalize aI.new m bh=d at *
 generalize ie m ps bh=r at *
 obtain ⟨p,hp⟩ : ∃ p,w2.heap.size=p:=⟨_,rfl⟩
 have hpw:w.heap.size≤p:=by rw [← hp];exact HT2.out.size
 have hb3:Below w2.heap.size w2 (w2.alloc (.cells #[.pointer (some ⟨c,0,none⟩),.slice none 0 0,.int .i64 0,.int .i64 bh] 291)):=ae zR _
 have hD0:fm (w2.alloc (.cells #[.pointer (some ⟨c,0,none⟩),.slice none 0 0,.int .i64 0,.int .i64 bh] 291)) p c d (fun b=>F b∨b=p):=by
  obtain ⟨e1,e2,e3⟩:=HO0.out
  refine ⟨⟨F,.slice none 0 0,?_,H2.out.aj hb3,?_,?_,(fun g e=>by cases e),fun b hb=>.inl hb,.inr rfl,(fun g e=>by cases e),fun hl hf => ?_⟩,fun b hb => ?_⟩
  ·
   rw [← hp,af,e2,e3];rfl
  ·
   rw [e1];exact zN
  ·
   intro hf;have:=HLT2.out p hf;omega
  ·
   obtain ⟨g1,g2⟩:=HHM.out hl
   rcases hf with hf | hf
   ·
    exact g2 hf
   ·
    have hf':d.ar.home=p:=hf
    omega
  ·
   simp only [World.size_alloc]
   rcases hb with hb | hb
   ·
    have:=HLT2.out b hb;omega
   ·
    omega
 have hP0:eB (w2.alloc (.cells #[.pointer (some ⟨c,0,none⟩),.slice none 0 0,.int .i64 0,.int .i64 bh] 291)) b o ps (fun b=>F b∨b=p) :=
  HP2.out.step ⟨Touch.ah hb3,fun x hx=>hx.elim .inl (fun e=>.inr (by rw [e,hp];exact Nat.le_refl _))⟩
 have hT0:Touch F w (w2.alloc (.cells #[.pointer (some ⟨c,0,none⟩),.slice none 0 0,.int .i64 0,.int .i64 bh] 291)):=HT2.out.trans (Touch.ah hb3)
 have HD0:=zH hD0
 have HP0:=zH hP0
 have HT0:=zH hT0
 clear hD0 hP0 hT0 hb3 HP2 HT2 H2 HLT2 HHM
 go_wp2_with fail
 generalize w2.alloc (.cells #[.pointer (some ⟨c,0,none⟩),.slice none 0 0,.int .i64 0,.int .i64 bh] 291)=w3 at *
 have HPW:=zH hpw
 clear hp hpw
 go_loopw [34] (fun i wr => ∃ (j:Nat) (dk:aI) (Gk:Nat→Prop),j≤ps.length∧i=.int .i64 j∧fm wr p c dk Gk∧Step (fun b=>F b∨b=p) Gk w3 wr∧dk.Fit (eU * (ps.length - j))∧r=aI.eR (ps.drop j) dk∧dk.out.length≤512 * j∧eB wr b o ps Gk) (fun i _=>ps.length - (intOf i).toNat)
 case atStart=>exact ⟨0,d,_,Nat.zero_le _,rfl,HD0.out,Step.refl _ _,HFIT.out,HD.out,by rw [HO0.out.1];simp,HP0.out⟩
 case round =>
  obtain ⟨j,dk,Gk,hj,rfl,hD,hst,hf,hr,ho,hs⟩:=hrel
  by_cases hlt:j<ps.length
  ·
   obtain ⟨a,cp,hS⟩:=hs.at j hlt
   have hf':dk.Fit (eU+eU * (ps.length - (j+1))):=cA hf (by
    have:ps.length - j=(ps.length - (j+1))+1:=by omega
    rw [this,Nat.mul_add];omega)
   have hpo:=HOK.out j hlt
   have HPC:=zH (CY p c b (o+j * 4) dk Gk (eU * (ps.length - (j+1))) (ps.getD j Ph.none) a cp wr hD hf' (by omega) hpo hS)
   have HFF:=zH (zI (ps.getD j Ph.none) hpo dk _ hf')
   have hou:=Hr (ps.getD j Ph.none) hpo dk
   rw [CZ ps j hlt] at hr
   have HX:=zH (zA hst (zA hs (zA (show (aI.phase (ps.getD j Ph.none) dk).2.out.length≤512 * (j+1) by omega) hr)))
   clear hD hst hf hr ho hs hf' hpo hou hS
   generalize aI.phase (ps.getD j Ph.none) dk=rp at *
   obtain ⟨y,dn⟩:=rp
   simp only at HPC HFF HX
   go_wp2_with fail
   refine HPC.out.mono ?_
   rintro e w4 ⟨rfl,G2,hD2,st2⟩
   have hst4:=HX.out.1.trans st2
   have H2:=zH (zA hD2 (zA hst4 st2))
   clear hst4
   cases y with
   | false =>
    obtain ⟨F',ov,q1,q2,q3,q4,q5,q6⟩:=zh hD2 (HX.out.1.trans st2) HT0.out HPW.out
    have c1:w4.cell? ⟨p,1,none⟩=some ov:=cell_of q1 1
    have c2:w4.cell? ⟨p,2,none⟩=some (.int .i64 (dn.n:Int)):=cell_of q1 2
    obtain ⟨a',cp',rfl,hsf,hnew⟩:=CT q3 q5
    have HQ:=zH (zA q2 (zA hsf q6))
    have HNEW:=zH hnew
    clear q1 q2 q3 q4 q5 q6 hsf hD2 st2 hnew
    have hb4:Below w4.heap.size w4 w4.drew:=au zR
    have HR:=zH (show r=(false,dn) from HX.out.2.2.2)
    go_wp2_with fail
    go_quiet (fail)
    go_wp2
    refine bodyPost_ret (v:=.tuple #[.slice a' dn.out.length cp',.int .i64 (dn.n:Int),.bool false,.int .i64 0]) (by simp [results,results184,go_sem]) rfl ?_
    rw [HR.out]
    exact ⟨a',cp',F',rfl,HQ.out.1.aj (aY zR _),HQ.out.2.1.step (Step.ah (aY zR _)),HQ.out.2.2.trans (Step.ah (aY zR _)),HNEW.out⟩
   | true =>
    clear hD2 st2
    go_wp2
    go_roundw
    case rel=>exact ⟨j+1,dn,G2,by omega,by go_num,H2.out.1,H2.out.2.1,HFF.out,HX.out.2.2.2,HX.out.2.2.1,HX.out.2.1.step H2.out.2.2⟩
    case measure=>simp [intOf];omega
  ·
   obtain rfl:j=ps.length:=by omega
   rw [List.drop_of_length_le zY] at hr
   obtain ⟨F',ov,q1,q2,q3,q4,q5,q6⟩:=zh hD hst HT0.out HPW.out
   obtain ⟨a',cp',rfl,hsf,hnew⟩:=CT q3 q5
   have hr2:r=(true,dk):=hr
   have HDS:=zH (uX c dk.ar F' wr q2 hf.ar.base.ok (by have:=HSEL.out;rw [hr2] at this;exact this))
   have HR:=zH hr2
   have HQ:=zH (zA q1 (zA q4 (zA hsf q6)))
   have HNEW:=zH hnew
   clear hD hst hf hr ho hs hr2 q1 q2 q3 q4 q5 q6 hsf hnew
   go_wp2_with fail
   refine HDS.out.mono ?_
   rintro e w5 ⟨rfl,F5,h5,st5⟩
   have hp5:=st5.aH.at HQ.out.1 HQ.out.2.1
   have c1:w5.cell? ⟨p,1,none⟩=some (.slice a' dk.out.length cp'):=cell_of hp5 1
   have c2:w5.cell? ⟨p,2,none⟩=some (.int .i64 (dk.n:Int)):=cell_of hp5 2
   have H5:=zH (zA h5 (zA (HQ.out.2.2.1.step st5) (HQ.out.2.2.2.trans st5)))
   clear h5 st5 hp5
   go_wp2_with fail
   go_quiet (fail)
   go_wp2
   refine bodyPost_ret (v:=.tuple #[.slice a' dk.out.length cp',.int .i64 (dk.n:Int),.bool true,.int .i64 0]) (by simp [results,results184,go_sem]) rfl ?_
   rw [HR.out]
   exact ⟨a',cp',F5,rfl,H5.out.1.aj (aY zR _),H5.out.2.1.step (Step.ah (aY zR _)),H5.out.2.2.trans (Step.ah (aY zR _)),HNEW.out⟩
end
section
open Go.RowKit
variable {X:Nat→Prop}
structure aG where
 ar:ag
 aD:Bool
 left:Int
 lost:Bool
structure mz where
 c:Nat
 r0:Int
 r1:Int
 r2:Int
 po:Option Addr
 pi:Option Addr
 cl:Int
 aD:Bool
 left:Int
 lost:Bool
 o0:Int
 o1:Int
 o2:Int
 lv:Value
def mz.row (s:mz):Array Value := #[.pointer (some ⟨s.c,0,none⟩),.int .i64 s.r0,.int .i64 s.r1,.int .i64 s.r2,.pointer s.po,.pointer s.pi,.int .i64 s.cl,.bool s.aD,.int .i64 s.left,.bool s.lost,.int .u32 s.o0,.int .i32 s.o1,.int .u32 s.o2,s.lv]
def fF (w:World) (k:Nat) (s:mz):Prop:=w.heap[k]? = some (.cells s.row 141 (0,0))
def bX:Ph:=⟨4,[0,0,0,0],0,0⟩
def qU (X:Nat→Prop) (w:World) (s:mz) (G:Nat→Prop):Prop :=
 (∀ i,X i→i<w.heap.size)∧((s.o0=0∧s.o1=0∧s.o2=0)∨(s.o0=1∧s.o1=0∧s.o2=0 ∧ ∃ b,s.lv=.slice (some ⟨b,0,none⟩) 1 1∧eB w b 0 [bX] (fun i=>G i∨X i)))
theorem Step.Mu {G G' Y:Nat→Prop} {w w':World} (st:Step G G' w w'):Step (fun i=>G i∨Y i) (fun i=>G' i∨Y i) w w' :=
 ⟨st.aH.mono fun _ h=>.inl h,fun i h=>h.elim (fun h=>(st.ik i h).imp .inl id) (fun h=>.inl (.inr h))⟩
theorem qU.step {w w':World} {s:mz} {G G':Nat→Prop} (h:qU X w s G) (st:Step G G' w w'):qU X w' s G':=by
 refine ⟨fun i hi=>zV (h.1 i hi) st.aH.size,?_⟩
 rcases h.2 with h | ⟨h0,h1,h2,b,e,h3⟩
 ·
  exact .inl h
 ·
  exact .inr ⟨h0,h1,h2,b,e,h3.step st.Mu⟩
theorem eB.sub {w:World} {b o:Nat} {ps:List Ph} {F G:Nat→Prop} (h:eB w b o ps G) (hs : ∀ b,F b→G b):eB w b o ps F :=
 ⟨fun hl hf=>h.fB hl (hs _ hf),fun i hi=>by
  obtain ⟨a,c,h1,h2⟩:=h.ph i hi
  exact ⟨a,c,h1,fun b' o' e hl hf=>h2 b' o' e hl (hs _ hf)⟩⟩
structure kQ (X:Nat→Prop) (w:World) (k:Nat) (s:mz) (m:aG) (F G:Nat→Prop):Prop where
 raw:fF w k s
 aD:s.aD=m.aD
 left:s.left=m.left
 lost:s.lost=m.lost
 ar:aS w s.c m.ar F
 leave:qU X w s G
 fB : ¬ F k
 sub : ∀ b,F b→G b
 own:G k
 home:0<m.ar.busy.length → ¬ G m.ar.home
 lt : ∀ b,G b→b<w.heap.size
def bO (X:Nat→Prop) (w:World) (k c:Nat) (m:aG) (G:Nat→Prop):Prop := ∃ s F,s.c=c∧kQ X w k s m F G
theorem kQ.aj {w w':World} {k:Nat} {s:mz} {m:aG} {F G:Nat→Prop} (h:kQ X w k s m F G) (hb:Below w.heap.size w w'):kQ X w' k s m F G :=
 ⟨aa hb h.raw,h.aD,h.left,h.lost,h.ar.aj hb,h.leave.step (Step.ah hb),h.fB,h.sub,h.own,h.home,fun b hb'=>zV (h.lt b hb') hb.size⟩
theorem bO.aj {w w':World} {k c:Nat} {m:aG} {G:Nat→Prop} (h:bO X w k c m G) (hb:Below w.heap.size w w'):bO X w' k c m G:=by
 obtain ⟨s,F,e,h⟩:=h
 exact ⟨s,F,e,h.aj hb⟩
theorem bO.lt {w:World} {k c:Nat} {m:aG} {G:Nat→Prop} (h:bO X w k c m G) : ∀ b,G b→b<w.heap.size:=by
 obtain ⟨s,F,e,h⟩:=h
 exact h.lt
theorem kQ.block {w w':World} {k:Nat} {s s':mz} {m m':aG} {F G:Nat→Prop} (h:kQ X w k s m F G) (g:fF w' k s') (t:Touch (aO k) w w') (ec:s'.c=s.c) (e1:s'.aD=m'.aD) (e2:s'.left=m'.left) (e3:s'.lost=m'.lost) (e4:m'.ar=m.ar) (e5:s'.o0=s.o0) (e6:s'.o1=s.o1) (e7:s'.o2=s.o2) (e8:s'.lv=s.lv):kQ X w' k s' m' F G:=by
 have hG : ∀ b,aO k b→G b:=fun b e=>by rw [show b=k from e];exact h.own
 refine ⟨g,e1,e2,e3,?_,?_,h.fB,h.sub,h.own,by rw [e4];exact h.home,fun b hb=>zV (h.lt b hb) t.size⟩
 ·
  rw [ec,e4]
  exact h.ar.fB t (fun b hb e=>h.fB (by rw [← show b=k from e];exact hb)) (fun hl e=>h.home hl (by rw [show m.ar.home=k from e];exact h.own))
 ·
  have:=h.leave.step (Step.dD (t.mono hG))
  unfold qU at this ⊢
  rw [e5,e6,e7,e8];exact this
theorem kQ.step {w w':World} {k:Nat} {s:mz} {m:aG} {F G:Nat→Prop} (h:kQ X w k s m F G) (t:Touch (aO k) w w'):Step G G w w':=Step.dD (t.mono fun b e=>by rw [show b=k from e];exact h.own)
def aG.qQ (m:aG):Int:=if m.lost=true then 1101 else 0
theorem kh (k c:Nat) (m:aG) (G:Nat→Prop) (w:World) (h:bO X w k c m G):Calls prog 153 #[.pointer (some ⟨k,0,none⟩)] w fun e w'=>e=.returned (.int .i64 m.qQ)∧w=w':=by
 obtain ⟨s,F,rfl,h⟩:=h
 have c9:w.cell? ⟨k,9,none⟩=some (.bool m.lost):=by rw [← h.lost];exact cell_of h.raw 9
 clear h
 unfold aG.qQ
 cases hl:m.lost with
 | true =>
  rw [hl] at c9
  clear hl
  go_enter func153,ntmps153
  go_wp2
  go_ret
  exact ⟨rfl,rfl⟩
 | false =>
  rw [hl] at c9
  clear hl
  go_enter func153,ntmps153
  go_wp2
  go_ret
  exact ⟨rfl,rfl⟩
theorem yj (k c:Nat) (m:aG) (G:Nat→Prop) (w:World) (h:bO X w k c m G):Calls prog 33 #[.pointer (some ⟨k,0,none⟩)] w fun e w'=>e=.returned (.bool m.lost)∧w=w':=by
 obtain ⟨s,F,rfl,h⟩:=h
 have c9:w.cell? ⟨k,9,none⟩=some (.bool m.lost):=by rw [← h.lost];exact cell_of h.raw 9
 clear h
 go_enter func33,ntmps33
 go_wp2
 go_ret
 exact ⟨rfl,rfl⟩
theorem u3 (k c:Nat) (m:aG) (G:Nat→Prop) (w:World) (h:bO X w k c m G):Calls prog 66 #[.pointer (some ⟨k,0,none⟩)] w fun e w' => ∃ z:Int,e=.returned (.int .i64 z)∧w=w':=by
 obtain ⟨s,F,rfl,h⟩:=h
 have c6:w.cell? ⟨k,6,none⟩=some (.int .i64 s.cl):=cell_of h.raw 6
 clear h
 go_enter func66,ntmps66
 go_wp2
 go_ret
 exact ⟨_,rfl,rfl⟩
theorem yi (w:World):Calls prog 66 #[.pointer none] w fun e w'=>e=.returned (.int .i64 0)∧w=w':=by
 go_enter func66,ntmps66
 go_wp2
 go_ret
 exact ⟨rfl,rfl⟩
def mT (X:Nat→Prop) (er:Int) (k c:Nat) (m:aG) (G:Nat→Prop) (w:World) (e:Ending) (w':World):Prop:=e=.returned (.int .i64 er) ∧ ∃ G',bO X w' k c m G'∧Step G G' w w'
theorem GG (k c:Nat) (m:aG) (G:Nat→Prop) (n:Int) (w:World) (h:bO X w k c m G) (hn:0≤n):Calls prog 31 #[.pointer (some ⟨k,0,none⟩),.int .i64 n] w (mT X 0 k c { m with left:=n } G w):=by
 obtain ⟨s,F,rfl,h⟩:=h
 have c8:w.cell? ⟨k,8,none⟩=some (.int .i64 s.left):=cell_of h.raw 8
 have f8:w.frozen? ⟨k,8,none⟩=false:=aF h.raw 8
 have t:Touch (aO k) w (w.setCell ⟨k,8,none⟩ (.int .i64 n)):=(Touch.refl _ _).set k 8 _ rfl
 have h1:=h.block (s':={ s with left:=n }) (m':={ m with left:=n }) (w':=w.setCell ⟨k,8,none⟩ (.int .i64 n)) (az (i:=8) (v:=.int .i64 n) h.raw) t rfl h.aD rfl h.lost rfl rfl rfl rfl rfl
 have HX:=zH (zA h1 (h.step t))
 have hn' : ¬ n<0:=by omega
 clear h h1 t
 go_enter func31,ntmps31
 go_wp2
 go_ret
 exact ⟨rfl,G,⟨{ s with left:=n },F,rfl,HX.out.1⟩,HX.out.2⟩
def Ks (w:World) (e:Ending) (w':World):Prop := ∃ b,e=.returned (.pointer (some ⟨b,0,none⟩))∧Below w.heap.size w w'
theorem p9 (w:World):Calls prog 103 #[] w (Ks w):=by
 go_enter func103,ntmps103
 go_wp2
 go_ret
 exact ⟨_,rfl,ae zR _⟩
def aG.new (m:ag):aG:=⟨m,false,-1,false⟩
def DQ (c:Nat) (m:ag) (F:Nat→Prop) (w:World) (e:Ending) (w':World):Prop := ∃ k G,e=.returned (.tuple #[.pointer (some ⟨k,0,none⟩),.int .i64 0])∧w.heap.size≤k∧bO (fun _=>False) w' k c (aG.new m) G∧(∀ b,G b→F b∨b=k)∧Below w.heap.size w w'
theorem AG (c:Nat) (m:ag) (F:Nat→Prop) (w:World) (h:aS w c m F):Calls prog 67 #[.pointer (some ⟨c,0,none⟩)] w (DQ c m F w):=by
 have HH:=zH h
 clear h
 go_enter func67,ntmps67
 go_wp2_with fail
 refine (p9 _).mono ?_
 rintro e w1 ⟨b1,rfl,hb1⟩
 go_wp2_with fail
 refine (p9 _).mono ?_
 rintro e w2 ⟨b2,rfl,hb2⟩
 have hb12:=gtr hb1 hb2
 have h2:=HH.out.aj hb12
 have hb3:Below w2.heap.size w2 (w2.alloc (.cells (mz.row ⟨c,0,0,0,some ⟨b1,0,none⟩,some ⟨b2,0,none⟩,0,false,-1,false,0,0,0,.slice none 0 0⟩) 141)):=ae zR _
 have h3:=h2.aj hb3
 have hr:fF (w2.alloc (.cells (mz.row ⟨c,0,0,0,some ⟨b1,0,none⟩,some ⟨b2,0,none⟩,0,false,-1,false,0,0,0,.slice none 0 0⟩) 141)) w2.heap.size ⟨c,0,0,0,some ⟨b1,0,none⟩,some ⟨b2,0,none⟩,0,false,-1,false,0,0,0,.slice none 0 0⟩:=af _ _
 have hC:bO (fun _=>False) (w2.alloc (.cells (mz.row ⟨c,0,0,0,some ⟨b1,0,none⟩,some ⟨b2,0,none⟩,0,false,-1,false,0,0,0,.slice none 0 0⟩) 141)) w2.heap.size c (aG.new m) (fun b=>F b∨b=w2.heap.size):=by
  refine ⟨_,F,rfl,hr,rfl,rfl,rfl,h3,⟨fun _ h=>h.elim,.inl ⟨rfl,rfl,rfl⟩⟩,fun hf => ?_,fun b hb=>.inl hb,.inr rfl,fun hl hf => ?_,fun b hb => ?_⟩
  ·
   have:=h2.lt _ hf;omega
  ·
   obtain ⟨q1,q2⟩:=h2.home hl
   rcases hf with hf | hf
   ·
    exact q2 hf
   ·
    have hf':m.home=w2.heap.size:=hf
    omega
  ·
   simp only [World.size_alloc]
   rcases hb with hb | hb
   ·
    have:=h2.lt b hb;omega
   ·
    omega
 have HX:=zH (zA hC (gtr hb12 hb3))
 have hsz:=hb12.size
 clear hC h3 hr hb3 h2 hb12 hb1 hb2
 go_wp2
 go_ret2
 exact ⟨_,_,rfl,hsz,HX.out.1,fun b hb=>hb,HX.out.2⟩
end
end Go.Proofs.YtcfdenckiigdaaaGreat

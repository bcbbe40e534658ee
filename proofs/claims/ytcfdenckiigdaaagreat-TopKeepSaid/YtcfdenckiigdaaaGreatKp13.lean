/- Part 13 of the contracts. -/
import Derived.Test.YtcfdenckiigdaaaGreatKp12
set_option linter.unusedVariables false
set_option maxRecDepth 100000
set_option maxHeartbeats 4000000
namespace Go.Proofs.YtcfdenckiigdaaaGreat
section
open Go.RowKit
def PhS (w:World) (b o:Nat) (p:Ph) (a:Option Addr) (c:Nat) (G:Nat→Prop):Prop:=qh4 w b o p a c ∧ ¬ G b ∧ ∀ b' o',a=some ⟨b',o',none⟩→0<p.bytes.length → ¬ G b'
theorem PhS.step {G G':Nat→Prop} {w w':World} {b o:Nat} {p:Ph} {a:Option Addr} {c:Nat} (h:PhS w b o p a c G) (st:Step G G' w w'):PhS w' b o p a c G':=by
 refine ⟨h.1.step st h.2.1 h.2.2,st.safe (World.block_lt_of_cell? w _ h.1.c0) h.2.1,fun b' o' e hl => ?_⟩
 obtain ⟨b2,o2,g1,g2⟩:=h.1.ints 0 hl
 rw [e] at g1
 obtain ⟨rfl,rfl⟩:b'=b2∧o'=o2:=by simpa using g1
 exact st.safe (World.block_lt_of_cell? w _ g2) (h.2.2 _ _ e hl)
theorem qll : ∀ (xs:List Int) (d:Drv),(Drv.row xs d).2.out=d.out
 | [],d=>rfl
 | x::r,d=>by
  unfold Drv.row
  split
  ·
   rfl
  ·
   exact qll r (d.tick x)
theorem qk4 (L:Int) : ∀ (k:Nat) (xs:List Int) (d:Drv),(Drv.hear L k xs d).2.2.out=d.out
 | 0,xs,d=>rfl
 | k+1,xs,d=>by
  unfold Drv.hear
  split
  ·
   rfl
  ·
   exact qk4 L k _ (d.tick 15)
theorem qn7 (b L:Int) (d:Drv):(Drv.put b L d).2.out=d.out:=qll _ _
theorem qrO (L:Int) (d:Drv):(Drv.get L d).2.out.length≤d.out.length+1:=by
 have h:=qk4 L (many L).toNat [] d
 unfold Drv.get Drv.got
 split
 ·
  show ((Drv.hear L (many L).toNat [] d).2.2.out++[_]).length≤_
  rw [h];simp
 ·
  show (Drv.hear L (many L).toNat [] d).2.2.out.length≤_
  rw [h];omega
theorem qmM (L b:Int) (r:List Int) (d:Drv) (h:(Drv.put b L d).1=false):Drv.puts L (b::r) d=(false,(Drv.put b L d).2):=by
 show (if (Drv.put b L d).1=true then _ else _)=_
 rw [if_neg (by rw [h];decide)]
theorem qn8 (L b:Int) (r:List Int) (d:Drv) (h:(Drv.put b L d).1=true):Drv.puts L (b::r) d=Drv.puts L r (Drv.put b L d).2:=by
 show (if (Drv.put b L d).1=true then _ else _)=_
 rw [if_pos h]
theorem qiI (L:Int) (k:Nat) (d:Drv) (h:(Drv.get L d).1=false):Drv.gets L (k+1) d=(false,(Drv.get L d).2):=by
 show (if (Drv.get L d).1=true then _ else _)=_
 rw [if_neg (by rw [h];decide)]
theorem qk3 (L:Int) (k:Nat) (d:Drv) (h:(Drv.get L d).1=true):Drv.gets L (k+1) d=Drv.gets L k (Drv.get L d).2:=by
 show (if (Drv.get L d).1=true then _ else _)=_
 rw [if_pos h]
theorem qrC (xs:List Int) (k:Nat) (hk:k<xs.length):xs.drop k=xs.getD k 0::xs.drop (k+1):=by
 rw [List.drop_eq_getElem_cons hk,show xs.getD k 0=xs[k] by simp [List.getD,List.getElem?_eq_getElem hk]]
theorem qtq {xs:List Int} (h:xs.all isByte=true) (k:Nat) (hk:k<xs.length):0≤xs.getD k 0∧xs.getD k 0<256:=by
 have:=List.all_eq_true.1 h xs[k] (List.getElem_mem hk)
 rw [show xs.getD k 0=xs[k] by simp [List.getD,List.getElem?_eq_getElem hk]]
 unfold isByte at this
 simpa using this
theorem qkP.parts {p:Ph} (ok:qkP p):p.bytes.length≤512∧(0<p.bytes.length→(p.lanes=1∨p.lanes=4)∧p.bytes.all isByte=true)∧0≤p.clocks∧p.clocks≤400∧0≤p.read∧p.read≤512∧(0<p.read→p.lanes=1∨p.lanes=4):=by
 rcases ok with ⟨h1,h2,h3,h4,h5,h6⟩ | ⟨h1,h2,h3,h4,h5⟩ | ⟨h1,h2,h3,h4,h5⟩
 ·
  exact ⟨h3,fun _=>⟨h1,h4⟩,by omega,by omega,by omega,by omega,fun _=>h1⟩
 ·
  exact ⟨by rw [h2];simp,fun hl=>by rw [h2] at hl;simp at hl,by omega,by omega,by omega,by omega,fun _=>h1⟩
 ·
  exact ⟨by rw [h2];simp,fun hl=>by rw [h2] at hl;simp at hl,by omega,by omega,by omega,by omega,fun hl=>by omega⟩
theorem qn1 (p c b o:Nat) (d:Drv) (G:Nat→Prop) (k:Nat) (ph:Ph) (a:Option Addr) (cp:Nat) (w:World) (h:qb6 w p c d G) (fit:d.Fit (qbp+k)) (hout:d.out.length≤90000) (ok:qkP ph) (hph:PhS w b o ph a cp G):Calls Tryz.prog 196 #[.pointer (some ⟨p,0,none⟩),.pointer (some ⟨b,o,none⟩)] w (qfz (Drv.phase ph d).1 p c (Drv.phase ph d).2 G w):=by
 obtain ⟨L,bs,cl,rd⟩:=ph
 obtain ⟨q1,q2,q3,q4,q5,q6,q7⟩:=ok.parts
 simp only at q1 q2 q3 q4 q5 q6 q7
 obtain ⟨C,rfl⟩:=Int.eq_ofNat_of_zero_le q3
 obtain ⟨R,rfl⟩:=Int.eq_ofNat_of_zero_le q5
 have HH:=zH h
 have HPH:=zH hph
 have HF:=zH (qaA fit (show 8 * bs.length+(8 * R+C+k)≤qbp+k by unfold qbp;omega))
 have HP:=zH (show Drv.phase ⟨L,bs,C,R⟩ d=andThen (Drv.puts L bs d) fun d1=>andThen (Drv.row (List.replicate C 15) d1) fun d2=>Drv.gets L R d2 from rfl)
 have HQ:=zH q2
 have HQ7:=zH q7
 have hc:=hph.1
 have e1:=hc.c1
 simp only at e1
 have HR0:=zH (show Drv.puts L bs d=Drv.puts L (bs.drop 0) d from rfl)
 have HO:=zH hout
 clear h hph fit q2 q3 q5 q7 ok hout hc
 generalize Drv.phase ⟨L,bs,C,R⟩ d=r at *
 obtain ⟨r1,hr1⟩ : ∃ r1,r1=Drv.puts L bs d:=⟨_,rfl⟩
 rw [← hr1] at HP HR0
 clear hr1
 go_enter Tryz.func196,Tryz.ntmps196
 go_wp2_with fail
 clear e1
 go_loopw [14] (fun i wr => ∃ (j:Nat) (dk:Drv) (Gk:Nat→Prop),j≤bs.length∧i=.int .i64 j∧qb6 wr p c dk Gk∧Step G Gk w wr∧dk.Fit (8 * (bs.length - j)+(8 * R+C+k))∧r1=Drv.puts L (bs.drop j) dk∧dk.out=d.out∧PhS wr b o ⟨L,bs,C,R⟩ a cp Gk) (fun i _=>bs.length - (intOf i).toNat)
 case atStart=>exact ⟨0,d,G,Nat.zero_le _,rfl,HH.out,Step.refl _ _,HF.out,HR0.out,rfl,HPH.out⟩
 case round =>
  obtain ⟨j,dk,Gk,hj,rfl,hD,hst,hf,hr,ho,hs⟩:=hrel
  by_cases hlt:j<bs.length
  ·
   obtain ⟨hL,hby⟩:=HQ.out (by omega)
   obtain ⟨b0,b1⟩:=qtq hby j hlt
   obtain ⟨bb,off,rfl,hcell⟩:=hs.1.ints j hlt
   have c0:wr.cell? ⟨b,o,none⟩=some (.int .i64 L):=hs.1.c0
   have hcell:wr.cell? ⟨bb,off+j,none⟩=some (.int .i64 (bs.getD j 0)):=hcell
   rw [qrC bs j hlt] at hr
   have hf':dk.Fit (8+(8 * (bs.length - (j+1))+(8 * R+C+k))):=qaA hf (by omega)
   have HPC:=zH (qss p c dk Gk (8 * (bs.length - (j+1))+(8 * R+C+k)) (bs.getD j 0) L wr hD hf' hL b0 b1)
   have HFF:=zH (qsu (bs.getD j 0) L dk _ hf')
   have HX:=zH (zA hst (zA hs (zA ((qn7 (bs.getD j 0) L dk).trans ho) hr)))
   have HS1:=zH (qmM L (bs.getD j 0) (bs.drop (j+1)) dk)
   have HS2:=zH (qn8 L (bs.getD j 0) (bs.drop (j+1)) dk)
   clear hD hst hf hr ho hs hf' hby hL
   generalize bs.getD j 0=x at *
   generalize Drv.put x L dk=rp at *
   obtain ⟨y,dn⟩:=rp
   simp only at HPC HFF HX HS1 HS2
   go_wp2_with fail
   refine HPC.out.mono ?_
   rintro e w2 ⟨rfl,G2,hD2,st2⟩
   have H2:=zH (zA hD2 st2)
   clear hD2 st2
   cases y with
   | false =>
    go_wp2_with fail
    go_ret
    rw [HP.out,HX.out.2.2.2,HS1.out (by trivial)]
    exact ⟨rfl,G2,H2.out.1,HX.out.1.trans H2.out.2⟩
   | true =>
    go_wp2_with fail
    go_roundw
    case rel=>exact ⟨j+1,dn,G2,by omega,by go_num,H2.out.1,HX.out.1.trans H2.out.2,HFF.out,HX.out.2.2.2.trans (HS2.out (by trivial)),HX.out.2.2.1,HX.out.2.1.step H2.out.2⟩
    case measure=>simp [intOf];omega
  ·
   obtain rfl:j=bs.length:=by omega
   rw [List.drop_of_length_le (Nat.le_refl _)] at hr
   have c2:wr.cell? ⟨b,o+2,none⟩=some (.int .i64 (C:Int)):=hs.1.c2
   have HX:=zH (zA hD (zA hst (zA hs ho)))
   have HF1:=zH (show dk.Fit (C - 0+(8 * R+k)) from qaA hf (by omega))
   rw [show r1=(true,dk) from hr] at HP
   have HP1:=zH (show r=andThen (Drv.row (List.replicate C 15) dk) fun d2=>Drv.gets L R d2 from HP.out)
   obtain ⟨r2,hr2⟩ : ∃ r2,r2=Drv.row (List.replicate C 15) dk:=⟨_,rfl⟩
   rw [← hr2] at HP1
   have HR2:=zH hr2
   clear hD hst hf hr ho hs HP HR0 HF HH HPH hr2
   go_wp2_with fail
   clear c2
   obtain ⟨wo,hwo⟩ : ∃ wo:World,wo=wr:=⟨_,rfl⟩
   go_loopw [31] (fun i wr2 => ∃ (j:Nat) (dj:Drv) (Gj:Nat→Prop),j≤C∧i=.int .i64 j∧qb6 wr2 p c dj Gj∧Step G Gj w wr2∧dj.Fit (C - j+(8 * R+k))∧r2=Drv.row (List.replicate (C - j) 15) dj∧dj.out=d.out∧PhS wr2 b o ⟨L,bs,C,R⟩ a cp Gj) (fun i _=>C - (intOf i).toNat)
   case atStart=>exact ⟨0,dk,Gk,Nat.zero_le _,rfl,HX.out.1,HX.out.2.1,HF1.out,HR2.out,HX.out.2.2.2,HX.out.2.2.1⟩
   case round =>
    obtain ⟨j,dj,Gj,hj,rfl,hD,hst,hf,hr,ho,hs⟩:=hrel
    by_cases hlt2:j<C
    ·
     rw [show C - j=(C - (j+1))+1 by omega,List.replicate_succ] at hr
     have hf':dj.Fit (C - (j+1)+(8 * R+k)+1):=qaA hf (by omega)
     have HX2:=zH (zA hst (zA hs (zA ho (zA hr hf'))))
     have HDD:=zH hD
     clear hst hs ho hr hf hD
     cases hstop:dj.stop with
     | true =>
      have HT:=zH (qeS p c dj Gj 15 _ HDD.out hstop)
      have HE:=zH (qhS 15 (List.replicate (C - (j+1)) 15) dj hstop)
      clear hstop hf'
      go_wp2_with fail
      refine HT.out.mono ?_
      rintro e w2 ⟨rfl,G2,hD2,st2⟩
      have H2:=zH (zA hD2 st2)
      clear hD2 st2
      go_wp2_with fail
      go_ret
      rw [HP1.out,HX2.out.2.2.2.1,HE.out]
      exact ⟨rfl,G2,H2.out.1,HX2.out.1.trans H2.out.2⟩
     | false =>
      have HT:=zH (qjo p c dj Gj _ 15 _ HDD.out hf' hstop (by decide) (by decide))
      have HE:=zH (qmR 15 (List.replicate (C - (j+1)) 15) dj hstop)
      clear hstop hf'
      go_wp2_with fail
      refine HT.out.mono ?_
      rintro e w2 ⟨rfl,G2,hD2,st2⟩
      have H2:=zH (zA hD2 st2)
      clear hD2 st2
      go_wp2_with fail
      go_roundw
      case rel=>exact ⟨j+1,dj.tick 15,G2,by omega,by go_num,H2.out.1,HX2.out.1.trans H2.out.2,qea HX2.out.2.2.2.2 15,HX2.out.2.2.2.1.trans HE.out,HX2.out.2.2.1,HX2.out.2.1.step H2.out.2⟩
      case measure=>simp [intOf];omega
    ·
     obtain rfl:C=j:=by omega
     rw [Nat.sub_self] at hr
     have c3:_=some (Value.int .i64 (R:Int)):=hs.1.c3
     have HY:=zH (zA hD (zA hst (zA hs ho)))
     have HF2:=zH (show dj.Fit (8 * (R - 0)+k) from qaA hf (by omega))
     rw [show r2=(true,dj) from hr] at HP1
     have HP2:=zH (show r=Drv.gets L R dj from HP1.out)
     clear hD hst hf hr ho hs HP1 HR2
     go_wp2_with fail
     clear c3
     go_loopw [45] (fun i wr3 => ∃ (j:Nat) (dm:Drv) (Gm:Nat→Prop),j≤R∧i=.int .i64 j∧qb6 wr3 p c dm Gm∧Step G Gm w wr3∧dm.Fit (8 * (R - j)+k)∧r=Drv.gets L (R - j) dm∧dm.out.length≤d.out.length+j∧PhS wr3 b o ⟨L,bs,C,R⟩ a cp Gm) (fun i _=>R - (intOf i).toNat)
     case atStart=>exact ⟨0,dj,Gj,Nat.zero_le _,rfl,HY.out.1,HY.out.2.1,HF2.out,HP2.out,by rw [HY.out.2.2.2];exact Nat.le_refl _,HY.out.2.2.1⟩
     case round =>
      obtain ⟨j,dm,Gm,hj,rfl,hD,hst,hf,hr,ho,hs⟩:=hrel
      by_cases hlt3:j<R
      ·
       have hL:=HQ7.out (by omega)
       have c0:_=some (Value.int .i64 L):=hs.1.c0
       rw [show R - j=(R - (j+1))+1 by omega] at hr
       have hf':dm.Fit (8+(8 * (R - (j+1))+k)):=qaA hf (by omega)
       have hdo:=HO.out
       have HGC:=zH (qrL p c dm Gm (8 * (R - (j+1))+k) L _ hD hf' hL (by omega))
       have HFF:=zH (qrM L dm _ hf')
       have hgo:=qrO L dm
       have HX3:=zH (zA hst (zA hs (zA (show (Drv.get L dm).2.out.length≤d.out.length+(j+1) by omega) hr)))
       have HS1:=zH (qiI L (R - (j+1)) dm)
       have HS2:=zH (qk3 L (R - (j+1)) dm)
       clear hD hst hf hr ho hs hf' hL hgo
       generalize Drv.get L dm=rp at *
       obtain ⟨y,dn⟩:=rp
       simp only at HGC HFF HX3 HS1 HS2
       go_wp2_with fail
       refine HGC.out.mono ?_
       rintro e w2 ⟨rfl,G2,hD2,st2⟩
       have H2:=zH (zA hD2 st2)
       clear hD2 st2
       cases y with
       | false =>
        go_wp2_with fail
        go_ret
        rw [HX3.out.2.2.2,HS1.out (by trivial)]
        exact ⟨rfl,G2,H2.out.1,HX3.out.1.trans H2.out.2⟩
       | true =>
        go_wp2_with fail
        go_roundw
        case rel=>exact ⟨j+1,dn,G2,by omega,by go_num,H2.out.1,HX3.out.1.trans H2.out.2,HFF.out,HX3.out.2.2.2.trans (HS2.out (by trivial)),HX3.out.2.2.1,HX3.out.2.1.step H2.out.2⟩
        case measure=>simp [intOf];omega
      ·
       obtain rfl:R=j:=by omega
       rw [Nat.sub_self] at hr
       have HX3:=zH (zA hD (zA hst hr))
       clear hD hst hf hr ho hs
       go_wp2_with fail
       go_ret
       rw [show r=(true,dm) from HX3.out.2.2]
       exact ⟨rfl,Gm,HX3.out.1,HX3.out.2.1⟩
theorem qlg (L:Int) : ∀ (bs:List Int) (d:Drv),(Drv.puts L bs d).2.out=d.out
 | [],d=>rfl
 | b::r,d=>by
  unfold Drv.puts
  split
  ·
   exact (qlg L r _).trans (qn7 b L d)
  ·
   exact qn7 b L d
theorem qoS (L:Int) : ∀ (k:Nat) (d:Drv),(Drv.gets L k d).2.out.length≤d.out.length+k
 | 0,d=>Nat.le_refl _
 | k+1,d=>by
  have h:=qrO L d
  unfold Drv.gets
  split
  ·
   have:=qoS L k (Drv.get L d).2;omega
  ·
   show (Drv.get L d).2.out.length≤_;omega
theorem qsq (p:Ph) (ok:qkP p) (d:Drv):(Drv.phase p d).2.out.length≤d.out.length+512:=by
 obtain ⟨q1,q2,q3,q4,q5,q6,q7⟩:=ok.parts
 have h1:=qlg p.lanes p.bytes d
 unfold Drv.phase andThen
 dsimp only
 split
 ·
  have h2:=qll (List.replicate p.clocks.toNat 15) (Drv.puts p.lanes p.bytes d).2
  split
  ·
   have h3:=qoS p.lanes p.read.toNat (Drv.row (List.replicate p.clocks.toNat 15) (Drv.puts p.lanes p.bytes d).2).2
   rw [h2,h1] at h3
   omega
  ·
   show (Drv.row (List.replicate p.clocks.toNat 15) (Drv.puts p.lanes p.bytes d).2).2.out.length≤_
   rw [h2,h1];omega
 ·
  show (Drv.puts p.lanes p.bytes d).2.out.length≤_
  rw [h1];omega
end
section
open Go.RowKit
theorem qbM.free {w:World} {b o:Nat} {ps:List Ph} {G:Nat→Prop} (h:qbM w b o ps G):qbM w b o ps (fun _=>False) :=
 ⟨fun _ h=>h,fun i hi=>let ⟨a,c,h1,_⟩:=h.ph i hi;⟨a,c,h1,fun _ _ _ _ h=>h⟩⟩
theorem qbM.at {w:World} {b o:Nat} {ps:List Ph} {G:Nat→Prop} (h:qbM w b o ps G) (i:Nat) (hi:i<ps.length) : ∃ a c,PhS w b (o+i * 4) (ps.getD i Ph.none) a c G:=by
 obtain ⟨a,c,h1,h2⟩:=h.ph i hi
 exact ⟨a,c,h1,h.far (Nat.lt_of_le_of_lt (Nat.zero_le _) hi),h2⟩
theorem qn2 (ps:List Ph) (k:Nat) (hk:k<ps.length) (d:Drv):Drv.phases (ps.drop k) d=andThen (Drv.phase (ps.getD k Ph.none) d) (Drv.phases (ps.drop (k+1))):=by
 rw [List.drop_eq_getElem_cons hk,show ps.getD k Ph.none=ps[k] by simp [List.getD,List.getElem?_eq_getElem hk]]
 rfl
theorem qdB (m:qae):m.behind.sel=m.sel:=by
 unfold qae.behind;split;rfl;split;rfl;split;rfl;split <;> rfl
theorem qj3 (m:qae) (b:Int):(m.begins b).sel=m.sel:=by
 unfold qae.begins;split;rfl;split;rfl;exact qdB _
theorem qqI (m:qae):m.select.sel=true:=by
 unfold qae.select;split;exact qj3 _ _;rfl
theorem qum (m:qae) (x:Int):(m.step x).2.sel=m.sel:=by
 unfold qae.step
 split
 ·
  unfold qae.step0;split;exact qj3 _ _;rfl
 split
 ·
  unfold qae.step2;split;exact qdB _;rfl
 split
 ·
  unfold qae.step3;split;exact qdB _;rfl
 split
 ·
  unfold qae.step4;split;exact qdB _;rfl
 split
 ·
  unfold qae.step5;split;exact qdB _;rfl
 split
 ·
  unfold qae.says qae.next;split <;> rfl
 split <;> rfl
theorem ql0 (m:qae) (x:Int):(m.clock x).2.sel=m.sel:=by
 obtain ⟨_,_,_,_,_,_,_,_,_,_,_,es,_⟩:=qhM m
 unfold qae.clock
 split
 ·
  exact (qum _ _).trans es
 ·
  exact es
theorem qjd : ∀ (xs:List Int) (d:Drv),(Drv.row xs d).2.chip.sel=d.chip.sel
 | [],d=>rfl
 | x::r,d=>by
  unfold Drv.row
  split
  ·
   rfl
  ·
   exact (qjd r (d.tick x)).trans (ql0 _ _)
theorem qoZ (L:Int) : ∀ (k:Nat) (xs:List Int) (d:Drv),(Drv.hear L k xs d).2.2.chip.sel=d.chip.sel
 | 0,xs,d=>rfl
 | k+1,xs,d=>by
  unfold Drv.hear
  split
  ·
   rfl
  ·
   exact (qoZ L k _ (d.tick 15)).trans (ql0 _ _)
theorem qrP (L:Int) (d:Drv):(Drv.get L d).2.chip.sel=d.chip.sel:=by
 have h:=qoZ L (many L).toNat [] d
 unfold Drv.get Drv.got
 split <;> exact h
theorem qhP (L:Int) : ∀ (bs:List Int) (d:Drv),(Drv.puts L bs d).2.chip.sel=d.chip.sel
 | [],d=>rfl
 | b::r,d=>by
  unfold Drv.puts
  split
  ·
   exact (qhP L r _).trans (qjd _ _)
  ·
   exact qjd _ _
theorem qoT (L:Int) : ∀ (k:Nat) (d:Drv),(Drv.gets L k d).2.chip.sel=d.chip.sel
 | 0,d=>rfl
 | k+1,d=>by
  unfold Drv.gets
  split
  ·
   exact (qoT L k _).trans (qrP L d)
  ·
   exact qrP L d
theorem qmI (p:Ph) (d:Drv):(Drv.phase p d).2.chip.sel=d.chip.sel:=by
 unfold Drv.phase andThen
 dsimp only
 split
 ·
  split
  ·
   exact (qoT _ _ _).trans ((qjd _ _).trans (qhP _ _ _))
  ·
   exact (qjd _ _).trans (qhP _ _ _)
 ·
  exact qhP _ _ _
theorem qkr : ∀ (ps:List Ph) (d:Drv),(Drv.phases ps d).2.chip.sel=d.chip.sel
 | [],d=>rfl
 | p::r,d=>by
  unfold Drv.phases andThen
  split
  ·
   exact (qkr r _).trans (qmI p d)
  ·
   exact qmI p d
def Drv.new (m:qae) (most:Int):Drv:=⟨m.select,[],0,most⟩
def driven (m:qae) (ps:List Ph) (most:Int):Bool×Drv:=Drv.phases ps (Drv.new m most)
def qax (r:Bool×Drv):qae:=if r.1=true then r.2.chip.deselect else r.2.chip
theorem ql7 {w w1 w':World} {p c:Nat} {d:Drv} {F G':Nat→Prop} (h:qb6 w' p c d G') (st:Step (fun b=>F b∨b=p) G' w1 w') (t:Touch F w w1) (hp:w.heap.size≤p) : ∃ (F':Nat→Prop) (ov:Value),w'.heap[p]? = some (.cells #[.pointer (some ⟨c,0,none⟩),ov,.int .i64 (d.n:Int),.int .i64 d.most] 291 (0,0))∧qan w' c d.chip F'∧w'.ownsRow 0 3 1 ov d.out.length (intVals d.out) ∧ ¬ F' p∧(∀ g,ov.ownBlock=some g → ¬ F' g∧w.heap.size≤g)∧Step F F' w w':=by
 obtain ⟨F',ov,h1,h2,h3,h4,h5,h6,h7,h8,_⟩:=h.ex
 refine ⟨F',ov,h1,h2,h3,h4,fun g hg=>⟨h5 g hg,Nat.le_trans hp (h8 g hg).2⟩,t.then st.touch (fun b hb=>hb.elim .inl (fun e=>.inr (by rw [e];exact hp))),fun b hb => ?_⟩
 rcases st.foot b (h6 b hb) with hf | hf
 ·
  exact hf.elim .inl (fun e=>.inr (by rw [e];exact hp))
 ·
  exact .inr (Nat.le_trans t.size hf)
def qq1 (r:Bool×Drv) (c:Nat) (F:Nat→Prop) (w:World) (e:Ending) (w':World):Prop :=
 ∃ (a:Option Addr) (cp:Nat) (F':Nat→Prop),e=.returned (.tuple #[.slice a r.2.out.length cp,.int .i64 (r.2.n:Int),.bool r.1,.int .i64 0])∧qan w' c (qax r) F'∧qak w' a r.2.out F'∧Step F F' w w' ∧ ∀ b o,a=some ⟨b,o,none⟩→w.heap.size≤b
theorem qpc {w:World} {v:Value} {xs:List Int} {F:Nat→Prop} {B:Nat} (h:w.ownsRow 0 3 1 v xs.length (intVals xs)) (hn : ∀ g,v.ownBlock=some g → ¬ F g∧B≤g) : ∃ a cp,v=.slice a xs.length cp∧qak w a xs F ∧ ∀ b o,a=some ⟨b,o,none⟩→B≤b:=by
 obtain ⟨a,cp,hv,hi⟩:=(qar.of_own h).ints
 refine ⟨a,cp,hv,⟨hi,fun b o e hl hf=>(hn b ?_).1 hf⟩,fun b o e=>(hn b ?_).2⟩
 ·
  rw [hv,e];rfl
 ·
  rw [hv,e];rfl
theorem qnz (c b o cap:Nat) (m:qae) (F:Nat→Prop) (ps:List Ph) (most:Int) (w:World) (h:qan w c m F) (ok:m.Ok) (hsel:m.sel=false) (hph:qbM w b o ps F) (hps : ∀ i,i<ps.length→qkP (ps.getD i Ph.none)) (hl:ps.length≤100):Calls Tryz.prog 184 #[.pointer (some ⟨c,0,none⟩),.slice (some ⟨b,o,none⟩) ps.length cap,.int .i64 most] w (qq1 (driven m ps most) c F w):=by
 have HC:=zH (qhC b o cap ps w hph.free hps hl)
 have HS:=zH (fun (w1:World) (hb:Below w.heap.size w w1)=>qhx c m F w1 (h.later hb) hsel)
 have HPH:=zH (fun (w1:World) (hb:Below w.heap.size w w1)=>hph.step (Step.of_below (F:=F) hb))
 have HOK:=zH hps
 have HFIT:=zH (show (Drv.new m most).Fit (qbp * ps.length) from ⟨qkz ok 0,by show 0+qbp * ps.length<_;unfold qbp;omega⟩)
 have HD:=zH (show driven m ps most=Drv.phases (ps.drop 0) (Drv.new m most) from rfl)
 have HSEL:=zH (show (driven m ps most).2.chip.sel=true from (qkr ps (Drv.new m most)).trans (qqI m))
 clear h ok hsel hph hps
 go_enter Tryz.func184,Tryz.ntmps184
 go_wp2_with fail
 refine HC.out.mono ?_
 rintro e w1 ⟨z,rfl,hb1⟩
 have HS1:=zH (HS.out w1 hb1)
 have H1:=zH (zA hb1 (HPH.out w1 hb1))
 clear hb1 HS HPH HC
 go_wp2_with fail
 refine HS1.out.mono ?_
 rintro e w2 ⟨rfl,h2,t2⟩
 have hcF:F c:=by obtain ⟨s,hr⟩:=h2.open;exact hr.own
 have T2:Touch F w w2:=(Touch.of_below H1.out.1).trans (t2.mono fun b e=>by rw [show b=c from e];exact hcF)
 have hph2:qbM w2 b o ps F:=H1.out.2.step (Step.of_touch (t2.mono fun b e=>by rw [show b=c from e];exact hcF))
 have hlt2:=h2.lt
 have hsel:m.select=(Drv.new m most).chip:=rfl
 rw [hsel] at h2
 have H2:=zH h2
 have HT2:=zH T2
 have HP2:=zH hph2
 have HLT2:=zH hlt2
 have HHM:=zH (fun hl=>h2.home hl)
 have HO0:=zH (show (Drv.new m most).out=[]∧(Drv.new m most).n=0∧(Drv.new m most).most=most from ⟨rfl,rfl,rfl⟩)
 clear h2 t2 T2 hph2 hlt2 hcF hsel HS1 H1
 generalize Drv.new m most=d at *
 generalize driven m ps most=r at *
 obtain ⟨p,hp⟩ : ∃ p,w2.heap.size=p:=⟨_,rfl⟩
 have hpw:w.heap.size≤p:=by rw [← hp];exact HT2.out.size
 have hb3:Below w2.heap.size w2 (w2.alloc (.cells #[.pointer (some ⟨c,0,none⟩),.slice none 0 0,.int .i64 0,.int .i64 most] 291)):=qac (Below.refl _ _) _
 have hD0:qb6 (w2.alloc (.cells #[.pointer (some ⟨c,0,none⟩),.slice none 0 0,.int .i64 0,.int .i64 most] 291)) p c d (fun b=>F b∨b=p):=by
  obtain ⟨e1,e2,e3⟩:=HO0.out
  refine ⟨⟨F,.slice none 0 0,?_,H2.out.later hb3,?_,?_,(fun g e=>by cases e),fun b hb=>.inl hb,.inr rfl,(fun g e=>by cases e),fun hl hf => ?_⟩,fun b hb => ?_⟩
  ·
   rw [← hp,qad,e2,e3];rfl
  ·
   rw [e1];exact World.ownsRow_nil _ _ _ _
  ·
   intro hf;have:=HLT2.out p hf;omega
  ·
   obtain ⟨g1,g2⟩:=HHM.out hl
   rcases hf with hf | hf
   ·
    exact g2 hf
   ·
    have hf':d.chip.home=p:=hf
    omega
  ·
   simp only [World.size_alloc]
   rcases hb with hb | hb
   ·
    have:=HLT2.out b hb;omega
   ·
    omega
 have hP0:qbM (w2.alloc (.cells #[.pointer (some ⟨c,0,none⟩),.slice none 0 0,.int .i64 0,.int .i64 most] 291)) b o ps (fun b=>F b∨b=p) :=
  HP2.out.step ⟨Touch.of_below hb3,fun x hx=>hx.elim .inl (fun e=>.inr (by rw [e,hp];exact Nat.le_refl _))⟩
 have hT0:Touch F w (w2.alloc (.cells #[.pointer (some ⟨c,0,none⟩),.slice none 0 0,.int .i64 0,.int .i64 most] 291)):=HT2.out.trans (Touch.of_below hb3)
 have HD0:=zH hD0
 have HP0:=zH hP0
 have HT0:=zH hT0
 clear hD0 hP0 hT0 hb3 HP2 HT2 H2 HLT2 HHM
 go_wp2_with fail
 generalize w2.alloc (.cells #[.pointer (some ⟨c,0,none⟩),.slice none 0 0,.int .i64 0,.int .i64 most] 291)=w3 at *
 have HPW:=zH hpw
 clear hp hpw
 go_loopw [34] (fun i wr => ∃ (j:Nat) (dk:Drv) (Gk:Nat→Prop),j≤ps.length∧i=.int .i64 j∧qb6 wr p c dk Gk∧Step (fun b=>F b∨b=p) Gk w3 wr∧dk.Fit (qbp * (ps.length - j))∧r=Drv.phases (ps.drop j) dk∧dk.out.length≤512 * j∧qbM wr b o ps Gk) (fun i _=>ps.length - (intOf i).toNat)
 case atStart=>exact ⟨0,d,_,Nat.zero_le _,rfl,HD0.out,Step.refl _ _,HFIT.out,HD.out,by rw [HO0.out.1];simp,HP0.out⟩
 case round =>
  obtain ⟨j,dk,Gk,hj,rfl,hD,hst,hf,hr,ho,hs⟩:=hrel
  by_cases hlt:j<ps.length
  ·
   obtain ⟨a,cp,hS⟩:=hs.at j hlt
   have hf':dk.Fit (qbp+qbp * (ps.length - (j+1))):=qaA hf (by
    have:ps.length - j=(ps.length - (j+1))+1:=by omega
    rw [this,Nat.mul_add];omega)
   have hpo:=HOK.out j hlt
   have HPC:=zH (qn1 p c b (o+j * 4) dk Gk (qbp * (ps.length - (j+1))) (ps.getD j Ph.none) a cp wr hD hf' (by omega) hpo hS)
   have HFF:=zH (qmG (ps.getD j Ph.none) hpo dk _ hf')
   have hou:=qsq (ps.getD j Ph.none) hpo dk
   rw [qn2 ps j hlt] at hr
   have HX:=zH (zA hst (zA hs (zA (show (Drv.phase (ps.getD j Ph.none) dk).2.out.length≤512 * (j+1) by omega) hr)))
   clear hD hst hf hr ho hs hf' hpo hou hS
   generalize Drv.phase (ps.getD j Ph.none) dk=rp at *
   obtain ⟨y,dn⟩:=rp
   simp only at HPC HFF HX
   go_wp2_with fail
   refine HPC.out.mono ?_
   rintro e w4 ⟨rfl,G2,hD2,st2⟩
   have hst4:=HX.out.1.trans st2
   have H2:=zH (zA hD2 (zA hst4 st2))
   clear hst4
   cases y with
   | false =>
    obtain ⟨F',ov,q1,q2,q3,q4,q5,q6⟩:=ql7 hD2 (HX.out.1.trans st2) HT0.out HPW.out
    have c1:w4.cell? ⟨p,1,none⟩=some ov:=qaa q1 1
    have c2:w4.cell? ⟨p,2,none⟩=some (.int .i64 (dn.n:Int)):=qaa q1 2
    obtain ⟨a',cp',rfl,hsf,hnew⟩:=qpc q3 q5
    have HQ:=zH (zA q2 (zA hsf q6))
    have HNEW:=zH hnew
    clear q1 q2 q3 q4 q5 q6 hsf hD2 st2 hnew
    have hb4:Below w4.heap.size w4 w4.drew:=qai (Below.refl _ _)
    have HR:=zH (show r=(false,dn) from HX.out.2.2.2)
    go_wp2_with fail
    go_quiet (fail)
    go_wp2_with fail
    refine bodyPost_ret (v:=.tuple #[.slice a' dn.out.length cp',.int .i64 (dn.n:Int),.bool false,.int .i64 0]) (by simp [results,Tryz.results184,go_sem]) rfl ?_
    rw [HR.out]
    exact ⟨a',cp',F',rfl,HQ.out.1.later (qao (Below.refl _ _) _),HQ.out.2.1.step (Step.of_below (qao (Below.refl _ _) _)),HQ.out.2.2.trans (Step.of_below (qao (Below.refl _ _) _)),HNEW.out⟩
   | true =>
    clear hD2 st2
    go_wp2_with fail
    go_roundw
    case rel=>exact ⟨j+1,dn,G2,by omega,by go_num,H2.out.1,H2.out.2.1,HFF.out,HX.out.2.2.2,HX.out.2.2.1,HX.out.2.1.step H2.out.2.2⟩
    case measure=>simp [intOf];omega
  ·
   obtain rfl:j=ps.length:=by omega
   rw [List.drop_of_length_le (Nat.le_refl _)] at hr
   obtain ⟨F',ov,q1,q2,q3,q4,q5,q6⟩:=ql7 hD hst HT0.out HPW.out
   obtain ⟨a',cp',rfl,hsf,hnew⟩:=qpc q3 q5
   have hr2:r=(true,dk):=hr
   have HDS:=zH (qil c dk.chip F' wr q2 hf.chip.base.ok (by have:=HSEL.out;rw [hr2] at this;exact this))
   have HR:=zH hr2
   have HQ:=zH (zA q1 (zA q4 (zA hsf q6)))
   have HNEW:=zH hnew
   clear hD hst hf hr ho hs hr2 q1 q2 q3 q4 q5 q6 hsf hnew
   go_wp2_with fail
   refine HDS.out.mono ?_
   rintro e w5 ⟨rfl,F5,h5,st5⟩
   have hp5:=st5.touch.at HQ.out.1 HQ.out.2.1
   have c1:w5.cell? ⟨p,1,none⟩=some (.slice a' dk.out.length cp'):=qaa hp5 1
   have c2:w5.cell? ⟨p,2,none⟩=some (.int .i64 (dk.n:Int)):=qaa hp5 2
   have H5:=zH (zA h5 (zA (HQ.out.2.2.1.step st5) (HQ.out.2.2.2.trans st5)))
   clear h5 st5 hp5
   go_wp2_with fail
   go_quiet (fail)
   go_wp2_with fail
   refine bodyPost_ret (v:=.tuple #[.slice a' dk.out.length cp',.int .i64 (dk.n:Int),.bool true,.int .i64 0]) (by simp [results,Tryz.results184,go_sem]) rfl ?_
   rw [HR.out]
   exact ⟨a',cp',F5,rfl,H5.out.1.later (qao (Below.refl _ _) _),H5.out.2.1.step (Step.of_below (qao (Below.refl _ _) _)),H5.out.2.2.trans (Step.of_below (qao (Below.refl _ _) _)),HNEW.out⟩
end
section
open Go.RowKit
variable {X:Nat→Prop}
structure Ctl where
 chip:qae
 goes:Bool
 left:Int
 lost:Bool
structure qjY where
 c:Nat
 r0:Int
 r1:Int
 r2:Int
 po:Option Addr
 pi:Option Addr
 cl:Int
 goes:Bool
 left:Int
 lost:Bool
 o0:Int
 o1:Int
 o2:Int
 lv:Value
def qjY.row (s:qjY):Array Value := #[.pointer (some ⟨s.c,0,none⟩),.int .i64 s.r0,.int .i64 s.r1,.int .i64 s.r2,.pointer s.po,.pointer s.pi,.int .i64 s.cl,.bool s.goes,.int .i64 s.left,.bool s.lost,.int .u32 s.o0,.int .i32 s.o1,.int .u32 s.o2,s.lv]
def qbX (w:World) (k:Nat) (s:qjY):Prop:=w.heap[k]? = some (.cells s.row 141 (0,0))
def leavePh:Ph:=⟨4,[0,0,0,0],0,0⟩
def qh2 (X:Nat→Prop) (w:World) (s:qjY) (G:Nat→Prop):Prop :=
 (∀ i,X i→i<w.heap.size)∧((s.o0=0∧s.o1=0∧s.o2=0)∨(s.o0=1∧s.o1=0∧s.o2=0 ∧ ∃ b,s.lv=.slice (some ⟨b,0,none⟩) 1 1∧qbM w b 0 [leavePh] (fun i=>G i∨X i)))
theorem Step.cup {G G' Y:Nat→Prop} {w w':World} (st:Step G G' w w'):Step (fun i=>G i∨Y i) (fun i=>G' i∨Y i) w w' :=
 ⟨st.touch.mono fun _ h=>.inl h,fun i h=>h.elim (fun h=>(st.foot i h).imp .inl id) (fun h=>.inl (.inr h))⟩
theorem qh2.step {w w':World} {s:qjY} {G G':Nat→Prop} (h:qh2 X w s G) (st:Step G G' w w'):qh2 X w' s G':=by
 refine ⟨fun i hi=>Nat.lt_of_lt_of_le (h.1 i hi) st.touch.size,?_⟩
 rcases h.2 with h | ⟨h0,h1,h2,b,e,h3⟩
 ·
  exact .inl h
 ·
  exact .inr ⟨h0,h1,h2,b,e,h3.step st.cup⟩
theorem qbM.sub {w:World} {b o:Nat} {ps:List Ph} {F G:Nat→Prop} (h:qbM w b o ps G) (hs : ∀ b,F b→G b):qbM w b o ps F :=
 ⟨fun hl hf=>h.far hl (hs _ hf),fun i hi=>by
  obtain ⟨a,c,h1,h2⟩:=h.ph i hi
  exact ⟨a,c,h1,fun b' o' e hl hf=>h2 b' o' e hl (hs _ hf)⟩⟩
structure qek (X:Nat→Prop) (w:World) (k:Nat) (s:qjY) (m:Ctl) (F G:Nat→Prop):Prop where
 raw:qbX w k s
 goes:s.goes=m.goes
 left:s.left=m.left
 lost:s.lost=m.lost
 chip:qan w s.c m.chip F
 leave:qh2 X w s G
 far : ¬ F k
 sub : ∀ b,F b→G b
 own:G k
 home:0<m.chip.busy.length → ¬ G m.chip.home
 lt : ∀ b,G b→b<w.heap.size
def qaL (X:Nat→Prop) (w:World) (k c:Nat) (m:Ctl) (G:Nat→Prop):Prop := ∃ s F,s.c=c∧qek X w k s m F G
theorem qek.later {w w':World} {k:Nat} {s:qjY} {m:Ctl} {F G:Nat→Prop} (h:qek X w k s m F G) (hb:Below w.heap.size w w'):qek X w' k s m F G :=
 ⟨qab hb h.raw,h.goes,h.left,h.lost,h.chip.later hb,h.leave.step (Step.of_below hb),h.far,h.sub,h.own,h.home,fun b hb'=>Nat.lt_of_lt_of_le (h.lt b hb') hb.size⟩
theorem qaL.later {w w':World} {k c:Nat} {m:Ctl} {G:Nat→Prop} (h:qaL X w k c m G) (hb:Below w.heap.size w w'):qaL X w' k c m G:=by
 obtain ⟨s,F,e,h⟩:=h
 exact ⟨s,F,e,h.later hb⟩
theorem qaL.lt {w:World} {k c:Nat} {m:Ctl} {G:Nat→Prop} (h:qaL X w k c m G) : ∀ b,G b→b<w.heap.size:=by
 obtain ⟨s,F,e,h⟩:=h
 exact h.lt
theorem qek.block {w w':World} {k:Nat} {s s':qjY} {m m':Ctl} {F G:Nat→Prop} (h:qek X w k s m F G) (g:qbX w' k s') (t:Touch (Only k) w w') (ec:s'.c=s.c) (e1:s'.goes=m'.goes) (e2:s'.left=m'.left) (e3:s'.lost=m'.lost) (e4:m'.chip=m.chip) (e5:s'.o0=s.o0) (e6:s'.o1=s.o1) (e7:s'.o2=s.o2) (e8:s'.lv=s.lv):qek X w' k s' m' F G:=by
 have hG : ∀ b,Only k b→G b:=fun b e=>by rw [show b=k from e];exact h.own
 refine ⟨g,e1,e2,e3,?_,?_,h.far,h.sub,h.own,by rw [e4];exact h.home,fun b hb=>Nat.lt_of_lt_of_le (h.lt b hb) t.size⟩
 ·
  rw [ec,e4]
  exact h.chip.far t (fun b hb e=>h.far (by rw [← show b=k from e];exact hb)) (fun hl e=>h.home hl (by rw [show m.chip.home=k from e];exact h.own))
 ·
  have:=h.leave.step (Step.of_touch (t.mono hG))
  unfold qh2 at this ⊢
  rw [e5,e6,e7,e8];exact this
theorem qek.step {w w':World} {k:Nat} {s:qjY} {m:Ctl} {F G:Nat→Prop} (h:qek X w k s m F G) (t:Touch (Only k) w w'):Step G G w w':=Step.of_touch (t.mono fun b e=>by rw [show b=k from e];exact h.own)
def Ctl.stateE (m:Ctl):Int:=if m.lost=true then 1101 else 0
theorem qdh (k c:Nat) (m:Ctl) (G:Nat→Prop) (w:World) (h:qaL X w k c m G):Calls Tryz.prog 153 #[.pointer (some ⟨k,0,none⟩)] w fun e w'=>e=.returned (.int .i64 m.stateE)∧w=w':=by
 obtain ⟨s,F,rfl,h⟩:=h
 have c9:w.cell? ⟨k,9,none⟩=some (.bool m.lost):=by rw [← h.lost];exact qaa h.raw 9
 clear h
 unfold Ctl.stateE
 cases hl:m.lost with
 | true =>
  rw [hl] at c9
  clear hl
  go_enter Tryz.func153,Tryz.ntmps153
  go_wp2
  go_ret
  exact ⟨rfl,rfl⟩
 | false =>
  rw [hl] at c9
  clear hl
  go_enter Tryz.func153,Tryz.ntmps153
  go_wp2
  go_ret
  exact ⟨rfl,rfl⟩
theorem qkW (k c:Nat) (m:Ctl) (G:Nat→Prop) (w:World) (h:qaL X w k c m G):Calls Tryz.prog 33 #[.pointer (some ⟨k,0,none⟩)] w fun e w'=>e=.returned (.bool m.lost)∧w=w':=by
 obtain ⟨s,F,rfl,h⟩:=h
 have c9:w.cell? ⟨k,9,none⟩=some (.bool m.lost):=by rw [← h.lost];exact qaa h.raw 9
 clear h
 go_enter Tryz.func33,Tryz.ntmps33
 go_wp2
 go_ret
 exact ⟨rfl,rfl⟩
theorem qis (k c:Nat) (m:Ctl) (G:Nat→Prop) (w:World) (h:qaL X w k c m G):Calls Tryz.prog 66 #[.pointer (some ⟨k,0,none⟩)] w fun e w' => ∃ z:Int,e=.returned (.int .i64 z)∧w=w':=by
 obtain ⟨s,F,rfl,h⟩:=h
 have c6:w.cell? ⟨k,6,none⟩=some (.int .i64 s.cl):=qaa h.raw 6
 clear h
 go_enter Tryz.func66,Tryz.ntmps66
 go_wp2
 go_ret
 exact ⟨_,rfl,rfl⟩
theorem qkV (w:World):Calls Tryz.prog 66 #[.pointer none] w fun e w'=>e=.returned (.int .i64 0)∧w=w':=by
 go_enter Tryz.func66,Tryz.ntmps66
 go_wp2
 go_ret
 exact ⟨rfl,rfl⟩
def qfy (X:Nat→Prop) (er:Int) (k c:Nat) (m:Ctl) (G:Nat→Prop) (w:World) (e:Ending) (w':World):Prop:=e=.returned (.int .i64 er) ∧ ∃ G',qaL X w' k c m G'∧Step G G' w w'
theorem qrs (k c:Nat) (m:Ctl) (G:Nat→Prop) (n:Int) (w:World) (h:qaL X w k c m G) (hn:0≤n):Calls Tryz.prog 31 #[.pointer (some ⟨k,0,none⟩),.int .i64 n] w (qfy X 0 k c { m with left:=n } G w):=by
 obtain ⟨s,F,rfl,h⟩:=h
 have c8:w.cell? ⟨k,8,none⟩=some (.int .i64 s.left):=qaa h.raw 8
 have f8:w.frozen? ⟨k,8,none⟩=false:=qah h.raw 8
 have t:Touch (Only k) w (w.setCell ⟨k,8,none⟩ (.int .i64 n)):=(Touch.refl _ _).set k 8 _ rfl
 have h1:=h.block (s':={ s with left:=n }) (m':={ m with left:=n }) (w':=w.setCell ⟨k,8,none⟩ (.int .i64 n)) (qag (i:=8) (v:=.int .i64 n) h.raw) t rfl h.goes rfl h.lost rfl rfl rfl rfl rfl
 have HX:=zH (zA h1 (h.step t))
 have hn' : ¬ n<0:=by omega
 clear h h1 t
 go_enter Tryz.func31,Tryz.ntmps31
 go_wp2
 go_ret
 exact ⟨rfl,G,⟨{ s with left:=n },F,rfl,HX.out.1⟩,HX.out.2⟩
def quT (w:World) (e:Ending) (w':World):Prop := ∃ b,e=.returned (.pointer (some ⟨b,0,none⟩))∧Below w.heap.size w w'
theorem qf8 (w:World):Calls Tryz.prog 103 #[] w (quT w):=by
 go_enter Tryz.func103,Tryz.ntmps103
 go_wp2
 go_ret
 exact ⟨_,rfl,qac (Below.refl _ _) _⟩
def Ctl.new (m:qae):Ctl:=⟨m,false,-1,false⟩
def qpE (c:Nat) (m:qae) (F:Nat→Prop) (w:World) (e:Ending) (w':World):Prop := ∃ k G,e=.returned (.tuple #[.pointer (some ⟨k,0,none⟩),.int .i64 0])∧w.heap.size≤k∧qaL (fun _=>False) w' k c (Ctl.new m) G∧(∀ b,G b→F b∨b=k)∧Below w.heap.size w w'
theorem ql2 (c:Nat) (m:qae) (F:Nat→Prop) (w:World) (h:qan w c m F):Calls Tryz.prog 67 #[.pointer (some ⟨c,0,none⟩)] w (qpE c m F w):=by
 have HH:=zH h
 clear h
 go_enter Tryz.func67,Tryz.ntmps67
 go_wp2_with fail
 refine (qf8 _).mono ?_
 rintro e w1 ⟨b1,rfl,hb1⟩
 go_wp2_with fail
 refine (qf8 _).mono ?_
 rintro e w2 ⟨b2,rfl,hb2⟩
 have hb12:=gtr hb1 hb2
 have h2:=HH.out.later hb12
 have hb3:Below w2.heap.size w2 (w2.alloc (.cells (qjY.row ⟨c,0,0,0,some ⟨b1,0,none⟩,some ⟨b2,0,none⟩,0,false,-1,false,0,0,0,.slice none 0 0⟩) 141)):=qac (Below.refl _ _) _
 have h3:=h2.later hb3
 have hr:qbX (w2.alloc (.cells (qjY.row ⟨c,0,0,0,some ⟨b1,0,none⟩,some ⟨b2,0,none⟩,0,false,-1,false,0,0,0,.slice none 0 0⟩) 141)) w2.heap.size ⟨c,0,0,0,some ⟨b1,0,none⟩,some ⟨b2,0,none⟩,0,false,-1,false,0,0,0,.slice none 0 0⟩:=qad _ _
 have hC:qaL (fun _=>False) (w2.alloc (.cells (qjY.row ⟨c,0,0,0,some ⟨b1,0,none⟩,some ⟨b2,0,none⟩,0,false,-1,false,0,0,0,.slice none 0 0⟩) 141)) w2.heap.size c (Ctl.new m) (fun b=>F b∨b=w2.heap.size):=by
  refine ⟨_,F,rfl,hr,rfl,rfl,rfl,h3,⟨fun _ h=>h.elim,.inl ⟨rfl,rfl,rfl⟩⟩,fun hf => ?_,fun b hb=>.inl hb,.inr rfl,fun hl hf => ?_,fun b hb => ?_⟩
  ·
   have:=h2.lt _ hf;omega
  ·
   obtain ⟨q1,q2⟩:=h2.home hl
   rcases hf with hf | hf
   ·
    exact q2 hf
   ·
    have hf':m.home=w2.heap.size:=hf
    omega
  ·
   simp only [World.size_alloc]
   rcases hb with hb | hb
   ·
    have:=h2.lt b hb;omega
   ·
    omega
 have HX:=zH (zA hC (gtr hb12 hb3))
 have hsz:=hb12.size
 clear hC h3 hr hb3 h2 hb12 hb1 hb2
 go_wp2_with fail
 go_ret2
 exact ⟨_,_,rfl,hsz,HX.out.1,fun b hb=>hb,HX.out.2⟩
end
end Go.Proofs.YtcfdenckiigdaaaGreat

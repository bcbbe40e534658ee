/- Part 6 of the contracts. -/
import Derived.Test.YtcfdenckiigdaaaGreatFl05
set_option linter.unusedVariables false
set_option maxRecDepth 100000
set_option maxHeartbeats 4000000
namespace Go.Proofs.YtcfdenckiigdaaaGreat
open Tryz
section
open Go.RowKit
theorem bJ.aj {w w':World} {c:Nat} {s:Raw} {m:ag} {F:Nat→Prop} (h:bJ w c s m F) (hb:Below w.heap.size w w'):bJ w' c s m F:=by
 obtain ⟨a,cc,h4,h5,h6,h7,h7'⟩:=h.busy.ex
 exact ⟨h.raw.aj hb,h.bU,h.aZ.aj hb,⟨a,cc,h4,h5.aj hb,h6,h7,h7'⟩,World.ownsRow.aj h.data hb,h.own,h.me,h.jQ,fun b hb'=>zV (h.lt b hb') hb.size⟩
theorem Step.ah {F:Nat→Prop} {w w':World} (h:Below w.heap.size w w'):Step F F w w':=Step.dD (Touch.ah h)
theorem bJ.hZ {w:World} {c jb:Nat} {s:Raw} {m:ag} {F:Nat→Prop} {j:iE} (h:bJ w c s m F) (hm:m.aZ=some j) (hj:s.aZ=some ⟨jb,0,none⟩) (hb:w.heap[jb]? = some (.cells j.row 192 (0,0))) (v:Bool):bJ (w.setCell ⟨jb,4,none⟩ (.bool v)) c s { m with aZ:=some { j with hZ:=v } } F∧Step F F w (w.setCell ⟨jb,4,none⟩ (.bool v)):=by
 have t:Touch (aO jb) w (w.setCell ⟨jb,4,none⟩ (.bool v)):=(Touch.refl (aO jb) w).set jb 4 _ rfl
 have hF : ∀ b,aO jb b→F b:=fun b e=>by rw [show b=jb from e];exact h.me jb hj
 have hne:c≠jb:=fun e=>by subst e;have:=hb.symm.trans h.raw;simp at this
 have hs:=h.bU
 refine ⟨⟨(heap_setCell_other _ _ _ _ hne).trans h.raw,⟨hs.cells,hs.bq,hs.bk,hs.dQ,hs.en,hs.aD,hs.op,hs.ay,hs.left,hs.cO,hs.addr,hs.mode,hs.cL,hs.told,hs.now,hs.beyond,hs.once⟩,⟨jb,hj,az (i:=4) (v:=.bool v) hb⟩,h.busy.aH t hF,gB h.data t (fun g hg e => ?_),h.own,h.me,h.jQ,fun b hb'=>zV (h.lt b hb') t.size⟩,Step.dD (t.mono hF)⟩
 obtain ⟨cur,hc⟩:=gA h.data hg
 rw [show g=jb from e] at hc
 have:=hc.symm.trans hb;simp at this
theorem cU {c:Nat} {m:ag} {F:Nat→Prop} {w w':World} {s:Raw} (h:bJ w' c s m F) (t:Step F F w w'):fk c m F w (.returned (.tuple #[])) w':=⟨rfl,F,h.shut,t⟩
theorem L9 (c:Nat) (m:ag) (F:Nat→Prop) (w:World) (h:aS w c m F) (ok:m.Ok) (k0:m.ay≠0) (k1:m.ay≠1) (hw:m.whole=true) (b6:m.op.byte=6):Calls prog 209 #[.pointer (some ⟨c,0,none⟩)] w (fk c m.gp F w):=by
 obtain ⟨s,h⟩:=h.open
 have hs:=h.bU
 have c26:w.cell? ⟨c,26,none⟩=some (.int .i64 m.ay):=by rw [← hs.ay];exact cell_of h.raw 26
 have hlt:=h.raw.lt
 have g0:(m.ay == 0)=false:=zQ k0
 have g1:(m.ay == 1)=false:=zQ k1
 have hwh:=fi c s w h.raw (by rw [hs.op];exact ok.op)
 rw [hs.op,hs.ay,hs.left,hs.beyond,show (if m.op.jB=true then decide (m.ay=5)&&decide (m.left=8) else if m.op.data=0 then decide (m.ay=7) && !m.beyond else true)=m.whole from rfl,hw] at hwh
 have HW:=zH hwh
 have HH:=zH h
 have HOK:=zH ok
 clear hwh hw k0 k1 h ok hs
 go_enter func209,ntmps209
 go_upto_region 2 with (go_at_call 223;refine HW.out.mono ?_;rintro e w1 ⟨rfl,n1,rfl⟩)
 have h:=HH.out.aj (aY zR n1)
 have st:Step F F w (w.drewN n1):=Step.ah (aY zR n1)
 generalize w.drewN n1=w1 at *
 clear HH HW c26 g0 g1 hlt
 have hs:=h.bU
 have c20:w1.cell? ⟨c,20,none⟩=some (.int .i64 m.op.byte):=by rw [← hs.op];exact cell_of h.raw 20
 have c16:w1.cell? ⟨c,16,none⟩=some (.bool m.en):=by rw [← hs.en];exact cell_of h.raw 16
 have hf : ∀ i,w1.frozen? ⟨c,i,none⟩=false:=fun i=>aF h.raw i
 have hlt:=h.raw.lt
 have E:=zH (show m.gp={ m with en:=true } by unfold ag.gp;rw [b6];rfl)
 rw [b6] at c20
 have H1:=h.block (s':={ s with en:=true }) (m':={ m with en:=true }) (w':=w1.setCell ⟨c,16,none⟩ (.bool true)) (az (i:=16) (v:=.bool true) h.raw) ⟨hs.cells,hs.bq,hs.bk,hs.dQ,rfl,hs.aD,hs.op,hs.ay,hs.left,hs.cO,hs.addr,hs.mode,hs.cL,hs.told,hs.now,hs.beyond,hs.once⟩ ((Touch.refl (aO c) w1).set c 16 _ rfl) rfl rfl rfl rfl rfl rfl
 have T1:=st.trans (h.step ((Touch.refl (aO c) w1).set c 16 (.bool true) rfl))
 have HX:=zH (zA H1 T1)
 clear H1 T1 h hs st HOK b6
 go_wp2_with fail
 go_end0
 rw [E.out]
 exact cU HX.out.1 HX.out.2
theorem L8 (c:Nat) (m:ag) (F:Nat→Prop) (w:World) (h:aS w c m F) (ok:m.Ok) (k0:m.ay≠0) (k1:m.ay≠1) (hw:m.whole=true) (b4:m.op.byte=4):Calls prog 209 #[.pointer (some ⟨c,0,none⟩)] w (fk c m.gp F w):=by
 obtain ⟨s,h⟩:=h.open
 have hs:=h.bU
 have c26:w.cell? ⟨c,26,none⟩=some (.int .i64 m.ay):=by rw [← hs.ay];exact cell_of h.raw 26
 have hlt:=h.raw.lt
 have g0:(m.ay == 0)=false:=zQ k0
 have g1:(m.ay == 1)=false:=zQ k1
 have hwh:=fi c s w h.raw (by rw [hs.op];exact ok.op)
 rw [hs.op,hs.ay,hs.left,hs.beyond,show (if m.op.jB=true then decide (m.ay=5)&&decide (m.left=8) else if m.op.data=0 then decide (m.ay=7) && !m.beyond else true)=m.whole from rfl,hw] at hwh
 have HW:=zH hwh
 have HH:=zH h
 have HOK:=zH ok
 clear hwh hw k0 k1 h ok hs
 go_enter func209,ntmps209
 go_upto_region 2 with (go_at_call 223;refine HW.out.mono ?_;rintro e w1 ⟨rfl,n1,rfl⟩)
 have h:=HH.out.aj (aY zR n1)
 have st:Step F F w (w.drewN n1):=Step.ah (aY zR n1)
 generalize w.drewN n1=w1 at *
 clear HH HW c26 g0 g1 hlt
 have hs:=h.bU
 have c20:w1.cell? ⟨c,20,none⟩=some (.int .i64 m.op.byte):=by rw [← hs.op];exact cell_of h.raw 20
 have c16:w1.cell? ⟨c,16,none⟩=some (.bool m.en):=by rw [← hs.en];exact cell_of h.raw 16
 have hf : ∀ i,w1.frozen? ⟨c,i,none⟩=false:=fun i=>aF h.raw i
 have hlt:=h.raw.lt
 have E:=zH (show m.gp={ m with en:=false } by unfold ag.gp;rw [b4];rfl)
 rw [b4] at c20
 have H1:=h.block (s':={ s with en:=false }) (m':={ m with en:=false }) (w':=w1.setCell ⟨c,16,none⟩ (.bool false)) (az (i:=16) (v:=.bool false) h.raw) ⟨hs.cells,hs.bq,hs.bk,hs.dQ,rfl,hs.aD,hs.op,hs.ay,hs.left,hs.cO,hs.addr,hs.mode,hs.cL,hs.told,hs.now,hs.beyond,hs.once⟩ ((Touch.refl (aO c) w1).set c 16 _ rfl) rfl rfl rfl rfl rfl rfl
 have T1:=st.trans (h.step ((Touch.refl (aO c) w1).set c 16 (.bool false) rfl))
 have HX:=zH (zA H1 T1)
 clear H1 T1 h hs st HOK b4
 go_wp2_with fail
 go_end0
 rw [E.out]
 exact cU HX.out.1 HX.out.2
theorem Je (c:Nat) (m:ag) (F:Nat→Prop) (w:World) (h:aS w c m F) (ok:m.Ok) (k0:m.ay≠0) (k1:m.ay≠1) (hw:m.whole=true) (b117:m.op.byte=117):Calls prog 209 #[.pointer (some ⟨c,0,none⟩)] w (fk c m.gp F w):=by
 obtain ⟨s,h⟩:=h.open
 have hs:=h.bU
 have c26:w.cell? ⟨c,26,none⟩=some (.int .i64 m.ay):=by rw [← hs.ay];exact cell_of h.raw 26
 have hlt:=h.raw.lt
 have g0:(m.ay == 0)=false:=zQ k0
 have g1:(m.ay == 1)=false:=zQ k1
 have hwh:=fi c s w h.raw (by rw [hs.op];exact ok.op)
 rw [hs.op,hs.ay,hs.left,hs.beyond,show (if m.op.jB=true then decide (m.ay=5)&&decide (m.left=8) else if m.op.data=0 then decide (m.ay=7) && !m.beyond else true)=m.whole from rfl,hw] at hwh
 have HW:=zH hwh
 have HH:=zH h
 have HOK:=zH ok
 clear hwh hw k0 k1 h ok hs
 go_enter func209,ntmps209
 go_upto_region 2 with (go_at_call 223;refine HW.out.mono ?_;rintro e w1 ⟨rfl,n1,rfl⟩)
 have h:=HH.out.aj (aY zR n1)
 have st:Step F F w (w.drewN n1):=Step.ah (aY zR n1)
 generalize w.drewN n1=w1 at *
 clear HH HW c26 g0 g1 hlt
 have hs:=h.bU
 have c20:w1.cell? ⟨c,20,none⟩=some (.int .i64 m.op.byte):=by rw [← hs.op];exact cell_of h.raw 20
 have c16:w1.cell? ⟨c,16,none⟩=some (.bool m.en):=by rw [← hs.en];exact cell_of h.raw 16
 have hf : ∀ i,w1.frozen? ⟨c,i,none⟩=false:=fun i=>aF h.raw i
 have hlt:=h.raw.lt
 have E0:m.gp=m.bN:=by unfold ag.gp;rw [b117];rfl
 rw [b117] at c20
 have c18:w1.cell? ⟨c,18,none⟩=some (.pointer s.aZ):=cell_of h.raw 18
 cases hjm:m.aZ with
 | none =>
  have e:m.bN=m:=by unfold ag.bN;rw [hjm]
  have hjn:s.aZ=none:=by have:=h.aZ;rw [hjm] at this;exact this
  rw [hjn] at c18
  rw [e] at E0
  have E:=zH E0
  have HX:=zH (zA h st)
  clear h hs st HOK b117 hjm hjn e E0
  go_wp2_with fail
  go_end0
  rw [E.out]
  exact cU HX.out.1 HX.out.2
 | some j =>
  obtain ⟨jb,hjb,hb⟩ : ∃ jb,s.aZ=some ⟨jb,0,none⟩∧w1.heap[jb]? = some (.cells j.row 192 (0,0)):=by have:=h.aZ;rw [hjm] at this;exact this
  rw [hjb] at c18
  have d0:w1.cell? ⟨jb,0,none⟩=some (.int .i64 j.av):=cell_of hb 0
  have d4:w1.cell? ⟨jb,4,none⟩=some (.bool j.hZ):=cell_of hb 4
  have hfj : ∀ i,w1.frozen? ⟨jb,i,none⟩=false:=fun i=>aF hb i
  have HS:=h.hZ hjm hjb hb true
  have HX:=zH (zA HS.1 (st.trans HS.2))
  have HY:=zH (zA h st)
  by_cases hsec:j.av = -1
  ·
   have e:m.bN=m:=by unfold ag.bN;rw [hjm];simp only;rw [if_pos hsec]
   rw [e] at E0
   have E:=zH E0
   rw [hsec] at d0
   clear h hs st HOK b117 hjm hjb e E0 hb HS hsec
   go_wp2_with fail
   go_end0
   rw [E.out]
   exact cU HY.out.1 HY.out.2
  ·
   have e:m.bN={ m with aZ:=some { j with hZ:=true } }:=by unfold ag.bN;rw [hjm];simp only;rw [if_neg hsec]
   have gsec:(j.av == -1)=false:=zQ hsec
   rw [e] at E0
   have E:=zH E0
   clear h hs st HOK b117 hjm hjb e E0 hb HS hsec
   go_wp2_with fail
   go_end0
   rw [E.out]
   exact cU HX.out.1 HX.out.2
theorem Jf (c:Nat) (m:ag) (F:Nat→Prop) (w:World) (h:aS w c m F) (ok:m.Ok) (k0:m.ay≠0) (k1:m.ay≠1) (hw:m.whole=true) (b122:m.op.byte=122):Calls prog 209 #[.pointer (some ⟨c,0,none⟩)] w (fk c m.gp F w):=by
 obtain ⟨s,h⟩:=h.open
 have hs:=h.bU
 have c26:w.cell? ⟨c,26,none⟩=some (.int .i64 m.ay):=by rw [← hs.ay];exact cell_of h.raw 26
 have hlt:=h.raw.lt
 have g0:(m.ay == 0)=false:=zQ k0
 have g1:(m.ay == 1)=false:=zQ k1
 have hwh:=fi c s w h.raw (by rw [hs.op];exact ok.op)
 rw [hs.op,hs.ay,hs.left,hs.beyond,show (if m.op.jB=true then decide (m.ay=5)&&decide (m.left=8) else if m.op.data=0 then decide (m.ay=7) && !m.beyond else true)=m.whole from rfl,hw] at hwh
 have HW:=zH hwh
 have HH:=zH h
 have HOK:=zH ok
 clear hwh hw k0 k1 h ok hs
 go_enter func209,ntmps209
 go_upto_region 2 with (go_at_call 223;refine HW.out.mono ?_;rintro e w1 ⟨rfl,n1,rfl⟩)
 have h:=HH.out.aj (aY zR n1)
 have st:Step F F w (w.drewN n1):=Step.ah (aY zR n1)
 generalize w.drewN n1=w1 at *
 clear HH HW c26 g0 g1 hlt
 have hs:=h.bU
 have c20:w1.cell? ⟨c,20,none⟩=some (.int .i64 m.op.byte):=by rw [← hs.op];exact cell_of h.raw 20
 have c16:w1.cell? ⟨c,16,none⟩=some (.bool m.en):=by rw [← hs.en];exact cell_of h.raw 16
 have hf : ∀ i,w1.frozen? ⟨c,i,none⟩=false:=fun i=>aF h.raw i
 have hlt:=h.raw.lt
 have E0:m.gp=m.gM:=by unfold ag.gp;rw [b122];rfl
 rw [b122] at c20
 have c18:w1.cell? ⟨c,18,none⟩=some (.pointer s.aZ):=cell_of h.raw 18
 cases hjm:m.aZ with
 | none =>
  have e:m.gM=m:=by unfold ag.gM;rw [hjm]
  have hjn:s.aZ=none:=by have:=h.aZ;rw [hjm] at this;exact this
  rw [hjn] at c18
  rw [e] at E0
  have E:=zH E0
  have HX:=zH (zA h st)
  clear h hs st HOK b122 hjm hjn e E0
  go_wp2_with fail
  go_end0
  rw [E.out]
  exact cU HX.out.1 HX.out.2
 | some j =>
  obtain ⟨jb,hjb,hb⟩ : ∃ jb,s.aZ=some ⟨jb,0,none⟩∧w1.heap[jb]? = some (.cells j.row 192 (0,0)):=by have:=h.aZ;rw [hjm] at this;exact this
  rw [hjb] at c18
  have d0:w1.cell? ⟨jb,0,none⟩=some (.int .i64 j.av):=cell_of hb 0
  have d4:w1.cell? ⟨jb,4,none⟩=some (.bool j.hZ):=cell_of hb 4
  have hfj : ∀ i,w1.frozen? ⟨jb,i,none⟩=false:=fun i=>aF hb i
  have HS:=h.hZ hjm hjb hb false
  have HX:=zH (zA HS.1 (st.trans HS.2))
  have HY:=zH (zA h st)
  have e:m.gM={ m with aZ:=some { j with hZ:=false } }:=by unfold ag.gM;rw [hjm]
  rw [e] at E0
  have E:=zH E0
  clear h hs st HOK b122 hjm hjb e E0 hb HS
  go_wp2_with fail
  go_end0
  rw [E.out]
  exact cU HX.out.1 HX.out.2
theorem KQ (c:Nat) (m:ag) (F:Nat→Prop) (w:World) (h:aS w c m F) (ok:m.Ok) (k0:m.ay≠0) (k1:m.ay≠1) (hw:m.whole=true) (b32:m.op.byte=32):Calls prog 209 #[.pointer (some ⟨c,0,none⟩)] w (fk c m.gp F w):=by
 obtain ⟨s,h⟩:=h.open
 have hs:=h.bU
 have c26:w.cell? ⟨c,26,none⟩=some (.int .i64 m.ay):=by rw [← hs.ay];exact cell_of h.raw 26
 have hlt:=h.raw.lt
 have g0:(m.ay == 0)=false:=zQ k0
 have g1:(m.ay == 1)=false:=zQ k1
 have hwh:=fi c s w h.raw (by rw [hs.op];exact ok.op)
 rw [hs.op,hs.ay,hs.left,hs.beyond,show (if m.op.jB=true then decide (m.ay=5)&&decide (m.left=8) else if m.op.data=0 then decide (m.ay=7) && !m.beyond else true)=m.whole from rfl,hw] at hwh
 have HW:=zH hwh
 have HH:=zH h
 have HOK:=zH ok
 clear hwh hw k0 k1 h ok hs
 go_enter func209,ntmps209
 go_upto_region 2 with (go_at_call 223;refine HW.out.mono ?_;rintro e w1 ⟨rfl,n1,rfl⟩)
 have h:=HH.out.aj (aY zR n1)
 have st:Step F F w (w.drewN n1):=Step.ah (aY zR n1)
 generalize w.drewN n1=w1 at *
 clear HH HW c26 g0 g1 hlt
 have hs:=h.bU
 have c20:w1.cell? ⟨c,20,none⟩=some (.int .i64 m.op.byte):=by rw [← hs.op];exact cell_of h.raw 20
 have c16:w1.cell? ⟨c,16,none⟩=some (.bool m.en):=by rw [← hs.en];exact cell_of h.raw 16
 have hf : ∀ i,w1.frozen? ⟨c,i,none⟩=false:=fun i=>aF h.raw i
 have hlt:=h.raw.lt
 have okk:=HOK.out
 have c29:w1.cell? ⟨c,29,none⟩=some (.int .i64 m.addr):=by rw [← hs.addr];exact cell_of h.raw 29
 have ha0:=okk.fX
 have ha1:=okk.gG
 have E:=zH (show m.gp=m.erases by unfold ag.gp;rw [b32];rfl)
 rw [b32] at c20
 have h2:=h.aj (ae zR (.cells #[.int .i64 (m.addr / 512),.int .i64 0,.string { data := #[] },.int .i64 0,.bool false] 192))
 have HS:=zH (sA c w1.heap.size s m ⟨m.addr / 512,0,ByteArray.empty,0,false⟩ F (w1.alloc (.cells #[.int .i64 (m.addr / 512),.int .i64 0,.string { data := #[] },.int .i64 0,.bool false] 192)) h2 (af _ _) (fun hF=>Nat.lt_irrefl _ (h.lt _ hF)) (.inr ⟨(m.addr / 512).toNat,by simp only;omega,by omega⟩) ha0 ha1 (fun ba bc e1 b o e2 hl e3=>by
   obtain ⟨a',c',f1,f2,f3,_⟩:=h.busy.ex
   rw [e1] at f1
   obtain ⟨rfl,rfl⟩:ba=a'∧bc=c':=by simpa using f1
   obtain ⟨b',o',g1,g2⟩:=f2 0 hl
   rw [e2] at g1
   obtain ⟨rfl,rfl⟩:b=b'∧o=o':=by simpa using g1
   have:=zL w1 _ g2
   simp at this
   omega))
 have HX:=zH (zA h st)
 have st2:Step F F w (w1.alloc (.cells #[.int .i64 (m.addr / 512),.int .i64 0,.string { data := #[] },.int .i64 0,.bool false] 192)):=st.trans (Step.ah (ae zR _))
 have HT:=zH st2
 have hsz:w.heap.size≤w1.heap.size:=st.aH.size
 clear h hs st HOK b32 h2 st2 okk
 go_wp2_with fail
 refine HS.out.mono ?_
 rintro e w3 ⟨rfl,F',hC,t,hf'⟩
 go_wp2_with fail
 go_end0
 rw [E.out]
 exact ⟨rfl,F',hC,⟨HT.out.aH.then t (fun b hb=>hb.imp id (fun e=>by rw [e];exact hsz)),fun b hb=>(hf' b hb).imp id (fun e=>by rw [e];exact hsz)⟩⟩
theorem Jg (c:Nat) (m:ag) (F:Nat→Prop) (w:World) (h:aS w c m F) (ok:m.Ok) (k0:m.ay≠0) (k1:m.ay≠1) (hw:m.whole=true) (b235:m.op.byte=235):Calls prog 209 #[.pointer (some ⟨c,0,none⟩)] w (fk c m.gp F w):=by
 obtain ⟨s,h⟩:=h.open
 have hs:=h.bU
 have c26:w.cell? ⟨c,26,none⟩=some (.int .i64 m.ay):=by rw [← hs.ay];exact cell_of h.raw 26
 have hlt:=h.raw.lt
 have g0:(m.ay == 0)=false:=zQ k0
 have g1:(m.ay == 1)=false:=zQ k1
 have hwh:=fi c s w h.raw (by rw [hs.op];exact ok.op)
 rw [hs.op,hs.ay,hs.left,hs.beyond,show (if m.op.jB=true then decide (m.ay=5)&&decide (m.left=8) else if m.op.data=0 then decide (m.ay=7) && !m.beyond else true)=m.whole from rfl,hw] at hwh
 have HW:=zH hwh
 have HH:=zH h
 have HOK:=zH ok
 clear hwh hw k0 k1 h ok hs
 go_enter func209,ntmps209
 go_upto_region 2 with (go_at_call 223;refine HW.out.mono ?_;rintro e w1 ⟨rfl,n1,rfl⟩)
 have h:=HH.out.aj (aY zR n1)
 have st:Step F F w (w.drewN n1):=Step.ah (aY zR n1)
 generalize w.drewN n1=w1 at *
 clear HH HW c26 g0 g1 hlt
 have hs:=h.bU
 have c20:w1.cell? ⟨c,20,none⟩=some (.int .i64 m.op.byte):=by rw [← hs.op];exact cell_of h.raw 20
 have c16:w1.cell? ⟨c,16,none⟩=some (.bool m.en):=by rw [← hs.en];exact cell_of h.raw 16
 have hf : ∀ i,w1.frozen? ⟨c,i,none⟩=false:=fun i=>aF h.raw i
 have hlt:=h.raw.lt
 have E:=zH (show m.gp={ m with aD:=m.cL&&decide (m.mode=160) } by unfold ag.gp;rw [b235];rfl)
 rw [b235] at c20
 have c30:w1.cell? ⟨c,30,none⟩=some (.int .i64 m.mode):=by rw [← hs.mode];exact cell_of h.raw 30
 have c31:w1.cell? ⟨c,31,none⟩=some (.bool m.cL):=by rw [← hs.cL];exact cell_of h.raw 31
 have c17:w1.cell? ⟨c,17,none⟩=some (.bool s.aD):=cell_of h.raw 17
 have H1:=fun v=>h.block (s':={ s with aD:=v }) (m':={ m with aD:=v }) (w':=w1.setCell ⟨c,17,none⟩ (.bool v)) (az (i:=17) (v:=.bool v) h.raw) ⟨hs.cells,hs.bq,hs.bk,hs.dQ,hs.en,rfl,hs.op,hs.ay,hs.left,hs.cO,hs.addr,hs.mode,hs.cL,hs.told,hs.now,hs.beyond,hs.once⟩ ((Touch.refl (aO c) w1).set c 17 _ rfl) rfl rfl rfl rfl rfl rfl
 have T1:=fun v=>st.trans (h.step ((Touch.refl (aO c) w1).set c 17 (.bool v) rfl))
 have HX:=zH (fun v=>zA (H1 v) (T1 v))
 clear H1 T1 h hs st HOK b235
 cases hm:m.cL with
 | true =>
  rw [hm] at c31
  go_wp2_with fail
  go_end0
  have hv:(m.cL&&decide (m.mode=160))=(m.mode == 160):=by rw [hm];rfl
  have e1:=E.out
  rw [hv] at e1
  rw [e1]
  exact cU (HX.out (m.mode == 160)).1 (HX.out (m.mode == 160)).2
 | false =>
  rw [hm] at c31
  go_wp2_with fail
  go_end0
  have hv:(m.cL&&decide (m.mode=160))=false:=by rw [hm];rfl
  have e1:=E.out
  rw [hv] at e1
  rw [e1]
  exact cU (HX.out false).1 (HX.out false).2
theorem GB {w:World} {c:Nat} {m:ag} {F:Nat→Prop} (h:aS w c m F):w.cell? ⟨c,29,none⟩=some (.int .i64 m.addr):=by
 obtain ⟨s,h⟩:=h.open
 rw [← h.bU.addr];exact cell_of h.raw 29
theorem Dj (m:ag) (j:iE):(m.dO j).addr=m.addr:=by unfold ag.dO;split;rfl;split <;> rfl
theorem DY {w:World} {c:Nat} {s:Raw} {m:ag} {F:Nat→Prop} (h:bJ w c s m F) (jb:Nat) (hj:w.heap.size≤jb) : ∀ ba bc,s.busy=.slice ba m.busy.length bc → ∀ b o,ba=some ⟨b,o,none⟩→0<m.busy.length→b≠jb:=by
 intro ba bc e1 b o e2 hl e3
 obtain ⟨a',c',f1,f2,f3,_⟩:=h.busy.ex
 rw [e1] at f1
 obtain ⟨rfl,rfl⟩:ba=a'∧bc=c':=by simpa using f1
 obtain ⟨b',o',g1,g2⟩:=f2 0 hl
 rw [e2] at g1
 obtain ⟨rfl,rfl⟩:b=b'∧o=o':=by simpa using g1
 have:=zL w _ g2
 simp at this
 omega
theorem L7 (c:Nat) (m:ag) (F:Nat→Prop) (w:World) (h:aS w c m F) (ok:m.Ok) (k0:m.ay≠0) (k1:m.ay≠1) (hw:m.whole=true) (b2:m.op.byte=2):Calls prog 209 #[.pointer (some ⟨c,0,none⟩)] w (fk c m.gp F w):=by
 obtain ⟨s,h⟩:=h.open
 have hs:=h.bU
 have c26:w.cell? ⟨c,26,none⟩=some (.int .i64 m.ay):=by rw [← hs.ay];exact cell_of h.raw 26
 have hlt:=h.raw.lt
 have g0:(m.ay == 0)=false:=zQ k0
 have g1:(m.ay == 1)=false:=zQ k1
 have hwh:=fi c s w h.raw (by rw [hs.op];exact ok.op)
 rw [hs.op,hs.ay,hs.left,hs.beyond,show (if m.op.jB=true then decide (m.ay=5)&&decide (m.left=8) else if m.op.data=0 then decide (m.ay=7) && !m.beyond else true)=m.whole from rfl,hw] at hwh
 have HW:=zH hwh
 have HH:=zH h
 have HOK:=zH ok
 clear hwh hw k0 k1 h ok hs
 go_enter func209,ntmps209
 go_upto_region 2 with (go_at_call 223;refine HW.out.mono ?_;rintro e w1 ⟨rfl,n1,rfl⟩)
 have h:=HH.out.aj (aY zR n1)
 have st:Step F F w (w.drewN n1):=Step.ah (aY zR n1)
 generalize w.drewN n1=w1 at *
 clear HH HW c26 g0 g1 hlt
 have hs:=h.bU
 have c20:w1.cell? ⟨c,20,none⟩=some (.int .i64 m.op.byte):=by rw [← hs.op];exact cell_of h.raw 20
 have c16:w1.cell? ⟨c,16,none⟩=some (.bool m.en):=by rw [← hs.en];exact cell_of h.raw 16
 have hf : ∀ i,w1.frozen? ⟨c,i,none⟩=false:=fun i=>aF h.raw i
 have hlt:=h.raw.lt
 have hdata:=(bz.dd h.data).ints
 obtain ⟨da,dc,hda,hdi⟩:=hdata
 have c32:w1.cell? ⟨c,32,none⟩=some (.slice da m.data.length dc):=by rw [← hda];exact cell_of h.raw 32
 have okk:=HOK.out
 have ha0:=okk.fX
 have ha1:=okk.gG
 rw [b2] at c20
 by_cases hl:0<m.data.length
 case neg =>
  have E:=zH (show m.gp=m by unfold ag.gp;rw [b2];show m.ju=m;unfold ag.ju;rw [if_neg hl])
  have HX:=zH (zA h st)
  have g2:(m.data.length:Int)=0:=by omega
  clear h hs st HOK b2 hda hdi okk hl
  go_wp2_with fail
  go_end0
  rw [E.out]
  exact cU HX.out.1 HX.out.2
 obtain ⟨A,hA⟩:=Int.eq_ofNat_of_zero_le ha0
 have hpg:IntKind.i64.wrap ((A:Int) - (A:Int).tmod 32)=(A:Int) - (A:Int) % 32:=by rw [Int.tmod_eq_emod_of_nonneg (by omega)];exact du (by omega) (by omega)
 have E:=zH (show m.gp=m.dO ⟨-1,IntKind.i64.wrap ((A:Int) - (A:Int).tmod 32),lA A m.data,0,false⟩ by unfold ag.gp;rw [b2];show m.ju=_;unfold ag.ju;rw [if_pos hl,hA,hpg])
 have c29:w1.cell? ⟨c,29,none⟩=some (.int .i64 A):=by rw [← hA,← hs.addr];exact cell_of h.raw 29
 have HP:=zH (EG c s A da dc m.data w1.drew h.raw (by rw [hs.addr];exact hA) (by omega) hda hdi (by have:=okk.data;omega))
 have HF:=zH (fun jb hj=>DY h jb hj)
 have hN : ∀ b,w1.heap.size≤b → ¬ F b:=fun b hb hF=>Nat.lt_irrefl _ (zV (h.lt b hF) hb)
 have hl':(0:Int)<(m.data.length:Int):=by omega
 have hsz:w.heap.size≤w1.heap.size:=st.aH.size
 have HH:=zH (zA h st)
 have HR:=zH (Dj m ⟨-1,IntKind.i64.wrap ((A:Int) - (A:Int).tmod 32),lA A m.data,0,false⟩)
 generalize lA A m.data=pg at *
 clear h hs st HOK b2 hda hdi okk hl hpg
 go_upto_region 18 with (fail)
 go_region_held3 (fun w'=>w'.cell? ⟨c,29,none⟩=some (.int .i64 A)) (first | exact c29 | exact c29' | exact (World.cell?_alloc_lt _ _ _ hlt3).trans c29' | exact (GB hC).trans (congrArg (fun a=>some (Value.int .i64 a)) (HR.out.trans hA)) | go_keep) (first
   | (go_at_call 225;(with_reducible refine HP.out.mono ?_);rintro e w3 ⟨rfl,hb3⟩;have hb13:=gtr (au (Below.refl _ w1)) hb3;have h3:=HH.out.1.aj hb13;have c29':w3.cell? ⟨c,29,none⟩=some (.int .i64 A):=(hb13.cell (p:=⟨c,29,none⟩) hlt).trans c29;have hlt3:=zV hlt hb13.size)
   | (go_at_call 224;(with_reducible refine (sA c w3.heap.size s m ⟨-1,IntKind.i64.wrap ((A:Int) - (A:Int).tmod 32),pg,0,false⟩ F (w3.alloc (.cells #[.int .i64 (-1),.int .i64 (IntKind.i64.wrap ((A:Int) - (A:Int).tmod 32)),.string pg,.int .i64 0,.bool false] 192)) (h3.aj (ae zR _)) (af _ _) (hN _ hb13.size) (.inl rfl) ha0 ha1 (HF.out _ hb13.size)).mono ?_);rintro e w4 ⟨rfl,F',hC,t4,hf4⟩))
 all_goals
  go_wp2_with fail
  go_end0
  rw [E.out]
  exact ⟨rfl,F',hC,⟨((HH.out.2.trans (Step.ah hb13)).aH.alloc _).then t4 (fun b hb=>hb.imp id (fun e=>by rw [e];exact Nat.le_trans hsz hb13.size)),fun b hb=>(hf4 b hb).imp id (fun e=>by rw [e];exact Nat.le_trans hsz hb13.size)⟩⟩
theorem GN (c:Nat) (m:ag) (F:Nat→Prop) (w:World) (h:aS w c m F) (ok:m.Ok) (k0:m.ay≠0) (k1:m.ay≠1) (hw:m.whole=true) (n6 : ¬ m.op.byte=6) (n4 : ¬ m.op.byte=4) (n117 : ¬ m.op.byte=117) (n122 : ¬ m.op.byte=122) (nn1 : ¬ m.op.byte=1) (b2 : ¬ m.op.byte=2) (n32 : ¬ m.op.byte=32) (n235 : ¬ m.op.byte=235):Calls prog 209 #[.pointer (some ⟨c,0,none⟩)] w (fk c m.gp F w):=by
 obtain ⟨s,h⟩:=h.open
 have hs:=h.bU
 have c26:w.cell? ⟨c,26,none⟩=some (.int .i64 m.ay):=by rw [← hs.ay];exact cell_of h.raw 26
 have hlt:=h.raw.lt
 have g0:(m.ay == 0)=false:=zQ k0
 have g1:(m.ay == 1)=false:=zQ k1
 have hwh:=fi c s w h.raw (by rw [hs.op];exact ok.op)
 rw [hs.op,hs.ay,hs.left,hs.beyond,show (if m.op.jB=true then decide (m.ay=5)&&decide (m.left=8) else if m.op.data=0 then decide (m.ay=7) && !m.beyond else true)=m.whole from rfl,hw] at hwh
 have HW:=zH hwh
 have HH:=zH h
 have HOK:=zH ok
 clear hwh hw k0 k1 h ok hs
 go_enter func209,ntmps209
 go_upto_region 2 with (go_at_call 223;refine HW.out.mono ?_;rintro e w1 ⟨rfl,n1,rfl⟩)
 have h:=HH.out.aj (aY zR n1)
 have st:Step F F w (w.drewN n1):=Step.ah (aY zR n1)
 generalize w.drewN n1=w1 at *
 clear HH HW c26 g0 g1 hlt
 have hs:=h.bU
 have c20:w1.cell? ⟨c,20,none⟩=some (.int .i64 m.op.byte):=by rw [← hs.op];exact cell_of h.raw 20
 have c16:w1.cell? ⟨c,16,none⟩=some (.bool m.en):=by rw [← hs.en];exact cell_of h.raw 16
 have hf : ∀ i,w1.frozen? ⟨c,i,none⟩=false:=fun i=>aF h.raw i
 have hlt:=h.raw.lt
 have E:=zH (show m.gp=m by unfold ag.gp;rw [if_neg n6,if_neg n4,if_neg n117,if_neg n122,if_neg nn1,if_neg b2,if_neg n32,if_neg n235])
 have y6:(m.op.byte == 6)=false:=zQ n6
 have y4:(m.op.byte == 4)=false:=zQ n4
 have y117:(m.op.byte == 117)=false:=zQ n117
 have y122:(m.op.byte == 122)=false:=zQ n122
 have y1:(m.op.byte == 1)=false:=zQ nn1
 have y2:(m.op.byte == 2)=false:=zQ b2
 have y32:(m.op.byte == 32)=false:=zQ n32
 have y235:(m.op.byte == 235)=false:=zQ n235
 have HX:=zH (zA h st)
 clear h hs st HOK n6 n4 n117 n122 nn1 b2 n32 n235
 go_wp2_with fail
 go_end0
 rw [E.out]
 exact cU HX.out.1 HX.out.2
theorem Jh (c:Nat) (m:ag) (F:Nat→Prop) (w:World) (h:aS w c m F) (ok:m.Ok) (k:m.ay=0∨m.ay=1∨m.whole=false):Calls prog 209 #[.pointer (some ⟨c,0,none⟩)] w (fk c m F w):=by
 obtain ⟨s,h⟩:=h.open
 have hs:=h.bU
 have c26:w.cell? ⟨c,26,none⟩=some (.int .i64 m.ay):=by rw [← hs.ay];exact cell_of h.raw 26
 by_cases k0:m.ay=0
 ·
  rw [k0] at c26
  have HH:=zH h
  clear h hs k0 ok k
  go_enter func209,ntmps209
  go_wp2_with fail
  go_end0
  exact cU HH.out (Step.refl _ _)
 by_cases k1:m.ay=1
 ·
  rw [k1] at c26
  have HH:=zH h
  clear h hs k0 k1 ok k
  go_enter func209,ntmps209
  go_wp2_with fail
  go_end0
  exact cU HH.out (Step.refl _ _)
 have hw:=(k.resolve_left k0).resolve_left k1
 have g0:(m.ay == 0)=false:=zQ k0
 have g1:(m.ay == 1)=false:=zQ k1
 have hwh:=fi c s w h.raw (by rw [hs.op];exact ok.op)
 rw [hs.op,hs.ay,hs.left,hs.beyond,show (if m.op.jB=true then decide (m.ay=5)&&decide (m.left=8) else if m.op.data=0 then decide (m.ay=7) && !m.beyond else true)=m.whole from rfl,hw] at hwh
 have HW:=zH hwh
 have HH:=zH h
 clear h hs k0 k1 ok hwh hw k
 go_enter func209,ntmps209
 go_wp2_with (go_at_call 223;refine HW.out.mono ?_;rintro e w1 ⟨rfl,n1,rfl⟩)
 go_end0
 exact cU (HH.out.aj (aY zR n1)) (Step.ah (aY zR n1))
theorem wu (c:Nat) (m:ag) (F:Nat→Prop) (w:World) (h:aS w c m F) (ok:m.Ok) (put:m.op.byte=1→m.ay≠0→m.ay≠1→m.whole=true→Calls prog 209 #[.pointer (some ⟨c,0,none⟩)] w (fk c m.gp F w)):Calls prog 209 #[.pointer (some ⟨c,0,none⟩)] w (fk c m.ends F w):=by
 by_cases k:m.ay=0∨m.ay=1∨m.whole=false
 ·
  have e:m.ends=m:=by unfold ag.ends;rw [if_pos k]
  rw [e];exact Jh c m F w h ok k
 have e:m.ends=m.gp:=by unfold ag.ends;rw [if_neg k]
 rw [e]
 have k0:m.ay≠0:=fun e=>k (.inl e)
 have k1:m.ay≠1:=fun e=>k (.inr (.inl e))
 have hw:m.whole=true:=by cases hh:m.whole with | true=>rfl | false=>exact absurd (.inr (.inr hh)) k
 by_cases b6:m.op.byte=6;· exact L9 c m F w h ok k0 k1 hw b6
 by_cases b4:m.op.byte=4;· exact L8 c m F w h ok k0 k1 hw b4
 by_cases b117:m.op.byte=117;· exact Je c m F w h ok k0 k1 hw b117
 by_cases b122:m.op.byte=122;· exact Jf c m F w h ok k0 k1 hw b122
 by_cases b1:m.op.byte=1;· exact put b1 k0 k1 hw
 by_cases b2:m.op.byte=2;· exact L7 c m F w h ok k0 k1 hw b2
 by_cases b32:m.op.byte=32;· exact KQ c m F w h ok k0 k1 hw b32
 by_cases b235:m.op.byte=235;· exact Jg c m F w h ok k0 k1 hw b235
 exact GN c m F w h ok k0 k1 hw b6 b4 b117 b122 b1 b2 b32 b235
end
section
open Go.RowKit
def putAt:Array Value→Nat→List Value→Array Value
 | cur,_,[]=>cur
 | cur,k,v::r=>putAt (cur.setIfInBounds k v) (k+1) r
theorem Df (w:World) (g:Nat) (cur:Array Value) (t:TypeId) (hg:w.heap[g]? = some (.cells cur t (0,0))):w.setRow g cur=w:=by
 have hlt:g<w.heap.size:=(Array.getElem?_eq_some_iff.1 hg).1
 have hv:w.heap[g]=.cells cur t (0,0):=(Array.getElem?_eq_some_iff.1 hg).2
 unfold World.setRow
 cases w with
 | mk heap tape drawn os output =>
  congr 1
  apply Array.ext
  ·
   simp
  ·
   intro k h1 h2
   simp only [Array.getElem_modify]
   split
   ·
    rename_i hk;subst hk;simp at hv;simp [hv]
   ·
    rfl
theorem bj (w:World) (g:Nat) (a:Array Value) (k:Nat) (h:k≠g):(w.setRow g a).heap[k]? = w.heap[k]? := by
 unfold World.setRow
 simp only [Array.getElem?_modify]
 rw [if_neg (Ne.symm h)]
theorem jy {F:Nat→Prop} {a b:World} (h:Touch F a b) (g:Nat) (r:Array Value) (hg:F g):Touch F a (b.setRow g r) :=
 ⟨h.os,h.tape,h.output,by show _≤(b.heap.modify _ _).size;simp;exact h.size,fun k hk hn=>(bj _ _ _ _ (fun e=>hn (by rw [e];exact hg))).trans (h.block k hk hn)⟩
theorem run_storeCells_at (g o:Nat) (t:TypeId) : ∀ (vs:List Value) (i:Nat) (cur:Array Value) (w:World),w.heap[g]? = some (.cells cur t (0,0))→o+i+vs.length≤cur.size→(∀ v ∈ vs,v.oneCell'=true)→(storeCells ⟨g,o,none⟩ vs i).run prog w=.ok () (w.setRow g (putAt cur (o+i) vs))
 | [],i,cur,w,hg,hl,_=>by
  simp only [storeCells,putAt]
  show Result.ok () w=_
  rw [Df w g cur t hg]
 | v::rest,i,cur,w,hg,hl,h1=>by
  have hi:o+i<cur.size:=by simp at hl;omega
  have hcell:w.cell? ⟨g,o+i,none⟩=some cur[o+i]:=by simp [World.cell?,hg,hi]
  have hfro:w.frozen? ⟨g,o+i,none⟩=false:=by simp [World.frozen?,hg]
  have hst:(store ((⟨g,o,none⟩:Addr).add i) v).run prog w=.ok () (w.setRow g (cur.setIfInBounds (o+i) v)):=by
   rw [di,run_store prog w _ v _ (h1 v (by simp)),hcell]
   simp [hfro,setCell_eq_setRow w g (o+i) cur t (0,0) v hg]
  have ih:=run_storeCells_at g o t rest (i+1) (cur.setIfInBounds (o+i) v) (w.setRow g (cur.setIfInBounds (o+i) v)) (setRow_heap w g cur _ t _ hg) (by simp at hl ⊢;omega) (fun x hx=>h1 x (by simp [hx]))
  simp only [storeCells,Sem.run_bind,hst,Result.andThen_ok,ih,setRow_setRow,putAt]
  rfl
theorem dS {ops:Array Oper} {rest:List Oper} {p:Oper} {a:Act} {w:World} {Q:Exit→Act→World→Prop} (hgd:p.guard=none) (ty:TypeId) (x y:Operand) (ho:p.op=.store ty x y) (g o:Nat) (cells:Array Value) (hx:a.eval x=.pointer (some ⟨g,o,none⟩)) (hy:a.eval y=.agg cells) (t:TypeId) (old:Array Value) (hg:w.heap[g]? = some (.cells old t (0,0))) (hi:(prog.info? ty).map (·.size)=some cells.size) (hold:o+cells.size≤old.size) (h1:cells.all (·.oneCell')=true) (h:wpList prog ops Q rest (a.put p.dst undef) (w.setRow g (putAt old o cells.toList))):wpList prog ops Q (p::rest) a w:=by
 refine wpList_plain hgd fun K hK => ?_
 have hrun:(storeVar ty ⟨g,o,none⟩ (.agg cells)).run prog w=.ok () (w.setRow g (putAt old o cells.toList)):=by
  have:=run_storeCells_at g o t cells.toList 0 old w hg (by simp;omega) (fun v hv=>(Array.all_eq_true_iff_forall_mem.1 h1) v (by simpa using hv))
  cases hq:prog.info? ty with
  | none=>simp [hq] at hi
  | some i =>
   have hs:cells.size=i.size:=by simp [hq] at hi;omega
   simp [storeVar,sizeOf,typeInfo,hq,Value.cells,hs,this]
 unfold Oper.wp execOp
 simp only [ho,hx,hy,Instr.storeAt,Instr.sureAddr,Sem.run_bind,Sem.run_pure,Result.andThen_ok,hrun]
 exact hK _ _ h
end
end Go.Proofs.YtcfdenckiigdaaaGreat

/- Part 3 of the contracts. -/
import Derived.Great.Walk
import Derived.Test.YtcfdenckiigdaaaGreatRd02
set_option linter.unusedVariables false
set_option maxRecDepth 100000
set_option maxHeartbeats 4000000
namespace Go.Proofs.YtcfdenckiigdaaaGreat
open Tryz Go.RowKit
theorem bK.aj {w w':World} {c:Nat} {s:Raw} {m:ag} {F:Nat→Prop} (h:bK w c s m F) (hb:Below w.heap.size w w'):bK w' c s m F:=by
 obtain ⟨a,cc,h4,h5,h6,h7,h7'⟩:=h.busy.ex
 exact ⟨h.raw.aj hb,h.bU,h.aZ.aj hb,⟨a,cc,h4,h5.aj hb,h6,h7,h7'⟩,World.ownsRow.aj h.data hb,h.own,h.mc,h.jQ,fun b hb'=>zV (h.lt b hb') hb.size⟩
theorem Step.ah {F:Nat→Prop} {w w':World} (h:Below w.heap.size w w'):Step F F w w':=Step.dD (Touch.ah h)
theorem bK.ia {w:World} {c jb:Nat} {s:Raw} {m:ag} {F:Nat→Prop} {j:iC} (h:bK w c s m F) (hm:m.aZ=some j) (hj:s.aZ=some ⟨jb,0,none⟩) (hb:w.heap[jb]? = some (.cells j.row 192 (0,0))) (v:Bool):bK (w.setCell ⟨jb,4,none⟩ (.bool v)) c s { m with aZ:=some { j with ia:=v } } F∧Step F F w (w.setCell ⟨jb,4,none⟩ (.bool v)):=by
 have t:Touch (aN jb) w (w.setCell ⟨jb,4,none⟩ (.bool v)):=(Touch.refl (aN jb) w).set jb 4 _ rfl
 have hF : ∀ b,aN jb b→F b:=fun b e=>by rw [show b=jb from e];exact h.mc jb hj
 have hne:c≠jb:=fun e=>by subst e;have:=hb.symm.trans h.raw;simp at this
 have hs:=h.bU
 refine ⟨⟨(heap_setCell_other _ _ _ _ hne).trans h.raw,⟨hs.cells,hs.bq,hs.bk,hs.dP,hs.en,hs.aD,hs.op,hs.ay,hs.left,hs.cM,hs.addr,hs.mode,hs.cJ,hs.told,hs.now,hs.beyond,hs.once⟩,⟨jb,hj,az (i:=4) (v:=.bool v) hb⟩,h.busy.aH t hF,gy h.data t (fun g hg e => ?_),h.own,h.mc,h.jQ,fun b hb'=>zV (h.lt b hb') t.size⟩,Step.dD (t.mono hF)⟩
 obtain ⟨cur,hc⟩:=gw h.data hg
 rw [show g=jb from e] at hc
 have:=hc.symm.trans hb;simp at this
theorem cS {c:Nat} {m:ag} {F:Nat→Prop} {w w':World} {s:Raw} (h:bK w' c s m F) (t:Step F F w w'):fk c m F w (.returned (.tuple #[])) w':=⟨rfl,F,h.shut,t⟩
theorem My (c:Nat) (m:ag) (F:Nat→Prop) (w:World) (h:aT w c m F) (ok:m.Ok) (k0:m.ay≠0) (k1:m.ay≠1) (hw:m.whole=true) (b6:m.op.byte=6):Calls prog 209 #[.pointer (some ⟨c,0,none⟩)] w (fk c m.gl F w):=by
 obtain ⟨s,h⟩:=h.open
 have hs:=h.bU
 have c26:w.cell? ⟨c,26,none⟩=some (.int .i64 m.ay):=by rw [← hs.ay];exact cell_of h.raw 26
 have hlt:=h.raw.lt
 have g0:(m.ay == 0)=false:=zQ k0
 have g1:(m.ay == 1)=false:=zQ k1
 have hwh:=fg c s w h.raw (by rw [hs.op];exact ok.op)
 rw [hs.op,hs.ay,hs.left,hs.beyond,show (if m.op.jz=true then decide (m.ay=5)&&decide (m.left=8) else if m.op.data=0 then decide (m.ay=7) && !m.beyond else true)=m.whole from rfl,hw] at hwh
 have HW:=zH hwh
 have HH:=zH h
 have HOK:=zH ok
 clear hwh hw k0 k1 h ok hs
 go_enter func209,ntmps209
 go_upto_region 2 with (go_at_call 223;refine HW.out.mono ?_;rintro e w1 ⟨rfl,n1,rfl⟩)
 have h:=HH.out.aj (aY zR n1)
 have st:Step F F w (w.drewN n1):=Step.ah (aY zR n1)
 generalize w.drewN n1=w1 at *
 clear HH HW c26 g0 g1 hlt
 have hs:=h.bU
 have c20:w1.cell? ⟨c,20,none⟩=some (.int .i64 m.op.byte):=by rw [← hs.op];exact cell_of h.raw 20
 have c16:w1.cell? ⟨c,16,none⟩=some (.bool m.en):=by rw [← hs.en];exact cell_of h.raw 16
 have hf : ∀ i,w1.frozen? ⟨c,i,none⟩=false:=fun i=>aF h.raw i
 have hlt:=h.raw.lt
 have E:=zH (show m.gl={ m with en:=true } by unfold ag.gl;rw [b6];rfl)
 rw [b6] at c20
 have H1:=h.block (s':={ s with en:=true }) (m':={ m with en:=true }) (w':=w1.setCell ⟨c,16,none⟩ (.bool true)) (az (i:=16) (v:=.bool true) h.raw) ⟨hs.cells,hs.bq,hs.bk,hs.dP,rfl,hs.aD,hs.op,hs.ay,hs.left,hs.cM,hs.addr,hs.mode,hs.cJ,hs.told,hs.now,hs.beyond,hs.once⟩ ((Touch.refl (aN c) w1).set c 16 _ rfl) rfl rfl rfl rfl rfl rfl
 have T1:=st.trans (h.step ((Touch.refl (aN c) w1).set c 16 (.bool true) rfl))
 have HX:=zH (zA H1 T1)
 clear H1 T1 h hs st HOK b6
 go_wp2_with fail
 go_end0
 rw [E.out]
 exact cS HX.out.1 HX.out.2
theorem Mx (c:Nat) (m:ag) (F:Nat→Prop) (w:World) (h:aT w c m F) (ok:m.Ok) (k0:m.ay≠0) (k1:m.ay≠1) (hw:m.whole=true) (b4:m.op.byte=4):Calls prog 209 #[.pointer (some ⟨c,0,none⟩)] w (fk c m.gl F w):=by
 obtain ⟨s,h⟩:=h.open
 have hs:=h.bU
 have c26:w.cell? ⟨c,26,none⟩=some (.int .i64 m.ay):=by rw [← hs.ay];exact cell_of h.raw 26
 have hlt:=h.raw.lt
 have g0:(m.ay == 0)=false:=zQ k0
 have g1:(m.ay == 1)=false:=zQ k1
 have hwh:=fg c s w h.raw (by rw [hs.op];exact ok.op)
 rw [hs.op,hs.ay,hs.left,hs.beyond,show (if m.op.jz=true then decide (m.ay=5)&&decide (m.left=8) else if m.op.data=0 then decide (m.ay=7) && !m.beyond else true)=m.whole from rfl,hw] at hwh
 have HW:=zH hwh
 have HH:=zH h
 have HOK:=zH ok
 clear hwh hw k0 k1 h ok hs
 go_enter func209,ntmps209
 go_upto_region 2 with (go_at_call 223;refine HW.out.mono ?_;rintro e w1 ⟨rfl,n1,rfl⟩)
 have h:=HH.out.aj (aY zR n1)
 have st:Step F F w (w.drewN n1):=Step.ah (aY zR n1)
 generalize w.drewN n1=w1 at *
 clear HH HW c26 g0 g1 hlt
 have hs:=h.bU
 have c20:w1.cell? ⟨c,20,none⟩=some (.int .i64 m.op.byte):=by rw [← hs.op];exact cell_of h.raw 20
 have c16:w1.cell? ⟨c,16,none⟩=some (.bool m.en):=by rw [← hs.en];exact cell_of h.raw 16
 have hf : ∀ i,w1.frozen? ⟨c,i,none⟩=false:=fun i=>aF h.raw i
 have hlt:=h.raw.lt
 have E:=zH (show m.gl={ m with en:=false } by unfold ag.gl;rw [b4];rfl)
 rw [b4] at c20
 have H1:=h.block (s':={ s with en:=false }) (m':={ m with en:=false }) (w':=w1.setCell ⟨c,16,none⟩ (.bool false)) (az (i:=16) (v:=.bool false) h.raw) ⟨hs.cells,hs.bq,hs.bk,hs.dP,rfl,hs.aD,hs.op,hs.ay,hs.left,hs.cM,hs.addr,hs.mode,hs.cJ,hs.told,hs.now,hs.beyond,hs.once⟩ ((Touch.refl (aN c) w1).set c 16 _ rfl) rfl rfl rfl rfl rfl rfl
 have T1:=st.trans (h.step ((Touch.refl (aN c) w1).set c 16 (.bool false) rfl))
 have HX:=zH (zA H1 T1)
 clear H1 T1 h hs st HOK b4
 go_wp2_with fail
 go_end0
 rw [E.out]
 exact cS HX.out.1 HX.out.2
theorem Jt (c:Nat) (m:ag) (F:Nat→Prop) (w:World) (h:aT w c m F) (ok:m.Ok) (k0:m.ay≠0) (k1:m.ay≠1) (hw:m.whole=true) (b117:m.op.byte=117):Calls prog 209 #[.pointer (some ⟨c,0,none⟩)] w (fk c m.gl F w):=by
 obtain ⟨s,h⟩:=h.open
 have hs:=h.bU
 have c26:w.cell? ⟨c,26,none⟩=some (.int .i64 m.ay):=by rw [← hs.ay];exact cell_of h.raw 26
 have hlt:=h.raw.lt
 have g0:(m.ay == 0)=false:=zQ k0
 have g1:(m.ay == 1)=false:=zQ k1
 have hwh:=fg c s w h.raw (by rw [hs.op];exact ok.op)
 rw [hs.op,hs.ay,hs.left,hs.beyond,show (if m.op.jz=true then decide (m.ay=5)&&decide (m.left=8) else if m.op.data=0 then decide (m.ay=7) && !m.beyond else true)=m.whole from rfl,hw] at hwh
 have HW:=zH hwh
 have HH:=zH h
 have HOK:=zH ok
 clear hwh hw k0 k1 h ok hs
 go_enter func209,ntmps209
 go_upto_region 2 with (go_at_call 223;refine HW.out.mono ?_;rintro e w1 ⟨rfl,n1,rfl⟩)
 have h:=HH.out.aj (aY zR n1)
 have st:Step F F w (w.drewN n1):=Step.ah (aY zR n1)
 generalize w.drewN n1=w1 at *
 clear HH HW c26 g0 g1 hlt
 have hs:=h.bU
 have c20:w1.cell? ⟨c,20,none⟩=some (.int .i64 m.op.byte):=by rw [← hs.op];exact cell_of h.raw 20
 have c16:w1.cell? ⟨c,16,none⟩=some (.bool m.en):=by rw [← hs.en];exact cell_of h.raw 16
 have hf : ∀ i,w1.frozen? ⟨c,i,none⟩=false:=fun i=>aF h.raw i
 have hlt:=h.raw.lt
 have E0:m.gl=m.bN:=by unfold ag.gl;rw [b117];rfl
 rw [b117] at c20
 have c18:w1.cell? ⟨c,18,none⟩=some (.pointer s.aZ):=cell_of h.raw 18
 cases hjm:m.aZ with
 | none =>
  have e:m.bN=m:=by unfold ag.bN;rw [hjm]
  have hjn:s.aZ=none:=by have:=h.aZ;rw [hjm] at this;exact this
  rw [hjn] at c18
  rw [e] at E0
  have E:=zH E0
  have HX:=zH (zA h st)
  clear h hs st HOK b117 hjm hjn e E0
  go_wp2_with fail
  go_end0
  rw [E.out]
  exact cS HX.out.1 HX.out.2
 | some j =>
  obtain ⟨jb,hjb,hb⟩ : ∃ jb,s.aZ=some ⟨jb,0,none⟩∧w1.heap[jb]? = some (.cells j.row 192 (0,0)):=by have:=h.aZ;rw [hjm] at this;exact this
  rw [hjb] at c18
  have d0:w1.cell? ⟨jb,0,none⟩=some (.int .i64 j.av):=cell_of hb 0
  have d4:w1.cell? ⟨jb,4,none⟩=some (.bool j.ia):=cell_of hb 4
  have hfj : ∀ i,w1.frozen? ⟨jb,i,none⟩=false:=fun i=>aF hb i
  have HS:=h.ia hjm hjb hb true
  have HX:=zH (zA HS.1 (st.trans HS.2))
  have HY:=zH (zA h st)
  by_cases hsec:j.av = -1
  ·
   have e:m.bN=m:=by unfold ag.bN;rw [hjm];simp only;rw [if_pos hsec]
   rw [e] at E0
   have E:=zH E0
   rw [hsec] at d0
   clear h hs st HOK b117 hjm hjb e E0 hb HS hsec
   go_wp2_with fail
   go_end0
   rw [E.out]
   exact cS HY.out.1 HY.out.2
  ·
   have e:m.bN={ m with aZ:=some { j with ia:=true } }:=by unfold ag.bN;rw [hjm];simp only;rw [if_neg hsec]
   have gsec:(j.av == -1)=false:=zQ hsec
   rw [e] at E0
   have E:=zH E0
   clear h hs st HOK b117 hjm hjb e E0 hb HS hsec
   go_wp2_with fail
   go_end0
   rw [E.out]
   exact cS HX.out.1 HX.out.2
theorem Ju (c:Nat) (m:ag) (F:Nat→Prop) (w:World) (h:aT w c m F) (ok:m.Ok) (k0:m.ay≠0) (k1:m.ay≠1) (hw:m.whole=true) (b122:m.op.byte=122):Calls prog 209 #[.pointer (some ⟨c,0,none⟩)] w (fk c m.gl F w):=by
 obtain ⟨s,h⟩:=h.open
 have hs:=h.bU
 have c26:w.cell? ⟨c,26,none⟩=some (.int .i64 m.ay):=by rw [← hs.ay];exact cell_of h.raw 26
 have hlt:=h.raw.lt
 have g0:(m.ay == 0)=false:=zQ k0
 have g1:(m.ay == 1)=false:=zQ k1
 have hwh:=fg c s w h.raw (by rw [hs.op];exact ok.op)
 rw [hs.op,hs.ay,hs.left,hs.beyond,show (if m.op.jz=true then decide (m.ay=5)&&decide (m.left=8) else if m.op.data=0 then decide (m.ay=7) && !m.beyond else true)=m.whole from rfl,hw] at hwh
 have HW:=zH hwh
 have HH:=zH h
 have HOK:=zH ok
 clear hwh hw k0 k1 h ok hs
 go_enter func209,ntmps209
 go_upto_region 2 with (go_at_call 223;refine HW.out.mono ?_;rintro e w1 ⟨rfl,n1,rfl⟩)
 have h:=HH.out.aj (aY zR n1)
 have st:Step F F w (w.drewN n1):=Step.ah (aY zR n1)
 generalize w.drewN n1=w1 at *
 clear HH HW c26 g0 g1 hlt
 have hs:=h.bU
 have c20:w1.cell? ⟨c,20,none⟩=some (.int .i64 m.op.byte):=by rw [← hs.op];exact cell_of h.raw 20
 have c16:w1.cell? ⟨c,16,none⟩=some (.bool m.en):=by rw [← hs.en];exact cell_of h.raw 16
 have hf : ∀ i,w1.frozen? ⟨c,i,none⟩=false:=fun i=>aF h.raw i
 have hlt:=h.raw.lt
 have E0:m.gl=m.gM:=by unfold ag.gl;rw [b122];rfl
 rw [b122] at c20
 have c18:w1.cell? ⟨c,18,none⟩=some (.pointer s.aZ):=cell_of h.raw 18
 cases hjm:m.aZ with
 | none =>
  have e:m.gM=m:=by unfold ag.gM;rw [hjm]
  have hjn:s.aZ=none:=by have:=h.aZ;rw [hjm] at this;exact this
  rw [hjn] at c18
  rw [e] at E0
  have E:=zH E0
  have HX:=zH (zA h st)
  clear h hs st HOK b122 hjm hjn e E0
  go_wp2_with fail
  go_end0
  rw [E.out]
  exact cS HX.out.1 HX.out.2
 | some j =>
  obtain ⟨jb,hjb,hb⟩ : ∃ jb,s.aZ=some ⟨jb,0,none⟩∧w1.heap[jb]? = some (.cells j.row 192 (0,0)):=by have:=h.aZ;rw [hjm] at this;exact this
  rw [hjb] at c18
  have d0:w1.cell? ⟨jb,0,none⟩=some (.int .i64 j.av):=cell_of hb 0
  have d4:w1.cell? ⟨jb,4,none⟩=some (.bool j.ia):=cell_of hb 4
  have hfj : ∀ i,w1.frozen? ⟨jb,i,none⟩=false:=fun i=>aF hb i
  have HS:=h.ia hjm hjb hb false
  have HX:=zH (zA HS.1 (st.trans HS.2))
  have HY:=zH (zA h st)
  have e:m.gM={ m with aZ:=some { j with ia:=false } }:=by unfold ag.gM;rw [hjm]
  rw [e] at E0
  have E:=zH E0
  clear h hs st HOK b122 hjm hjb e E0 hb HS
  go_wp2_with fail
  go_end0
  rw [E.out]
  exact cS HX.out.1 HX.out.2
theorem Ld (c:Nat) (m:ag) (F:Nat→Prop) (w:World) (h:aT w c m F) (ok:m.Ok) (k0:m.ay≠0) (k1:m.ay≠1) (hw:m.whole=true) (b32:m.op.byte=32):Calls prog 209 #[.pointer (some ⟨c,0,none⟩)] w (fk c m.gl F w):=by
 obtain ⟨s,h⟩:=h.open
 have hs:=h.bU
 have c26:w.cell? ⟨c,26,none⟩=some (.int .i64 m.ay):=by rw [← hs.ay];exact cell_of h.raw 26
 have hlt:=h.raw.lt
 have g0:(m.ay == 0)=false:=zQ k0
 have g1:(m.ay == 1)=false:=zQ k1
 have hwh:=fg c s w h.raw (by rw [hs.op];exact ok.op)
 rw [hs.op,hs.ay,hs.left,hs.beyond,show (if m.op.jz=true then decide (m.ay=5)&&decide (m.left=8) else if m.op.data=0 then decide (m.ay=7) && !m.beyond else true)=m.whole from rfl,hw] at hwh
 have HW:=zH hwh
 have HH:=zH h
 have HOK:=zH ok
 clear hwh hw k0 k1 h ok hs
 go_enter func209,ntmps209
 go_upto_region 2 with (go_at_call 223;refine HW.out.mono ?_;rintro e w1 ⟨rfl,n1,rfl⟩)
 have h:=HH.out.aj (aY zR n1)
 have st:Step F F w (w.drewN n1):=Step.ah (aY zR n1)
 generalize w.drewN n1=w1 at *
 clear HH HW c26 g0 g1 hlt
 have hs:=h.bU
 have c20:w1.cell? ⟨c,20,none⟩=some (.int .i64 m.op.byte):=by rw [← hs.op];exact cell_of h.raw 20
 have c16:w1.cell? ⟨c,16,none⟩=some (.bool m.en):=by rw [← hs.en];exact cell_of h.raw 16
 have hf : ∀ i,w1.frozen? ⟨c,i,none⟩=false:=fun i=>aF h.raw i
 have hlt:=h.raw.lt
 have okk:=HOK.out
 have c29:w1.cell? ⟨c,29,none⟩=some (.int .i64 m.addr):=by rw [← hs.addr];exact cell_of h.raw 29
 have ha0:=okk.fU
 have ha1:=okk.gE
 have E:=zH (show m.gl=m.erases by unfold ag.gl;rw [b32];rfl)
 rw [b32] at c20
 have h2:=h.aj (ae zR (.cells #[.int .i64 (m.addr / 512),.int .i64 0,.string { data := #[] },.int .i64 0,.bool false] 192))
 have HS:=zH (sB c w1.heap.size s m ⟨m.addr / 512,0,ByteArray.empty,0,false⟩ F (w1.alloc (.cells #[.int .i64 (m.addr / 512),.int .i64 0,.string { data := #[] },.int .i64 0,.bool false] 192)) h2 (af _ _) (fun hF=>Nat.lt_irrefl _ (h.lt _ hF)) (.inr ⟨(m.addr / 512).toNat,by simp only;omega,by omega⟩) ha0 ha1 (fun ba bc e1 b o e2 hl e3=>by
   obtain ⟨a',c',f1,f2,f3,_⟩:=h.busy.ex
   rw [e1] at f1
   obtain ⟨rfl,rfl⟩:ba=a'∧bc=c':=by simpa using f1
   obtain ⟨b',o',g1,g2⟩:=f2 0 hl
   rw [e2] at g1
   obtain ⟨rfl,rfl⟩:b=b'∧o=o':=by simpa using g1
   have:=zL w1 _ g2
   simp at this
   omega))
 have HX:=zH (zA h st)
 have st2:Step F F w (w1.alloc (.cells #[.int .i64 (m.addr / 512),.int .i64 0,.string { data := #[] },.int .i64 0,.bool false] 192)):=st.trans (Step.ah (ae zR _))
 have HT:=zH st2
 have hsz:w.heap.size≤w1.heap.size:=st.aH.size
 clear h hs st HOK b32 h2 st2 okk
 go_wp2_with fail
 refine HS.out.mono ?_
 rintro e w3 ⟨rfl,F',hC,t,hf'⟩
 go_wp2_with fail
 go_end0
 rw [E.out]
 exact ⟨rfl,F',hC,⟨HT.out.aH.then t (fun b hb=>hb.imp id (fun e=>by rw [e];exact hsz)),fun b hb=>(hf' b hb).imp id (fun e=>by rw [e];exact hsz)⟩⟩
theorem Jv (c:Nat) (m:ag) (F:Nat→Prop) (w:World) (h:aT w c m F) (ok:m.Ok) (k0:m.ay≠0) (k1:m.ay≠1) (hw:m.whole=true) (b235:m.op.byte=235):Calls prog 209 #[.pointer (some ⟨c,0,none⟩)] w (fk c m.gl F w):=by
 obtain ⟨s,h⟩:=h.open
 have hs:=h.bU
 have c26:w.cell? ⟨c,26,none⟩=some (.int .i64 m.ay):=by rw [← hs.ay];exact cell_of h.raw 26
 have hlt:=h.raw.lt
 have g0:(m.ay == 0)=false:=zQ k0
 have g1:(m.ay == 1)=false:=zQ k1
 have hwh:=fg c s w h.raw (by rw [hs.op];exact ok.op)
 rw [hs.op,hs.ay,hs.left,hs.beyond,show (if m.op.jz=true then decide (m.ay=5)&&decide (m.left=8) else if m.op.data=0 then decide (m.ay=7) && !m.beyond else true)=m.whole from rfl,hw] at hwh
 have HW:=zH hwh
 have HH:=zH h
 have HOK:=zH ok
 clear hwh hw k0 k1 h ok hs
 go_enter func209,ntmps209
 go_upto_region 2 with (go_at_call 223;refine HW.out.mono ?_;rintro e w1 ⟨rfl,n1,rfl⟩)
 have h:=HH.out.aj (aY zR n1)
 have st:Step F F w (w.drewN n1):=Step.ah (aY zR n1)
 generalize w.drewN n1=w1 at *
 clear HH HW c26 g0 g1 hlt
 have hs:=h.bU
 have c20:w1.cell? ⟨c,20,none⟩=some (.int .i64 m.op.byte):=by rw [← hs.op];exact cell_of h.raw 20
 have c16:w1.cell? ⟨c,16,none⟩=some (.bool m.en):=by rw [← hs.en];exact cell_of h.raw 16
 have hf : ∀ i,w1.frozen? ⟨c,i,none⟩=false:=fun i=>aF h.raw i
 have hlt:=h.raw.lt
 have E:=zH (show m.gl={ m with aD:=m.cJ&&decide (m.mode=160) } by unfold ag.gl;rw [b235];rfl)
 rw [b235] at c20
 have c30:w1.cell? ⟨c,30,none⟩=some (.int .i64 m.mode):=by rw [← hs.mode];exact cell_of h.raw 30
 have c31:w1.cell? ⟨c,31,none⟩=some (.bool m.cJ):=by rw [← hs.cJ];exact cell_of h.raw 31
 have c17:w1.cell? ⟨c,17,none⟩=some (.bool s.aD):=cell_of h.raw 17
 have H1:=fun v=>h.block (s':={ s with aD:=v }) (m':={ m with aD:=v }) (w':=w1.setCell ⟨c,17,none⟩ (.bool v)) (az (i:=17) (v:=.bool v) h.raw) ⟨hs.cells,hs.bq,hs.bk,hs.dP,hs.en,rfl,hs.op,hs.ay,hs.left,hs.cM,hs.addr,hs.mode,hs.cJ,hs.told,hs.now,hs.beyond,hs.once⟩ ((Touch.refl (aN c) w1).set c 17 _ rfl) rfl rfl rfl rfl rfl rfl
 have T1:=fun v=>st.trans (h.step ((Touch.refl (aN c) w1).set c 17 (.bool v) rfl))
 have HX:=zH (fun v=>zA (H1 v) (T1 v))
 clear H1 T1 h hs st HOK b235
 cases hm:m.cJ with
 | true =>
  rw [hm] at c31
  go_wp2_with fail
  go_end0
  have hv:(m.cJ&&decide (m.mode=160))=(m.mode == 160):=by rw [hm];rfl
  have e1:=E.out
  rw [hv] at e1
  rw [e1]
  exact cS (HX.out (m.mode == 160)).1 (HX.out (m.mode == 160)).2
 | false =>
  rw [hm] at c31
  go_wp2_with fail
  go_end0
  have hv:(m.cJ&&decide (m.mode=160))=false:=by rw [hm];rfl
  have e1:=E.out
  rw [hv] at e1
  rw [e1]
  exact cS (HX.out false).1 (HX.out false).2
theorem GR {w:World} {c:Nat} {m:ag} {F:Nat→Prop} (h:aT w c m F):w.cell? ⟨c,29,none⟩=some (.int .i64 m.addr):=by
 obtain ⟨s,h⟩:=h.open
 rw [← h.bU.addr];exact cell_of h.raw 29
theorem Dr (m:ag) (j:iC):(m.dN j).addr=m.addr:=by unfold ag.dN;split;rfl;split <;> rfl
theorem D6 {w:World} {c:Nat} {s:Raw} {m:ag} {F:Nat→Prop} (h:bK w c s m F) (jb:Nat) (hj:w.heap.size≤jb) : ∀ ba bc,s.busy=.slice ba m.busy.length bc → ∀ b o,ba=some ⟨b,o,none⟩→0<m.busy.length→b≠jb:=by
 intro ba bc e1 b o e2 hl e3
 obtain ⟨a',c',f1,f2,f3,_⟩:=h.busy.ex
 rw [e1] at f1
 obtain ⟨rfl,rfl⟩:ba=a'∧bc=c':=by simpa using f1
 obtain ⟨b',o',g1,g2⟩:=f2 0 hl
 rw [e2] at g1
 obtain ⟨rfl,rfl⟩:b=b'∧o=o':=by simpa using g1
 have:=zL w _ g2
 simp at this
 omega
theorem Mw (c:Nat) (m:ag) (F:Nat→Prop) (w:World) (h:aT w c m F) (ok:m.Ok) (k0:m.ay≠0) (k1:m.ay≠1) (hw:m.whole=true) (b2:m.op.byte=2):Calls prog 209 #[.pointer (some ⟨c,0,none⟩)] w (fk c m.gl F w):=by
 obtain ⟨s,h⟩:=h.open
 have hs:=h.bU
 have c26:w.cell? ⟨c,26,none⟩=some (.int .i64 m.ay):=by rw [← hs.ay];exact cell_of h.raw 26
 have hlt:=h.raw.lt
 have g0:(m.ay == 0)=false:=zQ k0
 have g1:(m.ay == 1)=false:=zQ k1
 have hwh:=fg c s w h.raw (by rw [hs.op];exact ok.op)
 rw [hs.op,hs.ay,hs.left,hs.beyond,show (if m.op.jz=true then decide (m.ay=5)&&decide (m.left=8) else if m.op.data=0 then decide (m.ay=7) && !m.beyond else true)=m.whole from rfl,hw] at hwh
 have HW:=zH hwh
 have HH:=zH h
 have HOK:=zH ok
 clear hwh hw k0 k1 h ok hs
 go_enter func209,ntmps209
 go_upto_region 2 with (go_at_call 223;refine HW.out.mono ?_;rintro e w1 ⟨rfl,n1,rfl⟩)
 have h:=HH.out.aj (aY zR n1)
 have st:Step F F w (w.drewN n1):=Step.ah (aY zR n1)
 generalize w.drewN n1=w1 at *
 clear HH HW c26 g0 g1 hlt
 have hs:=h.bU
 have c20:w1.cell? ⟨c,20,none⟩=some (.int .i64 m.op.byte):=by rw [← hs.op];exact cell_of h.raw 20
 have c16:w1.cell? ⟨c,16,none⟩=some (.bool m.en):=by rw [← hs.en];exact cell_of h.raw 16
 have hf : ∀ i,w1.frozen? ⟨c,i,none⟩=false:=fun i=>aF h.raw i
 have hlt:=h.raw.lt
 have hdata:=(bw.cZ h.data).ints
 obtain ⟨da,dc,hda,hdi⟩:=hdata
 have c32:w1.cell? ⟨c,32,none⟩=some (.slice da m.data.length dc):=by rw [← hda];exact cell_of h.raw 32
 have okk:=HOK.out
 have ha0:=okk.fU
 have ha1:=okk.gE
 rw [b2] at c20
 by_cases hl:0<m.data.length
 case neg =>
  have E:=zH (show m.gl=m by unfold ag.gl;rw [b2];show m.js=m;unfold ag.js;rw [if_neg hl])
  have HX:=zH (zA h st)
  have g2:(m.data.length:Int)=0:=by omega
  clear h hs st HOK b2 hda hdi okk hl
  go_wp2_with fail
  go_end0
  rw [E.out]
  exact cS HX.out.1 HX.out.2
 obtain ⟨A,hA⟩:=Int.eq_ofNat_of_zero_le ha0
 have hpg:IntKind.i64.wrap ((A:Int) - (A:Int).tmod 32)=(A:Int) - (A:Int) % 32:=by rw [Int.tmod_eq_emod_of_nonneg (by omega)];exact cX (by omega) (by omega)
 have E:=zH (show m.gl=m.dN ⟨-1,IntKind.i64.wrap ((A:Int) - (A:Int).tmod 32),lz A m.data,0,false⟩ by unfold ag.gl;rw [b2];show m.js=_;unfold ag.js;rw [if_pos hl,hA,hpg])
 have c29:w1.cell? ⟨c,29,none⟩=some (.int .i64 A):=by rw [← hA,← hs.addr];exact cell_of h.raw 29
 have HP:=zH (EO c s A da dc m.data w1.drew h.raw (by rw [hs.addr];exact hA) (by omega) hda hdi (by have:=okk.data;omega))
 have HF:=zH (fun jb hj=>D6 h jb hj)
 have hN : ∀ b,w1.heap.size≤b → ¬ F b:=fun b hb hF=>Nat.lt_irrefl _ (zV (h.lt b hF) hb)
 have hl':(0:Int)<(m.data.length:Int):=by omega
 have hsz:w.heap.size≤w1.heap.size:=st.aH.size
 have HH:=zH (zA h st)
 have HR:=zH (Dr m ⟨-1,IntKind.i64.wrap ((A:Int) - (A:Int).tmod 32),lz A m.data,0,false⟩)
 generalize lz A m.data=pg at *
 clear h hs st HOK b2 hda hdi okk hl hpg
 go_upto_region 18 with (fail)
 go_region_held3 (fun w'=>w'.cell? ⟨c,29,none⟩=some (.int .i64 A)) (first | exact c29 | exact c29' | exact (World.cell?_alloc_lt _ _ _ hlt3).trans c29' | exact (GR hC).trans (congrArg (fun a=>some (Value.int .i64 a)) (HR.out.trans hA)) | go_keep) (first
   | (go_at_call 225;(with_reducible refine HP.out.mono ?_);rintro e w3 ⟨rfl,hb3⟩;have hb13:=gtr (au (Below.refl _ w1)) hb3;have h3:=HH.out.1.aj hb13;have c29':w3.cell? ⟨c,29,none⟩=some (.int .i64 A):=(hb13.cell (p:=⟨c,29,none⟩) hlt).trans c29;have hlt3:=zV hlt hb13.size)
   | (go_at_call 224;(with_reducible refine (sB c w3.heap.size s m ⟨-1,IntKind.i64.wrap ((A:Int) - (A:Int).tmod 32),pg,0,false⟩ F (w3.alloc (.cells #[.int .i64 (-1),.int .i64 (IntKind.i64.wrap ((A:Int) - (A:Int).tmod 32)),.string pg,.int .i64 0,.bool false] 192)) (h3.aj (ae zR _)) (af _ _) (hN _ hb13.size) (.inl rfl) ha0 ha1 (HF.out _ hb13.size)).mono ?_);rintro e w4 ⟨rfl,F',hC,t4,hf4⟩))
 all_goals
  go_wp2_with fail
  go_end0
  rw [E.out]
  exact ⟨rfl,F',hC,⟨((HH.out.2.trans (Step.ah hb13)).aH.alloc _).then t4 (fun b hb=>hb.imp id (fun e=>by rw [e];exact Nat.le_trans hsz hb13.size)),fun b hb=>(hf4 b hb).imp id (fun e=>by rw [e];exact Nat.le_trans hsz hb13.size)⟩⟩
theorem Hc (c:Nat) (m:ag) (F:Nat→Prop) (w:World) (h:aT w c m F) (ok:m.Ok) (k0:m.ay≠0) (k1:m.ay≠1) (hw:m.whole=true) (n6 : ¬ m.op.byte=6) (n4 : ¬ m.op.byte=4) (n117 : ¬ m.op.byte=117) (n122 : ¬ m.op.byte=122) (nn1 : ¬ m.op.byte=1) (b2 : ¬ m.op.byte=2) (n32 : ¬ m.op.byte=32) (n235 : ¬ m.op.byte=235):Calls prog 209 #[.pointer (some ⟨c,0,none⟩)] w (fk c m.gl F w):=by
 obtain ⟨s,h⟩:=h.open
 have hs:=h.bU
 have c26:w.cell? ⟨c,26,none⟩=some (.int .i64 m.ay):=by rw [← hs.ay];exact cell_of h.raw 26
 have hlt:=h.raw.lt
 have g0:(m.ay == 0)=false:=zQ k0
 have g1:(m.ay == 1)=false:=zQ k1
 have hwh:=fg c s w h.raw (by rw [hs.op];exact ok.op)
 rw [hs.op,hs.ay,hs.left,hs.beyond,show (if m.op.jz=true then decide (m.ay=5)&&decide (m.left=8) else if m.op.data=0 then decide (m.ay=7) && !m.beyond else true)=m.whole from rfl,hw] at hwh
 have HW:=zH hwh
 have HH:=zH h
 have HOK:=zH ok
 clear hwh hw k0 k1 h ok hs
 go_enter func209,ntmps209
 go_upto_region 2 with (go_at_call 223;refine HW.out.mono ?_;rintro e w1 ⟨rfl,n1,rfl⟩)
 have h:=HH.out.aj (aY zR n1)
 have st:Step F F w (w.drewN n1):=Step.ah (aY zR n1)
 generalize w.drewN n1=w1 at *
 clear HH HW c26 g0 g1 hlt
 have hs:=h.bU
 have c20:w1.cell? ⟨c,20,none⟩=some (.int .i64 m.op.byte):=by rw [← hs.op];exact cell_of h.raw 20
 have c16:w1.cell? ⟨c,16,none⟩=some (.bool m.en):=by rw [← hs.en];exact cell_of h.raw 16
 have hf : ∀ i,w1.frozen? ⟨c,i,none⟩=false:=fun i=>aF h.raw i
 have hlt:=h.raw.lt
 have E:=zH (show m.gl=m by unfold ag.gl;rw [if_neg n6,if_neg n4,if_neg n117,if_neg n122,if_neg nn1,if_neg b2,if_neg n32,if_neg n235])
 have y6:(m.op.byte == 6)=false:=zQ n6
 have y4:(m.op.byte == 4)=false:=zQ n4
 have y117:(m.op.byte == 117)=false:=zQ n117
 have y122:(m.op.byte == 122)=false:=zQ n122
 have y1:(m.op.byte == 1)=false:=zQ nn1
 have y2:(m.op.byte == 2)=false:=zQ b2
 have y32:(m.op.byte == 32)=false:=zQ n32
 have y235:(m.op.byte == 235)=false:=zQ n235
 have HX:=zH (zA h st)
 clear h hs st HOK n6 n4 n117 n122 nn1 b2 n32 n235
 go_wp2_with fail
 go_end0
 rw [E.out]
 exact cS HX.out.1 HX.out.2
theorem Jw (c:Nat) (m:ag) (F:Nat→Prop) (w:World) (h:aT w c m F) (ok:m.Ok) (k:m.ay=0∨m.ay=1∨m.whole=false):Calls prog 209 #[.pointer (some ⟨c,0,none⟩)] w (fk c m F w):=by
 obtain ⟨s,h⟩:=h.open
 have hs:=h.bU
 have c26:w.cell? ⟨c,26,none⟩=some (.int .i64 m.ay):=by rw [← hs.ay];exact cell_of h.raw 26
 by_cases k0:m.ay=0
 ·
  rw [k0] at c26
  have HH:=zH h
  clear h hs k0 ok k
  go_enter func209,ntmps209
  go_wp2_with fail
  go_end0
  exact cS HH.out (Step.refl _ _)
 by_cases k1:m.ay=1
 ·
  rw [k1] at c26
  have HH:=zH h
  clear h hs k0 k1 ok k
  go_enter func209,ntmps209
  go_wp2_with fail
  go_end0
  exact cS HH.out (Step.refl _ _)
 have hw:=(k.resolve_left k0).resolve_left k1
 have g0:(m.ay == 0)=false:=zQ k0
 have g1:(m.ay == 1)=false:=zQ k1
 have hwh:=fg c s w h.raw (by rw [hs.op];exact ok.op)
 rw [hs.op,hs.ay,hs.left,hs.beyond,show (if m.op.jz=true then decide (m.ay=5)&&decide (m.left=8) else if m.op.data=0 then decide (m.ay=7) && !m.beyond else true)=m.whole from rfl,hw] at hwh
 have HW:=zH hwh
 have HH:=zH h
 clear h hs k0 k1 ok hwh hw k
 go_enter func209,ntmps209
 go_wp2_with (go_at_call 223;refine HW.out.mono ?_;rintro e w1 ⟨rfl,n1,rfl⟩)
 go_end0
 exact cS (HH.out.aj (aY zR n1)) (Step.ah (aY zR n1))
theorem wL (c:Nat) (m:ag) (F:Nat→Prop) (w:World) (h:aT w c m F) (ok:m.Ok) (put:m.op.byte=1→m.ay≠0→m.ay≠1→m.whole=true→Calls prog 209 #[.pointer (some ⟨c,0,none⟩)] w (fk c m.gl F w)):Calls prog 209 #[.pointer (some ⟨c,0,none⟩)] w (fk c m.ends F w):=by
 by_cases k:m.ay=0∨m.ay=1∨m.whole=false
 ·
  have e:m.ends=m:=by unfold ag.ends;rw [if_pos k]
  rw [e];exact Jw c m F w h ok k
 have e:m.ends=m.gl:=by unfold ag.ends;rw [if_neg k]
 rw [e]
 have k0:m.ay≠0:=fun e=>k (.inl e)
 have k1:m.ay≠1:=fun e=>k (.inr (.inl e))
 have hw:m.whole=true:=by cases hh:m.whole with | true=>rfl | false=>exact absurd (.inr (.inr hh)) k
 by_cases b6:m.op.byte=6;· exact My c m F w h ok k0 k1 hw b6
 by_cases b4:m.op.byte=4;· exact Mx c m F w h ok k0 k1 hw b4
 by_cases b117:m.op.byte=117;· exact Jt c m F w h ok k0 k1 hw b117
 by_cases b122:m.op.byte=122;· exact Ju c m F w h ok k0 k1 hw b122
 by_cases b1:m.op.byte=1;· exact put b1 k0 k1 hw
 by_cases b2:m.op.byte=2;· exact Mw c m F w h ok k0 k1 hw b2
 by_cases b32:m.op.byte=32;· exact Ld c m F w h ok k0 k1 hw b32
 by_cases b235:m.op.byte=235;· exact Jv c m F w h ok k0 k1 hw b235
 exact Hc c m F w h ok k0 k1 hw b6 b4 b117 b122 b1 b2 b32 b235
def putAt:Array Value→Nat→List Value→Array Value
 | cur,_,[]=>cur
 | cur,k,v::r=>putAt (cur.setIfInBounds k v) (k+1) r
theorem Dm (w:World) (g:Nat) (cur:Array Value) (t:TypeId) (hg:w.heap[g]? = some (.cells cur t (0,0))):w.setRow g cur=w:=by
 have hlt:g<w.heap.size:=(Array.getElem?_eq_some_iff.1 hg).1
 have hv:w.heap[g]=.cells cur t (0,0):=(Array.getElem?_eq_some_iff.1 hg).2
 unfold World.setRow
 cases w with
 | mk heap tape drawn os output =>
  congr 1
  apply Array.ext
  ·
   simp
  ·
   intro k h1 h2
   simp only [Array.getElem_modify]
   split
   ·
    rename_i hk;subst hk;simp at hv;simp [hv]
   ·
    rfl
theorem bj (w:World) (g:Nat) (a:Array Value) (k:Nat) (h:k≠g):(w.setRow g a).heap[k]? = w.heap[k]? := by
 unfold World.setRow
 simp only [Array.getElem?_modify]
 rw [if_neg (Ne.symm h)]
theorem jw {F:Nat→Prop} {a b:World} (h:Touch F a b) (g:Nat) (r:Array Value) (hg:F g):Touch F a (b.setRow g r) :=
 ⟨h.os,h.tape,h.output,by show _≤(b.heap.modify _ _).size;simp;exact h.size,fun k hk hn=>(bj _ _ _ _ (fun e=>hn (by rw [e];exact hg))).trans (h.block k hk hn)⟩
theorem run_storeCells_at (g o:Nat) (t:TypeId) : ∀ (vs:List Value) (i:Nat) (cur:Array Value) (w:World),w.heap[g]? = some (.cells cur t (0,0))→o+i+vs.length≤cur.size→(∀ v ∈ vs,v.oneCell'=true)→(storeCells ⟨g,o,none⟩ vs i).run prog w=.ok () (w.setRow g (putAt cur (o+i) vs))
 | [],i,cur,w,hg,hl,_=>by
  simp only [storeCells,putAt]
  show Result.ok () w=_
  rw [Dm w g cur t hg]
 | v::rest,i,cur,w,hg,hl,h1=>by
  have hi:o+i<cur.size:=by simp at hl;omega
  have hcell:w.cell? ⟨g,o+i,none⟩=some cur[o+i]:=by simp [World.cell?,hg,hi]
  have hfro:w.frozen? ⟨g,o+i,none⟩=false:=by simp [World.frozen?,hg]
  have hst:(store ((⟨g,o,none⟩:Addr).add i) v).run prog w=.ok () (w.setRow g (cur.setIfInBounds (o+i) v)):=by
   rw [dh,run_store prog w _ v _ (h1 v (by simp)),hcell]
   simp [hfro,setCell_eq_setRow w g (o+i) cur t (0,0) v hg]
  have ih:=run_storeCells_at g o t rest (i+1) (cur.setIfInBounds (o+i) v) (w.setRow g (cur.setIfInBounds (o+i) v)) (setRow_heap w g cur _ t _ hg) (by simp at hl ⊢;omega) (fun x hx=>h1 x (by simp [hx]))
  simp only [storeCells,Sem.run_bind,hst,Result.andThen_ok,ih,setRow_setRow,putAt]
  rfl
theorem dR {ops:Array Oper} {rest:List Oper} {p:Oper} {a:Act} {w:World} {Q:Exit→Act→World→Prop} (hgd:p.guard=none) (ty:TypeId) (x y:Operand) (ho:p.op=.store ty x y) (g o:Nat) (cells:Array Value) (hx:a.eval x=.pointer (some ⟨g,o,none⟩)) (hy:a.eval y=.agg cells) (t:TypeId) (old:Array Value) (hg:w.heap[g]? = some (.cells old t (0,0))) (hi:(prog.info? ty).map (·.size)=some cells.size) (hold:o+cells.size≤old.size) (h1:cells.all (·.oneCell')=true) (h:wpList prog ops Q rest (a.put p.dst undef) (w.setRow g (putAt old o cells.toList))):wpList prog ops Q (p::rest) a w:=by
 refine wpList_plain hgd fun K hK => ?_
 have hrun:(storeVar ty ⟨g,o,none⟩ (.agg cells)).run prog w=.ok () (w.setRow g (putAt old o cells.toList)):=by
  have:=run_storeCells_at g o t cells.toList 0 old w hg (by simp;omega) (fun v hv=>(Array.all_eq_true_iff_forall_mem.1 h1) v (by simpa using hv))
  cases hq:prog.info? ty with
  | none=>simp [hq] at hi
  | some i =>
   have hs:cells.size=i.size:=by simp [hq] at hi;omega
   simp [storeVar,sizeOf,typeInfo,hq,Value.cells,hs,this]
 unfold Oper.wp execOp
 simp only [ho,hx,hy,Instr.storeAt,Instr.sureAddr,Sem.run_bind,Sem.run_pure,Result.andThen_ok,hrun]
 exact hK _ _ h
def ag.yi (m:ag) (b:Int):Bool :=
 if b=5∨b=53∨b=117 then true else if b=107∨b=235 then m.bk && !m.bQ else if b=1∨b=2∨b=32 then m.aZ.isNone else !m.bQ
def ag.known (m:ag) (b:Int):Bool:=decide (gF b=0)&&m.yi (ak b).byte
def ag.enter (m:ag) (st cl:Int):ag:={ m with ay:=st,left:=cl,cM:=0 }
def ag.behind (m:ag):ag :=
 if m.op.mode=true∧m.cJ=false then m.enter 3 (many m.op.addr)
 else if 0<m.op.dummy∧m.ay≠4 then m.enter 4 m.op.dummy
 else if m.op.data=0 then m.enter 7 0
 else if m.op.jz=true then m.enter 5 (many m.op.data)
 else m.enter 6 0
def ag.cT (m:ag) (b:Int):ag :=
 if m.known b=false then { m with op:=ak b }.enter 1 0
 else if 0<(ak b).addr then { m with op:=ak b }.enter 2 (if (ak b).addr=1 then 24 else 6)
 else { m with op:=ak b }.behind
theorem pW.enter {s:Raw} {m:ag} (h:pW s m) (st cl:Int):pW (s.enter st cl) (m.enter st cl) :=
 ⟨h.cells,h.bq,h.bk,h.dP,h.en,h.aD,h.op,rfl,rfl,rfl,h.addr,h.mode,h.cJ,h.told,h.now,h.beyond,h.once⟩
theorem pW.NO {s:Raw} {m:ag} (h:pW s m) (r:gD):pW { s with op:=r } { m with op:=r } :=
 ⟨h.cells,h.bq,h.bk,h.dP,h.en,h.aD,rfl,h.ay,h.left,h.cM,h.addr,h.mode,h.cJ,h.told,h.now,h.beyond,h.once⟩
theorem pW.behind {s:Raw} {m:ag} (h:pW s m):pW s.behind m.behind:=by
 unfold Raw.behind ag.behind
 rw [h.op,h.cJ,h.ay]
 split
 ·
  exact h.enter _ _
 ·
  split
  ·
   exact h.enter _ _
  ·
   split
   ·
    exact h.enter _ _
   ·
    split <;> exact h.enter _ _
theorem EA {s:Raw} {m:ag} (h:pW s m) (b:Int):oN s m.aZ b=m.known b:=by
 unfold oN ag.known pq ag.yi
 rw [h.bk];rfl
theorem pW.cT {s:Raw} {m:ag} (h:pW s m) (b:Int):pW (s.cT m.aZ b) (m.cT b):=by
 unfold Raw.cT ag.cT
 rw [EA h]
 split
 ·
  exact (h.NO _).enter _ _
 ·
  split
  ·
   exact (h.NO _).enter _ _
  ·
   exact (h.NO _).behind
theorem tQ (s:Raw):s.behind.aZ=s.aZ∧s.behind.busy=s.busy∧s.behind.data=s.data:=by
 unfold Raw.behind;split;exact ⟨rfl,rfl,rfl⟩;split;exact ⟨rfl,rfl,rfl⟩;split;exact ⟨rfl,rfl,rfl⟩;split <;> exact ⟨rfl,rfl,rfl⟩
theorem BV (s:Raw) (j:Option iC) (b:Int):(s.cT j b).aZ=s.aZ∧(s.cT j b).busy=s.busy∧(s.cT j b).data=s.data:=by
 unfold Raw.cT;split;exact ⟨rfl,rfl,rfl⟩;split;exact ⟨rfl,rfl,rfl⟩;exact tQ _
theorem iv (m:ag):m.behind.aZ=m.aZ∧m.behind.busy=m.busy∧m.behind.data=m.data:=by
 unfold ag.behind;split;exact ⟨rfl,rfl,rfl⟩;split;exact ⟨rfl,rfl,rfl⟩;split;exact ⟨rfl,rfl,rfl⟩;split <;> exact ⟨rfl,rfl,rfl⟩
theorem mX (m:ag) (b:Int):(m.cT b).aZ=m.aZ∧(m.cT b).busy=m.busy∧(m.cT b).data=m.data:=by
 unfold ag.cT;split;exact ⟨rfl,rfl,rfl⟩;split;exact ⟨rfl,rfl,rfl⟩;exact iv _
theorem iU (m:ag):m.behind.home=m.home:=by
 unfold ag.behind;split;rfl;split;rfl;split;rfl;split <;> rfl
theorem ou (m:ag) (b:Int):(m.cT b).home=m.home:=by
 unfold ag.cT;split;rfl;split;rfl;exact iU _
theorem mD (c:Nat) (s:Raw) (m:ag) (F:Nat→Prop) (b:Int) (w:World) (h:bK w c s m F):Calls prog 205 #[.pointer (some ⟨c,0,none⟩),.int .i64 b] w fun e w'=>e=.returned (.tuple #[])∧bK w' c (s.cT m.aZ b) (m.cT b) F∧Touch (aN c) w w':=by
 refine (AO c s m.aZ b w h.raw h.aZ).mono ?_
 rintro e w' ⟨rfl,g,t⟩
 obtain ⟨e1,e2,e3⟩:=BV s m.aZ b
 obtain ⟨f1,f2,f3⟩:=mX m b
 exact ⟨rfl,h.block g (h.bU.cT b) t e1 f1 e2 f2 e3 f3 (ou m b),t⟩
def ag.fresh (m:ag):ag:={ m with dP:=true,op:=gD.zero,ay:=0,left:=8,cM:=0,addr:=0,mode:=0,cJ:=false,data:=[],told:=0,now:=0,beyond:=false }
def ag.select (m:ag):ag:=if m.aD then m.fresh.cT 235 else m.fresh
def yr:Array Value := #[.int .i64 0,.int .i64 0,.bool false,.int .i64 0,.int .i64 0,.bool false,.int .i64 0,.int .i64 8,.int .i64 0,.int .i64 0,.int .i64 0,.bool false,.slice none 0 0,.int .i64 0,.int .i64 0,.bool false]
theorem I9:yr.all (·.oneCell')=true:=by simp [yr,Value.oneCell']
theorem Lo:(prog.info? 127).map (·.size)=some yr.size:=by kernel_rfl
def Raw.fresh (s:Raw):Raw:={ s with dP:=true,op:=gD.zero,ay:=0,left:=8,cM:=0,addr:=0,mode:=0,cJ:=false,data:=.slice none 0 0,told:=0,now:=0,beyond:=false }
theorem Ka {w:World} {c:Nat} {s:Raw} (h:aV w c { s with dP:=true }):aV (w.setRow c (putAt ({ s with dP:=true }:Raw).row 20 yr.toList)) c s.fresh:=by
 have e:putAt ({ s with dP:=true }:Raw).row 20 yr.toList=s.fresh.row:=by simp [putAt,yr,Raw.row,gD.zero,Raw.fresh]
 rw [e]
 exact setRow_heap w c _ _ 131 (0,0) h
theorem Ec {w w':World} {c:Nat} {s:Raw} {m:ag} {F:Nat→Prop} (h:bK w c s m F) (g:aV w' c s.fresh) (t:Touch (aN c) w w'):bK w' c s.fresh m.fresh F:=by
 have hs:=h.bU
 have hO : ∀ b,aN c b→F b:=fun b e=>by rw [show b=c from e];exact h.own
 exact ⟨g,⟨hs.cells,hs.bq,hs.bk,rfl,hs.en,hs.aD,rfl,rfl,rfl,rfl,rfl,rfl,rfl,rfl,rfl,rfl,hs.once⟩,h.aZ.only h.raw t,h.busy.aH t hO,zN,h.own,h.mc,(fun g e=>nomatch e),fun b hb=>zV (h.lt b hb) t.size⟩
theorem sX (c:Nat) (m:ag) (F:Nat→Prop) (w:World) (h:aT w c m F) (hsel:m.dP=false):Calls prog 195 #[.pointer (some ⟨c,0,none⟩)] w fun e w'=>e=.returned (.int .i64 0)∧aT w' c m.select F∧Touch (aN c) w w':=by
 obtain ⟨s,h⟩:=h.open
 have hs:=h.bU
 have c15:w.cell? ⟨c,15,none⟩=some (.bool false):=by rw [← hsel,← hs.dP];exact cell_of h.raw 15
 have hf : ∀ i,w.frozen? ⟨c,i,none⟩=false:=fun i=>aF h.raw i
 have h1:aV (w.setCell ⟨c,15,none⟩ (.bool true)) c { s with dP:=true }:=az (i:=15) (v:=.bool true) h.raw
 have t1:Touch (aN c) w (w.setCell ⟨c,15,none⟩ (.bool true)):=(Touch.refl (aN c) w).set c 15 _ rfl
 have HH:=zH h
 have hgo:=hs.aD
 clear h hs hsel
 go_enter func195,ntmps195
 go_upto_region 6 with (fail)
 generalize w.setCell ⟨c,15,none⟩ (.bool true)=w1 at *
 apply wp_region_lit
 refine Go.Great.wpList_readTo rfl (some 16) rfl (.pointer (some ⟨c,0,none⟩)) rfl ?_
 refine Go.wpList_callTo rfl (some 17) rfl 204 #[.int .i64 1] (by first | kernel_rfl | (simp [execOp,go_sem];done)) (.int .i64 8) w1 ((fP 1 w1 (.inl rfl)).mono (fun e w' h=>⟨h.1,h.2⟩)) ?_
 refine Go.Great.wpList_readTo rfl (some 18) rfl (.agg yr) (by kernel_rfl) ?_
 refine Go.Great.wpList_readTo rfl (some 19) rfl (.pointer (some ⟨c,0,none⟩)) rfl ?_
 refine Go.Great.wpList_readTo rfl (some 20) rfl (.pointer (some ⟨c,15,none⟩)) rfl ?_
 refine Go.Great.wpList_readTo rfl (some 21) rfl (.pointer (some ⟨c,20,none⟩)) rfl ?_
 refine dR rfl 127 _ _ rfl c 20 yr rfl rfl 131 ({ s with dP:=true }:Raw).row h1 Lo (Nat.le_refl 36) I9 ?_
 have h2:=Ka h1
 have t2:Touch (aN c) w (w1.setRow c (putAt ({ s with dP:=true }:Raw).row 20 yr.toList)):=jw t1 c _ rfl
 generalize w1.setRow c (putAt ({ s with dP:=true }:Raw).row 20 yr.toList)=w2 at *
 have h3:=Ec HH.out h2 t2
 have c17:w2.cell? ⟨c,17,none⟩=some (.bool m.aD):=by rw [← hgo];exact cell_of h2 17
 have HB:=zH (mD c s.fresh m.fresh F 235 w2 h3)
 have HT:=zH (zA h3 t2)
 clear h1 t1 h2 t2 h3 c15 hf HH hgo
 cases hg:m.aD with
 | false =>
  rw [hg] at c17
  go_wp2
  go_ret
  exact ⟨rfl,by rw [show m.select=m.fresh by unfold ag.select;rw [hg];rfl];exact HT.out.1.shut,HT.out.2⟩
 | true =>
  rw [hg] at c17
  go_wp2_with fail
  refine HB.out.mono ?_
  rintro e w3 ⟨rfl,g3,t3⟩
  go_wp2
  go_ret
  exact ⟨rfl,by rw [show m.select=m.fresh.cT 235 by unfold ag.select;rw [hg];rfl];exact g3.shut,HT.out.2.trans t3⟩
theorem uY (c:Nat) (m:ag) (F:Nat→Prop) (w:World) (h:aT w c m F):Calls prog 39 #[.pointer (some ⟨c,0,none⟩)] w fun e w'=>e=.returned (.string m.cells)∧w'=w:=by
 obtain ⟨s,h⟩:=h.open
 have c0:w.cell? ⟨c,0,none⟩=some (.string m.cells):=by rw [← h.bU.cells];exact cell_of h.raw 0
 clear h
 go_enter func39,ntmps39
 go_wp2
 go_ret
 exact ⟨rfl,rfl⟩
def vv (er:Int) (c:Nat) (m:ag) (F:Nat→Prop) (w:World) (e:Ending) (w':World):Prop:=e=.returned (.int .i64 er) ∧ ∃ F',aT w' c m F'∧Step F F' w w'
def ag.uS (m:ag):ag:={ m with dP:=false }
def ag.fu (m:ag):ag:=m.uS.ends
theorem qx (c:Nat) (m:ag) (F:Nat→Prop) (w:World) (h:aT w c m F) (ok:m.Ok) (hsel:m.dP=true) (put:m.op.byte=1→m.ay≠0→m.ay≠1→m.whole=true → ∀ w',aT w' c m.uS F→Calls prog 209 #[.pointer (some ⟨c,0,none⟩)] w' (fk c m.uS.gl F w')):Calls prog 197 #[.pointer (some ⟨c,0,none⟩)] w (vv 0 c m.fu F w):=by
 obtain ⟨s,h⟩:=h.open
 have hs:=h.bU
 have c15:w.cell? ⟨c,15,none⟩=some (.bool true):=by rw [← hsel,← hs.dP];exact cell_of h.raw 15
 have hf : ∀ i,w.frozen? ⟨c,i,none⟩=false:=fun i=>aF h.raw i
 have t:Touch (aN c) w (w.setCell ⟨c,15,none⟩ (.bool false)):=(Touch.refl (aN c) w).set c 15 _ rfl
 have h1:=h.block (s':={ s with dP:=false }) (m':=m.uS) (w':=w.setCell ⟨c,15,none⟩ (.bool false)) (az (i:=15) (v:=.bool false) h.raw) ⟨hs.cells,hs.bq,hs.bk,rfl,hs.en,hs.aD,hs.op,hs.ay,hs.left,hs.cM,hs.addr,hs.mode,hs.cJ,hs.told,hs.now,hs.beyond,hs.once⟩ t rfl rfl rfl rfl rfl rfl
 have HE:=zH (wL c m.uS F _ h1.shut ⟨ok.size,ok.aZ,ok.fU,ok.gE,ok.op,ok.data⟩ (fun e1 e2 e3 e4=>put e1 e2 e3 e4 _ h1.shut))
 have st:=zH (h.step t)
 clear h hs ok put h1 t hsel
 go_enter func197,ntmps197
 go_wp2_with fail
 refine HE.out.mono ?_
 rintro e w1 ⟨rfl,F',hC,t1⟩
 go_wp2
 go_ret
 exact ⟨rfl,F',hC,st.out.trans t1⟩
def ag.cj (m:ag) (mask:ByteArray):ag :=
 { m with cells:=(match m.aZ with | none=>m.cells | some j=>cI j m.cells mask),dP:=false,en:=false,aD:=false,aZ:=none,busy:=[],op:=gD.zero,ay:=0,left:=0,cM:=0,addr:=0,mode:=0,cJ:=false,data:=[],told:=0,now:=0,beyond:=false }
theorem zk {w w':World} {c:Nat} {s s':Raw} {m:ag} {F:Nat→Prop} (mask:ByteArray) (h:bK w c s m F) (g:aV w' c s') (t:Touch F w w') (e:s'={ s with cells:=(m.cj mask).cells,dP:=false,en:=false,aD:=false,aZ:=none,busy:=.slice none 0 0,ay:=0,left:=0,cM:=0,addr:=0,mode:=0,cJ:=false,data:=.slice none 0 0,told:=0,now:=0,beyond:=false,op:=gD.zero }):vv 0 c (m.cj mask) F w (.returned (.int .i64 0)) w':=by
 subst e
 have hs:=h.bU
 exact ⟨rfl,F,bK.shut ⟨g,⟨rfl,hs.bq,hs.bk,rfl,rfl,rfl,rfl,rfl,rfl,rfl,rfl,rfl,rfl,rfl,rfl,rfl,hs.once⟩,rfl,⟨none,0,rfl,aP.nil _ _,(fun b o e=>nomatch e),fun _=>rfl,Nat.le_refl _,(fun b o e=>nomatch e)⟩,zN,h.own,(fun b e=>nomatch e),(fun g e=>nomatch e),fun b hb=>zV (h.lt b hb) t.size⟩,Step.dD t⟩
def gone:Array Value := #[.bool false,.bool false,.bool false,.pointer none,.slice none 0 0,.int .i64 0,.int .i64 0,.bool false,.int .i64 0,.int .i64 0,.bool false,.int .i64 0,.int .i64 0,.int .i64 0,.int .i64 0,.int .i64 0,.bool false,.slice none 0 0,.int .i64 0,.int .i64 0,.bool false]
theorem Dc {w:World} {c:Nat} {s:Raw} (h:aV w c s):aV (w.setRow c (putAt s.row 15 gone.toList)) c { s with dP:=false,en:=false,aD:=false,aZ:=none,busy:=.slice none 0 0,ay:=0,left:=0,cM:=0,addr:=0,mode:=0,cJ:=false,data:=.slice none 0 0,told:=0,now:=0,beyond:=false,op:=gD.zero }:=by
 have e:putAt s.row 15 gone.toList=({ s with dP:=false,en:=false,aD:=false,aZ:=none,busy:=.slice none 0 0,ay:=0,left:=0,cM:=0,addr:=0,mode:=0,cJ:=false,data:=.slice none 0 0,told:=0,now:=0,beyond:=false,op:=gD.zero }:Raw).row:=by
  simp [putAt,gone,Raw.row,gD.zero]
 rw [e]
 exact setRow_heap w c s.row _ 131 (0,0) h
theorem Cq:gone.all (·.oneCell')=true:=by simp [gone,Value.oneCell']
theorem FY:(prog.info? 129).map (·.size)=some gone.size:=by kernel_rfl
theorem wM (c:Nat) (m:ag) (F:Nat→Prop) (w:World) (h:aT w c m F) (ok:m.Ok) (mask:ByteArray) (hm:mask.size≤4096):Calls prog 34 #[.pointer (some ⟨c,0,none⟩),.string mask] w (vv 0 c (m.cj mask) F w):=by
 obtain ⟨s,h⟩:=h.open
 have hs:=h.bU
 have hO : ∀ b,aN c b→F b:=fun b e=>by rw [show b=c from e];exact h.own
 have c18:w.cell? ⟨c,18,none⟩=some (.pointer s.aZ):=cell_of h.raw 18
 cases hj:m.aZ with
 | none =>
  have hjn:s.aZ=none:=by have:=h.aZ;rw [hj] at this;exact this
  rw [hjn] at c18
  have HL:=zH (zk mask h (Dc h.raw) (jw (Touch.refl F w) c _ h.own) (by
   have e:(m.cj mask).cells=m.cells:=by unfold ag.cj;rw [hj]
   rw [e,← hs.cells]))
  have hraw:=zH h.raw
  clear h hs hj hjn
  go_enter func34,ntmps34
  go_upto_region 5 with (fail)
  apply wp_region_lit
  refine Go.Great.wpList_readTo rfl (some 27) rfl (.pointer (some ⟨c,0,none⟩)) rfl ?_
  refine Go.Great.wpList_readTo rfl (some 28) rfl (.agg gone) (by kernel_rfl) ?_
  refine Go.Great.wpList_readTo rfl (some 29) rfl (.pointer (some ⟨c,0,none⟩)) rfl ?_
  refine Go.Great.wpList_readTo rfl (some 30) rfl (.pointer (some ⟨c,15,none⟩)) rfl ?_
  refine dR rfl 129 _ _ rfl c 15 gone rfl rfl 131 s.row hraw.out FY (Nat.le_refl 36) Cq ?_
  go_wp2
  go_ret
  exact HL.out
 | some j =>
  obtain ⟨jb,hjb,hb⟩ : ∃ jb,s.aZ=some ⟨jb,0,none⟩∧w.heap[jb]? = some (.cells j.row 192 (0,0)):=by have:=h.aZ;rw [hj] at this;exact this
  rw [hjb] at c18
  have c0:w.cell? ⟨c,0,none⟩=some (.string s.cells):=cell_of h.raw 0
  have hlt:=h.raw.lt
  have HJ:=zH (oL jb j s.cells mask w.drew hb (ok.aZ j hj).1 (by rw [hs.cells];exact ok.size) hm)
  have HR:=zH h
  have hcl:cI j s.cells mask=(m.cj mask).cells:=by unfold ag.cj;rw [hj,hs.cells]
  have HCL:=zH hcl
  generalize cI j s.cells mask=r at *
  have hraw:=zH h.raw
  clear h hs hj hb hcl
  go_enter func34,ntmps34
  go_upto_region 4 with (fail)
  go_region_with (go_at_call 64;(with_reducible refine HJ.out.mono ?_);rintro e w3 ⟨rfl,hb3⟩;have hb13:=gtr (au (Below.refl _ w)) hb3;have h3:=hraw.out.aj hb13;have c0':w3.cell? ⟨c,0,none⟩=some (.string s.cells):=cell_of h3 0;have hf3 : ∀ i,w3.frozen? ⟨c,i,none⟩=false:=fun i=>aF h3 i)
  all_goals
   have H1:aV (w3.setCell ⟨c,0,none⟩ (.string r)) c { s with cells:=r }:=az (i:=0) (v:=.string r) h3
   have T1:Touch F w (w3.setCell ⟨c,0,none⟩ (.string r)):=(Touch.ah hb13).set c 0 _ HR.out.own
   have HL:=zH (zk mask HR.out (Dc H1) (jw T1 c _ HR.out.own) (by rw [← HCL.out]))
   have H1':=zH H1
   clear H1 T1 h3
   go_upto_region 5 with (fail)
   apply wp_region_lit
   refine Go.Great.wpList_readTo rfl (some 27) rfl (.pointer (some ⟨c,0,none⟩)) rfl ?_
   refine Go.Great.wpList_readTo rfl (some 28) rfl (.agg gone) (by kernel_rfl) ?_
   refine Go.Great.wpList_readTo rfl (some 29) rfl (.pointer (some ⟨c,0,none⟩)) rfl ?_
   refine Go.Great.wpList_readTo rfl (some 30) rfl (.pointer (some ⟨c,15,none⟩)) rfl ?_
   refine dR rfl 129 _ _ rfl c 15 gone rfl rfl 131 ({ s with cells:=r }:Raw).row H1'.out FY (Nat.le_refl 36) Cq ?_
   go_wp2
   go_ret
   exact HL.out
def AG (xs:List Int) (w:World) (e:Ending) (w':World):Prop := ∃ a c,e=.returned (.slice a xs.length c)∧w'.ownsRow w.heap.size 3 1 (.slice a xs.length c) xs.length (aB xs)∧Below w.heap.size w w'
theorem wP (a:Option Addr) (c:Nat) (xs:List Int) (w:World) (h1:aP w a xs) (hn:a=none→c=0) (hm:xs.length * 8≤140737488355328):Calls prog 56 #[.slice a xs.length c] w (AG xs w):=by
 have kn:=fun (w:World) (x:Option Addr) (n c:Nat)=>Lib.run_eql_slice_nil (P:=prog) w 22 3 x n c 0 0 underlying22
 cases a with
 | none =>
  obtain rfl:c=0:=hn rfl
  have hx:xs=[]:=by
   cases xs with
   | nil=>rfl
   | cons x r=>obtain ⟨b,o,h,_⟩:=h1 0 (by simp);cases h
  subst hx
  go_enter func56,ntmps56
  go_wp2
  go_ret
  exact ⟨_,_,rfl,zN,Below.refl _ _⟩
 | some ad =>
  obtain ⟨i0,hi,hz0,hz1,hz2⟩:=info_parts iq
  have HI:=zH h1
  clear h1
  go_enter func56,ntmps56
  go_wp2_with (at_builtin;refine wpList_append_own _ rfl _ _ 22 rfl w.heap.size 3 i0 (.int .i64 0) 1 8 underlying22 hi hz0 hz1 hz2 rfl (by decide) _ 0 [] rfl (qc w 3 1 _ zY) ad xs.length c (aB xs) rfl (uk xs) ?c1 (um xs) ?c2 ?c3 ?c4 ?_)
  case c1 =>
   intro j u hu
   obtain ⟨hj,rfl⟩:=uj xs j u hu
   obtain ⟨b,off,ha,hcell⟩:=HI.out j hj
   obtain rfl:ad=⟨b,off,none⟩:=by simpa using ha
   have hlt:=zL w _ hcell
   rw [dh,World.cell?_alloc_lt _ _ _ hlt]
   exact hcell
  case c2=>simp only [maxLen];omega
  case c3=>omega
  case c4=>simp
  intro v' w' hown hg _
  go_wp2
  go_ret
  have hown2:w'.ownsRow w.heap.size 3 1 v' xs.length (aB xs):=by simpa using hown
  obtain ⟨a',c',rfl,_⟩:=bw.cZ hown
  exact ⟨a',c',rfl,hown2,dO (ae zR _) hg (fun k hk=>by simp [Value.ownBlock] at hk;omega)⟩
theorem J6 {w:World} {B:Nat} {a:Option Addr} {c:Nat} {xs:List Int} {F:Nat→Prop} (h:w.ownsRow B 3 1 (.slice a xs.length c) xs.length (aB xs)) (hF : ∀ b,B≤b → ¬ F b) : ∃ hm,(0<xs.length→B≤hm)∧sQ w (.slice a xs.length c) xs hm F:=by
 obtain ⟨a',c',e,hi⟩:=(bw.cZ h).ints
 obtain ⟨rfl,rfl⟩:a=a'∧c=c':=by simpa using e
 rcases h.2 with ⟨e2,hn⟩ | ⟨g,cap,cur,e2,hb,hg,hnc,_⟩
 ·
  obtain ⟨rfl,e3,rfl⟩:a=none∧xs.length=0∧c=0:=by simpa using e2
  exact ⟨0,fun hl=>by omega,none,0,rfl,hi,(fun b o e=>nomatch e),fun _=>rfl,by omega,(fun b o e=>nomatch e)⟩
 ·
  obtain ⟨rfl,rfl⟩:a=some ⟨g,0,none⟩∧c=cap:=by simpa using e2
  exact ⟨g,fun _=>hb,_,_,rfl,hi,fun b o e hl=>by
   obtain ⟨rfl,rfl⟩:g=b∧0=o:=by simpa using e
   exact hF _ hb,(fun e=>nomatch e),hnc,fun b o e hl=>by
   obtain ⟨rfl,rfl⟩:g=b∧0=o:=by simpa using e
   rfl⟩
theorem LF:de 54 (fun n=>decide (n<1) || decide (400<n)) where
 calls n w:=by
  go_enter func54,ntmps54
  go_wp2
  all_goals
   go_ret
   refine ⟨?_,rfl⟩
   simp_all
   try omega
 run args w:=by go_simp
def IY (c:Nat) (m:ag) (xs:List Int) (F:Nat→Prop) (w:World) (e:Ending) (w':World):Prop :=
 e=.returned (.int .i64 0) ∧ ∃ (hm:Nat) (F':Nat→Prop),(0<xs.length→w.heap.size≤hm)∧aT w' c { m with busy:=xs,home:=hm } F'∧Step F F' w w'
theorem wN (c:Nat) (m:ag) (F:Nat→Prop) (a:Option Addr) (cap:Nat) (xs:List Int) (w:World) (h:aT w c m F) (hi:aP w a xs) (hn:a=none→cap=0) (hl:xs.length≤16) (hx : ∀ x ∈ xs,1≤x∧x≤400):Calls prog 30 #[.pointer (some ⟨c,0,none⟩),.slice a xs.length cap] w (IY c m xs F w):=by
 obtain ⟨s,h⟩:=h.open
 have hs:=h.bU
 have c19:w.cell? ⟨c,19,none⟩=some s.busy:=cell_of h.raw 19
 have hany:xs.any (fun n=>decide (n<1) || decide (400<n))=false:=by
  rw [List.any_eq_false]
  intro x hxm
  have:=hx x hxm
  simp;omega
 have HC:=zH (fq 54 _ LF a cap xs w hi (by omega))
 rw [hany] at HC
 have HL:=zH (fun n=>wP a cap xs (w.drewN n) (hi.aj (aY zR n)) hn (by omega))
 have hl' : ¬ (16:Int)<(xs.length:Int):=by omega
 have HH:=zH h
 clear h hs hany hx hi hl
 go_enter func30,ntmps30
 go_wp2_with fail
 refine HC.out.mono ?_
 rintro e w1 ⟨rfl,n1,rfl⟩
 go_wp2_with fail
 refine (HL.out n1).mono ?_
 rintro e w2 ⟨a2,c2,rfl,hown,hb⟩
 have hb2:Below w.heap.size w w2:=gtr (aY zR n1) hb
 have h2:=HH.out.aj hb2
 have k19:w2.cell? ⟨c,19,none⟩=some s.busy:=cell_of h2.raw 19
 have hf : ∀ i,w2.frozen? ⟨c,i,none⟩=false:=fun i=>aF h2.raw i
 have hr:aV (w2.setCell ⟨c,19,none⟩ (.slice a2 xs.length c2)) c { s with busy:=.slice a2 xs.length c2 }:=az (i:=19) (v:=.slice a2 xs.length c2) h2.raw
 have t:Touch (aN c) w2 (w2.setCell ⟨c,19,none⟩ (.slice a2 xs.length c2)):=(Touch.refl (aN c) w2).set c 19 _ rfl
 have hs:=h2.bU
 obtain ⟨hm,hm1,hbz⟩:=J6 (F:=F) hown (fun b hb' hF=>Nat.lt_irrefl _ (zV (HH.out.lt b hF) hb'))
 have HM1:=zH hm1
 have hO : ∀ b,aN c b→F b:=fun b e=>by rw [show b=c from e];exact h2.own
 have hd:(w2.setCell ⟨c,19,none⟩ (.slice a2 xs.length c2)).ownsRow 0 3 1 s.data m.data.length (aB m.data):=gy h2.data t (fun g hg e=>by
  obtain ⟨cur,hc⟩:=gw h2.data hg
  rw [show g=c from e] at hc
  have:=hc.symm.trans h2.raw;simp at this)
 have h3:bK (w2.setCell ⟨c,19,none⟩ (.slice a2 xs.length c2)) c { s with busy:=.slice a2 xs.length c2 } { m with busy:=xs,home:=hm } F :=
  ⟨hr,⟨hs.cells,hs.bq,hs.bk,hs.dP,hs.en,hs.aD,hs.op,hs.ay,hs.left,hs.cM,hs.addr,hs.mode,hs.cJ,hs.told,hs.now,hs.beyond,hs.once⟩,h2.aZ.only h2.raw t,hbz.aH t hO,hd,h2.own,h2.mc,h2.jQ,fun b hb=>zV (h2.lt b hb) t.size⟩
 have HR:=zH (zA h3.shut ((Step.ah hb2).trans (Step.dD (t.mono hO))))
 clear h3 hd hr t hs hbz h2 hb2 hown hb hm1
 go_wp2
 go_ret
 exact ⟨rfl,hm,F,fun hl=>HM1.out hl,HR.out.1,HR.out.2⟩
end Go.Proofs.YtcfdenckiigdaaaGreat

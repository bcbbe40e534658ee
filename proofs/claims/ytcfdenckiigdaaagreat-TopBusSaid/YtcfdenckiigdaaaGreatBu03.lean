/- Part 3 of the contracts. -/
import Derived.Great.Walk
import Derived.Test.YtcfdenckiigdaaaGreatBu02
set_option linter.unusedVariables false
set_option maxRecDepth 100000
set_option maxHeartbeats 4000000
namespace Go.Proofs.YtcfdenckiigdaaaGreat
open Tryz Go.RowKit
theorem bJ.aj {w w':World} {c:Nat} {s:Raw} {m:af} {F:Nat→Prop} (h:bJ w c s m F) (hb:Below w.heap.size w w'):bJ w' c s m F:=by
 obtain ⟨a,cc,h4,h5,h6,h7,h7'⟩:=h.busy.ex
 exact ⟨h.raw.aj hb,h.bS,h.aW.aj hb,⟨a,cc,h4,h5.aj hb,h6,h7,h7'⟩,World.ownsRow.aj h.data hb,h.own,h.lH,h.jw,fun b hb'=>zV (h.lt b hb') hb.size⟩
theorem Step.ah {F:Nat→Prop} {w w':World} (h:Below w.heap.size w w'):Step F F w w':=Step.dw (Touch.ah h)
theorem bJ.gO {w:World} {c jb:Nat} {s:Raw} {m:af} {F:Nat→Prop} {j:ie} (h:bJ w c s m F) (hm:m.aW=some j) (hj:s.aW=some ⟨jb,0,none⟩) (hb:w.heap[jb]? = some (.cells j.row 192 (0,0))) (v:Bool):bJ (w.setCell ⟨jb,4,none⟩ (.bool v)) c s { m with aW:=some { j with gO:=v } } F∧Step F F w (w.setCell ⟨jb,4,none⟩ (.bool v)):=by
 have t:Touch (aM jb) w (w.setCell ⟨jb,4,none⟩ (.bool v)):=(Touch.refl (aM jb) w).set jb 4 _ rfl
 have hF : ∀ b,aM jb b→F b:=fun b e=>by rw [show b=jb from e];exact h.lH jb hj
 have hne:c≠jb:=fun e=>by subst e;have:=hb.symm.trans h.raw;simp at this
 have hs:=h.bS
 refine ⟨⟨(heap_setCell_other _ _ _ _ hne).trans h.raw,⟨hs.cells,hs.bn,hs.aZ,hs.dJ,hs.en,hs.aA,hs.op,hs.ar,hs.left,hs.cG,hs.addr,hs.mode,hs.cC,hs.told,hs.now,hs.beyond,hs.once⟩,⟨jb,hj,av (i:=4) (v:=.bool v) hb⟩,h.busy.aD t hF,fZ h.data t (fun g hg e => ?_),h.own,h.lH,h.jw,fun b hb'=>zV (h.lt b hb') t.size⟩,Step.dw (t.mono hF)⟩
 obtain ⟨cur,hc⟩:=fY h.data hg
 rw [show g=jb from e] at hc
 have:=hc.symm.trans hb;simp at this
theorem cL {c:Nat} {m:af} {F:Nat→Prop} {w w':World} {s:Raw} (h:bJ w' c s m F) (t:Step F F w w'):eW c m F w (.returned (.tuple #[])) w':=⟨rfl,F,h.shut,t⟩
theorem KV (c:Nat) (m:af) (F:Nat→Prop) (w:World) (h:aO w c m F) (ok:m.Ok) (k0:m.ar≠0) (k1:m.ar≠1) (hw:m.whole=true) (b6:m.op.byte=6):Calls prog 209 #[.pointer (some ⟨c,0,none⟩)] w (eW c m.fS F w):=by
 obtain ⟨s,h⟩:=h.open
 have hs:=h.bS
 have c26:w.cell? ⟨c,26,none⟩=some (.int .i64 m.ar):=by rw [← hs.ar];exact cell_of h.raw 26
 have hlt:=h.raw.lt
 have g0:(m.ar == 0)=false:=zQ k0
 have g1:(m.ar == 1)=false:=zQ k1
 have hwh:=eT c s w h.raw (by rw [hs.op];exact ok.op)
 rw [hs.op,hs.ar,hs.left,hs.beyond,show (if m.op.jh=true then decide (m.ar=5)&&decide (m.left=8) else if m.op.data=0 then decide (m.ar=7) && !m.beyond else true)=m.whole from rfl,hw] at hwh
 have HW:=zH hwh
 have HH:=zH h
 have HOK:=zH ok
 clear hwh hw k0 k1 h ok hs
 go_enter func209,ntmps209
 go_upto_region 2 with (go_at_call 223;refine HW.out.mono ?_;rintro e w1 ⟨rfl,n1,rfl⟩)
 have h:=HH.out.aj (aT zR n1)
 have st:Step F F w (w.drewN n1):=Step.ah (aT zR n1)
 generalize w.drewN n1=w1 at *
 clear HH HW c26 g0 g1 hlt
 have hs:=h.bS
 have c20:w1.cell? ⟨c,20,none⟩=some (.int .i64 m.op.byte):=by rw [← hs.op];exact cell_of h.raw 20
 have c16:w1.cell? ⟨c,16,none⟩=some (.bool m.en):=by rw [← hs.en];exact cell_of h.raw 16
 have hf : ∀ i,w1.frozen? ⟨c,i,none⟩=false:=fun i=>aC h.raw i
 have hlt:=h.raw.lt
 have E:=zH (show m.fS={ m with en:=true } by unfold af.fS;rw [b6];rfl)
 rw [b6] at c20
 have H1:=h.block (s':={ s with en:=true }) (m':={ m with en:=true }) (w':=w1.setCell ⟨c,16,none⟩ (.bool true)) (av (i:=16) (v:=.bool true) h.raw) ⟨hs.cells,hs.bn,hs.aZ,hs.dJ,rfl,hs.aA,hs.op,hs.ar,hs.left,hs.cG,hs.addr,hs.mode,hs.cC,hs.told,hs.now,hs.beyond,hs.once⟩ ((Touch.refl (aM c) w1).set c 16 _ rfl) rfl rfl rfl rfl rfl rfl
 have T1:=st.trans (h.step ((Touch.refl (aM c) w1).set c 16 (.bool true) rfl))
 have HX:=zH (zA H1 T1)
 clear H1 T1 h hs st HOK b6
 go_wp2_with fail
 go_end0
 rw [E.out]
 exact cL HX.out.1 HX.out.2
theorem KU (c:Nat) (m:af) (F:Nat→Prop) (w:World) (h:aO w c m F) (ok:m.Ok) (k0:m.ar≠0) (k1:m.ar≠1) (hw:m.whole=true) (b4:m.op.byte=4):Calls prog 209 #[.pointer (some ⟨c,0,none⟩)] w (eW c m.fS F w):=by
 obtain ⟨s,h⟩:=h.open
 have hs:=h.bS
 have c26:w.cell? ⟨c,26,none⟩=some (.int .i64 m.ar):=by rw [← hs.ar];exact cell_of h.raw 26
 have hlt:=h.raw.lt
 have g0:(m.ar == 0)=false:=zQ k0
 have g1:(m.ar == 1)=false:=zQ k1
 have hwh:=eT c s w h.raw (by rw [hs.op];exact ok.op)
 rw [hs.op,hs.ar,hs.left,hs.beyond,show (if m.op.jh=true then decide (m.ar=5)&&decide (m.left=8) else if m.op.data=0 then decide (m.ar=7) && !m.beyond else true)=m.whole from rfl,hw] at hwh
 have HW:=zH hwh
 have HH:=zH h
 have HOK:=zH ok
 clear hwh hw k0 k1 h ok hs
 go_enter func209,ntmps209
 go_upto_region 2 with (go_at_call 223;refine HW.out.mono ?_;rintro e w1 ⟨rfl,n1,rfl⟩)
 have h:=HH.out.aj (aT zR n1)
 have st:Step F F w (w.drewN n1):=Step.ah (aT zR n1)
 generalize w.drewN n1=w1 at *
 clear HH HW c26 g0 g1 hlt
 have hs:=h.bS
 have c20:w1.cell? ⟨c,20,none⟩=some (.int .i64 m.op.byte):=by rw [← hs.op];exact cell_of h.raw 20
 have c16:w1.cell? ⟨c,16,none⟩=some (.bool m.en):=by rw [← hs.en];exact cell_of h.raw 16
 have hf : ∀ i,w1.frozen? ⟨c,i,none⟩=false:=fun i=>aC h.raw i
 have hlt:=h.raw.lt
 have E:=zH (show m.fS={ m with en:=false } by unfold af.fS;rw [b4];rfl)
 rw [b4] at c20
 have H1:=h.block (s':={ s with en:=false }) (m':={ m with en:=false }) (w':=w1.setCell ⟨c,16,none⟩ (.bool false)) (av (i:=16) (v:=.bool false) h.raw) ⟨hs.cells,hs.bn,hs.aZ,hs.dJ,rfl,hs.aA,hs.op,hs.ar,hs.left,hs.cG,hs.addr,hs.mode,hs.cC,hs.told,hs.now,hs.beyond,hs.once⟩ ((Touch.refl (aM c) w1).set c 16 _ rfl) rfl rfl rfl rfl rfl rfl
 have T1:=st.trans (h.step ((Touch.refl (aM c) w1).set c 16 (.bool false) rfl))
 have HX:=zH (zA H1 T1)
 clear H1 T1 h hs st HOK b4
 go_wp2_with fail
 go_end0
 rw [E.out]
 exact cL HX.out.1 HX.out.2
theorem Hi (c:Nat) (m:af) (F:Nat→Prop) (w:World) (h:aO w c m F) (ok:m.Ok) (k0:m.ar≠0) (k1:m.ar≠1) (hw:m.whole=true) (b117:m.op.byte=117):Calls prog 209 #[.pointer (some ⟨c,0,none⟩)] w (eW c m.fS F w):=by
 obtain ⟨s,h⟩:=h.open
 have hs:=h.bS
 have c26:w.cell? ⟨c,26,none⟩=some (.int .i64 m.ar):=by rw [← hs.ar];exact cell_of h.raw 26
 have hlt:=h.raw.lt
 have g0:(m.ar == 0)=false:=zQ k0
 have g1:(m.ar == 1)=false:=zQ k1
 have hwh:=eT c s w h.raw (by rw [hs.op];exact ok.op)
 rw [hs.op,hs.ar,hs.left,hs.beyond,show (if m.op.jh=true then decide (m.ar=5)&&decide (m.left=8) else if m.op.data=0 then decide (m.ar=7) && !m.beyond else true)=m.whole from rfl,hw] at hwh
 have HW:=zH hwh
 have HH:=zH h
 have HOK:=zH ok
 clear hwh hw k0 k1 h ok hs
 go_enter func209,ntmps209
 go_upto_region 2 with (go_at_call 223;refine HW.out.mono ?_;rintro e w1 ⟨rfl,n1,rfl⟩)
 have h:=HH.out.aj (aT zR n1)
 have st:Step F F w (w.drewN n1):=Step.ah (aT zR n1)
 generalize w.drewN n1=w1 at *
 clear HH HW c26 g0 g1 hlt
 have hs:=h.bS
 have c20:w1.cell? ⟨c,20,none⟩=some (.int .i64 m.op.byte):=by rw [← hs.op];exact cell_of h.raw 20
 have c16:w1.cell? ⟨c,16,none⟩=some (.bool m.en):=by rw [← hs.en];exact cell_of h.raw 16
 have hf : ∀ i,w1.frozen? ⟨c,i,none⟩=false:=fun i=>aC h.raw i
 have hlt:=h.raw.lt
 have E0:m.fS=m.bM:=by unfold af.fS;rw [b117];rfl
 rw [b117] at c20
 have c18:w1.cell? ⟨c,18,none⟩=some (.pointer s.aW):=cell_of h.raw 18
 cases hjm:m.aW with
 | none =>
  have e:m.bM=m:=by unfold af.bM;rw [hjm]
  have hjn:s.aW=none:=by have:=h.aW;rw [hjm] at this;exact this
  rw [hjn] at c18
  rw [e] at E0
  have E:=zH E0
  have HX:=zH (zA h st)
  clear h hs st HOK b117 hjm hjn e E0
  go_wp2_with fail
  go_end0
  rw [E.out]
  exact cL HX.out.1 HX.out.2
 | some j =>
  obtain ⟨jb,hjb,hb⟩ : ∃ jb,s.aW=some ⟨jb,0,none⟩∧w1.heap[jb]? = some (.cells j.row 192 (0,0)):=by have:=h.aW;rw [hjm] at this;exact this
  rw [hjb] at c18
  have d0:w1.cell? ⟨jb,0,none⟩=some (.int .i64 j.aq):=cell_of hb 0
  have d4:w1.cell? ⟨jb,4,none⟩=some (.bool j.gO):=cell_of hb 4
  have hfj : ∀ i,w1.frozen? ⟨jb,i,none⟩=false:=fun i=>aC hb i
  have HS:=h.gO hjm hjb hb true
  have HX:=zH (zA HS.1 (st.trans HS.2))
  have HY:=zH (zA h st)
  by_cases hsec:j.aq = -1
  ·
   have e:m.bM=m:=by unfold af.bM;rw [hjm];simp only;rw [if_pos hsec]
   rw [e] at E0
   have E:=zH E0
   rw [hsec] at d0
   clear h hs st HOK b117 hjm hjb e E0 hb HS hsec
   go_wp2_with fail
   go_end0
   rw [E.out]
   exact cL HY.out.1 HY.out.2
  ·
   have e:m.bM={ m with aW:=some { j with gO:=true } }:=by unfold af.bM;rw [hjm];simp only;rw [if_neg hsec]
   have gsec:(j.aq == -1)=false:=zQ hsec
   rw [e] at E0
   have E:=zH E0
   clear h hs st HOK b117 hjm hjb e E0 hb HS hsec
   go_wp2_with fail
   go_end0
   rw [E.out]
   exact cL HX.out.1 HX.out.2
theorem Hk (c:Nat) (m:af) (F:Nat→Prop) (w:World) (h:aO w c m F) (ok:m.Ok) (k0:m.ar≠0) (k1:m.ar≠1) (hw:m.whole=true) (b122:m.op.byte=122):Calls prog 209 #[.pointer (some ⟨c,0,none⟩)] w (eW c m.fS F w):=by
 obtain ⟨s,h⟩:=h.open
 have hs:=h.bS
 have c26:w.cell? ⟨c,26,none⟩=some (.int .i64 m.ar):=by rw [← hs.ar];exact cell_of h.raw 26
 have hlt:=h.raw.lt
 have g0:(m.ar == 0)=false:=zQ k0
 have g1:(m.ar == 1)=false:=zQ k1
 have hwh:=eT c s w h.raw (by rw [hs.op];exact ok.op)
 rw [hs.op,hs.ar,hs.left,hs.beyond,show (if m.op.jh=true then decide (m.ar=5)&&decide (m.left=8) else if m.op.data=0 then decide (m.ar=7) && !m.beyond else true)=m.whole from rfl,hw] at hwh
 have HW:=zH hwh
 have HH:=zH h
 have HOK:=zH ok
 clear hwh hw k0 k1 h ok hs
 go_enter func209,ntmps209
 go_upto_region 2 with (go_at_call 223;refine HW.out.mono ?_;rintro e w1 ⟨rfl,n1,rfl⟩)
 have h:=HH.out.aj (aT zR n1)
 have st:Step F F w (w.drewN n1):=Step.ah (aT zR n1)
 generalize w.drewN n1=w1 at *
 clear HH HW c26 g0 g1 hlt
 have hs:=h.bS
 have c20:w1.cell? ⟨c,20,none⟩=some (.int .i64 m.op.byte):=by rw [← hs.op];exact cell_of h.raw 20
 have c16:w1.cell? ⟨c,16,none⟩=some (.bool m.en):=by rw [← hs.en];exact cell_of h.raw 16
 have hf : ∀ i,w1.frozen? ⟨c,i,none⟩=false:=fun i=>aC h.raw i
 have hlt:=h.raw.lt
 have E0:m.fS=m.gv:=by unfold af.fS;rw [b122];rfl
 rw [b122] at c20
 have c18:w1.cell? ⟨c,18,none⟩=some (.pointer s.aW):=cell_of h.raw 18
 cases hjm:m.aW with
 | none =>
  have e:m.gv=m:=by unfold af.gv;rw [hjm]
  have hjn:s.aW=none:=by have:=h.aW;rw [hjm] at this;exact this
  rw [hjn] at c18
  rw [e] at E0
  have E:=zH E0
  have HX:=zH (zA h st)
  clear h hs st HOK b122 hjm hjn e E0
  go_wp2_with fail
  go_end0
  rw [E.out]
  exact cL HX.out.1 HX.out.2
 | some j =>
  obtain ⟨jb,hjb,hb⟩ : ∃ jb,s.aW=some ⟨jb,0,none⟩∧w1.heap[jb]? = some (.cells j.row 192 (0,0)):=by have:=h.aW;rw [hjm] at this;exact this
  rw [hjb] at c18
  have d0:w1.cell? ⟨jb,0,none⟩=some (.int .i64 j.aq):=cell_of hb 0
  have d4:w1.cell? ⟨jb,4,none⟩=some (.bool j.gO):=cell_of hb 4
  have hfj : ∀ i,w1.frozen? ⟨jb,i,none⟩=false:=fun i=>aC hb i
  have HS:=h.gO hjm hjb hb false
  have HX:=zH (zA HS.1 (st.trans HS.2))
  have HY:=zH (zA h st)
  have e:m.gv={ m with aW:=some { j with gO:=false } }:=by unfold af.gv;rw [hjm]
  rw [e] at E0
  have E:=zH E0
  clear h hs st HOK b122 hjm hjb e E0 hb HS
  go_wp2_with fail
  go_end0
  rw [E.out]
  exact cL HX.out.1 HX.out.2
theorem JD (c:Nat) (m:af) (F:Nat→Prop) (w:World) (h:aO w c m F) (ok:m.Ok) (k0:m.ar≠0) (k1:m.ar≠1) (hw:m.whole=true) (b32:m.op.byte=32):Calls prog 209 #[.pointer (some ⟨c,0,none⟩)] w (eW c m.fS F w):=by
 obtain ⟨s,h⟩:=h.open
 have hs:=h.bS
 have c26:w.cell? ⟨c,26,none⟩=some (.int .i64 m.ar):=by rw [← hs.ar];exact cell_of h.raw 26
 have hlt:=h.raw.lt
 have g0:(m.ar == 0)=false:=zQ k0
 have g1:(m.ar == 1)=false:=zQ k1
 have hwh:=eT c s w h.raw (by rw [hs.op];exact ok.op)
 rw [hs.op,hs.ar,hs.left,hs.beyond,show (if m.op.jh=true then decide (m.ar=5)&&decide (m.left=8) else if m.op.data=0 then decide (m.ar=7) && !m.beyond else true)=m.whole from rfl,hw] at hwh
 have HW:=zH hwh
 have HH:=zH h
 have HOK:=zH ok
 clear hwh hw k0 k1 h ok hs
 go_enter func209,ntmps209
 go_upto_region 2 with (go_at_call 223;refine HW.out.mono ?_;rintro e w1 ⟨rfl,n1,rfl⟩)
 have h:=HH.out.aj (aT zR n1)
 have st:Step F F w (w.drewN n1):=Step.ah (aT zR n1)
 generalize w.drewN n1=w1 at *
 clear HH HW c26 g0 g1 hlt
 have hs:=h.bS
 have c20:w1.cell? ⟨c,20,none⟩=some (.int .i64 m.op.byte):=by rw [← hs.op];exact cell_of h.raw 20
 have c16:w1.cell? ⟨c,16,none⟩=some (.bool m.en):=by rw [← hs.en];exact cell_of h.raw 16
 have hf : ∀ i,w1.frozen? ⟨c,i,none⟩=false:=fun i=>aC h.raw i
 have hlt:=h.raw.lt
 have okk:=HOK.out
 have c29:w1.cell? ⟨c,29,none⟩=some (.int .i64 m.addr):=by rw [← hs.addr];exact cell_of h.raw 29
 have ha0:=okk.fH
 have ha1:=okk.gi
 have E:=zH (show m.fS=m.erases by unfold af.fS;rw [b32];rfl)
 rw [b32] at c20
 have h2:=h.aj (ae zR (.cells #[.int .i64 (m.addr / 512),.int .i64 0,.string { data := #[] },.int .i64 0,.bool false] 192))
 have HS:=zH (rH c w1.heap.size s m ⟨m.addr / 512,0,ByteArray.empty,0,false⟩ F (w1.alloc (.cells #[.int .i64 (m.addr / 512),.int .i64 0,.string { data := #[] },.int .i64 0,.bool false] 192)) h2 (ag _ _) (fun hF=>Nat.lt_irrefl _ (h.lt _ hF)) (.inr ⟨(m.addr / 512).toNat,by simp only;omega,by omega⟩) ha0 ha1 (fun ba bc e1 b o e2 hl e3=>by
   obtain ⟨a',c',f1,f2,f3,_⟩:=h.busy.ex
   rw [e1] at f1
   obtain ⟨rfl,rfl⟩:ba=a'∧bc=c':=by simpa using f1
   obtain ⟨b',o',g1,g2⟩:=f2 0 hl
   rw [e2] at g1
   obtain ⟨rfl,rfl⟩:b=b'∧o=o':=by simpa using g1
   have:=zL w1 _ g2
   simp at this
   omega))
 have HX:=zH (zA h st)
 have st2:Step F F w (w1.alloc (.cells #[.int .i64 (m.addr / 512),.int .i64 0,.string { data := #[] },.int .i64 0,.bool false] 192)):=st.trans (Step.ah (ae zR _))
 have HT:=zH st2
 have hsz:w.heap.size≤w1.heap.size:=st.aD.size
 clear h hs st HOK b32 h2 st2 okk
 go_wp2_with fail
 refine HS.out.mono ?_
 rintro e w3 ⟨rfl,F',hC,t,hf'⟩
 go_wp2_with fail
 go_end0
 rw [E.out]
 exact ⟨rfl,F',hC,⟨HT.out.aD.then t (fun b hb=>hb.imp id (fun e=>by rw [e];exact hsz)),fun b hb=>(hf' b hb).imp id (fun e=>by rw [e];exact hsz)⟩⟩
theorem Hl (c:Nat) (m:af) (F:Nat→Prop) (w:World) (h:aO w c m F) (ok:m.Ok) (k0:m.ar≠0) (k1:m.ar≠1) (hw:m.whole=true) (b235:m.op.byte=235):Calls prog 209 #[.pointer (some ⟨c,0,none⟩)] w (eW c m.fS F w):=by
 obtain ⟨s,h⟩:=h.open
 have hs:=h.bS
 have c26:w.cell? ⟨c,26,none⟩=some (.int .i64 m.ar):=by rw [← hs.ar];exact cell_of h.raw 26
 have hlt:=h.raw.lt
 have g0:(m.ar == 0)=false:=zQ k0
 have g1:(m.ar == 1)=false:=zQ k1
 have hwh:=eT c s w h.raw (by rw [hs.op];exact ok.op)
 rw [hs.op,hs.ar,hs.left,hs.beyond,show (if m.op.jh=true then decide (m.ar=5)&&decide (m.left=8) else if m.op.data=0 then decide (m.ar=7) && !m.beyond else true)=m.whole from rfl,hw] at hwh
 have HW:=zH hwh
 have HH:=zH h
 have HOK:=zH ok
 clear hwh hw k0 k1 h ok hs
 go_enter func209,ntmps209
 go_upto_region 2 with (go_at_call 223;refine HW.out.mono ?_;rintro e w1 ⟨rfl,n1,rfl⟩)
 have h:=HH.out.aj (aT zR n1)
 have st:Step F F w (w.drewN n1):=Step.ah (aT zR n1)
 generalize w.drewN n1=w1 at *
 clear HH HW c26 g0 g1 hlt
 have hs:=h.bS
 have c20:w1.cell? ⟨c,20,none⟩=some (.int .i64 m.op.byte):=by rw [← hs.op];exact cell_of h.raw 20
 have c16:w1.cell? ⟨c,16,none⟩=some (.bool m.en):=by rw [← hs.en];exact cell_of h.raw 16
 have hf : ∀ i,w1.frozen? ⟨c,i,none⟩=false:=fun i=>aC h.raw i
 have hlt:=h.raw.lt
 have E:=zH (show m.fS={ m with aA:=m.cC&&decide (m.mode=160) } by unfold af.fS;rw [b235];rfl)
 rw [b235] at c20
 have c30:w1.cell? ⟨c,30,none⟩=some (.int .i64 m.mode):=by rw [← hs.mode];exact cell_of h.raw 30
 have c31:w1.cell? ⟨c,31,none⟩=some (.bool m.cC):=by rw [← hs.cC];exact cell_of h.raw 31
 have c17:w1.cell? ⟨c,17,none⟩=some (.bool s.aA):=cell_of h.raw 17
 have H1:=fun v=>h.block (s':={ s with aA:=v }) (m':={ m with aA:=v }) (w':=w1.setCell ⟨c,17,none⟩ (.bool v)) (av (i:=17) (v:=.bool v) h.raw) ⟨hs.cells,hs.bn,hs.aZ,hs.dJ,hs.en,rfl,hs.op,hs.ar,hs.left,hs.cG,hs.addr,hs.mode,hs.cC,hs.told,hs.now,hs.beyond,hs.once⟩ ((Touch.refl (aM c) w1).set c 17 _ rfl) rfl rfl rfl rfl rfl rfl
 have T1:=fun v=>st.trans (h.step ((Touch.refl (aM c) w1).set c 17 (.bool v) rfl))
 have HX:=zH (fun v=>zA (H1 v) (T1 v))
 clear H1 T1 h hs st HOK b235
 cases hm:m.cC with
 | true =>
  rw [hm] at c31
  go_wp2_with fail
  go_end0
  have hv:(m.cC&&decide (m.mode=160))=(m.mode == 160):=by rw [hm];rfl
  have e1:=E.out
  rw [hv] at e1
  rw [e1]
  exact cL (HX.out (m.mode == 160)).1 (HX.out (m.mode == 160)).2
 | false =>
  rw [hm] at c31
  go_wp2_with fail
  go_end0
  have hv:(m.cC&&decide (m.mode=160))=false:=by rw [hm];rfl
  have e1:=E.out
  rw [hv] at e1
  rw [e1]
  exact cL (HX.out false).1 (HX.out false).2
theorem Fg {w:World} {c:Nat} {m:af} {F:Nat→Prop} (h:aO w c m F):w.cell? ⟨c,29,none⟩=some (.int .i64 m.addr):=by
 obtain ⟨s,h⟩:=h.open
 rw [← h.bS.addr];exact cell_of h.raw 29
theorem Cq (m:af) (j:ie):(m.dG j).addr=m.addr:=by unfold af.dG;split;rfl;split <;> rfl
theorem C2 {w:World} {c:Nat} {s:Raw} {m:af} {F:Nat→Prop} (h:bJ w c s m F) (jb:Nat) (hj:w.heap.size≤jb) : ∀ ba bc,s.busy=.slice ba m.busy.length bc → ∀ b o,ba=some ⟨b,o,none⟩→0<m.busy.length→b≠jb:=by
 intro ba bc e1 b o e2 hl e3
 obtain ⟨a',c',f1,f2,f3,_⟩:=h.busy.ex
 rw [e1] at f1
 obtain ⟨rfl,rfl⟩:ba=a'∧bc=c':=by simpa using f1
 obtain ⟨b',o',g1,g2⟩:=f2 0 hl
 rw [e2] at g1
 obtain ⟨rfl,rfl⟩:b=b'∧o=o':=by simpa using g1
 have:=zL w _ g2
 simp at this
 omega
theorem KT (c:Nat) (m:af) (F:Nat→Prop) (w:World) (h:aO w c m F) (ok:m.Ok) (k0:m.ar≠0) (k1:m.ar≠1) (hw:m.whole=true) (b2:m.op.byte=2):Calls prog 209 #[.pointer (some ⟨c,0,none⟩)] w (eW c m.fS F w):=by
 obtain ⟨s,h⟩:=h.open
 have hs:=h.bS
 have c26:w.cell? ⟨c,26,none⟩=some (.int .i64 m.ar):=by rw [← hs.ar];exact cell_of h.raw 26
 have hlt:=h.raw.lt
 have g0:(m.ar == 0)=false:=zQ k0
 have g1:(m.ar == 1)=false:=zQ k1
 have hwh:=eT c s w h.raw (by rw [hs.op];exact ok.op)
 rw [hs.op,hs.ar,hs.left,hs.beyond,show (if m.op.jh=true then decide (m.ar=5)&&decide (m.left=8) else if m.op.data=0 then decide (m.ar=7) && !m.beyond else true)=m.whole from rfl,hw] at hwh
 have HW:=zH hwh
 have HH:=zH h
 have HOK:=zH ok
 clear hwh hw k0 k1 h ok hs
 go_enter func209,ntmps209
 go_upto_region 2 with (go_at_call 223;refine HW.out.mono ?_;rintro e w1 ⟨rfl,n1,rfl⟩)
 have h:=HH.out.aj (aT zR n1)
 have st:Step F F w (w.drewN n1):=Step.ah (aT zR n1)
 generalize w.drewN n1=w1 at *
 clear HH HW c26 g0 g1 hlt
 have hs:=h.bS
 have c20:w1.cell? ⟨c,20,none⟩=some (.int .i64 m.op.byte):=by rw [← hs.op];exact cell_of h.raw 20
 have c16:w1.cell? ⟨c,16,none⟩=some (.bool m.en):=by rw [← hs.en];exact cell_of h.raw 16
 have hf : ∀ i,w1.frozen? ⟨c,i,none⟩=false:=fun i=>aC h.raw i
 have hlt:=h.raw.lt
 have hdata:=(bp.cX h.data).ints
 obtain ⟨da,dc,hda,hdi⟩:=hdata
 have c32:w1.cell? ⟨c,32,none⟩=some (.slice da m.data.length dc):=by rw [← hda];exact cell_of h.raw 32
 have okk:=HOK.out
 have ha0:=okk.fH
 have ha1:=okk.gi
 rw [b2] at c20
 by_cases hl:0<m.data.length
 case neg =>
  have E:=zH (show m.fS=m by unfold af.fS;rw [b2];show m.iZ=m;unfold af.iZ;rw [if_neg hl])
  have HX:=zH (zA h st)
  have g2:(m.data.length:Int)=0:=by omega
  clear h hs st HOK b2 hda hdi okk hl
  go_wp2_with fail
  go_end0
  rw [E.out]
  exact cL HX.out.1 HX.out.2
 obtain ⟨A,hA⟩:=Int.eq_ofNat_of_zero_le ha0
 have hpg:IntKind.i64.wrap ((A:Int) - (A:Int).tmod 32)=(A:Int) - (A:Int) % 32:=by rw [Int.tmod_eq_emod_of_nonneg (by omega)];exact dz (by omega) (by omega)
 have E:=zH (show m.fS=m.dG ⟨-1,IntKind.i64.wrap ((A:Int) - (A:Int).tmod 32),kH A m.data,0,false⟩ by unfold af.fS;rw [b2];show m.iZ=_;unfold af.iZ;rw [if_pos hl,hA,hpg])
 have c29:w1.cell? ⟨c,29,none⟩=some (.int .i64 A):=by rw [← hA,← hs.addr];exact cell_of h.raw 29
 have HP:=zH (DI c s A da dc m.data w1.drew h.raw (by rw [hs.addr];exact hA) (by omega) hda hdi (by have:=okk.data;omega))
 have HF:=zH (fun jb hj=>C2 h jb hj)
 have hN : ∀ b,w1.heap.size≤b → ¬ F b:=fun b hb hF=>Nat.lt_irrefl _ (zV (h.lt b hF) hb)
 have hl':(0:Int)<(m.data.length:Int):=by omega
 have hsz:w.heap.size≤w1.heap.size:=st.aD.size
 have HH:=zH (zA h st)
 have HR:=zH (Cq m ⟨-1,IntKind.i64.wrap ((A:Int) - (A:Int).tmod 32),kH A m.data,0,false⟩)
 generalize kH A m.data=pg at *
 clear h hs st HOK b2 hda hdi okk hl hpg
 go_upto_region 18 with (fail)
 go_region_held3 (fun w'=>w'.cell? ⟨c,29,none⟩=some (.int .i64 A)) (first | exact c29 | exact c29' | exact (World.cell?_alloc_lt _ _ _ hlt3).trans c29' | exact (Fg hC).trans (congrArg (fun a=>some (Value.int .i64 a)) (HR.out.trans hA)) | go_keep) (first
   | (go_at_call 225;(with_reducible refine HP.out.mono ?_);rintro e w3 ⟨rfl,hb3⟩;have hb13:=gtr (aw (Below.refl _ w1)) hb3;have h3:=HH.out.1.aj hb13;have c29':w3.cell? ⟨c,29,none⟩=some (.int .i64 A):=(hb13.cell (p:=⟨c,29,none⟩) hlt).trans c29;have hlt3:=zV hlt hb13.size)
   | (go_at_call 224;(with_reducible refine (rH c w3.heap.size s m ⟨-1,IntKind.i64.wrap ((A:Int) - (A:Int).tmod 32),pg,0,false⟩ F (w3.alloc (.cells #[.int .i64 (-1),.int .i64 (IntKind.i64.wrap ((A:Int) - (A:Int).tmod 32)),.string pg,.int .i64 0,.bool false] 192)) (h3.aj (ae zR _)) (ag _ _) (hN _ hb13.size) (.inl rfl) ha0 ha1 (HF.out _ hb13.size)).mono ?_);rintro e w4 ⟨rfl,F',hC,t4,hf4⟩))
 all_goals
  go_wp2_with fail
  go_end0
  rw [E.out]
  exact ⟨rfl,F',hC,⟨((HH.out.2.trans (Step.ah hb13)).aD.alloc _).then t4 (fun b hb=>hb.imp id (fun e=>by rw [e];exact Nat.le_trans hsz hb13.size)),fun b hb=>(hf4 b hb).imp id (fun e=>by rw [e];exact Nat.le_trans hsz hb13.size)⟩⟩
theorem Fs (c:Nat) (m:af) (F:Nat→Prop) (w:World) (h:aO w c m F) (ok:m.Ok) (k0:m.ar≠0) (k1:m.ar≠1) (hw:m.whole=true) (n6 : ¬ m.op.byte=6) (n4 : ¬ m.op.byte=4) (n117 : ¬ m.op.byte=117) (n122 : ¬ m.op.byte=122) (nn1 : ¬ m.op.byte=1) (b2 : ¬ m.op.byte=2) (n32 : ¬ m.op.byte=32) (n235 : ¬ m.op.byte=235):Calls prog 209 #[.pointer (some ⟨c,0,none⟩)] w (eW c m.fS F w):=by
 obtain ⟨s,h⟩:=h.open
 have hs:=h.bS
 have c26:w.cell? ⟨c,26,none⟩=some (.int .i64 m.ar):=by rw [← hs.ar];exact cell_of h.raw 26
 have hlt:=h.raw.lt
 have g0:(m.ar == 0)=false:=zQ k0
 have g1:(m.ar == 1)=false:=zQ k1
 have hwh:=eT c s w h.raw (by rw [hs.op];exact ok.op)
 rw [hs.op,hs.ar,hs.left,hs.beyond,show (if m.op.jh=true then decide (m.ar=5)&&decide (m.left=8) else if m.op.data=0 then decide (m.ar=7) && !m.beyond else true)=m.whole from rfl,hw] at hwh
 have HW:=zH hwh
 have HH:=zH h
 have HOK:=zH ok
 clear hwh hw k0 k1 h ok hs
 go_enter func209,ntmps209
 go_upto_region 2 with (go_at_call 223;refine HW.out.mono ?_;rintro e w1 ⟨rfl,n1,rfl⟩)
 have h:=HH.out.aj (aT zR n1)
 have st:Step F F w (w.drewN n1):=Step.ah (aT zR n1)
 generalize w.drewN n1=w1 at *
 clear HH HW c26 g0 g1 hlt
 have hs:=h.bS
 have c20:w1.cell? ⟨c,20,none⟩=some (.int .i64 m.op.byte):=by rw [← hs.op];exact cell_of h.raw 20
 have c16:w1.cell? ⟨c,16,none⟩=some (.bool m.en):=by rw [← hs.en];exact cell_of h.raw 16
 have hf : ∀ i,w1.frozen? ⟨c,i,none⟩=false:=fun i=>aC h.raw i
 have hlt:=h.raw.lt
 have E:=zH (show m.fS=m by unfold af.fS;rw [if_neg n6,if_neg n4,if_neg n117,if_neg n122,if_neg nn1,if_neg b2,if_neg n32,if_neg n235])
 have y6:(m.op.byte == 6)=false:=zQ n6
 have y4:(m.op.byte == 4)=false:=zQ n4
 have y117:(m.op.byte == 117)=false:=zQ n117
 have y122:(m.op.byte == 122)=false:=zQ n122
 have y1:(m.op.byte == 1)=false:=zQ nn1
 have y2:(m.op.byte == 2)=false:=zQ b2
 have y32:(m.op.byte == 32)=false:=zQ n32
 have y235:(m.op.byte == 235)=false:=zQ n235
 have HX:=zH (zA h st)
 clear h hs st HOK n6 n4 n117 n122 nn1 b2 n32 n235
 go_wp2_with fail
 go_end0
 rw [E.out]
 exact cL HX.out.1 HX.out.2
theorem Hm (c:Nat) (m:af) (F:Nat→Prop) (w:World) (h:aO w c m F) (ok:m.Ok) (k:m.ar=0∨m.ar=1∨m.whole=false):Calls prog 209 #[.pointer (some ⟨c,0,none⟩)] w (eW c m F w):=by
 obtain ⟨s,h⟩:=h.open
 have hs:=h.bS
 have c26:w.cell? ⟨c,26,none⟩=some (.int .i64 m.ar):=by rw [← hs.ar];exact cell_of h.raw 26
 by_cases k0:m.ar=0
 ·
  rw [k0] at c26
  have HH:=zH h
  clear h hs k0 ok k
  go_enter func209,ntmps209
  go_wp2_with fail
  go_end0
  exact cL HH.out (Step.refl _ _)
 by_cases k1:m.ar=1
 ·
  rw [k1] at c26
  have HH:=zH h
  clear h hs k0 k1 ok k
  go_enter func209,ntmps209
  go_wp2_with fail
  go_end0
  exact cL HH.out (Step.refl _ _)
 have hw:=(k.resolve_left k0).resolve_left k1
 have g0:(m.ar == 0)=false:=zQ k0
 have g1:(m.ar == 1)=false:=zQ k1
 have hwh:=eT c s w h.raw (by rw [hs.op];exact ok.op)
 rw [hs.op,hs.ar,hs.left,hs.beyond,show (if m.op.jh=true then decide (m.ar=5)&&decide (m.left=8) else if m.op.data=0 then decide (m.ar=7) && !m.beyond else true)=m.whole from rfl,hw] at hwh
 have HW:=zH hwh
 have HH:=zH h
 clear h hs k0 k1 ok hwh hw k
 go_enter func209,ntmps209
 go_wp2_with (go_at_call 223;refine HW.out.mono ?_;rintro e w1 ⟨rfl,n1,rfl⟩)
 go_end0
 exact cL (HH.out.aj (aT zR n1)) (Step.ah (aT zR n1))
theorem vu (c:Nat) (m:af) (F:Nat→Prop) (w:World) (h:aO w c m F) (ok:m.Ok) (put:m.op.byte=1→m.ar≠0→m.ar≠1→m.whole=true→Calls prog 209 #[.pointer (some ⟨c,0,none⟩)] w (eW c m.fS F w)):Calls prog 209 #[.pointer (some ⟨c,0,none⟩)] w (eW c m.ends F w):=by
 by_cases k:m.ar=0∨m.ar=1∨m.whole=false
 ·
  have e:m.ends=m:=by unfold af.ends;rw [if_pos k]
  rw [e];exact Hm c m F w h ok k
 have e:m.ends=m.fS:=by unfold af.ends;rw [if_neg k]
 rw [e]
 have k0:m.ar≠0:=fun e=>k (.inl e)
 have k1:m.ar≠1:=fun e=>k (.inr (.inl e))
 have hw:m.whole=true:=by cases hh:m.whole with | true=>rfl | false=>exact absurd (.inr (.inr hh)) k
 by_cases b6:m.op.byte=6;· exact KV c m F w h ok k0 k1 hw b6
 by_cases b4:m.op.byte=4;· exact KU c m F w h ok k0 k1 hw b4
 by_cases b117:m.op.byte=117;· exact Hi c m F w h ok k0 k1 hw b117
 by_cases b122:m.op.byte=122;· exact Hk c m F w h ok k0 k1 hw b122
 by_cases b1:m.op.byte=1;· exact put b1 k0 k1 hw
 by_cases b2:m.op.byte=2;· exact KT c m F w h ok k0 k1 hw b2
 by_cases b32:m.op.byte=32;· exact JD c m F w h ok k0 k1 hw b32
 by_cases b235:m.op.byte=235;· exact Hl c m F w h ok k0 k1 hw b235
 exact Fs c m F w h ok k0 k1 hw b6 b4 b117 b122 b1 b2 b32 b235
def putAt:Array Value→Nat→List Value→Array Value
 | cur,_,[]=>cur
 | cur,k,v::r=>putAt (cur.setIfInBounds k v) (k+1) r
theorem Cm (w:World) (g:Nat) (cur:Array Value) (t:TypeId) (hg:w.heap[g]? = some (.cells cur t (0,0))):w.setRow g cur=w:=by
 have hlt:g<w.heap.size:=(Array.getElem?_eq_some_iff.1 hg).1
 have hv:w.heap[g]=.cells cur t (0,0):=(Array.getElem?_eq_some_iff.1 hg).2
 unfold World.setRow
 cases w with
 | mk heap tape drawn os output =>
  congr 1
  apply Array.ext
  ·
   simp
  ·
   intro k h1 h2
   simp only [Array.getElem_modify]
   split
   ·
    rename_i hk;subst hk;simp at hv;simp [hv]
   ·
    rfl
theorem aY (w:World) (g:Nat) (a:Array Value) (k:Nat) (h:k≠g):(w.setRow g a).heap[k]? = w.heap[k]? := by
 unfold World.setRow
 simp only [Array.getElem?_modify]
 rw [if_neg (Ne.symm h)]
theorem je {F:Nat→Prop} {a b:World} (h:Touch F a b) (g:Nat) (r:Array Value) (hg:F g):Touch F a (b.setRow g r) :=
 ⟨h.os,h.tape,h.output,by show _≤(b.heap.modify _ _).size;simp;exact h.size,fun k hk hn=>(aY _ _ _ _ (fun e=>hn (by rw [e];exact hg))).trans (h.block k hk hn)⟩
theorem run_storeCells_at (g o:Nat) (t:TypeId) : ∀ (vs:List Value) (i:Nat) (cur:Array Value) (w:World),w.heap[g]? = some (.cells cur t (0,0))→o+i+vs.length≤cur.size→(∀ v ∈ vs,v.oneCell'=true)→(storeCells ⟨g,o,none⟩ vs i).run prog w=.ok () (w.setRow g (putAt cur (o+i) vs))
 | [],i,cur,w,hg,hl,_=>by
  simp only [storeCells,putAt]
  show Result.ok () w=_
  rw [Cm w g cur t hg]
 | v::rest,i,cur,w,hg,hl,h1=>by
  have hi:o+i<cur.size:=by simp at hl;omega
  have hcell:w.cell? ⟨g,o+i,none⟩=some cur[o+i]:=by simp [World.cell?,hg,hi]
  have hfro:w.frozen? ⟨g,o+i,none⟩=false:=by simp [World.frozen?,hg]
  have hst:(store ((⟨g,o,none⟩:Addr).add i) v).run prog w=.ok () (w.setRow g (cur.setIfInBounds (o+i) v)):=by
   rw [cQ,run_store prog w _ v _ (h1 v (by simp)),hcell]
   simp [hfro,setCell_eq_setRow w g (o+i) cur t (0,0) v hg]
  have ih:=run_storeCells_at g o t rest (i+1) (cur.setIfInBounds (o+i) v) (w.setRow g (cur.setIfInBounds (o+i) v)) (setRow_heap w g cur _ t _ hg) (by simp at hl ⊢;omega) (fun x hx=>h1 x (by simp [hx]))
  simp only [storeCells,Sem.run_bind,hst,Result.andThen_ok,ih,setRow_setRow,putAt]
  rfl
theorem dL {ops:Array Oper} {rest:List Oper} {p:Oper} {a:Act} {w:World} {Q:Exit→Act→World→Prop} (hgd:p.guard=none) (ty:TypeId) (x y:Operand) (ho:p.op=.store ty x y) (g o:Nat) (cells:Array Value) (hx:a.eval x=.pointer (some ⟨g,o,none⟩)) (hy:a.eval y=.agg cells) (t:TypeId) (old:Array Value) (hg:w.heap[g]? = some (.cells old t (0,0))) (hi:(prog.info? ty).map (·.size)=some cells.size) (hold:o+cells.size≤old.size) (h1:cells.all (·.oneCell')=true) (h:wpList prog ops Q rest (a.put p.dst undef) (w.setRow g (putAt old o cells.toList))):wpList prog ops Q (p::rest) a w:=by
 refine wpList_plain hgd fun K hK => ?_
 have hrun:(storeVar ty ⟨g,o,none⟩ (.agg cells)).run prog w=.ok () (w.setRow g (putAt old o cells.toList)):=by
  have:=run_storeCells_at g o t cells.toList 0 old w hg (by simp;omega) (fun v hv=>(Array.all_eq_true_iff_forall_mem.1 h1) v (by simpa using hv))
  cases hq:prog.info? ty with
  | none=>simp [hq] at hi
  | some i =>
   have hs:cells.size=i.size:=by simp [hq] at hi;omega
   simp [storeVar,sizeOf,typeInfo,hq,Value.cells,hs,this]
 unfold Oper.wp execOp
 simp only [ho,hx,hy,Instr.storeAt,Instr.sureAddr,Sem.run_bind,Sem.run_pure,Result.andThen_ok,hrun]
 exact hK _ _ h
def af.xi (m:af) (b:Int):Bool :=
 if b=5∨b=53∨b=117 then true else if b=107∨b=235 then m.aZ && !m.bO else if b=1∨b=2∨b=32 then m.aW.isNone else !m.bO
def af.known (m:af) (b:Int):Bool:=decide (gj b=0)&&m.xi (al b).byte
def af.enter (m:af) (st cl:Int):af:={ m with ar:=st,left:=cl,cG:=0 }
def af.behind (m:af):af :=
 if m.op.mode=true∧m.cC=false then m.enter 3 (many m.op.addr)
 else if 0<m.op.dummy∧m.ar≠4 then m.enter 4 m.op.dummy
 else if m.op.data=0 then m.enter 7 0
 else if m.op.jh=true then m.enter 5 (many m.op.data)
 else m.enter 6 0
def af.cM (m:af) (b:Int):af :=
 if m.known b=false then { m with op:=al b }.enter 1 0
 else if 0<(al b).addr then { m with op:=al b }.enter 2 (if (al b).addr=1 then 24 else 6)
 else { m with op:=al b }.behind
theorem o8.enter {s:Raw} {m:af} (h:o8 s m) (st cl:Int):o8 (s.enter st cl) (m.enter st cl) :=
 ⟨h.cells,h.bn,h.aZ,h.dJ,h.en,h.aA,h.op,rfl,rfl,rfl,h.addr,h.mode,h.cC,h.told,h.now,h.beyond,h.once⟩
theorem o8.Ma {s:Raw} {m:af} (h:o8 s m) (r:gh):o8 { s with op:=r } { m with op:=r } :=
 ⟨h.cells,h.bn,h.aZ,h.dJ,h.en,h.aA,rfl,h.ar,h.left,h.cG,h.addr,h.mode,h.cC,h.told,h.now,h.beyond,h.once⟩
theorem o8.behind {s:Raw} {m:af} (h:o8 s m):o8 s.behind m.behind:=by
 unfold Raw.behind af.behind
 rw [h.op,h.cC,h.ar]
 split
 ·
  exact h.enter _ _
 ·
  split
  ·
   exact h.enter _ _
  ·
   split
   ·
    exact h.enter _ _
   ·
    split <;> exact h.enter _ _
theorem Dv {s:Raw} {m:af} (h:o8 s m) (b:Int):nV s m.aW b=m.known b:=by
 unfold nV af.known oE af.xi
 rw [h.aZ];rfl
theorem o8.cM {s:Raw} {m:af} (h:o8 s m) (b:Int):o8 (s.cM m.aW b) (m.cM b):=by
 unfold Raw.cM af.cM
 rw [Dv h]
 split
 ·
  exact (h.Ma _).enter _ _
 ·
  split
  ·
   exact (h.Ma _).enter _ _
  ·
   exact (h.Ma _).behind
theorem sX (s:Raw):s.behind.aW=s.aW∧s.behind.busy=s.busy∧s.behind.data=s.data:=by
 unfold Raw.behind;split;exact ⟨rfl,rfl,rfl⟩;split;exact ⟨rfl,rfl,rfl⟩;split;exact ⟨rfl,rfl,rfl⟩;split <;> exact ⟨rfl,rfl,rfl⟩
theorem AY (s:Raw) (j:Option ie) (b:Int):(s.cM j b).aW=s.aW∧(s.cM j b).busy=s.busy∧(s.cM j b).data=s.data:=by
 unfold Raw.cM;split;exact ⟨rfl,rfl,rfl⟩;split;exact ⟨rfl,rfl,rfl⟩;exact sX _
theorem gZ (m:af):m.behind.aW=m.aW∧m.behind.busy=m.busy∧m.behind.data=m.data:=by
 unfold af.behind;split;exact ⟨rfl,rfl,rfl⟩;split;exact ⟨rfl,rfl,rfl⟩;split;exact ⟨rfl,rfl,rfl⟩;split <;> exact ⟨rfl,rfl,rfl⟩
theorem mz (m:af) (b:Int):(m.cM b).aW=m.aW∧(m.cM b).busy=m.busy∧(m.cM b).data=m.data:=by
 unfold af.cM;split;exact ⟨rfl,rfl,rfl⟩;split;exact ⟨rfl,rfl,rfl⟩;exact gZ _
theorem iG (m:af):m.behind.home=m.home:=by
 unfold af.behind;split;rfl;split;rfl;split;rfl;split <;> rfl
theorem nB (m:af) (b:Int):(m.cM b).home=m.home:=by
 unfold af.cM;split;rfl;split;rfl;exact iG _
theorem lV (c:Nat) (s:Raw) (m:af) (F:Nat→Prop) (b:Int) (w:World) (h:bJ w c s m F):Calls prog 205 #[.pointer (some ⟨c,0,none⟩),.int .i64 b] w fun e w'=>e=.returned (.tuple #[])∧bJ w' c (s.cM m.aW b) (m.cM b) F∧Touch (aM c) w w':=by
 refine (zw c s m.aW b w h.raw h.aW).mono ?_
 rintro e w' ⟨rfl,g,t⟩
 obtain ⟨e1,e2,e3⟩:=AY s m.aW b
 obtain ⟨f1,f2,f3⟩:=mz m b
 exact ⟨rfl,h.block g (h.bS.cM b) t e1 f1 e2 f2 e3 f3 (nB m b),t⟩
def af.fresh (m:af):af:={ m with dJ:=true,op:=gh.zero,ar:=0,left:=8,cG:=0,addr:=0,mode:=0,cC:=false,data:=[],told:=0,now:=0,beyond:=false }
def af.select (m:af):af:=if m.aA then m.fresh.cM 235 else m.fresh
def xp:Array Value := #[.int .i64 0,.int .i64 0,.bool false,.int .i64 0,.int .i64 0,.bool false,.int .i64 0,.int .i64 8,.int .i64 0,.int .i64 0,.int .i64 0,.bool false,.slice none 0 0,.int .i64 0,.int .i64 0,.bool false]
theorem GQ:xp.all (·.oneCell')=true:=by simp [xp,Value.oneCell']
theorem JM:(prog.info? 127).map (·.size)=some xp.size:=by kernel_rfl
def Raw.fresh (s:Raw):Raw:={ s with dJ:=true,op:=gh.zero,ar:=0,left:=8,cG:=0,addr:=0,mode:=0,cC:=false,data:=.slice none 0 0,told:=0,now:=0,beyond:=false }
theorem IB {w:World} {c:Nat} {s:Raw} (h:aP w c { s with dJ:=true }):aP (w.setRow c (putAt ({ s with dJ:=true }:Raw).row 20 xp.toList)) c s.fresh:=by
 have e:putAt ({ s with dJ:=true }:Raw).row 20 xp.toList=s.fresh.row:=by simp [putAt,xp,Raw.row,gh.zero,Raw.fresh]
 rw [e]
 exact setRow_heap w c _ _ 131 (0,0) h
theorem C8 {w w':World} {c:Nat} {s:Raw} {m:af} {F:Nat→Prop} (h:bJ w c s m F) (g:aP w' c s.fresh) (t:Touch (aM c) w w'):bJ w' c s.fresh m.fresh F:=by
 have hs:=h.bS
 have hO : ∀ b,aM c b→F b:=fun b e=>by rw [show b=c from e];exact h.own
 exact ⟨g,⟨hs.cells,hs.bn,hs.aZ,rfl,hs.en,hs.aA,rfl,rfl,rfl,rfl,rfl,rfl,rfl,rfl,rfl,rfl,hs.once⟩,h.aW.only h.raw t,h.busy.aD t hO,zN,h.own,h.lH,(fun g e=>nomatch e),fun b hb=>zV (h.lt b hb) t.size⟩
theorem se (c:Nat) (m:af) (F:Nat→Prop) (w:World) (h:aO w c m F) (hsel:m.dJ=false):Calls prog 195 #[.pointer (some ⟨c,0,none⟩)] w fun e w'=>e=.returned (.int .i64 0)∧aO w' c m.select F∧Touch (aM c) w w':=by
 obtain ⟨s,h⟩:=h.open
 have hs:=h.bS
 have c15:w.cell? ⟨c,15,none⟩=some (.bool false):=by rw [← hsel,← hs.dJ];exact cell_of h.raw 15
 have hf : ∀ i,w.frozen? ⟨c,i,none⟩=false:=fun i=>aC h.raw i
 have h1:aP (w.setCell ⟨c,15,none⟩ (.bool true)) c { s with dJ:=true }:=av (i:=15) (v:=.bool true) h.raw
 have t1:Touch (aM c) w (w.setCell ⟨c,15,none⟩ (.bool true)):=(Touch.refl (aM c) w).set c 15 _ rfl
 have HH:=zH h
 have hgo:=hs.aA
 clear h hs hsel
 go_enter func195,ntmps195
 go_upto_region 6 with (fail)
 generalize w.setCell ⟨c,15,none⟩ (.bool true)=w1 at *
 apply wp_region_lit
 refine Go.Great.wpList_readTo rfl (some 16) rfl (.pointer (some ⟨c,0,none⟩)) rfl ?_
 refine Go.wpList_callTo rfl (some 17) rfl 204 #[.int .i64 1] (by first | kernel_rfl | (simp [execOp,go_sem];done)) (.int .i64 8) w1 ((fD 1 w1 (.inl rfl)).mono (fun e w' h=>⟨h.1,h.2⟩)) ?_
 refine Go.Great.wpList_readTo rfl (some 18) rfl (.agg xp) (by kernel_rfl) ?_
 refine Go.Great.wpList_readTo rfl (some 19) rfl (.pointer (some ⟨c,0,none⟩)) rfl ?_
 refine Go.Great.wpList_readTo rfl (some 20) rfl (.pointer (some ⟨c,15,none⟩)) rfl ?_
 refine Go.Great.wpList_readTo rfl (some 21) rfl (.pointer (some ⟨c,20,none⟩)) rfl ?_
 refine dL rfl 127 _ _ rfl c 20 xp rfl rfl 131 ({ s with dJ:=true }:Raw).row h1 JM (Nat.le_refl 36) GQ ?_
 have h2:=IB h1
 have t2:Touch (aM c) w (w1.setRow c (putAt ({ s with dJ:=true }:Raw).row 20 xp.toList)):=je t1 c _ rfl
 generalize w1.setRow c (putAt ({ s with dJ:=true }:Raw).row 20 xp.toList)=w2 at *
 have h3:=C8 HH.out h2 t2
 have c17:w2.cell? ⟨c,17,none⟩=some (.bool m.aA):=by rw [← hgo];exact cell_of h2 17
 have HB:=zH (lV c s.fresh m.fresh F 235 w2 h3)
 have HT:=zH (zA h3 t2)
 clear h1 t1 h2 t2 h3 c15 hf HH hgo
 cases hg:m.aA with
 | false =>
  rw [hg] at c17
  go_wp2
  go_ret
  exact ⟨rfl,by rw [show m.select=m.fresh by unfold af.select;rw [hg];rfl];exact HT.out.1.shut,HT.out.2⟩
 | true =>
  rw [hg] at c17
  go_wp2_with fail
  refine HB.out.mono ?_
  rintro e w3 ⟨rfl,g3,t3⟩
  go_wp2
  go_ret
  exact ⟨rfl,by rw [show m.select=m.fresh.cM 235 by unfold af.select;rw [hg];rfl];exact g3.shut,HT.out.2.trans t3⟩
theorem um (c:Nat) (m:af) (F:Nat→Prop) (w:World) (h:aO w c m F):Calls prog 39 #[.pointer (some ⟨c,0,none⟩)] w fun e w'=>e=.returned (.string m.cells)∧w'=w:=by
 obtain ⟨s,h⟩:=h.open
 have c0:w.cell? ⟨c,0,none⟩=some (.string m.cells):=by rw [← h.bS.cells];exact cell_of h.raw 0
 clear h
 go_enter func39,ntmps39
 go_wp2
 go_ret
 exact ⟨rfl,rfl⟩
def uI (er:Int) (c:Nat) (m:af) (F:Nat→Prop) (w:World) (e:Ending) (w':World):Prop:=e=.returned (.int .i64 er) ∧ ∃ F',aO w' c m F'∧Step F F' w w'
def af.ug (m:af):af:={ m with dJ:=false }
def af.fb (m:af):af:=m.ug.ends
theorem pQ (c:Nat) (m:af) (F:Nat→Prop) (w:World) (h:aO w c m F) (ok:m.Ok) (hsel:m.dJ=true) (put:m.op.byte=1→m.ar≠0→m.ar≠1→m.whole=true → ∀ w',aO w' c m.ug F→Calls prog 209 #[.pointer (some ⟨c,0,none⟩)] w' (eW c m.ug.fS F w')):Calls prog 197 #[.pointer (some ⟨c,0,none⟩)] w (uI 0 c m.fb F w):=by
 obtain ⟨s,h⟩:=h.open
 have hs:=h.bS
 have c15:w.cell? ⟨c,15,none⟩=some (.bool true):=by rw [← hsel,← hs.dJ];exact cell_of h.raw 15
 have hf : ∀ i,w.frozen? ⟨c,i,none⟩=false:=fun i=>aC h.raw i
 have t:Touch (aM c) w (w.setCell ⟨c,15,none⟩ (.bool false)):=(Touch.refl (aM c) w).set c 15 _ rfl
 have h1:=h.block (s':={ s with dJ:=false }) (m':=m.ug) (w':=w.setCell ⟨c,15,none⟩ (.bool false)) (av (i:=15) (v:=.bool false) h.raw) ⟨hs.cells,hs.bn,hs.aZ,rfl,hs.en,hs.aA,hs.op,hs.ar,hs.left,hs.cG,hs.addr,hs.mode,hs.cC,hs.told,hs.now,hs.beyond,hs.once⟩ t rfl rfl rfl rfl rfl rfl
 have HE:=zH (vu c m.ug F _ h1.shut ⟨ok.size,ok.aW,ok.fH,ok.gi,ok.op,ok.data⟩ (fun e1 e2 e3 e4=>put e1 e2 e3 e4 _ h1.shut))
 have st:=zH (h.step t)
 clear h hs ok put h1 t hsel
 go_enter func197,ntmps197
 go_wp2_with fail
 refine HE.out.mono ?_
 rintro e w1 ⟨rfl,F',hC,t1⟩
 go_wp2
 go_ret
 exact ⟨rfl,F',hC,st.out.trans t1⟩
def af.cD (m:af) (mask:ByteArray):af :=
 { m with cells:=(match m.aW with | none=>m.cells | some j=>cB j m.cells mask),dJ:=false,en:=false,aA:=false,aW:=none,busy:=[],op:=gh.zero,ar:=0,left:=0,cG:=0,addr:=0,mode:=0,cC:=false,data:=[],told:=0,now:=0,beyond:=false }
theorem yk {w w':World} {c:Nat} {s s':Raw} {m:af} {F:Nat→Prop} (mask:ByteArray) (h:bJ w c s m F) (g:aP w' c s') (t:Touch F w w') (e:s'={ s with cells:=(m.cD mask).cells,dJ:=false,en:=false,aA:=false,aW:=none,busy:=.slice none 0 0,ar:=0,left:=0,cG:=0,addr:=0,mode:=0,cC:=false,data:=.slice none 0 0,told:=0,now:=0,beyond:=false,op:=gh.zero }):uI 0 c (m.cD mask) F w (.returned (.int .i64 0)) w':=by
 subst e
 have hs:=h.bS
 exact ⟨rfl,F,bJ.shut ⟨g,⟨rfl,hs.bn,hs.aZ,rfl,rfl,rfl,rfl,rfl,rfl,rfl,rfl,rfl,rfl,rfl,rfl,rfl,hs.once⟩,rfl,⟨none,0,rfl,aK.nil _ _,(fun b o e=>nomatch e),fun _=>rfl,Nat.le_refl _,(fun b o e=>nomatch e)⟩,zN,h.own,(fun b e=>nomatch e),(fun g e=>nomatch e),fun b hb=>zV (h.lt b hb) t.size⟩,Step.dw t⟩
def gone:Array Value := #[.bool false,.bool false,.bool false,.pointer none,.slice none 0 0,.int .i64 0,.int .i64 0,.bool false,.int .i64 0,.int .i64 0,.bool false,.int .i64 0,.int .i64 0,.int .i64 0,.int .i64 0,.int .i64 0,.bool false,.slice none 0 0,.int .i64 0,.int .i64 0,.bool false]
theorem Cc {w:World} {c:Nat} {s:Raw} (h:aP w c s):aP (w.setRow c (putAt s.row 15 gone.toList)) c { s with dJ:=false,en:=false,aA:=false,aW:=none,busy:=.slice none 0 0,ar:=0,left:=0,cG:=0,addr:=0,mode:=0,cC:=false,data:=.slice none 0 0,told:=0,now:=0,beyond:=false,op:=gh.zero }:=by
 have e:putAt s.row 15 gone.toList=({ s with dJ:=false,en:=false,aA:=false,aW:=none,busy:=.slice none 0 0,ar:=0,left:=0,cG:=0,addr:=0,mode:=0,cC:=false,data:=.slice none 0 0,told:=0,now:=0,beyond:=false,op:=gh.zero }:Raw).row:=by
  simp [putAt,gone,Raw.row,gh.zero]
 rw [e]
 exact setRow_heap w c s.row _ 131 (0,0) h
theorem Bw:gone.all (·.oneCell')=true:=by simp [gone,Value.oneCell']
theorem Ez:(prog.info? 129).map (·.size)=some gone.size:=by kernel_rfl
theorem vv (c:Nat) (m:af) (F:Nat→Prop) (w:World) (h:aO w c m F) (ok:m.Ok) (mask:ByteArray) (hm:mask.size≤4096):Calls prog 34 #[.pointer (some ⟨c,0,none⟩),.string mask] w (uI 0 c (m.cD mask) F w):=by
 obtain ⟨s,h⟩:=h.open
 have hs:=h.bS
 have hO : ∀ b,aM c b→F b:=fun b e=>by rw [show b=c from e];exact h.own
 have c18:w.cell? ⟨c,18,none⟩=some (.pointer s.aW):=cell_of h.raw 18
 cases hj:m.aW with
 | none =>
  have hjn:s.aW=none:=by have:=h.aW;rw [hj] at this;exact this
  rw [hjn] at c18
  have HL:=zH (yk mask h (Cc h.raw) (je (Touch.refl F w) c _ h.own) (by
   have e:(m.cD mask).cells=m.cells:=by unfold af.cD;rw [hj]
   rw [e,← hs.cells]))
  have hraw:=zH h.raw
  clear h hs hj hjn
  go_enter func34,ntmps34
  go_upto_region 5 with (fail)
  apply wp_region_lit
  refine Go.Great.wpList_readTo rfl (some 27) rfl (.pointer (some ⟨c,0,none⟩)) rfl ?_
  refine Go.Great.wpList_readTo rfl (some 28) rfl (.agg gone) (by kernel_rfl) ?_
  refine Go.Great.wpList_readTo rfl (some 29) rfl (.pointer (some ⟨c,0,none⟩)) rfl ?_
  refine Go.Great.wpList_readTo rfl (some 30) rfl (.pointer (some ⟨c,15,none⟩)) rfl ?_
  refine dL rfl 129 _ _ rfl c 15 gone rfl rfl 131 s.row hraw.out Ez (Nat.le_refl 36) Bw ?_
  go_wp2
  go_ret
  exact HL.out
 | some j =>
  obtain ⟨jb,hjb,hb⟩ : ∃ jb,s.aW=some ⟨jb,0,none⟩∧w.heap[jb]? = some (.cells j.row 192 (0,0)):=by have:=h.aW;rw [hj] at this;exact this
  rw [hjb] at c18
  have c0:w.cell? ⟨c,0,none⟩=some (.string s.cells):=cell_of h.raw 0
  have hlt:=h.raw.lt
  have HJ:=zH (nU jb j s.cells mask w.drew hb (ok.aW j hj).1 (by rw [hs.cells];exact ok.size) hm)
  have HR:=zH h
  have hcl:cB j s.cells mask=(m.cD mask).cells:=by unfold af.cD;rw [hj,hs.cells]
  have HCL:=zH hcl
  generalize cB j s.cells mask=r at *
  have hraw:=zH h.raw
  clear h hs hj hb hcl
  go_enter func34,ntmps34
  go_upto_region 4 with (fail)
  go_region_with (go_at_call 64;(with_reducible refine HJ.out.mono ?_);rintro e w3 ⟨rfl,hb3⟩;have hb13:=gtr (aw (Below.refl _ w)) hb3;have h3:=hraw.out.aj hb13;have c0':w3.cell? ⟨c,0,none⟩=some (.string s.cells):=cell_of h3 0;have hf3 : ∀ i,w3.frozen? ⟨c,i,none⟩=false:=fun i=>aC h3 i)
  all_goals
   have H1:aP (w3.setCell ⟨c,0,none⟩ (.string r)) c { s with cells:=r }:=av (i:=0) (v:=.string r) h3
   have T1:Touch F w (w3.setCell ⟨c,0,none⟩ (.string r)):=(Touch.ah hb13).set c 0 _ HR.out.own
   have HL:=zH (yk mask HR.out (Cc H1) (je T1 c _ HR.out.own) (by rw [← HCL.out]))
   have H1':=zH H1
   clear H1 T1 h3
   go_upto_region 5 with (fail)
   apply wp_region_lit
   refine Go.Great.wpList_readTo rfl (some 27) rfl (.pointer (some ⟨c,0,none⟩)) rfl ?_
   refine Go.Great.wpList_readTo rfl (some 28) rfl (.agg gone) (by kernel_rfl) ?_
   refine Go.Great.wpList_readTo rfl (some 29) rfl (.pointer (some ⟨c,0,none⟩)) rfl ?_
   refine Go.Great.wpList_readTo rfl (some 30) rfl (.pointer (some ⟨c,15,none⟩)) rfl ?_
   refine dL rfl 129 _ _ rfl c 15 gone rfl rfl 131 ({ s with cells:=r }:Raw).row H1'.out Ez (Nat.le_refl 36) Bw ?_
   go_wp2
   go_ret
   exact HL.out
def zm (xs:List Int) (w:World) (e:Ending) (w':World):Prop := ∃ a c,e=.returned (.slice a xs.length c)∧w'.ownsRow w.heap.size 3 1 (.slice a xs.length c) xs.length (az xs)∧Below w.heap.size w w'
theorem vy (a:Option Addr) (c:Nat) (xs:List Int) (w:World) (h1:aK w a xs) (hn:a=none→c=0) (hm:xs.length * 8≤140737488355328):Calls prog 56 #[.slice a xs.length c] w (zm xs w):=by
 have kn:=fun (w:World) (x:Option Addr) (n c:Nat)=>Lib.run_eql_slice_nil (P:=prog) w 22 3 x n c 0 0 underlying22
 cases a with
 | none =>
  obtain rfl:c=0:=hn rfl
  have hx:xs=[]:=by
   cases xs with
   | nil=>rfl
   | cons x r=>obtain ⟨b,o,h,_⟩:=h1 0 (by simp);cases h
  subst hx
  go_enter func56,ntmps56
  go_wp2
  go_ret
  exact ⟨_,_,rfl,zN,Below.refl _ _⟩
 | some ad =>
  obtain ⟨i0,hi,hz0,hz1,hz2⟩:=info_parts iu
  have HI:=zH h1
  clear h1
  go_enter func56,ntmps56
  go_wp2_with (at_builtin;refine wpList_append_own _ rfl _ _ 22 rfl w.heap.size 3 i0 (.int .i64 0) 1 8 underlying22 hi hz0 hz1 hz2 rfl (by decide) _ 0 [] rfl (pC w 3 1 _ zY) ad xs.length c (az xs) rfl (tz xs) ?c1 (tE xs) ?c2 ?c3 ?c4 ?_)
  case c1 =>
   intro j u hu
   obtain ⟨hj,rfl⟩:=tx xs j u hu
   obtain ⟨b,off,ha,hcell⟩:=HI.out j hj
   obtain rfl:ad=⟨b,off,none⟩:=by simpa using ha
   have hlt:=zL w _ hcell
   rw [cQ,World.cell?_alloc_lt _ _ _ hlt]
   exact hcell
  case c2=>simp only [maxLen];omega
  case c3=>omega
  case c4=>simp
  intro v' w' hown hg _
  go_wp2
  go_ret
  have hown2:w'.ownsRow w.heap.size 3 1 v' xs.length (az xs):=by simpa using hown
  obtain ⟨a',c',rfl,_⟩:=bp.cX hown
  exact ⟨a',c',rfl,hown2,dH (ae zR _) hg (fun k hk=>by simp [Value.ownBlock] at hk;omega)⟩
theorem Iy {w:World} {B:Nat} {a:Option Addr} {c:Nat} {xs:List Int} {F:Nat→Prop} (h:w.ownsRow B 3 1 (.slice a xs.length c) xs.length (az xs)) (hF : ∀ b,B≤b → ¬ F b) : ∃ hm,(0<xs.length→B≤hm)∧rX w (.slice a xs.length c) xs hm F:=by
 obtain ⟨a',c',e,hi⟩:=(bp.cX h).ints
 obtain ⟨rfl,rfl⟩:a=a'∧c=c':=by simpa using e
 rcases h.2 with ⟨e2,hn⟩ | ⟨g,cap,cur,e2,hb,hg,hnc,_⟩
 ·
  obtain ⟨rfl,e3,rfl⟩:a=none∧xs.length=0∧c=0:=by simpa using e2
  exact ⟨0,fun hl=>by omega,none,0,rfl,hi,(fun b o e=>nomatch e),fun _=>rfl,by omega,(fun b o e=>nomatch e)⟩
 ·
  obtain ⟨rfl,rfl⟩:a=some ⟨g,0,none⟩∧c=cap:=by simpa using e2
  exact ⟨g,fun _=>hb,_,_,rfl,hi,fun b o e hl=>by
   obtain ⟨rfl,rfl⟩:g=b∧0=o:=by simpa using e
   exact hF _ hb,(fun e=>nomatch e),hnc,fun b o e hl=>by
   obtain ⟨rfl,rfl⟩:g=b∧0=o:=by simpa using e
   rfl⟩
theorem JZ:cV 54 (fun n=>decide (n<1) || decide (400<n)) where
 calls n w:=by
  go_enter func54,ntmps54
  go_wp2
  all_goals
   go_ret
   refine ⟨?_,rfl⟩
   simp_all
   try omega
 run args w:=by go_simp
def GF (c:Nat) (m:af) (xs:List Int) (F:Nat→Prop) (w:World) (e:Ending) (w':World):Prop :=
 e=.returned (.int .i64 0) ∧ ∃ (hm:Nat) (F':Nat→Prop),(0<xs.length→w.heap.size≤hm)∧aO w' c { m with busy:=xs,home:=hm } F'∧Step F F' w w'
theorem vw (c:Nat) (m:af) (F:Nat→Prop) (a:Option Addr) (cap:Nat) (xs:List Int) (w:World) (h:aO w c m F) (hi:aK w a xs) (hn:a=none→cap=0) (hl:xs.length≤16) (hx : ∀ x ∈ xs,1≤x∧x≤400):Calls prog 30 #[.pointer (some ⟨c,0,none⟩),.slice a xs.length cap] w (GF c m xs F w):=by
 obtain ⟨s,h⟩:=h.open
 have hs:=h.bS
 have c19:w.cell? ⟨c,19,none⟩=some s.busy:=cell_of h.raw 19
 have hany:xs.any (fun n=>decide (n<1) || decide (400<n))=false:=by
  rw [List.any_eq_false]
  intro x hxm
  have:=hx x hxm
  simp;omega
 have HC:=zH (fa 54 _ JZ a cap xs w hi (by omega))
 rw [hany] at HC
 have HL:=zH (fun n=>vy a cap xs (w.drewN n) (hi.aj (aT zR n)) hn (by omega))
 have hl' : ¬ (16:Int)<(xs.length:Int):=by omega
 have HH:=zH h
 clear h hs hany hx hi hl
 go_enter func30,ntmps30
 go_wp2_with fail
 refine HC.out.mono ?_
 rintro e w1 ⟨rfl,n1,rfl⟩
 go_wp2_with fail
 refine (HL.out n1).mono ?_
 rintro e w2 ⟨a2,c2,rfl,hown,hb⟩
 have hb2:Below w.heap.size w w2:=gtr (aT zR n1) hb
 have h2:=HH.out.aj hb2
 have k19:w2.cell? ⟨c,19,none⟩=some s.busy:=cell_of h2.raw 19
 have hf : ∀ i,w2.frozen? ⟨c,i,none⟩=false:=fun i=>aC h2.raw i
 have hr:aP (w2.setCell ⟨c,19,none⟩ (.slice a2 xs.length c2)) c { s with busy:=.slice a2 xs.length c2 }:=av (i:=19) (v:=.slice a2 xs.length c2) h2.raw
 have t:Touch (aM c) w2 (w2.setCell ⟨c,19,none⟩ (.slice a2 xs.length c2)):=(Touch.refl (aM c) w2).set c 19 _ rfl
 have hs:=h2.bS
 obtain ⟨hm,hm1,hbz⟩:=Iy (F:=F) hown (fun b hb' hF=>Nat.lt_irrefl _ (zV (HH.out.lt b hF) hb'))
 have HM1:=zH hm1
 have hO : ∀ b,aM c b→F b:=fun b e=>by rw [show b=c from e];exact h2.own
 have hd:(w2.setCell ⟨c,19,none⟩ (.slice a2 xs.length c2)).ownsRow 0 3 1 s.data m.data.length (az m.data):=fZ h2.data t (fun g hg e=>by
  obtain ⟨cur,hc⟩:=fY h2.data hg
  rw [show g=c from e] at hc
  have:=hc.symm.trans h2.raw;simp at this)
 have h3:bJ (w2.setCell ⟨c,19,none⟩ (.slice a2 xs.length c2)) c { s with busy:=.slice a2 xs.length c2 } { m with busy:=xs,home:=hm } F :=
  ⟨hr,⟨hs.cells,hs.bn,hs.aZ,hs.dJ,hs.en,hs.aA,hs.op,hs.ar,hs.left,hs.cG,hs.addr,hs.mode,hs.cC,hs.told,hs.now,hs.beyond,hs.once⟩,h2.aW.only h2.raw t,hbz.aD t hO,hd,h2.own,h2.lH,h2.jw,fun b hb=>zV (h2.lt b hb) t.size⟩
 have HR:=zH (zA h3.shut ((Step.ah hb2).trans (Step.dw (t.mono hO))))
 clear h3 hd hr t hs hbz h2 hb2 hown hb hm1
 go_wp2
 go_ret
 exact ⟨rfl,hm,F,fun hl=>HM1.out hl,HR.out.1,HR.out.2⟩
end Go.Proofs.YtcfdenckiigdaaaGreat

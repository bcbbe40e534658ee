/- Part 45 of the contracts. -/
import Derived.Test.YtcfdenckiigdaaaGreatKp44
set_option linter.unusedVariables false
set_option maxRecDepth 100000
set_option maxHeartbeats 4000000
namespace Go.Proofs.YtcfdenckiigdaaaGreat
section
open Go.RowKit
def Wld.next (W:Wld) (xs:List Int) (hm:Nat):Wld:=⟨W.m.next xs hm,W.q,W.S⟩
def Wld.cut (W:Wld) (n:Int):Wld:=if 0<n then ⟨{ W.m with left:=n - 1 },W.q,W.S⟩ else W
def Wld.loss (W:Wld) (mask:ByteArray):Wld:=⟨Ctl.new (W.m.chip.loss mask),Cache.new,shut⟩
def qcq.lose (A:qcq):qcq:=⟨A.value,A.pairs,A.reads,true⟩
def qnQ (r:Wld×qcq×Int):qcq:=if r.1.m.lost=true then ansZero.lose else r.2.1.lose
def qqh (r:Wld×qcq×Int):Int:=if r.1.m.lost=true then 0 else r.2.2
def doneR (W:Wld) (x:qbV) (hm:Nat):Wld×qcq×Int:=actR ((W.next x.busy hm).cut x.loss) x
def doR (W:Wld) (x:qbV) (hm:Nat):Wld×qcq×Int :=
 if mayB x=false then (W,ansZero,2500) else if x.loss=0∧x.kind≠7 then doneR W x hm else ((doneR W x hm).1.loss x.mask,qnQ (doneR W x hm),qqh (doneR W x hm))
def DoS (k c p pa:Nat) (x:qbV) (ba:Option Addr) (bc:Nat) (w':World):Prop:=w'.cell? ⟨p,0,none⟩=some (.pointer (some ⟨c,0,none⟩))∧w'.cell? ⟨p,1,none⟩=some (.pointer (some ⟨k,0,none⟩))∧w'.cell? ⟨pa,5,none⟩=some (.int .i64 x.loss)∧w'.cell? ⟨pa,6,none⟩=some (.string x.mask)∧w'.cell? ⟨pa,7,none⟩=some (.slice ba x.busy.length bc)
theorem DoS.of {w w':World} {s b p pa k c:Nat} {z:Int} {x:qbV} {ba:Option Addr} {bc:Nat} {ra:Option Addr} {rc:Nat} (h1:qgH w p c (some ⟨k,0,none⟩) (some ⟨b,0,none⟩) (some ⟨s,0,none⟩) z) (h2:qco w pa x ba bc ra rc) {F:Nat→Prop} (t:Touch F w w') (n1 : ¬ F p) (n2 : ¬ F pa):DoS k c p pa x ba bc w':=by
 have k1:=t.at h1 n1
 have k2:qco w' pa x ba bc ra rc:=t.at h2 n2
 exact ⟨qaa k1 0,qaa k1 1,qaa k2 5,qaa k2 6,qaa k2 7⟩
theorem qrl {m:Ctl} {y:ByteArray} (h:Calm m y) {xs:List Int} (hx : ∀ z ∈ xs,1≤z∧z≤400) (hm:Nat):Calm (m.next xs hm) y:=⟨h.lost,h.sel,h.goes,h.cells,h.prot,h.quad,h.job,hx⟩
theorem qrk {m:Ctl} {y:ByteArray} (h:Calm m y) (n:Int):Calm { m with left:=n } y:=⟨h.lost,h.sel,h.goes,h.cells,h.prot,h.quad,h.job,h.busy⟩
theorem qvz {m:Ctl} (h:m.Ok) {xs:List Int} (hx : ∀ z ∈ xs,1≤z∧z≤400) (hm:Nat):(m.next xs hm).Ok:=⟨⟨⟨h.good.ok.size,h.good.ok.job,h.good.ok.addr0,h.good.ok.addr1,h.good.ok.op,h.good.ok.data⟩,hx⟩,h.sel,h.left0,h.left1⟩
theorem qvt {m:Ctl} (h:m.Ok) {n:Int} (h0 : -1≤n) (h1:n≤1099511627776):({ m with left:=n }:Ctl).Ok:=⟨h.good,h.sel,h0,h1⟩
theorem qry {w w1 w3:World} {p R:Nat} {W1:Wld} {G G1:Nat→Prop} (h1:qaz w1 p W1 G1) (st:Step G G1 w w1) (A:qcq) (er:Int) (pv:Option Addr) (pc:Nat) (rv:Option Addr) (cc:Nat) (o1:w1.ownsRow w.heap.size 83 2 (.slice pv A.pairs.length pc) A.pairs.length (pairVals A.pairs)) (o2:w1.ownsRow w.heap.size 3 1 (.slice rv A.reads.length cc) A.reads.length (intVals A.reads)) (n1 : ∀ g,(Value.slice pv A.pairs.length pc).ownBlock=some g → ¬ G1 g∧g≠R) (n2 : ∀ g,(Value.slice rv A.reads.length cc).ownBlock=some g → ¬ G1 g∧g≠R) (hR:Plain w1 R) (hnR : ¬ G1 R) (hge:w.heap.size≤R) (t:Touch (Only R) w1 w3):qa2 p W1 A er G w (.returned (.tuple #[.agg #[.string A.value,.slice pv A.pairs.length pc,.slice rv A.reads.length cc,.bool A.lost],.int .i64 er])) w3 :=
 ⟨pv,pc,rv,cc,rfl,qaR o1 t (fun g hg e=>(n1 g hg).2 e),qaR o2 t (fun g hg e=>(n2 g hg).2 e),G1,h1.plain t hnR hR,⟨st.touch.then t (fun i hi=>.inr (by rw [show i=R from hi];exact hge)),st.foot⟩,fun g hg=>(n1 g hg).1,fun g hg=>(n2 g hg).1⟩
theorem qtU {w wE wG wF wH:World} {p R O s4 c4 s5 k5 b5 B:Nat} {z5:Int} {G G3 H4 H5 H6:Nat→Prop} {W3:Wld} {A2:qcq} {mask:ByteArray} {pv:Option Addr} {pc:Nat} {rv:Option Addr} {cc:Nat} (hE:Step G G3 w wE) (hOG:w.heap.size≤O) (hRG:w.heap.size≤R) (hG : ∀ i,G3 i ↔ qdz p s4 H4 i) (nR : ¬ G3 R) (nO : ¬ G3 O) (hRO:R≠O) (tO:Touch (Only O) wE wG) (hO:wG.heap[O]? = some (.cells #[.string A2.value,.slice pv A2.pairs.length pc,.slice rv A2.reads.length cc,.bool A2.lost] 34 (0,0))) (hR:wG.heap[R]? = some ZA) (o1:wG.ownsRow w.heap.size 83 2 (.slice pv A2.pairs.length pc) A2.pairs.length (pairVals A2.pairs)) (o2:wG.ownsRow w.heap.size 3 1 (.slice rv A2.reads.length cc) A2.reads.length (intVals A2.reads)) (n1 : ∀ g,(Value.slice pv A2.pairs.length pc).ownBlock=some g → ¬ G3 g∧g≠R∧g≠O∧B≤g) (n2 : ∀ g,(Value.slice rv A2.reads.length cc).ownBlock=some g → ¬ G3 g∧g≠R∧g≠O∧B≤g) (hp:p<wG.heap.size) (st:Step (Mine s4 H4) (Mine s4 H5) wG wF) (hrow:qgH wH p c4 (some ⟨k5,0,none⟩) (some ⟨b5,0,none⟩) (some ⟨s5,0,none⟩) z5) (hs:Sys (fun _=>False) wH s5 k5 c4 b5 (Ctl.new (W3.m.chip.loss mask)) Cache.new shut H6) (np : ¬ Mine s5 H6 p) (tp:Touch (Only p) wF wH) (ft : ∀ i,Mine s5 H6 i→H5 i∨wF.heap.size≤i) (er:Int) (x1 x2 x3 x4:Value):qa2 p (W3.loss mask) A2.lose er G w (.returned (.tuple #[.agg #[.string A2.value,.slice pv A2.pairs.length pc,.slice rv A2.reads.length cc,.bool true],.int .i64 er])) (put4 (wH.setCell ⟨O,3,none⟩ (.bool true)) R x1 x2 x3 x4):=by
 have g3p:G3 p:=(hG p).2 (.inr rfl)
 have hpO:p≠O:=fun e=>nO (e ▸ g3p)
 have m3 : ∀ i,Mine s4 H4 i→G3 i:=fun i h=>(hG i).2 (.inl h)
 have t2:Touch (Only O) wH (wH.setCell ⟨O,3,none⟩ (.bool true)):=(Touch.refl (Only O) wH).set O 3 _ rfl
 have inF : ∀ i,i<wG.heap.size → ¬ G3 i → ¬ Mine s5 H6 i:=fun i hi hn h=>by
  rcases ft i h with h | h
  ·
   rcases st.foot i (.inl h) with h | h
   ·
    exact hn (m3 i h)
   ·
    omega
  ·
   have:=st.touch.size
   omega
 have row : ∀ i v,i<wG.heap.size → ¬ G3 i→wG.heap[i]? = some v→wH.heap[i]? = some v:=fun i v hi hn e=>tp.at (st.touch.at e (fun h=>hn (m3 i h))) (fun h=>hn (by rw [show i=p from h];exact g3p))
 have hOl:=qat hO
 have hRl:=qat hR
 have kO:=row O _ hOl nO hO
 have kR:(wH.setCell ⟨O,3,none⟩ (.bool true)).heap[R]? = some ZA:=t2.at (row R _ hRl nR hR) (fun h=>hRO h)
 have own : ∀ {t sz v n xs},wG.ownsRow w.heap.size t sz v n xs→(∀ g,v.ownBlock=some g → ¬ G3 g∧g≠R∧g≠O∧B≤g)→(wH.setCell ⟨O,3,none⟩ (.bool true)).ownsRow w.heap.size t sz v n xs:=fun h n=>qaR (qaR (qaR h st.touch (fun g hg h=>(n g hg).1 (m3 g h))) tp (fun g hg h=>(n g hg).1 (by rw [show g=p from h];exact g3p))) t2 (fun g hg h=>(n g hg).2.2.1 h)
 have low : ∀ i,G3 i→G i∨w.heap.size≤i:=hE.foot
 have wG0:w.heap.size≤wG.heap.size:=Nat.le_trans hE.touch.size tO.size
 have T:Touch G w (wH.setCell ⟨O,3,none⟩ (.bool true)):=(((hE.touch.then tO (fun i hi=>.inr (by rw [show i=O from hi];exact hOG))).then st.touch (fun i hi=>low i (m3 i hi))).then tp (fun i hi=>low i (by rw [show i=p from hi];exact g3p))).then t2 (fun i hi=>.inr (by rw [show i=O from hi];exact hOG))
 refine qry (W1:=W3.loss mask) (G1:=qdz p s5 H6) (R:=R) ⟨s5,k5,c4,b5,H6,z5,t2.at hrow (fun h=>hpO h),hs.plain t2 (inF O hOl nO) (qdf kO),np,fun h=>(by cases h),fun i=>Iff.rfl⟩ ⟨T,fun i hi => ?_⟩ A2.lose er pv pc rv cc (own o1 n1) (own o2 n2) (fun g hg=>⟨fun h => ?_,(n1 g hg).2.1⟩) (fun g hg=>⟨fun h => ?_,(n2 g hg).2.1⟩) (qdf kR) (fun h => ?_) hRG (qaK _ _ _ _ _ _)
 ·
  rcases hi with hi | hi
  ·
   rcases ft i hi with h | h
   ·
    rcases st.foot i (.inl h) with h | h
    ·
     exact low i (m3 i h)
    ·
     exact .inr (Nat.le_trans wG0 h)
   ·
    exact .inr (Nat.le_trans wG0 (Nat.le_trans st.touch.size h))
  ·
   rw [hi]
   exact low p g3p
 ·
  rcases h with h | h
  ·
   exact inF g (qeC o1 g hg) (n1 g hg).1 h
  ·
   exact (n1 g hg).1 (by rw [h];exact g3p)
 ·
  rcases h with h | h
  ·
   exact inF g (qeC o2 g hg) (n2 g hg).1 h
  ·
   exact (n2 g hg).1 (by rw [h];exact g3p)
 ·
  rcases h with h | h
  ·
   exact inF R hRl nR h
  ·
   exact nR (by rw [h];exact g3p)
theorem qtV (W:Wld) (A:qcq) (er:Int):qnQ (W,A,er)=(if W.m.lost=true then ansZero else A).lose:=by unfold qnQ;split <;> rfl
theorem qtW (W:Wld) (A:qcq) (er:Int):qqh (W,A,er)=if W.m.lost=true then 0 else er:=rfl
theorem qtv (W:Wld) (n:Int):(W.cut n).m.chip=W.m.chip:=by unfold Wld.cut;split <;> rfl
theorem qpX (W:Wld) (xs:List Int) (hm:Nat) (n:Int):((W.next xs hm).cut n).q=W.q:=by unfold Wld.cut;split <;> rfl
theorem qpW (W:Wld) (xs:List Int) (hm:Nat) (n:Int):((W.next xs hm).cut n).S=W.S:=by unfold Wld.cut;split <;> rfl
theorem qoo {W:Wld} {cx:ByteArray} (h:Calm W.m cx) (ok:W.m.Ok) {x:qbV} (f:x.Fine) (hm:Nat):Calm ((W.next x.busy hm).cut x.loss).m cx∧((W.next x.busy hm).cut x.loss).m.Ok∧(x.loss=0→((W.next x.busy hm).cut x.loss).m.left=W.m.left):=by
 have h1:=qrl h f.busy.2 hm
 have o1:=qvz ok f.busy.2 hm
 unfold Wld.cut
 by_cases hl:0<x.loss
 ·
  rw [if_pos hl]
  have:=f.loss
  exact ⟨qrk h1 _,qvt o1 (by omega) (by omega),fun e=>by omega⟩
 ·
  rw [if_neg hl]
  exact ⟨h1,o1,fun _=>rfl⟩
theorem qkY (p:Nat) (W:Wld) (G:Nat→Prop) (x:qbV) (ba:Option Addr) (bc:Nat) (ra:Option Addr) (rc:Nat) (cx:ByteArray) (w:World) (h:qaz w p W G) (calm:Calm W.m cx) (ok:W.m.Ok) (g:W.q.Good) (fit:W.S.Fit) (hb:qal w ba x.busy) (hbn:ba=none→bc=0) (hi:qak w ra x.reads G) (hcap:x.reads.length≤rc) (lb:x.busy.length≤4611686018427387904) (lr:x.reads.length≤4611686018427387904):Calls Tryz.prog 11 #[.pointer (some ⟨p,0,none⟩),.agg (x.row ba bc ra rc)] w fun e w' => ∃ hm,qa2 p (doR W x hm).1 (doR W x hm).2.1 (doR W x hm).2.2 G w e w':=by
 obtain ⟨s,k,c,b,H,z,h1,h2,h3,h4,h5⟩:=h.ex
 have hpp:=qat h1
 have hlt : ∀ i,Mine s H i→i<w.heap.size:=h2.lt
 have hb0:=qac (qac (Below.refl w.heap.size w) (.cells (x.row ba bc ra rc) 31)) ZA
 have hact:qco ((w.alloc (.cells (x.row ba bc ra rc) 31)).alloc ZA) w.heap.size x ba bc ra rc:=qab (qac (Below.refl _ _) ZA) (qad w _)
 have hsz:((w.alloc (.cells (x.row ba bc ra rc) 31)).alloc ZA).heap.size=w.heap.size+2:=by simp
 have hR:((w.alloc (.cells (x.row ba bc ra rc) 31)).alloc ZA).heap[w.heap.size+1]? = some ZA:=by simpa using qad (w.alloc (.cells (x.row ba bc ra rc) 31)) ZA
 have HM:=zH (qsb x ba bc ra rc ((w.alloc (.cells (x.row ba bc ra rc) 31)).alloc ZA) (hb.later hb0) (hi.1.later hb0) lb lr)
 have H0:=zH (zA (h2.later hb0) (zA (show qgH _ p c _ _ _ z from qab hb0 h1) (zA hact (zA hR (zA hb0 (zA hsz (zA (hb.later hb0) (zA (hi.step (G':=G) (Step.of_below hb0)) (zA h3 (zA h4 (zA h5 (zA hlt hpp))))))))))))
 have HC:=zH (zA calm (zA ok (zA g (zA fit (zA hbn hcap)))))
 have HD:=zH (fun hm=>(show doR W x hm=if mayB x=false then (W,ansZero,2500) else if x.loss=0∧x.kind≠7 then doneR W x hm else ((doneR W x hm).1.loss x.mask,qnQ (doneR W x hm),qqh (doneR W x hm)) from rfl))
 have hrow:x.row ba bc ra rc = #[.int .i64 x.kind,.string x.key,.string x.value,.int .i64 x.at_,.int .i64 x.width,.int .i64 x.loss,.string x.mask,.slice ba x.busy.length bc,.slice ra x.reads.length rc]:=rfl
 have HMF:=zH (fun h=>qlc (x:=x) h)
 clear h h1 h2 h3 h4 h5 hact hR hb0 hsz hlt hpp hb hi hbn hcap lb lr calm ok g fit
 rw [hrow] at H0 HM ⊢
 clear hrow
 generalize mayB x=mb at HM HD HMF
 go_enter Tryz.func11,Tryz.ntmps11
 go_upto_region 3 with fail
 have eZ:(w.alloc (.cells #[.int .i64 x.kind,.string x.key,.string x.value,.int .i64 x.at_,.int .i64 x.width,.int .i64 x.loss,.string x.mask,.slice ba x.busy.length bc,.slice ra x.reads.length rc] 31)).alloc (.cells #[.string ⟨#[]⟩,.slice none 0 0,.slice none 0 0,.bool false] 34)=(w.alloc (.cells #[.int .i64 x.kind,.string x.key,.string x.value,.int .i64 x.at_,.int .i64 x.width,.int .i64 x.loss,.string x.mask,.slice ba x.busy.length bc,.slice ra x.reads.length rc] 31)).alloc ZA:=rfl
 rw [eZ]
 clear eZ
 generalize (w.alloc (.cells #[.int .i64 x.kind,.string x.key,.string x.value,.int .i64 x.at_,.int .i64 x.width,.int .i64 x.loss,.string x.mask,.slice ba x.busy.length bc,.slice ra x.reads.length rc] 31)).alloc ZA=w0 at *
 have a0:w0.cell? ⟨w.heap.size,0,none⟩=some (.int .i64 x.kind):=qaa H0.out.2.2.1 0
 have a1:w0.cell? ⟨w.heap.size,1,none⟩=some (.string x.key):=qaa H0.out.2.2.1 1
 have a2:w0.cell? ⟨w.heap.size,2,none⟩=some (.string x.value):=qaa H0.out.2.2.1 2
 have a3:w0.cell? ⟨w.heap.size,3,none⟩=some (.int .i64 x.at_):=qaa H0.out.2.2.1 3
 have a4:w0.cell? ⟨w.heap.size,4,none⟩=some (.int .i64 x.width):=qaa H0.out.2.2.1 4
 have a5:w0.cell? ⟨w.heap.size,5,none⟩=some (.int .i64 x.loss):=qaa H0.out.2.2.1 5
 have a6:w0.cell? ⟨w.heap.size,6,none⟩=some (.string x.mask):=qaa H0.out.2.2.1 6
 have a7:w0.cell? ⟨w.heap.size,7,none⟩=some (.slice ba x.busy.length bc):=qaa H0.out.2.2.1 7
 have a8:w0.cell? ⟨w.heap.size,8,none⟩=some (.slice ra x.reads.length rc):=qaa H0.out.2.2.1 8
 have HWA:=zH (fun w' (hb:Below w0.heap.size w0 w')=>(show qaz w' p W (qdz p s H) from ⟨s,k,c,b,H,z,qab hb H0.out.2.1,H0.out.1.later hb,H0.out.2.2.2.2.2.2.2.2.1,H0.out.2.2.2.2.2.2.2.2.2.1,fun i=>Iff.rfl⟩))
 have HGW:=zH (show ∀ i,G i ↔ qdz p s H i from H0.out.2.2.2.2.2.2.2.2.2.2.1)
 have HLT:=zH (zA (show ∀ i,qdz p s H i→i<w.heap.size from fun i hi=>hi.elim (H0.out.2.2.2.2.2.2.2.2.2.2.2.1 i) (fun e=>by rw [e];exact H0.out.2.2.2.2.2.2.2.2.2.2.2.2)) (zA H0.out.2.2.2.2.1 H0.out.2.2.2.2.2.1))
 have HRR:=zH H0.out.2.2.2.1
 have HST:=zH (show Step G (qdz p s H) w w0 from ⟨Touch.of_below HLT.out.2.1,fun i hi=>.inl ((HGW.out i).2 hi)⟩)
 have HNP:=zH (show ¬ Mine s H p from H0.out.2.2.2.2.2.2.2.2.1)
 have hpa : ¬ qdz p s H w.heap.size:=fun hm=>Nat.lt_irrefl _ (HLT.out.1 _ hm)
 have hnR : ¬ qdz p s H (w.heap.size+1):=fun hm=>by have:=HLT.out.1 _ hm;omega
 have HPA:=zH (zA hpa hnR)
 clear hpa hnR
 generalize hpaE:w.heap.size=pa at *
 generalize hRE:pa+1=R at *
 cases mb with
 | false =>
  have HF:=zH (fun hm=>(HD.out hm).trans (if_pos rfl))
  clear HD HMF
  go_wp2_with (go_at_call 29;refine HM.out.mono ?_;rintro e wA ⟨rfl,hbA⟩;obtain ⟨z0,z1,z2,z3,zf⟩:=row4 (qab hbA HRR.out))
  have rA:=qab hbA HRR.out
  obtain ⟨q0,q1,q2,q3,qf⟩:=row4 (qbA rA (.string ⟨#[]⟩) (.slice none 0 0) (.slice none 0 0) (.bool false))
  refine bodyPost_ret (v:=.tuple #[.agg #[.string ⟨#[]⟩,.slice none 0 0,.slice none 0 0,.bool false],.int .i64 2500]) ?_ rfl ?_
  ·
   change (results _ _).run _ (put4 _ _ _ _ _ _)=_
   simp [results,Tryz.results11,go_sem,q0,q1,q2,q3]
   rfl
  ·
   refine ⟨0,?_⟩
   rw [HF.out 0]
   exact qry (HWA.out wA hbA) (HST.out.trans (Step.of_below hbA)) ansZero 2500 none 0 none 0 (World.ownsRow_nil _ _ _ _) (World.ownsRow_nil _ _ _ _) (fun g hg=>by simp [Value.ownBlock] at hg) (fun g hg=>by simp [Value.ownBlock] at hg) (qdf rA) HPA.out.2 (by omega) (qaK wA R _ _ _ _)
 | true =>
  have HFN:=zH (HMF.out rfl)
  replace HD:=zH (fun hm=>(HD.out hm).trans (if_neg (by decide)))
  clear HMF
  go_upto_region 5 with (go_at_call 29;refine HM.out.mono ?_;rintro e wA ⟨rfl,hbA⟩)
  have HA:=zH (zA (H0.out.1.later hbA) (zA (show qgH wA p c _ _ _ z from qab hbA H0.out.2.1) (zA (show qco wA pa x ba bc ra rc from qab hbA H0.out.2.2.1) (zA (qab hbA HRR.out) (zA (HST.out.trans (Step.of_below hbA)) (zA (H0.out.2.2.2.2.2.2.1.later hbA) (H0.out.2.2.2.2.2.2.2.1.step (G':=qdz p s H) ⟨(Touch.of_below hbA),fun i hi=>.inl ((HGW.out i).2 hi)⟩)))))))
  have hsA:pa+2≤wA.heap.size:=by have:=hbA.size;have:=HLT.out.2.2;omega
  have HSZ:=zH hsA
  have HN0:=zH HNP.out
  replace HNP:=zH (zA HN0.out (show ¬ Mine s H pa from fun hm=>HPA.out.1 (.inl hm)))
  have HNX:=zH (fun w' (hb:Below wA.heap.size wA w')=>qus s k c b W.m W.q W.S H ba bc x.busy w' (HA.out.1.later hb) (HA.out.2.2.2.2.2.1.later hb) HC.out.2.2.2.2.1 HFN.out.busy.1 HFN.out.busy.2)
  have HS:=zH (fun w' (F:Nat→Prop) (t:Touch F wA w') n1 n2=>DoS.of HA.out.2.1 HA.out.2.2.1 t n1 n2)
  clear hbA hsA HM H0 HWA HST HRR a0 a1 a2 a3 a4 a5 a6 a7 a8 HN0
  refine wp_region_noPanic ?_
  refine wp_region_held_drew (S:=(DoS k c p pa x ba bc)) (by kernel_rfl) ?hS5000 (fun hHeld => ?_)
  case hS5000=>(try dsimp only);exact HS.out _ (fun _=>False) (Touch.of_below (qai (Below.refl _ _))) id id
  refine tk 0 ?_ (hy:=by (intro w hSw;unfold DoS at hSw;go_simp;try with_reducible rfl))
  refine tk 1 ?_ (hy:=by (intro w hSw;unfold DoS at hSw;go_simp;try with_reducible rfl))
  refine tk 2 ?_ (hy:=by (intro w hSw;unfold DoS at hSw;go_simp;try with_reducible rfl))
  refine tk 3 ?_ (hy:=by (intro w hSw;unfold DoS at hSw;go_simp;try with_reducible rfl))
  refine tk 4 ?_ (hy:=by (intro w hSw;unfold DoS at hSw;go_simp;try with_reducible rfl))
  refine tk 5 ?_ (hy:=by (intro w hSw;unfold DoS at hSw;go_simp;try with_reducible rfl))
  refine tr 6 fun K hK => ?_
  go_simp
  go_at_call 30
  refine (HNX.out _ (qai (Below.refl _ _))).mono ?_
  rintro e wB ⟨rfl,hm,H1,hhm,hs1,st1⟩
  have hr1:=zH (zA hs1 (zA ((Step.of_below (F:=Mine s H) (qai (Below.refl wA.heap.size wA))).trans st1.mine) (fun hl=>Nat.le_trans (show wA.heap.size≤wA.drew.heap.size from Nat.le_refl _) (hhm hl))))
  clear hs1 st1 hhm
  go_wp2_with fail
  refine hK.out _ _ ?hS5006 (fun hHeld => ?_)
  case hS5006=>(try dsimp only);exact HS.out _ _ hr1.out.2.1.touch HNP.out.1 HNP.out.2
  clear hK K
  try simp only [Act.put,zS,zT,zU]
  refine wpAnyH_done (by kernel_rfl) ?_ _
  refine NoPanic.normal ?_
  have HB:=zH (zA (show qgH wB p c _ _ _ z from hr1.out.2.1.touch.at HA.out.2.1 HNP.out.1) (zA (show qco wB pa x ba bc ra rc from hr1.out.2.1.touch.at HA.out.2.2.1 HNP.out.2) (zA ((hr1.out.2.1).safe (qat HA.out.2.1) HNP.out.1) ((hr1.out.2.1).safe (qat HA.out.2.2.1) HNP.out.2))))
  have b5:wB.cell? ⟨pa,5,none⟩=some (.int .i64 x.loss):=qaa HB.out.2.1 5
  have HNP2:=zH HB.out.2.2
  have HS2:=zH (fun w' (F:Nat→Prop) (t:Touch F wB w') n1 n2=>DoS.of HB.out.1 HB.out.2.1 t n1 n2)
  clear HNX HS
  go_upto_if 26 with fail
  go_cut [26] from 27 to 34 (fun v26 wx => ∃ H2,Sys (fun _=>False) wx s k c b ((W.next x.busy hm).cut x.loss).m W.q W.S H2∧Step (Mine s H1) (Mine s H2) wB wx)
  case first =>
   by_cases hl:0<x.loss
   ·
    have HL:=zH hl
    have hle:=HFN.out.loss.2
    have hge:=HFN.out.loss.1
    have hwr:IntKind.i64.wrap (x.loss - 1)=x.loss - 1:=qaT (by omega) (by omega)
    have HCU:=zH (fun w' (hb:Below wB.heap.size wB w')=>qvP s k c b _ W.q W.S H1 (x.loss - 1) w' (hr1.out.1.later hb) (by omega))
    rw [← hwr] at HCU
    have HWR:=zH hwr
    clear hwr
    go_upto_region 7 with fail
    refine wp_region_noPanic ?_
    refine wp_region_held_drew (S:=(DoS k c p pa x ba bc)) (by kernel_rfl) ?hS7000 (fun hHeld => ?_)
    case hS7000=>(try dsimp only);exact HS2.out _ (fun _=>False) (Touch.of_below (qai (Below.refl _ _))) id id
    refine tk 0 ?_ (hy:=by (intro w hSw;unfold DoS at hSw;go_simp;try with_reducible rfl))
    refine tk 1 ?_ (hy:=by (intro w hSw;unfold DoS at hSw;go_simp;try with_reducible rfl))
    refine tk 2 ?_ (hy:=by (intro w hSw;unfold DoS at hSw;go_simp;try with_reducible rfl))
    refine tk 3 ?_ (hy:=by (intro w hSw;unfold DoS at hSw;go_simp;try with_reducible rfl))
    refine tk 4 ?_ (hy:=by (intro w hSw;unfold DoS at hSw;go_simp;try with_reducible rfl))
    refine tk 5 ?_ (hy:=by (intro w hSw;unfold DoS at hSw;go_simp;try with_reducible rfl))
    refine tk 6 ?_ (hy:=by (intro w hSw;unfold DoS at hSw;go_simp;try with_reducible rfl))
    refine tr 7 fun K hK => ?_
    go_simp
    go_at_call 31
    refine (HCU.out _ (qai (Below.refl _ _))).mono ?_
    rintro e wC ⟨rfl,H2,hs2,st2⟩
    have hr2:=zH (zA hs2 ((Step.of_below (F:=Mine s H1) (qai (Below.refl wB.heap.size wB))).trans st2.mine))
    clear hs2 st2
    go_wp2_with fail
    refine hK.out _ _ ?hS7007 (fun hHeld => ?_)
    case hS7007=>(try dsimp only);exact HS2.out _ _ hr2.out.2.touch HNP2.out.1 HNP2.out.2
    clear hK K
    try simp only [Act.put,zS,zT,zU]
    refine wpAnyH_done (by kernel_rfl) ?_ _
    refine NoPanic.normal ?_
    go_wp2_with fail
    go_meet
    exact ⟨H2,by (have h9:=hr2.out.1;rw [HWR.out] at h9;unfold Wld.cut;rw [if_pos HL.out];exact h9),hr2.out.2⟩
   ·
    have HL:=zH hl
    go_wp2_with fail
    go_meet
    exact ⟨H1,by (unfold Wld.cut;rw [if_neg (by have:=HL.out;omega)];exact hr1.out.1),Step.refl _ _⟩
  case rest =>
   obtain ⟨H2,hs2,st2⟩:=hcut
   have hst2:=hr1.out.2.1.trans st2
   have HWC:=zH (show qaz wc p ((W.next x.busy hm).cut x.loss) (qdz p s H2) from ⟨s,k,c,b,H2,z,st2.touch.at HB.out.1 HNP2.out.1,(by rw [qpX,qpW];exact hs2),st2.safe (qat HB.out.1) HNP2.out.1,fun hl e=>(by
    rw [qtv] at hl e
    have h1:=hr1.out.2.2 hl
    have h2:=qat HA.out.2.1
    have e:hm=p:=e
    omega),fun i=>Iff.rfl⟩)
   have hgen:=qoo HC.out.1 HC.out.2.1 HFN.out hm
   have hhm:0<((W.next x.busy hm).cut x.loss).m.chip.busy.length→((W.next x.busy hm).cut x.loss).m.chip.home<wc.heap.size:=fun hl=>by
    obtain ⟨F,hc,_,_⟩:=hs2.chip
    exact (hc.home hl).1
   have hnpa : ¬ qdz p s H2 pa:=fun hm=>hm.elim (fun h=>st2.safe (qat HB.out.2.1) HNP2.out.2 h) (fun e=>by
    have:=HA.out.2.2.1
    have h0:=HA.out.2.1
    rw [e] at this
    unfold qco at this
    unfold qgH at h0
    rw [this] at h0
    simp [qbV.row] at h0)
   have HAC:=zH (qrc p pa ((W.next x.busy hm).cut x.loss) (qdz p s H2) x ba bc ra rc wc HWC.out (st2.touch.at HB.out.2.1 HNP2.out.2) hnpa hgen.2.1 (qj9 hgen.1).1 (by rw [qpX];exact HC.out.2.2.1) (by rw [qpW];exact HC.out.2.2.2.1) hhm (HA.out.2.2.2.2.2.2.step (G':=qdz p s H2) ⟨hst2.touch.mono fun i h=>.inl h,fun i hi=>hi.elim (fun h=>(hst2.foot i h).imp .inl id) (fun h=>.inl (.inr h))⟩) HC.out.2.2.2.2.2 HFN.out)
   have HC2:=zH (zA (show Step (qdz p s H) (qdz p s H2) wA wc from ⟨hst2.touch.mono fun i h=>.inl h,fun i hi=>hi.elim (fun h=>(hst2.foot i h).imp .inl id) (fun h=>.inl (.inr h))⟩) (zA (show qco wc pa x ba bc ra rc from st2.touch.at HB.out.2.1 HNP2.out.2) hnpa))
   have HDR:=zH (show doneR W x hm=actR ((W.next x.busy hm).cut x.loss) x from rfl)
   have HRN:=zH (show ¬ qdz p s H2 R∧wc.heap[R]? = some ZA∧R<wA.heap.size from ⟨fun h9=>(by
    have e1:=HPA.out.2
    rcases h9 with h9 | h9
    ·
     rcases hst2.foot R h9 with h8 | h8
     ·
      exact e1 (.inl h8)
     ·
      have:=HSZ.out;omega
    ·
     exact e1 (.inr h9)),hst2.touch.at HA.out.2.2.2.1 (fun h9=>HPA.out.2 (.inl h9)),by have:=HSZ.out;omega⟩)
   have HOK:=zH (qoC (W:=(W.next x.busy hm).cut x.loss) (x:=x) hgen.2.1 (by rw [qpX];exact HC.out.2.2.1) (by rw [qpW];exact HC.out.2.2.2.1) HFN.out)
   clear hs2 st2 hst2 hgen hhm hnpa b5 HWC HGW
   generalize actR ((W.next x.busy hm).cut x.loss) x=r at HAC HDR HOK
   obtain ⟨W3,A,er⟩:=r
   simp only at HAC
   go_upto_region 9 with (go_at_call 32;refine HAC.out.mono ?_;rintro e w3 ⟨va,vc,vb,vd,rfl,o1,o2,G3,hw3,st3,n1,n2⟩)
   have rO:=qad w3 (.cells #[.string A.value,.slice va A.pairs.length vc,.slice vb A.reads.length vd,.bool A.lost] 34)
   have bE:=qac (Below.refl w3.heap.size w3) (.cells #[.string A.value,.slice va A.pairs.length vc,.slice vb A.reads.length vd,.bool A.lost] 34)
   have hwz:w.heap.size≤wc.heap.size:=Nat.le_trans HA.out.2.2.2.2.1.touch.size HC2.out.1.touch.size
   have HE:=zH (zA (hw3.later bE) (zA (HA.out.2.2.2.2.1.trans (HC2.out.1.trans (st3.trans (Step.of_below bE)))) (zA (qb9 (o1.alloc (.cells #[.string A.value,.slice va A.pairs.length vc,.slice vb A.reads.length vd,.bool A.lost] 34)) hwz) (qb9 (o2.alloc (.cells #[.string A.value,.slice va A.pairs.length vc,.slice vb A.reads.length vd,.bool A.lost] 34)) hwz))))
   have hRc:R<wc.heap.size:=Nat.lt_of_lt_of_le HRN.out.2.2 HC2.out.1.touch.size
   have HEO:=zH (zA (show ∀ g,(Value.slice va A.pairs.length vc).ownBlock=some g → ¬ G3 g∧g≠R∧g≠w3.heap.size∧wc.heap.size≤g from fun g hg=>⟨n1 g hg,by have:=qaN o1 g hg;omega,by have:=qeC o1 g hg;omega,qaN o1 g hg⟩) (show ∀ g,(Value.slice vb A.reads.length vd).ownBlock=some g → ¬ G3 g∧g≠R∧g≠w3.heap.size∧wc.heap.size≤g from fun g hg=>⟨n2 g hg,by have:=qaN o2 g hg;omega,by have:=qeC o2 g hg;omega,qaN o2 g hg⟩))
   have rRE:(w3.alloc (.cells #[.string A.value,.slice va A.pairs.length vc,.slice vb A.reads.length vd,.bool A.lost] 34)).heap[R]? = some ZA:=qab bE (st3.touch.at HRN.out.2.1 HRN.out.1)
   have hact:qco (w3.alloc (.cells #[.string A.value,.slice va A.pairs.length vc,.slice vb A.reads.length vd,.bool A.lost] 34)) pa x ba bc ra rc:=qab bE (st3.touch.at HC2.out.2.1 HC2.out.2.2)
   have HEN:=zH (zA (st3.safe hRc HRN.out.1) (zA (st3.safe (qat HC2.out.2.1) HC2.out.2.2) (zA (show ¬ G3 w3.heap.size from fun h9=>Nat.lt_irrefl _ (hw3.lt _ h9)) (zA (show R≠w3.heap.size by have:=st3.touch.size;omega) (show pa≠w3.heap.size by have:=qat HC2.out.2.1;have:=st3.touch.size;omega)))))
   have HRG:=zH (show w.heap.size≤R by omega)
   have HOG:=zH (show w.heap.size≤w3.heap.size from Nat.le_trans hwz st3.touch.size)
   clear o1 o2 n1 n2 hw3 st3 bE hRc hwz HAC
   generalize w3.alloc (.cells #[.string A.value,.slice va A.pairs.length vc,.slice vb A.reads.length vd,.bool A.lost] 34)=wE at *
   generalize w3.heap.size=O at *
   have HRO:=zH (zA rO (zA rRE hact))
   have e5:wE.cell? ⟨pa,5,none⟩=some (.int .i64 x.loss):=qaa hact 5
   have e0:wE.cell? ⟨pa,0,none⟩=some (.int .i64 x.kind):=qaa hact 0
   obtain ⟨z0,z1,z2,z3,zf⟩:=row4 rO
   obtain ⟨y0,y1,y2,y3,yf⟩:=row4 (show wE.heap[R]? = some (.cells #[.string ⟨#[]⟩,.slice none 0 0,.slice none 0 0,.bool false] 34 (0,0)) from rRE)
   clear rO rRE hact
   by_cases hpl:x.loss=0∧x.kind≠7
   ·
    have HDP:=zH ((HD.out hm).trans (if_pos hpl))
    have k1:(x.loss == 0)=true:=beq_iff_eq.2 hpl.1
    have k2:(x.kind != 7)=true:=bne_iff_ne.2 hpl.2
    clear hpl
    go_wp2_with fail
    obtain ⟨q0,q1,q2,q3,qf⟩:=row4 (qbA HRO.out.2.1 (.string A.value) (.slice va A.pairs.length vc) (.slice vb A.reads.length vd) (.bool A.lost))
    refine bodyPost_ret (v:=.tuple #[.agg #[.string A.value,.slice va A.pairs.length vc,.slice vb A.reads.length vd,.bool A.lost],.int .i64 er]) ?_ rfl ?_
    ·
     change (results _ _).run _ (put4 _ _ _ _ _ _)=_
     simp [results,Tryz.results11,go_sem,q0,q1,q2,q3]
     rfl
    ·
     refine ⟨hm,?_⟩
     rw [HDP.out,HDR.out]
     exact qry HE.out.1 HE.out.2.1 A er va vc vb vd HE.out.2.2.1 HE.out.2.2.2 (fun g hg=>⟨(HEO.out.1 g hg).1,(HEO.out.1 g hg).2.1⟩) (fun g hg=>⟨(HEO.out.2 g hg).1,(HEO.out.2 g hg).2.1⟩) (qdf HRO.out.2.1) HEN.out.1 HRG.out (qaK wE R _ _ _ _)
   ·
    have HDP:=zH ((HD.out hm).trans (if_neg hpl))
    have hcz:p<wc.heap.size:=Nat.lt_of_lt_of_le (qat HA.out.2.1) HC2.out.1.touch.size
    obtain ⟨wc1,hwc1⟩ : ∃ wc1,wc1=wc:=⟨_,rfl⟩
    subst hwc1
    go_cut [47] from 40 to 46 (fun v47 wx=>v47=.bool false∧wx=wE)
    case first =>
     by_cases k0:x.loss=0
     ·
      have k1:(x.loss == 0)=true:=beq_iff_eq.2 k0
      have k2:(x.kind != 7)=false:=by
       by_cases k9:x.kind=7
       ·
        simp [k9]
       ·
        exact absurd ⟨k0,k9⟩ hpl
      clear hpl k0
      go_wp2_with fail
      go_meet
      exact ⟨rfl,rfl⟩
     ·
      have k1:(x.loss == 0)=false:=beq_eq_false_iff_ne.2 k0
      clear hpl k0
      go_wp2_with fail
      go_meet
      exact ⟨rfl,rfl⟩
    case rest =>
    obtain ⟨rfl,rfl⟩:=hcut
    clear hpl
    obtain ⟨s4,k4,c4,b4,H4,z4,r4,hs4,hn4,hh4,hG4⟩:=HE.out.1.ex
    have p1:wc.cell? ⟨p,1,none⟩=some (.pointer (some ⟨k4,0,none⟩)):=qaa r4 1
    have HLS:=zH (qur s4 k4 c4 b4 W3.m W3.q W3.S H4 wc hs4)
    have HW4:=zH (zA r4 (zA hs4 (zA hn4 hG4)))
    clear r4 hs4 hn4 hh4 hG4
    obtain ⟨wE,hwE⟩ : ∃ wE,wE=wc:=⟨_,rfl⟩
    subst hwE
    go_upto_if 54 with (go_at_call 33;refine HLS.out.mono ?_;rintro e wx ⟨rfl,rfl⟩)
    go_cut [7,54] from 55 to 55 (fun v7 v54 wx=>v7=.int .i64 (if W3.m.lost=true then 0 else er) ∧ ∃ pv pc rv cc,wx.heap[O]? = some (.cells #[.string (if W3.m.lost=true then ansZero else A).value,.slice pv (if W3.m.lost=true then ansZero else A).pairs.length pc,.slice rv (if W3.m.lost=true then ansZero else A).reads.length cc,.bool (if W3.m.lost=true then ansZero else A).lost] 34 (0,0))∧Touch (Only O) wE wx∧wx.ownsRow w.heap.size 83 2 (.slice pv (if W3.m.lost=true then ansZero else A).pairs.length pc) (if W3.m.lost=true then ansZero else A).pairs.length (pairVals (if W3.m.lost=true then ansZero else A).pairs)∧wx.ownsRow w.heap.size 3 1 (.slice rv (if W3.m.lost=true then ansZero else A).reads.length cc) (if W3.m.lost=true then ansZero else A).reads.length (intVals (if W3.m.lost=true then ansZero else A).reads)∧(∀ g,(Value.slice pv (if W3.m.lost=true then ansZero else A).pairs.length pc).ownBlock=some g → ¬ G3 g∧g≠R∧g≠O∧wc1.heap.size≤g) ∧ ∀ g,(Value.slice rv (if W3.m.lost=true then ansZero else A).reads.length cc).ownBlock=some g → ¬ G3 g∧g≠R∧g≠O∧wc1.heap.size≤g)
    case first =>
     cases hlo:W3.m.lost with
     | true =>
      go_wp2_with fail
      go_meet
      rw [hlo,if_pos rfl,if_pos rfl]
      exact ⟨rfl,none,0,none,0,qbA HRO.out.1 _ _ _ _,qaK _ _ _ _ _ _,World.ownsRow_nil _ _ _ _,World.ownsRow_nil _ _ _ _,fun g hg=>by simp [Value.ownBlock] at hg,fun g hg=>by simp [Value.ownBlock] at hg⟩
     | false =>
      go_wp2_with fail
      go_meet
      rw [hlo,if_neg (by decide),if_neg (by decide)]
      exact ⟨rfl,va,vc,vb,vd,HRO.out.1,Touch.refl _ _,HE.out.2.2.1,HE.out.2.2.2,HEO.out.1,HEO.out.2⟩
    case rest =>
    obtain ⟨rfl,pv,pc,rv,cc,hO,tO,o1,o2,n1,n2⟩:=hcut
    obtain ⟨A2,hA2⟩ : ∃ A2,A2=(if W3.m.lost=true then ansZero else A):=⟨_,rfl⟩
    obtain ⟨e2,he2⟩ : ∃ e2,e2=(if W3.m.lost=true then 0 else er):=⟨_,rfl⟩
    rw [← hA2] at hO o1 o2 n1 n2
    rw [← he2]
    have HAE:=zH (show doR W x hm=(W3.loss x.mask,A2.lose,e2) from by rw [HDP.out,HDR.out,qtV,qtW,hA2,he2])
    clear hA2 he2
    have hpO:p≠O:=fun e=>HEN.out.2.2.1 (e ▸ (HW4.out.2.2.2 p).2 (.inr rfl))
    have HG:=zH (zA (show qgH wc p c4 _ _ _ z4 from tO.at HW4.out.1 (fun h=>hpO h)) (zA (show Sys (fun _=>False) wc s4 k4 c4 b4 W3.m W3.q W3.S H4 from HW4.out.2.1.plain tO (fun hm=>HEN.out.2.2.1 ((HW4.out.2.2.2 O).2 (.inl hm))) (qdf HRO.out.1)) (zA (show qco wc pa x ba bc ra rc from tO.at HRO.out.2.2 (fun h=>HEN.out.2.2.2.2 h)) (show wc.heap[R]? = some ZA from tO.at HRO.out.2.1 (fun h=>HEN.out.2.2.2.1 h)))))
    have HOO:=zH (zA hO (zA tO (zA o1 (zA o2 (zA n1 n2)))))
    have HS4:=zH (fun w' (F:Nat→Prop) (t:Touch F wc w') n1 n2=>DoS.of HG.out.1 HG.out.2.2.1 t n1 n2)
    have HNP4:=zH (show ¬ Mine s4 H4 p ∧ ¬ Mine s4 H4 pa from ⟨HW4.out.2.2.1,fun h=>HEN.out.2.1 ((HW4.out.2.2.2 pa).2 (.inl h))⟩)
    have HLO:=zH (fun w' (hb:Below wc.heap.size wc w')=>quq s4 k4 c4 b4 W3.m W3.q W3.S H4 x.mask w' (HG.out.2.1.later hb) HOK.out.1 (Nat.le_trans HFN.out.mask (by decide)))
    obtain ⟨wG,hwG⟩ : ∃ wG,wG=wc:=⟨_,rfl⟩
    subst hwG
    clear hO tO o1 o2 n1 n2 HLS e5 e0 z0 z1 z2 z3 zf y0 y1 y2 y3 yf p1
    go_upto_region 13 with fail
    refine wp_region_noPanic ?_
    refine wp_region_held_drew (S:=(DoS k4 c4 p pa x ba bc)) (by kernel_rfl) ?hS13000 (fun hHeld => ?_)
    case hS13000=>(try dsimp only);exact HS4.out _ (fun _=>False) (Touch.of_below (qai (Below.refl _ _))) id id
    refine tk 0 ?_ (hy:=by (intro w hSw;unfold DoS at hSw;go_simp;try with_reducible rfl))
    refine tk 1 ?_ (hy:=by (intro w hSw;unfold DoS at hSw;go_simp;try with_reducible rfl))
    refine tk 2 ?_ (hy:=by (intro w hSw;unfold DoS at hSw;go_simp;try with_reducible rfl))
    refine tk 3 ?_ (hy:=by (intro w hSw;unfold DoS at hSw;go_simp;try with_reducible rfl))
    refine tk 4 ?_ (hy:=by (intro w hSw;unfold DoS at hSw;go_simp;try with_reducible rfl))
    refine tk 5 ?_ (hy:=by (intro w hSw;unfold DoS at hSw;go_simp;try with_reducible rfl))
    refine tr 6 fun K hK => ?_
    go_simp
    go_at_call 34
    refine (HLO.out _ (qai (Below.refl _ _))).mono ?_
    rintro e wF ⟨rfl,H5,hs5,st5⟩
    have hr4:=zH (zA hs5 ((Step.of_below (F:=Mine s4 H4) (qai (Below.refl wG.heap.size wG))).trans st5.mine))
    clear hs5 st5
    go_wp2_with fail
    refine hK.out _ _ ?hS13006 (fun hHeld => ?_)
    case hS13006=>(try dsimp only);exact HS4.out _ _ hr4.out.2.touch HNP4.out.1 HNP4.out.2
    clear hK K
    try simp only [Act.put,zS,zT,zU]
    refine wpAnyH_done (by kernel_rfl) ?_ _
    refine NoPanic.normal ?_
    have hp5 : ¬ H5 p:=fun h=>by
     have h8:=qat HG.out.1
     rcases hr4.out.2.foot p (.inl h) with h | h
     ·
      exact HNP4.out.1 h
     ·
      omega
    have HBG:=zH (qqP p s4 k4 c4 b4 _ W3.q W3.S H5 z4 wF hr4.out.1 (hr4.out.2.touch.at HG.out.1 HNP4.out.1) hp5 rfl)
    go_upto_region 15 with (go_at_call 35;refine HBG.out.mono ?_;rintro e wH ⟨rfl,s5,k5,b5,H6,z5,hrow,hs5,np5,tp5,ft5⟩)
    have hpO:p≠O:=fun e=>HEN.out.2.2.1 (e ▸ (HW4.out.2.2.2 p).2 (.inr rfl))
    have kO:wH.heap[O]? = some (.cells #[.string A2.value,.slice pv A2.pairs.length pc,.slice rv A2.reads.length cc,.bool A2.lost] 34 (0,0)):=tp5.at (hr4.out.2.touch.at HOO.out.1 (fun h=>HEN.out.2.2.1 ((HW4.out.2.2.2 O).2 (.inl h)))) (fun h=>hpO (show O=p from h).symm)
    have kR:wH.heap[R]? = some ZA:=tp5.at (hr4.out.2.touch.at HG.out.2.2.2 (fun h=>HEN.out.1 ((HW4.out.2.2.2 R).2 (.inl h)))) (fun h=>HEN.out.1 (by rw [show R=p from h];exact (HW4.out.2.2.2 p).2 (.inr rfl)))
    have kO2:=qag (i:=3) (v:=Value.bool true) kO
    have kR2:(wH.setCell ⟨O,3,none⟩ (.bool true)).heap[R]? = some ZA:=((Touch.refl (Only O) wH).set O 3 (.bool true) rfl).at kR (fun h=>HEN.out.2.2.2.1 h)
    obtain ⟨z0,z1,z2,z3,zf⟩:=row4 kO
    obtain ⟨x0,x1,x2,x3,xf⟩:=row4 (show (wH.setCell ⟨O,3,none⟩ (.bool true)).heap[O]? = some (.cells #[.string A2.value,.slice pv A2.pairs.length pc,.slice rv A2.reads.length cc,.bool true] 34 (0,0)) from kO2)
    obtain ⟨y0,y1,y2,y3,yf⟩:=row4 (show (wH.setCell ⟨O,3,none⟩ (.bool true)).heap[R]? = some (.cells #[.string ⟨#[]⟩,.slice none 0 0,.slice none 0 0,.bool false] 34 (0,0)) from kR2)
    obtain ⟨q0,q1,q2,q3,qf⟩:=row4 (qbA kR2 (.string A2.value) (.slice pv A2.pairs.length pc) (.slice rv A2.reads.length cc) (.bool true))
    have HFIN:=zH (fun x1 x2 x3 x4=>qtU (mask:=x.mask) HE.out.2.1 HOG.out HRG.out HW4.out.2.2.2 HEN.out.1 HEN.out.2.2.1 HEN.out.2.2.2.1 HOO.out.2.1 HOO.out.1 HG.out.2.2.2 HOO.out.2.2.1 HOO.out.2.2.2.1 HOO.out.2.2.2.2.1 HOO.out.2.2.2.2.2 (qat HG.out.1) hr4.out.2 hrow hs5 np5 tp5 ft5 e2 x1 x2 x3 x4)
    go_wp2_with fail
    refine bodyPost_ret (v:=.tuple #[.agg #[.string A2.value,.slice pv A2.pairs.length pc,.slice rv A2.reads.length cc,.bool true],.int .i64 e2]) ?_ rfl ?_
    ·
     change (results _ _).run _ (put4 _ _ _ _ _ _)=_
     simp [results,Tryz.results11,go_sem,q0,q1,q2,q3]
     rfl
    ·
     refine ⟨hm,?_⟩
     rw [HAE.out]
     exact HFIN.out _ _ _ _
end
end Go.Proofs.YtcfdenckiigdaaaGreat

/- Part 44 of the contracts. -/
import Derived.Test.YtcfdenckiigdaaaGreatFl43
set_option linter.unusedVariables false
set_option maxRecDepth 100000
set_option maxHeartbeats 4000000
namespace Go.Proofs.YtcfdenckiigdaaaGreat
open Tryz
section
open Go.RowKit
def ia.next (W:ia) (xs:List Int) (hm:Nat):ia:=⟨W.m.next xs hm,W.q,W.S⟩
def ia.cut (W:ia) (n:Int):ia:=if 0<n then ⟨{ W.m with left:=n - 1 },W.q,W.S⟩ else W
def ia.cm (W:ia) (mask:ByteArray):ia:=⟨aG.new (W.m.ar.cm mask),Cache.new,shut⟩
def eH.Hf (A:eH):eH:=⟨A.value,A.bS,A.reads,true⟩
def FP (r:ia×eH×Int):eH:=if r.1.m.lost=true then bg.Hf else r.2.1.Hf
def JG (r:ia×eH×Int):Int:=if r.1.m.lost=true then 0 else r.2.2
def jA (W:ia) (x:cd) (hm:Nat):ia×eH×Int:=lI ((W.next x.busy hm).cut x.cm) x
def Ko (W:ia) (x:cd) (hm:Nat):ia×eH×Int :=
 if rJ x=false then (W,bg,2500) else if x.cm=0∧x.kind≠7 then jA W x hm else ((jA W x hm).1.cm x.mask,FP (jA W x hm),JG (jA W x hm))
def sQ (k c p pa:Nat) (x:cd) (ba:Option Addr) (bc:Nat) (w':World):Prop:=w'.cell? ⟨p,0,none⟩=some (.pointer (some ⟨c,0,none⟩))∧w'.cell? ⟨p,1,none⟩=some (.pointer (some ⟨k,0,none⟩))∧w'.cell? ⟨pa,5,none⟩=some (.int .i64 x.cm)∧w'.cell? ⟨pa,6,none⟩=some (.string x.mask)∧w'.cell? ⟨pa,7,none⟩=some (.slice ba x.busy.length bc)
theorem sQ.of {w w':World} {s b p pa k c:Nat} {z:Int} {x:cd} {ba:Option Addr} {bc:Nat} {ra:Option Addr} {rc:Nat} (h1:jF w p c (some ⟨k,0,none⟩) (some ⟨b,0,none⟩) (some ⟨s,0,none⟩) z) (h2:fV w pa x ba bc ra rc) {F:Nat→Prop} (t:Touch F w w') (n1 : ¬ F p) (n2 : ¬ F pa):sQ k c p pa x ba bc w':=by
 have k1:=t.at h1 n1
 have k2:fV w' pa x ba bc ra rc:=t.at h2 n2
 exact ⟨cell_of k1 0,cell_of k1 1,cell_of k2 5,cell_of k2 6,cell_of k2 7⟩
theorem Gy {m:aG} {y:ByteArray} (h:Calm m y) {xs:List Int} (hx : ∀ z ∈ xs,1≤z∧z≤400) (hm:Nat):Calm (m.next xs hm) y:=⟨h.lost,h.dQ,h.aD,h.cells,h.bq,h.bk,h.aZ,hx⟩
theorem Gx {m:aG} {y:ByteArray} (h:Calm m y) (n:Int):Calm { m with left:=n } y:=⟨h.lost,h.dQ,h.aD,h.cells,h.bq,h.bk,h.aZ,h.busy⟩
theorem Lh {m:aG} (h:m.Ok) {xs:List Int} (hx : ∀ z ∈ xs,1≤z∧z≤400) (hm:Nat):(m.next xs hm).Ok:=⟨⟨⟨h.cn.ok.size,h.cn.ok.aZ,h.cn.ok.fX,h.cn.ok.gG,h.cn.ok.op,h.cn.ok.data⟩,hx⟩,h.dQ,h.kx,h.ln⟩
theorem La {m:aG} (h:m.Ok) {n:Int} (h0 : -1≤n) (h1:n≤1099511627776):({ m with left:=n }:aG).Ok:=⟨h.cn,h.dQ,h0,h1⟩
theorem Ec {w w1 w3:World} {p R:Nat} {W1:ia} {G G1:Nat→Prop} (h1:cB w1 p W1 G1) (st:Step G G1 w w1) (A:eH) (er:Int) (pv:Option Addr) (pc:Nat) (rv:Option Addr) (cc:Nat) (o1:w1.ownsRow w.heap.size 83 2 (.slice pv A.bS.length pc) A.bS.length (aE A.bS)) (o2:w1.ownsRow w.heap.size 3 1 (.slice rv A.reads.length cc) A.reads.length (aC A.reads)) (n1 : ∀ g,(Value.slice pv A.bS.length pc).ownBlock=some g → ¬ G1 g∧g≠R) (n2 : ∀ g,(Value.slice rv A.reads.length cc).ownBlock=some g → ¬ G1 g∧g≠R) (hR:Plain w1 R) (hnR : ¬ G1 R) (hge:w.heap.size≤R) (t:Touch (aO R) w1 w3):eI p W1 A er G w (.returned (.tuple #[.agg #[.string A.value,.slice pv A.bS.length pc,.slice rv A.reads.length cc,.bool A.lost],.int .i64 er])) w3 :=
 ⟨pv,pc,rv,cc,rfl,dE o1 t (fun g hg e=>(n1 g hg).2 e),dE o2 t (fun g hg e=>(n2 g hg).2 e),G1,h1.plain t hnR hR,⟨st.aH.then t (fun i hi=>.inr (by rw [show i=R from hi];exact hge)),st.ik⟩,fun g hg=>(n1 g hg).1,fun g hg=>(n2 g hg).1⟩
theorem JE {w wE wG wF wH:World} {p R O s4 c4 s5 k5 b5 B:Nat} {z5:Int} {G G3 H4 H5 H6:Nat→Prop} {W3:ia} {A2:eH} {mask:ByteArray} {pv:Option Addr} {pc:Nat} {rv:Option Addr} {cc:Nat} (hE:Step G G3 w wE) (hOG:w.heap.size≤O) (hRG:w.heap.size≤R) (hG : ∀ i,G3 i ↔ iV p s4 H4 i) (nR : ¬ G3 R) (nO : ¬ G3 O) (hRO:R≠O) (tO:Touch (aO O) wE wG) (hO:wG.heap[O]? = some (.cells #[.string A2.value,.slice pv A2.bS.length pc,.slice rv A2.reads.length cc,.bool A2.lost] 34 (0,0))) (hR:wG.heap[R]? = some ZA) (o1:wG.ownsRow w.heap.size 83 2 (.slice pv A2.bS.length pc) A2.bS.length (aE A2.bS)) (o2:wG.ownsRow w.heap.size 3 1 (.slice rv A2.reads.length cc) A2.reads.length (aC A2.reads)) (n1 : ∀ g,(Value.slice pv A2.bS.length pc).ownBlock=some g → ¬ G3 g∧g≠R∧g≠O∧B≤g) (n2 : ∀ g,(Value.slice rv A2.reads.length cc).ownBlock=some g → ¬ G3 g∧g≠R∧g≠O∧B≤g) (hp:p<wG.heap.size) (st:Step (bK s4 H4) (bK s4 H5) wG wF) (hrow:jF wH p c4 (some ⟨k5,0,none⟩) (some ⟨b5,0,none⟩) (some ⟨s5,0,none⟩) z5) (hs:Sys (fun _=>False) wH s5 k5 c4 b5 (aG.new (W3.m.ar.cm mask)) Cache.new shut H6) (np : ¬ bK s5 H6 p) (tp:Touch (aO p) wF wH) (ft : ∀ i,bK s5 H6 i→H5 i∨wF.heap.size≤i) (er:Int) (x1 x2 x3 x4:Value):eI p (W3.cm mask) A2.Hf er G w (.returned (.tuple #[.agg #[.string A2.value,.slice pv A2.bS.length pc,.slice rv A2.reads.length cc,.bool true],.int .i64 er])) (mr (wH.setCell ⟨O,3,none⟩ (.bool true)) R x1 x2 x3 x4):=by
 have g3p:G3 p:=(hG p).2 (.inr rfl)
 have hpO:p≠O:=fun e=>nO (e ▸ g3p)
 have m3 : ∀ i,bK s4 H4 i→G3 i:=fun i h=>(hG i).2 (.inl h)
 have t2:Touch (aO O) wH (wH.setCell ⟨O,3,none⟩ (.bool true)):=(Touch.refl (aO O) wH).set O 3 _ rfl
 have inF : ∀ i,i<wG.heap.size → ¬ G3 i → ¬ bK s5 H6 i:=fun i hi hn h=>by
  rcases ft i h with h | h
  ·
   rcases st.ik i (.inl h) with h | h
   ·
    exact hn (m3 i h)
   ·
    omega
  ·
   have:=st.aH.size
   omega
 have row : ∀ i v,i<wG.heap.size → ¬ G3 i→wG.heap[i]? = some v→wH.heap[i]? = some v:=fun i v hi hn e=>tp.at (st.aH.at e (fun h=>hn (m3 i h))) (fun h=>hn (by rw [show i=p from h];exact g3p))
 have hOl:=aP hO
 have hRl:=aP hR
 have kO:=row O _ hOl nO hO
 have kR:(wH.setCell ⟨O,3,none⟩ (.bool true)).heap[R]? = some ZA:=t2.at (row R _ hRl nR hR) (fun h=>hRO h)
 have own : ∀ {t sz v n xs},wG.ownsRow w.heap.size t sz v n xs→(∀ g,v.ownBlock=some g → ¬ G3 g∧g≠R∧g≠O∧B≤g)→(wH.setCell ⟨O,3,none⟩ (.bool true)).ownsRow w.heap.size t sz v n xs:=fun h n=>dE (dE (dE h st.aH (fun g hg h=>(n g hg).1 (m3 g h))) tp (fun g hg h=>(n g hg).1 (by rw [show g=p from h];exact g3p))) t2 (fun g hg h=>(n g hg).2.2.1 h)
 have low : ∀ i,G3 i→G i∨w.heap.size≤i:=hE.ik
 have wG0:w.heap.size≤wG.heap.size:=Nat.le_trans hE.aH.size tO.size
 have T:Touch G w (wH.setCell ⟨O,3,none⟩ (.bool true)):=(((hE.aH.then tO (fun i hi=>.inr (by rw [show i=O from hi];exact hOG))).then st.aH (fun i hi=>low i (m3 i hi))).then tp (fun i hi=>low i (by rw [show i=p from hi];exact g3p))).then t2 (fun i hi=>.inr (by rw [show i=O from hi];exact hOG))
 refine Ec (W1:=W3.cm mask) (G1:=iV p s5 H6) (R:=R) ⟨s5,k5,c4,b5,H6,z5,t2.at hrow (fun h=>hpO h),hs.plain t2 (inF O hOl nO) (jN kO),np,fun h=>(by cases h),fun i=>Iff.rfl⟩ ⟨T,fun i hi => ?_⟩ A2.Hf er pv pc rv cc (own o1 n1) (own o2 n2) (fun g hg=>⟨fun h => ?_,(n1 g hg).2.1⟩) (fun g hg=>⟨fun h => ?_,(n2 g hg).2.1⟩) (jN kR) (fun h => ?_) hRG (cW _ _ _ _ _ _)
 ·
  rcases hi with hi | hi
  ·
   rcases ft i hi with h | h
   ·
    rcases st.ik i (.inl h) with h | h
    ·
     exact low i (m3 i h)
    ·
     exact .inr (Nat.le_trans wG0 h)
   ·
    exact .inr (Nat.le_trans wG0 (Nat.le_trans st.aH.size h))
  ·
   rw [hi]
   exact low p g3p
 ·
  rcases h with h | h
  ·
   exact inF g (lx o1 g hg) (n1 g hg).1 h
  ·
   exact (n1 g hg).1 (by rw [h];exact g3p)
 ·
  rcases h with h | h
  ·
   exact inF g (lx o2 g hg) (n2 g hg).1 h
  ·
   exact (n2 g hg).1 (by rw [h];exact g3p)
 ·
  rcases h with h | h
  ·
   exact inF R hRl nR h
  ·
   exact nR (by rw [h];exact g3p)
theorem JF (W:ia) (A:eH) (er:Int):FP (W,A,er)=(if W.m.lost=true then bg else A).Hf:=by unfold FP;split <;> rfl
theorem JH (W:ia) (A:eH) (er:Int):JG (W,A,er)=if W.m.lost=true then 0 else er:=rfl
theorem I9 (W:ia) (n:Int):(W.cut n).m.ar=W.m.ar:=by unfold ia.cut;split <;> rfl
theorem ze (W:ia) (xs:List Int) (hm:Nat) (n:Int):((W.next xs hm).cut n).q=W.q:=by unfold ia.cut;split <;> rfl
theorem zd (W:ia) (xs:List Int) (hm:Nat) (n:Int):((W.next xs hm).cut n).S=W.S:=by unfold ia.cut;split <;> rfl
theorem Bk {W:ia} {cx:ByteArray} (h:Calm W.m cx) (ok:W.m.Ok) {x:cd} (f:x.IC) (hm:Nat):Calm ((W.next x.busy hm).cut x.cm).m cx∧((W.next x.busy hm).cut x.cm).m.Ok∧(x.cm=0→((W.next x.busy hm).cut x.cm).m.left=W.m.left):=by
 have h1:=Gy h f.busy.2 hm
 have o1:=Lh ok f.busy.2 hm
 unfold ia.cut
 by_cases hl:0<x.cm
 ·
  rw [if_pos hl]
  have:=f.cm
  exact ⟨Gx h1 _,La o1 (by omega) (by omega),fun e=>by omega⟩
 ·
  rw [if_neg hl]
  exact ⟨h1,o1,fun _=>rfl⟩
theorem Jc (p:Nat) (W:ia) (G:Nat→Prop) (x:cd) (ba:Option Addr) (bc:Nat) (ra:Option Addr) (rc:Nat) (cx:ByteArray) (w:World) (h:cB w p W G) (calm:Calm W.m cx) (ok:W.m.Ok) (g:W.q.Good) (fit:W.S.Fit) (hb:aU w ba x.busy) (hbn:ba=none→bc=0) (hi:aN w ra x.reads G) (hcap:x.reads.length≤rc) (lb:x.busy.length≤4611686018427387904) (lr:x.reads.length≤4611686018427387904):Calls prog 11 #[.pointer (some ⟨p,0,none⟩),.agg (x.row ba bc ra rc)] w fun e w' => ∃ hm,eI p (Ko W x hm).1 (Ko W x hm).2.1 (Ko W x hm).2.2 G w e w':=by
 obtain ⟨s,k,c,b,H,z,h1,h2,h3,h4,h5⟩:=h.ex
 have hpp:=aP h1
 have hlt : ∀ i,bK s H i→i<w.heap.size:=h2.lt
 have hb0:=ae (ae (Below.refl w.heap.size w) (.cells (x.row ba bc ra rc) 31)) ZA
 have hact:fV ((w.alloc (.cells (x.row ba bc ra rc) 31)).alloc ZA) w.heap.size x ba bc ra rc:=aa (ae zR ZA) (af w _)
 have hsz:((w.alloc (.cells (x.row ba bc ra rc) 31)).alloc ZA).heap.size=w.heap.size+2:=by simp
 have hR:((w.alloc (.cells (x.row ba bc ra rc) 31)).alloc ZA).heap[w.heap.size+1]? = some ZA:=by simpa using af (w.alloc (.cells (x.row ba bc ra rc) 31)) ZA
 have HM:=zH (Hg x ba bc ra rc ((w.alloc (.cells (x.row ba bc ra rc) 31)).alloc ZA) (hb.aj hb0) (hi.1.aj hb0) lb lr)
 have H0:=zH (zA (h2.aj hb0) (zA (show jF _ p c _ _ _ z from aa hb0 h1) (zA hact (zA hR (zA hb0 (zA hsz (zA (hb.aj hb0) (zA (hi.step (G':=G) (Step.ah hb0)) (zA h3 (zA h4 (zA h5 (zA hlt hpp))))))))))))
 have HC:=zH (zA calm (zA ok (zA g (zA fit (zA hbn hcap)))))
 have HD:=zH (fun hm=>(show Ko W x hm=if rJ x=false then (W,bg,2500) else if x.cm=0∧x.kind≠7 then jA W x hm else ((jA W x hm).1.cm x.mask,FP (jA W x hm),JG (jA W x hm)) from rfl))
 have hrow:x.row ba bc ra rc = #[.int .i64 x.kind,.string x.key,.string x.value,.int .i64 x.at_,.int .i64 x.width,.int .i64 x.cm,.string x.mask,.slice ba x.busy.length bc,.slice ra x.reads.length rc]:=rfl
 have HMF:=zH (fun h=>CG (x:=x) h)
 clear h h1 h2 h3 h4 h5 hact hR hb0 hsz hlt hpp hb hi hbn hcap lb lr calm ok g fit
 rw [hrow] at H0 HM ⊢
 clear hrow
 generalize rJ x=mb at HM HD HMF
 go_enter func11,ntmps11
 go_upto_region 3 with fail
 have eZ:(w.alloc (.cells #[.int .i64 x.kind,.string x.key,.string x.value,.int .i64 x.at_,.int .i64 x.width,.int .i64 x.cm,.string x.mask,.slice ba x.busy.length bc,.slice ra x.reads.length rc] 31)).alloc (.cells #[.string ⟨#[]⟩,.slice none 0 0,.slice none 0 0,.bool false] 34)=(w.alloc (.cells #[.int .i64 x.kind,.string x.key,.string x.value,.int .i64 x.at_,.int .i64 x.width,.int .i64 x.cm,.string x.mask,.slice ba x.busy.length bc,.slice ra x.reads.length rc] 31)).alloc ZA:=rfl
 rw [eZ]
 clear eZ
 generalize (w.alloc (.cells #[.int .i64 x.kind,.string x.key,.string x.value,.int .i64 x.at_,.int .i64 x.width,.int .i64 x.cm,.string x.mask,.slice ba x.busy.length bc,.slice ra x.reads.length rc] 31)).alloc ZA=w0 at *
 have a0:w0.cell? ⟨w.heap.size,0,none⟩=some (.int .i64 x.kind):=cell_of H0.out.2.2.1 0
 have a1:w0.cell? ⟨w.heap.size,1,none⟩=some (.string x.key):=cell_of H0.out.2.2.1 1
 have a2:w0.cell? ⟨w.heap.size,2,none⟩=some (.string x.value):=cell_of H0.out.2.2.1 2
 have a3:w0.cell? ⟨w.heap.size,3,none⟩=some (.int .i64 x.at_):=cell_of H0.out.2.2.1 3
 have a4:w0.cell? ⟨w.heap.size,4,none⟩=some (.int .i64 x.width):=cell_of H0.out.2.2.1 4
 have a5:w0.cell? ⟨w.heap.size,5,none⟩=some (.int .i64 x.cm):=cell_of H0.out.2.2.1 5
 have a6:w0.cell? ⟨w.heap.size,6,none⟩=some (.string x.mask):=cell_of H0.out.2.2.1 6
 have a7:w0.cell? ⟨w.heap.size,7,none⟩=some (.slice ba x.busy.length bc):=cell_of H0.out.2.2.1 7
 have a8:w0.cell? ⟨w.heap.size,8,none⟩=some (.slice ra x.reads.length rc):=cell_of H0.out.2.2.1 8
 have HWA:=zH (fun w' (hb:Below w0.heap.size w0 w')=>(show cB w' p W (iV p s H) from ⟨s,k,c,b,H,z,aa hb H0.out.2.1,H0.out.1.aj hb,H0.out.2.2.2.2.2.2.2.2.1,H0.out.2.2.2.2.2.2.2.2.2.1,fun i=>Iff.rfl⟩))
 have HGW:=zH (show ∀ i,G i ↔ iV p s H i from H0.out.2.2.2.2.2.2.2.2.2.2.1)
 have HLT:=zH (zA (show ∀ i,iV p s H i→i<w.heap.size from fun i hi=>hi.elim (H0.out.2.2.2.2.2.2.2.2.2.2.2.1 i) (fun e=>by rw [e];exact H0.out.2.2.2.2.2.2.2.2.2.2.2.2)) (zA H0.out.2.2.2.2.1 H0.out.2.2.2.2.2.1))
 have HRR:=zH H0.out.2.2.2.1
 have HST:=zH (show Step G (iV p s H) w w0 from ⟨Touch.ah HLT.out.2.1,fun i hi=>.inl ((HGW.out i).2 hi)⟩)
 have HNP:=zH (show ¬ bK s H p from H0.out.2.2.2.2.2.2.2.2.1)
 have hpa : ¬ iV p s H w.heap.size:=fun hm=>Nat.lt_irrefl _ (HLT.out.1 _ hm)
 have hnR : ¬ iV p s H (w.heap.size+1):=fun hm=>by have:=HLT.out.1 _ hm;omega
 have HPA:=zH (zA hpa hnR)
 clear hpa hnR
 generalize hpaE:w.heap.size=pa at *
 generalize hRE:pa+1=R at *
 cases mb with
 | false =>
  have HF:=zH (fun hm=>(HD.out hm).trans (if_pos rfl))
  clear HD HMF
  go_wp2_with (go_at_call 29;refine HM.out.mono ?_;rintro e wA ⟨rfl,hbA⟩;obtain ⟨z0,z1,z2,z3,zf⟩:=cF (aa hbA HRR.out))
  have rA:=aa hbA HRR.out
  obtain ⟨q0,q1,q2,q3,qf⟩:=cF (fb rA (.string ⟨#[]⟩) (.slice none 0 0) (.slice none 0 0) (.bool false))
  refine bodyPost_ret (v:=.tuple #[.agg #[.string ⟨#[]⟩,.slice none 0 0,.slice none 0 0,.bool false],.int .i64 2500]) ?_ rfl ?_
  ·
   change (results _ _).run _ (mr _ _ _ _ _ _)=_
   simp [results,results11,go_sem,q0,q1,q2,q3]
   rfl
  ·
   refine ⟨0,?_⟩
   rw [HF.out 0]
   exact Ec (HWA.out wA hbA) (HST.out.trans (Step.ah hbA)) bg 2500 none 0 none 0 zN zN (fun g hg=>by simp [Value.ownBlock] at hg) (fun g hg=>by simp [Value.ownBlock] at hg) (jN rA) HPA.out.2 (by omega) (cW wA R _ _ _ _)
 | true =>
  have HFN:=zH (HMF.out rfl)
  replace HD:=zH (fun hm=>(HD.out hm).trans (if_neg (by decide)))
  clear HMF
  go_upto_region 5 with (go_at_call 29;refine HM.out.mono ?_;rintro e wA ⟨rfl,hbA⟩)
  have HA:=zH (zA (H0.out.1.aj hbA) (zA (show jF wA p c _ _ _ z from aa hbA H0.out.2.1) (zA (show fV wA pa x ba bc ra rc from aa hbA H0.out.2.2.1) (zA (aa hbA HRR.out) (zA (HST.out.trans (Step.ah hbA)) (zA (H0.out.2.2.2.2.2.2.1.aj hbA) (H0.out.2.2.2.2.2.2.2.1.step (G':=iV p s H) ⟨(Touch.ah hbA),fun i hi=>.inl ((HGW.out i).2 hi)⟩)))))))
  have hsA:pa+2≤wA.heap.size:=by have:=hbA.size;have:=HLT.out.2.2;omega
  have HSZ:=zH hsA
  have HN0:=zH HNP.out
  replace HNP:=zH (zA HN0.out (show ¬ bK s H pa from fun hm=>HPA.out.1 (.inl hm)))
  have HNX:=zH (fun w' (hb:Below wA.heap.size wA w')=>Ke s k c b W.m W.q W.S H ba bc x.busy w' (HA.out.1.aj hb) (HA.out.2.2.2.2.2.1.aj hb) HC.out.2.2.2.2.1 HFN.out.busy.1 HFN.out.busy.2)
  have HS:=zH (fun w' (F:Nat→Prop) (t:Touch F wA w') n1 n2=>sQ.of HA.out.2.1 HA.out.2.2.1 t n1 n2)
  clear hbA hsA HM H0 HWA HST HRR a0 a1 a2 a3 a4 a5 a6 a7 a8 HN0
  refine wp_region_noPanic ?_
  refine wp_region_held_drew (S:=(sQ k c p pa x ba bc)) (by kernel_rfl) (by (try dsimp only);exact HS.out _ (fun _=>False) (Touch.ah (au zR)) id id) fun hHeld => ?_
  refine tk 0 ?_ (hy:=by (intro w hSw;unfold sQ at hSw;go_simp;try with_reducible rfl))
  refine tk 1 ?_ (hy:=by (intro w hSw;unfold sQ at hSw;go_simp;try with_reducible rfl))
  refine tk 2 ?_ (hy:=by (intro w hSw;unfold sQ at hSw;go_simp;try with_reducible rfl))
  refine tk 3 ?_ (hy:=by (intro w hSw;unfold sQ at hSw;go_simp;try with_reducible rfl))
  refine tk 4 ?_ (hy:=by (intro w hSw;unfold sQ at hSw;go_simp;try with_reducible rfl))
  refine tk 5 ?_ (hy:=by (intro w hSw;unfold sQ at hSw;go_simp;try with_reducible rfl))
  refine tr 6 fun K hK => ?_
  go_simp
  go_at_call 30
  refine (HNX.out _ (au zR)).mono ?_
  rintro e wB ⟨rfl,hm,H1,hhm,hs1,st1⟩
  have hr1:=zH (zA hs1 (zA ((Step.ah (F:=bK s H) (au (Below.refl wA.heap.size wA))).trans st1.lp) (fun hl=>Nat.le_trans (show wA.heap.size≤wA.drew.heap.size from Nat.le_refl _) (hhm hl))))
  clear hs1 st1 hhm
  go_wp2_with fail
  refine hK.out _ _ (by (try dsimp only);exact HS.out _ _ hr1.out.2.1.aH HNP.out.1 HNP.out.2) fun hHeld => ?_
  clear hK K
  try simp only [Act.put,zS,zT,zU]
  refine wpAnyH_done (by kernel_rfl) ?_ _
  refine NoPanic.normal ?_
  have HB:=zH (zA (show jF wB p c _ _ _ z from hr1.out.2.1.aH.at HA.out.2.1 HNP.out.1) (zA (show fV wB pa x ba bc ra rc from hr1.out.2.1.aH.at HA.out.2.2.1 HNP.out.2) (zA ((hr1.out.2.1).safe (aP HA.out.2.1) HNP.out.1) ((hr1.out.2.1).safe (aP HA.out.2.2.1) HNP.out.2))))
  have b5:wB.cell? ⟨pa,5,none⟩=some (.int .i64 x.cm):=cell_of HB.out.2.1 5
  have HNP2:=zH HB.out.2.2
  have HS2:=zH (fun w' (F:Nat→Prop) (t:Touch F wB w') n1 n2=>sQ.of HB.out.1 HB.out.2.1 t n1 n2)
  clear HNX HS
  go_upto_if 26 with fail
  go_cut [26] from 27 to 34 (fun v26 wx => ∃ H2,Sys (fun _=>False) wx s k c b ((W.next x.busy hm).cut x.cm).m W.q W.S H2∧Step (bK s H1) (bK s H2) wB wx)
  case first =>
   by_cases hl:0<x.cm
   ·
    have HL:=zH hl
    have hle:=HFN.out.cm.2
    have hge:=HFN.out.cm.1
    have hwr:IntKind.i64.wrap (x.cm - 1)=x.cm - 1:=du (by omega) (by omega)
    have HCU:=zH (fun w' (hb:Below wB.heap.size wB w')=>LG s k c b _ W.q W.S H1 (x.cm - 1) w' (hr1.out.1.aj hb) (by omega))
    rw [← hwr] at HCU
    have HWR:=zH hwr
    clear hwr
    go_upto_region 7 with fail
    refine wp_region_noPanic ?_
    refine wp_region_held_drew (S:=(sQ k c p pa x ba bc)) (by kernel_rfl) (by (try dsimp only);exact HS2.out _ (fun _=>False) (Touch.ah (au zR)) id id) fun hHeld => ?_
    refine tk 0 ?_ (hy:=by (intro w hSw;unfold sQ at hSw;go_simp;try with_reducible rfl))
    refine tk 1 ?_ (hy:=by (intro w hSw;unfold sQ at hSw;go_simp;try with_reducible rfl))
    refine tk 2 ?_ (hy:=by (intro w hSw;unfold sQ at hSw;go_simp;try with_reducible rfl))
    refine tk 3 ?_ (hy:=by (intro w hSw;unfold sQ at hSw;go_simp;try with_reducible rfl))
    refine tk 4 ?_ (hy:=by (intro w hSw;unfold sQ at hSw;go_simp;try with_reducible rfl))
    refine tk 5 ?_ (hy:=by (intro w hSw;unfold sQ at hSw;go_simp;try with_reducible rfl))
    refine tk 6 ?_ (hy:=by (intro w hSw;unfold sQ at hSw;go_simp;try with_reducible rfl))
    refine tr 7 fun K hK => ?_
    go_simp
    go_at_call 31
    refine (HCU.out _ (au zR)).mono ?_
    rintro e wC ⟨rfl,H2,hs2,st2⟩
    have hr2:=zH (zA hs2 ((Step.ah (F:=bK s H1) (au (Below.refl wB.heap.size wB))).trans st2.lp))
    clear hs2 st2
    go_wp2_with fail
    refine hK.out _ _ (by (try dsimp only);exact HS2.out _ _ hr2.out.2.aH HNP2.out.1 HNP2.out.2) fun hHeld => ?_
    clear hK K
    try simp only [Act.put,zS,zT,zU]
    refine wpAnyH_done (by kernel_rfl) ?_ _
    refine NoPanic.normal ?_
    go_wp2
    go_meet
    exact ⟨H2,by (have h9:=hr2.out.1;rw [HWR.out] at h9;unfold ia.cut;rw [if_pos HL.out];exact h9),hr2.out.2⟩
   ·
    have HL:=zH hl
    go_wp2
    go_meet
    exact ⟨H1,by (unfold ia.cut;rw [if_neg (by have:=HL.out;omega)];exact hr1.out.1),Step.refl _ _⟩
  case rest =>
   obtain ⟨H2,hs2,st2⟩:=hcut
   have hst2:=hr1.out.2.1.trans st2
   have HWC:=zH (show cB wc p ((W.next x.busy hm).cut x.cm) (iV p s H2) from ⟨s,k,c,b,H2,z,st2.aH.at HB.out.1 HNP2.out.1,(by rw [ze,zd];exact hs2),st2.safe (aP HB.out.1) HNP2.out.1,fun hl e=>(by
    rw [I9] at hl e
    have h1:=hr1.out.2.2 hl
    have h2:=aP HA.out.2.1
    have e:hm=p:=e
    omega),fun i=>Iff.rfl⟩)
   have hgen:=Bk HC.out.1 HC.out.2.1 HFN.out hm
   have hhm:0<((W.next x.busy hm).cut x.cm).m.ar.busy.length→((W.next x.busy hm).cut x.cm).m.ar.home<wc.heap.size:=fun hl=>by
    obtain ⟨F,hc,_,_⟩:=hs2.ar
    exact (hc.home hl).1
   have hnpa : ¬ iV p s H2 pa:=fun hm=>hm.elim (fun h=>st2.safe (aP HB.out.2.1) HNP2.out.2 h) (fun e=>by
    have:=HA.out.2.2.1
    have h0:=HA.out.2.1
    rw [e] at this
    unfold fV at this
    unfold jF at h0
    rw [this] at h0
    simp [cd.row] at h0)
   have HAC:=zH (Gl p pa ((W.next x.busy hm).cut x.cm) (iV p s H2) x ba bc ra rc wc HWC.out (st2.aH.at HB.out.2.1 HNP2.out.2) hnpa hgen.2.1 (wi hgen.1).1 (by rw [ze];exact HC.out.2.2.1) (by rw [zd];exact HC.out.2.2.2.1) hhm (HA.out.2.2.2.2.2.2.step (G':=iV p s H2) ⟨hst2.aH.mono fun i h=>.inl h,fun i hi=>hi.elim (fun h=>(hst2.ik i h).imp .inl id) (fun h=>.inl (.inr h))⟩) HC.out.2.2.2.2.2 HFN.out)
   have HC2:=zH (zA (show Step (iV p s H) (iV p s H2) wA wc from ⟨hst2.aH.mono fun i h=>.inl h,fun i hi=>hi.elim (fun h=>(hst2.ik i h).imp .inl id) (fun h=>.inl (.inr h))⟩) (zA (show fV wc pa x ba bc ra rc from st2.aH.at HB.out.2.1 HNP2.out.2) hnpa))
   have HDR:=zH (show jA W x hm=lI ((W.next x.busy hm).cut x.cm) x from rfl)
   have HRN:=zH (show ¬ iV p s H2 R∧wc.heap[R]? = some ZA∧R<wA.heap.size from ⟨fun h9=>(by
    have e1:=HPA.out.2
    rcases h9 with h9 | h9
    ·
     rcases hst2.ik R h9 with h8 | h8
     ·
      exact e1 (.inl h8)
     ·
      have:=HSZ.out;omega
    ·
     exact e1 (.inr h9)),hst2.aH.at HA.out.2.2.2.1 (fun h9=>HPA.out.2 (.inl h9)),by have:=HSZ.out;omega⟩)
   have HOK:=zH (BF (W:=(W.next x.busy hm).cut x.cm) (x:=x) hgen.2.1 (by rw [ze];exact HC.out.2.2.1) (by rw [zd];exact HC.out.2.2.2.1) HFN.out)
   clear hs2 st2 hst2 hgen hhm hnpa b5 HWC HGW
   generalize lI ((W.next x.busy hm).cut x.cm) x=r at HAC HDR HOK
   obtain ⟨W3,A,er⟩:=r
   simp only at HAC
   go_upto_region 9 with (go_at_call 32;refine HAC.out.mono ?_;rintro e w3 ⟨va,vc,vb,vd,rfl,o1,o2,G3,hw3,st3,n1,n2⟩)
   have rO:=af w3 (.cells #[.string A.value,.slice va A.bS.length vc,.slice vb A.reads.length vd,.bool A.lost] 34)
   have bE:=ae (Below.refl w3.heap.size w3) (.cells #[.string A.value,.slice va A.bS.length vc,.slice vb A.reads.length vd,.bool A.lost] 34)
   have hwz:w.heap.size≤wc.heap.size:=Nat.le_trans HA.out.2.2.2.2.1.aH.size HC2.out.1.aH.size
   have HE:=zH (zA (hw3.aj bE) (zA (HA.out.2.2.2.2.1.trans (HC2.out.1.trans (st3.trans (Step.ah bE)))) (zA (eX (o1.alloc (.cells #[.string A.value,.slice va A.bS.length vc,.slice vb A.reads.length vd,.bool A.lost] 34)) hwz) (eX (o2.alloc (.cells #[.string A.value,.slice va A.bS.length vc,.slice vb A.reads.length vd,.bool A.lost] 34)) hwz))))
   have hRc:R<wc.heap.size:=zV HRN.out.2.2 HC2.out.1.aH.size
   have HEO:=zH (zA (show ∀ g,(Value.slice va A.bS.length vc).ownBlock=some g → ¬ G3 g∧g≠R∧g≠w3.heap.size∧wc.heap.size≤g from fun g hg=>⟨n1 g hg,by have:=bQ o1 g hg;omega,by have:=lx o1 g hg;omega,bQ o1 g hg⟩) (show ∀ g,(Value.slice vb A.reads.length vd).ownBlock=some g → ¬ G3 g∧g≠R∧g≠w3.heap.size∧wc.heap.size≤g from fun g hg=>⟨n2 g hg,by have:=bQ o2 g hg;omega,by have:=lx o2 g hg;omega,bQ o2 g hg⟩))
   have rRE:(w3.alloc (.cells #[.string A.value,.slice va A.bS.length vc,.slice vb A.reads.length vd,.bool A.lost] 34)).heap[R]? = some ZA:=aa bE (st3.aH.at HRN.out.2.1 HRN.out.1)
   have hact:fV (w3.alloc (.cells #[.string A.value,.slice va A.bS.length vc,.slice vb A.reads.length vd,.bool A.lost] 34)) pa x ba bc ra rc:=aa bE (st3.aH.at HC2.out.2.1 HC2.out.2.2)
   have HEN:=zH (zA (st3.safe hRc HRN.out.1) (zA (st3.safe (aP HC2.out.2.1) HC2.out.2.2) (zA (show ¬ G3 w3.heap.size from fun h9=>Nat.lt_irrefl _ (hw3.lt _ h9)) (zA (show R≠w3.heap.size by have:=st3.aH.size;omega) (show pa≠w3.heap.size by have:=aP HC2.out.2.1;have:=st3.aH.size;omega)))))
   have HRG:=zH (show w.heap.size≤R by omega)
   have HOG:=zH (show w.heap.size≤w3.heap.size from Nat.le_trans hwz st3.aH.size)
   clear o1 o2 n1 n2 hw3 st3 bE hRc hwz HAC
   generalize w3.alloc (.cells #[.string A.value,.slice va A.bS.length vc,.slice vb A.reads.length vd,.bool A.lost] 34)=wE at *
   generalize w3.heap.size=O at *
   have HRO:=zH (zA rO (zA rRE hact))
   have e5:wE.cell? ⟨pa,5,none⟩=some (.int .i64 x.cm):=cell_of hact 5
   have e0:wE.cell? ⟨pa,0,none⟩=some (.int .i64 x.kind):=cell_of hact 0
   obtain ⟨z0,z1,z2,z3,zf⟩:=cF rO
   obtain ⟨y0,y1,y2,y3,yf⟩:=cF (show wE.heap[R]? = some (.cells #[.string ⟨#[]⟩,.slice none 0 0,.slice none 0 0,.bool false] 34 (0,0)) from rRE)
   clear rO rRE hact
   by_cases hpl:x.cm=0∧x.kind≠7
   ·
    have HDP:=zH ((HD.out hm).trans (if_pos hpl))
    have k1:(x.cm == 0)=true:=beq_iff_eq.2 hpl.1
    have k2:(x.kind != 7)=true:=bne_iff_ne.2 hpl.2
    clear hpl
    go_wp2_with fail
    obtain ⟨q0,q1,q2,q3,qf⟩:=cF (fb HRO.out.2.1 (.string A.value) (.slice va A.bS.length vc) (.slice vb A.reads.length vd) (.bool A.lost))
    refine bodyPost_ret (v:=.tuple #[.agg #[.string A.value,.slice va A.bS.length vc,.slice vb A.reads.length vd,.bool A.lost],.int .i64 er]) ?_ rfl ?_
    ·
     change (results _ _).run _ (mr _ _ _ _ _ _)=_
     simp [results,results11,go_sem,q0,q1,q2,q3]
     rfl
    ·
     refine ⟨hm,?_⟩
     rw [HDP.out,HDR.out]
     exact Ec HE.out.1 HE.out.2.1 A er va vc vb vd HE.out.2.2.1 HE.out.2.2.2 (fun g hg=>⟨(HEO.out.1 g hg).1,(HEO.out.1 g hg).2.1⟩) (fun g hg=>⟨(HEO.out.2 g hg).1,(HEO.out.2 g hg).2.1⟩) (jN HRO.out.2.1) HEN.out.1 HRG.out (cW wE R _ _ _ _)
   ·
    have HDP:=zH ((HD.out hm).trans (if_neg hpl))
    have hcz:p<wc.heap.size:=zV (aP HA.out.2.1) HC2.out.1.aH.size
    obtain ⟨wc1,hwc1⟩ : ∃ wc1,wc1=wc:=⟨_,rfl⟩
    subst hwc1
    go_cut [47] from 40 to 46 (fun v47 wx=>v47=.bool false∧wx=wE)
    case first =>
     by_cases k0:x.cm=0
     ·
      have k1:(x.cm == 0)=true:=beq_iff_eq.2 k0
      have k2:(x.kind != 7)=false:=by
       by_cases k9:x.kind=7
       ·
        simp [k9]
       ·
        exact absurd ⟨k0,k9⟩ hpl
      clear hpl k0
      go_wp2
      go_meet
      exact ⟨rfl,rfl⟩
     ·
      have k1:(x.cm == 0)=false:=zQ k0
      clear hpl k0
      go_wp2
      go_meet
      exact ⟨rfl,rfl⟩
    case rest =>
    obtain ⟨rfl,rfl⟩:=hcut
    clear hpl
    obtain ⟨s4,k4,c4,b4,H4,z4,r4,hs4,hn4,hh4,hG4⟩:=HE.out.1.ex
    have p1:wc.cell? ⟨p,1,none⟩=some (.pointer (some ⟨k4,0,none⟩)):=cell_of r4 1
    have HLS:=zH (Kd s4 k4 c4 b4 W3.m W3.q W3.S H4 wc hs4)
    have HW4:=zH (zA r4 (zA hs4 (zA hn4 hG4)))
    clear r4 hs4 hn4 hh4 hG4
    obtain ⟨wE,hwE⟩ : ∃ wE,wE=wc:=⟨_,rfl⟩
    subst hwE
    go_upto_if 54 with (go_at_call 33;refine HLS.out.mono ?_;rintro e wx ⟨rfl,rfl⟩)
    go_cut [7,54] from 55 to 55 (fun v7 v54 wx=>v7=.int .i64 (if W3.m.lost=true then 0 else er) ∧ ∃ pv pc rv cc,wx.heap[O]? = some (.cells #[.string (if W3.m.lost=true then bg else A).value,.slice pv (if W3.m.lost=true then bg else A).bS.length pc,.slice rv (if W3.m.lost=true then bg else A).reads.length cc,.bool (if W3.m.lost=true then bg else A).lost] 34 (0,0))∧Touch (aO O) wE wx∧wx.ownsRow w.heap.size 83 2 (.slice pv (if W3.m.lost=true then bg else A).bS.length pc) (if W3.m.lost=true then bg else A).bS.length (aE (if W3.m.lost=true then bg else A).bS)∧wx.ownsRow w.heap.size 3 1 (.slice rv (if W3.m.lost=true then bg else A).reads.length cc) (if W3.m.lost=true then bg else A).reads.length (aC (if W3.m.lost=true then bg else A).reads)∧(∀ g,(Value.slice pv (if W3.m.lost=true then bg else A).bS.length pc).ownBlock=some g → ¬ G3 g∧g≠R∧g≠O∧wc1.heap.size≤g) ∧ ∀ g,(Value.slice rv (if W3.m.lost=true then bg else A).reads.length cc).ownBlock=some g → ¬ G3 g∧g≠R∧g≠O∧wc1.heap.size≤g)
    case first =>
     cases hlo:W3.m.lost with
     | true =>
      go_wp2
      go_meet
      rw [hlo,if_pos rfl,if_pos rfl]
      exact ⟨rfl,none,0,none,0,fb HRO.out.1 _ _ _ _,cW _ _ _ _ _ _,zN,zN,fun g hg=>by simp [Value.ownBlock] at hg,fun g hg=>by simp [Value.ownBlock] at hg⟩
     | false =>
      go_wp2
      go_meet
      rw [hlo,if_neg (by decide),if_neg (by decide)]
      exact ⟨rfl,va,vc,vb,vd,HRO.out.1,Touch.refl _ _,HE.out.2.2.1,HE.out.2.2.2,HEO.out.1,HEO.out.2⟩
    case rest =>
    obtain ⟨rfl,pv,pc,rv,cc,hO,tO,o1,o2,n1,n2⟩:=hcut
    obtain ⟨A2,hA2⟩ : ∃ A2,A2=(if W3.m.lost=true then bg else A):=⟨_,rfl⟩
    obtain ⟨e2,he2⟩ : ∃ e2,e2=(if W3.m.lost=true then 0 else er):=⟨_,rfl⟩
    rw [← hA2] at hO o1 o2 n1 n2
    rw [← he2]
    have HAE:=zH (show Ko W x hm=(W3.cm x.mask,A2.Hf,e2) from by rw [HDP.out,HDR.out,JF,JH,hA2,he2])
    clear hA2 he2
    have hpO:p≠O:=fun e=>HEN.out.2.2.1 (e ▸ (HW4.out.2.2.2 p).2 (.inr rfl))
    have HG:=zH (zA (show jF wc p c4 _ _ _ z4 from tO.at HW4.out.1 (fun h=>hpO h)) (zA (show Sys (fun _=>False) wc s4 k4 c4 b4 W3.m W3.q W3.S H4 from HW4.out.2.1.plain tO (fun hm=>HEN.out.2.2.1 ((HW4.out.2.2.2 O).2 (.inl hm))) (jN HRO.out.1)) (zA (show fV wc pa x ba bc ra rc from tO.at HRO.out.2.2 (fun h=>HEN.out.2.2.2.2 h)) (show wc.heap[R]? = some ZA from tO.at HRO.out.2.1 (fun h=>HEN.out.2.2.2.1 h)))))
    have HOO:=zH (zA hO (zA tO (zA o1 (zA o2 (zA n1 n2)))))
    have HS4:=zH (fun w' (F:Nat→Prop) (t:Touch F wc w') n1 n2=>sQ.of HG.out.1 HG.out.2.2.1 t n1 n2)
    have HNP4:=zH (show ¬ bK s4 H4 p ∧ ¬ bK s4 H4 pa from ⟨HW4.out.2.2.1,fun h=>HEN.out.2.1 ((HW4.out.2.2.2 pa).2 (.inl h))⟩)
    have HLO:=zH (fun w' (hb:Below wc.heap.size wc w')=>Kc s4 k4 c4 b4 W3.m W3.q W3.S H4 x.mask w' (HG.out.2.1.aj hb) HOK.out.1 (Nat.le_trans HFN.out.mask (by decide)))
    obtain ⟨wG,hwG⟩ : ∃ wG,wG=wc:=⟨_,rfl⟩
    subst hwG
    clear hO tO o1 o2 n1 n2 HLS e5 e0 z0 z1 z2 z3 zf y0 y1 y2 y3 yf p1
    go_upto_region 13 with fail
    refine wp_region_noPanic ?_
    refine wp_region_held_drew (S:=(sQ k4 c4 p pa x ba bc)) (by kernel_rfl) (by (try dsimp only);exact HS4.out _ (fun _=>False) (Touch.ah (au zR)) id id) fun hHeld => ?_
    refine tk 0 ?_ (hy:=by (intro w hSw;unfold sQ at hSw;go_simp;try with_reducible rfl))
    refine tk 1 ?_ (hy:=by (intro w hSw;unfold sQ at hSw;go_simp;try with_reducible rfl))
    refine tk 2 ?_ (hy:=by (intro w hSw;unfold sQ at hSw;go_simp;try with_reducible rfl))
    refine tk 3 ?_ (hy:=by (intro w hSw;unfold sQ at hSw;go_simp;try with_reducible rfl))
    refine tk 4 ?_ (hy:=by (intro w hSw;unfold sQ at hSw;go_simp;try with_reducible rfl))
    refine tk 5 ?_ (hy:=by (intro w hSw;unfold sQ at hSw;go_simp;try with_reducible rfl))
    refine tr 6 fun K hK => ?_
    go_simp
    go_at_call 34
    refine (HLO.out _ (au zR)).mono ?_
    rintro e wF ⟨rfl,H5,hs5,st5⟩
    have hr4:=zH (zA hs5 ((Step.ah (F:=bK s4 H4) (au (Below.refl wG.heap.size wG))).trans st5.lp))
    clear hs5 st5
    go_wp2_with fail
    refine hK.out _ _ (by (try dsimp only);exact HS4.out _ _ hr4.out.2.aH HNP4.out.1 HNP4.out.2) fun hHeld => ?_
    clear hK K
    try simp only [Act.put,zS,zT,zU]
    refine wpAnyH_done (by kernel_rfl) ?_ _
    refine NoPanic.normal ?_
    have hp5 : ¬ H5 p:=fun h=>by
     have h8:=aP HG.out.1
     rcases hr4.out.2.ik p (.inl h) with h | h
     ·
      exact HNP4.out.1 h
     ·
      omega
    have HBG:=zH (E7 p s4 k4 c4 b4 _ W3.q W3.S H5 z4 wF hr4.out.1 (hr4.out.2.aH.at HG.out.1 HNP4.out.1) hp5 rfl)
    go_upto_region 15 with (go_at_call 35;refine HBG.out.mono ?_;rintro e wH ⟨rfl,s5,k5,b5,H6,z5,hrow,hs5,np5,tp5,ft5⟩)
    have hpO:p≠O:=fun e=>HEN.out.2.2.1 (e ▸ (HW4.out.2.2.2 p).2 (.inr rfl))
    have kO:wH.heap[O]? = some (.cells #[.string A2.value,.slice pv A2.bS.length pc,.slice rv A2.reads.length cc,.bool A2.lost] 34 (0,0)):=tp5.at (hr4.out.2.aH.at HOO.out.1 (fun h=>HEN.out.2.2.1 ((HW4.out.2.2.2 O).2 (.inl h)))) (fun h=>hpO (show O=p from h).symm)
    have kR:wH.heap[R]? = some ZA:=tp5.at (hr4.out.2.aH.at HG.out.2.2.2 (fun h=>HEN.out.1 ((HW4.out.2.2.2 R).2 (.inl h)))) (fun h=>HEN.out.1 (by rw [show R=p from h];exact (HW4.out.2.2.2 p).2 (.inr rfl)))
    have kO2:=az (i:=3) (v:=Value.bool true) kO
    have kR2:(wH.setCell ⟨O,3,none⟩ (.bool true)).heap[R]? = some ZA:=((Touch.refl (aO O) wH).set O 3 (.bool true) rfl).at kR (fun h=>HEN.out.2.2.2.1 h)
    obtain ⟨z0,z1,z2,z3,zf⟩:=cF kO
    obtain ⟨x0,x1,x2,x3,xf⟩:=cF (show (wH.setCell ⟨O,3,none⟩ (.bool true)).heap[O]? = some (.cells #[.string A2.value,.slice pv A2.bS.length pc,.slice rv A2.reads.length cc,.bool true] 34 (0,0)) from kO2)
    obtain ⟨y0,y1,y2,y3,yf⟩:=cF (show (wH.setCell ⟨O,3,none⟩ (.bool true)).heap[R]? = some (.cells #[.string ⟨#[]⟩,.slice none 0 0,.slice none 0 0,.bool false] 34 (0,0)) from kR2)
    obtain ⟨q0,q1,q2,q3,qf⟩:=cF (fb kR2 (.string A2.value) (.slice pv A2.bS.length pc) (.slice rv A2.reads.length cc) (.bool true))
    have HFIN:=zH (fun x1 x2 x3 x4=>JE (mask:=x.mask) HE.out.2.1 HOG.out HRG.out HW4.out.2.2.2 HEN.out.1 HEN.out.2.2.1 HEN.out.2.2.2.1 HOO.out.2.1 HOO.out.1 HG.out.2.2.2 HOO.out.2.2.1 HOO.out.2.2.2.1 HOO.out.2.2.2.2.1 HOO.out.2.2.2.2.2 (aP HG.out.1) hr4.out.2 hrow hs5 np5 tp5 ft5 e2 x1 x2 x3 x4)
    go_wp2
    refine bodyPost_ret (v:=.tuple #[.agg #[.string A2.value,.slice pv A2.bS.length pc,.slice rv A2.reads.length cc,.bool true],.int .i64 e2]) ?_ rfl ?_
    ·
     change (results _ _).run _ (mr _ _ _ _ _ _)=_
     simp [results,results11,go_sem,q0,q1,q2,q3]
     rfl
    ·
     refine ⟨hm,?_⟩
     rw [HAE.out]
     exact HFIN.out _ _ _ _
end
end Go.Proofs.YtcfdenckiigdaaaGreat

/- Part 24 of the contracts. -/
import Derived.Test.YtcfdenckiigdaaaGreatBu23
set_option linter.unusedVariables false
set_option maxRecDepth 100000
set_option maxHeartbeats 4000000
namespace Go.Proofs.YtcfdenckiigdaaaGreat
open Tryz Go.RowKit
section
open Go.RowKit
variable {X:Nat→Prop}
def gz.next (W:gz) (xs:List Int) (hm:Nat):gz:=⟨W.m.next xs hm,W.q,W.S⟩
def gz.cut (W:gz) (n:Int):gz:=if 0<n then ⟨{ W.m with left:=n - 1 },W.q,W.S⟩ else W
def gz.cD (W:gz) (mask:ByteArray):gz:=⟨aB.new (W.m.an.cD mask),Cache.new,shut⟩
def jA.FK (A:jA):jA:=⟨A.value,A.aQ,A.reads,true⟩
def EE (r:gz×jA×Int):jA:=if r.1.m.lost=true then bq.FK else r.2.1.FK
def Il (r:gz×jA×Int):Int:=if r.1.m.lost=true then 0 else r.2.2
def jg (W:gz) (x:cW) (hm:Nat):gz×jA×Int:=kP ((W.next x.busy hm).cut x.cD) x
def I8 (W:gz) (x:cW) (hm:Nat):gz×jA×Int :=
 if qQ x=false then (W,bq,2500) else if x.cD=0∧x.kind≠7 then jg W x hm else ((jg W x hm).1.cD x.mask,EE (jg W x hm),Il (jg W x hm))
def rZ (k c p pa:Nat) (x:cW) (ba:Option Addr) (bc:Nat) (w':World):Prop:=w'.cell? ⟨p,0,none⟩=some (.pointer (some ⟨c,0,none⟩))∧w'.cell? ⟨p,1,none⟩=some (.pointer (some ⟨k,0,none⟩))∧w'.cell? ⟨pa,5,none⟩=some (.int .i64 x.cD)∧w'.cell? ⟨pa,6,none⟩=some (.string x.mask)∧w'.cell? ⟨pa,7,none⟩=some (.slice ba x.busy.length bc)
theorem rZ.of {w w':World} {s b p pa k c:Nat} {z:Int} {x:cW} {ba:Option Addr} {bc:Nat} {ra:Option Addr} {rc:Nat} (h1:jm w p c (some ⟨k,0,none⟩) (some ⟨b,0,none⟩) (some ⟨s,0,none⟩) z) (h2:fG w pa x ba bc ra rc) {F:Nat→Prop} (t:Touch F w w') (n1 : ¬ F p) (n2 : ¬ F pa):rZ k c p pa x ba bc w':=by
 have k1:=t.at h1 n1
 have k2:fG w' pa x ba bc ra rc:=t.at h2 n2
 exact ⟨cell_of k1 0,cell_of k1 1,cell_of k2 5,cell_of k2 6,cell_of k2 7⟩
theorem Fc {m:aB} {y:ByteArray} (h:Calm m y) {xs:List Int} (hx : ∀ z ∈ xs,1≤z∧z≤400) (hm:Nat):Calm (m.next xs hm) y:=⟨h.lost,h.dJ,h.aA,h.cells,h.bn,h.aZ,h.aW,hx⟩
theorem Fb {m:aB} {y:ByteArray} (h:Calm m y) (n:Int):Calm { m with left:=n } y:=⟨h.lost,h.dJ,h.aA,h.cells,h.bn,h.aZ,h.aW,h.busy⟩
theorem J0 {m:aB} (h:m.Ok) {xs:List Int} (hx : ∀ z ∈ xs,1≤z∧z≤400) (hm:Nat):(m.next xs hm).Ok:=⟨⟨⟨h.bX.ok.size,h.bX.ok.aW,h.bX.ok.fH,h.bX.ok.gi,h.bX.ok.op,h.bX.ok.data⟩,hx⟩,h.dJ,h.jS,h.kz⟩
theorem JT {m:aB} (h:m.Ok) {n:Int} (h0 : -1≤n) (h1:n≤1099511627776):({ m with left:=n }:aB).Ok:=⟨h.bX,h.dJ,h0,h1⟩
theorem Df {w w1 w3:World} {p R:Nat} {W1:gz} {G G1:Nat→Prop} (h1:bI X w1 p W1 G1) (st:Step G G1 w w1) (A:jA) (er:Int) (pv:Option Addr) (pc:Nat) (rv:Option Addr) (cc:Nat) (o1:w1.ownsRow w.heap.size 83 2 (.slice pv A.aQ.length pc) A.aQ.length (aI A.aQ)) (o2:w1.ownsRow w.heap.size 3 1 (.slice rv A.reads.length cc) A.reads.length (az A.reads)) (n1 : ∀ g,(Value.slice pv A.aQ.length pc).ownBlock=some g → ¬ G1 g∧g≠R) (n2 : ∀ g,(Value.slice rv A.reads.length cc).ownBlock=some g → ¬ G1 g∧g≠R) (hR:Plain w1 R) (hnR : ¬ G1 R) (hge:w.heap.size≤R) (t:Touch (aM R) w1 w3):eL X p W1 A er G w (.returned (.tuple #[.agg #[.string A.value,.slice pv A.aQ.length pc,.slice rv A.reads.length cc,.bool A.lost],.int .i64 er])) w3 :=
 ⟨pv,pc,rv,cc,rfl,cT o1 t (fun g hg e=>(n1 g hg).2 e),cT o2 t (fun g hg e=>(n2 g hg).2 e),G1,h1.plain t hnR hR,⟨st.aD.then t (fun i hi=>.inr (by rw [show i=R from hi];exact hge)),st.gA⟩,fun g hg=>(n1 g hg).1,fun g hg=>(n2 g hg).1⟩
theorem Ij {w wE wG wF wH:World} {p R O s4 c4 s5 k5 b5 B:Nat} {z5:Int} {G G3 H4 H5 H6:Nat→Prop} {W3:gz} {A2:jA} {mask:ByteArray} {pv:Option Addr} {pc:Nat} {rv:Option Addr} {cc:Nat} (hE:Step G G3 w wE) (hOG:w.heap.size≤O) (hRG:w.heap.size≤R) (hG : ∀ i,G3 i ↔ iF p s4 H4 i) (nR : ¬ G3 R) (nO : ¬ G3 O) (hRO:R≠O) (tO:Touch (aM O) wE wG) (hO:wG.heap[O]? = some (.cells #[.string A2.value,.slice pv A2.aQ.length pc,.slice rv A2.reads.length cc,.bool A2.lost] 34 (0,0))) (hR:wG.heap[R]? = some ZA) (o1:wG.ownsRow w.heap.size 83 2 (.slice pv A2.aQ.length pc) A2.aQ.length (aI A2.aQ)) (o2:wG.ownsRow w.heap.size 3 1 (.slice rv A2.reads.length cc) A2.reads.length (az A2.reads)) (n1 : ∀ g,(Value.slice pv A2.aQ.length pc).ownBlock=some g → ¬ G3 g∧g≠R∧g≠O∧B≤g) (n2 : ∀ g,(Value.slice rv A2.reads.length cc).ownBlock=some g → ¬ G3 g∧g≠R∧g≠O∧B≤g) (hp:p<wG.heap.size) (st:Step (bP s4 H4) (bP s4 H5) wG wF) (hrow:jm wH p c4 (some ⟨k5,0,none⟩) (some ⟨b5,0,none⟩) (some ⟨s5,0,none⟩) z5) (hs:Sys X wH s5 k5 c4 b5 (aB.new (W3.m.an.cD mask)) Cache.new shut H6) (np : ¬ bP s5 H6 p) (tp:Touch (aM p) wF wH) (ft : ∀ i,bP s5 H6 i→H5 i∨wF.heap.size≤i) (er:Int) (x1 x2 x3 x4:Value):eL X p (W3.cD mask) A2.FK er G w (.returned (.tuple #[.agg #[.string A2.value,.slice pv A2.aQ.length pc,.slice rv A2.reads.length cc,.bool true],.int .i64 er])) (lL (wH.setCell ⟨O,3,none⟩ (.bool true)) R x1 x2 x3 x4):=by
 have g3p:G3 p:=(hG p).2 (.inr rfl)
 have hpO:p≠O:=fun e=>nO (e ▸ g3p)
 have m3 : ∀ i,bP s4 H4 i→G3 i:=fun i h=>(hG i).2 (.inl h)
 have t2:Touch (aM O) wH (wH.setCell ⟨O,3,none⟩ (.bool true)):=(Touch.refl (aM O) wH).set O 3 _ rfl
 have inF : ∀ i,i<wG.heap.size → ¬ G3 i → ¬ bP s5 H6 i:=fun i hi hn h=>by
  rcases ft i h with h | h
  ·
   rcases st.gA i (.inl h) with h | h
   ·
    exact hn (m3 i h)
   ·
    omega
  ·
   have:=st.aD.size
   omega
 have row : ∀ i v,i<wG.heap.size → ¬ G3 i→wG.heap[i]? = some v→wH.heap[i]? = some v:=fun i v hi hn e=>tp.at (st.aD.at e (fun h=>hn (m3 i h))) (fun h=>hn (by rw [show i=p from h];exact g3p))
 have hOl:=aV hO
 have hRl:=aV hR
 have kO:=row O _ hOl nO hO
 have kR:(wH.setCell ⟨O,3,none⟩ (.bool true)).heap[R]? = some ZA:=t2.at (row R _ hRl nR hR) (fun h=>hRO h)
 have own : ∀ {t sz v n xs},wG.ownsRow w.heap.size t sz v n xs→(∀ g,v.ownBlock=some g → ¬ G3 g∧g≠R∧g≠O∧B≤g)→(wH.setCell ⟨O,3,none⟩ (.bool true)).ownsRow w.heap.size t sz v n xs:=fun h n=>cT (cT (cT h st.aD (fun g hg h=>(n g hg).1 (m3 g h))) tp (fun g hg h=>(n g hg).1 (by rw [show g=p from h];exact g3p))) t2 (fun g hg h=>(n g hg).2.2.1 h)
 have low : ∀ i,G3 i→G i∨w.heap.size≤i:=hE.gA
 have wG0:w.heap.size≤wG.heap.size:=Nat.le_trans hE.aD.size tO.size
 have T:Touch G w (wH.setCell ⟨O,3,none⟩ (.bool true)):=(((hE.aD.then tO (fun i hi=>.inr (by rw [show i=O from hi];exact hOG))).then st.aD (fun i hi=>low i (m3 i hi))).then tp (fun i hi=>low i (by rw [show i=p from hi];exact g3p))).then t2 (fun i hi=>.inr (by rw [show i=O from hi];exact hOG))
 refine Df (W1:=W3.cD mask) (G1:=iF p s5 H6) (R:=R) ⟨s5,k5,c4,b5,H6,z5,t2.at hrow (fun h=>hpO h),hs.plain t2 (inF O hOl nO) (jt kO),np,fun h=>(by cases h),fun i=>Iff.rfl⟩ ⟨T,fun i hi => ?_⟩ A2.FK er pv pc rv cc (own o1 n1) (own o2 n2) (fun g hg=>⟨fun h => ?_,(n1 g hg).2.1⟩) (fun g hg=>⟨fun h => ?_,(n2 g hg).2.1⟩) (jt kR) (fun h => ?_) hRG (cN _ _ _ _ _ _)
 ·
  rcases hi with hi | hi
  ·
   rcases ft i hi with h | h
   ·
    rcases st.gA i (.inl h) with h | h
    ·
     exact low i (m3 i h)
    ·
     exact .inr (Nat.le_trans wG0 h)
   ·
    exact .inr (Nat.le_trans wG0 (Nat.le_trans st.aD.size h))
  ·
   rw [hi]
   exact low p g3p
 ·
  rcases h with h | h
  ·
   exact inF g (kF o1 g hg) (n1 g hg).1 h
  ·
   exact (n1 g hg).1 (by rw [h];exact g3p)
 ·
  rcases h with h | h
  ·
   exact inF g (kF o2 g hg) (n2 g hg).1 h
  ·
   exact (n2 g hg).1 (by rw [h];exact g3p)
 ·
  rcases h with h | h
  ·
   exact inF R hRl nR h
  ·
   exact nR (by rw [h];exact g3p)
theorem Ik (W:gz) (A:jA) (er:Int):EE (W,A,er)=(if W.m.lost=true then bq else A).FK:=by unfold EE;split <;> rfl
theorem Im (W:gz) (A:jA) (er:Int):Il (W,A,er)=if W.m.lost=true then 0 else er:=rfl
theorem Bc (W:gz) (n:Int):(W.cut n).m.an=W.m.an:=by unfold gz.cut;split <;> rfl
theorem yo (W:gz) (xs:List Int) (hm:Nat) (n:Int):((W.next xs hm).cut n).q=W.q:=by unfold gz.cut;split <;> rfl
theorem yn (W:gz) (xs:List Int) (hm:Nat) (n:Int):((W.next xs hm).cut n).S=W.S:=by unfold gz.cut;split <;> rfl
theorem AB {W:gz} {cx:ByteArray} (h:Calm W.m cx) (ok:W.m.Ok) {x:cW} (f:x.Gz) (hm:Nat):Calm ((W.next x.busy hm).cut x.cD).m cx∧((W.next x.busy hm).cut x.cD).m.Ok∧(x.cD=0→((W.next x.busy hm).cut x.cD).m.left=W.m.left):=by
 have h1:=Fc h f.busy.2 hm
 have o1:=J0 ok f.busy.2 hm
 unfold gz.cut
 by_cases hl:0<x.cD
 ·
  rw [if_pos hl]
  have:=f.cD
  exact ⟨Fb h1 _,JT o1 (by omega) (by omega),fun e=>by omega⟩
 ·
  rw [if_neg hl]
  exact ⟨h1,o1,fun _=>rfl⟩
theorem Hg (p:Nat) (W:gz) (G:Nat→Prop) (x:cW) (ba:Option Addr) (bc:Nat) (ra:Option Addr) (rc:Nat) (cx:ByteArray) (w:World) (h:bI X w p W G) (calm:Calm W.m cx) (ok:W.m.Ok) (g:W.q.Good) (fit:W.S.Fit) (hb:aK w ba x.busy) (hbn:ba=none→bc=0) (hi:aJ w ra x.reads G) (hcap:x.reads.length≤rc) (lb:x.busy.length≤4611686018427387904) (lr:x.reads.length≤4611686018427387904):Calls prog 11 #[.pointer (some ⟨p,0,none⟩),.agg (x.row ba bc ra rc)] w fun e w' => ∃ hm,eL X p (I8 W x hm).1 (I8 W x hm).2.1 (I8 W x hm).2.2 G w e w':=by
 obtain ⟨s,k,c,b,H,z,h1,h2,h3,h4,h5⟩:=h.ex
 have hpp:=aV h1
 have hlt : ∀ i,bP s H i→i<w.heap.size:=h2.lt
 have hb0:=ae (ae (Below.refl w.heap.size w) (.cells (x.row ba bc ra rc) 31)) ZA
 have hact:fG ((w.alloc (.cells (x.row ba bc ra rc) 31)).alloc ZA) w.heap.size x ba bc ra rc:=aa (ae zR ZA) (ag w _)
 have hsz:((w.alloc (.cells (x.row ba bc ra rc) 31)).alloc ZA).heap.size=w.heap.size+2:=by simp
 have hR:((w.alloc (.cells (x.row ba bc ra rc) 31)).alloc ZA).heap[w.heap.size+1]? = some ZA:=by simpa using ag (w.alloc (.cells (x.row ba bc ra rc) 31)) ZA
 have HM:=zH (FL x ba bc ra rc ((w.alloc (.cells (x.row ba bc ra rc) 31)).alloc ZA) (hb.aj hb0) (hi.1.aj hb0) lb lr)
 have H0:=zH (zA (h2.aj hb0) (zA (show jm _ p c _ _ _ z from aa hb0 h1) (zA hact (zA hR (zA hb0 (zA hsz (zA (hb.aj hb0) (zA (hi.step (G':=G) (Step.ah hb0)) (zA h3 (zA h4 (zA h5 (zA hlt hpp))))))))))))
 have HC:=zH (zA calm (zA ok (zA g (zA fit (zA hbn hcap)))))
 have HD:=zH (fun hm=>(show I8 W x hm=if qQ x=false then (W,bq,2500) else if x.cD=0∧x.kind≠7 then jg W x hm else ((jg W x hm).1.cD x.mask,EE (jg W x hm),Il (jg W x hm)) from rfl))
 have hrow:x.row ba bc ra rc = #[.int .i64 x.kind,.string x.key,.string x.value,.int .i64 x.at_,.int .i64 x.width,.int .i64 x.cD,.string x.mask,.slice ba x.busy.length bc,.slice ra x.reads.length rc]:=rfl
 have HMF:=zH (fun h=>BR (x:=x) h)
 clear h h1 h2 h3 h4 h5 hact hR hb0 hsz hlt hpp hb hi hbn hcap lb lr calm ok g fit
 rw [hrow] at H0 HM ⊢
 clear hrow
 generalize qQ x=mb at HM HD HMF
 go_enter func11,ntmps11
 go_upto_region 3 with fail
 have eZ:(w.alloc (.cells #[.int .i64 x.kind,.string x.key,.string x.value,.int .i64 x.at_,.int .i64 x.width,.int .i64 x.cD,.string x.mask,.slice ba x.busy.length bc,.slice ra x.reads.length rc] 31)).alloc (.cells #[.string ⟨#[]⟩,.slice none 0 0,.slice none 0 0,.bool false] 34)=(w.alloc (.cells #[.int .i64 x.kind,.string x.key,.string x.value,.int .i64 x.at_,.int .i64 x.width,.int .i64 x.cD,.string x.mask,.slice ba x.busy.length bc,.slice ra x.reads.length rc] 31)).alloc ZA:=rfl
 rw [eZ]
 clear eZ
 generalize (w.alloc (.cells #[.int .i64 x.kind,.string x.key,.string x.value,.int .i64 x.at_,.int .i64 x.width,.int .i64 x.cD,.string x.mask,.slice ba x.busy.length bc,.slice ra x.reads.length rc] 31)).alloc ZA=w0 at *
 have a0:w0.cell? ⟨w.heap.size,0,none⟩=some (.int .i64 x.kind):=cell_of H0.out.2.2.1 0
 have a1:w0.cell? ⟨w.heap.size,1,none⟩=some (.string x.key):=cell_of H0.out.2.2.1 1
 have a2:w0.cell? ⟨w.heap.size,2,none⟩=some (.string x.value):=cell_of H0.out.2.2.1 2
 have a3:w0.cell? ⟨w.heap.size,3,none⟩=some (.int .i64 x.at_):=cell_of H0.out.2.2.1 3
 have a4:w0.cell? ⟨w.heap.size,4,none⟩=some (.int .i64 x.width):=cell_of H0.out.2.2.1 4
 have a5:w0.cell? ⟨w.heap.size,5,none⟩=some (.int .i64 x.cD):=cell_of H0.out.2.2.1 5
 have a6:w0.cell? ⟨w.heap.size,6,none⟩=some (.string x.mask):=cell_of H0.out.2.2.1 6
 have a7:w0.cell? ⟨w.heap.size,7,none⟩=some (.slice ba x.busy.length bc):=cell_of H0.out.2.2.1 7
 have a8:w0.cell? ⟨w.heap.size,8,none⟩=some (.slice ra x.reads.length rc):=cell_of H0.out.2.2.1 8
 have HWA:=zH (fun w' (hb:Below w0.heap.size w0 w')=>(show bI X w' p W (iF p s H) from ⟨s,k,c,b,H,z,aa hb H0.out.2.1,H0.out.1.aj hb,H0.out.2.2.2.2.2.2.2.2.1,H0.out.2.2.2.2.2.2.2.2.2.1,fun i=>Iff.rfl⟩))
 have HGW:=zH (show ∀ i,G i ↔ iF p s H i from H0.out.2.2.2.2.2.2.2.2.2.2.1)
 have HLT:=zH (zA (show ∀ i,iF p s H i→i<w.heap.size from fun i hi=>hi.elim (H0.out.2.2.2.2.2.2.2.2.2.2.2.1 i) (fun e=>by rw [e];exact H0.out.2.2.2.2.2.2.2.2.2.2.2.2)) (zA H0.out.2.2.2.2.1 H0.out.2.2.2.2.2.1))
 have HRR:=zH H0.out.2.2.2.1
 have HST:=zH (show Step G (iF p s H) w w0 from ⟨Touch.ah HLT.out.2.1,fun i hi=>.inl ((HGW.out i).2 hi)⟩)
 have HNP:=zH (show ¬ bP s H p from H0.out.2.2.2.2.2.2.2.2.1)
 have hpa : ¬ iF p s H w.heap.size:=fun hm=>Nat.lt_irrefl _ (HLT.out.1 _ hm)
 have hnR : ¬ iF p s H (w.heap.size+1):=fun hm=>by have:=HLT.out.1 _ hm;omega
 have HPA:=zH (zA hpa hnR)
 clear hpa hnR
 generalize hpaE:w.heap.size=pa at *
 generalize hRE:pa+1=R at *
 cases mb with
 | false =>
  have HF:=zH (fun hm=>(HD.out hm).trans (if_pos rfl))
  clear HD HMF
  go_wp2_with (go_at_call 29;refine HM.out.mono ?_;rintro e wA ⟨rfl,hbA⟩;obtain ⟨z0,z1,z2,z3,zf⟩:=cw (aa hbA HRR.out))
  have rA:=aa hbA HRR.out
  obtain ⟨q0,q1,q2,q3,qf⟩:=cw (eO rA (.string ⟨#[]⟩) (.slice none 0 0) (.slice none 0 0) (.bool false))
  refine bodyPost_ret (v:=.tuple #[.agg #[.string ⟨#[]⟩,.slice none 0 0,.slice none 0 0,.bool false],.int .i64 2500]) ?_ rfl ?_
  ·
   change (results _ _).run _ (lL _ _ _ _ _ _)=_
   simp [results,results11,go_sem,q0,q1,q2,q3]
   rfl
  ·
   refine ⟨0,?_⟩
   rw [HF.out 0]
   exact Df (HWA.out wA hbA) (HST.out.trans (Step.ah hbA)) bq 2500 none 0 none 0 zN zN (fun g hg=>by simp [Value.ownBlock] at hg) (fun g hg=>by simp [Value.ownBlock] at hg) (jt rA) HPA.out.2 (by omega) (cN wA R _ _ _ _)
 | true =>
  have HFN:=zH (HMF.out rfl)
  replace HD:=zH (fun hm=>(HD.out hm).trans (if_neg (by decide)))
  clear HMF
  go_upto_region 5 with (go_at_call 29;refine HM.out.mono ?_;rintro e wA ⟨rfl,hbA⟩)
  have HA:=zH (zA (H0.out.1.aj hbA) (zA (show jm wA p c _ _ _ z from aa hbA H0.out.2.1) (zA (show fG wA pa x ba bc ra rc from aa hbA H0.out.2.2.1) (zA (aa hbA HRR.out) (zA (HST.out.trans (Step.ah hbA)) (zA (H0.out.2.2.2.2.2.2.1.aj hbA) (H0.out.2.2.2.2.2.2.2.1.step (G':=iF p s H) ⟨(Touch.ah hbA),fun i hi=>.inl ((HGW.out i).2 hi)⟩)))))))
  have hsA:pa+2≤wA.heap.size:=by have:=hbA.size;have:=HLT.out.2.2;omega
  have HSZ:=zH hsA
  have HN0:=zH HNP.out
  replace HNP:=zH (zA HN0.out (show ¬ bP s H pa from fun hm=>HPA.out.1 (.inl hm)))
  have HNX:=zH (fun w' (hb:Below wA.heap.size wA w')=>IY s k c b W.m W.q W.S H ba bc x.busy w' (HA.out.1.aj hb) (HA.out.2.2.2.2.2.1.aj hb) HC.out.2.2.2.2.1 HFN.out.busy.1 HFN.out.busy.2)
  have HS:=zH (fun w' (F:Nat→Prop) (t:Touch F wA w') n1 n2=>rZ.of HA.out.2.1 HA.out.2.2.1 t n1 n2)
  clear hbA hsA HM H0 HWA HST HRR a0 a1 a2 a3 a4 a5 a6 a7 a8 HN0
  refine wp_region_noPanic ?_
  refine wp_region_held_drew (S:=(rZ k c p pa x ba bc)) (by kernel_rfl) (by (try dsimp only);exact HS.out _ (fun _=>False) (Touch.ah (aw zR)) id id) fun hHeld => ?_
  refine tk 0 ?_ (hy:=by intro w h;unfold rZ at h;go_simp;try with_reducible rfl)
  refine tk 1 ?_ (hy:=by intro w h;unfold rZ at h;go_simp;try with_reducible rfl)
  refine tk 2 ?_ (hy:=by intro w h;unfold rZ at h;go_simp;try with_reducible rfl)
  refine tk 3 ?_ (hy:=by intro w h;unfold rZ at h;go_simp;try with_reducible rfl)
  refine tk 4 ?_ (hy:=by intro w h;unfold rZ at h;go_simp;try with_reducible rfl)
  refine tk 5 ?_ (hy:=by intro w h;unfold rZ at h;go_simp;try with_reducible rfl)
  refine tr 6 fun K hK => ?_
  go_simp
  go_at_call 30
  refine (HNX.out _ (aw zR)).mono ?_
  rintro e wB ⟨rfl,hm,H1,hhm,hs1,st1⟩
  have hr1:=zH (zA hs1 (zA ((Step.ah (F:=bP s H) (aw (Below.refl wA.heap.size wA))).trans st1.kC) (fun hl=>Nat.le_trans (show wA.heap.size≤wA.drew.heap.size from Nat.le_refl _) (hhm hl))))
  clear hs1 st1 hhm
  go_wp2_with fail
  refine hK.out _ _ (by (try dsimp only);exact HS.out _ _ hr1.out.2.1.aD HNP.out.1 HNP.out.2) fun hHeld => ?_
  clear hK K
  try simp only [Act.put,zS,zT,zU]
  refine wpAnyH_done (by kernel_rfl) ?_ _
  refine NoPanic.normal ?_
  have HB:=zH (zA (show jm wB p c _ _ _ z from hr1.out.2.1.aD.at HA.out.2.1 HNP.out.1) (zA (show fG wB pa x ba bc ra rc from hr1.out.2.1.aD.at HA.out.2.2.1 HNP.out.2) (zA ((hr1.out.2.1).safe (aV HA.out.2.1) HNP.out.1) ((hr1.out.2.1).safe (aV HA.out.2.2.1) HNP.out.2))))
  have b5:wB.cell? ⟨pa,5,none⟩=some (.int .i64 x.cD):=cell_of HB.out.2.1 5
  have HNP2:=zH HB.out.2.2
  have HS2:=zH (fun w' (F:Nat→Prop) (t:Touch F wB w') n1 n2=>rZ.of HB.out.1 HB.out.2.1 t n1 n2)
  clear HNX HS
  go_upto_if 26 with fail
  go_cut [26] from 27 to 34 (fun v26 wx => ∃ H2,Sys X wx s k c b ((W.next x.busy hm).cut x.cD).m W.q W.S H2∧Step (bP s H1) (bP s H2) wB wx)
  case first =>
   by_cases hl:0<x.cD
   ·
    have HL:=zH hl
    have hle:=HFN.out.cD.2
    have hge:=HFN.out.cD.1
    have hwr:IntKind.i64.wrap (x.cD - 1)=x.cD - 1:=dz (by omega) (by omega)
    have HCU:=zH (fun w' (hb:Below wB.heap.size wB w')=>Kp s k c b _ W.q W.S H1 (x.cD - 1) w' (hr1.out.1.aj hb) (by omega))
    rw [← hwr] at HCU
    have HWR:=zH hwr
    clear hwr
    go_upto_region 7 with fail
    refine wp_region_noPanic ?_
    refine wp_region_held_drew (S:=(rZ k c p pa x ba bc)) (by kernel_rfl) (by (try dsimp only);exact HS2.out _ (fun _=>False) (Touch.ah (aw zR)) id id) fun hHeld => ?_
    refine tk 0 ?_ (hy:=by intro w h;unfold rZ at h;go_simp;try with_reducible rfl)
    refine tk 1 ?_ (hy:=by intro w h;unfold rZ at h;go_simp;try with_reducible rfl)
    refine tk 2 ?_ (hy:=by intro w h;unfold rZ at h;go_simp;try with_reducible rfl)
    refine tk 3 ?_ (hy:=by intro w h;unfold rZ at h;go_simp;try with_reducible rfl)
    refine tk 4 ?_ (hy:=by intro w h;unfold rZ at h;go_simp;try with_reducible rfl)
    refine tk 5 ?_ (hy:=by intro w h;unfold rZ at h;go_simp;try with_reducible rfl)
    refine tk 6 ?_ (hy:=by intro w h;unfold rZ at h;go_simp;try with_reducible rfl)
    refine tr 7 fun K hK => ?_
    go_simp
    go_at_call 31
    refine (HCU.out _ (aw zR)).mono ?_
    rintro e wC ⟨rfl,H2,hs2,st2⟩
    have hr2:=zH (zA hs2 ((Step.ah (F:=bP s H1) (aw (Below.refl wB.heap.size wB))).trans st2.kC))
    clear hs2 st2
    go_wp2_with fail
    refine hK.out _ _ (by (try dsimp only);exact HS2.out _ _ hr2.out.2.aD HNP2.out.1 HNP2.out.2) fun hHeld => ?_
    clear hK K
    try simp only [Act.put,zS,zT,zU]
    refine wpAnyH_done (by kernel_rfl) ?_ _
    refine NoPanic.normal ?_
    go_wp2
    go_meet
    exact ⟨H2,by (have h9:=hr2.out.1;rw [HWR.out] at h9;unfold gz.cut;rw [if_pos HL.out];exact h9),hr2.out.2⟩
   ·
    have HL:=zH hl
    go_wp2
    go_meet
    exact ⟨H1,by (unfold gz.cut;rw [if_neg (by have:=HL.out;omega)];exact hr1.out.1),Step.refl _ _⟩
  case rest =>
   obtain ⟨H2,hs2,st2⟩:=hcut
   have hst2:=hr1.out.2.1.trans st2
   have HWC:=zH (show bI X wc p ((W.next x.busy hm).cut x.cD) (iF p s H2) from ⟨s,k,c,b,H2,z,st2.aD.at HB.out.1 HNP2.out.1,(by rw [yo,yn];exact hs2),st2.safe (aV HB.out.1) HNP2.out.1,fun hl=>⟨fun e=>(by
    rw [Bc] at hl e
    have h1:=hr1.out.2.2 hl
    have h2:=aV HA.out.2.1
    have e:hm=p:=e
    omega),fun hx=>(by
    rw [Bc] at hl hx
    have h1:=hr1.out.2.2 hl
    have h2:=HA.out.1.both.Ja _ hx
    have h2:hm<wA.heap.size:=h2
    omega)⟩,fun i=>Iff.rfl⟩)
   have hgen:=AB HC.out.1 HC.out.2.1 HFN.out hm
   have hhm:0<((W.next x.busy hm).cut x.cD).m.an.busy.length→((W.next x.busy hm).cut x.cD).m.an.home<wc.heap.size:=fun hl=>by
    obtain ⟨F,hc,_,_⟩:=hs2.an
    exact (hc.home hl).1
   have hnpa : ¬ iF p s H2 pa:=fun hm=>hm.elim (fun h=>st2.safe (aV HB.out.2.1) HNP2.out.2 h) (fun e=>by
    have:=HA.out.2.2.1
    have h0:=HA.out.2.1
    rw [e] at this
    unfold fG at this
    unfold jm at h0
    rw [this] at h0
    simp [cW.row] at h0)
   have HAC:=zH (EZ p pa ((W.next x.busy hm).cut x.cD) (iF p s H2) x ba bc ra rc wc HWC.out (st2.aD.at HB.out.2.1 HNP2.out.2) hnpa hgen.2.1 (vo hgen.1).1 (by rw [yo];exact HC.out.2.2.1) (by rw [yn];exact HC.out.2.2.2.1) hhm (HA.out.2.2.2.2.2.2.step (G':=iF p s H2) ⟨hst2.aD.mono fun i h=>.inl h,fun i hi=>hi.elim (fun h=>(hst2.gA i h).imp .inl id) (fun h=>.inl (.inr h))⟩) HC.out.2.2.2.2.2 HFN.out)
   have HC2:=zH (zA (show Step (iF p s H) (iF p s H2) wA wc from ⟨hst2.aD.mono fun i h=>.inl h,fun i hi=>hi.elim (fun h=>(hst2.gA i h).imp .inl id) (fun h=>.inl (.inr h))⟩) (zA (show fG wc pa x ba bc ra rc from st2.aD.at HB.out.2.1 HNP2.out.2) hnpa))
   have HDR:=zH (show jg W x hm=kP ((W.next x.busy hm).cut x.cD) x from rfl)
   have HRN:=zH (show ¬ iF p s H2 R∧wc.heap[R]? = some ZA∧R<wA.heap.size from ⟨fun h9=>(by
    have e1:=HPA.out.2
    rcases h9 with h9 | h9
    ·
     rcases hst2.gA R h9 with h8 | h8
     ·
      exact e1 (.inl h8)
     ·
      have:=HSZ.out;omega
    ·
     exact e1 (.inr h9)),hst2.aD.at HA.out.2.2.2.1 (fun h9=>HPA.out.2 (.inl h9)),by have:=HSZ.out;omega⟩)
   have HOK:=zH (AV (W:=(W.next x.busy hm).cut x.cD) (x:=x) hgen.2.1 (by rw [yo];exact HC.out.2.2.1) (by rw [yn];exact HC.out.2.2.2.1) HFN.out)
   clear hs2 st2 hst2 hgen hhm hnpa b5 HWC HGW
   generalize kP ((W.next x.busy hm).cut x.cD) x=r at HAC HDR HOK
   obtain ⟨W3,A,er⟩:=r
   simp only at HAC
   go_upto_region 9 with (go_at_call 32;refine HAC.out.mono ?_;rintro e w3 ⟨va,vc,vb,vd,rfl,o1,o2,G3,hw3,st3,n1,n2⟩)
   have rO:=ag w3 (.cells #[.string A.value,.slice va A.aQ.length vc,.slice vb A.reads.length vd,.bool A.lost] 34)
   have bE:=ae (Below.refl w3.heap.size w3) (.cells #[.string A.value,.slice va A.aQ.length vc,.slice vb A.reads.length vd,.bool A.lost] 34)
   have hwz:w.heap.size≤wc.heap.size:=Nat.le_trans HA.out.2.2.2.2.1.aD.size HC2.out.1.aD.size
   have HE:=zH (zA (hw3.aj bE) (zA (HA.out.2.2.2.2.1.trans (HC2.out.1.trans (st3.trans (Step.ah bE)))) (zA (gu (o1.alloc (.cells #[.string A.value,.slice va A.aQ.length vc,.slice vb A.reads.length vd,.bool A.lost] 34)) hwz) (gu (o2.alloc (.cells #[.string A.value,.slice va A.aQ.length vc,.slice vb A.reads.length vd,.bool A.lost] 34)) hwz))))
   have hRc:R<wc.heap.size:=zV HRN.out.2.2 HC2.out.1.aD.size
   have HEO:=zH (zA (show ∀ g,(Value.slice va A.aQ.length vc).ownBlock=some g → ¬ G3 g∧g≠R∧g≠w3.heap.size∧wc.heap.size≤g from fun g hg=>⟨n1 g hg,by have:=cH o1 g hg;omega,by have:=kF o1 g hg;omega,cH o1 g hg⟩) (show ∀ g,(Value.slice vb A.reads.length vd).ownBlock=some g → ¬ G3 g∧g≠R∧g≠w3.heap.size∧wc.heap.size≤g from fun g hg=>⟨n2 g hg,by have:=cH o2 g hg;omega,by have:=kF o2 g hg;omega,cH o2 g hg⟩))
   have rRE:(w3.alloc (.cells #[.string A.value,.slice va A.aQ.length vc,.slice vb A.reads.length vd,.bool A.lost] 34)).heap[R]? = some ZA:=aa bE (st3.aD.at HRN.out.2.1 HRN.out.1)
   have hact:fG (w3.alloc (.cells #[.string A.value,.slice va A.aQ.length vc,.slice vb A.reads.length vd,.bool A.lost] 34)) pa x ba bc ra rc:=aa bE (st3.aD.at HC2.out.2.1 HC2.out.2.2)
   have HEN:=zH (zA (st3.safe hRc HRN.out.1) (zA (st3.safe (aV HC2.out.2.1) HC2.out.2.2) (zA (show ¬ G3 w3.heap.size from fun h9=>Nat.lt_irrefl _ (hw3.lt _ h9)) (zA (show R≠w3.heap.size by have:=st3.aD.size;omega) (show pa≠w3.heap.size by have:=aV HC2.out.2.1;have:=st3.aD.size;omega)))))
   have HRG:=zH (show w.heap.size≤R by omega)
   have HOG:=zH (show w.heap.size≤w3.heap.size from Nat.le_trans hwz st3.aD.size)
   clear o1 o2 n1 n2 hw3 st3 bE hRc hwz HAC
   generalize w3.alloc (.cells #[.string A.value,.slice va A.aQ.length vc,.slice vb A.reads.length vd,.bool A.lost] 34)=wE at *
   generalize w3.heap.size=O at *
   have HRO:=zH (zA rO (zA rRE hact))
   have e5:wE.cell? ⟨pa,5,none⟩=some (.int .i64 x.cD):=cell_of hact 5
   have e0:wE.cell? ⟨pa,0,none⟩=some (.int .i64 x.kind):=cell_of hact 0
   obtain ⟨z0,z1,z2,z3,zf⟩:=cw rO
   obtain ⟨y0,y1,y2,y3,yf⟩:=cw (show wE.heap[R]? = some (.cells #[.string ⟨#[]⟩,.slice none 0 0,.slice none 0 0,.bool false] 34 (0,0)) from rRE)
   clear rO rRE hact
   by_cases hpl:x.cD=0∧x.kind≠7
   ·
    have HDP:=zH ((HD.out hm).trans (if_pos hpl))
    have k1:(x.cD == 0)=true:=beq_iff_eq.2 hpl.1
    have k2:(x.kind != 7)=true:=bne_iff_ne.2 hpl.2
    clear hpl
    go_wp2_with fail
    obtain ⟨q0,q1,q2,q3,qf⟩:=cw (eO HRO.out.2.1 (.string A.value) (.slice va A.aQ.length vc) (.slice vb A.reads.length vd) (.bool A.lost))
    refine bodyPost_ret (v:=.tuple #[.agg #[.string A.value,.slice va A.aQ.length vc,.slice vb A.reads.length vd,.bool A.lost],.int .i64 er]) ?_ rfl ?_
    ·
     change (results _ _).run _ (lL _ _ _ _ _ _)=_
     simp [results,results11,go_sem,q0,q1,q2,q3]
     rfl
    ·
     refine ⟨hm,?_⟩
     rw [HDP.out,HDR.out]
     exact Df HE.out.1 HE.out.2.1 A er va vc vb vd HE.out.2.2.1 HE.out.2.2.2 (fun g hg=>⟨(HEO.out.1 g hg).1,(HEO.out.1 g hg).2.1⟩) (fun g hg=>⟨(HEO.out.2 g hg).1,(HEO.out.2 g hg).2.1⟩) (jt HRO.out.2.1) HEN.out.1 HRG.out (cN wE R _ _ _ _)
   ·
    have HDP:=zH ((HD.out hm).trans (if_neg hpl))
    have hcz:p<wc.heap.size:=zV (aV HA.out.2.1) HC2.out.1.aD.size
    obtain ⟨wc1,hwc1⟩ : ∃ wc1,wc1=wc:=⟨_,rfl⟩
    subst hwc1
    go_cut [47] from 40 to 46 (fun v47 wx=>v47=.bool false∧wx=wE)
    case first =>
     by_cases k0:x.cD=0
     ·
      have k1:(x.cD == 0)=true:=beq_iff_eq.2 k0
      have k2:(x.kind != 7)=false:=by
       by_cases k9:x.kind=7
       ·
        simp [k9]
       ·
        exact absurd ⟨k0,k9⟩ hpl
      clear hpl k0
      go_wp2
      go_meet
      exact ⟨rfl,rfl⟩
     ·
      have k1:(x.cD == 0)=false:=zQ k0
      clear hpl k0
      go_wp2
      go_meet
      exact ⟨rfl,rfl⟩
    case rest =>
    obtain ⟨rfl,rfl⟩:=hcut
    clear hpl
    obtain ⟨s4,k4,c4,b4,H4,z4,r4,hs4,hn4,hh4,hG4⟩:=HE.out.1.ex
    have p1:wc.cell? ⟨p,1,none⟩=some (.pointer (some ⟨k4,0,none⟩)):=cell_of r4 1
    have HLS:=zH (IX s4 k4 c4 b4 W3.m W3.q W3.S H4 wc hs4)
    have HW4:=zH (zA r4 (zA hs4 (zA hn4 hG4)))
    clear r4 hs4 hn4 hh4 hG4
    obtain ⟨wE,hwE⟩ : ∃ wE,wE=wc:=⟨_,rfl⟩
    subst hwE
    go_upto_if 54 with (go_at_call 33;refine HLS.out.mono ?_;rintro e wx ⟨rfl,rfl⟩)
    go_cut [7,54] from 55 to 55 (fun v7 v54 wx=>v7=.int .i64 (if W3.m.lost=true then 0 else er) ∧ ∃ pv pc rv cc,wx.heap[O]? = some (.cells #[.string (if W3.m.lost=true then bq else A).value,.slice pv (if W3.m.lost=true then bq else A).aQ.length pc,.slice rv (if W3.m.lost=true then bq else A).reads.length cc,.bool (if W3.m.lost=true then bq else A).lost] 34 (0,0))∧Touch (aM O) wE wx∧wx.ownsRow w.heap.size 83 2 (.slice pv (if W3.m.lost=true then bq else A).aQ.length pc) (if W3.m.lost=true then bq else A).aQ.length (aI (if W3.m.lost=true then bq else A).aQ)∧wx.ownsRow w.heap.size 3 1 (.slice rv (if W3.m.lost=true then bq else A).reads.length cc) (if W3.m.lost=true then bq else A).reads.length (az (if W3.m.lost=true then bq else A).reads)∧(∀ g,(Value.slice pv (if W3.m.lost=true then bq else A).aQ.length pc).ownBlock=some g → ¬ G3 g∧g≠R∧g≠O∧wc1.heap.size≤g) ∧ ∀ g,(Value.slice rv (if W3.m.lost=true then bq else A).reads.length cc).ownBlock=some g → ¬ G3 g∧g≠R∧g≠O∧wc1.heap.size≤g)
    case first =>
     cases hlo:W3.m.lost with
     | true =>
      go_wp2
      go_meet
      rw [hlo,if_pos rfl,if_pos rfl]
      exact ⟨rfl,none,0,none,0,eO HRO.out.1 _ _ _ _,cN _ _ _ _ _ _,zN,zN,fun g hg=>by simp [Value.ownBlock] at hg,fun g hg=>by simp [Value.ownBlock] at hg⟩
     | false =>
      go_wp2
      go_meet
      rw [hlo,if_neg (by decide),if_neg (by decide)]
      exact ⟨rfl,va,vc,vb,vd,HRO.out.1,Touch.refl _ _,HE.out.2.2.1,HE.out.2.2.2,HEO.out.1,HEO.out.2⟩
    case rest =>
    obtain ⟨rfl,pv,pc,rv,cc,hO,tO,o1,o2,n1,n2⟩:=hcut
    obtain ⟨A2,hA2⟩ : ∃ A2,A2=(if W3.m.lost=true then bq else A):=⟨_,rfl⟩
    obtain ⟨e2,he2⟩ : ∃ e2,e2=(if W3.m.lost=true then 0 else er):=⟨_,rfl⟩
    rw [← hA2] at hO o1 o2 n1 n2
    rw [← he2]
    have HAE:=zH (show I8 W x hm=(W3.cD x.mask,A2.FK,e2) from by rw [HDP.out,HDR.out,Ik,Im,hA2,he2])
    clear hA2 he2
    have hpO:p≠O:=fun e=>HEN.out.2.2.1 (e ▸ (HW4.out.2.2.2 p).2 (.inr rfl))
    have HG:=zH (zA (show jm wc p c4 _ _ _ z4 from tO.at HW4.out.1 (fun h=>hpO h)) (zA (show Sys X wc s4 k4 c4 b4 W3.m W3.q W3.S H4 from HW4.out.2.1.plain tO (fun hm=>HEN.out.2.2.1 ((HW4.out.2.2.2 O).2 (.inl hm))) (jt HRO.out.1)) (zA (show fG wc pa x ba bc ra rc from tO.at HRO.out.2.2 (fun h=>HEN.out.2.2.2.2 h)) (show wc.heap[R]? = some ZA from tO.at HRO.out.2.1 (fun h=>HEN.out.2.2.2.1 h)))))
    have HOO:=zH (zA hO (zA tO (zA o1 (zA o2 (zA n1 n2)))))
    have HS4:=zH (fun w' (F:Nat→Prop) (t:Touch F wc w') n1 n2=>rZ.of HG.out.1 HG.out.2.2.1 t n1 n2)
    have HNP4:=zH (show ¬ bP s4 H4 p ∧ ¬ bP s4 H4 pa from ⟨HW4.out.2.2.1,fun h=>HEN.out.2.1 ((HW4.out.2.2.2 pa).2 (.inl h))⟩)
    have HLO:=zH (fun w' (hb:Below wc.heap.size wc w')=>IW s4 k4 c4 b4 W3.m W3.q W3.S H4 x.mask w' (HG.out.2.1.aj hb) HOK.out.1 (Nat.le_trans HFN.out.mask (by decide)))
    obtain ⟨wG,hwG⟩ : ∃ wG,wG=wc:=⟨_,rfl⟩
    subst hwG
    clear hO tO o1 o2 n1 n2 HLS e5 e0 z0 z1 z2 z3 zf y0 y1 y2 y3 yf p1
    go_upto_region 13 with fail
    refine wp_region_noPanic ?_
    refine wp_region_held_drew (S:=(rZ k4 c4 p pa x ba bc)) (by kernel_rfl) (by (try dsimp only);exact HS4.out _ (fun _=>False) (Touch.ah (aw zR)) id id) fun hHeld => ?_
    refine tk 0 ?_ (hy:=by intro w h;unfold rZ at h;go_simp;try with_reducible rfl)
    refine tk 1 ?_ (hy:=by intro w h;unfold rZ at h;go_simp;try with_reducible rfl)
    refine tk 2 ?_ (hy:=by intro w h;unfold rZ at h;go_simp;try with_reducible rfl)
    refine tk 3 ?_ (hy:=by intro w h;unfold rZ at h;go_simp;try with_reducible rfl)
    refine tk 4 ?_ (hy:=by intro w h;unfold rZ at h;go_simp;try with_reducible rfl)
    refine tk 5 ?_ (hy:=by intro w h;unfold rZ at h;go_simp;try with_reducible rfl)
    refine tr 6 fun K hK => ?_
    go_simp
    go_at_call 34
    refine (HLO.out _ (aw zR)).mono ?_
    rintro e wF ⟨rfl,H5,hs5,st5⟩
    have hr4:=zH (zA hs5 ((Step.ah (F:=bP s4 H4) (aw (Below.refl wG.heap.size wG))).trans st5.kC))
    clear hs5 st5
    go_wp2_with fail
    refine hK.out _ _ (by (try dsimp only);exact HS4.out _ _ hr4.out.2.aD HNP4.out.1 HNP4.out.2) fun hHeld => ?_
    clear hK K
    try simp only [Act.put,zS,zT,zU]
    refine wpAnyH_done (by kernel_rfl) ?_ _
    refine NoPanic.normal ?_
    have hp5 : ¬ H5 p:=fun h=>by
     have h8:=aV HG.out.1
     rcases hr4.out.2.gA p (.inl h) with h | h
     ·
      exact HNP4.out.1 h
     ·
      omega
    have HBG:=zH (D2 p s4 k4 c4 b4 _ W3.q W3.S H5 z4 wF hr4.out.1 (hr4.out.2.aD.at HG.out.1 HNP4.out.1) hp5 rfl)
    go_upto_region 15 with (go_at_call 35;refine HBG.out.mono ?_;rintro e wH ⟨rfl,s5,k5,b5,H6,z5,hrow,hs5,np5,tp5,ft5⟩)
    have hpO:p≠O:=fun e=>HEN.out.2.2.1 (e ▸ (HW4.out.2.2.2 p).2 (.inr rfl))
    have kO:wH.heap[O]? = some (.cells #[.string A2.value,.slice pv A2.aQ.length pc,.slice rv A2.reads.length cc,.bool A2.lost] 34 (0,0)):=tp5.at (hr4.out.2.aD.at HOO.out.1 (fun h=>HEN.out.2.2.1 ((HW4.out.2.2.2 O).2 (.inl h)))) (fun h=>hpO (show O=p from h).symm)
    have kR:wH.heap[R]? = some ZA:=tp5.at (hr4.out.2.aD.at HG.out.2.2.2 (fun h=>HEN.out.1 ((HW4.out.2.2.2 R).2 (.inl h)))) (fun h=>HEN.out.1 (by rw [show R=p from h];exact (HW4.out.2.2.2 p).2 (.inr rfl)))
    have kO2:=av (i:=3) (v:=Value.bool true) kO
    have kR2:(wH.setCell ⟨O,3,none⟩ (.bool true)).heap[R]? = some ZA:=((Touch.refl (aM O) wH).set O 3 (.bool true) rfl).at kR (fun h=>HEN.out.2.2.2.1 h)
    obtain ⟨z0,z1,z2,z3,zf⟩:=cw kO
    obtain ⟨x0,x1,x2,x3,xf⟩:=cw (show (wH.setCell ⟨O,3,none⟩ (.bool true)).heap[O]? = some (.cells #[.string A2.value,.slice pv A2.aQ.length pc,.slice rv A2.reads.length cc,.bool true] 34 (0,0)) from kO2)
    obtain ⟨y0,y1,y2,y3,yf⟩:=cw (show (wH.setCell ⟨O,3,none⟩ (.bool true)).heap[R]? = some (.cells #[.string ⟨#[]⟩,.slice none 0 0,.slice none 0 0,.bool false] 34 (0,0)) from kR2)
    obtain ⟨q0,q1,q2,q3,qf⟩:=cw (eO kR2 (.string A2.value) (.slice pv A2.aQ.length pc) (.slice rv A2.reads.length cc) (.bool true))
    have HFIN:=zH (fun x1 x2 x3 x4=>Ij (mask:=x.mask) HE.out.2.1 HOG.out HRG.out HW4.out.2.2.2 HEN.out.1 HEN.out.2.2.1 HEN.out.2.2.2.1 HOO.out.2.1 HOO.out.1 HG.out.2.2.2 HOO.out.2.2.1 HOO.out.2.2.2.1 HOO.out.2.2.2.2.1 HOO.out.2.2.2.2.2 (aV HG.out.1) hr4.out.2 hrow hs5 np5 tp5 ft5 e2 x1 x2 x3 x4)
    go_wp2
    refine bodyPost_ret (v:=.tuple #[.agg #[.string A2.value,.slice pv A2.aQ.length pc,.slice rv A2.reads.length cc,.bool true],.int .i64 e2]) ?_ rfl ?_
    ·
     change (results _ _).run _ (lL _ _ _ _ _ _)=_
     simp [results,results11,go_sem,q0,q1,q2,q3]
     rfl
    ·
     refine ⟨hm,?_⟩
     rw [HAE.out]
     exact HFIN.out _ _ _ _
end
def tS (c:Int×fu) (x img:ByteArray) (S:au) (reads:List Int):ByteArray×au×List Int×Int :=
 if c.1=2202 then (x,S,[],2303) else if c.1≠0 then (x,S,[],2304) else if cP reads=true then (gN x c.2,⟨true,c.2.aq,ix S c.2⟩,reads.map (gK img),0) else (x,S,[],1800)
def iy (x img:ByteArray) (S:au) (r:aS) (reads:List Int):ByteArray×au×List Int×Int:=tS (cm S.view S.aq r) x img S reads
def mg (x:ByteArray) (S:au) (r:aS) (y:ByteArray):Prop:=y=x∨((cm S.view S.aq r).1=0∧u6 x (cm S.view S.aq r).2 y)
theorem s7 {m:aB} {x img:ByteArray} {q:Cache} (h:Calm m x) (hx:Has x img) (g:q.Good) (hq:q.cV img) {S:au} (vk:S.view.Ok) (s0:4≤S.aq) (s1:S.aq<8) {r:aS} (hr:gI r) (reads:List Int):iS m (dO m q S r reads).2.2.2.2 (dO m q S r reads).1 (Calm (dO m q S r reads).1 (iy x img S r reads).1∧(dO m q S r reads).2.1.Good∧(dO m q S r reads).2.1.cV img∧(dO m q S r reads).2.2=(iy x img S r reads).2) (mg x S r):=by
 have hp:(cm S.view S.aq r).1=0→(cm S.view S.aq r).2.Ok:=oM vk s0 s1 hr
 unfold dO iy mg
 generalize cm S.view S.aq r=c at hp
 unfold uK tS
 by_cases h1:c.1=2202
 ·
  rw [if_pos h1,if_pos h1]
  exact .inl ⟨⟨h,g,hq,rfl⟩,fN.refl _⟩
 ·
  rw [if_neg h1,if_neg h1]
  by_cases h2:c.1≠0
  ·
   rw [if_pos h2,if_pos h2]
   exact .inl ⟨⟨h,g,hq,rfl⟩,fN.refl _⟩
  ·
   rw [if_neg h2,if_neg h2]
   by_cases h3:cP reads=true
   ·
    rw [if_pos h3,if_pos h3]
    have hw:=A7 h hx g hq (hp (by omega)) h3
    generalize dQ m q c.2 reads=t at hw
    unfold qA
    rcases hw with ⟨k0,⟨k1,k2,k3,k4⟩,k5⟩ | ⟨k0,k1,k2⟩
    ·
     rw [if_neg (by rw [k0];decide)]
     exact .inl ⟨⟨k1,k2,k3,by rw [k4]⟩,k5⟩
    ·
     rw [if_pos (by rw [k0];decide)]
     exact .inr ⟨k0,k1.mono fun y hy=>.inr ⟨by omega,hy⟩,k2⟩
   ·
    rw [if_neg h3,if_neg h3]
    exact .inl ⟨⟨h,g,hq,rfl⟩,fN.refl _⟩
def pe (x img:ByteArray) (S:au) (key value:ByteArray) (reads:List Int):ByteArray×au×List Int×Int :=
 if cJ S key≠0 then (x,S,[],cJ S key) else if 20<value.size then (x,S,[],2301) else iy x img S ⟨1,0,key,value⟩ reads
def pR (x img:ByteArray) (S:au) (key:ByteArray) (reads:List Int):ByteArray×au×List Int×Int :=
 if cJ S key≠0 then (x,S,[],cJ S key) else iy x img S ⟨2,0,key,⟨#[]⟩⟩ reads
def Eh (x:ByteArray) (S:au) (key value y:ByteArray):Prop:=y=x∨(cJ S key=0∧value.size≤20∧mg x S ⟨1,0,key,value⟩ y)
def Eg (x:ByteArray) (S:au) (key y:ByteArray):Prop:=y=x∨(cJ S key=0∧mg x S ⟨2,0,key,⟨#[]⟩⟩ y)
theorem Hc {m:aB} {x img:ByteArray} {q:Cache} (h:Calm m x) (hx:Has x img) (g:q.Good) (hq:q.cV img) {S:au} (fit:S.Fit) (key value:ByteArray) (reads:List Int):iS m (iR m q S key value reads).2.2.2.2 (iR m q S key value reads).1 (Calm (iR m q S key value reads).1 (pe x img S key value reads).1∧(iR m q S key value reads).2.1.Good∧(iR m q S key value reads).2.1.cV img∧(iR m q S key value reads).2.2=(pe x img S key value reads).2) (Eh x S key value):=by
 unfold iR pe
 by_cases h1:cJ S key≠0
 ·
  rw [if_pos h1,if_pos h1]
  exact .inl ⟨⟨h,g,hq,rfl⟩,fN.refl _⟩
 ·
  rw [if_neg h1,if_neg h1]
  obtain ⟨o1,o2,o3⟩:=gP (by omega:cJ S key=0)
  obtain ⟨f1,f2,f3⟩:=jF fit o1
  by_cases h2:20<value.size
  ·
   rw [if_pos h2,if_pos h2]
   exact .inl ⟨⟨h,g,hq,rfl⟩,fN.refl _⟩
  ·
   rw [if_neg h2,if_neg h2]
   exact (s7 h hx g hq f3 f1 f2 (qa o2 o3 (by omega)) reads).mono id fun y hy=>.inr ⟨by omega,by omega,hy⟩
theorem Hb {m:aB} {x img:ByteArray} {q:Cache} (h:Calm m x) (hx:Has x img) (g:q.Good) (hq:q.cV img) {S:au} (fit:S.Fit) (key:ByteArray) (reads:List Int):iS m (iP m q S key reads).2.2.2.2 (iP m q S key reads).1 (Calm (iP m q S key reads).1 (pR x img S key reads).1∧(iP m q S key reads).2.1.Good∧(iP m q S key reads).2.1.cV img∧(iP m q S key reads).2.2=(pR x img S key reads).2) (Eg x S key):=by
 unfold iP pR
 by_cases h1:cJ S key≠0
 ·
  rw [if_pos h1,if_pos h1]
  exact .inl ⟨⟨h,g,hq,rfl⟩,fN.refl _⟩
 ·
  rw [if_neg h1,if_neg h1]
  obtain ⟨o1,o2,o3⟩:=gP (by omega:cJ S key=0)
  obtain ⟨f1,f2,f3⟩:=jF fit o1
  exact (s7 h hx g hq f3 f1 f2 (vA o2 o3) reads).mono id fun y hy=>.inr ⟨by omega,hy⟩
def gH (r:ByteArray×au×List Int×Int):ByteArray×au×jA×Int:=(r.1,r.2.1,⟨⟨#[]⟩,[],outs r.2.2.2 r.2.2.1,false⟩,r.2.2.2)
def A5 (img:ByteArray) (at_ width:Int):List Int×Int:=if fA at_ width=true then ([nF img at_ width.toNat 0 0],0) else ([],1300)
def lz (x img:ByteArray) (S:au) (a:cW):ByteArray×au×jA×Int :=
 if a.kind=0 then gH (dh x img a.reads)
 else if a.kind=1 then (x,(lF x).1,⟨⟨#[]⟩,[],[],false⟩,(lF x).2)
 else if a.kind=2 then gH (pe x img S a.key a.value a.reads)
 else if a.kind=3 then (x,S,⟨(vJ S a.key).1,[],[],false⟩,(vJ S a.key).2)
 else if a.kind=4 then gH (pR x img S a.key a.reads)
 else if a.kind=5 then (x,S,⟨⟨#[]⟩,(kA S).1,[],false⟩,(kA S).2)
 else if a.kind=6 then (x,S,⟨⟨#[]⟩,[],(A5 img a.at_ a.width).1,false⟩,(A5 img a.at_ a.width).2)
 else (x,S,⟨⟨#[]⟩,[],[],false⟩,0)
theorem Gg (r:aB×Cache×au×List Int×Int) (t:ByteArray×au×List Int×Int) (h:r.2.2=t.2):r.2.2.1=(gH t).2.1∧((⟨⟨#[]⟩,[],outs r.2.2.2.2 r.2.2.2.1,false⟩,r.2.2.2.2):jA×Int)=(gH t).2.2:=by
 obtain ⟨r1,r2,r3⟩:=r
 obtain ⟨t1,t2⟩:=t
 simp only at h
 subst h
 exact ⟨rfl,rfl⟩
def Ef (x:ByteArray) (S:au) (a:cW) (y:ByteArray):Prop:=y=x∨(a.kind=0∧FormatPart x y)∨(a.kind=2∧Eh x S a.key a.value y)∨(a.kind=4∧Eg x S a.key y)
theorem xg {W:gz} {img:ByteArray} {r:aB×Cache×au×List Int×Int} {t:ByteArray×au×List Int×Int} {P:ByteArray→Prop} (h:iS W.m r.2.2.2.2 r.1 (Calm r.1 t.1∧r.2.1.Good∧r.2.1.cV img∧r.2.2=t.2) P) {o:gz×jA×Int} (e:o=(⟨r.1,r.2.1,r.2.2.1⟩,⟨⟨#[]⟩,[],outs r.2.2.2.2 r.2.2.2.1,false⟩,r.2.2.2.2)) {z:ByteArray×au×jA×Int} (ez:z=gH t):iS W.m o.2.2 o.1.m (Calm o.1.m z.1∧o.1.q.Good∧o.1.q.cV img∧o.1.S=z.2.1∧o.2=z.2.2) P:=by
 subst e ez
 exact h.mono (fun ⟨h1,h2,h3,h4⟩=>⟨h1,h2,h3,Gg r t h4⟩) fun y hy=>hy
theorem Ha {W:gz} {x img:ByteArray} (h:Calm W.m x) (hx:Has x img) (g:W.q.Good) (hq:W.q.cV img) (fit:W.S.Fit) (a:cW):iS W.m (kP W a).2.2 (kP W a).1.m (Calm (kP W a).1.m (lz x img W.S a).1∧(kP W a).1.q.Good∧(kP W a).1.q.cV img∧(kP W a).1.S=(lz x img W.S a).2.1∧(kP W a).2=(lz x img W.S a).2.2) (Ef x W.S a):=by
 by_cases k0:a.kind=0
 ·
  exact (xg (A6 h hx g hq a.reads) (by unfold kP;rw [if_pos k0]) (by unfold lz;rw [if_pos k0])).mono id fun y hy=>.inr (.inl ⟨k0,hy⟩)
 by_cases k2:a.kind=2
 ·
  exact (xg (Hc h hx g hq fit a.key a.value a.reads) (by unfold kP;rw [if_neg k0,if_neg (by omega),if_pos k2]) (by unfold lz;rw [if_neg k0,if_neg (by omega),if_pos k2])).mono id fun y hy=>.inr (.inr (.inl ⟨k2,hy⟩))
 by_cases k4:a.kind=4
 ·
  exact (xg (Hb h hx g hq fit a.key a.reads) (by unfold kP;rw [if_neg k0,if_neg (by omega),if_neg k2,if_neg (by omega),if_pos k4]) (by unfold lz;rw [if_neg k0,if_neg (by omega),if_neg k2,if_neg (by omega),if_pos k4])).mono id fun y hy=>.inr (.inr (.inr ⟨k4,hy⟩))
 unfold kP lz
 rw [if_neg k0,if_neg k0]
 by_cases k1:a.kind=1
 ·
  rw [if_pos k1,if_pos k1]
  have hm:=C5 h
  generalize fX W.m=r at hm
  generalize lF x=t at hm
  refine hm.mono ?_ fun y hy=>.inl hy
  rintro ⟨h1,h2⟩
  obtain ⟨r1,r2⟩:=r
  simp only at h2
  subst h2
  exact ⟨h1,g,hq,rfl,rfl⟩
 rw [if_neg k1,if_neg k1,if_neg k2,if_neg k2]
 by_cases k3:a.kind=3
 ·
  rw [if_pos k3,if_pos k3]
  exact .inl ⟨⟨h,g,hq,rfl,rfl⟩,fN.refl _⟩
 rw [if_neg k3,if_neg k3,if_neg k4,if_neg k4]
 by_cases k5:a.kind=5
 ·
  rw [if_pos k5,if_pos k5]
  exact .inl ⟨⟨h,g,hq,rfl,rfl⟩,fN.refl _⟩
 rw [if_neg k5,if_neg k5]
 by_cases k6:a.kind=6
 ·
  rw [if_pos k6,if_pos k6]
  by_cases hr:fA a.at_ a.width=true
  ·
   rw [show A5 img a.at_ a.width=([nF img a.at_ a.width.toNat 0 0],0) from if_pos hr]
   have hm:=Fe h hx g hq hr
   generalize bF W.m W.q a.at_ a.width=r at hm
   generalize nF img a.at_ a.width.toNat 0 0=t at hm
   refine iS.mono (eM.act hm) ?_ fun y hy=>.inl hy
   rintro ⟨h0,h1,h2,h3,h4⟩
   obtain ⟨r1,r2,r3,r4⟩:=r
   simp only at h0 h4
   subst h0 h4
   exact ⟨h1,h2,h3,rfl,rfl⟩
  ·
   rw [show A5 img a.at_ a.width=([],1300) from if_neg hr,show bF W.m W.q a.at_ a.width=(W.m,W.q,0,1300) from if_neg hr]
   exact .inl ⟨⟨h,g,hq,rfl,rfl⟩,fN.refl _⟩
 rw [if_neg k6,if_neg k6]
 exact .inl ⟨⟨h,g,hq,rfl,rfl⟩,fN.refl _⟩
theorem I3 {x img:ByteArray} (h:Has x img) {p:Int} (hp:2048≤p) {n:Nat} (f:Nat→UInt8→UInt8):Has (kL x p.toNat n f) img:=Bx h (oX x p.toNat n f) (by omega)
theorem yN {x img:ByteArray} (h:Has x img) {p:Int} (hp:2048≤p) (mask s:ByteArray):Has (jj x p mask s) img:=I3 h hp _
theorem yd {x img s:ByteArray} (h:Has x img) {p:Int} (hp:2048≤p):Has (ir x p s) img:=yN (yN h hp _ _) (by omega) _ _
theorem vj {img:ByteArray} {sec:Int} (s0:4≤sec) (s1:sec<8) : ∀ (l:List (Int×aS)) (x:ByteArray),Has x img→(∀ a ∈ l,0≤a.1∧a.1<8)→Has (gF sec l x) img
 | [],_,h,_=>h
 | a::l,x,h,hl=>vj s0 s1 l _ (yd h (rG s0 s1 (hl a (by simp)).1 (hl a (by simp)).2).1) fun c hc=>hl c (by simp [hc])
theorem Dp {x img:ByteArray} (h:Has x img) (reads:List Int):Has (dh x img reads).1 img:=by
 have hs:=yI x
 unfold dh
 split
 ·
  exact h
 ·
  split
  ·
   exact yd (zk h _ hs.1) (rG hs.1 hs.2 (by decide) (by decide)).1
  ·
   exact h
theorem GS {x img:ByteArray} (h:Has x img) {p:fu} (pk:p.Ok):Has (iv x p) img:=by
 unfold iv
 have:=pk.dy
 split
 ·
  exact zk h _ (by omega)
 ·
  exact h
theorem Ed {x img:ByteArray} (h:Has x img) {p:fu} (pk:p.Ok):Has (gN x p) img:=vj pk.aq.1 pk.aq.2 _ _ (GS h pk) fun a ha=>⟨(qm pk a ha).1,(qm pk a ha).2.1⟩
theorem vq {x img:ByteArray} (h:Has x img) {S:au} (vk:S.view.Ok) (s0:4≤S.aq) (s1:S.aq<8) {r:aS} (hr:gI r) (reads:List Int):Has (iy x img S r reads).1 img:=by
 have hp:(cm S.view S.aq r).1=0→(cm S.view S.aq r).2.Ok:=oM vk s0 s1 hr
 unfold iy tS
 split
 ·
  exact h
 ·
  split
  ·
   exact h
  ·
   split
   ·
    exact Ed h (hp (by omega))
   ·
    exact h
theorem Ke {x img:ByteArray} (h:Has x img) {S:au} (fit:S.Fit) (key value:ByteArray) (reads:List Int):Has (pe x img S key value reads).1 img:=by
 unfold pe
 by_cases h1:cJ S key≠0
 ·
  rw [if_pos h1];exact h
 ·
  rw [if_neg h1]
  obtain ⟨o1,o2,o3⟩:=gP (by omega:cJ S key=0)
  obtain ⟨f1,f2,f3⟩:=jF fit o1
  by_cases h2:20<value.size
  ·
   rw [if_pos h2];exact h
  ·
   rw [if_neg h2];exact vq h f3 f1 f2 (qa o2 o3 (by omega)) reads
theorem Jw {x img:ByteArray} (h:Has x img) {S:au} (fit:S.Fit) (key:ByteArray) (reads:List Int):Has (pR x img S key reads).1 img:=by
 unfold pR
 by_cases h1:cJ S key≠0
 ·
  rw [if_pos h1];exact h
 ·
  rw [if_neg h1]
  obtain ⟨o1,o2,o3⟩:=gP (by omega:cJ S key=0)
  obtain ⟨f1,f2,f3⟩:=jF fit o1
  exact vq h f3 f1 f2 (vA o2 o3) reads
theorem qi (t:ByteArray×au×List Int×Int):(gH t).1=t.1:=rfl
theorem Jj {x img:ByteArray} (h:Has x img) {S:au} (fit:S.Fit) (a:cW):Has (lz x img S a).1 img:=by
 unfold lz
 repeat' split
 ·
  rw [qi];exact Dp h _
 ·
  exact h
 ·
  rw [qi];exact Ke h fit _ _ _
 ·
  exact h
 ·
  rw [qi];exact Jw h fit _ _
 ·
  exact h
 ·
  exact h
 ·
  exact h
structure zo (W:gz) (x img:ByteArray):Prop where
 calm:Calm W.m x
 ok:W.m.Ok
 left:W.m.left<0
 has:Has x img
 bX:W.q.Good
 L1:W.q.cV img
theorem zW {W:gz} {x img:ByteArray} (h1:Calm W.m x) (h2:W.m.left<0) (h3:W.m.Ok) (h4:W.q=Cache.new) (h5:Has x img):zo W x img:=⟨h1,h3,h2,h5,h4 ▸ Cache.lZ,h4 ▸ yJ img⟩
def sk (x img:ByteArray) (S:au) (a:cW):ByteArray×au×jA×Int:=if qQ a=false then (x,S,bq,2500) else lz x img S a
theorem J2 {W:gz} {x img:ByteArray} (h:zo W x img) (fit:W.S.Fit) {a:cW} (f:a.Gz) (hm:Nat):iS ((W.next a.busy hm).cut a.cD).m (jg W a hm).2.2 (jg W a hm).1.m (Calm (jg W a hm).1.m (lz x img W.S a).1∧(jg W a hm).1.q.Good∧(jg W a hm).1.q.cV img∧(jg W a hm).1.S=(lz x img W.S a).2.1∧(jg W a hm).2=(lz x img W.S a).2.2) (Ef x W.S a)∧(jg W a hm).1.m.Ok∧(jg W a hm).1.q.Good:=by
 obtain ⟨h1,h2,h3⟩:=AB h.calm h.ok f hm
 have k:=Ha (W:=(W.next a.busy hm).cut a.cD) h1 h.has (by rw [yo];exact h.bX) (by rw [yo];exact h.L1) (by rw [yn];exact fit) a
 have o:=AV (W:=(W.next a.busy hm).cut a.cD) (x:=a) h2 (by rw [yo];exact h.bX) (by rw [yn];exact fit) f
 rw [yn] at k
 exact ⟨k,o.1,o.2.1⟩
theorem KW {W:gz} {x img:ByteArray} (h:zo W x img) (fit:W.S.Fit) {a:cW} (hl:a.cD=0) (hk:a.kind≠7) (hm:Nat):zo (I8 W a hm).1 (sk x img W.S a).1 img∧(I8 W a hm).1.S=(sk x img W.S a).2.1∧(I8 W a hm).2=(sk x img W.S a).2.2:=by
 unfold I8 sk
 cases hmb:qQ a with
 | false=>exact ⟨h,rfl,rfl⟩
 | true =>
  rw [if_neg (show ¬ (true=false) by decide),if_neg (show ¬ (true=false) by decide),if_pos ⟨hl,hk⟩]
  have f:=BR hmb
  obtain ⟨k,o1,o2⟩:=J2 h fit f hm
  have hlf:((W.next a.busy hm).cut a.cD).m.left<0:=by rw [(AB h.calm h.ok f hm).2.2 hl];exact h.left
  rcases k with ⟨⟨k1,k2,k3,k4,k5⟩,kb⟩ | ⟨_,_,kb⟩
  ·
   exact ⟨⟨k1,o1,kb hlf,Jj h.has fit a,k2,k3⟩,k4,k5⟩
  ·
   omega
theorem Lay.KI {x:ByteArray} {sec:Nat} {V:bg} (h:Lay x sec V):V.Ok:=by
 have:=h.bX
 rw [← h.view,← CD] at this ⊢
 exact Ar _ this
theorem ED {x y:ByteArray} {sec f:Nat} {V:bg} (h:Lay x sec V) (h1:1≤f) (hf:f<8) (hv:V.free=(f:Int)) (hs:fQ x y (sec * 512+f * 64) 64) {r:aS} (hr:bz r=true) (hk:r.kind≠0) (e:dd y sec f=aG r):Lay y sec ⟨true,V.ak,V.ay++[r],V.free+1⟩:=by
 obtain ⟨b0,b1,b2,b3,b4⟩:=p9 (x:=x) (y:=y) (sec:=sec) h1 hf (by rw [h.view];exact hv) hs
 rw [h.view] at b1 b2 b3
 have hd : ∀ j,4≤j→j<8→j≠sec→rY (dd y j 0) V.ak:=fun j h4 h8 hne=>by
  rw [hs.slot (j:=j) (i:=0) hf (by omega) (by omega)]
  exact h.dead j h4 h8 hne
 have hfy:dK (iD y sec) f=dd y sec f:=iN _ _ _ hf
 have hsz:y.size=4096:=by rw [hs.1,h.size]
 have hg:=h.bX
 refine ⟨hsz,h.s0,h.s1,?_,rfl,hd⟩
 refine CE (by rw [b1,hg]) b2 ?_ ?_
 ·
  rw [b3]
  unfold dZ
  rw [hfy,e,js hr]
  simp [hk]
 ·
  rw [b4,if_neg (by rw [e];exact oH hr)]
  show _=V.free+1
  rw [hv]
  omega
theorem fQ.wide {x y:ByteArray} {j k:Nat} (h:fQ x y (j * 512+k * 64) 64) (hk:k<8):fQ x y (j * 512) 512:=h.mono (by omega) (by omega)
theorem EJ {k v:ByteArray} : ∀ {ps:List aU},(∀ p ∈ ps,dI p.key k=true)→kQ k v ps=ps++[⟨k,v⟩]
 | [],_=>rfl
 | p::ps,h=>by
  unfold kQ
  rw [if_pos (h p (by simp)),EJ fun q hq=>h q (by simp [hq])]
  rfl
theorem Bo : ∀ (ps qs:List aU),fR (qs++ps)→(ps.map eI).foldl ew qs=qs++ps
 | [],qs,_=>by simp
 | p::ps,qs,h=>by
  have hq:fR qs:=(List.pairwise_append.1 h).1
  have hl : ∀ q ∈ qs,dI q.key p.key=true:=fun q hq=>(List.pairwise_append.1 h).2.2 q hq p (by simp)
  have h2:fR ((qs++[p])++ps):=by rw [List.append_assoc];exact h
  show (ps.map eI).foldl ew (ew qs (eI p))=_
  rw [show ew qs (eI p)=kQ p.key p.value qs from oZ p.key p.value 0 qs hq,EJ hl]
  have:=Bo ps (qs++[p]) h2
  rw [show (⟨p.key,p.value⟩:aU)=p from rfl,this,List.append_assoc]
  rfl
theorem E8 {ps:List aU} (h:fR ps):cg (ps.map eI)=ps:=Bo ps [] h
theorem CN : ∀ (rs:List aS) (k:Nat),((List.range rs.length).map fun i:Nat=>((i+k:Nat):Int)).zip rs=xC k rs
 | [],_=>rfl
 | r::rs,k=>by
  rw [List.length_cons,List.range_succ_eq_map,List.map_cons,List.map_map,List.zip_cons_cons]
  have:=CN rs (k+1)
  unfold xC
  rw [← this]
  congr 1
  ·
   simp
  ·
   congr 1
   apply List.map_congr_left
   intro i _
   show ((i.succ+k:Nat):Int)=((i+(k+1):Nat):Int)
   congr 1
   omega
theorem FM (aq ak:Int) (ps:List aU):(jq aq ak ps).bH.zip (jq aq ak ps).ay=xC 1 (ps.map eI)++[(0,cz ak)]:=by
 show ((List.range ps.length).map (fun i:Nat=>(i:Int)+1)++[0]).zip (ps.map eI++[cz ak])=_
 rw [List.zip_append (by simp)]
 have:=CN (ps.map eI) 1
 rw [List.length_map] at this
 rw [← this]
 rfl
theorem next_ne {sec:Nat} (h4:4≤sec) (h8:sec<8) : ∃ j:Nat,fw (sec:Int)=(j:Int)∧4≤j∧j<8∧j≠sec:=by
 unfold fw
 by_cases h:(sec:Int)+1 ≥ 8
 ·
  rw [if_pos h];exact ⟨4,rfl,by omega,by omega,by omega⟩
 ·
  rw [if_neg h];exact ⟨sec+1,by omega,by omega,by omega,by omega⟩
theorem zl (x:ByteArray) (j:Nat):ln x (j:Int)=erased x (j * 512:Nat) ⟨#[255]⟩:=by
 unfold ln
 rw [show ((j:Int) * 512)=((j * 512:Nat):Int) by omega]
theorem vt {x:ByteArray} {sec:Nat} {V:bg} (h:Lay x sec V) {r:aS} (hr:gI r) (h0:(cm V sec r).1=0) : ∃ (sec':Nat) (V':bg),Lay (gN x (cm V sec r).2) sec' V'∧(⟨true,(cm V sec r).2.aq,ix ⟨true,sec,V⟩ (cm V sec r).2⟩:au)=⟨true,sec',V'⟩∧cg V'.ay=ew (cg V.ay) r∧V'.ak≤V.ak+1:=by
 have vk:=h.KI
 obtain ⟨bs,bl⟩:=dq _ V.ay rfl vk.ay
 revert h0
 unfold cm
 split
 ·
  intro h0;exact absurd h0 (show ¬ (2202:Int)=0 by decide)
 split
 ·
  intro h0;exact absurd h0 (show ¬ (2201:Int)=0 by decide)
 rename_i hn1 hn2
 split
 ·
  rename_i hf
  intro _
  obtain ⟨f,hfe⟩ : ∃ f:Nat,V.free=(f:Int):=⟨V.free.toNat,by have:=vk.free;omega⟩
  have hf1:1≤f:=by have:=vk.free;omega
  have hf8:f<8:=by omega
  have hsame:=km x sec f (aG r)
  obtain ⟨b0,_⟩:=p9 (x:=x) (y:=ir x (bU sec f) (aG r)) (sec:=sec) hf1 hf8 (by rw [h.view];exact hfe) hsame
  have hslot:=mB h.size h.s1 hf8 (fB _ hr.1) b0
  have hlay:=ED h hf1 hf8 hfe hsame hr.1 hr.2 hslot
  refine ⟨sec,⟨true,V.ak,V.ay++[r],V.free+1⟩,?_,?_,nD _ _,by show V.ak≤V.ak+1;omega⟩
  ·
   show Lay (gF (sec:Int) [(V.free,r)] x) sec _
   rw [hfe]
   rw [hfe] at hlay
   exact hlay
  ·
   unfold ix
   have:([r]:List aS).filter dA=[r]:=by
    unfold dA
    simp [hr.2]
   show (⟨true,(sec:Int),⟨true,V.ak,(if (-1:Int)<0 then V.ay else [])++[r].filter dA,V.free+1⟩⟩:au)=_
   rw [this,if_pos (by decide)]
 split
 ·
  intro h0;exact absurd h0 (show ¬ (2201:Int)=0 by decide)
 ·
  rename_i hf he
  intro _
  obtain ⟨j,hj,j4,j8,jne⟩:=next_ne h.s0 h.s1
  have hso:=ng bs hr
  generalize hps:ew (cg V.ay) r=ps at *
  have hpk : ∀ p ∈ ps,mr p:=by rw [← hps];exact oG (qz vk.ay) hr
  have hbase:iv x (jq (fw sec) (V.ak+1) ps)=ln x (j:Int):=by
   unfold iv
   show (if 0≤fw (sec:Int) then ln x (fw (sec:Int)) else x)=_
   rw [hj,if_pos (by omega)]
  have hsame:=ts x j ⟨#[255]⟩
  have hw:Lay (gN x (jq (fw sec) (V.ak+1) ps)) j ⟨true,V.ak+1,ps.map eI,(((ps.map eI).length+1:Nat):Int)⟩:=by
   unfold gN
   rw [hbase,FM]
   show Lay (gF (fw (sec:Int)) _ _) j _
   rw [hj,zl]
   refine yH (by rw [hsame.1];exact h.size) j4 j8 (by have:=vk.ak;omega) (by omega) (by rw [List.length_map];omega) (fun q hq => ?_) (fun i hi=>vE h.size j8 hi) (fun i i4 i8 ine => ?_)
   ·
    obtain ⟨p,hp,rfl⟩:=List.mem_map.1 hq
    exact ⟨hpk p hp,show (1:Int)≠0 by decide⟩
   ·
    rw [hsame.sec (by omega) ine]
    exact h.old i i4 i8
  refine ⟨j,_,hw,?_,?_,Int.le_refl _⟩
  ·
   unfold ix
   have hfil:(ps.map eI++[cz (V.ak+1)]).filter dA=ps.map eI:=by
    rw [List.filter_append,List.filter_eq_self.2 (fun q hq=>by obtain ⟨p,_,rfl⟩:=List.mem_map.1 hq;rfl)]
    show ps.map eI++[]=_
    rw [List.append_nil]
   show (⟨true,fw (sec:Int),⟨true,V.ak+1,(if fw (sec:Int)<0 then V.ay else [])++(ps.map eI++[cz (V.ak+1)]).filter dA,(ps.length:Int)+1⟩⟩:au)=_
   rw [hfil,hj,if_neg (by omega),List.nil_append,List.length_map]
   rfl
  ·
   exact E8 hso.1
end Go.Proofs.YtcfdenckiigdaaaGreat

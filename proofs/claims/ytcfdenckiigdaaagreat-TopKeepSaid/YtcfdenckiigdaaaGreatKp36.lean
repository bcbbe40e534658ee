/- Part 36 of the contracts. -/
import Derived.Test.YtcfdenckiigdaaaGreatKp35
set_option linter.unusedVariables false
set_option maxRecDepth 100000
set_option maxHeartbeats 4000000
namespace Go.Proofs.YtcfdenckiigdaaaGreat
section
structure Calm (m:Ctl) (x:ByteArray):Prop where
 lost:m.lost=false
 sel:m.chip.sel=false
 goes:m.goes=m.chip.goes
 cells:m.chip.cells=x
 prot:m.chip.prot=true
 quad:m.chip.quad=true
 job:m.chip.job=none
 busy : ∀ y ∈ m.chip.busy,1≤y∧y≤400
theorem Calm.rests {m:Ctl} {x:ByteArray} (h:Calm m x):qcs m m.chip.core:=⟨h.lost,h.sel,rfl,h.goes⟩
theorem Calm.of {m:Ctl} {c:Core} {x:ByteArray} (h:qcs m c) (h1:c.cells=x) (h2:c.prot=true) (h3:c.quad=true) (h4:c.job=none) (h5 : ∀ y ∈ c.busy,1≤y∧y≤400):Calm m x:=by
 have e:=h.core
 subst e
 exact ⟨h.lost,h.sel,h.goes,h1,h2,h3,h4,h5⟩
theorem Calm.works {m:Ctl} {x:ByteArray} (h:Calm m x):m.chip.core.works=false:=by unfold Core.works worksB;rw [show m.chip.core.job=none from h.job]
def qcQ (m:Ctl) (e:Int) (m':Ctl) (D:Prop) (S:ByteArray→Prop):Prop:=(e=0∧D∧qcr m m')∨(e=1101∧qs5 m' S∧0≤m.left)
theorem qcQ.mono {m:Ctl} {e:Int} {m':Ctl} {D D':Prop} {S S':ByteArray→Prop} (h:qcQ m e m' D S) (hD:D→D') (hS : ∀ x,S x→S' x):qcQ m e m' D' S' :=
 h.elim (fun h=>.inl ⟨h.1,hD h.2.1,h.2.2⟩) (fun h=>.inr ⟨h.1,h.2.1.mono hS,h.2.2⟩)
theorem qcQ.next {m m1 m2:Ctl} {e:Int} {D:Prop} {S:ByteArray→Prop} (hB:qcr m m1) (h:qcQ m1 e m2 D S):qcQ m e m2 D S :=
 h.elim (fun h=>.inl ⟨h.1,h.2.1,hB.trans h.2.2⟩) (fun h=>.inr ⟨h.1,h.2.1,by
  rcases Int.lt_or_le m.left 0 with hl | hl
  ·
   have:=hB hl;have:=h.2.2;omega
  ·
   exact hl⟩)
theorem qf2 {m:Ctl} {x:ByteArray} {r:Ctl×List Int×Int} {xs:List Int} {c':Core} (h:Calm m x) (k:qnf m m.chip.core r xs c'):(r.2.2=0∧r.2.1=xs∧qcs r.1 c'∧qcr m r.1)∨(r.2.2=1101∧r.2.1=[]∧qs5 r.1 (fun y=>y=x)∧0≤m.left):=by
 rcases k with ⟨e1,e2,g⟩ | ⟨e1,e2,g,b⟩
 ·
  exact .inr ⟨e1,e2,(qeT g h.job h.prot h.quad).mono fun y e=>e.trans h.cells,g.left⟩
 ·
  exact .inl ⟨e1,e2,g,b⟩
theorem Calm.leave {m:Ctl} {x:ByteArray} (h:Calm m x):m.chip.core.goes=true→m.chip.core.quad=true∧m.chip.core.works=false:=fun _=>⟨h.quad,h.works⟩
theorem qcI (c:Core):(c.first % 2 != 0)=c.works:=by
 unfold Core.first qu1
 cases c.works <;> cases c.en <;> cases c.prot <;> rfl
theorem qfb {m:Ctl} {c:Core} (h:qcs m c) (hl:c.goes=true→c.quad=true∧c.works=false):qnf m c (m.run 5 0 [] 1) [(Core.passN 9 { c with goes:=false }).first] (Core.passN 16 { c with goes:=false }) :=
 qbZ h (by decide) hl (qv8 rfl) (by
  have : ∀ k (c:Core),c.goes=false→(Core.passN k c).goes=false:=by
   intro k
   induction k with
   | zero=>intro c h;exact h
   | succ k ih =>
    intro c h
    refine ih _ ?_
    unfold Core.pass
    split
    ·
     exact h
    ·
     split
     ·
      exact h
     ·
      split <;> exact h
  exact this _ _ rfl)
theorem qs0 {m:Ctl} {c:Core} (N:Nat) (n:Int) (h:qcs m c) (hg:c.goes=false) (hj:c.job=none) (hp:c.prot=true) (hq:c.quad=true):qcQ m (Ctl.waitR (N+1) n m).2.2 (Ctl.waitR (N+1) n m).1 (qcs (Ctl.waitR (N+1) n m).1 c) (fun y=>y=c.cells):=by
 have hgo:({ c with goes:=false }:Core)=c:=by rw [← hg]
 have k:=qfb h (by rw [hg];intro e;cases e)
 rw [hgo,qa7 hj,qa7 hj] at k
 unfold Ctl.waitR Ctl.busyR
 rcases k with ⟨e1,e2,g⟩ | ⟨e1,e2,r,b⟩
 ·
  rw [if_pos (by rw [e1];decide)]
  exact .inr ⟨e1,qeT g hj hp hq,g.left⟩
 ·
  rw [if_neg (by rw [e1];decide),if_pos]
  ·
   exact .inl ⟨rfl,r,b⟩
  ·
   rw [e1,e2,List.headD_cons,qcI]
   unfold Core.works worksB
   rw [hj];rfl
theorem qux : ∀ (N:Nat) (n:Int) (m:Ctl) (c:Core) (j:Job),qcs m c→c.goes=false→c.job=some j→j.susp=false→1≤j.left→j.left≤16 * N+9→c.prot=true→c.quad=true→qcQ m (Ctl.waitR (N+1) n m).2.2 (Ctl.waitR (N+1) n m).1 (qcs (Ctl.waitR (N+1) n m).1 (c.done j)) (fun y => ∃ mask,y=jobCells j c.cells mask):=by
 intro N
 induction N with
 | zero =>
  intro n m c j h hg hj hs h1 hl hp hq
  have hgo:({ c with goes:=false }:Core)=c:=by rw [← hg]
  have k:=qfb h (by rw [hg];intro e;cases e)
  rw [hgo,qcK hj hs h1 9 (by omega),qcK hj hs h1 16 (by omega)] at k
  unfold Ctl.waitR Ctl.busyR
  rcases k with ⟨e1,e2,g⟩ | ⟨e1,e2,r,b⟩
  ·
   rw [if_pos (by rw [e1];decide)]
   exact .inr ⟨e1,qhW g hj h1 hp hq,g.left⟩
  ·
   rw [if_neg (by rw [e1];decide),if_pos]
   ·
    exact .inl ⟨rfl,r,b⟩
   ·
    rw [e1,e2,List.headD_cons,qcI];rfl
 | succ N ih =>
  intro n m c j h hg hj hs h1 hl hp hq
  have hgo:({ c with goes:=false }:Core)=c:=by rw [← hg]
  have k:=qfb h (by rw [hg];intro e;cases e)
  rw [hgo] at k
  unfold Ctl.waitR Ctl.busyR
  rcases Int.lt_or_le 9 j.left with h9 | h9
  ·
   rw [qeH hj hs 9 (by omega)] at k
   rcases k with ⟨e1,e2,g⟩ | ⟨e1,e2,r,b⟩
   ·
    rw [if_pos (by rw [e1];decide)]
    exact .inr ⟨e1,qhW g hj h1 hp hq,g.left⟩
   ·
    rw [if_neg (by rw [e1];decide),if_neg]
    ·
     rcases Int.lt_or_le 16 j.left with h16 | h16
     ·
      rw [qeH hj hs 16 (by omega)] at r
      have:=ih (n+1) (m.run 5 0 [] 1).1 { c with job:=some { j with left:=j.left - 16 } } { j with left:=j.left - 16 } r hg rfl hs (by show 1≤j.left - 16;omega) (by show j.left - 16≤_;omega) hp hq
      exact this.next b
     ·
      rw [qcK hj hs h1 16 (by omega)] at r
      have:=qs0 N (n+1) r hg rfl hp hq
      refine qcQ.next b (this.mono id fun y e=>⟨⟨#[255]⟩,e⟩)
    ·
     rw [e1,e2,List.headD_cons,qcI]
     unfold Core.works worksB
     simp [hs]
  ·
   rw [qcK hj hs h1 9 (by omega),qcK hj hs h1 16 (by omega)] at k
   rcases k with ⟨e1,e2,g⟩ | ⟨e1,e2,r,b⟩
   ·
    rw [if_pos (by rw [e1];decide)]
    exact .inr ⟨e1,qhW g hj h1 hp hq,g.left⟩
   ·
    rw [if_neg (by rw [e1];decide),if_pos]
    ·
     exact .inl ⟨rfl,r,b⟩
    ·
     rw [e1,e2,List.headD_cons,qcI];rfl
theorem qkn (p:Int) (hp:p % 32=0) (s:ByteArray) (i:Nat) (hi:i<32) (hs:s.size=32) : ∀ n,n≤32→qeD p (intsOf s) n i=if i<n then bt s i else 255
 | 0,_=>rfl
 | n+1,hn=>by
  unfold qeD
  rw [qkn p hp s i hi hs n (by omega)]
  have hm:(p+(n:Int)) % 32=n:=by omega
  rw [hm]
  by_cases e:n=i
  ·
   subst e
   have hg:(intsOf s).getD n 0=((bt s n).toNat:Int):=by
    unfold intsOf
    simp [List.getD,hs,hi]
   have hlt:=(bt s n).toNat_lt
   rw [if_pos rfl,if_pos (Nat.lt_succ_self n),hg]
   have:((((bt s n).toNat:Int)) % 256).toNat=(bt s n).toNat:=by omega
   rw [this]
   simp
  ·
   rw [if_neg (by omega)]
   by_cases h:i<n
   ·
    rw [if_pos h,if_pos (by omega)]
   ·
    rw [if_neg h,if_neg (by omega)]
theorem qqs (p:Int) (hp:p % 32=0) (s:ByteArray) (hs:s.size=32):pageOf p (intsOf s)=s:=by
 refine qbN (by rw [qfP,hs]) fun i hi => ?_
 rw [qfP] at hi
 unfold pageOf
 rw [qgj _ _ _ hi,qdM,hs,qkn p hp s i hi hs 32 (Nat.le_refl _),if_pos hi]
def qeh (x:ByteArray) (p:Int) (mask s:ByteArray):ByteArray:=turn x p.toNat 32 (progAt mask s)
theorem qqb (s:ByteArray) : ∀ b ∈ intsOf s,0≤b∧b<256:=by
 intro b hb
 have:=List.all_eq_true.1 (qey s) b hb
 unfold isByte at this
 simpa using this
theorem qfg {c:Core} {p:Int} {j:Job} (he:c.en=true) (hp:2048≤p):c.starts p j={ c with job:=some { j with left:=c.busy.headD 8 },busy:=c.busy.drop 1 }:=by
 unfold Core.starts
 rw [if_neg (by rw [he];decide),if_neg (by simp;intro;omega)]
theorem qkh {b:List Int} (h : ∀ y ∈ b,1≤y∧y≤400):1≤b.headD 8∧b.headD 8≤400:=by
 cases b with
 | nil=>simp
 | cons y r=>exact h y (by simp)
theorem qlX {m:Ctl} {x:ByteArray} (h:Calm m x) (p:Int) (s:ByteArray) (h0:2048≤p) (h1:p<4096) (hp:p % 32=0) (hs:s.size=32):qcQ m (m.pageR p s).2 (m.pageR p s).1 (Calm (m.pageR p s).1 (qeh x p ⟨#[255]⟩ s)) (fun y=>y=x ∨ ∃ mask,y=qeh x p mask s):=by
 have k6:=qbZ (b:=6) (at_:=0) (ys:=[]) (read:=0) h.rests (by decide) h.leave (qty (c:={ m.chip.core with goes:=false }) rfl h.works) rfl
 unfold Ctl.pageR
 rcases qf2 h k6 with ⟨e1,e2,r,b⟩ | ⟨e1,e2,t,l⟩
 case inr=>rw [if_pos (by rw [e1];decide)];exact .inr ⟨e1,t.mono fun y e=>.inl e,l⟩
 rw [if_neg (by rw [e1];decide)]
 have k2:=qbZ (b:=2) (at_:=p) (ys:=intsOf s) (read:=0) r (by decide) (by intro e;cases e) (qwQ (c:={ m.chip.core with goes:=false,en:=true }) p (intsOf s) (by omega) h1 (by rw [qdM];omega) (qqb s) rfl h.job) (by rw [qfg rfl h0])
 rw [qfg rfl h0] at k2
 have hbusy:=qkh (show ∀ y ∈ ({ m.chip.core with goes:=false,en:=true }:Core).busy,1≤y∧y≤400 from h.busy)
 rcases k2 with ⟨f1,f2,g⟩ | ⟨f1,f2,r2,b2⟩
 ·
  rw [if_pos (by rw [f1];decide)]
  refine .inr ⟨f1,(qeT g h.job h.prot h.quad).mono fun y e=>.inl (e.trans h.cells),?_⟩
  rcases Int.lt_or_le m.left 0 with hl | hl
  ·
   have:=b hl;have:=g.left;omega
  ·
   exact hl
 ·
  rw [if_neg (by rw [f1];decide)]
  have hpo:p - p % 32=p:=by omega
  have hjc : ∀ l sp mask,jobCells ⟨-1,p - p % 32,pageOf p (intsOf s),l,sp⟩ x mask=qeh x p mask s:=fun l sp mask=>by
   unfold jobCells qeh
   rw [if_pos rfl,qqs p hp s hs,hpo,hs]
  have hw:=qux 255 1 _ _ _ r2 rfl rfl rfl hbusy.1 (Int.le_trans hbusy.2 (by decide)) h.prot h.quad
  refine qcQ.next (b.trans b2) (hw.mono (fun hr => ?_) (fun y hy=>.inr ?_))
  ·
   refine Calm.of hr ?_ h.prot h.quad rfl (fun y hy=>h.busy y (List.mem_of_mem_drop hy))
   rw [← hjc (m.chip.busy.headD 8) false,← h.cells]
   rfl
  ·
   obtain ⟨mask,e⟩:=hy
   refine ⟨mask,e.trans ?_⟩
   rw [← hjc (m.chip.busy.headD 8) false,← h.cells]
   rfl
def burnt (x:ByteArray) (p:Int) (s:ByteArray):ByteArray:=qeh (qeh x p ⟨#[255]⟩ (s.extract 0 32)) (p+32) ⟨#[255]⟩ (s.extract 32 64)
def qdx (x:ByteArray) (p:Int) (s y:ByteArray):Prop:=y=x∨(∃ mask,y=qeh x p mask (s.extract 0 32)) ∨ ∃ mask,y=qeh (qeh x p ⟨#[255]⟩ (s.extract 0 32)) (p+32) mask (s.extract 32 64)
theorem qlV {m:Ctl} {x:ByteArray} (h:Calm m x) (p:Int) (s:ByteArray) (h0:2048≤p) (h1:p<4064) (hp:p % 32=0) (hs:s.size=64):qcQ m (m.burnR p s).2 (m.burnR p s).1 (Calm (m.burnR p s).1 (burnt x p s)) (qdx x p s):=by
 have k:=qlX h p (s.extract 0 32) h0 (by omega) hp (by simp [hs])
 unfold Ctl.burnR
 rcases k with ⟨e,c,b⟩ | ⟨e,t,l⟩
 ·
  rw [if_neg (by rw [e];decide)]
  refine qcQ.next b ((qlX c (p+32) (s.extract 32 64) (by omega) (by omega) (by omega) (by simp [hs])).mono id fun y hy => ?_)
  rcases hy with hy | hy
  ·
   exact .inr (.inl ⟨_,hy⟩)
  ·
   exact .inr (.inr hy)
 ·
  rw [if_pos (by rw [e];decide)]
  exact .inr ⟨e,t.mono fun y hy=>hy.elim .inl (fun h=>.inr (.inl h)),l⟩
theorem qir (c:Core) (op:OpR) (hop:op=opRow 107∨op=opRow 235) (p:Int) (h0:0≤p) (n:Nat) (hn:p+n≤4096):textOf (comes c op p 0 n)=mk n fun i=>bt c.cells (p.toNat+i):=by
 refine qbN (by rw [qbl,qbr];simp [comes]) fun i hi => ?_
 rw [qbl] at hi
 have hi':i<n:=by simpa [comes] using hi
 rw [qgj _ _ _ hi']
 have e:(K c op 6 0 p 0 false [] 0 0 0).byteAt ((0:Int)+i)=((bt c.cells (p.toNat+i)).toNat:Int):=by
  have hm:((p+(0+(i:Int))) % 4096).toNat=p.toNat+i:=by omega
  rcases hop with rfl | rfl <;> simp only [qae.byteAt,K,opRow,qcj,Option.getD] <;> simp <;> simpa using congrArg (fun k=>((bt c.cells k).toNat:Int)) hm
 unfold textOf bytesOf bt comes
 simp only [List.map_map]
 have hlt:=(bt c.cells (p.toNat+i)).toNat_lt
 rw [Array.getD_eq_getD_getElem?]
 simp only [List.getElem?_toArray,List.getElem?_map,List.getElem?_range hi',Option.map_some,Option.getD_some,Function.comp,e]
 unfold byteOf
 have:((((bt c.cells (p.toNat+i)).toNat:Int)) % 256).toNat=(bt c.cells (p.toNat+i)).toNat:=by omega
 rw [this]
 simp [bt]
theorem qpO {m:Ctl} {x:ByteArray} (h:Calm m x) (p:Int) (n:Nat) (h0:0≤p) (hn:0<n) (h1:p+n≤4096):qcQ m (m.fetchR p n).2.2 (m.fetchR p n).1 (Calm (m.fetchR p n).1 x∧(m.fetchR p n).2.1=mk n fun i=>bt x (p.toNat+i)) (fun y=>y=x):=by
 have k:=qbZ (b:=107) (at_:=p) (ys:=[]) (read:=n) h.rests (by decide) h.leave (qvc (c:={ m.chip.core with goes:=false }) p n h0 (by omega) hn rfl h.quad h.works) rfl
 unfold Ctl.fetchR
 rcases qf2 h k with ⟨e1,e2,r,b⟩ | ⟨e1,e2,t,l⟩
 ·
  rw [if_pos e1]
  refine .inl ⟨rfl,⟨Calm.of r h.cells h.prot h.quad h.job h.busy,?_⟩,b⟩
  simp only [e2]
  rw [qir _ _ (.inl rfl) p h0 n h1]
  show mk n (fun i=>bt m.chip.cells (p.toNat+i))=_
  rw [h.cells]
 ·
  rw [if_neg (by rw [e1];decide)]
  exact .inr ⟨e1,t,l⟩
theorem qsI (c:Core):textOf (comes c (opRow 90) 0 0 32)=sfdpText:=by
 refine qbN (by rw [qbl];rfl) fun i hi => ?_
 rw [qbl] at hi
 have hi':i<32:=by simpa [comes] using hi
 have e:(K c (opRow 90) 6 0 0 0 false [] 0 0 0).byteAt ((0:Int)+i)=((bt sfdpText i).toNat:Int):=by
  have hm:((0+(0+(i:Int))) % 32).toNat=i:=by omega
  simp only [qae.byteAt,K,opRow,qcj,Option.getD]
  simpa using congrArg (fun k=>((bt sfdpText k).toNat:Int)) hm
 unfold textOf bytesOf comes
 conv=>lhs;unfold bt
 simp only [List.map_map]
 have hlt:=(bt sfdpText i).toNat_lt
 rw [Array.getD_eq_getD_getElem?]
 simp only [List.getElem?_toArray,List.getElem?_map,List.getElem?_range hi',Option.map_some,Option.getD_some,Function.comp,e]
 unfold byteOf
 have:((((bt sfdpText i).toNat:Int)) % 256).toNat=(bt sfdpText i).toNat:=by omega
 rw [this]
 simp
theorem qj9 {m:Ctl} {x:ByteArray} (h:Calm m x):m.Known∧qcQ m m.probeR.2 m.probeR.1 (Calm m.probeR.1 x) (fun y=>y=x):=by
 have k:=qbZ (b:=159) (at_:=0) (ys:=[]) (read:=3) h.rests (by decide) h.leave (qvf (c:={ m.chip.core with goes:=false }) rfl h.works) rfl
 have kk : ∀ m1:Ctl,Calm m1 x→qnf m1 m1.chip.core (m1.run 90 0 [] 32) (comes m1.chip.core (opRow 90) 0 0 32) { m1.chip.core with goes:=false }:=fun m1 h1=>qbZ (b:=90) (at_:=0) (ys:=[]) (read:=32) h1.rests (by decide) h1.leave (qwa (c:={ m1.chip.core with goes:=false }) rfl h1.works) rfl
 rcases qf2 h k with ⟨e1,e2,r,b⟩ | ⟨e1,e2,t,l⟩
 ·
  have c1:Calm (m.run 159 0 [] 3).1 x:=Calm.of r h.cells h.prot h.quad h.job h.busy
  have k2:=kk _ c1
  unfold Ctl.probeR
  rw [if_pos e1]
  rcases qf2 c1 k2 with ⟨f1,f2,r2,b2⟩ | ⟨f1,f2,t2,l2⟩
  ·
   refine ⟨⟨fun _=>e2,fun _ _=>by rw [f2];exact qsI _⟩,.inl ⟨f1,Calm.of r2 c1.cells c1.prot c1.quad c1.job c1.busy,b.trans b2⟩⟩
  ·
   refine ⟨⟨fun _=>e2,fun _ e=>by rw [f1] at e;cases e⟩,qcQ.next b (.inr ⟨f1,t2,l2⟩)⟩
 ·
  unfold Ctl.probeR
  rw [if_neg (by rw [e1];decide)]
  exact ⟨⟨fun e=>absurd (e1.symm.trans e) (by decide),fun e=>absurd (e1.symm.trans e) (by decide)⟩,.inr ⟨e1,t,l⟩⟩
end
section
structure Has (x img:ByteArray):Prop where
 size:x.size=4096
 same : ∀ i,i<2048→bt x i=bt img i
def Cache.Tells (q:Cache) (img:ByteArray):Prop := ∀ x:Int,0≤x→x<2048→(q.find x).2=true→(q.find x).1=((bt img x.toNat).toNat:Int)
theorem qgl (img:ByteArray):Cache.new.Tells img:=fun x h0 h1 h=>by
 unfold Cache.find Cache.new firstOf at h
 simp only at h
 rw [if_neg (by omega),if_neg (by omega)] at h
 cases h
theorem qgf {img s:ByteArray} {x y:Int} (hs : ∀ i,i<16→bt s i=bt img ((firstOf x).toNat+i)) (h0:0≤y) (e:firstOf x=firstOf y):bt s (offOf y)=bt img y.toNat:=by
 have ho:offOf y<16:=by unfold offOf;omega
 rw [hs _ ho,e]
 congr 1
 unfold firstOf offOf
 omega
theorem qqc {q:Cache} (g:q.Good) {img s:ByteArray} {x:Int} (h:q.Tells img) (h0:0≤x) (hs : ∀ i,i<16→bt s i=bt img ((firstOf x).toNat+i)):(q.keep (firstOf x) s).Tells img∧(q.keep (firstOf x) s).find x=(((bt img x.toNat).toNat:Int),true):=by
 have put0 : ∀ n,(q.put 0 (firstOf x) s n).Tells img∧(q.put 0 (firstOf x) s n).find x=(((bt img x.toNat).toNat:Int),true):=fun n=>by
  refine ⟨fun y y0 y1 hy => ?_,?_⟩
  ·
   unfold Cache.find Cache.put at hy ⊢
   simp only [if_true] at hy ⊢
   by_cases e:firstOf x=firstOf y
   ·
    rw [if_pos e,qgf hs y0 e]
   ·
    rw [if_neg e] at hy ⊢
    by_cases e1:q.a1=firstOf y
    ·
     rw [if_pos e1]
     have:=h y y0 y1
     unfold Cache.find at this
     rw [if_neg,if_pos e1] at this
     ·
      exact this rfl
     ·
      intro e0
      have hp:0≤firstOf y:=by unfold firstOf;omega
      exact g.ne (by omega) (e1.trans e0.symm)
    ·
     rw [if_neg e1] at hy;cases hy
  ·
   unfold Cache.find Cache.put
   simp only [if_true]
   rw [qgf hs h0 rfl]
 have put1 : ∀ n,q.a0≠firstOf x→(q.put 1 (firstOf x) s n).Tells img∧(q.put 1 (firstOf x) s n).find x=(((bt img x.toNat).toNat:Int),true):=fun n hn=>by
  refine ⟨fun y y0 y1 hy => ?_,?_⟩
  ·
   unfold Cache.find Cache.put at hy ⊢
   simp only [show ¬((1:Nat)=0) by decide,if_false] at hy ⊢
   by_cases e0:q.a0=firstOf y
   ·
    rw [if_pos e0]
    have:=h y y0 y1
    unfold Cache.find at this
    rw [if_pos e0] at this
    exact this rfl
   ·
    rw [if_neg e0] at hy ⊢
    by_cases e:firstOf x=firstOf y
    ·
     rw [if_pos e,qgf hs y0 e]
    ·
     rw [if_neg e] at hy;cases hy
  ·
   unfold Cache.find Cache.put
   simp only [show ¬((1:Nat)=0) by decide,if_false]
   rw [if_neg hn,if_pos trivial,qgf hs h0 rfl]
 unfold Cache.keep
 split
 ·
  exact put0 _
 ·
  rename_i hn
  split
  ·
   exact put1 _ hn
  ·
   split
   ·
    exact put0 _
   ·
    exact put1 _ hn
structure Held (m:Ctl) (c:Core):Prop where
 rests:qcs m c
 works:c.works=false
 prot:c.prot=true
 quad:c.quad=true
 left : ∀ j,c.job=some j→1≤j.left
def Core.May (c:Core) (y:ByteArray):Prop:=match c.job with | none=>y=c.cells | some j => ∃ mask,y=jobCells j c.cells mask
theorem qe7 {m m':Ctl} {c:Core} (g:Gone m c m') (hp:c.prot=true) (hq:c.quad=true) (hl : ∀ j,c.job=some j→1≤j.left):qs5 m' c.May:=by
 cases hj:c.job with
 | none=>exact (qeT g hj hp hq).mono fun y e=>by unfold Core.May;rw [hj];exact e
 | some j=>exact (qhW g hj (hl j hj) hp hq).mono fun y e=>by unfold Core.May;rw [hj];exact e
theorem qtS {m:Ctl} {c:Core} {q:Cache} {img:ByteArray} {x:Int} (h:Held m c) (hx:Has c.cells img) (g:q.Good) (hq:q.Tells img) (h0:0≤x) (h1:x<2048):qcQ m (loadR m q x).2.2 (loadR m q x).1 (Held (loadR m q x).1 { c with goes:=true }∧(loadR m q x).2.1.Good∧(loadR m q x).2.1.Tells img∧(loadR m q x).2.1.find x=(((bt img x.toNat).toNat:Int),true)) c.May:=by
 have hf:0≤firstOf x∧firstOf x+16≤2048∧firstOf x % 16=0:=by unfold firstOf;omega
 have hst:({ c with goes:=false }:Core).still:=qba h.works
 have k:=qfb h.rests (fun _=>⟨h.quad,h.works⟩)
 rw [qbJ hst,qbJ hst] at k
 unfold loadR
 rcases k with ⟨e1,e2,gg⟩ | ⟨e1,e2,r,b⟩
 ·
  rw [if_pos (by rw [e1];decide)]
  exact .inr ⟨e1,qe7 gg h.prot h.quad h.left,gg.left⟩
 have hev : ¬((m.run 5 0 [] 1).2.1.headD 0 % 2≠0):=by
  rw [e2,List.headD_cons]
  have:=qcI { c with goes:=false }
  rw [show ({ c with goes:=false }:Core).works=false from h.works] at this
  simpa using this
 rw [if_neg (by rw [e1];decide),if_neg hev]
 have k2:=qui (p:=firstOf x) r h.quad h.works hf.1 (by omega)
 rcases k2 with ⟨f1,f2,gg⟩ | ⟨f1,f2,r2,b2⟩
 ·
  rw [if_pos (by rw [f1];decide)]
  have t:qs5 ((m.run 5 0 [] 1).1.run 235 (firstOf x) [160] 16).1 c.May:=qe7 (c:={ c with goes:=false }) gg h.prot h.quad h.left
  exact qcQ.next b (.inr ⟨f1,t,gg.left⟩)
 ·
  rw [if_neg (by rw [f1];decide)]
  have hs : ∀ i,i<16→bt (textOf ((m.run 5 0 [] 1).1.run 235 (firstOf x) [160] 16).2.1) i=bt img ((firstOf x).toNat+i):=fun i hi=>by
   rw [f2,qir _ _ (.inr rfl) (firstOf x) hf.1 16 (by omega),qgj _ _ _ hi]
   exact hx.same _ (by omega)
  have hk:=qqc g hq h0 hs
  have hsz:(textOf ((m.run 5 0 [] 1).1.run 235 (firstOf x) [160] 16).2.1).size=16:=by rw [qbl,f2];rfl
  exact .inl ⟨rfl,⟨⟨r2,h.works,h.prot,h.quad,h.left⟩,qmp g _ _ hf.1 (by omega) hf.2.2 hsz,hk.1,hk.2⟩,b.trans b2⟩
def busVal (img:ByteArray) (at_:Int):Nat→Nat→Int→Int
 | 0,_,y=>y
 | n+1,j,y=>busVal img at_ n (j+1) (bits .or .i64 y (qs7 ((bt img (at_+j).toNat).toNat:Int) j))
theorem qja {img:ByteArray} : ∀ (n j:Nat) (y:Int) (m:Ctl) (q:Cache) (at_:Int) (c:Core),Held m c→Has c.cells img→q.Good→q.Tells img→0≤at_→at_+j+n≤2048→qcQ m (qbS n j y m q at_).2.2.2 (qbS n j y m q at_).1 ((∃ g,Held (qbS n j y m q at_).1 { c with goes:=g })∧(qbS n j y m q at_).2.1.Good∧(qbS n j y m q at_).2.1.Tells img∧(qbS n j y m q at_).2.2.1=busVal img at_ n j y) c.May
 | 0,j,y,m,q,at_,c,h,hx,g,hq,h0,h1=>.inl ⟨rfl,⟨⟨c.goes,h⟩,g,hq,rfl⟩,id⟩
 | n+1,j,y,m,q,at_,c,h,hx,g,hq,h0,h1=>by
  unfold qbS
  have ha:0≤at_+(j:Int)∧at_+(j:Int)<2048:=by omega
  by_cases hfd:(q.find (at_+j)).2=true
  ·
   rw [if_pos hfd,hq _ ha.1 ha.2 hfd]
   exact qja n (j+1) _ m q at_ c h hx g hq h0 (by omega)
  ·
   rw [if_neg hfd]
   rcases qtS h hx g hq ha.1 ha.2 with ⟨e,⟨l1,l2,l3,l4⟩,b⟩ | ⟨e,t,l⟩
   ·
    rw [if_neg (by rw [e];decide)]
    rw [l4]
    have:=qja n (j+1) (bits .or .i64 y (qs7 ((bt img (at_+j).toNat).toNat:Int) j)) _ _ at_ { c with goes:=true } l1 hx l2 l3 h0 (by omega)
    exact qcQ.next b this
   ·
    rw [if_pos (by rw [e];decide)]
    exact .inr ⟨e,t,l⟩
theorem qlh {m:Ctl} {c:Core} {q:Cache} {img:ByteArray} {at_ width:Int} (h:Held m c) (hx:Has c.cells img) (g:q.Good) (hq:q.Tells img) (hr:readGood at_ width=true):qcQ m (readR m q at_ width).2.2.2 (readR m q at_ width).1 ((∃ g,Held (readR m q at_ width).1 { c with goes:=g })∧(readR m q at_ width).2.1.Good∧(readR m q at_ width).2.1.Tells img∧(readR m q at_ width).2.2.1=busVal img at_ width.toNat 0 0) c.May:=by
 unfold readR
 rw [if_pos hr]
 unfold readGood at hr
 simp at hr
 exact qja width.toNat 0 0 m q at_ c h hx g hq (by omega) (by omega)
theorem qu2 (x:UInt8):bits .or .i64 0 (qs7 (x.toNat:Int) 0)=(x.toNat:Int):=by
 have hx:=x.toNat_lt
 have:=qe8 0 x.toNat (by decide) (by omega)
 unfold qs7
 simp only [Nat.mul_zero,Int.pow_zero,Int.mul_one,qbU]
 simpa using this
def qfL (img:ByteArray) (x:Int):Int:=((bt img x.toNat).toNat:Int)
theorem qsj (img:ByteArray) (x:Int):busVal img x (1:Int).toNat 0 0=qfL img x:=by
 show bits .or .i64 0 (qs7 ((bt img (x+((0:Nat):Int)).toNat).toNat:Int) 0)=_
 rw [qu2]
 simp [qfL]
theorem qhp {x:Int} (h0:0≤x) (h1:x<2048):readGood x 1=true:=by
 unfold readGood
 simp
 omega
theorem qvE {m:Ctl} {c:Core} {q:Cache} {img:ByteArray} {x:Int} {left out:List Int} (h:Held m c) (hx:Has c.cells img) (g:q.Good) (hq:q.Tells img) (h0:0≤x) (h1:x<2048):qcQ m (oneR m q x left out).2.2.2.2 (oneR m q x left out).1 ((∃ g,Held (oneR m q x left out).1 { c with goes:=g })∧(oneR m q x left out).2.1.Good∧(oneR m q x left out).2.1.Tells img∧(oneR m q x left out).2.2.1=left∧(oneR m q x left out).2.2.2.1=out++[qfL img x]) c.May:=by
 have k:=qlh h hx g hq (qhp h0 h1)
 rw [qsj] at k
 unfold oneR
 rcases k with ⟨e,⟨l1,l2,l3,l4⟩,b⟩ | ⟨e,t,l⟩
 ·
  rw [if_neg (by rw [e];decide)]
  exact .inl ⟨rfl,⟨l1,l2,l3,rfl,by simp only [l4]⟩,b⟩
 ·
  rw [if_pos (by rw [e];decide)]
  exact .inr ⟨e,t,l⟩
theorem qli {img:ByteArray} : ∀ (l out:List Int) (m:Ctl) (q:Cache) (c:Core),Held m c→Has c.cells img→q.Good→q.Tells img→(∀ x ∈ l,0≤x∧x<2048)→qcQ m (restR l out m q).2.2.2 (restR l out m q).1 ((∃ g,Held (restR l out m q).1 { c with goes:=g })∧(restR l out m q).2.1.Good∧(restR l out m q).2.1.Tells img∧(restR l out m q).2.2.1=out++l.map (qfL img)) c.May
 | [],out,m,q,c,h,hx,g,hq,_=>.inl ⟨rfl,⟨⟨c.goes,h⟩,g,hq,by simp [restR]⟩,id⟩
 | x::l,out,m,q,c,h,hx,g,hq,hl=>by
  obtain ⟨x0,x1⟩:=hl x (by simp)
  have k:=qlh h hx g hq (qhp x0 x1)
  rw [qsj] at k
  unfold restR
  rcases k with ⟨e,⟨⟨gg,l1⟩,l2,l3,l4⟩,b⟩ | ⟨e,t,l⟩
  ·
   rw [if_neg (by rw [e];decide),l4]
   have:=qli l (out++[qfL img x]) _ _ { c with goes:=gg } l1 hx l2 l3 (fun y hy=>hl y (by simp [hy]))
   refine qcQ.next b (this.mono (fun ⟨a1,a2,a3,a4⟩=>⟨a1,a2,a3,?_⟩) fun y hy=>hy)
   rw [a4]
   simp
  ·
   rw [if_pos (by rw [e];decide)]
   exact .inr ⟨e,t,l⟩
structure quB (c:Core) (B:Int):Prop where
 goes:c.goes=false
 prot:c.prot=true
 quad:c.quad=true
 job : ∀ j,c.job=some j→j.susp=false∧1≤j.left∧j.left≤B∧j.sector ≠ -1
def Core.fin (c:Core):Core:=match c.job with | none=>c | some j=>c.done j
theorem qdO {c:Core} {B:Int} (h:quB c B) (k:Nat):quB (c.passN k) (B - k)∧(c.passN k).fin=c.fin∧(∀ y,(c.passN k).May y→c.May y)∧(∀ img,Has c.cells img→(∀ j,c.job=some j→4≤j.sector)→Has (c.passN k).cells img)∧(c.passN k).busy=c.busy:=by
 cases hj:c.job with
 | none =>
  rw [qa7 hj]
  exact ⟨⟨h.goes,h.prot,h.quad,fun j e=>by rw [hj] at e;cases e⟩,rfl,fun y h=>h,fun img h _=>h,rfl⟩
 | some j =>
  obtain ⟨h1,h2,h3,h4⟩:=h.job j hj
  rcases Int.lt_or_le (k:Int) j.left with hk | hk
  ·
   rw [qeH hj h1 k hk]
   refine ⟨⟨h.goes,h.prot,h.quad,fun j' e => ?_⟩,?_,?_,fun img h _=>h,rfl⟩
   ·
    obtain rfl:({ j with left:=j.left - k }:Job)=j':=by simpa using e
    exact ⟨h1,by show 1≤j.left - k;omega,by show j.left - k≤_;omega,h4⟩
   ·
    show _=Core.fin c
    unfold Core.fin
    rw [hj]
    rfl
   ·
    intro y hy
    unfold Core.May
    rw [hj]
    exact hy
  ·
   rw [qcK hj h1 h2 k hk]
   refine ⟨⟨h.goes,h.prot,h.quad,fun j' e=>by cases e⟩,?_,?_,fun img hx hs => ?_,rfl⟩
   ·
    show _=Core.fin c
    unfold Core.fin
    rw [hj]
    rfl
   ·
    intro y hy
    unfold Core.May
    rw [hj]
    exact ⟨_,hy⟩
   ·
    have h5:=hs j rfl
    show Has (jobCells j c.cells ⟨#[255]⟩) img
    unfold jobCells
    rw [if_neg h4]
    refine ⟨by unfold turn;rw [qbr];exact hx.size,fun i hi => ?_⟩
    unfold turn
    rw [qgj _ _ _ (by rw [hx.size];omega),if_neg (by omega)]
    exact hx.same i hi
theorem qqW {c:Core} (h:c.works=false) {B:Int} (r:quB c B):c.job=none:=by
 cases hj:c.job with
 | none=>rfl
 | some j =>
  have:=(r.job j hj).1
  unfold Core.works worksB at h
  rw [hj] at h
  simp [this] at h
theorem qjm {c:Core} {B:Int} (r:quB c B) (g:Bool):({ ({ c.suspends with goes:=g }:Core) with goes:=false }:Core).resumes=c:=by
 unfold Core.suspends Core.resumes
 obtain ⟨a,b,d,e,f,job,bu⟩:=c
 cases job with
 | none=>have:=r.goes;simp only at this ⊢;rw [this]
 | some j =>
  obtain ⟨h1,_,_,h4⟩:=r.job j rfl
  have:=r.goes
  simp only at this ⊢
  rw [if_neg h4,this,← h1]
theorem qsP {c:Core} {B:Int} (r:quB c B) {m:Ctl} (h:qcs m c.suspends):Held m c.suspends:=by
 have e:c.suspends.works=false∧c.suspends.prot=true∧c.suspends.quad=true ∧ ∀ j,c.suspends.job=some j→1≤j.left:=by
  unfold Core.suspends
  cases hj:c.job with
  | none=>exact ⟨by simp only;unfold Core.works worksB;rw [hj],r.prot,r.quad,fun j e=>by rw [hj] at e;cases e⟩
  | some j =>
   obtain ⟨h1,h2,_,h4⟩:=r.job j hj
   simp only
   rw [if_neg h4]
   refine ⟨by simp [Core.works,worksB],r.prot,r.quad,fun j' e => ?_⟩
   obtain rfl:({ j with susp:=true }:Job)=j':=by simpa using e
   exact h2
 exact ⟨h,e.1,e.2.1,e.2.2.1,e.2.2.2⟩
theorem qpr {c:Core} (y:ByteArray) (h:c.suspends.May y):c.May y:=by
 obtain ⟨a,b,d,e,f,job,bu⟩:=c
 cases job with
 | none=>exact h
 | some j =>
  by_cases hs:j.sector = -1
  ·
   simpa [Core.suspends,hs] using h
  ·
   have e1:(⟨a,b,d,e,f,some j,bu⟩:Core).suspends=⟨a,b,d,e,f,some { j with susp:=true },bu⟩:=by simp [Core.suspends,hs]
   rw [e1] at h
   exact h
theorem qqO (c:Core):c.suspends.cells=c.cells:=by
 unfold Core.suspends
 split
 ·
  split <;> rfl
 ·
  rfl
theorem qpm {c:Core} (hs : ∀ j,c.job=some j→4≤j.sector) (k:Nat) : ∀ j,(c.passN k).job=some j→4≤j.sector:=by
 induction k generalizing c with
 | zero=>exact hs
 | succ k ih =>
  refine ih (c:=c.pass) fun j hj => ?_
  unfold Core.pass at hj
  cases hjc:c.job with
  | none=>rw [hjc] at hj;simp only at hj;rw [hjc] at hj;cases hj
  | some j' =>
   rw [hjc] at hj
   simp only at hj
   split at hj
   ·
    rw [hjc] at hj;exact hs j (hjc.trans hj)
   ·
    split at hj
    ·
     cases hj
    ·
     obtain rfl:({ j' with left:=j'.left - 1 }:Job)=j:=by simpa using hj
     exact hs j' hjc
theorem qs1 {img:ByteArray} : ∀ (N:Nat) (m:Ctl) (q:Cache) (left out:List Int) (c:Core),qcs m c→quB c (16 * N+9)→Has c.cells img→(∀ j,c.job=some j→4≤j.sector)→q.Good→q.Tells img→(∀ x ∈ left,0≤x∧x<2048)→qcQ m (waitsR (N+1) m q left out).2.2.2.2 (waitsR (N+1) m q left out).1 (qcs (waitsR (N+1) m q left out).1 c.fin∧(waitsR (N+1) m q left out).2.1.Good∧(waitsR (N+1) m q left out).2.1.Tells img ∧ ∃ l1,left=l1++(waitsR (N+1) m q left out).2.2.1∧(waitsR (N+1) m q left out).2.2.2.1=out++l1.map (qfL img)) c.May:=by
 intro N
 induction N with
 | zero =>
  intro m q left out c h r hx hs g hq hl
  have hgo:({ c with goes:=false }:Core)=c:=by rw [← r.goes]
  have k:=qfb h (by rw [r.goes];intro e;cases e)
  rw [hgo] at k
  have h9:(c.passN 9).job=none:=by
   cases hj:c.job with
   | none=>rw [qa7 hj];exact hj
   | some j =>
    obtain ⟨h1,h2,h3,h4⟩:=r.job j hj
    rw [qcK hj h1 h2 9 (by have:j.left≤9:=h3;omega)]
    rfl
  unfold waitsR Ctl.busyR
  rcases k with ⟨e1,e2,gg⟩ | ⟨e1,e2,rr,b⟩
  ·
   rw [if_pos (by rw [e1];decide)]
   exact .inr ⟨e1,qe7 gg r.prot r.quad (fun j hj=>(r.job j hj).2.1),gg.left⟩
  ·
   rw [if_neg (by rw [e1];decide),if_pos (by rw [e1,e2,List.headD_cons,qcI];unfold Core.works worksB;rw [h9];rfl)]
   have e16:c.passN 16=c.fin:=by
    rw [show 16=9+7 from rfl,qcl,qa7 h9]
    have:=(qdO r 9).2.1
    rw [← this]
    unfold Core.fin
    rw [h9]
   rw [e16] at rr
   exact .inl ⟨rfl,⟨rr,g,hq,[],rfl,by simp⟩,b⟩
 | succ N ih =>
  intro m q left out c h r hx hs g hq hl
  have hgo:({ c with goes:=false }:Core)=c:=by rw [← r.goes]
  have k:=qfb h (by rw [r.goes];intro e;cases e)
  rw [hgo] at k
  unfold waitsR Ctl.busyR
  rcases k with ⟨e1,e2,gg⟩ | ⟨e1,e2,rr,b⟩
  ·
   rw [if_pos (by rw [e1];decide)]
   exact .inr ⟨e1,qe7 gg r.prot r.quad (fun j hj=>(r.job j hj).2.1),gg.left⟩
  rw [if_neg (by rw [e1];decide)]
  cases hw:(c.passN 9).works with
  | false =>
   have h9:=qqW hw (qdO r 9).1
   rw [if_pos (by rw [e1,e2,List.headD_cons,qcI,hw];rfl)]
   have e16:c.passN 16=c.fin:=by
    rw [show 16=9+7 from rfl,qcl,qa7 h9]
    have:=(qdO r 9).2.1
    rw [← this]
    unfold Core.fin
    rw [h9]
   rw [e16] at rr
   exact .inl ⟨rfl,⟨rr,g,hq,[],rfl,by simp⟩,b⟩
  | true =>
   rw [if_neg (by rw [e1,e2,List.headD_cons,qcI,hw];simp)]
   obtain ⟨p1,p2,p3,p4,p5⟩:=qdO r 16
   have p1':quB (c.passN 16) (16 * N+9):=⟨p1.goes,p1.prot,p1.quad,fun j hj=>by
    obtain ⟨a,b,d,e⟩:=p1.job j hj
    exact ⟨a,b,by omega,e⟩⟩
   have s16:=qpm hs 16
   have x16:=p4 img hx hs
   cases left with
   | nil =>
    have:=ih (m.run 5 0 [] 1).1 q [] out (c.passN 16) rr p1' x16 s16 g hq (by simp)
    rw [p2] at this
    exact qcQ.next b (this.mono id p3)
   | cons x l =>
    obtain ⟨x0,x1⟩:=hl x (by simp)
    have k2:=qbZ (b:=117) (at_:=0) (ys:=[]) (read:=0) rr (by decide) (by rw [p1.goes];intro e;cases e) (by
     have hgo:({ c.passN 16 with goes:=false }:Core)=c.passN 16:=by rw [← p1.goes]
     rw [hgo]
     exact qvd p1.goes) (by
     have:=(qdO p1 8).1.goes
     unfold Core.suspends
     split
     ·
      split <;> exact this
     ·
      exact this)
    obtain ⟨t1,t2,t3,t4,t5⟩:=qdO p1' 8
    have s24:=qpm s16 8
    have x24:=t4 img x16 s16
    generalize hc2:(c.passN 16).passN 8=c2 at *
    have mayAll : ∀ y,c2.May y→c.May y:=fun y hy=>p3 y (t3 y hy)
    simp only
    rcases k2 with ⟨f1,f2,gg⟩ | ⟨f1,f2,r3,b3⟩
    ·
     have e:(suspR (m.run 5 0 [] 1).1 q x l out)=(((m.run 5 0 [] 1).1.run 117 0 [] 0).1,q,x::l,out,((m.run 5 0 [] 1).1.run 117 0 [] 0).2.2):=by
      unfold suspR;rw [if_pos (by rw [f1];decide)]
     rw [e]
     simp only
     rw [if_pos (by rw [f1];decide)]
     exact qcQ.next b (.inr ⟨f1,(qe7 gg p1.prot p1.quad (fun j hj=>(p1.job j hj).2.1)).mono p3,gg.left⟩)
    ·
     have hh:=qsP t1 r3
     have k3:=qvE (left:=l) (out:=out) hh (by rw [qqO];exact x24) g hq x0 x1
     rcases k3 with ⟨d1,⟨⟨g4,l1⟩,l2,l3,l4,l5⟩,b4⟩ | ⟨d1,t,lf⟩
     ·
      have hc2g:c2.suspends.goes=false:=by
       have:=t1.goes
       unfold Core.suspends
       split
       ·
        split <;> exact this
       ·
        exact this
      have k5:=qbZ (b:=122) (at_:=0) (ys:=[]) (read:=0) l1.rests (by decide) (fun _=>⟨l1.quad,l1.works⟩) (qve (c:={ ({ c2.suspends with goes:=g4 }:Core) with goes:=false }) rfl l1.works) (by rw [qjm t1 g4];exact t1.goes)
      rw [qjm t1 g4] at k5
      have e:(suspR (m.run 5 0 [] 1).1 q x l out)=(((oneR ((m.run 5 0 [] 1).1.run 117 0 [] 0).1 q x l out).1.run 122 0 [] 0).1,(oneR ((m.run 5 0 [] 1).1.run 117 0 [] 0).1 q x l out).2.1,(oneR ((m.run 5 0 [] 1).1.run 117 0 [] 0).1 q x l out).2.2.1,(oneR ((m.run 5 0 [] 1).1.run 117 0 [] 0).1 q x l out).2.2.2.1,((oneR ((m.run 5 0 [] 1).1.run 117 0 [] 0).1 q x l out).1.run 122 0 [] 0).2.2):=by
       unfold suspR
       rw [if_neg (by rw [f1];decide),if_neg (by rw [d1];decide)]
      rw [e]
      simp only
      rcases k5 with ⟨u1,u2,gg⟩ | ⟨u1,u2,r5,b5⟩
      ·
       rw [if_pos (by rw [u1];decide)]
       exact qcQ.next ((b.trans b3).trans b4) (.inr ⟨u1,(qe7 gg l1.prot l1.quad l1.left).mono fun y hy=>mayAll y (qpr y hy),gg.left⟩)
      ·
       rw [if_neg (by rw [u1];decide),l4,l5]
       have t1':quB c2 (16 * N+9):=⟨t1.goes,t1.prot,t1.quad,fun j hj=>by
        obtain ⟨a,b,d,e⟩:=t1.job j hj
        exact ⟨a,b,by omega,e⟩⟩
       have:=ih _ _ l (out++[qfL img x]) c2 r5 t1' x24 s24 l2 l3 (fun y hy=>hl y (by simp [hy]))
       refine qcQ.next (((b.trans b3).trans b4).trans b5) (this.mono (fun ⟨a1,a2,a3,l1',a4,a5⟩=>⟨?_,a2,a3,x::l1',?_,?_⟩) mayAll)
       ·
        rw [t2,p2] at a1;exact a1
       ·
        rw [List.cons_append,← a4]
       ·
        rw [a5];simp
     ·
      have e:(suspR (m.run 5 0 [] 1).1 q x l out)=oneR ((m.run 5 0 [] 1).1.run 117 0 [] 0).1 q x l out:=by
       unfold suspR
       rw [if_neg (by rw [f1];decide),if_pos (by rw [d1];decide)]
      rw [e,if_pos (by rw [d1];decide)]
      exact qcQ.next (b.trans b3) (.inr ⟨d1,t.mono fun y hy=>mayAll y (qpr y hy),lf⟩)
end
end Go.Proofs.YtcfdenckiigdaaaGreat

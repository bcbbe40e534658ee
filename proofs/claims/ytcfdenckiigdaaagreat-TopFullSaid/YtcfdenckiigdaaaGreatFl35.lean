/- Part 35 of the contracts. -/
import Derived.Test.YtcfdenckiigdaaaGreatFl34
set_option linter.unusedVariables false
set_option maxRecDepth 100000
set_option maxHeartbeats 4000000
namespace Go.Proofs.YtcfdenckiigdaaaGreat
open Tryz
section
structure Calm (m:aG) (x:ByteArray):Prop where
 lost:m.lost=false
 dQ:m.ar.dQ=false
 aD:m.aD=m.ar.aD
 cells:m.ar.cells=x
 bq:m.ar.bq=true
 bk:m.ar.bk=true
 aZ:m.ar.aZ=none
 busy : ∀ y ∈ m.ar.busy,1≤y∧y≤400
theorem Calm.qi {m:aG} {x:ByteArray} (h:Calm m x):gl m m.ar.core:=⟨h.lost,h.dQ,rfl,h.aD⟩
theorem Calm.of {m:aG} {c:Core} {x:ByteArray} (h:gl m c) (h1:c.cells=x) (h2:c.bq=true) (h3:c.bk=true) (h4:c.aZ=none) (h5 : ∀ y ∈ c.busy,1≤y∧y≤400):Calm m x:=by
 have e:=h.core
 subst e
 exact ⟨h.lost,h.dQ,h.aD,h1,h2,h3,h4,h5⟩
theorem Calm.bP {m:aG} {x:ByteArray} (h:Calm m x):m.ar.core.bP=false:=by unfold Core.bP eT;rw [show m.ar.core.aZ=none from h.aZ]
def eV (m:aG) (e:Int) (m':aG) (D:Prop) (S:ByteArray→Prop):Prop:=(e=0∧D∧gj m m')∨(e=1101∧yg m' S∧0≤m.left)
theorem eV.mono {m:aG} {e:Int} {m':aG} {D D':Prop} {S S':ByteArray→Prop} (h:eV m e m' D S) (hD:D→D') (hS : ∀ x,S x→S' x):eV m e m' D' S' :=
 h.elim (fun h=>.inl ⟨h.1,hD h.2.1,h.2.2⟩) (fun h=>.inr ⟨h.1,h.2.1.mono hS,h.2.2⟩)
theorem eV.next {m m1 m2:aG} {e:Int} {D:Prop} {S:ByteArray→Prop} (hB:gj m m1) (h:eV m1 e m2 D S):eV m e m2 D S :=
 h.elim (fun h=>.inl ⟨h.1,h.2.1,hB.trans h.2.2⟩) (fun h=>.inr ⟨h.1,h.2.1,by
  rcases Int.lt_or_le m.left 0 with hl | hl
  ·
   have:=hB hl;have:=h.2.2;omega
  ·
   exact hl⟩)
theorem oJ {m:aG} {x:ByteArray} {r:aG×List Int×Int} {xs:List Int} {c':Core} (h:Calm m x) (k:vO m m.ar.core r xs c'):(r.2.2=0∧r.2.1=xs∧gl r.1 c'∧gj m r.1)∨(r.2.2=1101∧r.2.1=[]∧yg r.1 (fun y=>y=x)∧0≤m.left):=by
 rcases k with ⟨e1,e2,g⟩ | ⟨e1,e2,g,b⟩
 ·
  exact .inr ⟨e1,e2,(mQ g h.aZ h.bq h.bk).mono fun y e=>e.trans h.cells,g.left⟩
 ·
  exact .inl ⟨e1,e2,g,b⟩
theorem Calm.leave {m:aG} {x:ByteArray} (h:Calm m x):m.ar.core.aD=true→m.ar.core.bk=true∧m.ar.core.bP=false:=fun _=>⟨h.bk,h.bP⟩
theorem iY (c:Core):(c.first % 2 != 0)=c.bP:=by
 unfold Core.first DV
 cases c.bP <;> cases c.en <;> cases c.bq <;> rfl
theorem mM {m:aG} {c:Core} (h:gl m c) (hl:c.aD=true→c.bk=true∧c.bP=false):vO m c (m.run 5 0 [] 1) [(Core.bD 9 { c with aD:=false }).first] (Core.bD 16 { c with aD:=false }) :=
 gh h (by decide) hl (LR rfl) (by
  have : ∀ k (c:Core),c.aD=false→(Core.bD k c).aD=false:=by
   intro k
   induction k with
   | zero=>intro c h;exact h
   | succ k ih =>
    intro c h
    refine ih _ ?_
    unfold Core.pass
    split
    ·
     exact h
    ·
     split
     ·
      exact h
     ·
      split <;> exact h
  exact this _ _ rfl)
theorem Iv {m:aG} {c:Core} (N:Nat) (n:Int) (h:gl m c) (hg:c.aD=false) (hj:c.aZ=none) (hp:c.bq=true) (hq:c.bk=true):eV m (aG.gR (N+1) n m).2.2 (aG.gR (N+1) n m).1 (gl (aG.gR (N+1) n m).1 c) (fun y=>y=c.cells):=by
 have hgo:({ c with aD:=false }:Core)=c:=by rw [← hg]
 have k:=mM h (by rw [hg];intro e;cases e)
 rw [hgo,eu hj,eu hj] at k
 unfold aG.gR aG.dp
 rcases k with ⟨e1,e2,g⟩ | ⟨e1,e2,r,b⟩
 ·
  rw [if_pos (by rw [e1];decide)]
  exact .inr ⟨e1,mQ g hj hp hq,g.left⟩
 ·
  rw [if_neg (by rw [e1];decide),if_pos]
  ·
   exact .inl ⟨rfl,r,b⟩
  ·
   rw [e1,e2,List.headD_cons,iY]
   unfold Core.bP eT
   rw [hj];rfl
theorem Kj : ∀ (N:Nat) (n:Int) (m:aG) (c:Core) (j:iE),gl m c→c.aD=false→c.aZ=some j→j.hZ=false→1≤j.left→j.left≤16 * N+9→c.bq=true→c.bk=true→eV m (aG.gR (N+1) n m).2.2 (aG.gR (N+1) n m).1 (gl (aG.gR (N+1) n m).1 (c.done j)) (fun y => ∃ mask,y=cK j c.cells mask):=by
 intro N
 induction N with
 | zero =>
  intro n m c j h hg hj hs h1 hl hp hq
  have hgo:({ c with aD:=false }:Core)=c:=by rw [← hg]
  have k:=mM h (by rw [hg];intro e;cases e)
  rw [hgo,jc hj hs h1 9 (by omega),jc hj hs h1 16 (by omega)] at k
  unfold aG.gR aG.dp
  rcases k with ⟨e1,e2,g⟩ | ⟨e1,e2,r,b⟩
  ·
   rw [if_pos (by rw [e1];decide)]
   exact .inr ⟨e1,sI g hj h1 hp hq,g.left⟩
  ·
   rw [if_neg (by rw [e1];decide),if_pos]
   ·
    exact .inl ⟨rfl,r,b⟩
   ·
    rw [e1,e2,List.headD_cons,iY];rfl
 | succ N ih =>
  intro n m c j h hg hj hs h1 hl hp hq
  have hgo:({ c with aD:=false }:Core)=c:=by rw [← hg]
  have k:=mM h (by rw [hg];intro e;cases e)
  rw [hgo] at k
  unfold aG.gR aG.dp
  rcases Int.lt_or_le 9 j.left with h9 | h9
  ·
   rw [mJ hj hs 9 (by omega)] at k
   rcases k with ⟨e1,e2,g⟩ | ⟨e1,e2,r,b⟩
   ·
    rw [if_pos (by rw [e1];decide)]
    exact .inr ⟨e1,sI g hj h1 hp hq,g.left⟩
   ·
    rw [if_neg (by rw [e1];decide),if_neg]
    ·
     rcases Int.lt_or_le 16 j.left with h16 | h16
     ·
      rw [mJ hj hs 16 (by omega)] at r
      have:=ih (n+1) (m.run 5 0 [] 1).1 { c with aZ:=some { j with left:=j.left - 16 } } { j with left:=j.left - 16 } r hg rfl hs (by show 1≤j.left - 16;omega) (by show j.left - 16≤_;omega) hp hq
      exact this.next b
     ·
      rw [jc hj hs h1 16 (by omega)] at r
      have:=Iv N (n+1) r hg rfl hp hq
      refine eV.next b (this.mono id fun y e=>⟨⟨#[255]⟩,e⟩)
    ·
     rw [e1,e2,List.headD_cons,iY]
     unfold Core.bP eT
     simp [hs]
  ·
   rw [jc hj hs h1 9 (by omega),jc hj hs h1 16 (by omega)] at k
   rcases k with ⟨e1,e2,g⟩ | ⟨e1,e2,r,b⟩
   ·
    rw [if_pos (by rw [e1];decide)]
    exact .inr ⟨e1,sI g hj h1 hp hq,g.left⟩
   ·
    rw [if_neg (by rw [e1];decide),if_pos]
    ·
     exact .inl ⟨rfl,r,b⟩
    ·
     rw [e1,e2,List.headD_cons,iY];rfl
theorem xm (p:Int) (hp:p % 32=0) (s:ByteArray) (i:Nat) (hi:i<32) (hs:s.size=32) : ∀ n,n≤32→ly p (eC s) n i=if i<n then bt s i else 255
 | 0,_=>rfl
 | n+1,hn=>by
  unfold ly
  rw [xm p hp s i hi hs n (by omega)]
  have hm:(p+(n:Int)) % 32=n:=by omega
  rw [hm]
  by_cases e:n=i
  ·
   subst e
   have hg:(eC s).getD n 0=((bt s n).toNat:Int):=by
    unfold eC
    simp [List.getD,hs,hi]
   have hlt:=(bt s n).toNat_lt
   rw [if_pos rfl,if_pos (Nat.lt_succ_self n),hg]
   have:((((bt s n).toNat:Int)) % 256).toNat=(bt s n).toNat:=by omega
   rw [this]
   simp
  ·
   rw [if_neg (by omega)]
   by_cases h:i<n
   ·
    rw [if_pos h,if_pos (by omega)]
   ·
    rw [if_neg h,if_neg (by omega)]
theorem EF (p:Int) (hp:p % 32=0) (s:ByteArray) (hs:s.size=32):lA p (eC s)=s:=by
 refine fH (by rw [oY,hs]) fun i hi => ?_
 rw [oY] at hi
 unfold lA
 rw [lR _ _ _ hi,ll,hs,xm p hp s i hi hs 32 zY,if_pos hi]
def jC (x:ByteArray) (p:Int) (mask s:ByteArray):ByteArray:=lF x p.toNat 32 (iH mask s)
theorem Ep (s:ByteArray) : ∀ b ∈ eC s,0≤b∧b<256:=by
 intro b hb
 have:=List.all_eq_true.1 (nC s) b hb
 unfold isByte at this
 simpa using this
theorem nT {c:Core} {p:Int} {j:iE} (he:c.en=true) (hp:2048≤p):c.dO p j={ c with aZ:=some { j with left:=c.busy.headD 8 },busy:=c.busy.drop 1 }:=by
 unfold Core.dO
 rw [if_neg (by rw [he];decide),if_neg (by simp;intro;omega)]
theorem wW {b:List Int} (h : ∀ y ∈ b,1≤y∧y≤400):1≤b.headD 8∧b.headD 8≤400:=by
 cases b with
 | nil=>simp
 | cons y r=>exact h y (by simp)
theorem yW {m:aG} {x:ByteArray} (h:Calm m x) (p:Int) (s:ByteArray) (h0:2048≤p) (h1:p<4096) (hp:p % 32=0) (hs:s.size=32):eV m (m.gZ p s).2 (m.gZ p s).1 (Calm (m.gZ p s).1 (jC x p ⟨#[255]⟩ s)) (fun y=>y=x ∨ ∃ mask,y=jC x p mask s):=by
 have k6:=gh (b:=6) (at_:=0) (ys:=[]) (read:=0) h.qi (by decide) h.leave (Fz (c:={ m.ar.core with aD:=false }) rfl h.bP) rfl
 unfold aG.gZ
 rcases oJ h k6 with ⟨e1,e2,r,b⟩ | ⟨e1,e2,t,l⟩
 case inr=>rw [if_pos (by rw [e1];decide)];exact .inr ⟨e1,t.mono fun y e=>.inl e,l⟩
 rw [if_neg (by rw [e1];decide)]
 have k2:=gh (b:=2) (at_:=p) (ys:=eC s) (read:=0) r (by decide) (by intro e;cases e) (MJ (c:={ m.ar.core with aD:=false,en:=true }) p (eC s) (by omega) h1 (by rw [ll];omega) (Ep s) rfl h.aZ) (by rw [nT rfl h0])
 rw [nT rfl h0] at k2
 have hbusy:=wW (show ∀ y ∈ ({ m.ar.core with aD:=false,en:=true }:Core).busy,1≤y∧y≤400 from h.busy)
 rcases k2 with ⟨f1,f2,g⟩ | ⟨f1,f2,r2,b2⟩
 ·
  rw [if_pos (by rw [f1];decide)]
  refine .inr ⟨f1,(mQ g h.aZ h.bq h.bk).mono fun y e=>.inl (e.trans h.cells),?_⟩
  rcases Int.lt_or_le m.left 0 with hl | hl
  ·
   have:=b hl;have:=g.left;omega
  ·
   exact hl
 ·
  rw [if_neg (by rw [f1];decide)]
  have hpo:p - p % 32=p:=by omega
  have hjc : ∀ l sp mask,cK ⟨-1,p - p % 32,lA p (eC s),l,sp⟩ x mask=jC x p mask s:=fun l sp mask=>by
   unfold cK jC
   rw [if_pos rfl,EF p hp s hs,hpo,hs]
  have hw:=Kj 255 1 _ _ _ r2 rfl rfl rfl hbusy.1 (Int.le_trans hbusy.2 (by decide)) h.bq h.bk
  refine eV.next (b.trans b2) (hw.mono (fun hr => ?_) (fun y hy=>.inr ?_))
  ·
   refine Calm.of hr ?_ h.bq h.bk rfl (fun y hy=>h.busy y (List.mem_of_mem_drop hy))
   rw [← hjc (m.ar.busy.headD 8) false,← h.cells]
   rfl
  ·
   obtain ⟨mask,e⟩:=hy
   refine ⟨mask,e.trans ?_⟩
   rw [← hjc (m.ar.busy.headD 8) false,← h.cells]
   rfl
def jq (x:ByteArray) (p:Int) (s:ByteArray):ByteArray:=jC (jC x p ⟨#[255]⟩ (s.extract 0 32)) (p+32) ⟨#[255]⟩ (s.extract 32 64)
def sN (x:ByteArray) (p:Int) (s y:ByteArray):Prop:=y=x∨(∃ mask,y=jC x p mask (s.extract 0 32)) ∨ ∃ mask,y=jC (jC x p ⟨#[255]⟩ (s.extract 0 32)) (p+32) mask (s.extract 32 64)
theorem yU {m:aG} {x:ByteArray} (h:Calm m x) (p:Int) (s:ByteArray) (h0:2048≤p) (h1:p<4064) (hp:p % 32=0) (hs:s.size=64):eV m (m.dZ p s).2 (m.dZ p s).1 (Calm (m.dZ p s).1 (jq x p s)) (sN x p s):=by
 have k:=yW h p (s.extract 0 32) h0 (by omega) hp (by simp [hs])
 unfold aG.dZ
 rcases k with ⟨e,c,b⟩ | ⟨e,t,l⟩
 ·
  rw [if_neg (by rw [e];decide)]
  refine eV.next b ((yW c (p+32) (s.extract 32 64) (by omega) (by omega) (by omega) (by simp [hs])).mono id fun y hy => ?_)
  rcases hy with hy | hy
  ·
   exact .inr (.inl ⟨_,hy⟩)
  ·
   exact .inr (.inr hy)
 ·
  rw [if_pos (by rw [e];decide)]
  exact .inr ⟨e,t.mono fun y hy=>hy.elim .inl (fun h=>.inr (.inl h)),l⟩
theorem ub (c:Core) (op:gF) (hop:op=ak 107∨op=ak 235) (p:Int) (h0:0≤p) (n:Nat) (hn:p+n≤4096):eE (comes c op p 0 n)=mk n fun i=>bt c.cells (p.toNat+i):=by
 refine fH (by rw [fh,eJ];simp [comes]) fun i hi => ?_
 rw [fh] at hi
 have hi':i<n:=by simpa [comes] using hi
 rw [lR _ _ _ hi']
 have e:(K c op 6 0 p 0 false [] 0 0 0).eM ((0:Int)+i)=((bt c.cells (p.toNat+i)).toNat:Int):=by
  have hm:((p+(0+(i:Int))) % 4096).toNat=p.toNat+i:=by omega
  rcases hop with rfl | rfl <;> simp only [ag.eM,K,ak,fN,Option.getD] <;> simp <;> simpa using congrArg (fun k=>((bt c.cells k).toNat:Int)) hm
 unfold eE bytesOf bt comes
 simp only [List.map_map]
 have hlt:=(bt c.cells (p.toNat+i)).toNat_lt
 rw [Array.getD_eq_getD_getElem?]
 simp only [List.getElem?_toArray,List.getElem?_map,List.getElem?_range hi',Option.map_some,Option.getD_some,Function.comp,e]
 unfold byteOf
 have:((((bt c.cells (p.toNat+i)).toNat:Int)) % 256).toNat=(bt c.cells (p.toNat+i)).toNat:=by omega
 rw [this]
 simp [bt]
theorem D0 {m:aG} {x:ByteArray} (h:Calm m x) (p:Int) (n:Nat) (h0:0≤p) (hn:0<n) (h1:p+n≤4096):eV m (m.cT p n).2.2 (m.cT p n).1 (Calm (m.cT p n).1 x∧(m.cT p n).2.1=mk n fun i=>bt x (p.toNat+i)) (fun y=>y=x):=by
 have k:=gh (b:=107) (at_:=p) (ys:=[]) (read:=n) h.qi (by decide) h.leave (KL (c:={ m.ar.core with aD:=false }) p n h0 (by omega) hn rfl h.bk h.bP) rfl
 unfold aG.cT
 rcases oJ h k with ⟨e1,e2,r,b⟩ | ⟨e1,e2,t,l⟩
 ·
  rw [if_pos e1]
  refine .inl ⟨rfl,⟨Calm.of r h.cells h.bq h.bk h.aZ h.busy,?_⟩,b⟩
  simp only [e2]
  rw [ub _ _ (.inl rfl) p h0 n h1]
  show mk n (fun i=>bt m.ar.cells (p.toNat+i))=_
  rw [h.cells]
 ·
  rw [if_neg (by rw [e1];decide)]
  exact .inr ⟨e1,t,l⟩
theorem Ih (c:Core):eE (comes c (ak 90) 0 0 32)=bn:=by
 refine fH (by rw [fh];rfl) fun i hi => ?_
 rw [fh] at hi
 have hi':i<32:=by simpa [comes] using hi
 have e:(K c (ak 90) 6 0 0 0 false [] 0 0 0).eM ((0:Int)+i)=((bt bn i).toNat:Int):=by
  have hm:((0+(0+(i:Int))) % 32).toNat=i:=by omega
  simp only [ag.eM,K,ak,fN,Option.getD]
  simpa using congrArg (fun k=>((bt bn k).toNat:Int)) hm
 unfold eE bytesOf comes
 conv=>lhs;unfold bt
 simp only [List.map_map]
 have hlt:=(bt bn i).toNat_lt
 rw [Array.getD_eq_getD_getElem?]
 simp only [List.getElem?_toArray,List.getElem?_map,List.getElem?_range hi',Option.map_some,Option.getD_some,Function.comp,e]
 unfold byteOf
 have:((((bt bn i).toNat:Int)) % 256).toNat=(bt bn i).toNat:=by omega
 rw [this]
 simp
theorem wi {m:aG} {x:ByteArray} (h:Calm m x):m.kS∧eV m m.dV.2 m.dV.1 (Calm m.dV.1 x) (fun y=>y=x):=by
 have k:=gh (b:=159) (at_:=0) (ys:=[]) (read:=3) h.qi (by decide) h.leave (KO (c:={ m.ar.core with aD:=false }) rfl h.bP) rfl
 have kk : ∀ m1:aG,Calm m1 x→vO m1 m1.ar.core (m1.run 90 0 [] 32) (comes m1.ar.core (ak 90) 0 0 32) { m1.ar.core with aD:=false }:=fun m1 h1=>gh (b:=90) (at_:=0) (ys:=[]) (read:=32) h1.qi (by decide) h1.leave (L5 (c:={ m1.ar.core with aD:=false }) rfl h1.bP) rfl
 rcases oJ h k with ⟨e1,e2,r,b⟩ | ⟨e1,e2,t,l⟩
 ·
  have c1:Calm (m.run 159 0 [] 3).1 x:=Calm.of r h.cells h.bq h.bk h.aZ h.busy
  have k2:=kk _ c1
  unfold aG.dV
  rw [if_pos e1]
  rcases oJ c1 k2 with ⟨f1,f2,r2,b2⟩ | ⟨f1,f2,t2,l2⟩
  ·
   refine ⟨⟨fun _=>e2,fun _ _=>by rw [f2];exact Ih _⟩,.inl ⟨f1,Calm.of r2 c1.cells c1.bq c1.bk c1.aZ c1.busy,b.trans b2⟩⟩
  ·
   refine ⟨⟨fun _=>e2,fun _ e=>by rw [f1] at e;cases e⟩,eV.next b (.inr ⟨f1,t2,l2⟩)⟩
 ·
  unfold aG.dV
  rw [if_neg (by rw [e1];decide)]
  exact ⟨⟨fun e=>absurd (e1.symm.trans e) (by decide),fun e=>absurd (e1.symm.trans e) (by decide)⟩,.inr ⟨e1,t,l⟩⟩
end
section
structure Has (x img:ByteArray):Prop where
 size:x.size=4096
 same : ∀ i,i<2048→bt x i=bt img i
def Cache.dg (q:Cache) (img:ByteArray):Prop := ∀ x:Int,0≤x→x<2048→(q.find x).2=true→(q.find x).1=((bt img x.toNat).toNat:Int)
theorem zz (img:ByteArray):Cache.new.dg img:=fun x h0 h1 h=>by
 unfold Cache.find Cache.new aM at h
 simp only at h
 rw [if_neg (by omega),if_neg (by omega)] at h
 cases h
theorem pN {img s:ByteArray} {x y:Int} (hs : ∀ i,i<16→bt s i=bt img ((aM x).toNat+i)) (h0:0≤y) (e:aM x=aM y):bt s (fY y)=bt img y.toNat:=by
 have ho:fY y<16:=by unfold fY;omega
 rw [hs _ ho,e]
 congr 1
 unfold aM fY
 omega
theorem Er {q:Cache} (g:q.Good) {img s:ByteArray} {x:Int} (h:q.dg img) (h0:0≤x) (hs : ∀ i,i<16→bt s i=bt img ((aM x).toNat+i)):(q.keep (aM x) s).dg img∧(q.keep (aM x) s).find x=(((bt img x.toNat).toNat:Int),true):=by
 have put0 : ∀ n,(q.put 0 (aM x) s n).dg img∧(q.put 0 (aM x) s n).find x=(((bt img x.toNat).toNat:Int),true):=fun n=>by
  refine ⟨fun y y0 y1 hy => ?_,?_⟩
  ·
   unfold Cache.find Cache.put at hy ⊢
   simp only [if_true] at hy ⊢
   by_cases e:aM x=aM y
   ·
    rw [if_pos e,pN hs y0 e]
   ·
    rw [if_neg e] at hy ⊢
    by_cases e1:q.a1=aM y
    ·
     rw [if_pos e1]
     have:=h y y0 y1
     unfold Cache.find at this
     rw [if_neg,if_pos e1] at this
     ·
      exact this rfl
     ·
      intro e0
      have hp:0≤aM y:=by unfold aM;omega
      exact g.ne (by omega) (e1.trans e0.symm)
    ·
     rw [if_neg e1] at hy;cases hy
  ·
   unfold Cache.find Cache.put
   simp only [if_true]
   rw [pN hs h0 rfl]
 have put1 : ∀ n,q.a0≠aM x→(q.put 1 (aM x) s n).dg img∧(q.put 1 (aM x) s n).find x=(((bt img x.toNat).toNat:Int),true):=fun n hn=>by
  refine ⟨fun y y0 y1 hy => ?_,?_⟩
  ·
   unfold Cache.find Cache.put at hy ⊢
   simp only [show ¬((1:Nat)=0) by decide,if_false] at hy ⊢
   by_cases e0:q.a0=aM y
   ·
    rw [if_pos e0]
    have:=h y y0 y1
    unfold Cache.find at this
    rw [if_pos e0] at this
    exact this rfl
   ·
    rw [if_neg e0] at hy ⊢
    by_cases e:aM x=aM y
    ·
     rw [if_pos e,pN hs y0 e]
    ·
     rw [if_neg e] at hy;cases hy
  ·
   unfold Cache.find Cache.put
   simp only [show ¬((1:Nat)=0) by decide,if_false]
   rw [if_neg hn,if_pos trivial,pN hs h0 rfl]
 unfold Cache.keep
 split
 ·
  exact put0 _
 ·
  rename_i hn
  split
  ·
   exact put1 _ hn
  ·
   split
   ·
    exact put0 _
   ·
    exact put1 _ hn
structure sR (m:aG) (c:Core):Prop where
 qi:gl m c
 bP:c.bP=false
 bq:c.bq=true
 bk:c.bk=true
 left : ∀ j,c.aZ=some j→1≤j.left
def Core.yG (c:Core) (y:ByteArray):Prop:=match c.aZ with | none=>y=c.cells | some j => ∃ mask,y=cK j c.cells mask
theorem mF {m m':aG} {c:Core} (g:IE m c m') (hp:c.bq=true) (hq:c.bk=true) (hl : ∀ j,c.aZ=some j→1≤j.left):yg m' c.yG:=by
 cases hj:c.aZ with
 | none=>exact (mQ g hj hp hq).mono fun y e=>by unfold Core.yG;rw [hj];exact e
 | some j=>exact (sI g hj (hl j hj) hp hq).mono fun y e=>by unfold Core.yG;rw [hj];exact e
theorem JC {m:aG} {c:Core} {q:Cache} {img:ByteArray} {x:Int} (h:sR m c) (hx:Has c.cells img) (g:q.Good) (hq:q.dg img) (h0:0≤x) (h1:x<2048):eV m (fc m q x).2.2 (fc m q x).1 (sR (fc m q x).1 { c with aD:=true }∧(fc m q x).2.1.Good∧(fc m q x).2.1.dg img∧(fc m q x).2.1.find x=(((bt img x.toNat).toNat:Int),true)) c.yG:=by
 have hf:0≤aM x∧aM x+16≤2048∧aM x % 16=0:=by unfold aM;omega
 have hst:({ c with aD:=false }:Core).still:=ef h.bP
 have k:=mM h.qi (fun _=>⟨h.bk,h.bP⟩)
 rw [fC hst,fC hst] at k
 unfold fc
 rcases k with ⟨e1,e2,gg⟩ | ⟨e1,e2,r,b⟩
 ·
  rw [if_pos (by rw [e1];decide)]
  exact .inr ⟨e1,mF gg h.bq h.bk h.left,gg.left⟩
 have hev : ¬((m.run 5 0 [] 1).2.1.headD 0 % 2≠0):=by
  rw [e2,List.headD_cons]
  have:=iY { c with aD:=false }
  rw [show ({ c with aD:=false }:Core).bP=false from h.bP] at this
  simpa using this
 rw [if_neg (by rw [e1];decide),if_neg hev]
 have k2:=J4 (p:=aM x) r h.bk h.bP hf.1 (by omega)
 rcases k2 with ⟨f1,f2,gg⟩ | ⟨f1,f2,r2,b2⟩
 ·
  rw [if_pos (by rw [f1];decide)]
  have t:yg ((m.run 5 0 [] 1).1.run 235 (aM x) [160] 16).1 c.yG:=mF (c:={ c with aD:=false }) gg h.bq h.bk h.left
  exact eV.next b (.inr ⟨f1,t,gg.left⟩)
 ·
  rw [if_neg (by rw [f1];decide)]
  have hs : ∀ i,i<16→bt (eE ((m.run 5 0 [] 1).1.run 235 (aM x) [160] 16).2.1) i=bt img ((aM x).toNat+i):=fun i hi=>by
   rw [f2,ub _ _ (.inr rfl) (aM x) hf.1 16 (by omega),lR _ _ _ hi]
   exact hx.same _ (by omega)
  have hk:=Er g hq h0 hs
  have hsz:(eE ((m.run 5 0 [] 1).1.run 235 (aM x) [160] 16).2.1).size=16:=by rw [fh,f2];rfl
  exact .inl ⟨rfl,⟨⟨r2,h.bP,h.bq,h.bk,h.left⟩,zv g _ _ hf.1 (by omega) hf.2.2 hsz,hk.1,hk.2⟩,b.trans b2⟩
def oH (img:ByteArray) (at_:Int):Nat→Nat→Int→Int
 | 0,_,y=>y
 | n+1,j,y=>oH img at_ n (j+1) (bits .or .i64 y (yx ((bt img (at_+j).toNat).toNat:Int) j))
theorem tE {img:ByteArray} : ∀ (n j:Nat) (y:Int) (m:aG) (q:Cache) (at_:Int) (c:Core),sR m c→Has c.cells img→q.Good→q.dg img→0≤at_→at_+j+n≤2048→eV m (fy n j y m q at_).2.2.2 (fy n j y m q at_).1 ((∃ g,sR (fy n j y m q at_).1 { c with aD:=g })∧(fy n j y m q at_).2.1.Good∧(fy n j y m q at_).2.1.dg img∧(fy n j y m q at_).2.2.1=oH img at_ n j y) c.yG
 | 0,j,y,m,q,at_,c,h,hx,g,hq,h0,h1=>.inl ⟨rfl,⟨⟨c.aD,h⟩,g,hq,rfl⟩,id⟩
 | n+1,j,y,m,q,at_,c,h,hx,g,hq,h0,h1=>by
  unfold fy
  have ha:0≤at_+(j:Int)∧at_+(j:Int)<2048:=by omega
  by_cases hfd:(q.find (at_+j)).2=true
  ·
   rw [if_pos hfd,hq _ ha.1 ha.2 hfd]
   exact tE n (j+1) _ m q at_ c h hx g hq h0 (by omega)
  ·
   rw [if_neg hfd]
   rcases JC h hx g hq ha.1 ha.2 with ⟨e,⟨l1,l2,l3,l4⟩,b⟩ | ⟨e,t,l⟩
   ·
    rw [if_neg (by rw [e];decide)]
    rw [l4]
    have:=tE n (j+1) (bits .or .i64 y (yx ((bt img (at_+j).toNat).toNat:Int) j)) _ _ at_ { c with aD:=true } l1 hx l2 l3 h0 (by omega)
    exact eV.next b this
   ·
    rw [if_pos (by rw [e];decide)]
    exact .inr ⟨e,t,l⟩
theorem xy {m:aG} {c:Core} {q:Cache} {img:ByteArray} {at_ width:Int} (h:sR m c) (hx:Has c.cells img) (g:q.Good) (hq:q.dg img) (hr:fO at_ width=true):eV m (bH m q at_ width).2.2.2 (bH m q at_ width).1 ((∃ g,sR (bH m q at_ width).1 { c with aD:=g })∧(bH m q at_ width).2.1.Good∧(bH m q at_ width).2.1.dg img∧(bH m q at_ width).2.2.1=oH img at_ width.toNat 0 0) c.yG:=by
 unfold bH
 rw [if_pos hr]
 unfold fO at hr
 simp at hr
 exact tE width.toNat 0 0 m q at_ c h hx g hq (by omega) (by omega)
theorem KC (x:UInt8):bits .or .i64 0 (yx (x.toNat:Int) 0)=(x.toNat:Int):=by
 have hx:=x.toNat_lt
 have:=nA 0 x.toNat (by decide) (by omega)
 unfold yx
 simp only [Nat.mul_zero,Int.pow_zero,Int.mul_one,gE]
 simpa using this
def lk (img:ByteArray) (x:Int):Int:=((bt img x.toNat).toNat:Int)
theorem FW (img:ByteArray) (x:Int):oH img x (1:Int).toNat 0 0=lk img x:=by
 show bits .or .i64 0 (yx ((bt img (x+((0:Nat):Int)).toNat).toNat:Int) 0)=_
 rw [KC]
 simp [lk]
theorem rZ {x:Int} (h0:0≤x) (h1:x<2048):fO x 1=true:=by
 unfold fO
 simp
 omega
theorem Lo {m:aG} {c:Core} {q:Cache} {img:ByteArray} {x:Int} {left out:List Int} (h:sR m c) (hx:Has c.cells img) (g:q.Good) (hq:q.dg img) (h0:0≤x) (h1:x<2048):eV m (eQ m q x left out).2.2.2.2 (eQ m q x left out).1 ((∃ g,sR (eQ m q x left out).1 { c with aD:=g })∧(eQ m q x left out).2.1.Good∧(eQ m q x left out).2.1.dg img∧(eQ m q x left out).2.2.1=left∧(eQ m q x left out).2.2.2.1=out++[lk img x]) c.yG:=by
 have k:=xy h hx g hq (rZ h0 h1)
 rw [FW] at k
 unfold eQ
 rcases k with ⟨e,⟨l1,l2,l3,l4⟩,b⟩ | ⟨e,t,l⟩
 ·
  rw [if_neg (by rw [e];decide)]
  exact .inl ⟨rfl,⟨l1,l2,l3,rfl,by simp only [l4]⟩,b⟩
 ·
  rw [if_pos (by rw [e];decide)]
  exact .inr ⟨e,t,l⟩
theorem xB {img:ByteArray} : ∀ (l out:List Int) (m:aG) (q:Cache) (c:Core),sR m c→Has c.cells img→q.Good→q.dg img→(∀ x ∈ l,0≤x∧x<2048)→eV m (dG l out m q).2.2.2 (dG l out m q).1 ((∃ g,sR (dG l out m q).1 { c with aD:=g })∧(dG l out m q).2.1.Good∧(dG l out m q).2.1.dg img∧(dG l out m q).2.2.1=out++l.map (lk img)) c.yG
 | [],out,m,q,c,h,hx,g,hq,_=>.inl ⟨rfl,⟨⟨c.aD,h⟩,g,hq,by simp [dG]⟩,id⟩
 | x::l,out,m,q,c,h,hx,g,hq,hl=>by
  obtain ⟨x0,x1⟩:=hl x (by simp)
  have k:=xy h hx g hq (rZ x0 x1)
  rw [FW] at k
  unfold dG
  rcases k with ⟨e,⟨⟨gg,l1⟩,l2,l3,l4⟩,b⟩ | ⟨e,t,l⟩
  ·
   rw [if_neg (by rw [e];decide),l4]
   have:=xB l (out++[lk img x]) _ _ { c with aD:=gg } l1 hx l2 l3 (fun y hy=>hl y (by simp [hy]))
   refine eV.next b (this.mono (fun ⟨a1,a2,a3,a4⟩=>⟨a1,a2,a3,?_⟩) fun y hy=>hy)
   rw [a4]
   simp
  ·
   rw [if_pos (by rw [e];decide)]
   exact .inr ⟨e,t,l⟩
structure BA (c:Core) (B:Int):Prop where
 aD:c.aD=false
 bq:c.bq=true
 bk:c.bk=true
 aZ : ∀ j,c.aZ=some j→j.hZ=false∧1≤j.left∧j.left≤B∧j.av ≠ -1
def Core.fin (c:Core):Core:=match c.aZ with | none=>c | some j=>c.done j
theorem kN {c:Core} {B:Int} (h:BA c B) (k:Nat):BA (c.bD k) (B - k)∧(c.bD k).fin=c.fin∧(∀ y,(c.bD k).yG y→c.yG y)∧(∀ img,Has c.cells img→(∀ j,c.aZ=some j→4≤j.av)→Has (c.bD k).cells img)∧(c.bD k).busy=c.busy:=by
 cases hj:c.aZ with
 | none =>
  rw [eu hj]
  exact ⟨⟨h.aD,h.bq,h.bk,fun j e=>by rw [hj] at e;cases e⟩,rfl,fun y h=>h,fun img h _=>h,rfl⟩
 | some j =>
  obtain ⟨h1,h2,h3,h4⟩:=h.aZ j hj
  rcases Int.lt_or_le (k:Int) j.left with hk | hk
  ·
   rw [mJ hj h1 k hk]
   refine ⟨⟨h.aD,h.bq,h.bk,fun j' e => ?_⟩,?_,?_,fun img h _=>h,rfl⟩
   ·
    obtain rfl:({ j with left:=j.left - k }:iE)=j':=by simpa using e
    exact ⟨h1,by show 1≤j.left - k;omega,by show j.left - k≤_;omega,h4⟩
   ·
    show _=Core.fin c
    unfold Core.fin
    rw [hj]
    rfl
   ·
    intro y hy
    unfold Core.yG
    rw [hj]
    exact hy
  ·
   rw [jc hj h1 h2 k hk]
   refine ⟨⟨h.aD,h.bq,h.bk,fun j' e=>by cases e⟩,?_,?_,fun img hx hs => ?_,rfl⟩
   ·
    show _=Core.fin c
    unfold Core.fin
    rw [hj]
    rfl
   ·
    intro y hy
    unfold Core.yG
    rw [hj]
    exact ⟨_,hy⟩
   ·
    have h5:=hs j rfl
    show Has (cK j c.cells ⟨#[255]⟩) img
    unfold cK
    rw [if_neg h4]
    refine ⟨by unfold lF;rw [eJ];exact hx.size,fun i hi => ?_⟩
    unfold lF
    rw [lR _ _ _ (by rw [hx.size];omega),if_neg (by omega)]
    exact hx.same i hi
theorem Fj {c:Core} (h:c.bP=false) {B:Int} (r:BA c B):c.aZ=none:=by
 cases hj:c.aZ with
 | none=>rfl
 | some j =>
  have:=(r.aZ j hj).1
  unfold Core.bP eT at h
  rw [hj] at h
  simp [this] at h
theorem uM {c:Core} {B:Int} (r:BA c B) (g:Bool):({ ({ c.bN with aD:=g }:Core) with aD:=false }:Core).gM=c:=by
 unfold Core.bN Core.gM
 obtain ⟨a,b,d,e,f,aZ,bu⟩:=c
 cases aZ with
 | none=>have:=r.aD;simp only at this ⊢;rw [this]
 | some j =>
  obtain ⟨h1,_,_,h4⟩:=r.aZ j rfl
  have:=r.aD
  simp only at this ⊢
  rw [if_neg h4,this,← h1]
theorem Ip {c:Core} {B:Int} (r:BA c B) {m:aG} (h:gl m c.bN):sR m c.bN:=by
 have e:c.bN.bP=false∧c.bN.bq=true∧c.bN.bk=true ∧ ∀ j,c.bN.aZ=some j→1≤j.left:=by
  unfold Core.bN
  cases hj:c.aZ with
  | none=>exact ⟨by simp only;unfold Core.bP eT;rw [hj],r.bq,r.bk,fun j e=>by rw [hj] at e;cases e⟩
  | some j =>
   obtain ⟨h1,h2,_,h4⟩:=r.aZ j hj
   simp only
   rw [if_neg h4]
   refine ⟨by simp [Core.bP,eT],r.bq,r.bk,fun j' e => ?_⟩
   obtain rfl:({ j with hZ:=true }:iE)=j':=by simpa using e
   exact h2
 exact ⟨h,e.1,e.2.1,e.2.2.1,e.2.2.2⟩
theorem Dp {c:Core} (y:ByteArray) (h:c.bN.yG y):c.yG y:=by
 obtain ⟨a,b,d,e,f,aZ,bu⟩:=c
 cases aZ with
 | none=>exact h
 | some j =>
  by_cases hs:j.av = -1
  ·
   simpa [Core.bN,hs] using h
  ·
   have e1:(⟨a,b,d,e,f,some j,bu⟩:Core).bN=⟨a,b,d,e,f,some { j with hZ:=true },bu⟩:=by simp [Core.bN,hs]
   rw [e1] at h
   exact h
theorem E6 (c:Core):c.bN.cells=c.cells:=by
 unfold Core.bN
 split
 ·
  split <;> rfl
 ·
  rfl
theorem Db {c:Core} (hs : ∀ j,c.aZ=some j→4≤j.av) (k:Nat) : ∀ j,(c.bD k).aZ=some j→4≤j.av:=by
 induction k generalizing c with
 | zero=>exact hs
 | succ k ih =>
  refine ih (c:=c.pass) fun j hj => ?_
  unfold Core.pass at hj
  cases hjc:c.aZ with
  | none=>rw [hjc] at hj;simp only at hj;rw [hjc] at hj;cases hj
  | some j' =>
   rw [hjc] at hj
   simp only at hj
   split at hj
   ·
    rw [hjc] at hj;exact hs j (hjc.trans hj)
   ·
    split at hj
    ·
     cases hj
    ·
     obtain rfl:({ j' with left:=j'.left - 1 }:iE)=j:=by simpa using hj
     exact hs j' hjc
theorem Iw {img:ByteArray} : ∀ (N:Nat) (m:aG) (q:Cache) (left out:List Int) (c:Core),gl m c→BA c (16 * N+9)→Has c.cells img→(∀ j,c.aZ=some j→4≤j.av)→q.Good→q.dg img→(∀ x ∈ left,0≤x∧x<2048)→eV m (cM (N+1) m q left out).2.2.2.2 (cM (N+1) m q left out).1 (gl (cM (N+1) m q left out).1 c.fin∧(cM (N+1) m q left out).2.1.Good∧(cM (N+1) m q left out).2.1.dg img ∧ ∃ l1,left=l1++(cM (N+1) m q left out).2.2.1∧(cM (N+1) m q left out).2.2.2.1=out++l1.map (lk img)) c.yG:=by
 intro N
 induction N with
 | zero =>
  intro m q left out c h r hx hs g hq hl
  have hgo:({ c with aD:=false }:Core)=c:=by rw [← r.aD]
  have k:=mM h (by rw [r.aD];intro e;cases e)
  rw [hgo] at k
  have h9:(c.bD 9).aZ=none:=by
   cases hj:c.aZ with
   | none=>rw [eu hj];exact hj
   | some j =>
    obtain ⟨h1,h2,h3,h4⟩:=r.aZ j hj
    rw [jc hj h1 h2 9 (by have:j.left≤9:=h3;omega)]
    rfl
  unfold cM aG.dp
  rcases k with ⟨e1,e2,gg⟩ | ⟨e1,e2,rr,b⟩
  ·
   rw [if_pos (by rw [e1];decide)]
   exact .inr ⟨e1,mF gg r.bq r.bk (fun j hj=>(r.aZ j hj).2.1),gg.left⟩
  ·
   rw [if_neg (by rw [e1];decide),if_pos (by rw [e1,e2,List.headD_cons,iY];unfold Core.bP eT;rw [h9];rfl)]
   have e16:c.bD 16=c.fin:=by
    rw [show 16=9+7 from rfl,iC,eu h9]
    have:=(kN r 9).2.1
    rw [← this]
    unfold Core.fin
    rw [h9]
   rw [e16] at rr
   exact .inl ⟨rfl,⟨rr,g,hq,[],rfl,by simp⟩,b⟩
 | succ N ih =>
  intro m q left out c h r hx hs g hq hl
  have hgo:({ c with aD:=false }:Core)=c:=by rw [← r.aD]
  have k:=mM h (by rw [r.aD];intro e;cases e)
  rw [hgo] at k
  unfold cM aG.dp
  rcases k with ⟨e1,e2,gg⟩ | ⟨e1,e2,rr,b⟩
  ·
   rw [if_pos (by rw [e1];decide)]
   exact .inr ⟨e1,mF gg r.bq r.bk (fun j hj=>(r.aZ j hj).2.1),gg.left⟩
  rw [if_neg (by rw [e1];decide)]
  cases hw:(c.bD 9).bP with
  | false =>
   have h9:=Fj hw (kN r 9).1
   rw [if_pos (by rw [e1,e2,List.headD_cons,iY,hw];rfl)]
   have e16:c.bD 16=c.fin:=by
    rw [show 16=9+7 from rfl,iC,eu h9]
    have:=(kN r 9).2.1
    rw [← this]
    unfold Core.fin
    rw [h9]
   rw [e16] at rr
   exact .inl ⟨rfl,⟨rr,g,hq,[],rfl,by simp⟩,b⟩
  | true =>
   rw [if_neg (by rw [e1,e2,List.headD_cons,iY,hw];simp)]
   obtain ⟨p1,p2,p3,p4,p5⟩:=kN r 16
   have p1':BA (c.bD 16) (16 * N+9):=⟨p1.aD,p1.bq,p1.bk,fun j hj=>by
    obtain ⟨a,b,d,e⟩:=p1.aZ j hj
    exact ⟨a,b,by omega,e⟩⟩
   have s16:=Db hs 16
   have x16:=p4 img hx hs
   cases left with
   | nil =>
    have:=ih (m.run 5 0 [] 1).1 q [] out (c.bD 16) rr p1' x16 s16 g hq (by simp)
    rw [p2] at this
    exact eV.next b (this.mono id p3)
   | cons x l =>
    obtain ⟨x0,x1⟩:=hl x (by simp)
    have k2:=gh (b:=117) (at_:=0) (ys:=[]) (read:=0) rr (by decide) (by rw [p1.aD];intro e;cases e) (by
     have hgo:({ c.bD 16 with aD:=false }:Core)=c.bD 16:=by rw [← p1.aD]
     rw [hgo]
     exact KM p1.aD) (by
     have:=(kN p1 8).1.aD
     unfold Core.bN
     split
     ·
      split <;> exact this
     ·
      exact this)
    obtain ⟨t1,t2,t3,t4,t5⟩:=kN p1' 8
    have s24:=Db s16 8
    have x24:=t4 img x16 s16
    generalize hc2:(c.bD 16).bD 8=c2 at *
    have mayAll : ∀ y,c2.yG y→c.yG y:=fun y hy=>p3 y (t3 y hy)
    simp only
    rcases k2 with ⟨f1,f2,gg⟩ | ⟨f1,f2,r3,b3⟩
    ·
     have e:(eg (m.run 5 0 [] 1).1 q x l out)=(((m.run 5 0 [] 1).1.run 117 0 [] 0).1,q,x::l,out,((m.run 5 0 [] 1).1.run 117 0 [] 0).2.2):=by
      unfold eg;rw [if_pos (by rw [f1];decide)]
     rw [e]
     simp only
     rw [if_pos (by rw [f1];decide)]
     exact eV.next b (.inr ⟨f1,(mF gg p1.bq p1.bk (fun j hj=>(p1.aZ j hj).2.1)).mono p3,gg.left⟩)
    ·
     have hh:=Ip t1 r3
     have k3:=Lo (left:=l) (out:=out) hh (by rw [E6];exact x24) g hq x0 x1
     rcases k3 with ⟨d1,⟨⟨g4,l1⟩,l2,l3,l4,l5⟩,b4⟩ | ⟨d1,t,lf⟩
     ·
      have hc2g:c2.bN.aD=false:=by
       have:=t1.aD
       unfold Core.bN
       split
       ·
        split <;> exact this
       ·
        exact this
      have k5:=gh (b:=122) (at_:=0) (ys:=[]) (read:=0) l1.qi (by decide) (fun _=>⟨l1.bk,l1.bP⟩) (KN (c:={ ({ c2.bN with aD:=g4 }:Core) with aD:=false }) rfl l1.bP) (by rw [uM t1 g4];exact t1.aD)
      rw [uM t1 g4] at k5
      have e:(eg (m.run 5 0 [] 1).1 q x l out)=(((eQ ((m.run 5 0 [] 1).1.run 117 0 [] 0).1 q x l out).1.run 122 0 [] 0).1,(eQ ((m.run 5 0 [] 1).1.run 117 0 [] 0).1 q x l out).2.1,(eQ ((m.run 5 0 [] 1).1.run 117 0 [] 0).1 q x l out).2.2.1,(eQ ((m.run 5 0 [] 1).1.run 117 0 [] 0).1 q x l out).2.2.2.1,((eQ ((m.run 5 0 [] 1).1.run 117 0 [] 0).1 q x l out).1.run 122 0 [] 0).2.2):=by
       unfold eg
       rw [if_neg (by rw [f1];decide),if_neg (by rw [d1];decide)]
      rw [e]
      simp only
      rcases k5 with ⟨u1,u2,gg⟩ | ⟨u1,u2,r5,b5⟩
      ·
       rw [if_pos (by rw [u1];decide)]
       exact eV.next ((b.trans b3).trans b4) (.inr ⟨u1,(mF gg l1.bq l1.bk l1.left).mono fun y hy=>mayAll y (Dp y hy),gg.left⟩)
      ·
       rw [if_neg (by rw [u1];decide),l4,l5]
       have t1':BA c2 (16 * N+9):=⟨t1.aD,t1.bq,t1.bk,fun j hj=>by
        obtain ⟨a,b,d,e⟩:=t1.aZ j hj
        exact ⟨a,b,by omega,e⟩⟩
       have:=ih _ _ l (out++[lk img x]) c2 r5 t1' x24 s24 l2 l3 (fun y hy=>hl y (by simp [hy]))
       refine eV.next (((b.trans b3).trans b4).trans b5) (this.mono (fun ⟨a1,a2,a3,l1',a4,a5⟩=>⟨?_,a2,a3,x::l1',?_,?_⟩) mayAll)
       ·
        rw [t2,p2] at a1;exact a1
       ·
        rw [List.cons_append,← a4]
       ·
        rw [a5];simp
     ·
      have e:(eg (m.run 5 0 [] 1).1 q x l out)=eQ ((m.run 5 0 [] 1).1.run 117 0 [] 0).1 q x l out:=by
       unfold eg
       rw [if_neg (by rw [f1];decide),if_pos (by rw [d1];decide)]
      rw [e,if_pos (by rw [d1];decide)]
      exact eV.next (b.trans b3) (.inr ⟨d1,t.mono fun y hy=>mayAll y (Dp y hy),lf⟩)
end
end Go.Proofs.YtcfdenckiigdaaaGreat

/- Part 19 of the contracts. -/
import Derived.Test.YtcfdenckiigdaaaGreatBu17
import Derived.Test.YtcfdenckiigdaaaGreatBu18
set_option linter.unusedVariables false
set_option maxRecDepth 100000
set_option maxHeartbeats 4000000
namespace Go.Proofs.YtcfdenckiigdaaaGreat
open Tryz Go.RowKit
structure Calm (m:aB) (x:ByteArray):Prop where
 lost:m.lost=false
 dJ:m.an.dJ=false
 aA:m.aA=m.an.aA
 cells:m.an.cells=x
 bn:m.an.bn=true
 aZ:m.an.aZ=true
 aW:m.an.aW=none
 busy : ∀ y ∈ m.an.busy,1≤y∧y≤400
theorem Calm.pF {m:aB} {x:ByteArray} (h:Calm m x):fP m m.an.core:=⟨h.lost,h.dJ,rfl,h.aA⟩
theorem Calm.of {m:aB} {c:Core} {x:ByteArray} (h:fP m c) (h1:c.cells=x) (h2:c.bn=true) (h3:c.aZ=true) (h4:c.aW=none) (h5 : ∀ y ∈ c.busy,1≤y∧y≤400):Calm m x:=by
 have e:=h.core
 subst e
 exact ⟨h.lost,h.dJ,h.aA,h1,h2,h3,h4,h5⟩
theorem Calm.bO {m:aB} {x:ByteArray} (h:Calm m x):m.an.core.bO=false:=by unfold Core.bO eJ;rw [show m.an.core.aW=none from h.aW]
def eM (m:aB) (e:Int) (m':aB) (D:Prop) (S:ByteArray→Prop):Prop:=(e=0∧D∧fN m m')∨(e=1101∧xo m' S∧0≤m.left)
theorem eM.mono {m:aB} {e:Int} {m':aB} {D D':Prop} {S S':ByteArray→Prop} (h:eM m e m' D S) (hD:D→D') (hS : ∀ x,S x→S' x):eM m e m' D' S' :=
 h.elim (fun h=>.inl ⟨h.1,hD h.2.1,h.2.2⟩) (fun h=>.inr ⟨h.1,h.2.1.mono hS,h.2.2⟩)
theorem eM.next {m m1 m2:aB} {e:Int} {D:Prop} {S:ByteArray→Prop} (hB:fN m m1) (h:eM m1 e m2 D S):eM m e m2 D S :=
 h.elim (fun h=>.inl ⟨h.1,h.2.1,hB.trans h.2.2⟩) (fun h=>.inr ⟨h.1,h.2.1,by
  rcases Int.lt_or_le m.left 0 with hl | hl
  ·
   have:=hB hl;have:=h.2.2;omega
  ·
   exact hl⟩)
theorem nI {m:aB} {x:ByteArray} {r:aB×List Int×Int} {xs:List Int} {c':Core} (h:Calm m x) (k:u3 m m.an.core r xs c'):(r.2.2=0∧r.2.1=xs∧fP r.1 c'∧fN m r.1)∨(r.2.2=1101∧r.2.1=[]∧xo r.1 (fun y=>y=x)∧0≤m.left):=by
 rcases k with ⟨e1,e2,g⟩ | ⟨e1,e2,g,b⟩
 ·
  exact .inr ⟨e1,e2,(mf g h.aW h.bn h.aZ).mono fun y e=>e.trans h.cells,g.left⟩
 ·
  exact .inl ⟨e1,e2,g,b⟩
theorem Calm.leave {m:aB} {x:ByteArray} (h:Calm m x):m.an.core.aA=true→m.an.core.aZ=true∧m.an.core.bO=false:=fun _=>⟨h.aZ,h.bO⟩
theorem iJ (c:Core):(c.first % 2 != 0)=c.bO:=by
 unfold Core.first CZ
 cases c.bO <;> cases c.en <;> cases c.bn <;> rfl
theorem l9 {m:aB} {c:Core} (h:fP m c) (hl:c.aA=true→c.aZ=true∧c.bO=false):u3 m c (m.run 5 0 [] 1) [(Core.bC 9 { c with aA:=false }).first] (Core.bC 16 { c with aA:=false }) :=
 fL h (by decide) hl (KC rfl) (by
  have : ∀ k (c:Core),c.aA=false→(Core.bC k c).aA=false:=by
   intro k
   induction k with
   | zero=>intro c h;exact h
   | succ k ih =>
    intro c h
    refine ih _ ?_
    unfold Core.pass
    split
    ·
     exact h
    ·
     split
     ·
      exact h
     ·
      split <;> exact h
  exact this _ _ rfl)
theorem Gu {m:aB} {c:Core} (N:Nat) (n:Int) (h:fP m c) (hg:c.aA=false) (hj:c.aW=none) (hp:c.bn=true) (hq:c.aZ=true):eM m (aB.gC (N+1) n m).2.2 (aB.gC (N+1) n m).1 (fP (aB.gC (N+1) n m).1 c) (fun y=>y=c.cells):=by
 have hgo:({ c with aA:=false }:Core)=c:=by rw [← hg]
 have k:=l9 h (by rw [hg];intro e;cases e)
 rw [hgo,dW hj,dW hj] at k
 unfold aB.gC aB.cZ
 rcases k with ⟨e1,e2,g⟩ | ⟨e1,e2,r,b⟩
 ·
  rw [if_pos (by rw [e1];decide)]
  exact .inr ⟨e1,mf g hj hp hq,g.left⟩
 ·
  rw [if_neg (by rw [e1];decide),if_pos]
  ·
   exact .inl ⟨rfl,r,b⟩
  ·
   rw [e1,e2,List.headD_cons,iJ]
   unfold Core.bO eJ
   rw [hj];rfl
theorem I4 : ∀ (N:Nat) (n:Int) (m:aB) (c:Core) (j:ie),fP m c→c.aA=false→c.aW=some j→j.gO=false→1≤j.left→j.left≤16 * N+9→c.bn=true→c.aZ=true→eM m (aB.gC (N+1) n m).2.2 (aB.gC (N+1) n m).1 (fP (aB.gC (N+1) n m).1 (c.done j)) (fun y => ∃ mask,y=cB j c.cells mask):=by
 intro N
 induction N with
 | zero =>
  intro n m c j h hg hj hs h1 hl hp hq
  have hgo:({ c with aA:=false }:Core)=c:=by rw [← hg]
  have k:=l9 h (by rw [hg];intro e;cases e)
  rw [hgo,iL hj hs h1 9 (by omega),iL hj hs h1 16 (by omega)] at k
  unfold aB.gC aB.cZ
  rcases k with ⟨e1,e2,g⟩ | ⟨e1,e2,r,b⟩
  ·
   rw [if_pos (by rw [e1];decide)]
   exact .inr ⟨e1,rS g hj h1 hp hq,g.left⟩
  ·
   rw [if_neg (by rw [e1];decide),if_pos]
   ·
    exact .inl ⟨rfl,r,b⟩
   ·
    rw [e1,e2,List.headD_cons,iJ];rfl
 | succ N ih =>
  intro n m c j h hg hj hs h1 hl hp hq
  have hgo:({ c with aA:=false }:Core)=c:=by rw [← hg]
  have k:=l9 h (by rw [hg];intro e;cases e)
  rw [hgo] at k
  unfold aB.gC aB.cZ
  rcases Int.lt_or_le 9 j.left with h9 | h9
  ·
   rw [l7 hj hs 9 (by omega)] at k
   rcases k with ⟨e1,e2,g⟩ | ⟨e1,e2,r,b⟩
   ·
    rw [if_pos (by rw [e1];decide)]
    exact .inr ⟨e1,rS g hj h1 hp hq,g.left⟩
   ·
    rw [if_neg (by rw [e1];decide),if_neg]
    ·
     rcases Int.lt_or_le 16 j.left with h16 | h16
     ·
      rw [l7 hj hs 16 (by omega)] at r
      have:=ih (n+1) (m.run 5 0 [] 1).1 { c with aW:=some { j with left:=j.left - 16 } } { j with left:=j.left - 16 } r hg rfl hs (by show 1≤j.left - 16;omega) (by show j.left - 16≤_;omega) hp hq
      exact this.next b
     ·
      rw [iL hj hs h1 16 (by omega)] at r
      have:=Gu N (n+1) r hg rfl hp hq
      refine eM.next b (this.mono id fun y e=>⟨⟨#[255]⟩,e⟩)
    ·
     rw [e1,e2,List.headD_cons,iJ]
     unfold Core.bO eJ
     simp [hs]
  ·
   rw [iL hj hs h1 9 (by omega),iL hj hs h1 16 (by omega)] at k
   rcases k with ⟨e1,e2,g⟩ | ⟨e1,e2,r,b⟩
   ·
    rw [if_pos (by rw [e1];decide)]
    exact .inr ⟨e1,rS g hj h1 hp hq,g.left⟩
   ·
    rw [if_neg (by rw [e1];decide),if_pos]
    ·
     exact .inl ⟨rfl,r,b⟩
    ·
     rw [e1,e2,List.headD_cons,iJ];rfl
theorem vY (p:Int) (hp:p % 32=0) (s:ByteArray) (i:Nat) (hi:i<32) (hs:s.size=32) : ∀ n,n≤32→kG p (eg s) n i=if i<n then bt s i else 255
 | 0,_=>rfl
 | n+1,hn=>by
  unfold kG
  rw [vY p hp s i hi hs n (by omega)]
  have hm:(p+(n:Int)) % 32=n:=by omega
  rw [hm]
  by_cases e:n=i
  ·
   subst e
   have hg:(eg s).getD n 0=((bt s n).toNat:Int):=by
    unfold eg
    simp [List.getD,hs,hi]
   have hlt:=(bt s n).toNat_lt
   rw [if_pos rfl,if_pos (Nat.lt_succ_self n),hg]
   have:((((bt s n).toNat:Int)) % 256).toNat=(bt s n).toNat:=by omega
   rw [this]
   simp
  ·
   rw [if_neg (by omega)]
   by_cases h:i<n
   ·
    rw [if_pos h,if_pos (by omega)]
   ·
    rw [if_neg h,if_neg (by omega)]
theorem DH (p:Int) (hp:p % 32=0) (s:ByteArray) (hs:s.size=32):kH p (eg s)=s:=by
 refine fm (by rw [oh,hs]) fun i hi => ?_
 rw [oh] at hi
 unfold kH
 rw [kY _ _ _ hi,ky,hs,vY p hp s i hi hs 32 zY,if_pos hi]
def jj (x:ByteArray) (p:Int) (mask s:ByteArray):ByteArray:=kL x p.toNat 32 (il mask s)
theorem Dt (s:ByteArray) : ∀ b ∈ eg s,0≤b∧b<256:=by
 intro b hb
 have:=List.all_eq_true.1 (mL s) b hb
 unfold isByte at this
 simpa using this
theorem nc {c:Core} {p:Int} {j:ie} (he:c.en=true) (hp:2048≤p):c.dG p j={ c with aW:=some { j with left:=c.busy.headD 8 },busy:=c.busy.drop 1 }:=by
 unfold Core.dG
 rw [if_neg (by rw [he];decide),if_neg (by simp;intro;omega)]
theorem vK {b:List Int} (h : ∀ y ∈ b,1≤y∧y≤400):1≤b.headD 8∧b.headD 8≤400:=by
 cases b with
 | nil=>simp
 | cons y r=>exact h y (by simp)
theorem yi {m:aB} {x:ByteArray} (h:Calm m x) (p:Int) (s:ByteArray) (h0:2048≤p) (h1:p<4096) (hp:p % 32=0) (hs:s.size=32):eM m (m.gM p s).2 (m.gM p s).1 (Calm (m.gM p s).1 (jj x p ⟨#[255]⟩ s)) (fun y=>y=x ∨ ∃ mask,y=jj x p mask s):=by
 have k6:=fL (b:=6) (at_:=0) (ys:=[]) (read:=0) h.pF (by decide) h.leave (Eo (c:={ m.an.core with aA:=false }) rfl h.bO) rfl
 unfold aB.gM
 rcases nI h k6 with ⟨e1,e2,r,b⟩ | ⟨e1,e2,t,l⟩
 case inr=>rw [if_pos (by rw [e1];decide)];exact .inr ⟨e1,t.mono fun y e=>.inl e,l⟩
 rw [if_neg (by rw [e1];decide)]
 have k2:=fL (b:=2) (at_:=p) (ys:=eg s) (read:=0) r (by decide) (by intro e;cases e) (Ly (c:={ m.an.core with aA:=false,en:=true }) p (eg s) (by omega) h1 (by rw [ky];omega) (Dt s) rfl h.aW) (by rw [nc rfl h0])
 rw [nc rfl h0] at k2
 have hbusy:=vK (show ∀ y ∈ ({ m.an.core with aA:=false,en:=true }:Core).busy,1≤y∧y≤400 from h.busy)
 rcases k2 with ⟨f1,f2,g⟩ | ⟨f1,f2,r2,b2⟩
 ·
  rw [if_pos (by rw [f1];decide)]
  refine .inr ⟨f1,(mf g h.aW h.bn h.aZ).mono fun y e=>.inl (e.trans h.cells),?_⟩
  rcases Int.lt_or_le m.left 0 with hl | hl
  ·
   have:=b hl;have:=g.left;omega
  ·
   exact hl
 ·
  rw [if_neg (by rw [f1];decide)]
  have hpo:p - p % 32=p:=by omega
  have hjc : ∀ l sp mask,cB ⟨-1,p - p % 32,kH p (eg s),l,sp⟩ x mask=jj x p mask s:=fun l sp mask=>by
   unfold cB jj
   rw [if_pos rfl,DH p hp s hs,hpo,hs]
  have hw:=I4 255 1 _ _ _ r2 rfl rfl rfl hbusy.1 (Int.le_trans hbusy.2 (by decide)) h.bn h.aZ
  refine eM.next (b.trans b2) (hw.mono (fun hr => ?_) (fun y hy=>.inr ?_))
  ·
   refine Calm.of hr ?_ h.bn h.aZ rfl (fun y hy=>h.busy y (List.mem_of_mem_drop hy))
   rw [← hjc (m.an.busy.headD 8) false,← h.cells]
   rfl
  ·
   obtain ⟨mask,e⟩:=hy
   refine ⟨mask,e.trans ?_⟩
   rw [← hjc (m.an.busy.headD 8) false,← h.cells]
   rfl
def ir (x:ByteArray) (p:Int) (s:ByteArray):ByteArray:=jj (jj x p ⟨#[255]⟩ (s.extract 0 32)) (p+32) ⟨#[255]⟩ (s.extract 32 64)
def rW (x:ByteArray) (p:Int) (s y:ByteArray):Prop:=y=x∨(∃ mask,y=jj x p mask (s.extract 0 32)) ∨ ∃ mask,y=jj (jj x p ⟨#[255]⟩ (s.extract 0 32)) (p+32) mask (s.extract 32 64)
theorem yg {m:aB} {x:ByteArray} (h:Calm m x) (p:Int) (s:ByteArray) (h0:2048≤p) (h1:p<4064) (hp:p % 32=0) (hs:s.size=64):eM m (m.dR p s).2 (m.dR p s).1 (Calm (m.dR p s).1 (ir x p s)) (rW x p s):=by
 have k:=yi h p (s.extract 0 32) h0 (by omega) hp (by simp [hs])
 unfold aB.dR
 rcases k with ⟨e,c,b⟩ | ⟨e,t,l⟩
 ·
  rw [if_neg (by rw [e];decide)]
  refine eM.next b ((yi c (p+32) (s.extract 32 64) (by omega) (by omega) (by omega) (by simp [hs])).mono id fun y hy => ?_)
  rcases hy with hy | hy
  ·
   exact .inr (.inl ⟨_,hy⟩)
  ·
   exact .inr (.inr hy)
 ·
  rw [if_pos (by rw [e];decide)]
  exact .inr ⟨e,t.mono fun y hy=>hy.elim .inl (fun h=>.inr (.inl h)),l⟩
theorem te (c:Core) (op:gh) (hop:op=al 107∨op=al 235) (p:Int) (h0:0≤p) (n:Nat) (hn:p+n≤4096):eu (comes c op p 0 n)=mk n fun i=>bt c.cells (p.toNat+i):=by
 refine fm (by rw [eS,ey];simp [comes]) fun i hi => ?_
 rw [eS] at hi
 have hi':i<n:=by simpa [comes] using hi
 rw [kY _ _ _ hi']
 have e:(K c op 6 0 p 0 false [] 0 0 0).eC ((0:Int)+i)=((bt c.cells (p.toNat+i)).toNat:Int):=by
  have hm:((p+(0+(i:Int))) % 4096).toNat=p.toNat+i:=by omega
  rcases hop with rfl | rfl <;> simp only [af.eC,K,al,fx,Option.getD] <;> simp <;> simpa using congrArg (fun k=>((bt c.cells k).toNat:Int)) hm
 unfold eu bytesOf bt comes
 simp only [List.map_map]
 have hlt:=(bt c.cells (p.toNat+i)).toNat_lt
 rw [Array.getD_eq_getD_getElem?]
 simp only [List.getElem?_toArray,List.getElem?_map,List.getElem?_range hi',Option.map_some,Option.getD_some,Function.comp,e]
 unfold byteOf
 have:((((bt c.cells (p.toNat+i)).toNat:Int)) % 256).toNat=(bt c.cells (p.toNat+i)).toNat:=by omega
 rw [this]
 simp [bt]
theorem C4 {m:aB} {x:ByteArray} (h:Calm m x) (p:Int) (n:Nat) (h0:0≤p) (hn:0<n) (h1:p+n≤4096):eM m (m.cK p n).2.2 (m.cK p n).1 (Calm (m.cK p n).1 x∧(m.cK p n).2.1=mk n fun i=>bt x (p.toNat+i)) (fun y=>y=x):=by
 have k:=fL (b:=107) (at_:=p) (ys:=[]) (read:=n) h.pF (by decide) h.leave (Jy (c:={ m.an.core with aA:=false }) p n h0 (by omega) hn rfl h.aZ h.bO) rfl
 unfold aB.cK
 rcases nI h k with ⟨e1,e2,r,b⟩ | ⟨e1,e2,t,l⟩
 ·
  rw [if_pos e1]
  refine .inl ⟨rfl,⟨Calm.of r h.cells h.bn h.aZ h.aW h.busy,?_⟩,b⟩
  simp only [e2]
  rw [te _ _ (.inl rfl) p h0 n h1]
  show mk n (fun i=>bt m.an.cells (p.toNat+i))=_
  rw [h.cells]
 ·
  rw [if_neg (by rw [e1];decide)]
  exact .inr ⟨e1,t,l⟩
theorem Gd (c:Core):eu (comes c (al 90) 0 0 32)=bh:=by
 refine fm (by rw [eS];rfl) fun i hi => ?_
 rw [eS] at hi
 have hi':i<32:=by simpa [comes] using hi
 have e:(K c (al 90) 6 0 0 0 false [] 0 0 0).eC ((0:Int)+i)=((bt bh i).toNat:Int):=by
  have hm:((0+(0+(i:Int))) % 32).toNat=i:=by omega
  simp only [af.eC,K,al,fx,Option.getD]
  simpa using congrArg (fun k=>((bt bh k).toNat:Int)) hm
 unfold eu bytesOf comes
 conv=>lhs;unfold bt
 simp only [List.map_map]
 have hlt:=(bt bh i).toNat_lt
 rw [Array.getD_eq_getD_getElem?]
 simp only [List.getElem?_toArray,List.getElem?_map,List.getElem?_range hi',Option.map_some,Option.getD_some,Function.comp,e]
 unfold byteOf
 have:((((bt bh i).toNat:Int)) % 256).toNat=(bt bh i).toNat:=by omega
 rw [this]
 simp
theorem vo {m:aB} {x:ByteArray} (h:Calm m x):m.kh∧eM m m.dN.2 m.dN.1 (Calm m.dN.1 x) (fun y=>y=x):=by
 have k:=fL (b:=159) (at_:=0) (ys:=[]) (read:=3) h.pF (by decide) h.leave (JB (c:={ m.an.core with aA:=false }) rfl h.bO) rfl
 have kk : ∀ m1:aB,Calm m1 x→u3 m1 m1.an.core (m1.run 90 0 [] 32) (comes m1.an.core (al 90) 0 0 32) { m1.an.core with aA:=false }:=fun m1 h1=>fL (b:=90) (at_:=0) (ys:=[]) (read:=32) h1.pF (by decide) h1.leave (KR (c:={ m1.an.core with aA:=false }) rfl h1.bO) rfl
 rcases nI h k with ⟨e1,e2,r,b⟩ | ⟨e1,e2,t,l⟩
 ·
  have c1:Calm (m.run 159 0 [] 3).1 x:=Calm.of r h.cells h.bn h.aZ h.aW h.busy
  have k2:=kk _ c1
  unfold aB.dN
  rw [if_pos e1]
  rcases nI c1 k2 with ⟨f1,f2,r2,b2⟩ | ⟨f1,f2,t2,l2⟩
  ·
   refine ⟨⟨fun _=>e2,fun _ _=>by rw [f2];exact Gd _⟩,.inl ⟨f1,Calm.of r2 c1.cells c1.bn c1.aZ c1.aW c1.busy,b.trans b2⟩⟩
  ·
   refine ⟨⟨fun _=>e2,fun _ e=>by rw [f1] at e;cases e⟩,eM.next b (.inr ⟨f1,t2,l2⟩)⟩
 ·
  unfold aB.dN
  rw [if_neg (by rw [e1];decide)]
  exact ⟨⟨fun e=>absurd (e1.symm.trans e) (by decide),fun e=>absurd (e1.symm.trans e) (by decide)⟩,.inr ⟨e1,t,l⟩⟩
structure Has (x img:ByteArray):Prop where
 size:x.size=4096
 same : ∀ i,i<2048→bt x i=bt img i
def Cache.cV (q:Cache) (img:ByteArray):Prop := ∀ x:Int,0≤x→x<2048→(q.find x).2=true→(q.find x).1=((bt img x.toNat).toNat:Int)
theorem yJ (img:ByteArray):Cache.new.cV img:=fun x h0 h1 h=>by
 unfold Cache.find Cache.new aH at h
 simp only at h
 rw [if_neg (by omega),if_neg (by omega)] at h
 cases h
theorem oR {img s:ByteArray} {x y:Int} (hs : ∀ i,i<16→bt s i=bt img ((aH x).toNat+i)) (h0:0≤y) (e:aH x=aH y):bt s (fI y)=bt img y.toNat:=by
 have ho:fI y<16:=by unfold fI;omega
 rw [hs _ ho,e]
 congr 1
 unfold aH fI
 omega
theorem Du {q:Cache} (g:q.Good) {img s:ByteArray} {x:Int} (h:q.cV img) (h0:0≤x) (hs : ∀ i,i<16→bt s i=bt img ((aH x).toNat+i)):(q.keep (aH x) s).cV img∧(q.keep (aH x) s).find x=(((bt img x.toNat).toNat:Int),true):=by
 have put0 : ∀ n,(q.put 0 (aH x) s n).cV img∧(q.put 0 (aH x) s n).find x=(((bt img x.toNat).toNat:Int),true):=fun n=>by
  refine ⟨fun y y0 y1 hy => ?_,?_⟩
  ·
   unfold Cache.find Cache.put at hy ⊢
   simp only [if_true] at hy ⊢
   by_cases e:aH x=aH y
   ·
    rw [if_pos e,oR hs y0 e]
   ·
    rw [if_neg e] at hy ⊢
    by_cases e1:q.a1=aH y
    ·
     rw [if_pos e1]
     have:=h y y0 y1
     unfold Cache.find at this
     rw [if_neg,if_pos e1] at this
     ·
      exact this rfl
     ·
      intro e0
      have hp:0≤aH y:=by unfold aH;omega
      exact g.ne (by omega) (e1.trans e0.symm)
    ·
     rw [if_neg e1] at hy;cases hy
  ·
   unfold Cache.find Cache.put
   simp only [if_true]
   rw [oR hs h0 rfl]
 have put1 : ∀ n,q.a0≠aH x→(q.put 1 (aH x) s n).cV img∧(q.put 1 (aH x) s n).find x=(((bt img x.toNat).toNat:Int),true):=fun n hn=>by
  refine ⟨fun y y0 y1 hy => ?_,?_⟩
  ·
   unfold Cache.find Cache.put at hy ⊢
   simp only [show ¬((1:Nat)=0) by decide,if_false] at hy ⊢
   by_cases e0:q.a0=aH y
   ·
    rw [if_pos e0]
    have:=h y y0 y1
    unfold Cache.find at this
    rw [if_pos e0] at this
    exact this rfl
   ·
    rw [if_neg e0] at hy ⊢
    by_cases e:aH x=aH y
    ·
     rw [if_pos e,oR hs y0 e]
    ·
     rw [if_neg e] at hy;cases hy
  ·
   unfold Cache.find Cache.put
   simp only [show ¬((1:Nat)=0) by decide,if_false]
   rw [if_neg hn,if_pos trivial,oR hs h0 rfl]
 unfold Cache.keep
 split
 ·
  exact put0 _
 ·
  rename_i hn
  split
  ·
   exact put1 _ hn
  ·
   split
   ·
    exact put0 _
   ·
    exact put1 _ hn
structure r7 (m:aB) (c:Core):Prop where
 pF:fP m c
 bO:c.bO=false
 bn:c.bn=true
 aZ:c.aZ=true
 left : ∀ j,c.aW=some j→1≤j.left
def Core.xP (c:Core) (y:ByteArray):Prop:=match c.aW with | none=>y=c.cells | some j => ∃ mask,y=cB j c.cells mask
theorem lW {m m':aB} {c:Core} (g:GB m c m') (hp:c.bn=true) (hq:c.aZ=true) (hl : ∀ j,c.aW=some j→1≤j.left):xo m' c.xP:=by
 cases hj:c.aW with
 | none=>exact (mf g hj hp hq).mono fun y e=>by unfold Core.xP;rw [hj];exact e
 | some j=>exact (rS g hj (hl j hj) hp hq).mono fun y e=>by unfold Core.xP;rw [hj];exact e
theorem Ih {m:aB} {c:Core} {q:Cache} {img:ByteArray} {x:Int} (h:r7 m c) (hx:Has c.cells img) (g:q.Good) (hq:q.cV img) (h0:0≤x) (h1:x<2048):eM m (eP m q x).2.2 (eP m q x).1 (r7 (eP m q x).1 { c with aA:=true }∧(eP m q x).2.1.Good∧(eP m q x).2.1.cV img∧(eP m q x).2.1.find x=(((bt img x.toNat).toNat:Int),true)) c.xP:=by
 have hf:0≤aH x∧aH x+16≤2048∧aH x % 16=0:=by unfold aH;omega
 have hst:({ c with aA:=false }:Core).still:=dS h.bO
 have k:=l9 h.pF (fun _=>⟨h.aZ,h.bO⟩)
 rw [fi hst,fi hst] at k
 unfold eP
 rcases k with ⟨e1,e2,gg⟩ | ⟨e1,e2,r,b⟩
 ·
  rw [if_pos (by rw [e1];decide)]
  exact .inr ⟨e1,lW gg h.bn h.aZ h.left,gg.left⟩
 have hev : ¬((m.run 5 0 [] 1).2.1.headD 0 % 2≠0):=by
  rw [e2,List.headD_cons]
  have:=iJ { c with aA:=false }
  rw [show ({ c with aA:=false }:Core).bO=false from h.bO] at this
  simpa using this
 rw [if_neg (by rw [e1];decide),if_neg hev]
 have k2:=IL (p:=aH x) r h.aZ h.bO hf.1 (by omega)
 rcases k2 with ⟨f1,f2,gg⟩ | ⟨f1,f2,r2,b2⟩
 ·
  rw [if_pos (by rw [f1];decide)]
  have t:xo ((m.run 5 0 [] 1).1.run 235 (aH x) [160] 16).1 c.xP:=lW (c:={ c with aA:=false }) gg h.bn h.aZ h.left
  exact eM.next b (.inr ⟨f1,t,gg.left⟩)
 ·
  rw [if_neg (by rw [f1];decide)]
  have hs : ∀ i,i<16→bt (eu ((m.run 5 0 [] 1).1.run 235 (aH x) [160] 16).2.1) i=bt img ((aH x).toNat+i):=fun i hi=>by
   rw [f2,te _ _ (.inr rfl) (aH x) hf.1 16 (by omega),kY _ _ _ hi]
   exact hx.same _ (by omega)
  have hk:=Du g hq h0 hs
  have hsz:(eu ((m.run 5 0 [] 1).1.run 235 (aH x) [160] 16).2.1).size=16:=by rw [eS,f2];rfl
  exact .inl ⟨rfl,⟨⟨r2,h.bO,h.bn,h.aZ,h.left⟩,yF g _ _ hf.1 (by omega) hf.2.2 hsz,hk.1,hk.2⟩,b.trans b2⟩
def nF (img:ByteArray) (at_:Int):Nat→Nat→Int→Int
 | 0,_,y=>y
 | n+1,j,y=>nF img at_ n (j+1) (bits .or .i64 y (xH ((bt img (at_+j).toNat).toNat:Int) j))
theorem sJ {img:ByteArray} : ∀ (n j:Nat) (y:Int) (m:aB) (q:Cache) (at_:Int) (c:Core),r7 m c→Has c.cells img→q.Good→q.cV img→0≤at_→at_+j+n≤2048→eM m (fe n j y m q at_).2.2.2 (fe n j y m q at_).1 ((∃ g,r7 (fe n j y m q at_).1 { c with aA:=g })∧(fe n j y m q at_).2.1.Good∧(fe n j y m q at_).2.1.cV img∧(fe n j y m q at_).2.2.1=nF img at_ n j y) c.xP
 | 0,j,y,m,q,at_,c,h,hx,g,hq,h0,h1=>.inl ⟨rfl,⟨⟨c.aA,h⟩,g,hq,rfl⟩,id⟩
 | n+1,j,y,m,q,at_,c,h,hx,g,hq,h0,h1=>by
  unfold fe
  have ha:0≤at_+(j:Int)∧at_+(j:Int)<2048:=by omega
  by_cases hfd:(q.find (at_+j)).2=true
  ·
   rw [if_pos hfd,hq _ ha.1 ha.2 hfd]
   exact sJ n (j+1) _ m q at_ c h hx g hq h0 (by omega)
  ·
   rw [if_neg hfd]
   rcases Ih h hx g hq ha.1 ha.2 with ⟨e,⟨l1,l2,l3,l4⟩,b⟩ | ⟨e,t,l⟩
   ·
    rw [if_neg (by rw [e];decide)]
    rw [l4]
    have:=sJ n (j+1) (bits .or .i64 y (xH ((bt img (at_+j).toNat).toNat:Int) j)) _ _ at_ { c with aA:=true } l1 hx l2 l3 h0 (by omega)
    exact eM.next b this
   ·
    rw [if_pos (by rw [e];decide)]
    exact .inr ⟨e,t,l⟩
theorem wy {m:aB} {c:Core} {q:Cache} {img:ByteArray} {at_ width:Int} (h:r7 m c) (hx:Has c.cells img) (g:q.Good) (hq:q.cV img) (hr:fA at_ width=true):eM m (bF m q at_ width).2.2.2 (bF m q at_ width).1 ((∃ g,r7 (bF m q at_ width).1 { c with aA:=g })∧(bF m q at_ width).2.1.Good∧(bF m q at_ width).2.1.cV img∧(bF m q at_ width).2.2.1=nF img at_ width.toNat 0 0) c.xP:=by
 unfold bF
 rw [if_pos hr]
 unfold fA at hr
 simp at hr
 exact sJ width.toNat 0 0 m q at_ c h hx g hq (by omega) (by omega)
theorem Jo (x:UInt8):bits .or .i64 0 (xH (x.toNat:Int) 0)=(x.toNat:Int):=by
 have hx:=x.toNat_lt
 have:=mJ 0 x.toNat (by decide) (by omega)
 unfold xH
 simp only [Nat.mul_zero,Int.pow_zero,Int.mul_one,gf]
 simpa using this
def gK (img:ByteArray) (x:Int):Int:=((bt img x.toNat).toNat:Int)
theorem Aa (img:ByteArray) (x:Int):nF img x (1:Int).toNat 0 0=gK img x:=by
 show bits .or .i64 0 (xH ((bt img (x+((0:Nat):Int)).toNat).toNat:Int) 0)=_
 rw [Jo]
 simp [gK]
theorem mS {x:Int} (h0:0≤x) (h1:x<2048):fA x 1=true:=by
 unfold fA
 simp
 omega
theorem J7 {m:aB} {c:Core} {q:Cache} {img:ByteArray} {x:Int} {left out:List Int} (h:r7 m c) (hx:Has c.cells img) (g:q.Good) (hq:q.cV img) (h0:0≤x) (h1:x<2048):eM m (eE m q x left out).2.2.2.2 (eE m q x left out).1 ((∃ g,r7 (eE m q x left out).1 { c with aA:=g })∧(eE m q x left out).2.1.Good∧(eE m q x left out).2.1.cV img∧(eE m q x left out).2.2.1=left∧(eE m q x left out).2.2.2.1=out++[gK img x]) c.xP:=by
 have k:=wy h hx g hq (mS h0 h1)
 rw [Aa] at k
 unfold eE
 rcases k with ⟨e,⟨l1,l2,l3,l4⟩,b⟩ | ⟨e,t,l⟩
 ·
  rw [if_neg (by rw [e];decide)]
  exact .inl ⟨rfl,⟨l1,l2,l3,rfl,by simp only [l4]⟩,b⟩
 ·
  rw [if_pos (by rw [e];decide)]
  exact .inr ⟨e,t,l⟩
theorem wJ {img:ByteArray} : ∀ (l out:List Int) (m:aB) (q:Cache) (c:Core),r7 m c→Has c.cells img→q.Good→q.cV img→(∀ x ∈ l,0≤x∧x<2048)→eM m (dx l out m q).2.2.2 (dx l out m q).1 ((∃ g,r7 (dx l out m q).1 { c with aA:=g })∧(dx l out m q).2.1.Good∧(dx l out m q).2.1.cV img∧(dx l out m q).2.2.1=out++l.map (gK img)) c.xP
 | [],out,m,q,c,h,hx,g,hq,_=>.inl ⟨rfl,⟨⟨c.aA,h⟩,g,hq,by simp [dx]⟩,id⟩
 | x::l,out,m,q,c,h,hx,g,hq,hl=>by
  obtain ⟨x0,x1⟩:=hl x (by simp)
  have k:=wy h hx g hq (mS x0 x1)
  rw [Aa] at k
  unfold dx
  rcases k with ⟨e,⟨⟨gg,l1⟩,l2,l3,l4⟩,b⟩ | ⟨e,t,l⟩
  ·
   rw [if_neg (by rw [e];decide),l4]
   have:=wJ l (out++[gK img x]) _ _ { c with aA:=gg } l1 hx l2 l3 (fun y hy=>hl y (by simp [hy]))
   refine eM.next b (this.mono (fun ⟨a1,a2,a3,a4⟩=>⟨a1,a2,a3,?_⟩) fun y hy=>hy)
   rw [a4]
   simp
  ·
   rw [if_pos (by rw [e];decide)]
   exact .inr ⟨e,t,l⟩
structure AR (c:Core) (B:Int):Prop where
 aA:c.aA=false
 bn:c.bn=true
 aZ:c.aZ=true
 aW : ∀ j,c.aW=some j→j.gO=false∧1≤j.left∧j.left≤B∧j.aq ≠ -1
def Core.fin (c:Core):Core:=match c.aW with | none=>c | some j=>c.done j
theorem ka {c:Core} {B:Int} (h:AR c B) (k:Nat):AR (c.bC k) (B - k)∧(c.bC k).fin=c.fin∧(∀ y,(c.bC k).xP y→c.xP y)∧(∀ img,Has c.cells img→(∀ j,c.aW=some j→4≤j.aq)→Has (c.bC k).cells img)∧(c.bC k).busy=c.busy:=by
 cases hj:c.aW with
 | none =>
  rw [dW hj]
  exact ⟨⟨h.aA,h.bn,h.aZ,fun j e=>by rw [hj] at e;cases e⟩,rfl,fun y h=>h,fun img h _=>h,rfl⟩
 | some j =>
  obtain ⟨h1,h2,h3,h4⟩:=h.aW j hj
  rcases Int.lt_or_le (k:Int) j.left with hk | hk
  ·
   rw [l7 hj h1 k hk]
   refine ⟨⟨h.aA,h.bn,h.aZ,fun j' e => ?_⟩,?_,?_,fun img h _=>h,rfl⟩
   ·
    obtain rfl:({ j with left:=j.left - k }:ie)=j':=by simpa using e
    exact ⟨h1,by show 1≤j.left - k;omega,by show j.left - k≤_;omega,h4⟩
   ·
    show _=Core.fin c
    unfold Core.fin
    rw [hj]
    rfl
   ·
    intro y hy
    unfold Core.xP
    rw [hj]
    exact hy
  ·
   rw [iL hj h1 h2 k hk]
   refine ⟨⟨h.aA,h.bn,h.aZ,fun j' e=>by cases e⟩,?_,?_,fun img hx hs => ?_,rfl⟩
   ·
    show _=Core.fin c
    unfold Core.fin
    rw [hj]
    rfl
   ·
    intro y hy
    unfold Core.xP
    rw [hj]
    exact ⟨_,hy⟩
   ·
    have h5:=hs j rfl
    show Has (cB j c.cells ⟨#[255]⟩) img
    unfold cB
    rw [if_neg h4]
    refine ⟨by unfold kL;rw [ey];exact hx.size,fun i hi => ?_⟩
    unfold kL
    rw [kY _ _ _ (by rw [hx.size];omega),if_neg (by omega)]
    exact hx.same i hi
theorem Eb {c:Core} (h:c.bO=false) {B:Int} (r:AR c B):c.aW=none:=by
 cases hj:c.aW with
 | none=>rfl
 | some j =>
  have:=(r.aW j hj).1
  unfold Core.bO eJ at h
  rw [hj] at h
  simp [this] at h
theorem uc {c:Core} {B:Int} (r:AR c B) (g:Bool):({ ({ c.bM with aA:=g }:Core) with aA:=false }:Core).gv=c:=by
 unfold Core.bM Core.gv
 obtain ⟨a,b,d,e,f,aW,bu⟩:=c
 cases aW with
 | none=>have:=r.aA;simp only at this ⊢;rw [this]
 | some j =>
  obtain ⟨h1,_,_,h4⟩:=r.aW j rfl
  have:=r.aA
  simp only at this ⊢
  rw [if_neg h4,this,← h1]
theorem Gn {c:Core} {B:Int} (r:AR c B) {m:aB} (h:fP m c.bM):r7 m c.bM:=by
 have e:c.bM.bO=false∧c.bM.bn=true∧c.bM.aZ=true ∧ ∀ j,c.bM.aW=some j→1≤j.left:=by
  unfold Core.bM
  cases hj:c.aW with
  | none=>exact ⟨by simp only;unfold Core.bO eJ;rw [hj],r.bn,r.aZ,fun j e=>by rw [hj] at e;cases e⟩
  | some j =>
   obtain ⟨h1,h2,_,h4⟩:=r.aW j hj
   simp only
   rw [if_neg h4]
   refine ⟨by simp [Core.bO,eJ],r.bn,r.aZ,fun j' e => ?_⟩
   obtain rfl:({ j with gO:=true }:ie)=j':=by simpa using e
   exact h2
 exact ⟨h,e.1,e.2.1,e.2.2.1,e.2.2.2⟩
theorem Cv {c:Core} (y:ByteArray) (h:c.bM.xP y):c.xP y:=by
 obtain ⟨a,b,d,e,f,aW,bu⟩:=c
 cases aW with
 | none=>exact h
 | some j =>
  by_cases hs:j.aq = -1
  ·
   simpa [Core.bM,hs] using h
  ·
   have e1:(⟨a,b,d,e,f,some j,bu⟩:Core).bM=⟨a,b,d,e,f,some { j with gO:=true },bu⟩:=by simp [Core.bM,hs]
   rw [e1] at h
   exact h
theorem D1 (c:Core):c.bM.cells=c.cells:=by
 unfold Core.bM
 split
 ·
  split <;> rfl
 ·
  rfl
theorem Cg {c:Core} (hs : ∀ j,c.aW=some j→4≤j.aq) (k:Nat) : ∀ j,(c.bC k).aW=some j→4≤j.aq:=by
 induction k generalizing c with
 | zero=>exact hs
 | succ k ih =>
  refine ih (c:=c.pass) fun j hj => ?_
  unfold Core.pass at hj
  cases hjc:c.aW with
  | none=>rw [hjc] at hj;simp only at hj;rw [hjc] at hj;cases hj
  | some j' =>
   rw [hjc] at hj
   simp only at hj
   split at hj
   ·
    rw [hjc] at hj;exact hs j (hjc.trans hj)
   ·
    split at hj
    ·
     cases hj
    ·
     obtain rfl:({ j' with left:=j'.left - 1 }:ie)=j:=by simpa using hj
     exact hs j' hjc
theorem Gv {img:ByteArray} : ∀ (N:Nat) (m:aB) (q:Cache) (left out:List Int) (c:Core),fP m c→AR c (16 * N+9)→Has c.cells img→(∀ j,c.aW=some j→4≤j.aq)→q.Good→q.cV img→(∀ x ∈ left,0≤x∧x<2048)→eM m (cE (N+1) m q left out).2.2.2.2 (cE (N+1) m q left out).1 (fP (cE (N+1) m q left out).1 c.fin∧(cE (N+1) m q left out).2.1.Good∧(cE (N+1) m q left out).2.1.cV img ∧ ∃ l1,left=l1++(cE (N+1) m q left out).2.2.1∧(cE (N+1) m q left out).2.2.2.1=out++l1.map (gK img)) c.xP:=by
 intro N
 induction N with
 | zero =>
  intro m q left out c h r hx hs g hq hl
  have hgo:({ c with aA:=false }:Core)=c:=by rw [← r.aA]
  have k:=l9 h (by rw [r.aA];intro e;cases e)
  rw [hgo] at k
  have h9:(c.bC 9).aW=none:=by
   cases hj:c.aW with
   | none=>rw [dW hj];exact hj
   | some j =>
    obtain ⟨h1,h2,h3,h4⟩:=r.aW j hj
    rw [iL hj h1 h2 9 (by have:j.left≤9:=h3;omega)]
    rfl
  unfold cE aB.cZ
  rcases k with ⟨e1,e2,gg⟩ | ⟨e1,e2,rr,b⟩
  ·
   rw [if_pos (by rw [e1];decide)]
   exact .inr ⟨e1,lW gg r.bn r.aZ (fun j hj=>(r.aW j hj).2.1),gg.left⟩
  ·
   rw [if_neg (by rw [e1];decide),if_pos (by rw [e1,e2,List.headD_cons,iJ];unfold Core.bO eJ;rw [h9];rfl)]
   have e16:c.bC 16=c.fin:=by
    rw [show 16=9+7 from rfl,ib,dW h9]
    have:=(ka r 9).2.1
    rw [← this]
    unfold Core.fin
    rw [h9]
   rw [e16] at rr
   exact .inl ⟨rfl,⟨rr,g,hq,[],rfl,by simp⟩,b⟩
 | succ N ih =>
  intro m q left out c h r hx hs g hq hl
  have hgo:({ c with aA:=false }:Core)=c:=by rw [← r.aA]
  have k:=l9 h (by rw [r.aA];intro e;cases e)
  rw [hgo] at k
  unfold cE aB.cZ
  rcases k with ⟨e1,e2,gg⟩ | ⟨e1,e2,rr,b⟩
  ·
   rw [if_pos (by rw [e1];decide)]
   exact .inr ⟨e1,lW gg r.bn r.aZ (fun j hj=>(r.aW j hj).2.1),gg.left⟩
  rw [if_neg (by rw [e1];decide)]
  cases hw:(c.bC 9).bO with
  | false =>
   have h9:=Eb hw (ka r 9).1
   rw [if_pos (by rw [e1,e2,List.headD_cons,iJ,hw];rfl)]
   have e16:c.bC 16=c.fin:=by
    rw [show 16=9+7 from rfl,ib,dW h9]
    have:=(ka r 9).2.1
    rw [← this]
    unfold Core.fin
    rw [h9]
   rw [e16] at rr
   exact .inl ⟨rfl,⟨rr,g,hq,[],rfl,by simp⟩,b⟩
  | true =>
   rw [if_neg (by rw [e1,e2,List.headD_cons,iJ,hw];simp)]
   obtain ⟨p1,p2,p3,p4,p5⟩:=ka r 16
   have p1':AR (c.bC 16) (16 * N+9):=⟨p1.aA,p1.bn,p1.aZ,fun j hj=>by
    obtain ⟨a,b,d,e⟩:=p1.aW j hj
    exact ⟨a,b,by omega,e⟩⟩
   have s16:=Cg hs 16
   have x16:=p4 img hx hs
   cases left with
   | nil =>
    have:=ih (m.run 5 0 [] 1).1 q [] out (c.bC 16) rr p1' x16 s16 g hq (by simp)
    rw [p2] at this
    exact eM.next b (this.mono id p3)
   | cons x l =>
    obtain ⟨x0,x1⟩:=hl x (by simp)
    have k2:=fL (b:=117) (at_:=0) (ys:=[]) (read:=0) rr (by decide) (by rw [p1.aA];intro e;cases e) (by
     have hgo:({ c.bC 16 with aA:=false }:Core)=c.bC 16:=by rw [← p1.aA]
     rw [hgo]
     exact Jz p1.aA) (by
     have:=(ka p1 8).1.aA
     unfold Core.bM
     split
     ·
      split <;> exact this
     ·
      exact this)
    obtain ⟨t1,t2,t3,t4,t5⟩:=ka p1' 8
    have s24:=Cg s16 8
    have x24:=t4 img x16 s16
    generalize hc2:(c.bC 16).bC 8=c2 at *
    have mayAll : ∀ y,c2.xP y→c.xP y:=fun y hy=>p3 y (t3 y hy)
    simp only
    rcases k2 with ⟨f1,f2,gg⟩ | ⟨f1,f2,r3,b3⟩
    ·
     have e:(dU (m.run 5 0 [] 1).1 q x l out)=(((m.run 5 0 [] 1).1.run 117 0 [] 0).1,q,x::l,out,((m.run 5 0 [] 1).1.run 117 0 [] 0).2.2):=by
      unfold dU;rw [if_pos (by rw [f1];decide)]
     rw [e]
     simp only
     rw [if_pos (by rw [f1];decide)]
     exact eM.next b (.inr ⟨f1,(lW gg p1.bn p1.aZ (fun j hj=>(p1.aW j hj).2.1)).mono p3,gg.left⟩)
    ·
     have hh:=Gn t1 r3
     have k3:=J7 (left:=l) (out:=out) hh (by rw [D1];exact x24) g hq x0 x1
     rcases k3 with ⟨d1,⟨⟨g4,l1⟩,l2,l3,l4,l5⟩,b4⟩ | ⟨d1,t,lf⟩
     ·
      have hc2g:c2.bM.aA=false:=by
       have:=t1.aA
       unfold Core.bM
       split
       ·
        split <;> exact this
       ·
        exact this
      have k5:=fL (b:=122) (at_:=0) (ys:=[]) (read:=0) l1.pF (by decide) (fun _=>⟨l1.aZ,l1.bO⟩) (JA (c:={ ({ c2.bM with aA:=g4 }:Core) with aA:=false }) rfl l1.bO) (by rw [uc t1 g4];exact t1.aA)
      rw [uc t1 g4] at k5
      have e:(dU (m.run 5 0 [] 1).1 q x l out)=(((eE ((m.run 5 0 [] 1).1.run 117 0 [] 0).1 q x l out).1.run 122 0 [] 0).1,(eE ((m.run 5 0 [] 1).1.run 117 0 [] 0).1 q x l out).2.1,(eE ((m.run 5 0 [] 1).1.run 117 0 [] 0).1 q x l out).2.2.1,(eE ((m.run 5 0 [] 1).1.run 117 0 [] 0).1 q x l out).2.2.2.1,((eE ((m.run 5 0 [] 1).1.run 117 0 [] 0).1 q x l out).1.run 122 0 [] 0).2.2):=by
       unfold dU
       rw [if_neg (by rw [f1];decide),if_neg (by rw [d1];decide)]
      rw [e]
      simp only
      rcases k5 with ⟨u1,u2,gg⟩ | ⟨u1,u2,r5,b5⟩
      ·
       rw [if_pos (by rw [u1];decide)]
       exact eM.next ((b.trans b3).trans b4) (.inr ⟨u1,(lW gg l1.bn l1.aZ l1.left).mono fun y hy=>mayAll y (Cv y hy),gg.left⟩)
      ·
       rw [if_neg (by rw [u1];decide),l4,l5]
       have t1':AR c2 (16 * N+9):=⟨t1.aA,t1.bn,t1.aZ,fun j hj=>by
        obtain ⟨a,b,d,e⟩:=t1.aW j hj
        exact ⟨a,b,by omega,e⟩⟩
       have:=ih _ _ l (out++[gK img x]) c2 r5 t1' x24 s24 l2 l3 (fun y hy=>hl y (by simp [hy]))
       refine eM.next (((b.trans b3).trans b4).trans b5) (this.mono (fun ⟨a1,a2,a3,l1',a4,a5⟩=>⟨?_,a2,a3,x::l1',?_,?_⟩) mayAll)
       ·
        rw [t2,p2] at a1;exact a1
       ·
        rw [List.cons_append,← a4]
       ·
        rw [a5];simp
     ·
      have e:(dU (m.run 5 0 [] 1).1 q x l out)=eE ((m.run 5 0 [] 1).1.run 117 0 [] 0).1 q x l out:=by
       unfold dU
       rw [if_neg (by rw [f1];decide),if_pos (by rw [d1];decide)]
      rw [e,if_pos (by rw [d1];decide)]
      exact eM.next (b.trans b3) (.inr ⟨d1,t.mono fun y hy=>mayAll y (Cv y hy),lf⟩)
def erased (x:ByteArray) (p:Int) (mask:ByteArray):ByteArray:=kL x p.toNat 512 (iE mask)
theorem vF {x img:ByteArray} (h:Has x img) (p:Int) (hp:2048≤p) (mask:ByteArray):Has (erased x p mask) img:=by
 refine ⟨by unfold erased kL;rw [ey];exact h.size,fun i hi => ?_⟩
 unfold erased kL
 rw [kY _ _ _ (by rw [h.size];omega),if_neg (by omega)]
 exact h.same i hi
theorem Calm.held {m:aB} {x:ByteArray} (h:Calm m x):r7 m m.an.core:=⟨h.pF,h.bO,h.bn,h.aZ,fun j e=>by rw [show m.an.core.aW=none from h.aW] at e;cases e⟩
theorem Calm.of_held {m m':aB} {x:ByteArray} (h:Calm m x) {g:Bool} (k:r7 m' { m.an.core with aA:=g }):Calm m' x:=Calm.of k.pF h.cells h.bn h.aZ h.aW h.busy
theorem Calm.may {m:aB} {x:ByteArray} (h:Calm m x) : ∀ y,m.an.core.xP y→y=x:=fun y hy=>by
 unfold Core.xP at hy
 rw [show m.an.core.aW=none from h.aW] at hy
 exact hy.trans h.cells
theorem yj {m:aB} {x img:ByteArray} (h:Calm m x) (hx:Has x img) (p:Int) (h0:2048≤p) (h1:p<4096) (hp:p % 512=0) (reads:List Int) (hr : ∀ y ∈ reads,0≤y∧y<2048):eM m (gD m p reads).2.2.2 (gD m p reads).1 (Calm (gD m p reads).1 (erased x p ⟨#[255]⟩)∧(gD m p reads).2.1.Good∧(gD m p reads).2.1.cV img∧(gD m p reads).2.2.1=reads.map (gK img)) (fun y=>y=x ∨ ∃ mask,y=erased x p mask):=by
 have k6:=fL (b:=6) (at_:=0) (ys:=[]) (read:=0) h.pF (by decide) h.leave (Eo (c:={ m.an.core with aA:=false }) rfl h.bO) rfl
 unfold gD
 rcases nI h k6 with ⟨e1,e2,r,b⟩ | ⟨e1,e2,t,l⟩
 case inr =>
  have e:dg m p reads=((m.run 6 0 [] 0).1,Cache.new,reads,[],(m.run 6 0 [] 0).2.2):=by unfold dg;rw [if_pos (by rw [e1];decide)]
  rw [e,if_pos (by show (m.run 6 0 [] 0).2.2≠0;rw [e1];decide)]
  exact .inr ⟨e1,t.mono fun y e=>.inl e,l⟩
 have k2:=fL (b:=32) (at_:=p) (ys:=[]) (read:=0) r (by decide) (by intro e;cases e) (KP (c:={ m.an.core with aA:=false,en:=true }) p (by omega) h1 rfl h.aW) (by rw [nc rfl h0])
 rw [nc rfl h0] at k2
 have hbusy:=vK (show ∀ y ∈ ({ m.an.core with aA:=false,en:=true }:Core).busy,1≤y∧y≤400 from h.busy)
 have hjc : ∀ l sp mask,cB ⟨p / 512,0,ByteArray.empty,l,sp⟩ m.an.cells mask=erased x p mask:=fun l sp mask=>by
  unfold cB erased
  rw [if_neg (by show ¬ p / 512 = -1;omega),h.cells]
  congr 1
  show (p / 512).toNat * 512=_
  omega
 rcases k2 with ⟨f1,f2,g⟩ | ⟨f1,f2,r2,b2⟩
 ·
  have e:dg m p reads=(((m.run 6 0 [] 0).1.run 32 p [] 0).1,Cache.new,reads,[],((m.run 6 0 [] 0).1.run 32 p [] 0).2.2):=by unfold dg;rw [if_neg (by rw [e1];decide),if_pos (by rw [f1];decide)]
  rw [e,if_pos (by show ((m.run 6 0 [] 0).1.run 32 p [] 0).2.2≠0;rw [f1];decide)]
  exact eM.next b (.inr ⟨f1,(mf g h.aW h.bn h.aZ).mono fun y e=>.inl (e.trans h.cells),g.left⟩)
 have e:dg m p reads=cE 256 ((m.run 6 0 [] 0).1.run 32 p [] 0).1 Cache.new reads []:=by unfold dg;rw [if_neg (by rw [e1];decide),if_neg (by rw [f1];decide)]
 rw [e]
 have hw:=Gv (img:=img) 255 _ Cache.new reads [] _ r2 ⟨rfl,h.bn,h.aZ,fun j hj=>by
  obtain rfl:(⟨p / 512,0,ByteArray.empty,m.an.busy.headD 8,false⟩:ie)=j:=Option.some.inj hj
  exact ⟨rfl,hbusy.1,Int.le_trans hbusy.2 (by decide),by show p / 512 ≠ -1;omega⟩⟩ (show Has m.an.cells img by rw [h.cells];exact hx) (fun j hj=>by
  obtain rfl:(⟨p / 512,0,ByteArray.empty,m.an.busy.headD 8,false⟩:ie)=j:=Option.some.inj hj
  show 4≤p / 512;omega) Cache.lZ (yJ img) hr
 rcases hw with ⟨w1,⟨w2,w3,w4,l1,w5,w6⟩,b3⟩ | ⟨w1,t,l⟩
 ·
  rw [if_neg (by rw [w1];decide)]
  have hc:Calm (cE 256 ((m.run 6 0 [] 0).1.run 32 p [] 0).1 Cache.new reads []).1 (erased x p ⟨#[255]⟩):=by
   refine Calm.of w2 ?_ h.bn h.aZ rfl (fun y hy=>h.busy y (List.mem_of_mem_drop hy))
   rw [← hjc (m.an.busy.headD 8) false]
   rfl
  have hx2:Has (cE 256 ((m.run 6 0 [] 0).1.run 32 p [] 0).1 Cache.new reads []).1.an.core.cells img:=by
   show Has (cE 256 ((m.run 6 0 [] 0).1.run 32 p [] 0).1 Cache.new reads []).1.an.cells img
   rw [hc.cells];exact vF hx p h0 _
  have k:=wJ (cE 256 ((m.run 6 0 [] 0).1.run 32 p [] 0).1 Cache.new reads []).2.2.1 (cE 256 ((m.run 6 0 [] 0).1.run 32 p [] 0).1 Cache.new reads []).2.2.2.1 _ _ _ hc.held hx2 w3 w4 (fun y hy=>hr y (by rw [w5];exact List.mem_append_right _ hy))
  refine eM.next ((b.trans b2).trans b3) (k.mono (fun ⟨⟨g,a1⟩,a2,a3,a4⟩=>⟨hc.of_held a1,a2,a3,?_⟩) fun y hy=>.inr ⟨_,hc.may y hy⟩)
  rw [a4,w6,List.nil_append,← List.map_append,← w5]
 ·
  rw [if_pos (by rw [w1];decide)]
  refine eM.next (b.trans b2) (.inr ⟨w1,t.mono fun y hy => ?_,l⟩)
  obtain ⟨mask,hy⟩:=hy
  exact .inr ⟨mask,hy.trans (hjc _ _ _)⟩
theorem Fe {m:aB} {x img:ByteArray} {q:Cache} {at_ width:Int} (h:Calm m x) (hx:Has x img) (g:q.Good) (hq:q.cV img) (hr:fA at_ width=true):eM m (bF m q at_ width).2.2.2 (bF m q at_ width).1 (Calm (bF m q at_ width).1 x∧(bF m q at_ width).2.1.Good∧(bF m q at_ width).2.1.cV img∧(bF m q at_ width).2.2.1=nF img at_ width.toNat 0 0) (fun y=>y=x) :=
 (wy h.held (show Has m.an.cells img by rw [h.cells];exact hx) g hq hr).mono (fun ⟨⟨_,a1⟩,a2,a3,a4⟩=>⟨h.of_held a1,a2,a3,a4⟩) h.may
theorem Ff {m:aB} {x img:ByteArray} {q:Cache} (h:Calm m x) (hx:Has x img) (g:q.Good) (hq:q.cV img) (l:List Int) (hl : ∀ y ∈ l,0≤y∧y<2048):eM m (dx l [] m q).2.2.2 (dx l [] m q).1 (Calm (dx l [] m q).1 x∧(dx l [] m q).2.1.Good∧(dx l [] m q).2.1.cV img∧(dx l [] m q).2.2.1=l.map (gK img)) (fun y=>y=x) :=
 (wJ l [] m q _ h.held (show Has m.an.cells img by rw [h.cells];exact hx) g hq hl).mono (fun ⟨⟨_,a1⟩,a2,a3,a4⟩=>⟨h.of_held a1,a2,a3,a4⟩) h.may
theorem ma {m:aB} {c:Core} {r:aB×List Int×Int} {xs:List Int} {c':Core} (h:u3 m c r xs c') (hl:m.left<0):r=(r.1,xs,0)∧fP r.1 c'∧r.1.left<0:=by
 obtain ⟨a,b,d⟩:=r
 rcases h with ⟨_,_,g⟩ | ⟨e1,e2,r,b⟩
 ·
  have:=g.left;omega
 ·
  simp only at e1 e2
  subst e1 e2
  exact ⟨rfl,r,b hl⟩
theorem Hq {m:aB} {c:Core} (h:fP m c) (hg:c.aA=false) (hj:c.aW=none) (hl:m.left<0):m.run 5 0 [] 1=((m.run 5 0 [] 1).1,[c.first],0)∧fP (m.run 5 0 [] 1).1 c∧(m.run 5 0 [] 1).1.left<0:=by
 have hgo:({ c with aA:=false }:Core)=c:=by rw [← hg]
 have k:=fL (b:=5) (at_:=0) (ys:=[]) (read:=1) h (by decide) (by rw [hg];intro e;cases e) (KC rfl) (by rw [hgo,dW hj];exact hg)
 rw [hgo,dW hj,dW hj] at k
 exact ma k hl
theorem Ep {m:aB} {c:Core} (h:fP m c) (hg:c.aA=false) (hj:c.aW=none) (hl:m.left<0):m.run 53 0 [] 1=((m.run 53 0 [] 1).1,[c.second],0)∧fP (m.run 53 0 [] 1).1 c∧(m.run 53 0 [] 1).1.left<0:=by
 have hgo:({ c with aA:=false }:Core)=c:=by rw [← hg]
 have k:=fL (b:=53) (at_:=0) (ys:=[]) (read:=1) h (by decide) (by rw [hg];intro e;cases e) (KQ rfl) (by rw [hgo,dW hj];exact hg)
 rw [hgo,dW hj,dW hj] at k
 exact ma k hl
theorem Gc {m:aB} {x:ByteArray} {b:List Int} (h:fP m ⟨x,false,false,false,false,none,b⟩) (hl:m.left<0) : ∃ m1 m2 m3 m4,Sets m m1 m2 m3 m4 53 2 5 4 0 0∧fP m4 ⟨x,false,true,false,false,none,b⟩∧m4.left<0:=by
 obtain ⟨e1,r1,l1⟩:=Ep h rfl rfl hl
 obtain ⟨e2,r2,l2⟩:=Hq r1 rfl rfl l1
 obtain ⟨e3,r3,l3⟩:=ma (fL (b:=6) (at_:=0) (ys:=[]) (read:=0) r2 (by decide) (by intro e;cases e) (Eo rfl rfl) rfl) l2
 obtain ⟨e4,r4,l4⟩:=ma (fL (b:=1) (at_:=0) (ys:=[0,2]) (read:=0) r3 (by decide) (by intro e;cases e) (KA 0 2 (by decide) (by decide) rfl rfl rfl) rfl) l3
 refine ⟨_,_,_,_,⟨e1,by decide,e2,e3,?_,by decide,.inr rfl,.inl rfl,by decide⟩,?_,l4⟩
 ·
  exact e4
 ·
  exact r4
theorem F9 {m:aB} {x:ByteArray} {b:List Int} (h:fP m ⟨x,false,true,false,false,none,b⟩) (hl:m.left<0) : ∃ m1 m2 m3 m4,Sets m m1 m2 m3 m4 5 4 53 2 0 2∧fP m4 ⟨x,true,true,false,false,none,b⟩∧m4.left<0:=by
 obtain ⟨e1,r1,l1⟩:=Hq h rfl rfl hl
 obtain ⟨e2,r2,l2⟩:=Ep r1 rfl rfl l1
 obtain ⟨e3,r3,l3⟩:=ma (fL (b:=6) (at_:=0) (ys:=[]) (read:=0) r2 (by decide) (by intro e;cases e) (Eo rfl rfl) rfl) l2
 obtain ⟨e4,r4,l4⟩:=ma (fL (b:=1) (at_:=0) (ys:=[4,2]) (read:=0) r3 (by decide) (by intro e;cases e) (KA 4 2 (by decide) (by decide) rfl rfl rfl) rfl) l3
 refine ⟨_,_,_,_,⟨e1,by decide,e2,e3,?_,by decide,.inl rfl,.inr rfl,by decide⟩,?_,l4⟩
 ·
  exact e4
 ·
  exact r4
theorem CB (a:UInt8):a &&& ~~~a=0:=by
 rw [← UInt8.toBitVec_inj];simp
theorem D5 (a b:UInt8):a &&& ~~~b=0 ↔ ∀ i,i<8→a.toBitVec.getLsbD i=true→b.toBitVec.getLsbD i=true:=by
 rw [← UInt8.toBitVec_inj]
 constructor
 ·
  intro h i hi ha
  have:=congrArg (fun x=>BitVec.getLsbD x i) h
  simp [ha,hi] at this
  exact this
 ·
  intro h
  apply BitVec.eq_of_getLsbD_eq
  intro i hi
  have:=h i hi
  cases ha:a.toBitVec.getLsbD i
  ·
   simp [ha]
  ·
   simp [ha,this ha]
theorem ER {a b:UInt8} (h:a &&& ~~~b=0) (k : ~~~a &&& ~~~(~~~b)=0):a=b:=by
 rw [D5] at h k
 rw [← UInt8.toBitVec_inj]
 apply BitVec.eq_of_getLsbD_eq
 intro i hi
 have h1:=h i hi
 have h2:=k i hi
 cases ha:a.toBitVec.getLsbD i <;> cases hb:b.toBitVec.getLsbD i <;> simp_all
theorem AA {a b c:UInt8} (h:a &&& ~~~b=0) (k:b &&& ~~~c=0):a &&& ~~~c=0:=by
 rw [D5] at *
 exact fun i hi ha=>k i hi (h i hi ha)
theorem Az (d:UInt8):(255:UInt8) &&& ~~~((255:UInt8) &&& ~~~d)=d:=by
 have e : ∀ x:UInt8,(255:UInt8) &&& x=x:=fun x=>by
  rw [← UInt8.toBitVec_inj]
  exact BitVec.allOnes_and
 rw [e,e];simp
theorem D6 (a:UInt8):a ||| 255=255:=by
 rw [← UInt8.toBitVec_inj]
 exact BitVec.or_allOnes
theorem pO (a b:ByteArray) (i:Nat):bt (a++b) i=if i<a.size then bt a i else bt b (i - a.size):=by
 unfold bt
 rw [Array.getD_eq_getD_getElem?,Array.getD_eq_getD_getElem?,Array.getD_eq_getD_getElem?,ByteArray.data_append,Array.getElem?_append]
 show (if i<a.size then _ else _:Option UInt8).getD 0=_
 split <;> rfl
theorem G8 (a:ByteArray) (i:Nat) (h:a.size≤i):bt a i=0:=by
 unfold bt
 rw [Array.getD_eq_getD_getElem?,Array.getElem?_eq_none h]
 rfl
theorem fo (a:ByteArray) (p q i:Nat) (h:i<q - p) (hq:q≤a.size):bt (a.extract p q) i=bt a (p+i):=by
 unfold bt
 rw [Array.getD_eq_getD_getElem?,Array.getD_eq_getD_getElem?,ByteArray.data_extract,Array.getElem?_extract]
 have:a.data.size=a.size:=rfl
 rw [if_pos (by omega)]
theorem gS (a:ByteArray) (p q:Nat) (hq:q≤a.size):(a.extract p q).size=q - p:=by
 rw [ByteArray.size_extract];omega
theorem gY (s:ByteArray) (i:Nat):(i<s.size→bt (dr s) i=bt s i)∧(i<s.size→bt (dr s) (s.size+i) = ~~~(bt s i)):=by
 have hs:s.data.toList.length=s.size:=by rw [Array.length_toList];rfl
 have e : ∀ j,bt (dr s) j=((s.data.toList++s.data.toList.map fun x => ~~~x)[j]?).getD 0:=fun j=>by
  unfold bt dr
  rw [Array.getD_eq_getD_getElem?,List.getElem?_toArray]
 constructor
 ·
  intro h
  rw [e,List.getElem?_append_left (by omega)]
  unfold bt
  rw [Array.getD_eq_getD_getElem?,Array.getElem?_toList]
 ·
  intro h
  rw [e,List.getElem?_append_right (by omega),hs,Nat.add_sub_cancel_left,List.getElem?_map]
  unfold bt
  rw [Array.getD_eq_getD_getElem?,Array.getElem?_toList]
  have h':i<s.data.size:=h
  rw [Array.getElem?_eq_getElem h']
  rfl
theorem FU (s:ByteArray) (hs:s.size=32):(dr s).extract 0 32=s:=by
 have h64:(dr s).size=64:=by rw [eQ,hs]
 refine fm (by rw [gS _ _ _ (by omega),hs]) fun i hi => ?_
 rw [gS _ _ _ (by omega)] at hi
 rw [fo _ _ _ _ hi (by omega),Nat.zero_add]
 exact (gY s i).1 (by omega)
theorem B1 (s:ByteArray) (hs:s.size=32):fc (dr s)=some s:=by
 unfold fc
 rw [FU s hs,if_pos ⟨by rw [eQ,hs],rfl⟩]
theorem sK {u:ByteArray} {r:aS} (h:dB u=some r):bz r=true∧u=aG r:=by
 unfold dB at h
 split at h
 ·
  cases h
 ·
  rename_i t ht
  split at h
  ·
   rename_i hp
   obtain rfl:gd t=r:=by simpa using h
   unfold ic at hp
   split at hp
   ·
    rename_i hm
    exact ⟨hm,by simpa using hp.symm⟩
   ·
    cases hp
  ·
   cases h
def GJ (t u:ByteArray):Prop:=u.size=t.size ∧ ∀ i,i<t.size→bt t i &&& ~~~(bt u i)=0
theorem GJ.refl (t:ByteArray):GJ t t:=⟨rfl,fun _ _=>CB _⟩
theorem GJ.trans {a b c:ByteArray} (h:GJ a b) (k:GJ b c):GJ a c:=⟨k.1.trans h.1,fun i hi=>AA (h.2 i hi) (k.2 i (by rw [h.1];exact hi))⟩
theorem IU {s s':ByteArray} (hs:s.size=32) (hs':s'.size=32) (h:GJ (dr s) (dr s')):s=s':=by
 have h64:(dr s).size=64:=by rw [eQ,hs]
 refine fm (by rw [hs,hs']) fun i hi => ?_
 have h1:=h.2 i (by omega)
 have h2:=h.2 (32+i) (by omega)
 rw [(gY s i).1 hi,(gY s' i).1 (by omega)] at h1
 have e1:=(gY s i).2 hi
 have e2:=(gY s' i).2 (by omega)
 rw [hs] at e1
 rw [hs'] at e2
 rw [e1,e2] at h2
 exact ER h1 h2
theorem fB (r:aS) (h:bz r=true):(aG r).size=64:=by
 unfold aG
 rw [eQ,cY _ _ (fU h)]
theorem I7 {r r':aS} {u:ByteArray} (hr:bz r=true) (h:GJ (aG r) u) (hu:dB u=some r'):u=aG r:=by
 obtain ⟨h1,h2⟩:=sK hu
 rw [h2] at h ⊢
 unfold aG at h ⊢
 rw [IU (cY _ _ (fU hr)) (cY _ _ (fU h1)) h]
theorem Ie (l:Array UInt8) (i:Nat):bt ⟨l⟩ i=l.getD i 0:=rfl
theorem l6 {s:ByteArray} (h:kE s=true):s=⟨#[]⟩:=fm (jG h) fun i hi=>by rw [jG h] at hi;omega
theorem G9 (s:ByteArray) (n i:Nat):bt (dP s n) i=if i<s.size then bt s i else 0:=by
 unfold dP
 rw [pO]
 split
 ·
  rfl
 ·
  rw [Ie,Array.getD_eq_getD_getElem?,Array.getElem?_replicate]
  split <;> rfl
theorem J3 (x:Nat) (h:x<4294967296) (s:ByteArray) (hs : ∀ i,i<4→bt s i=bt (kX x) i):iX s=x:=by
 unfold iX
 rw [hs 0 (by omega),hs 1 (by omega),hs 2 (by omega),hs 3 (by omega)]
 unfold kX
 simp only [Ie]
 show (UInt8.ofNat x).toNat+256 * (UInt8.ofNat (x / 256)).toNat+65536 * (UInt8.ofNat (x / 65536)).toNat+16777216 * (UInt8.ofNat (x / 16777216)).toNat=x
 simp only [UInt8.toNat_ofNat']
 omega
theorem qD (s:ByteArray) (b:UInt8) (h:1≤s.size):s.extract 0 1=⟨#[b]⟩ ↔ bt s 0=b:=by
 constructor
 ·
  intro e
  have:=congrArg (fun t=>bt t 0) e
  simp only [fo s 0 1 0 (by omega) h] at this
  exact this
 ·
  intro e
  refine fm (by rw [gS _ _ _ h];rfl) fun i hi => ?_
  rw [gS _ _ _ h] at hi
  obtain rfl:i=0:=by omega
  rw [fo s 0 1 0 (by omega) h]
  exact e
theorem kM {n:Nat} (h:n<256):(UInt8.ofNat n).toNat=n:=by rw [UInt8.toNat_ofNat'];exact Nat.mod_eq_of_lt h
theorem qI (r:aS) (i:Nat):bt (headText r) i=if i=0 then UInt8.ofNat r.key.size else if i=1 then UInt8.ofNat r.value.size else if i=2 then 0 else bt r.key (i - 3):=by
 unfold headText
 rw [pO]
 show (if i<3 then _ else bt r.key (i - 3))=_
 match i with
 | 0=>rfl
 | 1=>rfl
 | 2=>rfl
 | i+3=>rw [if_neg (by omega),if_neg (by omega),if_neg (by omega),if_neg (by omega)]
theorem ss (r:aS):(headText r).size=3+r.key.size:=by unfold headText;rw [ByteArray.size_append];rfl
theorem jW (b:UInt8) (s:ByteArray) (i:Nat):bt (⟨#[b]⟩++s) i=if i=0 then b else bt s (i - 1):=by
 rw [pO]
 show (if i<1 then _ else bt s (i - 1))=_
 match i with
 | 0=>rfl
 | i+1=>rw [if_neg (by omega),if_neg (by omega)]
theorem oN (b:UInt8) (s:ByteArray):(⟨#[b]⟩++s:ByteArray).size=1+s.size:=by rw [ByteArray.size_append];rfl
theorem D3 {r:aS} (h:bz r=true):gd (dP (bY r) 32)=r:=by
 have hs:=cY _ _ (fU h)
 obtain ⟨hk,hv⟩:=sC h
 generalize ht:dP (bY r) 32=t at hs
 have hb : ∀ i,bt t i=if i<(bY r).size then bt (bY r) i else 0:=fun i=>by rw [← ht,G9]
 clear ht
 obtain ⟨kind,ep,key,value⟩:=r
 unfold bz at h
 unfold gd
 simp only at h hk hv
 split at h
 ·
  rename_i h0
  subst h0
  simp only [Bool.and_eq_true,nM,decide_eq_true_eq] at h
  obtain ⟨⟨⟨e0,e1⟩,hkey⟩,hval⟩:=h
  have hh:bY ⟨0,ep,key,value⟩=⟨#[72]⟩++kX ep.toNat:=by unfold bY;rw [if_pos rfl]
  rw [hh] at hb
  have hsz:(⟨#[72]⟩++kX ep.toNat:ByteArray).size=5:=by rw [oN];rfl
  rw [hsz] at hb
  have b0:bt t 0=72:=by rw [hb 0,jW];rfl
  rw [if_pos ((qD t 72 (by omega)).2 b0),l6 hkey,l6 hval]
  have hn:iX (t.extract 1 32)=ep.toNat:=J3 _ (by omega) _ fun i hi=>by
   rw [fo _ _ _ _ (by omega) (by omega),hb,jW,if_pos (by omega),if_neg (by omega),Nat.add_sub_cancel_left]
  rw [hn,Int.toNat_of_nonneg (by omega)]
 ·
  rename_i h0
  split at h
  ·
   rename_i h1
   subst h1
   simp only [Bool.and_eq_true,zK,decide_eq_true_eq] at h
   obtain ⟨⟨rfl,k1,_⟩,_⟩:=h
   have hh:bY ⟨1,0,key,value⟩=dP (⟨#[82]⟩++headText ⟨1,0,key,value⟩) 10++value:=by unfold bY;rw [if_neg (show ¬ (1:Int)=0 by decide),if_pos rfl]
   have hp:(dP (⟨#[82]⟩++headText ⟨1,0,key,value⟩) 10).size=10:=cY _ _ (by rw [oN,ss];show 1+(3+key.size)≤10;omega)
   have hsz:(bY ⟨1,0,key,value⟩).size=10+value.size:=by rw [hh,ByteArray.size_append,hp]
   have hf : ∀ i,i<4+key.size→bt t i=bt (⟨#[82]⟩++headText ⟨1,0,key,value⟩) i:=fun i hi=>by
    rw [hb,if_pos (by omega),hh,pO,hp,if_pos (by omega),G9,if_pos (by rw [oN,ss];show i<1+(3+key.size);omega)]
   have b0:bt t 0=82:=by rw [hf 0 (by omega),jW];rfl
   have b1:(bt t 1).toNat=key.size:=by rw [hf 1 (by omega),jW,if_neg (by omega),qI,if_pos rfl];exact kM (by show key.size<256;omega)
   have b2:(bt t 2).toNat=value.size:=by rw [hf 2 (by omega),jW,if_neg (by omega),qI,if_neg (by omega),if_pos rfl];exact kM (by show value.size<256;omega)
   rw [if_neg (by rw [qD t 72 (by omega),b0];decide),if_pos ((qD t 82 (by omega)).2 b0),b1,b2,Nat.min_eq_left (by omega),Nat.min_eq_left (by omega)]
   have ek:t.extract 4 (4+key.size)=key:=fm (by rw [gS _ _ _ (by omega)];omega) fun i hi=>by
    rw [gS _ _ _ (by omega)] at hi
    rw [fo _ _ _ _ (by omega) (by omega),hf _ (by omega),jW,if_neg (by omega),qI,if_neg (by omega),if_neg (by omega),if_neg (by omega)]
    show bt key _=_
    congr 1
    omega
   have ev:t.extract 10 (10+value.size)=value:=fm (by rw [gS _ _ _ (by omega)];omega) fun i hi=>by
    rw [gS _ _ _ (by omega)] at hi
    rw [fo _ _ _ _ (by omega) (by omega),hb,if_pos (by omega),hh,pO,hp,if_neg (by omega),Nat.add_sub_cancel_left]
   rw [ek,ev]
  ·
   rename_i h1
   split at h
   ·
    rename_i h2
    subst h2
    simp only [Bool.and_eq_true,zK,decide_eq_true_eq] at h
    obtain ⟨⟨rfl,k1,_⟩,hval⟩:=h
    obtain rfl:=l6 hval
    have hh:bY ⟨2,0,key,⟨#[]⟩⟩=⟨#[84]⟩++headText ⟨2,0,key,⟨#[]⟩⟩:=by unfold bY;rw [if_neg (show ¬ (2:Int)=0 by decide),if_neg (show ¬ (2:Int)=1 by decide)]
    have hsz:(bY ⟨2,0,key,⟨#[]⟩⟩).size=4+key.size:=by rw [hh,oN,ss];show 1+(3+key.size)=_;omega
    have hf : ∀ i,i<4+key.size→bt t i=bt (⟨#[84]⟩++headText ⟨2,0,key,⟨#[]⟩⟩) i:=fun i hi=>by
     rw [hb,if_pos (by omega),hh]
    have b0:bt t 0=84:=by rw [hf 0 (by omega),jW];rfl
    have b1:(bt t 1).toNat=key.size:=by rw [hf 1 (by omega),jW,if_neg (by omega),qI,if_pos rfl];exact kM (by show key.size<256;omega)
    rw [if_neg (by rw [qD t 72 (by omega),b0];decide),if_neg (by rw [qD t 82 (by omega),b0];decide),b1,Nat.min_eq_left (by omega)]
    have ek:t.extract 4 (4+key.size)=key:=fm (by rw [gS _ _ _ (by omega)];omega) fun i hi=>by
     rw [gS _ _ _ (by omega)] at hi
     rw [fo _ _ _ _ (by omega) (by omega),hf _ (by omega),jW,if_neg (by omega),qI,if_neg (by omega),if_neg (by omega),if_neg (by omega)]
     show bt key _=_
     congr 1
     omega
    rw [ek]
   ·
    cases h
theorem js {r:aS} (h:bz r=true):dB (aG r)=some r:=by
 have hs:=cY _ _ (fU h)
 unfold dB aG
 rw [B1 _ hs]
 show (if ic (gd (dP (bY r) 32))=some _ then some (gd (dP (bY r) 32)) else none)=some r
 rw [D3 h]
 unfold ic aG
 rw [if_pos h,if_pos rfl]
theorem nQ (n:Nat):(rU n).size=n:=by show (Array.replicate n (255:UInt8)).size=n;simp
theorem sn (n i:Nat) (h:i<n):bt (rU n) i=255:=by
 show (Array.replicate n (255:UInt8)).getD i 0=255
 rw [Array.getD_eq_getD_getElem?,Array.getElem?_replicate,if_pos h]
 rfl
theorem E6 (t:ByteArray):jn t=decide (t=rU t.size):=jf _ _
theorem lT {t:ByteArray} (h:t.size=64):jn t=true ↔ t=rU 64:=by rw [E6,h,decide_eq_true_iff]
theorem mT:dB (rU 64)=none:=by
 cases h:dB (rU 64) with
 | none=>rfl
 | some r =>
  obtain ⟨hm,he⟩:=sK h
  have hs:=cY _ _ (fU hm)
  have h1:=(gY (dP (bY r) 32) 0).1 (by omega)
  have h2:=(gY (dP (bY r) 32) 0).2 (by omega)
  rw [hs,show dr (dP (bY r) 32)=rU 64 from he.symm,sn _ _ (by omega)] at h2
  rw [show dr (dP (bY r) 32)=rU 64 from he.symm,sn _ _ (by omega)] at h1
  rw [← h1] at h2
  exact absurd h2 (by decide)
theorem oH {r:aS} (h:bz r=true):aG r≠rU 64:=fun e=>by
 have:=js h
 rw [e,mT] at this
 cases this
def iD (x:ByteArray) (j:Nat):ByteArray:=mk 512 fun i=>bt x (j * 512+i)
def dd (x:ByteArray) (j i:Nat):ByteArray:=mk 64 fun k=>bt x (j * 512+i * 64+k)
theorem gw (x:ByteArray) (j i:Nat):(dd x j i).size=64:=ey _ _
theorem oC (x:ByteArray) (j i k:Nat) (h:k<64):bt (dd x j i) k=bt x (j * 512+i * 64+k):=kY _ _ _ h
theorem iN (x:ByteArray) (j i:Nat) (hi:i<8):dK (iD x j) i=dd x j i:=by
 have hs:(iD x j).size=512:=ey _ _
 refine fm (by rw [mZ hs i hi,gw]) fun k hk => ?_
 rw [mZ hs i hi] at hk
 unfold dK
 rw [fo _ _ _ _ (by omega) (by omega),oC _ _ _ _ hk]
 unfold iD
 rw [kY _ _ _ (by omega),Nat.add_assoc]
def de (x:ByteArray) (j:Nat):bg:=iw (iD x j)
theorem oB {s u:ByteArray} : ∀ k,(∀ i,1≤i→i≤k→dK s i=dK u i)→bw s k=bw u k
 | 0,_=>rfl
 | k+1,h=>by
  show bw s k++dZ s (k+1)=bw u k++dZ u (k+1)
  rw [oB k fun i h1 h2=>h i h1 (by omega)]
  unfold dZ
  rw [h (k+1) (by omega) (by omega)]
theorem oA {s u:ByteArray} : ∀ k,(∀ i,1≤i→i≤k→dK s i=dK u i)→bQ s k=bQ u k
 | 0,_=>rfl
 | k+1,h=>by
  show (if jn (dK s (k+1))=true then bQ s k else _)=(if jn (dK u (k+1))=true then bQ u k else _)
  rw [oA k fun i h1 h2=>h i h1 (by omega),h (k+1) (by omega) (by omega)]
theorem wQ {s u:ByteArray} (h:dK s 0=dK u 0):cv s=cv u:=by unfold cv;rw [h]
theorem xI {s:ByteArray} {i:Nat} (h:dK s i=rU 64):dZ s i=[]:=by
 unfold dZ
 rw [h,mT]
theorem jd {s:ByteArray} {a:Nat} : ∀ b,a≤b→(∀ i,a<i→i≤b→dK s i=rU 64)→bw s b=bw s a
 | 0,h,_=>by obtain rfl:a=0:=(by omega);rfl
 | b+1,h,k=>by
  by_cases e:a=b+1
  ·
   rw [e]
  ·
   show bw s b++dZ s (b+1)=_
   rw [xI (k (b+1) (by omega) zY),List.append_nil]
   exact jd b (by omega) fun i h1 h2=>k i h1 (by omega)
theorem jc {s:ByteArray} {a:Nat} : ∀ b,a≤b→(∀ i,a<i→i≤b→dK s i=rU 64)→bQ s b=bQ s a
 | 0,h,_=>by obtain rfl:a=0:=(by omega);rfl
 | b+1,h,k=>by
  by_cases e:a=b+1
  ·
   rw [e]
  ·
   show (if jn (dK s (b+1))=true then bQ s b else _)=_
   rw [k (b+1) (by omega) zY,if_pos ((lT (nQ 64)).2 rfl)]
   exact jc b (by omega) fun i h1 h2=>k i h1 (by omega)
theorem vI {s:ByteArray} (hs:s.size=512) : ∀ k,k≤7 → ∀ i,1≤i→i≤k→bQ s k≤(i:Int)→dK s i=rU 64
 | 0,_,i,h1,h2,_=>by omega
 | k+1,hk,i,h1,h2,h=>by
  have e:bQ s (k+1)=if jn (dK s (k+1))=true then bQ s k else ((k+2:Nat):Int):=rfl
  rw [e] at h
  split at h
  ·
   rename_i hb
   by_cases e:i=k+1
   ·
    rw [e];exact (lT (mZ hs _ (by omega))).1 hb
   ·
    exact vI hs k (by omega) i h1 (by omega) h
  ·
   omega
def rY (t:ByteArray) (E:Int):Prop := ∀ u r,GJ t u→dB u=some r→r.kind=0→r.ak<E
theorem rY.mono {t:ByteArray} {E E':Int} (h:rY t E) (k:E≤E'):rY t E':=fun u r h1 h2 h3=>by have:=h u r h1 h2 h3;omega
theorem Fl {r:aS} {E:Int} (hr:bz r=true) (h:r.ak<E):rY (aG r) E:=fun u r' h1 h2 _=>by
 have:=I7 hr h1 h2
 rw [this,js hr] at h2
 obtain rfl:r=r':=by simpa using h2
 exact h
theorem Gi {u:ByteArray} (h:GJ (rU 64) u):u=rU 64:=by
 refine fm (by rw [h.1]) fun i hi => ?_
 have hl:i<64:=by rw [h.1,nQ] at hi;exact hi
 have h1:=h.2 i (by rw [nQ];exact hl)
 rw [sn _ _ hl] at h1 ⊢
 have h2:=Az (bt u i)
 exact (ER h1 (by
  rw [D5]
  intro k hk ha
  simp only [show (~~~(255:UInt8))=0 by decide] at ha
  exact absurd ha (by simp))).symm
theorem Dd (E:Int):rY (rU 64) E:=fun u r h1 h2 _=>by
 rw [Gi h1,mT] at h2
 cases h2
def fQ (x y:ByteArray) (p n:Nat):Prop:=y.size=x.size ∧ ∀ k,¬ (p≤k∧k<p+n)→bt y k=bt x k
theorem Ay (x:ByteArray) (p n:Nat) (f:Nat→UInt8→UInt8) (k:Nat) (hk:k<x.size):bt (kL x p n f) k=if p≤k∧k<p+n then f (k - p) (bt x k) else bt x k:=kY _ _ _ hk
theorem oX (x:ByteArray) (p n:Nat) (f:Nat→UInt8→UInt8):fQ x (kL x p n f) p n:=by
 refine ⟨ey _ _,fun k hk => ?_⟩
 by_cases h:k<x.size
 ·
  rw [Ay _ _ _ _ _ h,if_neg hk]
 ·
  rw [G8 x k (by omega),G8 (kL x p n f) k (by unfold kL;rw [ey];omega)]
theorem fQ.slot {x y:ByteArray} {sec slot j i:Nat} (h:fQ x y (sec * 512+slot * 64) 64) (hs:slot<8) (hi:i<8) (hne : ¬ (j=sec∧i=slot)):dd y j i=dd x j i:=by
 unfold dd
 refine mk_congr fun k hk=>h.2 _ ?_
 omega
theorem fQ.sec {x y:ByteArray} {sec j i:Nat} (h:fQ x y (sec * 512) 512) (hi:i<8) (hne:j≠sec):dd y j i=dd x j i:=by
 unfold dd
 refine mk_congr fun k hk=>h.2 _ ?_
 omega
theorem fQ.mono {x y:ByteArray} {p n p' n':Nat} (h:fQ x y p n) (h1:p'≤p) (h2:p+n≤p'+n'):fQ x y p' n':=⟨h.1,fun k hk=>h.2 k (by omega)⟩
theorem fQ.trans {x y z:ByteArray} {p n:Nat} (h:fQ x y p n) (k:fQ y z p n):fQ x z p n:=⟨k.1.trans h.1,fun i hi=>(k.2 i hi).trans (h.2 i hi)⟩
theorem fQ.refl (x:ByteArray) (p n:Nat):fQ x x p n:=⟨rfl,fun _ _=>rfl⟩
theorem sB (i:Nat):ei ⟨#[255]⟩ i=255:=by
 unfold ei
 show (if (1:Nat)=0 then 0 else bt ⟨#[255]⟩ (i % 1))=255
 rw [if_neg (by decide),Nat.mod_one]
 rfl
theorem yM {x:ByteArray} {sec slot:Nat} (hx:x.size=4096) (h1:sec<8) (h2:slot<8) {s:ByteArray} {o:Nat} (ho:o=0∨o=32) (mask:ByteArray) (k:Nat) (hk:k<64):bt (jj x (sec * 512+slot * 64+o:Nat) mask s) (sec * 512+slot * 64+k)=if o≤k∧k<o+32 then il mask s (k - o) (bt x (sec * 512+slot * 64+k)) else bt x (sec * 512+slot * 64+k):=by
 unfold jj
 rw [Int.toNat_natCast,Ay _ _ _ _ _ (by omega)]
 by_cases h:o≤k∧k<o+32
 ·
  rw [if_pos (by omega),if_pos h]
  congr 1
  omega
 ·
  rw [if_neg (by omega),if_neg h]
theorem za (sec slot:Nat):bU sec slot=((sec * 512+slot * 64:Nat):Int):=by unfold bU;omega
theorem wW (sec slot:Nat):bU sec slot+32=((sec * 512+slot * 64+32:Nat):Int):=by unfold bU;omega
theorem FQ {x:ByteArray} {sec slot o:Nat} (ho:o=0∨o=32) (mask s:ByteArray):fQ x (jj x (sec * 512+slot * 64+o:Nat) mask s) (sec * 512+slot * 64) 64:=by
 unfold jj
 rw [Int.toNat_natCast]
 exact (oX _ _ _ _).mono (by omega) (by omega)
theorem DJ {x:ByteArray} {sec slot:Nat} (mask s:ByteArray):fQ x (jj x (sec * 512+slot * 64:Nat) mask s) (sec * 512+slot * 64) 64:=by
 unfold jj
 rw [Int.toNat_natCast]
 exact (oX _ _ _ _).mono zY (by omega)
theorem FR (x:ByteArray) (p:Int) (mask s:ByteArray):(jj x p mask s).size=x.size:=by unfold jj kL;exact ey _ _
theorem km (x:ByteArray) (sec slot:Nat) (t:ByteArray):fQ x (ir x (bU sec slot) t) (sec * 512+slot * 64) 64:=by
 unfold ir
 rw [wW,za]
 exact (DJ _ _).trans (FQ (o:=32) (.inr rfl) _ _)
theorem mB {x:ByteArray} {sec slot:Nat} (hx:x.size=4096) (h1:sec<8) (h2:slot<8) {t:ByteArray} (ht:t.size=64) (hb:dd x sec slot=rU 64):dd (ir x (bU sec slot) t) sec slot=t:=by
 refine fm (by rw [gw,ht]) fun k hk => ?_
 rw [gw] at hk
 have hb':bt x (sec * 512+slot * 64+k)=255:=by rw [← oC _ _ _ _ hk,hb,sn _ _ hk]
 rw [oC _ _ _ _ hk]
 unfold ir
 rw [wW,za,yM (by rw [FR,hx]) h1 h2 (.inr rfl) _ k hk]
 have e:=yM (o:=0) hx h1 h2 (s:=t.extract 0 32) (.inl rfl) ⟨#[255]⟩ k hk
 rw [Nat.add_zero] at e
 rw [e,hb']
 unfold il
 rw [sB,sB]
 by_cases hk2:k<32
 ·
  rw [if_neg (by omega),if_pos (by omega),Az,fo _ _ _ _ (by omega) (by omega)]
  congr 1
  omega
 ·
  rw [if_pos (by omega),if_neg (by omega),Az,fo _ _ _ _ (by omega) (by omega)]
  congr 1
  omega
theorem ts (x:ByteArray) (sec:Nat) (mask:ByteArray):fQ x (erased x (sec * 512:Nat) mask) (sec * 512) 512:=by
 unfold erased
 rw [Int.toNat_natCast]
 exact oX _ _ _ _
theorem vE {x:ByteArray} {sec i:Nat} (hx:x.size=4096) (h1:sec<8) (hi:i<8):dd (erased x (sec * 512:Nat) ⟨#[255]⟩) sec i=rU 64:=by
 refine fm (by rw [gw,nQ]) fun k hk => ?_
 rw [gw] at hk
 rw [oC _ _ _ _ hk,sn _ _ hk]
 unfold erased
 rw [Int.toNat_natCast,Ay _ _ _ _ _ (by omega),if_pos (by omega)]
 unfold iE
 rw [sB,D6]
end Go.Proofs.YtcfdenckiigdaaaGreat

/- Part 45 of the contracts. -/
import Derived.Test.YtcfdenckiigdaaaGreatFl44
set_option linter.unusedVariables false
set_option maxRecDepth 100000
set_option maxHeartbeats 4000000
namespace Go.Proofs.YtcfdenckiigdaaaGreat
open Tryz
section
def zM (c:Int×fW) (x img:ByteArray) (S:aA) (reads:List Int):ByteArray×aA×List Int×Int :=
 if c.1=2202 then (x,S,[],2303) else if c.1≠0 then (x,S,[],2304) else if cY reads=true then (hU x c.2,⟨true,c.2.av,iN S c.2⟩,reads.map (lk img),0) else (x,S,[],1800)
def jO (x img:ByteArray) (S:aA) (r:aX) (reads:List Int):ByteArray×aA×List Int×Int:=zM (cC S.view S.av r) x img S reads
def mR (x:ByteArray) (S:aA) (r:aX) (y:ByteArray):Prop:=y=x∨((cC S.view S.av r).1=0∧vR x (cC S.view S.av r).2 y)
theorem tW {m:aG} {x img:ByteArray} {q:Cache} (h:Calm m x) (hx:Has x img) (g:q.Good) (hq:q.dg img) {S:aA} (vk:S.view.Ok) (s0:4≤S.av) (s1:S.av<8) {r:aX} (hr:gW r) (reads:List Int):jl m (dW m q S r reads).2.2.2.2 (dW m q S r reads).1 (Calm (dW m q S r reads).1 (jO x img S r reads).1∧(dW m q S r reads).2.1.Good∧(dW m q S r reads).2.1.dg img∧(dW m q S r reads).2.2=(jO x img S r reads).2) (mR x S r):=by
 have hp:(cC S.view S.av r).1=0→(cC S.view S.av r).2.Ok:=pH vk s0 s1 hr
 unfold dW jO mR
 generalize cC S.view S.av r=c at hp
 unfold vu zM
 by_cases h1:c.1=2202
 ·
  rw [if_pos h1,if_pos h1]
  exact .inl ⟨⟨h,g,hq,rfl⟩,gj.refl _⟩
 ·
  rw [if_neg h1,if_neg h1]
  by_cases h2:c.1≠0
  ·
   rw [if_pos h2,if_pos h2]
   exact .inl ⟨⟨h,g,hq,rfl⟩,gj.refl _⟩
  ·
   rw [if_neg h2,if_neg h2]
   by_cases h3:cY reads=true
   ·
    rw [if_pos h3,if_pos h3]
    have hw:=BS h hx g hq (hp (by omega)) h3
    generalize dY m q c.2 reads=t at hw
    unfold rh
    rcases hw with ⟨k0,⟨k1,k2,k3,k4⟩,k5⟩ | ⟨k0,k1,k2⟩
    ·
     rw [if_neg (by rw [k0];decide)]
     exact .inl ⟨⟨k1,k2,k3,by rw [k4]⟩,k5⟩
    ·
     rw [if_pos (by rw [k0];decide)]
     exact .inr ⟨k0,k1.mono fun y hy=>.inr ⟨by omega,hy⟩,k2⟩
   ·
    rw [if_neg h3,if_neg h3]
    exact .inl ⟨⟨h,g,hq,rfl⟩,gj.refl _⟩
def vh (x img:ByteArray) (S:aA) (key value:ByteArray) (reads:List Int):ByteArray×aA×List Int×Int :=
 if cS S key≠0 then (x,S,[],cS S key) else if 20<value.size then (x,S,[],2301) else jO x img S ⟨1,0,key,value⟩ reads
def wL (x img:ByteArray) (S:aA) (key:ByteArray) (reads:List Int):ByteArray×aA×List Int×Int :=
 if cS S key≠0 then (x,S,[],cS S key) else jO x img S ⟨2,0,key,⟨#[]⟩⟩ reads
def Fq (x:ByteArray) (S:aA) (key value y:ByteArray):Prop:=y=x∨(cS S key=0∧value.size≤20∧mR x S ⟨1,0,key,value⟩ y)
def Fp (x:ByteArray) (S:aA) (key y:ByteArray):Prop:=y=x∨(cS S key=0∧mR x S ⟨2,0,key,⟨#[]⟩⟩ y)
theorem I7 {m:aG} {x img:ByteArray} {q:Cache} (h:Calm m x) (hx:Has x img) (g:q.Good) (hq:q.dg img) {S:aA} (fit:S.Fit) (key value:ByteArray) (reads:List Int):jl m (jk m q S key value reads).2.2.2.2 (jk m q S key value reads).1 (Calm (jk m q S key value reads).1 (vh x img S key value reads).1∧(jk m q S key value reads).2.1.Good∧(jk m q S key value reads).2.1.dg img∧(jk m q S key value reads).2.2=(vh x img S key value reads).2) (Fq x S key value):=by
 unfold jk vh
 by_cases h1:cS S key≠0
 ·
  rw [if_pos h1,if_pos h1]
  exact .inl ⟨⟨h,g,hq,rfl⟩,gj.refl _⟩
 ·
  rw [if_neg h1,if_neg h1]
  obtain ⟨o1,o2,o3⟩:=ib (by omega:cS S key=0)
  obtain ⟨f1,f2,f3⟩:=j6 fit o1
  by_cases h2:20<value.size
  ·
   rw [if_pos h2,if_pos h2]
   exact .inl ⟨⟨h,g,hq,rfl⟩,gj.refl _⟩
  ·
   rw [if_neg h2,if_neg h2]
   exact (tW h hx g hq f3 f1 f2 (qK o2 o3 (by omega)) reads).mono id fun y hy=>.inr ⟨by omega,by omega,hy⟩
theorem I6 {m:aG} {x img:ByteArray} {q:Cache} (h:Calm m x) (hx:Has x img) (g:q.Good) (hq:q.dg img) {S:aA} (fit:S.Fit) (key:ByteArray) (reads:List Int):jl m (jg m q S key reads).2.2.2.2 (jg m q S key reads).1 (Calm (jg m q S key reads).1 (wL x img S key reads).1∧(jg m q S key reads).2.1.Good∧(jg m q S key reads).2.1.dg img∧(jg m q S key reads).2.2=(wL x img S key reads).2) (Fp x S key):=by
 unfold jg wL
 by_cases h1:cS S key≠0
 ·
  rw [if_pos h1,if_pos h1]
  exact .inl ⟨⟨h,g,hq,rfl⟩,gj.refl _⟩
 ·
  rw [if_neg h1,if_neg h1]
  obtain ⟨o1,o2,o3⟩:=ib (by omega:cS S key=0)
  obtain ⟨f1,f2,f3⟩:=j6 fit o1
  exact (tW h hx g hq f3 f1 f2 (wM o2 o3) reads).mono id fun y hy=>.inr ⟨by omega,hy⟩
def nU (r:ByteArray×aA×List Int×Int):ByteArray×aA×eH×Int:=(r.1,r.2.1,⟨⟨#[]⟩,[],outs r.2.2.2 r.2.2.1,false⟩,r.2.2.2)
def KA (img:ByteArray) (at_ width:Int):List Int×Int:=if fO at_ width=true then ([oH img at_ width.toNat 0 0],0) else ([],1300)
def mZ (x img:ByteArray) (S:aA) (a:cd):ByteArray×aA×eH×Int :=
 if a.kind=0 then nU (iO x img a.reads)
 else if a.kind=1 then (x,(xk x).1,⟨⟨#[]⟩,[],[],false⟩,(xk x).2)
 else if a.kind=2 then nU (vh x img S a.key a.value a.reads)
 else if a.kind=3 then (x,S,⟨(wV S a.key).1,[],[],false⟩,(wV S a.key).2)
 else if a.kind=4 then nU (wL x img S a.key a.reads)
 else if a.kind=5 then (x,S,⟨⟨#[]⟩,(lO S).1,[],false⟩,(lO S).2)
 else if a.kind=6 then (x,S,⟨⟨#[]⟩,[],(KA img a.at_ a.width).1,false⟩,(KA img a.at_ a.width).2)
 else (x,S,⟨⟨#[]⟩,[],[],false⟩,0)
theorem Ik (r:aG×Cache×aA×List Int×Int) (t:ByteArray×aA×List Int×Int) (h:r.2.2=t.2):r.2.2.1=(nU t).2.1∧((⟨⟨#[]⟩,[],outs r.2.2.2.2 r.2.2.2.1,false⟩,r.2.2.2.2):eH×Int)=(nU t).2.2:=by
 obtain ⟨r1,r2,r3⟩:=r
 obtain ⟨t1,t2⟩:=t
 simp only at h
 subst h
 exact ⟨rfl,rfl⟩
def Fo (x:ByteArray) (S:aA) (a:cd) (y:ByteArray):Prop:=y=x∨(a.kind=0∧FormatPart x y)∨(a.kind=2∧Fq x S a.key a.value y)∨(a.kind=4∧Fp x S a.key y)
theorem xU {W:ia} {img:ByteArray} {r:aG×Cache×aA×List Int×Int} {t:ByteArray×aA×List Int×Int} {P:ByteArray→Prop} (h:jl W.m r.2.2.2.2 r.1 (Calm r.1 t.1∧r.2.1.Good∧r.2.1.dg img∧r.2.2=t.2) P) {o:ia×eH×Int} (e:o=(⟨r.1,r.2.1,r.2.2.1⟩,⟨⟨#[]⟩,[],outs r.2.2.2.2 r.2.2.2.1,false⟩,r.2.2.2.2)) {z:ByteArray×aA×eH×Int} (ez:z=nU t):jl W.m o.2.2 o.1.m (Calm o.1.m z.1∧o.1.q.Good∧o.1.q.dg img∧o.1.S=z.2.1∧o.2=z.2.2) P:=by
 subst e ez
 exact h.mono (fun ⟨h1,h2,h3,h4⟩=>⟨h1,h2,h3,Ik r t h4⟩) fun y hy=>hy
theorem I5 {W:ia} {x img:ByteArray} (h:Calm W.m x) (hx:Has x img) (g:W.q.Good) (hq:W.q.dg img) (fit:W.S.Fit) (a:cd):jl W.m (lI W a).2.2 (lI W a).1.m (Calm (lI W a).1.m (mZ x img W.S a).1∧(lI W a).1.q.Good∧(lI W a).1.q.dg img∧(lI W a).1.S=(mZ x img W.S a).2.1∧(lI W a).2=(mZ x img W.S a).2.2) (Fo x W.S a):=by
 by_cases k0:a.kind=0
 ·
  exact (xU (BR h hx g hq a.reads) (by unfold lI;rw [if_pos k0]) (by unfold mZ;rw [if_pos k0])).mono id fun y hy=>.inr (.inl ⟨k0,hy⟩)
 by_cases k2:a.kind=2
 ·
  exact (xU (I7 h hx g hq fit a.key a.value a.reads) (by unfold lI;rw [if_neg k0,if_neg (by omega),if_pos k2]) (by unfold mZ;rw [if_neg k0,if_neg (by omega),if_pos k2])).mono id fun y hy=>.inr (.inr (.inl ⟨k2,hy⟩))
 by_cases k4:a.kind=4
 ·
  exact (xU (I6 h hx g hq fit a.key a.reads) (by unfold lI;rw [if_neg k0,if_neg (by omega),if_neg k2,if_neg (by omega),if_pos k4]) (by unfold mZ;rw [if_neg k0,if_neg (by omega),if_neg k2,if_neg (by omega),if_pos k4])).mono id fun y hy=>.inr (.inr (.inr ⟨k4,hy⟩))
 unfold lI mZ
 rw [if_neg k0,if_neg k0]
 by_cases k1:a.kind=1
 ·
  rw [if_pos k1,if_pos k1]
  have hm:=D1 h
  generalize gz W.m=r at hm
  generalize xk x=t at hm
  refine hm.mono ?_ fun y hy=>.inl hy
  rintro ⟨h1,h2⟩
  obtain ⟨r1,r2⟩:=r
  simp only at h2
  subst h2
  exact ⟨h1,g,hq,rfl,rfl⟩
 rw [if_neg k1,if_neg k1,if_neg k2,if_neg k2]
 by_cases k3:a.kind=3
 ·
  rw [if_pos k3,if_pos k3]
  exact .inl ⟨⟨h,g,hq,rfl,rfl⟩,gj.refl _⟩
 rw [if_neg k3,if_neg k3,if_neg k4,if_neg k4]
 by_cases k5:a.kind=5
 ·
  rw [if_pos k5,if_pos k5]
  exact .inl ⟨⟨h,g,hq,rfl,rfl⟩,gj.refl _⟩
 rw [if_neg k5,if_neg k5]
 by_cases k6:a.kind=6
 ·
  rw [if_pos k6,if_pos k6]
  by_cases hr:fO a.at_ a.width=true
  ·
   rw [show KA img a.at_ a.width=([oH img a.at_ a.width.toNat 0 0],0) from if_pos hr]
   have hm:=Gz h hx g hq hr
   generalize bH W.m W.q a.at_ a.width=r at hm
   generalize oH img a.at_ a.width.toNat 0 0=t at hm
   refine jl.mono (eV.act hm) ?_ fun y hy=>.inl hy
   rintro ⟨h0,h1,h2,h3,h4⟩
   obtain ⟨r1,r2,r3,r4⟩:=r
   simp only at h0 h4
   subst h0 h4
   exact ⟨h1,h2,h3,rfl,rfl⟩
  ·
   rw [show KA img a.at_ a.width=([],1300) from if_neg hr,show bH W.m W.q a.at_ a.width=(W.m,W.q,0,1300) from if_neg hr]
   exact .inl ⟨⟨h,g,hq,rfl,rfl⟩,gj.refl _⟩
 rw [if_neg k6,if_neg k6]
 exact .inl ⟨⟨h,g,hq,rfl,rfl⟩,gj.refl _⟩
end
section
theorem Ki {x img:ByteArray} (h:Has x img) {p:Int} (hp:2048≤p) {n:Nat} (f:Nat→UInt8→UInt8):Has (lF x p.toNat n f) img:=Ch h (pU x p.toNat n f) (by omega)
theorem zF {x img:ByteArray} (h:Has x img) {p:Int} (hp:2048≤p) (mask s:ByteArray):Has (jC x p mask s) img:=Ki h hp _
theorem yS {x img s:ByteArray} (h:Has x img) {p:Int} (hp:2048≤p):Has (jq x p s) img:=zF (zF h hp _ _) (by omega) _ _
theorem we {img:ByteArray} {sec:Int} (s0:4≤sec) (s1:sec<8) : ∀ (l:List (Int×aX)) (x:ByteArray),Has x img→(∀ a ∈ l,0≤a.1∧a.1<8)→Has (gU sec l x) img
 | [],_,h,_=>h
 | a::l,x,h,hl=>we s0 s1 l _ (yS h (sx s0 s1 (hl a (by simp)).1 (hl a (by simp)).2).1) fun c hc=>hl c (by simp [hc])
theorem Ek {x img:ByteArray} (h:Has x img) (reads:List Int):Has (iO x img reads).1 img:=by
 have hs:=zy x
 unfold iO
 split
 ·
  exact h
 ·
  split
  ·
   exact yS (Ao h _ hs.1) (sx hs.1 hs.2 (by decide) (by decide)).1
  ·
   exact h
theorem IW {x img:ByteArray} (h:Has x img) {p:fW} (pk:p.Ok):Has (iL x p) img:=by
 unfold iL
 have:=pk.dH
 split
 ·
  exact Ao h _ (by omega)
 ·
  exact h
theorem Fl {x img:ByteArray} (h:Has x img) {p:fW} (pk:p.Ok):Has (hU x p) img:=we pk.av.1 pk.av.2 _ _ (IW h pk) fun a ha=>⟨(qT pk a ha).1,(qT pk a ha).2.1⟩
theorem wj {x img:ByteArray} (h:Has x img) {S:aA} (vk:S.view.Ok) (s0:4≤S.av) (s1:S.av<8) {r:aX} (hr:gW r) (reads:List Int):Has (jO x img S r reads).1 img:=by
 have hp:(cC S.view S.av r).1=0→(cC S.view S.av r).2.Ok:=pH vk s0 s1 hr
 unfold jO zM
 split
 ·
  exact h
 ·
  split
  ·
   exact h
  ·
   split
   ·
    exact Fl h (hp (by omega))
   ·
    exact h
theorem Lu {x img:ByteArray} (h:Has x img) {S:aA} (fit:S.Fit) (key value:ByteArray) (reads:List Int):Has (vh x img S key value reads).1 img:=by
 unfold vh
 by_cases h1:cS S key≠0
 ·
  rw [if_pos h1];exact h
 ·
  rw [if_neg h1]
  obtain ⟨o1,o2,o3⟩:=ib (by omega:cS S key=0)
  obtain ⟨f1,f2,f3⟩:=j6 fit o1
  by_cases h2:20<value.size
  ·
   rw [if_pos h2];exact h
  ·
   rw [if_neg h2];exact wj h f3 f1 f2 (qK o2 o3 (by omega)) reads
theorem KK {x img:ByteArray} (h:Has x img) {S:aA} (fit:S.Fit) (key:ByteArray) (reads:List Int):Has (wL x img S key reads).1 img:=by
 unfold wL
 by_cases h1:cS S key≠0
 ·
  rw [if_pos h1];exact h
 ·
  rw [if_neg h1]
  obtain ⟨o1,o2,o3⟩:=ib (by omega:cS S key=0)
  obtain ⟨f1,f2,f3⟩:=j6 fit o1
  exact wj h f3 f1 f2 (wM o2 o3) reads
theorem qR (t:ByteArray×aA×List Int×Int):(nU t).1=t.1:=rfl
theorem Ky {x img:ByteArray} (h:Has x img) {S:aA} (fit:S.Fit) (a:cd):Has (mZ x img S a).1 img:=by
 unfold mZ
 repeat' split
 ·
  rw [qR];exact Ek h _
 ·
  exact h
 ·
  rw [qR];exact Lu h fit _ _ _
 ·
  exact h
 ·
  rw [qR];exact KK h fit _ _
 ·
  exact h
 ·
  exact h
 ·
  exact h
structure ye (W:ia) (x img:ByteArray):Prop where
 calm:Calm W.m x
 ok:W.m.Ok
 left:W.m.left<0
 has:Has x img
 cn:W.q.Good
 M8:W.q.dg img
theorem FR {W:ia} {x img:ByteArray} (h1:Calm W.m x) (h2:W.m.left<0) (h3:W.m.Ok) (h4:W.q=Cache.new) (h5:Has x img):ye W x img:=⟨h1,h3,h2,h5,h4 ▸ Cache.mH,h4 ▸ zz img⟩
def u4 (x img:ByteArray) (S:aA) (a:cd):ByteArray×aA×eH×Int:=if rJ a=false then (x,S,bg,2500) else mZ x img S a
theorem Lj {W:ia} {x img:ByteArray} (h:ye W x img) (fit:W.S.Fit) {a:cd} (f:a.IC) (hm:Nat):jl ((W.next a.busy hm).cut a.cm).m (jA W a hm).2.2 (jA W a hm).1.m (Calm (jA W a hm).1.m (mZ x img W.S a).1∧(jA W a hm).1.q.Good∧(jA W a hm).1.q.dg img∧(jA W a hm).1.S=(mZ x img W.S a).2.1∧(jA W a hm).2=(mZ x img W.S a).2.2) (Fo x W.S a)∧(jA W a hm).1.m.Ok∧(jA W a hm).1.q.Good:=by
 obtain ⟨h1,h2,h3⟩:=Bk h.calm h.ok f hm
 have k:=I5 (W:=(W.next a.busy hm).cut a.cm) h1 h.has (by rw [ze];exact h.cn) (by rw [ze];exact h.M8) (by rw [zd];exact fit) a
 have o:=BF (W:=(W.next a.busy hm).cut a.cm) (x:=a) h2 (by rw [ze];exact h.cn) (by rw [zd];exact fit) f
 rw [zd] at k
 exact ⟨k,o.1,o.2.1⟩
theorem Md {W:ia} {x img:ByteArray} (h:ye W x img) (fit:W.S.Fit) {a:cd} (hl:a.cm=0) (hk:a.kind≠7) (hm:Nat):ye (Ko W a hm).1 (u4 x img W.S a).1 img∧(Ko W a hm).1.S=(u4 x img W.S a).2.1∧(Ko W a hm).2=(u4 x img W.S a).2.2:=by
 unfold Ko u4
 cases hmb:rJ a with
 | false=>exact ⟨h,rfl,rfl⟩
 | true =>
  rw [if_neg (show ¬ (true=false) by decide),if_neg (show ¬ (true=false) by decide),if_pos ⟨hl,hk⟩]
  have f:=CG hmb
  obtain ⟨k,o1,o2⟩:=Lj h fit f hm
  have hlf:((W.next a.busy hm).cut a.cm).m.left<0:=by rw [(Bk h.calm h.ok f hm).2.2 hl];exact h.left
  rcases k with ⟨⟨k1,k2,k3,k4,k5⟩,kb⟩ | ⟨_,_,kb⟩
  ·
   exact ⟨⟨k1,o1,kb hlf,Ky h.has fit a,k2,k3⟩,k4,k5⟩
  ·
   omega
end
section
theorem Lay.Mr {x:ByteArray} {sec:Nat} {V:bB} (h:Lay x sec V):V.Ok:=by
 have:=h.cn
 rw [← h.view,← Dx] at this ⊢
 exact Bc _ this
theorem FO {x y:ByteArray} {sec f:Nat} {V:bB} (h:Lay x sec V) (h1:1≤f) (hf:f<8) (hv:V.free=(f:Int)) (hs:gm x y (sec * 512+f * 64) 64) {r:aX} (hr:bC r=true) (hk:r.kind≠0) (e:dq y sec f=aL r):Lay y sec ⟨true,V.an,V.aB++[r],V.free+1⟩:=by
 obtain ⟨b0,b1,b2,b3,b4⟩:=qJ (x:=x) (y:=y) (sec:=sec) h1 hf (by rw [h.view];exact hv) hs
 rw [h.view] at b1 b2 b3
 have hd : ∀ j,4≤j→j<8→j≠sec→sP (dq y j 0) V.an:=fun j h4 h8 hne=>by
  rw [hs.slot (j:=j) (i:=0) hf (by omega) (by omega)]
  exact h.dead j h4 h8 hne
 have hfy:dR (iT y sec) f=dq y sec f:=je _ _ _ hf
 have hsz:y.size=4096:=by rw [hs.1,h.size]
 have hg:=h.cn
 refine ⟨hsz,h.s0,h.s1,?_,rfl,hd⟩
 refine Dy (by rw [b1,hg]) b2 ?_ ?_
 ·
  rw [b3]
  unfold eA
  rw [hfy,e,jL hr]
  simp [hk]
 ·
  rw [b4,if_neg (by rw [e];exact pC hr)]
  show _=V.free+1
  rw [hv]
  omega
theorem gm.wide {x y:ByteArray} {j k:Nat} (h:gm x y (j * 512+k * 64) 64) (hk:k<8):gm x y (j * 512) 512:=h.mono (by omega) (by omega)
theorem FX {k v:ByteArray} : ∀ {ps:List aK},(∀ p ∈ ps,cI p.key k=true)→fS k v ps=ps++[⟨k,v⟩]
 | [],_=>rfl
 | p::ps,h=>by
  unfold fS
  rw [if_pos (h p (by simp)),FX fun q hq=>h q (by simp [hq])]
  rfl
theorem B9 : ∀ (ps qs:List aK),fo (qs++ps)→(ps.map eS).foldl eG qs=qs++ps
 | [],qs,_=>by simp
 | p::ps,qs,h=>by
  have hq:fo qs:=(List.pairwise_append.1 h).1
  have hl : ∀ q ∈ qs,cI q.key p.key=true:=fun q hq=>(List.pairwise_append.1 h).2.2 q hq p (by simp)
  have h2:fo ((qs++[p])++ps):=by rw [List.append_assoc];exact h
  show (ps.map eS).foldl eG (eG qs (eS p))=_
  rw [show eG qs (eS p)=fS p.key p.value qs from pW p.key p.value 0 qs hq,FX hl]
  have:=B9 ps (qs++[p]) h2
  rw [show (⟨p.key,p.value⟩:aK)=p from rfl,this,List.append_assoc]
  rfl
theorem Gu {ps:List aK} (h:fo ps):cz (ps.map eS)=ps:=B9 ps [] h
theorem DI : ∀ (rs:List aX) (k:Nat),((List.range rs.length).map fun i:Nat=>((i+k:Nat):Int)).zip rs=yr k rs
 | [],_=>rfl
 | r::rs,k=>by
  rw [List.length_cons,List.range_succ_eq_map,List.map_cons,List.map_map,List.zip_cons_cons]
  have:=DI rs (k+1)
  unfold yr
  rw [← this]
  congr 1
  ·
   simp
  ·
   congr 1
   apply List.map_congr_left
   intro i _
   show ((i.succ+k:Nat):Int)=((i+(k+1):Nat):Int)
   congr 1
   omega
theorem Hi (av an:Int) (ps:List aK):(jJ av an ps).bI.zip (jJ av an ps).aB=yr 1 (ps.map eS)++[(0,cR an)]:=by
 show ((List.range ps.length).map (fun i:Nat=>(i:Int)+1)++[0]).zip (ps.map eS++[cR an])=_
 rw [List.zip_append (by simp)]
 have:=DI (ps.map eS) 1
 rw [List.length_map] at this
 rw [← this]
 rfl
theorem next_ne {sec:Nat} (h4:4≤sec) (h8:sec<8) : ∃ j:Nat,fM (sec:Int)=(j:Int)∧4≤j∧j<8∧j≠sec:=by
 unfold fM
 by_cases h:(sec:Int)+1 ≥ 8
 ·
  rw [if_pos h];exact ⟨4,rfl,by omega,by omega,by omega⟩
 ·
  rw [if_neg h];exact ⟨sec+1,by omega,by omega,by omega,by omega⟩
theorem Ap (x:ByteArray) (j:Nat):oq x (j:Int)=erased x (j * 512:Nat) ⟨#[255]⟩:=by
 unfold oq
 rw [show ((j:Int) * 512)=((j * 512:Nat):Int) by omega]
theorem wm {x:ByteArray} {sec:Nat} {V:bB} (h:Lay x sec V) {r:aX} (hr:gW r) (h0:(cC V sec r).1=0) : ∃ (sec':Nat) (V':bB),Lay (hU x (cC V sec r).2) sec' V'∧(⟨true,(cC V sec r).2.av,iN ⟨true,sec,V⟩ (cC V sec r).2⟩:aA)=⟨true,sec',V'⟩∧cz V'.aB=eG (cz V.aB) r∧V'.an≤V.an+1:=by
 have vk:=h.Mr
 obtain ⟨bs,bl⟩:=dx _ V.aB rfl vk.aB
 revert h0
 unfold cC
 split
 ·
  intro h0;exact absurd h0 (show ¬ (2202:Int)=0 by decide)
 split
 ·
  intro h0;exact absurd h0 (show ¬ (2201:Int)=0 by decide)
 rename_i hn1 hn2
 split
 ·
  rename_i hf
  intro _
  obtain ⟨f,hfe⟩ : ∃ f:Nat,V.free=(f:Int):=⟨V.free.toNat,by have:=vk.free;omega⟩
  have hf1:1≤f:=by have:=vk.free;omega
  have hf8:f<8:=by omega
  have hsame:=kX x sec f (aL r)
  obtain ⟨b0,_⟩:=qJ (x:=x) (y:=jq x (bZ sec f) (aL r)) (sec:=sec) hf1 hf8 (by rw [h.view];exact hfe) hsame
  have hslot:=nk h.size h.s1 hf8 (fP _ hr.1) b0
  have hlay:=FO h hf1 hf8 hfe hsame hr.1 hr.2 hslot
  refine ⟨sec,⟨true,V.an,V.aB++[r],V.free+1⟩,?_,?_,oF _ _,by show V.an≤V.an+1;omega⟩
  ·
   show Lay (gU (sec:Int) [(V.free,r)] x) sec _
   rw [hfe]
   rw [hfe] at hlay
   exact hlay
  ·
   unfold iN
   have:([r]:List aX).filter dI=[r]:=by
    unfold dI
    simp [hr.2]
   show (⟨true,(sec:Int),⟨true,V.an,(if (-1:Int)<0 then V.aB else [])++[r].filter dI,V.free+1⟩⟩:aA)=_
   rw [this,if_pos (by decide)]
 split
 ·
  intro h0;exact absurd h0 (show ¬ (2201:Int)=0 by decide)
 ·
  rename_i hf he
  intro _
  obtain ⟨j,hj,j4,j8,jne⟩:=next_ne h.s0 h.s1
  have hso:=nW bs hr
  generalize hps:eG (cz V.aB) r=ps at *
  have hpk : ∀ p ∈ ps,mV p:=by rw [← hps];exact pB (re vk.aB) hr
  have hbase:iL x (jJ (fM sec) (V.an+1) ps)=oq x (j:Int):=by
   unfold iL
   show (if 0≤fM (sec:Int) then oq x (fM (sec:Int)) else x)=_
   rw [hj,if_pos (by omega)]
  have hsame:=ui x j ⟨#[255]⟩
  have hw:Lay (hU x (jJ (fM sec) (V.an+1) ps)) j ⟨true,V.an+1,ps.map eS,(((ps.map eS).length+1:Nat):Int)⟩:=by
   unfold hU
   rw [hbase,Hi]
   show Lay (gU (fM (sec:Int)) _ _) j _
   rw [hj,Ap]
   refine zx (by rw [hsame.1];exact h.size) j4 j8 (by have:=vk.an;omega) (by omega) (by rw [List.length_map];omega) (fun q hq => ?_) (fun i hi=>wP h.size j8 hi) (fun i i4 i8 ine => ?_)
   ·
    obtain ⟨p,hp,rfl⟩:=List.mem_map.1 hq
    exact ⟨hpk p hp,show (1:Int)≠0 by decide⟩
   ·
    rw [hsame.sec (by omega) ine]
    exact h.old i i4 i8
  refine ⟨j,_,hw,?_,?_,Int.le_refl _⟩
  ·
   unfold iN
   have hfil:(ps.map eS++[cR (V.an+1)]).filter dI=ps.map eS:=by
    rw [List.filter_append,List.filter_eq_self.2 (fun q hq=>by obtain ⟨p,_,rfl⟩:=List.mem_map.1 hq;rfl)]
    show ps.map eS++[]=_
    rw [List.append_nil]
   show (⟨true,fM (sec:Int),⟨true,V.an+1,(if fM (sec:Int)<0 then V.aB else [])++(ps.map eS++[cR (V.an+1)]).filter dI,(ps.length:Int)+1⟩⟩:aA)=_
   rw [hfil,hj,if_neg (by omega),List.nil_append,List.length_map]
   rfl
  ·
   exact Gu hso.1
end
section
def sV (x:ByteArray) (ps:List aK) (E:Int):Prop := ∃ (sec:Nat) (V:bB),Lay x sec V∧cz V.aB=ps∧V.an≤E
def fG (x:ByteArray) (S:aA) (ps:List aK) (E:Int):Prop := ∃ (sec:Nat) (V:bB),Lay x sec V∧cz V.aB=ps∧V.an≤E∧S=⟨true,sec,V⟩
theorem fG.kept {x:ByteArray} {S:aA} {ps:List aK} {E:Int} (h:fG x S ps E):sV x ps E:=by
 obtain ⟨sec,V,h1,h2,h3,_⟩:=h
 exact ⟨sec,V,h1,h2,h3⟩
theorem fG.fit {x:ByteArray} {S:aA} {ps:List aK} {E:Int} (h:fG x S ps E):S.Fit:=by
 obtain ⟨sec,V,h1,h2,h3,rfl⟩:=h
 have:=h1.s0
 have:=h1.s1
 exact .inr ⟨rfl,show (4:Int)≤sec by omega,show (sec:Int)<8 by omega,h1.Mr⟩
theorem sV.more {x:ByteArray} {ps:List aK} {E E':Int} (h:sV x ps E) (k:E≤E'):sV x ps E':=by
 obtain ⟨sec,V,h1,h2,h3⟩:=h
 exact ⟨sec,V,h1,h2,by omega⟩
theorem fG.more {x:ByteArray} {S:aA} {ps:List aK} {E E':Int} (h:fG x S ps E) (k:E≤E'):fG x S ps E':=by
 obtain ⟨sec,V,h1,h2,h3,h4⟩:=h
 exact ⟨sec,V,h1,h2,by omega,h4⟩
theorem sV.sorted {x:ByteArray} {ps:List aK} {E:Int} (h:sV x ps E):fo ps∧ps.length≤7:=by
 obtain ⟨sec,V,h1,rfl,h3⟩:=h
 have vk:=h1.Mr
 have:=dx _ V.aB rfl vk.aB
 exact ⟨this.1,Nat.le_trans this.2 vk.len⟩
theorem El {x:ByteArray} (hx:x.size=4096) {j:Nat} {E:Int} (j4:4≤j) (j8:j<8) (e0:1≤E) (e1:E≤1048576) (hd : ∀ i,4≤i→i<8→sP (dq x i 0) E):Lay (jq (oq x (j:Int)) (bZ (j:Int) 0) (aL (cR E))) j ⟨true,E,[],1⟩:=by
 have hsame:=ui x j ⟨#[255]⟩
 rw [Ap]
 exact zx (rs:=[]) (by rw [hsame.1];exact hx) j4 j8 e0 e1 (by simp) (fun q hq=>by simp at hq) (fun i hi=>wP hx j8 hi) (fun i i4 i8 ine=>by
  rw [hsame.sec (by omega) ine]
  exact hd i i4 i8)
def ES (ps:List aK) (key value:ByteArray) (reads:List Int):Int :=
 if ¬ (1≤key.size∧key.size≤6) then 2300 else if 20<value.size then 2301 else if 7<(fS key value ps).length then 2304 else if cY reads=true then 0 else 1800
def Ea (ps:List aK) (key:ByteArray) (reads:List Int):Int :=
 if ¬ (1≤key.size∧key.size≤6) then 2300 else if (gP ps key).isSome=false then 2303 else if cY reads=true then 0 else 1800
theorem AH (k:ByteArray) (ps:List aK):(fu k ps).length≤ps.length:=List.length_filter_le _ _
theorem EE {x img:ByteArray} {S:aA} {ps:List aK} {E:Int} (h:fG x S ps E) (hE:E<1048576) (key value:ByteArray) (reads:List Int):(ES ps key value reads≠0→vh x img S key value reads=(x,S,[],ES ps key value reads))∧(ES ps key value reads=0→fG (vh x img S key value reads).1 (vh x img S key value reads).2.1 (fS key value ps) (E+1)∧(vh x img S key value reads).2.2=(reads.map (lk img),0)):=by
 obtain ⟨sec,V,h1,h2,h3,rfl⟩:=h
 have vk:=h1.Mr
 obtain ⟨bs,bl⟩:=dx _ V.aB rfl vk.aB
 rw [h2] at bs bl
 unfold ES vh cS
 rw [if_neg (show ¬ true=false by decide)]
 by_cases k1:1≤key.size∧key.size≤6
 ·
  rw [if_neg (not_not_intro k1),if_pos k1,if_neg (show ¬ (0:Int)≠0 by decide)]
  by_cases k2:20<value.size
  ·
   rw [if_pos k2,if_pos k2]
   exact ⟨fun _=>rfl,fun h=>absurd h (by decide)⟩
  ·
   rw [if_neg k2,if_neg k2]
   have hr:=qK (value:=value) k1.1 k1.2 (by omega)
   have hw:eG (cz V.aB) ⟨1,0,key,value⟩=fS key value ps:=by rw [h2];exact pW key value 0 ps bs
   have c0:=fun h0=>wm h1 hr h0
   have hc:(cC V sec ⟨1,0,key,value⟩).1=if 7<(fS key value ps).length then 2201 else 0:=by
    unfold cC
    rw [hw,if_neg (fun h=>absurd h.2 (show ¬ (1:Int)=2 by decide))]
    by_cases k3:7<(fS key value ps).length
    ·
     rw [if_pos k3,if_pos k3]
    ·
     rw [if_neg k3,if_neg k3]
     by_cases k4:V.free<8
     ·
      rw [if_pos k4]
     ·
      rw [if_neg k4,if_neg (by omega)]
   unfold jO zM
   rw [show (⟨true,(sec:Int),V⟩:aA).view=V from rfl,show (⟨true,(sec:Int),V⟩:aA).av=(sec:Int) from rfl]
   generalize cC V sec ⟨1,0,key,value⟩=c at c0 hc
   rw [hc]
   by_cases k3:7<(fS key value ps).length
   ·
    rw [if_pos k3,if_pos k3,if_neg (show ¬ (2201:Int)=2202 by decide),if_pos (show (2201:Int)≠0 by decide)]
    exact ⟨fun _=>rfl,fun h=>absurd h (by decide)⟩
   ·
    rw [if_neg k3,if_neg k3,if_neg (show ¬ (0:Int)=2202 by decide),if_neg (show ¬ (0:Int)≠0 by decide)]
    by_cases k4:cY reads=true
    ·
     rw [if_pos k4,if_pos k4]
     refine ⟨fun h=>absurd rfl h,fun _=>⟨?_,rfl⟩⟩
     obtain ⟨s',V',d1,d2,d3,d4⟩:=c0 (by rw [hc,if_neg k3])
     exact ⟨s',V',d1,d3.trans hw,by omega,d2⟩
    ·
     rw [if_neg k4,if_neg k4]
     exact ⟨fun _=>rfl,fun h=>absurd h (by decide)⟩
 ·
  rw [if_pos k1,if_neg k1,if_pos (show (2300:Int)≠0 by decide)]
  exact ⟨fun _=>rfl,fun h=>absurd h (by decide)⟩
theorem ED {x img:ByteArray} {S:aA} {ps:List aK} {E:Int} (h:fG x S ps E) (hE:E<1048576) (key:ByteArray) (reads:List Int):(Ea ps key reads≠0→wL x img S key reads=(x,S,[],Ea ps key reads))∧(Ea ps key reads=0→fG (wL x img S key reads).1 (wL x img S key reads).2.1 (fu key ps) (E+1)∧(wL x img S key reads).2.2=(reads.map (lk img),0)):=by
 obtain ⟨sec,V,h1,h2,h3,rfl⟩:=h
 have vk:=h1.Mr
 obtain ⟨bs,bl⟩:=dx _ V.aB rfl vk.aB
 rw [h2] at bs bl
 have vl:=vk.len
 unfold Ea wL cS
 rw [if_neg (show ¬ true=false by decide)]
 by_cases k1:1≤key.size∧key.size≤6
 ·
  rw [if_neg (not_not_intro k1),if_pos k1,if_neg (show ¬ (0:Int)≠0 by decide)]
  have hr:=wM k1.1 k1.2
  have hw:eG (cz V.aB) ⟨2,0,key,⟨#[]⟩⟩=fu key ps:=by rw [h2];exact tN key ⟨#[]⟩ 0 ps bs
  have hdl:=AH key ps
  have c0:=fun h0=>wm h1 hr h0
  have hc:(cC V sec ⟨2,0,key,⟨#[]⟩⟩).1=if (gP ps key).isSome=false then 2202 else 0:=by
   unfold cC
   rw [hw,h2]
   by_cases k3:(gP ps key).isSome=false
   ·
    rw [if_pos ⟨k3,rfl⟩,if_pos k3]
   ·
    rw [if_neg (fun h=>k3 h.1),if_neg k3,if_neg (by omega)]
    by_cases k4:V.free<8
    ·
     rw [if_pos k4]
    ·
     rw [if_neg k4,if_neg (by omega)]
  unfold jO zM
  rw [show (⟨true,(sec:Int),V⟩:aA).view=V from rfl,show (⟨true,(sec:Int),V⟩:aA).av=(sec:Int) from rfl]
  generalize cC V sec ⟨2,0,key,⟨#[]⟩⟩=c at c0 hc
  rw [hc]
  by_cases k3:(gP ps key).isSome=false
  ·
   rw [if_pos k3,if_pos k3,if_pos (show (2202:Int)=2202 by decide)]
   exact ⟨fun _=>rfl,fun h=>absurd h (by decide)⟩
  ·
   rw [if_neg k3,if_neg k3,if_neg (show ¬ (0:Int)=2202 by decide),if_neg (show ¬ (0:Int)≠0 by decide)]
   by_cases k4:cY reads=true
   ·
    rw [if_pos k4,if_pos k4]
    refine ⟨fun h=>absurd rfl h,fun _=>⟨?_,rfl⟩⟩
    obtain ⟨s',V',d1,d2,d3,d4⟩:=c0 (by rw [hc,if_neg k3])
    exact ⟨s',V',d1,d3.trans hw,by omega,d2⟩
   ·
    rw [if_neg k4,if_neg k4]
    exact ⟨fun _=>rfl,fun h=>absurd h (by decide)⟩
 ·
  rw [if_pos k1,if_neg k1,if_pos (show (2300:Int)≠0 by decide)]
  exact ⟨fun _=>rfl,fun h=>absurd h (by decide)⟩
theorem CR {x:ByteArray} {S:aA} {ps:List aK} {E:Int} (h:fG x S ps E):lO S=(ps,0):=by
 obtain ⟨sec,V,h1,h2,h3,rfl⟩:=h
 unfold lO
 rw [if_pos rfl]
 show (cz V.aB,(0:Int))=_
 rw [h2]
end
section
open Go.RowKit
theorem Hl (x:Int) (w:World):Calls prog 13 #[.int .i64 x] w fun e w'=>e=.returned (.int .i64 x)∧w=w':=by
 go_enter func13,ntmps13
 go_wp2
 go_ret
 exact ⟨rfl,rfl⟩
instance :DecidableEq aK:=fun a b=>decidable_of_iff (a.key=b.key∧a.value=b.value) (by cases a;cases b;simp)
def Fs (b:Bool) (w:World) (e:Ending) (w':World):Prop:=e=.returned (.bool b)∧Below w.heap.size w w'
theorem JS {ps qs:List aK} (hl:ps.length=qs.length) (h : ∀ j (h1:j<ps.length) (h2:j<qs.length),ps[j]=qs[j]):ps=qs:=List.ext_getElem hl fun i h1 h2=>h i h1 h2
theorem yu (a1 a2:Option Addr) (c1 c2 m n:Nat) (w:World) (hl:m≠n):Calls prog 22 #[.slice a1 m c1,.slice a2 n c2] w (Fs false w):=by
 have g:((m:Int) != (n:Int))=true:=by simp;omega
 clear hl
 go_enter func22,ntmps22
 go_wp2
 go_ret
 exact ⟨rfl,Below.refl _ _⟩
theorem kq (u v:Value) (ps qs:List aK) (w:World) (h1:aT w u ps.length 2 (aE ps)) (h2:aT w v qs.length 2 (aE qs)) (hm:ps.length≤1000000):Calls prog 22 #[u,v] w (Fs (decide (ps=qs)) w):=by
 obtain ⟨a1,c1,rfl⟩:=h1.slice
 obtain ⟨a2,c2,rfl⟩:=h2.slice
 by_cases hl:ps.length=qs.length
 case neg =>
  have e:decide (ps=qs)=false:=by simp;intro h;exact hl (by rw [h])
  rw [e];exact yu a1 a2 c1 c2 _ _ w hl
 have H1:=zH h1
 have H2:=zH h2
 have X1:=zH (fun i (hi:i<ps.length)=>dF ps i hi)
 have X2:=zH (fun i (hi:i<qs.length)=>dF qs i hi)
 have HL:=zH hl
 rw [← hl]
 clear hl h1 h2
 go_enter func22,ntmps22
 go_wp2
 go_loopg [5] ps.length (fun n i wr => ∃ k:Nat,n=ps.length - k∧k≤ps.length∧i=.int .i64 k∧Below w.heap.size w wr ∧ ∀ j (h1:j<ps.length) (h2:j<qs.length),j<k→ps[j]=qs[j])
 case atStart=>exact ⟨0,rfl,Nat.zero_le _,rfl,Below.refl _ _,fun j _ _ hj=>absurd hj (Nat.not_lt_zero _)⟩
 case round =>
  obtain ⟨k,hn,hk,rfl,hb,hsame⟩:=hrel
  have HB:=zH (zA hn (zA hb hsame))
  clear hn hb hsame
  by_cases hlt:k<ps.length
  ·
   have hlt':(k:Int)<(ps.length:Int):=by omega
   have hlq:k<qs.length:=by have:=HL.out;omega
   obtain ⟨b1,o1,rfl,hc1,hx1⟩:=H1.out.some (by omega)
   obtain ⟨b2,o2,rfl,hc2,hx2⟩:=H2.out.some (by omega)
   obtain ⟨p0,p1⟩:=X1.out k hlt
   obtain ⟨q0,q1⟩:=X2.out k hlq
   have cc1 : ∀ i u,(aE ps)[2 * k+i]? = some u→wr.cell? ⟨b1,o1+k * 2+i,none⟩=some u:=fun i u hu=>by
    have e:=hx1 _ _ hu
    rw [show o1+k * 2+i=o1+(2 * k+i) by omega]
    exact (HB.out.2.1.cell (p:=⟨b1,o1+(2 * k+i),none⟩) (zL w _ e)).trans e
   have cc2 : ∀ i u,(aE qs)[2 * k+i]? = some u→wr.cell? ⟨b2,o2+k * 2+i,none⟩=some u:=fun i u hu=>by
    have e:=hx2 _ _ hu
    rw [show o2+k * 2+i=o2+(2 * k+i) by omega]
    exact (HB.out.2.1.cell (p:=⟨b2,o2+(2 * k+i),none⟩) (zL w _ e)).trans e
   have c10:wr.cell? ⟨b1,o1+k * 2,none⟩=some (.string ps[k].key):=cc1 0 _ p0
   have c11:wr.cell? ⟨b1,o1+k * 2+1,none⟩=some (.string ps[k].value):=cc1 1 _ p1
   have c20:wr.cell? ⟨b2,o2+k * 2,none⟩=some (.string qs[k].key):=cc2 0 _ q0
   have c21:wr.cell? ⟨b2,o2+k * 2+1,none⟩=some (.string qs[k].value):=cc2 1 _ q1
   clear p0 p1 q0 q1 cc1 cc2 hx1 hx2
   generalize hp:ps[k]=p at *
   generalize hq:qs[k]=q at *
   have HP:=zH (zA hp hq)
   clear hp hq
   by_cases he:p=q
   ·
    have HE:=zH he
    have e1:(p.key.toList == q.key.toList)=true:=by rw [he];exact beq_self_eq_true _
    have e2:(p.value.toList == q.value.toList)=true:=by rw [he];exact beq_self_eq_true _
    clear he
    go_wp2_with fail
    go_quiet (fail)
    go_wp2
    go_roundg (ps.length - (k+1))
    case measure=>have:=HB.out.1;omega
    case rel =>
     refine ⟨k+1,rfl,by omega,by go_num,aY HB.out.2.1 nq,fun j g1 g2 hl => ?_⟩
     rcases Nat.lt_or_ge j k with h' | h'
     ·
      exact HB.out.2.2 j g1 g2 h'
     ·
      obtain rfl:j=k:=by omega
      rw [HP.out.1,HP.out.2,HE.out]
   ·
    have hf:decide (ps=qs)=false:=by
     simp only [decide_eq_false_iff_not]
     rintro rfl
     exact he (HP.out.1.symm.trans HP.out.2)
    have HF:=zH hf
    clear hf
    by_cases hk:p.key=q.key
    ·
     have e1:(p.key.toList == q.key.toList)=true:=by rw [hk];exact beq_self_eq_true _
     have e2:(p.value.toList == q.value.toList)=false:=by
      rw [js,decide_eq_false_iff_not]
      intro h
      exact he (by cases p;cases q;simp_all)
     clear he hk
     go_wp2_with fail
     go_quiet (fail)
     go_wp2
     go_ret
     exact ⟨by rw [HF.out];rfl,aY HB.out.2.1 nq⟩
    ·
     have e1:(p.key.toList == q.key.toList)=false:=by rw [js,decide_eq_false_iff_not];exact hk
     clear he hk
     go_wp2_with fail
     go_quiet (fail)
     go_wp2
     go_ret
     exact ⟨by rw [HF.out];rfl,aY HB.out.2.1 nq⟩
  ·
   obtain rfl:k=ps.length:=by omega
   have hf:decide (ps=qs)=true:=by simp;exact JS HL.out fun j g1 g2=>HB.out.2.2 j g1 g2 g1
   have HF:=zH hf
   clear hf
   go_wp2
   go_ret
   exact ⟨by rw [HF.out];rfl,HB.out.2.1⟩
end
end Go.Proofs.YtcfdenckiigdaaaGreat

/- Part 46 of the contracts. -/
import Derived.Test.YtcfdenckiigdaaaGreatIl45
set_option linter.unusedVariables false
set_option maxRecDepth 100000
set_option maxHeartbeats 4000000
namespace Go.Proofs.YtcfdenckiigdaaaGreat
section
def qtB (c:Int×qca) (x img:ByteArray) (S:qag) (reads:List Int):ByteArray×qag×List Int×Int :=
 if c.1=2202 then (x,S,[],2303) else if c.1≠0 then (x,S,[],2304) else if readsOk reads=true then (qdc x c.2,⟨true,c.2.sector,behindV S c.2⟩,reads.map (qdk img),0) else (x,S,[],1800)
def qef (x img:ByteArray) (S:qag) (r:qaL) (reads:List Int):ByteArray×qag×List Int×Int:=qtB (changeR S.view S.sector r) x img S reads
def qdn (x:ByteArray) (S:qag) (r:qaL) (y:ByteArray):Prop:=y=x∨((changeR S.view S.sector r).1=0∧qgo x (changeR S.view S.sector r).2 y)
theorem qhP {m:Ctl} {x img:ByteArray} {q:Cache} (h:Calm m x) (hx:Has x img) (g:q.Good) (hq:q.Tells img) {S:qag} (vk:S.view.Ok) (s0:4≤S.sector) (s1:S.sector<8) {r:qaL} (hr:qcJ r) (reads:List Int):qdD m (qa5 m q S r reads).2.2.2.2 (qa5 m q S r reads).1 (Calm (qa5 m q S r reads).1 (qef x img S r reads).1∧(qa5 m q S r reads).2.1.Good∧(qa5 m q S r reads).2.1.Tells img∧(qa5 m q S r reads).2.2=(qef x img S r reads).2) (qdn x S r):=by
 have hp:(changeR S.view S.sector r).1=0→(changeR S.view S.sector r).2.Ok:=qeg vk s0 s1 hr
 unfold qa5 qef qdn
 generalize changeR S.view S.sector r=c at hp
 unfold qkt qtB
 by_cases h1:c.1=2202
 ·
  rw [if_pos h1,if_pos h1]
  exact .inl ⟨⟨h,g,hq,rfl⟩,qcl.refl _⟩
 ·
  rw [if_neg h1,if_neg h1]
  by_cases h2:c.1≠0
  ·
   rw [if_pos h2,if_pos h2]
   exact .inl ⟨⟨h,g,hq,rfl⟩,qcl.refl _⟩
  ·
   rw [if_neg h2,if_neg h2]
   by_cases h3:readsOk reads=true
   ·
    rw [if_pos h3,if_pos h3]
    have hw:=qmZ h hx g hq (hp (by omega)) h3
    generalize writesR m q c.2 reads=t at hw
    unfold qhQ
    rcases hw with ⟨k0,⟨k1,k2,k3,k4⟩,k5⟩ | ⟨k0,k1,k2⟩
    ·
     rw [if_neg (by rw [k0];decide)]
     exact .inl ⟨⟨k1,k2,k3,by rw [k4]⟩,k5⟩
    ·
     rw [if_pos (by rw [k0];decide)]
     exact .inr ⟨k0,k1.mono fun y hy=>.inr ⟨by omega,hy⟩,k2⟩
   ·
    rw [if_neg h3,if_neg h3]
    exact .inl ⟨⟨h,g,hq,rfl⟩,qcl.refl _⟩
def qvd (x img:ByteArray) (S:qag) (key value:ByteArray) (reads:List Int):ByteArray×qag×List Int×Int :=
 if askedE S key≠0 then (x,S,[],askedE S key) else if 20<value.size then (x,S,[],2301) else qef x img S ⟨1,0,key,value⟩ reads
def qvu (x img:ByteArray) (S:qag) (key:ByteArray) (reads:List Int):ByteArray×qag×List Int×Int :=
 if askedE S key≠0 then (x,S,[],askedE S key) else qef x img S ⟨2,0,key,⟨#[]⟩⟩ reads
def qqw (x:ByteArray) (S:qag) (key value y:ByteArray):Prop:=y=x∨(askedE S key=0∧value.size≤20∧qdn x S ⟨1,0,key,value⟩ y)
def qqp (x:ByteArray) (S:qag) (key y:ByteArray):Prop:=y=x∨(askedE S key=0∧qdn x S ⟨2,0,key,⟨#[]⟩⟩ y)
theorem qsU {m:Ctl} {x img:ByteArray} {q:Cache} (h:Calm m x) (hx:Has x img) (g:q.Good) (hq:q.Tells img) {S:qag} (fit:S.Fit) (key value:ByteArray) (reads:List Int):qdD m (putR m q S key value reads).2.2.2.2 (putR m q S key value reads).1 (Calm (putR m q S key value reads).1 (qvd x img S key value reads).1∧(putR m q S key value reads).2.1.Good∧(putR m q S key value reads).2.1.Tells img∧(putR m q S key value reads).2.2=(qvd x img S key value reads).2) (qqw x S key value):=by
 unfold putR qvd
 by_cases h1:askedE S key≠0
 ·
  rw [if_pos h1,if_pos h1]
  exact .inl ⟨⟨h,g,hq,rfl⟩,qcl.refl _⟩
 ·
  rw [if_neg h1,if_neg h1]
  obtain ⟨o1,o2,o3⟩:=qbD (by omega:askedE S key=0)
  obtain ⟨f1,f2,f3⟩:=qcv fit o1
  by_cases h2:20<value.size
  ·
   rw [if_pos h2,if_pos h2]
   exact .inl ⟨⟨h,g,hq,rfl⟩,qcl.refl _⟩
  ·
   rw [if_neg h2,if_neg h2]
   exact (qhP h hx g hq f3 f1 f2 (qiE o2 o3 (by omega)) reads).mono id fun y hy=>.inr ⟨by omega,by omega,hy⟩
theorem qsT {m:Ctl} {x img:ByteArray} {q:Cache} (h:Calm m x) (hx:Has x img) (g:q.Good) (hq:q.Tells img) {S:qag} (fit:S.Fit) (key:ByteArray) (reads:List Int):qdD m (delR m q S key reads).2.2.2.2 (delR m q S key reads).1 (Calm (delR m q S key reads).1 (qvu x img S key reads).1∧(delR m q S key reads).2.1.Good∧(delR m q S key reads).2.1.Tells img∧(delR m q S key reads).2.2=(qvu x img S key reads).2) (qqp x S key):=by
 unfold delR qvu
 by_cases h1:askedE S key≠0
 ·
  rw [if_pos h1,if_pos h1]
  exact .inl ⟨⟨h,g,hq,rfl⟩,qcl.refl _⟩
 ·
  rw [if_neg h1,if_neg h1]
  obtain ⟨o1,o2,o3⟩:=qbD (by omega:askedE S key=0)
  obtain ⟨f1,f2,f3⟩:=qcv fit o1
  exact (qhP h hx g hq f3 f1 f2 (qlA o2 o3) reads).mono id fun y hy=>.inr ⟨by omega,hy⟩
def qiT (r:ByteArray×qag×List Int×Int):ByteArray×qag×qg6×Int:=(r.1,r.2.1,⟨⟨#[]⟩,[],outs r.2.2.2 r.2.2.1,false⟩,r.2.2.2)
def qvt (img:ByteArray) (at_ width:Int):List Int×Int:=if readGood at_ width=true then ([busVal img at_ width.toNat 0 0],0) else ([],1300)
def qhe (x img:ByteArray) (S:qag) (a:qbI):ByteArray×qag×qg6×Int :=
 if a.kind=0 then qiT (qcG x img a.reads)
 else if a.kind=1 then (x,(mountX x).1,⟨⟨#[]⟩,[],[],false⟩,(mountX x).2)
 else if a.kind=2 then qiT (qvd x img S a.key a.value a.reads)
 else if a.kind=3 then (x,S,⟨(getR S a.key).1,[],[],false⟩,(getR S a.key).2)
 else if a.kind=4 then qiT (qvu x img S a.key a.reads)
 else if a.kind=5 then (x,S,⟨⟨#[]⟩,(listR S).1,[],false⟩,(listR S).2)
 else if a.kind=6 then (x,S,⟨⟨#[]⟩,[],(qvt img a.at_ a.width).1,false⟩,(qvt img a.at_ a.width).2)
 else (x,S,⟨⟨#[]⟩,[],[],false⟩,0)
theorem qsa (r:Ctl×Cache×qag×List Int×Int) (t:ByteArray×qag×List Int×Int) (h:r.2.2=t.2):r.2.2.1=(qiT t).2.1∧((⟨⟨#[]⟩,[],outs r.2.2.2.2 r.2.2.2.1,false⟩,r.2.2.2.2):qg6×Int)=(qiT t).2.2:=by
 obtain ⟨r1,r2,r3⟩:=r
 obtain ⟨t1,t2⟩:=t
 simp only at h
 subst h
 exact ⟨rfl,rfl⟩
def qhy (x:ByteArray) (S:qag) (a:qbI) (y:ByteArray):Prop:=y=x∨(a.kind=0∧qgi x y)∨(a.kind=2∧qqw x S a.key a.value y)∨(a.kind=4∧qqp x S a.key y)
theorem qk3 {W:Wld} {img:ByteArray} {r:Ctl×Cache×qag×List Int×Int} {t:ByteArray×qag×List Int×Int} {P:ByteArray→Prop} (h:qdD W.m r.2.2.2.2 r.1 (Calm r.1 t.1∧r.2.1.Good∧r.2.1.Tells img∧r.2.2=t.2) P) {o:Wld×qg6×Int} (e:o=(⟨r.1,r.2.1,r.2.2.1⟩,⟨⟨#[]⟩,[],outs r.2.2.2.2 r.2.2.2.1,false⟩,r.2.2.2.2)) {z:ByteArray×qag×qg6×Int} (ez:z=qiT t):qdD W.m o.2.2 o.1.m (Calm o.1.m z.1∧o.1.q.Good∧o.1.q.Tells img∧o.1.S=z.2.1∧o.2=z.2.2) P:=by
 subst e ez
 exact h.mono (fun ⟨h1,h2,h3,h4⟩=>⟨h1,h2,h3,qsa r t h4⟩) fun y hy=>hy
theorem qsS {W:Wld} {x img:ByteArray} (h:Calm W.m x) (hx:Has x img) (g:W.q.Good) (hq:W.q.Tells img) (fit:W.S.Fit) (a:qbI):qdD W.m (actR W a).2.2 (actR W a).1.m (Calm (actR W a).1.m (qhe x img W.S a).1∧(actR W a).1.q.Good∧(actR W a).1.q.Tells img∧(actR W a).1.S=(qhe x img W.S a).2.1∧(actR W a).2=(qhe x img W.S a).2.2) (qhy x W.S a):=by
 by_cases k0:a.kind=0
 ·
  exact (qk3 (qmY h hx g hq a.reads) (by unfold actR;rw [if_pos k0]) (by unfold qhe;rw [if_pos k0])).mono id fun y hy=>.inr (.inl ⟨k0,hy⟩)
 by_cases k2:a.kind=2
 ·
  exact (qk3 (qsU h hx g hq fit a.key a.value a.reads) (by unfold actR;rw [if_neg k0,if_neg (by omega),if_pos k2]) (by unfold qhe;rw [if_neg k0,if_neg (by omega),if_pos k2])).mono id fun y hy=>.inr (.inr (.inl ⟨k2,hy⟩))
 by_cases k4:a.kind=4
 ·
  exact (qk3 (qsT h hx g hq fit a.key a.reads) (by unfold actR;rw [if_neg k0,if_neg (by omega),if_neg k2,if_neg (by omega),if_pos k4]) (by unfold qhe;rw [if_neg k0,if_neg (by omega),if_neg k2,if_neg (by omega),if_pos k4])).mono id fun y hy=>.inr (.inr (.inr ⟨k4,hy⟩))
 unfold actR qhe
 rw [if_neg k0,if_neg k0]
 by_cases k1:a.kind=1
 ·
  rw [if_pos k1,if_pos k1]
  have hm:=qph h
  generalize mountR W.m=r at hm
  generalize mountX x=t at hm
  refine hm.mono ?_ fun y hy=>.inl hy
  rintro ⟨h1,h2⟩
  obtain ⟨r1,r2⟩:=r
  simp only at h2
  subst h2
  exact ⟨h1,g,hq,rfl,rfl⟩
 rw [if_neg k1,if_neg k1,if_neg k2,if_neg k2]
 by_cases k3:a.kind=3
 ·
  rw [if_pos k3,if_pos k3]
  exact .inl ⟨⟨h,g,hq,rfl,rfl⟩,qcl.refl _⟩
 rw [if_neg k3,if_neg k3,if_neg k4,if_neg k4]
 by_cases k5:a.kind=5
 ·
  rw [if_pos k5,if_pos k5]
  exact .inl ⟨⟨h,g,hq,rfl,rfl⟩,qcl.refl _⟩
 rw [if_neg k5,if_neg k5]
 by_cases k6:a.kind=6
 ·
  rw [if_pos k6,if_pos k6]
  by_cases hr:readGood a.at_ a.width=true
  ·
   rw [show qvt img a.at_ a.width=([busVal img a.at_ a.width.toNat 0 0],0) from if_pos hr]
   have hm:=qqM h hx g hq hr
   generalize readR W.m W.q a.at_ a.width=r at hm
   generalize busVal img a.at_ a.width.toNat 0 0=t at hm
   refine qdD.mono (qcK.act hm) ?_ fun y hy=>.inl hy
   rintro ⟨h0,h1,h2,h3,h4⟩
   obtain ⟨r1,r2,r3,r4⟩:=r
   simp only at h0 h4
   subst h0 h4
   exact ⟨h1,h2,h3,rfl,rfl⟩
  ·
   rw [show qvt img a.at_ a.width=([],1300) from if_neg hr,show readR W.m W.q a.at_ a.width=(W.m,W.q,0,1300) from if_neg hr]
   exact .inl ⟨⟨h,g,hq,rfl,rfl⟩,qcl.refl _⟩
 rw [if_neg k6,if_neg k6]
 exact .inl ⟨⟨h,g,hq,rfl,rfl⟩,qcl.refl _⟩
end
section
theorem qtX {x img:ByteArray} (h:Has x img) {p:Int} (hp:2048≤p) {n:Nat} (f:Nat→UInt8→UInt8):Has (turn x p.toNat n f) img:=qon h (qge x p.toNat n f) (by omega)
theorem qeq {x img:ByteArray} (h:Has x img) {p:Int} (hp:2048≤p) (mask s:ByteArray):Has (qd5 x p mask s) img:=qtX h hp _
theorem qoE {x img s y:ByteArray} (h:Has x img) {p:Int} (hp:2048≤p) (k:qfH x p s y):Has y img:=by
 rcases k with rfl | ⟨m,rfl⟩ | ⟨m,rfl⟩
 ·
  exact h
 ·
  exact qeq h hp _ _
 ·
  exact qeq (qeq h hp _ _) (by omega) _ _
theorem qhO {x img s:ByteArray} (h:Has x img) {p:Int} (hp:2048≤p):Has (burnt x p s) img:=qeq (qeq h hp _ _) (by omega) _ _
theorem qjI {img:ByteArray} {sec:Int} (s0:4≤sec) (s1:sec<8) : ∀ (l:List (Int×qaL)) (x:ByteArray),Has x img→(∀ a ∈ l,0≤a.1∧a.1<8)→Has (burnsX sec l x) img
 | [],_,h,_=>h
 | a::l,x,h,hl=>qjI s0 s1 l _ (qhO h (qdY s0 s1 (hl a (by simp)).1 (hl a (by simp)).2).1) fun c hc=>hl c (by simp [hc])
theorem qfM {img y:ByteArray} {sec:Int} (s0:4≤sec) (s1:sec<8) : ∀ (l:List (Int×qaL)) (x:ByteArray),Has x img→(∀ a ∈ l,0≤a.1∧a.1<8)→qfG sec l x y→Has y img
 | [],_,h,_,k=>k.elim
 | a::l,x,h,hl,k=>k.elim (qoE h (qdY s0 s1 (hl a (by simp)).1 (hl a (by simp)).2).1) (qfM s0 s1 l _ (qhO h (qdY s0 s1 (hl a (by simp)).1 (hl a (by simp)).2).1) fun c hc=>hl c (by simp [hc]))
theorem qpB {x img:ByteArray} (h:Has x img) (reads:List Int):Has (qcG x img reads).1 img:=by
 have hs:=qiv x
 unfold qcG
 split
 ·
  exact h
 ·
  split
  ·
   exact qhO (qi8 h _ hs.1) (qdY hs.1 hs.2 (by decide) (by decide)).1
  ·
   exact h
theorem qji {x img y:ByteArray} (h:Has x img) (k:qgi x y):Has y img:=by
 have hs:=qiv x
 rcases k with rfl | ⟨_,⟨m,rfl⟩ | k⟩
 ·
  exact h
 ·
  exact qeP h _ (by omega) _
 ·
  exact qoE (qi8 h _ hs.1) (qdY hs.1 hs.2 (by decide) (by decide)).1 k
theorem qn7 {x img:ByteArray} (h:Has x img) {p:qca} (pk:p.Ok):Has (qdg x p) img:=by
 unfold qdg
 have:=pk.wipe
 split
 ·
  exact qi8 h _ (by omega)
 ·
  exact h
theorem qki {x img:ByteArray} (h:Has x img) {p:qca} (pk:p.Ok):Has (qdc x p) img:=qjI pk.sector.1 pk.sector.2 _ _ (qn7 h pk) fun a ha=>⟨(qgh pk a ha).1,(qgh pk a ha).2.1⟩
theorem qjy {x img y:ByteArray} (h:Has x img) {p:qca} (pk:p.Ok) (k:qgo x p y):Has y img:=by
 rcases k with rfl | ⟨h0,m,rfl⟩ | k | rfl
 ·
  exact h
 ·
  exact qeP h _ (by have:=pk.wipe;omega) _
 ·
  exact qfM pk.sector.1 pk.sector.2 _ _ (qn7 h pk) (fun a ha=>⟨(qgh pk a ha).1,(qgh pk a ha).2.1⟩) k
 ·
  exact qki h pk
theorem qjM {x img:ByteArray} (h:Has x img) {S:qag} (vk:S.view.Ok) (s0:4≤S.sector) (s1:S.sector<8) {r:qaL} (hr:qcJ r) (reads:List Int):Has (qef x img S r reads).1 img:=by
 have hp:(changeR S.view S.sector r).1=0→(changeR S.view S.sector r).2.Ok:=qeg vk s0 s1 hr
 unfold qef qtB
 split
 ·
  exact h
 ·
  split
  ·
   exact h
  ·
   split
   ·
    exact qki h (hp (by omega))
   ·
    exact h
theorem qe9 {x img y:ByteArray} (h:Has x img) {S:qag} (vk:S.view.Ok) (s0:4≤S.sector) (s1:S.sector<8) {r:qaL} (hr:qcJ r) (k:qdn x S r y):Has y img:=by
 rcases k with rfl | ⟨h0,k⟩
 ·
  exact h
 ·
  exact qjy h (qeg vk s0 s1 hr h0) k
theorem qve {x img:ByteArray} (h:Has x img) {S:qag} (fit:S.Fit) (key value:ByteArray) (reads:List Int):Has (qvd x img S key value reads).1 img:=by
 unfold qvd
 by_cases h1:askedE S key≠0
 ·
  rw [if_pos h1];exact h
 ·
  rw [if_neg h1]
  obtain ⟨o1,o2,o3⟩:=qbD (by omega:askedE S key=0)
  obtain ⟨f1,f2,f3⟩:=qcv fit o1
  by_cases h2:20<value.size
  ·
   rw [if_pos h2];exact h
  ·
   rw [if_neg h2];exact qjM h f3 f1 f2 (qiE o2 o3 (by omega)) reads
theorem quG {x img:ByteArray} (h:Has x img) {S:qag} (fit:S.Fit) (key:ByteArray) (reads:List Int):Has (qvu x img S key reads).1 img:=by
 unfold qvu
 by_cases h1:askedE S key≠0
 ·
  rw [if_pos h1];exact h
 ·
  rw [if_neg h1]
  obtain ⟨o1,o2,o3⟩:=qbD (by omega:askedE S key=0)
  obtain ⟨f1,f2,f3⟩:=qcv fit o1
  exact qjM h f3 f1 f2 (qlA o2 o3) reads
theorem qgJ (t:ByteArray×qag×List Int×Int):(qiT t).1=t.1:=rfl
theorem qqD {x img:ByteArray} (h:Has x img) {S:qag} (fit:S.Fit) (a:qbI):Has (qhe x img S a).1 img:=by
 unfold qhe
 repeat' split
 ·
  rw [qgJ];exact qpB h _
 ·
  exact h
 ·
  rw [qgJ];exact qve h fit _ _ _
 ·
  exact h
 ·
  rw [qgJ];exact quG h fit _ _
 ·
  exact h
 ·
  exact h
 ·
  exact h
theorem qmQ {x img y:ByteArray} (h:Has x img) {S:qag} (fit:S.Fit) {a:qbI} (k:qhy x S a y):Has y img:=by
 rcases k with rfl | ⟨_,k⟩ | ⟨_,k⟩ | ⟨_,k⟩
 ·
  exact h
 ·
  exact qji h k
 ·
  rcases k with rfl | ⟨h0,hv,k⟩
  ·
   exact h
  ·
   obtain ⟨o1,o2,o3⟩:=qbD h0
   obtain ⟨f1,f2,f3⟩:=qcv fit o1
   exact qe9 h f3 f1 f2 (qiE o2 o3 hv) k
 ·
  rcases k with rfl | ⟨h0,k⟩
  ·
   exact h
  ·
   obtain ⟨o1,o2,o3⟩:=qbD h0
   obtain ⟨f1,f2,f3⟩:=qcv fit o1
   exact qe9 h f3 f1 f2 (qlA o2 o3) k
structure Now (W:Wld) (x img:ByteArray):Prop where
 calm:Calm W.m x
 ok:W.m.Ok
 left:W.m.left<0
 has:Has x img
 good:W.q.Good
 tells:W.q.Tells img
theorem qrE {W:Wld} {x img:ByteArray} (h1:Calm W.m x) (h2:W.m.left<0) (h3:W.m.Ok) (h4:W.q=Cache.new) (h5:Has x img):Now W x img:=⟨h1,h3,h2,h5,h4 ▸ Cache.new_good,h4 ▸ qf6 img⟩
def doX (x img:ByteArray) (S:qag) (a:qbI):ByteArray×qag×qg6×Int:=if mayB a=false then (x,S,ansZero,2500) else qhe x img S a
theorem qrC {W:Wld} {x img:ByteArray} (h:Now W x img) (fit:W.S.Fit) {a:qbI} (f:a.Fine) (hm:Nat):qdD ((W.next a.busy hm).cut a.loss).m (doneR W a hm).2.2 (doneR W a hm).1.m (Calm (doneR W a hm).1.m (qhe x img W.S a).1∧(doneR W a hm).1.q.Good∧(doneR W a hm).1.q.Tells img∧(doneR W a hm).1.S=(qhe x img W.S a).2.1∧(doneR W a hm).2=(qhe x img W.S a).2.2) (qhy x W.S a)∧(doneR W a hm).1.m.Ok∧(doneR W a hm).1.q.Good:=by
 obtain ⟨h1,h2,h3⟩:=qnS h.calm h.ok f hm
 have k:=qsS (W:=(W.next a.busy hm).cut a.loss) h1 h.has (by rw [qpp];exact h.good) (by rw [qpp];exact h.tells) (by rw [qpo];exact fit) a
 have o:=qn6 (W:=(W.next a.busy hm).cut a.loss) (x:=a) h2 (by rw [qpp];exact h.good) (by rw [qpo];exact fit) f
 rw [qpo] at k
 exact ⟨k,o.1,o.2.1⟩
theorem qvN {W:Wld} {x img:ByteArray} (h:Now W x img) (fit:W.S.Fit) {a:qbI} (hl:a.loss=0) (hk:a.kind≠7) (hm:Nat):Now (doR W a hm).1 (doX x img W.S a).1 img∧(doR W a hm).1.S=(doX x img W.S a).2.1∧(doR W a hm).2=(doX x img W.S a).2.2:=by
 unfold doR doX
 cases hmb:mayB a with
 | false=>exact ⟨h,rfl,rfl⟩
 | true =>
  rw [if_neg (show ¬ (true=false) by decide),if_neg (show ¬ (true=false) by decide),if_pos ⟨hl,hk⟩]
  have f:=qkK hmb
  obtain ⟨k,o1,o2⟩:=qrC h fit f hm
  have hlf:((W.next a.busy hm).cut a.loss).m.left<0:=by rw [(qnS h.calm h.ok f hm).2.2 hl];exact h.left
  rcases k with ⟨⟨k1,k2,k3,k4,k5⟩,kb⟩ | ⟨_,_,kb⟩
  ·
   exact ⟨⟨k1,o1,kb hlf,qqD h.has fit a,k2,k3⟩,k4,k5⟩
  ·
   omega
theorem ql2 {m:Ctl} {mask y:ByteArray} (hp:m.chip.prot=true) (hq:m.chip.quad=true) (hy:m.chip.core.lossCells mask=y):Calm (Ctl.new (m.chip.loss mask)) y :=
 ⟨rfl,rfl,rfl,hy,hp,hq,rfl,fun z hz=>by cases hz⟩
theorem qrz {m:Ctl} (h:m.Ok) (mask:ByteArray):(Ctl.new (m.chip.loss mask)).Ok:=by
 refine ⟨⟨⟨?_,?_,?_,?_,?_,?_⟩,?_⟩,fun _=>rfl,?_,?_⟩
 ·
  show (match m.chip.job with | none=>m.chip.cells | some j=>jobCells j m.chip.cells mask).size=4096
  split
  ·
   exact h.good.ok.size
  ·
   rw [qfY];exact h.good.ok.size
 ·
  intro j h;cases h
 ·
  show (0:Int)≤0;decide
 ·
  show (0:Int)<4096;decide
 ·
  show qsu ⟨0,0,false,0,0,false⟩;decide
 ·
  show 0≤1099511627776;decide
 ·
  intro y h;cases h
 ·
  show (-1:Int) ≤ -1;decide
 ·
  show (-1:Int)≤1099511627776;decide
theorem qtu {W:Wld} {x img:ByteArray} (h:Now W x img) (fit:W.S.Fit) {a:qbI} (hmb:mayB a=true) (hl : ¬ (a.loss=0∧a.kind≠7)) (hm:Nat) : ∃ y,Now (doR W a hm).1 y img∧(doR W a hm).1.S=shut∧((y=(qhe x img W.S a).1∧(doR W a hm).2=((qhe x img W.S a).2.2.1.lose,(qhe x img W.S a).2.2.2))∨(qhy x W.S a y∧(doR W a hm).2=(ansZero.lose,0))):=by
 have e:doR W a hm=((doneR W a hm).1.loss a.mask,qnj (doneR W a hm),qpM (doneR W a hm)):=by
  unfold doR
  rw [if_neg (by rw [hmb];decide),if_neg hl]
 have f:=qkK hmb
 obtain ⟨k,o1,o2⟩:=qrC h fit f hm
 rw [e]
 generalize doneR W a hm=r at *
 rcases k with ⟨⟨k1,k2,k3,k4,k5⟩,kb⟩ | ⟨k0,k1,k2⟩
 ·
  refine ⟨(qhe x img W.S a).1,⟨ql2 k1.prot k1.quad ?_,qrz o1 _,show (-1:Int)<0 by decide,qqD h.has fit a,Cache.new_good,qf6 img⟩,rfl,.inl ⟨rfl,?_⟩⟩
  ·
   unfold Core.lossCells
   have:=k1.job
   rw [show r.1.m.chip.core.job=none from this]
   exact k1.cells
  ·
   unfold qnj qpM
   rw [if_neg (by rw [k1.lost];decide),if_neg (by rw [k1.lost];decide),k5]
 ·
  refine ⟨r.1.m.chip.core.lossCells a.mask,⟨ql2 k1.prot k1.quad rfl,qrz o1 _,show (-1:Int)<0 by decide,qmQ h.has fit (k1.cells _),Cache.new_good,qf6 img⟩,rfl,.inr ⟨k1.cells _,?_⟩⟩
  unfold qnj qpM
  rw [if_pos k1.lost,if_pos k1.lost]
end
section
theorem Lay.vok {x:ByteArray} {sec:Nat} {V:qaA} (h:Lay x sec V):V.Ok:=by
 have:=h.good
 rw [← h.view,← qoT] at this ⊢
 exact qnC _ this
theorem quV {x y:ByteArray} {sec f:Nat} {V:qaA} (h:Lay x sec V) (h1:1≤f) (hf:f<8) (hv:V.free=(f:Int)) (hs:qcn x y (sec * 512+f * 64) 64) {r:qaL} (hr:qas r=true) (hk:r.kind≠0) (e:qa6 y sec f=recText r):Lay y sec ⟨true,V.epoch,V.recs++[r],V.free+1⟩:=by
 obtain ⟨b0,b1,b2,b3,b4⟩:=qj2 (x:=x) (y:=y) (sec:=sec) h1 hf (by rw [h.view];exact hv) hs
 rw [h.view] at b1 b2 b3
 have hd : ∀ j,4≤j→j<8→j≠sec→Dead (qa6 y j 0) V.epoch:=fun j h4 h8 hne=>by
  rw [hs.slot (j:=j) (i:=0) hf (by omega) (by omega)]
  exact h.dead j h4 h8 hne
 have hfy:qbC (qfE y sec) f=qa6 y sec f:=qcF _ _ _ hf
 have hsz:y.size=4096:=by rw [hs.1,h.size]
 have hg:=h.good
 refine ⟨hsz,h.s0,h.s1,?_,rfl,hd⟩
 refine qoU (by rw [b1,hg]) b2 ?_ ?_
 ·
  rw [b3]
  unfold qbg
  rw [hfy,e,qcV hr]
  simp [hk]
 ·
  rw [b4,if_neg (by rw [e];exact qfi hr)]
  show _=V.free+1
  rw [hv]
  omega
theorem qcn.wide {x y:ByteArray} {j k:Nat} (h:qcn x y (j * 512+k * 64) 64) (hk:k<8):qcn x y (j * 512) 512:=h.mono (by omega) (by omega)
theorem qss (x:ByteArray) (j:Nat):qjx x (j:Int)=qcz x (j * 512:Nat) ⟨#[255]⟩:=by
 unfold qjx
 rw [show ((j:Int) * 512)=((j * 512:Nat):Int) by omega]
end
section
def qn3 (x:ByteArray) (ps:List qay) (E:Int):Prop := ∃ (sec:Nat) (V:qaA),Lay x sec V∧buildL V.recs=ps∧V.epoch≤E
def OpenAt (x:ByteArray) (S:qag) (ps:List qay) (E:Int):Prop := ∃ (sec:Nat) (V:qaA),Lay x sec V∧buildL V.recs=ps∧V.epoch≤E∧S=⟨true,sec,V⟩
theorem OpenAt.kept {x:ByteArray} {S:qag} {ps:List qay} {E:Int} (h:OpenAt x S ps E):qn3 x ps E:=by
 obtain ⟨sec,V,h1,h2,h3,_⟩:=h
 exact ⟨sec,V,h1,h2,h3⟩
theorem OpenAt.fit {x:ByteArray} {S:qag} {ps:List qay} {E:Int} (h:OpenAt x S ps E):S.Fit:=by
 obtain ⟨sec,V,h1,h2,h3,rfl⟩:=h
 have:=h1.s0
 have:=h1.s1
 exact .inr ⟨rfl,show (4:Int)≤sec by omega,show (sec:Int)<8 by omega,h1.vok⟩
theorem qn3.more {x:ByteArray} {ps:List qay} {E E':Int} (h:qn3 x ps E) (k:E≤E'):qn3 x ps E':=by
 obtain ⟨sec,V,h1,h2,h3⟩:=h
 exact ⟨sec,V,h1,h2,by omega⟩
theorem OpenAt.more {x:ByteArray} {S:qag} {ps:List qay} {E E':Int} (h:OpenAt x S ps E) (k:E≤E'):OpenAt x S ps E':=by
 obtain ⟨sec,V,h1,h2,h3,h4⟩:=h
 exact ⟨sec,V,h1,h2,by omega,h4⟩
theorem qpC {x:ByteArray} (hx:x.size=4096) {j:Nat} {E:Int} (j4:4≤j) (j8:j<8) (e0:1≤E) (e1:E≤1048576) (hd : ∀ i,4≤i→i<8→Dead (qa6 x i 0) E):Lay (burnt (qjx x (j:Int)) (slotP (j:Int) 0) (recText (headRec E))) j ⟨true,E,[],1⟩:=by
 have hsame:=qm4 x j ⟨#[255]⟩
 rw [qss]
 exact qrB (rs:=[]) (by rw [hsame.1];exact hx) j4 j8 e0 e1 (by simp) (fun q hq=>by simp at hq) (fun i hi=>qpt hx j8 hi) (fun i i4 i8 ine=>by
  rw [hsame.sec (by omega) ine]
  exact hd i i4 i8)
end
section
open Go.RowKit
theorem qrF (x:Int) (w:World):Calls Tryz.prog 13 #[.int .i64 x] w fun e w'=>e=.returned (.int .i64 x)∧w=w':=by
 go_enter Tryz.func13,Tryz.ntmps13
 go_wp2_with fail
 go_ret
 exact ⟨rfl,rfl⟩
instance:DecidableEq qay:=fun a b=>decidable_of_iff (a.key=b.key∧a.value=b.value) (by cases a;cases b;simp)
def qup (b:Bool) (w:World) (e:Ending) (w':World):Prop:=e=.returned (.bool b)∧Below w.heap.size w w'
theorem qtA {ps qs:List qay} (hl:ps.length=qs.length) (h : ∀ j (h1:j<ps.length) (h2:j<qs.length),ps[j]=qs[j]):ps=qs:=List.ext_getElem hl fun i h1 h2=>h i h1 h2
theorem qkY (a1 a2:Option Addr) (c1 c2 m n:Nat) (w:World) (hl:m≠n):Calls Tryz.prog 22 #[.slice a1 m c1,.slice a2 n c2] w (qup false w):=by
 have g:((m:Int) != (n:Int))=true:=by simp;omega
 clear hl
 go_enter Tryz.func22,Tryz.ntmps22
 go_wp2
 go_ret
 exact ⟨rfl,Below.refl _ _⟩
theorem qeB (u v:Value) (ps qs:List qay) (w:World) (h1:SliceAt w u ps.length 2 (pairVals ps)) (h2:SliceAt w v qs.length 2 (pairVals qs)) (hm:ps.length≤1000000):Calls Tryz.prog 22 #[u,v] w (qup (decide (ps=qs)) w):=by
 obtain ⟨a1,c1,rfl⟩:=h1.slice
 obtain ⟨a2,c2,rfl⟩:=h2.slice
 by_cases hl:ps.length=qs.length
 case neg =>
  have e:decide (ps=qs)=false:=by simp;intro h;exact hl (by rw [h])
  rw [e];exact qkY a1 a2 c1 c2 _ _ w hl
 have H1:=zH h1
 have H2:=zH h2
 have X1:=zH (fun i (hi:i<ps.length)=>qbw ps i hi)
 have X2:=zH (fun i (hi:i<qs.length)=>qbw qs i hi)
 have HL:=zH hl
 rw [← hl]
 clear hl h1 h2
 go_enter Tryz.func22,Tryz.ntmps22
 go_wp2
 go_loopg [5] ps.length (fun n i wr => ∃ k:Nat,n=ps.length - k∧k≤ps.length∧i=.int .i64 k∧Below w.heap.size w wr ∧ ∀ j (h1:j<ps.length) (h2:j<qs.length),j<k→ps[j]=qs[j])
 case atStart=>exact ⟨0,rfl,Nat.zero_le _,rfl,Below.refl _ _,fun j _ _ hj=>absurd hj (Nat.not_lt_zero _)⟩
 case round =>
  obtain ⟨k,hn,hk,rfl,hb,hsame⟩:=hrel
  have HB:=zH (zA hn (zA hb hsame))
  clear hn hb hsame
  by_cases hlt:k<ps.length
  ·
   have hlt':(k:Int)<(ps.length:Int):=by omega
   have hlq:k<qs.length:=by have:=HL.out;omega
   obtain ⟨b1,o1,rfl,hc1,hx1⟩:=H1.out.some (by omega)
   obtain ⟨b2,o2,rfl,hc2,hx2⟩:=H2.out.some (by omega)
   obtain ⟨p0,p1⟩:=X1.out k hlt
   obtain ⟨q0,q1⟩:=X2.out k hlq
   have cc1 : ∀ i u,(pairVals ps)[2 * k+i]? = some u→wr.cell? ⟨b1,o1+k * 2+i,none⟩=some u:=fun i u hu=>by
    have e:=hx1 _ _ hu
    rw [show o1+k * 2+i=o1+(2 * k+i) by omega]
    exact (HB.out.2.1.cell (p:=⟨b1,o1+(2 * k+i),none⟩) (World.block_lt_of_cell? w _ e)).trans e
   have cc2 : ∀ i u,(pairVals qs)[2 * k+i]? = some u→wr.cell? ⟨b2,o2+k * 2+i,none⟩=some u:=fun i u hu=>by
    have e:=hx2 _ _ hu
    rw [show o2+k * 2+i=o2+(2 * k+i) by omega]
    exact (HB.out.2.1.cell (p:=⟨b2,o2+(2 * k+i),none⟩) (World.block_lt_of_cell? w _ e)).trans e
   have c10:wr.cell? ⟨b1,o1+k * 2,none⟩=some (.string ps[k].key):=cc1 0 _ p0
   have c11:wr.cell? ⟨b1,o1+k * 2+1,none⟩=some (.string ps[k].value):=cc1 1 _ p1
   have c20:wr.cell? ⟨b2,o2+k * 2,none⟩=some (.string qs[k].key):=cc2 0 _ q0
   have c21:wr.cell? ⟨b2,o2+k * 2+1,none⟩=some (.string qs[k].value):=cc2 1 _ q1
   clear p0 p1 q0 q1 cc1 cc2 hx1 hx2
   generalize hp:ps[k]=p at *
   generalize hq:qs[k]=q at *
   have HP:=zH (zA hp hq)
   clear hp hq
   by_cases he:p=q
   ·
    have HE:=zH he
    have e1:(p.key.toList == q.key.toList)=true:=by rw [he];exact beq_self_eq_true _
    have e2:(p.value.toList == q.value.toList)=true:=by rw [he];exact beq_self_eq_true _
    clear he
    go_wp2_with fail
    go_quiet (fail)
    go_wp2_with fail
    go_roundg (ps.length - (k+1))
    case measure=>have:=HB.out.1;omega
    case rel =>
     refine ⟨k+1,rfl,by omega,by go_num,qao HB.out.2.1 nq,fun j g1 g2 hl => ?_⟩
     rcases Nat.lt_or_ge j k with h' | h'
     ·
      exact HB.out.2.2 j g1 g2 h'
     ·
      obtain rfl:j=k:=by omega
      rw [HP.out.1,HP.out.2,HE.out]
   ·
    have hf:decide (ps=qs)=false:=by
     simp only [decide_eq_false_iff_not]
     rintro rfl
     exact he (HP.out.1.symm.trans HP.out.2)
    have HF:=zH hf
    clear hf
    by_cases hk:p.key=q.key
    ·
     have e1:(p.key.toList == q.key.toList)=true:=by rw [hk];exact beq_self_eq_true _
     have e2:(p.value.toList == q.value.toList)=false:=by
      rw [qio,decide_eq_false_iff_not]
      intro h
      exact he (by cases p;cases q;simp_all)
     clear he hk
     go_wp2_with fail
     go_quiet (fail)
     go_wp2_with fail
     go_ret
     exact ⟨by rw [HF.out];rfl,qao HB.out.2.1 nq⟩
    ·
     have e1:(p.key.toList == q.key.toList)=false:=by rw [qio,decide_eq_false_iff_not];exact hk
     clear he hk
     go_wp2_with fail
     go_quiet (fail)
     go_wp2_with fail
     go_ret
     exact ⟨by rw [HF.out];rfl,qao HB.out.2.1 nq⟩
  ·
   obtain rfl:k=ps.length:=by omega
   have hf:decide (ps=qs)=true:=by simp;exact qtA HL.out fun j g1 g2=>HB.out.2.2 j g1 g2 g1
   have HF:=zH hf
   clear hf
   go_wp2_with fail
   go_ret
   exact ⟨by rw [HF.out];rfl,HB.out.2.1⟩
end
section
open Go.RowKit
def imageT (t:ByteArray):ByteArray:=mk 2048 (maskAt t)
def imageL (t:ByteArray):List Int:=(List.range 2048).map fun i=>((maskAt t i).toNat:Int)
theorem qgw (t:ByteArray):(imageL t).length=2048:=by simp [imageL]
theorem qrk (t:ByteArray) (k:Nat) (h:k<2048):(imageL t).getD k 0=((maskAt t k).toNat:Int):=by
 simp [imageL,List.getD,h]
theorem qlq (x:UInt8):byteOf (x.toNat:Int)=x:=by
 have h:=x.toNat_lt
 unfold byteOf
 rw [show ((x.toNat:Int) % 256).toNat=x.toNat by omega]
 exact UInt8.ofNat_toNat
theorem qnb (t:ByteArray):textOf (imageL t)=imageT t:=by
 refine qbN ?_ fun i hi => ?_
 ·
  rw [qbh,qgw];exact (qbn _ _).symm
 ·
  rw [qbh,qgw] at hi
  rw [show bt (imageT t) i=maskAt t i from qf4 _ _ _ hi]
  unfold textOf bytesOf imageL bt
  simp [hi,qlq]
theorem qpO {t:ByteArray} (h:0<t.size) (i:Nat):maskAt t i=bt t (i % t.size):=if_neg (by omega)
theorem qst (t:ByteArray) (h:t.size=0) (n:Nat) (w:World) (b:Nat) (hb:w.heap[b]? = some (.cells (madeCells #[.int .u8 0] n) 5 (0,0))):(convert 29 9 (.slice (some ⟨b,0,none⟩) n n)).run Tryz.prog w=.ok (.string (mk n (maskAt t))) w:=by
 have:=run_convert_bytes_back (P:=Tryz.prog) w 29 9 5 ⟨b,0,none⟩ n (List.replicate n 0) Tryz.underlying29 Tryz.underlying5 Tryz.underlying9 (fun j hj=>by
  rw [List.length_replicate] at hj
  rw [qaO,Nat.zero_add,qaa hb,qow _ _ _ hj]
  simp)
 rw [List.length_replicate] at this
 have e:(⟨(List.replicate n (0:UInt8)).toArray⟩:ByteArray)=mk n (maskAt t) := ?_
 rw [this,e]
 refine qbN ?_ fun i hi => ?_
 ·
  rw [qbn];simp [ByteArray.size]
 ·
  have hi:i<n:=by simpa [ByteArray.size] using hi
  rw [qf4 _ _ _ hi]
  unfold maskAt bt
  rw [if_pos h]
  simp [hi]
theorem qqJ {xs:List Int} {t:ByteArray} (h : ∀ k,k<2048→xs.getD k 0=((maskAt t k).toNat:Int)) (m:0<t.size → ∀ i,maskAt t i=bt t (i % t.size)) (hp:0<t.size) {k:Nat} (hk:k<2048):(byteOf (xs.getD k 0)).toNat=(bt t (k % t.size)).toNat:=by
 rw [h k hk,qlq,m hp]
theorem qjv (t:ByteArray) (w:World) (ht:t.size<140737488355328):Calls Tryz.prog 17 #[.string t] w (qcM (imageT t) w):=by
 have hmk : ∀ w,(Instr.makeSlice 29 (.int .i64 2048) (.int .i64 2048)).run Tryz.prog w=.ok (.slice (some ⟨w.heap.size,0,none⟩) 2048 2048) (w.alloc (.cells (madeCells #[.int .u8 0] 2048) 5)):=fun w=>run_make_row' (P:=Tryz.prog) 29 5 (.int .u8 0) 1 Tryz.underlying29 qej rfl .i64 .i64 2048 (by omega) (by omega) w
 have HI:=zH (fun w b h hb=>qst t h 2048 w b hb)
 have HT:=zH (qnb t)
 have HM:=zH (fun h i=>qpO (t:=t) h i)
 have HA:=zH (qrk t)
 have HL:=zH (qgw t)
 rw [show mk 2048 (maskAt t)=imageT t from rfl] at HI
 generalize imageT t=img at *
 generalize imageL t=xs at *
 go_enter Tryz.func17,Tryz.ntmps17
 go_upto_region 2 with fail
 have hs:=qbK.start (w:=w) 2048 xs
 have HS:=zH hs
 have HN:=zH (qad w (.cells (madeCells #[.int .u8 0] 2048) 5))
 have HB:=zH (qac (Below.refl w.heap.size w) (.cells (madeCells #[.int .u8 0] 2048) 5))
 generalize hW:w.alloc (.cells (madeCells #[.int .u8 0] 2048) 5)=w2 at *
 clear hmk hs hW
 by_cases h0:t.size=0
 ·
  have hback:=HI.out w2 _ h0 HN.out
  have ht0 : ¬ (0:Int)<(t.size:Int):=by omega
  go_wp2_with fail
  go_loopw [4] (fun i wr=>i=.int .i64 0∧wr=w2) (fun i _=>0)
  case atStart=>exact ⟨rfl,rfl⟩
  case round =>
   obtain ⟨rfl,rfl⟩:=hrel
   go_wp2_with fail
   go_ret
   exact ⟨rfl,HB.out⟩
 ·
  have ht0:(0:Int)<(t.size:Int):=by omega
  have ht1:(t.size:Int)≠0:=by omega
  have ht2:((t.size:Int) == 0)=false:=beq_eq_false_iff_ne.2 ht1
  have HP:=zH (show 0<t.size by omega)
  clear h0
  go_wp2_with fail
  go_loopw [4] (fun i wr => ∃ k:Nat,i=.int .i64 k∧k≤2048∧qbK w wr w.heap.size 2048 k xs) (fun i _=>2048 - (intOf i).toNat)
  case atStart=>exact ⟨0,rfl,Nat.zero_le _,HS.out⟩
  case round =>
   obtain ⟨k,rfl,hk,hB⟩:=hrel
   by_cases hlt:k<2048
   ·
    have hlt':(k:Int)<2048:=by omega
    obtain ⟨y,hy,_⟩:=hB.cell k hlt
    have hf:=hB.free k
    have hr:(k:Int).tmod (t.size:Int)=((k % t.size:Nat):Int):=(Int.ofNat_tmod k t.size).symm
    have hrl:k % t.size<t.size:=Nat.mod_lt _ HP.out
    have HNX:=zH (hB.next (Nat.le_refl _) hlt)
    rw [qqJ HA.out HM.out HP.out hlt] at HNX
    clear hB
    generalize hq:k % t.size=q at *
    have hg:=qcd t q hrl
    clear hq
    go_wp2_with fail
    go_roundw
    case rel=>exact ⟨k+1,by go_num,by omega,HNX.out⟩
    case measure=>simp [intOf];omega
   ·
    obtain rfl:k=2048:=by omega
    have hd:=qbK.done (xs:=xs) (w:=w) (wr:=wr) (nb:=w.heap.size) (by rw [HL.out];exact hB)
    rw [HL.out,HT.out] at hd
    have HBB:=zH hB.below
    clear hB
    go_wp2_with fail
    go_ret
    exact ⟨rfl,HBB.out⟩
end
end Go.Proofs.YtcfdenckiigdaaaGreat

/- Part 46 of the contracts. -/
import Derived.Test.YtcfdenckiigdaaaGreatKp45
set_option linter.unusedVariables false
set_option maxRecDepth 100000
set_option maxHeartbeats 4000000
namespace Go.Proofs.YtcfdenckiigdaaaGreat
section
def qqA (c:Int×qcd) (x img:ByteArray) (S:qaf) (reads:List Int):ByteArray×qaf×List Int×Int :=
 if c.1=2202 then (x,S,[],2303) else if c.1≠0 then (x,S,[],2304) else if readsOk reads=true then (qcn x c.2,⟨true,c.2.sector,behindV S c.2⟩,reads.map (qfL img),0) else (x,S,[],1800)
def qdr (x img:ByteArray) (S:qaf) (r:qaC) (reads:List Int):ByteArray×qaf×List Int×Int:=qqA (changeR S.view S.sector r) x img S reads
def qdy (x:ByteArray) (S:qaf) (r:qaC) (y:ByteArray):Prop:=y=x∨((changeR S.view S.sector r).1=0∧qeW x (changeR S.view S.sector r).2 y)
theorem qif {m:Ctl} {x img:ByteArray} {q:Cache} (h:Calm m x) (hx:Has x img) (g:q.Good) (hq:q.Tells img) {S:qaf} (vk:S.view.Ok) (s0:4≤S.sector) (s1:S.sector<8) {r:qaC} (hr:qcH r) (reads:List Int):qdQ m (qbc m q S r reads).2.2.2.2 (qbc m q S r reads).1 (Calm (qbc m q S r reads).1 (qdr x img S r reads).1∧(qbc m q S r reads).2.1.Good∧(qbc m q S r reads).2.1.Tells img∧(qbc m q S r reads).2.2=(qdr x img S r reads).2) (qdy x S r):=by
 have hp:(changeR S.view S.sector r).1=0→(changeR S.view S.sector r).2.Ok:=qet vk s0 s1 hr
 unfold qbc qdr qdy
 generalize changeR S.view S.sector r=c at hp
 unfold qkU qqA
 by_cases h1:c.1=2202
 ·
  rw [if_pos h1,if_pos h1]
  exact .inl ⟨⟨h,g,hq,rfl⟩,qcr.refl _⟩
 ·
  rw [if_neg h1,if_neg h1]
  by_cases h2:c.1≠0
  ·
   rw [if_pos h2,if_pos h2]
   exact .inl ⟨⟨h,g,hq,rfl⟩,qcr.refl _⟩
  ·
   rw [if_neg h2,if_neg h2]
   by_cases h3:readsOk reads=true
   ·
    rw [if_pos h3,if_pos h3]
    have hw:=qnv h hx g hq (hp (by omega)) h3
    generalize writesR m q c.2 reads=t at hw
    unfold qig
    rcases hw with ⟨k0,⟨k1,k2,k3,k4⟩,k5⟩ | ⟨k0,k1,k2⟩
    ·
     rw [if_neg (by rw [k0];decide)]
     exact .inl ⟨⟨k1,k2,k3,by rw [k4]⟩,k5⟩
    ·
     rw [if_pos (by rw [k0];decide)]
     exact .inr ⟨k0,k1.mono fun y hy=>.inr ⟨by omega,hy⟩,k2⟩
   ·
    rw [if_neg h3,if_neg h3]
    exact .inl ⟨⟨h,g,hq,rfl⟩,qcr.refl _⟩
def qn6 (x img:ByteArray) (S:qaf) (key value:ByteArray) (reads:List Int):ByteArray×qaf×List Int×Int :=
 if askedE S key≠0 then (x,S,[],askedE S key) else if 20<value.size then (x,S,[],2301) else qdr x img S ⟨1,0,key,value⟩ reads
def qrv (x img:ByteArray) (S:qaf) (key:ByteArray) (reads:List Int):ByteArray×qaf×List Int×Int :=
 if askedE S key≠0 then (x,S,[],askedE S key) else qdr x img S ⟨2,0,key,⟨#[]⟩⟩ reads
def qne (x:ByteArray) (S:qaf) (key value y:ByteArray):Prop:=y=x∨(askedE S key=0∧value.size≤20∧qdy x S ⟨1,0,key,value⟩ y)
def qm9 (x:ByteArray) (S:qaf) (key y:ByteArray):Prop:=y=x∨(askedE S key=0∧qdy x S ⟨2,0,key,⟨#[]⟩⟩ y)
theorem qtt {m:Ctl} {x img:ByteArray} {q:Cache} (h:Calm m x) (hx:Has x img) (g:q.Good) (hq:q.Tells img) {S:qaf} (fit:S.Fit) (key value:ByteArray) (reads:List Int):qdQ m (putR m q S key value reads).2.2.2.2 (putR m q S key value reads).1 (Calm (putR m q S key value reads).1 (qn6 x img S key value reads).1∧(putR m q S key value reads).2.1.Good∧(putR m q S key value reads).2.1.Tells img∧(putR m q S key value reads).2.2=(qn6 x img S key value reads).2) (qne x S key value):=by
 unfold putR qn6
 by_cases h1:askedE S key≠0
 ·
  rw [if_pos h1,if_pos h1]
  exact .inl ⟨⟨h,g,hq,rfl⟩,qcr.refl _⟩
 ·
  rw [if_neg h1,if_neg h1]
  obtain ⟨o1,o2,o3⟩:=qbe (by omega:askedE S key=0)
  obtain ⟨f1,f2,f3⟩:=qcC fit o1
  by_cases h2:20<value.size
  ·
   rw [if_pos h2,if_pos h2]
   exact .inl ⟨⟨h,g,hq,rfl⟩,qcr.refl _⟩
  ·
   rw [if_neg h2,if_neg h2]
   exact (qif h hx g hq f3 f1 f2 (qgq o2 o3 (by omega)) reads).mono id fun y hy=>.inr ⟨by omega,by omega,hy⟩
theorem qts {m:Ctl} {x img:ByteArray} {q:Cache} (h:Calm m x) (hx:Has x img) (g:q.Good) (hq:q.Tells img) {S:qaf} (fit:S.Fit) (key:ByteArray) (reads:List Int):qdQ m (delR m q S key reads).2.2.2.2 (delR m q S key reads).1 (Calm (delR m q S key reads).1 (qrv x img S key reads).1∧(delR m q S key reads).2.1.Good∧(delR m q S key reads).2.1.Tells img∧(delR m q S key reads).2.2=(qrv x img S key reads).2) (qm9 x S key):=by
 unfold delR qrv
 by_cases h1:askedE S key≠0
 ·
  rw [if_pos h1,if_pos h1]
  exact .inl ⟨⟨h,g,hq,rfl⟩,qcr.refl _⟩
 ·
  rw [if_neg h1,if_neg h1]
  obtain ⟨o1,o2,o3⟩:=qbe (by omega:askedE S key=0)
  obtain ⟨f1,f2,f3⟩:=qcC fit o1
  exact (qif h hx g hq f3 f1 f2 (qit o2 o3) reads).mono id fun y hy=>.inr ⟨by omega,hy⟩
def qfw (r:ByteArray×qaf×List Int×Int):ByteArray×qaf×qcq×Int:=(r.1,r.2.1,⟨⟨#[]⟩,[],outs r.2.2.2 r.2.2.1,false⟩,r.2.2.2)
def qwz (img:ByteArray) (at_ width:Int):List Int×Int:=if readGood at_ width=true then ([busVal img at_ width.toNat 0 0],0) else ([],1300)
def qfC (x img:ByteArray) (S:qaf) (a:qbV):ByteArray×qaf×qcq×Int :=
 if a.kind=0 then qfw (qcN x img a.reads)
 else if a.kind=1 then (x,(mountX x).1,⟨⟨#[]⟩,[],[],false⟩,(mountX x).2)
 else if a.kind=2 then qfw (qn6 x img S a.key a.value a.reads)
 else if a.kind=3 then (x,S,⟨(getR S a.key).1,[],[],false⟩,(getR S a.key).2)
 else if a.kind=4 then qfw (qrv x img S a.key a.reads)
 else if a.kind=5 then (x,S,⟨⟨#[]⟩,(listR S).1,[],false⟩,(listR S).2)
 else if a.kind=6 then (x,S,⟨⟨#[]⟩,[],(qwz img a.at_ a.width).1,false⟩,(qwz img a.at_ a.width).2)
 else (x,S,⟨⟨#[]⟩,[],[],false⟩,0)
theorem qsL (r:Ctl×Cache×qaf×List Int×Int) (t:ByteArray×qaf×List Int×Int) (h:r.2.2=t.2):r.2.2.1=(qfw t).2.1∧((⟨⟨#[]⟩,[],outs r.2.2.2.2 r.2.2.2.1,false⟩,r.2.2.2.2):qcq×Int)=(qfw t).2.2:=by
 obtain ⟨r1,r2,r3⟩:=r
 obtain ⟨t1,t2⟩:=t
 simp only at h
 subst h
 exact ⟨rfl,rfl⟩
def qgD (x:ByteArray) (S:qaf) (a:qbV) (y:ByteArray):Prop:=y=x∨(a.kind=0∧qgE x y)∨(a.kind=2∧qne x S a.key a.value y)∨(a.kind=4∧qm9 x S a.key y)
theorem qlt {W:Wld} {img:ByteArray} {r:Ctl×Cache×qaf×List Int×Int} {t:ByteArray×qaf×List Int×Int} {P:ByteArray→Prop} (h:qdQ W.m r.2.2.2.2 r.1 (Calm r.1 t.1∧r.2.1.Good∧r.2.1.Tells img∧r.2.2=t.2) P) {o:Wld×qcq×Int} (e:o=(⟨r.1,r.2.1,r.2.2.1⟩,⟨⟨#[]⟩,[],outs r.2.2.2.2 r.2.2.2.1,false⟩,r.2.2.2.2)) {z:ByteArray×qaf×qcq×Int} (ez:z=qfw t):qdQ W.m o.2.2 o.1.m (Calm o.1.m z.1∧o.1.q.Good∧o.1.q.Tells img∧o.1.S=z.2.1∧o.2=z.2.2) P:=by
 subst e ez
 exact h.mono (fun ⟨h1,h2,h3,h4⟩=>⟨h1,h2,h3,qsL r t h4⟩) fun y hy=>hy
theorem qtr {W:Wld} {x img:ByteArray} (h:Calm W.m x) (hx:Has x img) (g:W.q.Good) (hq:W.q.Tells img) (fit:W.S.Fit) (a:qbV):qdQ W.m (actR W a).2.2 (actR W a).1.m (Calm (actR W a).1.m (qfC x img W.S a).1∧(actR W a).1.q.Good∧(actR W a).1.q.Tells img∧(actR W a).1.S=(qfC x img W.S a).2.1∧(actR W a).2=(qfC x img W.S a).2.2) (qgD x W.S a):=by
 by_cases k0:a.kind=0
 ·
  exact (qlt (qnu h hx g hq a.reads) (by unfold actR;rw [if_pos k0]) (by unfold qfC;rw [if_pos k0])).mono id fun y hy=>.inr (.inl ⟨k0,hy⟩)
 by_cases k2:a.kind=2
 ·
  exact (qlt (qtt h hx g hq fit a.key a.value a.reads) (by unfold actR;rw [if_neg k0,if_neg (by omega),if_pos k2]) (by unfold qfC;rw [if_neg k0,if_neg (by omega),if_pos k2])).mono id fun y hy=>.inr (.inr (.inl ⟨k2,hy⟩))
 by_cases k4:a.kind=4
 ·
  exact (qlt (qts h hx g hq fit a.key a.reads) (by unfold actR;rw [if_neg k0,if_neg (by omega),if_neg k2,if_neg (by omega),if_pos k4]) (by unfold qfC;rw [if_neg k0,if_neg (by omega),if_neg k2,if_neg (by omega),if_pos k4])).mono id fun y hy=>.inr (.inr (.inr ⟨k4,hy⟩))
 unfold actR qfC
 rw [if_neg k0,if_neg k0]
 by_cases k1:a.kind=1
 ·
  rw [if_pos k1,if_pos k1]
  have hm:=qpP h
  generalize mountR W.m=r at hm
  generalize mountX x=t at hm
  refine hm.mono ?_ fun y hy=>.inl hy
  rintro ⟨h1,h2⟩
  obtain ⟨r1,r2⟩:=r
  simp only at h2
  subst h2
  exact ⟨h1,g,hq,rfl,rfl⟩
 rw [if_neg k1,if_neg k1,if_neg k2,if_neg k2]
 by_cases k3:a.kind=3
 ·
  rw [if_pos k3,if_pos k3]
  exact .inl ⟨⟨h,g,hq,rfl,rfl⟩,qcr.refl _⟩
 rw [if_neg k3,if_neg k3,if_neg k4,if_neg k4]
 by_cases k5:a.kind=5
 ·
  rw [if_pos k5,if_pos k5]
  exact .inl ⟨⟨h,g,hq,rfl,rfl⟩,qcr.refl _⟩
 rw [if_neg k5,if_neg k5]
 by_cases k6:a.kind=6
 ·
  rw [if_pos k6,if_pos k6]
  by_cases hr:readGood a.at_ a.width=true
  ·
   rw [show qwz img a.at_ a.width=([busVal img a.at_ a.width.toNat 0 0],0) from if_pos hr]
   have hm:=qrm h hx g hq hr
   generalize readR W.m W.q a.at_ a.width=r at hm
   generalize busVal img a.at_ a.width.toNat 0 0=t at hm
   refine qdQ.mono (qcQ.act hm) ?_ fun y hy=>.inl hy
   rintro ⟨h0,h1,h2,h3,h4⟩
   obtain ⟨r1,r2,r3,r4⟩:=r
   simp only at h0 h4
   subst h0 h4
   exact ⟨h1,h2,h3,rfl,rfl⟩
  ·
   rw [show qwz img a.at_ a.width=([],1300) from if_neg hr,show readR W.m W.q a.at_ a.width=(W.m,W.q,0,1300) from if_neg hr]
   exact .inl ⟨⟨h,g,hq,rfl,rfl⟩,qcr.refl _⟩
 rw [if_neg k6,if_neg k6]
 exact .inl ⟨⟨h,g,hq,rfl,rfl⟩,qcr.refl _⟩
end
section
theorem quw {x img:ByteArray} (h:Has x img) {p:Int} (hp:2048≤p) {n:Nat} (f:Nat→UInt8→UInt8):Has (turn x p.toNat n f) img:=qoV h (qgw x p.toNat n f) (by omega)
theorem qeE {x img:ByteArray} (h:Has x img) {p:Int} (hp:2048≤p) (mask s:ByteArray):Has (qeh x p mask s) img:=quw h hp _
theorem qpd {x img s y:ByteArray} (h:Has x img) {p:Int} (hp:2048≤p) (k:qdx x p s y):Has y img:=by
 rcases k with rfl | ⟨m,rfl⟩ | ⟨m,rfl⟩
 ·
  exact h
 ·
  exact qeE h hp _ _
 ·
  exact qeE (qeE h hp _ _) (by omega) _ _
theorem qie {x img s:ByteArray} (h:Has x img) {p:Int} (hp:2048≤p):Has (burnt x p s) img:=qeE (qeE h hp _ _) (by omega) _ _
theorem qj6 {img:ByteArray} {sec:Int} (s0:4≤sec) (s1:sec<8) : ∀ (l:List (Int×qaC)) (x:ByteArray),Has x img→(∀ a ∈ l,0≤a.1∧a.1<8)→Has (burnsX sec l x) img
 | [],_,h,_=>h
 | a::l,x,h,hl=>qj6 s0 s1 l _ (qie h (qd9 s0 s1 (hl a (by simp)).1 (hl a (by simp)).2).1) fun c hc=>hl c (by simp [hc])
theorem qf0 {img y:ByteArray} {sec:Int} (s0:4≤sec) (s1:sec<8) : ∀ (l:List (Int×qaC)) (x:ByteArray),Has x img→(∀ a ∈ l,0≤a.1∧a.1<8)→qcc sec l x y→Has y img
 | [],_,h,_,k=>k.elim
 | a::l,x,h,hl,k=>k.elim (qpd h (qd9 s0 s1 (hl a (by simp)).1 (hl a (by simp)).2).1) (qf0 s0 s1 l _ (qie h (qd9 s0 s1 (hl a (by simp)).1 (hl a (by simp)).2).1) fun c hc=>hl c (by simp [hc]))
theorem qp6 {x img:ByteArray} (h:Has x img) (reads:List Int):Has (qcN x img reads).1 img:=by
 have hs:=qiY x
 unfold qcN
 split
 ·
  exact h
 ·
  split
  ·
   exact qie (qjz h _ hs.1) (qd9 hs.1 hs.2 (by decide) (by decide)).1
  ·
   exact h
theorem qjI {x img y:ByteArray} (h:Has x img) (k:qgE x y):Has y img:=by
 have hs:=qiY x
 rcases k with rfl | ⟨_,⟨m,rfl⟩ | k⟩
 ·
  exact h
 ·
  exact qe3 h _ (by omega) _
 ·
  exact qpd (qjz h _ hs.1) (qd9 hs.1 hs.2 (by decide) (by decide)).1 k
theorem qoD {x img:ByteArray} (h:Has x img) {p:qcd} (pk:p.Ok):Has (qb5 x p) img:=by
 unfold qb5
 have:=pk.wipe
 split
 ·
  exact qjz h _ (by omega)
 ·
  exact h
theorem qkK {x img:ByteArray} (h:Has x img) {p:qcd} (pk:p.Ok):Has (qcn x p) img:=qj6 pk.sector.1 pk.sector.2 _ _ (qoD h pk) fun a ha=>⟨(qgC pk a ha).1,(qgC pk a ha).2.1⟩
theorem qjW {x img y:ByteArray} (h:Has x img) {p:qcd} (pk:p.Ok) (k:qeW x p y):Has y img:=by
 rcases k with rfl | ⟨h0,m,rfl⟩ | k | rfl
 ·
  exact h
 ·
  exact qe3 h _ (by have:=pk.wipe;omega) _
 ·
  exact qf0 pk.sector.1 pk.sector.2 _ _ (qoD h pk) (fun a ha=>⟨(qgC pk a ha).1,(qgC pk a ha).2.1⟩) k
 ·
  exact qkK h pk
theorem qka {x img:ByteArray} (h:Has x img) {S:qaf} (vk:S.view.Ok) (s0:4≤S.sector) (s1:S.sector<8) {r:qaC} (hr:qcH r) (reads:List Int):Has (qdr x img S r reads).1 img:=by
 have hp:(changeR S.view S.sector r).1=0→(changeR S.view S.sector r).2.Ok:=qet vk s0 s1 hr
 unfold qdr qqA
 split
 ·
  exact h
 ·
  split
  ·
   exact h
  ·
   split
   ·
    exact qkK h (hp (by omega))
   ·
    exact h
theorem qfo {x img y:ByteArray} (h:Has x img) {S:qaf} (vk:S.view.Ok) (s0:4≤S.sector) (s1:S.sector<8) {r:qaC} (hr:qcH r) (k:qdy x S r y):Has y img:=by
 rcases k with rfl | ⟨h0,k⟩
 ·
  exact h
 ·
  exact qjW h (qet vk s0 s1 hr h0) k
theorem qvI {x img:ByteArray} (h:Has x img) {S:qaf} (fit:S.Fit) (key value:ByteArray) (reads:List Int):Has (qn6 x img S key value reads).1 img:=by
 unfold qn6
 by_cases h1:askedE S key≠0
 ·
  rw [if_pos h1];exact h
 ·
  rw [if_neg h1]
  obtain ⟨o1,o2,o3⟩:=qbe (by omega:askedE S key=0)
  obtain ⟨f1,f2,f3⟩:=qcC fit o1
  by_cases h2:20<value.size
  ·
   rw [if_pos h2];exact h
  ·
   rw [if_neg h2];exact qka h f3 f1 f2 (qgq o2 o3 (by omega)) reads
theorem qva {x img:ByteArray} (h:Has x img) {S:qaf} (fit:S.Fit) (key:ByteArray) (reads:List Int):Has (qrv x img S key reads).1 img:=by
 unfold qrv
 by_cases h1:askedE S key≠0
 ·
  rw [if_pos h1];exact h
 ·
  rw [if_neg h1]
  obtain ⟨o1,o2,o3⟩:=qbe (by omega:askedE S key=0)
  obtain ⟨f1,f2,f3⟩:=qcC fit o1
  exact qka h f3 f1 f2 (qit o2 o3) reads
theorem qg9 (t:ByteArray×qaf×List Int×Int):(qfw t).1=t.1:=rfl
theorem qrd {x img:ByteArray} (h:Has x img) {S:qaf} (fit:S.Fit) (a:qbV):Has (qfC x img S a).1 img:=by
 unfold qfC
 repeat' split
 ·
  rw [qg9];exact qp6 h _
 ·
  exact h
 ·
  rw [qg9];exact qvI h fit _ _ _
 ·
  exact h
 ·
  rw [qg9];exact qva h fit _ _
 ·
  exact h
 ·
  exact h
 ·
  exact h
theorem qnk {x img y:ByteArray} (h:Has x img) {S:qaf} (fit:S.Fit) {a:qbV} (k:qgD x S a y):Has y img:=by
 rcases k with rfl | ⟨_,k⟩ | ⟨_,k⟩ | ⟨_,k⟩
 ·
  exact h
 ·
  exact qjI h k
 ·
  rcases k with rfl | ⟨h0,hv,k⟩
  ·
   exact h
  ·
   obtain ⟨o1,o2,o3⟩:=qbe h0
   obtain ⟨f1,f2,f3⟩:=qcC fit o1
   exact qfo h f3 f1 f2 (qgq o2 o3 hv) k
 ·
  rcases k with rfl | ⟨h0,k⟩
  ·
   exact h
  ·
   obtain ⟨o1,o2,o3⟩:=qbe h0
   obtain ⟨f1,f2,f3⟩:=qcC fit o1
   exact qfo h f3 f1 f2 (qit o2 o3) k
structure Now (W:Wld) (x img:ByteArray):Prop where
 calm:Calm W.m x
 ok:W.m.Ok
 left:W.m.left<0
 has:Has x img
 good:W.q.Good
 tells:W.q.Tells img
theorem qse {W:Wld} {x img:ByteArray} (h1:Calm W.m x) (h2:W.m.left<0) (h3:W.m.Ok) (h4:W.q=Cache.new) (h5:Has x img):Now W x img:=⟨h1,h3,h2,h5,h4 ▸ Cache.new_good,h4 ▸ qgl img⟩
def doX (x img:ByteArray) (S:qaf) (a:qbV):ByteArray×qaf×qcq×Int:=if mayB a=false then (x,S,ansZero,2500) else qfC x img S a
theorem qsd {W:Wld} {x img:ByteArray} (h:Now W x img) (fit:W.S.Fit) {a:qbV} (f:a.Fine) (hm:Nat):qdQ ((W.next a.busy hm).cut a.loss).m (doneR W a hm).2.2 (doneR W a hm).1.m (Calm (doneR W a hm).1.m (qfC x img W.S a).1∧(doneR W a hm).1.q.Good∧(doneR W a hm).1.q.Tells img∧(doneR W a hm).1.S=(qfC x img W.S a).2.1∧(doneR W a hm).2=(qfC x img W.S a).2.2) (qgD x W.S a)∧(doneR W a hm).1.m.Ok∧(doneR W a hm).1.q.Good:=by
 obtain ⟨h1,h2,h3⟩:=qoo h.calm h.ok f hm
 have k:=qtr (W:=(W.next a.busy hm).cut a.loss) h1 h.has (by rw [qpX];exact h.good) (by rw [qpX];exact h.tells) (by rw [qpW];exact fit) a
 have o:=qoC (W:=(W.next a.busy hm).cut a.loss) (x:=a) h2 (by rw [qpX];exact h.good) (by rw [qpW];exact fit) f
 rw [qpW] at k
 exact ⟨k,o.1,o.2.1⟩
theorem qwh {W:Wld} {x img:ByteArray} (h:Now W x img) (fit:W.S.Fit) {a:qbV} (hl:a.loss=0) (hk:a.kind≠7) (hm:Nat):Now (doR W a hm).1 (doX x img W.S a).1 img∧(doR W a hm).1.S=(doX x img W.S a).2.1∧(doR W a hm).2=(doX x img W.S a).2.2:=by
 unfold doR doX
 cases hmb:mayB a with
 | false=>exact ⟨h,rfl,rfl⟩
 | true =>
  rw [if_neg (show ¬ (true=false) by decide),if_neg (show ¬ (true=false) by decide),if_pos ⟨hl,hk⟩]
  have f:=qlc hmb
  obtain ⟨k,o1,o2⟩:=qsd h fit f hm
  have hlf:((W.next a.busy hm).cut a.loss).m.left<0:=by rw [(qoo h.calm h.ok f hm).2.2 hl];exact h.left
  rcases k with ⟨⟨k1,k2,k3,k4,k5⟩,kb⟩ | ⟨_,_,kb⟩
  ·
   exact ⟨⟨k1,o1,kb hlf,qrd h.has fit a,k2,k3⟩,k4,k5⟩
  ·
   omega
theorem qmu {m:Ctl} {mask y:ByteArray} (hp:m.chip.prot=true) (hq:m.chip.quad=true) (hy:m.chip.core.lossCells mask=y):Calm (Ctl.new (m.chip.loss mask)) y :=
 ⟨rfl,rfl,rfl,hy,hp,hq,rfl,fun z hz=>by cases hz⟩
theorem qsa {m:Ctl} (h:m.Ok) (mask:ByteArray):(Ctl.new (m.chip.loss mask)).Ok:=by
 refine ⟨⟨⟨?_,?_,?_,?_,?_,?_⟩,?_⟩,fun _=>rfl,?_,?_⟩
 ·
  show (match m.chip.job with | none=>m.chip.cells | some j=>jobCells j m.chip.cells mask).size=4096
  split
  ·
   exact h.good.ok.size
  ·
   rw [qgc];exact h.good.ok.size
 ·
  intro j h;cases h
 ·
  show (0:Int)≤0;decide
 ·
  show (0:Int)<4096;decide
 ·
  show qs4 ⟨0,0,false,0,0,false⟩;decide
 ·
  show 0≤1099511627776;decide
 ·
  intro y h;cases h
 ·
  show (-1:Int) ≤ -1;decide
 ·
  show (-1:Int)≤1099511627776;decide
theorem qt5 {W:Wld} {x img:ByteArray} (h:Now W x img) (fit:W.S.Fit) {a:qbV} (hmb:mayB a=true) (hl : ¬ (a.loss=0∧a.kind≠7)) (hm:Nat) : ∃ y,Now (doR W a hm).1 y img∧(doR W a hm).1.S=shut∧((y=(qfC x img W.S a).1∧(doR W a hm).2=((qfC x img W.S a).2.2.1.lose,(qfC x img W.S a).2.2.2))∨(qgD x W.S a y∧(doR W a hm).2=(ansZero.lose,0))):=by
 have e:doR W a hm=((doneR W a hm).1.loss a.mask,qnQ (doneR W a hm),qqh (doneR W a hm)):=by
  unfold doR
  rw [if_neg (by rw [hmb];decide),if_neg hl]
 have f:=qlc hmb
 obtain ⟨k,o1,o2⟩:=qsd h fit f hm
 rw [e]
 generalize doneR W a hm=r at *
 rcases k with ⟨⟨k1,k2,k3,k4,k5⟩,kb⟩ | ⟨k0,k1,k2⟩
 ·
  refine ⟨(qfC x img W.S a).1,⟨qmu k1.prot k1.quad ?_,qsa o1 _,show (-1:Int)<0 by decide,qrd h.has fit a,Cache.new_good,qgl img⟩,rfl,.inl ⟨rfl,?_⟩⟩
  ·
   unfold Core.lossCells
   have:=k1.job
   rw [show r.1.m.chip.core.job=none from this]
   exact k1.cells
  ·
   unfold qnQ qqh
   rw [if_neg (by rw [k1.lost];decide),if_neg (by rw [k1.lost];decide),k5]
 ·
  refine ⟨r.1.m.chip.core.lossCells a.mask,⟨qmu k1.prot k1.quad rfl,qsa o1 _,show (-1:Int)<0 by decide,qnk h.has fit (k1.cells _),Cache.new_good,qgl img⟩,rfl,.inr ⟨k1.cells _,?_⟩⟩
  unfold qnQ qqh
  rw [if_pos k1.lost,if_pos k1.lost]
end
section
theorem Lay.vok {x:ByteArray} {sec:Nat} {V:qau} (h:Lay x sec V):V.Ok:=by
 have:=h.good
 rw [← h.view,← qpt] at this ⊢
 exact qob _ this
theorem qr3 {x y:ByteArray} {sec f:Nat} {V:qau} (h:Lay x sec V) (h1:1≤f) (hf:f<8) (hv:V.free=(f:Int)) (hs:qbW x y (sec * 512+f * 64) 64) {r:qaC} (hr:qap r=true) (hk:r.kind≠0) (e:qaM y sec f=recText r):Lay y sec ⟨true,V.epoch,V.recs++[r],V.free+1⟩:=by
 obtain ⟨b0,b1,b2,b3,b4⟩:=qdN (x:=x) (y:=y) (sec:=sec) h1 hf (by rw [h.view];exact hv) hs
 rw [h.view] at b1 b2 b3
 have hd : ∀ j,4≤j→j<8→j≠sec→Dead (qaM y j 0) V.epoch:=fun j h4 h8 hne=>by
  rw [hs.slot (j:=j) (i:=0) hf (by omega) (by omega)]
  exact h.dead j h4 h8 hne
 have hfy:qbo (qeP y sec) f=qaM y sec f:=qbF _ _ _ hf
 have hsz:y.size=4096:=by rw [hs.1,h.size]
 have hg:=h.good
 refine ⟨hsz,h.s0,h.s1,?_,rfl,hd⟩
 refine qfi (by rw [b1,hg]) b2 ?_ ?_
 ·
  rw [b3]
  unfold qa5
  rw [hfy,e,qcy hr]
  simp [hk]
 ·
  rw [b4,if_neg (by rw [e];exact qdw hr)]
  show _=V.free+1
  rw [hv]
  omega
theorem qnO {x y:ByteArray} {sec j:Nat} {V:qau} (h:Lay x sec V) (hs:qbW x y (j * 512) 512) (hne:j≠sec) (hd:Dead (qaM y j 0) V.epoch):Lay y sec V:=by
 refine ⟨by rw [hs.1,h.size],h.s0,h.s1,?_,h.good,fun i h4 hi hn => ?_⟩
 ·
  rw [← h.view]
  exact qkH fun i hi=>hs.sec hi (fun e=>hne e.symm)
 ·
  by_cases e:i=j
  ·
   rw [e];exact hd
  ·
   rw [hs.sec (by omega) e]
   exact h.dead i h4 hi hn
theorem qbW.wide {x y:ByteArray} {j k:Nat} (h:qbW x y (j * 512+k * 64) 64) (hk:k<8):qbW x y (j * 512) 512:=h.mono (by omega) (by omega)
theorem qqm {x y z:ByteArray} {j:Nat} {E:Int} {rs:List qaC} (hx:x.size=4096) (h4:4≤j) (h8:j<8) (e0:1≤E) (e1:E≤1048576) (hl:rs.length≤7) (hm : ∀ r ∈ rs,qap r=true∧r.kind≠0) (hb : ∀ i,i<8→qaM x j i=ffs 64) (hd : ∀ i,4≤i→i<8→i≠j→Dead (qaM x i 0) E) (hy:y=burnsX j (rowL 1 rs) x) (hs:qbW y z (j * 512+0 * 64) 64) (h0:qaM z j 0=recText (headRec E)):Lay z j ⟨true,E,rs,((rs.length+1:Nat):Int)⟩:=by
 obtain ⟨b1,b2,b3⟩:=qid h8 rs 1 x (Nat.le_refl _) hx (by omega) (fun r hr=>(hm r hr).1) (fun i _ hi=>hb i hi)
 rw [← hy] at b1 b2 b3
 have hyz:y.size=4096:=by rw [b1.1,hx]
 have hz:z.size=4096:=by rw [hs.1,hyz]
 obtain ⟨k1,k2,k3⟩:=qoW hz h4 h8 e0 e1 h0 (fun i a b c=>by
  rw [hs.slot (by omega) (by omega) (by omega),b1.sec (by omega) c]
  exact hd i a b c)
 have hsl : ∀ i,1≤i→i<8→qbo (qeP z j) i=qaM y j i:=fun i h1 h2=>by rw [qbF _ _ _ h2];exact hs.slot (by omega) h2 (by omega)
 obtain ⟨r1,r2⟩:=qpk (s:=qeP z j) hl hm (fun i hi=>by rw [hsl _ (by omega) (by omega)];exact b2 i hi) (fun i h1 h2=>by rw [hsl _ (by omega) h2,b3 i h2 (.inr (by omega))];exact hb i h2)
 have:qa8 z j=⟨true,E,rs,((rs.length+1:Nat):Int)⟩:=qfi k3 k2 (by rw [qgA];exact r1) (by rw [qgy];exact r2)
 rw [← this]
 exact k1
theorem qdq (sec:Int) (a:Int×qaC) (l:List (Int×qaC)) (x y:ByteArray):qcc sec (a::l) x y=(qdx x (slotP sec a.1) (recText a.2) y∨qcc sec l (burnt x (slotP sec a.1) (recText a.2)) y):=rfl
theorem qmQ (k:Nat) (r:qaC) (rs:List qaC):rowL k (r::rs)=((k:Int),r)::rowL (k+1) rs:=rfl
theorem qnt (sec:Int) (a:Int×qaC) (l:List (Int×qaC)) (x:ByteArray):burnsX sec (a::l) x=burnsX sec l (burnt x (slotP sec a.1) (recText a.2)):=rfl
theorem qql {sec j:Nat} {V:qau} {E:Int} {y:ByteArray} (hne:j≠sec) (h8:j<8) (e0:1≤E) (e1:E≤1048576) (rs:List qaC) : ∀ (k:Nat) (x:ByteArray),Lay x sec V→1≤k→k+rs.length≤8→(∀ r ∈ rs,qap r=true)→qaM x j 0=ffs 64→(∀ i,k≤i→i<8→qaM x j i=ffs 64)→qcc j (rowL k rs++[(0,headRec E)]) x y→Lay y sec V∨(qaM y j 0=recText (headRec E)∧qbW (burnsX j (rowL k rs) x) y (j * 512+0 * 64) 64):=by
 induction rs with
 | nil =>
  intro k x h h1 hk hm hb0 hb hp
  rw [show rowL k []++[((0:Int),headRec E)]=[(((0:Nat):Int),headRec E)] from rfl,qdq] at hp
  rcases hp with hp | hp
  ·
   obtain ⟨hs,hsup⟩:=qi4 (slot:=0) h.size h8 (by omega) (qaV _ (qbw e0 e1)) hb0 hp
   by_cases e:qaM y j 0=recText (headRec E)
   ·
    exact .inr ⟨e,hs⟩
   ·
    exact .inl (qnO h (hs.wide (by omega)) hne (qrt (qbw e0 e1) hsup e _))
  ·
   exact hp.elim
 | cons r rs ih =>
  intro k x h h1 hk hm hb0 hb hp
  rw [qmQ,List.cons_append,qdq] at hp
  rw [qmQ,qnt]
  have hkl:k<8:=by simp only [List.length_cons] at hk;omega
  have hkb:=hb k (Nat.le_refl _) hkl
  rcases hp with hp | hp
  ·
   obtain ⟨hs,hsup⟩:=qi4 (slot:=k) h.size h8 hkl (qaV _ (hm r (by simp))) hkb hp
   exact .inl (qnO h (hs.wide hkl) hne (by rw [hs.slot hkl (by omega) (by omega),hb0];exact qgO _))
  ·
   have hs:=qc0 x j k (recText r)
   have h2:Lay (burnt x (slotP j k) (recText r)) sec V:=qnO h (hs.wide hkl) hne (by rw [hs.slot hkl (by omega) (by omega),hb0];exact qgO _)
   exact ih (k+1) _ h2 (by omega) (by simp only [List.length_cons] at hk;omega) (fun q hq=>hm q (by simp [hq])) (by rw [hs.slot hkl (by omega) (by omega)];exact hb0) (fun i hi1 hi2=>by rw [hs.slot hkl hi2 (by omega)];exact hb i (by omega) hi2) hp
theorem qst {k v:ByteArray} : ∀ {ps:List qaq},(∀ p ∈ ps,qbB p.key k=true)→putL k v ps=ps++[⟨k,v⟩]
 | [],_=>rfl
 | p::ps,h=>by
  unfold putL
  rw [if_pos (h p (by simp)),qst fun q hq=>h q (by simp [hq])]
  rfl
theorem qoN : ∀ (ps qs:List qaq),Sorted (qs++ps)→(ps.map putRec).foldl withL qs=qs++ps
 | [],qs,_=>by simp
 | p::ps,qs,h=>by
  have hq:Sorted qs:=(List.pairwise_append.1 h).1
  have hl : ∀ q ∈ qs,qbB q.key p.key=true:=fun q hq=>(List.pairwise_append.1 h).2.2 q hq p (by simp)
  have h2:Sorted ((qs++[p])++ps):=by rw [List.append_assoc];exact h
  show (ps.map putRec).foldl withL (withL qs (putRec p))=_
  rw [show withL qs (putRec p)=putL p.key p.value qs from qeV p.key p.value 0 qs hq,qst hl]
  have:=qoN ps (qs++[p]) h2
  rw [show (⟨p.key,p.value⟩:qaq)=p from rfl,this,List.append_assoc]
  rfl
theorem qlP {ps:List qaq} (h:Sorted ps):buildL (ps.map putRec)=ps:=qoN ps [] h
theorem qpy : ∀ (rs:List qaC) (k:Nat),((List.range rs.length).map fun i:Nat=>((i+k:Nat):Int)).zip rs=rowL k rs
 | [],_=>rfl
 | r::rs,k=>by
  rw [List.length_cons,List.range_succ_eq_map,List.map_cons,List.map_map,List.zip_cons_cons]
  have:=qpy rs (k+1)
  unfold rowL
  rw [← this]
  congr 1
  ·
   simp
  ·
   congr 1
   apply List.map_congr_left
   intro i _
   show ((i.succ+k:Nat):Int)=((i+(k+1):Nat):Int)
   congr 1
   omega
theorem qmw (sector epoch:Int) (ps:List qaq):(movedR sector epoch ps).slots.zip (movedR sector epoch ps).recs=rowL 1 (ps.map putRec)++[(0,headRec epoch)]:=by
 show ((List.range ps.length).map (fun i:Nat=>(i:Int)+1)++[0]).zip (ps.map putRec++[headRec epoch])=_
 rw [List.zip_append (by simp)]
 have:=qpy (ps.map putRec) 1
 rw [List.length_map] at this
 rw [← this]
 rfl
theorem qnT {sec:Nat} (h4:4≤sec) (h8:sec<8) : ∃ j:Nat,nextS (sec:Int)=(j:Int)∧4≤j∧j<8∧j≠sec:=by
 unfold nextS
 by_cases h:(sec:Int)+1 ≥ 8
 ·
  rw [if_pos h];exact ⟨4,rfl,by omega,by omega,by omega⟩
 ·
  rw [if_neg h];exact ⟨sec+1,by omega,by omega,by omega,by omega⟩
theorem qjA (x:ByteArray) (j:Nat):qfV x (j:Int)=qbY x (j * 512:Nat) ⟨#[255]⟩:=by
 unfold qfV
 rw [show ((j:Int) * 512)=((j * 512:Nat):Int) by omega]
theorem qgN {x:ByteArray} {sec:Nat} {V:qau} (h:Lay x sec V) {r:qaC} (hr:qcH r) (h0:(changeR V sec r).1=0) : ∃ (sec':Nat) (V':qau),Lay (qcn x (changeR V sec r).2) sec' V'∧(⟨true,(changeR V sec r).2.sector,behindV ⟨true,sec,V⟩ (changeR V sec r).2⟩:qaf)=⟨true,sec',V'⟩∧buildL V'.recs=withL (buildL V.recs) r∧V'.epoch≤V.epoch+1:=by
 have vk:=h.vok
 obtain ⟨bs,bl⟩:=qaJ _ V.recs rfl vk.recs
 revert h0
 unfold changeR
 split
 ·
  intro h0;exact absurd h0 (show ¬ (2202:Int)=0 by decide)
 split
 ·
  intro h0;exact absurd h0 (show ¬ (2201:Int)=0 by decide)
 rename_i hn1 hn2
 split
 ·
  rename_i hf
  intro _
  obtain ⟨f,hfe⟩ : ∃ f:Nat,V.free=(f:Int):=⟨V.free.toNat,by have:=vk.free;omega⟩
  have hf1:1≤f:=by have:=vk.free;omega
  have hf8:f<8:=by omega
  have hsame:=qc0 x sec f (recText r)
  obtain ⟨b0,_⟩:=qdN (x:=x) (y:=burnt x (slotP sec f) (recText r)) (sec:=sec) hf1 hf8 (by rw [h.view];exact hfe) hsame
  have hslot:=qeZ h.size h.s1 hf8 (qaV _ hr.1) b0
  have hlay:=qr3 h hf1 hf8 hfe hsame hr.1 hr.2 hslot
  refine ⟨sec,⟨true,V.epoch,V.recs++[r],V.free+1⟩,?_,?_,qdU _ _,by show V.epoch≤V.epoch+1;omega⟩
  ·
   show Lay (burnsX (sec:Int) [(V.free,r)] x) sec _
   rw [hfe]
   rw [hfe] at hlay
   exact hlay
  ·
   unfold behindV
   have:([r]:List qaC).filter notHead=[r]:=by
    unfold notHead
    simp [hr.2]
   show (⟨true,(sec:Int),⟨true,V.epoch,(if (-1:Int)<0 then V.recs else [])++[r].filter notHead,V.free+1⟩⟩:qaf)=_
   rw [this,if_pos (by decide)]
 split
 ·
  intro h0;exact absurd h0 (show ¬ (2201:Int)=0 by decide)
 ·
  rename_i hf he
  intro _
  obtain ⟨j,hj,j4,j8,jne⟩:=qnT h.s0 h.s1
  have hso:=qdp bs hr
  generalize hps:withL (buildL V.recs) r=ps at *
  have hpk : ∀ p ∈ ps,qfk p:=by rw [← hps];exact qeb (qer vk.recs) hr
  have hbase:qb5 x (movedR (nextS sec) (V.epoch+1) ps)=qfV x (j:Int):=by
   unfold qb5
   show (if 0≤nextS (sec:Int) then qfV x (nextS (sec:Int)) else x)=_
   rw [hj,if_pos (by omega)]
  have hsame:=qdY x j ⟨#[255]⟩
  have hw:Lay (qcn x (movedR (nextS sec) (V.epoch+1) ps)) j ⟨true,V.epoch+1,ps.map putRec,(((ps.map putRec).length+1:Nat):Int)⟩:=by
   unfold qcn
   rw [hbase,qmw]
   show Lay (burnsX (nextS (sec:Int)) _ _) j _
   rw [hj,qjA]
   refine qmv (by rw [hsame.1];exact h.size) j4 j8 (by have:=vk.epoch;omega) (by omega) (by rw [List.length_map];omega) (fun q hq => ?_) (fun i hi=>qgQ h.size j8 hi) (fun i i4 i8 ine => ?_)
   ·
    obtain ⟨p,hp,rfl⟩:=List.mem_map.1 hq
    exact ⟨hpk p hp,show (1:Int)≠0 by decide⟩
   ·
    rw [hsame.sec (by omega) ine]
    exact h.old i i4 i8
  refine ⟨j,_,hw,?_,?_,Int.le_refl _⟩
  ·
   unfold behindV
   have hfil:(ps.map putRec++[headRec (V.epoch+1)]).filter notHead=ps.map putRec:=by
    rw [List.filter_append,List.filter_eq_self.2 (fun q hq=>by obtain ⟨p,_,rfl⟩:=List.mem_map.1 hq;rfl)]
    show ps.map putRec++[]=_
    rw [List.append_nil]
   show (⟨true,nextS (sec:Int),⟨true,V.epoch+1,(if nextS (sec:Int)<0 then V.recs else [])++(ps.map putRec++[headRec (V.epoch+1)]).filter notHead,(ps.length:Int)+1⟩⟩:qaf)=_
   rw [hfil,hj,if_neg (by omega),List.nil_append,List.length_map]
   rfl
  ·
   exact qlP hso.1
end
end Go.Proofs.YtcfdenckiigdaaaGreat

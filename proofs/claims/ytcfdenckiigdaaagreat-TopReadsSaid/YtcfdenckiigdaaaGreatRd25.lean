/- Part 25 of the contracts. -/
import Derived.Test.YtcfdenckiigdaaaGreatRd24
set_option linter.unusedVariables false
set_option maxRecDepth 100000
set_option maxHeartbeats 4000000
namespace Go.Proofs.YtcfdenckiigdaaaGreat
open Tryz Go.RowKit
theorem KA {x img:ByteArray} (h:Has x img) {p:Int} (hp:2048≤p) {n:Nat} (f:Nat→UInt8→UInt8):Has (lE x p.toNat n f) img:=Cr h (pS x p.toNat n f) (by omega)
theorem Ac {x img:ByteArray} (h:Has x img) {p:Int} (hp:2048≤p) (mask s:ByteArray):Has (jA x p mask s) img:=KA h hp _
theorem zd {x img s:ByteArray} (h:Has x img) {p:Int} (hp:2048≤p):Has (jm x p s) img:=Ac (Ac h hp _ _) (by omega) _ _
theorem wu {img:ByteArray} {sec:Int} (s0:4≤sec) (s1:sec<8) : ∀ (l:List (Int×aX)) (x:ByteArray),Has x img→(∀ a ∈ l,0≤a.1∧a.1<8)→Has (gU sec l x) img
 | [],_,h,_=>h
 | a::l,x,h,hl=>wu s0 s1 l _ (zd h (sA s0 s1 (hl a (by simp)).1 (hl a (by simp)).2).1) fun c hc=>hl c (by simp [hc])
theorem Et {x img:ByteArray} (h:Has x img) (reads:List Int):Has (iM x img reads).1 img:=by
 have hs:=zK x
 unfold iM
 split
 ·
  exact h
 ·
  split
  ·
   exact zd (AD h _ hs.1) (sA hs.1 hs.2 (by decide) (by decide)).1
  ·
   exact h
theorem Jb {x img:ByteArray} (h:Has x img) {p:fJ} (pk:p.Ok):Has (iJ x p) img:=by
 unfold iJ
 have:=pk.dG
 split
 ·
  exact AD h _ (by omega)
 ·
  exact h
theorem Fv {x img:ByteArray} (h:Has x img) {p:fJ} (pk:p.Ok):Has (hZ x p) img:=wu pk.av.1 pk.av.2 _ _ (Jb h pk) fun a ha=>⟨(qU pk a ha).1,(qU pk a ha).2.1⟩
theorem wJ {x img:ByteArray} (h:Has x img) {S:aA} (vk:S.view.Ok) (s0:4≤S.av) (s1:S.av<8) {r:aX} (hr:gW r) (reads:List Int):Has (jn x img S r reads).1 img:=by
 have hp:(cA S.view S.av r).1=0→(cA S.view S.av r).2.Ok:=pG vk s0 s1 hr
 unfold jn oW
 split
 ·
  exact h
 ·
  split
  ·
   exact h
  ·
   split
   ·
    exact Fv h (hp (by omega))
   ·
    exact h
theorem LU {x img:ByteArray} (h:Has x img) {S:aA} (fit:S.Fit) (key value:ByteArray) (reads:List Int):Has (kF x img S key value reads).1 img:=by
 unfold kF
 by_cases h1:cQ S key≠0
 ·
  rw [if_pos h1];exact h
 ·
  rw [if_neg h1]
  obtain ⟨o1,o2,o3⟩:=ic (by omega:cQ S key=0)
  obtain ⟨f1,f2,f3⟩:=j6 fit o1
  by_cases h2:20<value.size
  ·
   rw [if_pos h2];exact h
  ·
   rw [if_neg h2];exact wJ h f3 f1 f2 (qM o2 o3 (by omega)) reads
theorem K7 {x img:ByteArray} (h:Has x img) {S:aA} (fit:S.Fit) (key:ByteArray) (reads:List Int):Has (wR x img S key reads).1 img:=by
 unfold wR
 by_cases h1:cQ S key≠0
 ·
  rw [if_pos h1];exact h
 ·
  rw [if_neg h1]
  obtain ⟨o1,o2,o3⟩:=ic (by omega:cQ S key=0)
  obtain ⟨f1,f2,f3⟩:=j6 fit o1
  exact wJ h f3 f1 f2 (wS o2 o3) reads
theorem qS (t:ByteArray×aA×List Int×Int):(mu t).1=t.1:=rfl
theorem KR {x img:ByteArray} (h:Has x img) {S:aA} (fit:S.Fit) (a:cG):Has (mz x img S a).1 img:=by
 unfold mz
 repeat' split
 ·
  rw [qS];exact Et h _
 ·
  exact h
 ·
  rw [qS];exact LU h fit _ _ _
 ·
  exact h
 ·
  rw [qS];exact K7 h fit _ _
 ·
  exact h
 ·
  exact h
 ·
  exact h
structure sU (W:fT) (x img:ByteArray):Prop where
 calm:Calm W.m x
 ok:W.m.Ok
 left:W.m.left<0
 has:Has x img
 ck:W.q.Good
 Nz:W.q.de img
theorem F9 {W:fT} {x img:ByteArray} (h1:Calm W.m x) (h2:W.m.left<0) (h3:W.m.Ok) (h4:W.q=Cache.new) (h5:Has x img):sU W x img:=⟨h1,h3,h2,h5,h4 ▸ Cache.mG,h4 ▸ zM img⟩
def od (x img:ByteArray) (S:aA) (a:cG):ByteArray×aA×ey×Int:=if pY a=false then (x,S,aR,2500) else mz x img S a
theorem LI {W:fT} {x img:ByteArray} (h:sU W x img) (fit:W.S.Fit) {a:cG} (f:a.IT) (hm:Nat):jh ((W.next a.busy hm).cut a.cj).m (jy W a hm).2.2 (jy W a hm).1.m (Calm (jy W a hm).1.m (mz x img W.S a).1∧(jy W a hm).1.q.Good∧(jy W a hm).1.q.de img∧(jy W a hm).1.S=(mz x img W.S a).2.1∧(jy W a hm).2=(mz x img W.S a).2.2) (Fx x W.S a)∧(jy W a hm).1.m.Ok∧(jy W a hm).1.q.Good:=by
 obtain ⟨h1,h2,h3⟩:=Bv h.calm h.ok f hm
 have k:=Jk (W:=(W.next a.busy hm).cut a.cj) h1 h.has (by rw [zo];exact h.ck) (by rw [zo];exact h.Nz) (by rw [zn];exact fit) a
 have o:=BS (W:=(W.next a.busy hm).cut a.cj) (x:=a) h2 (by rw [zo];exact h.ck) (by rw [zn];exact fit) f
 rw [zn] at k
 exact ⟨k,o.1,o.2.1⟩
theorem Mz {W:fT} {x img:ByteArray} (h:sU W x img) (fit:W.S.Fit) {a:cG} (hl:a.cj=0) (hk:a.kind≠7) (hm:Nat):sU (KH W a hm).1 (od x img W.S a).1 img∧(KH W a hm).1.S=(od x img W.S a).2.1∧(KH W a hm).2=(od x img W.S a).2.2:=by
 unfold KH od
 cases hmb:pY a with
 | false=>exact ⟨h,rfl,rfl⟩
 | true =>
  rw [if_neg (show ¬ (true=false) by decide),if_neg (show ¬ (true=false) by decide),if_pos ⟨hl,hk⟩]
  have f:=CO hmb
  obtain ⟨k,o1,o2⟩:=LI h fit f hm
  have hlf:((W.next a.busy hm).cut a.cj).m.left<0:=by rw [(Bv h.calm h.ok f hm).2.2 hl];exact h.left
  rcases k with ⟨⟨k1,k2,k3,k4,k5⟩,kb⟩ | ⟨_,_,kb⟩
  ·
   exact ⟨⟨k1,o1,kb hlf,KR h.has fit a,k2,k3⟩,k4,k5⟩
  ·
   omega
theorem Lay.MM {x:ByteArray} {sec:Nat} {V:bC} (h:Lay x sec V):V.Ok:=by
 have:=h.ck
 rw [← h.view,← DE] at this ⊢
 exact Bn _ this
theorem F6 {x y:ByteArray} {sec f:Nat} {V:bC} (h:Lay x sec V) (h1:1≤f) (hf:f<8) (hv:V.free=(f:Int)) (hs:gj x y (sec * 512+f * 64) 64) {r:aX} (hr:bD r=true) (hk:r.kind≠0) (e:dp y sec f=aK r):Lay y sec ⟨true,V.an,V.aC++[r],V.free+1⟩:=by
 obtain ⟨b0,b1,b2,b3,b4⟩:=qK (x:=x) (y:=y) (sec:=sec) h1 hf (by rw [h.view];exact hv) hs
 rw [h.view] at b1 b2 b3
 have hd : ∀ j,4≤j→j<8→j≠sec→sR (dp y j 0) V.an:=fun j h4 h8 hne=>by
  rw [hs.slot (j:=j) (i:=0) hf (by omega) (by omega)]
  exact h.dead j h4 h8 hne
 have hfy:dQ (iR y sec) f=dp y sec f:=jc _ _ _ hf
 have hsz:y.size=4096:=by rw [hs.1,h.size]
 have hg:=h.ck
 refine ⟨hsz,h.s0,h.s1,?_,rfl,hd⟩
 refine DF (by rw [b1,hg]) b2 ?_ ?_
 ·
  rw [b3]
  unfold eC
  rw [hfy,e,jL hr]
  simp [hk]
 ·
  rw [b4,if_neg (by rw [e];exact pA hr)]
  show _=V.free+1
  rw [hv]
  omega
theorem gj.wide {x y:ByteArray} {j k:Nat} (h:gj x y (j * 512+k * 64) 64) (hk:k<8):gj x y (j * 512) 512:=h.mono (by omega) (by omega)
theorem Gg {k v:ByteArray} : ∀ {ps:List aJ},(∀ p ∈ ps,cF p.key k=true)→eB k v ps=ps++[⟨k,v⟩]
 | [],_=>rfl
 | p::ps,h=>by
  unfold eB
  rw [if_pos (h p (by simp)),Gg fun q hq=>h q (by simp [hq])]
  rfl
theorem Cj : ∀ (ps qs:List aJ),fo (qs++ps)→(ps.map eR).foldl eI qs=qs++ps
 | [],qs,_=>by simp
 | p::ps,qs,h=>by
  have hq:fo qs:=(List.pairwise_append.1 h).1
  have hl : ∀ q ∈ qs,cF q.key p.key=true:=fun q hq=>(List.pairwise_append.1 h).2.2 q hq p (by simp)
  have h2:fo ((qs++[p])++ps):=by rw [List.append_assoc];exact h
  show (ps.map eR).foldl eI (eI qs (eR p))=_
  rw [show eI qs (eR p)=eB p.key p.value qs from pU p.key p.value 0 qs hq,Gg hl]
  have:=Cj ps (qs++[p]) h2
  rw [show (⟨p.key,p.value⟩:aJ)=p from rfl,this,List.append_assoc]
  rfl
theorem GK {ps:List aJ} (h:fo ps):cn (ps.map eR)=ps:=Cj ps [] h
theorem DP : ∀ (rs:List aX) (k:Nat),((List.range rs.length).map fun i:Nat=>((i+k:Nat):Int)).zip rs=yD k rs
 | [],_=>rfl
 | r::rs,k=>by
  rw [List.length_cons,List.range_succ_eq_map,List.map_cons,List.map_map,List.zip_cons_cons]
  have:=DP rs (k+1)
  unfold yD
  rw [← this]
  congr 1
  ·
   simp
  ·
   congr 1
   apply List.map_congr_left
   intro i _
   show ((i.succ+k:Nat):Int)=((i+(k+1):Nat):Int)
   congr 1
   omega
theorem HU (av an:Int) (ps:List aJ):(jI av an ps).bJ.zip (jI av an ps).aC=yD 1 (ps.map eR)++[(0,cP an)]:=by
 show ((List.range ps.length).map (fun i:Nat=>(i:Int)+1)++[0]).zip (ps.map eR++[cP an])=_
 rw [List.zip_append (by simp)]
 have:=DP (ps.map eR) 1
 rw [List.length_map] at this
 rw [← this]
 rfl
theorem next_ne {sec:Nat} (h4:4≤sec) (h8:sec<8) : ∃ j:Nat,fK (sec:Int)=(j:Int)∧4≤j∧j<8∧j≠sec:=by
 unfold fK
 by_cases h:(sec:Int)+1 ≥ 8
 ·
  rw [if_pos h];exact ⟨4,rfl,by omega,by omega,by omega⟩
 ·
  rw [if_neg h];exact ⟨sec+1,by omega,by omega,by omega,by omega⟩
theorem AE (x:ByteArray) (j:Nat):nW x (j:Int)=erased x (j * 512:Nat) ⟨#[255]⟩:=by
 unfold nW
 rw [show ((j:Int) * 512)=((j * 512:Nat):Int) by omega]
theorem wK {x:ByteArray} {sec:Nat} {V:bC} (h:Lay x sec V) {r:aX} (hr:gW r) (h0:(cA V sec r).1=0) : ∃ (sec':Nat) (V':bC),Lay (hZ x (cA V sec r).2) sec' V'∧(⟨true,(cA V sec r).2.av,iL ⟨true,sec,V⟩ (cA V sec r).2⟩:aA)=⟨true,sec',V'⟩∧cn V'.aC=eI (cn V.aC) r∧V'.an≤V.an+1:=by
 have vk:=h.MM
 obtain ⟨bs,bl⟩:=dx _ V.aC rfl vk.aC
 revert h0
 unfold cA
 split
 ·
  intro h0;exact absurd h0 (show ¬ (2202:Int)=0 by decide)
 split
 ·
  intro h0;exact absurd h0 (show ¬ (2201:Int)=0 by decide)
 rename_i hn1 hn2
 split
 ·
  rename_i hf
  intro _
  obtain ⟨f,hfe⟩ : ∃ f:Nat,V.free=(f:Int):=⟨V.free.toNat,by have:=vk.free;omega⟩
  have hf1:1≤f:=by have:=vk.free;omega
  have hf8:f<8:=by omega
  have hsame:=kW x sec f (aK r)
  obtain ⟨b0,_⟩:=qK (x:=x) (y:=jm x (cd sec f) (aK r)) (sec:=sec) hf1 hf8 (by rw [h.view];exact hfe) hsame
  have hslot:=nc h.size h.s1 hf8 (fN _ hr.1) b0
  have hlay:=F6 h hf1 hf8 hfe hsame hr.1 hr.2 hslot
  refine ⟨sec,⟨true,V.an,V.aC++[r],V.free+1⟩,?_,?_,oy _ _,by show V.an≤V.an+1;omega⟩
  ·
   show Lay (gU (sec:Int) [(V.free,r)] x) sec _
   rw [hfe]
   rw [hfe] at hlay
   exact hlay
  ·
   unfold iL
   have:([r]:List aX).filter dH=[r]:=by
    unfold dH
    simp [hr.2]
   show (⟨true,(sec:Int),⟨true,V.an,(if (-1:Int)<0 then V.aC else [])++[r].filter dH,V.free+1⟩⟩:aA)=_
   rw [this,if_pos (by decide)]
 split
 ·
  intro h0;exact absurd h0 (show ¬ (2201:Int)=0 by decide)
 ·
  rename_i hf he
  intro _
  obtain ⟨j,hj,j4,j8,jne⟩:=next_ne h.s0 h.s1
  have hso:=nN bs hr
  generalize hps:eI (cn V.aC) r=ps at *
  have hpk : ∀ p ∈ ps,mS p:=by rw [← hps];exact pz (ri vk.aC) hr
  have hbase:iJ x (jI (fK sec) (V.an+1) ps)=nW x (j:Int):=by
   unfold iJ
   show (if 0≤fK (sec:Int) then nW x (fK (sec:Int)) else x)=_
   rw [hj,if_pos (by omega)]
  have hsame:=uf x j ⟨#[255]⟩
  have hw:Lay (hZ x (jI (fK sec) (V.an+1) ps)) j ⟨true,V.an+1,ps.map eR,(((ps.map eR).length+1:Nat):Int)⟩:=by
   unfold hZ
   rw [hbase,HU]
   show Lay (gU (fK (sec:Int)) _ _) j _
   rw [hj,AE]
   refine zJ (by rw [hsame.1];exact h.size) j4 j8 (by have:=vk.an;omega) (by omega) (by rw [List.length_map];omega) (fun q hq => ?_) (fun i hi=>wV h.size j8 hi) (fun i i4 i8 ine => ?_)
   ·
    obtain ⟨p,hp,rfl⟩:=List.mem_map.1 hq
    exact ⟨hpk p hp,show (1:Int)≠0 by decide⟩
   ·
    rw [hsame.sec (by omega) ine]
    exact h.old i i4 i8
  refine ⟨j,_,hw,?_,?_,Int.le_refl _⟩
  ·
   unfold iL
   have hfil:(ps.map eR++[cP (V.an+1)]).filter dH=ps.map eR:=by
    rw [List.filter_append,List.filter_eq_self.2 (fun q hq=>by obtain ⟨p,_,rfl⟩:=List.mem_map.1 hq;rfl)]
    show ps.map eR++[]=_
    rw [List.append_nil]
   show (⟨true,fK (sec:Int),⟨true,V.an+1,(if fK (sec:Int)<0 then V.aC else [])++(ps.map eR++[cP (V.an+1)]).filter dH,(ps.length:Int)+1⟩⟩:aA)=_
   rw [hfil,hj,if_neg (by omega),List.nil_append,List.length_map]
   rfl
  ·
   exact GK hso.1
def qq (x:ByteArray) (ps:List aJ) (E:Int):Prop := ∃ (sec:Nat) (V:bC),Lay x sec V∧cn V.aC=ps∧V.an≤E
def dJ (x:ByteArray) (S:aA) (ps:List aJ) (E:Int):Prop := ∃ (sec:Nat) (V:bC),Lay x sec V∧cn V.aC=ps∧V.an≤E∧S=⟨true,sec,V⟩
theorem dJ.kept {x:ByteArray} {S:aA} {ps:List aJ} {E:Int} (h:dJ x S ps E):qq x ps E:=by
 obtain ⟨sec,V,h1,h2,h3,_⟩:=h
 exact ⟨sec,V,h1,h2,h3⟩
theorem dJ.fit {x:ByteArray} {S:aA} {ps:List aJ} {E:Int} (h:dJ x S ps E):S.Fit:=by
 obtain ⟨sec,V,h1,h2,h3,rfl⟩:=h
 have:=h1.s0
 have:=h1.s1
 exact .inr ⟨rfl,show (4:Int)≤sec by omega,show (sec:Int)<8 by omega,h1.MM⟩
theorem qq.more {x:ByteArray} {ps:List aJ} {E E':Int} (h:qq x ps E) (k:E≤E'):qq x ps E':=by
 obtain ⟨sec,V,h1,h2,h3⟩:=h
 exact ⟨sec,V,h1,h2,by omega⟩
theorem dJ.more {x:ByteArray} {S:aA} {ps:List aJ} {E E':Int} (h:dJ x S ps E) (k:E≤E'):dJ x S ps E':=by
 obtain ⟨sec,V,h1,h2,h3,h4⟩:=h
 exact ⟨sec,V,h1,h2,by omega,h4⟩
theorem qq.sorted {x:ByteArray} {ps:List aJ} {E:Int} (h:qq x ps E):fo ps∧ps.length≤7:=by
 obtain ⟨sec,V,h1,rfl,h3⟩:=h
 have vk:=h1.MM
 have:=dx _ V.aC rfl vk.aC
 exact ⟨this.1,Nat.le_trans this.2 vk.len⟩
theorem Eu {x:ByteArray} (hx:x.size=4096) {j:Nat} {E:Int} (j4:4≤j) (j8:j<8) (e0:1≤E) (e1:E≤1048576) (hd : ∀ i,4≤i→i<8→sR (dp x i 0) E):Lay (jm (nW x (j:Int)) (cd (j:Int) 0) (aK (cP E))) j ⟨true,E,[],1⟩:=by
 have hsame:=uf x j ⟨#[255]⟩
 rw [AE]
 exact zJ (rs:=[]) (by rw [hsame.1];exact hx) j4 j8 e0 e1 (by simp) (fun q hq=>by simp at hq) (fun i hi=>wV hx j8 hi) (fun i i4 i8 ine=>by
  rw [hsame.sec (by omega) ine]
  exact hd i i4 i8)
def xD (ps:List aJ) (key value:ByteArray) (reads:List Int):Int :=
 if ¬ (1≤key.size∧key.size≤6) then 2300 else if 20<value.size then 2301 else if 7<(eB key value ps).length then 2304 else if cH reads=true then 0 else 1800
def Ei (ps:List aJ) (key:ByteArray) (reads:List Int):Int :=
 if ¬ (1≤key.size∧key.size≤6) then 2300 else if (iI ps key).isSome=false then 2303 else if cH reads=true then 0 else 1800
theorem AT (k:ByteArray) (ps:List aJ):(fi k ps).length≤ps.length:=List.length_filter_le _ _
theorem qG {x img:ByteArray} {S:aA} {ps:List aJ} {E:Int} (h:dJ x S ps E) (hE:E<1048576) (key value:ByteArray) (reads:List Int):(xD ps key value reads≠0→kF x img S key value reads=(x,S,[],xD ps key value reads))∧(xD ps key value reads=0→dJ (kF x img S key value reads).1 (kF x img S key value reads).2.1 (eB key value ps) (E+1)∧(kF x img S key value reads).2.2=(reads.map (j7 img),0)):=by
 obtain ⟨sec,V,h1,h2,h3,rfl⟩:=h
 have vk:=h1.MM
 obtain ⟨bs,bl⟩:=dx _ V.aC rfl vk.aC
 rw [h2] at bs bl
 unfold xD kF cQ
 rw [if_neg (show ¬ true=false by decide)]
 by_cases k1:1≤key.size∧key.size≤6
 ·
  rw [if_neg (not_not_intro k1),if_pos k1,if_neg (show ¬ (0:Int)≠0 by decide)]
  by_cases k2:20<value.size
  ·
   rw [if_pos k2,if_pos k2]
   exact ⟨fun _=>rfl,fun h=>absurd h (by decide)⟩
  ·
   rw [if_neg k2,if_neg k2]
   have hr:=qM (value:=value) k1.1 k1.2 (by omega)
   have hw:eI (cn V.aC) ⟨1,0,key,value⟩=eB key value ps:=by rw [h2];exact pU key value 0 ps bs
   have c0:=fun h0=>wK h1 hr h0
   have hc:(cA V sec ⟨1,0,key,value⟩).1=if 7<(eB key value ps).length then 2201 else 0:=by
    unfold cA
    rw [hw,if_neg (fun h=>absurd h.2 (show ¬ (1:Int)=2 by decide))]
    by_cases k3:7<(eB key value ps).length
    ·
     rw [if_pos k3,if_pos k3]
    ·
     rw [if_neg k3,if_neg k3]
     by_cases k4:V.free<8
     ·
      rw [if_pos k4]
     ·
      rw [if_neg k4,if_neg (by omega)]
   unfold jn oW
   rw [show (⟨true,(sec:Int),V⟩:aA).view=V from rfl,show (⟨true,(sec:Int),V⟩:aA).av=(sec:Int) from rfl]
   generalize cA V sec ⟨1,0,key,value⟩=c at c0 hc
   rw [hc]
   by_cases k3:7<(eB key value ps).length
   ·
    rw [if_pos k3,if_pos k3,if_neg (show ¬ (2201:Int)=2202 by decide),if_pos (show (2201:Int)≠0 by decide)]
    exact ⟨fun _=>rfl,fun h=>absurd h (by decide)⟩
   ·
    rw [if_neg k3,if_neg k3,if_neg (show ¬ (0:Int)=2202 by decide),if_neg (show ¬ (0:Int)≠0 by decide)]
    by_cases k4:cH reads=true
    ·
     rw [if_pos k4,if_pos k4]
     refine ⟨fun h=>absurd rfl h,fun _=>⟨?_,rfl⟩⟩
     obtain ⟨s',V',d1,d2,d3,d4⟩:=c0 (by rw [hc,if_neg k3])
     exact ⟨s',V',d1,d3.trans hw,by omega,d2⟩
    ·
     rw [if_neg k4,if_neg k4]
     exact ⟨fun _=>rfl,fun h=>absurd h (by decide)⟩
 ·
  rw [if_pos k1,if_neg k1,if_pos (show (2300:Int)≠0 by decide)]
  exact ⟨fun _=>rfl,fun h=>absurd h (by decide)⟩
theorem EM {x img:ByteArray} {S:aA} {ps:List aJ} {E:Int} (h:dJ x S ps E) (hE:E<1048576) (key:ByteArray) (reads:List Int):(Ei ps key reads≠0→wR x img S key reads=(x,S,[],Ei ps key reads))∧(Ei ps key reads=0→dJ (wR x img S key reads).1 (wR x img S key reads).2.1 (fi key ps) (E+1)∧(wR x img S key reads).2.2=(reads.map (j7 img),0)):=by
 obtain ⟨sec,V,h1,h2,h3,rfl⟩:=h
 have vk:=h1.MM
 obtain ⟨bs,bl⟩:=dx _ V.aC rfl vk.aC
 rw [h2] at bs bl
 have vl:=vk.len
 unfold Ei wR cQ
 rw [if_neg (show ¬ true=false by decide)]
 by_cases k1:1≤key.size∧key.size≤6
 ·
  rw [if_neg (not_not_intro k1),if_pos k1,if_neg (show ¬ (0:Int)≠0 by decide)]
  have hr:=wS k1.1 k1.2
  have hw:eI (cn V.aC) ⟨2,0,key,⟨#[]⟩⟩=fi key ps:=by rw [h2];exact tL key ⟨#[]⟩ 0 ps bs
  have hdl:=AT key ps
  have c0:=fun h0=>wK h1 hr h0
  have hc:(cA V sec ⟨2,0,key,⟨#[]⟩⟩).1=if (iI ps key).isSome=false then 2202 else 0:=by
   unfold cA
   rw [hw,h2]
   by_cases k3:(iI ps key).isSome=false
   ·
    rw [if_pos ⟨k3,rfl⟩,if_pos k3]
   ·
    rw [if_neg (fun h=>k3 h.1),if_neg k3,if_neg (by omega)]
    by_cases k4:V.free<8
    ·
     rw [if_pos k4]
    ·
     rw [if_neg k4,if_neg (by omega)]
  unfold jn oW
  rw [show (⟨true,(sec:Int),V⟩:aA).view=V from rfl,show (⟨true,(sec:Int),V⟩:aA).av=(sec:Int) from rfl]
  generalize cA V sec ⟨2,0,key,⟨#[]⟩⟩=c at c0 hc
  rw [hc]
  by_cases k3:(iI ps key).isSome=false
  ·
   rw [if_pos k3,if_pos k3,if_pos (show (2202:Int)=2202 by decide)]
   exact ⟨fun _=>rfl,fun h=>absurd h (by decide)⟩
  ·
   rw [if_neg k3,if_neg k3,if_neg (show ¬ (0:Int)=2202 by decide),if_neg (show ¬ (0:Int)≠0 by decide)]
   by_cases k4:cH reads=true
   ·
    rw [if_pos k4,if_pos k4]
    refine ⟨fun h=>absurd rfl h,fun _=>⟨?_,rfl⟩⟩
    obtain ⟨s',V',d1,d2,d3,d4⟩:=c0 (by rw [hc,if_neg k3])
    exact ⟨s',V',d1,d3.trans hw,by omega,d2⟩
   ·
    rw [if_neg k4,if_neg k4]
    exact ⟨fun _=>rfl,fun h=>absurd h (by decide)⟩
 ·
  rw [if_pos k1,if_neg k1,if_pos (show (2300:Int)≠0 by decide)]
  exact ⟨fun _=>rfl,fun h=>absurd h (by decide)⟩
theorem CX {x:ByteArray} {S:aA} {ps:List aJ} {E:Int} (h:dJ x S ps E):lN S=(ps,0):=by
 obtain ⟨sec,V,h1,h2,h3,rfl⟩:=h
 unfold lN
 rw [if_pos rfl]
 show (cn V.aC,(0:Int))=_
 rw [h2]
theorem Ia (x:Int) (w:World):Calls prog 13 #[.int .i64 x] w fun e w'=>e=.returned (.int .i64 x)∧w=w':=by
 go_enter func13,ntmps13
 go_wp2
 go_ret
 exact ⟨rfl,rfl⟩
instance :DecidableEq aJ:=fun a b=>decidable_of_iff (a.key=b.key∧a.value=b.value) (by cases a;cases b;simp)
def FA (b:Bool) (w:World) (e:Ending) (w':World):Prop:=e=.returned (.bool b)∧Below w.heap.size w w'
theorem J8 {ps qs:List aJ} (hl:ps.length=qs.length) (h : ∀ j (h1:j<ps.length) (h2:j<qs.length),ps[j]=qs[j]):ps=qs:=List.ext_getElem hl fun i h1 h2=>h i h1 h2
theorem yF (a1 a2:Option Addr) (c1 c2 m n:Nat) (w:World) (hl:m≠n):Calls prog 22 #[.slice a1 m c1,.slice a2 n c2] w (FA false w):=by
 have g:((m:Int) != (n:Int))=true:=by simp;omega
 clear hl
 go_enter func22,ntmps22
 go_wp2
 go_ret
 exact ⟨rfl,Below.refl _ _⟩
theorem kq (u v:Value) (ps qs:List aJ) (w:World) (h1:aU w u ps.length 2 (aE ps)) (h2:aU w v qs.length 2 (aE qs)) (hm:ps.length≤1000000):Calls prog 22 #[u,v] w (FA (decide (ps=qs)) w):=by
 obtain ⟨a1,c1,rfl⟩:=h1.slice
 obtain ⟨a2,c2,rfl⟩:=h2.slice
 by_cases hl:ps.length=qs.length
 case neg =>
  have e:decide (ps=qs)=false:=by simp;intro h;exact hl (by rw [h])
  rw [e];exact yF a1 a2 c1 c2 _ _ w hl
 have H1:=zH h1
 have H2:=zH h2
 have X1:=zH (fun i (hi:i<ps.length)=>dt ps i hi)
 have X2:=zH (fun i (hi:i<qs.length)=>dt qs i hi)
 have HL:=zH hl
 rw [← hl]
 clear hl h1 h2
 go_enter func22,ntmps22
 go_wp2
 go_loopg [5] ps.length (fun n i wr => ∃ k:Nat,n=ps.length - k∧k≤ps.length∧i=.int .i64 k∧Below w.heap.size w wr ∧ ∀ j (h1:j<ps.length) (h2:j<qs.length),j<k→ps[j]=qs[j])
 case atStart=>exact ⟨0,rfl,Nat.zero_le _,rfl,Below.refl _ _,fun j _ _ hj=>absurd hj (Nat.not_lt_zero _)⟩
 case round =>
  obtain ⟨k,hn,hk,rfl,hb,hsame⟩:=hrel
  have HB:=zH (zA hn (zA hb hsame))
  clear hn hb hsame
  by_cases hlt:k<ps.length
  ·
   have hlt':(k:Int)<(ps.length:Int):=by omega
   have hlq:k<qs.length:=by have:=HL.out;omega
   obtain ⟨b1,o1,rfl,hc1,hx1⟩:=H1.out.some (by omega)
   obtain ⟨b2,o2,rfl,hc2,hx2⟩:=H2.out.some (by omega)
   obtain ⟨p0,p1⟩:=X1.out k hlt
   obtain ⟨q0,q1⟩:=X2.out k hlq
   have cc1 : ∀ i u,(aE ps)[2 * k+i]? = some u→wr.cell? ⟨b1,o1+k * 2+i,none⟩=some u:=fun i u hu=>by
    have e:=hx1 _ _ hu
    rw [show o1+k * 2+i=o1+(2 * k+i) by omega]
    exact (HB.out.2.1.cell (p:=⟨b1,o1+(2 * k+i),none⟩) (zL w _ e)).trans e
   have cc2 : ∀ i u,(aE qs)[2 * k+i]? = some u→wr.cell? ⟨b2,o2+k * 2+i,none⟩=some u:=fun i u hu=>by
    have e:=hx2 _ _ hu
    rw [show o2+k * 2+i=o2+(2 * k+i) by omega]
    exact (HB.out.2.1.cell (p:=⟨b2,o2+(2 * k+i),none⟩) (zL w _ e)).trans e
   have c10:wr.cell? ⟨b1,o1+k * 2,none⟩=some (.string ps[k].key):=cc1 0 _ p0
   have c11:wr.cell? ⟨b1,o1+k * 2+1,none⟩=some (.string ps[k].value):=cc1 1 _ p1
   have c20:wr.cell? ⟨b2,o2+k * 2,none⟩=some (.string qs[k].key):=cc2 0 _ q0
   have c21:wr.cell? ⟨b2,o2+k * 2+1,none⟩=some (.string qs[k].value):=cc2 1 _ q1
   clear p0 p1 q0 q1 cc1 cc2 hx1 hx2
   generalize hp:ps[k]=p at *
   generalize hq:qs[k]=q at *
   have HP:=zH (zA hp hq)
   clear hp hq
   by_cases he:p=q
   ·
    have HE:=zH he
    have e1:(p.key.toList == q.key.toList)=true:=by rw [he];exact beq_self_eq_true _
    have e2:(p.value.toList == q.value.toList)=true:=by rw [he];exact beq_self_eq_true _
    clear he
    go_wp2_with fail
    go_quiet (fail)
    go_wp2
    go_roundg (ps.length - (k+1))
    case measure=>have:=HB.out.1;omega
    case rel =>
     refine ⟨k+1,rfl,by omega,by go_num,aY HB.out.2.1 nq,fun j g1 g2 hl => ?_⟩
     rcases Nat.lt_or_ge j k with h' | h'
     ·
      exact HB.out.2.2 j g1 g2 h'
     ·
      obtain rfl:j=k:=by omega
      rw [HP.out.1,HP.out.2,HE.out]
   ·
    have hf:decide (ps=qs)=false:=by
     simp only [decide_eq_false_iff_not]
     rintro rfl
     exact he (HP.out.1.symm.trans HP.out.2)
    have HF:=zH hf
    clear hf
    by_cases hk:p.key=q.key
    ·
     have e1:(p.key.toList == q.key.toList)=true:=by rw [hk];exact beq_self_eq_true _
     have e2:(p.value.toList == q.value.toList)=false:=by
      rw [jq,decide_eq_false_iff_not]
      intro h
      exact he (by cases p;cases q;simp_all)
     clear he hk
     go_wp2_with fail
     go_quiet (fail)
     go_wp2
     go_ret
     exact ⟨by rw [HF.out];rfl,aY HB.out.2.1 nq⟩
    ·
     have e1:(p.key.toList == q.key.toList)=false:=by rw [jq,decide_eq_false_iff_not];exact hk
     clear he hk
     go_wp2_with fail
     go_quiet (fail)
     go_wp2
     go_ret
     exact ⟨by rw [HF.out];rfl,aY HB.out.2.1 nq⟩
  ·
   obtain rfl:k=ps.length:=by omega
   have hf:decide (ps=qs)=true:=by simp;exact J8 HL.out fun j g1 g2=>HB.out.2.2 j g1 g2 g1
   have HF:=zH hf
   clear hf
   go_wp2
   go_ret
   exact ⟨by rw [HF.out];rfl,HB.out.2.1⟩
def jF (t:ByteArray):ByteArray:=mk 2048 (eG t)
def qA (t:ByteArray):List Int:=(List.range 2048).map fun i=>((eG t i).toNat:Int)
theorem qB (t:ByteArray):(qA t).length=2048:=by simp [qA]
theorem Hi (t:ByteArray) (k:Nat) (h:k<2048):(qA t).getD k 0=((eG t k).toNat:Int):=by
 simp [qA,List.getD,h]
theorem ze (x:UInt8):byteOf (x.toNat:Int)=x:=by
 have h:=x.toNat_lt
 unfold byteOf
 rw [show ((x.toNat:Int) % 256).toNat=x.toNat by omega]
 exact UInt8.ofNat_toNat
theorem Cw (t:ByteArray):eH (qA t)=jF t:=by
 refine fF ?_ fun i hi => ?_
 ·
  rw [fe,qB];exact (eJ _ _).symm
 ·
  rw [fe,qB] at hi
  rw [show bt (jF t) i=eG t i from lP _ _ _ hi]
  unfold eH bytesOf qA bt
  simp [hi,ze]
theorem EE {t:ByteArray} (h:0<t.size) (i:Nat):eG t i=bt t (i % t.size):=if_neg (by omega)
theorem IM (t:ByteArray) (h:t.size=0) (n:Nat) (w:World) (b:Nat) (hb:w.heap[b]? = some (.cells (madeCells #[.int .u8 0] n) 5 (0,0))):(convert 29 9 (.slice (some ⟨b,0,none⟩) n n)).run prog w=.ok (.string (mk n (eG t))) w:=by
 have:=run_convert_bytes_back (P:=prog) w 29 9 5 ⟨b,0,none⟩ n (List.replicate n 0) underlying29 underlying5 underlying9 (fun j hj=>by
  rw [List.length_replicate] at hj
  rw [dh,Nat.zero_add,cell_of hb,CN _ _ _ hj]
  simp)
 rw [List.length_replicate] at this
 have e:(⟨(List.replicate n (0:UInt8)).toArray⟩:ByteArray)=mk n (eG t) := ?_
 rw [this,e]
 refine fF ?_ fun i hi => ?_
 ·
  rw [eJ];simp [ByteArray.size]
 ·
  have hi:i<n:=by simpa [ByteArray.size] using hi
  rw [lP _ _ _ hi]
  unfold eG bt
  rw [if_pos h]
  simp [hi]
theorem GM {xs:List Int} {t:ByteArray} (h : ∀ k,k<2048→xs.getD k 0=((eG t k).toNat:Int)) (m:0<t.size → ∀ i,eG t i=bt t (i % t.size)) (hp:0<t.size) {k:Nat} (hk:k<2048):(byteOf (xs.getD k 0)).toNat=(bt t (k % t.size)).toNat:=by
 rw [h k hk,ze,m hp]
theorem yl (t:ByteArray) (w:World) (ht:t.size<140737488355328):Calls prog 17 #[.string t] w (jj (jF t) w):=by
 have hmk : ∀ w,(Instr.makeSlice 29 (.int .i64 2048) (.int .i64 2048)).run prog w=.ok (.slice (some ⟨w.heap.size,0,none⟩) 2048 2048) (w.alloc (.cells (madeCells #[.int .u8 0] 2048) 5)):=fun w=>run_make_row' (P:=prog) 29 5 (.int .u8 0) 1 underlying29 mF rfl .i64 .i64 2048 (by omega) (by omega) w
 have HI:=zH (fun w b h hb=>IM t h 2048 w b hb)
 have HT:=zH (Cw t)
 have HM:=zH (fun h i=>EE (t:=t) h i)
 have HA:=zH (Hi t)
 have HL:=zH (qB t)
 rw [show mk 2048 (eG t)=jF t from rfl] at HI
 generalize jF t=img at *
 generalize qA t=xs at *
 go_enter func17,ntmps17
 go_upto_region 2 with fail
 have hs:=fI.start (w:=w) 2048 xs
 have HS:=zH hs
 have HN:=zH (af w (.cells (madeCells #[.int .u8 0] 2048) 5))
 have HB:=zH (ae (Below.refl w.heap.size w) (.cells (madeCells #[.int .u8 0] 2048) 5))
 generalize hW:w.alloc (.cells (madeCells #[.int .u8 0] 2048) 5)=w2 at *
 clear hmk hs hW
 by_cases h0:t.size=0
 ·
  have hback:=HI.out w2 _ h0 HN.out
  have ht0 : ¬ (0:Int)<(t.size:Int):=by omega
  go_wp2
  go_loopw [4] (fun i wr=>i=.int .i64 0∧wr=w2) (fun i _=>0)
  case atStart=>exact ⟨rfl,rfl⟩
  case round =>
   obtain ⟨rfl,rfl⟩:=hrel
   go_wp2
   go_ret
   exact ⟨rfl,HB.out⟩
 ·
  have ht0:(0:Int)<(t.size:Int):=by omega
  have ht1:(t.size:Int)≠0:=by omega
  have ht2:((t.size:Int) == 0)=false:=zQ ht1
  have HP:=zH (show 0<t.size by omega)
  clear h0
  go_wp2
  go_loopw [4] (fun i wr => ∃ k:Nat,i=.int .i64 k∧k≤2048∧fI w wr w.heap.size 2048 k xs) (fun i _=>2048 - (intOf i).toNat)
  case atStart=>exact ⟨0,rfl,Nat.zero_le _,HS.out⟩
  case round =>
   obtain ⟨k,rfl,hk,hB⟩:=hrel
   by_cases hlt:k<2048
   ·
    have hlt':(k:Int)<2048:=by omega
    obtain ⟨y,hy,_⟩:=hB.cell k hlt
    have hf:=hB.free k
    have hr:(k:Int).tmod (t.size:Int)=((k % t.size:Nat):Int):=(Int.ofNat_tmod k t.size).symm
    have hrl:k % t.size<t.size:=Nat.mod_lt _ HP.out
    have HNX:=zH (hB.next zY hlt)
    rw [GM HA.out HM.out HP.out hlt] at HNX
    clear hB
    generalize hq:k % t.size=q at *
    have hg:=gT t q hrl
    clear hq
    go_wp2
    go_roundw
    case rel=>exact ⟨k+1,by go_num,by omega,HNX.out⟩
    case measure=>simp [intOf];omega
   ·
    obtain rfl:k=2048:=by omega
    have hd:=fI.done (xs:=xs) (w:=w) (wr:=wr) (nb:=w.heap.size) (by rw [HL.out];exact hB)
    rw [HL.out,HT.out] at hd
    have HBB:=zH hB.below
    clear hB
    go_wp2
    go_ret
    exact ⟨rfl,HBB.out⟩
def KQ:Array Value := #[.int .i64 0,.string ⟨#[]⟩,.string ⟨#[]⟩,.int .i64 0,.int .i64 0,.int .i64 0,.string ⟨#[]⟩,.slice none 0 0,.slice none 0 0]
structure DU (w wr:World) (x:cG) (ba:Option Addr) (bc:Nat) (ra:Option Addr) (rc:Nat):Prop where
 below:Below w.heap.size w wr
 act:wr.heap[w.heap.size]? = some (.cells (x.row ba bc ra rc) 31 (0,0))
 res:wr.heap[w.heap.size+1]? = some (.cells KQ 31 (0,0))
theorem vm {w:World} {g:Nat} {a b c d e f h i j:Value} {t:TypeId} (k:w.heap[g]? = some (.cells #[a,b,c,d,e,f,h,i,j] t (0,0))):w.cell? ⟨g,0,none⟩=some a∧w.cell? ⟨g,1,none⟩=some b∧w.cell? ⟨g,2,none⟩=some c∧w.cell? ⟨g,3,none⟩=some d∧w.cell? ⟨g,4,none⟩=some e∧w.cell? ⟨g,5,none⟩=some f∧w.cell? ⟨g,6,none⟩=some h∧w.cell? ⟨g,7,none⟩=some i∧w.cell? ⟨g,8,none⟩=some j ∧ ∀ i,w.frozen? ⟨g,i,none⟩=false :=
 ⟨cell_of k 0,cell_of k 1,cell_of k 2,cell_of k 3,cell_of k 4,cell_of k 5,cell_of k 6,cell_of k 7,cell_of k 8,fun i=>aF k i⟩
theorem DU.aj {w w1 w2:World} {x:cG} {ba ra:Option Addr} {bc rc:Nat} (h:DU w w1 x ba bc ra rc) (hb:Below w1.heap.size w1 w2):DU w w2 x ba bc ra rc:=⟨gtr h.below hb,aa hb h.act,aa hb h.res⟩
def Nw (w:World) (g:Nat) (a b c d e f h i j:Value):World:=((((((((w.setCell ⟨g,0,none⟩ a).setCell ⟨g,1,none⟩ b).setCell ⟨g,2,none⟩ c).setCell ⟨g,3,none⟩ d).setCell ⟨g,4,none⟩ e).setCell ⟨g,5,none⟩ f).setCell ⟨g,6,none⟩ h).setCell ⟨g,7,none⟩ i).setCell ⟨g,8,none⟩ j
theorem Fb (w:World) (g:Nat) (a b c d e f h i j:Value):Touch (aN g) w (Nw w g a b c d e f h i j):=((((((((((Touch.refl (aN g) w).set g 0 a rfl).set g 1 b rfl).set g 2 c rfl).set g 3 d rfl).set g 4 e rfl).set g 5 f rfl).set g 6 h rfl).set g 7 i rfl).set g 8 j rfl)
theorem L1 {w:World} {g:Nat} {a0 b0 c0 d0 e0 f0 h0 i0 j0:Value} {t:TypeId} (k:w.heap[g]? = some (.cells #[a0,b0,c0,d0,e0,f0,h0,i0,j0] t (0,0))) (a b c d e f h i j:Value):(Nw w g a b c d e f h i j).heap[g]? = some (.cells #[a,b,c,d,e,f,h,i,j] t (0,0)):=by
 have k0:(w.setCell ⟨g,0,none⟩ a).heap[g]? = some (.cells #[a,b0,c0,d0,e0,f0,h0,i0,j0] t (0,0)):=az (i:=0) (v:=a) k
 have k1:((w.setCell ⟨g,0,none⟩ a).setCell ⟨g,1,none⟩ b).heap[g]? = some (.cells #[a,b,c0,d0,e0,f0,h0,i0,j0] t (0,0)):=az (i:=1) (v:=b) k0
 have k2:(((w.setCell ⟨g,0,none⟩ a).setCell ⟨g,1,none⟩ b).setCell ⟨g,2,none⟩ c).heap[g]? = some (.cells #[a,b,c,d0,e0,f0,h0,i0,j0] t (0,0)):=az (i:=2) (v:=c) k1
 have k3:((((w.setCell ⟨g,0,none⟩ a).setCell ⟨g,1,none⟩ b).setCell ⟨g,2,none⟩ c).setCell ⟨g,3,none⟩ d).heap[g]? = some (.cells #[a,b,c,d,e0,f0,h0,i0,j0] t (0,0)):=az (i:=3) (v:=d) k2
 have k4:(((((w.setCell ⟨g,0,none⟩ a).setCell ⟨g,1,none⟩ b).setCell ⟨g,2,none⟩ c).setCell ⟨g,3,none⟩ d).setCell ⟨g,4,none⟩ e).heap[g]? = some (.cells #[a,b,c,d,e,f0,h0,i0,j0] t (0,0)):=az (i:=4) (v:=e) k3
 have k5:((((((w.setCell ⟨g,0,none⟩ a).setCell ⟨g,1,none⟩ b).setCell ⟨g,2,none⟩ c).setCell ⟨g,3,none⟩ d).setCell ⟨g,4,none⟩ e).setCell ⟨g,5,none⟩ f).heap[g]? = some (.cells #[a,b,c,d,e,f,h0,i0,j0] t (0,0)):=az (i:=5) (v:=f) k4
 have k6:(((((((w.setCell ⟨g,0,none⟩ a).setCell ⟨g,1,none⟩ b).setCell ⟨g,2,none⟩ c).setCell ⟨g,3,none⟩ d).setCell ⟨g,4,none⟩ e).setCell ⟨g,5,none⟩ f).setCell ⟨g,6,none⟩ h).heap[g]? = some (.cells #[a,b,c,d,e,f,h,i0,j0] t (0,0)):=az (i:=6) (v:=h) k5
 have k7:((((((((w.setCell ⟨g,0,none⟩ a).setCell ⟨g,1,none⟩ b).setCell ⟨g,2,none⟩ c).setCell ⟨g,3,none⟩ d).setCell ⟨g,4,none⟩ e).setCell ⟨g,5,none⟩ f).setCell ⟨g,6,none⟩ h).setCell ⟨g,7,none⟩ i).heap[g]? = some (.cells #[a,b,c,d,e,f,h,i,j0] t (0,0)):=az (i:=7) (v:=i) k6
 have k8:(((((((((w.setCell ⟨g,0,none⟩ a).setCell ⟨g,1,none⟩ b).setCell ⟨g,2,none⟩ c).setCell ⟨g,3,none⟩ d).setCell ⟨g,4,none⟩ e).setCell ⟨g,5,none⟩ f).setCell ⟨g,6,none⟩ h).setCell ⟨g,7,none⟩ i).setCell ⟨g,8,none⟩ j).heap[g]? = some (.cells #[a,b,c,d,e,f,h,i,j] t (0,0)):=az (i:=8) (v:=j) k7
 exact k8
def cV (w:World) (g:Nat) (G:Nat→Prop) (ps:List aJ):Prop := ¬ G g ∧ ∃ a c q a3 n3 c3,w.heap[g]? = some (.cells #[.bool false,.slice a ps.length c,.bool q,.slice a3 n3 c3,.bool true] 63 (0,0))∧aU w (.slice a ps.length c) ps.length 2 (aE ps) ∧ ∀ b o,a=some ⟨b,o,none⟩→0<ps.length → ¬ G b
theorem Aa {w:World} {B n n' sz:Nat} {t:TypeId} {a:Option Addr} {c:Nat} {cs:List Value} {G:Nat→Prop} (h:w.ownsRow B t sz (.slice a n c) n' cs) (hG : ∀ i,G i→i<B) {P:Prop} : ∀ b o,a=some ⟨b,o,none⟩→P → ¬ G b:=by
 intro b o e _ hg
 have:=bZ h b (by rw [e];rcases h.2 with ⟨e2,_⟩ | ⟨k,cap,cur,e2,_⟩ <;> simp_all [Value.ownBlock])
 have:=hG b hg
 omega
def fD (ps:List aJ) (x:cG):Int×List aJ :=
 if x.kind=2 then if 7<(eB x.key x.value ps).length then (2304,ps) else (0,eB x.key x.value ps) else if (iI ps x.key).isSome=false then (2303,ps) else (0,fi x.key ps)
def yT (q:Int×List aJ) (G:Nat→Prop) (w:World) (e:Ending) (w':World):Prop := ∃ a c,e=.returned (.tuple #[.int .i64 q.1,.agg #[.bool false,.slice a q.2.length c]])∧aU w' (.slice a q.2.length c) q.2.length 2 (aE q.2)∧Below w.heap.size w w' ∧ ∀ b o,a=some ⟨b,o,none⟩→0<q.2.length → ¬ G b
theorem DJ (g:Nat) (G:Nat→Prop) (ps:List aJ) (x:cG) (ba:Option Addr) (bc:Nat) (ra:Option Addr) (rc:Nat) (w:World) (hm:cV w g G ps) (hG : ∀ i,G i→i<w.heap.size) (hk:x.kind=2∨x.kind=4) (s1:1≤x.key.size) (s2:x.key.size≤6) (s3:x.value.size≤20) (hr:aP w ra x.reads) (hr2 : ∀ i (h:i<x.reads.length),x.reads[i]<2048) (hso:fo ps) (hl:ps.length≤7) (hrl:x.reads.length≤1000000):Calls prog 36 #[.pointer (some ⟨g,0,none⟩),.agg (x.row ba bc ra rc)] w (yT (fD ps x) G w):=by
 have e0:(x.kind == 0)=false:=zQ (by omega)
 have e1:(x.kind == 1)=false:=zQ (by omega)
 have e3:(x.kind == 3)=false:=zQ (by omega)
 have e5:(x.kind == 5)=false:=zQ (by omega)
 have l1 : ¬ (x.key.size:Int)<1:=by omega
 have l2 : ¬ (6:Int)<(x.key.size:Int):=by omega
 have l3 : ¬ (20:Int)<(x.value.size:Int):=by omega
 obtain ⟨hgG,a,c,q,a3,n3,c3,hg,hsl,hsf⟩:=hm
 generalize Value.bool q=m2 at hg
 generalize Value.slice a3 n3 c3=m3 at hg
 have HSF:=zH (zA hsf hG)
 clear hsf hG hgG
 unfold cG.row
 have hgl:g<w.heap.size:=aO hg
 have hb1:=ae (Below.refl w.heap.size w) (.cells #[.int .i64 x.kind,.string x.key,.string x.value,.int .i64 x.at_,.int .i64 x.width,.int .i64 x.cj,.string x.mask,.slice ba x.busy.length bc,.slice ra x.reads.length rc] 31)
 have hb2:=ae hb1 (.cells #[.bool false,.slice none 0 0] 61)
 have n0:=aa (ae zR (.cells #[.bool false,.slice none 0 0] 61)) (af w (.cells #[.int .i64 x.kind,.string x.key,.string x.value,.int .i64 x.at_,.int .i64 x.width,.int .i64 x.cj,.string x.mask,.slice ba x.busy.length bc,.slice ra x.reads.length rc] 31))
 have n1:((w.alloc (.cells #[.int .i64 x.kind,.string x.key,.string x.value,.int .i64 x.at_,.int .i64 x.width,.int .i64 x.cj,.string x.mask,.slice ba x.busy.length bc,.slice ra x.reads.length rc] 31)).alloc (.cells #[.bool false,.slice none 0 0] 61)).heap[w.heap.size+1]? = some (.cells #[.bool false,.slice none 0 0] 61 (0,0)):=by simpa using af (w.alloc (.cells #[.int .i64 x.kind,.string x.key,.string x.value,.int .i64 x.at_,.int .i64 x.width,.int .i64 x.cj,.string x.mask,.slice ba x.busy.length bc,.slice ra x.reads.length rc] 31)) (.cells #[.bool false,.slice none 0 0] 61)
 have HB:=zH (zA hb2 (zA n0 (zA n1 (aa hb2 hg))))
 have HSL:=zH (zA hsl (zA hr (zA hr2 (zA hso hl))))
 have HK:=zH hk
 have HD:=zH (zA (Nat.le_trans (AT x.key ps) hl) (show ((w.alloc (.cells #[.int .i64 x.kind,.string x.key,.string x.value,.int .i64 x.at_,.int .i64 x.width,.int .i64 x.cj,.string x.mask,.slice ba x.busy.length bc,.slice ra x.reads.length rc] 31)).alloc (.cells #[.bool false,.slice none 0 0] 61)).heap.size=w.heap.size+2 by simp))
 clear hb1 hb2 n0 n1 hg hsl hr hr2 hso hl hk
 obtain ⟨y0,y1,y2,y3,y4,y5,y6,y7,y8,yf⟩:=vm HB.out.2.1
 obtain ⟨g0,g1,g2,g3,g4,gf⟩:=mq HB.out.2.2.2
 go_enter func36,ntmps36
 go_upto_region 19 with fail
 clear y0 y1 y2 y3 y4 y5 y6 y7 y8 yf g0 g1 g2 g3 g4 gf
 have hlt0:w.heap.size<w.heap.size+1:=by omega
 have hlt2:g<w.heap.size+1:=by omega
 generalize (w.alloc (.cells #[.int .i64 x.kind,.string x.key,.string x.value,.int .i64 x.at_,.int .i64 x.width,.int .i64 x.cj,.string x.mask,.slice ba x.busy.length bc,.slice ra x.reads.length rc] 31)).alloc (.cells #[.bool false,.slice none 0 0] 61)=w1 at *
 have HLT:=zH (zA (show w.heap.size≤w.heap.size from Nat.le_refl _) (zA (show w.heap.size≤w.heap.size+1 by omega) (zA (show g≠w.heap.size+1 by omega) (zA (show w.heap.size≠w.heap.size+1 by omega) (show w1.heap.size=w.heap.size+2 from HD.out.2)))))
 have HS:=zH (fun (w':World) (h1:w'.heap[g]? = some (.cells #[.bool false,.slice a ps.length c,m2,m3,.bool true] 63 (0,0))) (h2:w'.heap[w.heap.size]? = some (.cells #[.int .i64 x.kind,.string x.key,.string x.value,.int .i64 x.at_,.int .i64 x.width,.int .i64 x.cj,.string x.mask,.slice ba x.busy.length bc,.slice ra x.reads.length rc] 31 (0,0)))=>(show w'.cell? ⟨g,0,none⟩=some (.bool false)∧w'.cell? ⟨g,1,none⟩=some (.slice a ps.length c)∧w'.cell? ⟨w.heap.size,1,none⟩=some (.string x.key)∧w'.cell? ⟨w.heap.size,2,none⟩=some (.string x.value) from ⟨cell_of h1 0,cell_of h1 1,cell_of h2 1,cell_of h2 2⟩))
 have HF1:=zH (fun (w':World) (hb:Below w1.heap.size w1 w')=>zA (aa hb HB.out.2.2.2) (aa hb HB.out.2.1))
 have HHAS:=zH (fun (w':World) (hb:Below w1.heap.size w1 w')=>xq false (.slice a ps.length c) ps x.key w' (HSL.out.1.aj (HB.out.1.trans (hb.mono HB.out.1.size))) (by have:=HSL.out.2.2.2.2;omega))
 refine wp_region_noPanic ?_
 refine wp_region_held_drew (S:=(fun w':World=>w'.cell? ⟨g,0,none⟩=some (.bool false)∧w'.cell? ⟨g,1,none⟩=some (.slice a ps.length c)∧w'.cell? ⟨w.heap.size,1,none⟩=some (.string x.key)∧w'.cell? ⟨w.heap.size,2,none⟩=some (.string x.value))) (by kernel_rfl) (by (try dsimp only);exact HS.out _ (HF1.out _ (au zR)).1 (HF1.out _ (au zR)).2) fun hHeld => ?_
 refine tk 0 ?_
 refine tk 1 ?_
 refine tk 2 ?_
 refine tk 3 ?_
 refine tk 4 ?_
 refine tk 5 ?_
 refine tr 6 fun K hK => ?_
 go_simp
 go_at_call 38
 refine (HHAS.out _ (au zR)).mono ?_
 rintro e wx ⟨rfl,hbx⟩
 have hbh:=gtr (au (Below.refl w1.heap.size w1)) hbx
 go_wp2_with fail
 refine hK.out _ _ (by (try dsimp only);exact HS.out _ (HF1.out _ hbh).1 (HF1.out _ hbh).2) fun hHeld => ?_
 clear hK K
 try simp only [Act.put,zS,zT,zU]
 refine tk 7 ?_
 refine tk 8 ?_
 refine tk 9 ?_
 refine tk 10 ?_
 refine tk 11 ?_
 refine wpAnyH_done (by kernel_rfl) ?_ _
 refine NoPanic.normal ?_
 go_upto_region 20 with fail
 obtain ⟨w2,hw2⟩ : ∃ w2,w2=wx:=⟨_,rfl⟩
 subst hw2
 have HB2:=zH hbh
 have HF2:=zH (fun (w':World) (hb:Below w2.heap.size w2 w')=>HF1.out w' (hbh.trans (hb.mono hbh.size)))
 have HLESS:=zH (fun (w':World) (hb:Below w2.heap.size w2 w')=>CQ false (.slice a ps.length c) ps x.key w' (HSL.out.1.aj (HB.out.1.trans ((hbh.trans (hb.mono hbh.size)).mono HB.out.1.size))) (by have:=HSL.out.2.2.2.2;omega))
 clear hbx hbh HHAS
 go_cut [9] from 11 (fun x9 wx => ∃ b2 v,x9=.pointer (some ⟨b2,0,none⟩)∧Below w2.heap.size w2 wx∧wx.heap[b2]? = some (.cells #[.bool false,v] 61 (0,0))∧w2.heap.size≤b2∧wx.ownsRow w2.heap.size 83 2 v (fi x.key ps).length (aE (fi x.key ps)))
 case first =>
  refine wp_region_noPanic ?_
  refine wp_region_held_drew (S:=(fun w':World=>w'.cell? ⟨g,0,none⟩=some (.bool false)∧w'.cell? ⟨g,1,none⟩=some (.slice a ps.length c)∧w'.cell? ⟨w.heap.size,1,none⟩=some (.string x.key)∧w'.cell? ⟨w.heap.size,2,none⟩=some (.string x.value))) (by kernel_rfl) (by (try dsimp only);exact HS.out _ (HF2.out _ (au zR)).1 (HF2.out _ (au zR)).2) fun hHeld => ?_
  refine tk 0 ?_
  refine tk 1 ?_
  refine tk 2 ?_
  refine tk 3 ?_
  refine tk 4 ?_
  refine tk 5 ?_
  refine wpAnyH_ready (rs:=[6,7]) (by kernel_rfl) (by simp) ?_
  refine (AllReadyH.cons (o:=⟨some 94,.call ⟨.value (.func 70),#[.tmp 91,.tmp 93],#[61,9]⟩,61, "law.go:125",#[⟨3,.data⟩,⟨5,.data⟩],none⟩) rfl (fun K hK => ?_) (AllReadyH.cons (o:=⟨some 9,.alloc 61,0, "law.go:125",#[],none⟩) rfl (fun K hK => ?_) AllReadyH.nil))
  ·
   skip
   go_simp
   go_at_call 70
   refine (HLESS.out _ (au (Below.refl w2.heap.size w2))).mono ?_
   rintro e wx ⟨vl,rfl,ol,hbl⟩
   obtain ⟨al,cl,rfl⟩:=bG ol
   have hbz:=gtr (au (Below.refl w2.heap.size w2)) hbl
   go_wp2_with fail
   refine hK.out _ _ (by (try dsimp only);exact HS.out _ (HF2.out _ hbz).1 (HF2.out _ hbz).2) fun hHeld => ?_
   clear hK K
   try simp only [Act.put,zS,zT,zU]
   refine tr 7 fun K hK => ?_
   go_simp
   have hba:=ae hbz (.cells #[.bool false,.slice none 0 0] 61)
   refine hK.out _ _ (by (try dsimp only);exact HS.out _ (HF2.out _ hba).1 (HF2.out _ hba).2) fun hHeld => ?_
   clear hK K
   try simp only [Act.put,zS,zT,zU]
   refine tr 8 fun K hK => ?_
   have HN:=zH (zA hba (zA (af wx (.cells #[.bool false,.slice none 0 0] 61)) (zA (eV (ol.alloc (.cells #[.bool false,.slice none 0 0] 61)) (show w2.heap.size≤w2.drew.heap.size from Nat.le_refl _)) (show w2.heap.size≤wx.heap.size from hbz.size))))
   obtain ⟨z0,z1,zf⟩:=jM HN.out.2.1
   clear ol hbl
   generalize wx.alloc (.cells #[.bool false,.slice none 0 0] 61)=w3 at *
   generalize wx.heap.size=b2 at *
   go_simp
   refine hK.out _ _ (by (try dsimp only);have hbs:=dC HN.out.1 HN.out.2.2.2 (.bool false) (.slice al (fi x.key ps).length cl);exact HS.out _ (HF2.out _ hbs).1 (HF2.out _ hbs).2) fun hHeld => ?_
   clear hK K
   try simp only [Act.put,zS,zT,zU]
   refine wpAnyH_done (by kernel_rfl) ?_ _
   refine NoPanic.normal ?_
   go_wp2
   go_meet
   exact ⟨_,.slice al (fi x.key ps).length cl,rfl,dC HN.out.1 HN.out.2.2.2 (.bool false) (.slice al (fi x.key ps).length cl),jU HN.out.2.1 _ _,HN.out.2.2.2,kc HN.out.2.2.1 (cN HN.out.2.2.1 HN.out.2.1 (by decide)) _ _⟩
  ·
   skip
   go_simp
   have hba:=ae (au (Below.refl w2.heap.size w2)) (.cells #[.bool false,.slice none 0 0] 61)
   refine hK.out _ _ (by (try dsimp only);exact HS.out _ (HF2.out _ hba).1 (HF2.out _ hba).2) fun hHeld => ?_
   clear hK K
   try simp only [Act.put,zS,zT,zU]
   refine tr 6 fun K hK => ?_
   go_simp
   go_at_call 70
   refine (HLESS.out _ hba).mono ?_
   rintro e wx ⟨vl,rfl,ol,hbl⟩
   obtain ⟨al,cl,rfl⟩:=bG ol
   have hbz:=gtr hba hbl
   go_wp2_with fail
   refine hK.out _ _ (by (try dsimp only);exact HS.out _ (HF2.out _ hbz).1 (HF2.out _ hbz).2) fun hHeld => ?_
   clear hK K
   try simp only [Act.put,zS,zT,zU]
   refine tr 8 fun K hK => ?_
   have HN:=zH (zA hbz (zA (aa hbl (af w2.drew (.cells #[.bool false,.slice none 0 0] 61))) (zA (eV ol (show w2.heap.size≤(w2.drew.alloc (.cells #[.bool false,.slice none 0 0] 61)).heap.size from hba.size)) (show w2.heap.size≤w2.heap.size from Nat.le_refl _))))
   obtain ⟨z0,z1,zf⟩:=jM (show wx.heap[w2.heap.size]? = _ from HN.out.2.1)
   clear ol hbl
   go_simp
   refine hK.out _ _ (by (try dsimp only);have hbs:=dC HN.out.1 HN.out.2.2.2 (.bool false) (.slice al (fi x.key ps).length cl);exact HS.out _ (HF2.out _ hbs).1 (HF2.out _ hbs).2) fun hHeld => ?_
   clear hK K
   try simp only [Act.put,zS,zT,zU]
   refine wpAnyH_done (by kernel_rfl) ?_ _
   refine NoPanic.normal ?_
   go_wp2
   go_meet
   exact ⟨_,.slice al (fi x.key ps).length cl,rfl,dC HN.out.1 HN.out.2.2.2 (.bool false) (.slice al (fi x.key ps).length cl),jU HN.out.2.1 _ _,HN.out.2.2.2,kc HN.out.2.2.1 (cN HN.out.2.2.1 HN.out.2.1 (by decide)) _ _⟩
 case rest =>
  obtain ⟨b2,v9,rfl,hb,hz,hge,ho⟩:=hcut
  obtain ⟨w4,hw4⟩ : ∃ w4,w4=wc:=⟨_,rfl⟩
  subst hw4
  obtain ⟨a9,c9,rfl⟩:=bG ho
  have hb14:Below w1.heap.size w1 w4:=HB2.out.trans (hb.mono HB2.out.size)
  have HF4:=zH (fun (w':World) (hb:Below w4.heap.size w4 w')=>HF1.out w' (hb14.trans (hb.mono hb14.size)))
  have HB4:=zH (zA hb14 (zA hz (zA (Nat.le_trans HB2.out.size hge) ho)))
  have HEB4:=zH (show Below w.heap.size w w4 from HB.out.1.trans (hb14.mono HB.out.1.size))
  have HNE:=zH (show b2≠w.heap.size+1 by have:=HB2.out.size;have:=HLT.out.2.2.2.2;omega)
  clear hb hz hge ho hb14
  obtain ⟨y0,y1,y2,y3,y4,y5,y6,y7,y8,yf⟩:=vm (HF4.out _ zR).2
  rcases HK.out with k2' | k4'
  ·
   have e2:(x.kind == 2)=true:=by rw [k2'];rfl
   have en2:(x.kind != 2)=false:=by rw [k2'];rfl
   have HWX:=zH (show fD ps x=if 7<(eB x.key x.value ps).length then (2304,ps) else (0,eB x.key x.value ps) from if_pos k2')
   have HWITH:=zH (fun (w':World) (hb:Below w4.heap.size w4 w')=>CU false (.slice a ps.length c) ps x.key x.value w' (HSL.out.1.aj (HEB4.out.trans (hb.mono HEB4.out.size))) (by have:=HSL.out.2.2.2.2;omega))
   rw [Gs x.key x.value ps HSL.out.2.2.2.1] at HWITH
   clear k2'
   go_upto_region 28 with fail
   clear y0 y1 y2 y3 y4 y5 y6 y7 y8 yf
   refine wp_region_noPanic ?_
   refine wp_region_held_drew (S:=(fun w':World=>w'.cell? ⟨g,0,none⟩=some (.bool false)∧w'.cell? ⟨g,1,none⟩=some (.slice a ps.length c)∧w'.cell? ⟨w.heap.size,1,none⟩=some (.string x.key)∧w'.cell? ⟨w.heap.size,2,none⟩=some (.string x.value))) (by kernel_rfl) (by (try dsimp only);exact HS.out _ (HF4.out _ (au zR)).1 (HF4.out _ (au zR)).2) fun hHeld => ?_
   refine tk 0 ?_
   refine tk 1 ?_
   refine tk 2 ?_
   refine tk 3 ?_
   refine tk 4 ?_
   refine tk 5 ?_
   refine tk 6 ?_
   refine tk 7 ?_
   refine tr 8 fun K hK => ?_
   go_simp
   go_at_call 71
   refine (HWITH.out _ (au zR)).mono ?_
   rintro e wx ⟨vw,rfl,ow,hbw⟩
   obtain ⟨aw,cw,rfl⟩:=bG ow
   have hbz:=gtr (au (Below.refl w4.heap.size w4)) hbw
   have hz2:=aa hbz HB4.out.2.1
   obtain ⟨z0,z1,zf⟩:=jM hz2
   go_wp2_with fail
   refine hK.out _ _ (by (try dsimp only);exact HS.out _ (HF4.out _ hbz).1 (HF4.out _ hbz).2) fun hHeld => ?_
   clear hK K
   try simp only [Act.put,zS,zT,zU]
   refine tr 9 fun K hK => ?_
   go_simp
   refine hK.out _ _ (by (try dsimp only);have hbs:=dC (gtr HB4.out.1 hbz) HB4.out.2.2.1 (.bool false) (.slice aw (eB x.key x.value ps).length cw);exact HS.out _ (HF1.out _ hbs).1 (HF1.out _ hbs).2) fun hHeld => ?_
   clear hK K
   try simp only [Act.put,zS,zT,zU]
   refine wpAnyH_done (by kernel_rfl) ?_ _
   refine NoPanic.normal ?_
   have hb5:Below w1.heap.size w1 (lI wx b2 (.bool false) (.slice aw (eB x.key x.value ps).length cw)):=dC (HB4.out.1.trans (hbz.mono HB4.out.1.size)) HB4.out.2.2.1 _ _
   have HE:=zH (zA hb5 (zA (jU hz2 (.bool false) (.slice aw (eB x.key x.value ps).length cw)) (zA (eV (kc ow (cN ow hz2 (by decide)) (.bool false) (.slice aw (eB x.key x.value ps).length cw)) (show w.heap.size≤w4.drew.heap.size from HEB4.out.size)) HNE.out)))
   unfold lI at HE hb5
   clear z0 z1 zf hbz hz2 ow hbw
   generalize (wx.setCell ⟨b2,0,none⟩ (.bool false)).setCell ⟨b2,1,none⟩ (.slice aw (eB x.key x.value ps).length cw)=w5 at *
   have HF5:=zH (fun (w':World) (hb:Below w5.heap.size w5 w')=>HF1.out w' (hb5.trans (hb.mono hb5.size)))
   have HEB:=zH (show Below w.heap.size w w5 from HB.out.1.trans (hb5.mono HB.out.1.size))
   have HRI:=zH (HSL.out.2.1.aj HEB.out)
   obtain ⟨a9,ha9⟩ : ∃ q,q=aw:=⟨_,rfl⟩
   subst ha9
   obtain ⟨c9,hc9⟩ : ∃ q,q=cw:=⟨_,rfl⟩
   subst hc9
   clear hb5
   by_cases h7:7<(eB x.key x.value ps).length
   ·
    have HW:=zH (HWX.out.trans (if_pos h7))
    have h7':(7:Int)<((eB x.key x.value ps).length:Int):=by omega
    clear h7
    obtain ⟨z0,z1,zf⟩:=jM HE.out.2.1
    obtain ⟨r0,r1,rf⟩:=jM (aa HE.out.1 HB.out.2.2.1)
    go_upto_region 30 with fail
    refine wp_region_noPanic ?_
    refine wp_region_held_drew (S:=(fun w':World=>w'.cell? ⟨g,0,none⟩=some (.bool false)∧w'.cell? ⟨g,1,none⟩=some (.slice a ps.length c)∧w'.cell? ⟨w.heap.size,1,none⟩=some (.string x.key)∧w'.cell? ⟨w.heap.size,2,none⟩=some (.string x.value))) (by kernel_rfl) (by (try dsimp only);exact HS.out _ (HF5.out _ (au zR)).1 (HF5.out _ (au zR)).2) fun hHeld => ?_
    refine tk 0 ?_
    refine tk 1 ?_
    refine tk 2 ?_
    refine tk 3 ?_
    refine tk 4 ?_
    refine tr 5 fun K hK => ?_
    go_simp
    go_wp2_with fail
    refine hK.out _ _ (by (try dsimp only);exact HS.out _ (iu (w:=w5.drew) (HF5.out _ zR).1 HLT.out.2.2.1 _ _) (iu (w:=w5.drew) (HF5.out _ zR).2 HLT.out.2.2.2.1 _ _)) fun hHeld => ?_
    clear hK K
    try simp only [Act.put,zS,zT,zU]
    refine wpAnyH_done (by kernel_rfl) ?_ _
    refine NoPanic.normal ?_
    have e:=jM (jU (aa HE.out.1 HB.out.2.2.1) (.bool false) (.slice a ps.length c))
    unfold lI at e
    obtain ⟨d0,d1,df⟩:=e
    go_wp2
    refine bodyPost_ret (v:=.tuple #[.int .i64 2304,.agg #[.bool false,.slice a ps.length c]]) (by simp [results,results36,go_sem,d0,d1]) rfl ?_
    refine ⟨a,c,?_,?_,?_,by rw [HW.out];exact HSF.out.1⟩
    ·
     rw [HW.out]
    ·
     rw [HW.out];exact HSL.out.1.aj (au (dC (w:=w5) HEB.out HLT.out.2.1 _ _))
    ·
     exact au (dC (w:=w5) HEB.out HLT.out.2.1 _ _)
   ·
    have HW:=zH (HWX.out.trans (if_neg h7))
    have h7' : ¬ (7:Int)<((eB x.key x.value ps).length:Int):=by omega
    clear h7
    obtain ⟨z0,z1,zf⟩:=jM HE.out.2.1
    obtain ⟨y0,y1,y2,y3,y4,y5,y6,y7,y8,yf⟩:=vm (HF5.out _ zR).2
    obtain ⟨r0,r1,rf⟩:=jM (aa HE.out.1 HB.out.2.2.1)
    clear y1 y2 y3 y4 y5 y6 y7 yf
    go_wp2
    go_loopg [10] x.reads.length (fun n i wr => ∃ j:Nat,n=x.reads.length - j∧i=.int .i64 j∧j≤x.reads.length∧w5=wr)
    case atStart=>exact ⟨0,rfl,rfl,Nat.zero_le _,rfl⟩
    case round =>
     obtain ⟨j,hgn,rfl,hj,rfl⟩:=hrel
     have HG:=zH hgn
     clear hgn
     by_cases hlt:j<x.reads.length
     ·
      have hlt':(j:Int)<(x.reads.length:Int):=by omega
      obtain ⟨rb,ro,hra,hrc⟩:=HRI.out j hlt
      subst hra
      have hv:=HSL.out.2.2.1 j hlt
      rw [show x.reads.getD j 0=x.reads[j] from by simp [List.getD,hlt]] at hrc
      generalize x.reads[j]=rv at *
      have hrv : ¬ (2048:Int)≤rv:=by omega
      clear z0 z1 zf r0 r1 rf hv
      go_wp2
      go_roundg (x.reads.length - (j+1))
      case measure=>have:=HG.out;omega
      case rel=>exact ⟨j+1,rfl,by go_num,by omega,rfl⟩
     ·
      have hlt' : ¬ (j:Int)<(x.reads.length:Int):=by omega
      clear hlt
      go_upto_region 36 with fail
      refine wp_region_noPanic ?_
      refine wp_region_held_drew (S:=(fun w':World=>w'.cell? ⟨b2,0,none⟩=some (.bool false)∧w'.cell? ⟨b2,1,none⟩=some (.slice a9 (eB x.key x.value ps).length c9))) (by kernel_rfl) (by (try dsimp only);exact ⟨cell_of HE.out.2.1 0,cell_of HE.out.2.1 1⟩) fun hHeld => ?_
      refine tk 0 ?_
      refine tk 1 ?_
      refine tr 2 fun K hK => ?_
      go_simp
      go_wp2_with fail
      refine hK.out _ _ (by (try dsimp only);exact ⟨cell_of (iu (w:=w5.drew) HE.out.2.1 HE.out.2.2.2 _ _) 0,cell_of (iu (w:=w5.drew) HE.out.2.1 HE.out.2.2.2 _ _) 1⟩) fun hHeld => ?_
      clear hK K
      try simp only [Act.put,zS,zT,zU]
      refine wpAnyH_done (by kernel_rfl) ?_ _
      refine NoPanic.normal ?_
      have e:=jM (jU (aa HE.out.1 HB.out.2.2.1) (.bool false) (.slice a9 (eB x.key x.value ps).length c9))
      unfold lI at e
      obtain ⟨d0,d1,df⟩:=e
      go_wp2
      refine bodyPost_ret (v:=.tuple #[.int .i64 0,.agg #[.bool false,.slice a9 (eB x.key x.value ps).length c9]]) (by simp [results,results36,go_sem,d0,d1]) rfl ?_
      refine ⟨a9,c9,?_,?_,?_,Aa HE.out.2.2.1 HSF.out.2⟩
      ·
       rw [HW.out]
      ·
       rw [HW.out];exact aU.cZ (World.ownsRow.aj (kc (w:=w5) HE.out.2.2.1 (cN (w:=w5) HE.out.2.2.1 (aa HE.out.1 HB.out.2.2.1) (by decide)) _ _) (au zR))
      ·
       exact au (dC (w:=w5) HEB.out HLT.out.2.1 _ _)
  ·
   have e2:(x.kind == 2)=false:=zQ (by omega)
   have en2:(x.kind != 2)=true:=bne_iff_ne.2 (by omega)
   have HWX:=zH (show fD ps x=if (iI ps x.key).isSome=false then (2303,ps) else (0,fi x.key ps) from if_neg (by omega))
   have HE:=zH (zA HB4.out.1 (zA HB4.out.2.1 (zA (eV HB4.out.2.2.2 (HB.out.1.trans (HB2.out.mono HB.out.1.size)).size) HNE.out)))
   have HEB:=zH HEB4.out
   have HRI:=zH (HSL.out.2.1.aj HEB.out)
   have hd:=HD.out.1
   clear k4'
   cases hf:(iI ps x.key).isSome with
   | false =>
    have HW:=zH (HWX.out.trans (if_pos hf))
    obtain ⟨r0,r1,rf⟩:=jM (aa HE.out.1 HB.out.2.2.1)
    go_upto_region 24 with fail
    refine wp_region_noPanic ?_
    refine wp_region_held_drew (S:=(fun w':World=>w'.cell? ⟨g,0,none⟩=some (.bool false)∧w'.cell? ⟨g,1,none⟩=some (.slice a ps.length c)∧w'.cell? ⟨w.heap.size,1,none⟩=some (.string x.key)∧w'.cell? ⟨w.heap.size,2,none⟩=some (.string x.value))) (by kernel_rfl) (by (try dsimp only);exact HS.out _ (HF4.out _ (au zR)).1 (HF4.out _ (au zR)).2) fun hHeld => ?_
    refine tk 0 ?_
    refine tk 1 ?_
    refine tk 2 ?_
    refine tk 3 ?_
    refine tk 4 ?_
    refine tr 5 fun K hK => ?_
    go_simp
    go_wp2_with fail
    refine hK.out _ _ (by (try dsimp only);exact HS.out _ (iu (w:=w4.drew) (HF4.out _ zR).1 HLT.out.2.2.1 _ _) (iu (w:=w4.drew) (HF4.out _ zR).2 HLT.out.2.2.2.1 _ _)) fun hHeld => ?_
    clear hK K
    try simp only [Act.put,zS,zT,zU]
    refine wpAnyH_done (by kernel_rfl) ?_ _
    refine NoPanic.normal ?_
    have e:=jM (jU (aa HE.out.1 HB.out.2.2.1) (.bool false) (.slice a ps.length c))
    unfold lI at e
    obtain ⟨d0,d1,df⟩:=e
    go_wp2
    refine bodyPost_ret (v:=.tuple #[.int .i64 2303,.agg #[.bool false,.slice a ps.length c]]) (by simp [results,results36,go_sem,d0,d1]) rfl ?_
    refine ⟨a,c,?_,?_,?_,by rw [HW.out];exact HSF.out.1⟩
    ·
     rw [HW.out]
    ·
     rw [HW.out];exact HSL.out.1.aj (au (dC (w:=w4) HEB.out HLT.out.2.1 _ _))
    ·
     exact au (dC (w:=w4) HEB.out HLT.out.2.1 _ _)
   | true =>
    have HW:=zH (HWX.out.trans (if_neg (by rw [hf];decide)))
    have h7' : ¬ (7:Int)<((fi x.key ps).length:Int):=by omega
    clear y0 y1 y2 y3 y4 y5 y6 y7 y8 yf
    obtain ⟨z0,z1,zf⟩:=jM HE.out.2.1
    obtain ⟨y0,y1,y2,y3,y4,y5,y6,y7,y8,yf⟩:=vm (HF4.out _ zR).2
    obtain ⟨r0,r1,rf⟩:=jM (aa HE.out.1 HB.out.2.2.1)
    clear y1 y2 y3 y4 y5 y6 y7 yf
    go_wp2
    go_loopg [10] x.reads.length (fun n i wr => ∃ j:Nat,n=x.reads.length - j∧i=.int .i64 j∧j≤x.reads.length∧w4=wr)
    case atStart=>exact ⟨0,rfl,rfl,Nat.zero_le _,rfl⟩
    case round =>
     obtain ⟨j,hgn,rfl,hj,rfl⟩:=hrel
     have HG:=zH hgn
     clear hgn
     by_cases hlt:j<x.reads.length
     ·
      have hlt':(j:Int)<(x.reads.length:Int):=by omega
      obtain ⟨rb,ro,hra,hrc⟩:=HRI.out j hlt
      subst hra
      have hv:=HSL.out.2.2.1 j hlt
      rw [show x.reads.getD j 0=x.reads[j] from by simp [List.getD,hlt]] at hrc
      generalize x.reads[j]=rv at *
      have hrv : ¬ (2048:Int)≤rv:=by omega
      clear z0 z1 zf r0 r1 rf hv
      go_wp2
      go_roundg (x.reads.length - (j+1))
      case measure=>have:=HG.out;omega
      case rel=>exact ⟨j+1,rfl,by go_num,by omega,rfl⟩
     ·
      have hlt' : ¬ (j:Int)<(x.reads.length:Int):=by omega
      clear hlt
      go_upto_region 36 with fail
      refine wp_region_noPanic ?_
      refine wp_region_held_drew (S:=(fun w':World=>w'.cell? ⟨b2,0,none⟩=some (.bool false)∧w'.cell? ⟨b2,1,none⟩=some (.slice a9 (fi x.key ps).length c9))) (by kernel_rfl) (by (try dsimp only);exact ⟨cell_of HE.out.2.1 0,cell_of HE.out.2.1 1⟩) fun hHeld => ?_
      refine tk 0 ?_
      refine tk 1 ?_
      refine tr 2 fun K hK => ?_
      go_simp
      go_wp2_with fail
      refine hK.out _ _ (by (try dsimp only);exact ⟨cell_of (iu (w:=w4.drew) HE.out.2.1 HE.out.2.2.2 _ _) 0,cell_of (iu (w:=w4.drew) HE.out.2.1 HE.out.2.2.2 _ _) 1⟩) fun hHeld => ?_
      clear hK K
      try simp only [Act.put,zS,zT,zU]
      refine wpAnyH_done (by kernel_rfl) ?_ _
      refine NoPanic.normal ?_
      have e:=jM (jU (aa HE.out.1 HB.out.2.2.1) (.bool false) (.slice a9 (fi x.key ps).length c9))
      unfold lI at e
      obtain ⟨d0,d1,df⟩:=e
      go_wp2
      refine bodyPost_ret (v:=.tuple #[.int .i64 0,.agg #[.bool false,.slice a9 (fi x.key ps).length c9]]) (by simp [results,results36,go_sem,d0,d1]) rfl ?_
      refine ⟨a9,c9,?_,?_,?_,Aa HE.out.2.2.1 HSF.out.2⟩
      ·
       rw [HW.out]
      ·
       rw [HW.out];exact aU.cZ (World.ownsRow.aj (kc (w:=w4) HE.out.2.2.1 (cN (w:=w4) HE.out.2.2.1 (aa HE.out.1 HB.out.2.2.1) (by decide)) _ _) (au zR))
      ·
       exact au (dC (w:=w4) HEB.out HLT.out.2.1 _ _)
end Go.Proofs.YtcfdenckiigdaaaGreat

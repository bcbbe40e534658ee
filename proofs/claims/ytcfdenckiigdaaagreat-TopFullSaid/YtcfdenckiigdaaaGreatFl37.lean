/- Part 37 of the contracts. -/
import Derived.Test.YtcfdenckiigdaaaGreatFl36
set_option linter.unusedVariables false
set_option maxRecDepth 100000
set_option maxHeartbeats 4000000
namespace Go.Proofs.YtcfdenckiigdaaaGreat
open Tryz
section
structure Lay (x:ByteArray) (sec:Nat) (V:bB):Prop where
 size:x.size=4096
 s0:4≤sec
 s1:sec<8
 view:dt x sec=V
 cn:V.cn=true
 dead : ∀ j,4≤j→j<8→j≠sec→sP (dq x j 0) V.an
structure Iy (x:ByteArray):Prop where
 size:x.size=4096
 dead : ∀ j,4≤j→j<8→sP (dq x j 0) 1
theorem pV (x:ByteArray) (j:Nat):(dt x j).cn=(cG (iT x j)).1:=by simp only [dt,iM]
theorem nV (x:ByteArray) (j:Nat):(dt x j).an=(cG (iT x j)).2:=by simp only [dt,iM]
theorem tK (x:ByteArray) (j:Nat):(dt x j).aB=bw (iT x j) 7:=by simp only [dt,iM]
theorem tJ (x:ByteArray) (j:Nat):(dt x j).free=bT (iT x j) 7:=by simp only [dt,iM]
theorem FG {x:ByteArray} {j:Nat} (h:(dt x j).cn=true) : ∃ r,dJ (dq x j 0)=some r∧r.kind=0∧(dt x j).an=r.an:=by
 rw [pV] at h
 rw [nV]
 unfold cG at h ⊢
 rw [je _ _ _ (by omega)] at h ⊢
 cases hr:dJ (dq x j 0) with
 | none=>rw [hr] at h;cases h
 | some r =>
  rw [hr] at h
  by_cases hk:r.kind=0
  ·
   refine ⟨r,rfl,hk,?_⟩
   simp [hk]
  ·
   simp [hk] at h
theorem GH {x:ByteArray} {j:Nat} {E:Int} (h:sP (dq x j 0) E) (hg:(dt x j).cn=true):(dt x j).an<E:=by
 obtain ⟨r,h1,h2,h3⟩:=FG hg
 rw [h3]
 exact h _ r (IL.refl _) h1 h2
theorem Ju {r:aX} (h:bC r=true) (hk:r.kind=0):1≤r.an∧r.an≤1048576∧r=cR r.an:=by
 obtain ⟨k,e,key,value⟩:=r
 subst hk
 unfold bC at h
 simp only [if_true,Bool.and_eq_true,oM,decide_eq_true_eq] at h
 refine ⟨h.1.1.1,h.1.1.2,?_⟩
 rw [mI h.1.2,mI h.2]
 rfl
theorem zi {x:ByteArray} {j:Nat} (hg:(dt x j).cn=true):1≤(dt x j).an∧(dt x j).an≤1048576∧dq x j 0=aL (cR (dt x j).an):=by
 obtain ⟨r,h1,h2,h3⟩:=FG hg
 obtain ⟨h4,h5⟩:=tG h1
 obtain ⟨h6,h7,h8⟩:=Ju h4 h2
 rw [h3]
 exact ⟨h6,h7,by rw [h5];exact congrArg aL h8⟩
theorem Lay.an {x:ByteArray} {sec:Nat} {V:bB} (h:Lay x sec V):1≤V.an∧V.an≤1048576∧dq x sec 0=aL (cR V.an):=by
 have:=zi (x:=x) (j:=sec) (by rw [h.view];exact h.cn)
 rw [h.view] at this
 exact this
theorem Lay.old {x:ByteArray} {sec:Nat} {V:bB} (h:Lay x sec V) : ∀ j,4≤j→j<8→sP (dq x j 0) (V.an+1):=fun j h4 h8=>by
 by_cases e:j=sec
 ·
  obtain ⟨h1,h2,h3⟩:=h.an
  rw [e,h3]
  exact GI (il h1 h2) (by show V.an<V.an+1;omega)
 ·
  exact (h.dead j h4 h8 e).mono (by omega)
theorem IX {vs:List bB} (h : ∀ (j:Nat) (U:bB),vs[j]? = some U→U.cn=false) (n:Nat):jY vs n=none:=by
 cases hb:jY vs n with
 | none=>rfl
 | some k =>
  obtain ⟨_,U,h2,h3⟩:=nh vs n k hb
  rw [h k U h2] at h3
  cases h3
def views (x:ByteArray):List bB:=[dt x 4,dt x 5,dt x 6,dt x 7]
def ot (x:ByteArray):Option (Int×bB):=(jY (views x) 4).map fun (k:Nat)=>(4+(k:Int),(views x).getD k cH)
theorem Dz (x:ByteArray) (k:Nat):(views x)[k]? = if k<4 then some (dt x (4+k)) else none:=by
 match k with
 | 0=>rfl
 | 1=>rfl
 | 2=>rfl
 | 3=>rfl
 | k+4=>rw [if_neg (by omega)];rfl
theorem yK {x:ByteArray} (h:Iy x):ot x=none:=by
 unfold ot
 rw [IX fun j U hj => ?_]
 ·
  rfl
 ·
  rw [Dz] at hj
  split at hj
  ·
   rename_i hl
   obtain rfl:dt x (4+j)=U:=by simpa using hj
   cases hg:(dt x (4+j)).cn with
   | false=>rfl
   | true =>
    have:=GH (h.dead (4+j) (by omega) (by omega)) hg
    have:=(zi hg).1
    omega
  ·
   cases hj
theorem qJ {x y:ByteArray} {sec f:Nat} (h1:1≤f) (hf:f<8) (hv:(dt x sec).free=(f:Int)) (hs:gm x y (sec * 512+f * 64) 64):dq x sec f=sL 64∧(dt y sec).cn=(dt x sec).cn∧(dt y sec).an=(dt x sec).an∧(dt y sec).aB=(dt x sec).aB++eA (iT y sec) f∧(dt y sec).free=if dq y sec f=sL 64 then (f:Int) else ((f+1:Nat):Int):=by
 have hsz : ∀ z,(iT z sec).size=512:=fun z=>eJ _ _
 have hv':bT (iT x sec) 7=(f:Int):=by rw [← tJ];exact hv
 have hb : ∀ i,f≤i→i≤7→dR (iT x sec) i=sL 64:=fun i h2 h3=>wU (hsz x) 7 zY i (by omega) h3 (by omega)
 have hsame : ∀ i,i<8→i≠f→dR (iT y sec) i=dR (iT x sec) i:=fun i hi hne=>by
  rw [je _ _ _ hi,je _ _ _ hi]
  exact hs.slot hf hi (by omega)
 have hfy:dR (iT y sec) f=dq y sec f:=je _ _ _ hf
 have hhead:cG (iT y sec)=cG (iT x sec):=xH (hsame 0 (by omega) (by omega))
 obtain ⟨g,rfl⟩ : ∃ g,f=g+1:=⟨f - 1,by omega⟩
 refine ⟨by rw [← je _ _ _ hf];exact hb _ zY (by omega),by rw [pV,pV,hhead],by rw [nV,nV,hhead],?_,?_⟩
 ·
  rw [tK,tK,jx (a:=g+1) 7 (by omega) fun i h2 h3=>by rw [hsame i (by omega) (by omega)];exact hb i (by omega) h3,jx (a:=g) 7 (by omega) fun i h2 h3=>hb i (by omega) h3]
  show bw (iT y sec) g++_=_
  rw [pq g fun i h2 h3=>hsame i (by omega) (by omega)]
 ·
  rw [tJ,jw (a:=g+1) 7 (by omega) fun i h2 h3=>by rw [hsame i (by omega) (by omega)];exact hb i (by omega) h3]
  show (if jG (dR (iT y sec) (g+1))=true then bT (iT y sec) g else _)=_
  rw [pn g fun i h2 h3=>hsame i (by omega) (by omega),hfy]
  have e:=jw (s:=iT x sec) (a:=g) 7 (by omega) fun i h2 h3=>hb i (by omega) h3
  rw [hv'] at e
  by_cases hbl:dq y sec (g+1)=sL 64
  ·
   rw [if_pos ((mC (gN _ _ _)).2 hbl),if_pos hbl,e]
  ·
   rw [if_neg (fun k=>hbl ((mC (gN _ _ _)).1 k)),if_neg hbl]
theorem Dy {V U:bB} (h1:V.cn=U.cn) (h2:V.an=U.an) (h3:V.aB=U.aB) (h4:V.free=U.free):V=U:=by
 obtain ⟨a,b,c,d⟩:=V
 obtain ⟨a',b',c',d'⟩:=U
 simp only at h1 h2 h3 h4
 subst h1 h2 h3 h4
 rfl
theorem Jt {x:ByteArray} {j:Nat} {E:Int} (hx:x.size=4096) (h4:4≤j) (h8:j<8) (e0:1≤E) (e1:E≤1048576) (hs:dq x j 0=aL (cR E)) (hd : ∀ i,4≤i→i<8→i≠j→sP (dq x i 0) E):Lay x j (dt x j)∧(dt x j).an=E∧(dt x j).cn=true:=by
 have hh:cG (iT x j)=(true,E):=by
  unfold cG
  rw [je _ _ _ (by omega),hs,jL (il e0 e1)]
  rfl
 have hg:(dt x j).cn=true:=by rw [pV,hh]
 have he:(dt x j).an=E:=by rw [nV,hh]
 exact ⟨⟨hx,h4,h8,rfl,hg,fun i a b c=>by rw [he];exact hd i a b c⟩,he,hg⟩
def yr:Nat→List aX→List (Int×aX)
 | _,[]=>[]
 | k,r::l=>((k:Int),r)::yr (k+1) l
def gU (sec:Int):List (Int×aX)→ByteArray→ByteArray
 | [],x=>x
 | a::l,x=>gU sec l (jq x (bZ sec a.1) (aL a.2))
theorem vZ (sec:Int) : ∀ (l l':List (Int×aX)) (x:ByteArray),gU sec (l++l') x=gU sec l' (gU sec l x)
 | [],_,_=>rfl
 | a::l,l',x=>vZ sec l l' _
theorem yR {sec:Nat} (h8:sec<8) : ∀ (rs:List aX) (k:Nat) (x:ByteArray),1≤k→x.size=4096→k+rs.length≤8→(∀ r ∈ rs,bC r=true)→(∀ i,k≤i→i<8→dq x sec i=sL 64)→gm x (gU sec (yr k rs) x) (sec * 512) 512∧(∀ i (hi:i<rs.length),dq (gU sec (yr k rs) x) sec (k+i)=aL rs[i])∧(∀ i,i<8→(i<k∨k+rs.length≤i)→dq (gU sec (yr k rs) x) sec i=dq x sec i)
 | [],k,x,_,_,_,_,_=>⟨gm.refl _ _ _,fun i hi=>absurd hi (by simp),fun _ _ _=>rfl⟩
 | r::rs,k,x,hk,hx,hl,hr,hb=>by
  simp only [List.length_cons] at hl
  have hs:=kX x sec k (aL r)
  have hrm:=hr r (by simp)
  have hslot:=nk hx h8 (by omega:k<8) (fP r hrm) (hb k zY (by omega))
  obtain ⟨i1,i2,i3⟩:=yR h8 rs (k+1) (jq x (bZ sec k) (aL r)) (by omega) (by rw [hs.1,hx]) (by omega) (fun q hq=>hr q (by simp [hq])) (fun i h1 h2=>by rw [hs.slot (by omega) h2 (by omega)];exact hb i (by omega) h2)
  have hs':gm x (jq x (bZ sec k) (aL r)) (sec * 512) 512:=hs.mono (by omega) (by omega)
  refine ⟨hs'.trans i1,fun i hi => ?_,fun i h1 h2 => ?_⟩
  ·
   match i,hi with
   | 0,_=>rw [Nat.add_zero];exact (i3 k (by omega) (.inl (by omega))).trans hslot
   | i+1,hi =>
    have:=i2 i (by simpa using hi)
    rw [show k+(i+1)=k+1+i by omega]
    exact this
  ·
   simp only [List.length_cons] at h2
   exact (i3 i h1 (by omega)).trans (hs.slot (by omega) h1 (by omega))
theorem J1 {s:ByteArray} {rs:List aX} (hl:rs.length≤7) (hm : ∀ r ∈ rs,bC r=true∧r.kind≠0) (h1 : ∀ i (hi:i<rs.length),dR s (1+i)=aL rs[i]) (h2 : ∀ i,rs.length<i→i<8→dR s i=sL 64):bw s 7=rs∧bT s 7=((rs.length+1:Nat):Int):=by
 have key : ∀ k,k≤rs.length→bw s k=rs.take k∧bT s k=((k+1:Nat):Int):=fun k=>by
  induction k with
  | zero=>intro _;exact ⟨rfl,rfl⟩
  | succ k ih =>
   intro hk
   obtain ⟨i1,i2⟩:=ih (by omega)
   have hs:=h1 k (by omega)
   rw [Nat.add_comm] at hs
   have hr:=hm _ (List.getElem_mem (show k<rs.length by omega))
   constructor
   ·
    show bw s k++eA s (k+1)=_
    unfold eA
    rw [i1,hs,jL hr.1]
    simp only [hr.2,if_false]
    rw [List.take_add_one,List.getElem?_eq_getElem (by omega)]
    rfl
   ·
    show (if jG (dR s (k+1))=true then bT s k else _)=_
    have hne : ¬ jG (dR s (k+1))=true:=fun hb=>by
     rw [hs] at hb
     exact pC hr.1 ((mC (fP _ hr.1)).1 hb)
    rw [if_neg hne]
 obtain ⟨k1,k2⟩:=key rs.length zY
 rw [List.take_length] at k1
 exact ⟨by rw [jx (a:=rs.length) 7 hl fun i a b=>h2 i a (by omega)];exact k1,by rw [jw (a:=rs.length) 7 hl fun i a b=>h2 i a (by omega)];exact k2⟩
theorem zx {x:ByteArray} {j:Nat} {E:Int} {rs:List aX} (hx:x.size=4096) (h4:4≤j) (h8:j<8) (e0:1≤E) (e1:E≤1048576) (hl:rs.length≤7) (hm : ∀ r ∈ rs,bC r=true∧r.kind≠0) (hb : ∀ i,i<8→dq x j i=sL 64) (hd : ∀ i,4≤i→i<8→i≠j→sP (dq x i 0) E):Lay (gU j (yr 1 rs++[(0,cR E)]) x) j ⟨true,E,rs,((rs.length+1:Nat):Int)⟩:=by
 obtain ⟨b1,b2,b3⟩:=yR h8 rs 1 x zY hx (by omega) (fun r hr=>(hm r hr).1) (fun i _ hi=>hb i hi)
 rw [vZ]
 show Lay (jq (gU j (yr 1 rs) x) (bZ j (0:Nat)) (aL (cR E))) j _
 generalize gU j (yr 1 rs) x=y at b1 b2 b3
 have hy:y.size=4096:=by rw [b1.1,hx]
 have hs:=kX y j 0 (aL (cR E))
 have h0:=nk hy h8 (show 0<8 by omega) (fP _ (il e0 e1)) ((b3 0 (by omega) (.inl (by omega))).trans (hb 0 (by omega)))
 generalize jq y (bZ j (0:Nat)) (aL (cR E))=z at hs h0
 have hz:z.size=4096:=by rw [hs.1,hy]
 obtain ⟨k1,k2,k3⟩:=Jt hz h4 h8 e0 e1 h0 (fun i a b c=>by
  rw [hs.slot (by omega) (by omega) (by omega),b1.sec (by omega) c]
  exact hd i a b c)
 have hsl : ∀ i,1≤i→i<8→dR (iT z j) i=dq y j i:=fun i h1 h2=>by rw [je _ _ _ h2];exact hs.slot (by omega) h2 (by omega)
 obtain ⟨r1,r2⟩:=J1 (s:=iT z j) hl hm (fun i hi=>by rw [hsl _ (by omega) (by omega)];exact b2 i hi) (fun i h1 h2=>by rw [hsl _ (by omega) h2,b3 i h2 (.inr (by omega))];exact hb i h2)
 have:dt z j=⟨true,E,rs,((rs.length+1:Nat):Int)⟩:=Dy k3 k2 (by rw [tK];exact r1) (by rw [tJ];exact r2)
 rw [← this]
 exact k1
end
section
theorem Ch {x y img:ByteArray} {p n:Nat} (h:Has x img) (k:gm x y p n) (hp:2048≤p):Has y img :=
 ⟨k.1.trans h.size,fun i hi=>(k.2 i (by omega)).trans (h.same i hi)⟩
def jl (m:aG) (e:Int) (m':aG) (D:Prop) (S:ByteArray→Prop):Prop:=(D∧gj m m')∨(e=1101∧yg m' S∧0≤m.left)
theorem jl.mono {m:aG} {e:Int} {m':aG} {D D':Prop} {S S':ByteArray→Prop} (h:jl m e m' D S) (hD:D→D') (hS : ∀ x,S x→S' x):jl m e m' D' S' :=
 h.imp (fun k=>⟨hD k.1,k.2⟩) fun k=>⟨k.1,k.2.1.mono hS,k.2.2⟩
theorem jl.next {m m1 m2:aG} {e:Int} {D:Prop} {S:ByteArray→Prop} (hB:gj m m1) (h:jl m1 e m2 D S):jl m e m2 D S :=
 h.imp (fun k=>⟨k.1,hB.trans k.2⟩) fun k=>⟨k.1,k.2.1,by
  have:=k.2.2
  by_cases hl:m.left<0
  ·
   have:=hB hl;omega
  ·
   omega⟩
theorem gj.refl (m:aG):gj m m:=fun h=>h
theorem eV.act {m:aG} {e:Int} {m':aG} {D:Prop} {S:ByteArray→Prop} (h:eV m e m' D S):jl m e m' (e=0∧D) S :=
 h.imp (fun k=>⟨⟨k.1,k.2.1⟩,k.2.2⟩) id
theorem Ia (x:ByteArray) (j:Nat):(mk 512 fun i=>bt x (((j:Int) * 512).toNat+i))=iT x j:=by
 unfold iT
 rw [show ((j:Int) * 512).toNat=j * 512 by omega]
theorem Dx (x:ByteArray) (j:Nat):iM (iT x j)=dt x j:=by rw [dt]
theorem wh {x:ByteArray} : ∀ (n j:Nat) (m:aG) (vs:List bB),Calm m x→j+n≤8→eV m (gQ n j m vs).2.2 (gQ n j m vs).1 (Calm (gQ n j m vs).1 x∧(gQ n j m vs).2.1=vs++(List.range n).map fun i=>dt x (j+i)) (fun y=>y=x)
 | 0,j,m,vs,h,_=>.inl ⟨rfl,⟨h,(List.append_nil _).symm⟩,gj.refl m⟩
 | n+1,j,m,vs,h,hj=>by
  have hf:=D0 h ((j:Int) * 512) 512 (by omega) (by omega) (by omega)
  rw [show ((512:Nat):Int)=512 from rfl,Ia] at hf
  have e:gQ (n+1) j m vs=if (m.cT ((j:Int) * 512) 512).2.2≠0 then ((m.cT ((j:Int) * 512) 512).1,vs,(m.cT ((j:Int) * 512) 512).2.2) else gQ n ((j:Int)+1) (m.cT ((j:Int) * 512) 512).1 (vs++[iM (m.cT ((j:Int) * 512) 512).2.1]):=rfl
  rw [e]
  generalize m.cT ((j:Int) * 512) 512=r at hf
  rcases hf with ⟨h0,⟨h1,h2⟩,h3⟩ | ⟨h0,h1,h2⟩
  ·
   rw [if_neg (by rw [h0];decide),h2,show ((j:Int)+1)=((j+1:Nat):Int) by omega,Dx]
   have ih:=wh n (j+1) r.1 (vs++[dt x j]) h1 (by omega)
   refine eV.next h3 (ih.mono (fun k=>⟨k.1,?_⟩) fun _ k=>k)
   rw [k.2,List.append_assoc,List.range_succ_eq_map,List.map_cons,List.map_map,Nat.add_zero,List.singleton_append]
   refine congrArg (fun l=>vs++dt x j::l) (List.map_congr_left fun i _ => ?_)
   rw [Function.comp_apply,Nat.succ_eq_add_one,Nat.add_assoc,Nat.add_comm 1 i]
  ·
   rw [if_pos (by rw [h0];decide)]
   exact .inr ⟨h0,h1,h2⟩
theorem yV {m:aG} {x:ByteArray} (h:Calm m x):eV m (fE m).2.2 (fE m).1 (Calm (fE m).1 x∧(fE m).2.1=ot x) (fun y=>y=x):=by
 have hp:=(wi h).2
 unfold fE
 generalize m.dV=r at hp
 rcases hp with ⟨h0,h1,h2⟩ | ⟨h0,h1,h2⟩
 ·
  rw [if_neg (by rw [h0];decide)]
  have hl:=wh 4 4 r.1 [] h1 (by omega)
  rw [show ((4:Nat):Int)=4 from rfl] at hl
  generalize gQ 4 4 r.1 []=u at hl
  unfold ux
  rcases hl with ⟨k0,⟨k1,k2⟩,k3⟩ | ⟨k0,k1,k2⟩
  ·
   rw [if_neg (by rw [k0];decide)]
   refine .inl ⟨rfl,⟨k1,?_⟩,h2.trans k3⟩
   have e:u.2.1=views x:=k2
   show (jY u.2.1 u.2.1.length).map (fun (k:Nat)=>(4+(k:Int),u.2.1.getD k cH))=_
   rw [e]
   rfl
  ·
   rw [if_pos (by rw [k0];decide)]
   exact eV.next h2 (.inr ⟨k0,k1,k2⟩)
 ·
  rw [if_pos (by rw [h0];decide)]
  exact .inr ⟨h0,h1,h2⟩
theorem F0 {x:ByteArray} {s:Int×bB} (h:ot x=some s):4≤s.1∧s.1<8∧s.2.Ok:=by
 unfold ot at h
 cases hb:jY (views x) 4 with
 | none=>rw [hb] at h;cases h
 | some k =>
  rw [hb] at h
  obtain rfl:(4+(k:Int),(views x).getD k cH)=s:=by simpa using h
  obtain ⟨h1,V,h2,h3⟩:=nh (views x) 4 k hb
  refine ⟨by show 4≤4+(k:Int);omega,by show 4+(k:Int)<8;omega,?_⟩
  show ((views x).getD k cH).Ok
  rw [List.getD_eq_getElem?_getD,h2]
  show V.Ok
  rw [Dz,if_pos h1] at h2
  obtain rfl:dt x (4+k)=V:=by simpa using h2
  exact Bc _ h3
def xk (x:ByteArray):aA×Int:=match ot x with | none=>(shut,2305) | some s=>(⟨true,s.1,s.2⟩,0)
theorem D1 {m:aG} {x:ByteArray} (h:Calm m x):jl m (gz m).2.2 (gz m).1 (Calm (gz m).1 x∧(gz m).2=xk x) (fun y=>y=x):=by
 have hl:=yV h
 unfold gz xk
 generalize fE m=r at hl
 unfold AT
 rcases hl with ⟨h0,⟨h1,h2⟩,h3⟩ | ⟨h0,h1,h2⟩
 ·
  rw [if_neg (by rw [h0];decide),h2]
  cases ot x with
  | none=>exact .inl ⟨⟨h1,rfl⟩,h3⟩
  | some s=>exact .inl ⟨⟨h1,rfl⟩,h3⟩
 ·
  rw [if_pos (by rw [h0];decide)]
  exact .inr ⟨h0,h1,h2⟩
theorem pe {reads:List Int} (h:cY reads=true) : ∀ y ∈ reads,0≤y∧y<2048:=fun y hy=>by
 unfold cY at h
 simp only [Bool.and_eq_true,List.all_eq_true] at h
 have:=h.2 y hy
 unfold nB at this
 simp only [Bool.and_eq_true,decide_eq_true_eq] at this
 exact this
def eP (x:ByteArray):Int:=fM (og (ot x))
def lq (x:ByteArray):Int:=qz (ot x)+1
def oq (x:ByteArray) (sec:Int):ByteArray:=erased x (sec * 512) ⟨#[255]⟩
def iO (x img:ByteArray) (reads:List Int):ByteArray×aA×List Int×Int :=
 if 1048576≤qz (ot x) then (x,shut,[],2304) else if cY reads=true then (jq (oq x (eP x)) (bZ (eP x) 0) (aL (cR (lq x))),⟨true,eP x,⟨true,lq x,[],1⟩⟩,reads.map (lk img),0) else (x,shut,[],1800)
def FormatPart (x y:ByteArray):Prop:=y=x∨(qz (ot x)<1048576∧((∃ mask,y=erased x (eP x * 512) mask)∨sN (oq x (eP x)) (bZ (eP x) 0) (aL (cR (lq x))) y))
theorem zy (x:ByteArray):4≤eP x∧eP x<8:=by
 unfold eP
 cases h:ot x with
 | none=>decide
 | some s =>
  obtain ⟨h1,h2,_⟩:=F0 h
  exact rK h1 h2
theorem JJ (x:ByteArray) (h:qz (ot x)<1048576):1≤lq x∧lq x≤1048576:=by
 unfold lq
 cases hs:ot x with
 | none=>decide
 | some s =>
  obtain ⟨_,_,h3⟩:=F0 hs
  rw [hs] at h
  have:=h3.an
  show 1≤s.2.an+1∧s.2.an+1≤1048576
  have h:s.2.an<1048576:=h
  omega
theorem sx {sec slot:Int} (h1:4≤sec) (h2:sec<8) (h3:0≤slot) (h4:slot<8):2048≤bZ sec slot∧bZ sec slot<4064∧bZ sec slot % 32=0:=by unfold bZ;omega
theorem BR {m:aG} {x img:ByteArray} {q:Cache} (h:Calm m x) (hx:Has x img) (g:q.Good) (hq:q.dg img) (reads:List Int):jl m (cX m q reads).2.2.2.2 (cX m q reads).1 (Calm (cX m q reads).1 (iO x img reads).1∧(cX m q reads).2.1.Good∧(cX m q reads).2.1.dg img∧(cX m q reads).2.2=(iO x img reads).2) (FormatPart x):=by
 have hl:=yV h
 unfold cX
 generalize fE m=r at hl
 unfold rq
 rcases hl with ⟨h0,⟨h1,h2⟩,h3⟩ | ⟨h0,h1,h2⟩
 ·
  rw [if_neg (by rw [h0];decide),h2]
  refine jl.next h3 ?_
  unfold vx
  have hsec:=zy x
  by_cases hep:1048576≤qz (ot x)
  ·
   rw [if_pos hep]
   unfold iO
   rw [if_pos hep]
   exact .inl ⟨⟨h1,g,hq,rfl⟩,gj.refl _⟩
  ·
   rw [if_neg hep]
   have hepi:=JJ x (by omega)
   rw [show fM (og (ot x))=eP x from rfl,show qz (ot x)+1=lq x from rfl]
   by_cases hr:cY reads=true
   ·
    rw [show jf r.1 q (eP x) reads=gS r.1 (eP x * 512) reads from if_pos hr]
    have hw:=yX h1 hx (eP x * 512) (by omega) (by omega) (by omega) reads (pe hr)
    have eF:iO x img reads=(jq (oq x (eP x)) (bZ (eP x) 0) (aL (cR (lq x))),⟨true,eP x,⟨true,lq x,[],1⟩⟩,reads.map (lk img),0):=by
     unfold iO
     rw [if_neg hep,if_pos hr]
    rw [eF]
    generalize gS r.1 (eP x * 512) reads=t at hw
    unfold ru
    rcases hw with ⟨k0,⟨k1,k2,k3,k4⟩,k5⟩ | ⟨k0,k1,k2⟩
    ·
     rw [if_neg (by rw [k0];decide)]
     refine jl.next k5 ?_
     obtain ⟨p0,p1,p2⟩:=sx hsec.1 hsec.2 (show (0:Int)≤0 by decide) (show (0:Int)<8 by decide)
     have hb:=yU k1 (bZ (eP x) 0) (aL (cR (lq x))) p0 p1 p2 (fP _ (il hepi.1 hepi.2))
     generalize t.1.dZ (bZ (eP x) 0) (aL (cR (lq x)))=b at hb
     unfold pJ
     rcases hb with ⟨j0,j1,j2⟩ | ⟨j0,j1,j2⟩
     ·
      rw [if_neg (by rw [j0];decide)]
      exact .inl ⟨⟨j1,k2,k3,by rw [k4]⟩,j2⟩
     ·
      rw [if_pos (by rw [j0];decide)]
      exact .inr ⟨j0,j1.mono fun y hy=>.inr ⟨by omega,.inr hy⟩,j2⟩
    ·
     rw [if_pos (by rw [k0];decide)]
     exact .inr ⟨k0,k1.mono fun y hy=>hy.imp id fun hm=>⟨by omega,.inl hm⟩,k2⟩
   ·
    rw [show jf r.1 q (eP x) reads=(r.1,q,[],1800) from if_neg hr]
    have eF:iO x img reads=(x,shut,[],1800):=by
     unfold iO
     rw [if_neg hep,if_neg hr]
    rw [eF]
    exact .inl ⟨⟨h1,g,hq,rfl⟩,gj.refl _⟩
 ·
  rw [if_pos (by rw [h0];decide)]
  exact .inr ⟨h0,h1.mono fun y hy=>.inl hy,h2⟩
def sM (sec:Int):List (Int×aX)→ByteArray→ByteArray→Prop
 | [],_,_=>False
 | a::l,x,y=>sN x (bZ sec a.1) (aL a.2) y∨sM sec l (jq x (bZ sec a.1) (aL a.2)) y
theorem qw {sec:Int} (s0:4≤sec) (s1:sec<8) : ∀ (l:List (Int×aX)) (m:aG) (x:ByteArray),Calm m x→(∀ a ∈ l,0≤a.1∧a.1<8∧bC a.2=true)→eV m (eL sec l m).2 (eL sec l m).1 (Calm (eL sec l m).1 (gU sec l x)) (sM sec l x)
 | [],m,x,h,_=>.inl ⟨rfl,h,gj.refl m⟩
 | a::l,m,x,h,hl=>by
  obtain ⟨a0,a1,a2⟩:=hl a (by simp)
  obtain ⟨p0,p1,p2⟩:=sx s0 s1 a0 a1
  have hb:=yU h (bZ sec a.1) (aL a.2) p0 p1 p2 (fP _ a2)
  have e:eL sec (a::l) m=if (m.dZ (bZ sec a.1) (aL a.2)).2≠0 then m.dZ (bZ sec a.1) (aL a.2) else eL sec l (m.dZ (bZ sec a.1) (aL a.2)).1:=rfl
  rw [e]
  generalize m.dZ (bZ sec a.1) (aL a.2)=b at hb
  rcases hb with ⟨j0,j1,j2⟩ | ⟨j0,j1,j2⟩
  ·
   rw [if_neg (by rw [j0];decide)]
   exact eV.next j2 ((qw s0 s1 l b.1 _ j1 fun c hc=>hl c (by simp [hc])).mono id fun y hy=>.inr hy)
  ·
   rw [if_pos (by rw [j0];decide)]
   exact .inr ⟨j0,j1.mono fun y hy=>.inl hy,j2⟩
theorem yQ {img:ByteArray} {sec:Nat} (s0:4≤sec) : ∀ (l:List (Int×aX)) (x:ByteArray),Has x img→(∀ a ∈ l,0≤a.1∧a.1<8)→Has (gU sec l x) img
 | [],_,h,_=>h
 | a::l,x,h,hl=>by
  obtain ⟨a0,a1⟩:=hl a (by simp)
  obtain ⟨i,hi⟩ : ∃ n:Nat,a.1=(n:Int):=⟨a.1.toNat,(Int.toNat_of_nonneg a0).symm⟩
  show Has (gU sec l (jq x (bZ sec a.1) (aL a.2))) img
  rw [hi]
  rw [hi] at a1
  exact yQ s0 l _ (Ch h (kX x sec i _) (by omega)) fun c hc=>hl c (by simp [hc])
def iL (x:ByteArray) (p:fW):ByteArray:=if 0≤p.dH then oq x p.dH else x
def hU (x:ByteArray) (p:fW):ByteArray:=gU p.av (p.bI.zip p.aB) (iL x p)
def vR (x:ByteArray) (p:fW) (y:ByteArray):Prop:=y=x∨(0≤p.dH ∧ ∃ mask,y=erased x (p.dH * 512) mask)∨sM p.av (p.bI.zip p.aB) (iL x p) y∨y=hU x p
theorem Ao {x img:ByteArray} (h:Has x img) (sec:Int) (h0:4≤sec):Has (oq x sec) img:=wQ h _ (by omega) _
theorem qT {p:fW} (pk:p.Ok) : ∀ a ∈ p.bI.zip p.aB,0≤a.1∧a.1<8∧bC a.2=true:=fun a ha=>by
 obtain ⟨h1,h2⟩:=List.of_mem_zip (a:=a.1) (b:=a.2) ha
 exact ⟨(pk.bI _ h1).1,(pk.bI _ h1).2,pk.aB _ h2⟩
theorem BS {m:aG} {x img:ByteArray} {q:Cache} (h:Calm m x) (hx:Has x img) (g:q.Good) (hq:q.dg img) {p:fW} (pk:p.Ok) {reads:List Int} (hr:cY reads=true):eV m (dY m q p reads).2.2.2 (dY m q p reads).1 (Calm (dY m q p reads).1 (hU x p)∧(dY m q p reads).2.1.Good∧(dY m q p reads).2.1.dg img∧(dY m q p reads).2.2.1=reads.map (lk img)) (vR x p):=by
 obtain ⟨s0,s1⟩:=pk.av
 obtain ⟨sec,hsec⟩ : ∃ n:Nat,p.av=(n:Int):=⟨p.av.toNat,by omega⟩
 unfold dY firstT
 by_cases hw:0≤p.dH
 ·
  have hwi:=pk.dH
  rw [if_pos hw]
  unfold jf
  rw [if_pos hr]
  have k:=yX h hx (p.dH * 512) (by omega) (by omega) (by omega) reads (pe hr)
  generalize gS m (p.dH * 512) reads=t at k
  unfold pX
  rcases k with ⟨k0,⟨k1,k2,k3,k4⟩,k5⟩ | ⟨k0,k1,k2⟩
  ·
   rw [if_neg (by rw [k0];decide)]
   have hb:=qw s0 s1 (p.bI.zip p.aB) t.1 _ k1 (qT pk)
   have eb:iL x p=erased x (p.dH * 512) ⟨#[255]⟩:=by unfold iL oq;rw [if_pos hw]
   refine eV.next k5 ?_
   generalize eL p.av (p.bI.zip p.aB) t.1=b at hb
   unfold gi
   rcases hb with ⟨j0,j1,j2⟩ | ⟨j0,j1,j2⟩
   ·
    rw [if_neg (by rw [j0];decide),if_pos hw]
    refine .inl ⟨rfl,⟨?_,k2,k3,k4⟩,j2⟩
    unfold hU
    rw [eb]
    exact j1
   ·
    rw [if_pos (by rw [j0];decide)]
    exact .inr ⟨j0,j1.mono fun y hy=>.inr (.inr (.inl (by rw [eb];exact hy))),j2⟩
  ·
   rw [if_pos (by rw [k0];decide)]
   exact .inr ⟨k0,k1.mono fun y hy=>hy.imp id fun hm=>.inl ⟨hw,hm⟩,k2⟩
 ·
  rw [if_neg hw]
  unfold pX
  rw [if_neg (by simp)]
  have hb:=qw s0 s1 (p.bI.zip p.aB) m _ h (qT pk)
  have eb:iL x p=x:=by unfold iL;rw [if_neg hw]
  have hh:Has (hU x p) img:=by
   unfold hU
   rw [eb,hsec]
   exact yQ (by omega) _ _ hx fun a ha=>⟨(qT pk a ha).1,(qT pk a ha).2.1⟩
  show eV m (gi (eL p.av (p.bI.zip p.aB) m) q p.dH [] reads).2.2.2 (gi (eL p.av (p.bI.zip p.aB) m) q p.dH [] reads).1 (Calm (gi (eL p.av (p.bI.zip p.aB) m) q p.dH [] reads).1 _∧(gi (eL p.av (p.bI.zip p.aB) m) q p.dH [] reads).2.1.Good∧(gi (eL p.av (p.bI.zip p.aB) m) q p.dH [] reads).2.1.dg img∧(gi (eL p.av (p.bI.zip p.aB) m) q p.dH [] reads).2.2.1=_) _
  generalize eL p.av (p.bI.zip p.aB) m=b at hb
  unfold gi
  rcases hb with ⟨j0,j1,j2⟩ | ⟨j0,j1,j2⟩
  ·
   rw [if_neg (by rw [j0];decide),if_neg hw]
   have hr2:=GA (q:=q) (img:=img) j1 (by rw [← eb] at hx ⊢;unfold hU at hh;rw [eb] at hh ⊢;exact hh) g hq reads (pe hr)
   refine eV.next j2 (hr2.mono (fun k => ?_) fun y hy => ?_)
   ·
    refine ⟨?_,k.2.1,k.2.2.1,k.2.2.2⟩
    unfold hU
    rw [eb]
    exact k.1
   ·
    refine .inr (.inr (.inr ?_))
    unfold hU
    rw [eb]
    exact hy
  ·
   rw [if_pos (by rw [j0];decide)]
   exact .inr ⟨j0,j1.mono fun y hy=>.inr (.inr (.inl (by rw [eb];exact hy))),j2⟩
end
end Go.Proofs.YtcfdenckiigdaaaGreat

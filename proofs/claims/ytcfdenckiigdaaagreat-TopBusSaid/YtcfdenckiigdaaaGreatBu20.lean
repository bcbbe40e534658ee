/- Part 20 of the contracts. -/
import Derived.Test.YtcfdenckiigdaaaGreatBu19
set_option linter.unusedVariables false
set_option maxRecDepth 100000
set_option maxHeartbeats 4000000
namespace Go.Proofs.YtcfdenckiigdaaaGreat
open Tryz Go.RowKit
structure Lay (x:ByteArray) (sec:Nat) (V:bg):Prop where
 size:x.size=4096
 s0:4≤sec
 s1:sec<8
 view:de x sec=V
 bX:V.bX=true
 dead : ∀ j,4≤j→j<8→j≠sec→rY (dd x j 0) V.ak
structure AG (x:ByteArray):Prop where
 size:x.size=4096
 dead : ∀ j,4≤j→j<8→rY (dd x j 0) 1
theorem oY (x:ByteArray) (j:Nat):(de x j).bX=(cv (iD x j)).1:=by simp only [de,iw]
theorem nd (x:ByteArray) (j:Nat):(de x j).ak=(cv (iD x j)).2:=by simp only [de,iw]
theorem sP (x:ByteArray) (j:Nat):(de x j).ay=bw (iD x j) 7:=by simp only [de,iw]
theorem sO (x:ByteArray) (j:Nat):(de x j).free=bQ (iD x j) 7:=by simp only [de,iw]
theorem Ev {x:ByteArray} {j:Nat} (h:(de x j).bX=true) : ∃ r,dB (dd x j 0)=some r∧r.kind=0∧(de x j).ak=r.ak:=by
 rw [oY] at h
 rw [nd]
 unfold cv at h ⊢
 rw [iN _ _ _ (by omega)] at h ⊢
 cases hr:dB (dd x j 0) with
 | none=>rw [hr] at h;cases h
 | some r =>
  rw [hr] at h
  by_cases hk:r.kind=0
  ·
   refine ⟨r,rfl,hk,?_⟩
   simp [hk]
  ·
   simp [hk] at h
theorem yp {x:ByteArray} {j:Nat} {E:Int} (h:rY (dd x j 0) E) (hg:(de x j).bX=true):(de x j).ak<E:=by
 obtain ⟨r,h1,h2,h3⟩:=Ev hg
 rw [h3]
 exact h _ r (GJ.refl _) h1 h2
theorem Hy {r:aS} (h:bz r=true) (hk:r.kind=0):1≤r.ak∧r.ak≤1048576∧r=cz r.ak:=by
 obtain ⟨k,e,key,value⟩:=r
 subst hk
 unfold bz at h
 simp only [if_true,Bool.and_eq_true,nM,decide_eq_true_eq] at h
 refine ⟨h.1.1.1,h.1.1.2,?_⟩
 rw [l6 h.1.2,l6 h.2]
 rfl
theorem yt {x:ByteArray} {j:Nat} (hg:(de x j).bX=true):1≤(de x j).ak∧(de x j).ak≤1048576∧dd x j 0=aG (cz (de x j).ak):=by
 obtain ⟨r,h1,h2,h3⟩:=Ev hg
 obtain ⟨h4,h5⟩:=sK h1
 obtain ⟨h6,h7,h8⟩:=Hy h4 h2
 rw [h3]
 exact ⟨h6,h7,by rw [h5];exact congrArg aG h8⟩
theorem Lay.ak {x:ByteArray} {sec:Nat} {V:bg} (h:Lay x sec V):1≤V.ak∧V.ak≤1048576∧dd x sec 0=aG (cz V.ak):=by
 have:=yt (x:=x) (j:=sec) (by rw [h.view];exact h.bX)
 rw [h.view] at this
 exact this
theorem Lay.old {x:ByteArray} {sec:Nat} {V:bg} (h:Lay x sec V) : ∀ j,4≤j→j<8→rY (dd x j 0) (V.ak+1):=fun j h4 h8=>by
 by_cases e:j=sec
 ·
  obtain ⟨h1,h2,h3⟩:=h.ak
  rw [e,h3]
  exact Fl (gU h1 h2) (by show V.ak<V.ak+1;omega)
 ·
  exact (h.dead j h4 h8 e).mono (by omega)
theorem xV {vs:List bg} {k:Nat} {V:bg} (hk:vs[k]? = some V) (hg:V.bX=true) (hb : ∀ (j:Nat) (U:bg),vs[j]? = some U→j≠k→U.bX=true→U.ak<V.ak) : ∀ n,k<n→n≤vs.length→iI vs n=some k
 | 0,h,_=>by omega
 | n+1,h,hl=>by
  have hn:vs[n]? = some (vs[n]'(by omega)):=List.getElem?_eq_getElem (by omega)
  unfold iI
  rw [hn]
  by_cases e:n=k
  ·
   subst e
   have e2:vs[n]'(by omega)=V:=by rw [hn] at hk;simpa using hk
   rw [e2]
   simp only [hg,Bool.true_eq_false,if_false]
   cases hbv:iI vs n with
   | none=>rfl
   | some j =>
    obtain ⟨h1,U,h2,h3⟩:=kl vs n j hbv
    simp only [h2]
    rw [if_pos (hb j U h2 (by omega) h3)]
  ·
   have ih:=xV hk hg hb n (by omega) (by omega)
   rw [ih]
   simp only [hk]
   cases hgood:(vs[n]'(by omega)).bX with
   | false=>simp
   | true =>
    have:=hb n _ hn e hgood
    simp only [Bool.true_eq_false,if_false]
    rw [if_neg (by omega)]
theorem GU {vs:List bg} (h : ∀ (j:Nat) (U:bg),vs[j]? = some U→U.bX=false) (n:Nat):iI vs n=none:=by
 cases hb:iI vs n with
 | none=>rfl
 | some k =>
  obtain ⟨_,U,h2,h3⟩:=kl vs n k hb
  rw [h k U h2] at h3
  cases h3
def views (x:ByteArray):List bg:=[de x 4,de x 5,de x 6,de x 7]
def kS (x:ByteArray):Option (Int×bg):=(iI (views x) 4).map fun (k:Nat)=>(4+(k:Int),(views x).getD k ck)
theorem rQ (x:ByteArray) (k:Nat):(views x)[k]? = if k<4 then some (de x (4+k)) else none:=by
 match k with
 | 0=>rfl
 | 1=>rfl
 | 2=>rfl
 | 3=>rfl
 | k+4=>rw [if_neg (by omega)];rfl
theorem vP {x:ByteArray} {sec:Nat} {V:bg} (h:Lay x sec V):kS x=some ((sec:Int),V):=by
 have h0:=h.s0
 have h1:=h.s1
 have hk:(views x)[sec - 4]? = some V:=by rw [rQ,if_pos (by omega),show 4+(sec - 4)=sec by omega,h.view]
 have:=xV hk h.bX (fun j U hj hne hg=>by
  rw [rQ] at hj
  split at hj
  ·
   rename_i hl
   obtain rfl:de x (4+j)=U:=by simpa using hj
   exact yp (h.dead (4+j) (by omega) (by omega) (by omega)) hg
  ·
   cases hj) 4 (by omega) (by show 4≤4;omega)
 unfold kS
 rw [this]
 show some (4+((sec - 4:Nat):Int),(views x).getD (sec - 4) ck)=_
 rw [List.getD_eq_getElem?_getD,hk]
 show some (4+((sec - 4:Nat):Int),V)=some ((sec:Int),V)
 rw [show 4+((sec - 4:Nat):Int)=(sec:Int) by omega]
theorem lS {x:ByteArray} (h:AG x):kS x=none:=by
 unfold kS
 rw [GU fun j U hj => ?_]
 ·
  rfl
 ·
  rw [rQ] at hj
  split at hj
  ·
   rename_i hl
   obtain rfl:de x (4+j)=U:=by simpa using hj
   cases hg:(de x (4+j)).bX with
   | false=>rfl
   | true =>
    have:=yp (h.dead (4+j) (by omega) (by omega)) hg
    have:=(yt hg).1
    omega
  ·
   cases hj
theorem p9 {x y:ByteArray} {sec f:Nat} (h1:1≤f) (hf:f<8) (hv:(de x sec).free=(f:Int)) (hs:fQ x y (sec * 512+f * 64) 64):dd x sec f=rU 64∧(de y sec).bX=(de x sec).bX∧(de y sec).ak=(de x sec).ak∧(de y sec).ay=(de x sec).ay++dZ (iD y sec) f∧(de y sec).free=if dd y sec f=rU 64 then (f:Int) else ((f+1:Nat):Int):=by
 have hsz : ∀ z,(iD z sec).size=512:=fun z=>ey _ _
 have hv':bQ (iD x sec) 7=(f:Int):=by rw [← sO];exact hv
 have hb : ∀ i,f≤i→i≤7→dK (iD x sec) i=rU 64:=fun i h2 h3=>vI (hsz x) 7 zY i (by omega) h3 (by omega)
 have hsame : ∀ i,i<8→i≠f→dK (iD y sec) i=dK (iD x sec) i:=fun i hi hne=>by
  rw [iN _ _ _ hi,iN _ _ _ hi]
  exact hs.slot hf hi (by omega)
 have hfy:dK (iD y sec) f=dd y sec f:=iN _ _ _ hf
 have hhead:cv (iD y sec)=cv (iD x sec):=wQ (hsame 0 (by omega) (by omega))
 obtain ⟨g,rfl⟩ : ∃ g,f=g+1:=⟨f - 1,by omega⟩
 refine ⟨by rw [← iN _ _ _ hf];exact hb _ zY (by omega),by rw [oY,oY,hhead],by rw [nd,nd,hhead],?_,?_⟩
 ·
  rw [sP,sP,jd (a:=g+1) 7 (by omega) fun i h2 h3=>by rw [hsame i (by omega) (by omega)];exact hb i (by omega) h3,jd (a:=g) 7 (by omega) fun i h2 h3=>hb i (by omega) h3]
  show bw (iD y sec) g++_=_
  rw [oB g fun i h2 h3=>hsame i (by omega) (by omega)]
 ·
  rw [sO,jc (a:=g+1) 7 (by omega) fun i h2 h3=>by rw [hsame i (by omega) (by omega)];exact hb i (by omega) h3]
  show (if jn (dK (iD y sec) (g+1))=true then bQ (iD y sec) g else _)=_
  rw [oA g fun i h2 h3=>hsame i (by omega) (by omega),hfy]
  have e:=jc (s:=iD x sec) (a:=g) 7 (by omega) fun i h2 h3=>hb i (by omega) h3
  rw [hv'] at e
  by_cases hbl:dd y sec (g+1)=rU 64
  ·
   rw [if_pos ((lT (gw _ _ _)).2 hbl),if_pos hbl,e]
  ·
   rw [if_neg (fun k=>hbl ((lT (gw _ _ _)).1 k)),if_neg hbl]
theorem CE {V U:bg} (h1:V.bX=U.bX) (h2:V.ak=U.ak) (h3:V.ay=U.ay) (h4:V.free=U.free):V=U:=by
 obtain ⟨a,b,c,d⟩:=V
 obtain ⟨a',b',c',d'⟩:=U
 simp only at h1 h2 h3 h4
 subst h1 h2 h3 h4
 rfl
theorem Hw {x:ByteArray} {j:Nat} {E:Int} (hx:x.size=4096) (h4:4≤j) (h8:j<8) (e0:1≤E) (e1:E≤1048576) (hs:dd x j 0=aG (cz E)) (hd : ∀ i,4≤i→i<8→i≠j→rY (dd x i 0) E):Lay x j (de x j)∧(de x j).ak=E∧(de x j).bX=true:=by
 have hh:cv (iD x j)=(true,E):=by
  unfold cv
  rw [iN _ _ _ (by omega),hs,js (gU e0 e1)]
  rfl
 have hg:(de x j).bX=true:=by rw [oY,hh]
 have he:(de x j).ak=E:=by rw [nd,hh]
 exact ⟨⟨hx,h4,h8,rfl,hg,fun i a b c=>by rw [he];exact hd i a b c⟩,he,hg⟩
def xC:Nat→List aS→List (Int×aS)
 | _,[]=>[]
 | k,r::l=>((k:Int),r)::xC (k+1) l
def gF (sec:Int):List (Int×aS)→ByteArray→ByteArray
 | [],x=>x
 | a::l,x=>gF sec l (ir x (bU sec a.1) (aG a.2))
theorem vi (sec:Int) : ∀ (l l':List (Int×aS)) (x:ByteArray),gF sec (l++l') x=gF sec l' (gF sec l x)
 | [],_,_=>rfl
 | a::l,l',x=>vi sec l l' _
theorem yb {sec:Nat} (h8:sec<8) : ∀ (rs:List aS) (k:Nat) (x:ByteArray),1≤k→x.size=4096→k+rs.length≤8→(∀ r ∈ rs,bz r=true)→(∀ i,k≤i→i<8→dd x sec i=rU 64)→fQ x (gF sec (xC k rs) x) (sec * 512) 512∧(∀ i (hi:i<rs.length),dd (gF sec (xC k rs) x) sec (k+i)=aG rs[i])∧(∀ i,i<8→(i<k∨k+rs.length≤i)→dd (gF sec (xC k rs) x) sec i=dd x sec i)
 | [],k,x,_,_,_,_,_=>⟨fQ.refl _ _ _,fun i hi=>absurd hi (by simp),fun _ _ _=>rfl⟩
 | r::rs,k,x,hk,hx,hl,hr,hb=>by
  simp only [List.length_cons] at hl
  have hs:=km x sec k (aG r)
  have hrm:=hr r (by simp)
  have hslot:=mB hx h8 (by omega:k<8) (fB r hrm) (hb k zY (by omega))
  obtain ⟨i1,i2,i3⟩:=yb h8 rs (k+1) (ir x (bU sec k) (aG r)) (by omega) (by rw [hs.1,hx]) (by omega) (fun q hq=>hr q (by simp [hq])) (fun i h1 h2=>by rw [hs.slot (by omega) h2 (by omega)];exact hb i (by omega) h2)
  have hs':fQ x (ir x (bU sec k) (aG r)) (sec * 512) 512:=hs.mono (by omega) (by omega)
  refine ⟨hs'.trans i1,fun i hi => ?_,fun i h1 h2 => ?_⟩
  ·
   match i,hi with
   | 0,_=>rw [Nat.add_zero];exact (i3 k (by omega) (.inl (by omega))).trans hslot
   | i+1,hi =>
    have:=i2 i (by simpa using hi)
    rw [show k+(i+1)=k+1+i by omega]
    exact this
  ·
   simp only [List.length_cons] at h2
   exact (i3 i h1 (by omega)).trans (hs.slot (by omega) h1 (by omega))
theorem II {s:ByteArray} {rs:List aS} (hl:rs.length≤7) (hm : ∀ r ∈ rs,bz r=true∧r.kind≠0) (h1 : ∀ i (hi:i<rs.length),dK s (1+i)=aG rs[i]) (h2 : ∀ i,rs.length<i→i<8→dK s i=rU 64):bw s 7=rs∧bQ s 7=((rs.length+1:Nat):Int):=by
 have key : ∀ k,k≤rs.length→bw s k=rs.take k∧bQ s k=((k+1:Nat):Int):=fun k=>by
  induction k with
  | zero=>intro _;exact ⟨rfl,rfl⟩
  | succ k ih =>
   intro hk
   obtain ⟨i1,i2⟩:=ih (by omega)
   have hs:=h1 k (by omega)
   rw [Nat.add_comm] at hs
   have hr:=hm _ (List.getElem_mem (show k<rs.length by omega))
   constructor
   ·
    show bw s k++dZ s (k+1)=_
    unfold dZ
    rw [i1,hs,js hr.1]
    simp only [hr.2,if_false]
    rw [List.take_add_one,List.getElem?_eq_getElem (by omega)]
    rfl
   ·
    show (if jn (dK s (k+1))=true then bQ s k else _)=_
    have hne : ¬ jn (dK s (k+1))=true:=fun hb=>by
     rw [hs] at hb
     exact oH hr.1 ((lT (fB _ hr.1)).1 hb)
    rw [if_neg hne]
 obtain ⟨k1,k2⟩:=key rs.length zY
 rw [List.take_length] at k1
 exact ⟨by rw [jd (a:=rs.length) 7 hl fun i a b=>h2 i a (by omega)];exact k1,by rw [jc (a:=rs.length) 7 hl fun i a b=>h2 i a (by omega)];exact k2⟩
theorem yH {x:ByteArray} {j:Nat} {E:Int} {rs:List aS} (hx:x.size=4096) (h4:4≤j) (h8:j<8) (e0:1≤E) (e1:E≤1048576) (hl:rs.length≤7) (hm : ∀ r ∈ rs,bz r=true∧r.kind≠0) (hb : ∀ i,i<8→dd x j i=rU 64) (hd : ∀ i,4≤i→i<8→i≠j→rY (dd x i 0) E):Lay (gF j (xC 1 rs++[(0,cz E)]) x) j ⟨true,E,rs,((rs.length+1:Nat):Int)⟩:=by
 obtain ⟨b1,b2,b3⟩:=yb h8 rs 1 x zY hx (by omega) (fun r hr=>(hm r hr).1) (fun i _ hi=>hb i hi)
 rw [vi]
 show Lay (ir (gF j (xC 1 rs) x) (bU j (0:Nat)) (aG (cz E))) j _
 generalize gF j (xC 1 rs) x=y at b1 b2 b3
 have hy:y.size=4096:=by rw [b1.1,hx]
 have hs:=km y j 0 (aG (cz E))
 have h0:=mB hy h8 (show 0<8 by omega) (fB _ (gU e0 e1)) ((b3 0 (by omega) (.inl (by omega))).trans (hb 0 (by omega)))
 generalize ir y (bU j (0:Nat)) (aG (cz E))=z at hs h0
 have hz:z.size=4096:=by rw [hs.1,hy]
 obtain ⟨k1,k2,k3⟩:=Hw hz h4 h8 e0 e1 h0 (fun i a b c=>by
  rw [hs.slot (by omega) (by omega) (by omega),b1.sec (by omega) c]
  exact hd i a b c)
 have hsl : ∀ i,1≤i→i<8→dK (iD z j) i=dd y j i:=fun i h1 h2=>by rw [iN _ _ _ h2];exact hs.slot (by omega) h2 (by omega)
 obtain ⟨r1,r2⟩:=II (s:=iD z j) hl hm (fun i hi=>by rw [hsl _ (by omega) (by omega)];exact b2 i hi) (fun i h1 h2=>by rw [hsl _ (by omega) h2,b3 i h2 (.inr (by omega))];exact hb i h2)
 have:de z j=⟨true,E,rs,((rs.length+1:Nat):Int)⟩:=CE k3 k2 (by rw [sP];exact r1) (by rw [sO];exact r2)
 rw [← this]
 exact k1
theorem Bx {x y img:ByteArray} {p n:Nat} (h:Has x img) (k:fQ x y p n) (hp:2048≤p):Has y img :=
 ⟨k.1.trans h.size,fun i hi=>(k.2 i (by omega)).trans (h.same i hi)⟩
def iS (m:aB) (e:Int) (m':aB) (D:Prop) (S:ByteArray→Prop):Prop:=(D∧fN m m')∨(e=1101∧xo m' S∧0≤m.left)
theorem iS.mono {m:aB} {e:Int} {m':aB} {D D':Prop} {S S':ByteArray→Prop} (h:iS m e m' D S) (hD:D→D') (hS : ∀ x,S x→S' x):iS m e m' D' S' :=
 h.imp (fun k=>⟨hD k.1,k.2⟩) fun k=>⟨k.1,k.2.1.mono hS,k.2.2⟩
theorem iS.next {m m1 m2:aB} {e:Int} {D:Prop} {S:ByteArray→Prop} (hB:fN m m1) (h:iS m1 e m2 D S):iS m e m2 D S :=
 h.imp (fun k=>⟨k.1,hB.trans k.2⟩) fun k=>⟨k.1,k.2.1,by
  have:=k.2.2
  by_cases hl:m.left<0
  ·
   have:=hB hl;omega
  ·
   omega⟩
theorem fN.refl (m:aB):fN m m:=fun h=>h
theorem eM.act {m:aB} {e:Int} {m':aB} {D:Prop} {S:ByteArray→Prop} (h:eM m e m' D S):iS m e m' (e=0∧D) S :=
 h.imp (fun k=>⟨⟨k.1,k.2.1⟩,k.2.2⟩) id
theorem F6 (x:ByteArray) (j:Nat):(mk 512 fun i=>bt x (((j:Int) * 512).toNat+i))=iD x j:=by
 unfold iD
 rw [show ((j:Int) * 512).toNat=j * 512 by omega]
theorem CD (x:ByteArray) (j:Nat):iw (iD x j)=de x j:=by rw [de]
theorem vn {x:ByteArray} : ∀ (n j:Nat) (m:aB) (vs:List bg),Calm m x→j+n≤8→eM m (gB n j m vs).2.2 (gB n j m vs).1 (Calm (gB n j m vs).1 x∧(gB n j m vs).2.1=vs++(List.range n).map fun i=>de x (j+i)) (fun y=>y=x)
 | 0,j,m,vs,h,_=>.inl ⟨rfl,⟨h,(List.append_nil _).symm⟩,fN.refl m⟩
 | n+1,j,m,vs,h,hj=>by
  have hf:=C4 h ((j:Int) * 512) 512 (by omega) (by omega) (by omega)
  rw [show ((512:Nat):Int)=512 from rfl,F6] at hf
  have e:gB (n+1) j m vs=if (m.cK ((j:Int) * 512) 512).2.2≠0 then ((m.cK ((j:Int) * 512) 512).1,vs,(m.cK ((j:Int) * 512) 512).2.2) else gB n ((j:Int)+1) (m.cK ((j:Int) * 512) 512).1 (vs++[iw (m.cK ((j:Int) * 512) 512).2.1]):=rfl
  rw [e]
  generalize m.cK ((j:Int) * 512) 512=r at hf
  rcases hf with ⟨h0,⟨h1,h2⟩,h3⟩ | ⟨h0,h1,h2⟩
  ·
   rw [if_neg (by rw [h0];decide),h2,show ((j:Int)+1)=((j+1:Nat):Int) by omega,CD]
   have ih:=vn n (j+1) r.1 (vs++[de x j]) h1 (by omega)
   refine eM.next h3 (ih.mono (fun k=>⟨k.1,?_⟩) fun _ k=>k)
   rw [k.2,List.append_assoc,List.range_succ_eq_map,List.map_cons,List.map_map,Nat.add_zero,List.singleton_append]
   refine congrArg (fun l=>vs++de x j::l) (List.map_congr_left fun i _ => ?_)
   rw [Function.comp_apply,Nat.succ_eq_add_one,Nat.add_assoc,Nat.add_comm 1 i]
  ·
   rw [if_pos (by rw [h0];decide)]
   exact .inr ⟨h0,h1,h2⟩
theorem yh {m:aB} {x:ByteArray} (h:Calm m x):eM m (fj m).2.2 (fj m).1 (Calm (fj m).1 x∧(fj m).2.1=kS x) (fun y=>y=x):=by
 have hp:=(vo h).2
 unfold fj
 generalize m.dN=r at hp
 rcases hp with ⟨h0,h1,h2⟩ | ⟨h0,h1,h2⟩
 ·
  rw [if_neg (by rw [h0];decide)]
  have hl:=vn 4 4 r.1 [] h1 (by omega)
  rw [show ((4:Nat):Int)=4 from rfl] at hl
  generalize gB 4 4 r.1 []=u at hl
  unfold tJ
  rcases hl with ⟨k0,⟨k1,k2⟩,k3⟩ | ⟨k0,k1,k2⟩
  ·
   rw [if_neg (by rw [k0];decide)]
   refine .inl ⟨rfl,⟨k1,?_⟩,h2.trans k3⟩
   have e:u.2.1=views x:=k2
   show (iI u.2.1 u.2.1.length).map (fun (k:Nat)=>(4+(k:Int),u.2.1.getD k ck))=_
   rw [e]
   rfl
  ·
   rw [if_pos (by rw [k0];decide)]
   exact eM.next h2 (.inr ⟨k0,k1,k2⟩)
 ·
  rw [if_pos (by rw [h0];decide)]
  exact .inr ⟨h0,h1,h2⟩
theorem EM {x:ByteArray} {s:Int×bg} (h:kS x=some s):4≤s.1∧s.1<8∧s.2.Ok:=by
 unfold kS at h
 cases hb:iI (views x) 4 with
 | none=>rw [hb] at h;cases h
 | some k =>
  rw [hb] at h
  obtain rfl:(4+(k:Int),(views x).getD k ck)=s:=by simpa using h
  obtain ⟨h1,V,h2,h3⟩:=kl (views x) 4 k hb
  refine ⟨by show 4≤4+(k:Int);omega,by show 4+(k:Int)<8;omega,?_⟩
  show ((views x).getD k ck).Ok
  rw [List.getD_eq_getElem?_getD,h2]
  show V.Ok
  rw [rQ,if_pos h1] at h2
  obtain rfl:de x (4+k)=V:=by simpa using h2
  exact Ar _ h3
def lF (x:ByteArray):au×Int:=match kS x with | none=>(shut,2305) | some s=>(⟨true,s.1,s.2⟩,0)
theorem C5 {m:aB} {x:ByteArray} (h:Calm m x):iS m (fX m).2.2 (fX m).1 (Calm (fX m).1 x∧(fX m).2=lF x) (fun y=>y=x):=by
 have hl:=yh h
 unfold fX lF
 generalize fj m=r at hl
 unfold zP
 rcases hl with ⟨h0,⟨h1,h2⟩,h3⟩ | ⟨h0,h1,h2⟩
 ·
  rw [if_neg (by rw [h0];decide),h2]
  cases kS x with
  | none=>exact .inl ⟨⟨h1,rfl⟩,h3⟩
  | some s=>exact .inl ⟨⟨h1,rfl⟩,h3⟩
 ·
  rw [if_pos (by rw [h0];decide)]
  exact .inr ⟨h0,h1,h2⟩
theorem ox {reads:List Int} (h:cP reads=true) : ∀ y ∈ reads,0≤y∧y<2048:=fun y hy=>by
 unfold cP at h
 simp only [Bool.and_eq_true,List.all_eq_true] at h
 have:=h.2 y hy
 unfold mK at this
 simp only [Bool.and_eq_true,decide_eq_true_eq] at this
 exact this
def cS (x:ByteArray):Int:=fw (nm (kS x))
def gX (x:ByteArray):Int:=nL (kS x)+1
def ln (x:ByteArray) (sec:Int):ByteArray:=erased x (sec * 512) ⟨#[255]⟩
def dh (x img:ByteArray) (reads:List Int):ByteArray×au×List Int×Int :=
 if 1048576≤nL (kS x) then (x,shut,[],2304) else if cP reads=true then (ir (ln x (cS x)) (bU (cS x) 0) (aG (cz (gX x))),⟨true,cS x,⟨true,gX x,[],1⟩⟩,reads.map (gK img),0) else (x,shut,[],1800)
def FormatPart (x y:ByteArray):Prop:=y=x∨(nL (kS x)<1048576∧((∃ mask,y=erased x (cS x * 512) mask)∨rW (ln x (cS x)) (bU (cS x) 0) (aG (cz (gX x))) y))
theorem yI (x:ByteArray):4≤cS x∧cS x<8:=by
 unfold cS
 cases h:kS x with
 | none=>decide
 | some s =>
  obtain ⟨h1,h2,_⟩:=EM h
  exact qR h1 h2
theorem Ip (x:ByteArray) (h:nL (kS x)<1048576):1≤gX x∧gX x≤1048576:=by
 unfold gX
 cases hs:kS x with
 | none=>decide
 | some s =>
  obtain ⟨_,_,h3⟩:=EM hs
  rw [hs] at h
  have:=h3.ak
  show 1≤s.2.ak+1∧s.2.ak+1≤1048576
  have h:s.2.ak<1048576:=h
  omega
theorem rG {sec slot:Int} (h1:4≤sec) (h2:sec<8) (h3:0≤slot) (h4:slot<8):2048≤bU sec slot∧bU sec slot<4064∧bU sec slot % 32=0:=by unfold bU;omega
theorem A6 {m:aB} {x img:ByteArray} {q:Cache} (h:Calm m x) (hx:Has x img) (g:q.Good) (hq:q.cV img) (reads:List Int):iS m (cO m q reads).2.2.2.2 (cO m q reads).1 (Calm (cO m q reads).1 (dh x img reads).1∧(cO m q reads).2.1.Good∧(cO m q reads).2.1.cV img∧(cO m q reads).2.2=(dh x img reads).2) (FormatPart x):=by
 have hl:=yh h
 unfold cO
 generalize fj m=r at hl
 unfold qG
 rcases hl with ⟨h0,⟨h1,h2⟩,h3⟩ | ⟨h0,h1,h2⟩
 ·
  rw [if_neg (by rw [h0];decide),h2]
  refine iS.next h3 ?_
  unfold uM
  have hsec:=yI x
  by_cases hep:1048576≤nL (kS x)
  ·
   rw [if_pos hep]
   unfold dh
   rw [if_pos hep]
   exact .inl ⟨⟨h1,g,hq,rfl⟩,fN.refl _⟩
  ·
   rw [if_neg hep]
   have hepi:=Ip x (by omega)
   rw [show fw (nm (kS x))=cS x from rfl,show nL (kS x)+1=gX x from rfl]
   by_cases hr:cP reads=true
   ·
    rw [show iO r.1 q (cS x) reads=gD r.1 (cS x * 512) reads from if_pos hr]
    have hw:=yj h1 hx (cS x * 512) (by omega) (by omega) (by omega) reads (ox hr)
    have eF:dh x img reads=(ir (ln x (cS x)) (bU (cS x) 0) (aG (cz (gX x))),⟨true,cS x,⟨true,gX x,[],1⟩⟩,reads.map (gK img),0):=by
     unfold dh
     rw [if_neg hep,if_pos hr]
    rw [eF]
    generalize gD r.1 (cS x * 512) reads=t at hw
    unfold qH
    rcases hw with ⟨k0,⟨k1,k2,k3,k4⟩,k5⟩ | ⟨k0,k1,k2⟩
    ·
     rw [if_neg (by rw [k0];decide)]
     refine iS.next k5 ?_
     obtain ⟨p0,p1,p2⟩:=rG hsec.1 hsec.2 (show (0:Int)≤0 by decide) (show (0:Int)<8 by decide)
     have hb:=yg k1 (bU (cS x) 0) (aG (cz (gX x))) p0 p1 p2 (fB _ (gU hepi.1 hepi.2))
     generalize t.1.dR (bU (cS x) 0) (aG (cz (gX x)))=b at hb
     unfold oO
     rcases hb with ⟨j0,j1,j2⟩ | ⟨j0,j1,j2⟩
     ·
      rw [if_neg (by rw [j0];decide)]
      exact .inl ⟨⟨j1,k2,k3,by rw [k4]⟩,j2⟩
     ·
      rw [if_pos (by rw [j0];decide)]
      exact .inr ⟨j0,j1.mono fun y hy=>.inr ⟨by omega,.inr hy⟩,j2⟩
    ·
     rw [if_pos (by rw [k0];decide)]
     exact .inr ⟨k0,k1.mono fun y hy=>hy.imp id fun hm=>⟨by omega,.inl hm⟩,k2⟩
   ·
    rw [show iO r.1 q (cS x) reads=(r.1,q,[],1800) from if_neg hr]
    have eF:dh x img reads=(x,shut,[],1800):=by
     unfold dh
     rw [if_neg hep,if_neg hr]
    rw [eF]
    exact .inl ⟨⟨h1,g,hq,rfl⟩,fN.refl _⟩
 ·
  rw [if_pos (by rw [h0];decide)]
  exact .inr ⟨h0,h1.mono fun y hy=>.inl hy,h2⟩
def rV (sec:Int):List (Int×aS)→ByteArray→ByteArray→Prop
 | [],_,_=>False
 | a::l,x,y=>rW x (bU sec a.1) (aG a.2) y∨rV sec l (ir x (bU sec a.1) (aG a.2)) y
theorem pP {sec:Int} (s0:4≤sec) (s1:sec<8) : ∀ (l:List (Int×aS)) (m:aB) (x:ByteArray),Calm m x→(∀ a ∈ l,0≤a.1∧a.1<8∧bz a.2=true)→eM m (eB sec l m).2 (eB sec l m).1 (Calm (eB sec l m).1 (gF sec l x)) (rV sec l x)
 | [],m,x,h,_=>.inl ⟨rfl,h,fN.refl m⟩
 | a::l,m,x,h,hl=>by
  obtain ⟨a0,a1,a2⟩:=hl a (by simp)
  obtain ⟨p0,p1,p2⟩:=rG s0 s1 a0 a1
  have hb:=yg h (bU sec a.1) (aG a.2) p0 p1 p2 (fB _ a2)
  have e:eB sec (a::l) m=if (m.dR (bU sec a.1) (aG a.2)).2≠0 then m.dR (bU sec a.1) (aG a.2) else eB sec l (m.dR (bU sec a.1) (aG a.2)).1:=rfl
  rw [e]
  generalize m.dR (bU sec a.1) (aG a.2)=b at hb
  rcases hb with ⟨j0,j1,j2⟩ | ⟨j0,j1,j2⟩
  ·
   rw [if_neg (by rw [j0];decide)]
   exact eM.next j2 ((pP s0 s1 l b.1 _ j1 fun c hc=>hl c (by simp [hc])).mono id fun y hy=>.inr hy)
  ·
   rw [if_pos (by rw [j0];decide)]
   exact .inr ⟨j0,j1.mono fun y hy=>.inl hy,j2⟩
theorem xZ {img:ByteArray} {sec:Nat} (s0:4≤sec) : ∀ (l:List (Int×aS)) (x:ByteArray),Has x img→(∀ a ∈ l,0≤a.1∧a.1<8)→Has (gF sec l x) img
 | [],_,h,_=>h
 | a::l,x,h,hl=>by
  obtain ⟨a0,a1⟩:=hl a (by simp)
  obtain ⟨i,hi⟩ : ∃ n:Nat,a.1=(n:Int):=⟨a.1.toNat,(Int.toNat_of_nonneg a0).symm⟩
  show Has (gF sec l (ir x (bU sec a.1) (aG a.2))) img
  rw [hi]
  rw [hi] at a1
  exact xZ s0 l _ (Bx h (km x sec i _) (by omega)) fun c hc=>hl c (by simp [hc])
def iv (x:ByteArray) (p:fu):ByteArray:=if 0≤p.dy then ln x p.dy else x
def gN (x:ByteArray) (p:fu):ByteArray:=gF p.aq (p.bH.zip p.ay) (iv x p)
def u6 (x:ByteArray) (p:fu) (y:ByteArray):Prop:=y=x∨(0≤p.dy ∧ ∃ mask,y=erased x (p.dy * 512) mask)∨rV p.aq (p.bH.zip p.ay) (iv x p) y∨y=gN x p
theorem zk {x img:ByteArray} (h:Has x img) (sec:Int) (h0:4≤sec):Has (ln x sec) img:=vF h _ (by omega) _
theorem qm {p:fu} (pk:p.Ok) : ∀ a ∈ p.bH.zip p.ay,0≤a.1∧a.1<8∧bz a.2=true:=fun a ha=>by
 obtain ⟨h1,h2⟩:=List.of_mem_zip (a:=a.1) (b:=a.2) ha
 exact ⟨(pk.bH _ h1).1,(pk.bH _ h1).2,pk.ay _ h2⟩
theorem A7 {m:aB} {x img:ByteArray} {q:Cache} (h:Calm m x) (hx:Has x img) (g:q.Good) (hq:q.cV img) {p:fu} (pk:p.Ok) {reads:List Int} (hr:cP reads=true):eM m (dQ m q p reads).2.2.2 (dQ m q p reads).1 (Calm (dQ m q p reads).1 (gN x p)∧(dQ m q p reads).2.1.Good∧(dQ m q p reads).2.1.cV img∧(dQ m q p reads).2.2.1=reads.map (gK img)) (u6 x p):=by
 obtain ⟨s0,s1⟩:=pk.aq
 obtain ⟨sec,hsec⟩ : ∃ n:Nat,p.aq=(n:Int):=⟨p.aq.toNat,by omega⟩
 unfold dQ firstT
 by_cases hw:0≤p.dy
 ·
  have hwi:=pk.dy
  rw [if_pos hw]
  unfold iO
  rw [if_pos hr]
  have k:=yj h hx (p.dy * 512) (by omega) (by omega) (by omega) reads (ox hr)
  generalize gD m (p.dy * 512) reads=t at k
  unfold o7
  rcases k with ⟨k0,⟨k1,k2,k3,k4⟩,k5⟩ | ⟨k0,k1,k2⟩
  ·
   rw [if_neg (by rw [k0];decide)]
   have hb:=pP s0 s1 (p.bH.zip p.ay) t.1 _ k1 (qm pk)
   have eb:iv x p=erased x (p.dy * 512) ⟨#[255]⟩:=by unfold iv ln;rw [if_pos hw]
   refine eM.next k5 ?_
   generalize eB p.aq (p.bH.zip p.ay) t.1=b at hb
   unfold fM
   rcases hb with ⟨j0,j1,j2⟩ | ⟨j0,j1,j2⟩
   ·
    rw [if_neg (by rw [j0];decide),if_pos hw]
    refine .inl ⟨rfl,⟨?_,k2,k3,k4⟩,j2⟩
    unfold gN
    rw [eb]
    exact j1
   ·
    rw [if_pos (by rw [j0];decide)]
    exact .inr ⟨j0,j1.mono fun y hy=>.inr (.inr (.inl (by rw [eb];exact hy))),j2⟩
  ·
   rw [if_pos (by rw [k0];decide)]
   exact .inr ⟨k0,k1.mono fun y hy=>hy.imp id fun hm=>.inl ⟨hw,hm⟩,k2⟩
 ·
  rw [if_neg hw]
  unfold o7
  rw [if_neg (by simp)]
  have hb:=pP s0 s1 (p.bH.zip p.ay) m _ h (qm pk)
  have eb:iv x p=x:=by unfold iv;rw [if_neg hw]
  have hh:Has (gN x p) img:=by
   unfold gN
   rw [eb,hsec]
   exact xZ (by omega) _ _ hx fun a ha=>⟨(qm pk a ha).1,(qm pk a ha).2.1⟩
  show eM m (fM (eB p.aq (p.bH.zip p.ay) m) q p.dy [] reads).2.2.2 (fM (eB p.aq (p.bH.zip p.ay) m) q p.dy [] reads).1 (Calm (fM (eB p.aq (p.bH.zip p.ay) m) q p.dy [] reads).1 _∧(fM (eB p.aq (p.bH.zip p.ay) m) q p.dy [] reads).2.1.Good∧(fM (eB p.aq (p.bH.zip p.ay) m) q p.dy [] reads).2.1.cV img∧(fM (eB p.aq (p.bH.zip p.ay) m) q p.dy [] reads).2.2.1=_) _
  generalize eB p.aq (p.bH.zip p.ay) m=b at hb
  unfold fM
  rcases hb with ⟨j0,j1,j2⟩ | ⟨j0,j1,j2⟩
  ·
   rw [if_neg (by rw [j0];decide),if_neg hw]
   have hr2:=Ff (q:=q) (img:=img) j1 (by rw [← eb] at hx ⊢;unfold gN at hh;rw [eb] at hh ⊢;exact hh) g hq reads (ox hr)
   refine eM.next j2 (hr2.mono (fun k => ?_) fun y hy => ?_)
   ·
    refine ⟨?_,k.2.1,k.2.2.1,k.2.2.2⟩
    unfold gN
    rw [eb]
    exact k.1
   ·
    refine .inr (.inr (.inr ?_))
    unfold gN
    rw [eb]
    exact hy
  ·
   rw [if_pos (by rw [j0];decide)]
   exact .inr ⟨j0,j1.mono fun y hy=>.inr (.inr (.inl (by rw [eb];exact hy))),j2⟩
section
open Go.RowKit
variable {X:Nat→Prop}
def qA (t:aB×Cache×List Int×Int) (S:au) (p:fu):aB×Cache×au×List Int×Int :=
 if t.2.2.2≠0 then (t.1,t.2.1,shut,[],t.2.2.2) else (t.1,t.2.1,⟨true,p.aq,ix S p⟩,t.2.2.1,0)
def uK (c:Int×fu) (m:aB) (q:Cache) (S:au) (reads:List Int):aB×Cache×au×List Int×Int :=
 if c.1=2202 then (m,q,S,[],2303) else if c.1≠0 then (m,q,S,[],2304) else if cP reads=true then qA (dQ m q c.2 reads) S c.2 else (m,q,S,[],1800)
def dO (m:aB) (q:Cache) (S:au) (r:aS) (reads:List Int):aB×Cache×au×List Int×Int:=uK (cm S.view S.aq r) m q S reads
def mh (s:Nat) (S:au) (r:aS) (a0:Option Addr) (cp0:Nat) (g:Nat) (w':World):Prop:=w'.cell? ⟨s,3,none⟩=some (.int .i64 S.aq)∧w'.cell? ⟨s,4,none⟩=some (.bool S.view.bX)∧w'.cell? ⟨s,5,none⟩=some (.int .i64 S.view.ak)∧w'.cell? ⟨s,6,none⟩=some (.slice a0 S.view.ay.length cp0)∧w'.cell? ⟨s,7,none⟩=some (.int .i64 S.view.free)∧w'.cell? ⟨g,0,none⟩=some (.int .i64 r.kind)∧w'.cell? ⟨g,1,none⟩=some (.int .i64 r.ak)∧w'.cell? ⟨g,2,none⟩=some (.string r.key)∧w'.cell? ⟨g,3,none⟩=some (.string r.value)
theorem qB (s k c b cap:Nat) (m:aB) (q:Cache) (S:au) (H:Nat→Prop) (r:aS) (a:Option Addr) (reads:List Int) (w:World) (h:Sys X w s k c b m q S H) (ok:m.Ok) (g:q.Good) (hh:0<m.an.busy.length→m.an.home<w.heap.size) (hi:aJ w a reads H) (hcap:reads.length≤cap) (hm:reads.length≤1000000) (vk:S.view.Ok) (s0:4≤S.aq) (s1:S.aq<8) (hr:gI r):Calls prog 94 #[.pointer (some ⟨s,0,none⟩),.agg r.cells,.slice a reads.length cap] w (dC X s k c b (dO m q S r reads).1 (dO m q S r reads).2.1 (dO m q S r reads).2.2.1 (dO m q S r reads).2.2.2.1 (dO m q S r reads).2.2.2.2 H w):=by
 obtain ⟨a0,cp0,h1,h2⟩:=h.st
 have HCH:=zH (fun w' (hb:Below w.heap.size w w')=>sG S.view (.slice a0 S.view.ay.length cp0) S.aq r w' (h2.at_.aj hb) vk hr s0 s1)
 obtain ⟨c0,c1,c2,c3,c4,c5,c6,c7,cf⟩:=sL h1
 have hsl:s<w.heap.size:=aV h1
 have H0:=zH (zA h (zA hi hh))
 have HQ:=zH (show dO m q S r reads=uK (cm S.view S.aq r) m q S reads from rfl)
 have HOK:=zH (fun he=>oM vk s0 s1 hr he)
 have HFW:=zH (show S.view.ay.length≤100 from Nat.le_trans vk.len (by decide))
 clear h hi hh h1 h2
 unfold aS.cells at HCH ⊢
 have hbW:=ae (Below.refl w.heap.size w) (.cells #[.int .i64 r.kind,.int .i64 r.ak,.string r.key,.string r.value] 74)
 have e0:=ag w (.cells #[.int .i64 r.kind,.int .i64 r.ak,.string r.key,.string r.value] 74)
 have hsz:(w.alloc (.cells #[.int .i64 r.kind,.int .i64 r.ak,.string r.key,.string r.value] 74)).heap.size=w.heap.size+1:=by simp
 have hS : ∀ w',Below (w.alloc (.cells #[.int .i64 r.kind,.int .i64 r.ak,.string r.key,.string r.value] 74)).heap.size (w.alloc (.cells #[.int .i64 r.kind,.int .i64 r.ak,.string r.key,.string r.value] 74)) w'→mh s S r a0 cp0 w.heap.size w':=fun w' hb=>by
  have hl1:s<(w.alloc (.cells #[.int .i64 r.kind,.int .i64 r.ak,.string r.key,.string r.value] 74)).heap.size:=by rw [hsz];omega
  have e : ∀ i,w'.cell? ⟨s,i,none⟩=w.cell? ⟨s,i,none⟩:=fun i=>(hb.cell (p:=⟨s,i,none⟩) hl1).trans (hbW.cell (p:=⟨s,i,none⟩) hsl)
  obtain ⟨f0,f1,f2,f3,_⟩:=cw (aa hb e0)
  exact ⟨(e 3).trans c3,(e 4).trans c4,(e 5).trans c5,(e 6).trans c6,(e 7).trans c7,f0,f1,f2,f3⟩
 have HS:=zH hS
 have HBW:=zH hbW
 clear c0 c1 c2 c3 c4 c5 c6 c7 cf e0 hbW hS
 generalize cm S.view S.aq r=ch at *
 go_enter func94,ntmps94
 go_upto_region 1 with fail
 generalize w.alloc (.cells #[.int .i64 r.kind,.int .i64 r.ak,.string r.key,.string r.value] 74)=W at *
 have HSZ:=zH hsz
 clear hsz
 go_cut [8,9] from 11 to 23 (fun v8 v9 wx=>v9=.int .i64 ch.1 ∧ ∃ pb sa sc ra rc,v8=.pointer (some ⟨pb,0,none⟩)∧Below W.heap.size W wx∧CV wx pb ch.2 (.slice sa ch.2.bH.length sc) (.slice ra ch.2.ay.length rc)∧W.heap.size≤pb∧wx.ownsRow W.heap.size 3 1 (.slice sa ch.2.bH.length sc) ch.2.bH.length (az ch.2.bH)∧wx.ownsRow W.heap.size 74 4 (.slice ra ch.2.ay.length rc) ch.2.ay.length (bk ch.2.ay))
 case first =>
  refine wp_region_noPanic ?_
  refine wp_region_held_drew (S:=(mh s S r a0 cp0 w.heap.size)) (by kernel_rfl) (by (try dsimp only);exact HS.out _ (aw zR)) fun hHeld => ?_
  refine tk 0 ?_ (hy:=by intro w h;unfold mh at h;go_simp;try with_reducible rfl)
  refine tk 1 ?_ (hy:=by intro w h;unfold mh at h;go_simp;try with_reducible rfl)
  refine tk 2 ?_ (hy:=by intro w h;unfold mh at h;go_simp;try with_reducible rfl)
  refine tk 3 ?_ (hy:=by intro w h;unfold mh at h;go_simp;try with_reducible rfl)
  refine tk 4 ?_ (hy:=by intro w h;unfold mh at h;go_simp;try with_reducible rfl)
  refine tk 5 ?_ (hy:=by intro w h;unfold mh at h;go_simp;try with_reducible rfl)
  refine tk 6 ?_ (hy:=by intro w h;unfold mh at h;go_simp;try with_reducible rfl)
  refine tk 7 ?_ (hy:=by intro w h;unfold mh at h;go_simp;try with_reducible rfl)
  refine tk 8 ?_ (hy:=by intro w h;unfold mh at h;go_simp;try with_reducible rfl)
  refine wpAnyH_ready (rs:=[9,13]) (by kernel_rfl) (by simp) ?_
  refine (AllReadyH.cons (o:=⟨some 21,.call ⟨.value (.func 133),#[.tmp 15,.tmp 19,.tmp 20],#[52,3,74]⟩,229, "store.go:168",#[⟨3,.data⟩,⟨7,.data⟩,⟨8,.data⟩],none⟩) rfl (fun K hK => ?_) (AllReadyH.cons (o:=⟨some 8,.alloc 228,0, "store.go:168",#[],none⟩) rfl (fun K hK => ?_) AllReadyH.nil))
  ·
   skip
   go_simp
   go_at_call 133
   have hw0:Below W.heap.size W W.drew:=aw zR
   refine (HCH.out _ (gtr HBW.out hw0)).mono ?_
   rintro e w1 ⟨vs,vr,he,ho1,ho2,hb1⟩
   unfold oU at he
   obtain ⟨sa,sc,rfl⟩:=cA ho1
   obtain ⟨ra,rc,rfl⟩:=cA ho2
   subst he
   have hw1:Below W.heap.size W w1:=gtr hw0 hb1
   go_wp2_with fail
   refine hK.out _ _ (by (try dsimp only);exact HS.out _ hw1) fun hHeld => ?_
   clear hK K
   try simp only [Act.put,zS,zT,zU]
   refine tk 10 ?_ (hy:=by intro w h;unfold mh at h;go_simp;try with_reducible rfl)
   refine tk 11 ?_ (hy:=by intro w h;unfold mh at h;go_simp;try with_reducible rfl)
   refine tk 12 ?_ (hy:=by intro w h;unfold mh at h;go_simp;try with_reducible rfl)
   refine tr 13 fun K hK => ?_
   go_simp
   refine hK.out _ _ (by (try dsimp only);exact HS.out _ (ae hw1 _)) fun hHeld => ?_
   clear hK K
   try simp only [Act.put,zS,zT,zU]
   refine tr 14 fun K hK => ?_
   have hz:=ag w1 (.cells #[.int .i64 0,.int .i64 0,.slice none 0 0,.slice none 0 0,.int .i64 0,.int .i64 0] 228)
   have hw2:=ae hw1 (.cells #[.int .i64 0,.int .i64 0,.slice none 0 0,.slice none 0 0,.int .i64 0,.int .i64 0] 228)
   have hg1:=hw1.size
   have HO:=zH (zA (show w1.ownsRow W.heap.size 3 1 (.slice sa ch.2.bH.length sc) ch.2.bH.length (az ch.2.bH) from ho1) (show w1.ownsRow W.heap.size 74 4 (.slice ra ch.2.ay.length rc) ch.2.ay.length (bk ch.2.ay) from ho2))
   have HO2:=zH (zA (HO.out.1.alloc (.cells #[.int .i64 0,.int .i64 0,.slice none 0 0,.slice none 0 0,.int .i64 0,.int .i64 0] 228)) (HO.out.2.alloc (.cells #[.int .i64 0,.int .i64 0,.slice none 0 0,.slice none 0 0,.int .i64 0,.int .i64 0] 228)))
   have HN:=zH (zA (Ae HO.out.1) (Ae HO.out.2))
   have HZ:=zH (zA hz hw2)
   obtain ⟨z0,z1,z2,z3,z4,z5,zf⟩:=jN hz
   clear ho1 ho2 hb1 hz hw2
   generalize w1.heap.size=pb at *
   generalize w1.alloc (.cells #[.int .i64 0,.int .i64 0,.slice none 0 0,.slice none 0 0,.int .i64 0,.int .i64 0] 228)=w2 at *
   go_simp
   refine hK.out _ _ (by (try dsimp only);exact HS.out _ (fE HZ.out.2 hg1 _ _ _ _ _ _)) fun hHeld => ?_
   clear hK K
   try simp only [Act.put,zS,zT,zU]
   refine tk 15 ?_ (hy:=by intro w h;unfold mh at h;go_simp;try with_reducible rfl)
   refine wpAnyH_done (by kernel_rfl) ?_ _
   refine NoPanic.normal ?_
   go_wp2
   go_meet
   exact ⟨rfl,pb,sa,sc,ra,rc,rfl,fE HZ.out.2 hg1 _ _ _ _ _ _,uS HZ.out.1 _ _ _ _ _ _,hg1,jI HO2.out.1 HN.out.1 _ _ _ _ _ _,jI HO2.out.2 HN.out.2 _ _ _ _ _ _⟩
  ·
   skip
   go_simp
   refine hK.out _ _ (by (try dsimp only);exact HS.out _ (ae (aw zR) _)) fun hHeld => ?_
   clear hK K
   try simp only [Act.put,zS,zT,zU]
   refine tr 9 fun K hK => ?_
   go_simp
   go_at_call 133
   have hw0:Below W.heap.size W (W.drew.alloc (.cells #[.int .i64 0,.int .i64 0,.slice none 0 0,.slice none 0 0,.int .i64 0,.int .i64 0] 228)):=ae (aw zR) _
   refine (HCH.out _ (gtr HBW.out hw0)).mono ?_
   rintro e w1 ⟨vs,vr,he,ho1,ho2,hb1⟩
   unfold oU at he
   obtain ⟨sa,sc,rfl⟩:=cA ho1
   obtain ⟨ra,rc,rfl⟩:=cA ho2
   subst he
   have hz:=aa hb1 (ag W.drew (.cells #[.int .i64 0,.int .i64 0,.slice none 0 0,.slice none 0 0,.int .i64 0,.int .i64 0] 228))
   have hw1:Below W.heap.size W w1:=gtr hw0 hb1
   go_wp2_with fail
   refine hK.out _ _ (by (try dsimp only);exact HS.out _ hw1) fun hHeld => ?_
   clear hK K
   try simp only [Act.put,zS,zT,zU]
   refine tk 10 ?_ (hy:=by intro w h;unfold mh at h;go_simp;try with_reducible rfl)
   refine tk 11 ?_ (hy:=by intro w h;unfold mh at h;go_simp;try with_reducible rfl)
   refine tk 12 ?_ (hy:=by intro w h;unfold mh at h;go_simp;try with_reducible rfl)
   refine tr 14 fun K hK => ?_
   have HO:=zH (zA (cH ho1) (zA (cH ho2) (zA (gu ho1 hw0.size) (gu ho2 hw0.size))))
   have HZ:=zH (zA hz hw1)
   have hg1:=Nat.le_refl W.heap.size
   obtain ⟨z0,z1,z2,z3,z4,z5,zf⟩:=jN (show w1.heap[W.heap.size]? = _ from hz)
   clear ho1 ho2 hb1 hz
   go_simp
   refine hK.out _ _ (by (try dsimp only);exact HS.out _ (fE HZ.out.2 hg1 _ _ _ _ _ _)) fun hHeld => ?_
   clear hK K
   try simp only [Act.put,zS,zT,zU]
   refine tk 15 ?_ (hy:=by intro w h;unfold mh at h;go_simp;try with_reducible rfl)
   refine wpAnyH_done (by kernel_rfl) ?_ _
   refine NoPanic.normal ?_
   go_wp2
   go_meet
   have n1:some W.heap.size≠(Value.slice sa ch.2.bH.length sc).ownBlock:=fun e=>by
    have:=HO.out.1 _ e.symm
    simp at this
    omega
   have n2:some W.heap.size≠(Value.slice ra ch.2.ay.length rc).ownBlock:=fun e=>by
    have:=HO.out.2.1 _ e.symm
    simp at this
    omega
   exact ⟨rfl,W.heap.size,sa,sc,ra,rc,rfl,fE HZ.out.2 hg1 _ _ _ _ _ _,uS HZ.out.1 _ _ _ _ _ _,hg1,jI HO.out.2.2.1 n1 _ _ _ _ _ _,jI HO.out.2.2.2 n2 _ _ _ _ _ _⟩
 case rest =>
  obtain ⟨rfl,pb,sa,sc,ra,rc,rfl,hbw,hpl,hpb,ho1,ho2⟩:=hcut
  have hb:=gtr HBW.out hbw
  have HSW:=zH hb.size
  have hHl : ∀ i,bP s H i→i<w.heap.size:=H0.out.1.lt
  have HP:=zH (show uZ wc pb ch.2 sa sc ra rc (bP s H) from ⟨hpl,fun hm=>by have:=hHl _ hm;have:=HSZ.out;omega,⟨bj.cX ho1,fun x o f e _ hm=>by
   have:=cH ho1 x (by rw [e];rfl)
   have:=hHl _ hm
   have:=HSZ.out
   omega⟩,⟨bj.cX ho2,fun x o f e _ hm=>by
   have:=cH ho2 x (by rw [e];rfl)
   have:=hHl _ hm
   have:=HSZ.out
   omega⟩⟩)
  have H1:=zH (zA (H0.out.1.aj hb) (zA (H0.out.2.1.step (G':=H) (Step.ah hb)) (zA (show 0<m.an.busy.length→m.an.home<wc.heap.size from fun hl=>zV (H0.out.2.2 hl) hb.size) (show Step (bP s H) (bP s H) w wc from Step.ah hb))))
  clear H0 HCH HS HBW HSZ hbw hpl hpb ho1 ho2 hb hHl hsl vk s0 s1 hr
  replace HQ:=zH (show dO m q S r reads=if ch.1=2202 then (m,q,S,[],2303) else if ch.1≠0 then (m,q,S,[],2304) else if cP reads=true then qA (dQ m q ch.2 reads) S ch.2 else (m,q,S,[],1800) from HQ.out)
  by_cases e1:ch.1=2202
  ·
   replace HQ:=zH (HQ.out.trans (if_pos e1))
   have e1':(ch.1 == 2202)=true:=beq_iff_eq.2 e1
   have HE:=zH e1
   clear e1
   go_wp2
   go_ret2
   rw [HQ.out]
   exact dC.none H1.out.1 H1.out.2.2.2 (show (2303:Int)≠0 by decide)
  ·
   replace HQ:=zH (HQ.out.trans (if_neg e1))
   have e1':(ch.1 == 2202)=false:=zQ e1
   by_cases e2:ch.1≠0
   ·
    replace HQ:=zH (HQ.out.trans (if_pos e2))
    have e2':(ch.1 != 0)=true:=bne_iff_ne.2 e2
    clear e1 e2
    go_wp2
    go_ret2
    rw [HQ.out]
    exact dC.none H1.out.1 H1.out.2.2.2 (show (2304:Int)≠0 by decide)
   ·
    replace HQ:=zH (HQ.out.trans (if_neg e2))
    have e2':(ch.1 != 0)=false:=by simpa using e2
    have HPK:=zH (HOK.out (by simpa using e2))
    clear e1 e2 HOK
    have HR:=zH (fun w' (hb:Below wc.heap.size wc w')=>ou a cap reads w' (H1.out.2.1.step (G':=H) (Step.ah hb)).1 hm)
    cases e3:cP reads with
    | false =>
     replace HQ:=zH (HQ.out.trans (if_neg (by rw [e3];decide)))
     rw [e3] at HR
     clear e3
     go_wp2_with (go_at_call 125;refine (HR.out _ zR).mono ?_;rintro e w1 ⟨rfl,n,rfl⟩)
     go_ret2
     have hb:=aT (Below.refl wc.heap.size wc) n
     rw [HQ.out]
     exact dC.none (H1.out.1.aj hb) (H1.out.2.2.2.trans (Step.ah hb)) (show (1800:Int)≠0 by decide)
    | true =>
     replace HQ:=zH (HQ.out.trans (if_pos e3))
     rw [e3] at HR
     have HE3:=zH e3
     clear e3
     have HW:=zH (fun n=>AD s k c b cap pb m q S H ch.2 sa sc ra rc a reads (wc.drewN n) (H1.out.1.aj (aT zR n)) ok g (fun hl=>H1.out.2.2.1 hl) (H1.out.2.1.step (G':=H) (Step.ah (aT zR n))) hcap HE3.out ((HP.out.step (G:=H) ⟨(Step.ah (F:=bP s H) (aT zR n)).aD,fun i hi=>.inl (.inl hi)⟩)) HPK.out)
     have HX:=zH (fun n=>HP.out.step (G:=bP s H) (Step.ah (aT zR n)))
     generalize dQ m q ch.2 reads=t at *
     obtain ⟨m1,q1,out,er⟩:=t
     unfold qA at HQ
     simp only at HW HQ
     go_upto_region 9 with (first
      | (go_at_call 125;refine (HR.out _ zR).mono ?_;rintro e w1 ⟨rfl,n,rfl⟩;have hn:=aT (Below.refl wc.heap.size wc) n)
      | (go_at_call 134;refine (HW.out _).mono ?_;rintro e w2 ⟨v,rfl,hv0,H2,hs2,st2,how⟩))
     have st0:=H1.out.2.2.2.trans ((Step.ah hn).trans st2.kC)
     have hsz:=H1.out.2.2.2.gA
     have HP2:=zH ((HX.out n).step st2.kC)
     have hfar : ∀ g,v.ownBlock=some g→er=0 → ¬ bP s H2 g:=fun g hg he hm=>by
      rcases hm with hm | rfl
      ·
       exact (how he).2 g hg hm
      ·
       have h1:=cH (how he).1 g hg
       have h2:=(H1.out.1.aj hn).lt g (.inr rfl)
       omega
     have HW2:=zH (zA hs2 (zA st0 (zA how hfar)))
     clear hs2 st2 how hfar st0 hsz
     by_cases ke:er=0
     ·
      have HK:=zH ke
      subst ke
      replace HQ:=zH (HQ.out.trans (if_neg (by simp)))
      obtain ⟨oa,oc,rfl⟩:=cA (HW2.out.2.2.1 rfl).1
      have HO:=zH (zA (HW2.out.2.2.1 rfl).1 (fun g hg=>HW2.out.2.2.2 g hg rfl))
      obtain ⟨r0,r1,r2,r3,r4,r5,rf⟩:=jN HP2.out.at_
      have HD:=zH (fun w' (hb:Below w2.heap.size w2 w')=>(hb.cell (p:=⟨pb,1,none⟩) (aV HP2.out.at_)).trans r1)
      have HB:=zH (fun w' (hb:Below w2.heap.size w2 w')=>rM s k c b pb m1 q1 S H2 ch.2 _ ra rc w' (HW2.out.1.aj hb) (aa hb HP2.out.at_) (HP2.out.ay.at_.aj hb) (Nat.le_trans HPK.out.I9 (by decide)) HFW.out)
      have HC:=zH (fun w' (hb:Below w2.heap.size w2 w') va vc hr=>og s k c b m1 q1 S H2 ch.2.aq (ix S ch.2) va vc w' (HW2.out.1.aj hb) hr)
      clear r0 r2 r3 r4 r5 rf hv0
      go_upto_region 11 with fail
      go_region_with (first
       | (go_at_call 135;refine (HB.out _ (by first | exact aw zR | exact Below.refl _ _)).mono ?_;rintro e w3 ⟨va,vc,rfl,ho3,hb3⟩;have hb4:=gtr (aw (Below.refl w2.heap.size w2)) hb3;have d1:=HD.out _ hb4;have hr3:dM w3 va vc (ix S ch.2).ay (xQ X s H2):=dM.cX ho3 (fun i hi=>hi.elim (fun hm=>HW2.out.1.lt i hm) (fun h=>HW2.out.1.both.Ja i h));clear ho3 hb3)
       | (go_at_call 92;refine (HC.out _ hb4 _ _ hr3).mono ?_;rintro e w4 ⟨rfl,H3,hs3,st3⟩;have HF:=zH (zA hs3 ((Step.ah hb4).trans st3));clear hs3 st3 hb4 d1 hr3))
      all_goals
       go_wp2
       go_ret2
       rw [HQ.out]
       exact ⟨_,rfl,fun h=>absurd rfl h,H3,HF.out.1,HW2.out.2.1.trans HF.out.2,fun _=>⟨cT (gu HO.out.1 HSW.out) HF.out.2.aD HO.out.2,fun g hg=>HF.out.2.safe (kF HO.out.1 g hg) (HO.out.2 g hg)⟩⟩
     ·
      have HE:=zH ke
      have hne:(er != 0)=true:=bne_iff_ne.2 ke
      replace HQ:=zH (HQ.out.trans (if_pos ke))
      clear ke
      go_wp2_with (go_at_call 88;refine (mE s k c b m1 q1 S H2 er w2 HW2.out.1).mono ?_;rintro e w3 ⟨rfl,H3,hs3,st3⟩)
      go_ret2
      rw [HQ.out]
      exact dC.none hs3 (HW2.out.2.1.trans st3) HE.out
end
section
open Go.RowKit
variable {X:Nat→Prop}
def au.Fit (S:au):Prop:=S=shut∨(S.opened=true∧4≤S.aq∧S.aq<8∧S.view.Ok)
def iR (m:aB) (q:Cache) (S:au) (key value:ByteArray) (reads:List Int):aB×Cache×au×List Int×Int :=
 if cJ S key≠0 then (m,q,S,[],cJ S key) else if 20<value.size then (m,q,S,[],2301) else dO m q S ⟨1,0,key,value⟩ reads
def iP (m:aB) (q:Cache) (S:au) (key:ByteArray) (reads:List Int):aB×Cache×au×List Int×Int :=
 if cJ S key≠0 then (m,q,S,[],cJ S key) else dO m q S ⟨2,0,key,⟨#[]⟩⟩ reads
theorem gP {S:au} {key:ByteArray} (h:cJ S key=0):S.opened=true∧1≤key.size∧key.size≤6:=by
 unfold cJ at h
 split at h
 ·
  cases h
 ·
  rename_i ho
  split at h
  ·
   rename_i hk
   exact ⟨by simpa using ho,hk⟩
  ·
   cases h
theorem jF {S:au} (f:S.Fit) (h:S.opened=true):4≤S.aq∧S.aq<8∧S.view.Ok:=by
 rcases f with rfl | f
 ·
  cases h
 ·
  exact f.2
theorem qa {key value:ByteArray} (h1:1≤key.size) (h2:key.size≤6) (h3:value.size≤20):gI ⟨1,0,key,value⟩:=by
 refine ⟨?_,show (1:Int)≠0 by decide⟩
 unfold bz zK
 simp [h1,h2,h3]
theorem DC:kE ⟨#[]⟩=true:=by
 unfold kE
 rw [ByteArray.toList_eq]
 rfl
theorem vA {key:ByteArray} (h1:1≤key.size) (h2:key.size≤6):gI ⟨2,0,key,⟨#[]⟩⟩:=by
 refine ⟨?_,show (2:Int)≠0 by decide⟩
 unfold bz zK
 simp [h1,h2,DC]
theorem xd (s k c b cap:Nat) (m:aB) (q:Cache) (S:au) (H:Nat→Prop) (key value:ByteArray) (a:Option Addr) (reads:List Int) (w:World) (h:Sys X w s k c b m q S H) (ok:m.Ok) (g:q.Good) (hh:0<m.an.busy.length→m.an.home<w.heap.size) (hi:aJ w a reads H) (hcap:reads.length≤cap) (hm:reads.length≤1000000) (hv:value.size<140737488355328) (fit:S.Fit):Calls prog 59 #[.pointer (some ⟨s,0,none⟩),.string key,.string value,.slice a reads.length cap] w (dC X s k c b (iR m q S key value reads).1 (iR m q S key value reads).2.1 (iR m q S key value reads).2.2.1 (iR m q S key value reads).2.2.2.1 (iR m q S key value reads).2.2.2.2 H w):=by
 have HA:=zH (fun w h=>nA (X:=X) s k c b m q S H key w h)
 have HQ:=zH (show iR m q S key value reads=if cJ S key≠0 then (m,q,S,[],cJ S key) else if 20<value.size then (m,q,S,[],2301) else dO m q S ⟨1,0,key,value⟩ reads from rfl)
 have HC:=zH (fun he hl=>have hz:=gP he;have hf:=jF fit hz.1;qB s k c b cap m q S H ⟨1,0,key,value⟩ a reads w h ok g hh hi hcap hm hf.2.2 hf.1 hf.2.1 (qa hz.2.1 hz.2.2 hl))
 have H0:=zH h
 clear h hi hh ok g fit hcap hm
 by_cases e1:cJ S key=0
 ·
  replace HQ:=zH (HQ.out.trans (if_neg (by simpa using e1)))
  replace HC:=zH (HC.out e1)
  rw [e1] at HA
  clear e1
  by_cases e2:20<value.size
  ·
   replace HQ:=zH (HQ.out.trans (if_pos e2))
   have e2':(20:Int)<value.size:=by omega
   clear e2
   go_enter func59,ntmps59
   go_wp2_with (go_at_call 93;refine (HA.out _ H0.out).mono ?_;rintro e w1 ⟨rfl,rfl⟩)
   go_ret2
   rw [HQ.out]
   exact dC.none H0.out (Step.refl _ _) (show (2301:Int)≠0 by decide)
  ·
   replace HQ:=zH (HQ.out.trans (if_neg e2))
   have e2' : ¬ (20:Int)<value.size:=by omega
   replace HC:=zH (HC.out (by omega))
   unfold aS.cells at HC
   clear e2
   go_enter func59,ntmps59
   go_wp2_with (first
    | (go_at_call 93;refine (HA.out _ H0.out).mono ?_;rintro e w1 ⟨rfl,rfl⟩)
    | (go_at_call 94;refine HC.out.mono ?_;rintro e w2 ⟨v,rfl,hr⟩;have HR:=zH hr;clear hr))
   go_ret2
   rw [HQ.out]
   exact ⟨_,rfl,HR.out⟩
 ·
  replace HQ:=zH (HQ.out.trans (if_pos e1))
  have hne:(cJ S key != 0)=true:=bne_iff_ne.2 e1
  have HE:=zH e1
  clear e1
  generalize cJ S key=er at *
  go_enter func59,ntmps59
  go_wp2_with (go_at_call 93;refine (HA.out _ H0.out).mono ?_;rintro e w1 ⟨rfl,rfl⟩)
  go_ret2
  rw [HQ.out]
  exact dC.none H0.out (Step.refl _ _) HE.out
theorem wY (s k c b cap:Nat) (m:aB) (q:Cache) (S:au) (H:Nat→Prop) (key:ByteArray) (a:Option Addr) (reads:List Int) (w:World) (h:Sys X w s k c b m q S H) (ok:m.Ok) (g:q.Good) (hh:0<m.an.busy.length→m.an.home<w.heap.size) (hi:aJ w a reads H) (hcap:reads.length≤cap) (hm:reads.length≤1000000) (fit:S.Fit):Calls prog 61 #[.pointer (some ⟨s,0,none⟩),.string key,.slice a reads.length cap] w (dC X s k c b (iP m q S key reads).1 (iP m q S key reads).2.1 (iP m q S key reads).2.2.1 (iP m q S key reads).2.2.2.1 (iP m q S key reads).2.2.2.2 H w):=by
 have HA:=zH (fun w h=>nA (X:=X) s k c b m q S H key w h)
 have HQ:=zH (show iP m q S key reads=if cJ S key≠0 then (m,q,S,[],cJ S key) else dO m q S ⟨2,0,key,⟨#[]⟩⟩ reads from rfl)
 have HC:=zH (fun he=>have hz:=gP he;have hf:=jF fit hz.1;qB s k c b cap m q S H ⟨2,0,key,⟨#[]⟩⟩ a reads w h ok g hh hi hcap hm hf.2.2 hf.1 hf.2.1 (vA hz.2.1 hz.2.2))
 have H0:=zH h
 clear h hi hh ok g fit hcap hm
 by_cases e1:cJ S key=0
 ·
  replace HQ:=zH (HQ.out.trans (if_neg (by simpa using e1)))
  replace HC:=zH (HC.out e1)
  rw [e1] at HA
  unfold aS.cells at HC
  clear e1
  go_enter func61,ntmps61
  go_wp2_with (first
   | (go_at_call 93;refine (HA.out _ H0.out).mono ?_;rintro e w1 ⟨rfl,rfl⟩)
   | (go_at_call 94;refine HC.out.mono ?_;rintro e w2 ⟨v,rfl,hr⟩;have HR:=zH hr;clear hr))
  go_ret2
  rw [HQ.out]
  exact ⟨_,rfl,HR.out⟩
 ·
  replace HQ:=zH (HQ.out.trans (if_pos e1))
  have hne:(cJ S key != 0)=true:=bne_iff_ne.2 e1
  have HE:=zH e1
  clear e1
  generalize cJ S key=er at *
  go_enter func61,ntmps61
  go_wp2_with (go_at_call 93;refine (HA.out _ H0.out).mono ?_;rintro e w1 ⟨rfl,rfl⟩)
  go_ret2
  rw [HQ.out]
  exact dC.none H0.out (Step.refl _ _) HE.out
end
section
open Go.RowKit Go
section
variable {P:Program} {ops:Array Oper} {Q:Exit→Act→World→Prop} {md:Region.Mode} {S:World→Prop}
def qN (R done:List Nat):List Nat:=R.filter fun i => !done.contains i
theorem Dx {R done:List Nat} {i:Nat} (hi:i ∈ R) (hd:i ∉ done):(qN R (done++[i])).length<(qN R done).length :=
 filter_lt (fun j => !done.contains j) (fun j => !(done++[i]).contains j) (fun x hx=>by
  simp only [List.contains_eq_mem,List.mem_append,Bool.not_eq_true',decide_eq_false_iff_not,not_or] at hx ⊢
  exact hx.1) i (by simpa using hd) (by simp) R hi
theorem sx {R done:List Nat} {i:Nat}:i ∈ qN R done ↔ i ∈ R∧i ∉ done:=by
 unfold qN
 simp
def ID (md:Region.Mode) (ops:Array Oper) (listed fin:Array Bool) (R:List Nat):Bool :=
 listed.size == ops.size&&fin.size == ops.size&&(List.range ops.size).all (fun j=>R.contains j || (listed.getD j true == fin.getD j true))&&R.all fun i=>decide (i<ops.size)&&(listed.getD i true == false)&&(fin.getD i false == true)&&match ops[i]? with | none=>false | some o=>o.dst.isNone&&o.after.all fun e => !Region.binds md e || (listed.getD e.on false && !R.contains e.on)
def Ce (md:Region.Mode) (ops:Array Oper) (listed:Array Bool) (R:List Nat):Bool :=
 (List.range ops.size).all fun j=>R.contains j || listed.getD j true || match ops[j]? with | none=>true | some o=>R.all fun i=>o.after.any fun e=>Region.binds md e&&e.on == i
theorem lu {listed fin:Array Bool} {R:List Nat} {a:Act} (hok:ID md ops listed fin R=true) (honly:Ce md ops listed R=true) (hne:R≠[]) (Inv:List Nat→World→Prop) (hstep : ∀ done i w o,i ∈ R→i ∉ done→ops[i]? = some o→Inv done w→S w→Region.wanted o (yielded ops a.tmps)=true ∧ ∃ w',(execOp a.eval o).run P w=.ok .skip w'∧Inv (done++[i]) w'∧S w') {fuel:Nat} (hend : ∀ k done w,(∀ i ∈ R,i ∈ done)→Inv done w→S w→wpAnyH P md ops Q S (k+fuel) fin a w) {w:World} (h0:Inv [] w) (hS:S w):wpAnyH P md ops Q S (R.length+fuel) listed a w:=by
 unfold ID at hok
 simp only [Bool.and_eq_true,beq_iff_eq,List.all_eq_true,List.mem_range,Bool.or_eq_true,List.contains_eq_mem,decide_eq_true_eq] at hok
 obtain ⟨⟨⟨hz,hzf⟩,hsame⟩,hR⟩:=hok
 unfold Ce at honly
 simp only [List.all_eq_true,List.mem_range,Bool.or_eq_true,List.contains_eq_mem,decide_eq_true_eq] at honly
 have hall : ∀ done,qN R done=[] → ∀ i ∈ R,i ∈ done:=fun done h0 i hi=>by
  by_cases hd:i ∈ done
  ·
   exact hd
  ·
   have:i ∈ qN R done:=sx.2 ⟨hi,hd⟩
   rw [h0] at this
   cases this
 have hfin : ∀ (done:List Nat) (cur:Array Bool),cur.size=ops.size→(∀ j,j<ops.size→cur.getD j true=(listed.getD j true || (decide (j ∈ R)&&decide (j ∈ done))))→(∀ i ∈ R,i ∈ done)→cur=fin:=fun done cur hcz hc hall=>by
  refine Array.ext (by rw [hcz,hzf]) fun j h1 h2 => ?_
  have hj:j<ops.size:=by rw [← hcz];exact h1
  have e:=hc j hj
  rw [Array.getD_eq_getD_getElem?,Array.getElem?_eq_getElem h1] at e
  simp only [Option.getD_some] at e
  rw [e]
  by_cases hjR:j ∈ R
  ·
   have:=(hR j hjR).1.2
   rw [Array.getD_eq_getD_getElem?,Array.getElem?_eq_getElem h2] at this
   simp only [Option.getD_some] at this
   rw [this,decide_eq_true hjR,decide_eq_true (hall j hjR)]
   simp
  ·
   have:=(hsame j hj).resolve_left hjR
   rw [this,Array.getD_eq_getD_getElem?,Array.getElem?_eq_getElem h2,decide_eq_false hjR]
   simp
 have key : ∀ (n:Nat) (done:List Nat) (cur:Array Bool) (w:World),(qN R done).length≤n→cur.size=ops.size→(∀ j,j<ops.size→cur.getD j true=(listed.getD j true || (decide (j ∈ R)&&decide (j ∈ done))))→Inv done w→S w→wpAnyH P md ops Q S (n+fuel) cur a w:=by
  intro n
  induction n with
  | zero =>
   intro done cur w hn hcz hc hI hSw
   have h0:qN R done=[]:=List.length_eq_zero_iff.1 (by omega)
   have:=hfin done cur hcz hc (hall done h0)
   subst this
   exact hend 0 done w (hall done h0) hI hSw
  | succ m ih =>
   intro done cur w hn hcz hc hI hSw
   by_cases h0:qN R done=[]
   ·
    have:=hfin done cur hcz hc (hall done h0)
    subst this
    exact hend (m+1) done w (hall done h0) hI hSw
   ·
    rw [Nat.add_right_comm]
    show wpAnyH P md ops Q S (m+fuel+1) cur a w
    have hrdy : ∀ i,i ∈ R→i ∉ done→i ∈ Region.ready md ops cur:=fun i hi hd=>by
     have hRi:=hR i hi
     rw [mem_ready]
     refine ⟨by rw [hc i hRi.1.1.1,hRi.1.1.2,decide_eq_false hd];simp,?_⟩
     have:=hRi.2
     revert this
     cases ho:ops[i]? with
     | none=>intro h;cases h
     | some o =>
      intro h
      simp only [Bool.and_eq_true] at h
      refine ⟨o,rfl,fun e he hb => ?_⟩
      have h2:=Array.all_eq_true_iff_forall_mem.1 h.2 e he
      simp only [hb,Bool.not_true,Bool.false_or,Bool.and_eq_true,Bool.not_eq_true',decide_eq_false_iff_not] at h2
      have hlt:e.on<ops.size:=by
       rcases Nat.lt_or_ge e.on ops.size with h | h
       ·
        exact h
       ·
        have:=h2.1
        rw [Array.getD_eq_getD_getElem?,Array.getElem?_eq_none (by rw [hz];exact h)] at this
        cases this
      have h3:=hc e.on hlt
      rw [Array.getD_eq_getD_getElem?,Array.getElem?_eq_getElem (by rw [hcz];exact hlt)] at h3 ⊢
      have h4:=h2.1
      rw [Array.getD_eq_getD_getElem?,Array.getElem?_eq_getElem (by rw [hz];exact hlt)] at h4
      rw [Array.getD_eq_getD_getElem?,Array.getElem?_eq_getElem (by rw [hz];exact hlt)] at h3
      simp only [Option.getD_some] at h3 h4 ⊢
      rw [h3,h4,Bool.true_or]
    refine ⟨fun hr => ?_,fun i hi => ?_⟩
    ·
     exfalso
     obtain ⟨i,hi⟩:=List.exists_mem_of_ne_nil _ h0
     obtain ⟨h1,h2⟩:=sx.1 hi
     have:=hrdy i h1 h2
     rw [hr] at this
     cases this
    ·
     obtain ⟨hun,o,ho,hdeps⟩:=mem_ready.1 hi
     have hlt:i<ops.size:=(Array.getElem?_eq_some_iff.1 ho).1
     rw [hc i hlt] at hun
     have hiR:i ∈ R:=by
      by_cases hiR:i ∈ R
      ·
       exact hiR
      ·
       exfalso
       rw [Bool.or_eq_false_iff] at hun
       rcases honly i hlt with (h | h) | h
       ·
        exact hiR h
       ·
        rw [hun.1] at h;cases h
       ·
        rw [ho] at h
        simp only [List.all_eq_true] at h
        obtain ⟨k,hk⟩:=List.exists_mem_of_ne_nil _ h0
        obtain ⟨h1,h2⟩:=sx.1 hk
        obtain ⟨e,he,hb⟩:=Array.any_eq_true'.1 (h k h1)
        simp only [Bool.and_eq_true,beq_iff_eq] at hb
        have h3:=hdeps e he hb.1
        have hkl:k<ops.size:=(hR k h1).1.1.1
        rw [hb.2,Array.getD_eq_getD_getElem?,Array.getElem?_eq_getElem (by rw [hcz];exact hkl)] at h3
        have h4:=hc k hkl
        rw [Array.getD_eq_getD_getElem?,Array.getElem?_eq_getElem (by rw [hcz];exact hkl),(hR k h1).1.1.2,decide_eq_false h2] at h4
        simp only [Option.getD_some] at h3 h4
        rw [h3] at h4
        simp at h4
     have hid:i ∉ done:=by
      intro hd
      rw [decide_eq_true hiR,decide_eq_true hd] at hun
      simp at hun
     obtain ⟨hw,w',hrun,hI',hS'⟩:=hstep done i w o hiR hid ho hI hSw
     have hdst:o.dst=none:=by
      have:=(hR i hiR).2
      rw [ho] at this
      simp only [Bool.and_eq_true,Option.isNone_iff_eq_none] at this
      exact this.1
     unfold wpOp
     simp only [ho,hw,if_true]
     refine .inl ?_
     unfold Oper.wp
     rw [hrun,Oper.upon_skip,hdst]
     refine ⟨hS',?_⟩
     have hll:=Dx hiR hid
     refine ih (done++[i]) (cur.setIfInBounds i true) w' (by omega) (by rw [Array.size_setIfInBounds,hcz]) (fun j hj => ?_) hI' hS'
     rw [Array.getD_eq_getD_getElem?,Array.getElem?_setIfInBounds]
     by_cases e:i=j
     ·
      subst e
      rw [if_pos rfl,if_pos (by rw [hcz];exact hj),decide_eq_true hiR,decide_eq_true (show i ∈ done++[i] by simp)]
      simp
     ·
      rw [if_neg e,← Array.getD_eq_getD_getElem?,hc j hj]
      have:decide (j ∈ done++[i])=decide (j ∈ done):=by
       have:j≠i:=fun h=>e h.symm
       simp [this]
      rw [this]
 exact key R.length [] listed w (List.length_filter_le _ _) hz (fun j hj=>by simp) h0 hS
end
structure pj (w:World) (g:Nat) (ps:List (UInt8×Bool)):Prop where
 ex : ∃ es,w.heap[g]? = some (.map es ps.length)∧MapKept.Stamped es ps.length∧es.toList.map (fun e=>(e.key,e.val))=ps.map fun p=>(Value.string ⟨#[p.1]⟩,Value.bool p.2)
theorem pj.keys {es:Array MapEntry} {ps:List (UInt8×Bool)} (h:es.toList.map (fun e=>(e.key,e.val))=ps.map fun p=>(Value.string ⟨#[p.1]⟩,Value.bool p.2)) {e:MapEntry} (he:e ∈ es.toList) : ∃ p ∈ ps,e.key=.string ⟨#[p.1]⟩∧e.val=.bool p.2:=by
 have:(e.key,e.val) ∈ es.toList.map (fun e=>(e.key,e.val)):=List.mem_map.2 ⟨e,he,rfl⟩
 rw [h] at this
 obtain ⟨p,hp,hq⟩:=List.mem_map.1 this
 simp only [Prod.mk.injEq] at hq
 exact ⟨p,hp,hq.1.symm,hq.2.symm⟩
theorem pj.insert {P:Program} {mty kt et:TypeId} (hm:P.underlying mty=some (.map kt et)) (hk:P.underlying kt=some .string) {w:World} {g:Nat} {ps:List (UInt8×Bool)} (h:pj w g ps) (p:UInt8×Bool) (hp:p.1 ∉ ps.map Prod.fst) : ∃ w',(Instr.mapUpdate mty (.map (some g)) (.string ⟨#[p.1]⟩) (.bool p.2)).run P w=.ok () w'∧pj w' g (ps++[p]) ∧ ∀ N w0,Below N w0 w→N≤g→Below N w0 w':=by
 obtain ⟨es,hb,hs,he⟩:=h.ex
 have hne : ∀ x ∈ es.toList,x.key≠.string ⟨#[p.1]⟩:=fun x hx=>by
  obtain ⟨q,hq,h1,_⟩:=pj.keys he hx
  rw [h1]
  intro e
  simp only [Value.string.injEq,ByteArray.mk.injEq,Array.mk.injEq,List.cons.injEq,and_true] at e
  exact hp (List.mem_map.2 ⟨q,hq,e⟩)
 have hik : ∀ x ∈ es.toList,MapKept.IsKey .string x.key:=fun x hx=>by
  obtain ⟨q,hq,h1,_⟩:=pj.keys he hx
  rw [h1]
  simp [MapKept.IsKey]
 have hf:Instr.findNow .string (.string ⟨#[p.1]⟩) es.toList 0=some none:=by
  rcases MapKept.findNow_spec (d:=.string) (k:=.string ⟨#[p.1]⟩) (by simp [MapKept.IsKey]) es.toList 0 hik with h | ⟨j,e,_,h2,h3⟩
  ·
   exact h.1
  ·
   exact absurd h3 (hne e (List.mem_of_getElem? h2))
 have hc:(Instr.checkKey false 10000 kt (.string ⟨#[p.1]⟩)).run P w=.ok () w:=MapKept.run_checkKey (k:=.string ⟨#[p.1]⟩) hk (by simp [MapKept.IsKey]) false 9999
 have hlt:g<w.heap.size:=(Array.getElem?_eq_some_iff.1 hb).1
 refine ⟨{ w with heap:=w.heap.setIfInBounds g (.map (es.push { key:=.string ⟨#[p.1]⟩,val:=.bool p.2,born:=ps.length }) (ps.length+1)) },?_,?_,fun N w0 hbl hN => ?_⟩
 ·
  simp [Instr.mapUpdate,run_underlying hm,MapKept.run_getObj_map hb,hc,MapKept.run_findKey hk hf,MapKept.run_setObj_map _ hb,Result.andThen]
 ·
  refine ⟨⟨_,by rw [List.length_append];exact (MapKept.heap_set hb).1,by rw [List.length_append];exact MapKept.stamped_push hs hne,by simp [he]⟩⟩
 ·
  refine ⟨hbl.os,hbl.tape,hbl.output,by rw [Array.size_setIfInBounds];exact hbl.size,fun k hkN => ?_⟩
  rw [Array.getElem?_setIfInBounds_ne (by omega)]
  exact hbl.block k hkN
end
def j6 (s:ByteArray):af:=⟨s,false,false,false,false,false,none,[],⟨0,0,false,0,0,false⟩,0,0,0,0,0,false,[],0,0,false,0⟩
def rh (s:ByteArray):Raw:=⟨s,false,false,0,0,0,0,0,0,0,0,0,0,0,⟨#[]⟩,false,false,false,none,.slice none 0 0,⟨0,0,false,0,0,false⟩,0,0,0,0,0,false,.slice none 0 0,0,0,false⟩
theorem Hr {w:World} {c:Nat} {s:ByteArray} (h:aP w c (rh s)):aO w c (j6 s) (aM c):=by
 refine ⟨⟨rh s,h,⟨rfl,rfl,rfl,rfl,rfl,rfl,rfl,rfl,rfl,rfl,rfl,rfl,rfl,rfl,rfl,rfl,.inl ⟨rfl,rfl,rfl⟩⟩,?_,⟨none,0,rfl,fun i hi => ?_,fun b o e => ?_,fun _=>rfl,Nat.le_refl _,fun b o e => ?_⟩,zN,rfl,fun b e => ?_,fun g e => ?_⟩,fun b hb => ?_⟩
 ·
  rfl
 ·
  simp [j6] at hi
 ·
  simp at e
 ·
  simp at e
 ·
  simp [rh] at e
 ·
  simp [rh,Value.ownBlock] at e
 ·
  rw [show b=c from hb];exact h.lt
theorem pq (s:ByteArray) (w:World) (hs:s.size=4096):Calls prog 28 #[.string s] w fun e w' => ∃ c,e=.returned (.tuple #[.pointer (some ⟨c,0,none⟩),.int .i64 0])∧aO w' c (j6 s) (aM c)∧Below w.heap.size w w'∧w.heap.size≤c:=by
 have HM:=zH (lC s w)
 rw [decide_eq_true hs] at HM
 go_enter func28,ntmps28
 go_wp2_with fail
 refine HM.out.mono ?_
 rintro e w1 ⟨rfl,rfl⟩
 go_wp2
 go_ret2
 exact ⟨w1.heap.size,rfl,Hr (ag w1 _),ae zR _,Nat.le_refl _⟩
end Go.Proofs.YtcfdenckiigdaaaGreat

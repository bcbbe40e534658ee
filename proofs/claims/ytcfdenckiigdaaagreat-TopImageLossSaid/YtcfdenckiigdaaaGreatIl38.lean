/- Part 38 of the contracts. -/
import Derived.Test.YtcfdenckiigdaaaGreatIl37
set_option linter.unusedVariables false
set_option maxRecDepth 100000
set_option maxHeartbeats 4000000
namespace Go.Proofs.YtcfdenckiigdaaaGreat
section
structure Lay (x:ByteArray) (sec:Nat) (V:qaA):Prop where
 size:x.size=4096
 s0:4≤sec
 s1:sec<8
 view:qbb x sec=V
 good:V.good=true
 dead : ∀ j,4≤j→j<8→j≠sec→Dead (qa6 x j 0) V.epoch
structure qvv (x:ByteArray):Prop where
 size:x.size=4096
 dead : ∀ j,4≤j→j<8→Dead (qa6 x j 0) 1
theorem qgg (x:ByteArray) (j:Nat):(qbb x j).good=(qaB (qfE x j)).1:=by simp only [qbb,scanR]
theorem qe3 (x:ByteArray) (j:Nat):(qbb x j).epoch=(qaB (qfE x j)).2:=by simp only [qbb,scanR]
theorem qi2 (x:ByteArray) (j:Nat):(qbb x j).recs=scanRecs (qfE x j) 7:=by simp only [qbb,scanR]
theorem qi1 (x:ByteArray) (j:Nat):(qbb x j).free=qat (qfE x j) 7:=by simp only [qbb,scanR]
theorem qrh {x:ByteArray} {j:Nat} (h:(qbb x j).good=true) : ∃ r,qaZ (qa6 x j 0)=some r∧r.kind=0∧(qbb x j).epoch=r.epoch:=by
 rw [qgg] at h
 rw [qe3]
 unfold qaB at h ⊢
 rw [qcF _ _ _ (by omega)] at h ⊢
 cases hr:qaZ (qa6 x j 0) with
 | none=>rw [hr] at h;cases h
 | some r =>
  rw [hr] at h
  by_cases hk:r.kind=0
  ·
   refine ⟨r,rfl,hk,?_⟩
   simp [hk]
  ·
   simp [hk] at h
theorem qqT {x:ByteArray} {j:Nat} {E:Int} (h:Dead (qa6 x j 0) E) (hg:(qbb x j).good=true):(qbb x j).epoch<E:=by
 obtain ⟨r,h1,h2,h3⟩:=qrh hg
 rw [h3]
 exact h _ r (Sup.refl _) h1 h2
theorem qtc {r:qaL} (h:qas r=true) (hk:r.kind=0):1≤r.epoch∧r.epoch≤1048576∧r=headRec r.epoch:=by
 obtain ⟨k,e,key,value⟩:=r
 subst hk
 unfold qas at h
 simp only [if_true,Bool.and_eq_true,qgT,decide_eq_true_eq] at h
 refine ⟨h.1.1.1,h.1.1.2,?_⟩
 rw [qeo h.1.2,qeo h.2]
 rfl
theorem qlF {x:ByteArray} {j:Nat} (hg:(qbb x j).good=true):1≤(qbb x j).epoch∧(qbb x j).epoch≤1048576∧qa6 x j 0=recText (headRec (qbb x j).epoch):=by
 obtain ⟨r,h1,h2,h3⟩:=qrh hg
 obtain ⟨h4,h5⟩:=qiI h1
 obtain ⟨h6,h7,h8⟩:=qtc h4 h2
 rw [h3]
 exact ⟨h6,h7,by rw [h5];exact congrArg recText h8⟩
theorem Lay.epoch {x:ByteArray} {sec:Nat} {V:qaA} (h:Lay x sec V):1≤V.epoch∧V.epoch≤1048576∧qa6 x sec 0=recText (headRec V.epoch):=by
 have:=qlF (x:=x) (j:=sec) (by rw [h.view];exact h.good)
 rw [h.view] at this
 exact this
theorem Lay.old {x:ByteArray} {sec:Nat} {V:qaA} (h:Lay x sec V) : ∀ j,4≤j→j<8→Dead (qa6 x j 0) (V.epoch+1):=fun j h4 h8=>by
 by_cases e:j=sec
 ·
  obtain ⟨h1,h2,h3⟩:=h.epoch
  rw [e,h3]
  exact qqU (qb6 h1 h2) (by show V.epoch<V.epoch+1;omega)
 ·
  exact (h.dead j h4 h8 e).mono (by omega)
theorem qsN {vs:List qaA} (h : ∀ (j:Nat) (U:qaA),vs[j]? = some U→U.good=false) (n:Nat):qec vs n=none:=by
 cases hb:qec vs n with
 | none=>rfl
 | some k =>
  obtain ⟨_,U,h2,h3⟩:=qeJ vs n k hb
  rw [h k U h2] at h3
  cases h3
def qmz (x:ByteArray):List qaA:=[qbb x 4,qbb x 5,qbb x 6,qbb x 7]
def qla (x:ByteArray):Option (Int×qaA):=(qec (qmz x) 4).map fun (k:Nat)=>(4+(k:Int),(qmz x).getD k qaC)
theorem qoV (x:ByteArray) (k:Nat):(qmz x)[k]? = if k<4 then some (qbb x (4+k)) else none:=by
 match k with
 | 0=>rfl
 | 1=>rfl
 | 2=>rfl
 | 3=>rfl
 | k+4=>rw [if_neg (by omega)];rfl
theorem qlh {x:ByteArray} (h:qvv x):qla x=none:=by
 unfold qla
 rw [qsN fun j U hj => ?_]
 ·
  rfl
 ·
  rw [qoV] at hj
  split at hj
  ·
   rename_i hl
   obtain rfl:qbb x (4+j)=U:=by simpa using hj
   cases hg:(qbb x (4+j)).good with
   | false=>rfl
   | true =>
    have:=qqT (h.dead (4+j) (by omega) (by omega)) hg
    have:=(qlF hg).1
    omega
  ·
   cases hj
theorem qj2 {x y:ByteArray} {sec f:Nat} (h1:1≤f) (hf:f<8) (hv:(qbb x sec).free=(f:Int)) (hs:qcn x y (sec * 512+f * 64) 64):qa6 x sec f=ffs 64∧(qbb y sec).good=(qbb x sec).good∧(qbb y sec).epoch=(qbb x sec).epoch∧(qbb y sec).recs=(qbb x sec).recs++qbg (qfE y sec) f∧(qbb y sec).free=if qa6 y sec f=ffs 64 then (f:Int) else ((f+1:Nat):Int):=by
 have hsz : ∀ z,(qfE z sec).size=512:=fun z=>qbn _ _
 have hv':qat (qfE x sec) 7=(f:Int):=by rw [← qi1];exact hv
 have hb : ∀ i,f≤i→i≤7→qbC (qfE x sec) i=ffs 64:=fun i h2 h3=>qjS (hsz x) 7 (Nat.le_refl _) i (by omega) h3 (by omega)
 have hsame : ∀ i,i<8→i≠f→qbC (qfE y sec) i=qbC (qfE x sec) i:=fun i hi hne=>by
  rw [qcF _ _ _ hi,qcF _ _ _ hi]
  exact hs.slot hf hi (by omega)
 have hfy:qbC (qfE y sec) f=qa6 y sec f:=qcF _ _ _ hf
 have hhead:qaB (qfE y sec)=qaB (qfE x sec):=qjn (hsame 0 (by omega) (by omega))
 obtain ⟨g,rfl⟩ : ∃ g,f=g+1:=⟨f - 1,by omega⟩
 refine ⟨by rw [← qcF _ _ _ hf];exact hb _ (Nat.le_refl _) (by omega),by rw [qgg,qgg,hhead],by rw [qe3,qe3,hhead],?_,?_⟩
 ·
  rw [qi2,qi2,qcx (a:=g+1) 7 (by omega) fun i h2 h3=>by rw [hsame i (by omega) (by omega)];exact hb i (by omega) h3,qcx (a:=g) 7 (by omega) fun i h2 h3=>hb i (by omega) h3]
  show scanRecs (qfE y sec) g++_=_
  rw [qfg g fun i h2 h3=>hsame i (by omega) (by omega)]
 ·
  rw [qi1,qcw (a:=g+1) 7 (by omega) fun i h2 h3=>by rw [hsame i (by omega) (by omega)];exact hb i (by omega) h3]
  show (if qds (qbC (qfE y sec) (g+1))=true then qat (qfE y sec) g else _)=_
  rw [qff g fun i h2 h3=>hsame i (by omega) (by omega),hfy]
  have e:=qcw (s:=qfE x sec) (a:=g) 7 (by omega) fun i h2 h3=>hb i (by omega) h3
  rw [hv'] at e
  by_cases hbl:qa6 y sec (g+1)=ffs 64
  ·
   rw [if_pos ((qed (qbW _ _ _)).2 hbl),if_pos hbl,e]
  ·
   rw [if_neg (fun k=>hbl ((qed (qbW _ _ _)).1 k)),if_neg hbl]
theorem qoU {V U:qaA} (h1:V.good=U.good) (h2:V.epoch=U.epoch) (h3:V.recs=U.recs) (h4:V.free=U.free):V=U:=by
 obtain ⟨a,b,c,d⟩:=V
 obtain ⟨a',b',c',d'⟩:=U
 simp only at h1 h2 h3 h4
 subst h1 h2 h3 h4
 rfl
theorem qtb {x:ByteArray} {j:Nat} {E:Int} (hx:x.size=4096) (h4:4≤j) (h8:j<8) (e0:1≤E) (e1:E≤1048576) (hs:qa6 x j 0=recText (headRec E)) (hd : ∀ i,4≤i→i<8→i≠j→Dead (qa6 x i 0) E):Lay x j (qbb x j)∧(qbb x j).epoch=E∧(qbb x j).good=true:=by
 have hh:qaB (qfE x j)=(true,E):=by
  unfold qaB
  rw [qcF _ _ _ (by omega),hs,qcV (qb6 e0 e1)]
  rfl
 have hg:(qbb x j).good=true:=by rw [qgg,hh]
 have he:(qbb x j).epoch=E:=by rw [qe3,hh]
 exact ⟨⟨hx,h4,h8,rfl,hg,fun i a b c=>by rw [he];exact hd i a b c⟩,he,hg⟩
def rowL:Nat→List qaL→List (Int×qaL)
 | _,[]=>[]
 | k,r::l=>((k:Int),r)::rowL (k+1) l
def burnsX (sec:Int):List (Int×qaL)→ByteArray→ByteArray
 | [],x=>x
 | a::l,x=>burnsX sec l (burnt x (slotP sec a.1) (recText a.2))
theorem qjH (sec:Int) : ∀ (l l':List (Int×qaL)) (x:ByteArray),burnsX sec (l++l') x=burnsX sec l' (burnsX sec l x)
 | [],_,_=>rfl
 | a::l,l',x=>qjH sec l l' _
theorem qlo {sec:Nat} (h8:sec<8) : ∀ (rs:List qaL) (k:Nat) (x:ByteArray),1≤k→x.size=4096→k+rs.length≤8→(∀ r ∈ rs,qas r=true)→(∀ i,k≤i→i<8→qa6 x sec i=ffs 64)→qcn x (burnsX sec (rowL k rs) x) (sec * 512) 512∧(∀ i (hi:i<rs.length),qa6 (burnsX sec (rowL k rs) x) sec (k+i)=recText rs[i])∧(∀ i,i<8→(i<k∨k+rs.length≤i)→qa6 (burnsX sec (rowL k rs) x) sec i=qa6 x sec i)
 | [],k,x,_,_,_,_,_=>⟨qcn.refl _ _ _,fun i hi=>absurd hi (by simp),fun _ _ _=>rfl⟩
 | r::rs,k,x,hk,hx,hl,hr,hb=>by
  simp only [List.length_cons] at hl
  have hs:=qeL x sec k (recText r)
  have hrm:=hr r (by simp)
  have hslot:=qgr hx h8 (by omega:k<8) (qbS r hrm) (hb k (Nat.le_refl _) (by omega))
  obtain ⟨i1,i2,i3⟩:=qlo h8 rs (k+1) (burnt x (slotP sec k) (recText r)) (by omega) (by rw [hs.1,hx]) (by omega) (fun q hq=>hr q (by simp [hq])) (fun i h1 h2=>by rw [hs.slot (by omega) h2 (by omega)];exact hb i (by omega) h2)
  have hs':qcn x (burnt x (slotP sec k) (recText r)) (sec * 512) 512:=hs.mono (by omega) (by omega)
  refine ⟨hs'.trans i1,fun i hi => ?_,fun i h1 h2 => ?_⟩
  ·
   match i,hi with
   | 0,_=>rw [Nat.add_zero];exact (i3 k (by omega) (.inl (by omega))).trans hslot
   | i+1,hi =>
    have:=i2 i (by simpa using hi)
    rw [show k+(i+1)=k+1+i by omega]
    exact this
  ·
   simp only [List.length_cons] at h2
   exact (i3 i h1 (by omega)).trans (hs.slot (by omega) h1 (by omega))
theorem qtG {s:ByteArray} {rs:List qaL} (hl:rs.length≤7) (hm : ∀ r ∈ rs,qas r=true∧r.kind≠0) (h1 : ∀ i (hi:i<rs.length),qbC s (1+i)=recText rs[i]) (h2 : ∀ i,rs.length<i→i<8→qbC s i=ffs 64):scanRecs s 7=rs∧qat s 7=((rs.length+1:Nat):Int):=by
 have key : ∀ k,k≤rs.length→scanRecs s k=rs.take k∧qat s k=((k+1:Nat):Int):=fun k=>by
  induction k with
  | zero=>intro _;exact ⟨rfl,rfl⟩
  | succ k ih =>
   intro hk
   obtain ⟨i1,i2⟩:=ih (by omega)
   have hs:=h1 k (by omega)
   rw [Nat.add_comm] at hs
   have hr:=hm _ (List.getElem_mem (show k<rs.length by omega))
   constructor
   ·
    show scanRecs s k++qbg s (k+1)=_
    unfold qbg
    rw [i1,hs,qcV hr.1]
    simp only [hr.2,if_false]
    rw [List.take_add_one,List.getElem?_eq_getElem (by omega)]
    rfl
   ·
    show (if qds (qbC s (k+1))=true then qat s k else _)=_
    have hne : ¬ qds (qbC s (k+1))=true:=fun hb=>by
     rw [hs] at hb
     exact qfi hr.1 ((qed (qbS _ hr.1)).1 hb)
    rw [if_neg hne]
 obtain ⟨k1,k2⟩:=key rs.length (Nat.le_refl _)
 rw [List.take_length] at k1
 exact ⟨by rw [qcx (a:=rs.length) 7 hl fun i a b=>h2 i a (by omega)];exact k1,by rw [qcw (a:=rs.length) 7 hl fun i a b=>h2 i a (by omega)];exact k2⟩
theorem qrB {x:ByteArray} {j:Nat} {E:Int} {rs:List qaL} (hx:x.size=4096) (h4:4≤j) (h8:j<8) (e0:1≤E) (e1:E≤1048576) (hl:rs.length≤7) (hm : ∀ r ∈ rs,qas r=true∧r.kind≠0) (hb : ∀ i,i<8→qa6 x j i=ffs 64) (hd : ∀ i,4≤i→i<8→i≠j→Dead (qa6 x i 0) E):Lay (burnsX j (rowL 1 rs++[(0,headRec E)]) x) j ⟨true,E,rs,((rs.length+1:Nat):Int)⟩:=by
 obtain ⟨b1,b2,b3⟩:=qlo h8 rs 1 x (Nat.le_refl _) hx (by omega) (fun r hr=>(hm r hr).1) (fun i _ hi=>hb i hi)
 rw [qjH]
 show Lay (burnt (burnsX j (rowL 1 rs) x) (slotP j (0:Nat)) (recText (headRec E))) j _
 generalize burnsX j (rowL 1 rs) x=y at b1 b2 b3
 have hy:y.size=4096:=by rw [b1.1,hx]
 have hs:=qeL y j 0 (recText (headRec E))
 have h0:=qgr hy h8 (show 0<8 by omega) (qbS _ (qb6 e0 e1)) ((b3 0 (by omega) (.inl (by omega))).trans (hb 0 (by omega)))
 generalize burnt y (slotP j (0:Nat)) (recText (headRec E))=z at hs h0
 have hz:z.size=4096:=by rw [hs.1,hy]
 obtain ⟨k1,k2,k3⟩:=qtb hz h4 h8 e0 e1 h0 (fun i a b c=>by
  rw [hs.slot (by omega) (by omega) (by omega),b1.sec (by omega) c]
  exact hd i a b c)
 have hsl : ∀ i,1≤i→i<8→qbC (qfE z j) i=qa6 y j i:=fun i h1 h2=>by rw [qcF _ _ _ h2];exact hs.slot (by omega) h2 (by omega)
 obtain ⟨r1,r2⟩:=qtG (s:=qfE z j) hl hm (fun i hi=>by rw [hsl _ (by omega) (by omega)];exact b2 i hi) (fun i h1 h2=>by rw [hsl _ (by omega) h2,b3 i h2 (.inr (by omega))];exact hb i h2)
 have:qbb z j=⟨true,E,rs,((rs.length+1:Nat):Int)⟩:=qoU k3 k2 (by rw [qi2];exact r1) (by rw [qi1];exact r2)
 rw [← this]
 exact k1
end
section
theorem qon {x y img:ByteArray} {p n:Nat} (h:Has x img) (k:qcn x y p n) (hp:2048≤p):Has y img :=
 ⟨k.1.trans h.size,fun i hi=>(k.2 i (by omega)).trans (h.same i hi)⟩
def qdD (m:Ctl) (e:Int) (m':Ctl) (D:Prop) (S:ByteArray→Prop):Prop:=(D∧qcl m m')∨(e=1101∧qsv m' S∧0≤m.left)
theorem qdD.mono {m:Ctl} {e:Int} {m':Ctl} {D D':Prop} {S S':ByteArray→Prop} (h:qdD m e m' D S) (hD:D→D') (hS : ∀ x,S x→S' x):qdD m e m' D' S' :=
 h.imp (fun k=>⟨hD k.1,k.2⟩) fun k=>⟨k.1,k.2.1.mono hS,k.2.2⟩
theorem qdD.next {m m1 m2:Ctl} {e:Int} {D:Prop} {S:ByteArray→Prop} (hB:qcl m m1) (h:qdD m1 e m2 D S):qdD m e m2 D S :=
 h.imp (fun k=>⟨k.1,hB.trans k.2⟩) fun k=>⟨k.1,k.2.1,by
  have:=k.2.2
  by_cases hl:m.left<0
  ·
   have:=hB hl;omega
  ·
   omega⟩
theorem qcl.refl (m:Ctl):qcl m m:=fun h=>h
theorem qcK.act {m:Ctl} {e:Int} {m':Ctl} {D:Prop} {S:ByteArray→Prop} (h:qcK m e m' D S):qdD m e m' (e=0∧D) S :=
 h.imp (fun k=>⟨⟨k.1,k.2.1⟩,k.2.2⟩) id
theorem qr1 (x:ByteArray) (j:Nat):(mk 512 fun i=>bt x (((j:Int) * 512).toNat+i))=qfE x j:=by
 unfold qfE
 rw [show ((j:Int) * 512).toNat=j * 512 by omega]
theorem qoT (x:ByteArray) (j:Nat):scanR (qfE x j)=qbb x j:=by rw [qbb]
theorem qjK {x:ByteArray} : ∀ (n j:Nat) (m:Ctl) (vs:List qaA),Calm m x→j+n≤8→qcK m (lookS n j m vs).2.2 (lookS n j m vs).1 (Calm (lookS n j m vs).1 x∧(lookS n j m vs).2.1=vs++(List.range n).map fun i=>qbb x (j+i)) (fun y=>y=x)
 | 0,j,m,vs,h,_=>.inl ⟨rfl,⟨h,(List.append_nil _).symm⟩,qcl.refl m⟩
 | n+1,j,m,vs,h,hj=>by
  have hf:=qpg h ((j:Int) * 512) 512 (by omega) (by omega) (by omega)
  rw [show ((512:Nat):Int)=512 from rfl,qr1] at hf
  have e:lookS (n+1) j m vs=if (m.fetchR ((j:Int) * 512) 512).2.2≠0 then ((m.fetchR ((j:Int) * 512) 512).1,vs,(m.fetchR ((j:Int) * 512) 512).2.2) else lookS n ((j:Int)+1) (m.fetchR ((j:Int) * 512) 512).1 (vs++[scanR (m.fetchR ((j:Int) * 512) 512).2.1]):=rfl
  rw [e]
  generalize m.fetchR ((j:Int) * 512) 512=r at hf
  rcases hf with ⟨h0,⟨h1,h2⟩,h3⟩ | ⟨h0,h1,h2⟩
  ·
   rw [if_neg (by rw [h0];decide),h2,show ((j:Int)+1)=((j+1:Nat):Int) by omega,qoT]
   have ih:=qjK n (j+1) r.1 (vs++[qbb x j]) h1 (by omega)
   refine qcK.next h3 (ih.mono (fun k=>⟨k.1,?_⟩) fun _ k=>k)
   rw [k.2,List.append_assoc,List.range_succ_eq_map,List.map_cons,List.map_map,Nat.add_zero,List.singleton_append]
   refine congrArg (fun l=>vs++qbb x j::l) (List.map_congr_left fun i _ => ?_)
   rw [Function.comp_apply,Nat.succ_eq_add_one,Nat.add_assoc,Nat.add_comm 1 i]
  ·
   rw [if_pos (by rw [h0];decide)]
   exact .inr ⟨h0,h1,h2⟩
theorem qlt {m:Ctl} {x:ByteArray} (h:Calm m x):qcK m (lookR m).2.2 (lookR m).1 (Calm (lookR m).1 x∧(lookR m).2.1=qla x) (fun y=>y=x):=by
 have hp:=(qjL h).2
 unfold lookR
 generalize m.probeR=r at hp
 rcases hp with ⟨h0,h1,h2⟩ | ⟨h0,h1,h2⟩
 ·
  rw [if_neg (by rw [h0];decide)]
  have hl:=qjK 4 4 r.1 [] h1 (by omega)
  rw [show ((4:Nat):Int)=4 from rfl] at hl
  generalize lookS 4 4 r.1 []=u at hl
  unfold ql1
  rcases hl with ⟨k0,⟨k1,k2⟩,k3⟩ | ⟨k0,k1,k2⟩
  ·
   rw [if_neg (by rw [k0];decide)]
   refine .inl ⟨rfl,⟨k1,?_⟩,h2.trans k3⟩
   have e:u.2.1=qmz x:=k2
   show (qec u.2.1 u.2.1.length).map (fun (k:Nat)=>(4+(k:Int),u.2.1.getD k qaC))=_
   rw [e]
   rfl
  ·
   rw [if_pos (by rw [k0];decide)]
   exact qcK.next h2 (.inr ⟨k0,k1,k2⟩)
 ·
  rw [if_pos (by rw [h0];decide)]
  exact .inr ⟨h0,h1,h2⟩
theorem qr3 {x:ByteArray} {s:Int×qaA} (h:qla x=some s):4≤s.1∧s.1<8∧s.2.Ok:=by
 unfold qla at h
 cases hb:qec (qmz x) 4 with
 | none=>rw [hb] at h;cases h
 | some k =>
  rw [hb] at h
  obtain rfl:(4+(k:Int),(qmz x).getD k qaC)=s:=by simpa using h
  obtain ⟨h1,V,h2,h3⟩:=qeJ (qmz x) 4 k hb
  refine ⟨by show 4≤4+(k:Int);omega,by show 4+(k:Int)<8;omega,?_⟩
  show ((qmz x).getD k qaC).Ok
  rw [List.getD_eq_getElem?_getD,h2]
  show V.Ok
  rw [qoV,if_pos h1] at h2
  obtain rfl:qbb x (4+k)=V:=by simpa using h2
  exact qnC _ h3
def mountX (x:ByteArray):qag×Int:=match qla x with | none=>(shut,2305) | some s=>(⟨true,s.1,s.2⟩,0)
theorem qph {m:Ctl} {x:ByteArray} (h:Calm m x):qdD m (mountR m).2.2 (mountR m).1 (Calm (mountR m).1 x∧(mountR m).2=mountX x) (fun y=>y=x):=by
 have hl:=qlt h
 unfold mountR mountX
 generalize lookR m=r at hl
 unfold qoy
 rcases hl with ⟨h0,⟨h1,h2⟩,h3⟩ | ⟨h0,h1,h2⟩
 ·
  rw [if_neg (by rw [h0];decide),h2]
  cases qla x with
  | none=>exact .inl ⟨⟨h1,rfl⟩,h3⟩
  | some s=>exact .inl ⟨⟨h1,rfl⟩,h3⟩
 ·
  rw [if_pos (by rw [h0];decide)]
  exact .inr ⟨h0,h1,h2⟩
theorem qf9 {reads:List Int} (h:readsOk reads=true) : ∀ y ∈ reads,0≤y∧y<2048:=fun y hy=>by
 unfold readsOk at h
 simp only [Bool.and_eq_true,List.all_eq_true] at h
 have:=h.2 y hy
 unfold imageB at this
 simp only [Bool.and_eq_true,decide_eq_true_eq] at this
 exact this
def newSec (x:ByteArray):Int:=nextS (secOf (qla x))
def newEp (x:ByteArray):Int:=epOf (qla x)+1
def qjx (x:ByteArray) (sec:Int):ByteArray:=qcz x (sec * 512) ⟨#[255]⟩
def qcG (x img:ByteArray) (reads:List Int):ByteArray×qag×List Int×Int :=
 if 1048576≤epOf (qla x) then (x,shut,[],2304) else if readsOk reads=true then (burnt (qjx x (newSec x)) (slotP (newSec x) 0) (recText (headRec (newEp x))),⟨true,newSec x,⟨true,newEp x,[],1⟩⟩,reads.map (qdk img),0) else (x,shut,[],1800)
def qgi (x y:ByteArray):Prop:=y=x∨(epOf (qla x)<1048576∧((∃ mask,y=qcz x (newSec x * 512) mask)∨qfH (qjx x (newSec x)) (slotP (newSec x) 0) (recText (headRec (newEp x))) y))
theorem qiv (x:ByteArray):4≤newSec x∧newSec x<8:=by
 unfold newSec
 cases h:qla x with
 | none=>decide
 | some s =>
  obtain ⟨h1,h2,_⟩:=qr3 h
  exact qhj h1 h2
theorem qtq (x:ByteArray) (h:epOf (qla x)<1048576):1≤newEp x∧newEp x≤1048576:=by
 unfold newEp
 cases hs:qla x with
 | none=>decide
 | some s =>
  obtain ⟨_,_,h3⟩:=qr3 hs
  rw [hs] at h
  have:=h3.epoch
  show 1≤s.2.epoch+1∧s.2.epoch+1≤1048576
  have h:s.2.epoch<1048576:=h
  omega
theorem qdY {sec slot:Int} (h1:4≤sec) (h2:sec<8) (h3:0≤slot) (h4:slot<8):2048≤slotP sec slot∧slotP sec slot<4064∧slotP sec slot % 32=0:=by unfold slotP;omega
theorem qmY {m:Ctl} {x img:ByteArray} {q:Cache} (h:Calm m x) (hx:Has x img) (g:q.Good) (hq:q.Tells img) (reads:List Int):qdD m (formatR m q reads).2.2.2.2 (formatR m q reads).1 (Calm (formatR m q reads).1 (qcG x img reads).1∧(formatR m q reads).2.1.Good∧(formatR m q reads).2.1.Tells img∧(formatR m q reads).2.2=(qcG x img reads).2) (qgi x):=by
 have hl:=qlt h
 unfold formatR
 generalize lookR m=r at hl
 unfold qid
 rcases hl with ⟨h0,⟨h1,h2⟩,h3⟩ | ⟨h0,h1,h2⟩
 ·
  rw [if_neg (by rw [h0];decide),h2]
  refine qdD.next h3 ?_
  unfold qkA
  have hsec:=qiv x
  by_cases hep:1048576≤epOf (qla x)
  ·
   rw [if_pos hep]
   unfold qcG
   rw [if_pos hep]
   exact .inl ⟨⟨h1,g,hq,rfl⟩,qcl.refl _⟩
  ·
   rw [if_neg hep]
   have hepi:=qtq x (by omega)
   rw [show nextS (secOf (qla x))=newSec x from rfl,show epOf (qla x)+1=newEp x from rfl]
   by_cases hr:readsOk reads=true
   ·
    rw [show wipeT r.1 q (newSec x) reads=wipeR r.1 (newSec x * 512) reads from if_pos hr]
    have hw:=qlv h1 hx (newSec x * 512) (by omega) (by omega) (by omega) reads (qf9 hr)
    have eF:qcG x img reads=(burnt (qjx x (newSec x)) (slotP (newSec x) 0) (recText (headRec (newEp x))),⟨true,newSec x,⟨true,newEp x,[],1⟩⟩,reads.map (qdk img),0):=by
     unfold qcG
     rw [if_neg hep,if_pos hr]
    rw [eF]
    generalize wipeR r.1 (newSec x * 512) reads=t at hw
    unfold qie
    rcases hw with ⟨k0,⟨k1,k2,k3,k4⟩,k5⟩ | ⟨k0,k1,k2⟩
    ·
     rw [if_neg (by rw [k0];decide)]
     refine qdD.next k5 ?_
     obtain ⟨p0,p1,p2⟩:=qdY hsec.1 hsec.2 (show (0:Int)≤0 by decide) (show (0:Int)<8 by decide)
     have hb:=qls k1 (slotP (newSec x) 0) (recText (headRec (newEp x))) p0 p1 p2 (qbS _ (qb6 hepi.1 hepi.2))
     generalize t.1.burnR (slotP (newSec x) 0) (recText (headRec (newEp x)))=b at hb
     unfold qgv
     rcases hb with ⟨j0,j1,j2⟩ | ⟨j0,j1,j2⟩
     ·
      rw [if_neg (by rw [j0];decide)]
      exact .inl ⟨⟨j1,k2,k3,by rw [k4]⟩,j2⟩
     ·
      rw [if_pos (by rw [j0];decide)]
      exact .inr ⟨j0,j1.mono fun y hy=>.inr ⟨by omega,.inr hy⟩,j2⟩
    ·
     rw [if_pos (by rw [k0];decide)]
     exact .inr ⟨k0,k1.mono fun y hy=>hy.imp id fun hm=>⟨by omega,.inl hm⟩,k2⟩
   ·
    rw [show wipeT r.1 q (newSec x) reads=(r.1,q,[],1800) from if_neg hr]
    have eF:qcG x img reads=(x,shut,[],1800):=by
     unfold qcG
     rw [if_neg hep,if_neg hr]
    rw [eF]
    exact .inl ⟨⟨h1,g,hq,rfl⟩,qcl.refl _⟩
 ·
  rw [if_pos (by rw [h0];decide)]
  exact .inr ⟨h0,h1.mono fun y hy=>.inl hy,h2⟩
def qfG (sec:Int):List (Int×qaL)→ByteArray→ByteArray→Prop
 | [],_,_=>False
 | a::l,x,y=>qfH x (slotP sec a.1) (recText a.2) y∨qfG sec l (burnt x (slotP sec a.1) (recText a.2)) y
theorem qgs {sec:Int} (s0:4≤sec) (s1:sec<8) : ∀ (l:List (Int×qaL)) (m:Ctl) (x:ByteArray),Calm m x→(∀ a ∈ l,0≤a.1∧a.1<8∧qas a.2=true)→qcK m (burnsL sec l m).2 (burnsL sec l m).1 (Calm (burnsL sec l m).1 (burnsX sec l x)) (qfG sec l x)
 | [],m,x,h,_=>.inl ⟨rfl,h,qcl.refl m⟩
 | a::l,m,x,h,hl=>by
  obtain ⟨a0,a1,a2⟩:=hl a (by simp)
  obtain ⟨p0,p1,p2⟩:=qdY s0 s1 a0 a1
  have hb:=qls h (slotP sec a.1) (recText a.2) p0 p1 p2 (qbS _ a2)
  have e:burnsL sec (a::l) m=if (m.burnR (slotP sec a.1) (recText a.2)).2≠0 then m.burnR (slotP sec a.1) (recText a.2) else burnsL sec l (m.burnR (slotP sec a.1) (recText a.2)).1:=rfl
  rw [e]
  generalize m.burnR (slotP sec a.1) (recText a.2)=b at hb
  rcases hb with ⟨j0,j1,j2⟩ | ⟨j0,j1,j2⟩
  ·
   rw [if_neg (by rw [j0];decide)]
   exact qcK.next j2 ((qgs s0 s1 l b.1 _ j1 fun c hc=>hl c (by simp [hc])).mono id fun y hy=>.inr hy)
  ·
   rw [if_pos (by rw [j0];decide)]
   exact .inr ⟨j0,j1.mono fun y hy=>.inl hy,j2⟩
theorem qln {img:ByteArray} {sec:Nat} (s0:4≤sec) : ∀ (l:List (Int×qaL)) (x:ByteArray),Has x img→(∀ a ∈ l,0≤a.1∧a.1<8)→Has (burnsX sec l x) img
 | [],_,h,_=>h
 | a::l,x,h,hl=>by
  obtain ⟨a0,a1⟩:=hl a (by simp)
  obtain ⟨i,hi⟩ : ∃ n:Nat,a.1=(n:Int):=⟨a.1.toNat,(Int.toNat_of_nonneg a0).symm⟩
  show Has (burnsX sec l (burnt x (slotP sec a.1) (recText a.2))) img
  rw [hi]
  rw [hi] at a1
  exact qln s0 l _ (qon h (qeL x sec i _) (by omega)) fun c hc=>hl c (by simp [hc])
def qdg (x:ByteArray) (p:qca):ByteArray:=if 0≤p.wipe then qjx x p.wipe else x
def qdc (x:ByteArray) (p:qca):ByteArray:=burnsX p.sector (p.slots.zip p.recs) (qdg x p)
def qgo (x:ByteArray) (p:qca) (y:ByteArray):Prop:=y=x∨(0≤p.wipe ∧ ∃ mask,y=qcz x (p.wipe * 512) mask)∨qfG p.sector (p.slots.zip p.recs) (qdg x p) y∨y=qdc x p
theorem qi8 {x img:ByteArray} (h:Has x img) (sec:Int) (h0:4≤sec):Has (qjx x sec) img:=qeP h _ (by omega) _
theorem qgh {p:qca} (pk:p.Ok) : ∀ a ∈ p.slots.zip p.recs,0≤a.1∧a.1<8∧qas a.2=true:=fun a ha=>by
 obtain ⟨h1,h2⟩:=List.of_mem_zip (a:=a.1) (b:=a.2) ha
 exact ⟨(pk.slots _ h1).1,(pk.slots _ h1).2,pk.recs _ h2⟩
theorem qmZ {m:Ctl} {x img:ByteArray} {q:Cache} (h:Calm m x) (hx:Has x img) (g:q.Good) (hq:q.Tells img) {p:qca} (pk:p.Ok) {reads:List Int} (hr:readsOk reads=true):qcK m (writesR m q p reads).2.2.2 (writesR m q p reads).1 (Calm (writesR m q p reads).1 (qdc x p)∧(writesR m q p reads).2.1.Good∧(writesR m q p reads).2.1.Tells img∧(writesR m q p reads).2.2.1=reads.map (qdk img)) (qgo x p):=by
 obtain ⟨s0,s1⟩:=pk.sector
 obtain ⟨sec,hsec⟩ : ∃ n:Nat,p.sector=(n:Int):=⟨p.sector.toNat,by omega⟩
 unfold writesR firstT
 by_cases hw:0≤p.wipe
 ·
  have hwi:=pk.wipe
  rw [if_pos hw]
  unfold wipeT
  rw [if_pos hr]
  have k:=qlv h hx (p.wipe * 512) (by omega) (by omega) (by omega) reads (qf9 hr)
  generalize wipeR m (p.wipe * 512) reads=t at k
  unfold qgK
  rcases k with ⟨k0,⟨k1,k2,k3,k4⟩,k5⟩ | ⟨k0,k1,k2⟩
  ·
   rw [if_neg (by rw [k0];decide)]
   have hb:=qgs s0 s1 (p.slots.zip p.recs) t.1 _ k1 (qgh pk)
   have eb:qdg x p=qcz x (p.wipe * 512) ⟨#[255]⟩:=by unfold qdg qjx;rw [if_pos hw]
   refine qcK.next k5 ?_
   generalize burnsL p.sector (p.slots.zip p.recs) t.1=b at hb
   unfold qbZ
   rcases hb with ⟨j0,j1,j2⟩ | ⟨j0,j1,j2⟩
   ·
    rw [if_neg (by rw [j0];decide),if_pos hw]
    refine .inl ⟨rfl,⟨?_,k2,k3,k4⟩,j2⟩
    unfold qdc
    rw [eb]
    exact j1
   ·
    rw [if_pos (by rw [j0];decide)]
    exact .inr ⟨j0,j1.mono fun y hy=>.inr (.inr (.inl (by rw [eb];exact hy))),j2⟩
  ·
   rw [if_pos (by rw [k0];decide)]
   exact .inr ⟨k0,k1.mono fun y hy=>hy.imp id fun hm=>.inl ⟨hw,hm⟩,k2⟩
 ·
  rw [if_neg hw]
  unfold qgK
  rw [if_neg (by simp)]
  have hb:=qgs s0 s1 (p.slots.zip p.recs) m _ h (qgh pk)
  have eb:qdg x p=x:=by unfold qdg;rw [if_neg hw]
  have hh:Has (qdc x p) img:=by
   unfold qdc
   rw [eb,hsec]
   exact qln (by omega) _ _ hx fun a ha=>⟨(qgh pk a ha).1,(qgh pk a ha).2.1⟩
  show qcK m (qbZ (burnsL p.sector (p.slots.zip p.recs) m) q p.wipe [] reads).2.2.2 (qbZ (burnsL p.sector (p.slots.zip p.recs) m) q p.wipe [] reads).1 (Calm (qbZ (burnsL p.sector (p.slots.zip p.recs) m) q p.wipe [] reads).1 _∧(qbZ (burnsL p.sector (p.slots.zip p.recs) m) q p.wipe [] reads).2.1.Good∧(qbZ (burnsL p.sector (p.slots.zip p.recs) m) q p.wipe [] reads).2.1.Tells img∧(qbZ (burnsL p.sector (p.slots.zip p.recs) m) q p.wipe [] reads).2.2.1=_) _
  generalize burnsL p.sector (p.slots.zip p.recs) m=b at hb
  unfold qbZ
  rcases hb with ⟨j0,j1,j2⟩ | ⟨j0,j1,j2⟩
  ·
   rw [if_neg (by rw [j0];decide),if_neg hw]
   have hr2:=qqN (q:=q) (img:=img) j1 (by rw [← eb] at hx ⊢;unfold qdc at hh;rw [eb] at hh ⊢;exact hh) g hq reads (qf9 hr)
   refine qcK.next j2 (hr2.mono (fun k => ?_) fun y hy => ?_)
   ·
    refine ⟨?_,k.2.1,k.2.2.1,k.2.2.2⟩
    unfold qdc
    rw [eb]
    exact k.1
   ·
    refine .inr (.inr (.inr ?_))
    unfold qdc
    rw [eb]
    exact hy
  ·
   rw [if_pos (by rw [j0];decide)]
   exact .inr ⟨j0,j1.mono fun y hy=>.inr (.inr (.inl (by rw [eb];exact hy))),j2⟩
end
end Go.Proofs.YtcfdenckiigdaaaGreat

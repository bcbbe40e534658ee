/- Part 38 of the contracts. -/
import Derived.Test.YtcfdenckiigdaaaGreatKp37
set_option linter.unusedVariables false
set_option maxRecDepth 100000
set_option maxHeartbeats 4000000
namespace Go.Proofs.YtcfdenckiigdaaaGreat
section
structure Lay (x:ByteArray) (sec:Nat) (V:qau):Prop where
 size:x.size=4096
 s0:4≤sec
 s1:sec<8
 view:qa8 x sec=V
 good:V.good=true
 dead : ∀ j,4≤j→j<8→j≠sec→Dead (qaM x j 0) V.epoch
structure qvY (x:ByteArray):Prop where
 size:x.size=4096
 dead : ∀ j,4≤j→j<8→Dead (qaM x j 0) 1
theorem qgz (x:ByteArray) (j:Nat):(qa8 x j).good=(qaE (qeP x j)).1:=by simp only [qa8,scanR]
theorem qfh (x:ByteArray) (j:Nat):(qa8 x j).epoch=(qaE (qeP x j)).2:=by simp only [qa8,scanR]
theorem qgA (x:ByteArray) (j:Nat):(qa8 x j).recs=scanRecs (qeP x j) 7:=by simp only [qa8,scanR]
theorem qgy (x:ByteArray) (j:Nat):(qa8 x j).free=qav (qeP x j) 7:=by simp only [qa8,scanR]
theorem qrR {x:ByteArray} {j:Nat} (h:(qa8 x j).good=true) : ∃ r,qa1 (qaM x j 0)=some r∧r.kind=0∧(qa8 x j).epoch=r.epoch:=by
 rw [qgz] at h
 rw [qfh]
 unfold qaE at h ⊢
 rw [qbF _ _ _ (by omega)] at h ⊢
 cases hr:qa1 (qaM x j 0) with
 | none=>rw [hr] at h;cases h
 | some r =>
  rw [hr] at h
  by_cases hk:r.kind=0
  ·
   refine ⟨r,rfl,hk,?_⟩
   simp [hk]
  ·
   simp [hk] at h
theorem ql3 {x:ByteArray} {j:Nat} {E:Int} (h:Dead (qaM x j 0) E) (hg:(qa8 x j).good=true):(qa8 x j).epoch<E:=by
 obtain ⟨r,h1,h2,h3⟩:=qrR hg
 rw [h3]
 exact h _ r (Sup.refl _) h1 h2
theorem qtK {r:qaC} (h:qap r=true) (hk:r.kind=0):1≤r.epoch∧r.epoch≤1048576∧r=headRec r.epoch:=by
 obtain ⟨k,e,key,value⟩:=r
 subst hk
 unfold qap at h
 simp only [if_true,Bool.and_eq_true,qhi,decide_eq_true_eq] at h
 refine ⟨h.1.1.1,h.1.1.2,?_⟩
 rw [qeB h.1.2,qeB h.2]
 rfl
theorem ql8 {x:ByteArray} {j:Nat} (hg:(qa8 x j).good=true):1≤(qa8 x j).epoch∧(qa8 x j).epoch≤1048576∧qaM x j 0=recText (headRec (qa8 x j).epoch):=by
 obtain ⟨r,h1,h2,h3⟩:=qrR hg
 obtain ⟨h4,h5⟩:=qjb h1
 obtain ⟨h6,h7,h8⟩:=qtK h4 h2
 rw [h3]
 exact ⟨h6,h7,by rw [h5];exact congrArg recText h8⟩
theorem Lay.epoch {x:ByteArray} {sec:Nat} {V:qau} (h:Lay x sec V):1≤V.epoch∧V.epoch≤1048576∧qaM x sec 0=recText (headRec V.epoch):=by
 have:=ql8 (x:=x) (j:=sec) (by rw [h.view];exact h.good)
 rw [h.view] at this
 exact this
theorem Lay.old {x:ByteArray} {sec:Nat} {V:qau} (h:Lay x sec V) : ∀ j,4≤j→j<8→Dead (qaM x j 0) (V.epoch+1):=fun j h4 h8=>by
 by_cases e:j=sec
 ·
  obtain ⟨h1,h2,h3⟩:=h.epoch
  rw [e,h3]
  exact qru (qbw h1 h2) (by show V.epoch<V.epoch+1;omega)
 ·
  exact (h.dead j h4 h8 e).mono (by omega)
theorem qlN {vs:List qau} {k:Nat} {V:qau} (hk:vs[k]? = some V) (hg:V.good=true) (hb : ∀ (j:Nat) (U:qau),vs[j]? = some U→j≠k→U.good=true→U.epoch<V.epoch) : ∀ n,k<n→n≤vs.length→qdD vs n=some k
 | 0,h,_=>by omega
 | n+1,h,hl=>by
  have hn:vs[n]? = some (vs[n]'(by omega)):=List.getElem?_eq_getElem (by omega)
  unfold qdD
  rw [hn]
  by_cases e:n=k
  ·
   subst e
   have e2:vs[n]'(by omega)=V:=by rw [hn] at hk;simpa using hk
   rw [e2]
   simp only [hg,Bool.true_eq_false,if_false]
   cases hbv:qdD vs n with
   | none=>rfl
   | some j =>
    obtain ⟨h1,U,h2,h3⟩:=qdE vs n j hbv
    simp only [h2]
    rw [if_pos (hb j U h2 (by omega) h3)]
  ·
   have ih:=qlN hk hg hb n (by omega) (by omega)
   rw [ih]
   simp only [hk]
   cases hgood:(vs[n]'(by omega)).good with
   | false=>simp
   | true =>
    have:=hb n _ hn e hgood
    simp only [Bool.true_eq_false,if_false]
    rw [if_neg (by omega)]
theorem qtm {vs:List qau} (h : ∀ (j:Nat) (U:qau),vs[j]? = some U→U.good=false) (n:Nat):qdD vs n=none:=by
 cases hb:qdD vs n with
 | none=>rfl
 | some k =>
  obtain ⟨_,U,h2,h3⟩:=qdE vs n k hb
  rw [h k U h2] at h3
  cases h3
def qjU (x:ByteArray):List qau:=[qa8 x 4,qa8 x 5,qa8 x 6,qa8 x 7]
def qky (x:ByteArray):Option (Int×qau):=(qdD (qjU x) 4).map fun (k:Nat)=>(4+(k:Int),(qjU x).getD k qaB)
theorem qhV (x:ByteArray) (k:Nat):(qjU x)[k]? = if k<4 then some (qa8 x (4+k)) else none:=by
 match k with
 | 0=>rfl
 | 1=>rfl
 | 2=>rfl
 | 3=>rfl
 | k+4=>rw [if_neg (by omega)];rfl
theorem qtP {x:ByteArray} {sec:Nat} {V:qau} (h:Lay x sec V):qky x=some ((sec:Int),V):=by
 have h0:=h.s0
 have h1:=h.s1
 have hk:(qjU x)[sec - 4]? = some V:=by rw [qhV,if_pos (by omega),show 4+(sec - 4)=sec by omega,h.view]
 have:=qlN hk h.good (fun j U hj hne hg=>by
  rw [qhV] at hj
  split at hj
  ·
   rename_i hl
   obtain rfl:qa8 x (4+j)=U:=by simpa using hj
   exact ql3 (h.dead (4+j) (by omega) (by omega) (by omega)) hg
  ·
   cases hj) 4 (by omega) (by show 4≤4;omega)
 unfold qky
 rw [this]
 show some (4+((sec - 4:Nat):Int),(qjU x).getD (sec - 4) qaB)=_
 rw [List.getD_eq_getElem?_getD,hk]
 show some (4+((sec - 4:Nat):Int),V)=some ((sec:Int),V)
 rw [show 4+((sec - 4:Nat):Int)=(sec:Int) by omega]
theorem qlK {x:ByteArray} (h:qvY x):qky x=none:=by
 unfold qky
 rw [qtm fun j U hj => ?_]
 ·
  rfl
 ·
  rw [qhV] at hj
  split at hj
  ·
   rename_i hl
   obtain rfl:qa8 x (4+j)=U:=by simpa using hj
   cases hg:(qa8 x (4+j)).good with
   | false=>rfl
   | true =>
    have:=ql3 (h.dead (4+j) (by omega) (by omega)) hg
    have:=(ql8 hg).1
    omega
  ·
   cases hj
theorem qdN {x y:ByteArray} {sec f:Nat} (h1:1≤f) (hf:f<8) (hv:(qa8 x sec).free=(f:Int)) (hs:qbW x y (sec * 512+f * 64) 64):qaM x sec f=ffs 64∧(qa8 y sec).good=(qa8 x sec).good∧(qa8 y sec).epoch=(qa8 x sec).epoch∧(qa8 y sec).recs=(qa8 x sec).recs++qa5 (qeP y sec) f∧(qa8 y sec).free=if qaM y sec f=ffs 64 then (f:Int) else ((f+1:Nat):Int):=by
 have hsz : ∀ z,(qeP z sec).size=512:=fun z=>qbr _ _
 have hv':qav (qeP x sec) 7=(f:Int):=by rw [← qgy];exact hv
 have hb : ∀ i,f≤i→i≤7→qbo (qeP x sec) i=ffs 64:=fun i h2 h3=>qkg (hsz x) 7 (Nat.le_refl _) i (by omega) h3 (by omega)
 have hsame : ∀ i,i<8→i≠f→qbo (qeP y sec) i=qbo (qeP x sec) i:=fun i hi hne=>by
  rw [qbF _ _ _ hi,qbF _ _ _ hi]
  exact hs.slot hf hi (by omega)
 have hfy:qbo (qeP y sec) f=qaM y sec f:=qbF _ _ _ hf
 have hhead:qaE (qeP y sec)=qaE (qeP x sec):=qfu (hsame 0 (by omega) (by omega))
 obtain ⟨g,rfl⟩ : ∃ g,f=g+1:=⟨f - 1,by omega⟩
 refine ⟨by rw [← qbF _ _ _ hf];exact hb _ (Nat.le_refl _) (by omega),by rw [qgz,qgz,hhead],by rw [qfh,qfh,hhead],?_,?_⟩
 ·
  rw [qgA,qgA,qcF (a:=g+1) 7 (by omega) fun i h2 h3=>by rw [hsame i (by omega) (by omega)];exact hb i (by omega) h3,qcF (a:=g) 7 (by omega) fun i h2 h3=>hb i (by omega) h3]
  show scanRecs (qeP y sec) g++_=_
  rw [qdu g fun i h2 h3=>hsame i (by omega) (by omega)]
 ·
  rw [qgy,qcE (a:=g+1) 7 (by omega) fun i h2 h3=>by rw [hsame i (by omega) (by omega)];exact hb i (by omega) h3]
  show (if qdF (qbo (qeP y sec) (g+1))=true then qav (qeP y sec) g else _)=_
  rw [qdt g fun i h2 h3=>hsame i (by omega) (by omega),hfy]
  have e:=qcE (s:=qeP x sec) (a:=g) 7 (by omega) fun i h2 h3=>hb i (by omega) h3
  rw [hv'] at e
  by_cases hbl:qaM y sec (g+1)=ffs 64
  ·
   rw [if_pos ((qeq (qaS _ _ _)).2 hbl),if_pos hbl,e]
  ·
   rw [if_neg (fun k=>hbl ((qeq (qaS _ _ _)).1 k)),if_neg hbl]
theorem qfi {V U:qau} (h1:V.good=U.good) (h2:V.epoch=U.epoch) (h3:V.recs=U.recs) (h4:V.free=U.free):V=U:=by
 obtain ⟨a,b,c,d⟩:=V
 obtain ⟨a',b',c',d'⟩:=U
 simp only at h1 h2 h3 h4
 subst h1 h2 h3 h4
 rfl
theorem qtQ {x y:ByteArray} {sec f:Nat} {V:qau} (h:Lay x sec V) (h1:1≤f) (hf:f<8) (hv:V.free=(f:Int)) (hs:qbW x y (sec * 512+f * 64) 64) {r:qaC} (hr:qap r=true) (hk:r.kind≠0) (hsup:Sup (recText r) (qaM y sec f)):(qaM y sec f=recText r∧Lay y sec ⟨true,V.epoch,V.recs++[r],V.free+1⟩)∨Lay y sec ⟨true,V.epoch,V.recs,V.free+1⟩∨Lay y sec V:=by
 obtain ⟨b0,b1,b2,b3,b4⟩:=qdN (x:=x) (y:=y) (sec:=sec) h1 hf (by rw [h.view];exact hv) hs
 rw [h.view] at b1 b2 b3
 have hd : ∀ j,4≤j→j<8→j≠sec→Dead (qaM y j 0) V.epoch:=fun j h4 h8 hne=>by
  rw [hs.slot (j:=j) (i:=0) hf (by omega) (by omega)]
  exact h.dead j h4 h8 hne
 have hfy:qbo (qeP y sec) f=qaM y sec f:=qbF _ _ _ hf
 have hsz:y.size=4096:=by rw [hs.1,h.size]
 have hg:=h.good
 by_cases e:qaM y sec f=recText r
 ·
  refine .inl ⟨e,hsz,h.s0,h.s1,?_,rfl,hd⟩
  refine qfi (by rw [b1,hg]) b2 ?_ ?_
  ·
   rw [b3]
   unfold qa5
   rw [hfy,e,qcy hr]
   simp [hk]
  ·
   rw [b4,if_neg (by rw [e];exact qdw hr)]
   show _=V.free+1
   rw [hv]
   omega
 ·
  have hnone:qa5 (qeP y sec) f=[]:=by
   unfold qa5
   rw [hfy]
   cases hq:qa1 (qaM y sec f) with
   | none=>rfl
   | some q=>exact absurd (qlD hr hsup hq) e
  rw [hnone,List.append_nil] at b3
  by_cases eb:qaM y sec f=ffs 64
  ·
   refine .inr (.inr ⟨hsz,h.s0,h.s1,qfi b1 b2 b3 ?_,hg,hd⟩)
   rw [b4,if_pos eb,hv]
  ·
   refine .inr (.inl ⟨hsz,h.s0,h.s1,qfi (by rw [b1,hg]) b2 b3 ?_,rfl,hd⟩)
   rw [b4,if_neg eb]
   show _=V.free+1
   rw [hv]
   omega
theorem qo2 {x:ByteArray} {sec j:Nat} {V:qau} (h:Lay x sec V) (hne:j≠sec) (h8:j<8) (mask:ByteArray):Lay (qbY x (j * 512:Nat) mask) sec V:=by
 have hs:=qdY x j mask
 refine ⟨by rw [hs.1,h.size],h.s0,h.s1,?_,h.good,fun i h4 hi hn => ?_⟩
 ·
  rw [← h.view]
  exact qkH fun i hi=>hs.sec hi (fun e=>hne e.symm)
 ·
  by_cases e:i=j
  ·
   subst e
   exact (h.dead i h4 hi hn).sup (qnA h.size h8 (by omega) mask)
  ·
   rw [hs.sec (by omega) e]
   exact h.dead i h4 hi hn
theorem qoW {x:ByteArray} {j:Nat} {E:Int} (hx:x.size=4096) (h4:4≤j) (h8:j<8) (e0:1≤E) (e1:E≤1048576) (hs:qaM x j 0=recText (headRec E)) (hd : ∀ i,4≤i→i<8→i≠j→Dead (qaM x i 0) E):Lay x j (qa8 x j)∧(qa8 x j).epoch=E∧(qa8 x j).good=true:=by
 have hh:qaE (qeP x j)=(true,E):=by
  unfold qaE
  rw [qbF _ _ _ (by omega),hs,qcy (qbw e0 e1)]
  rfl
 have hg:(qa8 x j).good=true:=by rw [qgz,hh]
 have he:(qa8 x j).epoch=E:=by rw [qfh,hh]
 exact ⟨⟨hx,h4,h8,rfl,hg,fun i a b c=>by rw [he];exact hd i a b c⟩,he,hg⟩
def rowL:Nat→List qaC→List (Int×qaC)
 | _,[]=>[]
 | k,r::l=>((k:Int),r)::rowL (k+1) l
def burnsX (sec:Int):List (Int×qaC)→ByteArray→ByteArray
 | [],x=>x
 | a::l,x=>burnsX sec l (burnt x (slotP sec a.1) (recText a.2))
theorem qj5 (sec:Int) : ∀ (l l':List (Int×qaC)) (x:ByteArray),burnsX sec (l++l') x=burnsX sec l' (burnsX sec l x)
 | [],_,_=>rfl
 | a::l,l',x=>qj5 sec l l' _
theorem qid {sec:Nat} (h8:sec<8) : ∀ (rs:List qaC) (k:Nat) (x:ByteArray),1≤k→x.size=4096→k+rs.length≤8→(∀ r ∈ rs,qap r=true)→(∀ i,k≤i→i<8→qaM x sec i=ffs 64)→qbW x (burnsX sec (rowL k rs) x) (sec * 512) 512∧(∀ i (hi:i<rs.length),qaM (burnsX sec (rowL k rs) x) sec (k+i)=recText rs[i])∧(∀ i,i<8→(i<k∨k+rs.length≤i)→qaM (burnsX sec (rowL k rs) x) sec i=qaM x sec i)
 | [],k,x,_,_,_,_,_=>⟨qbW.refl _ _ _,fun i hi=>absurd hi (by simp),fun _ _ _=>rfl⟩
 | r::rs,k,x,hk,hx,hl,hr,hb=>by
  simp only [List.length_cons] at hl
  have hs:=qc0 x sec k (recText r)
  have hrm:=hr r (by simp)
  have hslot:=qeZ hx h8 (by omega:k<8) (qaV r hrm) (hb k (Nat.le_refl _) (by omega))
  obtain ⟨i1,i2,i3⟩:=qid h8 rs (k+1) (burnt x (slotP sec k) (recText r)) (by omega) (by rw [hs.1,hx]) (by omega) (fun q hq=>hr q (by simp [hq])) (fun i h1 h2=>by rw [hs.slot (by omega) h2 (by omega)];exact hb i (by omega) h2)
  have hs':qbW x (burnt x (slotP sec k) (recText r)) (sec * 512) 512:=hs.mono (by omega) (by omega)
  refine ⟨hs'.trans i1,fun i hi => ?_,fun i h1 h2 => ?_⟩
  ·
   match i,hi with
   | 0,_=>rw [Nat.add_zero];exact (i3 k (by omega) (.inl (by omega))).trans hslot
   | i+1,hi =>
    have:=i2 i (by simpa using hi)
    rw [show k+(i+1)=k+1+i by omega]
    exact this
  ·
   simp only [List.length_cons] at h2
   exact (i3 i h1 (by omega)).trans (hs.slot (by omega) h1 (by omega))
theorem qpk {s:ByteArray} {rs:List qaC} (hl:rs.length≤7) (hm : ∀ r ∈ rs,qap r=true∧r.kind≠0) (h1 : ∀ i (hi:i<rs.length),qbo s (1+i)=recText rs[i]) (h2 : ∀ i,rs.length<i→i<8→qbo s i=ffs 64):scanRecs s 7=rs∧qav s 7=((rs.length+1:Nat):Int):=by
 have key : ∀ k,k≤rs.length→scanRecs s k=rs.take k∧qav s k=((k+1:Nat):Int):=fun k=>by
  induction k with
  | zero=>intro _;exact ⟨rfl,rfl⟩
  | succ k ih =>
   intro hk
   obtain ⟨i1,i2⟩:=ih (by omega)
   have hs:=h1 k (by omega)
   rw [Nat.add_comm] at hs
   have hr:=hm _ (List.getElem_mem (show k<rs.length by omega))
   constructor
   ·
    show scanRecs s k++qa5 s (k+1)=_
    unfold qa5
    rw [i1,hs,qcy hr.1]
    simp only [hr.2,if_false]
    rw [List.take_add_one,List.getElem?_eq_getElem (by omega)]
    rfl
   ·
    show (if qdF (qbo s (k+1))=true then qav s k else _)=_
    have hne : ¬ qdF (qbo s (k+1))=true:=fun hb=>by
     rw [hs] at hb
     exact qdw hr.1 ((qeq (qaV _ hr.1)).1 hb)
    rw [if_neg hne]
 obtain ⟨k1,k2⟩:=key rs.length (Nat.le_refl _)
 rw [List.take_length] at k1
 exact ⟨by rw [qcF (a:=rs.length) 7 hl fun i a b=>h2 i a (by omega)];exact k1,by rw [qcE (a:=rs.length) 7 hl fun i a b=>h2 i a (by omega)];exact k2⟩
theorem qmv {x:ByteArray} {j:Nat} {E:Int} {rs:List qaC} (hx:x.size=4096) (h4:4≤j) (h8:j<8) (e0:1≤E) (e1:E≤1048576) (hl:rs.length≤7) (hm : ∀ r ∈ rs,qap r=true∧r.kind≠0) (hb : ∀ i,i<8→qaM x j i=ffs 64) (hd : ∀ i,4≤i→i<8→i≠j→Dead (qaM x i 0) E):Lay (burnsX j (rowL 1 rs++[(0,headRec E)]) x) j ⟨true,E,rs,((rs.length+1:Nat):Int)⟩:=by
 obtain ⟨b1,b2,b3⟩:=qid h8 rs 1 x (Nat.le_refl _) hx (by omega) (fun r hr=>(hm r hr).1) (fun i _ hi=>hb i hi)
 rw [qj5]
 show Lay (burnt (burnsX j (rowL 1 rs) x) (slotP j (0:Nat)) (recText (headRec E))) j _
 generalize burnsX j (rowL 1 rs) x=y at b1 b2 b3
 have hy:y.size=4096:=by rw [b1.1,hx]
 have hs:=qc0 y j 0 (recText (headRec E))
 have h0:=qeZ hy h8 (show 0<8 by omega) (qaV _ (qbw e0 e1)) ((b3 0 (by omega) (.inl (by omega))).trans (hb 0 (by omega)))
 generalize burnt y (slotP j (0:Nat)) (recText (headRec E))=z at hs h0
 have hz:z.size=4096:=by rw [hs.1,hy]
 obtain ⟨k1,k2,k3⟩:=qoW hz h4 h8 e0 e1 h0 (fun i a b c=>by
  rw [hs.slot (by omega) (by omega) (by omega),b1.sec (by omega) c]
  exact hd i a b c)
 have hsl : ∀ i,1≤i→i<8→qbo (qeP z j) i=qaM y j i:=fun i h1 h2=>by rw [qbF _ _ _ h2];exact hs.slot (by omega) h2 (by omega)
 obtain ⟨r1,r2⟩:=qpk (s:=qeP z j) hl hm (fun i hi=>by rw [hsl _ (by omega) (by omega)];exact b2 i hi) (fun i h1 h2=>by rw [hsl _ (by omega) h2,b3 i h2 (.inr (by omega))];exact hb i h2)
 have:qa8 z j=⟨true,E,rs,((rs.length+1:Nat):Int)⟩:=qfi k3 k2 (by rw [qgA];exact r1) (by rw [qgy];exact r2)
 rw [← this]
 exact k1
end
section
theorem qoV {x y img:ByteArray} {p n:Nat} (h:Has x img) (k:qbW x y p n) (hp:2048≤p):Has y img :=
 ⟨k.1.trans h.size,fun i hi=>(k.2 i (by omega)).trans (h.same i hi)⟩
def qdQ (m:Ctl) (e:Int) (m':Ctl) (D:Prop) (S:ByteArray→Prop):Prop:=(D∧qcr m m')∨(e=1101∧qs5 m' S∧0≤m.left)
theorem qdQ.mono {m:Ctl} {e:Int} {m':Ctl} {D D':Prop} {S S':ByteArray→Prop} (h:qdQ m e m' D S) (hD:D→D') (hS : ∀ x,S x→S' x):qdQ m e m' D' S' :=
 h.imp (fun k=>⟨hD k.1,k.2⟩) fun k=>⟨k.1,k.2.1.mono hS,k.2.2⟩
theorem qdQ.next {m m1 m2:Ctl} {e:Int} {D:Prop} {S:ByteArray→Prop} (hB:qcr m m1) (h:qdQ m1 e m2 D S):qdQ m e m2 D S :=
 h.imp (fun k=>⟨k.1,hB.trans k.2⟩) fun k=>⟨k.1,k.2.1,by
  have:=k.2.2
  by_cases hl:m.left<0
  ·
   have:=hB hl;omega
  ·
   omega⟩
theorem qcr.refl (m:Ctl):qcr m m:=fun h=>h
theorem qcQ.act {m:Ctl} {e:Int} {m':Ctl} {D:Prop} {S:ByteArray→Prop} (h:qcQ m e m' D S):qdQ m e m' (e=0∧D) S :=
 h.imp (fun k=>⟨⟨k.1,k.2.1⟩,k.2.2⟩) id
theorem qsC (x:ByteArray) (j:Nat):(mk 512 fun i=>bt x (((j:Int) * 512).toNat+i))=qeP x j:=by
 unfold qeP
 rw [show ((j:Int) * 512).toNat=j * 512 by omega]
theorem qpt (x:ByteArray) (j:Nat):scanR (qeP x j)=qa8 x j:=by rw [qa8]
theorem qj8 {x:ByteArray} : ∀ (n j:Nat) (m:Ctl) (vs:List qau),Calm m x→j+n≤8→qcQ m (lookS n j m vs).2.2 (lookS n j m vs).1 (Calm (lookS n j m vs).1 x∧(lookS n j m vs).2.1=vs++(List.range n).map fun i=>qa8 x (j+i)) (fun y=>y=x)
 | 0,j,m,vs,h,_=>.inl ⟨rfl,⟨h,(List.append_nil _).symm⟩,qcr.refl m⟩
 | n+1,j,m,vs,h,hj=>by
  have hf:=qpO h ((j:Int) * 512) 512 (by omega) (by omega) (by omega)
  rw [show ((512:Nat):Int)=512 from rfl,qsC] at hf
  have e:lookS (n+1) j m vs=if (m.fetchR ((j:Int) * 512) 512).2.2≠0 then ((m.fetchR ((j:Int) * 512) 512).1,vs,(m.fetchR ((j:Int) * 512) 512).2.2) else lookS n ((j:Int)+1) (m.fetchR ((j:Int) * 512) 512).1 (vs++[scanR (m.fetchR ((j:Int) * 512) 512).2.1]):=rfl
  rw [e]
  generalize m.fetchR ((j:Int) * 512) 512=r at hf
  rcases hf with ⟨h0,⟨h1,h2⟩,h3⟩ | ⟨h0,h1,h2⟩
  ·
   rw [if_neg (by rw [h0];decide),h2,show ((j:Int)+1)=((j+1:Nat):Int) by omega,qpt]
   have ih:=qj8 n (j+1) r.1 (vs++[qa8 x j]) h1 (by omega)
   refine qcQ.next h3 (ih.mono (fun k=>⟨k.1,?_⟩) fun _ k=>k)
   rw [k.2,List.append_assoc,List.range_succ_eq_map,List.map_cons,List.map_map,Nat.add_zero,List.singleton_append]
   refine congrArg (fun l=>vs++qa8 x j::l) (List.map_congr_left fun i _ => ?_)
   rw [Function.comp_apply,Nat.succ_eq_add_one,Nat.add_assoc,Nat.add_comm 1 i]
  ·
   rw [if_pos (by rw [h0];decide)]
   exact .inr ⟨h0,h1,h2⟩
theorem qlW {m:Ctl} {x:ByteArray} (h:Calm m x):qcQ m (lookR m).2.2 (lookR m).1 (Calm (lookR m).1 x∧(lookR m).2.1=qky x) (fun y=>y=x):=by
 have hp:=(qj9 h).2
 unfold lookR
 generalize m.probeR=r at hp
 rcases hp with ⟨h0,h1,h2⟩ | ⟨h0,h1,h2⟩
 ·
  rw [if_neg (by rw [h0];decide)]
  have hl:=qj8 4 4 r.1 [] h1 (by omega)
  rw [show ((4:Nat):Int)=4 from rfl] at hl
  generalize lookS 4 4 r.1 []=u at hl
  unfold qmt
  rcases hl with ⟨k0,⟨k1,k2⟩,k3⟩ | ⟨k0,k1,k2⟩
  ·
   rw [if_neg (by rw [k0];decide)]
   refine .inl ⟨rfl,⟨k1,?_⟩,h2.trans k3⟩
   have e:u.2.1=qjU x:=k2
   show (qdD u.2.1 u.2.1.length).map (fun (k:Nat)=>(4+(k:Int),u.2.1.getD k qaB))=_
   rw [e]
   rfl
  ·
   rw [if_pos (by rw [k0];decide)]
   exact qcQ.next h2 (.inr ⟨k0,k1,k2⟩)
 ·
  rw [if_pos (by rw [h0];decide)]
  exact .inr ⟨h0,h1,h2⟩
theorem qsE {x:ByteArray} {s:Int×qau} (h:qky x=some s):4≤s.1∧s.1<8∧s.2.Ok:=by
 unfold qky at h
 cases hb:qdD (qjU x) 4 with
 | none=>rw [hb] at h;cases h
 | some k =>
  rw [hb] at h
  obtain rfl:(4+(k:Int),(qjU x).getD k qaB)=s:=by simpa using h
  obtain ⟨h1,V,h2,h3⟩:=qdE (qjU x) 4 k hb
  refine ⟨by show 4≤4+(k:Int);omega,by show 4+(k:Int)<8;omega,?_⟩
  show ((qjU x).getD k qaB).Ok
  rw [List.getD_eq_getElem?_getD,h2]
  show V.Ok
  rw [qhV,if_pos h1] at h2
  obtain rfl:qa8 x (4+k)=V:=by simpa using h2
  exact qob _ h3
def mountX (x:ByteArray):qaf×Int:=match qky x with | none=>(shut,2305) | some s=>(⟨true,s.1,s.2⟩,0)
theorem qpP {m:Ctl} {x:ByteArray} (h:Calm m x):qdQ m (mountR m).2.2 (mountR m).1 (Calm (mountR m).1 x∧(mountR m).2=mountX x) (fun y=>y=x):=by
 have hl:=qlW h
 unfold mountR mountX
 generalize lookR m=r at hl
 unfold qo7
 rcases hl with ⟨h0,⟨h1,h2⟩,h3⟩ | ⟨h0,h1,h2⟩
 ·
  rw [if_neg (by rw [h0];decide),h2]
  cases qky x with
  | none=>exact .inl ⟨⟨h1,rfl⟩,h3⟩
  | some s=>exact .inl ⟨⟨h1,rfl⟩,h3⟩
 ·
  rw [if_pos (by rw [h0];decide)]
  exact .inr ⟨h0,h1,h2⟩
theorem qgr {reads:List Int} (h:readsOk reads=true) : ∀ y ∈ reads,0≤y∧y<2048:=fun y hy=>by
 unfold readsOk at h
 simp only [Bool.and_eq_true,List.all_eq_true] at h
 have:=h.2 y hy
 unfold imageB at this
 simp only [Bool.and_eq_true,decide_eq_true_eq] at this
 exact this
def newSec (x:ByteArray):Int:=nextS (secOf (qky x))
def newEp (x:ByteArray):Int:=epOf (qky x)+1
def qfV (x:ByteArray) (sec:Int):ByteArray:=qbY x (sec * 512) ⟨#[255]⟩
def qcN (x img:ByteArray) (reads:List Int):ByteArray×qaf×List Int×Int :=
 if 1048576≤epOf (qky x) then (x,shut,[],2304) else if readsOk reads=true then (burnt (qfV x (newSec x)) (slotP (newSec x) 0) (recText (headRec (newEp x))),⟨true,newSec x,⟨true,newEp x,[],1⟩⟩,reads.map (qfL img),0) else (x,shut,[],1800)
def qgE (x y:ByteArray):Prop:=y=x∨(epOf (qky x)<1048576∧((∃ mask,y=qbY x (newSec x * 512) mask)∨qdx (qfV x (newSec x)) (slotP (newSec x) 0) (recText (headRec (newEp x))) y))
theorem qiY (x:ByteArray):4≤newSec x∧newSec x<8:=by
 unfold newSec
 cases h:qky x with
 | none=>decide
 | some s =>
  obtain ⟨h1,h2,_⟩:=qsE h
  exact qhI h1 h2
theorem qt1 (x:ByteArray) (h:epOf (qky x)<1048576):1≤newEp x∧newEp x≤1048576:=by
 unfold newEp
 cases hs:qky x with
 | none=>decide
 | some s =>
  obtain ⟨_,_,h3⟩:=qsE hs
  rw [hs] at h
  have:=h3.epoch
  show 1≤s.2.epoch+1∧s.2.epoch+1≤1048576
  have h:s.2.epoch<1048576:=h
  omega
theorem qd9 {sec slot:Int} (h1:4≤sec) (h2:sec<8) (h3:0≤slot) (h4:slot<8):2048≤slotP sec slot∧slotP sec slot<4064∧slotP sec slot % 32=0:=by unfold slotP;omega
theorem qnu {m:Ctl} {x img:ByteArray} {q:Cache} (h:Calm m x) (hx:Has x img) (g:q.Good) (hq:q.Tells img) (reads:List Int):qdQ m (formatR m q reads).2.2.2.2 (formatR m q reads).1 (Calm (formatR m q reads).1 (qcN x img reads).1∧(formatR m q reads).2.1.Good∧(formatR m q reads).2.1.Tells img∧(formatR m q reads).2.2=(qcN x img reads).2) (qgE x):=by
 have hl:=qlW h
 unfold formatR
 generalize lookR m=r at hl
 unfold qiF
 rcases hl with ⟨h0,⟨h1,h2⟩,h3⟩ | ⟨h0,h1,h2⟩
 ·
  rw [if_neg (by rw [h0];decide),h2]
  refine qdQ.next h3 ?_
  unfold qk2
  have hsec:=qiY x
  by_cases hep:1048576≤epOf (qky x)
  ·
   rw [if_pos hep]
   unfold qcN
   rw [if_pos hep]
   exact .inl ⟨⟨h1,g,hq,rfl⟩,qcr.refl _⟩
  ·
   rw [if_neg hep]
   have hepi:=qt1 x (by omega)
   rw [show nextS (secOf (qky x))=newSec x from rfl,show epOf (qky x)+1=newEp x from rfl]
   by_cases hr:readsOk reads=true
   ·
    rw [show wipeT r.1 q (newSec x) reads=wipeR r.1 (newSec x * 512) reads from if_pos hr]
    have hw:=qlY h1 hx (newSec x * 512) (by omega) (by omega) (by omega) reads (qgr hr)
    have eF:qcN x img reads=(burnt (qfV x (newSec x)) (slotP (newSec x) 0) (recText (headRec (newEp x))),⟨true,newSec x,⟨true,newEp x,[],1⟩⟩,reads.map (qfL img),0):=by
     unfold qcN
     rw [if_neg hep,if_pos hr]
    rw [eF]
    generalize wipeR r.1 (newSec x * 512) reads=t at hw
    unfold qiG
    rcases hw with ⟨k0,⟨k1,k2,k3,k4⟩,k5⟩ | ⟨k0,k1,k2⟩
    ·
     rw [if_neg (by rw [k0];decide)]
     refine qdQ.next k5 ?_
     obtain ⟨p0,p1,p2⟩:=qd9 hsec.1 hsec.2 (show (0:Int)≤0 by decide) (show (0:Int)<8 by decide)
     have hb:=qlV k1 (slotP (newSec x) 0) (recText (headRec (newEp x))) p0 p1 p2 (qaV _ (qbw hepi.1 hepi.2))
     generalize t.1.burnR (slotP (newSec x) 0) (recText (headRec (newEp x)))=b at hb
     unfold qgS
     rcases hb with ⟨j0,j1,j2⟩ | ⟨j0,j1,j2⟩
     ·
      rw [if_neg (by rw [j0];decide)]
      exact .inl ⟨⟨j1,k2,k3,by rw [k4]⟩,j2⟩
     ·
      rw [if_pos (by rw [j0];decide)]
      exact .inr ⟨j0,j1.mono fun y hy=>.inr ⟨by omega,.inr hy⟩,j2⟩
    ·
     rw [if_pos (by rw [k0];decide)]
     exact .inr ⟨k0,k1.mono fun y hy=>hy.imp id fun hm=>⟨by omega,.inl hm⟩,k2⟩
   ·
    rw [show wipeT r.1 q (newSec x) reads=(r.1,q,[],1800) from if_neg hr]
    have eF:qcN x img reads=(x,shut,[],1800):=by
     unfold qcN
     rw [if_neg hep,if_neg hr]
    rw [eF]
    exact .inl ⟨⟨h1,g,hq,rfl⟩,qcr.refl _⟩
 ·
  rw [if_pos (by rw [h0];decide)]
  exact .inr ⟨h0,h1.mono fun y hy=>.inl hy,h2⟩
def qcc (sec:Int):List (Int×qaC)→ByteArray→ByteArray→Prop
 | [],_,_=>False
 | a::l,x,y=>qdx x (slotP sec a.1) (recText a.2) y∨qcc sec l (burnt x (slotP sec a.1) (recText a.2)) y
theorem qgM {sec:Int} (s0:4≤sec) (s1:sec<8) : ∀ (l:List (Int×qaC)) (m:Ctl) (x:ByteArray),Calm m x→(∀ a ∈ l,0≤a.1∧a.1<8∧qap a.2=true)→qcQ m (burnsL sec l m).2 (burnsL sec l m).1 (Calm (burnsL sec l m).1 (burnsX sec l x)) (qcc sec l x)
 | [],m,x,h,_=>.inl ⟨rfl,h,qcr.refl m⟩
 | a::l,m,x,h,hl=>by
  obtain ⟨a0,a1,a2⟩:=hl a (by simp)
  obtain ⟨p0,p1,p2⟩:=qd9 s0 s1 a0 a1
  have hb:=qlV h (slotP sec a.1) (recText a.2) p0 p1 p2 (qaV _ a2)
  have e:burnsL sec (a::l) m=if (m.burnR (slotP sec a.1) (recText a.2)).2≠0 then m.burnR (slotP sec a.1) (recText a.2) else burnsL sec l (m.burnR (slotP sec a.1) (recText a.2)).1:=rfl
  rw [e]
  generalize m.burnR (slotP sec a.1) (recText a.2)=b at hb
  rcases hb with ⟨j0,j1,j2⟩ | ⟨j0,j1,j2⟩
  ·
   rw [if_neg (by rw [j0];decide)]
   exact qcQ.next j2 ((qgM s0 s1 l b.1 _ j1 fun c hc=>hl c (by simp [hc])).mono id fun y hy=>.inr hy)
  ·
   rw [if_pos (by rw [j0];decide)]
   exact .inr ⟨j0,j1.mono fun y hy=>.inl hy,j2⟩
theorem qlR {img:ByteArray} {sec:Nat} (s0:4≤sec) : ∀ (l:List (Int×qaC)) (x:ByteArray),Has x img→(∀ a ∈ l,0≤a.1∧a.1<8)→Has (burnsX sec l x) img
 | [],_,h,_=>h
 | a::l,x,h,hl=>by
  obtain ⟨a0,a1⟩:=hl a (by simp)
  obtain ⟨i,hi⟩ : ∃ n:Nat,a.1=(n:Int):=⟨a.1.toNat,(Int.toNat_of_nonneg a0).symm⟩
  show Has (burnsX sec l (burnt x (slotP sec a.1) (recText a.2))) img
  rw [hi]
  rw [hi] at a1
  exact qlR s0 l _ (qoV h (qc0 x sec i _) (by omega)) fun c hc=>hl c (by simp [hc])
def qb5 (x:ByteArray) (p:qcd):ByteArray:=if 0≤p.wipe then qfV x p.wipe else x
def qcn (x:ByteArray) (p:qcd):ByteArray:=burnsX p.sector (p.slots.zip p.recs) (qb5 x p)
def qeW (x:ByteArray) (p:qcd) (y:ByteArray):Prop:=y=x∨(0≤p.wipe ∧ ∃ mask,y=qbY x (p.wipe * 512) mask)∨qcc p.sector (p.slots.zip p.recs) (qb5 x p) y∨y=qcn x p
theorem qjz {x img:ByteArray} (h:Has x img) (sec:Int) (h0:4≤sec):Has (qfV x sec) img:=qe3 h _ (by omega) _
theorem qgC {p:qcd} (pk:p.Ok) : ∀ a ∈ p.slots.zip p.recs,0≤a.1∧a.1<8∧qap a.2=true:=fun a ha=>by
 obtain ⟨h1,h2⟩:=List.of_mem_zip (a:=a.1) (b:=a.2) ha
 exact ⟨(pk.slots _ h1).1,(pk.slots _ h1).2,pk.recs _ h2⟩
theorem qnv {m:Ctl} {x img:ByteArray} {q:Cache} (h:Calm m x) (hx:Has x img) (g:q.Good) (hq:q.Tells img) {p:qcd} (pk:p.Ok) {reads:List Int} (hr:readsOk reads=true):qcQ m (writesR m q p reads).2.2.2 (writesR m q p reads).1 (Calm (writesR m q p reads).1 (qcn x p)∧(writesR m q p reads).2.1.Good∧(writesR m q p reads).2.1.Tells img∧(writesR m q p reads).2.2.1=reads.map (qfL img)) (qeW x p):=by
 obtain ⟨s0,s1⟩:=pk.sector
 obtain ⟨sec,hsec⟩ : ∃ n:Nat,p.sector=(n:Int):=⟨p.sector.toNat,by omega⟩
 unfold writesR firstT
 by_cases hw:0≤p.wipe
 ·
  have hwi:=pk.wipe
  rw [if_pos hw]
  unfold wipeT
  rw [if_pos hr]
  have k:=qlY h hx (p.wipe * 512) (by omega) (by omega) (by omega) reads (qgr hr)
  generalize wipeR m (p.wipe * 512) reads=t at k
  unfold qha
  rcases k with ⟨k0,⟨k1,k2,k3,k4⟩,k5⟩ | ⟨k0,k1,k2⟩
  ·
   rw [if_neg (by rw [k0];decide)]
   have hb:=qgM s0 s1 (p.slots.zip p.recs) t.1 _ k1 (qgC pk)
   have eb:qb5 x p=qbY x (p.wipe * 512) ⟨#[255]⟩:=by unfold qb5 qfV;rw [if_pos hw]
   refine qcQ.next k5 ?_
   generalize burnsL p.sector (p.slots.zip p.recs) t.1=b at hb
   unfold qb0
   rcases hb with ⟨j0,j1,j2⟩ | ⟨j0,j1,j2⟩
   ·
    rw [if_neg (by rw [j0];decide),if_pos hw]
    refine .inl ⟨rfl,⟨?_,k2,k3,k4⟩,j2⟩
    unfold qcn
    rw [eb]
    exact j1
   ·
    rw [if_pos (by rw [j0];decide)]
    exact .inr ⟨j0,j1.mono fun y hy=>.inr (.inr (.inl (by rw [eb];exact hy))),j2⟩
  ·
   rw [if_pos (by rw [k0];decide)]
   exact .inr ⟨k0,k1.mono fun y hy=>hy.imp id fun hm=>.inl ⟨hw,hm⟩,k2⟩
 ·
  rw [if_neg hw]
  unfold qha
  rw [if_neg (by simp)]
  have hb:=qgM s0 s1 (p.slots.zip p.recs) m _ h (qgC pk)
  have eb:qb5 x p=x:=by unfold qb5;rw [if_neg hw]
  have hh:Has (qcn x p) img:=by
   unfold qcn
   rw [eb,hsec]
   exact qlR (by omega) _ _ hx fun a ha=>⟨(qgC pk a ha).1,(qgC pk a ha).2.1⟩
  show qcQ m (qb0 (burnsL p.sector (p.slots.zip p.recs) m) q p.wipe [] reads).2.2.2 (qb0 (burnsL p.sector (p.slots.zip p.recs) m) q p.wipe [] reads).1 (Calm (qb0 (burnsL p.sector (p.slots.zip p.recs) m) q p.wipe [] reads).1 _∧(qb0 (burnsL p.sector (p.slots.zip p.recs) m) q p.wipe [] reads).2.1.Good∧(qb0 (burnsL p.sector (p.slots.zip p.recs) m) q p.wipe [] reads).2.1.Tells img∧(qb0 (burnsL p.sector (p.slots.zip p.recs) m) q p.wipe [] reads).2.2.1=_) _
  generalize burnsL p.sector (p.slots.zip p.recs) m=b at hb
  unfold qb0
  rcases hb with ⟨j0,j1,j2⟩ | ⟨j0,j1,j2⟩
  ·
   rw [if_neg (by rw [j0];decide),if_neg hw]
   have hr2:=qrn (q:=q) (img:=img) j1 (by rw [← eb] at hx ⊢;unfold qcn at hh;rw [eb] at hh ⊢;exact hh) g hq reads (qgr hr)
   refine qcQ.next j2 (hr2.mono (fun k => ?_) fun y hy => ?_)
   ·
    refine ⟨?_,k.2.1,k.2.2.1,k.2.2.2⟩
    unfold qcn
    rw [eb]
    exact k.1
   ·
    refine .inr (.inr (.inr ?_))
    unfold qcn
    rw [eb]
    exact hy
  ·
   rw [if_pos (by rw [j0];decide)]
   exact .inr ⟨j0,j1.mono fun y hy=>.inr (.inr (.inl (by rw [eb];exact hy))),j2⟩
end
end Go.Proofs.YtcfdenckiigdaaaGreat

/- Part 20 of the contracts. -/
import Derived.Test.YtcfdenckiigdaaaGreatSc19
set_option linter.unusedVariables false
set_option maxRecDepth 100000
set_option maxHeartbeats 4000000
namespace Go.Proofs.YtcfdenckiigdaaaGreat
open Tryz Go.RowKit
def erased (x:ByteArray) (p:Int) (mask:ByteArray):ByteArray:=lB x p.toNat 512 (iR mask)
theorem wL {x img:ByteArray} (h:Has x img) (p:Int) (hp:2048≤p) (mask:ByteArray):Has (erased x p mask) img:=by
 refine ⟨by unfold erased lB;rw [eB];exact h.size,fun i hi => ?_⟩
 unfold erased lB
 rw [lN _ _ _ (by rw [h.size];omega),if_neg (by omega)]
 exact h.same i hi
theorem Calm.held {m:aG} {x:ByteArray} (h:Calm m x):sQ m m.ar.core:=⟨h.qc,h.bT,h.bB,h.bq,fun j e=>by rw [show m.ar.core.bg=none from h.bg] at e;cases e⟩
theorem Calm.of_held {m m':aG} {x:ByteArray} (h:Calm m x) {g:Bool} (k:sQ m' { m.ar.core with aE:=g }):Calm m' x:=Calm.of k.qc h.cells h.bB h.bq h.bg h.busy
theorem Calm.may {m:aG} {x:ByteArray} (h:Calm m x) : ∀ y,m.ar.core.yD y→y=x:=fun y hy=>by
 unfold Core.yD at hy
 rw [show m.ar.core.bg=none from h.bg] at hy
 exact hy.trans h.cells
theorem yV {m:aG} {x img:ByteArray} (h:Calm m x) (hx:Has x img) (p:Int) (h0:2048≤p) (h1:p<4096) (hp:p % 512=0) (reads:List Int) (hr : ∀ y ∈ reads,0≤y∧y<2048):eV m (gN m p reads).2.2.2 (gN m p reads).1 (Calm (gN m p reads).1 (erased x p ⟨#[255]⟩)∧(gN m p reads).2.1.Good∧(gN m p reads).2.1.di img∧(gN m p reads).2.2.1=reads.map (kY img)) (fun y=>y=x ∨ ∃ mask,y=erased x p mask):=by
 have k6:=fW (b:=6) (at_:=0) (ys:=[]) (read:=0) h.qc (by decide) h.leave (Ft (c:={ m.ar.core with aE:=false }) rfl h.bT) rfl
 unfold gN
 rcases oE h k6 with ⟨e1,e2,r,b⟩ | ⟨e1,e2,t,l⟩
 case inr =>
  have e:dv m p reads=((m.run 6 0 [] 0).1,Cache.new,reads,[],(m.run 6 0 [] 0).2.2):=by unfold dv;rw [if_pos (by rw [e1];decide)]
  rw [e,if_pos (by show (m.run 6 0 [] 0).2.2≠0;rw [e1];decide)]
  exact .inr ⟨e1,t.mono fun y e=>.inl e,l⟩
 have k2:=fW (b:=32) (at_:=p) (ys:=[]) (read:=0) r (by decide) (by intro e;cases e) (LR (c:={ m.ar.core with aE:=false,en:=true }) p (by omega) h1 rfl h.bg) (by rw [nL rfl h0])
 rw [nL rfl h0] at k2
 have hbusy:=wR (show ∀ y ∈ ({ m.ar.core with aE:=false,en:=true }:Core).busy,1≤y∧y≤400 from h.busy)
 have hjc : ∀ l sp mask,cI ⟨p / 512,0,ByteArray.empty,l,sp⟩ m.ar.cells mask=erased x p mask:=fun l sp mask=>by
  unfold cI erased
  rw [if_neg (by show ¬ p / 512 = -1;omega),h.cells]
  congr 1
  show (p / 512).toNat * 512=_
  omega
 rcases k2 with ⟨f1,f2,g⟩ | ⟨f1,f2,r2,b2⟩
 ·
  have e:dv m p reads=(((m.run 6 0 [] 0).1.run 32 p [] 0).1,Cache.new,reads,[],((m.run 6 0 [] 0).1.run 32 p [] 0).2.2):=by unfold dv;rw [if_neg (by rw [e1];decide),if_pos (by rw [f1];decide)]
  rw [e,if_pos (by show ((m.run 6 0 [] 0).1.run 32 p [] 0).2.2≠0;rw [f1];decide)]
  exact eV.next b (.inr ⟨f1,(mP g h.bg h.bB h.bq).mono fun y e=>.inl (e.trans h.cells),g.left⟩)
 have e:dv m p reads=cK 256 ((m.run 6 0 [] 0).1.run 32 p [] 0).1 Cache.new reads []:=by unfold dv;rw [if_neg (by rw [e1];decide),if_neg (by rw [f1];decide)]
 rw [e]
 have hw:=Ii (img:=img) 255 _ Cache.new reads [] _ r2 ⟨rfl,h.bB,h.bq,fun j hj=>by
  obtain rfl:(⟨p / 512,0,ByteArray.empty,m.ar.busy.headD 8,false⟩:iz)=j:=Option.some.inj hj
  exact ⟨rfl,hbusy.1,Int.le_trans hbusy.2 (by decide),by show p / 512 ≠ -1;omega⟩⟩ (show Has m.ar.cells img by rw [h.cells];exact hx) (fun j hj=>by
  obtain rfl:(⟨p / 512,0,ByteArray.empty,m.ar.busy.headD 8,false⟩:iz)=j:=Option.some.inj hj
  show 4≤p / 512;omega) Cache.mG (zw img) hr
 rcases hw with ⟨w1,⟨w2,w3,w4,l1,w5,w6⟩,b3⟩ | ⟨w1,t,l⟩
 ·
  rw [if_neg (by rw [w1];decide)]
  have hc:Calm (cK 256 ((m.run 6 0 [] 0).1.run 32 p [] 0).1 Cache.new reads []).1 (erased x p ⟨#[255]⟩):=by
   refine Calm.of w2 ?_ h.bB h.bq rfl (fun y hy=>h.busy y (List.mem_of_mem_drop hy))
   rw [← hjc (m.ar.busy.headD 8) false]
   rfl
  have hx2:Has (cK 256 ((m.run 6 0 [] 0).1.run 32 p [] 0).1 Cache.new reads []).1.ar.core.cells img:=by
   show Has (cK 256 ((m.run 6 0 [] 0).1.run 32 p [] 0).1 Cache.new reads []).1.ar.cells img
   rw [hc.cells];exact wL hx p h0 _
  have k:=xy (cK 256 ((m.run 6 0 [] 0).1.run 32 p [] 0).1 Cache.new reads []).2.2.1 (cK 256 ((m.run 6 0 [] 0).1.run 32 p [] 0).1 Cache.new reads []).2.2.2.1 _ _ _ hc.held hx2 w3 w4 (fun y hy=>hr y (by rw [w5];exact List.mem_append_right _ hy))
  refine eV.next ((b.trans b2).trans b3) (k.mono (fun ⟨⟨g,a1⟩,a2,a3,a4⟩=>⟨hc.of_held a1,a2,a3,?_⟩) fun y hy=>.inr ⟨_,hc.may y hy⟩)
  rw [a4,w6,List.nil_append,← List.map_append,← w5]
 ·
  rw [if_pos (by rw [w1];decide)]
  refine eV.next (b.trans b2) (.inr ⟨w1,t.mono fun y hy => ?_,l⟩)
  obtain ⟨mask,hy⟩:=hy
  exact .inr ⟨mask,hy.trans (hjc _ _ _)⟩
theorem Gl {m:aG} {x img:ByteArray} {q:Cache} {at_ width:Int} (h:Calm m x) (hx:Has x img) (g:q.Good) (hq:q.di img) (hr:fI at_ width=true):eV m (bJ m q at_ width).2.2.2 (bJ m q at_ width).1 (Calm (bJ m q at_ width).1 x∧(bJ m q at_ width).2.1.Good∧(bJ m q at_ width).2.1.di img∧(bJ m q at_ width).2.2.1=oC img at_ width.toNat 0 0) (fun y=>y=x) :=
 (xt h.held (show Has m.ar.cells img by rw [h.cells];exact hx) g hq hr).mono (fun ⟨⟨_,a1⟩,a2,a3,a4⟩=>⟨h.of_held a1,a2,a3,a4⟩) h.may
theorem Gn {m:aG} {x img:ByteArray} {q:Cache} (h:Calm m x) (hx:Has x img) (g:q.Good) (hq:q.di img) (l:List Int) (hl : ∀ y ∈ l,0≤y∧y<2048):eV m (dG l [] m q).2.2.2 (dG l [] m q).1 (Calm (dG l [] m q).1 x∧(dG l [] m q).2.1.Good∧(dG l [] m q).2.1.di img∧(dG l [] m q).2.2.1=l.map (kY img)) (fun y=>y=x) :=
 (xy l [] m q _ h.held (show Has m.ar.cells img by rw [h.cells];exact hx) g hq hl).mono (fun ⟨⟨_,a1⟩,a2,a3,a4⟩=>⟨h.of_held a1,a2,a3,a4⟩) h.may
theorem mM {m:aG} {c:Core} {r:aG×List Int×Int} {xs:List Int} {c':Core} (h:vG m c r xs c') (hl:m.left<0):r=(r.1,xs,0)∧gd r.1 c'∧r.1.left<0:=by
 obtain ⟨a,b,d⟩:=r
 rcases h with ⟨_,_,g⟩ | ⟨e1,e2,r,b⟩
 ·
  have:=g.left;omega
 ·
  simp only at e1 e2
  subst e1 e2
  exact ⟨rfl,r,b hl⟩
theorem I9 {m:aG} {c:Core} (h:gd m c) (hg:c.aE=false) (hj:c.bg=none) (hl:m.left<0):m.run 5 0 [] 1=((m.run 5 0 [] 1).1,[c.first],0)∧gd (m.run 5 0 [] 1).1 c∧(m.run 5 0 [] 1).1.left<0:=by
 have hgo:({ c with aE:=false }:Core)=c:=by rw [← hg]
 have k:=fW (b:=5) (at_:=0) (ys:=[]) (read:=1) h (by decide) (by rw [hg];intro e;cases e) (LG rfl) (by rw [hgo,ew hj];exact hg)
 rw [hgo,ew hj,ew hj] at k
 exact mM k hl
theorem Fv {m:aG} {c:Core} (h:gd m c) (hg:c.aE=false) (hj:c.bg=none) (hl:m.left<0):m.run 53 0 [] 1=((m.run 53 0 [] 1).1,[c.second],0)∧gd (m.run 53 0 [] 1).1 c∧(m.run 53 0 [] 1).1.left<0:=by
 have hgo:({ c with aE:=false }:Core)=c:=by rw [← hg]
 have k:=fW (b:=53) (at_:=0) (ys:=[]) (read:=1) h (by decide) (by rw [hg];intro e;cases e) (LS rfl) (by rw [hgo,ew hj];exact hg)
 rw [hgo,ew hj,ew hj] at k
 exact mM k hl
theorem Hq {m:aG} {x:ByteArray} {b:List Int} (h:gd m ⟨x,false,false,false,false,none,b⟩) (hl:m.left<0) : ∃ m1 m2 m3 m4,Sets m m1 m2 m3 m4 53 2 5 4 0 0∧gd m4 ⟨x,false,true,false,false,none,b⟩∧m4.left<0:=by
 obtain ⟨e1,r1,l1⟩:=Fv h rfl rfl hl
 obtain ⟨e2,r2,l2⟩:=I9 r1 rfl rfl l1
 obtain ⟨e3,r3,l3⟩:=mM (fW (b:=6) (at_:=0) (ys:=[]) (read:=0) r2 (by decide) (by intro e;cases e) (Ft rfl rfl) rfl) l2
 obtain ⟨e4,r4,l4⟩:=mM (fW (b:=1) (at_:=0) (ys:=[0,2]) (read:=0) r3 (by decide) (by intro e;cases e) (LF 0 2 (by decide) (by decide) rfl rfl rfl) rfl) l3
 refine ⟨_,_,_,_,⟨e1,by decide,e2,e3,?_,by decide,.inr rfl,.inl rfl,by decide⟩,?_,l4⟩
 ·
  exact e4
 ·
  exact r4
theorem Hp {m:aG} {x:ByteArray} {b:List Int} (h:gd m ⟨x,false,true,false,false,none,b⟩) (hl:m.left<0) : ∃ m1 m2 m3 m4,Sets m m1 m2 m3 m4 5 4 53 2 0 2∧gd m4 ⟨x,true,true,false,false,none,b⟩∧m4.left<0:=by
 obtain ⟨e1,r1,l1⟩:=I9 h rfl rfl hl
 obtain ⟨e2,r2,l2⟩:=Fv r1 rfl rfl l1
 obtain ⟨e3,r3,l3⟩:=mM (fW (b:=6) (at_:=0) (ys:=[]) (read:=0) r2 (by decide) (by intro e;cases e) (Ft rfl rfl) rfl) l2
 obtain ⟨e4,r4,l4⟩:=mM (fW (b:=1) (at_:=0) (ys:=[4,2]) (read:=0) r3 (by decide) (by intro e;cases e) (LF 4 2 (by decide) (by decide) rfl rfl rfl) rfl) l3
 refine ⟨_,_,_,_,⟨e1,by decide,e2,e3,?_,by decide,.inl rfl,.inr rfl,by decide⟩,?_,l4⟩
 ·
  exact e4
 ·
  exact r4
theorem Dl (a:UInt8):a &&& ~~~a=0:=by
 rw [← UInt8.toBitVec_inj];simp
theorem E5 (a b:UInt8):a &&& ~~~b=0 ↔ ∀ i,i<8→a.toBitVec.getLsbD i=true→b.toBitVec.getLsbD i=true:=by
 rw [← UInt8.toBitVec_inj]
 constructor
 ·
  intro h i hi ha
  have:=congrArg (fun x=>BitVec.getLsbD x i) h
  simp [ha,hi] at this
  exact this
 ·
  intro h
  apply BitVec.eq_of_getLsbD_eq
  intro i hi
  have:=h i hi
  cases ha:a.toBitVec.getLsbD i
  ·
   simp [ha]
  ·
   simp [ha,this ha]
theorem FW {a b:UInt8} (h:a &&& ~~~b=0) (k : ~~~a &&& ~~~(~~~b)=0):a=b:=by
 rw [E5] at h k
 rw [← UInt8.toBitVec_inj]
 apply BitVec.eq_of_getLsbD_eq
 intro i hi
 have h1:=h i hi
 have h2:=k i hi
 cases ha:a.toBitVec.getLsbD i <;> cases hb:b.toBitVec.getLsbD i <;> simp_all
theorem Bi {a b c:UInt8} (h:a &&& ~~~b=0) (k:b &&& ~~~c=0):a &&& ~~~c=0:=by
 rw [E5] at *
 exact fun i hi ha=>k i hi (h i hi ha)
theorem Bh (d:UInt8):(255:UInt8) &&& ~~~((255:UInt8) &&& ~~~d)=d:=by
 have e : ∀ x:UInt8,(255:UInt8) &&& x=x:=fun x=>by
  rw [← UInt8.toBitVec_inj]
  exact BitVec.allOnes_and
 rw [e,e];simp
theorem E6 (a:UInt8):a ||| 255=255:=by
 rw [← UInt8.toBitVec_inj]
 exact BitVec.or_allOnes
theorem qq (a b:ByteArray) (i:Nat):bt (a++b) i=if i<a.size then bt a i else bt b (i - a.size):=by
 unfold bt
 rw [Array.getD_eq_getD_getElem?,Array.getD_eq_getD_getElem?,Array.getD_eq_getD_getElem?,ByteArray.data_append,Array.getElem?_append]
 show (if i<a.size then _ else _:Option UInt8).getD 0=_
 split <;> rfl
theorem IS (a:ByteArray) (i:Nat) (h:a.size≤i):bt a i=0:=by
 unfold bt
 rw [Array.getD_eq_getD_getElem?,Array.getElem?_eq_none h]
 rfl
theorem fD (a:ByteArray) (p q i:Nat) (h:i<q - p) (hq:q≤a.size):bt (a.extract p q) i=bt a (p+i):=by
 unfold bt
 rw [Array.getD_eq_getD_getElem?,Array.getD_eq_getD_getElem?,ByteArray.data_extract,Array.getElem?_extract]
 have:a.data.size=a.size:=rfl
 rw [if_pos (by omega)]
theorem hZ (a:ByteArray) (p q:Nat) (hq:q≤a.size):(a.extract p q).size=q - p:=by
 rw [ByteArray.size_extract];omega
theorem ij (s:ByteArray) (i:Nat):(i<s.size→bt (dz s) i=bt s i)∧(i<s.size→bt (dz s) (s.size+i) = ~~~(bt s i)):=by
 have hs:s.data.toList.length=s.size:=by rw [Array.length_toList];rfl
 have e : ∀ j,bt (dz s) j=((s.data.toList++s.data.toList.map fun x => ~~~x)[j]?).getD 0:=fun j=>by
  unfold bt dz
  rw [Array.getD_eq_getD_getElem?,List.getElem?_toArray]
 constructor
 ·
  intro h
  rw [e,List.getElem?_append_left (by omega)]
  unfold bt
  rw [Array.getD_eq_getD_getElem?,Array.getElem?_toList]
 ·
  intro h
  rw [e,List.getElem?_append_right (by omega),hs,Nat.add_sub_cancel_left,List.getElem?_map]
  unfold bt
  rw [Array.getD_eq_getD_getElem?,Array.getElem?_toList]
  have h':i<s.data.size:=h
  rw [Array.getElem?_eq_getElem h']
  rfl
theorem G9 (s:ByteArray) (hs:s.size=32):(dz s).extract 0 32=s:=by
 have h64:(dz s).size=64:=by rw [fb,hs]
 refine fC (by rw [hZ _ _ _ (by omega),hs]) fun i hi => ?_
 rw [hZ _ _ _ (by omega)] at hi
 rw [fD _ _ _ _ hi (by omega),Nat.zero_add]
 exact (ij s i).1 (by omega)
theorem CO (s:ByteArray) (hs:s.size=32):fq (dz s)=some s:=by
 unfold fq
 rw [G9 s hs,if_pos ⟨by rw [fb,hs],rfl⟩]
theorem tw {u:ByteArray} {r:aT} (h:dJ u=some r):bF r=true∧u=aL r:=by
 unfold dJ at h
 split at h
 ·
  cases h
 ·
  rename_i t ht
  split at h
  ·
   rename_i hp
   obtain rfl:gw t=r:=by simpa using h
   unfold ix at hp
   split at hp
   ·
    rename_i hm
    exact ⟨hm,by simpa using hp.symm⟩
   ·
    cases hp
  ·
   cases h
def IA (t u:ByteArray):Prop:=u.size=t.size ∧ ∀ i,i<t.size→bt t i &&& ~~~(bt u i)=0
theorem IA.refl (t:ByteArray):IA t t:=⟨rfl,fun _ _=>Dl _⟩
theorem IA.trans {a b c:ByteArray} (h:IA a b) (k:IA b c):IA a c:=⟨k.1.trans h.1,fun i hi=>Bi (h.2 i hi) (k.2 i (by rw [h.1];exact hi))⟩
theorem JW {s s':ByteArray} (hs:s.size=32) (hs':s'.size=32) (h:IA (dz s) (dz s')):s=s':=by
 have h64:(dz s).size=64:=by rw [fb,hs]
 refine fC (by rw [hs,hs']) fun i hi => ?_
 have h1:=h.2 i (by omega)
 have h2:=h.2 (32+i) (by omega)
 rw [(ij s i).1 hi,(ij s' i).1 (by omega)] at h1
 have e1:=(ij s i).2 hi
 have e2:=(ij s' i).2 (by omega)
 rw [hs] at e1
 rw [hs'] at e2
 rw [e1,e2] at h2
 exact FW h1 h2
theorem fJ (r:aT) (h:bF r=true):(aL r).size=64:=by
 unfold aL
 rw [fb,dp _ _ (gk h)]
theorem J9 {r r':aT} {u:ByteArray} (hr:bF r=true) (h:IA (aL r) u) (hu:dJ u=some r'):u=aL r:=by
 obtain ⟨h1,h2⟩:=tw hu
 rw [h2] at h ⊢
 unfold aL at h ⊢
 rw [JW (dp _ _ (gk hr)) (dp _ _ (gk h1)) h]
theorem Jm (l:Array UInt8) (i:Nat):bt ⟨l⟩ i=l.getD i 0:=rfl
theorem mH {s:ByteArray} (h:ln s=true):s=⟨#[]⟩:=fC (iY h) fun i hi=>by rw [iY h] at hi;omega
theorem IT (s:ByteArray) (n i:Nat):bt (dY s n) i=if i<s.size then bt s i else 0:=by
 unfold dY
 rw [qq]
 split
 ·
  rfl
 ·
  rw [Jm,Array.getD_eq_getD_getElem?,Array.getElem?_replicate]
  split <;> rfl
theorem K8 (x:Nat) (h:x<4294967296) (s:ByteArray) (hs : ∀ i,i<4→bt s i=bt (lM x) i):jq s=x:=by
 unfold jq
 rw [hs 0 (by omega),hs 1 (by omega),hs 2 (by omega),hs 3 (by omega)]
 unfold lM
 simp only [Jm]
 show (UInt8.ofNat x).toNat+256 * (UInt8.ofNat (x / 256)).toNat+65536 * (UInt8.ofNat (x / 65536)).toNat+16777216 * (UInt8.ofNat (x / 16777216)).toNat=x
 simp only [UInt8.toNat_ofNat']
 omega
theorem rk (s:ByteArray) (b:UInt8) (h:1≤s.size):s.extract 0 1=⟨#[b]⟩ ↔ bt s 0=b:=by
 constructor
 ·
  intro e
  have:=congrArg (fun t=>bt t 0) e
  simp only [fD s 0 1 0 (by omega) h] at this
  exact this
 ·
  intro e
  refine fC (by rw [hZ _ _ _ h];rfl) fun i hi => ?_
  rw [hZ _ _ _ h] at hi
  obtain rfl:i=0:=by omega
  rw [fD s 0 1 0 (by omega) h]
  exact e
theorem lC {n:Nat} (h:n<256):(UInt8.ofNat n).toNat=n:=by rw [UInt8.toNat_ofNat'];exact Nat.mod_eq_of_lt h
theorem ry (r:aT) (i:Nat):bt (headText r) i=if i=0 then UInt8.ofNat r.key.size else if i=1 then UInt8.ofNat r.value.size else if i=2 then 0 else bt r.key (i - 3):=by
 unfold headText
 rw [qq]
 show (if i<3 then _ else bt r.key (i - 3))=_
 match i with
 | 0=>rfl
 | 1=>rfl
 | 2=>rfl
 | i+3=>rw [if_neg (by omega),if_neg (by omega),if_neg (by omega),if_neg (by omega)]
theorem s8 (r:aT):(headText r).size=3+r.key.size:=by unfold headText;rw [ByteArray.size_append];rfl
theorem kx (b:UInt8) (s:ByteArray) (i:Nat):bt (⟨#[b]⟩++s) i=if i=0 then b else bt s (i - 1):=by
 rw [qq]
 show (if i<1 then _ else bt s (i - 1))=_
 match i with
 | 0=>rfl
 | i+1=>rw [if_neg (by omega),if_neg (by omega)]
theorem pE (b:UInt8) (s:ByteArray):(⟨#[b]⟩++s:ByteArray).size=1+s.size:=by rw [ByteArray.size_append];rfl
theorem EZ {r:aT} (h:bF r=true):gw (dY (cg r) 32)=r:=by
 have hs:=dp _ _ (gk h)
 obtain ⟨hk,hv⟩:=tj h
 generalize ht:dY (cg r) 32=t at hs
 have hb : ∀ i,bt t i=if i<(cg r).size then bt (cg r) i else 0:=fun i=>by rw [← ht,IT]
 clear ht
 obtain ⟨kind,ep,key,value⟩:=r
 unfold bF at h
 unfold gw
 simp only at h hk hv
 split at h
 ·
  rename_i h0
  subst h0
  simp only [Bool.and_eq_true,oH,decide_eq_true_eq] at h
  obtain ⟨⟨⟨e0,e1⟩,hkey⟩,hval⟩:=h
  have hh:cg ⟨0,ep,key,value⟩=⟨#[72]⟩++lM ep.toNat:=by unfold cg;rw [if_pos rfl]
  rw [hh] at hb
  have hsz:(⟨#[72]⟩++lM ep.toNat:ByteArray).size=5:=by rw [pE];rfl
  rw [hsz] at hb
  have b0:bt t 0=72:=by rw [hb 0,kx];rfl
  rw [if_pos ((rk t 72 (by omega)).2 b0),mH hkey,mH hval]
  have hn:jq (t.extract 1 32)=ep.toNat:=K8 _ (by omega) _ fun i hi=>by
   rw [fD _ _ _ _ (by omega) (by omega),hb,kx,if_pos (by omega),if_neg (by omega),Nat.add_sub_cancel_left]
  rw [hn,Int.toNat_of_nonneg (by omega)]
 ·
  rename_i h0
  split at h
  ·
   rename_i h1
   subst h1
   simp only [Bool.and_eq_true,wV,decide_eq_true_eq] at h
   obtain ⟨⟨rfl,k1,_⟩,_⟩:=h
   have hh:cg ⟨1,0,key,value⟩=dY (⟨#[82]⟩++headText ⟨1,0,key,value⟩) 10++value:=by unfold cg;rw [if_neg (show ¬ (1:Int)=0 by decide),if_pos rfl]
   have hp:(dY (⟨#[82]⟩++headText ⟨1,0,key,value⟩) 10).size=10:=dp _ _ (by rw [pE,s8];show 1+(3+key.size)≤10;omega)
   have hsz:(cg ⟨1,0,key,value⟩).size=10+value.size:=by rw [hh,ByteArray.size_append,hp]
   have hf : ∀ i,i<4+key.size→bt t i=bt (⟨#[82]⟩++headText ⟨1,0,key,value⟩) i:=fun i hi=>by
    rw [hb,if_pos (by omega),hh,qq,hp,if_pos (by omega),IT,if_pos (by rw [pE,s8];show i<1+(3+key.size);omega)]
   have b0:bt t 0=82:=by rw [hf 0 (by omega),kx];rfl
   have b1:(bt t 1).toNat=key.size:=by rw [hf 1 (by omega),kx,if_neg (by omega),ry,if_pos rfl];exact lC (by show key.size<256;omega)
   have b2:(bt t 2).toNat=value.size:=by rw [hf 2 (by omega),kx,if_neg (by omega),ry,if_neg (by omega),if_pos rfl];exact lC (by show value.size<256;omega)
   rw [if_neg (by rw [rk t 72 (by omega),b0];decide),if_pos ((rk t 82 (by omega)).2 b0),b1,b2,Nat.min_eq_left (by omega),Nat.min_eq_left (by omega)]
   have ek:t.extract 4 (4+key.size)=key:=fC (by rw [hZ _ _ _ (by omega)];omega) fun i hi=>by
    rw [hZ _ _ _ (by omega)] at hi
    rw [fD _ _ _ _ (by omega) (by omega),hf _ (by omega),kx,if_neg (by omega),ry,if_neg (by omega),if_neg (by omega),if_neg (by omega)]
    show bt key _=_
    congr 1
    omega
   have ev:t.extract 10 (10+value.size)=value:=fC (by rw [hZ _ _ _ (by omega)];omega) fun i hi=>by
    rw [hZ _ _ _ (by omega)] at hi
    rw [fD _ _ _ _ (by omega) (by omega),hb,if_pos (by omega),hh,qq,hp,if_neg (by omega),Nat.add_sub_cancel_left]
   rw [ek,ev]
  ·
   rename_i h1
   split at h
   ·
    rename_i h2
    subst h2
    simp only [Bool.and_eq_true,wV,decide_eq_true_eq] at h
    obtain ⟨⟨rfl,k1,_⟩,hval⟩:=h
    obtain rfl:=mH hval
    have hh:cg ⟨2,0,key,⟨#[]⟩⟩=⟨#[84]⟩++headText ⟨2,0,key,⟨#[]⟩⟩:=by unfold cg;rw [if_neg (show ¬ (2:Int)=0 by decide),if_neg (show ¬ (2:Int)=1 by decide)]
    have hsz:(cg ⟨2,0,key,⟨#[]⟩⟩).size=4+key.size:=by rw [hh,pE,s8];show 1+(3+key.size)=_;omega
    have hf : ∀ i,i<4+key.size→bt t i=bt (⟨#[84]⟩++headText ⟨2,0,key,⟨#[]⟩⟩) i:=fun i hi=>by
     rw [hb,if_pos (by omega),hh]
    have b0:bt t 0=84:=by rw [hf 0 (by omega),kx];rfl
    have b1:(bt t 1).toNat=key.size:=by rw [hf 1 (by omega),kx,if_neg (by omega),ry,if_pos rfl];exact lC (by show key.size<256;omega)
    rw [if_neg (by rw [rk t 72 (by omega),b0];decide),if_neg (by rw [rk t 82 (by omega),b0];decide),b1,Nat.min_eq_left (by omega)]
    have ek:t.extract 4 (4+key.size)=key:=fC (by rw [hZ _ _ _ (by omega)];omega) fun i hi=>by
     rw [hZ _ _ _ (by omega)] at hi
     rw [fD _ _ _ _ (by omega) (by omega),hf _ (by omega),kx,if_neg (by omega),ry,if_neg (by omega),if_neg (by omega),if_neg (by omega)]
     show bt key _=_
     congr 1
     omega
    rw [ek]
   ·
    cases h
theorem jI {r:aT} (h:bF r=true):dJ (aL r)=some r:=by
 have hs:=dp _ _ (gk h)
 unfold dJ aL
 rw [CO _ hs]
 show (if ix (gw (dY (cg r) 32))=some _ then some (gw (dY (cg r) 32)) else none)=some r
 rw [EZ h]
 unfold ix aL
 rw [if_pos h,if_pos rfl]
theorem oK (n:Nat):(sK n).size=n:=by show (Array.replicate n (255:UInt8)).size=n;simp
theorem sY (n i:Nat) (h:i<n):bt (sK n) i=255:=by
 show (Array.replicate n (255:UInt8)).getD i 0=255
 rw [Array.getD_eq_getD_getElem?,Array.getElem?_replicate,if_pos h]
 rfl
theorem Gc (t:ByteArray):jD t=decide (t=sK t.size):=jw _ _
theorem mB {t:ByteArray} (h:t.size=64):jD t=true ↔ t=sK 64:=by rw [Gc,h,decide_eq_true_iff]
theorem nE:dJ (sK 64)=none:=by
 cases h:dJ (sK 64) with
 | none=>rfl
 | some r =>
  obtain ⟨hm,he⟩:=tw h
  have hs:=dp _ _ (gk hm)
  have h1:=(ij (dY (cg r) 32) 0).1 (by omega)
  have h2:=(ij (dY (cg r) 32) 0).2 (by omega)
  rw [hs,show dz (dY (cg r) 32)=sK 64 from he.symm,sY _ _ (by omega)] at h2
  rw [show dz (dY (cg r) 32)=sK 64 from he.symm,sY _ _ (by omega)] at h1
  rw [← h1] at h2
  exact absurd h2 (by decide)
theorem pw {r:aT} (h:bF r=true):aL r≠sK 64:=fun e=>by
 have:=jI h
 rw [e,nE] at this
 cases this
def iD (x:ByteArray) (j:Nat):ByteArray:=mk 512 fun i=>bt x (j * 512+i)
def dt (x:ByteArray) (j i:Nat):ByteArray:=mk 64 fun k=>bt x (j * 512+i * 64+k)
theorem gJ (x:ByteArray) (j i:Nat):(dt x j i).size=64:=eB _ _
theorem pd (x:ByteArray) (j i k:Nat) (h:k<64):bt (dt x j i) k=bt x (j * 512+i * 64+k):=lN _ _ _ h
theorem jc (x:ByteArray) (j i:Nat) (hi:i<8):dS (iD x j) i=dt x j i:=by
 have hs:(iD x j).size=512:=eB _ _
 refine fC (by rw [nK hs i hi,gJ]) fun k hk => ?_
 rw [nK hs i hi] at hk
 unfold dS
 rw [fD _ _ _ _ (by omega) (by omega),pd _ _ _ _ hk]
 unfold iD
 rw [lN _ _ _ (by omega),Nat.add_assoc]
def cZ (x:ByteArray) (j:Nat):bj:=iK (iD x j)
theorem o8 {s u:ByteArray} : ∀ k,(∀ i,1≤i→i≤k→dS s i=dS u i)→bC s k=bC u k
 | 0,_=>rfl
 | k+1,h=>by
  show bC s k++eD s (k+1)=bC u k++eD u (k+1)
  rw [o8 k fun i h1 h2=>h i h1 (by omega)]
  unfold eD
  rw [h (k+1) (by omega) (by omega)]
theorem o7 {s u:ByteArray} : ∀ k,(∀ i,1≤i→i≤k→dS s i=dS u i)→bW s k=bW u k
 | 0,_=>rfl
 | k+1,h=>by
  show (if jD (dS s (k+1))=true then bW s k else _)=(if jD (dS u (k+1))=true then bW u k else _)
  rw [o7 k fun i h1 h2=>h i h1 (by omega),h (k+1) (by omega) (by omega)]
theorem xE {s u:ByteArray} (h:dS s 0=dS u 0):cF s=cF u:=by unfold cF;rw [h]
theorem yx {s:ByteArray} {i:Nat} (h:dS s i=sK 64):eD s i=[]:=by
 unfold eD
 rw [h,nE]
theorem ju {s:ByteArray} {a:Nat} : ∀ b,a≤b→(∀ i,a<i→i≤b→dS s i=sK 64)→bC s b=bC s a
 | 0,h,_=>by obtain rfl:a=0:=(by omega);rfl
 | b+1,h,k=>by
  by_cases e:a=b+1
  ·
   rw [e]
  ·
   show bC s b++eD s (b+1)=_
   rw [yx (k (b+1) (by omega) zY),List.append_nil]
   exact ju b (by omega) fun i h1 h2=>k i h1 (by omega)
theorem jt {s:ByteArray} {a:Nat} : ∀ b,a≤b→(∀ i,a<i→i≤b→dS s i=sK 64)→bW s b=bW s a
 | 0,h,_=>by obtain rfl:a=0:=(by omega);rfl
 | b+1,h,k=>by
  by_cases e:a=b+1
  ·
   rw [e]
  ·
   show (if jD (dS s (b+1))=true then bW s b else _)=_
   rw [k (b+1) (by omega) zY,if_pos ((mB (oK 64)).2 rfl)]
   exact jt b (by omega) fun i h1 h2=>k i h1 (by omega)
theorem wP {s:ByteArray} (hs:s.size=512) : ∀ k,k≤7 → ∀ i,1≤i→i≤k→bW s k≤(i:Int)→dS s i=sK 64
 | 0,_,i,h1,h2,_=>by omega
 | k+1,hk,i,h1,h2,h=>by
  have e:bW s (k+1)=if jD (dS s (k+1))=true then bW s k else ((k+2:Nat):Int):=rfl
  rw [e] at h
  split at h
  ·
   rename_i hb
   by_cases e:i=k+1
   ·
    rw [e];exact (mB (nK hs _ (by omega))).1 hb
   ·
    exact wP hs k (by omega) i h1 (by omega) h
  ·
   omega
def sO (t:ByteArray) (E:Int):Prop := ∀ u r,IA t u→dJ u=some r→r.kind=0→r.ak<E
theorem sO.mono {t:ByteArray} {E E':Int} (h:sO t E) (k:E≤E'):sO t E':=fun u r h1 h2 h3=>by have:=h u r h1 h2 h3;omega
theorem Gu {r:aT} {E:Int} (hr:bF r=true) (h:r.ak<E):sO (aL r) E:=fun u r' h1 h2 _=>by
 have:=J9 hr h1 h2
 rw [this,jI hr] at h2
 obtain rfl:r=r':=by simpa using h2
 exact h
theorem Hw {u:ByteArray} (h:IA (sK 64) u):u=sK 64:=by
 refine fC (by rw [h.1]) fun i hi => ?_
 have hl:i<64:=by rw [h.1,oK] at hi;exact hi
 have h1:=h.2 i (by rw [oK];exact hl)
 rw [sY _ _ hl] at h1 ⊢
 have h2:=Bh (bt u i)
 exact (FW h1 (by
  rw [E5]
  intro k hk ha
  simp only [show (~~~(255:UInt8))=0 by decide] at ha
  exact absurd ha (by simp))).symm
theorem D2 (E:Int):sO (sK 64) E:=fun u r h1 h2 _=>by
 rw [Hw h1,nE] at h2
 cases h2
def gh (x y:ByteArray) (p n:Nat):Prop:=y.size=x.size ∧ ∀ k,¬ (p≤k∧k<p+n)→bt y k=bt x k
theorem Bg (x:ByteArray) (p n:Nat) (f:Nat→UInt8→UInt8) (k:Nat) (hk:k<x.size):bt (lB x p n f) k=if p≤k∧k<p+n then f (k - p) (bt x k) else bt x k:=lN _ _ _ hk
theorem pP (x:ByteArray) (p n:Nat) (f:Nat→UInt8→UInt8):gh x (lB x p n f) p n:=by
 refine ⟨eB _ _,fun k hk => ?_⟩
 by_cases h:k<x.size
 ·
  rw [Bg _ _ _ _ _ h,if_neg hk]
 ·
  rw [IS x k (by omega),IS (lB x p n f) k (by unfold lB;rw [eB];omega)]
theorem gh.slot {x y:ByteArray} {sec slot j i:Nat} (h:gh x y (sec * 512+slot * 64) 64) (hs:slot<8) (hi:i<8) (hne : ¬ (j=sec∧i=slot)):dt y j i=dt x j i:=by
 unfold dt
 refine mk_congr fun k hk=>h.2 _ ?_
 omega
theorem gh.sec {x y:ByteArray} {sec j i:Nat} (h:gh x y (sec * 512) 512) (hi:i<8) (hne:j≠sec):dt y j i=dt x j i:=by
 unfold dt
 refine mk_congr fun k hk=>h.2 _ ?_
 omega
theorem gh.mono {x y:ByteArray} {p n p' n':Nat} (h:gh x y p n) (h1:p'≤p) (h2:p+n≤p'+n'):gh x y p' n':=⟨h.1,fun k hk=>h.2 k (by omega)⟩
theorem gh.trans {x y z:ByteArray} {p n:Nat} (h:gh x y p n) (k:gh y z p n):gh x z p n:=⟨k.1.trans h.1,fun i hi=>(k.2 i hi).trans (h.2 i hi)⟩
theorem gh.refl (x:ByteArray) (p n:Nat):gh x x p n:=⟨rfl,fun _ _=>rfl⟩
theorem ti (i:Nat):eH ⟨#[255]⟩ i=255:=by
 unfold eH
 show (if (1:Nat)=0 then 0 else bt ⟨#[255]⟩ (i % 1))=255
 rw [if_neg (by decide),Nat.mod_one]
 rfl
theorem zC {x:ByteArray} {sec slot:Nat} (hx:x.size=4096) (h1:sec<8) (h2:slot<8) {s:ByteArray} {o:Nat} (ho:o=0∨o=32) (mask:ByteArray) (k:Nat) (hk:k<64):bt (jz x (sec * 512+slot * 64+o:Nat) mask s) (sec * 512+slot * 64+k)=if o≤k∧k<o+32 then iC mask s (k - o) (bt x (sec * 512+slot * 64+k)) else bt x (sec * 512+slot * 64+k):=by
 unfold jz
 rw [Int.toNat_natCast,Bg _ _ _ _ _ (by omega)]
 by_cases h:o≤k∧k<o+32
 ·
  rw [if_pos (by omega),if_pos h]
  congr 1
  omega
 ·
  rw [if_neg (by omega),if_neg h]
theorem Ad (sec slot:Nat):cj sec slot=((sec * 512+slot * 64:Nat):Int):=by unfold cj;omega
theorem xJ (sec slot:Nat):cj sec slot+32=((sec * 512+slot * 64+32:Nat):Int):=by unfold cj;omega
theorem GY {x:ByteArray} {sec slot o:Nat} (ho:o=0∨o=32) (mask s:ByteArray):gh x (jz x (sec * 512+slot * 64+o:Nat) mask s) (sec * 512+slot * 64) 64:=by
 unfold jz
 rw [Int.toNat_natCast]
 exact (pP _ _ _ _).mono (by omega) (by omega)
theorem EA {x:ByteArray} {sec slot:Nat} (mask s:ByteArray):gh x (jz x (sec * 512+slot * 64:Nat) mask s) (sec * 512+slot * 64) 64:=by
 unfold jz
 rw [Int.toNat_natCast]
 exact (pP _ _ _ _).mono zY (by omega)
theorem GZ (x:ByteArray) (p:Int) (mask s:ByteArray):(jz x p mask s).size=x.size:=by unfold jz lB;exact eB _ _
theorem kS (x:ByteArray) (sec slot:Nat) (t:ByteArray):gh x (jn x (cj sec slot) t) (sec * 512+slot * 64) 64:=by
 unfold jn
 rw [xJ,Ad]
 exact (EA _ _).trans (GY (o:=32) (.inr rfl) _ _)
theorem nh {x:ByteArray} {sec slot:Nat} (hx:x.size=4096) (h1:sec<8) (h2:slot<8) {t:ByteArray} (ht:t.size=64) (hb:dt x sec slot=sK 64):dt (jn x (cj sec slot) t) sec slot=t:=by
 refine fC (by rw [gJ,ht]) fun k hk => ?_
 rw [gJ] at hk
 have hb':bt x (sec * 512+slot * 64+k)=255:=by rw [← pd _ _ _ _ hk,hb,sY _ _ hk]
 rw [pd _ _ _ _ hk]
 unfold jn
 rw [xJ,Ad,zC (by rw [GZ,hx]) h1 h2 (.inr rfl) _ k hk]
 have e:=zC (o:=0) hx h1 h2 (s:=t.extract 0 32) (.inl rfl) ⟨#[255]⟩ k hk
 rw [Nat.add_zero] at e
 rw [e,hb']
 unfold iC
 rw [ti,ti]
 by_cases hk2:k<32
 ·
  rw [if_neg (by omega),if_pos (by omega),Bh,fD _ _ _ _ (by omega) (by omega)]
  congr 1
  omega
 ·
  rw [if_pos (by omega),if_neg (by omega),Bh,fD _ _ _ _ (by omega) (by omega)]
  congr 1
  omega
theorem uc (x:ByteArray) (sec:Nat) (mask:ByteArray):gh x (erased x (sec * 512:Nat) mask) (sec * 512) 512:=by
 unfold erased
 rw [Int.toNat_natCast]
 exact pP _ _ _ _
theorem wK {x:ByteArray} {sec i:Nat} (hx:x.size=4096) (h1:sec<8) (hi:i<8):dt (erased x (sec * 512:Nat) ⟨#[255]⟩) sec i=sK 64:=by
 refine fC (by rw [gJ,oK]) fun k hk => ?_
 rw [gJ] at hk
 rw [pd _ _ _ _ hk,sY _ _ hk]
 unfold erased
 rw [Int.toNat_natCast,Bg _ _ _ _ _ (by omega),if_pos (by omega)]
 unfold iR
 rw [ti,E6]
structure Lay (x:ByteArray) (sec:Nat) (V:bj):Prop where
 size:x.size=4096
 s0:4≤sec
 s1:sec<8
 view:cZ x sec=V
 bI:V.bI=true
 dead : ∀ j,4≤j→j<8→j≠sec→sO (dt x j 0) V.ak
structure Ik (x:ByteArray):Prop where
 size:x.size=4096
 dead : ∀ j,4≤j→j<8→sO (dt x j 0) 1
theorem pQ (x:ByteArray) (j:Nat):(cZ x j).bI=(cF (iD x j)).1:=by simp only [cZ,iK]
theorem nN (x:ByteArray) (j:Nat):(cZ x j).ak=(cF (iD x j)).2:=by simp only [cZ,iK]
theorem tG (x:ByteArray) (j:Nat):(cZ x j).aB=bC (iD x j) 7:=by simp only [cZ,iK]
theorem tE (x:ByteArray) (j:Nat):(cZ x j).free=bW (iD x j) 7:=by simp only [cZ,iK]
theorem FA {x:ByteArray} {j:Nat} (h:(cZ x j).bI=true) : ∃ r,dJ (dt x j 0)=some r∧r.kind=0∧(cZ x j).ak=r.ak:=by
 rw [pQ] at h
 rw [nN]
 unfold cF at h ⊢
 rw [jc _ _ _ (by omega)] at h ⊢
 cases hr:dJ (dt x j 0) with
 | none=>rw [hr] at h;cases h
 | some r =>
  rw [hr] at h
  by_cases hk:r.kind=0
  ·
   refine ⟨r,rfl,hk,?_⟩
   simp [hk]
  ·
   simp [hk] at h
theorem zb {x:ByteArray} {j:Nat} {E:Int} (h:sO (dt x j 0) E) (hg:(cZ x j).bI=true):(cZ x j).ak<E:=by
 obtain ⟨r,h1,h2,h3⟩:=FA hg
 rw [h3]
 exact h _ r (IA.refl _) h1 h2
theorem Jg {r:aT} (h:bF r=true) (hk:r.kind=0):1≤r.ak∧r.ak≤1048576∧r=cQ r.ak:=by
 obtain ⟨k,e,key,value⟩:=r
 subst hk
 unfold bF at h
 simp only [if_true,Bool.and_eq_true,oH,decide_eq_true_eq] at h
 refine ⟨h.1.1.1,h.1.1.2,?_⟩
 rw [mH h.1.2,mH h.2]
 rfl
theorem ze {x:ByteArray} {j:Nat} (hg:(cZ x j).bI=true):1≤(cZ x j).ak∧(cZ x j).ak≤1048576∧dt x j 0=aL (cQ (cZ x j).ak):=by
 obtain ⟨r,h1,h2,h3⟩:=FA hg
 obtain ⟨h4,h5⟩:=tw h1
 obtain ⟨h6,h7,h8⟩:=Jg h4 h2
 rw [h3]
 exact ⟨h6,h7,by rw [h5];exact congrArg aL h8⟩
theorem Lay.ak {x:ByteArray} {sec:Nat} {V:bj} (h:Lay x sec V):1≤V.ak∧V.ak≤1048576∧dt x sec 0=aL (cQ V.ak):=by
 have:=ze (x:=x) (j:=sec) (by rw [h.view];exact h.bI)
 rw [h.view] at this
 exact this
theorem Lay.old {x:ByteArray} {sec:Nat} {V:bj} (h:Lay x sec V) : ∀ j,4≤j→j<8→sO (dt x j 0) (V.ak+1):=fun j h4 h8=>by
 by_cases e:j=sec
 ·
  obtain ⟨h1,h2,h3⟩:=h.ak
  rw [e,h3]
  exact Gu (ic h1 h2) (by show V.ak<V.ak+1;omega)
 ·
  exact (h.dead j h4 h8 e).mono (by omega)
theorem yK {vs:List bj} {k:Nat} {V:bj} (hk:vs[k]? = some V) (hg:V.bI=true) (hb : ∀ (j:Nat) (U:bj),vs[j]? = some U→j≠k→U.bI=true→U.ak<V.ak) : ∀ n,k<n→n≤vs.length→iF vs n=some k
 | 0,h,_=>by omega
 | n+1,h,hl=>by
  have hn:vs[n]? = some (vs[n]'(by omega)):=List.getElem?_eq_getElem (by omega)
  unfold iF
  rw [hn]
  by_cases e:n=k
  ·
   subst e
   have e2:vs[n]'(by omega)=V:=by rw [hn] at hk;simpa using hk
   rw [e2]
   simp only [hg,Bool.true_eq_false,if_false]
   cases hbv:iF vs n with
   | none=>rfl
   | some j =>
    obtain ⟨h1,U,h2,h3⟩:=kQ vs n j hbv
    simp only [h2]
    rw [if_pos (hb j U h2 (by omega) h3)]
  ·
   have ih:=yK hk hg hb n (by omega) (by omega)
   rw [ih]
   simp only [hk]
   cases hgood:(vs[n]'(by omega)).bI with
   | false=>simp
   | true =>
    have:=hb n _ hn e hgood
    simp only [Bool.true_eq_false,if_false]
    rw [if_neg (by omega)]
theorem IK {vs:List bj} (h : ∀ (j:Nat) (U:bj),vs[j]? = some U→U.bI=false) (n:Nat):iF vs n=none:=by
 cases hb:iF vs n with
 | none=>rfl
 | some k =>
  obtain ⟨_,U,h2,h3⟩:=kQ vs n k hb
  rw [h k U h2] at h3
  cases h3
def views (x:ByteArray):List bj:=[cZ x 4,cZ x 5,cZ x 6,cZ x 7]
def oh (x:ByteArray):Option (Int×bj):=(iF (views x) 4).map fun (k:Nat)=>(4+(k:Int),(views x).getD k cG)
theorem pn (x:ByteArray) (k:Nat):(views x)[k]? = if k<4 then some (cZ x (4+k)) else none:=by
 match k with
 | 0=>rfl
 | 1=>rfl
 | 2=>rfl
 | 3=>rfl
 | k+4=>rw [if_neg (by omega)];rfl
theorem yH {x:ByteArray} (h:Ik x):oh x=none:=by
 unfold oh
 rw [IK fun j U hj => ?_]
 ·
  rfl
 ·
  rw [pn] at hj
  split at hj
  ·
   rename_i hl
   obtain rfl:cZ x (4+j)=U:=by simpa using hj
   cases hg:(cZ x (4+j)).bI with
   | false=>rfl
   | true =>
    have:=zb (h.dead (4+j) (by omega) (by omega)) hg
    have:=(ze hg).1
    omega
  ·
   cases hj
theorem qH {x y:ByteArray} {sec f:Nat} (h1:1≤f) (hf:f<8) (hv:(cZ x sec).free=(f:Int)) (hs:gh x y (sec * 512+f * 64) 64):dt x sec f=sK 64∧(cZ y sec).bI=(cZ x sec).bI∧(cZ y sec).ak=(cZ x sec).ak∧(cZ y sec).aB=(cZ x sec).aB++eD (iD y sec) f∧(cZ y sec).free=if dt y sec f=sK 64 then (f:Int) else ((f+1:Nat):Int):=by
 have hsz : ∀ z,(iD z sec).size=512:=fun z=>eB _ _
 have hv':bW (iD x sec) 7=(f:Int):=by rw [← tE];exact hv
 have hb : ∀ i,f≤i→i≤7→dS (iD x sec) i=sK 64:=fun i h2 h3=>wP (hsz x) 7 zY i (by omega) h3 (by omega)
 have hsame : ∀ i,i<8→i≠f→dS (iD y sec) i=dS (iD x sec) i:=fun i hi hne=>by
  rw [jc _ _ _ hi,jc _ _ _ hi]
  exact hs.slot hf hi (by omega)
 have hfy:dS (iD y sec) f=dt y sec f:=jc _ _ _ hf
 have hhead:cF (iD y sec)=cF (iD x sec):=xE (hsame 0 (by omega) (by omega))
 obtain ⟨g,rfl⟩ : ∃ g,f=g+1:=⟨f - 1,by omega⟩
 refine ⟨by rw [← jc _ _ _ hf];exact hb _ zY (by omega),by rw [pQ,pQ,hhead],by rw [nN,nN,hhead],?_,?_⟩
 ·
  rw [tG,tG,ju (a:=g+1) 7 (by omega) fun i h2 h3=>by rw [hsame i (by omega) (by omega)];exact hb i (by omega) h3,ju (a:=g) 7 (by omega) fun i h2 h3=>hb i (by omega) h3]
  show bC (iD y sec) g++_=_
  rw [o8 g fun i h2 h3=>hsame i (by omega) (by omega)]
 ·
  rw [tE,jt (a:=g+1) 7 (by omega) fun i h2 h3=>by rw [hsame i (by omega) (by omega)];exact hb i (by omega) h3]
  show (if jD (dS (iD y sec) (g+1))=true then bW (iD y sec) g else _)=_
  rw [o7 g fun i h2 h3=>hsame i (by omega) (by omega),hfy]
  have e:=jt (s:=iD x sec) (a:=g) 7 (by omega) fun i h2 h3=>hb i (by omega) h3
  rw [hv'] at e
  by_cases hbl:dt y sec (g+1)=sK 64
  ·
   rw [if_pos ((mB (gJ _ _ _)).2 hbl),if_pos hbl,e]
  ·
   rw [if_neg (fun k=>hbl ((mB (gJ _ _ _)).1 k)),if_neg hbl]
theorem Dp {V U:bj} (h1:V.bI=U.bI) (h2:V.ak=U.ak) (h3:V.aB=U.aB) (h4:V.free=U.free):V=U:=by
 obtain ⟨a,b,c,d⟩:=V
 obtain ⟨a',b',c',d'⟩:=U
 simp only at h1 h2 h3 h4
 subst h1 h2 h3 h4
 rfl
theorem Jf {x:ByteArray} {j:Nat} {E:Int} (hx:x.size=4096) (h4:4≤j) (h8:j<8) (e0:1≤E) (e1:E≤1048576) (hs:dt x j 0=aL (cQ E)) (hd : ∀ i,4≤i→i<8→i≠j→sO (dt x i 0) E):Lay x j (cZ x j)∧(cZ x j).ak=E∧(cZ x j).bI=true:=by
 have hh:cF (iD x j)=(true,E):=by
  unfold cF
  rw [jc _ _ _ (by omega),hs,jI (ic e0 e1)]
  rfl
 have hg:(cZ x j).bI=true:=by rw [pQ,hh]
 have he:(cZ x j).ak=E:=by rw [nN,hh]
 exact ⟨⟨hx,h4,h8,rfl,hg,fun i a b c=>by rw [he];exact hd i a b c⟩,he,hg⟩
def yq:Nat→List aT→List (Int×aT)
 | _,[]=>[]
 | k,r::l=>((k:Int),r)::yq (k+1) l
def gR (sec:Int):List (Int×aT)→ByteArray→ByteArray
 | [],x=>x
 | a::l,x=>gR sec l (jn x (cj sec a.1) (aL a.2))
theorem vS (sec:Int) : ∀ (l l':List (Int×aT)) (x:ByteArray),gR sec (l++l') x=gR sec l' (gR sec l x)
 | [],_,_=>rfl
 | a::l,l',x=>vS sec l l' _
theorem yP {sec:Nat} (h8:sec<8) : ∀ (rs:List aT) (k:Nat) (x:ByteArray),1≤k→x.size=4096→k+rs.length≤8→(∀ r ∈ rs,bF r=true)→(∀ i,k≤i→i<8→dt x sec i=sK 64)→gh x (gR sec (yq k rs) x) (sec * 512) 512∧(∀ i (hi:i<rs.length),dt (gR sec (yq k rs) x) sec (k+i)=aL rs[i])∧(∀ i,i<8→(i<k∨k+rs.length≤i)→dt (gR sec (yq k rs) x) sec i=dt x sec i)
 | [],k,x,_,_,_,_,_=>⟨gh.refl _ _ _,fun i hi=>absurd hi (by simp),fun _ _ _=>rfl⟩
 | r::rs,k,x,hk,hx,hl,hr,hb=>by
  simp only [List.length_cons] at hl
  have hs:=kS x sec k (aL r)
  have hrm:=hr r (by simp)
  have hslot:=nh hx h8 (by omega:k<8) (fJ r hrm) (hb k zY (by omega))
  obtain ⟨i1,i2,i3⟩:=yP h8 rs (k+1) (jn x (cj sec k) (aL r)) (by omega) (by rw [hs.1,hx]) (by omega) (fun q hq=>hr q (by simp [hq])) (fun i h1 h2=>by rw [hs.slot (by omega) h2 (by omega)];exact hb i (by omega) h2)
  have hs':gh x (jn x (cj sec k) (aL r)) (sec * 512) 512:=hs.mono (by omega) (by omega)
  refine ⟨hs'.trans i1,fun i hi => ?_,fun i h1 h2 => ?_⟩
  ·
   match i,hi with
   | 0,_=>rw [Nat.add_zero];exact (i3 k (by omega) (.inl (by omega))).trans hslot
   | i+1,hi =>
    have:=i2 i (by simpa using hi)
    rw [show k+(i+1)=k+1+i by omega]
    exact this
  ·
   simp only [List.length_cons] at h2
   exact (i3 i h1 (by omega)).trans (hs.slot (by omega) h1 (by omega))
theorem JN {s:ByteArray} {rs:List aT} (hl:rs.length≤7) (hm : ∀ r ∈ rs,bF r=true∧r.kind≠0) (h1 : ∀ i (hi:i<rs.length),dS s (1+i)=aL rs[i]) (h2 : ∀ i,rs.length<i→i<8→dS s i=sK 64):bC s 7=rs∧bW s 7=((rs.length+1:Nat):Int):=by
 have key : ∀ k,k≤rs.length→bC s k=rs.take k∧bW s k=((k+1:Nat):Int):=fun k=>by
  induction k with
  | zero=>intro _;exact ⟨rfl,rfl⟩
  | succ k ih =>
   intro hk
   obtain ⟨i1,i2⟩:=ih (by omega)
   have hs:=h1 k (by omega)
   rw [Nat.add_comm] at hs
   have hr:=hm _ (List.getElem_mem (show k<rs.length by omega))
   constructor
   ·
    show bC s k++eD s (k+1)=_
    unfold eD
    rw [i1,hs,jI hr.1]
    simp only [hr.2,if_false]
    rw [List.take_add_one,List.getElem?_eq_getElem (by omega)]
    rfl
   ·
    show (if jD (dS s (k+1))=true then bW s k else _)=_
    have hne : ¬ jD (dS s (k+1))=true:=fun hb=>by
     rw [hs] at hb
     exact pw hr.1 ((mB (fJ _ hr.1)).1 hb)
    rw [if_neg hne]
 obtain ⟨k1,k2⟩:=key rs.length zY
 rw [List.take_length] at k1
 exact ⟨by rw [ju (a:=rs.length) 7 hl fun i a b=>h2 i a (by omega)];exact k1,by rw [jt (a:=rs.length) 7 hl fun i a b=>h2 i a (by omega)];exact k2⟩
theorem zu {x:ByteArray} {j:Nat} {E:Int} {rs:List aT} (hx:x.size=4096) (h4:4≤j) (h8:j<8) (e0:1≤E) (e1:E≤1048576) (hl:rs.length≤7) (hm : ∀ r ∈ rs,bF r=true∧r.kind≠0) (hb : ∀ i,i<8→dt x j i=sK 64) (hd : ∀ i,4≤i→i<8→i≠j→sO (dt x i 0) E):Lay (gR j (yq 1 rs++[(0,cQ E)]) x) j ⟨true,E,rs,((rs.length+1:Nat):Int)⟩:=by
 obtain ⟨b1,b2,b3⟩:=yP h8 rs 1 x zY hx (by omega) (fun r hr=>(hm r hr).1) (fun i _ hi=>hb i hi)
 rw [vS]
 show Lay (jn (gR j (yq 1 rs) x) (cj j (0:Nat)) (aL (cQ E))) j _
 generalize gR j (yq 1 rs) x=y at b1 b2 b3
 have hy:y.size=4096:=by rw [b1.1,hx]
 have hs:=kS y j 0 (aL (cQ E))
 have h0:=nh hy h8 (show 0<8 by omega) (fJ _ (ic e0 e1)) ((b3 0 (by omega) (.inl (by omega))).trans (hb 0 (by omega)))
 generalize jn y (cj j (0:Nat)) (aL (cQ E))=z at hs h0
 have hz:z.size=4096:=by rw [hs.1,hy]
 obtain ⟨k1,k2,k3⟩:=Jf hz h4 h8 e0 e1 h0 (fun i a b c=>by
  rw [hs.slot (by omega) (by omega) (by omega),b1.sec (by omega) c]
  exact hd i a b c)
 have hsl : ∀ i,1≤i→i<8→dS (iD z j) i=dt y j i:=fun i h1 h2=>by rw [jc _ _ _ h2];exact hs.slot (by omega) h2 (by omega)
 obtain ⟨r1,r2⟩:=JN (s:=iD z j) hl hm (fun i hi=>by rw [hsl _ (by omega) (by omega)];exact b2 i hi) (fun i h1 h2=>by rw [hsl _ (by omega) h2,b3 i h2 (.inr (by omega))];exact hb i h2)
 have:cZ z j=⟨true,E,rs,((rs.length+1:Nat):Int)⟩:=Dp k3 k2 (by rw [tG];exact r1) (by rw [tE];exact r2)
 rw [← this]
 exact k1
theorem Cf {x y img:ByteArray} {p n:Nat} (h:Has x img) (k:gh x y p n) (hp:2048≤p):Has y img :=
 ⟨k.1.trans h.size,fun i hi=>(k.2 i (by omega)).trans (h.same i hi)⟩
def jh (m:aG) (e:Int) (m':aG) (D:Prop) (S:ByteArray→Prop):Prop:=(D∧fY m m')∨(e=1101∧yb m' S∧0≤m.left)
theorem jh.mono {m:aG} {e:Int} {m':aG} {D D':Prop} {S S':ByteArray→Prop} (h:jh m e m' D S) (hD:D→D') (hS : ∀ x,S x→S' x):jh m e m' D' S' :=
 h.imp (fun k=>⟨hD k.1,k.2⟩) fun k=>⟨k.1,k.2.1.mono hS,k.2.2⟩
theorem jh.next {m m1 m2:aG} {e:Int} {D:Prop} {S:ByteArray→Prop} (hB:fY m m1) (h:jh m1 e m2 D S):jh m e m2 D S :=
 h.imp (fun k=>⟨k.1,hB.trans k.2⟩) fun k=>⟨k.1,k.2.1,by
  have:=k.2.2
  by_cases hl:m.left<0
  ·
   have:=hB hl;omega
  ·
   omega⟩
theorem fY.refl (m:aG):fY m m:=fun h=>h
theorem eV.act {m:aG} {e:Int} {m':aG} {D:Prop} {S:ByteArray→Prop} (h:eV m e m' D S):jh m e m' (e=0∧D) S :=
 h.imp (fun k=>⟨⟨k.1,k.2.1⟩,k.2.2⟩) id
theorem Hm (x:ByteArray) (j:Nat):(mk 512 fun i=>bt x (((j:Int) * 512).toNat+i))=iD x j:=by
 unfold iD
 rw [show ((j:Int) * 512).toNat=j * 512 by omega]
theorem Dn (x:ByteArray) (j:Nat):iK (iD x j)=cZ x j:=by rw [cZ]
theorem vV {x:ByteArray} : ∀ (n j:Nat) (m:aG) (vs:List bj),Calm m x→j+n≤8→eV m (gL n j m vs).2.2 (gL n j m vs).1 (Calm (gL n j m vs).1 x∧(gL n j m vs).2.1=vs++(List.range n).map fun i=>cZ x (j+i)) (fun y=>y=x)
 | 0,j,m,vs,h,_=>.inl ⟨rfl,⟨h,(List.append_nil _).symm⟩,fY.refl m⟩
 | n+1,j,m,vs,h,hj=>by
  have hf:=DT h ((j:Int) * 512) 512 (by omega) (by omega) (by omega)
  rw [show ((512:Nat):Int)=512 from rfl,Hm] at hf
  have e:gL (n+1) j m vs=if (m.cS ((j:Int) * 512) 512).2.2≠0 then ((m.cS ((j:Int) * 512) 512).1,vs,(m.cS ((j:Int) * 512) 512).2.2) else gL n ((j:Int)+1) (m.cS ((j:Int) * 512) 512).1 (vs++[iK (m.cS ((j:Int) * 512) 512).2.1]):=rfl
  rw [e]
  generalize m.cS ((j:Int) * 512) 512=r at hf
  rcases hf with ⟨h0,⟨h1,h2⟩,h3⟩ | ⟨h0,h1,h2⟩
  ·
   rw [if_neg (by rw [h0];decide),h2,show ((j:Int)+1)=((j+1:Nat):Int) by omega,Dn]
   have ih:=vV n (j+1) r.1 (vs++[cZ x j]) h1 (by omega)
   refine eV.next h3 (ih.mono (fun k=>⟨k.1,?_⟩) fun _ k=>k)
   rw [k.2,List.append_assoc,List.range_succ_eq_map,List.map_cons,List.map_map,Nat.add_zero,List.singleton_append]
   refine congrArg (fun l=>vs++cZ x j::l) (List.map_congr_left fun i _ => ?_)
   rw [Function.comp_apply,Nat.succ_eq_add_one,Nat.add_assoc,Nat.add_comm 1 i]
  ·
   rw [if_pos (by rw [h0];decide)]
   exact .inr ⟨h0,h1,h2⟩
theorem yT {m:aG} {x:ByteArray} (h:Calm m x):eV m (fA m).2.2 (fA m).1 (Calm (fA m).1 x∧(fA m).2.1=oh x) (fun y=>y=x):=by
 have hp:=(vW h).2
 unfold fA
 generalize m.dW=r at hp
 rcases hp with ⟨h0,h1,h2⟩ | ⟨h0,h1,h2⟩
 ·
  rw [if_neg (by rw [h0];decide)]
  have hl:=vV 4 4 r.1 [] h1 (by omega)
  rw [show ((4:Nat):Int)=4 from rfl] at hl
  generalize gL 4 4 r.1 []=u at hl
  unfold uo
  rcases hl with ⟨k0,⟨k1,k2⟩,k3⟩ | ⟨k0,k1,k2⟩
  ·
   rw [if_neg (by rw [k0];decide)]
   refine .inl ⟨rfl,⟨k1,?_⟩,h2.trans k3⟩
   have e:u.2.1=views x:=k2
   show (iF u.2.1 u.2.1.length).map (fun (k:Nat)=>(4+(k:Int),u.2.1.getD k cG))=_
   rw [e]
   rfl
  ·
   rw [if_pos (by rw [k0];decide)]
   exact eV.next h2 (.inr ⟨k0,k1,k2⟩)
 ·
  rw [if_pos (by rw [h0];decide)]
  exact .inr ⟨h0,h1,h2⟩
theorem FT {x:ByteArray} {s:Int×bj} (h:oh x=some s):4≤s.1∧s.1<8∧s.2.Ok:=by
 unfold oh at h
 cases hb:iF (views x) 4 with
 | none=>rw [hb] at h;cases h
 | some k =>
  rw [hb] at h
  obtain rfl:(4+(k:Int),(views x).getD k cG)=s:=by simpa using h
  obtain ⟨h1,V,h2,h3⟩:=kQ (views x) 4 k hb
  refine ⟨by show 4≤4+(k:Int);omega,by show 4+(k:Int)<8;omega,?_⟩
  show ((views x).getD k cG).Ok
  rw [List.getD_eq_getElem?_getD,h2]
  show V.Ok
  rw [pn,if_pos h1] at h2
  obtain rfl:cZ x (4+k)=V:=by simpa using h2
  exact Bb _ h3
def xg (x:ByteArray):aA×Int:=match oh x with | none=>(shut,2305) | some s=>(⟨true,s.1,s.2⟩,0)
theorem DU {m:aG} {x:ByteArray} (h:Calm m x):jh m (gp m).2.2 (gp m).1 (Calm (gp m).1 x∧(gp m).2=xg x) (fun y=>y=x):=by
 have hl:=yT h
 unfold gp xg
 generalize fA m=r at hl
 unfold AO
 rcases hl with ⟨h0,⟨h1,h2⟩,h3⟩ | ⟨h0,h1,h2⟩
 ·
  rw [if_neg (by rw [h0];decide),h2]
  cases oh x with
  | none=>exact .inl ⟨⟨h1,rfl⟩,h3⟩
  | some s=>exact .inl ⟨⟨h1,rfl⟩,h3⟩
 ·
  rw [if_pos (by rw [h0];decide)]
  exact .inr ⟨h0,h1,h2⟩
theorem oY {reads:List Int} (h:dd reads=true) : ∀ y ∈ reads,0≤y∧y<2048:=fun y hy=>by
 unfold dd at h
 simp only [Bool.and_eq_true,List.all_eq_true] at h
 have:=h.2 y hy
 unfold ny at this
 simp only [Bool.and_eq_true,decide_eq_true_eq] at this
 exact this
def eO (x:ByteArray):Int:=fG (nW (oh x))
def ll (x:ByteArray):Int:=qx (oh x)+1
def oe (x:ByteArray) (sec:Int):ByteArray:=erased x (sec * 512) ⟨#[255]⟩
def iM (x img:ByteArray) (reads:List Int):ByteArray×aA×List Int×Int :=
 if 1048576≤qx (oh x) then (x,shut,[],2304) else if dd reads=true then (jn (oe x (eO x)) (cj (eO x) 0) (aL (cQ (ll x))),⟨true,eO x,⟨true,ll x,[],1⟩⟩,reads.map (kY img),0) else (x,shut,[],1800)
def FormatPart (x y:ByteArray):Prop:=y=x∨(qx (oh x)<1048576∧((∃ mask,y=erased x (eO x * 512) mask)∨sM (oe x (eO x)) (cj (eO x) 0) (aL (cQ (ll x))) y))
theorem zv (x:ByteArray):4≤eO x∧eO x<8:=by
 unfold eO
 cases h:oh x with
 | none=>decide
 | some s =>
  obtain ⟨h1,h2,_⟩:=FT h
  exact rK h1 h2
theorem Jv (x:ByteArray) (h:qx (oh x)<1048576):1≤ll x∧ll x≤1048576:=by
 unfold ll
 cases hs:oh x with
 | none=>decide
 | some s =>
  obtain ⟨_,_,h3⟩:=FT hs
  rw [hs] at h
  have:=h3.ak
  show 1≤s.2.ak+1∧s.2.ak+1≤1048576
  have h:s.2.ak<1048576:=h
  omega
theorem sw {sec slot:Int} (h1:4≤sec) (h2:sec<8) (h3:0≤slot) (h4:slot<8):2048≤cj sec slot∧cj sec slot<4064∧cj sec slot % 32=0:=by unfold cj;omega
theorem BP {m:aG} {x img:ByteArray} {q:Cache} (h:Calm m x) (hx:Has x img) (g:q.Good) (hq:q.di img) (reads:List Int):jh m (cY m q reads).2.2.2.2 (cY m q reads).1 (Calm (cY m q reads).1 (iM x img reads).1∧(cY m q reads).2.1.Good∧(cY m q reads).2.1.di img∧(cY m q reads).2.2=(iM x img reads).2) (FormatPart x):=by
 have hl:=yT h
 unfold cY
 generalize fA m=r at hl
 unfold rq
 rcases hl with ⟨h0,⟨h1,h2⟩,h3⟩ | ⟨h0,h1,h2⟩
 ·
  rw [if_neg (by rw [h0];decide),h2]
  refine jh.next h3 ?_
  unfold vn
  have hsec:=zv x
  by_cases hep:1048576≤qx (oh x)
  ·
   rw [if_pos hep]
   unfold iM
   rw [if_pos hep]
   exact .inl ⟨⟨h1,g,hq,rfl⟩,fY.refl _⟩
  ·
   rw [if_neg hep]
   have hepi:=Jv x (by omega)
   rw [show fG (nW (oh x))=eO x from rfl,show qx (oh x)+1=ll x from rfl]
   by_cases hr:dd reads=true
   ·
    rw [show jd r.1 q (eO x) reads=gN r.1 (eO x * 512) reads from if_pos hr]
    have hw:=yV h1 hx (eO x * 512) (by omega) (by omega) (by omega) reads (oY hr)
    have eF:iM x img reads=(jn (oe x (eO x)) (cj (eO x) 0) (aL (cQ (ll x))),⟨true,eO x,⟨true,ll x,[],1⟩⟩,reads.map (kY img),0):=by
     unfold iM
     rw [if_neg hep,if_pos hr]
    rw [eF]
    generalize gN r.1 (eO x * 512) reads=t at hw
    unfold ru
    rcases hw with ⟨k0,⟨k1,k2,k3,k4⟩,k5⟩ | ⟨k0,k1,k2⟩
    ·
     rw [if_neg (by rw [k0];decide)]
     refine jh.next k5 ?_
     obtain ⟨p0,p1,p2⟩:=sw hsec.1 hsec.2 (show (0:Int)≤0 by decide) (show (0:Int)<8 by decide)
     have hb:=yS k1 (cj (eO x) 0) (aL (cQ (ll x))) p0 p1 p2 (fJ _ (ic hepi.1 hepi.2))
     generalize t.1.ef (cj (eO x) 0) (aL (cQ (ll x)))=b at hb
     unfold pF
     rcases hb with ⟨j0,j1,j2⟩ | ⟨j0,j1,j2⟩
     ·
      rw [if_neg (by rw [j0];decide)]
      exact .inl ⟨⟨j1,k2,k3,by rw [k4]⟩,j2⟩
     ·
      rw [if_pos (by rw [j0];decide)]
      exact .inr ⟨j0,j1.mono fun y hy=>.inr ⟨by omega,.inr hy⟩,j2⟩
    ·
     rw [if_pos (by rw [k0];decide)]
     exact .inr ⟨k0,k1.mono fun y hy=>hy.imp id fun hm=>⟨by omega,.inl hm⟩,k2⟩
   ·
    rw [show jd r.1 q (eO x) reads=(r.1,q,[],1800) from if_neg hr]
    have eF:iM x img reads=(x,shut,[],1800):=by
     unfold iM
     rw [if_neg hep,if_neg hr]
    rw [eF]
    exact .inl ⟨⟨h1,g,hq,rfl⟩,fY.refl _⟩
 ·
  rw [if_pos (by rw [h0];decide)]
  exact .inr ⟨h0,h1.mono fun y hy=>.inl hy,h2⟩
def sL (sec:Int):List (Int×aT)→ByteArray→ByteArray→Prop
 | [],_,_=>False
 | a::l,x,y=>sM x (cj sec a.1) (aL a.2) y∨sL sec l (jn x (cj sec a.1) (aL a.2)) y
theorem qt {sec:Int} (s0:4≤sec) (s1:sec<8) : ∀ (l:List (Int×aT)) (m:aG) (x:ByteArray),Calm m x→(∀ a ∈ l,0≤a.1∧a.1<8∧bF a.2=true)→eV m (eL sec l m).2 (eL sec l m).1 (Calm (eL sec l m).1 (gR sec l x)) (sL sec l x)
 | [],m,x,h,_=>.inl ⟨rfl,h,fY.refl m⟩
 | a::l,m,x,h,hl=>by
  obtain ⟨a0,a1,a2⟩:=hl a (by simp)
  obtain ⟨p0,p1,p2⟩:=sw s0 s1 a0 a1
  have hb:=yS h (cj sec a.1) (aL a.2) p0 p1 p2 (fJ _ a2)
  have e:eL sec (a::l) m=if (m.ef (cj sec a.1) (aL a.2)).2≠0 then m.ef (cj sec a.1) (aL a.2) else eL sec l (m.ef (cj sec a.1) (aL a.2)).1:=rfl
  rw [e]
  generalize m.ef (cj sec a.1) (aL a.2)=b at hb
  rcases hb with ⟨j0,j1,j2⟩ | ⟨j0,j1,j2⟩
  ·
   rw [if_neg (by rw [j0];decide)]
   exact eV.next j2 ((qt s0 s1 l b.1 _ j1 fun c hc=>hl c (by simp [hc])).mono id fun y hy=>.inr hy)
  ·
   rw [if_pos (by rw [j0];decide)]
   exact .inr ⟨j0,j1.mono fun y hy=>.inl hy,j2⟩
theorem yO {img:ByteArray} {sec:Nat} (s0:4≤sec) : ∀ (l:List (Int×aT)) (x:ByteArray),Has x img→(∀ a ∈ l,0≤a.1∧a.1<8)→Has (gR sec l x) img
 | [],_,h,_=>h
 | a::l,x,h,hl=>by
  obtain ⟨a0,a1⟩:=hl a (by simp)
  obtain ⟨i,hi⟩ : ∃ n:Nat,a.1=(n:Int):=⟨a.1.toNat,(Int.toNat_of_nonneg a0).symm⟩
  show Has (gR sec l (jn x (cj sec a.1) (aL a.2))) img
  rw [hi]
  rw [hi] at a1
  exact yO s0 l _ (Cf h (kS x sec i _) (by omega)) fun c hc=>hl c (by simp [hc])
def iJ (x:ByteArray) (p:fR):ByteArray:=if 0≤p.dH then oe x p.dH else x
def gW (x:ByteArray) (p:fR):ByteArray:=gR p.au (p.bM.zip p.aB) (iJ x p)
def vJ (x:ByteArray) (p:fR) (y:ByteArray):Prop:=y=x∨(0≤p.dH ∧ ∃ mask,y=erased x (p.dH * 512) mask)∨sL p.au (p.bM.zip p.aB) (iJ x p) y∨y=gW x p
theorem Am {x img:ByteArray} (h:Has x img) (sec:Int) (h0:4≤sec):Has (oe x sec) img:=wL h _ (by omega) _
theorem qS {p:fR} (pk:p.Ok) : ∀ a ∈ p.bM.zip p.aB,0≤a.1∧a.1<8∧bF a.2=true:=fun a ha=>by
 obtain ⟨h1,h2⟩:=List.of_mem_zip (a:=a.1) (b:=a.2) ha
 exact ⟨(pk.bM _ h1).1,(pk.bM _ h1).2,pk.aB _ h2⟩
theorem BQ {m:aG} {x img:ByteArray} {q:Cache} (h:Calm m x) (hx:Has x img) (g:q.Good) (hq:q.di img) {p:fR} (pk:p.Ok) {reads:List Int} (hr:dd reads=true):eV m (dZ m q p reads).2.2.2 (dZ m q p reads).1 (Calm (dZ m q p reads).1 (gW x p)∧(dZ m q p reads).2.1.Good∧(dZ m q p reads).2.1.di img∧(dZ m q p reads).2.2.1=reads.map (kY img)) (vJ x p):=by
 obtain ⟨s0,s1⟩:=pk.au
 obtain ⟨sec,hsec⟩ : ∃ n:Nat,p.au=(n:Int):=⟨p.au.toNat,by omega⟩
 unfold dZ firstT
 by_cases hw:0≤p.dH
 ·
  have hwi:=pk.dH
  rw [if_pos hw]
  unfold jd
  rw [if_pos hr]
  have k:=yV h hx (p.dH * 512) (by omega) (by omega) (by omega) reads (oY hr)
  generalize gN m (p.dH * 512) reads=t at k
  unfold pS
  rcases k with ⟨k0,⟨k1,k2,k3,k4⟩,k5⟩ | ⟨k0,k1,k2⟩
  ·
   rw [if_neg (by rw [k0];decide)]
   have hb:=qt s0 s1 (p.bM.zip p.aB) t.1 _ k1 (qS pk)
   have eb:iJ x p=erased x (p.dH * 512) ⟨#[255]⟩:=by unfold iJ oe;rw [if_pos hw]
   refine eV.next k5 ?_
   generalize eL p.au (p.bM.zip p.aB) t.1=b at hb
   unfold fX
   rcases hb with ⟨j0,j1,j2⟩ | ⟨j0,j1,j2⟩
   ·
    rw [if_neg (by rw [j0];decide),if_pos hw]
    refine .inl ⟨rfl,⟨?_,k2,k3,k4⟩,j2⟩
    unfold gW
    rw [eb]
    exact j1
   ·
    rw [if_pos (by rw [j0];decide)]
    exact .inr ⟨j0,j1.mono fun y hy=>.inr (.inr (.inl (by rw [eb];exact hy))),j2⟩
  ·
   rw [if_pos (by rw [k0];decide)]
   exact .inr ⟨k0,k1.mono fun y hy=>hy.imp id fun hm=>.inl ⟨hw,hm⟩,k2⟩
 ·
  rw [if_neg hw]
  unfold pS
  rw [if_neg (by simp)]
  have hb:=qt s0 s1 (p.bM.zip p.aB) m _ h (qS pk)
  have eb:iJ x p=x:=by unfold iJ;rw [if_neg hw]
  have hh:Has (gW x p) img:=by
   unfold gW
   rw [eb,hsec]
   exact yO (by omega) _ _ hx fun a ha=>⟨(qS pk a ha).1,(qS pk a ha).2.1⟩
  show eV m (fX (eL p.au (p.bM.zip p.aB) m) q p.dH [] reads).2.2.2 (fX (eL p.au (p.bM.zip p.aB) m) q p.dH [] reads).1 (Calm (fX (eL p.au (p.bM.zip p.aB) m) q p.dH [] reads).1 _∧(fX (eL p.au (p.bM.zip p.aB) m) q p.dH [] reads).2.1.Good∧(fX (eL p.au (p.bM.zip p.aB) m) q p.dH [] reads).2.1.di img∧(fX (eL p.au (p.bM.zip p.aB) m) q p.dH [] reads).2.2.1=_) _
  generalize eL p.au (p.bM.zip p.aB) m=b at hb
  unfold fX
  rcases hb with ⟨j0,j1,j2⟩ | ⟨j0,j1,j2⟩
  ·
   rw [if_neg (by rw [j0];decide),if_neg hw]
   have hr2:=Gn (q:=q) (img:=img) j1 (by rw [← eb] at hx ⊢;unfold gW at hh;rw [eb] at hh ⊢;exact hh) g hq reads (oY hr)
   refine eV.next j2 (hr2.mono (fun k => ?_) fun y hy => ?_)
   ·
    refine ⟨?_,k.2.1,k.2.2.1,k.2.2.2⟩
    unfold gW
    rw [eb]
    exact k.1
   ·
    refine .inr (.inr (.inr ?_))
    unfold gW
    rw [eb]
    exact hy
  ·
   rw [if_pos (by rw [j0];decide)]
   exact .inr ⟨j0,j1.mono fun y hy=>.inr (.inr (.inl (by rw [eb];exact hy))),j2⟩
end Go.Proofs.YtcfdenckiigdaaaGreat

/- Part 20 of the contracts. -/
import Derived.Test.YtcfdenckiigdaaaGreatRd19
set_option linter.unusedVariables false
set_option maxRecDepth 100000
set_option maxHeartbeats 4000000
namespace Go.Proofs.YtcfdenckiigdaaaGreat
open Tryz Go.RowKit
def erased (x:ByteArray) (p:Int) (mask:ByteArray):ByteArray:=lE x p.toNat 512 (iS mask)
theorem wW {x img:ByteArray} (h:Has x img) (p:Int) (hp:2048≤p) (mask:ByteArray):Has (erased x p mask) img:=by
 refine ⟨by unfold erased lE;rw [eJ];exact h.size,fun i hi => ?_⟩
 unfold erased lE
 rw [lP _ _ _ (by rw [h.size];omega),if_neg (by omega)]
 exact h.same i hi
theorem Calm.held {m:aG} {x:ByteArray} (h:Calm m x):sS m m.ar.core:=⟨h.qg,h.bQ,h.bq,h.bk,fun j e=>by rw [show m.ar.core.aZ=none from h.aZ] at e;cases e⟩
theorem Calm.of_held {m m':aG} {x:ByteArray} (h:Calm m x) {g:Bool} (k:sS m' { m.ar.core with aD:=g }):Calm m' x:=Calm.of k.qg h.cells h.bq h.bk h.aZ h.busy
theorem Calm.may {m:aG} {x:ByteArray} (h:Calm m x) : ∀ y,m.ar.core.yQ y→y=x:=fun y hy=>by
 unfold Core.yQ at hy
 rw [show m.ar.core.aZ=none from h.aZ] at hy
 exact hy.trans h.cells
theorem zj {m:aG} {x img:ByteArray} (h:Calm m x) (hx:Has x img) (p:Int) (h0:2048≤p) (h1:p<4096) (hp:p % 512=0) (reads:List Int) (hr : ∀ y ∈ reads,0≤y∧y<2048):eU m (gS m p reads).2.2.2 (gS m p reads).1 (Calm (gS m p reads).1 (erased x p ⟨#[255]⟩)∧(gS m p reads).2.1.Good∧(gS m p reads).2.1.de img∧(gS m p reads).2.2.1=reads.map (j7 img)) (fun y=>y=x ∨ ∃ mask,y=erased x p mask):=by
 have k6:=fY (b:=6) (at_:=0) (ys:=[]) (read:=0) h.qg (by decide) h.leave (FM (c:={ m.ar.core with aD:=false }) rfl h.bQ) rfl
 unfold gS
 rcases oC h k6 with ⟨e1,e2,r,b⟩ | ⟨e1,e2,t,l⟩
 case inr =>
  have e:dq m p reads=((m.run 6 0 [] 0).1,Cache.new,reads,[],(m.run 6 0 [] 0).2.2):=by unfold dq;rw [if_pos (by rw [e1];decide)]
  rw [e,if_pos (by show (m.run 6 0 [] 0).2.2≠0;rw [e1];decide)]
  exact .inr ⟨e1,t.mono fun y e=>.inl e,l⟩
 have k2:=fY (b:=32) (at_:=p) (ys:=[]) (read:=0) r (by decide) (by intro e;cases e) (Ms (c:={ m.ar.core with aD:=false,en:=true }) p (by omega) h1 rfl h.aZ) (by rw [nL rfl h0])
 rw [nL rfl h0] at k2
 have hbusy:=xg (show ∀ y ∈ ({ m.ar.core with aD:=false,en:=true }:Core).busy,1≤y∧y≤400 from h.busy)
 have hjc : ∀ l sp mask,cI ⟨p / 512,0,ByteArray.empty,l,sp⟩ m.ar.cells mask=erased x p mask:=fun l sp mask=>by
  unfold cI erased
  rw [if_neg (by show ¬ p / 512 = -1;omega),h.cells]
  congr 1
  show (p / 512).toNat * 512=_
  omega
 rcases k2 with ⟨f1,f2,g⟩ | ⟨f1,f2,r2,b2⟩
 ·
  have e:dq m p reads=(((m.run 6 0 [] 0).1.run 32 p [] 0).1,Cache.new,reads,[],((m.run 6 0 [] 0).1.run 32 p [] 0).2.2):=by unfold dq;rw [if_neg (by rw [e1];decide),if_pos (by rw [f1];decide)]
  rw [e,if_pos (by show ((m.run 6 0 [] 0).1.run 32 p [] 0).2.2≠0;rw [f1];decide)]
  exact eU.next b (.inr ⟨f1,(mO g h.aZ h.bq h.bk).mono fun y e=>.inl (e.trans h.cells),g.left⟩)
 have e:dq m p reads=cK 256 ((m.run 6 0 [] 0).1.run 32 p [] 0).1 Cache.new reads []:=by unfold dq;rw [if_neg (by rw [e1];decide),if_neg (by rw [f1];decide)]
 rw [e]
 have hw:=IL (img:=img) 255 _ Cache.new reads [] _ r2 ⟨rfl,h.bq,h.bk,fun j hj=>by
  obtain rfl:(⟨p / 512,0,ByteArray.empty,m.ar.busy.headD 8,false⟩:iC)=j:=Option.some.inj hj
  exact ⟨rfl,hbusy.1,Int.le_trans hbusy.2 (by decide),by show p / 512 ≠ -1;omega⟩⟩ (show Has m.ar.cells img by rw [h.cells];exact hx) (fun j hj=>by
  obtain rfl:(⟨p / 512,0,ByteArray.empty,m.ar.busy.headD 8,false⟩:iC)=j:=Option.some.inj hj
  show 4≤p / 512;omega) Cache.mG (zM img) hr
 rcases hw with ⟨w1,⟨w2,w3,w4,l1,w5,w6⟩,b3⟩ | ⟨w1,t,l⟩
 ·
  rw [if_neg (by rw [w1];decide)]
  have hc:Calm (cK 256 ((m.run 6 0 [] 0).1.run 32 p [] 0).1 Cache.new reads []).1 (erased x p ⟨#[255]⟩):=by
   refine Calm.of w2 ?_ h.bq h.bk rfl (fun y hy=>h.busy y (List.mem_of_mem_drop hy))
   rw [← hjc (m.ar.busy.headD 8) false]
   rfl
  have hx2:Has (cK 256 ((m.run 6 0 [] 0).1.run 32 p [] 0).1 Cache.new reads []).1.ar.core.cells img:=by
   show Has (cK 256 ((m.run 6 0 [] 0).1.run 32 p [] 0).1 Cache.new reads []).1.ar.cells img
   rw [hc.cells];exact wW hx p h0 _
  have k:=xK (cK 256 ((m.run 6 0 [] 0).1.run 32 p [] 0).1 Cache.new reads []).2.2.1 (cK 256 ((m.run 6 0 [] 0).1.run 32 p [] 0).1 Cache.new reads []).2.2.2.1 _ _ _ hc.held hx2 w3 w4 (fun y hy=>hr y (by rw [w5];exact List.mem_append_right _ hy))
  refine eU.next ((b.trans b2).trans b3) (k.mono (fun ⟨⟨g,a1⟩,a2,a3,a4⟩=>⟨hc.of_held a1,a2,a3,?_⟩) fun y hy=>.inr ⟨_,hc.may y hy⟩)
  rw [a4,w6,List.nil_append,← List.map_append,← w5]
 ·
  rw [if_pos (by rw [w1];decide)]
  refine eU.next (b.trans b2) (.inr ⟨w1,t.mono fun y hy => ?_,l⟩)
  obtain ⟨mask,hy⟩:=hy
  exact .inr ⟨mask,hy.trans (hjc _ _ _)⟩
theorem GP {m:aG} {x img:ByteArray} {q:Cache} {at_ width:Int} (h:Calm m x) (hx:Has x img) (g:q.Good) (hq:q.de img) (hr:fM at_ width=true):eU m (bI m q at_ width).2.2.2 (bI m q at_ width).1 (Calm (bI m q at_ width).1 x∧(bI m q at_ width).2.1.Good∧(bI m q at_ width).2.1.de img∧(bI m q at_ width).2.2.1=oA img at_ width.toNat 0 0) (fun y=>y=x) :=
 (xH h.held (show Has m.ar.cells img by rw [h.cells];exact hx) g hq hr).mono (fun ⟨⟨_,a1⟩,a2,a3,a4⟩=>⟨h.of_held a1,a2,a3,a4⟩) h.may
theorem GQ {m:aG} {x img:ByteArray} {q:Cache} (h:Calm m x) (hx:Has x img) (g:q.Good) (hq:q.de img) (l:List Int) (hl : ∀ y ∈ l,0≤y∧y<2048):eU m (dF l [] m q).2.2.2 (dF l [] m q).1 (Calm (dF l [] m q).1 x∧(dF l [] m q).2.1.Good∧(dF l [] m q).2.1.de img∧(dF l [] m q).2.2.1=l.map (j7 img)) (fun y=>y=x) :=
 (xK l [] m q _ h.held (show Has m.ar.cells img by rw [h.cells];exact hx) g hq hl).mono (fun ⟨⟨_,a1⟩,a2,a3,a4⟩=>⟨h.of_held a1,a2,a3,a4⟩) h.may
theorem mL {m:aG} {c:Core} {r:aG×List Int×Int} {xs:List Int} {c':Core} (h:vU m c r xs c') (hl:m.left<0):r=(r.1,xs,0)∧gi r.1 c'∧r.1.left<0:=by
 obtain ⟨a,b,d⟩:=r
 rcases h with ⟨_,_,g⟩ | ⟨e1,e2,r,b⟩
 ·
  have:=g.left;omega
 ·
  simp only at e1 e2
  subst e1 e2
  exact ⟨rfl,r,b hl⟩
theorem JC {m:aG} {c:Core} (h:gi m c) (hg:c.aD=false) (hj:c.aZ=none) (hl:m.left<0):m.run 5 0 [] 1=((m.run 5 0 [] 1).1,[c.first],0)∧gi (m.run 5 0 [] 1).1 c∧(m.run 5 0 [] 1).1.left<0:=by
 have hgo:({ c with aD:=false }:Core)=c:=by rw [← hg]
 have k:=fY (b:=5) (at_:=0) (ys:=[]) (read:=1) h (by decide) (by rw [hg];intro e;cases e) (Mh rfl) (by rw [hgo,ei hj];exact hg)
 rw [hgo,ei hj,ei hj] at k
 exact mL k hl
theorem FO {m:aG} {c:Core} (h:gi m c) (hg:c.aD=false) (hj:c.aZ=none) (hl:m.left<0):m.run 53 0 [] 1=((m.run 53 0 [] 1).1,[c.second],0)∧gi (m.run 53 0 [] 1).1 c∧(m.run 53 0 [] 1).1.left<0:=by
 have hgo:({ c with aD:=false }:Core)=c:=by rw [← hg]
 have k:=fY (b:=53) (at_:=0) (ys:=[]) (read:=1) h (by decide) (by rw [hg];intro e;cases e) (Mt rfl) (by rw [hgo,ei hj];exact hg)
 rw [hgo,ei hj,ei hj] at k
 exact mL k hl
theorem Iw {m:aG} {x:ByteArray} {b:List Int} (h:gi m ⟨x,false,false,false,false,none,b⟩) (hl:m.left<0) : ∃ m1 m2 m3 m4,Sets m m1 m2 m3 m4 53 2 5 4 0 0∧gi m4 ⟨x,false,true,false,false,none,b⟩∧m4.left<0:=by
 obtain ⟨e1,r1,l1⟩:=FO h rfl rfl hl
 obtain ⟨e2,r2,l2⟩:=JC r1 rfl rfl l1
 obtain ⟨e3,r3,l3⟩:=mL (fY (b:=6) (at_:=0) (ys:=[]) (read:=0) r2 (by decide) (by intro e;cases e) (FM rfl rfl) rfl) l2
 obtain ⟨e4,r4,l4⟩:=mL (fY (b:=1) (at_:=0) (ys:=[0,2]) (read:=0) r3 (by decide) (by intro e;cases e) (Mg 0 2 (by decide) (by decide) rfl rfl rfl) rfl) l3
 refine ⟨_,_,_,_,⟨e1,by decide,e2,e3,?_,by decide,.inr rfl,.inl rfl,by decide⟩,?_,l4⟩
 ·
  exact e4
 ·
  exact r4
theorem Iv {m:aG} {x:ByteArray} {b:List Int} (h:gi m ⟨x,false,true,false,false,none,b⟩) (hl:m.left<0) : ∃ m1 m2 m3 m4,Sets m m1 m2 m3 m4 5 4 53 2 0 2∧gi m4 ⟨x,true,true,false,false,none,b⟩∧m4.left<0:=by
 obtain ⟨e1,r1,l1⟩:=JC h rfl rfl hl
 obtain ⟨e2,r2,l2⟩:=FO r1 rfl rfl l1
 obtain ⟨e3,r3,l3⟩:=mL (fY (b:=6) (at_:=0) (ys:=[]) (read:=0) r2 (by decide) (by intro e;cases e) (FM rfl rfl) rfl) l2
 obtain ⟨e4,r4,l4⟩:=mL (fY (b:=1) (at_:=0) (ys:=[4,2]) (read:=0) r3 (by decide) (by intro e;cases e) (Mg 4 2 (by decide) (by decide) rfl rfl rfl) rfl) l3
 refine ⟨_,_,_,_,⟨e1,by decide,e2,e3,?_,by decide,.inl rfl,.inr rfl,by decide⟩,?_,l4⟩
 ·
  exact e4
 ·
  exact r4
theorem DC (a:UInt8):a &&& ~~~a=0:=by
 rw [← UInt8.toBitVec_inj];simp
theorem Fl (a b:UInt8):a &&& ~~~b=0 ↔ ∀ i,i<8→a.toBitVec.getLsbD i=true→b.toBitVec.getLsbD i=true:=by
 rw [← UInt8.toBitVec_inj]
 constructor
 ·
  intro h i hi ha
  have:=congrArg (fun x=>BitVec.getLsbD x i) h
  simp [ha,hi] at this
  exact this
 ·
  intro h
  apply BitVec.eq_of_getLsbD_eq
  intro i hi
  have:=h i hi
  cases ha:a.toBitVec.getLsbD i
  ·
   simp [ha]
  ·
   simp [ha,this ha]
theorem Gq {a b:UInt8} (h:a &&& ~~~b=0) (k : ~~~a &&& ~~~(~~~b)=0):a=b:=by
 rw [Fl] at h k
 rw [← UInt8.toBitVec_inj]
 apply BitVec.eq_of_getLsbD_eq
 intro i hi
 have h1:=h i hi
 have h2:=k i hi
 cases ha:a.toBitVec.getLsbD i <;> cases hb:b.toBitVec.getLsbD i <;> simp_all
theorem Bu {a b c:UInt8} (h:a &&& ~~~b=0) (k:b &&& ~~~c=0):a &&& ~~~c=0:=by
 rw [Fl] at *
 exact fun i hi ha=>k i hi (h i hi ha)
theorem Bt (d:UInt8):(255:UInt8) &&& ~~~((255:UInt8) &&& ~~~d)=d:=by
 have e : ∀ x:UInt8,(255:UInt8) &&& x=x:=fun x=>by
  rw [← UInt8.toBitVec_inj]
  exact BitVec.allOnes_and
 rw [e,e];simp
theorem Fm (a:UInt8):a ||| 255=255:=by
 rw [← UInt8.toBitVec_inj]
 exact BitVec.or_allOnes
theorem qu (a b:ByteArray) (i:Nat):bt (a++b) i=if i<a.size then bt a i else bt b (i - a.size):=by
 unfold bt
 rw [Array.getD_eq_getD_getElem?,Array.getD_eq_getD_getElem?,Array.getD_eq_getD_getElem?,ByteArray.data_append,Array.getElem?_append]
 show (if i<a.size then _ else _:Option UInt8).getD 0=_
 split <;> rfl
theorem Ji (a:ByteArray) (i:Nat) (h:a.size≤i):bt a i=0:=by
 unfold bt
 rw [Array.getD_eq_getD_getElem?,Array.getElem?_eq_none h]
 rfl
theorem fG (a:ByteArray) (p q i:Nat) (h:i<q - p) (hq:q≤a.size):bt (a.extract p q) i=bt a (p+i):=by
 unfold bt
 rw [Array.getD_eq_getD_getElem?,Array.getD_eq_getD_getElem?,ByteArray.data_extract,Array.getElem?_extract]
 have:a.data.size=a.size:=rfl
 rw [if_pos (by omega)]
theorem ij (a:ByteArray) (p q:Nat) (hq:q≤a.size):(a.extract p q).size=q - p:=by
 rw [ByteArray.size_extract];omega
theorem ir (s:ByteArray) (i:Nat):(i<s.size→bt (dy s) i=bt s i)∧(i<s.size→bt (dy s) (s.size+i) = ~~~(bt s i)):=by
 have hs:s.data.toList.length=s.size:=by rw [Array.length_toList];rfl
 have e : ∀ j,bt (dy s) j=((s.data.toList++s.data.toList.map fun x => ~~~x)[j]?).getD 0:=fun j=>by
  unfold bt dy
  rw [Array.getD_eq_getD_getElem?,List.getElem?_toArray]
 constructor
 ·
  intro h
  rw [e,List.getElem?_append_left (by omega)]
  unfold bt
  rw [Array.getD_eq_getD_getElem?,Array.getElem?_toList]
 ·
  intro h
  rw [e,List.getElem?_append_right (by omega),hs,Nat.add_sub_cancel_left,List.getElem?_map]
  unfold bt
  rw [Array.getD_eq_getD_getElem?,Array.getElem?_toList]
  have h':i<s.data.size:=h
  rw [Array.getElem?_eq_getElem h']
  rfl
theorem Ig (s:ByteArray) (hs:s.size=32):(dy s).extract 0 32=s:=by
 have h64:(dy s).size=64:=by rw [fb,hs]
 refine fF (by rw [ij _ _ _ (by omega),hs]) fun i hi => ?_
 rw [ij _ _ _ (by omega)] at hi
 rw [fG _ _ _ _ hi (by omega),Nat.zero_add]
 exact (ir s i).1 (by omega)
theorem C2 (s:ByteArray) (hs:s.size=32):fx (dy s)=some s:=by
 unfold fx
 rw [Ig s hs,if_pos ⟨by rw [fb,hs],rfl⟩]
theorem tz {u:ByteArray} {r:aX} (h:dI u=some r):bD r=true∧u=aK r:=by
 unfold dI at h
 split at h
 ·
  cases h
 ·
  rename_i t ht
  split at h
  ·
   rename_i hp
   obtain rfl:gz t=r:=by simpa using h
   unfold iB at hp
   split at hp
   ·
    rename_i hm
    exact ⟨hm,by simpa using hp.symm⟩
   ·
    cases hp
  ·
   cases h
def I2 (t u:ByteArray):Prop:=u.size=t.size ∧ ∀ i,i<t.size→bt t i &&& ~~~(bt u i)=0
theorem I2.refl (t:ByteArray):I2 t t:=⟨rfl,fun _ _=>DC _⟩
theorem I2.trans {a b c:ByteArray} (h:I2 a b) (k:I2 b c):I2 a c:=⟨k.1.trans h.1,fun i hi=>Bu (h.2 i hi) (k.2 i (by rw [h.1];exact hi))⟩
theorem Ks {s s':ByteArray} (hs:s.size=32) (hs':s'.size=32) (h:I2 (dy s) (dy s')):s=s':=by
 have h64:(dy s).size=64:=by rw [fb,hs]
 refine fF (by rw [hs,hs']) fun i hi => ?_
 have h1:=h.2 i (by omega)
 have h2:=h.2 (32+i) (by omega)
 rw [(ir s i).1 hi,(ir s' i).1 (by omega)] at h1
 have e1:=(ir s i).2 hi
 have e2:=(ir s' i).2 (by omega)
 rw [hs] at e1
 rw [hs'] at e2
 rw [e1,e2] at h2
 exact Gq h1 h2
theorem fN (r:aX) (h:bD r=true):(aK r).size=64:=by
 unfold aK
 rw [fb,dg _ _ (gp h)]
theorem KG {r r':aX} {u:ByteArray} (hr:bD r=true) (h:I2 (aK r) u) (hu:dI u=some r'):u=aK r:=by
 obtain ⟨h1,h2⟩:=tz hu
 rw [h2] at h ⊢
 unfold aK at h ⊢
 rw [Ks (dg _ _ (gp hr)) (dg _ _ (gp h1)) h]
theorem JQ (l:Array UInt8) (i:Nat):bt ⟨l⟩ i=l.getD i 0:=rfl
theorem mH {s:ByteArray} (h:lu s=true):s=⟨#[]⟩:=fF (j9 h) fun i hi=>by rw [j9 h] at hi;omega
theorem Jj (s:ByteArray) (n i:Nat):bt (dW s n) i=if i<s.size then bt s i else 0:=by
 unfold dW
 rw [qu]
 split
 ·
  rfl
 ·
  rw [JQ,Array.getD_eq_getD_getElem?,Array.getElem?_replicate]
  split <;> rfl
theorem LJ (x:Nat) (h:x<4294967296) (s:ByteArray) (hs : ∀ i,i<4→bt s i=bt (lO x) i):jr s=x:=by
 unfold jr
 rw [hs 0 (by omega),hs 1 (by omega),hs 2 (by omega),hs 3 (by omega)]
 unfold lO
 simp only [JQ]
 show (UInt8.ofNat x).toNat+256 * (UInt8.ofNat (x / 256)).toNat+65536 * (UInt8.ofNat (x / 65536)).toNat+16777216 * (UInt8.ofNat (x / 16777216)).toNat=x
 simp only [UInt8.toNat_ofNat']
 omega
theorem rn (s:ByteArray) (b:UInt8) (h:1≤s.size):s.extract 0 1=⟨#[b]⟩ ↔ bt s 0=b:=by
 constructor
 ·
  intro e
  have:=congrArg (fun t=>bt t 0) e
  simp only [fG s 0 1 0 (by omega) h] at this
  exact this
 ·
  intro e
  refine fF (by rw [ij _ _ _ h];rfl) fun i hi => ?_
  rw [ij _ _ _ h] at hi
  obtain rfl:i=0:=by omega
  rw [fG s 0 1 0 (by omega) h]
  exact e
theorem lF {n:Nat} (h:n<256):(UInt8.ofNat n).toNat=n:=by rw [UInt8.toNat_ofNat'];exact Nat.mod_eq_of_lt h
theorem rE (r:aX) (i:Nat):bt (headText r) i=if i=0 then UInt8.ofNat r.key.size else if i=1 then UInt8.ofNat r.value.size else if i=2 then 0 else bt r.key (i - 3):=by
 unfold headText
 rw [qu]
 show (if i<3 then _ else bt r.key (i - 3))=_
 match i with
 | 0=>rfl
 | 1=>rfl
 | 2=>rfl
 | i+3=>rw [if_neg (by omega),if_neg (by omega),if_neg (by omega),if_neg (by omega)]
theorem td (r:aX):(headText r).size=3+r.key.size:=by unfold headText;rw [ByteArray.size_append];rfl
theorem kA (b:UInt8) (s:ByteArray) (i:Nat):bt (⟨#[b]⟩++s) i=if i=0 then b else bt s (i - 1):=by
 rw [qu]
 show (if i<1 then _ else bt s (i - 1))=_
 match i with
 | 0=>rfl
 | i+1=>rw [if_neg (by omega),if_neg (by omega)]
theorem pH (b:UInt8) (s:ByteArray):(⟨#[b]⟩++s:ByteArray).size=1+s.size:=by rw [ByteArray.size_append];rfl
theorem Fj {r:aX} (h:bD r=true):gz (dW (bY r) 32)=r:=by
 have hs:=dg _ _ (gp h)
 obtain ⟨hk,hv⟩:=tm h
 generalize ht:dW (bY r) 32=t at hs
 have hb : ∀ i,bt t i=if i<(bY r).size then bt (bY r) i else 0:=fun i=>by rw [← ht,Jj]
 clear ht
 obtain ⟨kind,ep,key,value⟩:=r
 unfold bD at h
 unfold gz
 simp only at h hk hv
 split at h
 ·
  rename_i h0
  subst h0
  simp only [Bool.and_eq_true,oF,decide_eq_true_eq] at h
  obtain ⟨⟨⟨e0,e1⟩,hkey⟩,hval⟩:=h
  have hh:bY ⟨0,ep,key,value⟩=⟨#[72]⟩++lO ep.toNat:=by unfold bY;rw [if_pos rfl]
  rw [hh] at hb
  have hsz:(⟨#[72]⟩++lO ep.toNat:ByteArray).size=5:=by rw [pH];rfl
  rw [hsz] at hb
  have b0:bt t 0=72:=by rw [hb 0,kA];rfl
  rw [if_pos ((rn t 72 (by omega)).2 b0),mH hkey,mH hval]
  have hn:jr (t.extract 1 32)=ep.toNat:=LJ _ (by omega) _ fun i hi=>by
   rw [fG _ _ _ _ (by omega) (by omega),hb,kA,if_pos (by omega),if_neg (by omega),Nat.add_sub_cancel_left]
  rw [hn,Int.toNat_of_nonneg (by omega)]
 ·
  rename_i h0
  split at h
  ·
   rename_i h1
   subst h1
   simp only [Bool.and_eq_true,A1,decide_eq_true_eq] at h
   obtain ⟨⟨rfl,k1,_⟩,_⟩:=h
   have hh:bY ⟨1,0,key,value⟩=dW (⟨#[82]⟩++headText ⟨1,0,key,value⟩) 10++value:=by unfold bY;rw [if_neg (show ¬ (1:Int)=0 by decide),if_pos rfl]
   have hp:(dW (⟨#[82]⟩++headText ⟨1,0,key,value⟩) 10).size=10:=dg _ _ (by rw [pH,td];show 1+(3+key.size)≤10;omega)
   have hsz:(bY ⟨1,0,key,value⟩).size=10+value.size:=by rw [hh,ByteArray.size_append,hp]
   have hf : ∀ i,i<4+key.size→bt t i=bt (⟨#[82]⟩++headText ⟨1,0,key,value⟩) i:=fun i hi=>by
    rw [hb,if_pos (by omega),hh,qu,hp,if_pos (by omega),Jj,if_pos (by rw [pH,td];show i<1+(3+key.size);omega)]
   have b0:bt t 0=82:=by rw [hf 0 (by omega),kA];rfl
   have b1:(bt t 1).toNat=key.size:=by rw [hf 1 (by omega),kA,if_neg (by omega),rE,if_pos rfl];exact lF (by show key.size<256;omega)
   have b2:(bt t 2).toNat=value.size:=by rw [hf 2 (by omega),kA,if_neg (by omega),rE,if_neg (by omega),if_pos rfl];exact lF (by show value.size<256;omega)
   rw [if_neg (by rw [rn t 72 (by omega),b0];decide),if_pos ((rn t 82 (by omega)).2 b0),b1,b2,Nat.min_eq_left (by omega),Nat.min_eq_left (by omega)]
   have ek:t.extract 4 (4+key.size)=key:=fF (by rw [ij _ _ _ (by omega)];omega) fun i hi=>by
    rw [ij _ _ _ (by omega)] at hi
    rw [fG _ _ _ _ (by omega) (by omega),hf _ (by omega),kA,if_neg (by omega),rE,if_neg (by omega),if_neg (by omega),if_neg (by omega)]
    show bt key _=_
    congr 1
    omega
   have ev:t.extract 10 (10+value.size)=value:=fF (by rw [ij _ _ _ (by omega)];omega) fun i hi=>by
    rw [ij _ _ _ (by omega)] at hi
    rw [fG _ _ _ _ (by omega) (by omega),hb,if_pos (by omega),hh,qu,hp,if_neg (by omega),Nat.add_sub_cancel_left]
   rw [ek,ev]
  ·
   rename_i h1
   split at h
   ·
    rename_i h2
    subst h2
    simp only [Bool.and_eq_true,A1,decide_eq_true_eq] at h
    obtain ⟨⟨rfl,k1,_⟩,hval⟩:=h
    obtain rfl:=mH hval
    have hh:bY ⟨2,0,key,⟨#[]⟩⟩=⟨#[84]⟩++headText ⟨2,0,key,⟨#[]⟩⟩:=by unfold bY;rw [if_neg (show ¬ (2:Int)=0 by decide),if_neg (show ¬ (2:Int)=1 by decide)]
    have hsz:(bY ⟨2,0,key,⟨#[]⟩⟩).size=4+key.size:=by rw [hh,pH,td];show 1+(3+key.size)=_;omega
    have hf : ∀ i,i<4+key.size→bt t i=bt (⟨#[84]⟩++headText ⟨2,0,key,⟨#[]⟩⟩) i:=fun i hi=>by
     rw [hb,if_pos (by omega),hh]
    have b0:bt t 0=84:=by rw [hf 0 (by omega),kA];rfl
    have b1:(bt t 1).toNat=key.size:=by rw [hf 1 (by omega),kA,if_neg (by omega),rE,if_pos rfl];exact lF (by show key.size<256;omega)
    rw [if_neg (by rw [rn t 72 (by omega),b0];decide),if_neg (by rw [rn t 82 (by omega),b0];decide),b1,Nat.min_eq_left (by omega)]
    have ek:t.extract 4 (4+key.size)=key:=fF (by rw [ij _ _ _ (by omega)];omega) fun i hi=>by
     rw [ij _ _ _ (by omega)] at hi
     rw [fG _ _ _ _ (by omega) (by omega),hf _ (by omega),kA,if_neg (by omega),rE,if_neg (by omega),if_neg (by omega),if_neg (by omega)]
     show bt key _=_
     congr 1
     omega
    rw [ek]
   ·
    cases h
theorem jL {r:aX} (h:bD r=true):dI (aK r)=some r:=by
 have hs:=dg _ _ (gp h)
 unfold dI aK
 rw [C2 _ hs]
 show (if iB (gz (dW (bY r) 32))=some _ then some (gz (dW (bY r) 32)) else none)=some r
 rw [Fj h]
 unfold iB aK
 rw [if_pos h,if_pos rfl]
theorem oI (n:Nat):(sN n).size=n:=by show (Array.replicate n (255:UInt8)).size=n;simp
theorem s7 (n i:Nat) (h:i<n):bt (sN n) i=255:=by
 show (Array.replicate n (255:UInt8)).getD i 0=255
 rw [Array.getD_eq_getD_getElem?,Array.getElem?_replicate,if_pos h]
 rfl
theorem GI (t:ByteArray):jE t=decide (t=sN t.size):=jx _ _
theorem mB {t:ByteArray} (h:t.size=64):jE t=true ↔ t=sN 64:=by rw [GI,h,decide_eq_true_iff]
theorem nD:dI (sN 64)=none:=by
 cases h:dI (sN 64) with
 | none=>rfl
 | some r =>
  obtain ⟨hm,he⟩:=tz h
  have hs:=dg _ _ (gp hm)
  have h1:=(ir (dW (bY r) 32) 0).1 (by omega)
  have h2:=(ir (dW (bY r) 32) 0).2 (by omega)
  rw [hs,show dy (dW (bY r) 32)=sN 64 from he.symm,s7 _ _ (by omega)] at h2
  rw [show dy (dW (bY r) 32)=sN 64 from he.symm,s7 _ _ (by omega)] at h1
  rw [← h1] at h2
  exact absurd h2 (by decide)
theorem pA {r:aX} (h:bD r=true):aK r≠sN 64:=fun e=>by
 have:=jL h
 rw [e,nD] at this
 cases this
def iR (x:ByteArray) (j:Nat):ByteArray:=mk 512 fun i=>bt x (j * 512+i)
def dp (x:ByteArray) (j i:Nat):ByteArray:=mk 64 fun k=>bt x (j * 512+i * 64+k)
theorem gN (x:ByteArray) (j i:Nat):(dp x j i).size=64:=eJ _ _
theorem pj (x:ByteArray) (j i k:Nat) (h:k<64):bt (dp x j i) k=bt x (j * 512+i * 64+k):=lP _ _ _ h
theorem jc (x:ByteArray) (j i:Nat) (hi:i<8):dQ (iR x j) i=dp x j i:=by
 have hs:(iR x j).size=512:=eJ _ _
 refine fF (by rw [nK hs i hi,gN]) fun k hk => ?_
 rw [nK hs i hi] at hk
 unfold dQ
 rw [fG _ _ _ _ (by omega) (by omega),pj _ _ _ _ hk]
 unfold iR
 rw [lP _ _ _ (by omega),Nat.add_assoc]
def du (x:ByteArray) (j:Nat):bC:=iK (iR x j)
theorem pd {s u:ByteArray} : ∀ k,(∀ i,1≤i→i≤k→dQ s i=dQ u i)→bz s k=bz u k
 | 0,_=>rfl
 | k+1,h=>by
  show bz s k++eC s (k+1)=bz u k++eC u (k+1)
  rw [pd k fun i h1 h2=>h i h1 (by omega)]
  unfold eC
  rw [h (k+1) (by omega) (by omega)]
theorem o8 {s u:ByteArray} : ∀ k,(∀ i,1≤i→i≤k→dQ s i=dQ u i)→bT s k=bT u k
 | 0,_=>rfl
 | k+1,h=>by
  show (if jE (dQ s (k+1))=true then bT s k else _)=(if jE (dQ u (k+1))=true then bT u k else _)
  rw [o8 k fun i h1 h2=>h i h1 (by omega),h (k+1) (by omega) (by omega)]
theorem xQ {s u:ByteArray} (h:dQ s 0=dQ u 0):cD s=cD u:=by unfold cD;rw [h]
theorem yJ {s:ByteArray} {i:Nat} (h:dQ s i=sN 64):eC s i=[]:=by
 unfold eC
 rw [h,nD]
theorem jv {s:ByteArray} {a:Nat} : ∀ b,a≤b→(∀ i,a<i→i≤b→dQ s i=sN 64)→bz s b=bz s a
 | 0,h,_=>by obtain rfl:a=0:=(by omega);rfl
 | b+1,h,k=>by
  by_cases e:a=b+1
  ·
   rw [e]
  ·
   show bz s b++eC s (b+1)=_
   rw [yJ (k (b+1) (by omega) zY),List.append_nil]
   exact jv b (by omega) fun i h1 h2=>k i h1 (by omega)
theorem ju {s:ByteArray} {a:Nat} : ∀ b,a≤b→(∀ i,a<i→i≤b→dQ s i=sN 64)→bT s b=bT s a
 | 0,h,_=>by obtain rfl:a=0:=(by omega);rfl
 | b+1,h,k=>by
  by_cases e:a=b+1
  ·
   rw [e]
  ·
   show (if jE (dQ s (b+1))=true then bT s b else _)=_
   rw [k (b+1) (by omega) zY,if_pos ((mB (oI 64)).2 rfl)]
   exact ju b (by omega) fun i h1 h2=>k i h1 (by omega)
theorem xd {s:ByteArray} (hs:s.size=512) : ∀ k,k≤7 → ∀ i,1≤i→i≤k→bT s k≤(i:Int)→dQ s i=sN 64
 | 0,_,i,h1,h2,_=>by omega
 | k+1,hk,i,h1,h2,h=>by
  have e:bT s (k+1)=if jE (dQ s (k+1))=true then bT s k else ((k+2:Nat):Int):=rfl
  rw [e] at h
  split at h
  ·
   rename_i hb
   by_cases e:i=k+1
   ·
    rw [e];exact (mB (nK hs _ (by omega))).1 hb
   ·
    exact xd hs k (by omega) i h1 (by omega) h
  ·
   omega
def sR (t:ByteArray) (E:Int):Prop := ∀ u r,I2 t u→dI u=some r→r.kind=0→r.an<E
theorem sR.mono {t:ByteArray} {E E':Int} (h:sR t E) (k:E≤E'):sR t E':=fun u r h1 h2 h3=>by have:=h u r h1 h2 h3;omega
theorem GY {r:aX} {E:Int} (hr:bD r=true) (h:r.an<E):sR (aK r) E:=fun u r' h1 h2 _=>by
 have:=KG hr h1 h2
 rw [this,jL hr] at h2
 obtain rfl:r=r':=by simpa using h2
 exact h
theorem IC {u:ByteArray} (h:I2 (sN 64) u):u=sN 64:=by
 refine fF (by rw [h.1]) fun i hi => ?_
 have hl:i<64:=by rw [h.1,oI] at hi;exact hi
 have h1:=h.2 i (by rw [oI];exact hl)
 rw [s7 _ _ hl] at h1 ⊢
 have h2:=Bt (bt u i)
 exact (Gq h1 (by
  rw [Fl]
  intro k hk ha
  simp only [show (~~~(255:UInt8))=0 by decide] at ha
  exact absurd ha (by simp))).symm
theorem Eh (E:Int):sR (sN 64) E:=fun u r h1 h2 _=>by
 rw [IC h1,nD] at h2
 cases h2
def gj (x y:ByteArray) (p n:Nat):Prop:=y.size=x.size ∧ ∀ k,¬ (p≤k∧k<p+n)→bt y k=bt x k
theorem Bs (x:ByteArray) (p n:Nat) (f:Nat→UInt8→UInt8) (k:Nat) (hk:k<x.size):bt (lE x p n f) k=if p≤k∧k<p+n then f (k - p) (bt x k) else bt x k:=lP _ _ _ hk
theorem pS (x:ByteArray) (p n:Nat) (f:Nat→UInt8→UInt8):gj x (lE x p n f) p n:=by
 refine ⟨eJ _ _,fun k hk => ?_⟩
 by_cases h:k<x.size
 ·
  rw [Bs _ _ _ _ _ h,if_neg hk]
 ·
  rw [Ji x k (by omega),Ji (lE x p n f) k (by unfold lE;rw [eJ];omega)]
theorem gj.slot {x y:ByteArray} {sec slot j i:Nat} (h:gj x y (sec * 512+slot * 64) 64) (hs:slot<8) (hi:i<8) (hne : ¬ (j=sec∧i=slot)):dp y j i=dp x j i:=by
 unfold dp
 refine mk_congr fun k hk=>h.2 _ ?_
 omega
theorem gj.sec {x y:ByteArray} {sec j i:Nat} (h:gj x y (sec * 512) 512) (hi:i<8) (hne:j≠sec):dp y j i=dp x j i:=by
 unfold dp
 refine mk_congr fun k hk=>h.2 _ ?_
 omega
theorem gj.mono {x y:ByteArray} {p n p' n':Nat} (h:gj x y p n) (h1:p'≤p) (h2:p+n≤p'+n'):gj x y p' n':=⟨h.1,fun k hk=>h.2 k (by omega)⟩
theorem gj.trans {x y z:ByteArray} {p n:Nat} (h:gj x y p n) (k:gj y z p n):gj x z p n:=⟨k.1.trans h.1,fun i hi=>(k.2 i hi).trans (h.2 i hi)⟩
theorem gj.refl (x:ByteArray) (p n:Nat):gj x x p n:=⟨rfl,fun _ _=>rfl⟩
theorem tl (i:Nat):eG ⟨#[255]⟩ i=255:=by
 unfold eG
 show (if (1:Nat)=0 then 0 else bt ⟨#[255]⟩ (i % 1))=255
 rw [if_neg (by decide),Nat.mod_one]
 rfl
theorem Ab {x:ByteArray} {sec slot:Nat} (hx:x.size=4096) (h1:sec<8) (h2:slot<8) {s:ByteArray} {o:Nat} (ho:o=0∨o=32) (mask:ByteArray) (k:Nat) (hk:k<64):bt (jA x (sec * 512+slot * 64+o:Nat) mask s) (sec * 512+slot * 64+k)=if o≤k∧k<o+32 then iF mask s (k - o) (bt x (sec * 512+slot * 64+k)) else bt x (sec * 512+slot * 64+k):=by
 unfold jA
 rw [Int.toNat_natCast,Bs _ _ _ _ _ (by omega)]
 by_cases h:o≤k∧k<o+32
 ·
  rw [if_pos (by omega),if_pos h]
  congr 1
  omega
 ·
  rw [if_neg (by omega),if_neg h]
theorem As (sec slot:Nat):cd sec slot=((sec * 512+slot * 64:Nat):Int):=by unfold cd;omega
theorem xW (sec slot:Nat):cd sec slot+32=((sec * 512+slot * 64+32:Nat):Int):=by unfold cd;omega
theorem Ib {x:ByteArray} {sec slot o:Nat} (ho:o=0∨o=32) (mask s:ByteArray):gj x (jA x (sec * 512+slot * 64+o:Nat) mask s) (sec * 512+slot * 64) 64:=by
 unfold jA
 rw [Int.toNat_natCast]
 exact (pS _ _ _ _).mono (by omega) (by omega)
theorem ER {x:ByteArray} {sec slot:Nat} (mask s:ByteArray):gj x (jA x (sec * 512+slot * 64:Nat) mask s) (sec * 512+slot * 64) 64:=by
 unfold jA
 rw [Int.toNat_natCast]
 exact (pS _ _ _ _).mono zY (by omega)
theorem Ic (x:ByteArray) (p:Int) (mask s:ByteArray):(jA x p mask s).size=x.size:=by unfold jA lE;exact eJ _ _
theorem kW (x:ByteArray) (sec slot:Nat) (t:ByteArray):gj x (jm x (cd sec slot) t) (sec * 512+slot * 64) 64:=by
 unfold jm
 rw [xW,As]
 exact (ER _ _).trans (Ib (o:=32) (.inr rfl) _ _)
theorem nc {x:ByteArray} {sec slot:Nat} (hx:x.size=4096) (h1:sec<8) (h2:slot<8) {t:ByteArray} (ht:t.size=64) (hb:dp x sec slot=sN 64):dp (jm x (cd sec slot) t) sec slot=t:=by
 refine fF (by rw [gN,ht]) fun k hk => ?_
 rw [gN] at hk
 have hb':bt x (sec * 512+slot * 64+k)=255:=by rw [← pj _ _ _ _ hk,hb,s7 _ _ hk]
 rw [pj _ _ _ _ hk]
 unfold jm
 rw [xW,As,Ab (by rw [Ic,hx]) h1 h2 (.inr rfl) _ k hk]
 have e:=Ab (o:=0) hx h1 h2 (s:=t.extract 0 32) (.inl rfl) ⟨#[255]⟩ k hk
 rw [Nat.add_zero] at e
 rw [e,hb']
 unfold iF
 rw [tl,tl]
 by_cases hk2:k<32
 ·
  rw [if_neg (by omega),if_pos (by omega),Bt,fG _ _ _ _ (by omega) (by omega)]
  congr 1
  omega
 ·
  rw [if_pos (by omega),if_neg (by omega),Bt,fG _ _ _ _ (by omega) (by omega)]
  congr 1
  omega
theorem uf (x:ByteArray) (sec:Nat) (mask:ByteArray):gj x (erased x (sec * 512:Nat) mask) (sec * 512) 512:=by
 unfold erased
 rw [Int.toNat_natCast]
 exact pS _ _ _ _
theorem wV {x:ByteArray} {sec i:Nat} (hx:x.size=4096) (h1:sec<8) (hi:i<8):dp (erased x (sec * 512:Nat) ⟨#[255]⟩) sec i=sN 64:=by
 refine fF (by rw [gN,oI]) fun k hk => ?_
 rw [gN] at hk
 rw [pj _ _ _ _ hk,s7 _ _ hk]
 unfold erased
 rw [Int.toNat_natCast,Bs _ _ _ _ _ (by omega),if_pos (by omega)]
 unfold iS
 rw [tl,Fm]
structure Lay (x:ByteArray) (sec:Nat) (V:bC):Prop where
 size:x.size=4096
 s0:4≤sec
 s1:sec<8
 view:du x sec=V
 ck:V.ck=true
 dead : ∀ j,4≤j→j<8→j≠sec→sR (dp x j 0) V.an
structure Gu (x:ByteArray):Prop where
 size:x.size=4096
 dead : ∀ j,4≤j→j<8→sR (dp x j 0) 1
theorem pT (x:ByteArray) (j:Nat):(du x j).ck=(cD (iR x j)).1:=by simp only [du,iK]
theorem nM (x:ByteArray) (j:Nat):(du x j).an=(cD (iR x j)).2:=by simp only [du,iK]
theorem tI (x:ByteArray) (j:Nat):(du x j).aC=bz (iR x j) 7:=by simp only [du,iK]
theorem tH (x:ByteArray) (j:Nat):(du x j).free=bT (iR x j) 7:=by simp only [du,iK]
theorem FU {x:ByteArray} {j:Nat} (h:(du x j).ck=true) : ∃ r,dI (dp x j 0)=some r∧r.kind=0∧(du x j).an=r.an:=by
 rw [pT] at h
 rw [nM]
 unfold cD at h ⊢
 rw [jc _ _ _ (by omega)] at h ⊢
 cases hr:dI (dp x j 0) with
 | none=>rw [hr] at h;cases h
 | some r =>
  rw [hr] at h
  by_cases hk:r.kind=0
  ·
   refine ⟨r,rfl,hk,?_⟩
   simp [hk]
  ·
   simp [hk] at h
theorem GX {x:ByteArray} {j:Nat} {E:Int} (h:sR (dp x j 0) E) (hg:(du x j).ck=true):(du x j).an<E:=by
 obtain ⟨r,h1,h2,h3⟩:=FU hg
 rw [h3]
 exact h _ r (I2.refl _) h1 h2
theorem JJ {r:aX} (h:bD r=true) (hk:r.kind=0):1≤r.an∧r.an≤1048576∧r=cP r.an:=by
 obtain ⟨k,e,key,value⟩:=r
 subst hk
 unfold bD at h
 simp only [if_true,Bool.and_eq_true,oF,decide_eq_true_eq] at h
 refine ⟨h.1.1.1,h.1.1.2,?_⟩
 rw [mH h.1.2,mH h.2]
 rfl
theorem zr {x:ByteArray} {j:Nat} (hg:(du x j).ck=true):1≤(du x j).an∧(du x j).an≤1048576∧dp x j 0=aK (cP (du x j).an):=by
 obtain ⟨r,h1,h2,h3⟩:=FU hg
 obtain ⟨h4,h5⟩:=tz h1
 obtain ⟨h6,h7,h8⟩:=JJ h4 h2
 rw [h3]
 exact ⟨h6,h7,by rw [h5];exact congrArg aK h8⟩
theorem Lay.an {x:ByteArray} {sec:Nat} {V:bC} (h:Lay x sec V):1≤V.an∧V.an≤1048576∧dp x sec 0=aK (cP V.an):=by
 have:=zr (x:=x) (j:=sec) (by rw [h.view];exact h.ck)
 rw [h.view] at this
 exact this
theorem Lay.old {x:ByteArray} {sec:Nat} {V:bC} (h:Lay x sec V) : ∀ j,4≤j→j<8→sR (dp x j 0) (V.an+1):=fun j h4 h8=>by
 by_cases e:j=sec
 ·
  obtain ⟨h1,h2,h3⟩:=h.an
  rw [e,h3]
  exact GY (ik h1 h2) (by show V.an<V.an+1;omega)
 ·
  exact (h.dead j h4 h8 e).mono (by omega)
theorem Jc {vs:List bC} (h : ∀ (j:Nat) (U:bC),vs[j]? = some U→U.ck=false) (n:Nat):jY vs n=none:=by
 cases hb:jY vs n with
 | none=>rfl
 | some k =>
  obtain ⟨_,U,h2,h3⟩:=mY vs n k hb
  rw [h k U h2] at h3
  cases h3
def views (x:ByteArray):List bC:=[du x 4,du x 5,du x 6,du x 7]
def nZ (x:ByteArray):Option (Int×bC):=(jY (views x) 4).map fun (k:Nat)=>(4+(k:Int),(views x).getD k cE)
theorem DG (x:ByteArray) (k:Nat):(views x)[k]? = if k<4 then some (du x (4+k)) else none:=by
 match k with
 | 0=>rfl
 | 1=>rfl
 | 2=>rfl
 | 3=>rfl
 | k+4=>rw [if_neg (by omega)];rfl
theorem yV {x:ByteArray} (h:Gu x):nZ x=none:=by
 unfold nZ
 rw [Jc fun j U hj => ?_]
 ·
  rfl
 ·
  rw [DG] at hj
  split at hj
  ·
   rename_i hl
   obtain rfl:du x (4+j)=U:=by simpa using hj
   cases hg:(du x (4+j)).ck with
   | false=>rfl
   | true =>
    have:=GX (h.dead (4+j) (by omega) (by omega)) hg
    have:=(zr hg).1
    omega
  ·
   cases hj
theorem qK {x y:ByteArray} {sec f:Nat} (h1:1≤f) (hf:f<8) (hv:(du x sec).free=(f:Int)) (hs:gj x y (sec * 512+f * 64) 64):dp x sec f=sN 64∧(du y sec).ck=(du x sec).ck∧(du y sec).an=(du x sec).an∧(du y sec).aC=(du x sec).aC++eC (iR y sec) f∧(du y sec).free=if dp y sec f=sN 64 then (f:Int) else ((f+1:Nat):Int):=by
 have hsz : ∀ z,(iR z sec).size=512:=fun z=>eJ _ _
 have hv':bT (iR x sec) 7=(f:Int):=by rw [← tH];exact hv
 have hb : ∀ i,f≤i→i≤7→dQ (iR x sec) i=sN 64:=fun i h2 h3=>xd (hsz x) 7 zY i (by omega) h3 (by omega)
 have hsame : ∀ i,i<8→i≠f→dQ (iR y sec) i=dQ (iR x sec) i:=fun i hi hne=>by
  rw [jc _ _ _ hi,jc _ _ _ hi]
  exact hs.slot hf hi (by omega)
 have hfy:dQ (iR y sec) f=dp y sec f:=jc _ _ _ hf
 have hhead:cD (iR y sec)=cD (iR x sec):=xQ (hsame 0 (by omega) (by omega))
 obtain ⟨g,rfl⟩ : ∃ g,f=g+1:=⟨f - 1,by omega⟩
 refine ⟨by rw [← jc _ _ _ hf];exact hb _ zY (by omega),by rw [pT,pT,hhead],by rw [nM,nM,hhead],?_,?_⟩
 ·
  rw [tI,tI,jv (a:=g+1) 7 (by omega) fun i h2 h3=>by rw [hsame i (by omega) (by omega)];exact hb i (by omega) h3,jv (a:=g) 7 (by omega) fun i h2 h3=>hb i (by omega) h3]
  show bz (iR y sec) g++_=_
  rw [pd g fun i h2 h3=>hsame i (by omega) (by omega)]
 ·
  rw [tH,ju (a:=g+1) 7 (by omega) fun i h2 h3=>by rw [hsame i (by omega) (by omega)];exact hb i (by omega) h3]
  show (if jE (dQ (iR y sec) (g+1))=true then bT (iR y sec) g else _)=_
  rw [o8 g fun i h2 h3=>hsame i (by omega) (by omega),hfy]
  have e:=ju (s:=iR x sec) (a:=g) 7 (by omega) fun i h2 h3=>hb i (by omega) h3
  rw [hv'] at e
  by_cases hbl:dp y sec (g+1)=sN 64
  ·
   rw [if_pos ((mB (gN _ _ _)).2 hbl),if_pos hbl,e]
  ·
   rw [if_neg (fun k=>hbl ((mB (gN _ _ _)).1 k)),if_neg hbl]
theorem DF {V U:bC} (h1:V.ck=U.ck) (h2:V.an=U.an) (h3:V.aC=U.aC) (h4:V.free=U.free):V=U:=by
 obtain ⟨a,b,c,d⟩:=V
 obtain ⟨a',b',c',d'⟩:=U
 simp only at h1 h2 h3 h4
 subst h1 h2 h3 h4
 rfl
theorem JI {x:ByteArray} {j:Nat} {E:Int} (hx:x.size=4096) (h4:4≤j) (h8:j<8) (e0:1≤E) (e1:E≤1048576) (hs:dp x j 0=aK (cP E)) (hd : ∀ i,4≤i→i<8→i≠j→sR (dp x i 0) E):Lay x j (du x j)∧(du x j).an=E∧(du x j).ck=true:=by
 have hh:cD (iR x j)=(true,E):=by
  unfold cD
  rw [jc _ _ _ (by omega),hs,jL (ik e0 e1)]
  rfl
 have hg:(du x j).ck=true:=by rw [pT,hh]
 have he:(du x j).an=E:=by rw [nM,hh]
 exact ⟨⟨hx,h4,h8,rfl,hg,fun i a b c=>by rw [he];exact hd i a b c⟩,he,hg⟩
def yD:Nat→List aX→List (Int×aX)
 | _,[]=>[]
 | k,r::l=>((k:Int),r)::yD (k+1) l
def gU (sec:Int):List (Int×aX)→ByteArray→ByteArray
 | [],x=>x
 | a::l,x=>gU sec l (jm x (cd sec a.1) (aK a.2))
theorem wm (sec:Int) : ∀ (l l':List (Int×aX)) (x:ByteArray),gU sec (l++l') x=gU sec l' (gU sec l x)
 | [],_,_=>rfl
 | a::l,l',x=>wm sec l l' _
theorem zc {sec:Nat} (h8:sec<8) : ∀ (rs:List aX) (k:Nat) (x:ByteArray),1≤k→x.size=4096→k+rs.length≤8→(∀ r ∈ rs,bD r=true)→(∀ i,k≤i→i<8→dp x sec i=sN 64)→gj x (gU sec (yD k rs) x) (sec * 512) 512∧(∀ i (hi:i<rs.length),dp (gU sec (yD k rs) x) sec (k+i)=aK rs[i])∧(∀ i,i<8→(i<k∨k+rs.length≤i)→dp (gU sec (yD k rs) x) sec i=dp x sec i)
 | [],k,x,_,_,_,_,_=>⟨gj.refl _ _ _,fun i hi=>absurd hi (by simp),fun _ _ _=>rfl⟩
 | r::rs,k,x,hk,hx,hl,hr,hb=>by
  simp only [List.length_cons] at hl
  have hs:=kW x sec k (aK r)
  have hrm:=hr r (by simp)
  have hslot:=nc hx h8 (by omega:k<8) (fN r hrm) (hb k zY (by omega))
  obtain ⟨i1,i2,i3⟩:=zc h8 rs (k+1) (jm x (cd sec k) (aK r)) (by omega) (by rw [hs.1,hx]) (by omega) (fun q hq=>hr q (by simp [hq])) (fun i h1 h2=>by rw [hs.slot (by omega) h2 (by omega)];exact hb i (by omega) h2)
  have hs':gj x (jm x (cd sec k) (aK r)) (sec * 512) 512:=hs.mono (by omega) (by omega)
  refine ⟨hs'.trans i1,fun i hi => ?_,fun i h1 h2 => ?_⟩
  ·
   match i,hi with
   | 0,_=>rw [Nat.add_zero];exact (i3 k (by omega) (.inl (by omega))).trans hslot
   | i+1,hi =>
    have:=i2 i (by simpa using hi)
    rw [show k+(i+1)=k+1+i by omega]
    exact this
  ·
   simp only [List.length_cons] at h2
   exact (i3 i h1 (by omega)).trans (hs.slot (by omega) h1 (by omega))
theorem Kj {s:ByteArray} {rs:List aX} (hl:rs.length≤7) (hm : ∀ r ∈ rs,bD r=true∧r.kind≠0) (h1 : ∀ i (hi:i<rs.length),dQ s (1+i)=aK rs[i]) (h2 : ∀ i,rs.length<i→i<8→dQ s i=sN 64):bz s 7=rs∧bT s 7=((rs.length+1:Nat):Int):=by
 have key : ∀ k,k≤rs.length→bz s k=rs.take k∧bT s k=((k+1:Nat):Int):=fun k=>by
  induction k with
  | zero=>intro _;exact ⟨rfl,rfl⟩
  | succ k ih =>
   intro hk
   obtain ⟨i1,i2⟩:=ih (by omega)
   have hs:=h1 k (by omega)
   rw [Nat.add_comm] at hs
   have hr:=hm _ (List.getElem_mem (show k<rs.length by omega))
   constructor
   ·
    show bz s k++eC s (k+1)=_
    unfold eC
    rw [i1,hs,jL hr.1]
    simp only [hr.2,if_false]
    rw [List.take_add_one,List.getElem?_eq_getElem (by omega)]
    rfl
   ·
    show (if jE (dQ s (k+1))=true then bT s k else _)=_
    have hne : ¬ jE (dQ s (k+1))=true:=fun hb=>by
     rw [hs] at hb
     exact pA hr.1 ((mB (fN _ hr.1)).1 hb)
    rw [if_neg hne]
 obtain ⟨k1,k2⟩:=key rs.length zY
 rw [List.take_length] at k1
 exact ⟨by rw [jv (a:=rs.length) 7 hl fun i a b=>h2 i a (by omega)];exact k1,by rw [ju (a:=rs.length) 7 hl fun i a b=>h2 i a (by omega)];exact k2⟩
theorem zJ {x:ByteArray} {j:Nat} {E:Int} {rs:List aX} (hx:x.size=4096) (h4:4≤j) (h8:j<8) (e0:1≤E) (e1:E≤1048576) (hl:rs.length≤7) (hm : ∀ r ∈ rs,bD r=true∧r.kind≠0) (hb : ∀ i,i<8→dp x j i=sN 64) (hd : ∀ i,4≤i→i<8→i≠j→sR (dp x i 0) E):Lay (gU j (yD 1 rs++[(0,cP E)]) x) j ⟨true,E,rs,((rs.length+1:Nat):Int)⟩:=by
 obtain ⟨b1,b2,b3⟩:=zc h8 rs 1 x zY hx (by omega) (fun r hr=>(hm r hr).1) (fun i _ hi=>hb i hi)
 rw [wm]
 show Lay (jm (gU j (yD 1 rs) x) (cd j (0:Nat)) (aK (cP E))) j _
 generalize gU j (yD 1 rs) x=y at b1 b2 b3
 have hy:y.size=4096:=by rw [b1.1,hx]
 have hs:=kW y j 0 (aK (cP E))
 have h0:=nc hy h8 (show 0<8 by omega) (fN _ (ik e0 e1)) ((b3 0 (by omega) (.inl (by omega))).trans (hb 0 (by omega)))
 generalize jm y (cd j (0:Nat)) (aK (cP E))=z at hs h0
 have hz:z.size=4096:=by rw [hs.1,hy]
 obtain ⟨k1,k2,k3⟩:=JI hz h4 h8 e0 e1 h0 (fun i a b c=>by
  rw [hs.slot (by omega) (by omega) (by omega),b1.sec (by omega) c]
  exact hd i a b c)
 have hsl : ∀ i,1≤i→i<8→dQ (iR z j) i=dp y j i:=fun i h1 h2=>by rw [jc _ _ _ h2];exact hs.slot (by omega) h2 (by omega)
 obtain ⟨r1,r2⟩:=Kj (s:=iR z j) hl hm (fun i hi=>by rw [hsl _ (by omega) (by omega)];exact b2 i hi) (fun i h1 h2=>by rw [hsl _ (by omega) h2,b3 i h2 (.inr (by omega))];exact hb i h2)
 have:du z j=⟨true,E,rs,((rs.length+1:Nat):Int)⟩:=DF k3 k2 (by rw [tI];exact r1) (by rw [tH];exact r2)
 rw [← this]
 exact k1
theorem Cr {x y img:ByteArray} {p n:Nat} (h:Has x img) (k:gj x y p n) (hp:2048≤p):Has y img :=
 ⟨k.1.trans h.size,fun i hi=>(k.2 i (by omega)).trans (h.same i hi)⟩
def jh (m:aG) (e:Int) (m':aG) (D:Prop) (S:ByteArray→Prop):Prop:=(D∧gd m m')∨(e=1101∧yq m' S∧0≤m.left)
theorem jh.mono {m:aG} {e:Int} {m':aG} {D D':Prop} {S S':ByteArray→Prop} (h:jh m e m' D S) (hD:D→D') (hS : ∀ x,S x→S' x):jh m e m' D' S' :=
 h.imp (fun k=>⟨hD k.1,k.2⟩) fun k=>⟨k.1,k.2.1.mono hS,k.2.2⟩
theorem jh.next {m m1 m2:aG} {e:Int} {D:Prop} {S:ByteArray→Prop} (hB:gd m m1) (h:jh m1 e m2 D S):jh m e m2 D S :=
 h.imp (fun k=>⟨k.1,hB.trans k.2⟩) fun k=>⟨k.1,k.2.1,by
  have:=k.2.2
  by_cases hl:m.left<0
  ·
   have:=hB hl;omega
  ·
   omega⟩
theorem gd.refl (m:aG):gd m m:=fun h=>h
theorem eU.act {m:aG} {e:Int} {m':aG} {D:Prop} {S:ByteArray→Prop} (h:eU m e m' D S):jh m e m' (e=0∧D) S :=
 h.imp (fun k=>⟨⟨k.1,k.2.1⟩,k.2.2⟩) id
theorem Is (x:ByteArray) (j:Nat):(mk 512 fun i=>bt x (((j:Int) * 512).toNat+i))=iR x j:=by
 unfold iR
 rw [show ((j:Int) * 512).toNat=j * 512 by omega]
theorem DE (x:ByteArray) (j:Nat):iK (iR x j)=du x j:=by rw [du]
theorem wy {x:ByteArray} : ∀ (n j:Nat) (m:aG) (vs:List bC),Calm m x→j+n≤8→eU m (gQ n j m vs).2.2 (gQ n j m vs).1 (Calm (gQ n j m vs).1 x∧(gQ n j m vs).2.1=vs++(List.range n).map fun i=>du x (j+i)) (fun y=>y=x)
 | 0,j,m,vs,h,_=>.inl ⟨rfl,⟨h,(List.append_nil _).symm⟩,gd.refl m⟩
 | n+1,j,m,vs,h,hj=>by
  have hf:=D8 h ((j:Int) * 512) 512 (by omega) (by omega) (by omega)
  rw [show ((512:Nat):Int)=512 from rfl,Is] at hf
  have e:gQ (n+1) j m vs=if (m.cR ((j:Int) * 512) 512).2.2≠0 then ((m.cR ((j:Int) * 512) 512).1,vs,(m.cR ((j:Int) * 512) 512).2.2) else gQ n ((j:Int)+1) (m.cR ((j:Int) * 512) 512).1 (vs++[iK (m.cR ((j:Int) * 512) 512).2.1]):=rfl
  rw [e]
  generalize m.cR ((j:Int) * 512) 512=r at hf
  rcases hf with ⟨h0,⟨h1,h2⟩,h3⟩ | ⟨h0,h1,h2⟩
  ·
   rw [if_neg (by rw [h0];decide),h2,show ((j:Int)+1)=((j+1:Nat):Int) by omega,DE]
   have ih:=wy n (j+1) r.1 (vs++[du x j]) h1 (by omega)
   refine eU.next h3 (ih.mono (fun k=>⟨k.1,?_⟩) fun _ k=>k)
   rw [k.2,List.append_assoc,List.range_succ_eq_map,List.map_cons,List.map_map,Nat.add_zero,List.singleton_append]
   refine congrArg (fun l=>vs++du x j::l) (List.map_congr_left fun i _ => ?_)
   rw [Function.comp_apply,Nat.succ_eq_add_one,Nat.add_assoc,Nat.add_comm 1 i]
  ·
   rw [if_pos (by rw [h0];decide)]
   exact .inr ⟨h0,h1,h2⟩
theorem zh {m:aG} {x:ByteArray} (h:Calm m x):eU m (fC m).2.2 (fC m).1 (Calm (fC m).1 x∧(fC m).2.1=nZ x) (fun y=>y=x):=by
 have hp:=(wI h).2
 unfold fC
 generalize m.dU=r at hp
 rcases hp with ⟨h0,h1,h2⟩ | ⟨h0,h1,h2⟩
 ·
  rw [if_neg (by rw [h0];decide)]
  have hl:=wy 4 4 r.1 [] h1 (by omega)
  rw [show ((4:Nat):Int)=4 from rfl] at hl
  generalize gQ 4 4 r.1 []=u at hl
  unfold uv
  rcases hl with ⟨k0,⟨k1,k2⟩,k3⟩ | ⟨k0,k1,k2⟩
  ·
   rw [if_neg (by rw [k0];decide)]
   refine .inl ⟨rfl,⟨k1,?_⟩,h2.trans k3⟩
   have e:u.2.1=views x:=k2
   show (jY u.2.1 u.2.1.length).map (fun (k:Nat)=>(4+(k:Int),u.2.1.getD k cE))=_
   rw [e]
   rfl
  ·
   rw [if_pos (by rw [k0];decide)]
   exact eU.next h2 (.inr ⟨k0,k1,k2⟩)
 ·
  rw [if_pos (by rw [h0];decide)]
  exact .inr ⟨h0,h1,h2⟩
theorem Gl {x:ByteArray} {s:Int×bC} (h:nZ x=some s):4≤s.1∧s.1<8∧s.2.Ok:=by
 unfold nZ at h
 cases hb:jY (views x) 4 with
 | none=>rw [hb] at h;cases h
 | some k =>
  rw [hb] at h
  obtain rfl:(4+(k:Int),(views x).getD k cE)=s:=by simpa using h
  obtain ⟨h1,V,h2,h3⟩:=mY (views x) 4 k hb
  refine ⟨by show 4≤4+(k:Int);omega,by show 4+(k:Int)<8;omega,?_⟩
  show ((views x).getD k cE).Ok
  rw [List.getD_eq_getElem?_getD,h2]
  show V.Ok
  rw [DG,if_pos h1] at h2
  obtain rfl:du x (4+k)=V:=by simpa using h2
  exact Bn _ h3
def xr (x:ByteArray):aA×Int:=match nZ x with | none=>(shut,2305) | some s=>(⟨true,s.1,s.2⟩,0)
theorem D9 {m:aG} {x:ByteArray} (h:Calm m x):jh m (gv m).2.2 (gv m).1 (Calm (gv m).1 x∧(gv m).2=xr x) (fun y=>y=x):=by
 have hl:=zh h
 unfold gv xr
 generalize fC m=r at hl
 unfold A5
 rcases hl with ⟨h0,⟨h1,h2⟩,h3⟩ | ⟨h0,h1,h2⟩
 ·
  rw [if_neg (by rw [h0];decide),h2]
  cases nZ x with
  | none=>exact .inl ⟨⟨h1,rfl⟩,h3⟩
  | some s=>exact .inl ⟨⟨h1,rfl⟩,h3⟩
 ·
  rw [if_pos (by rw [h0];decide)]
  exact .inr ⟨h0,h1,h2⟩
theorem oZ {reads:List Int} (h:cH reads=true) : ∀ y ∈ reads,0≤y∧y<2048:=fun y hy=>by
 unfold cH at h
 simp only [Bool.and_eq_true,List.all_eq_true] at h
 have:=h.2 y hy
 unfold l8 at this
 simp only [Bool.and_eq_true,decide_eq_true_eq] at this
 exact this
def eO (x:ByteArray):Int:=fK (nT (nZ x))
def lq (x:ByteArray):Int:=qz (nZ x)+1
def nW (x:ByteArray) (sec:Int):ByteArray:=erased x (sec * 512) ⟨#[255]⟩
def iM (x img:ByteArray) (reads:List Int):ByteArray×aA×List Int×Int :=
 if 1048576≤qz (nZ x) then (x,shut,[],2304) else if cH reads=true then (jm (nW x (eO x)) (cd (eO x) 0) (aK (cP (lq x))),⟨true,eO x,⟨true,lq x,[],1⟩⟩,reads.map (j7 img),0) else (x,shut,[],1800)
def FormatPart (x y:ByteArray):Prop:=y=x∨(qz (nZ x)<1048576∧((∃ mask,y=erased x (eO x * 512) mask)∨sP (nW x (eO x)) (cd (eO x) 0) (aK (cP (lq x))) y))
theorem zK (x:ByteArray):4≤eO x∧eO x<8:=by
 unfold eO
 cases h:nZ x with
 | none=>decide
 | some s =>
  obtain ⟨h1,h2,_⟩:=Gl h
  exact rM h1 h2
theorem JY (x:ByteArray) (h:qz (nZ x)<1048576):1≤lq x∧lq x≤1048576:=by
 unfold lq
 cases hs:nZ x with
 | none=>decide
 | some s =>
  obtain ⟨_,_,h3⟩:=Gl hs
  rw [hs] at h
  have:=h3.an
  show 1≤s.2.an+1∧s.2.an+1≤1048576
  have h:s.2.an<1048576:=h
  omega
theorem sA {sec slot:Int} (h1:4≤sec) (h2:sec<8) (h3:0≤slot) (h4:slot<8):2048≤cd sec slot∧cd sec slot<4064∧cd sec slot % 32=0:=by unfold cd;omega
theorem B1 {m:aG} {x img:ByteArray} {q:Cache} (h:Calm m x) (hx:Has x img) (g:q.Good) (hq:q.de img) (reads:List Int):jh m (cW m q reads).2.2.2.2 (cW m q reads).1 (Calm (cW m q reads).1 (iM x img reads).1∧(cW m q reads).2.1.Good∧(cW m q reads).2.1.de img∧(cW m q reads).2.2=(iM x img reads).2) (FormatPart x):=by
 have hl:=zh h
 unfold cW
 generalize fC m=r at hl
 unfold rz
 rcases hl with ⟨h0,⟨h1,h2⟩,h3⟩ | ⟨h0,h1,h2⟩
 ·
  rw [if_neg (by rw [h0];decide),h2]
  refine jh.next h3 ?_
  unfold vC
  have hsec:=zK x
  by_cases hep:1048576≤qz (nZ x)
  ·
   rw [if_pos hep]
   unfold iM
   rw [if_pos hep]
   exact .inl ⟨⟨h1,g,hq,rfl⟩,gd.refl _⟩
  ·
   rw [if_neg hep]
   have hepi:=JY x (by omega)
   rw [show fK (nT (nZ x))=eO x from rfl,show qz (nZ x)+1=lq x from rfl]
   by_cases hr:cH reads=true
   ·
    rw [show jd r.1 q (eO x) reads=gS r.1 (eO x * 512) reads from if_pos hr]
    have hw:=zj h1 hx (eO x * 512) (by omega) (by omega) (by omega) reads (oZ hr)
    have eF:iM x img reads=(jm (nW x (eO x)) (cd (eO x) 0) (aK (cP (lq x))),⟨true,eO x,⟨true,lq x,[],1⟩⟩,reads.map (j7 img),0):=by
     unfold iM
     rw [if_neg hep,if_pos hr]
    rw [eF]
    generalize gS r.1 (eO x * 512) reads=t at hw
    unfold rD
    rcases hw with ⟨k0,⟨k1,k2,k3,k4⟩,k5⟩ | ⟨k0,k1,k2⟩
    ·
     rw [if_neg (by rw [k0];decide)]
     refine jh.next k5 ?_
     obtain ⟨p0,p1,p2⟩:=sA hsec.1 hsec.2 (show (0:Int)≤0 by decide) (show (0:Int)<8 by decide)
     have hb:=zg k1 (cd (eO x) 0) (aK (cP (lq x))) p0 p1 p2 (fN _ (ik hepi.1 hepi.2))
     generalize t.1.dY (cd (eO x) 0) (aK (cP (lq x)))=b at hb
     unfold pI
     rcases hb with ⟨j0,j1,j2⟩ | ⟨j0,j1,j2⟩
     ·
      rw [if_neg (by rw [j0];decide)]
      exact .inl ⟨⟨j1,k2,k3,by rw [k4]⟩,j2⟩
     ·
      rw [if_pos (by rw [j0];decide)]
      exact .inr ⟨j0,j1.mono fun y hy=>.inr ⟨by omega,.inr hy⟩,j2⟩
    ·
     rw [if_pos (by rw [k0];decide)]
     exact .inr ⟨k0,k1.mono fun y hy=>hy.imp id fun hm=>⟨by omega,.inl hm⟩,k2⟩
   ·
    rw [show jd r.1 q (eO x) reads=(r.1,q,[],1800) from if_neg hr]
    have eF:iM x img reads=(x,shut,[],1800):=by
     unfold iM
     rw [if_neg hep,if_neg hr]
    rw [eF]
    exact .inl ⟨⟨h1,g,hq,rfl⟩,gd.refl _⟩
 ·
  rw [if_pos (by rw [h0];decide)]
  exact .inr ⟨h0,h1.mono fun y hy=>.inl hy,h2⟩
def sO (sec:Int):List (Int×aX)→ByteArray→ByteArray→Prop
 | [],_,_=>False
 | a::l,x,y=>sP x (cd sec a.1) (aK a.2) y∨sO sec l (jm x (cd sec a.1) (aK a.2)) y
theorem qw {sec:Int} (s0:4≤sec) (s1:sec<8) : ∀ (l:List (Int×aX)) (m:aG) (x:ByteArray),Calm m x→(∀ a ∈ l,0≤a.1∧a.1<8∧bD a.2=true)→eU m (eL sec l m).2 (eL sec l m).1 (Calm (eL sec l m).1 (gU sec l x)) (sO sec l x)
 | [],m,x,h,_=>.inl ⟨rfl,h,gd.refl m⟩
 | a::l,m,x,h,hl=>by
  obtain ⟨a0,a1,a2⟩:=hl a (by simp)
  obtain ⟨p0,p1,p2⟩:=sA s0 s1 a0 a1
  have hb:=zg h (cd sec a.1) (aK a.2) p0 p1 p2 (fN _ a2)
  have e:eL sec (a::l) m=if (m.dY (cd sec a.1) (aK a.2)).2≠0 then m.dY (cd sec a.1) (aK a.2) else eL sec l (m.dY (cd sec a.1) (aK a.2)).1:=rfl
  rw [e]
  generalize m.dY (cd sec a.1) (aK a.2)=b at hb
  rcases hb with ⟨j0,j1,j2⟩ | ⟨j0,j1,j2⟩
  ·
   rw [if_neg (by rw [j0];decide)]
   exact eU.next j2 ((qw s0 s1 l b.1 _ j1 fun c hc=>hl c (by simp [hc])).mono id fun y hy=>.inr hy)
  ·
   rw [if_pos (by rw [j0];decide)]
   exact .inr ⟨j0,j1.mono fun y hy=>.inl hy,j2⟩
theorem zb {img:ByteArray} {sec:Nat} (s0:4≤sec) : ∀ (l:List (Int×aX)) (x:ByteArray),Has x img→(∀ a ∈ l,0≤a.1∧a.1<8)→Has (gU sec l x) img
 | [],_,h,_=>h
 | a::l,x,h,hl=>by
  obtain ⟨a0,a1⟩:=hl a (by simp)
  obtain ⟨i,hi⟩ : ∃ n:Nat,a.1=(n:Int):=⟨a.1.toNat,(Int.toNat_of_nonneg a0).symm⟩
  show Has (gU sec l (jm x (cd sec a.1) (aK a.2))) img
  rw [hi]
  rw [hi] at a1
  exact zb s0 l _ (Cr h (kW x sec i _) (by omega)) fun c hc=>hl c (by simp [hc])
def iJ (x:ByteArray) (p:fJ):ByteArray:=if 0≤p.dG then nW x p.dG else x
def hZ (x:ByteArray) (p:fJ):ByteArray:=gU p.av (p.bJ.zip p.aC) (iJ x p)
def vY (x:ByteArray) (p:fJ) (y:ByteArray):Prop:=y=x∨(0≤p.dG ∧ ∃ mask,y=erased x (p.dG * 512) mask)∨sO p.av (p.bJ.zip p.aC) (iJ x p) y∨y=hZ x p
theorem AD {x img:ByteArray} (h:Has x img) (sec:Int) (h0:4≤sec):Has (nW x sec) img:=wW h _ (by omega) _
theorem qU {p:fJ} (pk:p.Ok) : ∀ a ∈ p.bJ.zip p.aC,0≤a.1∧a.1<8∧bD a.2=true:=fun a ha=>by
 obtain ⟨h1,h2⟩:=List.of_mem_zip (a:=a.1) (b:=a.2) ha
 exact ⟨(pk.bJ _ h1).1,(pk.bJ _ h1).2,pk.aC _ h2⟩
theorem B2 {m:aG} {x img:ByteArray} {q:Cache} (h:Calm m x) (hx:Has x img) (g:q.Good) (hq:q.de img) {p:fJ} (pk:p.Ok) {reads:List Int} (hr:cH reads=true):eU m (dX m q p reads).2.2.2 (dX m q p reads).1 (Calm (dX m q p reads).1 (hZ x p)∧(dX m q p reads).2.1.Good∧(dX m q p reads).2.1.de img∧(dX m q p reads).2.2.1=reads.map (j7 img)) (vY x p):=by
 obtain ⟨s0,s1⟩:=pk.av
 obtain ⟨sec,hsec⟩ : ∃ n:Nat,p.av=(n:Int):=⟨p.av.toNat,by omega⟩
 unfold dX firstT
 by_cases hw:0≤p.dG
 ·
  have hwi:=pk.dG
  rw [if_pos hw]
  unfold jd
  rw [if_pos hr]
  have k:=zj h hx (p.dG * 512) (by omega) (by omega) (by omega) reads (oZ hr)
  generalize gS m (p.dG * 512) reads=t at k
  unfold pV
  rcases k with ⟨k0,⟨k1,k2,k3,k4⟩,k5⟩ | ⟨k0,k1,k2⟩
  ·
   rw [if_neg (by rw [k0];decide)]
   have hb:=qw s0 s1 (p.bJ.zip p.aC) t.1 _ k1 (qU pk)
   have eb:iJ x p=erased x (p.dG * 512) ⟨#[255]⟩:=by unfold iJ nW;rw [if_pos hw]
   refine eU.next k5 ?_
   generalize eL p.av (p.bJ.zip p.aC) t.1=b at hb
   unfold fZ
   rcases hb with ⟨j0,j1,j2⟩ | ⟨j0,j1,j2⟩
   ·
    rw [if_neg (by rw [j0];decide),if_pos hw]
    refine .inl ⟨rfl,⟨?_,k2,k3,k4⟩,j2⟩
    unfold hZ
    rw [eb]
    exact j1
   ·
    rw [if_pos (by rw [j0];decide)]
    exact .inr ⟨j0,j1.mono fun y hy=>.inr (.inr (.inl (by rw [eb];exact hy))),j2⟩
  ·
   rw [if_pos (by rw [k0];decide)]
   exact .inr ⟨k0,k1.mono fun y hy=>hy.imp id fun hm=>.inl ⟨hw,hm⟩,k2⟩
 ·
  rw [if_neg hw]
  unfold pV
  rw [if_neg (by simp)]
  have hb:=qw s0 s1 (p.bJ.zip p.aC) m _ h (qU pk)
  have eb:iJ x p=x:=by unfold iJ;rw [if_neg hw]
  have hh:Has (hZ x p) img:=by
   unfold hZ
   rw [eb,hsec]
   exact zb (by omega) _ _ hx fun a ha=>⟨(qU pk a ha).1,(qU pk a ha).2.1⟩
  show eU m (fZ (eL p.av (p.bJ.zip p.aC) m) q p.dG [] reads).2.2.2 (fZ (eL p.av (p.bJ.zip p.aC) m) q p.dG [] reads).1 (Calm (fZ (eL p.av (p.bJ.zip p.aC) m) q p.dG [] reads).1 _∧(fZ (eL p.av (p.bJ.zip p.aC) m) q p.dG [] reads).2.1.Good∧(fZ (eL p.av (p.bJ.zip p.aC) m) q p.dG [] reads).2.1.de img∧(fZ (eL p.av (p.bJ.zip p.aC) m) q p.dG [] reads).2.2.1=_) _
  generalize eL p.av (p.bJ.zip p.aC) m=b at hb
  unfold fZ
  rcases hb with ⟨j0,j1,j2⟩ | ⟨j0,j1,j2⟩
  ·
   rw [if_neg (by rw [j0];decide),if_neg hw]
   have hr2:=GQ (q:=q) (img:=img) j1 (by rw [← eb] at hx ⊢;unfold hZ at hh;rw [eb] at hh ⊢;exact hh) g hq reads (oZ hr)
   refine eU.next j2 (hr2.mono (fun k => ?_) fun y hy => ?_)
   ·
    refine ⟨?_,k.2.1,k.2.2.1,k.2.2.2⟩
    unfold hZ
    rw [eb]
    exact k.1
   ·
    refine .inr (.inr (.inr ?_))
    unfold hZ
    rw [eb]
    exact hy
  ·
   rw [if_pos (by rw [j0];decide)]
   exact .inr ⟨j0,j1.mono fun y hy=>.inr (.inr (.inl (by rw [eb];exact hy))),j2⟩
end Go.Proofs.YtcfdenckiigdaaaGreat

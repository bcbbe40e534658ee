/- Part 36 of the contracts. -/
import Derived.Test.YtcfdenckiigdaaaGreatFl35
set_option linter.unusedVariables false
set_option maxRecDepth 100000
set_option maxHeartbeats 4000000
namespace Go.Proofs.YtcfdenckiigdaaaGreat
open Tryz
section
def erased (x:ByteArray) (p:Int) (mask:ByteArray):ByteArray:=lF x p.toNat 512 (iU mask)
theorem wQ {x img:ByteArray} (h:Has x img) (p:Int) (hp:2048≤p) (mask:ByteArray):Has (erased x p mask) img:=by
 refine ⟨by unfold erased lF;rw [eJ];exact h.size,fun i hi => ?_⟩
 unfold erased lF
 rw [lR _ _ _ (by rw [h.size];omega),if_neg (by omega)]
 exact h.same i hi
theorem Calm.held {m:aG} {x:ByteArray} (h:Calm m x):sR m m.ar.core:=⟨h.qi,h.bP,h.bq,h.bk,fun j e=>by rw [show m.ar.core.aZ=none from h.aZ] at e;cases e⟩
theorem Calm.of_held {m m':aG} {x:ByteArray} (h:Calm m x) {g:Bool} (k:sR m' { m.ar.core with aD:=g }):Calm m' x:=Calm.of k.qi h.cells h.bq h.bk h.aZ h.busy
theorem Calm.may {m:aG} {x:ByteArray} (h:Calm m x) : ∀ y,m.ar.core.yG y→y=x:=fun y hy=>by
 unfold Core.yG at hy
 rw [show m.ar.core.aZ=none from h.aZ] at hy
 exact hy.trans h.cells
theorem yX {m:aG} {x img:ByteArray} (h:Calm m x) (hx:Has x img) (p:Int) (h0:2048≤p) (h1:p<4096) (hp:p % 512=0) (reads:List Int) (hr : ∀ y ∈ reads,0≤y∧y<2048):eV m (gS m p reads).2.2.2 (gS m p reads).1 (Calm (gS m p reads).1 (erased x p ⟨#[255]⟩)∧(gS m p reads).2.1.Good∧(gS m p reads).2.1.dg img∧(gS m p reads).2.2.1=reads.map (lk img)) (fun y=>y=x ∨ ∃ mask,y=erased x p mask):=by
 have k6:=gh (b:=6) (at_:=0) (ys:=[]) (read:=0) h.qi (by decide) h.leave (Fz (c:={ m.ar.core with aD:=false }) rfl h.bP) rfl
 unfold gS
 rcases oJ h k6 with ⟨e1,e2,r,b⟩ | ⟨e1,e2,t,l⟩
 case inr =>
  have e:dr m p reads=((m.run 6 0 [] 0).1,Cache.new,reads,[],(m.run 6 0 [] 0).2.2):=by unfold dr;rw [if_pos (by rw [e1];decide)]
  rw [e,if_pos (by show (m.run 6 0 [] 0).2.2≠0;rw [e1];decide)]
  exact .inr ⟨e1,t.mono fun y e=>.inl e,l⟩
 have k2:=gh (b:=32) (at_:=p) (ys:=[]) (read:=0) r (by decide) (by intro e;cases e) (L3 (c:={ m.ar.core with aD:=false,en:=true }) p (by omega) h1 rfl h.aZ) (by rw [nT rfl h0])
 rw [nT rfl h0] at k2
 have hbusy:=wW (show ∀ y ∈ ({ m.ar.core with aD:=false,en:=true }:Core).busy,1≤y∧y≤400 from h.busy)
 have hjc : ∀ l sp mask,cK ⟨p / 512,0,ByteArray.empty,l,sp⟩ m.ar.cells mask=erased x p mask:=fun l sp mask=>by
  unfold cK erased
  rw [if_neg (by show ¬ p / 512 = -1;omega),h.cells]
  congr 1
  show (p / 512).toNat * 512=_
  omega
 rcases k2 with ⟨f1,f2,g⟩ | ⟨f1,f2,r2,b2⟩
 ·
  have e:dr m p reads=(((m.run 6 0 [] 0).1.run 32 p [] 0).1,Cache.new,reads,[],((m.run 6 0 [] 0).1.run 32 p [] 0).2.2):=by unfold dr;rw [if_neg (by rw [e1];decide),if_pos (by rw [f1];decide)]
  rw [e,if_pos (by show ((m.run 6 0 [] 0).1.run 32 p [] 0).2.2≠0;rw [f1];decide)]
  exact eV.next b (.inr ⟨f1,(mQ g h.aZ h.bq h.bk).mono fun y e=>.inl (e.trans h.cells),g.left⟩)
 have e:dr m p reads=cM 256 ((m.run 6 0 [] 0).1.run 32 p [] 0).1 Cache.new reads []:=by unfold dr;rw [if_neg (by rw [e1];decide),if_neg (by rw [f1];decide)]
 rw [e]
 have hw:=Iw (img:=img) 255 _ Cache.new reads [] _ r2 ⟨rfl,h.bq,h.bk,fun j hj=>by
  obtain rfl:(⟨p / 512,0,ByteArray.empty,m.ar.busy.headD 8,false⟩:iE)=j:=Option.some.inj hj
  exact ⟨rfl,hbusy.1,Int.le_trans hbusy.2 (by decide),by show p / 512 ≠ -1;omega⟩⟩ (show Has m.ar.cells img by rw [h.cells];exact hx) (fun j hj=>by
  obtain rfl:(⟨p / 512,0,ByteArray.empty,m.ar.busy.headD 8,false⟩:iE)=j:=Option.some.inj hj
  show 4≤p / 512;omega) Cache.mH (zz img) hr
 rcases hw with ⟨w1,⟨w2,w3,w4,l1,w5,w6⟩,b3⟩ | ⟨w1,t,l⟩
 ·
  rw [if_neg (by rw [w1];decide)]
  have hc:Calm (cM 256 ((m.run 6 0 [] 0).1.run 32 p [] 0).1 Cache.new reads []).1 (erased x p ⟨#[255]⟩):=by
   refine Calm.of w2 ?_ h.bq h.bk rfl (fun y hy=>h.busy y (List.mem_of_mem_drop hy))
   rw [← hjc (m.ar.busy.headD 8) false]
   rfl
  have hx2:Has (cM 256 ((m.run 6 0 [] 0).1.run 32 p [] 0).1 Cache.new reads []).1.ar.core.cells img:=by
   show Has (cM 256 ((m.run 6 0 [] 0).1.run 32 p [] 0).1 Cache.new reads []).1.ar.cells img
   rw [hc.cells];exact wQ hx p h0 _
  have k:=xB (cM 256 ((m.run 6 0 [] 0).1.run 32 p [] 0).1 Cache.new reads []).2.2.1 (cM 256 ((m.run 6 0 [] 0).1.run 32 p [] 0).1 Cache.new reads []).2.2.2.1 _ _ _ hc.held hx2 w3 w4 (fun y hy=>hr y (by rw [w5];exact List.mem_append_right _ hy))
  refine eV.next ((b.trans b2).trans b3) (k.mono (fun ⟨⟨g,a1⟩,a2,a3,a4⟩=>⟨hc.of_held a1,a2,a3,?_⟩) fun y hy=>.inr ⟨_,hc.may y hy⟩)
  rw [a4,w6,List.nil_append,← List.map_append,← w5]
 ·
  rw [if_pos (by rw [w1];decide)]
  refine eV.next (b.trans b2) (.inr ⟨w1,t.mono fun y hy => ?_,l⟩)
  obtain ⟨mask,hy⟩:=hy
  exact .inr ⟨mask,hy.trans (hjc _ _ _)⟩
theorem Gz {m:aG} {x img:ByteArray} {q:Cache} {at_ width:Int} (h:Calm m x) (hx:Has x img) (g:q.Good) (hq:q.dg img) (hr:fO at_ width=true):eV m (bH m q at_ width).2.2.2 (bH m q at_ width).1 (Calm (bH m q at_ width).1 x∧(bH m q at_ width).2.1.Good∧(bH m q at_ width).2.1.dg img∧(bH m q at_ width).2.2.1=oH img at_ width.toNat 0 0) (fun y=>y=x) :=
 (xy h.held (show Has m.ar.cells img by rw [h.cells];exact hx) g hq hr).mono (fun ⟨⟨_,a1⟩,a2,a3,a4⟩=>⟨h.of_held a1,a2,a3,a4⟩) h.may
theorem GA {m:aG} {x img:ByteArray} {q:Cache} (h:Calm m x) (hx:Has x img) (g:q.Good) (hq:q.dg img) (l:List Int) (hl : ∀ y ∈ l,0≤y∧y<2048):eV m (dG l [] m q).2.2.2 (dG l [] m q).1 (Calm (dG l [] m q).1 x∧(dG l [] m q).2.1.Good∧(dG l [] m q).2.1.dg img∧(dG l [] m q).2.2.1=l.map (lk img)) (fun y=>y=x) :=
 (xB l [] m q _ h.held (show Has m.ar.cells img by rw [h.cells];exact hx) g hq hl).mono (fun ⟨⟨_,a1⟩,a2,a3,a4⟩=>⟨h.of_held a1,a2,a3,a4⟩) h.may
theorem mN {m:aG} {c:Core} {r:aG×List Int×Int} {xs:List Int} {c':Core} (h:vO m c r xs c') (hl:m.left<0):r=(r.1,xs,0)∧gl r.1 c'∧r.1.left<0:=by
 obtain ⟨a,b,d⟩:=r
 rcases h with ⟨_,_,g⟩ | ⟨e1,e2,r,b⟩
 ·
  have:=g.left;omega
 ·
  simp only at e1 e2
  subst e1 e2
  exact ⟨rfl,r,b hl⟩
theorem Jm {m:aG} {c:Core} (h:gl m c) (hg:c.aD=false) (hj:c.aZ=none) (hl:m.left<0):m.run 5 0 [] 1=((m.run 5 0 [] 1).1,[c.first],0)∧gl (m.run 5 0 [] 1).1 c∧(m.run 5 0 [] 1).1.left<0:=by
 have hgo:({ c with aD:=false }:Core)=c:=by rw [← hg]
 have k:=gh (b:=5) (at_:=0) (ys:=[]) (read:=1) h (by decide) (by rw [hg];intro e;cases e) (LR rfl) (by rw [hgo,eu hj];exact hg)
 rw [hgo,eu hj,eu hj] at k
 exact mN k hl
theorem FB {m:aG} {c:Core} (h:gl m c) (hg:c.aD=false) (hj:c.aZ=none) (hl:m.left<0):m.run 53 0 [] 1=((m.run 53 0 [] 1).1,[c.second],0)∧gl (m.run 53 0 [] 1).1 c∧(m.run 53 0 [] 1).1.left<0:=by
 have hgo:({ c with aD:=false }:Core)=c:=by rw [← hg]
 have k:=gh (b:=53) (at_:=0) (ys:=[]) (read:=1) h (by decide) (by rw [hg];intro e;cases e) (L4 rfl) (by rw [hgo,eu hj];exact hg)
 rw [hgo,eu hj,eu hj] at k
 exact mN k hl
theorem Ig {m:aG} {x:ByteArray} {b:List Int} (h:gl m ⟨x,false,false,false,false,none,b⟩) (hl:m.left<0) : ∃ m1 m2 m3 m4,Sets m m1 m2 m3 m4 53 2 5 4 0 0∧gl m4 ⟨x,false,true,false,false,none,b⟩∧m4.left<0:=by
 obtain ⟨e1,r1,l1⟩:=FB h rfl rfl hl
 obtain ⟨e2,r2,l2⟩:=Jm r1 rfl rfl l1
 obtain ⟨e3,r3,l3⟩:=mN (gh (b:=6) (at_:=0) (ys:=[]) (read:=0) r2 (by decide) (by intro e;cases e) (Fz rfl rfl) rfl) l2
 obtain ⟨e4,r4,l4⟩:=mN (gh (b:=1) (at_:=0) (ys:=[0,2]) (read:=0) r3 (by decide) (by intro e;cases e) (LQ 0 2 (by decide) (by decide) rfl rfl rfl) rfl) l3
 refine ⟨_,_,_,_,⟨e1,by decide,e2,e3,?_,by decide,.inr rfl,.inl rfl,by decide⟩,?_,l4⟩
 ·
  exact e4
 ·
  exact r4
theorem Ie {m:aG} {x:ByteArray} {b:List Int} (h:gl m ⟨x,false,true,false,false,none,b⟩) (hl:m.left<0) : ∃ m1 m2 m3 m4,Sets m m1 m2 m3 m4 5 4 53 2 0 2∧gl m4 ⟨x,true,true,false,false,none,b⟩∧m4.left<0:=by
 obtain ⟨e1,r1,l1⟩:=Jm h rfl rfl hl
 obtain ⟨e2,r2,l2⟩:=FB r1 rfl rfl l1
 obtain ⟨e3,r3,l3⟩:=mN (gh (b:=6) (at_:=0) (ys:=[]) (read:=0) r2 (by decide) (by intro e;cases e) (Fz rfl rfl) rfl) l2
 obtain ⟨e4,r4,l4⟩:=mN (gh (b:=1) (at_:=0) (ys:=[4,2]) (read:=0) r3 (by decide) (by intro e;cases e) (LQ 4 2 (by decide) (by decide) rfl rfl rfl) rfl) l3
 refine ⟨_,_,_,_,⟨e1,by decide,e2,e3,?_,by decide,.inl rfl,.inr rfl,by decide⟩,?_,l4⟩
 ·
  exact e4
 ·
  exact r4
end
section
theorem Dv (a:UInt8):a &&& ~~~a=0:=by
 rw [← UInt8.toBitVec_inj];simp
theorem Fb (a b:UInt8):a &&& ~~~b=0 ↔ ∀ i,i<8→a.toBitVec.getLsbD i=true→b.toBitVec.getLsbD i=true:=by
 rw [← UInt8.toBitVec_inj]
 constructor
 ·
  intro h i hi ha
  have:=congrArg (fun x=>BitVec.getLsbD x i) h
  simp [ha,hi] at this
  exact this
 ·
  intro h
  apply BitVec.eq_of_getLsbD_eq
  intro i hi
  have:=h i hi
  cases ha:a.toBitVec.getLsbD i
  ·
   simp [ha]
  ·
   simp [ha,this ha]
theorem F7 {a b:UInt8} (h:a &&& ~~~b=0) (k : ~~~a &&& ~~~(~~~b)=0):a=b:=by
 rw [Fb] at h k
 rw [← UInt8.toBitVec_inj]
 apply BitVec.eq_of_getLsbD_eq
 intro i hi
 have h1:=h i hi
 have h2:=k i hi
 cases ha:a.toBitVec.getLsbD i <;> cases hb:b.toBitVec.getLsbD i <;> simp_all
theorem Bj {a b c:UInt8} (h:a &&& ~~~b=0) (k:b &&& ~~~c=0):a &&& ~~~c=0:=by
 rw [Fb] at *
 exact fun i hi ha=>k i hi (h i hi ha)
theorem Bi (d:UInt8):(255:UInt8) &&& ~~~((255:UInt8) &&& ~~~d)=d:=by
 have e : ∀ x:UInt8,(255:UInt8) &&& x=x:=fun x=>by
  rw [← UInt8.toBitVec_inj]
  exact BitVec.allOnes_and
 rw [e,e];simp
theorem Fc (a:UInt8):a ||| 255=255:=by
 rw [← UInt8.toBitVec_inj]
 exact BitVec.or_allOnes
theorem qu (a b:ByteArray) (i:Nat):bt (a++b) i=if i<a.size then bt a i else bt b (i - a.size):=by
 unfold bt
 rw [Array.getD_eq_getD_getElem?,Array.getD_eq_getD_getElem?,Array.getD_eq_getD_getElem?,ByteArray.data_append,Array.getElem?_append]
 show (if i<a.size then _ else _:Option UInt8).getD 0=_
 split <;> rfl
theorem I3 (a:ByteArray) (i:Nat) (h:a.size≤i):bt a i=0:=by
 unfold bt
 rw [Array.getD_eq_getD_getElem?,Array.getElem?_eq_none h]
 rfl
theorem fI (a:ByteArray) (p q i:Nat) (h:i<q - p) (hq:q≤a.size):bt (a.extract p q) i=bt a (p+i):=by
 unfold bt
 rw [Array.getD_eq_getD_getElem?,Array.getD_eq_getD_getElem?,ByteArray.data_extract,Array.getElem?_extract]
 have:a.data.size=a.size:=rfl
 rw [if_pos (by omega)]
theorem ig (a:ByteArray) (p q:Nat) (hq:q≤a.size):(a.extract p q).size=q - p:=by
 rw [ByteArray.size_extract];omega
theorem ir (s:ByteArray) (i:Nat):(i<s.size→bt (dy s) i=bt s i)∧(i<s.size→bt (dy s) (s.size+i) = ~~~(bt s i)):=by
 have hs:s.data.toList.length=s.size:=by rw [Array.length_toList];rfl
 have e : ∀ j,bt (dy s) j=((s.data.toList++s.data.toList.map fun x => ~~~x)[j]?).getD 0:=fun j=>by
  unfold bt dy
  rw [Array.getD_eq_getD_getElem?,List.getElem?_toArray]
 constructor
 ·
  intro h
  rw [e,List.getElem?_append_left (by omega)]
  unfold bt
  rw [Array.getD_eq_getD_getElem?,Array.getElem?_toList]
 ·
  intro h
  rw [e,List.getElem?_append_right (by omega),hs,Nat.add_sub_cancel_left,List.getElem?_map]
  unfold bt
  rw [Array.getD_eq_getD_getElem?,Array.getElem?_toList]
  have h':i<s.data.size:=h
  rw [Array.getElem?_eq_getElem h']
  rfl
theorem Hp (s:ByteArray) (hs:s.size=32):(dy s).extract 0 32=s:=by
 have h64:(dy s).size=64:=by rw [fe,hs]
 refine fH (by rw [ig _ _ _ (by omega),hs]) fun i hi => ?_
 rw [ig _ _ _ (by omega)] at hi
 rw [fI _ _ _ _ hi (by omega),Nat.zero_add]
 exact (ir s i).1 (by omega)
theorem CW (s:ByteArray) (hs:s.size=32):fx (dy s)=some s:=by
 unfold fx
 rw [Hp s hs,if_pos ⟨by rw [fe,hs],rfl⟩]
theorem tG {u:ByteArray} {r:aX} (h:dJ u=some r):bC r=true∧u=aL r:=by
 unfold dJ at h
 split at h
 ·
  cases h
 ·
  rename_i t ht
  split at h
  ·
   rename_i hp
   obtain rfl:gD t=r:=by simpa using h
   unfold iD at hp
   split at hp
   ·
    rename_i hm
    exact ⟨hm,by simpa using hp.symm⟩
   ·
    cases hp
  ·
   cases h
def IL (t u:ByteArray):Prop:=u.size=t.size ∧ ∀ i,i<t.size→bt t i &&& ~~~(bt u i)=0
theorem IL.refl (t:ByteArray):IL t t:=⟨rfl,fun _ _=>Dv _⟩
theorem IL.trans {a b c:ByteArray} (h:IL a b) (k:IL b c):IL a c:=⟨k.1.trans h.1,fun i hi=>Bj (h.2 i hi) (k.2 i (by rw [h.1];exact hi))⟩
theorem Ka {s s':ByteArray} (hs:s.size=32) (hs':s'.size=32) (h:IL (dy s) (dy s')):s=s':=by
 have h64:(dy s).size=64:=by rw [fe,hs]
 refine fH (by rw [hs,hs']) fun i hi => ?_
 have h1:=h.2 i (by omega)
 have h2:=h.2 (32+i) (by omega)
 rw [(ir s i).1 hi,(ir s' i).1 (by omega)] at h1
 have e1:=(ir s i).2 hi
 have e2:=(ir s' i).2 (by omega)
 rw [hs] at e1
 rw [hs'] at e2
 rw [e1,e2] at h2
 exact F7 h1 h2
theorem fP (r:aX) (h:bC r=true):(aL r).size=64:=by
 unfold aL
 rw [fe,dh _ _ (gu h)]
theorem Kn {r r':aX} {u:ByteArray} (hr:bC r=true) (h:IL (aL r) u) (hu:dJ u=some r'):u=aL r:=by
 obtain ⟨h1,h2⟩:=tG hu
 rw [h2] at h ⊢
 unfold aL at h ⊢
 rw [Ka (dh _ _ (gu hr)) (dh _ _ (gu h1)) h]
theorem JB (l:Array UInt8) (i:Nat):bt ⟨l⟩ i=l.getD i 0:=rfl
theorem mI {s:ByteArray} (h:lu s=true):s=⟨#[]⟩:=fH (j7 h) fun i hi=>by rw [j7 h] at hi;omega
theorem I4 (s:ByteArray) (n i:Nat):bt (dX s n) i=if i<s.size then bt s i else 0:=by
 unfold dX
 rw [qu]
 split
 ·
  rfl
 ·
  rw [JB,Array.getD_eq_getD_getElem?,Array.getElem?_replicate]
  split <;> rfl
theorem Lk (x:Nat) (h:x<4294967296) (s:ByteArray) (hs : ∀ i,i<4→bt s i=bt (lQ x) i):jt s=x:=by
 unfold jt
 rw [hs 0 (by omega),hs 1 (by omega),hs 2 (by omega),hs 3 (by omega)]
 unfold lQ
 simp only [JB]
 show (UInt8.ofNat x).toNat+256 * (UInt8.ofNat (x / 256)).toNat+65536 * (UInt8.ofNat (x / 65536)).toNat+16777216 * (UInt8.ofNat (x / 16777216)).toNat=x
 simp only [UInt8.toNat_ofNat']
 omega
theorem rk (s:ByteArray) (b:UInt8) (h:1≤s.size):s.extract 0 1=⟨#[b]⟩ ↔ bt s 0=b:=by
 constructor
 ·
  intro e
  have:=congrArg (fun t=>bt t 0) e
  simp only [fI s 0 1 0 (by omega) h] at this
  exact this
 ·
  intro e
  refine fH (by rw [ig _ _ _ h];rfl) fun i hi => ?_
  rw [ig _ _ _ h] at hi
  obtain rfl:i=0:=by omega
  rw [fI s 0 1 0 (by omega) h]
  exact e
theorem lG {n:Nat} (h:n<256):(UInt8.ofNat n).toNat=n:=by rw [UInt8.toNat_ofNat'];exact Nat.mod_eq_of_lt h
theorem ry (r:aX) (i:Nat):bt (headText r) i=if i=0 then UInt8.ofNat r.key.size else if i=1 then UInt8.ofNat r.value.size else if i=2 then 0 else bt r.key (i - 3):=by
 unfold headText
 rw [qu]
 show (if i<3 then _ else bt r.key (i - 3))=_
 match i with
 | 0=>rfl
 | 1=>rfl
 | 2=>rfl
 | i+3=>rw [if_neg (by omega),if_neg (by omega),if_neg (by omega),if_neg (by omega)]
theorem tg (r:aX):(headText r).size=3+r.key.size:=by unfold headText;rw [ByteArray.size_append];rfl
theorem kE (b:UInt8) (s:ByteArray) (i:Nat):bt (⟨#[b]⟩++s) i=if i=0 then b else bt s (i - 1):=by
 rw [qu]
 show (if i<1 then _ else bt s (i - 1))=_
 match i with
 | 0=>rfl
 | i+1=>rw [if_neg (by omega),if_neg (by omega)]
theorem pI (b:UInt8) (s:ByteArray):(⟨#[b]⟩++s:ByteArray).size=1+s.size:=by rw [ByteArray.size_append];rfl
theorem E8 {r:aX} (h:bC r=true):gD (dX (bY r) 32)=r:=by
 have hs:=dh _ _ (gu h)
 obtain ⟨hk,hv⟩:=tt h
 generalize ht:dX (bY r) 32=t at hs
 have hb : ∀ i,bt t i=if i<(bY r).size then bt (bY r) i else 0:=fun i=>by rw [← ht,I4]
 clear ht
 obtain ⟨kind,ep,key,value⟩:=r
 unfold bC at h
 unfold gD
 simp only at h hk hv
 split at h
 ·
  rename_i h0
  subst h0
  simp only [Bool.and_eq_true,oM,decide_eq_true_eq] at h
  obtain ⟨⟨⟨e0,e1⟩,hkey⟩,hval⟩:=h
  have hh:bY ⟨0,ep,key,value⟩=⟨#[72]⟩++lQ ep.toNat:=by unfold bY;rw [if_pos rfl]
  rw [hh] at hb
  have hsz:(⟨#[72]⟩++lQ ep.toNat:ByteArray).size=5:=by rw [pI];rfl
  rw [hsz] at hb
  have b0:bt t 0=72:=by rw [hb 0,kE];rfl
  rw [if_pos ((rk t 72 (by omega)).2 b0),mI hkey,mI hval]
  have hn:jt (t.extract 1 32)=ep.toNat:=Lk _ (by omega) _ fun i hi=>by
   rw [fI _ _ _ _ (by omega) (by omega),hb,kE,if_pos (by omega),if_neg (by omega),Nat.add_sub_cancel_left]
  rw [hn,Int.toNat_of_nonneg (by omega)]
 ·
  rename_i h0
  split at h
  ·
   rename_i h1
   subst h1
   simp only [Bool.and_eq_true,AQ,decide_eq_true_eq] at h
   obtain ⟨⟨rfl,k1,_⟩,_⟩:=h
   have hh:bY ⟨1,0,key,value⟩=dX (⟨#[82]⟩++headText ⟨1,0,key,value⟩) 10++value:=by unfold bY;rw [if_neg (show ¬ (1:Int)=0 by decide),if_pos rfl]
   have hp:(dX (⟨#[82]⟩++headText ⟨1,0,key,value⟩) 10).size=10:=dh _ _ (by rw [pI,tg];show 1+(3+key.size)≤10;omega)
   have hsz:(bY ⟨1,0,key,value⟩).size=10+value.size:=by rw [hh,ByteArray.size_append,hp]
   have hf : ∀ i,i<4+key.size→bt t i=bt (⟨#[82]⟩++headText ⟨1,0,key,value⟩) i:=fun i hi=>by
    rw [hb,if_pos (by omega),hh,qu,hp,if_pos (by omega),I4,if_pos (by rw [pI,tg];show i<1+(3+key.size);omega)]
   have b0:bt t 0=82:=by rw [hf 0 (by omega),kE];rfl
   have b1:(bt t 1).toNat=key.size:=by rw [hf 1 (by omega),kE,if_neg (by omega),ry,if_pos rfl];exact lG (by show key.size<256;omega)
   have b2:(bt t 2).toNat=value.size:=by rw [hf 2 (by omega),kE,if_neg (by omega),ry,if_neg (by omega),if_pos rfl];exact lG (by show value.size<256;omega)
   rw [if_neg (by rw [rk t 72 (by omega),b0];decide),if_pos ((rk t 82 (by omega)).2 b0),b1,b2,Nat.min_eq_left (by omega),Nat.min_eq_left (by omega)]
   have ek:t.extract 4 (4+key.size)=key:=fH (by rw [ig _ _ _ (by omega)];omega) fun i hi=>by
    rw [ig _ _ _ (by omega)] at hi
    rw [fI _ _ _ _ (by omega) (by omega),hf _ (by omega),kE,if_neg (by omega),ry,if_neg (by omega),if_neg (by omega),if_neg (by omega)]
    show bt key _=_
    congr 1
    omega
   have ev:t.extract 10 (10+value.size)=value:=fH (by rw [ig _ _ _ (by omega)];omega) fun i hi=>by
    rw [ig _ _ _ (by omega)] at hi
    rw [fI _ _ _ _ (by omega) (by omega),hb,if_pos (by omega),hh,qu,hp,if_neg (by omega),Nat.add_sub_cancel_left]
   rw [ek,ev]
  ·
   rename_i h1
   split at h
   ·
    rename_i h2
    subst h2
    simp only [Bool.and_eq_true,AQ,decide_eq_true_eq] at h
    obtain ⟨⟨rfl,k1,_⟩,hval⟩:=h
    obtain rfl:=mI hval
    have hh:bY ⟨2,0,key,⟨#[]⟩⟩=⟨#[84]⟩++headText ⟨2,0,key,⟨#[]⟩⟩:=by unfold bY;rw [if_neg (show ¬ (2:Int)=0 by decide),if_neg (show ¬ (2:Int)=1 by decide)]
    have hsz:(bY ⟨2,0,key,⟨#[]⟩⟩).size=4+key.size:=by rw [hh,pI,tg];show 1+(3+key.size)=_;omega
    have hf : ∀ i,i<4+key.size→bt t i=bt (⟨#[84]⟩++headText ⟨2,0,key,⟨#[]⟩⟩) i:=fun i hi=>by
     rw [hb,if_pos (by omega),hh]
    have b0:bt t 0=84:=by rw [hf 0 (by omega),kE];rfl
    have b1:(bt t 1).toNat=key.size:=by rw [hf 1 (by omega),kE,if_neg (by omega),ry,if_pos rfl];exact lG (by show key.size<256;omega)
    rw [if_neg (by rw [rk t 72 (by omega),b0];decide),if_neg (by rw [rk t 82 (by omega),b0];decide),b1,Nat.min_eq_left (by omega)]
    have ek:t.extract 4 (4+key.size)=key:=fH (by rw [ig _ _ _ (by omega)];omega) fun i hi=>by
     rw [ig _ _ _ (by omega)] at hi
     rw [fI _ _ _ _ (by omega) (by omega),hf _ (by omega),kE,if_neg (by omega),ry,if_neg (by omega),if_neg (by omega),if_neg (by omega)]
     show bt key _=_
     congr 1
     omega
    rw [ek]
   ·
    cases h
theorem jL {r:aX} (h:bC r=true):dJ (aL r)=some r:=by
 have hs:=dh _ _ (gu h)
 unfold dJ aL
 rw [CW _ hs]
 show (if iD (gD (dX (bY r) 32))=some _ then some (gD (dX (bY r) 32)) else none)=some r
 rw [E8 h]
 unfold iD aL
 rw [if_pos h,if_pos rfl]
end
section
theorem oP (n:Nat):(sL n).size=n:=by show (Array.replicate n (255:UInt8)).size=n;simp
theorem s9 (n i:Nat) (h:i<n):bt (sL n) i=255:=by
 show (Array.replicate n (255:UInt8)).getD i 0=255
 rw [Array.getD_eq_getD_getElem?,Array.getElem?_replicate,if_pos h]
 rfl
theorem Gs (t:ByteArray):jG t=decide (t=sL t.size):=jz _ _
theorem mC {t:ByteArray} (h:t.size=64):jG t=true ↔ t=sL 64:=by rw [Gs,h,decide_eq_true_iff]
theorem nJ:dJ (sL 64)=none:=by
 cases h:dJ (sL 64) with
 | none=>rfl
 | some r =>
  obtain ⟨hm,he⟩:=tG h
  have hs:=dh _ _ (gu hm)
  have h1:=(ir (dX (bY r) 32) 0).1 (by omega)
  have h2:=(ir (dX (bY r) 32) 0).2 (by omega)
  rw [hs,show dy (dX (bY r) 32)=sL 64 from he.symm,s9 _ _ (by omega)] at h2
  rw [show dy (dX (bY r) 32)=sL 64 from he.symm,s9 _ _ (by omega)] at h1
  rw [← h1] at h2
  exact absurd h2 (by decide)
theorem pC {r:aX} (h:bC r=true):aL r≠sL 64:=fun e=>by
 have:=jL h
 rw [e,nJ] at this
 cases this
def iT (x:ByteArray) (j:Nat):ByteArray:=mk 512 fun i=>bt x (j * 512+i)
def dq (x:ByteArray) (j i:Nat):ByteArray:=mk 64 fun k=>bt x (j * 512+i * 64+k)
theorem gN (x:ByteArray) (j i:Nat):(dq x j i).size=64:=eJ _ _
theorem pw (x:ByteArray) (j i k:Nat) (h:k<64):bt (dq x j i) k=bt x (j * 512+i * 64+k):=lR _ _ _ h
theorem je (x:ByteArray) (j i:Nat) (hi:i<8):dR (iT x j) i=dq x j i:=by
 have hs:(iT x j).size=512:=eJ _ _
 refine fH (by rw [nS hs i hi,gN]) fun k hk => ?_
 rw [nS hs i hi] at hk
 unfold dR
 rw [fI _ _ _ _ (by omega) (by omega),pw _ _ _ _ hk]
 unfold iT
 rw [lR _ _ _ (by omega),Nat.add_assoc]
def dt (x:ByteArray) (j:Nat):bB:=iM (iT x j)
theorem pq {s u:ByteArray} : ∀ k,(∀ i,1≤i→i≤k→dR s i=dR u i)→bw s k=bw u k
 | 0,_=>rfl
 | k+1,h=>by
  show bw s k++eA s (k+1)=bw u k++eA u (k+1)
  rw [pq k fun i h1 h2=>h i h1 (by omega)]
  unfold eA
  rw [h (k+1) (by omega) (by omega)]
theorem pn {s u:ByteArray} : ∀ k,(∀ i,1≤i→i≤k→dR s i=dR u i)→bT s k=bT u k
 | 0,_=>rfl
 | k+1,h=>by
  show (if jG (dR s (k+1))=true then bT s k else _)=(if jG (dR u (k+1))=true then bT u k else _)
  rw [pn k fun i h1 h2=>h i h1 (by omega),h (k+1) (by omega) (by omega)]
theorem xH {s u:ByteArray} (h:dR s 0=dR u 0):cG s=cG u:=by unfold cG;rw [h]
theorem yy {s:ByteArray} {i:Nat} (h:dR s i=sL 64):eA s i=[]:=by
 unfold eA
 rw [h,nJ]
theorem jx {s:ByteArray} {a:Nat} : ∀ b,a≤b→(∀ i,a<i→i≤b→dR s i=sL 64)→bw s b=bw s a
 | 0,h,_=>by obtain rfl:a=0:=(by omega);rfl
 | b+1,h,k=>by
  by_cases e:a=b+1
  ·
   rw [e]
  ·
   show bw s b++eA s (b+1)=_
   rw [yy (k (b+1) (by omega) zY),List.append_nil]
   exact jx b (by omega) fun i h1 h2=>k i h1 (by omega)
theorem jw {s:ByteArray} {a:Nat} : ∀ b,a≤b→(∀ i,a<i→i≤b→dR s i=sL 64)→bT s b=bT s a
 | 0,h,_=>by obtain rfl:a=0:=(by omega);rfl
 | b+1,h,k=>by
  by_cases e:a=b+1
  ·
   rw [e]
  ·
   show (if jG (dR s (b+1))=true then bT s b else _)=_
   rw [k (b+1) (by omega) zY,if_pos ((mC (oP 64)).2 rfl)]
   exact jw b (by omega) fun i h1 h2=>k i h1 (by omega)
theorem wU {s:ByteArray} (hs:s.size=512) : ∀ k,k≤7 → ∀ i,1≤i→i≤k→bT s k≤(i:Int)→dR s i=sL 64
 | 0,_,i,h1,h2,_=>by omega
 | k+1,hk,i,h1,h2,h=>by
  have e:bT s (k+1)=if jG (dR s (k+1))=true then bT s k else ((k+2:Nat):Int):=rfl
  rw [e] at h
  split at h
  ·
   rename_i hb
   by_cases e:i=k+1
   ·
    rw [e];exact (mC (nS hs _ (by omega))).1 hb
   ·
    exact wU hs k (by omega) i h1 (by omega) h
  ·
   omega
def sP (t:ByteArray) (E:Int):Prop := ∀ u r,IL t u→dJ u=some r→r.kind=0→r.an<E
theorem sP.mono {t:ByteArray} {E E':Int} (h:sP t E) (k:E≤E'):sP t E':=fun u r h1 h2 h3=>by have:=h u r h1 h2 h3;omega
theorem GI {r:aX} {E:Int} (hr:bC r=true) (h:r.an<E):sP (aL r) E:=fun u r' h1 h2 _=>by
 have:=Kn hr h1 h2
 rw [this,jL hr] at h2
 obtain rfl:r=r':=by simpa using h2
 exact h
theorem Im {u:ByteArray} (h:IL (sL 64) u):u=sL 64:=by
 refine fH (by rw [h.1]) fun i hi => ?_
 have hl:i<64:=by rw [h.1,oP] at hi;exact hi
 have h1:=h.2 i (by rw [oP];exact hl)
 rw [s9 _ _ hl] at h1 ⊢
 have h2:=Bi (bt u i)
 exact (F7 h1 (by
  rw [Fb]
  intro k hk ha
  simp only [show (~~~(255:UInt8))=0 by decide] at ha
  exact absurd ha (by simp))).symm
theorem D9 (E:Int):sP (sL 64) E:=fun u r h1 h2 _=>by
 rw [Im h1,nJ] at h2
 cases h2
def gm (x y:ByteArray) (p n:Nat):Prop:=y.size=x.size ∧ ∀ k,¬ (p≤k∧k<p+n)→bt y k=bt x k
theorem Bh (x:ByteArray) (p n:Nat) (f:Nat→UInt8→UInt8) (k:Nat) (hk:k<x.size):bt (lF x p n f) k=if p≤k∧k<p+n then f (k - p) (bt x k) else bt x k:=lR _ _ _ hk
theorem pU (x:ByteArray) (p n:Nat) (f:Nat→UInt8→UInt8):gm x (lF x p n f) p n:=by
 refine ⟨eJ _ _,fun k hk => ?_⟩
 by_cases h:k<x.size
 ·
  rw [Bh _ _ _ _ _ h,if_neg hk]
 ·
  rw [I3 x k (by omega),I3 (lF x p n f) k (by unfold lF;rw [eJ];omega)]
theorem gm.slot {x y:ByteArray} {sec slot j i:Nat} (h:gm x y (sec * 512+slot * 64) 64) (hs:slot<8) (hi:i<8) (hne : ¬ (j=sec∧i=slot)):dq y j i=dq x j i:=by
 unfold dq
 refine mk_congr fun k hk=>h.2 _ ?_
 omega
theorem gm.sec {x y:ByteArray} {sec j i:Nat} (h:gm x y (sec * 512) 512) (hi:i<8) (hne:j≠sec):dq y j i=dq x j i:=by
 unfold dq
 refine mk_congr fun k hk=>h.2 _ ?_
 omega
theorem gm.mono {x y:ByteArray} {p n p' n':Nat} (h:gm x y p n) (h1:p'≤p) (h2:p+n≤p'+n'):gm x y p' n':=⟨h.1,fun k hk=>h.2 k (by omega)⟩
theorem gm.trans {x y z:ByteArray} {p n:Nat} (h:gm x y p n) (k:gm y z p n):gm x z p n:=⟨k.1.trans h.1,fun i hi=>(k.2 i hi).trans (h.2 i hi)⟩
theorem gm.refl (x:ByteArray) (p n:Nat):gm x x p n:=⟨rfl,fun _ _=>rfl⟩
theorem ts (i:Nat):eD ⟨#[255]⟩ i=255:=by
 unfold eD
 show (if (1:Nat)=0 then 0 else bt ⟨#[255]⟩ (i % 1))=255
 rw [if_neg (by decide),Nat.mod_one]
 rfl
theorem zE {x:ByteArray} {sec slot:Nat} (hx:x.size=4096) (h1:sec<8) (h2:slot<8) {s:ByteArray} {o:Nat} (ho:o=0∨o=32) (mask:ByteArray) (k:Nat) (hk:k<64):bt (jC x (sec * 512+slot * 64+o:Nat) mask s) (sec * 512+slot * 64+k)=if o≤k∧k<o+32 then iH mask s (k - o) (bt x (sec * 512+slot * 64+k)) else bt x (sec * 512+slot * 64+k):=by
 unfold jC
 rw [Int.toNat_natCast,Bh _ _ _ _ _ (by omega)]
 by_cases h:o≤k∧k<o+32
 ·
  rw [if_pos (by omega),if_pos h]
  congr 1
  omega
 ·
  rw [if_neg (by omega),if_neg h]
theorem Af (sec slot:Nat):bZ sec slot=((sec * 512+slot * 64:Nat):Int):=by unfold bZ;omega
theorem xN (sec slot:Nat):bZ sec slot+32=((sec * 512+slot * 64+32:Nat):Int):=by unfold bZ;omega
theorem Hm {x:ByteArray} {sec slot o:Nat} (ho:o=0∨o=32) (mask s:ByteArray):gm x (jC x (sec * 512+slot * 64+o:Nat) mask s) (sec * 512+slot * 64) 64:=by
 unfold jC
 rw [Int.toNat_natCast]
 exact (pU _ _ _ _).mono (by omega) (by omega)
theorem EH {x:ByteArray} {sec slot:Nat} (mask s:ByteArray):gm x (jC x (sec * 512+slot * 64:Nat) mask s) (sec * 512+slot * 64) 64:=by
 unfold jC
 rw [Int.toNat_natCast]
 exact (pU _ _ _ _).mono zY (by omega)
theorem Hn (x:ByteArray) (p:Int) (mask s:ByteArray):(jC x p mask s).size=x.size:=by unfold jC lF;exact eJ _ _
theorem kX (x:ByteArray) (sec slot:Nat) (t:ByteArray):gm x (jq x (bZ sec slot) t) (sec * 512+slot * 64) 64:=by
 unfold jq
 rw [xN,Af]
 exact (EH _ _).trans (Hm (o:=32) (.inr rfl) _ _)
theorem nk {x:ByteArray} {sec slot:Nat} (hx:x.size=4096) (h1:sec<8) (h2:slot<8) {t:ByteArray} (ht:t.size=64) (hb:dq x sec slot=sL 64):dq (jq x (bZ sec slot) t) sec slot=t:=by
 refine fH (by rw [gN,ht]) fun k hk => ?_
 rw [gN] at hk
 have hb':bt x (sec * 512+slot * 64+k)=255:=by rw [← pw _ _ _ _ hk,hb,s9 _ _ hk]
 rw [pw _ _ _ _ hk]
 unfold jq
 rw [xN,Af,zE (by rw [Hn,hx]) h1 h2 (.inr rfl) _ k hk]
 have e:=zE (o:=0) hx h1 h2 (s:=t.extract 0 32) (.inl rfl) ⟨#[255]⟩ k hk
 rw [Nat.add_zero] at e
 rw [e,hb']
 unfold iH
 rw [ts,ts]
 by_cases hk2:k<32
 ·
  rw [if_neg (by omega),if_pos (by omega),Bi,fI _ _ _ _ (by omega) (by omega)]
  congr 1
  omega
 ·
  rw [if_pos (by omega),if_neg (by omega),Bi,fI _ _ _ _ (by omega) (by omega)]
  congr 1
  omega
theorem ui (x:ByteArray) (sec:Nat) (mask:ByteArray):gm x (erased x (sec * 512:Nat) mask) (sec * 512) 512:=by
 unfold erased
 rw [Int.toNat_natCast]
 exact pU _ _ _ _
theorem wP {x:ByteArray} {sec i:Nat} (hx:x.size=4096) (h1:sec<8) (hi:i<8):dq (erased x (sec * 512:Nat) ⟨#[255]⟩) sec i=sL 64:=by
 refine fH (by rw [gN,oP]) fun k hk => ?_
 rw [gN] at hk
 rw [pw _ _ _ _ hk,s9 _ _ hk]
 unfold erased
 rw [Int.toNat_natCast,Bh _ _ _ _ _ (by omega),if_pos (by omega)]
 unfold iU
 rw [ts,Fc]
end
end Go.Proofs.YtcfdenckiigdaaaGreat

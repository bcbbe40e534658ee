/- Part 37 of the contracts. -/
import Derived.Test.YtcfdenckiigdaaaGreatKp36
set_option linter.unusedVariables false
set_option maxRecDepth 100000
set_option maxHeartbeats 4000000
namespace Go.Proofs.YtcfdenckiigdaaaGreat
section
def qbY (x:ByteArray) (p:Int) (mask:ByteArray):ByteArray:=turn x p.toNat 512 (wipeAt mask)
theorem qe3 {x img:ByteArray} (h:Has x img) (p:Int) (hp:2048≤p) (mask:ByteArray):Has (qbY x p mask) img:=by
 refine ⟨by unfold qbY turn;rw [qbr];exact h.size,fun i hi => ?_⟩
 unfold qbY turn
 rw [qgj _ _ _ (by rw [h.size];omega),if_neg (by omega)]
 exact h.same i hi
theorem Calm.held {m:Ctl} {x:ByteArray} (h:Calm m x):Held m m.chip.core:=⟨h.rests,h.works,h.prot,h.quad,fun j e=>by rw [show m.chip.core.job=none from h.job] at e;cases e⟩
theorem Calm.of_held {m m':Ctl} {x:ByteArray} (h:Calm m x) {g:Bool} (k:Held m' { m.chip.core with goes:=g }):Calm m' x:=Calm.of k.rests h.cells h.prot h.quad h.job h.busy
theorem Calm.may {m:Ctl} {x:ByteArray} (h:Calm m x) : ∀ y,m.chip.core.May y→y=x:=fun y hy=>by
 unfold Core.May at hy
 rw [show m.chip.core.job=none from h.job] at hy
 exact hy.trans h.cells
theorem qlY {m:Ctl} {x img:ByteArray} (h:Calm m x) (hx:Has x img) (p:Int) (h0:2048≤p) (h1:p<4096) (hp:p % 512=0) (reads:List Int) (hr : ∀ y ∈ reads,0≤y∧y<2048):qcQ m (wipeR m p reads).2.2.2 (wipeR m p reads).1 (Calm (wipeR m p reads).1 (qbY x p ⟨#[255]⟩)∧(wipeR m p reads).2.1.Good∧(wipeR m p reads).2.1.Tells img∧(wipeR m p reads).2.2.1=reads.map (qfL img)) (fun y=>y=x ∨ ∃ mask,y=qbY x p mask):=by
 have k6:=qbZ (b:=6) (at_:=0) (ys:=[]) (read:=0) h.rests (by decide) h.leave (qty (c:={ m.chip.core with goes:=false }) rfl h.works) rfl
 unfold wipeR
 rcases qf2 h k6 with ⟨e1,e2,r,b⟩ | ⟨e1,e2,t,l⟩
 case inr =>
  have e:wipeW m p reads=((m.run 6 0 [] 0).1,Cache.new,reads,[],(m.run 6 0 [] 0).2.2):=by unfold wipeW;rw [if_pos (by rw [e1];decide)]
  rw [e,if_pos (by show (m.run 6 0 [] 0).2.2≠0;rw [e1];decide)]
  exact .inr ⟨e1,t.mono fun y e=>.inl e,l⟩
 have k2:=qbZ (b:=32) (at_:=p) (ys:=[]) (read:=0) r (by decide) (by intro e;cases e) (qv7 (c:={ m.chip.core with goes:=false,en:=true }) p (by omega) h1 rfl h.job) (by rw [qfg rfl h0])
 rw [qfg rfl h0] at k2
 have hbusy:=qkh (show ∀ y ∈ ({ m.chip.core with goes:=false,en:=true }:Core).busy,1≤y∧y≤400 from h.busy)
 have hjc : ∀ l sp mask,jobCells ⟨p / 512,0,ByteArray.empty,l,sp⟩ m.chip.cells mask=qbY x p mask:=fun l sp mask=>by
  unfold jobCells qbY
  rw [if_neg (by show ¬ p / 512 = -1;omega),h.cells]
  congr 1
  show (p / 512).toNat * 512=_
  omega
 rcases k2 with ⟨f1,f2,g⟩ | ⟨f1,f2,r2,b2⟩
 ·
  have e:wipeW m p reads=(((m.run 6 0 [] 0).1.run 32 p [] 0).1,Cache.new,reads,[],((m.run 6 0 [] 0).1.run 32 p [] 0).2.2):=by unfold wipeW;rw [if_neg (by rw [e1];decide),if_pos (by rw [f1];decide)]
  rw [e,if_pos (by show ((m.run 6 0 [] 0).1.run 32 p [] 0).2.2≠0;rw [f1];decide)]
  exact qcQ.next b (.inr ⟨f1,(qeT g h.job h.prot h.quad).mono fun y e=>.inl (e.trans h.cells),g.left⟩)
 have e:wipeW m p reads=waitsR 256 ((m.run 6 0 [] 0).1.run 32 p [] 0).1 Cache.new reads []:=by unfold wipeW;rw [if_neg (by rw [e1];decide),if_neg (by rw [f1];decide)]
 rw [e]
 have hw:=qs1 (img:=img) 255 _ Cache.new reads [] _ r2 ⟨rfl,h.prot,h.quad,fun j hj=>by
  obtain rfl:(⟨p / 512,0,ByteArray.empty,m.chip.busy.headD 8,false⟩:Job)=j:=Option.some.inj hj
  exact ⟨rfl,hbusy.1,Int.le_trans hbusy.2 (by decide),by show p / 512 ≠ -1;omega⟩⟩ (show Has m.chip.cells img by rw [h.cells];exact hx) (fun j hj=>by
  obtain rfl:(⟨p / 512,0,ByteArray.empty,m.chip.busy.headD 8,false⟩:Job)=j:=Option.some.inj hj
  show 4≤p / 512;omega) Cache.new_good (qgl img) hr
 rcases hw with ⟨w1,⟨w2,w3,w4,l1,w5,w6⟩,b3⟩ | ⟨w1,t,l⟩
 ·
  rw [if_neg (by rw [w1];decide)]
  have hc:Calm (waitsR 256 ((m.run 6 0 [] 0).1.run 32 p [] 0).1 Cache.new reads []).1 (qbY x p ⟨#[255]⟩):=by
   refine Calm.of w2 ?_ h.prot h.quad rfl (fun y hy=>h.busy y (List.mem_of_mem_drop hy))
   rw [← hjc (m.chip.busy.headD 8) false]
   rfl
  have hx2:Has (waitsR 256 ((m.run 6 0 [] 0).1.run 32 p [] 0).1 Cache.new reads []).1.chip.core.cells img:=by
   show Has (waitsR 256 ((m.run 6 0 [] 0).1.run 32 p [] 0).1 Cache.new reads []).1.chip.cells img
   rw [hc.cells];exact qe3 hx p h0 _
  have k:=qli (waitsR 256 ((m.run 6 0 [] 0).1.run 32 p [] 0).1 Cache.new reads []).2.2.1 (waitsR 256 ((m.run 6 0 [] 0).1.run 32 p [] 0).1 Cache.new reads []).2.2.2.1 _ _ _ hc.held hx2 w3 w4 (fun y hy=>hr y (by rw [w5];exact List.mem_append_right _ hy))
  refine qcQ.next ((b.trans b2).trans b3) (k.mono (fun ⟨⟨g,a1⟩,a2,a3,a4⟩=>⟨hc.of_held a1,a2,a3,?_⟩) fun y hy=>.inr ⟨_,hc.may y hy⟩)
  rw [a4,w6,List.nil_append,← List.map_append,← w5]
 ·
  rw [if_pos (by rw [w1];decide)]
  refine qcQ.next (b.trans b2) (.inr ⟨w1,t.mono fun y hy => ?_,l⟩)
  obtain ⟨mask,hy⟩:=hy
  exact .inr ⟨mask,hy.trans (hjc _ _ _)⟩
theorem qrm {m:Ctl} {x img:ByteArray} {q:Cache} {at_ width:Int} (h:Calm m x) (hx:Has x img) (g:q.Good) (hq:q.Tells img) (hr:readGood at_ width=true):qcQ m (readR m q at_ width).2.2.2 (readR m q at_ width).1 (Calm (readR m q at_ width).1 x∧(readR m q at_ width).2.1.Good∧(readR m q at_ width).2.1.Tells img∧(readR m q at_ width).2.2.1=busVal img at_ width.toNat 0 0) (fun y=>y=x) :=
 (qlh h.held (show Has m.chip.cells img by rw [h.cells];exact hx) g hq hr).mono (fun ⟨⟨_,a1⟩,a2,a3,a4⟩=>⟨h.of_held a1,a2,a3,a4⟩) h.may
theorem qrn {m:Ctl} {x img:ByteArray} {q:Cache} (h:Calm m x) (hx:Has x img) (g:q.Good) (hq:q.Tells img) (l:List Int) (hl : ∀ y ∈ l,0≤y∧y<2048):qcQ m (restR l [] m q).2.2.2 (restR l [] m q).1 (Calm (restR l [] m q).1 x∧(restR l [] m q).2.1.Good∧(restR l [] m q).2.1.Tells img∧(restR l [] m q).2.2.1=l.map (qfL img)) (fun y=>y=x) :=
 (qli l [] m q _ h.held (show Has m.chip.cells img by rw [h.cells];exact hx) g hq hl).mono (fun ⟨⟨_,a1⟩,a2,a3,a4⟩=>⟨h.of_held a1,a2,a3,a4⟩) h.may
theorem qfd {m:Ctl} {c:Core} {r:Ctl×List Int×Int} {xs:List Int} {c':Core} (h:qnf m c r xs c') (hl:m.left<0):r=(r.1,xs,0)∧qcs r.1 c'∧r.1.left<0:=by
 obtain ⟨a,b,d⟩:=r
 rcases h with ⟨_,_,g⟩ | ⟨e1,e2,r,b⟩
 ·
  have:=g.left;omega
 ·
  simp only at e1 e2
  subst e1 e2
  exact ⟨rfl,r,b hl⟩
theorem quI {m:Ctl} {c:Core} (h:qcs m c) (hg:c.goes=false) (hj:c.job=none) (hl:m.left<0):m.run 5 0 [] 1=((m.run 5 0 [] 1).1,[c.first],0)∧qcs (m.run 5 0 [] 1).1 c∧(m.run 5 0 [] 1).1.left<0:=by
 have hgo:({ c with goes:=false }:Core)=c:=by rw [← hg]
 have k:=qbZ (b:=5) (at_:=0) (ys:=[]) (read:=1) h (by decide) (by rw [hg];intro e;cases e) (qv8 rfl) (by rw [hgo,qa7 hj];exact hg)
 rw [hgo,qa7 hj,qa7 hj] at k
 exact qfd k hl
theorem qrK {m:Ctl} {c:Core} (h:qcs m c) (hg:c.goes=false) (hj:c.job=none) (hl:m.left<0):m.run 53 0 [] 1=((m.run 53 0 [] 1).1,[c.second],0)∧qcs (m.run 53 0 [] 1).1 c∧(m.run 53 0 [] 1).1.left<0:=by
 have hgo:({ c with goes:=false }:Core)=c:=by rw [← hg]
 have k:=qbZ (b:=53) (at_:=0) (ys:=[]) (read:=1) h (by decide) (by rw [hg];intro e;cases e) (qv9 rfl) (by rw [hgo,qa7 hj];exact hg)
 rw [hgo,qa7 hj,qa7 hj] at k
 exact qfd k hl
theorem qsH {m:Ctl} {x:ByteArray} {b:List Int} (h:qcs m ⟨x,false,false,false,false,none,b⟩) (hl:m.left<0) : ∃ m1 m2 m3 m4,qvW m m1 m2 m3 m4 53 2 5 4 0 0∧qcs m4 ⟨x,false,true,false,false,none,b⟩∧m4.left<0:=by
 obtain ⟨e1,r1,l1⟩:=qrK h rfl rfl hl
 obtain ⟨e2,r2,l2⟩:=quI r1 rfl rfl l1
 obtain ⟨e3,r3,l3⟩:=qfd (qbZ (b:=6) (at_:=0) (ys:=[]) (read:=0) r2 (by decide) (by intro e;cases e) (qty rfl rfl) rfl) l2
 obtain ⟨e4,r4,l4⟩:=qfd (qbZ (b:=1) (at_:=0) (ys:=[0,2]) (read:=0) r3 (by decide) (by intro e;cases e) (qv6 0 2 (by decide) (by decide) rfl rfl rfl) rfl) l3
 refine ⟨_,_,_,_,⟨e1,by decide,e2,e3,?_,by decide,.inr rfl,.inl rfl,by decide⟩,?_,l4⟩
 ·
  exact e4
 ·
  exact r4
theorem qsG {m:Ctl} {x:ByteArray} {b:List Int} (h:qcs m ⟨x,false,true,false,false,none,b⟩) (hl:m.left<0) : ∃ m1 m2 m3 m4,qvW m m1 m2 m3 m4 5 4 53 2 0 2∧qcs m4 ⟨x,true,true,false,false,none,b⟩∧m4.left<0:=by
 obtain ⟨e1,r1,l1⟩:=quI h rfl rfl hl
 obtain ⟨e2,r2,l2⟩:=qrK r1 rfl rfl l1
 obtain ⟨e3,r3,l3⟩:=qfd (qbZ (b:=6) (at_:=0) (ys:=[]) (read:=0) r2 (by decide) (by intro e;cases e) (qty rfl rfl) rfl) l2
 obtain ⟨e4,r4,l4⟩:=qfd (qbZ (b:=1) (at_:=0) (ys:=[4,2]) (read:=0) r3 (by decide) (by intro e;cases e) (qv6 4 2 (by decide) (by decide) rfl rfl rfl) rfl) l3
 refine ⟨_,_,_,_,⟨e1,by decide,e2,e3,?_,by decide,.inl rfl,.inr rfl,by decide⟩,?_,l4⟩
 ·
  exact e4
 ·
  exact r4
end
section
theorem qjs (a:UInt8):a &&& ~~~a=0:=by
 rw [← UInt8.toBitVec_inj];simp
theorem qkG (a b:UInt8):a &&& ~~~b=0 ↔ ∀ i,i<8→a.toBitVec.getLsbD i=true→b.toBitVec.getLsbD i=true:=by
 rw [← UInt8.toBitVec_inj]
 constructor
 ·
  intro h i hi ha
  have:=congrArg (fun x=>BitVec.getLsbD x i) h
  simp [ha,hi] at this
  exact this
 ·
  intro h
  apply BitVec.eq_of_getLsbD_eq
  intro i hi
  have:=h i hi
  cases ha:a.toBitVec.getLsbD i
  ·
   simp [ha]
  ·
   simp [ha,this ha]
theorem qsX {a b:UInt8} (h:a &&& ~~~b=0) (k : ~~~a &&& ~~~(~~~b)=0):a=b:=by
 rw [qkG] at h k
 rw [← UInt8.toBitVec_inj]
 apply BitVec.eq_of_getLsbD_eq
 intro i hi
 have h1:=h i hi
 have h2:=k i hi
 cases ha:a.toBitVec.getLsbD i <;> cases hb:b.toBitVec.getLsbD i <;> simp_all
theorem qm3 {a b c:UInt8} (h:a &&& ~~~b=0) (k:b &&& ~~~c=0):a &&& ~~~c=0:=by
 rw [qkG] at *
 exact fun i hi ha=>k i hi (h i hi ha)
theorem qsZ (a m:UInt8):a &&& ~~~(a ||| m)=0:=by
 rw [qkG];intro i hi ha;simp [ha]
theorem qvT (m d:UInt8):d &&& ~~~((255:UInt8) &&& ~~~(m &&& ~~~d))=0:=by
 rw [qkG];intro i hi ha;simp [ha,hi]
 have:(255#8).getLsbD i=true:=by
  match i,hi with
  | 0,_=>decide
  | 1,_=>decide
  | 2,_=>decide
  | 3,_=>decide
  | 4,_=>decide
  | 5,_=>decide
  | 6,_=>decide
  | 7,_=>decide
 exact this
theorem qlz (d:UInt8):(255:UInt8) &&& ~~~((255:UInt8) &&& ~~~d)=d:=by
 have e : ∀ x:UInt8,(255:UInt8) &&& x=x:=fun x=>by
  rw [← UInt8.toBitVec_inj]
  exact BitVec.allOnes_and
 rw [e,e];simp
theorem qqS (a:UInt8):a ||| 255=255:=by
 rw [← UInt8.toBitVec_inj]
 exact BitVec.or_allOnes
theorem qib (a b:ByteArray) (i:Nat):bt (a++b) i=if i<a.size then bt a i else bt b (i - a.size):=by
 unfold bt
 rw [Array.getD_eq_getD_getElem?,Array.getD_eq_getD_getElem?,Array.getD_eq_getD_getElem?,ByteArray.data_append,Array.getElem?_append]
 show (if i<a.size then _ else _:Option UInt8).getD 0=_
 split <;> rfl
theorem quG (a:ByteArray) (i:Nat) (h:a.size≤i):bt a i=0:=by
 unfold bt
 rw [Array.getD_eq_getD_getElem?,Array.getElem?_eq_none h]
 rfl
theorem qa9 (a:ByteArray) (p q i:Nat) (h:i<q - p) (hq:q≤a.size):bt (a.extract p q) i=bt a (p+i):=by
 unfold bt
 rw [Array.getD_eq_getD_getElem?,Array.getD_eq_getD_getElem?,ByteArray.data_extract,Array.getElem?_extract]
 have:a.data.size=a.size:=rfl
 rw [if_pos (by omega)]
theorem qcg (a:ByteArray) (p q:Nat) (hq:q≤a.size):(a.extract p q).size=q - p:=by
 rw [ByteArray.size_extract];omega
theorem qca (s:ByteArray) (i:Nat):(i<s.size→bt (qaU s) i=bt s i)∧(i<s.size→bt (qaU s) (s.size+i) = ~~~(bt s i)):=by
 have hs:s.data.toList.length=s.size:=by rw [Array.length_toList];rfl
 have e : ∀ j,bt (qaU s) j=((s.data.toList++s.data.toList.map fun x => ~~~x)[j]?).getD 0:=fun j=>by
  unfold bt qaU
  rw [Array.getD_eq_getD_getElem?,List.getElem?_toArray]
 constructor
 ·
  intro h
  rw [e,List.getElem?_append_left (by omega)]
  unfold bt
  rw [Array.getD_eq_getD_getElem?,Array.getElem?_toList]
 ·
  intro h
  rw [e,List.getElem?_append_right (by omega),hs,Nat.add_sub_cancel_left,List.getElem?_map]
  unfold bt
  rw [Array.getD_eq_getD_getElem?,Array.getElem?_toList]
  have h':i<s.data.size:=h
  rw [Array.getElem?_eq_getElem h']
  rfl
theorem qso (s:ByteArray) (hs:s.size=32):(qaU s).extract 0 32=s:=by
 have h64:(qaU s).size=64:=by rw [qbg,hs]
 refine qbN (by rw [qcg _ _ _ (by omega),hs]) fun i hi => ?_
 rw [qcg _ _ _ (by omega)] at hi
 rw [qa9 _ _ _ _ hi (by omega),Nat.zero_add]
 exact (qca s i).1 (by omega)
theorem qnZ (s:ByteArray) (hs:s.size=32):qbx (qaU s)=some s:=by
 unfold qbx
 rw [qso s hs,if_pos ⟨by rw [qbg,hs],rfl⟩]
theorem qjb {u:ByteArray} {r:qaC} (h:qa1 u=some r):qap r=true∧u=recText r:=by
 unfold qa1 at h
 split at h
 ·
  cases h
 ·
  rename_i t ht
  split at h
  ·
   rename_i hp
   obtain rfl:takenR t=r:=by simpa using h
   unfold qcz at hp
   split at hp
   ·
    rename_i hm
    exact ⟨hm,by simpa using hp.symm⟩
   ·
    cases hp
  ·
   cases h
def Sup (t u:ByteArray):Prop:=u.size=t.size ∧ ∀ i,i<t.size→bt t i &&& ~~~(bt u i)=0
theorem Sup.refl (t:ByteArray):Sup t t:=⟨rfl,fun _ _=>qjs _⟩
theorem Sup.trans {a b c:ByteArray} (h:Sup a b) (k:Sup b c):Sup a c:=⟨k.1.trans h.1,fun i hi=>qm3 (h.2 i hi) (k.2 i (by rw [h.1];exact hi))⟩
theorem qun {s s':ByteArray} (hs:s.size=32) (hs':s'.size=32) (h:Sup (qaU s) (qaU s')):s=s':=by
 have h64:(qaU s).size=64:=by rw [qbg,hs]
 refine qbN (by rw [hs,hs']) fun i hi => ?_
 have h1:=h.2 i (by omega)
 have h2:=h.2 (32+i) (by omega)
 rw [(qca s i).1 hi,(qca s' i).1 (by omega)] at h1
 have e1:=(qca s i).2 hi
 have e2:=(qca s' i).2 (by omega)
 rw [hs] at e1
 rw [hs'] at e2
 rw [e1,e2] at h2
 exact qsX h1 h2
theorem qaV (r:qaC) (h:qap r=true):(recText r).size=64:=by
 unfold recText
 rw [qbg,qaO _ _ (qbO h)]
theorem qlD {r r':qaC} {u:ByteArray} (hr:qap r=true) (h:Sup (recText r) u) (hu:qa1 u=some r'):u=recText r:=by
 obtain ⟨h1,h2⟩:=qjb hu
 rw [h2] at h ⊢
 unfold recText at h ⊢
 rw [qun (qaO _ _ (qbO hr)) (qaO _ _ (qbO h1)) h]
theorem quK (l:Array UInt8) (i:Nat):bt ⟨l⟩ i=l.getD i 0:=rfl
theorem qeB {s:ByteArray} (h:qeA s=true):s=⟨#[]⟩:=qbN (qdc h) fun i hi=>by rw [qdc h] at hi;omega
theorem quH (s:ByteArray) (n i:Nat):bt (padText s n) i=if i<s.size then bt s i else 0:=by
 unfold padText
 rw [qib]
 split
 ·
  rfl
 ·
  rw [quK,Array.getD_eq_getD_getElem?,Array.getElem?_replicate]
  split <;> rfl
theorem qvB (x:Nat) (h:x<4294967296) (s:ByteArray) (hs : ∀ i,i<4→bt s i=bt (qez x) i):qdd s=x:=by
 unfold qdd
 rw [hs 0 (by omega),hs 1 (by omega),hs 2 (by omega),hs 3 (by omega)]
 unfold qez
 simp only [quK]
 show (UInt8.ofNat x).toNat+256 * (UInt8.ofNat (x / 256)).toNat+65536 * (UInt8.ofNat (x / 65536)).toNat+16777216 * (UInt8.ofNat (x / 16777216)).toNat=x
 simp only [UInt8.toNat_ofNat']
 omega
theorem qiA (s:ByteArray) (b:UInt8) (h:1≤s.size):s.extract 0 1=⟨#[b]⟩ ↔ bt s 0=b:=by
 constructor
 ·
  intro e
  have:=congrArg (fun t=>bt t 0) e
  simp only [qa9 s 0 1 0 (by omega) h] at this
  exact this
 ·
  intro e
  refine qbN (by rw [qcg _ _ _ h];rfl) fun i hi => ?_
  rw [qcg _ _ _ h] at hi
  obtain rfl:i=0:=by omega
  rw [qa9 s 0 1 0 (by omega) h]
  exact e
theorem qdv {n:Nat} (h:n<256):(UInt8.ofNat n).toNat=n:=by rw [UInt8.toNat_ofNat'];exact Nat.mod_eq_of_lt h
theorem qiJ (r:qaC) (i:Nat):bt (headText r) i=if i=0 then UInt8.ofNat r.key.size else if i=1 then UInt8.ofNat r.value.size else if i=2 then 0 else bt r.key (i - 3):=by
 unfold headText
 rw [qib]
 show (if i<3 then _ else bt r.key (i - 3))=_
 match i with
 | 0=>rfl
 | 1=>rfl
 | 2=>rfl
 | i+3=>rw [if_neg (by omega),if_neg (by omega),if_neg (by omega),if_neg (by omega)]
theorem qiK (r:qaC):(headText r).size=3+r.key.size:=by unfold headText;rw [ByteArray.size_append];rfl
theorem qdW (b:UInt8) (s:ByteArray) (i:Nat):bt (⟨#[b]⟩++s) i=if i=0 then b else bt s (i - 1):=by
 rw [qib]
 show (if i<1 then _ else bt s (i - 1))=_
 match i with
 | 0=>rfl
 | i+1=>rw [if_neg (by omega),if_neg (by omega)]
theorem qf6 (b:UInt8) (s:ByteArray):(⟨#[b]⟩++s:ByteArray).size=1+s.size:=by rw [ByteArray.size_append];rfl
theorem qqQ {r:qaC} (h:qap r=true):takenR (padText (halfText r) 32)=r:=by
 have hs:=qaO _ _ (qbO h)
 obtain ⟨hk,hv⟩:=qiX h
 generalize ht:padText (halfText r) 32=t at hs
 have hb : ∀ i,bt t i=if i<(halfText r).size then bt (halfText r) i else 0:=fun i=>by rw [← ht,quH]
 clear ht
 obtain ⟨kind,ep,key,value⟩:=r
 unfold qap at h
 unfold takenR
 simp only at h hk hv
 split at h
 ·
  rename_i h0
  subst h0
  simp only [Bool.and_eq_true,qhi,decide_eq_true_eq] at h
  obtain ⟨⟨⟨e0,e1⟩,hkey⟩,hval⟩:=h
  have hh:halfText ⟨0,ep,key,value⟩=⟨#[72]⟩++qez ep.toNat:=by unfold halfText;rw [if_pos rfl]
  rw [hh] at hb
  have hsz:(⟨#[72]⟩++qez ep.toNat:ByteArray).size=5:=by rw [qf6];rfl
  rw [hsz] at hb
  have b0:bt t 0=72:=by rw [hb 0,qdW];rfl
  rw [if_pos ((qiA t 72 (by omega)).2 b0),qeB hkey,qeB hval]
  have hn:qdd (t.extract 1 32)=ep.toNat:=qvB _ (by omega) _ fun i hi=>by
   rw [qa9 _ _ _ _ (by omega) (by omega),hb,qdW,if_pos (by omega),if_neg (by omega),Nat.add_sub_cancel_left]
  rw [hn,Int.toNat_of_nonneg (by omega)]
 ·
  rename_i h0
  split at h
  ·
   rename_i h1
   subst h1
   simp only [Bool.and_eq_true,qtO,decide_eq_true_eq] at h
   obtain ⟨⟨rfl,k1,_⟩,_⟩:=h
   have hh:halfText ⟨1,0,key,value⟩=padText (⟨#[82]⟩++headText ⟨1,0,key,value⟩) 10++value:=by unfold halfText;rw [if_neg (show ¬ (1:Int)=0 by decide),if_pos rfl]
   have hp:(padText (⟨#[82]⟩++headText ⟨1,0,key,value⟩) 10).size=10:=qaO _ _ (by rw [qf6,qiK];show 1+(3+key.size)≤10;omega)
   have hsz:(halfText ⟨1,0,key,value⟩).size=10+value.size:=by rw [hh,ByteArray.size_append,hp]
   have hf : ∀ i,i<4+key.size→bt t i=bt (⟨#[82]⟩++headText ⟨1,0,key,value⟩) i:=fun i hi=>by
    rw [hb,if_pos (by omega),hh,qib,hp,if_pos (by omega),quH,if_pos (by rw [qf6,qiK];show i<1+(3+key.size);omega)]
   have b0:bt t 0=82:=by rw [hf 0 (by omega),qdW];rfl
   have b1:(bt t 1).toNat=key.size:=by rw [hf 1 (by omega),qdW,if_neg (by omega),qiJ,if_pos rfl];exact qdv (by show key.size<256;omega)
   have b2:(bt t 2).toNat=value.size:=by rw [hf 2 (by omega),qdW,if_neg (by omega),qiJ,if_neg (by omega),if_pos rfl];exact qdv (by show value.size<256;omega)
   rw [if_neg (by rw [qiA t 72 (by omega),b0];decide),if_pos ((qiA t 82 (by omega)).2 b0),b1,b2,Nat.min_eq_left (by omega),Nat.min_eq_left (by omega)]
   have ek:t.extract 4 (4+key.size)=key:=qbN (by rw [qcg _ _ _ (by omega)];omega) fun i hi=>by
    rw [qcg _ _ _ (by omega)] at hi
    rw [qa9 _ _ _ _ (by omega) (by omega),hf _ (by omega),qdW,if_neg (by omega),qiJ,if_neg (by omega),if_neg (by omega),if_neg (by omega)]
    show bt key _=_
    congr 1
    omega
   have ev:t.extract 10 (10+value.size)=value:=qbN (by rw [qcg _ _ _ (by omega)];omega) fun i hi=>by
    rw [qcg _ _ _ (by omega)] at hi
    rw [qa9 _ _ _ _ (by omega) (by omega),hb,if_pos (by omega),hh,qib,hp,if_neg (by omega),Nat.add_sub_cancel_left]
   rw [ek,ev]
  ·
   rename_i h1
   split at h
   ·
    rename_i h2
    subst h2
    simp only [Bool.and_eq_true,qtO,decide_eq_true_eq] at h
    obtain ⟨⟨rfl,k1,_⟩,hval⟩:=h
    obtain rfl:=qeB hval
    have hh:halfText ⟨2,0,key,⟨#[]⟩⟩=⟨#[84]⟩++headText ⟨2,0,key,⟨#[]⟩⟩:=by unfold halfText;rw [if_neg (show ¬ (2:Int)=0 by decide),if_neg (show ¬ (2:Int)=1 by decide)]
    have hsz:(halfText ⟨2,0,key,⟨#[]⟩⟩).size=4+key.size:=by rw [hh,qf6,qiK];show 1+(3+key.size)=_;omega
    have hf : ∀ i,i<4+key.size→bt t i=bt (⟨#[84]⟩++headText ⟨2,0,key,⟨#[]⟩⟩) i:=fun i hi=>by
     rw [hb,if_pos (by omega),hh]
    have b0:bt t 0=84:=by rw [hf 0 (by omega),qdW];rfl
    have b1:(bt t 1).toNat=key.size:=by rw [hf 1 (by omega),qdW,if_neg (by omega),qiJ,if_pos rfl];exact qdv (by show key.size<256;omega)
    rw [if_neg (by rw [qiA t 72 (by omega),b0];decide),if_neg (by rw [qiA t 82 (by omega),b0];decide),b1,Nat.min_eq_left (by omega)]
    have ek:t.extract 4 (4+key.size)=key:=qbN (by rw [qcg _ _ _ (by omega)];omega) fun i hi=>by
     rw [qcg _ _ _ (by omega)] at hi
     rw [qa9 _ _ _ _ (by omega) (by omega),hf _ (by omega),qdW,if_neg (by omega),qiJ,if_neg (by omega),if_neg (by omega),if_neg (by omega)]
     show bt key _=_
     congr 1
     omega
    rw [ek]
   ·
    cases h
theorem qcy {r:qaC} (h:qap r=true):qa1 (recText r)=some r:=by
 have hs:=qaO _ _ (qbO h)
 unfold qa1 recText
 rw [qnZ _ hs]
 show (if qcz (takenR (padText (halfText r) 32))=some _ then some (takenR (padText (halfText r) 32)) else none)=some r
 rw [qqQ h]
 unfold qcz recText
 rw [if_pos h,if_pos rfl]
end
section
theorem qf7 (n:Nat):(ffs n).size=n:=by show (Array.replicate n (255:UInt8)).size=n;simp
theorem qhj (n i:Nat) (h:i<n):bt (ffs n) i=255:=by
 show (Array.replicate n (255:UInt8)).getD i 0=255
 rw [Array.getD_eq_getD_getElem?,Array.getElem?_replicate,if_pos h]
 rfl
theorem qrg (t:ByteArray):qdF t=decide (t=ffs t.size):=qcZ _ _
theorem qeq {t:ByteArray} (h:t.size=64):qdF t=true ↔ t=ffs 64:=by rw [qrg,h,decide_eq_true_iff]
theorem qeK:qa1 (ffs 64)=none:=by
 cases h:qa1 (ffs 64) with
 | none=>rfl
 | some r =>
  obtain ⟨hm,he⟩:=qjb h
  have hs:=qaO _ _ (qbO hm)
  have h1:=(qca (padText (halfText r) 32) 0).1 (by omega)
  have h2:=(qca (padText (halfText r) 32) 0).2 (by omega)
  rw [hs,show qaU (padText (halfText r) 32)=ffs 64 from he.symm,qhj _ _ (by omega)] at h2
  rw [show qaU (padText (halfText r) 32)=ffs 64 from he.symm,qhj _ _ (by omega)] at h1
  rw [← h1] at h2
  exact absurd h2 (by decide)
theorem qdw {r:qaC} (h:qap r=true):recText r≠ffs 64:=fun e=>by
 have:=qcy h
 rw [e,qeK] at this
 cases this
def qeP (x:ByteArray) (j:Nat):ByteArray:=mk 512 fun i=>bt x (j * 512+i)
def qaM (x:ByteArray) (j i:Nat):ByteArray:=mk 64 fun k=>bt x (j * 512+i * 64+k)
theorem qaS (x:ByteArray) (j i:Nat):(qaM x j i).size=64:=qbr _ _
theorem qcG (x:ByteArray) (j i k:Nat) (h:k<64):bt (qaM x j i) k=bt x (j * 512+i * 64+k):=qgj _ _ _ h
theorem qbF (x:ByteArray) (j i:Nat) (hi:i<8):qbo (qeP x j) i=qaM x j i:=by
 have hs:(qeP x j).size=512:=qbr _ _
 refine qbN (by rw [qff hs i hi,qaS]) fun k hk => ?_
 rw [qff hs i hi] at hk
 unfold qbo
 rw [qa9 _ _ _ _ (by omega) (by omega),qcG _ _ _ _ hk]
 unfold qeP
 rw [qgj _ _ _ (by omega),Nat.add_assoc]
def qa8 (x:ByteArray) (j:Nat):qau:=scanR (qeP x j)
theorem qdu {s u:ByteArray} : ∀ k,(∀ i,1≤i→i≤k→qbo s i=qbo u i)→scanRecs s k=scanRecs u k
 | 0,_=>rfl
 | k+1,h=>by
  show scanRecs s k++qa5 s (k+1)=scanRecs u k++qa5 u (k+1)
  rw [qdu k fun i h1 h2=>h i h1 (by omega)]
  unfold qa5
  rw [h (k+1) (by omega) (by omega)]
theorem qdt {s u:ByteArray} : ∀ k,(∀ i,1≤i→i≤k→qbo s i=qbo u i)→qav s k=qav u k
 | 0,_=>rfl
 | k+1,h=>by
  show (if qdF (qbo s (k+1))=true then qav s k else _)=(if qdF (qbo u (k+1))=true then qav u k else _)
  rw [qdt k fun i h1 h2=>h i h1 (by omega),h (k+1) (by omega) (by omega)]
theorem qfu {s u:ByteArray} (h:qbo s 0=qbo u 0):qaE s=qaE u:=by unfold qaE;rw [h]
theorem qqH {s u:ByteArray} (h : ∀ i,i<8→qbo s i=qbo u i):scanR s=scanR u:=by
 unfold scanR
 rw [qfu (h 0 (by omega)),qdu 7 fun i _ h2=>h i (by omega),qdt 7 fun i _ h2=>h i (by omega)]
theorem qkH {x y:ByteArray} {j:Nat} (h : ∀ i,i<8→qaM x j i=qaM y j i):qa8 x j=qa8 y j :=
 qqH fun i hi=>by rw [qbF _ _ _ hi,qbF _ _ _ hi,h i hi]
theorem qls {s:ByteArray} {i:Nat} (h:qbo s i=ffs 64):qa5 s i=[]:=by
 unfold qa5
 rw [h,qeK]
theorem qcF {s:ByteArray} {a:Nat} : ∀ b,a≤b→(∀ i,a<i→i≤b→qbo s i=ffs 64)→scanRecs s b=scanRecs s a
 | 0,h,_=>by obtain rfl:a=0:=(by omega);rfl
 | b+1,h,k=>by
  by_cases e:a=b+1
  ·
   rw [e]
  ·
   show scanRecs s b++qa5 s (b+1)=_
   rw [qls (k (b+1) (by omega) (Nat.le_refl _)),List.append_nil]
   exact qcF b (by omega) fun i h1 h2=>k i h1 (by omega)
theorem qcE {s:ByteArray} {a:Nat} : ∀ b,a≤b→(∀ i,a<i→i≤b→qbo s i=ffs 64)→qav s b=qav s a
 | 0,h,_=>by obtain rfl:a=0:=(by omega);rfl
 | b+1,h,k=>by
  by_cases e:a=b+1
  ·
   rw [e]
  ·
   show (if qdF (qbo s (b+1))=true then qav s b else _)=_
   rw [k (b+1) (by omega) (Nat.le_refl _),if_pos ((qeq (qf7 64)).2 rfl)]
   exact qcE b (by omega) fun i h1 h2=>k i h1 (by omega)
theorem qkg {s:ByteArray} (hs:s.size=512) : ∀ k,k≤7 → ∀ i,1≤i→i≤k→qav s k≤(i:Int)→qbo s i=ffs 64
 | 0,_,i,h1,h2,_=>by omega
 | k+1,hk,i,h1,h2,h=>by
  have e:qav s (k+1)=if qdF (qbo s (k+1))=true then qav s k else ((k+2:Nat):Int):=rfl
  rw [e] at h
  split at h
  ·
   rename_i hb
   by_cases e:i=k+1
   ·
    rw [e];exact (qeq (qff hs _ (by omega))).1 hb
   ·
    exact qkg hs k (by omega) i h1 (by omega) h
  ·
   omega
def Dead (t:ByteArray) (E:Int):Prop := ∀ u r,Sup t u→qa1 u=some r→r.kind=0→r.epoch<E
theorem Dead.mono {t:ByteArray} {E E':Int} (h:Dead t E) (k:E≤E'):Dead t E':=fun u r h1 h2 h3=>by have:=h u r h1 h2 h3;omega
theorem Dead.sup {t u:ByteArray} {E:Int} (h:Dead t E) (k:Sup t u):Dead u E:=fun v r h1 h2 h3=>h v r (k.trans h1) h2 h3
theorem qru {r:qaC} {E:Int} (hr:qap r=true) (h:r.epoch<E):Dead (recText r) E:=fun u r' h1 h2 _=>by
 have:=qlD hr h1 h2
 rw [this,qcy hr] at h2
 obtain rfl:r=r':=by simpa using h2
 exact h
theorem qsN {u:ByteArray} (h:Sup (ffs 64) u):u=ffs 64:=by
 refine qbN (by rw [h.1]) fun i hi => ?_
 have hl:i<64:=by rw [h.1,qf7] at hi;exact hi
 have h1:=h.2 i (by rw [qf7];exact hl)
 rw [qhj _ _ hl] at h1 ⊢
 have h2:=qlz (bt u i)
 exact (qsX h1 (by
  rw [qkG]
  intro k hk ha
  simp only [show (~~~(255:UInt8))=0 by decide] at ha
  exact absurd ha (by simp))).symm
theorem qgO (E:Int):Dead (ffs 64) E:=fun u r h1 h2 _=>by
 rw [qsN h1,qeK] at h2
 cases h2
theorem qrt {r:qaC} {t:ByteArray} (hr:qap r=true) (h:Sup (recText r) t) (hne:t≠recText r) (E:Int):Dead t E:=fun u r' h1 h2 _=>by
 exfalso
 have e:=qlD hr (h.trans h1) h2
 rw [e] at h1
 refine hne (qbN (by rw [h.1]) fun i hi => ?_)
 have a:=h.2 i (by rw [← h.1];exact hi)
 have b:=h1.2 i hi
 rw [qkG] at a b
 rw [← UInt8.toBitVec_inj]
 apply BitVec.eq_of_getLsbD_eq
 intro k hk
 have a:=a k hk
 have b:=b k hk
 cases ha:(bt t i).toBitVec.getLsbD k <;> cases hb:(bt (recText r) i).toBitVec.getLsbD k <;> simp_all
def qbW (x y:ByteArray) (p n:Nat):Prop:=y.size=x.size ∧ ∀ k,¬ (p≤k∧k<p+n)→bt y k=bt x k
theorem qly (x:ByteArray) (p n:Nat) (f:Nat→UInt8→UInt8) (k:Nat) (hk:k<x.size):bt (turn x p n f) k=if p≤k∧k<p+n then f (k - p) (bt x k) else bt x k:=qgj _ _ _ hk
theorem qgw (x:ByteArray) (p n:Nat) (f:Nat→UInt8→UInt8):qbW x (turn x p n f) p n:=by
 refine ⟨qbr _ _,fun k hk => ?_⟩
 by_cases h:k<x.size
 ·
  rw [qly _ _ _ _ _ h,if_neg hk]
 ·
  rw [quG x k (by omega),quG (turn x p n f) k (by unfold turn;rw [qbr];omega)]
theorem qbW.slot {x y:ByteArray} {sec slot j i:Nat} (h:qbW x y (sec * 512+slot * 64) 64) (hs:slot<8) (hi:i<8) (hne : ¬ (j=sec∧i=slot)):qaM y j i=qaM x j i:=by
 unfold qaM
 refine qo6 fun k hk=>h.2 _ ?_
 omega
theorem qbW.sec {x y:ByteArray} {sec j i:Nat} (h:qbW x y (sec * 512) 512) (hi:i<8) (hne:j≠sec):qaM y j i=qaM x j i:=by
 unfold qaM
 refine qo6 fun k hk=>h.2 _ ?_
 omega
theorem qbW.mono {x y:ByteArray} {p n p' n':Nat} (h:qbW x y p n) (h1:p'≤p) (h2:p+n≤p'+n'):qbW x y p' n':=⟨h.1,fun k hk=>h.2 k (by omega)⟩
theorem qbW.trans {x y z:ByteArray} {p n:Nat} (h:qbW x y p n) (k:qbW y z p n):qbW x z p n:=⟨k.1.trans h.1,fun i hi=>(k.2 i hi).trans (h.2 i hi)⟩
theorem qbW.refl (x:ByteArray) (p n:Nat):qbW x x p n:=⟨rfl,fun _ _=>rfl⟩
theorem qgi (i:Nat):maskAt ⟨#[255]⟩ i=255:=by
 unfold maskAt
 show (if (1:Nat)=0 then 0 else bt ⟨#[255]⟩ (i % 1))=255
 rw [if_neg (by decide),Nat.mod_one]
 rfl
theorem qgo {x:ByteArray} {sec slot:Nat} (hx:x.size=4096) (h1:sec<8) (h2:slot<8) {s:ByteArray} {o:Nat} (ho:o=0∨o=32) (mask:ByteArray) (k:Nat) (hk:k<64):bt (qeh x (sec * 512+slot * 64+o:Nat) mask s) (sec * 512+slot * 64+k)=if o≤k∧k<o+32 then progAt mask s (k - o) (bt x (sec * 512+slot * 64+k)) else bt x (sec * 512+slot * 64+k):=by
 unfold qeh
 rw [Int.toNat_natCast,qly _ _ _ _ _ (by omega)]
 by_cases h:o≤k∧k<o+32
 ·
  rw [if_pos (by omega),if_pos h]
  congr 1
  omega
 ·
  rw [if_neg (by omega),if_neg h]
theorem qgv (sec slot:Nat):slotP sec slot=((sec * 512+slot * 64:Nat):Int):=by unfold slotP;omega
theorem qg6 (sec slot:Nat):slotP sec slot+32=((sec * 512+slot * 64+32:Nat):Int):=by unfold slotP;omega
theorem qmD {x:ByteArray} {sec slot o:Nat} (ho:o=0∨o=32) (mask s:ByteArray):qbW x (qeh x (sec * 512+slot * 64+o:Nat) mask s) (sec * 512+slot * 64) 64:=by
 unfold qeh
 rw [Int.toNat_natCast]
 exact (qgw _ _ _ _).mono (by omega) (by omega)
theorem qg0 {x:ByteArray} {sec slot:Nat} (mask s:ByteArray):qbW x (qeh x (sec * 512+slot * 64:Nat) mask s) (sec * 512+slot * 64) 64:=by
 unfold qeh
 rw [Int.toNat_natCast]
 exact (qgw _ _ _ _).mono (Nat.le_refl _) (by omega)
theorem qmE (x:ByteArray) (p:Int) (mask s:ByteArray):(qeh x p mask s).size=x.size:=by unfold qeh turn;exact qbr _ _
theorem qc0 (x:ByteArray) (sec slot:Nat) (t:ByteArray):qbW x (burnt x (slotP sec slot) t) (sec * 512+slot * 64) 64:=by
 unfold burnt
 rw [qg6,qgv]
 exact (qg0 _ _).trans (qmD (o:=32) (.inr rfl) _ _)
theorem qeZ {x:ByteArray} {sec slot:Nat} (hx:x.size=4096) (h1:sec<8) (h2:slot<8) {t:ByteArray} (ht:t.size=64) (hb:qaM x sec slot=ffs 64):qaM (burnt x (slotP sec slot) t) sec slot=t:=by
 refine qbN (by rw [qaS,ht]) fun k hk => ?_
 rw [qaS] at hk
 have hb':bt x (sec * 512+slot * 64+k)=255:=by rw [← qcG _ _ _ _ hk,hb,qhj _ _ hk]
 rw [qcG _ _ _ _ hk]
 unfold burnt
 rw [qg6,qgv,qgo (by rw [qmE,hx]) h1 h2 (.inr rfl) _ k hk]
 have e:=qgo (o:=0) hx h1 h2 (s:=t.extract 0 32) (.inl rfl) ⟨#[255]⟩ k hk
 rw [Nat.add_zero] at e
 rw [e,hb']
 unfold progAt
 rw [qgi,qgi]
 by_cases hk2:k<32
 ·
  rw [if_neg (by omega),if_pos (by omega),qlz,qa9 _ _ _ _ (by omega) (by omega)]
  congr 1
  omega
 ·
  rw [if_pos (by omega),if_neg (by omega),qlz,qa9 _ _ _ _ (by omega) (by omega)]
  congr 1
  omega
theorem qjr (m d:UInt8):d &&& ~~~((255:UInt8) &&& ~~~(m &&& ~~~d))=0:=qvT m d
theorem quQ (d:UInt8):d &&& ~~~(255:UInt8)=0:=by
 rw [show (~~~(255:UInt8))=0 by decide]
 simp
theorem qi4 {x y:ByteArray} {sec slot:Nat} (hx:x.size=4096) (h1:sec<8) (h2:slot<8) {t:ByteArray} (ht:t.size=64) (hb:qaM x sec slot=ffs 64) (h:qdx x (slotP sec slot) t y):qbW x y (sec * 512+slot * 64) 64∧Sup t (qaM y sec slot):=by
 have hbk : ∀ k,k<64→bt x (sec * 512+slot * 64+k)=255:=fun k hk=>by rw [← qcG _ _ _ _ hk,hb,qhj _ _ hk]
 have e0:=fun m k hk=>qgo (o:=0) hx h1 h2 (s:=t.extract 0 32) (.inl rfl) m k hk
 simp only [Nat.add_zero] at e0
 rcases h with rfl | ⟨mask,rfl⟩ | ⟨mask,rfl⟩
 ·
  refine ⟨qbW.refl _ _ _,by rw [qaS,ht],fun k hk => ?_⟩
  rw [hb,qhj _ _ (by omega)]
  exact quQ _
 ·
  rw [qgv]
  refine ⟨qg0 _ _,by rw [qaS,ht],fun k hk => ?_⟩
  rw [ht] at hk
  rw [qcG _ _ _ _ hk,e0 _ _ hk,hbk k hk]
  unfold progAt
  split
  ·
   rw [qa9 _ _ _ _ (by omega) (by omega),show 0+(k - 0)=k by omega]
   exact qjr _ _
  ·
   exact quQ _
 ·
  rw [qg6,qgv]
  refine ⟨(qg0 _ _).trans (qmD (o:=32) (.inr rfl) _ _),by rw [qaS,ht],fun k hk => ?_⟩
  rw [ht] at hk
  rw [qcG _ _ _ _ hk,qgo (by rw [qmE,hx]) h1 h2 (.inr rfl) _ k hk,e0 _ _ hk,hbk k hk]
  unfold progAt
  rw [qgi]
  by_cases hk2:k<32
  ·
   rw [if_neg (by omega),if_pos (by omega),qlz,qa9 _ _ _ _ (by omega) (by omega),show 0+(k - 0)=k by omega]
   exact qjs _
  ·
   rw [if_pos (by omega),if_neg (by omega),qa9 _ _ _ _ (by omega) (by omega),show 32+(k - 32)=k by omega]
   exact qjr _ _
theorem qdY (x:ByteArray) (sec:Nat) (mask:ByteArray):qbW x (qbY x (sec * 512:Nat) mask) (sec * 512) 512:=by
 unfold qbY
 rw [Int.toNat_natCast]
 exact qgw _ _ _ _
theorem qnA {x:ByteArray} {sec i:Nat} (hx:x.size=4096) (h1:sec<8) (hi:i<8) (mask:ByteArray):Sup (qaM x sec i) (qaM (qbY x (sec * 512:Nat) mask) sec i):=by
 refine ⟨by rw [qaS,qaS],fun k hk => ?_⟩
 rw [qaS] at hk
 rw [qcG _ _ _ _ hk,qcG _ _ _ _ hk]
 unfold qbY
 rw [Int.toNat_natCast,qly _ _ _ _ _ (by omega),if_pos (by omega)]
 exact qsZ _ _
theorem qgQ {x:ByteArray} {sec i:Nat} (hx:x.size=4096) (h1:sec<8) (hi:i<8):qaM (qbY x (sec * 512:Nat) ⟨#[255]⟩) sec i=ffs 64:=by
 refine qbN (by rw [qaS,qf7]) fun k hk => ?_
 rw [qaS] at hk
 rw [qcG _ _ _ _ hk,qhj _ _ hk]
 unfold qbY
 rw [Int.toNat_natCast,qly _ _ _ _ _ (by omega),if_pos (by omega)]
 unfold wipeAt
 rw [qgi,qqS]
end
end Go.Proofs.YtcfdenckiigdaaaGreat

/- Part 47 of the contracts. -/
import Derived.Test.YtcfdenckiigdaaaGreatKp46
set_option linter.unusedVariables false
set_option maxRecDepth 100000
set_option maxHeartbeats 4000000
namespace Go.Proofs.YtcfdenckiigdaaaGreat
section
theorem qii {x y:ByteArray} {sec:Nat} {V:qau} (h:Lay x sec V) {r:qaC} (hr:qcH r) (h0:(changeR V sec r).1=0) (hp:qeW x (changeR V sec r).2 y) : ∃ (sec':Nat) (V':qau),Lay y sec' V'∧(buildL V'.recs=buildL V.recs∨buildL V'.recs=withL (buildL V.recs) r)∧V'.epoch≤V.epoch+1:=by
 have vk:=h.vok
 have keep : ∀ z,Lay z sec V → ∃ (sec':Nat) (V':qau),Lay z sec' V'∧(buildL V'.recs=buildL V.recs∨buildL V'.recs=withL (buildL V.recs) r)∧V'.epoch≤V.epoch+1:=fun z hz=>⟨sec,V,hz,.inl rfl,by omega⟩
 obtain ⟨bs,bl⟩:=qaJ _ V.recs rfl vk.recs
 rcases hp with rfl | ⟨hw,mask,rfl⟩ | hp | rfl
 ·
  exact keep _ h
 ·
  revert h0 hw
  unfold changeR
  split
  ·
   intro h0;exact absurd h0 (show ¬ (2202:Int)=0 by decide)
  split
  ·
   intro h0;exact absurd h0 (show ¬ (2201:Int)=0 by decide)
  split
  ·
   intro _ hw;exact absurd hw (show ¬ (0:Int) ≤ -1 by decide)
  split
  ·
   intro h0;exact absurd h0 (show ¬ (2201:Int)=0 by decide)
  ·
   intro _ hw
   obtain ⟨j,hj,j4,j8,jne⟩:=qnT h.s0 h.s1
   show ∃ (sec':Nat) (V':qau),Lay (qbY x (nextS (sec:Int) * 512) mask) sec' V'∧_
   rw [hj,show ((j:Int) * 512)=((j * 512:Nat):Int) by omega]
   exact keep _ (qo2 h jne j8 mask)
 ·
  revert h0 hp
  unfold changeR
  split
  ·
   intro h0;exact absurd h0 (show ¬ (2202:Int)=0 by decide)
  split
  ·
   intro h0;exact absurd h0 (show ¬ (2201:Int)=0 by decide)
  rename_i hn1 hn2
  split
  ·
   rename_i hf
   intro _ hp
   obtain ⟨f,hfe⟩ : ∃ f:Nat,V.free=(f:Int):=⟨V.free.toNat,by have:=vk.free;omega⟩
   have hf1:1≤f:=by have:=vk.free;omega
   have hf8:f<8:=by omega
   have hp:qcc (sec:Int) [((f:Int),r)] x y:=by
    rw [← hfe]
    exact hp
   rw [qdq] at hp
   rcases hp with hp | hp
   ·
    obtain ⟨b0,_⟩:=qdN (x:=x) (y:=x) (sec:=sec) hf1 hf8 (by rw [h.view];exact hfe) (qbW.refl _ _ _)
    obtain ⟨hs,hsup⟩:=qi4 (slot:=f) h.size h.s1 hf8 (qaV _ hr.1) b0 hp
    rcases qtQ h hf1 hf8 hfe hs hr.1 hr.2 hsup with ⟨_,hl⟩ | hl | hl
    ·
     exact ⟨sec,_,hl,.inr (qdU _ _),by show V.epoch≤V.epoch+1;omega⟩
    ·
     exact ⟨sec,_,hl,.inl rfl,by show V.epoch≤V.epoch+1;omega⟩
    ·
     exact keep _ hl
   ·
    exact hp.elim
  split
  ·
   intro h0;exact absurd h0 (show ¬ (2201:Int)=0 by decide)
  ·
   rename_i hf he
   intro _ hp
   obtain ⟨j,hj,j4,j8,jne⟩:=qnT h.s0 h.s1
   have hso:=qdp bs hr
   generalize hps:withL (buildL V.recs) r=ps at *
   have hpk : ∀ p ∈ ps,qfk p:=by rw [← hps];exact qeb (qer vk.recs) hr
   have hm : ∀ q ∈ ps.map putRec,qap q=true∧q.kind≠0:=fun q hq=>by
    obtain ⟨p,hp,rfl⟩:=List.mem_map.1 hq
    exact ⟨hpk p hp,show (1:Int)≠0 by decide⟩
   have hbase:qb5 x (movedR (nextS sec) (V.epoch+1) ps)=qfV x (j:Int):=by
    unfold qb5
    show (if 0≤nextS (sec:Int) then qfV x (nextS (sec:Int)) else x)=_
    rw [hj,if_pos (by omega)]
   have hsame:=qdY x j ⟨#[255]⟩
   rw [hbase,qmw] at hp
   have hp:qcc (j:Int) (rowL 1 (ps.map putRec)++[(0,headRec (V.epoch+1))]) (qfV x (j:Int)) y:=by
    rw [← hj]
    rw [← hj] at hp
    exact hp
   rw [qjA] at hp
   have e0:1≤V.epoch+1:=by have:=vk.epoch;omega
   have e1:V.epoch+1≤1048576:=by omega
   have hb : ∀ i,i<8→qaM (qbY x (j * 512:Nat) ⟨#[255]⟩) j i=ffs 64:=fun i hi=>qgQ h.size j8 hi
   have hlen:(ps.map putRec).length≤7:=by rw [List.length_map];omega
   rcases qql jne j8 e0 e1 (ps.map putRec) 1 _ (qo2 h jne j8 _) (Nat.le_refl _) (by omega) (fun q hq=>(hm q hq).1) (hb 0 (by omega)) (fun i _ hi=>hb i hi) hp with hl | ⟨h1,h2⟩
   ·
    exact keep _ hl
   ·
    have hl:=qqm (by rw [hsame.1];exact h.size) j4 j8 e0 e1 hlen hm hb (fun i i4 i8 ine=>by
     rw [hsame.sec (by omega) ine]
     exact h.old i i4 i8) rfl h2 h1
    exact ⟨j,_,hl,.inr (qlP hso.1),Int.le_refl _⟩
 ·
  obtain ⟨s',V',h1,h2,h3,h4⟩:=qgN h hr h0
  exact ⟨s',V',h1,.inr h3,h4⟩
def qem (x:ByteArray) (ps:List qaq) (E:Int):Prop := ∃ (sec:Nat) (V:qau),Lay x sec V∧buildL V.recs=ps∧V.epoch≤E
def OpenAt (x:ByteArray) (S:qaf) (ps:List qaq) (E:Int):Prop := ∃ (sec:Nat) (V:qau),Lay x sec V∧buildL V.recs=ps∧V.epoch≤E∧S=⟨true,sec,V⟩
theorem OpenAt.kept {x:ByteArray} {S:qaf} {ps:List qaq} {E:Int} (h:OpenAt x S ps E):qem x ps E:=by
 obtain ⟨sec,V,h1,h2,h3,_⟩:=h
 exact ⟨sec,V,h1,h2,h3⟩
theorem OpenAt.fit {x:ByteArray} {S:qaf} {ps:List qaq} {E:Int} (h:OpenAt x S ps E):S.Fit:=by
 obtain ⟨sec,V,h1,h2,h3,rfl⟩:=h
 have:=h1.s0
 have:=h1.s1
 exact .inr ⟨rfl,show (4:Int)≤sec by omega,show (sec:Int)<8 by omega,h1.vok⟩
theorem qem.more {x:ByteArray} {ps:List qaq} {E E':Int} (h:qem x ps E) (k:E≤E'):qem x ps E':=by
 obtain ⟨sec,V,h1,h2,h3⟩:=h
 exact ⟨sec,V,h1,h2,by omega⟩
theorem OpenAt.more {x:ByteArray} {S:qaf} {ps:List qaq} {E E':Int} (h:OpenAt x S ps E) (k:E≤E'):OpenAt x S ps E':=by
 obtain ⟨sec,V,h1,h2,h3,h4⟩:=h
 exact ⟨sec,V,h1,h2,by omega,h4⟩
theorem qki {x:ByteArray} {ps:List qaq} {E:Int} (h:qem x ps E):(mountX x).2=0∧OpenAt x (mountX x).1 ps E:=by
 obtain ⟨sec,V,h1,h2,h3⟩:=h
 unfold mountX
 rw [qtP h1]
 exact ⟨rfl,sec,V,h1,h2,h3,rfl⟩
theorem qp7 {x:ByteArray} (hx:x.size=4096) {j:Nat} {E:Int} (j4:4≤j) (j8:j<8) (e0:1≤E) (e1:E≤1048576) (hd : ∀ i,4≤i→i<8→Dead (qaM x i 0) E):Lay (burnt (qfV x (j:Int)) (slotP (j:Int) 0) (recText (headRec E))) j ⟨true,E,[],1⟩:=by
 have hsame:=qdY x j ⟨#[255]⟩
 rw [qjA]
 exact qmv (rs:=[]) (by rw [hsame.1];exact hx) j4 j8 e0 e1 (by simp) (fun q hq=>by simp at hq) (fun i hi=>qgQ hx j8 hi) (fun i i4 i8 ine=>by
  rw [hsame.sec (by omega) ine]
  exact hd i i4 i8)
def qwr (ps:List qaq) (key value:ByteArray) (reads:List Int):Int :=
 if ¬ (1≤key.size∧key.size≤6) then 2300 else if 20<value.size then 2301 else if 7<(putL key value ps).length then 2304 else if readsOk reads=true then 0 else 1800
def qv5 (ps:List qaq) (key:ByteArray) (reads:List Int):Int :=
 if ¬ (1≤key.size∧key.size≤6) then 2300 else if (findL ps key).isSome=false then 2303 else if readsOk reads=true then 0 else 1800
theorem qvb (k:ByteArray) (ps:List qaq):(ql4 k ps).length≤ps.length:=List.length_filter_le _ _
theorem qkm {x img:ByteArray} {S:qaf} {ps:List qaq} {E:Int} (h:OpenAt x S ps E) (hE:E<1048576) (key value:ByteArray) (reads:List Int):(qwr ps key value reads≠0→qn6 x img S key value reads=(x,S,[],qwr ps key value reads))∧(qwr ps key value reads=0→OpenAt (qn6 x img S key value reads).1 (qn6 x img S key value reads).2.1 (putL key value ps) (E+1)∧(qn6 x img S key value reads).2.2=(reads.map (qfL img),0)):=by
 obtain ⟨sec,V,h1,h2,h3,rfl⟩:=h
 have vk:=h1.vok
 obtain ⟨bs,bl⟩:=qaJ _ V.recs rfl vk.recs
 rw [h2] at bs bl
 unfold qwr qn6 askedE
 rw [if_neg (show ¬ true=false by decide)]
 by_cases k1:1≤key.size∧key.size≤6
 ·
  rw [if_neg (not_not_intro k1),if_pos k1,if_neg (show ¬ (0:Int)≠0 by decide)]
  by_cases k2:20<value.size
  ·
   rw [if_pos k2,if_pos k2]
   exact ⟨fun _=>rfl,fun h=>absurd h (by decide)⟩
  ·
   rw [if_neg k2,if_neg k2]
   have hr:=qgq (value:=value) k1.1 k1.2 (by omega)
   have hw:withL (buildL V.recs) ⟨1,0,key,value⟩=putL key value ps:=by rw [h2];exact qeV key value 0 ps bs
   have c0:=fun h0=>qgN h1 hr h0
   have hc:(changeR V sec ⟨1,0,key,value⟩).1=if 7<(putL key value ps).length then 2201 else 0:=by
    unfold changeR
    rw [hw,if_neg (fun h=>absurd h.2 (show ¬ (1:Int)=2 by decide))]
    by_cases k3:7<(putL key value ps).length
    ·
     rw [if_pos k3,if_pos k3]
    ·
     rw [if_neg k3,if_neg k3]
     by_cases k4:V.free<8
     ·
      rw [if_pos k4]
     ·
      rw [if_neg k4,if_neg (by omega)]
   unfold qdr qqA
   rw [show (⟨true,(sec:Int),V⟩:qaf).view=V from rfl,show (⟨true,(sec:Int),V⟩:qaf).sector=(sec:Int) from rfl]
   generalize changeR V sec ⟨1,0,key,value⟩=c at c0 hc
   rw [hc]
   by_cases k3:7<(putL key value ps).length
   ·
    rw [if_pos k3,if_pos k3,if_neg (show ¬ (2201:Int)=2202 by decide),if_pos (show (2201:Int)≠0 by decide)]
    exact ⟨fun _=>rfl,fun h=>absurd h (by decide)⟩
   ·
    rw [if_neg k3,if_neg k3,if_neg (show ¬ (0:Int)=2202 by decide),if_neg (show ¬ (0:Int)≠0 by decide)]
    by_cases k4:readsOk reads=true
    ·
     rw [if_pos k4,if_pos k4]
     refine ⟨fun h=>absurd rfl h,fun _=>⟨?_,rfl⟩⟩
     obtain ⟨s',V',d1,d2,d3,d4⟩:=c0 (by rw [hc,if_neg k3])
     exact ⟨s',V',d1,d3.trans hw,by omega,d2⟩
    ·
     rw [if_neg k4,if_neg k4]
     exact ⟨fun _=>rfl,fun h=>absurd h (by decide)⟩
 ·
  rw [if_pos k1,if_neg k1,if_pos (show (2300:Int)≠0 by decide)]
  exact ⟨fun _=>rfl,fun h=>absurd h (by decide)⟩
theorem qqp {x img:ByteArray} {S:qaf} {ps:List qaq} {E:Int} (h:OpenAt x S ps E) (hE:E<1048576) (key:ByteArray) (reads:List Int):(qv5 ps key reads≠0→qrv x img S key reads=(x,S,[],qv5 ps key reads))∧(qv5 ps key reads=0→OpenAt (qrv x img S key reads).1 (qrv x img S key reads).2.1 (ql4 key ps) (E+1)∧(qrv x img S key reads).2.2=(reads.map (qfL img),0)):=by
 obtain ⟨sec,V,h1,h2,h3,rfl⟩:=h
 have vk:=h1.vok
 obtain ⟨bs,bl⟩:=qaJ _ V.recs rfl vk.recs
 rw [h2] at bs bl
 have vl:=vk.len
 unfold qv5 qrv askedE
 rw [if_neg (show ¬ true=false by decide)]
 by_cases k1:1≤key.size∧key.size≤6
 ·
  rw [if_neg (not_not_intro k1),if_pos k1,if_neg (show ¬ (0:Int)≠0 by decide)]
  have hr:=qit k1.1 k1.2
  have hw:withL (buildL V.recs) ⟨2,0,key,⟨#[]⟩⟩=ql4 key ps:=by rw [h2];exact qgB key ⟨#[]⟩ 0 ps bs
  have hdl:=qvb key ps
  have c0:=fun h0=>qgN h1 hr h0
  have hc:(changeR V sec ⟨2,0,key,⟨#[]⟩⟩).1=if (findL ps key).isSome=false then 2202 else 0:=by
   unfold changeR
   rw [hw,h2]
   by_cases k3:(findL ps key).isSome=false
   ·
    rw [if_pos ⟨k3,rfl⟩,if_pos k3]
   ·
    rw [if_neg (fun h=>k3 h.1),if_neg k3,if_neg (by omega)]
    by_cases k4:V.free<8
    ·
     rw [if_pos k4]
    ·
     rw [if_neg k4,if_neg (by omega)]
  unfold qdr qqA
  rw [show (⟨true,(sec:Int),V⟩:qaf).view=V from rfl,show (⟨true,(sec:Int),V⟩:qaf).sector=(sec:Int) from rfl]
  generalize changeR V sec ⟨2,0,key,⟨#[]⟩⟩=c at c0 hc
  rw [hc]
  by_cases k3:(findL ps key).isSome=false
  ·
   rw [if_pos k3,if_pos k3,if_pos (show (2202:Int)=2202 by decide)]
   exact ⟨fun _=>rfl,fun h=>absurd h (by decide)⟩
  ·
   rw [if_neg k3,if_neg k3,if_neg (show ¬ (0:Int)=2202 by decide),if_neg (show ¬ (0:Int)≠0 by decide)]
   by_cases k4:readsOk reads=true
   ·
    rw [if_pos k4,if_pos k4]
    refine ⟨fun h=>absurd rfl h,fun _=>⟨?_,rfl⟩⟩
    obtain ⟨s',V',d1,d2,d3,d4⟩:=c0 (by rw [hc,if_neg k3])
    exact ⟨s',V',d1,d3.trans hw,by omega,d2⟩
   ·
    rw [if_neg k4,if_neg k4]
    exact ⟨fun _=>rfl,fun h=>absurd h (by decide)⟩
 ·
  rw [if_pos k1,if_neg k1,if_pos (show (2300:Int)≠0 by decide)]
  exact ⟨fun _=>rfl,fun h=>absurd h (by decide)⟩
theorem qqq {x:ByteArray} {S:qaf} {ps:List qaq} {E:Int} (h:OpenAt x S ps E) (key:ByteArray):getR S key=if ¬ (1≤key.size∧key.size≤6) then (⟨#[]⟩,(2300:Int)) else match findL ps key with | none=>(⟨#[]⟩,(2303:Int)) | some v=>(v,(0:Int)):=by
 obtain ⟨sec,V,h1,h2,h3,rfl⟩:=h
 unfold getR askedE
 rw [if_neg (show ¬ true=false by decide)]
 by_cases k1:1≤key.size∧key.size≤6
 ·
  rw [if_neg (not_not_intro k1),if_pos k1,if_neg (show ¬ (0:Int)≠0 by decide)]
  show (match findL (buildL V.recs) key with | none=>_ | some v=>_)=_
  rw [h2]
 ·
  rw [if_pos k1,if_neg k1,if_pos (show (2300:Int)≠0 by decide)]
theorem quc {x y:ByteArray} {S:qaf} {ps:List qaq} {E:Int} (h:OpenAt x S ps E) {key value:ByteArray} (k:qne x S key value y):qem y ps (E+1)∨qem y (putL key value ps) (E+1):=by
 have hk:=h.kept.more (show E≤E+1 by omega)
 obtain ⟨sec,V,h1,h2,h3,rfl⟩:=h
 rcases k with rfl | ⟨h0,hv,rfl | ⟨c0,k⟩⟩
 ·
  exact .inl hk
 ·
  exact .inl hk
 ·
  obtain ⟨o1,o2,o3⟩:=qbe h0
  have vk:=h1.vok
  obtain ⟨bs,bl⟩:=qaJ _ V.recs rfl vk.recs
  rw [h2] at bs
  obtain ⟨s',V',d1,d2,d3⟩:=qii h1 (qgq (value:=value) o2 o3 hv) c0 k
  rw [h2,show withL ps ⟨1,0,key,value⟩=putL key value ps from qeV key value 0 ps bs] at d2
  rcases d2 with d2 | d2
  ·
   exact .inl ⟨s',V',d1,d2,by omega⟩
  ·
   exact .inr ⟨s',V',d1,d2,by omega⟩
theorem qtw {x y:ByteArray} {S:qaf} {ps:List qaq} {E:Int} (h:OpenAt x S ps E) {key:ByteArray} (k:qm9 x S key y):qem y ps (E+1)∨qem y (ql4 key ps) (E+1):=by
 have hk:=h.kept.more (show E≤E+1 by omega)
 obtain ⟨sec,V,h1,h2,h3,rfl⟩:=h
 rcases k with rfl | ⟨h0,rfl | ⟨c0,k⟩⟩
 ·
  exact .inl hk
 ·
  exact .inl hk
 ·
  obtain ⟨o1,o2,o3⟩:=qbe h0
  have vk:=h1.vok
  obtain ⟨bs,bl⟩:=qaJ _ V.recs rfl vk.recs
  rw [h2] at bs
  obtain ⟨s',V',d1,d2,d3⟩:=qii h1 (qit o2 o3) c0 k
  rw [h2,show withL ps ⟨2,0,key,⟨#[]⟩⟩=ql4 key ps from qgB key ⟨#[]⟩ 0 ps bs] at d2
  rcases d2 with d2 | d2
  ·
   exact .inl ⟨s',V',d1,d2,by omega⟩
  ·
   exact .inr ⟨s',V',d1,d2,by omega⟩
end
section
open Go.RowKit
theorem qsf (x:Int) (w:World):Calls Tryz.prog 13 #[.int .i64 x] w fun e w'=>e=.returned (.int .i64 x)∧w=w':=by
 go_enter Tryz.func13,Tryz.ntmps13
 go_wp2_with fail
 go_ret
 exact ⟨rfl,rfl⟩
instance :DecidableEq qaq:=fun a b=>decidable_of_iff (a.key=b.key∧a.value=b.value) (by cases a;cases b;simp)
def quU (b:Bool) (w:World) (e:Ending) (w':World):Prop:=e=.returned (.bool b)∧Below w.heap.size w w'
theorem qub {ps qs:List qaq} (hl:ps.length=qs.length) (h : ∀ j (h1:j<ps.length) (h2:j<qs.length),ps[j]=qs[j]):ps=qs:=List.ext_getElem hl fun i h1 h2=>h i h1 h2
theorem qlo (a1 a2:Option Addr) (c1 c2 m n:Nat) (w:World) (hl:m≠n):Calls Tryz.prog 22 #[.slice a1 m c1,.slice a2 n c2] w (quU false w):=by
 have g:((m:Int) != (n:Int))=true:=by simp;omega
 clear hl
 go_enter Tryz.func22,Tryz.ntmps22
 go_wp2
 go_ret
 exact ⟨rfl,Below.refl _ _⟩
theorem qeN (u v:Value) (ps qs:List qaq) (w:World) (h1:SliceAt w u ps.length 2 (pairVals ps)) (h2:SliceAt w v qs.length 2 (pairVals qs)) (hm:ps.length≤1000000):Calls Tryz.prog 22 #[u,v] w (quU (decide (ps=qs)) w):=by
 obtain ⟨a1,c1,rfl⟩:=h1.slice
 obtain ⟨a2,c2,rfl⟩:=h2.slice
 by_cases hl:ps.length=qs.length
 case neg =>
  have e:decide (ps=qs)=false:=by simp;intro h;exact hl (by rw [h])
  rw [e];exact qlo a1 a2 c1 c2 _ _ w hl
 have H1:=zH h1
 have H2:=zH h2
 have X1:=zH (fun i (hi:i<ps.length)=>qby ps i hi)
 have X2:=zH (fun i (hi:i<qs.length)=>qby qs i hi)
 have HL:=zH hl
 rw [← hl]
 clear hl h1 h2
 go_enter Tryz.func22,Tryz.ntmps22
 go_wp2
 go_loopg [5] ps.length (fun n i wr => ∃ k:Nat,n=ps.length - k∧k≤ps.length∧i=.int .i64 k∧Below w.heap.size w wr ∧ ∀ j (h1:j<ps.length) (h2:j<qs.length),j<k→ps[j]=qs[j])
 case atStart=>exact ⟨0,rfl,Nat.zero_le _,rfl,Below.refl _ _,fun j _ _ hj=>absurd hj (Nat.not_lt_zero _)⟩
 case round =>
  obtain ⟨k,hn,hk,rfl,hb,hsame⟩:=hrel
  have HB:=zH (zA hn (zA hb hsame))
  clear hn hb hsame
  by_cases hlt:k<ps.length
  ·
   have hlt':(k:Int)<(ps.length:Int):=by omega
   have hlq:k<qs.length:=by have:=HL.out;omega
   obtain ⟨b1,o1,rfl,hc1,hx1⟩:=H1.out.some (by omega)
   obtain ⟨b2,o2,rfl,hc2,hx2⟩:=H2.out.some (by omega)
   obtain ⟨p0,p1⟩:=X1.out k hlt
   obtain ⟨q0,q1⟩:=X2.out k hlq
   have cc1 : ∀ i u,(pairVals ps)[2 * k+i]? = some u→wr.cell? ⟨b1,o1+k * 2+i,none⟩=some u:=fun i u hu=>by
    have e:=hx1 _ _ hu
    rw [show o1+k * 2+i=o1+(2 * k+i) by omega]
    exact (HB.out.2.1.cell (p:=⟨b1,o1+(2 * k+i),none⟩) (World.block_lt_of_cell? w _ e)).trans e
   have cc2 : ∀ i u,(pairVals qs)[2 * k+i]? = some u→wr.cell? ⟨b2,o2+k * 2+i,none⟩=some u:=fun i u hu=>by
    have e:=hx2 _ _ hu
    rw [show o2+k * 2+i=o2+(2 * k+i) by omega]
    exact (HB.out.2.1.cell (p:=⟨b2,o2+(2 * k+i),none⟩) (World.block_lt_of_cell? w _ e)).trans e
   have c10:wr.cell? ⟨b1,o1+k * 2,none⟩=some (.string ps[k].key):=cc1 0 _ p0
   have c11:wr.cell? ⟨b1,o1+k * 2+1,none⟩=some (.string ps[k].value):=cc1 1 _ p1
   have c20:wr.cell? ⟨b2,o2+k * 2,none⟩=some (.string qs[k].key):=cc2 0 _ q0
   have c21:wr.cell? ⟨b2,o2+k * 2+1,none⟩=some (.string qs[k].value):=cc2 1 _ q1
   clear p0 p1 q0 q1 cc1 cc2 hx1 hx2
   generalize hp:ps[k]=p at *
   generalize hq:qs[k]=q at *
   have HP:=zH (zA hp hq)
   clear hp hq
   by_cases he:p=q
   ·
    have HE:=zH he
    have e1:(p.key.toList == q.key.toList)=true:=by rw [he];exact beq_self_eq_true _
    have e2:(p.value.toList == q.value.toList)=true:=by rw [he];exact beq_self_eq_true _
    clear he
    go_wp2_with fail
    go_quiet (fail)
    go_wp2_with fail
    go_roundg (ps.length - (k+1))
    case measure=>have:=HB.out.1;omega
    case rel =>
     refine ⟨k+1,rfl,by omega,by go_num,qao HB.out.2.1 nq,fun j g1 g2 hl => ?_⟩
     rcases Nat.lt_or_ge j k with h' | h'
     ·
      exact HB.out.2.2 j g1 g2 h'
     ·
      obtain rfl:j=k:=by omega
      rw [HP.out.1,HP.out.2,HE.out]
   ·
    have hf:decide (ps=qs)=false:=by
     simp only [decide_eq_false_iff_not]
     rintro rfl
     exact he (HP.out.1.symm.trans HP.out.2)
    have HF:=zH hf
    clear hf
    by_cases hk:p.key=q.key
    ·
     have e1:(p.key.toList == q.key.toList)=true:=by rw [hk];exact beq_self_eq_true _
     have e2:(p.value.toList == q.value.toList)=false:=by
      rw [qgU,decide_eq_false_iff_not]
      intro h
      exact he (by cases p;cases q;simp_all)
     clear he hk
     go_wp2_with fail
     go_quiet (fail)
     go_wp2_with fail
     go_ret
     exact ⟨by rw [HF.out];rfl,qao HB.out.2.1 nq⟩
    ·
     have e1:(p.key.toList == q.key.toList)=false:=by rw [qgU,decide_eq_false_iff_not];exact hk
     clear he hk
     go_wp2_with fail
     go_quiet (fail)
     go_wp2_with fail
     go_ret
     exact ⟨by rw [HF.out];rfl,qao HB.out.2.1 nq⟩
  ·
   obtain rfl:k=ps.length:=by omega
   have hf:decide (ps=qs)=true:=by simp;exact qub HL.out fun j g1 g2=>HB.out.2.2 j g1 g2 g1
   have HF:=zH hf
   clear hf
   go_wp2_with fail
   go_ret
   exact ⟨by rw [HF.out];rfl,HB.out.2.1⟩
end
section
open Go.RowKit
def imageT (t:ByteArray):ByteArray:=mk 2048 (maskAt t)
def imageL (t:ByteArray):List Int:=(List.range 2048).map fun i=>((maskAt t i).toNat:Int)
theorem qgT (t:ByteArray):(imageL t).length=2048:=by simp [imageL]
theorem qrU (t:ByteArray) (k:Nat) (h:k<2048):(imageL t).getD k 0=((maskAt t k).toNat:Int):=by
 simp [imageL,List.getD,h]
theorem qlT (x:UInt8):byteOf (x.toNat:Int)=x:=by
 have h:=x.toNat_lt
 unfold byteOf
 rw [show ((x.toNat:Int) % 256).toNat=x.toNat by omega]
 exact UInt8.ofNat_toNat
theorem qnH (t:ByteArray):textOf (imageL t)=imageT t:=by
 refine qbN ?_ fun i hi => ?_
 ·
  rw [qbl,qgT];exact (qbr _ _).symm
 ·
  rw [qbl,qgT] at hi
  rw [show bt (imageT t) i=maskAt t i from qgj _ _ _ hi]
  unfold textOf bytesOf imageL bt
  simp [hi,qlT]
theorem qqj {t:ByteArray} (h:0<t.size) (i:Nat):maskAt t i=bt t (i % t.size):=if_neg (by omega)
theorem qs3 (t:ByteArray) (h:t.size=0) (n:Nat) (w:World) (b:Nat) (hb:w.heap[b]? = some (.cells (madeCells #[.int .u8 0] n) 5 (0,0))):(convert 29 9 (.slice (some ⟨b,0,none⟩) n n)).run Tryz.prog w=.ok (.string (mk n (maskAt t))) w:=by
 have:=run_convert_bytes_back (P:=Tryz.prog) w 29 9 5 ⟨b,0,none⟩ n (List.replicate n 0) Tryz.underlying29 Tryz.underlying5 Tryz.underlying9 (fun j hj=>by
  rw [List.length_replicate] at hj
  rw [qaP,Nat.zero_add,qaa hb,qo5 _ _ _ hj]
  simp)
 rw [List.length_replicate] at this
 have e:(⟨(List.replicate n (0:UInt8)).toArray⟩:ByteArray)=mk n (maskAt t) := ?_
 rw [this,e]
 refine qbN ?_ fun i hi => ?_
 ·
  rw [qbr];simp [ByteArray.size]
 ·
  have hi:i<n:=by simpa [ByteArray.size] using hi
  rw [qgj _ _ _ hi]
  unfold maskAt bt
  rw [if_pos h]
  simp [hi]
theorem qrj {xs:List Int} {t:ByteArray} (h : ∀ k,k<2048→xs.getD k 0=((maskAt t k).toNat:Int)) (m:0<t.size → ∀ i,maskAt t i=bt t (i % t.size)) (hp:0<t.size) {k:Nat} (hk:k<2048):(byteOf (xs.getD k 0)).toNat=(bt t (k % t.size)).toNat:=by
 rw [h k hk,qlT,m hp]
theorem qjT (t:ByteArray) (w:World) (ht:t.size<140737488355328):Calls Tryz.prog 17 #[.string t] w (qcS (imageT t) w):=by
 have hmk : ∀ w,(Instr.makeSlice 29 (.int .i64 2048) (.int .i64 2048)).run Tryz.prog w=.ok (.slice (some ⟨w.heap.size,0,none⟩) 2048 2048) (w.alloc (.cells (madeCells #[.int .u8 0] 2048) 5)):=fun w=>run_make_row' (P:=Tryz.prog) 29 5 (.int .u8 0) 1 Tryz.underlying29 qew rfl .i64 .i64 2048 (by omega) (by omega) w
 have HI:=zH (fun w b h hb=>qs3 t h 2048 w b hb)
 have HT:=zH (qnH t)
 have HM:=zH (fun h i=>qqj (t:=t) h i)
 have HA:=zH (qrU t)
 have HL:=zH (qgT t)
 rw [show mk 2048 (maskAt t)=imageT t from rfl] at HI
 generalize imageT t=img at *
 generalize imageL t=xs at *
 go_enter Tryz.func17,Tryz.ntmps17
 go_upto_region 2 with fail
 have hs:=qbK.start (w:=w) 2048 xs
 have HS:=zH hs
 have HN:=zH (qad w (.cells (madeCells #[.int .u8 0] 2048) 5))
 have HB:=zH (qac (Below.refl w.heap.size w) (.cells (madeCells #[.int .u8 0] 2048) 5))
 generalize hW:w.alloc (.cells (madeCells #[.int .u8 0] 2048) 5)=w2 at *
 clear hmk hs hW
 by_cases h0:t.size=0
 ·
  have hback:=HI.out w2 _ h0 HN.out
  have ht0 : ¬ (0:Int)<(t.size:Int):=by omega
  go_wp2_with fail
  go_loopw [4] (fun i wr=>i=.int .i64 0∧wr=w2) (fun i _=>0)
  case atStart=>exact ⟨rfl,rfl⟩
  case round =>
   obtain ⟨rfl,rfl⟩:=hrel
   go_wp2_with fail
   go_ret
   exact ⟨rfl,HB.out⟩
 ·
  have ht0:(0:Int)<(t.size:Int):=by omega
  have ht1:(t.size:Int)≠0:=by omega
  have ht2:((t.size:Int) == 0)=false:=beq_eq_false_iff_ne.2 ht1
  have HP:=zH (show 0<t.size by omega)
  clear h0
  go_wp2_with fail
  go_loopw [4] (fun i wr => ∃ k:Nat,i=.int .i64 k∧k≤2048∧qbK w wr w.heap.size 2048 k xs) (fun i _=>2048 - (intOf i).toNat)
  case atStart=>exact ⟨0,rfl,Nat.zero_le _,HS.out⟩
  case round =>
   obtain ⟨k,rfl,hk,hB⟩:=hrel
   by_cases hlt:k<2048
   ·
    have hlt':(k:Int)<2048:=by omega
    obtain ⟨y,hy,_⟩:=hB.cell k hlt
    have hf:=hB.free k
    have hr:(k:Int).tmod (t.size:Int)=((k % t.size:Nat):Int):=(Int.ofNat_tmod k t.size).symm
    have hrl:k % t.size<t.size:=Nat.mod_lt _ HP.out
    have HNX:=zH (hB.next (Nat.le_refl _) hlt)
    rw [qrj HA.out HM.out HP.out hlt] at HNX
    clear hB
    generalize hq:k % t.size=q at *
    have hg:=qcp t q hrl
    clear hq
    go_wp2_with fail
    go_roundw
    case rel=>exact ⟨k+1,by go_num,by omega,HNX.out⟩
    case measure=>simp [intOf];omega
   ·
    obtain rfl:k=2048:=by omega
    have hd:=qbK.done (xs:=xs) (w:=w) (wr:=wr) (nb:=w.heap.size) (by rw [HL.out];exact hB)
    rw [HL.out,HT.out] at hd
    have HBB:=zH hB.below
    clear hB
    go_wp2_with fail
    go_ret
    exact ⟨rfl,HBB.out⟩
end
section
open Go.RowKit
def quY:Array Value := #[.int .i64 0,.string ⟨#[]⟩,.string ⟨#[]⟩,.int .i64 0,.int .i64 0,.int .i64 0,.string ⟨#[]⟩,.slice none 0 0,.slice none 0 0]
structure qq0 (w wr:World) (x:qbV) (ba:Option Addr) (bc:Nat) (ra:Option Addr) (rc:Nat):Prop where
 below:Below w.heap.size w wr
 act:wr.heap[w.heap.size]? = some (.cells (x.row ba bc ra rc) 31 (0,0))
 res:wr.heap[w.heap.size+1]? = some (.cells quY 31 (0,0))
theorem qq0.later {w w1 w2:World} {x:qbV} {ba ra:Option Addr} {bc rc:Nat} (h:qq0 w w1 x ba bc ra rc) (hb:Below w1.heap.size w1 w2):qq0 w w2 x ba bc ra rc:=⟨gtr h.below hb,qab hb h.act,qab hb h.res⟩
end
section
open Go.RowKit
theorem qmx (p:Nat) (W:Wld) (G:Nat→Prop) (x:qbV) (ba:Option Addr) (bc:Nat) (ra:Option Addr) (rc:Nat) (cx img:ByteArray) (w:World) (h:qaz w p W G) (n:Now W cx img) (fit:W.S.Fit) (hl:x.loss=0) (hk:x.kind≠7) (hb:qal w ba x.busy) (hbn:ba=none→bc=0) (hi:qak w ra x.reads G) (hcap:x.reads.length≤rc) (lb:x.busy.length≤4611686018427387904) (lr:x.reads.length≤4611686018427387904):Calls Tryz.prog 11 #[.pointer (some ⟨p,0,none⟩),.agg (x.row ba bc ra rc)] w fun e w' => ∃ W',Now W' (doX cx img W.S x).1 img∧W'.S=(doX cx img W.S x).2.1∧qa2 p W' (doX cx img W.S x).2.2.1 (doX cx img W.S x).2.2.2 G w e w':=by
 refine (qkY p W G x ba bc ra rc cx w h n.calm n.ok n.good fit hb hbn hi hcap lb lr).mono ?_
 rintro e w' ⟨hm,hp⟩
 obtain ⟨k1,k2,k3⟩:=qwh n fit hl hk hm
 refine ⟨(doR W x hm).1,k1,k2,?_⟩
 rw [← k3]
 exact hp
theorem qqi (p:Nat) (W:Wld) (G:Nat→Prop) (x:qbV) (ba:Option Addr) (bc:Nat) (ra:Option Addr) (rc:Nat) (cx img:ByteArray) (w:World) (h:qaz w p W G) (n:Now W cx img) (fit:W.S.Fit) (hmb:mayB x=true) (hl : ¬ (x.loss=0∧x.kind≠7)) (hb:qal w ba x.busy) (hbn:ba=none→bc=0) (hi:qak w ra x.reads G) (hcap:x.reads.length≤rc) (lb:x.busy.length≤4611686018427387904) (lr:x.reads.length≤4611686018427387904):Calls Tryz.prog 11 #[.pointer (some ⟨p,0,none⟩),.agg (x.row ba bc ra rc)] w fun e w' => ∃ W' y A er,Now W' y img∧W'.S=shut∧((y=(qfC cx img W.S x).1∧(A,er)=((qfC cx img W.S x).2.2.1.lose,(qfC cx img W.S x).2.2.2))∨(qgD cx W.S x y∧(A,er)=(ansZero.lose,0)))∧qa2 p W' A er G w e w':=by
 refine (qkY p W G x ba bc ra rc cx w h n.calm n.ok n.good fit hb hbn hi hcap lb lr).mono ?_
 rintro e w' ⟨hm,hp⟩
 obtain ⟨y,k1,k2,k3⟩:=qt5 n fit hmb hl hm
 exact ⟨(doR W x hm).1,y,_,_,k1,k2,k3,hp⟩
theorem qnU (p:Nat) (W:Wld) (G:Nat→Prop) (x:qbV) (ba:Option Addr) (bc:Nat) (ra:Option Addr) (rc:Nat) (cx img:ByteArray) (w:World) (h:qaz w p W G) (n:Now W cx img) (fit:W.S.Fit) (hmb:mayB x=false) (hb:qal w ba x.busy) (hbn:ba=none→bc=0) (hi:qak w ra x.reads G) (hcap:x.reads.length≤rc) (lb:x.busy.length≤4611686018427387904) (lr:x.reads.length≤4611686018427387904):Calls Tryz.prog 11 #[.pointer (some ⟨p,0,none⟩),.agg (x.row ba bc ra rc)] w fun e w'=>qa2 p W ansZero 2500 G w e w':=by
 refine (qkY p W G x ba bc ra rc cx w h n.calm n.ok n.good fit hb hbn hi hcap lb lr).mono ?_
 rintro e w' ⟨hm,hp⟩
 rw [show doR W x hm=(W,ansZero,2500) from if_pos hmb] at hp
 exact hp
def qeg (kind:Int) (key value:ByteArray):qbV:=⟨kind,key,value,0,0,0,⟨#[]⟩,[],[]⟩
theorem qcx (p:Nat) (W:Wld) (G:Nat→Prop) (x:qbV) (cx img:ByteArray) (w:World) (h:qaz w p W G) (n:Now W cx img) (fit:W.S.Fit) (hl:x.loss=0) (hk:x.kind≠7) (hb:x.busy=[]) (hr:x.reads=[]):Calls Tryz.prog 11 #[.pointer (some ⟨p,0,none⟩),.agg #[.int .i64 x.kind,.string x.key,.string x.value,.int .i64 x.at_,.int .i64 x.width,.int .i64 x.loss,.string x.mask,.slice none 0 0,.slice none 0 0]] w fun e w' => ∃ W',Now W' (doX cx img W.S x).1 img∧W'.S=(doX cx img W.S x).2.1∧qa2 p W' (doX cx img W.S x).2.2.1 (doX cx img W.S x).2.2.2 G w e w':=by
 have:=qmx p W G x none 0 none 0 cx img w h n fit hl hk (by rw [hb];exact qal.nil _ _) (fun _=>rfl) (by rw [hr];exact ⟨qal.nil _ _,fun b o e=>by cases e⟩) (by rw [hr];exact Nat.le_refl _) (by rw [hb];exact Nat.zero_le _) (by rw [hr];exact Nat.zero_le _)
 rw [show x.row none 0 none 0 = #[.int .i64 x.kind,.string x.key,.string x.value,.int .i64 x.at_,.int .i64 x.width,.int .i64 x.loss,.string x.mask,.slice none 0 0,.slice none 0 0] from by unfold qbV.row;rw [hb,hr];rfl] at this
 exact this
theorem qpR {x:ByteArray} {sec:Nat} {V:qau} (h:Lay x sec V) {r:qaC} (hr:qcH r) (h0:(changeR V sec r).1=0) (hf:V.free<8):Lay (qcn x (changeR V sec r).2) sec ⟨true,V.epoch,V.recs++[r],V.free+1⟩∧(⟨true,(changeR V sec r).2.sector,behindV ⟨true,sec,V⟩ (changeR V sec r).2⟩:qaf)=⟨true,sec,⟨true,V.epoch,V.recs++[r],V.free+1⟩⟩:=by
 have vk:=h.vok
 revert h0
 unfold changeR
 split
 ·
  intro h0;exact absurd h0 (show ¬ (2202:Int)=0 by decide)
 split
 ·
  intro h0;exact absurd h0 (show ¬ (2201:Int)=0 by decide)
 intro _
 obtain ⟨f,hfe⟩ : ∃ f:Nat,V.free=(f:Int):=⟨V.free.toNat,by have:=vk.free;omega⟩
 have hf1:1≤f:=by have:=vk.free;omega
 have hf8:f<8:=by omega
 have hsame:=qc0 x sec f (recText r)
 obtain ⟨b0,_⟩:=qdN (x:=x) (y:=burnt x (slotP sec f) (recText r)) (sec:=sec) hf1 hf8 (by rw [h.view];exact hfe) hsame
 have hslot:=qeZ h.size h.s1 hf8 (qaV _ hr.1) b0
 have hlay:=qr3 h hf1 hf8 hfe hsame hr.1 hr.2 hslot
 refine ⟨?_,?_⟩
 ·
  show Lay (burnsX (sec:Int) [(V.free,r)] x) sec _
  rw [hfe]
  rw [hfe] at hlay
  exact hlay
 ·
  unfold behindV
  have:([r]:List qaC).filter notHead=[r]:=by
   unfold notHead
   simp [hr.2]
  show (⟨true,(sec:Int),⟨true,V.epoch,(if (-1:Int)<0 then V.recs else [])++[r].filter notHead,V.free+1⟩⟩:qaf)=_
  rw [this,if_pos (by decide)]
theorem qtJ {x:ByteArray} (h:x.size=4096):Has x x:=⟨h,fun _ _=>rfl⟩
theorem qkc (x:ByteArray) (a n:Nat) (h:a+n≤x.size):x.extract a (a+n)=mk n fun i=>bt x (a+i):=by
 refine qbN ?_ fun i hi => ?_
 ·
  rw [qbr,ByteArray.size_extract];omega
 ·
  have hi':i<n:=by rw [ByteArray.size_extract] at hi;omega
  rw [qgj _ _ _ hi',qa9 _ _ _ _ (by omega) h]
theorem qw7 {x:ByteArray} (h:x.size=4096):x.extract 2048 2560=qeP x 4:=qkc x 2048 512 (by omega)
theorem qvM {x:ByteArray} (h:x.size=4096):x.extract 2048 2112=qaM x 4 0:=qkc x 2048 64 (by omega)
def kB:ByteArray:=⟨#[107]⟩
def vB:ByteArray:=⟨#[118]⟩
def abcd:ByteArray:=⟨#[97,98,99,100]⟩
def V0:qau:=⟨true,1,[],1⟩
def V1:qau:=⟨true,1,[⟨1,0,kB,vB⟩],2⟩
theorem qqk:mayB (qeg 0 ⟨#[]⟩ ⟨#[]⟩)=true:=by decide +kernel
theorem qvx:mayB (qeg 2 kB vB)=true:=by decide +kernel
theorem qtZ:mayB (qeg 5 ⟨#[]⟩ ⟨#[]⟩)=true:=by decide +kernel
theorem qmb {x img:ByteArray} (h:qvY x) : ∃ x1,Lay x1 4 V0∧doX x img shut (qeg 0 ⟨#[]⟩ ⟨#[]⟩)=(x1,⟨true,4,V0⟩,ansZero,0):=by
 have he:epOf (qky x)=0:=by rw [qlK h];rfl
 have hs:newSec x=((4:Nat):Int):=by unfold newSec;rw [qlK h];rfl
 have hn:newEp x=1:=by unfold newEp;rw [he];rfl
 have e:qcN x img []=(burnt (qfV x (newSec x)) (slotP (newSec x) 0) (recText (headRec (newEp x))),⟨true,newSec x,⟨true,newEp x,[],1⟩⟩,[],0):=by
  unfold qcN
  rw [he,if_neg (by decide),if_pos (by decide)]
  rfl
 refine ⟨_,qp7 h.size (by omega) (by omega) (by decide) (by decide) h.dead,?_⟩
 unfold doX
 rw [qqk,if_neg (by decide)]
 unfold qfC
 rw [if_pos (show (qeg 0 ⟨#[]⟩ ⟨#[]⟩).kind=0 from rfl),show (qeg 0 ⟨#[]⟩ ⟨#[]⟩).reads=[] from rfl,e,hs,hn]
 rfl
theorem qrJ {x img:ByteArray} (h:Lay x 4 V0) : ∃ x1,Lay x1 4 V1∧doX x img ⟨true,4,V0⟩ (qeg 2 kB vB)=(x1,⟨true,4,V1⟩,ansZero,0):=by
 have hr:qcH ⟨1,0,kB,vB⟩:=qgq (by decide) (by decide) (by decide)
 have hc:(changeR V0 4 ⟨1,0,kB,vB⟩).1=0:=by decide +kernel
 have h12:=qpR h hr hc (by decide)
 rw [show ((4:Nat):Int)=4 from rfl] at h12
 obtain ⟨h1,h2⟩:=h12
 refine ⟨_,h1,?_⟩
 unfold doX
 rw [qvx,if_neg (by decide)]
 unfold qfC
 rw [if_neg (show ¬ (qeg 2 kB vB).kind=0 by decide),if_neg (show ¬ (qeg 2 kB vB).kind=1 by decide),if_pos (show (qeg 2 kB vB).kind=2 from rfl)]
 unfold qn6
 rw [if_neg (show ¬ askedE ⟨true,4,V0⟩ (qeg 2 kB vB).key≠0 by decide),if_neg (show ¬ 20<(qeg 2 kB vB).value.size by decide)]
 unfold qdr qqA
 rw [show (⟨true,4,V0⟩:qaf).view=V0 from rfl,show (⟨true,4,V0⟩:qaf).sector=4 from rfl,show (qeg 2 kB vB).key=kB from rfl,show (qeg 2 kB vB).value=vB from rfl,show (qeg 2 kB vB).reads=[] from rfl]
 generalize changeR V0 4 ⟨1,0,kB,vB⟩=c at hc h1 h2
 rw [hc,if_neg (by decide),if_neg (by decide),if_pos (by decide),h2]
 rfl
theorem qp5 {x img:ByteArray}:doX x img ⟨true,4,V1⟩ (qeg 5 ⟨#[]⟩ ⟨#[]⟩)=(x,⟨true,4,V1⟩,⟨⟨#[]⟩,[⟨kB,vB⟩],[],false⟩,0):=by
 unfold doX
 rw [qtZ,if_neg (by decide)]
 unfold qfC
 rw [if_neg (by decide),if_neg (by decide),if_neg (by decide),if_neg (by decide),if_neg (by decide),if_pos (show (qeg 5 ⟨#[]⟩ ⟨#[]⟩).kind=5 from rfl)]
 have:listR ⟨true,4,V1⟩=([⟨kB,vB⟩],0):=by decide +kernel
 rw [this]
theorem qnF:buildL V1.recs=[⟨kB,vB⟩]:=by decide +kernel
theorem qp4 {x:ByteArray} (h:Lay x 4 V1):scanR (qeP x 4)=V1∧qa1 (qaM x 4 0)=some (headRec 1) ∧ ∃ t,qbx (qaM x 4 0)=some t∧t.size=32:=by
 have h1:=h.epoch.2.2
 have hg:qa1 (qaM x 4 0)=some (headRec 1):=by
  rw [h1]
  exact qcy (qbw (by decide) (by decide))
 refine ⟨h.view,hg,?_⟩
 unfold qa1 at hg
 cases hp:qbx (qaM x 4 0) with
 | none=>rw [hp] at hg;cases hg
 | some t=>exact ⟨t,rfl,qhn hp⟩
end
end Go.Proofs.YtcfdenckiigdaaaGreat

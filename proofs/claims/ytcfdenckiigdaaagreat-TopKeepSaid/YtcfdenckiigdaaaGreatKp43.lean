/- Part 43 of the contracts. -/
import Derived.Test.YtcfdenckiigdaaaGreatKp42
set_option linter.unusedVariables false
set_option maxRecDepth 100000
set_option maxHeartbeats 4000000
namespace Go.Proofs.YtcfdenckiigdaaaGreat
section
theorem qm5 {m:Ctl} {q:Cache} (ok:m.Ok) (g:q.Good) (sec:Int) (s0:4≤sec) (s1:sec<8) (reads:List Int):(wipeT m q sec reads).1.Ok∧(wipeT m q sec reads).2.1.Good∧qaF m (wipeT m q sec reads).1:=by
 unfold wipeT
 split
 ·
  rename_i hr
  exact qhX ok _ (by omega) (by omega) reads (fun x hx=>by have:=qgr hr x hx;omega)
 ·
  exact ⟨ok,g,qaF.refl m⟩
theorem qtT (m:Ctl):4≤nextS (secOf (lookR m).2.1)∧nextS (secOf (lookR m).2.1)<8:=by
 cases h:(lookR m).2.1 with
 | none=>decide
 | some s =>
  obtain ⟨h1,h2,_⟩:=qnP (m:=m) (sec:=s.1) (V:=s.2) h
  exact qhI h1 h2
theorem qrh {m:Ctl} (ok:m.Ok) {sec slot:Int} (s0:4≤sec) (s1:sec<8) (l0:0≤slot) (l1:slot<8) {r:qaC} (hr:qap r=true):(m.burnR (slotP sec slot) (recText r)).1.Ok∧qaF m (m.burnR (slotP sec slot) (recText r)).1 :=
 ⟨qkT ok _ _ (by unfold slotP;omega) (by unfold slotP;omega) (qaV r hr),qeY _ _ _⟩
theorem qvu (m:Ctl):0≤epOf (lookR m).2.1:=by
 cases h:(lookR m).2.1 with
 | none=>decide
 | some s =>
  obtain ⟨_,_,h3⟩:=qnP (m:=m) (sec:=s.1) (V:=s.2) h
  have:=h3.epoch
  show 0≤s.2.epoch
  omega
theorem qiH {m:Ctl} {q:Cache} (ok:m.Ok) (g:q.Good) (reads:List Int):(formatR m q reads).1.Ok∧(formatR m q reads).2.1.Good∧qaF m (formatR m q reads).1:=by
 obtain ⟨o1,h1⟩:=qla ok
 obtain ⟨s0,s1⟩:=qtT m
 have e0:=qvu m
 unfold formatR
 generalize lookR m=l at *
 unfold qiF
 split
 ·
  exact ⟨o1,g,h1⟩
 ·
  unfold qk2
  split
  ·
   exact ⟨o1,g,h1⟩
  ·
   rename_i hep
   obtain ⟨o2,g2,h2⟩:=qm5 o1 g _ s0 s1 reads
   generalize wipeT l.1 q (nextS (secOf l.2.1)) reads=t at *
   unfold qiG
   split
   ·
    exact ⟨o2,g2,h1.trans h2⟩
   ·
    obtain ⟨o3,h3⟩:=qrh o2 s0 s1 (show (0:Int)≤0 by decide) (show (0:Int)<8 by decide) (qbw (e:=epOf l.2.1+1) (by omega) (by omega))
    generalize t.1.burnR (slotP (nextS (secOf l.2.1)) 0) (recText (headRec (epOf l.2.1+1)))=b at *
    unfold qgS
    split <;> exact ⟨o3,g2,h1.trans (h2.trans h3)⟩
theorem qgW {m:Ctl} (ok:m.Ok):(mountR m).1.Ok∧qaF m (mountR m).1:=by
 obtain ⟨o1,h1⟩:=qla ok
 unfold mountR
 generalize lookR m=l at *
 unfold qo7
 split
 ·
  exact ⟨o1,h1⟩
 ·
  split <;> exact ⟨o1,h1⟩
theorem qot {m:Ctl} {q:Cache} (ok:m.Ok) (g:q.Good) {p:qcd} (pk:p.Ok) {reads:List Int} (hr:readsOk reads=true):(writesR m q p reads).1.Ok∧(writesR m q p reads).2.1.Good∧qaF m (writesR m q p reads).1:=by
 have ht:(firstT m q p reads).1.Ok∧(firstT m q p reads).2.1.Good∧qaF m (firstT m q p reads).1:=by
  unfold firstT
  split
  ·
   rename_i hw
   have:=pk.wipe
   exact qm5 ok g _ (by omega) (by omega) reads
  ·
   exact ⟨ok,g,qaF.refl m⟩
 unfold writesR
 generalize firstT m q p reads=t at *
 obtain ⟨o1,g1,h1⟩:=ht
 unfold qha
 split
 ·
  exact ⟨o1,g1,h1⟩
 ·
  obtain ⟨o2,h2⟩:=qlQ p.sector pk.sector.1 pk.sector.2 (p.slots.zip p.recs) t.1 o1 (qgC pk)
  generalize burnsL p.sector (p.slots.zip p.recs) t.1=b at *
  unfold qb0
  split
  ·
   exact ⟨o2,g1,h1.trans h2⟩
  ·
   split
   ·
    exact ⟨o2,g1,h1.trans h2⟩
   ·
    obtain ⟨o3,g3,h3⟩:=qhR reads [] b.1 t.2.1 o2 g1 (fun x hx=>(qgr hr x hx).1)
    exact ⟨o3,g3,h1.trans (h2.trans h3)⟩
theorem qih {m:Ctl} {q:Cache} (ok:m.Ok) (g:q.Good) {S:qaf} (vk:S.view.Ok) (s0:4≤S.sector) (s1:S.sector<8) {r:qaC} (hr:qcH r) (reads:List Int):(qbc m q S r reads).1.Ok∧(qbc m q S r reads).2.1.Good∧qaF m (qbc m q S r reads).1:=by
 have hc:=fun he=>qet vk s0 s1 hr he
 unfold qbc
 generalize changeR S.view S.sector r=c at *
 unfold qkU
 split
 ·
  exact ⟨ok,g,qaF.refl m⟩
 ·
  split
  ·
   exact ⟨ok,g,qaF.refl m⟩
  ·
   rename_i h0
   split
   ·
    rename_i hrd
    have:=qot ok g (hc (by simpa using h0)) hrd
    generalize writesR m q c.2 reads=t at *
    unfold qig
    split <;> exact this
   ·
    exact ⟨ok,g,qaF.refl m⟩
theorem qpe {m:Ctl} {q:Cache} (ok:m.Ok) (g:q.Good) {S:qaf} (fit:S.Fit) (key value:ByteArray) (reads:List Int):(putR m q S key value reads).1.Ok∧(putR m q S key value reads).2.1.Good∧qaF m (putR m q S key value reads).1:=by
 unfold putR
 split
 ·
  exact ⟨ok,g,qaF.refl m⟩
 ·
  rename_i h0
  split
  ·
   exact ⟨ok,g,qaF.refl m⟩
  ·
   have hz:=qbe (by simpa using h0)
   have hf:=qcC fit hz.1
   exact qih ok g hf.2.2 hf.1 hf.2.1 (qgq hz.2.1 hz.2.2 (by omega)) reads
theorem qoI {m:Ctl} {q:Cache} (ok:m.Ok) (g:q.Good) {S:qaf} (fit:S.Fit) (key:ByteArray) (reads:List Int):(delR m q S key reads).1.Ok∧(delR m q S key reads).2.1.Good∧qaF m (delR m q S key reads).1:=by
 unfold delR
 split
 ·
  exact ⟨ok,g,qaF.refl m⟩
 ·
  rename_i h0
  have hz:=qbe (by simpa using h0)
  have hf:=qcC fit hz.1
  exact qih ok g hf.2.2 hf.1 hf.2.1 (qit hz.2.1 hz.2.2) reads
end
section
open Go.RowKit
structure qcq where
 value:ByteArray
 pairs:List qaq
 reads:List Int
 lost:Bool
def ansZero:qcq:=⟨⟨#[]⟩,[],[],false⟩
def outs (er:Int) (out:List Int):List Int:=if er=0 then out else []
theorem qa3.read {s k c b:Nat} {m:Ctl} {q:Cache} {S:qaf} {out:List Int} {er:Int} {H:Nat→Prop} {w w':World} {e:Ending} (h:qa3 s k c b m q S out er H w e w') : ∃ a cp H',e=.returned (.tuple #[.slice a (outs er out).length cp,.int .i64 er])∧Sys (fun _=>False) w' s k c b m q S H'∧Step (Mine s H) (Mine s H') w w'∧w'.ownsRow w.heap.size 3 1 (.slice a (outs er out).length cp) (outs er out).length (intVals (outs er out)) ∧ ∀ g,(Value.slice a (outs er out).length cp).ownBlock=some g → ¬ Mine s H' g:=by
 obtain ⟨v,he,h0,H',hs,st,ho⟩:=h
 unfold outs
 by_cases hk:er=0
 ·
  obtain ⟨h1,h2⟩:=ho hk
  obtain ⟨a,cp,rfl⟩:=qaD h1
  rw [if_pos hk]
  exact ⟨a,cp,H',he,hs,st,h1,h2⟩
 ·
  rw [if_neg hk]
  rw [h0 hk] at he
  exact ⟨Option.none,0,H',he,hs,st,World.ownsRow_nil _ _ _ _,fun g hg=>by simp [Value.ownBlock] at hg⟩
def qbd (s b p pa:Nat) (x:qbV) (ra:Option Addr) (rc:Nat) (w':World):Prop:=w'.cell? ⟨p,2,none⟩=some (.pointer (some ⟨b,0,none⟩))∧w'.cell? ⟨p,3,none⟩=some (.pointer (some ⟨s,0,none⟩))∧w'.cell? ⟨pa,1,none⟩=some (.string x.key)∧w'.cell? ⟨pa,2,none⟩=some (.string x.value)∧w'.cell? ⟨pa,3,none⟩=some (.int .i64 x.at_)∧w'.cell? ⟨pa,4,none⟩=some (.int .i64 x.width)∧w'.cell? ⟨pa,8,none⟩=some (.slice ra x.reads.length rc)
theorem qbd.of {w w':World} {s b p pa k c:Nat} {z:Int} {x:qbV} {ba:Option Addr} {bc:Nat} {ra:Option Addr} {rc:Nat} (h1:qgH w p c (some ⟨k,0,none⟩) (some ⟨b,0,none⟩) (some ⟨s,0,none⟩) z) (h2:qco w pa x ba bc ra rc) {F:Nat→Prop} (t:Touch F w w') (n1 : ¬ F p) (n2 : ¬ F pa):qbd s b p pa x ra rc w':=by
 have k1:=t.at h1 n1
 have k2:qco w' pa x ba bc ra rc:=t.at h2 n2
 exact ⟨qaa k1 2,qaa k1 3,qaa k2 1,qaa k2 2,qaa k2 3,qaa k2 4,qaa k2 8⟩
def qa2 (p:Nat) (W:Wld) (A:qcq) (er:Int) (G:Nat→Prop) (w:World) (e:Ending) (w':World):Prop :=
 ∃ pa pc ra rc,e=.returned (.tuple #[.agg #[.string A.value,.slice pa A.pairs.length pc,.slice ra A.reads.length rc,.bool A.lost],.int .i64 er])∧w'.ownsRow w.heap.size 83 2 (.slice pa A.pairs.length pc) A.pairs.length (pairVals A.pairs)∧w'.ownsRow w.heap.size 3 1 (.slice ra A.reads.length rc) A.reads.length (intVals A.reads) ∧ ∃ G',qaz w' p W G'∧Step G G' w w'∧(∀ g,(Value.slice pa A.pairs.length pc).ownBlock=some g → ¬ G' g) ∧ ∀ g,(Value.slice ra A.reads.length rc).ownBlock=some g → ¬ G' g
def ZA:Obj:=.cells #[.string ⟨#[]⟩,.slice none 0 0,.slice none 0 0,.bool false] 34
theorem qdf {w:World} {o:Nat} {t:ByteArray} {a b:Option Addr} {n m c d:Nat} {l:Bool} {ty:TypeId} (h:w.heap[o]? = some (.cells #[.string t,.slice a n c,.slice b m d,.bool l] ty (0,0))):Plain w o:=by
 refine ⟨fun i x e => ?_,fun u e=>by rw [qaa h 1] at e;cases e⟩
 rw [qaa h i] at e
 match i with
 | 0=>cases e
 | 1=>cases e
 | 2=>cases e
 | 3=>cases e
 | i+4=>simp at e
structure qs8 (w w2:World) (p pa R O s k c b:Nat) (z:Int) (W:Wld) (G H:Nat→Prop) (x:qbV) (ba:Option Addr) (bc:Nat) (ra:Option Addr) (rc:Nat):Prop where
 sys:Sys (fun _=>False) w2 s k c b W.m W.q W.S H
 row:qgH w2 p c (some ⟨k,0,none⟩) (some ⟨b,0,none⟩) (some ⟨s,0,none⟩) z
 act:qco w2 pa x ba bc ra rc
 rO:w2.heap[O]? = some ZA
 rR:w2.heap[R]? = some ZA
 nO : ¬ Mine s H O
 nR : ¬ Mine s H R
 np : ¬ Mine s H p
 npa : ¬ Mine s H pa
 ne:p≠O∧pa≠O∧p≠R∧pa≠R∧O≠R
 own : ∀ i,G i ↔ qdz p s H i
 homep:0<W.m.chip.busy.length→W.m.chip.home≠p
 below:Below w.heap.size w w2
 ge:w.heap.size≤O∧w.heap.size≤R∧O<w2.heap.size∧R<w2.heap.size∧p<w.heap.size
 home:0<W.m.chip.busy.length→W.m.chip.home<w2.heap.size
 ints:qak w2 ra x.reads H
theorem qhe {w:World} {p pa:Nat} {W:Wld} {G:Nat→Prop} {x:qbV} {ba:Option Addr} {bc:Nat} {ra:Option Addr} {rc:Nat} (h:qaz w p W G) (hx:qco w pa x ba bc ra rc) (hpa : ¬ G pa) (hh:0<W.m.chip.busy.length→W.m.chip.home<w.heap.size) (hi:qak w ra x.reads G) : ∃ s k c b H z,qs8 w ((w.alloc ZA).alloc ZA) p pa w.heap.size (w.heap.size+1) s k c b z W G H x ba bc ra rc:=by
 obtain ⟨s,k,c,b,H,z,h1,h2,h3,h4,h5⟩:=h.ex
 have hb0:=qac (qac (Below.refl w.heap.size w) ZA) ZA
 have hpl:=qat hx
 have hpp:=qat h1
 have hlt : ∀ i,Mine s H i→i<w.heap.size:=h2.lt
 have hsz:((w.alloc ZA).alloc ZA).heap.size=w.heap.size+2:=by simp
 have hO:((w.alloc ZA).alloc ZA).heap[w.heap.size+1]? = some ZA:=by simpa using qad (w.alloc ZA) ZA
 refine ⟨s,k,c,b,H,z,h2.later hb0,qab hb0 h1,qab hb0 hx,hO,qab (qac (Below.refl _ _) ZA) (qad w ZA),fun hM => ?_,fun hM => ?_,h3,fun hM=>hpa ((h5 pa).2 (.inl hM)),⟨by omega,by omega,by omega,by omega,by omega⟩,h5,h4,hb0,⟨by omega,by omega,by omega,by omega,hpp⟩,fun hl => ?_,(hi.mono fun i hH=>(h5 i).2 (.inl (.inl hH))).step (Step.of_below hb0)⟩
 ·
  have:=hlt _ hM;omega
 ·
  have:=hlt _ hM;omega
 ·
  have:=hh hl;omega
theorem qcT {w w2 w1 wa w3:World} {p pa R O s k c b:Nat} {z:Int} {W:Wld} {G H H1:Nat→Prop} {x:qbV} {ba:Option Addr} {bc:Nat} {ra:Option Addr} {rc:Nat} (I:qs8 w w2 p pa R O s k c b z W G H x ba bc ra rc) {m1:Ctl} {q1:Cache} {S1:qaf} (hs:Sys (fun _=>False) w1 s k c b m1 q1 S1 H1) (st:Step (Mine s H) (Mine s H1) w2 w1) (hm:qaF W.m m1) (A:qcq) (er:Int) (pv:Option Addr) (pc:Nat) (rv:Option Addr) (cc:Nat) (h1:w1.ownsRow w2.heap.size 83 2 (.slice pv A.pairs.length pc) A.pairs.length (pairVals A.pairs)) (h2:w1.ownsRow w2.heap.size 3 1 (.slice rv A.reads.length cc) A.reads.length (intVals A.reads)) (n1 : ∀ g,(Value.slice pv A.pairs.length pc).ownBlock=some g → ¬ Mine s H1 g) (n2 : ∀ g,(Value.slice rv A.reads.length cc).ownBlock=some g → ¬ Mine s H1 g) (t3:Touch (Only O) w1 wa) (t4:Touch (Only R) wa w3):qa2 p ⟨m1,q1,S1⟩ A er G w (.returned (.tuple #[.agg #[.string A.value,.slice pv A.pairs.length pc,.slice rv A.reads.length cc,.bool A.lost],.int .i64 er])) w3:=by
 obtain ⟨g1,g2,g3,g4,g5⟩:=I.ge
 have z2:=I.below.size
 have nO1 : ¬ Mine s H1 O:=st.safe g3 I.nO
 have nR1 : ¬ Mine s H1 R:=st.safe g4 I.nR
 have rO1:w1.heap[O]? = some ZA:=st.touch.at I.rO I.nO
 have rR1:w1.heap[R]? = some ZA:=st.touch.at I.rR I.nR
 have rRa:wa.heap[R]? = some ZA:=t3.at rR1 (fun e=>I.ne.2.2.2.2 (show R=O from e).symm)
 have hs3:=(hs.plain t3 nO1 (qdf rO1)).plain t4 nR1 (qdf rRa)
 have rp1:qgH w1 p c _ _ _ z:=st.touch.at I.row I.np
 have rpa:qgH wa p c _ _ _ z:=t3.at rp1 (fun e=>I.ne.1 e)
 have rp3:qgH w3 p c _ _ _ z:=t4.at rpa (fun e=>I.ne.2.2.1 e)
 have b2 : ∀ {t:TypeId} {sz n:Nat} {v:Value} {cs:List Value},w1.ownsRow w2.heap.size t sz v n cs→w3.ownsRow w.heap.size t sz v n cs ∧ ∀ g,v.ownBlock=some g→w2.heap.size≤g:=fun {t sz n v cs} ho=>by
  refine ⟨qaR (qaR (qb9 ho z2) t3 (fun g hg e => ?_)) t4 (fun g hg e => ?_),qaN ho⟩
  ·
   have:=qaN ho g hg;rw [show g=O from e] at this;omega
  ·
   have:=qaN ho g hg;rw [show g=R from e] at this;omega
 have hpw : ¬ Mine s H1 p:=st.safe (Nat.lt_of_lt_of_le g5 z2) I.np
 refine ⟨pv,pc,rv,cc,rfl,(b2 h1).1,(b2 h2).1,qdz p s H1,⟨s,k,c,b,H1,z,rp3,hs3,hpw,fun hl => ?_,fun i=>Iff.rfl⟩,⟨?_,fun i hi => ?_⟩,fun g hg hw => ?_,fun g hg hw => ?_⟩
 ·
  rw [hm.1];exact I.homep (Nat.lt_of_lt_of_le hl hm.2)
 ·
  have e1:Touch G w w1:=(Touch.of_below I.below).then st.touch (fun i hi=>.inl ((I.own i).2 (.inl hi)))
  have e2:Touch G w wa:=e1.then t3 (fun i hi=>.inr (by rw [show i=O from hi];exact g1))
  exact e2.then t4 (fun i hi=>.inr (by rw [show i=R from hi];exact g2))
 ·
  rcases hi with hi | hi
  ·
   exact (st.foot i hi).imp (fun h=>(I.own i).2 (.inl h)) (fun h=>Nat.le_trans z2 h)
  ·
   exact .inl ((I.own i).2 (.inr hi))
 ·
  rcases hw with hw | hw
  ·
   exact n1 g hg hw
  ·
   have:=(b2 h1).2 g hg;omega
 ·
  rcases hw with hw | hw
  ·
   exact n2 g hg hw
  ·
   have:=(b2 h2).2 g hg;omega
theorem qs8.reads {w w2 w':World} {p pa R O s k c b:Nat} {z:Int} {W:Wld} {G H:Nat→Prop} {x:qbV} {ba:Option Addr} {bc:Nat} {ra:Option Addr} {rc:Nat} (I:qs8 w w2 p pa R O s k c b z W G H x ba bc ra rc) (F:Nat→Prop) (t:Touch F w2 w') (n1 : ¬ F p) (n2 : ¬ F pa):qbd s b p pa x ra rc w':=qbd.of I.row I.act t n1 n2
theorem qwI (p pa:Nat) (W:Wld) (G:Nat→Prop) (x:qbV) (ba:Option Addr) (bc:Nat) (ra:Option Addr) (rc:Nat) (w:World) (h:qaz w p W G) (hx:qco w pa x ba bc ra rc) (hpa : ¬ G pa) (ok:W.m.Ok) (kn:W.m.Known) (g:W.q.Good) (fit:W.S.Fit) (hh:0<W.m.chip.busy.length→W.m.chip.home<w.heap.size) (hi:qak w ra x.reads G) (hcap:x.reads.length≤rc) (hm:x.reads.length≤1000000) (hv:x.value.size<140737488355328) (hat:0≤x.at_∧x.at_<4096) (hwi:0≤x.width∧x.width≤8) (hk:x.kind=0):Calls Tryz.prog 32 #[.pointer (some ⟨p,0,none⟩),.pointer (some ⟨pa,0,none⟩)] w (qa2 p ⟨(formatR W.m W.q x.reads).1,(formatR W.m W.q x.reads).2.1,(formatR W.m W.q x.reads).2.2.1⟩ ⟨⟨#[]⟩,[],outs (formatR W.m W.q x.reads).2.2.2.2 (formatR W.m W.q x.reads).2.2.2.1,false⟩ (formatR W.m W.q x.reads).2.2.2.2 G w):=by
 obtain ⟨s,k,c,b,H,z,I⟩:=qhe h hx hpa hh hi
 have c0:w.cell? ⟨pa,0,none⟩=some (.int .i64 0):=by rw [← hk];exact qaa hx 0
 have hpl:=qat hx
 have HI:=zH I
 have HC:=zH (fun w' (hb:Below ((w.alloc ZA).alloc ZA).heap.size ((w.alloc ZA).alloc ZA) w')=>qme s k c b rc W.m W.q W.S H ra x.reads w' (I.sys.later hb) ok kn (fun hl=>Nat.lt_of_lt_of_le (I.home hl) hb.size) (I.ints.step (Step.of_below hb)) hcap hm)
 have HF:=zH (qiH ok g x.reads).2.2
 generalize formatR W.m W.q x.reads=t at *
 clear h I hx hpa hh hi hcap hm kn ok g fit hv hat hwi
 go_enter Tryz.func32,Tryz.ntmps32
 go_upto_region 5 with fail
 have eZ:(w.alloc (.cells #[.string ⟨#[]⟩,.slice none 0 0,.slice none 0 0,.bool false] 34)).alloc (.cells #[.string ⟨#[]⟩,.slice none 0 0,.slice none 0 0,.bool false] 34)=(w.alloc ZA).alloc ZA:=rfl
 rw [eZ]
 clear eZ c0 hpl
 generalize (w.alloc ZA).alloc ZA=w2 at *
 have HGE:=zH HI.out.ge
 generalize hR:w.heap.size=R at HI HGE ⊢
 generalize hO:R+1=O at HI HGE ⊢
 have HN:=zH (zA HI.out.np (zA HI.out.npa (zA HI.out.ne.1 HI.out.ne.2.1)))
 have HO:=zH (zA HI.out.rO HI.out.nO)
 have HS:=zH (fun w' (F:Nat→Prop) (t:Touch F w2 w') n1 n2=>HI.out.reads F t n1 n2)
 clear hR hO
 refine wp_region_noPanic ?_
 refine wp_region_held_drew (S:=(qbd s b p pa x ra rc)) (by kernel_rfl) ?hS5000 (fun hHeld => ?_)
 case hS5000=>(try dsimp only);exact HS.out _ (fun _=>False) (Touch.of_below (qai (Below.refl _ _))) id id
 refine tk 0 ?_ (hy:=by (intro w hSw;unfold qbd at hSw;go_simp;try with_reducible rfl))
 refine tk 1 ?_ (hy:=by (intro w hSw;unfold qbd at hSw;go_simp;try with_reducible rfl))
 refine tk 2 ?_ (hy:=by (intro w hSw;unfold qbd at hSw;go_simp;try with_reducible rfl))
 refine tk 3 ?_ (hy:=by (intro w hSw;unfold qbd at hSw;go_simp;try with_reducible rfl))
 refine tk 4 ?_ (hy:=by (intro w hSw;unfold qbd at hSw;go_simp;try with_reducible rfl))
 refine tk 5 ?_ (hy:=by (intro w hSw;unfold qbd at hSw;go_simp;try with_reducible rfl))
 refine tk 6 ?_ (hy:=by (intro w hSw;unfold qbd at hSw;go_simp;try with_reducible rfl))
 refine tk 7 ?_ (hy:=by (intro w hSw;unfold qbd at hSw;go_simp;try with_reducible rfl))
 refine tr 8 fun K hK => ?_
 go_simp
 go_at_call 57
 refine (HC.out _ (qai (Below.refl _ _))).mono ?_
 intro e w1 hout
 obtain ⟨va,vc,H1,rfl,hs1,st1,ho1,hf1⟩:=hout.read
 have ht1:=(Touch.of_below (F:=Mine s H) (qai (Below.refl w2.heap.size w2))).trans st1.touch
 obtain ⟨z0,z1,z2,z3,zf⟩:=row4 (ht1.at HO.out.1 HO.out.2)
 have hr1:=zH (zA hs1 (zA ((Step.of_below (qai (Below.refl w2.heap.size w2))).trans st1) (zA ho1 (zA hf1 ht1))))
 clear hs1 st1 ho1 hf1 ht1 hout
 go_wp2_with fail
 refine hK.out _ _ ?hS5008 (fun hHeld => ?_)
 case hS5008=>(try dsimp only);exact HS.out _ _ hr1.out.2.2.2.2 HN.out.1 HN.out.2.1
 clear hK K
 try simp only [Act.put,zS,zT,zU]
 refine tk 9 ?_ (hy:=by (intro w hSw;unfold qbd at hSw;go_simp;try with_reducible rfl))
 refine tk 10 ?_ (hy:=by (intro w hSw;unfold qbd at hSw;go_simp;try with_reducible rfl))
 refine tk 11 ?_ (hy:=by (intro w hSw;unfold qbd at hSw;go_simp;try with_reducible rfl))
 refine tk 12 ?_ (hy:=by (intro w hSw;unfold qbd at hSw;go_simp;try with_reducible rfl))
 refine tr 13 fun K hK => ?_
 go_simp
 refine hK.out _ _ ?hS5013 (fun hHeld => ?_)
 case hS5013=>(try dsimp only);exact HS.out _ (fun i=>Mine s H i∨i=O) ((hr1.out.2.2.2.2.mono fun i h=>.inl h).set _ _ _ (.inr rfl)) (fun h=>h.elim HN.out.1 HN.out.2.2.1) (fun h=>h.elim HN.out.2.1 HN.out.2.2.2)
 clear hK K
 try simp only [Act.put,zS,zT,zU]
 refine tk 14 ?_ (hy:=by (intro w hSw;unfold qbd at hSw;go_simp;try with_reducible rfl))
 refine wpAnyH_done (by kernel_rfl) ?_ _
 refine NoPanic.normal ?_
 have ho:=zH (zA (hr1.out.2.2.2.2.at HO.out.1 HO.out.2) (hr1.out.2.2.2.2.at HI.out.rR HI.out.nR))
 have rOa:(w1.setCell ⟨O,2,none⟩ (.slice va (outs t.2.2.2.2 t.2.2.2.1).length vc)).heap[O]? = _:=qag ho.out.1
 have ta:Touch (Only O) w1 (w1.setCell ⟨O,2,none⟩ (.slice va (outs t.2.2.2.2 t.2.2.2.1).length vc)):=(Touch.refl (Only O) w1).set O 2 _ rfl
 have HA:=zH (zA rOa (zA (ta.at ho.out.2 (fun e=>HI.out.ne.2.2.2.2 (show R=O from e).symm)) ta))
 clear rOa ta z0 z1 z2 z3 zf HC HS ho
 generalize w1.setCell ⟨O,2,none⟩ (.slice va (outs t.2.2.2.2 t.2.2.2.1).length vc)=wa at *
 obtain ⟨z0,z1,z2,z3,zf⟩:=row4 (show wa.heap[O]? = some (.cells #[.string ⟨#[]⟩,.slice none 0 0,.slice va (outs t.2.2.2.2 t.2.2.2.1).length vc,.bool false] 34 (0,0)) from HA.out.1)
 obtain ⟨y0,y1,y2,y3,yf⟩:=row4 HA.out.2.1
 go_wp2_with fail
 obtain ⟨q0,q1,q2,q3,qf⟩:=row4 (qbA HA.out.2.1 (.string ⟨#[]⟩) (.slice none 0 0) (.slice va (outs t.2.2.2.2 t.2.2.2.1).length vc) (.bool false))
 refine bodyPost_ret (v:=.tuple #[.agg #[.string ⟨#[]⟩,.slice none 0 0,.slice va (outs t.2.2.2.2 t.2.2.2.1).length vc,.bool false],.int .i64 t.2.2.2.2]) ?_ rfl ?_
 ·
  change (results _ _).run _ (put4 _ _ _ _ _ _)=_
  simp [results,Tryz.results32,go_sem,q0,q1,q2,q3]
  rfl
 ·
  exact qcT HI.out hr1.out.1 hr1.out.2.1 HF.out ⟨⟨#[]⟩,[],outs t.2.2.2.2 t.2.2.2.1,false⟩ t.2.2.2.2 none 0 va vc (World.ownsRow_nil _ _ _ _) (hr1.out.2.2.1) (fun g hg=>by simp [Value.ownBlock] at hg) (hr1.out.2.2.2.1) HA.out.2.2 (qaK wa R _ _ _ _)
theorem qwK (p pa:Nat) (W:Wld) (G:Nat→Prop) (x:qbV) (ba:Option Addr) (bc:Nat) (ra:Option Addr) (rc:Nat) (w:World) (h:qaz w p W G) (hx:qco w pa x ba bc ra rc) (hpa : ¬ G pa) (ok:W.m.Ok) (kn:W.m.Known) (g:W.q.Good) (fit:W.S.Fit) (hh:0<W.m.chip.busy.length→W.m.chip.home<w.heap.size) (hi:qak w ra x.reads G) (hcap:x.reads.length≤rc) (hm:x.reads.length≤1000000) (hv:x.value.size<140737488355328) (hat:0≤x.at_∧x.at_<4096) (hwi:0≤x.width∧x.width≤8) (hk:x.kind=2):Calls Tryz.prog 32 #[.pointer (some ⟨p,0,none⟩),.pointer (some ⟨pa,0,none⟩)] w (qa2 p ⟨(putR W.m W.q W.S x.key x.value x.reads).1,(putR W.m W.q W.S x.key x.value x.reads).2.1,(putR W.m W.q W.S x.key x.value x.reads).2.2.1⟩ ⟨⟨#[]⟩,[],outs (putR W.m W.q W.S x.key x.value x.reads).2.2.2.2 (putR W.m W.q W.S x.key x.value x.reads).2.2.2.1,false⟩ (putR W.m W.q W.S x.key x.value x.reads).2.2.2.2 G w):=by
 obtain ⟨s,k,c,b,H,z,I⟩:=qhe h hx hpa hh hi
 have c0:w.cell? ⟨pa,0,none⟩=some (.int .i64 2):=by rw [← hk];exact qaa hx 0
 have hpl:=qat hx
 have HI:=zH I
 have HC:=zH (fun w' (hb:Below ((w.alloc ZA).alloc ZA).heap.size ((w.alloc ZA).alloc ZA) w')=>qjQ s k c b rc W.m W.q W.S H x.key x.value ra x.reads w' (I.sys.later hb) ok g (fun hl=>Nat.lt_of_lt_of_le (I.home hl) hb.size) (I.ints.step (Step.of_below hb)) hcap hm hv fit)
 have HF:=zH (qpe ok g fit x.key x.value x.reads).2.2
 generalize putR W.m W.q W.S x.key x.value x.reads=t at *
 clear h I hx hpa hh hi hcap hm kn ok g fit hv hat hwi
 go_enter Tryz.func32,Tryz.ntmps32
 go_upto_region 9 with fail
 have eZ:(w.alloc (.cells #[.string ⟨#[]⟩,.slice none 0 0,.slice none 0 0,.bool false] 34)).alloc (.cells #[.string ⟨#[]⟩,.slice none 0 0,.slice none 0 0,.bool false] 34)=(w.alloc ZA).alloc ZA:=rfl
 rw [eZ]
 clear eZ c0 hpl
 generalize (w.alloc ZA).alloc ZA=w2 at *
 have HGE:=zH HI.out.ge
 generalize hR:w.heap.size=R at HI HGE ⊢
 generalize hO:R+1=O at HI HGE ⊢
 have HN:=zH (zA HI.out.np (zA HI.out.npa (zA HI.out.ne.1 HI.out.ne.2.1)))
 have HO:=zH (zA HI.out.rO HI.out.nO)
 have HS:=zH (fun w' (F:Nat→Prop) (t:Touch F w2 w') n1 n2=>HI.out.reads F t n1 n2)
 clear hR hO
 refine wp_region_noPanic ?_
 refine wp_region_held_drew (S:=(qbd s b p pa x ra rc)) (by kernel_rfl) ?hS9000 (fun hHeld => ?_)
 case hS9000=>(try dsimp only);exact HS.out _ (fun _=>False) (Touch.of_below (qai (Below.refl _ _))) id id
 refine tk 0 ?_ (hy:=by (intro w hSw;unfold qbd at hSw;go_simp;try with_reducible rfl))
 refine tk 1 ?_ (hy:=by (intro w hSw;unfold qbd at hSw;go_simp;try with_reducible rfl))
 refine tk 2 ?_ (hy:=by (intro w hSw;unfold qbd at hSw;go_simp;try with_reducible rfl))
 refine tk 3 ?_ (hy:=by (intro w hSw;unfold qbd at hSw;go_simp;try with_reducible rfl))
 refine tk 4 ?_ (hy:=by (intro w hSw;unfold qbd at hSw;go_simp;try with_reducible rfl))
 refine tk 5 ?_ (hy:=by (intro w hSw;unfold qbd at hSw;go_simp;try with_reducible rfl))
 refine tk 6 ?_ (hy:=by (intro w hSw;unfold qbd at hSw;go_simp;try with_reducible rfl))
 refine tk 7 ?_ (hy:=by (intro w hSw;unfold qbd at hSw;go_simp;try with_reducible rfl))
 refine tk 8 ?_ (hy:=by (intro w hSw;unfold qbd at hSw;go_simp;try with_reducible rfl))
 refine tk 9 ?_ (hy:=by (intro w hSw;unfold qbd at hSw;go_simp;try with_reducible rfl))
 refine tk 10 ?_ (hy:=by (intro w hSw;unfold qbd at hSw;go_simp;try with_reducible rfl))
 refine tk 11 ?_ (hy:=by (intro w hSw;unfold qbd at hSw;go_simp;try with_reducible rfl))
 refine tk 12 ?_ (hy:=by (intro w hSw;unfold qbd at hSw;go_simp;try with_reducible rfl))
 refine tk 13 ?_ (hy:=by (intro w hSw;unfold qbd at hSw;go_simp;try with_reducible rfl))
 refine tk 14 ?_ (hy:=by (intro w hSw;unfold qbd at hSw;go_simp;try with_reducible rfl))
 refine tk 15 ?_ (hy:=by (intro w hSw;unfold qbd at hSw;go_simp;try with_reducible rfl))
 refine tr 16 fun K hK => ?_
 go_simp
 go_at_call 59
 refine (HC.out _ (qai (Below.refl _ _))).mono ?_
 intro e w1 hout
 obtain ⟨va,vc,H1,rfl,hs1,st1,ho1,hf1⟩:=hout.read
 have ht1:=(Touch.of_below (F:=Mine s H) (qai (Below.refl w2.heap.size w2))).trans st1.touch
 obtain ⟨z0,z1,z2,z3,zf⟩:=row4 (ht1.at HO.out.1 HO.out.2)
 have hr1:=zH (zA hs1 (zA ((Step.of_below (qai (Below.refl w2.heap.size w2))).trans st1) (zA ho1 (zA hf1 ht1))))
 clear hs1 st1 ho1 hf1 ht1 hout
 go_wp2_with fail
 refine hK.out _ _ ?hS9016 (fun hHeld => ?_)
 case hS9016=>(try dsimp only);exact HS.out _ _ hr1.out.2.2.2.2 HN.out.1 HN.out.2.1
 clear hK K
 try simp only [Act.put,zS,zT,zU]
 refine tk 17 ?_ (hy:=by (intro w hSw;unfold qbd at hSw;go_simp;try with_reducible rfl))
 refine tk 18 ?_ (hy:=by (intro w hSw;unfold qbd at hSw;go_simp;try with_reducible rfl))
 refine tk 19 ?_ (hy:=by (intro w hSw;unfold qbd at hSw;go_simp;try with_reducible rfl))
 refine tk 20 ?_ (hy:=by (intro w hSw;unfold qbd at hSw;go_simp;try with_reducible rfl))
 refine tr 21 fun K hK => ?_
 go_simp
 refine hK.out _ _ ?hS9021 (fun hHeld => ?_)
 case hS9021=>(try dsimp only);exact HS.out _ (fun i=>Mine s H i∨i=O) ((hr1.out.2.2.2.2.mono fun i h=>.inl h).set _ _ _ (.inr rfl)) (fun h=>h.elim HN.out.1 HN.out.2.2.1) (fun h=>h.elim HN.out.2.1 HN.out.2.2.2)
 clear hK K
 try simp only [Act.put,zS,zT,zU]
 refine tk 22 ?_ (hy:=by (intro w hSw;unfold qbd at hSw;go_simp;try with_reducible rfl))
 refine wpAnyH_done (by kernel_rfl) ?_ _
 refine NoPanic.normal ?_
 have ho:=zH (zA (hr1.out.2.2.2.2.at HO.out.1 HO.out.2) (hr1.out.2.2.2.2.at HI.out.rR HI.out.nR))
 have rOa:(w1.setCell ⟨O,2,none⟩ (.slice va (outs t.2.2.2.2 t.2.2.2.1).length vc)).heap[O]? = _:=qag ho.out.1
 have ta:Touch (Only O) w1 (w1.setCell ⟨O,2,none⟩ (.slice va (outs t.2.2.2.2 t.2.2.2.1).length vc)):=(Touch.refl (Only O) w1).set O 2 _ rfl
 have HA:=zH (zA rOa (zA (ta.at ho.out.2 (fun e=>HI.out.ne.2.2.2.2 (show R=O from e).symm)) ta))
 clear rOa ta z0 z1 z2 z3 zf HC HS ho
 generalize w1.setCell ⟨O,2,none⟩ (.slice va (outs t.2.2.2.2 t.2.2.2.1).length vc)=wa at *
 obtain ⟨z0,z1,z2,z3,zf⟩:=row4 (show wa.heap[O]? = some (.cells #[.string ⟨#[]⟩,.slice none 0 0,.slice va (outs t.2.2.2.2 t.2.2.2.1).length vc,.bool false] 34 (0,0)) from HA.out.1)
 obtain ⟨y0,y1,y2,y3,yf⟩:=row4 HA.out.2.1
 go_wp2_with fail
 obtain ⟨q0,q1,q2,q3,qf⟩:=row4 (qbA HA.out.2.1 (.string ⟨#[]⟩) (.slice none 0 0) (.slice va (outs t.2.2.2.2 t.2.2.2.1).length vc) (.bool false))
 refine bodyPost_ret (v:=.tuple #[.agg #[.string ⟨#[]⟩,.slice none 0 0,.slice va (outs t.2.2.2.2 t.2.2.2.1).length vc,.bool false],.int .i64 t.2.2.2.2]) ?_ rfl ?_
 ·
  change (results _ _).run _ (put4 _ _ _ _ _ _)=_
  simp [results,Tryz.results32,go_sem,q0,q1,q2,q3]
  rfl
 ·
  exact qcT HI.out hr1.out.1 hr1.out.2.1 HF.out ⟨⟨#[]⟩,[],outs t.2.2.2.2 t.2.2.2.1,false⟩ t.2.2.2.2 none 0 va vc (World.ownsRow_nil _ _ _ _) (hr1.out.2.2.1) (fun g hg=>by simp [Value.ownBlock] at hg) (hr1.out.2.2.2.1) HA.out.2.2 (qaK wa R _ _ _ _)
theorem qwM (p pa:Nat) (W:Wld) (G:Nat→Prop) (x:qbV) (ba:Option Addr) (bc:Nat) (ra:Option Addr) (rc:Nat) (w:World) (h:qaz w p W G) (hx:qco w pa x ba bc ra rc) (hpa : ¬ G pa) (ok:W.m.Ok) (kn:W.m.Known) (g:W.q.Good) (fit:W.S.Fit) (hh:0<W.m.chip.busy.length→W.m.chip.home<w.heap.size) (hi:qak w ra x.reads G) (hcap:x.reads.length≤rc) (hm:x.reads.length≤1000000) (hv:x.value.size<140737488355328) (hat:0≤x.at_∧x.at_<4096) (hwi:0≤x.width∧x.width≤8) (hk:x.kind=4):Calls Tryz.prog 32 #[.pointer (some ⟨p,0,none⟩),.pointer (some ⟨pa,0,none⟩)] w (qa2 p ⟨(delR W.m W.q W.S x.key x.reads).1,(delR W.m W.q W.S x.key x.reads).2.1,(delR W.m W.q W.S x.key x.reads).2.2.1⟩ ⟨⟨#[]⟩,[],outs (delR W.m W.q W.S x.key x.reads).2.2.2.2 (delR W.m W.q W.S x.key x.reads).2.2.2.1,false⟩ (delR W.m W.q W.S x.key x.reads).2.2.2.2 G w):=by
 obtain ⟨s,k,c,b,H,z,I⟩:=qhe h hx hpa hh hi
 have c0:w.cell? ⟨pa,0,none⟩=some (.int .i64 4):=by rw [← hk];exact qaa hx 0
 have hpl:=qat hx
 have HI:=zH I
 have HC:=zH (fun w' (hb:Below ((w.alloc ZA).alloc ZA).heap.size ((w.alloc ZA).alloc ZA) w')=>qjN s k c b rc W.m W.q W.S H x.key ra x.reads w' (I.sys.later hb) ok g (fun hl=>Nat.lt_of_lt_of_le (I.home hl) hb.size) (I.ints.step (Step.of_below hb)) hcap hm fit)
 have HF:=zH (qoI ok g fit x.key x.reads).2.2
 generalize delR W.m W.q W.S x.key x.reads=t at *
 clear h I hx hpa hh hi hcap hm kn ok g fit hv hat hwi
 go_enter Tryz.func32,Tryz.ntmps32
 go_upto_region 13 with fail
 have eZ:(w.alloc (.cells #[.string ⟨#[]⟩,.slice none 0 0,.slice none 0 0,.bool false] 34)).alloc (.cells #[.string ⟨#[]⟩,.slice none 0 0,.slice none 0 0,.bool false] 34)=(w.alloc ZA).alloc ZA:=rfl
 rw [eZ]
 clear eZ c0 hpl
 generalize (w.alloc ZA).alloc ZA=w2 at *
 have HGE:=zH HI.out.ge
 generalize hR:w.heap.size=R at HI HGE ⊢
 generalize hO:R+1=O at HI HGE ⊢
 have HN:=zH (zA HI.out.np (zA HI.out.npa (zA HI.out.ne.1 HI.out.ne.2.1)))
 have HO:=zH (zA HI.out.rO HI.out.nO)
 have HS:=zH (fun w' (F:Nat→Prop) (t:Touch F w2 w') n1 n2=>HI.out.reads F t n1 n2)
 clear hR hO
 refine wp_region_noPanic ?_
 refine wp_region_held_drew (S:=(qbd s b p pa x ra rc)) (by kernel_rfl) ?hS13000 (fun hHeld => ?_)
 case hS13000=>(try dsimp only);exact HS.out _ (fun _=>False) (Touch.of_below (qai (Below.refl _ _))) id id
 refine tk 0 ?_ (hy:=by (intro w hSw;unfold qbd at hSw;go_simp;try with_reducible rfl))
 refine tk 1 ?_ (hy:=by (intro w hSw;unfold qbd at hSw;go_simp;try with_reducible rfl))
 refine tk 2 ?_ (hy:=by (intro w hSw;unfold qbd at hSw;go_simp;try with_reducible rfl))
 refine tk 3 ?_ (hy:=by (intro w hSw;unfold qbd at hSw;go_simp;try with_reducible rfl))
 refine tk 4 ?_ (hy:=by (intro w hSw;unfold qbd at hSw;go_simp;try with_reducible rfl))
 refine tk 5 ?_ (hy:=by (intro w hSw;unfold qbd at hSw;go_simp;try with_reducible rfl))
 refine tk 6 ?_ (hy:=by (intro w hSw;unfold qbd at hSw;go_simp;try with_reducible rfl))
 refine tk 7 ?_ (hy:=by (intro w hSw;unfold qbd at hSw;go_simp;try with_reducible rfl))
 refine tk 8 ?_ (hy:=by (intro w hSw;unfold qbd at hSw;go_simp;try with_reducible rfl))
 refine tk 9 ?_ (hy:=by (intro w hSw;unfold qbd at hSw;go_simp;try with_reducible rfl))
 refine tk 10 ?_ (hy:=by (intro w hSw;unfold qbd at hSw;go_simp;try with_reducible rfl))
 refine tk 11 ?_ (hy:=by (intro w hSw;unfold qbd at hSw;go_simp;try with_reducible rfl))
 refine tr 12 fun K hK => ?_
 go_simp
 go_at_call 61
 refine (HC.out _ (qai (Below.refl _ _))).mono ?_
 intro e w1 hout
 obtain ⟨va,vc,H1,rfl,hs1,st1,ho1,hf1⟩:=hout.read
 have ht1:=(Touch.of_below (F:=Mine s H) (qai (Below.refl w2.heap.size w2))).trans st1.touch
 obtain ⟨z0,z1,z2,z3,zf⟩:=row4 (ht1.at HO.out.1 HO.out.2)
 have hr1:=zH (zA hs1 (zA ((Step.of_below (qai (Below.refl w2.heap.size w2))).trans st1) (zA ho1 (zA hf1 ht1))))
 clear hs1 st1 ho1 hf1 ht1 hout
 go_wp2_with fail
 refine hK.out _ _ ?hS13012 (fun hHeld => ?_)
 case hS13012=>(try dsimp only);exact HS.out _ _ hr1.out.2.2.2.2 HN.out.1 HN.out.2.1
 clear hK K
 try simp only [Act.put,zS,zT,zU]
 refine tk 13 ?_ (hy:=by (intro w hSw;unfold qbd at hSw;go_simp;try with_reducible rfl))
 refine tk 14 ?_ (hy:=by (intro w hSw;unfold qbd at hSw;go_simp;try with_reducible rfl))
 refine tk 15 ?_ (hy:=by (intro w hSw;unfold qbd at hSw;go_simp;try with_reducible rfl))
 refine tk 16 ?_ (hy:=by (intro w hSw;unfold qbd at hSw;go_simp;try with_reducible rfl))
 refine tr 17 fun K hK => ?_
 go_simp
 refine hK.out _ _ ?hS13017 (fun hHeld => ?_)
 case hS13017=>(try dsimp only);exact HS.out _ (fun i=>Mine s H i∨i=O) ((hr1.out.2.2.2.2.mono fun i h=>.inl h).set _ _ _ (.inr rfl)) (fun h=>h.elim HN.out.1 HN.out.2.2.1) (fun h=>h.elim HN.out.2.1 HN.out.2.2.2)
 clear hK K
 try simp only [Act.put,zS,zT,zU]
 refine tk 18 ?_ (hy:=by (intro w hSw;unfold qbd at hSw;go_simp;try with_reducible rfl))
 refine wpAnyH_done (by kernel_rfl) ?_ _
 refine NoPanic.normal ?_
 have ho:=zH (zA (hr1.out.2.2.2.2.at HO.out.1 HO.out.2) (hr1.out.2.2.2.2.at HI.out.rR HI.out.nR))
 have rOa:(w1.setCell ⟨O,2,none⟩ (.slice va (outs t.2.2.2.2 t.2.2.2.1).length vc)).heap[O]? = _:=qag ho.out.1
 have ta:Touch (Only O) w1 (w1.setCell ⟨O,2,none⟩ (.slice va (outs t.2.2.2.2 t.2.2.2.1).length vc)):=(Touch.refl (Only O) w1).set O 2 _ rfl
 have HA:=zH (zA rOa (zA (ta.at ho.out.2 (fun e=>HI.out.ne.2.2.2.2 (show R=O from e).symm)) ta))
 clear rOa ta z0 z1 z2 z3 zf HC HS ho
 generalize w1.setCell ⟨O,2,none⟩ (.slice va (outs t.2.2.2.2 t.2.2.2.1).length vc)=wa at *
 obtain ⟨z0,z1,z2,z3,zf⟩:=row4 (show wa.heap[O]? = some (.cells #[.string ⟨#[]⟩,.slice none 0 0,.slice va (outs t.2.2.2.2 t.2.2.2.1).length vc,.bool false] 34 (0,0)) from HA.out.1)
 obtain ⟨y0,y1,y2,y3,yf⟩:=row4 HA.out.2.1
 go_wp2_with fail
 obtain ⟨q0,q1,q2,q3,qf⟩:=row4 (qbA HA.out.2.1 (.string ⟨#[]⟩) (.slice none 0 0) (.slice va (outs t.2.2.2.2 t.2.2.2.1).length vc) (.bool false))
 refine bodyPost_ret (v:=.tuple #[.agg #[.string ⟨#[]⟩,.slice none 0 0,.slice va (outs t.2.2.2.2 t.2.2.2.1).length vc,.bool false],.int .i64 t.2.2.2.2]) ?_ rfl ?_
 ·
  change (results _ _).run _ (put4 _ _ _ _ _ _)=_
  simp [results,Tryz.results32,go_sem,q0,q1,q2,q3]
  rfl
 ·
  exact qcT HI.out hr1.out.1 hr1.out.2.1 HF.out ⟨⟨#[]⟩,[],outs t.2.2.2.2 t.2.2.2.1,false⟩ t.2.2.2.2 none 0 va vc (World.ownsRow_nil _ _ _ _) (hr1.out.2.2.1) (fun g hg=>by simp [Value.ownBlock] at hg) (hr1.out.2.2.2.1) HA.out.2.2 (qaK wa R _ _ _ _)
end
end Go.Proofs.YtcfdenckiigdaaaGreat

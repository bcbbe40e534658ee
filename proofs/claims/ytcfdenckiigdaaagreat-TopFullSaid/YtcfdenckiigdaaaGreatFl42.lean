/- Part 42 of the contracts. -/
import Derived.Test.YtcfdenckiigdaaaGreatFl41
set_option linter.unusedVariables false
set_option maxRecDepth 100000
set_option maxHeartbeats 4000000
namespace Go.Proofs.YtcfdenckiigdaaaGreat
open Tryz
section
theorem Am {m:aG} {q:Cache} (ok:m.Ok) (g:q.Good) (sec:Int) (s0:4≤sec) (s1:sec<8) (reads:List Int):(jf m q sec reads).1.Ok∧(jf m q sec reads).2.1.Good∧bG m (jf m q sec reads).1:=by
 unfold jf
 split
 ·
  rename_i hr
  exact sK ok _ (by omega) (by omega) reads (fun x hx=>by have:=pe hr x hx;omega)
 ·
  exact ⟨ok,g,bG.refl m⟩
theorem JD (m:aG):4≤fM (og (fE m).2.1)∧fM (og (fE m).2.1)<8:=by
 cases h:(fE m).2.1 with
 | none=>decide
 | some s =>
  obtain ⟨h1,h2,_⟩:=look_ok (m:=m) (sec:=s.1) (V:=s.2) h
  exact rK h1 h2
theorem Gv {m:aG} (ok:m.Ok) {sec slot:Int} (s0:4≤sec) (s1:sec<8) (l0:0≤slot) (l1:slot<8) {r:aX} (hr:bC r=true):(m.dZ (bZ sec slot) (aL r)).1.Ok∧bG m (m.dZ (bZ sec slot) (aL r)).1 :=
 ⟨vY ok _ _ (by unfold bZ;omega) (by unfold bZ;omega) (fP r hr),nj _ _ _⟩
theorem Lc (m:aG):0≤qz (fE m).2.1:=by
 cases h:(fE m).2.1 with
 | none=>decide
 | some s =>
  obtain ⟨_,_,h3⟩:=look_ok (m:=m) (sec:=s.1) (V:=s.2) h
  have:=h3.an
  show 0≤s.2.an
  omega
theorem um {m:aG} {q:Cache} (ok:m.Ok) (g:q.Good) (reads:List Int):(cX m q reads).1.Ok∧(cX m q reads).2.1.Good∧bG m (cX m q reads).1:=by
 obtain ⟨o1,h1⟩:=xg ok
 obtain ⟨s0,s1⟩:=JD m
 have e0:=Lc m
 unfold cX
 generalize fE m=l at *
 unfold rq
 split
 ·
  exact ⟨o1,g,h1⟩
 ·
  unfold vx
  split
  ·
   exact ⟨o1,g,h1⟩
  ·
   rename_i hep
   obtain ⟨o2,g2,h2⟩:=Am o1 g _ s0 s1 reads
   generalize jf l.1 q (fM (og l.2.1)) reads=t at *
   unfold ru
   split
   ·
    exact ⟨o2,g2,h1.trans h2⟩
   ·
    obtain ⟨o3,h3⟩:=Gv o2 s0 s1 (show (0:Int)≤0 by decide) (show (0:Int)<8 by decide) (il (e:=qz l.2.1+1) (by omega) (by omega))
    generalize t.1.dZ (bZ (fM (og l.2.1)) 0) (aL (cR (qz l.2.1+1)))=b at *
    unfold pJ
    split <;> exact ⟨o3,g2,h1.trans (h2.trans h3)⟩
theorem qE {m:aG} (ok:m.Ok):(gz m).1.Ok∧bG m (gz m).1:=by
 obtain ⟨o1,h1⟩:=xg ok
 unfold gz
 generalize fE m=l at *
 unfold AT
 split
 ·
  exact ⟨o1,h1⟩
 ·
  split <;> exact ⟨o1,h1⟩
theorem DH {m:aG} {q:Cache} (ok:m.Ok) (g:q.Good) {p:fW} (pk:p.Ok) {reads:List Int} (hr:cY reads=true):(dY m q p reads).1.Ok∧(dY m q p reads).2.1.Good∧bG m (dY m q p reads).1:=by
 have ht:(firstT m q p reads).1.Ok∧(firstT m q p reads).2.1.Good∧bG m (firstT m q p reads).1:=by
  unfold firstT
  split
  ·
   rename_i hw
   have:=pk.dH
   exact Am ok g _ (by omega) (by omega) reads
  ·
   exact ⟨ok,g,bG.refl m⟩
 unfold dY
 generalize firstT m q p reads=t at *
 obtain ⟨o1,g1,h1⟩:=ht
 unfold pX
 split
 ·
  exact ⟨o1,g1,h1⟩
 ·
  obtain ⟨o2,h2⟩:=yP p.av pk.av.1 pk.av.2 (p.bI.zip p.aB) t.1 o1 (qT pk)
  generalize eL p.av (p.bI.zip p.aB) t.1=b at *
  unfold gi
  split
  ·
   exact ⟨o2,g1,h1.trans h2⟩
  ·
   split
   ·
    exact ⟨o2,g1,h1.trans h2⟩
   ·
    obtain ⟨o3,g3,h3⟩:=sj reads [] b.1 t.2.1 o2 g1 (fun x hx=>(pe hr x hx).1)
    exact ⟨o3,g3,h1.trans (h2.trans h3)⟩
theorem tY {m:aG} {q:Cache} (ok:m.Ok) (g:q.Good) {S:aA} (vk:S.view.Ok) (s0:4≤S.av) (s1:S.av<8) {r:aX} (hr:gW r) (reads:List Int):(dW m q S r reads).1.Ok∧(dW m q S r reads).2.1.Good∧bG m (dW m q S r reads).1:=by
 have hc:=fun he=>pH vk s0 s1 hr he
 unfold dW
 generalize cC S.view S.av r=c at *
 unfold vu
 split
 ·
  exact ⟨ok,g,bG.refl m⟩
 ·
  split
  ·
   exact ⟨ok,g,bG.refl m⟩
  ·
   rename_i h0
   split
   ·
    rename_i hrd
    have:=DH ok g (hc (by simpa using h0)) hrd
    generalize dY m q c.2 reads=t at *
    unfold rh
    split <;> exact this
   ·
    exact ⟨ok,g,bG.refl m⟩
theorem C3 {m:aG} {q:Cache} (ok:m.Ok) (g:q.Good) {S:aA} (fit:S.Fit) (key value:ByteArray) (reads:List Int):(jk m q S key value reads).1.Ok∧(jk m q S key value reads).2.1.Good∧bG m (jk m q S key value reads).1:=by
 unfold jk
 split
 ·
  exact ⟨ok,g,bG.refl m⟩
 ·
  rename_i h0
  split
  ·
   exact ⟨ok,g,bG.refl m⟩
  ·
   have hz:=ib (by simpa using h0)
   have hf:=j6 fit hz.1
   exact tY ok g hf.2.2 hf.1 hf.2.1 (qK hz.2.1 hz.2.2 (by omega)) reads
theorem BY {m:aG} {q:Cache} (ok:m.Ok) (g:q.Good) {S:aA} (fit:S.Fit) (key:ByteArray) (reads:List Int):(jg m q S key reads).1.Ok∧(jg m q S key reads).2.1.Good∧bG m (jg m q S key reads).1:=by
 unfold jg
 split
 ·
  exact ⟨ok,g,bG.refl m⟩
 ·
  rename_i h0
  have hz:=ib (by simpa using h0)
  have hf:=j6 fit hz.1
  exact tY ok g hf.2.2 hf.1 hf.2.1 (wM hz.2.1 hz.2.2) reads
end
section
open Go.RowKit
structure eH where
 value:ByteArray
 bS:List aK
 reads:List Int
 lost:Bool
def bg:eH:=⟨⟨#[]⟩,[],[],false⟩
def outs (er:Int) (out:List Int):List Int:=if er=0 then out else []
theorem dK.read {s k c b:Nat} {m:aG} {q:Cache} {S:aA} {out:List Int} {er:Int} {H:Nat→Prop} {w w':World} {e:Ending} (h:dK s k c b m q S out er H w e w') : ∃ a cp H',e=.returned (.tuple #[.slice a (outs er out).length cp,.int .i64 er])∧Sys (fun _=>False) w' s k c b m q S H'∧Step (bK s H) (bK s H') w w'∧w'.ownsRow w.heap.size 3 1 (.slice a (outs er out).length cp) (outs er out).length (aC (outs er out)) ∧ ∀ g,(Value.slice a (outs er out).length cp).ownBlock=some g → ¬ bK s H' g:=by
 obtain ⟨v,he,h0,H',hs,st,ho⟩:=h
 unfold outs
 by_cases hk:er=0
 ·
  obtain ⟨h1,h2⟩:=ho hk
  obtain ⟨a,cp,rfl⟩:=bF h1
  rw [if_pos hk]
  exact ⟨a,cp,H',he,hs,st,h1,h2⟩
 ·
  rw [if_neg hk]
  rw [h0 hk] at he
  exact ⟨Option.none,0,H',he,hs,st,zN,fun g hg=>by simp [Value.ownBlock] at hg⟩
def cD (s b p pa:Nat) (x:cd) (ra:Option Addr) (rc:Nat) (w':World):Prop:=w'.cell? ⟨p,2,none⟩=some (.pointer (some ⟨b,0,none⟩))∧w'.cell? ⟨p,3,none⟩=some (.pointer (some ⟨s,0,none⟩))∧w'.cell? ⟨pa,1,none⟩=some (.string x.key)∧w'.cell? ⟨pa,2,none⟩=some (.string x.value)∧w'.cell? ⟨pa,3,none⟩=some (.int .i64 x.at_)∧w'.cell? ⟨pa,4,none⟩=some (.int .i64 x.width)∧w'.cell? ⟨pa,8,none⟩=some (.slice ra x.reads.length rc)
theorem cD.of {w w':World} {s b p pa k c:Nat} {z:Int} {x:cd} {ba:Option Addr} {bc:Nat} {ra:Option Addr} {rc:Nat} (h1:jF w p c (some ⟨k,0,none⟩) (some ⟨b,0,none⟩) (some ⟨s,0,none⟩) z) (h2:fV w pa x ba bc ra rc) {F:Nat→Prop} (t:Touch F w w') (n1 : ¬ F p) (n2 : ¬ F pa):cD s b p pa x ra rc w':=by
 have k1:=t.at h1 n1
 have k2:fV w' pa x ba bc ra rc:=t.at h2 n2
 exact ⟨cell_of k1 2,cell_of k1 3,cell_of k2 1,cell_of k2 2,cell_of k2 3,cell_of k2 4,cell_of k2 8⟩
def eI (p:Nat) (W:ia) (A:eH) (er:Int) (G:Nat→Prop) (w:World) (e:Ending) (w':World):Prop :=
 ∃ pa pc ra rc,e=.returned (.tuple #[.agg #[.string A.value,.slice pa A.bS.length pc,.slice ra A.reads.length rc,.bool A.lost],.int .i64 er])∧w'.ownsRow w.heap.size 83 2 (.slice pa A.bS.length pc) A.bS.length (aE A.bS)∧w'.ownsRow w.heap.size 3 1 (.slice ra A.reads.length rc) A.reads.length (aC A.reads) ∧ ∃ G',cB w' p W G'∧Step G G' w w'∧(∀ g,(Value.slice pa A.bS.length pc).ownBlock=some g → ¬ G' g) ∧ ∀ g,(Value.slice ra A.reads.length rc).ownBlock=some g → ¬ G' g
def ZA:Obj:=.cells #[.string ⟨#[]⟩,.slice none 0 0,.slice none 0 0,.bool false] 34
theorem jN {w:World} {o:Nat} {t:ByteArray} {a b:Option Addr} {n m c d:Nat} {l:Bool} {ty:TypeId} (h:w.heap[o]? = some (.cells #[.string t,.slice a n c,.slice b m d,.bool l] ty (0,0))):Plain w o:=by
 refine ⟨fun i x e => ?_,fun u e=>by rw [cell_of h 1] at e;cases e⟩
 rw [cell_of h i] at e
 match i with
 | 0=>cases e
 | 1=>cases e
 | 2=>cases e
 | 3=>cases e
 | i+4=>simp at e
structure Fm (w w2:World) (p pa R O s k c b:Nat) (z:Int) (W:ia) (G H:Nat→Prop) (x:cd) (ba:Option Addr) (bc:Nat) (ra:Option Addr) (rc:Nat):Prop where
 sys:Sys (fun _=>False) w2 s k c b W.m W.q W.S H
 row:jF w2 p c (some ⟨k,0,none⟩) (some ⟨b,0,none⟩) (some ⟨s,0,none⟩) z
 act:fV w2 pa x ba bc ra rc
 rO:w2.heap[O]? = some ZA
 rR:w2.heap[R]? = some ZA
 nO : ¬ bK s H O
 nR : ¬ bK s H R
 np : ¬ bK s H p
 LU : ¬ bK s H pa
 ne:p≠O∧pa≠O∧p≠R∧pa≠R∧O≠R
 own : ∀ i,G i ↔ iV p s H i
 MQ:0<W.m.ar.busy.length→W.m.ar.home≠p
 below:Below w.heap.size w w2
 ge:w.heap.size≤O∧w.heap.size≤R∧O<w2.heap.size∧R<w2.heap.size∧p<w.heap.size
 home:0<W.m.ar.busy.length→W.m.ar.home<w2.heap.size
 ints:aN w2 ra x.reads H
theorem oA {w:World} {p pa:Nat} {W:ia} {G:Nat→Prop} {x:cd} {ba:Option Addr} {bc:Nat} {ra:Option Addr} {rc:Nat} (h:cB w p W G) (hx:fV w pa x ba bc ra rc) (hpa : ¬ G pa) (hh:0<W.m.ar.busy.length→W.m.ar.home<w.heap.size) (hi:aN w ra x.reads G) : ∃ s k c b H z,Fm w ((w.alloc ZA).alloc ZA) p pa w.heap.size (w.heap.size+1) s k c b z W G H x ba bc ra rc:=by
 obtain ⟨s,k,c,b,H,z,h1,h2,h3,h4,h5⟩:=h.ex
 have hb0:=ae (ae (Below.refl w.heap.size w) ZA) ZA
 have hpl:=aP hx
 have hpp:=aP h1
 have hlt : ∀ i,bK s H i→i<w.heap.size:=h2.lt
 have hsz:((w.alloc ZA).alloc ZA).heap.size=w.heap.size+2:=by simp
 have hO:((w.alloc ZA).alloc ZA).heap[w.heap.size+1]? = some ZA:=by simpa using af (w.alloc ZA) ZA
 refine ⟨s,k,c,b,H,z,h2.aj hb0,aa hb0 h1,aa hb0 hx,hO,aa (ae zR ZA) (af w ZA),fun hM => ?_,fun hM => ?_,h3,fun hM=>hpa ((h5 pa).2 (.inl hM)),⟨by omega,by omega,by omega,by omega,by omega⟩,h5,h4,hb0,⟨by omega,by omega,by omega,by omega,hpp⟩,fun hl => ?_,(hi.mono fun i hH=>(h5 i).2 (.inl (.inl hH))).step (Step.ah hb0)⟩
 ·
  have:=hlt _ hM;omega
 ·
  have:=hlt _ hM;omega
 ·
  have:=hh hl;omega
theorem jo {w w2 w1 wa w3:World} {p pa R O s k c b:Nat} {z:Int} {W:ia} {G H H1:Nat→Prop} {x:cd} {ba:Option Addr} {bc:Nat} {ra:Option Addr} {rc:Nat} (I:Fm w w2 p pa R O s k c b z W G H x ba bc ra rc) {m1:aG} {q1:Cache} {S1:aA} (hs:Sys (fun _=>False) w1 s k c b m1 q1 S1 H1) (st:Step (bK s H) (bK s H1) w2 w1) (hm:bG W.m m1) (A:eH) (er:Int) (pv:Option Addr) (pc:Nat) (rv:Option Addr) (cc:Nat) (h1:w1.ownsRow w2.heap.size 83 2 (.slice pv A.bS.length pc) A.bS.length (aE A.bS)) (h2:w1.ownsRow w2.heap.size 3 1 (.slice rv A.reads.length cc) A.reads.length (aC A.reads)) (n1 : ∀ g,(Value.slice pv A.bS.length pc).ownBlock=some g → ¬ bK s H1 g) (n2 : ∀ g,(Value.slice rv A.reads.length cc).ownBlock=some g → ¬ bK s H1 g) (t3:Touch (aO O) w1 wa) (t4:Touch (aO R) wa w3):eI p ⟨m1,q1,S1⟩ A er G w (.returned (.tuple #[.agg #[.string A.value,.slice pv A.bS.length pc,.slice rv A.reads.length cc,.bool A.lost],.int .i64 er])) w3:=by
 obtain ⟨g1,g2,g3,g4,g5⟩:=I.ge
 have z2:=I.below.size
 have nO1 : ¬ bK s H1 O:=st.safe g3 I.nO
 have nR1 : ¬ bK s H1 R:=st.safe g4 I.nR
 have rO1:w1.heap[O]? = some ZA:=st.aH.at I.rO I.nO
 have rR1:w1.heap[R]? = some ZA:=st.aH.at I.rR I.nR
 have rRa:wa.heap[R]? = some ZA:=t3.at rR1 (fun e=>I.ne.2.2.2.2 (show R=O from e).symm)
 have hs3:=(hs.plain t3 nO1 (jN rO1)).plain t4 nR1 (jN rRa)
 have rp1:jF w1 p c _ _ _ z:=st.aH.at I.row I.np
 have rpa:jF wa p c _ _ _ z:=t3.at rp1 (fun e=>I.ne.1 e)
 have rp3:jF w3 p c _ _ _ z:=t4.at rpa (fun e=>I.ne.2.2.1 e)
 have b2 : ∀ {t:TypeId} {sz n:Nat} {v:Value} {cs:List Value},w1.ownsRow w2.heap.size t sz v n cs→w3.ownsRow w.heap.size t sz v n cs ∧ ∀ g,v.ownBlock=some g→w2.heap.size≤g:=fun {t sz n v cs} ho=>by
  refine ⟨dE (dE (eX ho z2) t3 (fun g hg e => ?_)) t4 (fun g hg e => ?_),bQ ho⟩
  ·
   have:=bQ ho g hg;rw [show g=O from e] at this;omega
  ·
   have:=bQ ho g hg;rw [show g=R from e] at this;omega
 have hpw : ¬ bK s H1 p:=st.safe (zV g5 z2) I.np
 refine ⟨pv,pc,rv,cc,rfl,(b2 h1).1,(b2 h2).1,iV p s H1,⟨s,k,c,b,H1,z,rp3,hs3,hpw,fun hl => ?_,fun i=>Iff.rfl⟩,⟨?_,fun i hi => ?_⟩,fun g hg hw => ?_,fun g hg hw => ?_⟩
 ·
  rw [hm.1];exact I.MQ (zV hl hm.2)
 ·
  have e1:Touch G w w1:=(Touch.ah I.below).then st.aH (fun i hi=>.inl ((I.own i).2 (.inl hi)))
  have e2:Touch G w wa:=e1.then t3 (fun i hi=>.inr (by rw [show i=O from hi];exact g1))
  exact e2.then t4 (fun i hi=>.inr (by rw [show i=R from hi];exact g2))
 ·
  rcases hi with hi | hi
  ·
   exact (st.ik i hi).imp (fun h=>(I.own i).2 (.inl h)) (fun h=>Nat.le_trans z2 h)
  ·
   exact .inl ((I.own i).2 (.inr hi))
 ·
  rcases hw with hw | hw
  ·
   exact n1 g hg hw
  ·
   have:=(b2 h1).2 g hg;omega
 ·
  rcases hw with hw | hw
  ·
   exact n2 g hg hw
  ·
   have:=(b2 h2).2 g hg;omega
theorem Fm.reads {w w2 w':World} {p pa R O s k c b:Nat} {z:Int} {W:ia} {G H:Nat→Prop} {x:cd} {ba:Option Addr} {bc:Nat} {ra:Option Addr} {rc:Nat} (I:Fm w w2 p pa R O s k c b z W G H x ba bc ra rc) (F:Nat→Prop) (t:Touch F w2 w') (n1 : ¬ F p) (n2 : ¬ F pa):cD s b p pa x ra rc w':=cD.of I.row I.act t n1 n2
theorem MB (p pa:Nat) (W:ia) (G:Nat→Prop) (x:cd) (ba:Option Addr) (bc:Nat) (ra:Option Addr) (rc:Nat) (w:World) (h:cB w p W G) (hx:fV w pa x ba bc ra rc) (hpa : ¬ G pa) (ok:W.m.Ok) (kn:W.m.kS) (g:W.q.Good) (fit:W.S.Fit) (hh:0<W.m.ar.busy.length→W.m.ar.home<w.heap.size) (hi:aN w ra x.reads G) (hcap:x.reads.length≤rc) (hm:x.reads.length≤1000000) (hv:x.value.size<140737488355328) (hat:0≤x.at_∧x.at_<4096) (hwi:0≤x.width∧x.width≤8) (hk:x.kind=0):Calls prog 32 #[.pointer (some ⟨p,0,none⟩),.pointer (some ⟨pa,0,none⟩)] w (eI p ⟨(cX W.m W.q x.reads).1,(cX W.m W.q x.reads).2.1,(cX W.m W.q x.reads).2.2.1⟩ ⟨⟨#[]⟩,[],outs (cX W.m W.q x.reads).2.2.2.2 (cX W.m W.q x.reads).2.2.2.1,false⟩ (cX W.m W.q x.reads).2.2.2.2 G w):=by
 obtain ⟨s,k,c,b,H,z,I⟩:=oA h hx hpa hh hi
 have c0:w.cell? ⟨pa,0,none⟩=some (.int .i64 0):=by rw [← hk];exact cell_of hx 0
 have hpl:=aP hx
 have HI:=zH I
 have HC:=zH (fun w' (hb:Below ((w.alloc ZA).alloc ZA).heap.size ((w.alloc ZA).alloc ZA) w')=>AN s k c b rc W.m W.q W.S H ra x.reads w' (I.sys.aj hb) ok kn (fun hl=>zV (I.home hl) hb.size) (I.ints.step (Step.ah hb)) hcap hm)
 have HF:=zH (um ok g x.reads).2.2
 generalize cX W.m W.q x.reads=t at *
 clear h I hx hpa hh hi hcap hm kn ok g fit hv hat hwi
 go_enter func32,ntmps32
 go_upto_region 5 with fail
 have eZ:(w.alloc (.cells #[.string ⟨#[]⟩,.slice none 0 0,.slice none 0 0,.bool false] 34)).alloc (.cells #[.string ⟨#[]⟩,.slice none 0 0,.slice none 0 0,.bool false] 34)=(w.alloc ZA).alloc ZA:=rfl
 rw [eZ]
 clear eZ c0 hpl
 generalize (w.alloc ZA).alloc ZA=w2 at *
 have HGE:=zH HI.out.ge
 generalize hR:w.heap.size=R at HI HGE ⊢
 generalize hO:R+1=O at HI HGE ⊢
 have HN:=zH (zA HI.out.np (zA HI.out.LU (zA HI.out.ne.1 HI.out.ne.2.1)))
 have HO:=zH (zA HI.out.rO HI.out.nO)
 have HS:=zH (fun w' (F:Nat→Prop) (t:Touch F w2 w') n1 n2=>HI.out.reads F t n1 n2)
 clear hR hO
 refine wp_region_noPanic ?_
 refine wp_region_held_drew (S:=(cD s b p pa x ra rc)) (by kernel_rfl) (by (try dsimp only);exact HS.out _ (fun _=>False) (Touch.ah (au zR)) id id) fun hHeld => ?_
 refine tk 0 ?_ (hy:=by (intro w hSw;unfold cD at hSw;go_simp;try with_reducible rfl))
 refine tk 1 ?_ (hy:=by (intro w hSw;unfold cD at hSw;go_simp;try with_reducible rfl))
 refine tk 2 ?_ (hy:=by (intro w hSw;unfold cD at hSw;go_simp;try with_reducible rfl))
 refine tk 3 ?_ (hy:=by (intro w hSw;unfold cD at hSw;go_simp;try with_reducible rfl))
 refine tk 4 ?_ (hy:=by (intro w hSw;unfold cD at hSw;go_simp;try with_reducible rfl))
 refine tk 5 ?_ (hy:=by (intro w hSw;unfold cD at hSw;go_simp;try with_reducible rfl))
 refine tk 6 ?_ (hy:=by (intro w hSw;unfold cD at hSw;go_simp;try with_reducible rfl))
 refine tk 7 ?_ (hy:=by (intro w hSw;unfold cD at hSw;go_simp;try with_reducible rfl))
 refine tr 8 fun K hK => ?_
 go_simp
 go_at_call 57
 refine (HC.out _ (au zR)).mono ?_
 intro e w1 hout
 obtain ⟨va,vc,H1,rfl,hs1,st1,ho1,hf1⟩:=hout.read
 have ht1:=(Touch.ah (F:=bK s H) (au (Below.refl w2.heap.size w2))).trans st1.aH
 obtain ⟨z0,z1,z2,z3,zf⟩:=cF (ht1.at HO.out.1 HO.out.2)
 have hr1:=zH (zA hs1 (zA ((Step.ah (au (Below.refl w2.heap.size w2))).trans st1) (zA ho1 (zA hf1 ht1))))
 clear hs1 st1 ho1 hf1 ht1 hout
 go_wp2_with fail
 refine hK.out _ _ (by (try dsimp only);exact HS.out _ _ hr1.out.2.2.2.2 HN.out.1 HN.out.2.1) fun hHeld => ?_
 clear hK K
 try simp only [Act.put,zS,zT,zU]
 refine tk 9 ?_ (hy:=by (intro w hSw;unfold cD at hSw;go_simp;try with_reducible rfl))
 refine tk 10 ?_ (hy:=by (intro w hSw;unfold cD at hSw;go_simp;try with_reducible rfl))
 refine tk 11 ?_ (hy:=by (intro w hSw;unfold cD at hSw;go_simp;try with_reducible rfl))
 refine tk 12 ?_ (hy:=by (intro w hSw;unfold cD at hSw;go_simp;try with_reducible rfl))
 refine tr 13 fun K hK => ?_
 go_simp
 refine hK.out _ _ (by (try dsimp only);exact HS.out _ (fun i=>bK s H i∨i=O) ((hr1.out.2.2.2.2.mono fun i h=>.inl h).set _ _ _ (.inr rfl)) (fun h=>h.elim HN.out.1 HN.out.2.2.1) (fun h=>h.elim HN.out.2.1 HN.out.2.2.2)) fun hHeld => ?_
 clear hK K
 try simp only [Act.put,zS,zT,zU]
 refine tk 14 ?_ (hy:=by (intro w hSw;unfold cD at hSw;go_simp;try with_reducible rfl))
 refine wpAnyH_done (by kernel_rfl) ?_ _
 refine NoPanic.normal ?_
 have ho:=zH (zA (hr1.out.2.2.2.2.at HO.out.1 HO.out.2) (hr1.out.2.2.2.2.at HI.out.rR HI.out.nR))
 have rOa:(w1.setCell ⟨O,2,none⟩ (.slice va (outs t.2.2.2.2 t.2.2.2.1).length vc)).heap[O]? = _:=az ho.out.1
 have ta:Touch (aO O) w1 (w1.setCell ⟨O,2,none⟩ (.slice va (outs t.2.2.2.2 t.2.2.2.1).length vc)):=(Touch.refl (aO O) w1).set O 2 _ rfl
 have HA:=zH (zA rOa (zA (ta.at ho.out.2 (fun e=>HI.out.ne.2.2.2.2 (show R=O from e).symm)) ta))
 clear rOa ta z0 z1 z2 z3 zf HC HS ho
 generalize w1.setCell ⟨O,2,none⟩ (.slice va (outs t.2.2.2.2 t.2.2.2.1).length vc)=wa at *
 obtain ⟨z0,z1,z2,z3,zf⟩:=cF (show wa.heap[O]? = some (.cells #[.string ⟨#[]⟩,.slice none 0 0,.slice va (outs t.2.2.2.2 t.2.2.2.1).length vc,.bool false] 34 (0,0)) from HA.out.1)
 obtain ⟨y0,y1,y2,y3,yf⟩:=cF HA.out.2.1
 go_wp2_with fail
 obtain ⟨q0,q1,q2,q3,qf⟩:=cF (fb HA.out.2.1 (.string ⟨#[]⟩) (.slice none 0 0) (.slice va (outs t.2.2.2.2 t.2.2.2.1).length vc) (.bool false))
 refine bodyPost_ret (v:=.tuple #[.agg #[.string ⟨#[]⟩,.slice none 0 0,.slice va (outs t.2.2.2.2 t.2.2.2.1).length vc,.bool false],.int .i64 t.2.2.2.2]) ?_ rfl ?_
 ·
  change (results _ _).run _ (mr _ _ _ _ _ _)=_
  simp [results,results32,go_sem,q0,q1,q2,q3]
  rfl
 ·
  exact jo HI.out hr1.out.1 hr1.out.2.1 HF.out ⟨⟨#[]⟩,[],outs t.2.2.2.2 t.2.2.2.1,false⟩ t.2.2.2.2 none 0 va vc zN (hr1.out.2.2.1) (fun g hg=>by simp [Value.ownBlock] at hg) (hr1.out.2.2.2.1) HA.out.2.2 (cW wa R _ _ _ _)
theorem MD (p pa:Nat) (W:ia) (G:Nat→Prop) (x:cd) (ba:Option Addr) (bc:Nat) (ra:Option Addr) (rc:Nat) (w:World) (h:cB w p W G) (hx:fV w pa x ba bc ra rc) (hpa : ¬ G pa) (ok:W.m.Ok) (kn:W.m.kS) (g:W.q.Good) (fit:W.S.Fit) (hh:0<W.m.ar.busy.length→W.m.ar.home<w.heap.size) (hi:aN w ra x.reads G) (hcap:x.reads.length≤rc) (hm:x.reads.length≤1000000) (hv:x.value.size<140737488355328) (hat:0≤x.at_∧x.at_<4096) (hwi:0≤x.width∧x.width≤8) (hk:x.kind=2):Calls prog 32 #[.pointer (some ⟨p,0,none⟩),.pointer (some ⟨pa,0,none⟩)] w (eI p ⟨(jk W.m W.q W.S x.key x.value x.reads).1,(jk W.m W.q W.S x.key x.value x.reads).2.1,(jk W.m W.q W.S x.key x.value x.reads).2.2.1⟩ ⟨⟨#[]⟩,[],outs (jk W.m W.q W.S x.key x.value x.reads).2.2.2.2 (jk W.m W.q W.S x.key x.value x.reads).2.2.2.1,false⟩ (jk W.m W.q W.S x.key x.value x.reads).2.2.2.2 G w):=by
 obtain ⟨s,k,c,b,H,z,I⟩:=oA h hx hpa hh hi
 have c0:w.cell? ⟨pa,0,none⟩=some (.int .i64 2):=by rw [← hk];exact cell_of hx 0
 have hpl:=aP hx
 have HI:=zH I
 have HC:=zH (fun w' (hb:Below ((w.alloc ZA).alloc ZA).heap.size ((w.alloc ZA).alloc ZA) w')=>xS s k c b rc W.m W.q W.S H x.key x.value ra x.reads w' (I.sys.aj hb) ok g (fun hl=>zV (I.home hl) hb.size) (I.ints.step (Step.ah hb)) hcap hm hv fit)
 have HF:=zH (C3 ok g fit x.key x.value x.reads).2.2
 generalize jk W.m W.q W.S x.key x.value x.reads=t at *
 clear h I hx hpa hh hi hcap hm kn ok g fit hv hat hwi
 go_enter func32,ntmps32
 go_upto_region 9 with fail
 have eZ:(w.alloc (.cells #[.string ⟨#[]⟩,.slice none 0 0,.slice none 0 0,.bool false] 34)).alloc (.cells #[.string ⟨#[]⟩,.slice none 0 0,.slice none 0 0,.bool false] 34)=(w.alloc ZA).alloc ZA:=rfl
 rw [eZ]
 clear eZ c0 hpl
 generalize (w.alloc ZA).alloc ZA=w2 at *
 have HGE:=zH HI.out.ge
 generalize hR:w.heap.size=R at HI HGE ⊢
 generalize hO:R+1=O at HI HGE ⊢
 have HN:=zH (zA HI.out.np (zA HI.out.LU (zA HI.out.ne.1 HI.out.ne.2.1)))
 have HO:=zH (zA HI.out.rO HI.out.nO)
 have HS:=zH (fun w' (F:Nat→Prop) (t:Touch F w2 w') n1 n2=>HI.out.reads F t n1 n2)
 clear hR hO
 refine wp_region_noPanic ?_
 refine wp_region_held_drew (S:=(cD s b p pa x ra rc)) (by kernel_rfl) (by (try dsimp only);exact HS.out _ (fun _=>False) (Touch.ah (au zR)) id id) fun hHeld => ?_
 refine tk 0 ?_ (hy:=by (intro w hSw;unfold cD at hSw;go_simp;try with_reducible rfl))
 refine tk 1 ?_ (hy:=by (intro w hSw;unfold cD at hSw;go_simp;try with_reducible rfl))
 refine tk 2 ?_ (hy:=by (intro w hSw;unfold cD at hSw;go_simp;try with_reducible rfl))
 refine tk 3 ?_ (hy:=by (intro w hSw;unfold cD at hSw;go_simp;try with_reducible rfl))
 refine tk 4 ?_ (hy:=by (intro w hSw;unfold cD at hSw;go_simp;try with_reducible rfl))
 refine tk 5 ?_ (hy:=by (intro w hSw;unfold cD at hSw;go_simp;try with_reducible rfl))
 refine tk 6 ?_ (hy:=by (intro w hSw;unfold cD at hSw;go_simp;try with_reducible rfl))
 refine tk 7 ?_ (hy:=by (intro w hSw;unfold cD at hSw;go_simp;try with_reducible rfl))
 refine tk 8 ?_ (hy:=by (intro w hSw;unfold cD at hSw;go_simp;try with_reducible rfl))
 refine tk 9 ?_ (hy:=by (intro w hSw;unfold cD at hSw;go_simp;try with_reducible rfl))
 refine tk 10 ?_ (hy:=by (intro w hSw;unfold cD at hSw;go_simp;try with_reducible rfl))
 refine tk 11 ?_ (hy:=by (intro w hSw;unfold cD at hSw;go_simp;try with_reducible rfl))
 refine tk 12 ?_ (hy:=by (intro w hSw;unfold cD at hSw;go_simp;try with_reducible rfl))
 refine tk 13 ?_ (hy:=by (intro w hSw;unfold cD at hSw;go_simp;try with_reducible rfl))
 refine tk 14 ?_ (hy:=by (intro w hSw;unfold cD at hSw;go_simp;try with_reducible rfl))
 refine tk 15 ?_ (hy:=by (intro w hSw;unfold cD at hSw;go_simp;try with_reducible rfl))
 refine tr 16 fun K hK => ?_
 go_simp
 go_at_call 59
 refine (HC.out _ (au zR)).mono ?_
 intro e w1 hout
 obtain ⟨va,vc,H1,rfl,hs1,st1,ho1,hf1⟩:=hout.read
 have ht1:=(Touch.ah (F:=bK s H) (au (Below.refl w2.heap.size w2))).trans st1.aH
 obtain ⟨z0,z1,z2,z3,zf⟩:=cF (ht1.at HO.out.1 HO.out.2)
 have hr1:=zH (zA hs1 (zA ((Step.ah (au (Below.refl w2.heap.size w2))).trans st1) (zA ho1 (zA hf1 ht1))))
 clear hs1 st1 ho1 hf1 ht1 hout
 go_wp2_with fail
 refine hK.out _ _ (by (try dsimp only);exact HS.out _ _ hr1.out.2.2.2.2 HN.out.1 HN.out.2.1) fun hHeld => ?_
 clear hK K
 try simp only [Act.put,zS,zT,zU]
 refine tk 17 ?_ (hy:=by (intro w hSw;unfold cD at hSw;go_simp;try with_reducible rfl))
 refine tk 18 ?_ (hy:=by (intro w hSw;unfold cD at hSw;go_simp;try with_reducible rfl))
 refine tk 19 ?_ (hy:=by (intro w hSw;unfold cD at hSw;go_simp;try with_reducible rfl))
 refine tk 20 ?_ (hy:=by (intro w hSw;unfold cD at hSw;go_simp;try with_reducible rfl))
 refine tr 21 fun K hK => ?_
 go_simp
 refine hK.out _ _ (by (try dsimp only);exact HS.out _ (fun i=>bK s H i∨i=O) ((hr1.out.2.2.2.2.mono fun i h=>.inl h).set _ _ _ (.inr rfl)) (fun h=>h.elim HN.out.1 HN.out.2.2.1) (fun h=>h.elim HN.out.2.1 HN.out.2.2.2)) fun hHeld => ?_
 clear hK K
 try simp only [Act.put,zS,zT,zU]
 refine tk 22 ?_ (hy:=by (intro w hSw;unfold cD at hSw;go_simp;try with_reducible rfl))
 refine wpAnyH_done (by kernel_rfl) ?_ _
 refine NoPanic.normal ?_
 have ho:=zH (zA (hr1.out.2.2.2.2.at HO.out.1 HO.out.2) (hr1.out.2.2.2.2.at HI.out.rR HI.out.nR))
 have rOa:(w1.setCell ⟨O,2,none⟩ (.slice va (outs t.2.2.2.2 t.2.2.2.1).length vc)).heap[O]? = _:=az ho.out.1
 have ta:Touch (aO O) w1 (w1.setCell ⟨O,2,none⟩ (.slice va (outs t.2.2.2.2 t.2.2.2.1).length vc)):=(Touch.refl (aO O) w1).set O 2 _ rfl
 have HA:=zH (zA rOa (zA (ta.at ho.out.2 (fun e=>HI.out.ne.2.2.2.2 (show R=O from e).symm)) ta))
 clear rOa ta z0 z1 z2 z3 zf HC HS ho
 generalize w1.setCell ⟨O,2,none⟩ (.slice va (outs t.2.2.2.2 t.2.2.2.1).length vc)=wa at *
 obtain ⟨z0,z1,z2,z3,zf⟩:=cF (show wa.heap[O]? = some (.cells #[.string ⟨#[]⟩,.slice none 0 0,.slice va (outs t.2.2.2.2 t.2.2.2.1).length vc,.bool false] 34 (0,0)) from HA.out.1)
 obtain ⟨y0,y1,y2,y3,yf⟩:=cF HA.out.2.1
 go_wp2_with fail
 obtain ⟨q0,q1,q2,q3,qf⟩:=cF (fb HA.out.2.1 (.string ⟨#[]⟩) (.slice none 0 0) (.slice va (outs t.2.2.2.2 t.2.2.2.1).length vc) (.bool false))
 refine bodyPost_ret (v:=.tuple #[.agg #[.string ⟨#[]⟩,.slice none 0 0,.slice va (outs t.2.2.2.2 t.2.2.2.1).length vc,.bool false],.int .i64 t.2.2.2.2]) ?_ rfl ?_
 ·
  change (results _ _).run _ (mr _ _ _ _ _ _)=_
  simp [results,results32,go_sem,q0,q1,q2,q3]
  rfl
 ·
  exact jo HI.out hr1.out.1 hr1.out.2.1 HF.out ⟨⟨#[]⟩,[],outs t.2.2.2.2 t.2.2.2.1,false⟩ t.2.2.2.2 none 0 va vc zN (hr1.out.2.2.1) (fun g hg=>by simp [Value.ownBlock] at hg) (hr1.out.2.2.2.1) HA.out.2.2 (cW wa R _ _ _ _)
theorem MF (p pa:Nat) (W:ia) (G:Nat→Prop) (x:cd) (ba:Option Addr) (bc:Nat) (ra:Option Addr) (rc:Nat) (w:World) (h:cB w p W G) (hx:fV w pa x ba bc ra rc) (hpa : ¬ G pa) (ok:W.m.Ok) (kn:W.m.kS) (g:W.q.Good) (fit:W.S.Fit) (hh:0<W.m.ar.busy.length→W.m.ar.home<w.heap.size) (hi:aN w ra x.reads G) (hcap:x.reads.length≤rc) (hm:x.reads.length≤1000000) (hv:x.value.size<140737488355328) (hat:0≤x.at_∧x.at_<4096) (hwi:0≤x.width∧x.width≤8) (hk:x.kind=4):Calls prog 32 #[.pointer (some ⟨p,0,none⟩),.pointer (some ⟨pa,0,none⟩)] w (eI p ⟨(jg W.m W.q W.S x.key x.reads).1,(jg W.m W.q W.S x.key x.reads).2.1,(jg W.m W.q W.S x.key x.reads).2.2.1⟩ ⟨⟨#[]⟩,[],outs (jg W.m W.q W.S x.key x.reads).2.2.2.2 (jg W.m W.q W.S x.key x.reads).2.2.2.1,false⟩ (jg W.m W.q W.S x.key x.reads).2.2.2.2 G w):=by
 obtain ⟨s,k,c,b,H,z,I⟩:=oA h hx hpa hh hi
 have c0:w.cell? ⟨pa,0,none⟩=some (.int .i64 4):=by rw [← hk];exact cell_of hx 0
 have hpl:=aP hx
 have HI:=zH I
 have HC:=zH (fun w' (hb:Below ((w.alloc ZA).alloc ZA).heap.size ((w.alloc ZA).alloc ZA) w')=>xP s k c b rc W.m W.q W.S H x.key ra x.reads w' (I.sys.aj hb) ok g (fun hl=>zV (I.home hl) hb.size) (I.ints.step (Step.ah hb)) hcap hm fit)
 have HF:=zH (BY ok g fit x.key x.reads).2.2
 generalize jg W.m W.q W.S x.key x.reads=t at *
 clear h I hx hpa hh hi hcap hm kn ok g fit hv hat hwi
 go_enter func32,ntmps32
 go_upto_region 13 with fail
 have eZ:(w.alloc (.cells #[.string ⟨#[]⟩,.slice none 0 0,.slice none 0 0,.bool false] 34)).alloc (.cells #[.string ⟨#[]⟩,.slice none 0 0,.slice none 0 0,.bool false] 34)=(w.alloc ZA).alloc ZA:=rfl
 rw [eZ]
 clear eZ c0 hpl
 generalize (w.alloc ZA).alloc ZA=w2 at *
 have HGE:=zH HI.out.ge
 generalize hR:w.heap.size=R at HI HGE ⊢
 generalize hO:R+1=O at HI HGE ⊢
 have HN:=zH (zA HI.out.np (zA HI.out.LU (zA HI.out.ne.1 HI.out.ne.2.1)))
 have HO:=zH (zA HI.out.rO HI.out.nO)
 have HS:=zH (fun w' (F:Nat→Prop) (t:Touch F w2 w') n1 n2=>HI.out.reads F t n1 n2)
 clear hR hO
 refine wp_region_noPanic ?_
 refine wp_region_held_drew (S:=(cD s b p pa x ra rc)) (by kernel_rfl) (by (try dsimp only);exact HS.out _ (fun _=>False) (Touch.ah (au zR)) id id) fun hHeld => ?_
 refine tk 0 ?_ (hy:=by (intro w hSw;unfold cD at hSw;go_simp;try with_reducible rfl))
 refine tk 1 ?_ (hy:=by (intro w hSw;unfold cD at hSw;go_simp;try with_reducible rfl))
 refine tk 2 ?_ (hy:=by (intro w hSw;unfold cD at hSw;go_simp;try with_reducible rfl))
 refine tk 3 ?_ (hy:=by (intro w hSw;unfold cD at hSw;go_simp;try with_reducible rfl))
 refine tk 4 ?_ (hy:=by (intro w hSw;unfold cD at hSw;go_simp;try with_reducible rfl))
 refine tk 5 ?_ (hy:=by (intro w hSw;unfold cD at hSw;go_simp;try with_reducible rfl))
 refine tk 6 ?_ (hy:=by (intro w hSw;unfold cD at hSw;go_simp;try with_reducible rfl))
 refine tk 7 ?_ (hy:=by (intro w hSw;unfold cD at hSw;go_simp;try with_reducible rfl))
 refine tk 8 ?_ (hy:=by (intro w hSw;unfold cD at hSw;go_simp;try with_reducible rfl))
 refine tk 9 ?_ (hy:=by (intro w hSw;unfold cD at hSw;go_simp;try with_reducible rfl))
 refine tk 10 ?_ (hy:=by (intro w hSw;unfold cD at hSw;go_simp;try with_reducible rfl))
 refine tk 11 ?_ (hy:=by (intro w hSw;unfold cD at hSw;go_simp;try with_reducible rfl))
 refine tr 12 fun K hK => ?_
 go_simp
 go_at_call 61
 refine (HC.out _ (au zR)).mono ?_
 intro e w1 hout
 obtain ⟨va,vc,H1,rfl,hs1,st1,ho1,hf1⟩:=hout.read
 have ht1:=(Touch.ah (F:=bK s H) (au (Below.refl w2.heap.size w2))).trans st1.aH
 obtain ⟨z0,z1,z2,z3,zf⟩:=cF (ht1.at HO.out.1 HO.out.2)
 have hr1:=zH (zA hs1 (zA ((Step.ah (au (Below.refl w2.heap.size w2))).trans st1) (zA ho1 (zA hf1 ht1))))
 clear hs1 st1 ho1 hf1 ht1 hout
 go_wp2_with fail
 refine hK.out _ _ (by (try dsimp only);exact HS.out _ _ hr1.out.2.2.2.2 HN.out.1 HN.out.2.1) fun hHeld => ?_
 clear hK K
 try simp only [Act.put,zS,zT,zU]
 refine tk 13 ?_ (hy:=by (intro w hSw;unfold cD at hSw;go_simp;try with_reducible rfl))
 refine tk 14 ?_ (hy:=by (intro w hSw;unfold cD at hSw;go_simp;try with_reducible rfl))
 refine tk 15 ?_ (hy:=by (intro w hSw;unfold cD at hSw;go_simp;try with_reducible rfl))
 refine tk 16 ?_ (hy:=by (intro w hSw;unfold cD at hSw;go_simp;try with_reducible rfl))
 refine tr 17 fun K hK => ?_
 go_simp
 refine hK.out _ _ (by (try dsimp only);exact HS.out _ (fun i=>bK s H i∨i=O) ((hr1.out.2.2.2.2.mono fun i h=>.inl h).set _ _ _ (.inr rfl)) (fun h=>h.elim HN.out.1 HN.out.2.2.1) (fun h=>h.elim HN.out.2.1 HN.out.2.2.2)) fun hHeld => ?_
 clear hK K
 try simp only [Act.put,zS,zT,zU]
 refine tk 18 ?_ (hy:=by (intro w hSw;unfold cD at hSw;go_simp;try with_reducible rfl))
 refine wpAnyH_done (by kernel_rfl) ?_ _
 refine NoPanic.normal ?_
 have ho:=zH (zA (hr1.out.2.2.2.2.at HO.out.1 HO.out.2) (hr1.out.2.2.2.2.at HI.out.rR HI.out.nR))
 have rOa:(w1.setCell ⟨O,2,none⟩ (.slice va (outs t.2.2.2.2 t.2.2.2.1).length vc)).heap[O]? = _:=az ho.out.1
 have ta:Touch (aO O) w1 (w1.setCell ⟨O,2,none⟩ (.slice va (outs t.2.2.2.2 t.2.2.2.1).length vc)):=(Touch.refl (aO O) w1).set O 2 _ rfl
 have HA:=zH (zA rOa (zA (ta.at ho.out.2 (fun e=>HI.out.ne.2.2.2.2 (show R=O from e).symm)) ta))
 clear rOa ta z0 z1 z2 z3 zf HC HS ho
 generalize w1.setCell ⟨O,2,none⟩ (.slice va (outs t.2.2.2.2 t.2.2.2.1).length vc)=wa at *
 obtain ⟨z0,z1,z2,z3,zf⟩:=cF (show wa.heap[O]? = some (.cells #[.string ⟨#[]⟩,.slice none 0 0,.slice va (outs t.2.2.2.2 t.2.2.2.1).length vc,.bool false] 34 (0,0)) from HA.out.1)
 obtain ⟨y0,y1,y2,y3,yf⟩:=cF HA.out.2.1
 go_wp2_with fail
 obtain ⟨q0,q1,q2,q3,qf⟩:=cF (fb HA.out.2.1 (.string ⟨#[]⟩) (.slice none 0 0) (.slice va (outs t.2.2.2.2 t.2.2.2.1).length vc) (.bool false))
 refine bodyPost_ret (v:=.tuple #[.agg #[.string ⟨#[]⟩,.slice none 0 0,.slice va (outs t.2.2.2.2 t.2.2.2.1).length vc,.bool false],.int .i64 t.2.2.2.2]) ?_ rfl ?_
 ·
  change (results _ _).run _ (mr _ _ _ _ _ _)=_
  simp [results,results32,go_sem,q0,q1,q2,q3]
  rfl
 ·
  exact jo HI.out hr1.out.1 hr1.out.2.1 HF.out ⟨⟨#[]⟩,[],outs t.2.2.2.2 t.2.2.2.1,false⟩ t.2.2.2.2 none 0 va vc zN (hr1.out.2.2.1) (fun g hg=>by simp [Value.ownBlock] at hg) (hr1.out.2.2.2.1) HA.out.2.2 (cW wa R _ _ _ _)
end
end Go.Proofs.YtcfdenckiigdaaaGreat

/- Part 21 of the contracts. -/
import Derived.Test.YtcfdenckiigdaaaGreatFl20
set_option linter.unusedVariables false
set_option maxRecDepth 100000
set_option maxHeartbeats 4000000
namespace Go.Proofs.YtcfdenckiigdaaaGreat
open Tryz
section
open Go.RowKit
def sr (b:Nat) (a:Option Addr) (n cap:Nat) (v:Value):Array Value := #[.pointer (some ⟨b,0,none⟩),.slice a n cap,v]
structure oz (w:World) (N sv b:Nat) (a:Option Addr) (cap:Nat) (v:Value) (left out:List Int) (H:Nat→Prop):Prop where
 raw:w.heap[sv]? = some (.cells (sr b a left.length cap v) 222 (0,0))
 own:w.ownsRow N 3 1 v out.length (aC out)
 tu : ∀ g,v.ownBlock=some g→g≠sv ∧ ¬ H g
 ints:aN w a left H
 old : ∀ b' o',a=some ⟨b',o',none⟩→0<left.length→b'<N
 cap:left.length≤cap
 lo:N≤sv
 fB : ¬ H sv
theorem oz.step {w w':World} {N sv b:Nat} {a:Option Addr} {cap:Nat} {v:Value} {left out:List Int} {H H':Nat→Prop} (h:oz w N sv b a cap v left out H) (st:Step H H' w w'):oz w' N sv b a cap v left out H':=by
 have hl:sv<w.heap.size:=(Array.getElem?_eq_some_iff.1 h.raw).1
 exact ⟨(st.aH.block sv hl h.fB).trans h.raw,jK h.own st.aH (fun g hg=>(h.tu g hg).2),fun g hg=>⟨(h.tu g hg).1,st.safe (h.own.lt g hg).2 (h.tu g hg).2⟩,h.ints.step st,h.old,h.cap,h.lo,st.safe hl h.fB⟩
def lH (N:Nat) (H H':Nat→Prop) (w w':World):Prop:=Touch (fun i=>H i∨N≤i) w w' ∧ ∀ i,H' i→H i∨w.heap.size≤i
theorem lH.refl (N:Nat) (H:Nat→Prop) (w:World):lH N H H w w:=⟨Touch.refl _ _,fun _ h=>.inl h⟩
theorem lH.gd {N:Nat} {H H':Nat→Prop} {w w':World} (h:Step H H' w w'):lH N H H' w w':=⟨h.aH.mono fun _ h=>.inl h,h.ik⟩
theorem lH.trans {N:Nat} {H H' H'':Nat→Prop} {a b c:World} (hN:N≤a.heap.size) (h:lH N H H' a b) (k:lH N H' H'' b c):lH N H H'' a c :=
 ⟨h.1.then k.1 fun i hi=>by
  rcases hi with hi | hi
  ·
   exact (h.2 i hi).imp .inl id
  ·
   exact .inl (.inr hi),fun i hi=>(k.2 i hi).elim (h.2 i) fun hl=>.inr (Nat.le_trans h.1.size hl)⟩
theorem lH.step {H H1 H2:Nat→Prop} {w0 wr w':World} (h:Step H H1 w0 wr) (k:lH w0.heap.size H1 H2 wr w'):Step H H2 w0 w' :=
 ⟨h.aH.then k.1 fun i hi=>by
  rcases hi with hi | hi
  ·
   exact h.ik i hi
  ·
   exact .inr hi,fun i hi=>(k.2 i hi).elim (h.ik i) fun hl=>.inr (Nat.le_trans h.aH.size hl)⟩
def ss (sv:Nat) (v:Value) (i:Nat):Prop:=i=sv∨v.ownBlock=some i
theorem bO.grow {X Y:Nat→Prop} {w w':World} {k c:Nat} {m:aG} {G:Nat→Prop} (h:bO X w k c m G) (t:Touch X w w') (d : ∀ b,X b → ¬ G b) (hh:0<m.ar.busy.length → ¬ X m.ar.home) (hY : ∀ i,Y i→X i∨(w.heap.size≤i∧i<w'.heap.size)):bO Y w' k c m G:=by
 have h2:=h.fB t d hh (fun _ hx _=>.inr hx)
 obtain ⟨s2,f2,e2,h2⟩:=h2
 obtain ⟨s,f,e,h⟩:=h
 have es:s2=s:=by
  have a:=h2.raw
  have b:=(t.block k (h.lt k h.own) (fun hx=>d k hx h.own)).trans h.raw
  unfold fF at a
  rw [a] at b
  simp only [Option.some.injEq,Obj.cells.injEq,mz.row,Array.mk.injEq,List.cons.injEq,Value.pointer.injEq,Value.int.injEq,Value.bool.injEq,Addr.mk.injEq,and_true,true_and] at b
  obtain ⟨s2c,s20,s21,s22,s2p,s2i,s2l,s2g,s2f,s2o,o20,o21,o22,lv2⟩:=s2
  obtain ⟨sc,s0,s1,s2',sp,si,sl,sg,sf,so,o0,o1,o2,lv⟩:=s
  simp only at b
  obtain ⟨rfl,rfl,rfl,rfl,rfl,rfl,rfl,rfl,rfl,rfl,rfl,rfl,rfl,rfl⟩:=b
  rfl
 subst es
 refine ⟨s2,f2,e2,⟨h2.raw,h2.aD,h2.left,h2.lost,h2.ar,?_,h2.fB,h2.sub,h2.own,h2.home,h2.lt⟩⟩
 refine ⟨fun i hi=>(hY i hi).elim (fun hx=>h2.leave.1 i hx) (fun hl=>hl.2),?_⟩
 rcases h.leave.2 with hl | ⟨h0,h1,h2',b,e',hp⟩
 ·
  exact .inl hl
 ·
  rcases h2.leave.2 with hl | ⟨_,_,_,b9,e9,hp2⟩
  ·
   rw [h0] at hl;exact absurd hl.1 (by decide)
  rw [e'] at e9
  obtain rfl:b=b9:=by simpa using e9
  refine .inr ⟨h0,h1,h2',b,e',?_⟩
  obtain ⟨a,cc,hc,hn⟩:=hp.ph 0 (by simp)
  have hbl:b<w.heap.size:=zL w _ hc.c0
  refine ⟨fun hl hg => ?_,fun i hi => ?_⟩
  ·
   rcases hg with hg | hy
   ·
    exact hp2.fB hl (.inl hg)
   ·
    rcases hY b hy with hx | hx
    ·
     exact hp2.fB hl (.inr hx)
    ·
     omega
  ·
   obtain ⟨a2,c2,q1,q2⟩:=hp2.ph i hi
   have hi:i<1:=hi
   obtain rfl:i=0:=by omega
   refine ⟨a2,c2,q1,fun b' o' ea hl hg => ?_⟩
   rcases hg with hg | hy
   ·
    exact q2 b' o' ea hl (.inl hg)
   ·
    rcases hY b' hy with hx | hx
    ·
     exact q2 b' o' ea hl (.inr hx)
    ·
     have g1:=q1.c1
     have g2:=t.cell _ _ hc.c1 (fun hx=>hp.fB (by simp) (.inr hx))
     simp only [Nat.zero_mul,Nat.add_zero,Nat.zero_add] at g1 g2
     rw [g2] at g1
     have ha:a=a2:=by simp only [Option.some.injEq,Value.slice.injEq] at g1;exact g1.1
     obtain ⟨b3,o3,r1,r2⟩:=hc.ints.at (by decide)
     rw [ha,ea] at r1
     obtain ⟨rfl,rfl⟩:b'=b3∧o'=o3:=by simpa using r1
     have:=zL w _ (r2 0 (by decide))
     simp only at this
     omega
theorem fD.grow {X Y:Nat→Prop} {w w':World} {k c b:Nat} {m:aG} {q:Cache} {H:Nat→Prop} (h:fD X w k c b m q H) (t:Touch X w w') (d : ∀ i,X i → ¬ H i) (hh:0<m.ar.busy.length → ¬ X m.ar.home) (hY : ∀ i,Y i→X i∨(w.heap.size≤i∧i<w'.heap.size)):fD Y w' k c b m q H:=by
 obtain ⟨G,hc,⟨ab,ac,tb,tc,hw⟩,hH,hb⟩:=h.ex
 have hbl:b<w.heap.size:=(Array.getElem?_eq_some_iff.1 hw.raw).1
 have la:ab<w.heap.size:=zL w _ hw.a0
 have lt:tb<w.heap.size:=zL w _ hw.t0
 have nY : ∀ i,i<w.heap.size → ¬ (G i∨X i) → ¬ (G i∨Y i):=fun i hi hn hy=>hy.elim (fun hg=>hn (.inl hg)) (fun hy=>(hY i hy).elim (fun hx=>hn (.inr hx)) (fun hl=>by omega))
 exact ⟨⟨G,hc.grow t (fun i hi hg=>d i hi ((hH i).2 (.inl hg))) hh hY,⟨ab,ac,tb,tc,(t.block b hbl (fun hx=>hw.out.1 (.inr hx))).trans hw.raw,hw.cap,t.cell _ _ hw.a0 (fun hx=>hw.out.2.1 (.inr hx)),t.cell _ _ hw.a1 (fun hx=>hw.out.2.1 (.inr hx)),t.cell _ _ hw.t0 (fun hx=>hw.out.2.2 (.inr hx)),t.cell _ _ hw.t1 (fun hx=>hw.out.2.2 (.inr hx)),⟨nY b hbl hw.out.1,nY ab la hw.out.2.1,nY tb lt hw.out.2.2⟩,hw.na,hw.nt⟩,hH,hb⟩⟩
def dw (w:World) (N sv k c b:Nat) (m:aG) (q:Cache) (left out:List Int) (H:Nat→Prop):Prop :=
 ∃ a cap v,fD (ss sv v) w k c b m q H∧oz w N sv b a cap v left out H∧(0<m.ar.busy.length→m.ar.home<N)
def Ab (w:World) (sv:Nat) (H:Nat→Prop) (i:Nat):Prop:=H i∨i=sv ∨ ∃ v,w.cell? ⟨sv,2,none⟩=some v∧v.ownBlock=some i
theorem nP {w w':World} {N sv b:Nat} {a:Option Addr} {cap:Nat} {v:Value} {left out:List Int} {H H':Nat→Prop} (hS:oz w N sv b a cap v left out H) (st:Step H H' w w'):Step (Ab w sv H) (Ab w' sv H') w w' :=
 ⟨st.aH.mono fun i h=>.inl h,fun i h=>by
  rcases h with h | h | ⟨v',hv,hv2⟩
  ·
   exact (st.ik i h).imp .inl id
  ·
   exact .inl (.inr (.inl h))
  ·
   have e1:w.cell? ⟨sv,2,none⟩=some v:=cell_of hS.raw 2
   have e2:=st.aH.cell _ _ e1 hS.fB
   rw [hv] at e2
   obtain rfl:v'=v:=by simpa using e2
   exact .inl (.inr (.inr ⟨v',e1,hv2⟩))⟩
def cE (N sv:Nat) (H H':Nat→Prop) (w w':World):Prop:=lH N H H' w w'∧Step (Ab w sv H) (Ab w' sv H') w w'
theorem cE.refl (N sv:Nat) (H:Nat→Prop) (w:World):cE N sv H H w w:=⟨lH.refl _ _ _,Step.refl _ _⟩
theorem cE.trans {N sv:Nat} {H H' H'':Nat→Prop} {x y z:World} (h:cE N sv H H' x y) (hN:N≤x.heap.size) (k:cE N sv H' H'' y z):cE N sv H H'' x z:=⟨h.1.trans hN k.1,h.2.trans k.2⟩
theorem cE.gd {w w':World} {N sv k c b:Nat} {m:aG} {q:Cache} {left out:List Int} {H H':Nat→Prop} (h:dw w N sv k c b m q left out H) (st:Step H H' w w'):cE N sv H H' w w':=by
 obtain ⟨a,cap,v,hB,hS,hN⟩:=h
 exact ⟨lH.gd st,nP hS st⟩
def IJ (er:Int) (N sv k c b:Nat) (m:aG) (q:Cache) (left out:List Int) (H:Nat→Prop) (w:World) (e:Ending) (w':World):Prop :=
 e=.returned (.int .i64 er) ∧ ∃ H',dw w' N sv k c b m q left out H'∧cE N sv H H' w w'
theorem uO {w w':World} {r:Option Nat} (h:w.grownBy w' r):Touch (fun i=>r=some i) w w' :=
 ⟨h.os,h.tape,h.output,h.size,fun k hk hn=>h.block k hk (fun e=>hn e.symm)⟩
theorem Ac {w1 w3 w4:World} {N sv k c b ab ao ao' cap cap' g cp:Nat} {m:aG} {q:Cache} {x y:Int} {v:Value} {left out:List Int} {H:Nat→Prop} {O:Obj} (hB:fD (ss sv v) w1 k c b m q H) (hS:oz w1 N sv b (some ⟨ab,ao,none⟩) cap v (x::left) out H) (hN:0<m.ar.busy.length→m.ar.home<N) (hcap:left.length≤cap') (hao:0<left.length→ao'=ao+1) (hown:w3.ownsRow N 3 1 (.slice (some ⟨g,0,none⟩) (out.length+1) cp) (out.length+1) (aC out++[.int .i64 y])) (hgrow:((w1.setCell ⟨sv,1,none⟩ (.slice (some ⟨ab,ao',none⟩) left.length cap')).alloc O).grownBy w3 v.ownBlock) (hat:v.ownBlock=some g∨g=w1.heap.size+1) (hlt:g<w3.heap.size) (e4:w4=w3.setCell ⟨sv,2,none⟩ (.slice (some ⟨g,0,none⟩) (out.length+1) cp)):dw w4 N sv k c b m q left (out++[y]) H∧cE N sv H H w1 w4:=by
 have hsl:sv<w1.heap.size:=(Array.getElem?_eq_some_iff.1 hS.raw).1
 have habN:ab<N:=hS.old ab ao rfl (by simp)
 have tA:Touch (aO sv) w1 (w1.setCell ⟨sv,1,none⟩ (.slice (some ⟨ab,ao',none⟩) left.length cap')):=(Touch.refl _ _).set sv 1 _ rfl
 have hrA:(w1.setCell ⟨sv,1,none⟩ (.slice (some ⟨ab,ao',none⟩) left.length cap')).heap[sv]? = some (.cells (sr b (some ⟨ab,ao',none⟩) left.length cap' v) 222 (0,0)):=az (i:=1) (v:=.slice (some ⟨ab,ao',none⟩) left.length cap') hS.raw
 have hsA:(w1.setCell ⟨sv,1,none⟩ (.slice (some ⟨ab,ao',none⟩) left.length cap')).heap.size=w1.heap.size:=by simp
 generalize w1.setCell ⟨sv,1,none⟩ (.slice (some ⟨ab,ao',none⟩) left.length cap')=wA at *
 have tB:Touch (aO sv) w1 (wA.alloc O):=tA.then (Touch.ah (F:=aO sv) (ae zR _)) (fun i hi=>.inl hi)
 have hrB:(wA.alloc O).heap[sv]? = _:=aa (ae zR O) hrA
 have hsB:(wA.alloc O).heap.size=w1.heap.size+1:=by simp [hsA]
 have tX:Touch (ss sv v) w1 w3:=(tB.mono fun i hi=>.inl hi).trans ((uO hgrow).mono fun i hi=>.inr hi)
 have hns:v.ownBlock≠some sv:=fun e=>(hS.tu sv e).1 rfl
 have hr3:w3.heap[sv]? = some (.cells (sr b (some ⟨ab,ao',none⟩) left.length cap' v) 222 (0,0)):=(hgrow.block sv (by omega) (fun e=>hns e.symm)).trans hrB
 have hr4:=az (i:=2) (v:=.slice (some ⟨g,0,none⟩) (out.length+1) cp) hr3
 have t4:Touch (aO sv) w3 w4:=by rw [e4];exact (Touch.refl _ _).set sv 2 _ rfl
 have tX4:Touch (ss sv v) w1 w4:=tX.trans (t4.mono fun i hi=>.inl hi)
 rw [← e4] at hr4
 have hgs:g≠sv:=by rcases hat with e | e;exact (hS.tu g e).1;omega
 have hl4:w3.heap.size≤w4.heap.size:=t4.size
 have hgN:N≤g:=gL hown g rfl
 have hgH : ¬ H g:=by
  rcases hat with e | e
  ·
   exact (hS.tu g e).2
  ·
   intro hg
   obtain ⟨G,hc,⟨_,_,_,_,hw⟩,hH,_⟩:=hB.ex
   have hbl:b<w1.heap.size:=(Array.getElem?_eq_some_iff.1 hw.raw).1
   rcases (hH g).1 hg with hg | hg
   ·
    have:=hc.lt g hg;omega
   ·
    omega
 have nX : ∀ i,i<N → ¬ ss sv v i:=fun i hi hx=>by
  rcases hx with hx | hx
  ·
   have:=hS.lo;omega
  ·
   have:=gL hS.own i hx;omega
 have hXH : ∀ i,ss sv v i → ¬ H i:=fun i hx=>by
  rcases hx with hx | hx
  ·
   rw [hx];exact hS.fB
  ·
   exact (hS.tu i hx).2
 refine ⟨⟨some ⟨ab,ao',none⟩,cap',.slice (some ⟨g,0,none⟩) (out.length+1) cp,?_,?_,hN⟩,⟨tX4.mono fun i hx => ?_,fun i hi=>.inl hi⟩,tX4.mono fun i hx=>hx.elim (fun e=>.inr (.inl e)) (fun e=>.inr (.inr ⟨v,cell_of hS.raw 2,e⟩)),fun i hi => ?_⟩
 ·
  refine hB.grow tX4 hXH (fun hl=>nX _ (hN hl)) (fun i hi => ?_)
  rcases hi with hi | hi
  ·
   exact .inl (.inl hi)
  ·
   obtain rfl:g=i:=by simpa [Value.ownBlock] using hi
   rcases hat with e | e
   ·
    exact .inl (.inr e)
   ·
    exact .inr ⟨by omega,by omega⟩
 ·
  refine ⟨?_,?_,fun i hi => ?_,⟨fun i hi => ?_,fun b' o' e hl => ?_⟩,fun b' o' e hl => ?_,hcap,hS.lo,hS.fB⟩
  ·
   exact hr4
  ·
   rw [show (out++[y]).length=out.length+1 by simp,show aC (out++[y])=aC out++[.int .i64 y] by simp [aC]]
   exact jK hown t4 (fun i hi e=>by
    obtain rfl:g=i:=by simpa [Value.ownBlock] using hi
    exact hgs e)
  ·
   obtain rfl:g=i:=by simpa [Value.ownBlock] using hi
   exact ⟨hgs,hgH⟩
  ·
   obtain ⟨b2,o2,e2,h2⟩:=hS.ints.1 (i+1) (by simp;omega)
   obtain ⟨rfl,rfl⟩:ab=b2∧ao=o2:=by simpa using e2
   refine ⟨ab,ao',rfl,?_⟩
   rw [hao (by omega)]
   have h3:=tX4.cell _ _ h2 (nX ab habN)
   rw [show ao+1+i=ao+(i+1) by omega]
   simpa using h3
  ·
   obtain ⟨rfl,rfl⟩:ab=b'∧ao'=o':=by simpa using e
   exact hS.ints.2 ab ao rfl (by simp)
  ·
   obtain ⟨rfl,rfl⟩:ab=b'∧ao'=o':=by simpa using e
   exact habN
 ·
  rcases hx with hx | hx
  ·
   exact .inr (by rw [hx];exact hS.lo)
  ·
   exact .inr (gL hS.own i hx)
 ·
  rcases hi with hi | hi | ⟨v',hv,hv2⟩
  ·
   exact .inl (.inl hi)
  ·
   exact .inl (.inr (.inl hi))
  ·
   have e2:w4.cell? ⟨sv,2,none⟩=some (.slice (some ⟨g,0,none⟩) (out.length+1) cp):=cell_of hr4 2
   rw [hv] at e2
   obtain rfl:v'=.slice (some ⟨g,0,none⟩) (out.length+1) cp:=by simpa using e2
   obtain rfl:g=i:=by simpa [Value.ownBlock] using hv2
   rcases hat with e | e
   ·
    exact .inl (.inr (.inr ⟨v,cell_of hS.raw 2,e⟩))
   ·
    exact .inr (by omega)
def eQ (m:aG) (q:Cache) (x:Int) (left out:List Int):aG×Cache×List Int×List Int×Int :=
 if (bH m q x 1).2.2.2≠0 then ((bH m q x 1).1,(bH m q x 1).2.1,x::left,out,(bH m q x 1).2.2.2) else ((bH m q x 1).1,(bH m q x 1).2.1,left,out++[(bH m q x 1).2.2.1],0)
theorem zB (N sv k c b:Nat) (m:aG) (q:Cache) (x:Int) (left out:List Int) (H:Nat→Prop) (w:World) (h:dw w N sv k c b m q (x::left) out H) (ok:m.Ok) (g:q.Good) (x0:0≤x) (x1:x<4096) (ho:out.length≤1000):Calls prog 168 #[.pointer (some ⟨sv,0,none⟩)] w (IJ (eQ m q x left out).2.2.2.2 N sv k c b (eQ m q x left out).1 (eQ m q x left out).2.1 (eQ m q x left out).2.2.1 (eQ m q x left out).2.2.2.1 H w):=by
 obtain ⟨a,cap,v,hB,hS,hN⟩:=h
 obtain ⟨ab,ao,rfl,hint⟩:=hS.ints.1.at (by simp)
 have HSW:=zH hS
 have hSd:=hS.step (Step.ah (F:=H) (au (Below.refl w.heap.size w)))
 have HSV:=zH hSd
 have HRD:=zH (xw k c b m q H x 1 w.drew (hB.aj (au zR)) ok g x0 x1 (by decide) (by decide))
 have HHO:=zH (lC ok g x 1 x0).2.2
 have HSK:=zH (fun (H2:Nat→Prop) (w1:World) (st:Step H H2 w.drew w1)=>(show w1.cell? ⟨sv,0,none⟩=some (.pointer (some ⟨b,0,none⟩))∧w1.cell? ⟨sv,1,none⟩=some (.slice (some ⟨ab,ao,none⟩) (left.length+1) cap)∧w1.cell? ⟨ab,ao,none⟩=some (.int .i64 x) from ⟨cell_of (hSd.step st).raw 0,cell_of (hSd.step st).raw 1,by
   obtain ⟨b2,o2,e2,h2⟩:=(hSd.step st).ints.1 0 (by simp)
   obtain ⟨rfl,rfl⟩:ab=b2∧ao=o2:=by simpa using e2
   exact h2⟩))
 have HS0:=zH (HSK.out H w.drew (Step.refl _ _))
 have HN:=zH hN
 have HCAP:=zH hS.cap
 have hcap:left.length+1≤cap:=hS.cap
 obtain ⟨i0,hi,hz0,hz1,hz2⟩:=info_parts iK
 have HOV:=zH (show eQ m q x left out=if (bH m q x 1).2.2.2≠0 then ((bH m q x 1).1,(bH m q x 1).2.1,x::left,out,(bH m q x 1).2.2.2) else ((bH m q x 1).1,(bH m q x 1).2.1,left,out++[(bH m q x 1).2.2.1],0) from rfl)
 clear hB hS hN hint hSd ok g
 generalize eQ m q x left out=rr at *
 generalize bH m q x 1=rd at *
 obtain ⟨m1,q1,y,er⟩:=rd
 simp only at HRD HHO HOV
 by_cases he:er=0
 ·
  subst he
  go_enter func168,ntmps168
  go_wp2_with fail
  refine wp_region_noPanic ?_
  refine wp_region_held_drew (S:=(fun (v:World)=>v.cell? ⟨sv,0,none⟩=some (.pointer (some ⟨b,0,none⟩))∧v.cell? ⟨sv,1,none⟩=some (.slice (some ⟨ab,ao,none⟩) (left.length+1) cap)∧v.cell? ⟨ab,ao,none⟩=some (.int .i64 x))) (by kernel_rfl) (by (try dsimp only);exact HS0.out) fun hHeld => ?_
  refine tk 0 ?_
  refine tk 1 ?_
  refine tk 2 ?_
  refine tk 3 ?_
  refine tk 4 ?_
  refine tk 5 ?_
  refine tk 6 ?_
  refine tk 7 ?_
  refine tk 8 ?_
  refine tk 9 ?_
  refine tr 10 fun K hK => ?_
  go_simp
  refine HRD.out.mono ?_
  rintro e w1 ⟨rfl,H2,hB2,st⟩
  have hs1:=HSV.out.step st
  have H1:=zH (zA hB2 (zA hs1 st))
  have HS1:=zH (HSK.out H2 w1 st)
  clear hB2 hs1 st
  go_wp2_with fail
  refine hK.out _ _ (by (try dsimp only);exact HS1.out) fun hHeld => ?_
  clear hK K
  try simp only [Act.put,zS,zT,zU]
  refine tk 11 ?_
  refine tk 12 ?_
  refine tk 13 ?_
  refine tk 14 ?_
  refine tk 15 ?_
  refine wpAnyH_done (by kernel_rfl) ?_ _
  refine NoPanic.normal ?_
  by_cases hc1:cap=1
  ·
   subst hc1
   have hr:=H1.out.2.1.raw
   have c1:w1.cell? ⟨sv,1,none⟩=some (.slice (some ⟨ab,ao,none⟩) (left.length+1) (1)):=cell_of hr 1
   have f1:w1.frozen? ⟨sv,1,none⟩=false:=aF hr 1
   have hr2:(w1.setCell ⟨sv,1,none⟩ (.slice (some ⟨ab,ao,none⟩) left.length (0))).heap[sv]? = some (.cells (sr b (some ⟨ab,ao,none⟩) left.length (0) v) 222 (0,0)):=az (i:=1) (v:=.slice (some ⟨ab,ao,none⟩) left.length (0)) hr
   have tA:Touch (aO sv) w1 (w1.setCell ⟨sv,1,none⟩ (.slice (some ⟨ab,ao,none⟩) left.length (0))):=(Touch.refl _ _).set sv 1 _ rfl
   have hown:World.ownsRow (w1.setCell ⟨sv,1,none⟩ (.slice (some ⟨ab,ao,none⟩) left.length (0))) N 3 1 v out.length (aC out):=jK H1.out.2.1.own tA (fun g hg e=>(H1.out.2.1.tu g hg).1 e)
   have c2:(w1.setCell ⟨sv,1,none⟩ (.slice (some ⟨ab,ao,none⟩) left.length (0))).cell? ⟨sv,2,none⟩=some v:=cell_of hr2 2
   have HA:=zH (zA tA (zA hr2 hown))
   have hl1:(left.length+1:Nat) - 1=left.length:=by omega
   clear hown hr hr2 tA
   have hz63:out.length+1≤maxLen:=by unfold maxLen;omega
   have hz47:(out.length+1) * 8≤140737488355328:=by omega
   go_wp2_with (at_builtin;refine wpList_append_lies _ rfl (.tmp 34) (.tmp 36) 22 (by rfl) N 3 i0 (.int .i64 0) 1 8 underlying22 hi hz0 hz1 hz2 rfl (by decide) v out.length (aC out) (by rfl) (World.ownsRow.aj HA.out.2.2 (ae zR _)) ⟨w1.heap.size,0,none⟩ 1 1 [.int .i64 y] (by rfl) rfl ?nw1 ?on1 (by decide) hz63 hz47 ?bs1 (w1.heap.size+1) ?sz1 ?_)
   case nw1=>simpa using World.news_of_block (cs := #[.int .i64 y]) (t:=3) (fr:=(0,0)) (af (w1.setCell ⟨sv,1,none⟩ (.slice (some ⟨ab,ao,none⟩) left.length (0))) _)
   case on1=>simp [Value.oneCell']
   case bs1=>simp;have:=(Array.getElem?_eq_some_iff.1 H1.out.2.1.raw).1;have:=H1.out.2.1.lo;omega
   case sz1=>simp
   intro g cp w3 hown3 hgrow hat hlt3
   have HQ:=zH (zA hown3 (zA hgrow (zA hat hlt3)))
   have hsl:sv<w1.heap.size:=(Array.getElem?_eq_some_iff.1 H1.out.2.1.raw).1
   have hr3:w3.heap[sv]? = _:=(hgrow.block sv (by simp;omega) (fun e=>(H1.out.2.1.tu sv e.symm).1 rfl)).trans (aa (ae zR _) HA.out.2.1)
   have d2:w3.cell? ⟨sv,2,none⟩=some v:=cell_of hr3 2
   have f2:w3.frozen? ⟨sv,2,none⟩=false:=aF hr3 2
   have d0:w3.cell? ⟨sv,0,none⟩=some (.pointer (some ⟨b,0,none⟩)):=cell_of hr3 0
   clear hown3 hgrow hat hlt3 hr3 hsl
   go_wp2
   go_ret
   obtain ⟨hS9,hV9⟩:=Ac (y:=y) H1.out.1 H1.out.2.1 (fun hl=>by rw [HHO.out.1];exact HN.out (zV hl HHO.out.2)) (ao':=ao) (cap':=0) (by omega) (by omega) HQ.out.1 HQ.out.2.1 HQ.out.2.2.1 HQ.out.2.2.2 rfl
   rw [show rr=(m1,q1,left,out++[y],0) from HOV.out.trans (if_neg (by decide))]
   have hNs:N≤w.heap.size:=by have:=(Array.getElem?_eq_some_iff.1 HSV.out.raw).1;have:=HSV.out.lo;simp at *;omega
   have hst:=(Step.ah (F:=H) (au (Below.refl w.heap.size w))).trans H1.out.2.2
   exact ⟨rfl,H2,hS9,(lH.gd hst).trans hNs hV9.1,(nP HSW.out hst).trans hV9.2⟩
  ·
   have hcp:2≤cap:=by omega
   have hr:=H1.out.2.1.raw
   have c1:w1.cell? ⟨sv,1,none⟩=some (.slice (some ⟨ab,ao,none⟩) (left.length+1) (cap)):=cell_of hr 1
   have f1:w1.frozen? ⟨sv,1,none⟩=false:=aF hr 1
   have hr2:(w1.setCell ⟨sv,1,none⟩ (.slice (some ⟨ab,ao+1,none⟩) left.length (cap - 1))).heap[sv]? = some (.cells (sr b (some ⟨ab,ao+1,none⟩) left.length (cap - 1) v) 222 (0,0)):=az (i:=1) (v:=.slice (some ⟨ab,ao+1,none⟩) left.length (cap - 1)) hr
   have tA:Touch (aO sv) w1 (w1.setCell ⟨sv,1,none⟩ (.slice (some ⟨ab,ao+1,none⟩) left.length (cap - 1))):=(Touch.refl _ _).set sv 1 _ rfl
   have hown:World.ownsRow (w1.setCell ⟨sv,1,none⟩ (.slice (some ⟨ab,ao+1,none⟩) left.length (cap - 1))) N 3 1 v out.length (aC out):=jK H1.out.2.1.own tA (fun g hg e=>(H1.out.2.1.tu g hg).1 e)
   have c2:(w1.setCell ⟨sv,1,none⟩ (.slice (some ⟨ab,ao+1,none⟩) left.length (cap - 1))).cell? ⟨sv,2,none⟩=some v:=cell_of hr2 2
   have HA:=zH (zA tA (zA hr2 hown))
   have hl1:(left.length+1:Nat) - 1=left.length:=by omega
   clear hown hr hr2 tA
   have hz63:out.length+1≤maxLen:=by unfold maxLen;omega
   have hz47:(out.length+1) * 8≤140737488355328:=by omega
   go_wp2_with (at_builtin;refine wpList_append_lies _ rfl (.tmp 34) (.tmp 36) 22 (by rfl) N 3 i0 (.int .i64 0) 1 8 underlying22 hi hz0 hz1 hz2 rfl (by decide) v out.length (aC out) (by rfl) (World.ownsRow.aj HA.out.2.2 (ae zR _)) ⟨w1.heap.size,0,none⟩ 1 1 [.int .i64 y] (by rfl) rfl ?nw2 ?on2 (by decide) hz63 hz47 ?bs2 (w1.heap.size+1) ?sz2 ?_)
   case nw2=>simpa using World.news_of_block (cs := #[.int .i64 y]) (t:=3) (fr:=(0,0)) (af (w1.setCell ⟨sv,1,none⟩ (.slice (some ⟨ab,ao+1,none⟩) left.length (cap - 1))) _)
   case on2=>simp [Value.oneCell']
   case bs2=>simp;have:=(Array.getElem?_eq_some_iff.1 H1.out.2.1.raw).1;have:=H1.out.2.1.lo;omega
   case sz2=>simp
   intro g cp w3 hown3 hgrow hat hlt3
   have HQ:=zH (zA hown3 (zA hgrow (zA hat hlt3)))
   have hsl:sv<w1.heap.size:=(Array.getElem?_eq_some_iff.1 H1.out.2.1.raw).1
   have hr3:w3.heap[sv]? = _:=(hgrow.block sv (by simp;omega) (fun e=>(H1.out.2.1.tu sv e.symm).1 rfl)).trans (aa (ae zR _) HA.out.2.1)
   have d2:w3.cell? ⟨sv,2,none⟩=some v:=cell_of hr3 2
   have f2:w3.frozen? ⟨sv,2,none⟩=false:=aF hr3 2
   have d0:w3.cell? ⟨sv,0,none⟩=some (.pointer (some ⟨b,0,none⟩)):=cell_of hr3 0
   clear hown3 hgrow hat hlt3 hr3 hsl
   go_wp2
   go_ret
   obtain ⟨hS9,hV9⟩:=Ac (y:=y) H1.out.1 H1.out.2.1 (fun hl=>by rw [HHO.out.1];exact HN.out (zV hl HHO.out.2)) (ao':=ao+1) (cap':=cap - 1) (by omega) (by omega) HQ.out.1 HQ.out.2.1 HQ.out.2.2.1 HQ.out.2.2.2 rfl
   rw [show rr=(m1,q1,left,out++[y],0) from HOV.out.trans (if_neg (by decide))]
   have hNs:N≤w.heap.size:=by have:=(Array.getElem?_eq_some_iff.1 HSV.out.raw).1;have:=HSV.out.lo;simp at *;omega
   have hst:=(Step.ah (F:=H) (au (Below.refl w.heap.size w))).trans H1.out.2.2
   exact ⟨rfl,H2,hS9,(lH.gd hst).trans hNs hV9.1,(nP HSW.out hst).trans hV9.2⟩
 ·
  have he':(er != 0)=true:=bne_iff_ne.2 he
  have HE:=zH he
  clear he
  go_enter func168,ntmps168
  go_wp2_with fail
  refine wp_region_noPanic ?_
  refine wp_region_held_drew (S:=(fun (v:World)=>v.cell? ⟨sv,0,none⟩=some (.pointer (some ⟨b,0,none⟩))∧v.cell? ⟨sv,1,none⟩=some (.slice (some ⟨ab,ao,none⟩) (left.length+1) cap)∧v.cell? ⟨ab,ao,none⟩=some (.int .i64 x))) (by kernel_rfl) (by (try dsimp only);exact HS0.out) fun hHeld => ?_
  refine tk 0 ?_
  refine tk 1 ?_
  refine tk 2 ?_
  refine tk 3 ?_
  refine tk 4 ?_
  refine tk 5 ?_
  refine tk 6 ?_
  refine tk 7 ?_
  refine tk 8 ?_
  refine tk 9 ?_
  refine tr 10 fun K hK => ?_
  go_simp
  refine HRD.out.mono ?_
  rintro e w1 ⟨rfl,H2,hB2,st⟩
  have hs1:=HSV.out.step st
  have H1:=zH (zA hB2 (zA hs1 st))
  have HS1:=zH (HSK.out H2 w1 st)
  clear hB2 hs1 st
  go_wp2_with fail
  refine hK.out _ _ (by (try dsimp only);exact HS1.out) fun hHeld => ?_
  clear hK K
  try simp only [Act.put,zS,zT,zU]
  refine tk 11 ?_
  refine tk 12 ?_
  refine tk 13 ?_
  refine tk 14 ?_
  refine tk 15 ?_
  refine wpAnyH_done (by kernel_rfl) ?_ _
  refine NoPanic.normal ?_
  go_wp2
  go_ret
  rw [show rr=(m1,q1,x::left,out,er) from HOV.out.trans (if_pos HE.out)]
  refine ⟨rfl,H2,⟨_,cap,v,H1.out.1,H1.out.2.1,fun hl => ?_⟩,lH.gd ((Step.ah (au zR)).trans H1.out.2.2),nP HSW.out ((Step.ah (F:=H) (au (Below.refl w.heap.size w))).trans H1.out.2.2)⟩
  rw [HHO.out.1]
  exact HN.out (zV hl HHO.out.2)
end
section
open Go.RowKit
def dG:List Int→List Int→aG→Cache→aG×Cache×List Int×Int
 | [],out,m,q=>(m,q,out,0)
 | x::l,out,m,q=>if (bH m q x 1).2.2.2≠0 then ((bH m q x 1).1,(bH m q x 1).2.1,[],(bH m q x 1).2.2.2) else dG l (out++[(bH m q x 1).2.2.1]) (bH m q x 1).1 (bH m q x 1).2.1
theorem sj : ∀ (l out:List Int) (m:aG) (q:Cache),m.Ok→q.Good→(∀ x ∈ l,0≤x)→(dG l out m q).1.Ok∧(dG l out m q).2.1.Good∧bG m (dG l out m q).1
 | [],out,m,q,ok,g,h=>⟨ok,g,bG.refl m⟩
 | x::l,out,m,q,ok,g,h=>by
  obtain ⟨r1,r2,r3⟩:=lC ok g x 1 (h x (by simp))
  unfold dG
  split
  ·
   exact ⟨r1,r2,r3⟩
  ·
   obtain ⟨s1,s2,s3⟩:=sj l (out++[(bH m q x 1).2.2.1]) _ _ r1 r2 (fun y hy=>h y (by simp [hy]))
   exact ⟨s1,s2,r3.trans s3⟩
def oy (N:Nat) (k c b:Nat) (m:aG) (q:Cache) (out:List Int) (er:Int) (H:Nat→Prop) (w:World) (e:Ending) (w':World):Prop :=
 ∃ v,e=.returned (.tuple #[v,.int .i64 er]) ∧ ∃ H',fD (fun _=>False) w' k c b m q H'∧lH N H H' w w'∧(er≠0→v=.slice none 0 0)∧(er=0→w'.ownsRow N 3 1 v out.length (aC out) ∧ ∀ g,v.ownBlock=some g → ¬ H' g)
theorem fD.bare {X:Nat→Prop} {w:World} {k c b:Nat} {m:aG} {q:Cache} {H:Nat→Prop} (h:fD X w k c b m q H) (d : ∀ i,X i → ¬ H i) (hh:0<m.ar.busy.length → ¬ X m.ar.home):fD (fun _=>False) w k c b m q H :=
 h.grow (Touch.refl _ _) d hh (fun _ h=>h.elim)
theorem dw.bare {w:World} {N sv k c b:Nat} {m:aG} {q:Cache} {left out:List Int} {H:Nat→Prop} {a:Option Addr} {cap:Nat} {v:Value} (hB:fD (ss sv v) w k c b m q H) (hS:oz w N sv b a cap v left out H) (hN:0<m.ar.busy.length→m.ar.home<N):fD (fun _=>False) w k c b m q H:=by
 refine hB.bare (fun i hx => ?_) (fun hl hx => ?_)
 ·
  rcases hx with hx | hx
  ·
   rw [hx];exact hS.fB
  ·
   exact (hS.tu i hx).2
 ·
  have:=hN hl
  rcases hx with hx | hx
  ·
   have:=hS.lo;omega
  ·
   have:=gL hS.own _ hx;omega
theorem xA (N sv k c b:Nat) (m:aG) (q:Cache) (left out:List Int) (H:Nat→Prop) (w:World) (h:dw w N sv k c b m q left out H) (ok:m.Ok) (g:q.Good) (hx : ∀ x ∈ left,0≤x∧x<4096) (ho:out.length+left.length≤1000):Calls prog 131 #[.pointer (some ⟨sv,0,none⟩)] w (oy N k c b (dG left out m q).1 (dG left out m q).2.1 (dG left out m q).2.2.1 (dG left out m q).2.2.2 H w):=by
 have H0:=zH (zA h (zA ok (zA g (zA hx ho))))
 obtain ⟨rr,hrr⟩ : ∃ rr,rr=dG left out m q:=⟨_,rfl⟩
 rw [← hrr]
 have HV:=zH hrr
 have hNw:N≤w.heap.size:=by
  obtain ⟨a,cap,v,hB,hS,hN⟩:=h
  have:=(Array.getElem?_eq_some_iff.1 hS.raw).1
  have:=hS.lo;omega
 have HNW:=zH hNw
 clear h ok g hx ho hrr hNw
 go_enter func131,ntmps131
 go_wp2
 go_loopg [4] (left.length) (fun n s4 wr => ∃ (lj oj:List Int) (mj:aG) (qj:Cache) (Hj:Nat→Prop),n=lj.length∧dw wr N sv k c b mj qj lj oj Hj∧mj.Ok∧qj.Good∧(∀ x ∈ lj,0≤x∧x<4096)∧oj.length+lj.length≤1000∧lH N H Hj w wr∧rr=dG lj oj mj qj)
 case atStart=>exact ⟨left,out,m,q,H,rfl,H0.out.1,H0.out.2.1,H0.out.2.2.1,H0.out.2.2.2.1,H0.out.2.2.2.2,lH.refl _ _ _,HV.out⟩
 case round =>
  obtain ⟨lj,oj,mj,qj,Hj,hn,hS,hok,hg,hxs,hol,hov,hr⟩:=hrel
  cases lj with
  | nil =>
   obtain ⟨a,cap,v,hB,hS,hN⟩:=hS
   have hraw:=hS.raw
   have c1:wr.cell? ⟨sv,1,none⟩=some (.slice a 0 cap):=cell_of hraw 1
   have c2:wr.cell? ⟨sv,2,none⟩=some v:=cell_of hraw 2
   have HS:=zH (zA hB (zA hS (zA hN hov)))
   have HR:=zH (show rr=(mj,qj,oj,0) from hr)
   clear hB hS hN hraw hok hg hxs hol hov hr
   go_wp2
   go_ret2
   rw [HR.out]
   obtain ⟨hB,hS,hN,hov⟩:=HS.out
   exact ⟨v,rfl,Hj,dw.bare hB hS hN,hov,fun h=>absurd rfl h,fun _=>⟨hS.own,fun g hg=>(hS.tu g hg).2⟩⟩
  | cons x l =>
   have hone:=zB N sv k c b mj qj x l oj Hj wr hS hok hg (hxs x (by simp)).1 (hxs x (by simp)).2 (by simp at hol;omega)
   have hro:=lC hok hg x 1 (hxs x (by simp)).1
   obtain ⟨a,cap,v,hB,hSv,hN⟩:=hS
   have hraw:=hSv.raw
   have c1:wr.cell? ⟨sv,1,none⟩=some (.slice a (l.length+1) cap):=cell_of hraw 1
   have HONE:=zH hone
   have HRO:=zH hro
   have HR:=zH (show rr=if (bH mj qj x 1).2.2.2≠0 then ((bH mj qj x 1).1,(bH mj qj x 1).2.1,[],(bH mj qj x 1).2.2.2) else dG l (oj++[(bH mj qj x 1).2.2.1]) (bH mj qj x 1).1 (bH mj qj x 1).2.1 from hr)
   have HX:=zH (zA hxs (zA hol hov))
   have hl0:(0:Int)<((l.length+1:Nat):Int):=by omega
   clear hone hro hB hSv hN hraw hok hg hxs hol hov hr
   unfold eQ at HONE
   generalize bH mj qj x 1=rd at *
   obtain ⟨m1,q1,y,er⟩:=rd
   simp only at HONE HRO HR
   by_cases he:er=0
   ·
    subst he
    rw [if_neg (by decide)] at HONE
    go_wp2_with fail
    refine HONE.out.mono ?_
    rintro e w2 ⟨rfl,H2,hS2,hO2,hT2⟩
    have HS2:=zH (zA hS2 hO2)
    clear hS2 hO2 hT2
    go_wp2
    go_roundg l.length
    case rel=>exact ⟨l,oj++[y],m1,q1,H2,rfl,HS2.out.1,HRO.out.1,HRO.out.2.1,fun x' hx'=>HX.out.1 x' (by simp [hx']),by have:=HX.out.2.1;simp at this ⊢;omega,HX.out.2.2.trans HNW.out HS2.out.2,HR.out.trans (if_neg (by decide))⟩
    case measure=>rw [hn];simp
   ·
    have he':(er != 0)=true:=bne_iff_ne.2 he
    have HE:=zH he
    rw [if_pos he] at HONE
    clear he
    go_wp2_with fail
    refine HONE.out.mono ?_
    rintro e w2 ⟨rfl,H2,hS2,hO2,hT2⟩
    have HS2:=zH (zA hS2 hO2)
    clear hS2 hO2 hT2
    go_wp2
    go_ret2
    rw [show rr=(m1,q1,[],er) from HR.out.trans (if_pos HE.out)]
    obtain ⟨⟨a2,cap2,v2,hB,hS,hN⟩,hO2⟩:=HS2.out
    exact ⟨_,rfl,H2,dw.bare hB hS hN,HX.out.2.2.trans HNW.out hO2,fun _=>rfl,fun h=>absurd h HE.out⟩
theorem De {w:World} {k c b cap:Nat} {m:aG} {q:Cache} {H:Nat→Prop} {a:Option Addr} {reads:List Int} (h:fD (fun _=>False) w k c b m q H) (hi:aN w a reads H) (hc:reads.length≤cap) (hh:0<m.ar.busy.length→m.ar.home<w.heap.size):dw (w.alloc (.cells #[.pointer (some ⟨b,0,none⟩),.slice a reads.length cap,.slice none 0 0] 222)) w.heap.size w.heap.size k c b m q reads [] H:=by
 have hb:Below w.heap.size w (w.alloc (.cells #[.pointer (some ⟨b,0,none⟩),.slice a reads.length cap,.slice none 0 0] 222)):=ae zR _
 have hlt : ∀ i,H i→i<w.heap.size:=fun i hi=>by
  obtain ⟨G,hc,⟨_,_,_,_,hw⟩,hH,_⟩:=h.ex
  rcases (hH i).1 hi with hg | hg
  ·
   exact hc.lt i hg
  ·
   rw [hg];exact (Array.getElem?_eq_some_iff.1 hw.raw).1
 refine ⟨a,cap,.slice none 0 0,?_,⟨af w _,zN,fun g hg=>by simp [Value.ownBlock] at hg,hi.step (Step.ah hb),fun b' o' e hl => ?_,hc,Nat.le_refl _,fun hf=>Nat.lt_irrefl _ (hlt _ hf)⟩,hh⟩
 ·
  refine h.grow (Touch.ah hb) (fun _ h=>h.elim) (fun _ h=>h) (fun i hi => ?_)
  rcases hi with hi | hi
  ·
   exact .inr ⟨by omega,by rw [hi];simp⟩
  ·
   simp [Value.ownBlock] at hi
 ·
  obtain ⟨b2,o2,e2,h2⟩:=hi.1 0 hl
  rw [e] at e2
  obtain ⟨rfl,rfl⟩:b'=b2∧o'=o2:=by simpa using e2
  exact zL w _ h2
theorem oy.under {k c b:Nat} {m:aG} {q:Cache} {out:List Int} {er:Int} {H:Nat→Prop} {w0 w:World} {e:Ending} {w':World} (h:oy w0.heap.size k c b m q out er H w e w') (hb:Below w0.heap.size w0 w) : ∃ v,e=.returned (.tuple #[v,.int .i64 er]) ∧ ∃ H',fD (fun _=>False) w' k c b m q H'∧Step H H' w0 w'∧(er≠0→v=.slice none 0 0)∧(er=0→w'.ownsRow w0.heap.size 3 1 v out.length (aC out) ∧ ∀ g,v.ownBlock=some g → ¬ H' g):=by
 obtain ⟨v,e1,H',hB,hO,h1,h2⟩:=h
 exact ⟨v,e1,H',hB,lH.step (Step.ah hb) hO,h1,h2⟩
def vL (k c b:Nat) (m:aG) (q:Cache) (out:List Int) (er:Int) (H:Nat→Prop) (w:World) (e:Ending) (w':World):Prop :=
 ∃ v,e=.returned (.tuple #[v,.int .i64 er]) ∧ ∃ H',fD (fun _=>False) w' k c b m q H'∧Step H H' w w'∧(er≠0→v=.slice none 0 0)∧(er=0→w'.ownsRow w.heap.size 3 1 v out.length (aC out) ∧ ∀ g,v.ownBlock=some g → ¬ H' g)
theorem yC (k c b cap:Nat) (m:aG) (q:Cache) (a:Option Addr) (reads:List Int) (H:Nat→Prop) (w:World) (h:fD (fun _=>False) w k c b m q H) (ok:m.Ok) (g:q.Good) (hi:aN w a reads H) (hc:reads.length≤cap) (hh:0<m.ar.busy.length→m.ar.home<w.heap.size) (hx : ∀ x ∈ reads,0≤x∧x<4096) (hl:reads.length≤16):Calls prog 174 #[.pointer (some ⟨b,0,none⟩),.slice a reads.length cap] w (vL k c b (dG reads [] m q).1 (dG reads [] m q).2.1 (dG reads [] m q).2.2.1 (dG reads [] m q).2.2.2 H w):=by
 have HS:=zH (xA w.heap.size w.heap.size k c b m q reads [] H _ (De h hi hc hh) ok g hx (by simp;omega))
 have HB:=zH (ae (Below.refl w.heap.size w) (.cells #[.pointer (some ⟨b,0,none⟩),.slice a reads.length cap,.slice none 0 0] 222))
 clear h ok g hi hh hx
 generalize dG reads [] m q=rr at *
 go_enter func174,ntmps174
 go_wp2_with fail
 refine HS.out.mono ?_
 rintro e w2 hp
 obtain ⟨v,rfl,H',h1⟩:=hp.under HB.out
 have H1:=zH h1
 clear h1 hp
 go_wp2
 go_ret2
 exact ⟨v,rfl,H',H1.out⟩
end
end Go.Proofs.YtcfdenckiigdaaaGreat

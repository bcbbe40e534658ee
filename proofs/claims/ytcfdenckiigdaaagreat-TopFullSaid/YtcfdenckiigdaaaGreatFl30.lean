/- Part 30 of the contracts. -/
import Derived.Test.YtcfdenckiigdaaaGreatFl29
set_option linter.unusedVariables false
set_option maxRecDepth 100000
set_option maxHeartbeats 4000000
namespace Go.Proofs.YtcfdenckiigdaaaGreat
open Tryz
section
open Go.RowKit
variable {X:Nat→Prop}
theorem fD.odd {w w':World} {k c b s:Nat} {m:aG} {q:Cache} {H:Nat→Prop} (h:fD X w k c b m q H) (t:Touch (aO s) w w') (hn : ¬ H s) (o:L1 w s) (hh:0<m.ar.busy.length→m.ar.home≠s):fD X w' k c b m q H:=by
 obtain ⟨G,hc,⟨ab,ac,tb,tc,hw⟩,hH,hb⟩:=h.ex
 obtain ⟨p,hp⟩:=o.ptr
 have na : ¬ aO s ab:=fun e=>by
  have e:ab=s:=e
  have:=hw.a0
  rw [e,hp] at this;cases this
 have nt : ¬ aO s tb:=fun e=>by
  have e:tb=s:=e
  have:=hw.t0
  rw [e,hp] at this;cases this
 have nb : ¬ aO s b:=fun e=>hn ((hH s).2 (.inr e.symm))
 have hbl:b<w.heap.size:=(Array.getElem?_eq_some_iff.1 hw.raw).1
 exact ⟨⟨G,hc.fB t (fun x hx hg=>by rw [show x=s from hx] at hg;exact hn ((hH s).2 (.inl hg))) (fun hl hx=>hh hl hx) (fun x hx _=>by rw [show x=s from hx];exact .inl o),⟨ab,ac,tb,tc,(t.block b hbl nb).trans hw.raw,hw.cap,t.cell _ _ hw.a0 na,t.cell _ _ hw.a1 na,t.cell _ _ hw.t0 nt,t.cell _ _ hw.t1 nt,hw.out,hw.na,hw.nt⟩,hH,hb⟩⟩
theorem fD.lt {w:World} {k c b:Nat} {m:aG} {q:Cache} {H:Nat→Prop} (h:fD X w k c b m q H) : ∀ i,H i→i<w.heap.size:=fun i hi=>by
 obtain ⟨G,hc,⟨_,_,_,_,hw⟩,hH,_⟩:=h.ex
 rcases (hH i).1 hi with hg | hg
 ·
  exact hc.lt i hg
 ·
  rw [hg];exact (Array.getElem?_eq_some_iff.1 hw.raw).1
structure aA where
 opened : Bool
 av:Int
 view:bB
def cH:bB:=⟨false,0,[],0⟩
def shut:aA:=⟨false,0,cH⟩
def sG (k b:Nat) (S:aA) (a:Option Addr) (cp:Nat):Array Value := #[.pointer (some ⟨k,0,none⟩),.pointer (some ⟨b,0,none⟩),.bool S.opened,.int .i64 S.av,.bool S.view.cn,.int .i64 S.view.an,.slice a S.view.aB.length cp,.int .i64 S.view.free]
structure dU (w:World) (a:Option Addr) (cp:Nat) (rs:List aX) (F:Nat→Prop):Prop where
 at_:aT w (.slice a rs.length cp) rs.length 4 (bp rs)
 fB : ∀ x o f,a=some ⟨x,o,f⟩→0<rs.length → ¬ F x
theorem dU.lt {w:World} {a:Option Addr} {cp:Nat} {rs:List aX} {F:Nat→Prop} (h:dU w a cp rs F) : ∀ x o f,a=some ⟨x,o,f⟩→0<rs.length→x<w.heap.size:=by
 intro x o f e hl
 rcases h.at_.ex with ⟨_,h0⟩ | ⟨b,o',c,hv,hc,hx⟩
 ·
  omega
 ·
  have hlen:0<(bp rs).length:=by rw [lT];omega
  have:=zL w _ (hx 0 _ (List.getElem?_eq_getElem hlen))
  simp only [Value.slice.injEq] at hv
  rw [hv.1] at e
  obtain ⟨rfl,_⟩:b=x∧_:=by simpa using e
  exact this
theorem dU.step {w w':World} {a:Option Addr} {cp:Nat} {rs:List aX} {F G:Nat→Prop} (h:dU w a cp rs F) (st:Step F G w w'):dU w' a cp rs G:=by
 have hl:=h.lt
 refine ⟨⟨h.at_.len,?_⟩,fun x o f e h0=>st.safe (hl x o f e h0) (h.fB x o f e h0)⟩
 rcases h.at_.ex with h0 | ⟨b,o,c,hv,hc,hx⟩
 ·
  exact .inl h0
 ·
  refine .inr ⟨b,o,c,hv,hc,fun i u hu => ?_⟩
  have hv':a=some ⟨b,o,none⟩:=by simp only [Value.slice.injEq] at hv;exact hv.1
  have h0:0<rs.length:=by
   have:=(List.getElem?_eq_some_iff.1 hu).1
   rw [lT] at this;omega
  exact st.aH.cell _ _ (hx i u hu) (h.fB _ _ _ hv' h0)
theorem dU.nil (w:World) (F:Nat→Prop):dU w none 0 [] F:=⟨aT.nil _ _,fun _ _ _ e=>nomatch e⟩
theorem dU.dd {w:World} {B:Nat} {a:Option Addr} {cp:Nat} {rs:List aX} {F:Nat→Prop} (h:w.ownsRow B 74 4 (.slice a rs.length cp) rs.length (bp rs)) (hF : ∀ i,F i→i<B):dU w a cp rs F :=
 ⟨aT.dd h,fun x o f e _ hf=>by
  have:=bQ h x (by rw [e];rfl)
  have:=hF x hf
  omega⟩
def bK (s:Nat) (H:Nat→Prop) (i:Nat):Prop:=H i∨i=s
def By (X:Nat→Prop) (s:Nat) (H:Nat→Prop) (i:Nat):Prop:=bK s H i∨X i
structure Sys (X:Nat→Prop) (w:World) (s k c b:Nat) (m:aG) (q:Cache) (S:aA) (H:Nat→Prop):Prop where
 both:fD X w k c b m q H
 st : ∃ a cp,w.heap[s]? = some (.cells (sG k b S a cp) 180 (0,0))∧dU w a cp S.view.aB (By X s H)
 fB : ¬ H s
 home:0<m.ar.busy.length→m.ar.home≠s
theorem Sys.lt {w:World} {s k c b:Nat} {m:aG} {q:Cache} {S:aA} {H:Nat→Prop} (h:Sys X w s k c b m q S H) : ∀ i,bK s H i→i<w.heap.size:=fun i hi=>by
 obtain ⟨a,cp,h1,_⟩:=h.st
 rcases hi with hi | rfl
 ·
  exact h.both.lt i hi
 ·
  exact aP h1
theorem Step.lp {w w':World} {s:Nat} {H H':Nat→Prop} (st:Step H H' w w'):Step (bK s H) (bK s H') w w' :=
 ⟨st.aH.mono fun i h=>.inl h,fun i h=>h.elim (fun h=>(st.ik i h).imp .inl id) (fun h=>.inl (.inr h))⟩
theorem Step.off {w w':World} {s:Nat} {H H':Nat→Prop} (st:Step H H' w w'):Step (By X s H) (By X s H') w w':=st.lp.Mu
theorem Sys.step {w w':World} {s k c b:Nat} {m m':aG} {q q':Cache} {S:aA} {H H':Nat→Prop} (h:Sys X w s k c b m q S H) (hb:fD X w' k c b m' q' H') (st:Step H H' w w') (hm:bG m m'):Sys X w' s k c b m' q' S H':=by
 obtain ⟨a,cp,h1,h2⟩:=h.st
 exact ⟨hb,⟨a,cp,st.aH.at h1 h.fB,h2.step st.off⟩,st.safe (aP h1) h.fB,fun hl=>by rw [hm.1];exact h.home (zV hl hm.2)⟩
theorem Sys.aj {w w':World} {s k c b:Nat} {m:aG} {q:Cache} {S:aA} {H:Nat→Prop} (h:Sys X w s k c b m q S H) (hb:Below w.heap.size w w'):Sys X w' s k c b m q S H :=
 h.step (h.both.aj hb) (Step.ah hb) (bG.refl m)
theorem Il {w:World} {s k b:Nat} {S:aA} {a:Option Addr} {cp:Nat} (h:w.heap[s]? = some (.cells (sG k b S a cp) 180 (0,0))):L1 w s:=by
 refine ⟨⟨_,cell_of h 0⟩,fun o hf => ?_⟩
 obtain ⟨x,hx⟩:=hf 0 (by omega)
 obtain ⟨y,hy⟩:=hf 1 (by omega)
 have hx':(sG k b S a cp)[o+0]? = some (.int .i64 x):=by
  unfold World.cell? at hx
  rw [h] at hx
  simpa using hx
 have hlt:=(Array.getElem?_eq_some_iff.1 hx').1
 have hlt:o<8:=hlt
 match o,hlt with
 | 0,_=>rw [cell_of h 0] at hx;cases hx
 | 1,_=>rw [cell_of h 1] at hx;cases hx
 | 2,_=>rw [cell_of h 2] at hx;cases hx
 | 3,_=>rw [cell_of h 4] at hy;cases hy
 | 4,_=>rw [cell_of h 4] at hx;cases hx
 | 5,_=>rw [cell_of h 6] at hy;cases hy
 | 6,_=>rw [cell_of h 6] at hx;cases hx
 | 7,_ =>
  have:w.cell? ⟨s,7+1,none⟩=none:=by
   unfold World.cell?
   rw [h]
   rfl
  rw [this] at hy;cases hy
theorem Sys.put {w w':World} {s k c b:Nat} {m:aG} {q:Cache} {S S':aA} {H:Nat→Prop} {a:Option Addr} {cp:Nat} (h:Sys X w s k c b m q S H) (t:Touch (aO s) w w') (h1:w'.heap[s]? = some (.cells (sG k b S' a cp) 180 (0,0))) (h2:dU w a cp S'.view.aB (By X s H)):Sys X w' s k c b m q S' H∧Step (bK s H) (bK s H) w w':=by
 obtain ⟨a0,cp0,h0,_⟩:=h.st
 have st:Step (bK s H) (bK s H) w w':=Step.dD (t.mono fun i hi=>.inr hi)
 exact ⟨⟨h.both.odd t h.fB (Il h0) h.home,⟨a,cp,h1,h2.step (Step.dD (t.mono fun i hi=>.inl (.inr hi)))⟩,h.fB,h.home⟩,st⟩
theorem tH {w:World} {s:Nat} {a b c d e f g h:Value} {t:TypeId} (H:w.heap[s]? = some (.cells #[a,b,c,d,e,f,g,h] t (0,0))):w.cell? ⟨s,0,none⟩=some a∧w.cell? ⟨s,1,none⟩=some b∧w.cell? ⟨s,2,none⟩=some c∧w.cell? ⟨s,3,none⟩=some d∧w.cell? ⟨s,4,none⟩=some e∧w.cell? ⟨s,5,none⟩=some f∧w.cell? ⟨s,6,none⟩=some g∧w.cell? ⟨s,7,none⟩=some h ∧ ∀ i,w.frozen? ⟨s,i,none⟩=false :=
 ⟨cell_of H 0,cell_of H 1,cell_of H 2,cell_of H 3,cell_of H 4,cell_of H 5,cell_of H 6,cell_of H 7,fun i=>aF H i⟩
theorem Sys.grow {Y:Nat→Prop} {w w':World} {s k c b:Nat} {m:aG} {q:Cache} {S:aA} {H:Nat→Prop} (h:Sys X w s k c b m q S H) (t:Touch X w w') (d : ∀ i,X i → ¬ bK s H i) (hh:0<m.ar.busy.length → ¬ X m.ar.home) (hY : ∀ i,Y i→X i∨(w.heap.size≤i∧i<w'.heap.size)):Sys Y w' s k c b m q S H:=by
 obtain ⟨a,cp,h1,h2⟩:=h.st
 refine ⟨h.both.grow t (fun i hx hH=>d i hx (.inl hH)) hh hY,⟨a,cp,t.at h1 (fun hx=>d s hx (.inr rfl)),?_⟩,h.fB,h.home⟩
 have h3:=h2.step (F:=By X s H) (G:=By X s H) (Step.dD (t.mono fun i hi=>.inr hi))
 exact ⟨h3.at_,fun x o f e h0 hy=>hy.elim (fun hm=>h2.fB x o f e h0 (.inl hm)) (fun hy=>(hY x hy).elim (fun hx=>h2.fB x o f e h0 (.inr hx)) (fun hl=>by have:=h2.lt x o f e h0;omega))⟩
def Ls (w:World) (s:Nat) (c d e f g h:Value):World:=(((((w.setCell ⟨s,2,none⟩ c).setCell ⟨s,3,none⟩ d).setCell ⟨s,4,none⟩ e).setCell ⟨s,5,none⟩ f).setCell ⟨s,6,none⟩ g).setCell ⟨s,7,none⟩ h
theorem ET (w:World) (s:Nat) (c d e f g h:Value):Touch (aO s) w (Ls w s c d e f g h) :=
 ((((((Touch.refl (aO s) w).set s 2 c rfl).set s 3 d rfl).set s 4 e rfl).set s 5 f rfl).set s 6 g rfl).set s 7 h rfl
theorem Lt {w:World} {s:Nat} {a b c0 d0 e0 f0 g0 h0:Value} {t:TypeId} (hh:w.heap[s]? = some (.cells #[a,b,c0,d0,e0,f0,g0,h0] t (0,0))) (c d e f g h:Value):(Ls w s c d e f g h).heap[s]? = some (.cells #[a,b,c,d,e,f,g,h] t (0,0)) :=
 az (i:=7) (v:=h) (az (i:=6) (v:=g) (az (i:=5) (v:=f) (az (i:=4) (v:=e) (az (i:=3) (v:=d) (az (i:=2) (v:=c) hh)))))
theorem Sys.store {w:World} {s k c b:Nat} {m:aG} {q:Cache} {S:aA} {H:Nat→Prop} (h:Sys X w s k c b m q S H) (S':aA) (a:Option Addr) (cp:Nat) (hr:dU w a cp S'.view.aB (By X s H)):Sys X (Ls w s (.bool S'.opened) (.int .i64 S'.av) (.bool S'.view.cn) (.int .i64 S'.view.an) (.slice a S'.view.aB.length cp) (.int .i64 S'.view.free)) s k c b m q S' H∧Step (bK s H) (bK s H) w (Ls w s (.bool S'.opened) (.int .i64 S'.av) (.bool S'.view.cn) (.int .i64 S'.view.an) (.slice a S'.view.aB.length cp) (.int .i64 S'.view.free)):=by
 obtain ⟨a0,cp0,h1,_⟩:=h.st
 exact h.put (ET _ _ _ _ _ _ _ _) (Lt h1 _ _ _ _ _ _) hr
def Ay (X:Nat→Prop) (v:Value) (s k c b:Nat) (m:aG) (q:Cache) (S:aA) (H:Nat→Prop) (w:World) (e:Ending) (w':World):Prop:=e=.returned v ∧ ∃ H',Sys X w' s k c b m q S H'∧Step (bK s H) (bK s H') w w'
theorem nu (s k c b:Nat) (m:aG) (q:Cache) (S:aA) (H:Nat→Prop) (er:Int) (w:World) (h:Sys X w s k c b m q S H):Calls prog 88 #[.pointer (some ⟨s,0,none⟩),.int .i64 er] w (Ay X (.int .i64 er) s k c b m q shut H w):=by
 obtain ⟨a,cp,h1,h2⟩:=h.st
 have H0:=zH (zA h h1)
 obtain ⟨c0,c1,c2,c3,c4,c5,c6,c7,cf⟩:=tH h1
 clear h h1 h2
 go_enter func88,ntmps88
 go_wp2
 go_ret
 obtain ⟨h1,h2⟩:=H0.out.1.store shut none 0 (dU.nil _ _)
 exact ⟨rfl,H,h1,h2⟩
theorem oX (s k c b:Nat) (m:aG) (q:Cache) (S:aA) (H:Nat→Prop) (sec:Int) (V:bB) (va:Option Addr) (vc:Nat) (w:World) (h:Sys X w s k c b m q S H) (hv:dU w va vc V.aB (By X s H)):Calls prog 92 #[.pointer (some ⟨s,0,none⟩),.int .i64 sec,.agg #[.bool V.cn,.int .i64 V.an,.slice va V.aB.length vc,.int .i64 V.free]] w (Ay X (.tuple #[]) s k c b m q ⟨true,sec,V⟩ H w):=by
 obtain ⟨a,cp,h1,h2⟩:=h.st
 have H0:=zH (zA h (zA h1 hv))
 obtain ⟨c0,c1,c2,c3,c4,c5,c6,c7,cf⟩:=tH h1
 have hs:s<w.heap.size:=aP h1
 clear h h1 h2 hv
 go_enter func92,ntmps92
 go_upto_region 1 with fail
 have e0:=af w (.cells #[.bool V.cn,.int .i64 V.an,.slice va V.aB.length vc,.int .i64 V.free] 52)
 obtain ⟨b0,b1,b2,b3,bf⟩:=cF e0
 have HN:=zH (ae (Below.refl w.heap.size w) (.cells #[.bool V.cn,.int .i64 V.an,.slice va V.aB.length vc,.int .i64 V.free] 52))
 have d2:=(HN.out.cell (p:=⟨s,2,none⟩) hs).trans c2
 have d3:=(HN.out.cell (p:=⟨s,3,none⟩) hs).trans c3
 have d4:=(HN.out.cell (p:=⟨s,4,none⟩) hs).trans c4
 have d5:=(HN.out.cell (p:=⟨s,5,none⟩) hs).trans c5
 have d6:=(HN.out.cell (p:=⟨s,6,none⟩) hs).trans c6
 have d7:=(HN.out.cell (p:=⟨s,7,none⟩) hs).trans c7
 have df:=fun i=>aF (aa HN.out H0.out.2.1) i
 have hgs:w.heap.size≠s:=by omega
 have hsg:s≠w.heap.size:=by omega
 clear c0 c1 c2 c3 c4 c5 c6 c7 cf e0 hs
 have H1:=zH (zA (H0.out.1.aj HN.out) (zA (H0.out.2.2.step (F:=By X s H) (G:=By X s H) (Step.ah HN.out)) (show Step (bK s H) (bK s H) w _ from Step.ah HN.out)))
 clear H0 HN
 generalize w.heap.size=g at *
 generalize w.alloc (.cells #[.bool V.cn,.int .i64 V.an,.slice va V.aB.length vc,.int .i64 V.free] 52)=w2 at *
 go_region_held3 (fun w'=>w'.cell? ⟨g,0,none⟩=some (.bool V.cn)∧w'.cell? ⟨g,1,none⟩=some (.int .i64 V.an)∧w'.cell? ⟨g,2,none⟩=some (.slice va V.aB.length vc)∧w'.cell? ⟨g,3,none⟩=some (.int .i64 V.free)) (go_keep) (fail)
 go_end0
 obtain ⟨h1,h2⟩:=H1.out.1.store ⟨true,sec,V⟩ va vc H1.out.2.1
 exact ⟨rfl,H,h1.aj (au zR),H1.out.2.2.trans (h2.trans (Step.ah (au zR)))⟩
theorem xR (k c b:Nat) (m:aG) (q:Cache) (H:Nat→Prop) (w:World) (h:fD X w k c b m q H) (hh:0<m.ar.busy.length→m.ar.home<w.heap.size):Calls prog 69 #[.pointer (some ⟨k,0,none⟩),.pointer (some ⟨b,0,none⟩)] w fun e w' => ∃ s,e=.returned (.tuple #[.pointer (some ⟨s,0,none⟩),.int .i64 0])∧Sys X w' s k c b m q shut H∧Below w.heap.size w w'∧w.heap.size≤s:=by
 have H0:=zH (zA h hh)
 clear h hh
 go_enter func69,ntmps69
 go_wp2
 go_ret2
 exact ⟨w.heap.size,rfl,⟨H0.out.1.aj (ae zR _),⟨none,0,af _ _,dU.nil _ _⟩,fun hH=>by have:=H0.out.1.lt _ hH;omega,fun hl=>by have:=H0.out.2 hl;omega⟩,ae zR _,Nat.le_refl _⟩
def cS (S:aA) (key:ByteArray):Int:=if S.opened=false then 2302 else if 1≤key.size∧key.size≤6 then 0 else 2300
theorem oC (s k c b:Nat) (m:aG) (q:Cache) (S:aA) (H:Nat→Prop) (key:ByteArray) (w:World) (h:Sys X w s k c b m q S H):Calls prog 93 #[.pointer (some ⟨s,0,none⟩),.string key] w fun e w'=>e=.returned (.int .i64 (cS S key))∧w=w':=by
 obtain ⟨a,cp,h1,h2⟩:=h.st
 obtain ⟨c0,c1,c2,c3,c4,c5,c6,c7,cf⟩:=tH h1
 have HK:=zH (fun w=>r8 key w)
 clear h h1 h2 c0 c1 c3 c4 c5 c6 c7 cf
 unfold cS
 cases ho:S.opened with
 | false =>
  rw [ho] at c2
  rw [if_pos rfl]
  go_enter func93,ntmps93
  go_wp2
  go_ret
  exact ⟨rfl,rfl⟩
 | true =>
  rw [ho] at c2
  rw [if_neg (by decide)]
  by_cases hk:1≤key.size∧key.size≤6
  ·
   rw [if_pos hk]
   rw [show (decide (1≤key.size)&&decide (key.size≤6))=true by simp [hk.1,hk.2]] at HK
   clear hk
   go_enter func93,ntmps93
   go_wp2_with fail
   refine (HK.out _).mono ?_
   rintro e w1 ⟨rfl,rfl⟩
   go_wp2
   go_ret
   exact ⟨rfl,rfl⟩
  ·
   rw [if_neg hk]
   rw [show (decide (1≤key.size)&&decide (key.size≤6))=false by rw [Bool.and_eq_false_iff];simp only [decide_eq_false_iff_not];omega] at HK
   clear hk
   go_enter func93,ntmps93
   go_wp2_with fail
   refine (HK.out _).mono ?_
   rintro e w1 ⟨rfl,rfl⟩
   go_wp2
   go_ret
   exact ⟨rfl,rfl⟩
end
section
open Go.RowKit
variable {X:Nat→Prop}
theorem o8 (m:aG):bG m m.dV.1:=by
 unfold aG.dV
 split
 ·
  exact (cQ _ _ _ _ _).trans (cQ _ _ _ _ _)
 ·
  exact cQ _ _ _ _ _
theorem oO (m:aG) (p n:Int):bG m (m.cT p n).1:=by
 unfold aG.cT
 split <;> exact cQ _ _ _ _ _
theorem xZ : ∀ (k:Nat) (n:Int) (m:aG),bG m (aG.gR k n m).1
 | 0,n,m=>bG.refl m
 | k+1,n,m=>by
  unfold aG.gR
  split
  ·
   exact kY m
  ·
   split
   ·
    exact kY m
   ·
    exact (kY m).trans (xZ k _ _)
theorem qH (m:aG) (p:Int) (s:ByteArray):bG m (m.gZ p s).1:=by
 unfold aG.gZ
 split
 ·
  exact cQ _ _ _ _ _
 ·
  split
  ·
   exact (cQ _ _ _ _ _).trans (cQ _ _ _ _ _)
  ·
   exact ((cQ _ _ _ _ _).trans (cQ _ _ _ _ _)).trans (xZ _ _ _)
theorem nj (m:aG) (p:Int) (s:ByteArray):bG m (m.dZ p s).1:=by
 unfold aG.dZ
 split
 ·
  exact qH _ _ _
 ·
  exact (qH _ _ _).trans (qH _ _ _)
theorem Ee (m:aG) (p:Int) (n:Nat) (h:(m.cT p n).2.2=0):(m.cT p n).2.1.size=n:=by
 unfold aG.cT at h ⊢
 split at h
 ·
  rename_i he
  rw [if_pos he,fh,nM (by omega) he];omega
 ·
  rename_i he
  exact absurd h he
theorem Sys.wK {w:World} {s k c b:Nat} {m:aG} {q:Cache} {S:aA} {H:Nat→Prop} (h:Sys X w s k c b m q S H) : ∃ G,bO X w k c m G ∧ ∀ w' m' G',bO X w' k c m' G'→Step G G' w w'→bG m m' → ∃ H',Sys X w' s k c b m' q S H'∧Step H H' w w':=by
 obtain ⟨G,hc,hw,hH,hh⟩:=h.both.ex
 refine ⟨G,hc,fun w' m' G' hc' st hm => ?_⟩
 have stH:=Step.both st hH (fun i=>Iff.rfl)
 exact ⟨_,h.step (fD.wK hw hh hm hc' st) stH hm,stH⟩
def qZ (X:Nat→Prop) (s k c b:Nat) (m:aG) (q:Cache) (S:aA) (H:Nat→Prop) (w w':World):Prop := ∃ H',Sys X w' s k c b m q S H'∧Step H H' w w'
theorem Ir (s k c b:Nat) (m:aG) (q:Cache) (S:aA) (H:Nat→Prop) (w:World) (h:Sys X w s k c b m q S H) (ok:m.Ok) (kn:m.kS):Calls prog 123 #[.pointer (some ⟨k,0,none⟩)] w fun e w'=>(∃ x y z,e=.returned (.tuple #[.int .i64 x,.int .i64 y,.int .i64 z,.int .i64 m.dV.2]))∧qZ X s k c b m.dV.1 q S H w w':=by
 obtain ⟨G,hc,hk⟩:=h.wK
 refine (C1 k c m G w hc ok kn).mono ?_
 rintro e w' ⟨he,G',hc',st⟩
 exact ⟨he,hk _ _ _ hc' st (o8 m)⟩
theorem Iq (s k c b:Nat) (m:aG) (q:Cache) (S:aA) (H:Nat→Prop) (p:Int) (n:Nat) (w:World) (h:Sys X w s k c b m q S H) (ok:m.Ok) (h0:1≤n) (h1:n≤512) (h2:0≤p) (h3:p≤4096 - n):Calls prog 124 #[.pointer (some ⟨k,0,none⟩),.int .i64 p,.int .i64 n] w fun e w'=>e=.returned (.tuple #[.string (m.cT p n).2.1,.int .i64 (m.cT p n).2.2])∧qZ X s k c b (m.cT p n).1 q S H w w':=by
 obtain ⟨G,hc,hk⟩:=h.wK
 refine (B2 k c m G p n w hc ok h0 h1 h2 h3).mono ?_
 rintro e w' ⟨he,G',hc',st⟩
 exact ⟨he,hk _ _ _ hc' st (oO m p n)⟩
theorem Kb (s k c b:Nat) (m:aG) (q:Cache) (S:aA) (H:Nat→Prop) (p:Int) (t:ByteArray) (w:World) (h:Sys X w s k c b m q S H) (ok:m.Ok) (h0:2048≤p) (h1:p≤4032) (hp:p % 32=0) (hs:t.size=64):Calls prog 132 #[.pointer (some ⟨k,0,none⟩),.int .i64 p,.string t] w fun e w'=>e=.returned (.int .i64 (m.dZ p t).2)∧qZ X s k c b (m.dZ p t).1 q S H w w':=by
 obtain ⟨G,hc,hk⟩:=h.wK
 refine (DW k c m G p t w hc ok h0 h1 hp hs).mono ?_
 rintro e w' ⟨he,G',hc',st⟩
 exact ⟨he,hk _ _ _ hc' st (nj m p t)⟩
def Ax (s k c b:Nat) (m:aG) (q:Cache) (S:aA) (out:List Int) (er:Int) (H:Nat→Prop) (w:World) (e:Ending) (w':World):Prop :=
 ∃ v,e=.returned (.tuple #[v,.int .i64 er])∧(er≠0→v=.slice none 0 0) ∧ ∃ H',Sys (fun _=>False) w' s k c b m q S H'∧Step H H' w w'∧(er=0→w'.ownsRow w.heap.size 3 1 v out.length (aC out) ∧ ∀ g,v.ownBlock=some g → ¬ H' g)
theorem Kg (s k c b cap:Nat) (m:aG) (q:Cache) (S:aA) (H:Nat→Prop) (sec:Int) (a:Option Addr) (reads:List Int) (w:World) (h:Sys (fun _=>False) w s k c b m q S H) (ok:m.Ok) (hi:aN w a reads H) (hcap:reads.length≤cap) (hh:0<m.ar.busy.length→m.ar.home<w.heap.size) (hr:cY reads=true) (s0:4≤sec) (s1:sec<8):Calls prog 90 #[.pointer (some ⟨k,0,none⟩),.pointer (some ⟨b,0,none⟩),.int .i64 sec,.slice a reads.length cap] w (Ax s k c b (gS m (sec * 512) reads).1 (gS m (sec * 512) reads).2.1 S (gS m (sec * 512) reads).2.2.1 (gS m (sec * 512) reads).2.2.2 H w):=by
 refine (Fi k c b cap m q sec a reads H w h.both ok hi hcap hh hr s0 s1).mono ?_
 rintro e w' ⟨v,he,H',hb,st,h1,h2⟩
 exact ⟨v,he,h1,H',h.step hb st (sK ok _ (by omega) (by omega) reads (fun x hx=>by have:=(jd hr).2 x hx;omega)).2.2,st,h2⟩
theorem LF (s k c b cap:Nat) (m:aG) (q:Cache) (S:aA) (H:Nat→Prop) (a:Option Addr) (reads:List Int) (w:World) (h:Sys (fun _=>False) w s k c b m q S H) (ok:m.Ok) (g:q.Good) (hi:aN w a reads H) (hcap:reads.length≤cap) (hh:0<m.ar.busy.length→m.ar.home<w.heap.size) (hr:cY reads=true):Calls prog 174 #[.pointer (some ⟨b,0,none⟩),.slice a reads.length cap] w (Ax s k c b (dG reads [] m q).1 (dG reads [] m q).2.1 S (dG reads [] m q).2.2.1 (dG reads [] m q).2.2.2 H w):=by
 refine (yC k c b cap m q a reads H w h.both ok g hi hcap hh (fun x hx=>by have:=(jd hr).2 x hx;omega) (jd hr).1).mono ?_
 rintro e w' ⟨v,he,H',hb,st,h1,h2⟩
 exact ⟨v,he,h1,H',h.step hb st (sj reads [] m q ok g (fun x hx=>((jd hr).2 x hx).1)).2.2,st,h2⟩
end
section
open Go.RowKit
variable {X:Nat→Prop}
def bZ (sec slot:Int):Int:=sec * 512+slot * 64
theorem tV (s k c b:Nat) (m:aG) (q:Cache) (S:aA) (H:Nat→Prop) (sec slot:Int) (r:aX) (w:World) (h:Sys X w s k c b m q S H) (ok:m.Ok) (s0:4≤sec) (s1:sec<8) (l0:0≤slot) (l1:slot<8) (hr:bC r=true):Calls prog 91 #[.pointer (some ⟨s,0,none⟩),.int .i64 sec,.int .i64 slot,.agg r.cells] w fun e w'=>e=.returned (.int .i64 (m.dZ (bZ sec slot) (aL r)).2)∧qZ X s k c b (m.dZ (bZ sec slot) (aL r)).1 q S H w w':=by
 have HP:=zH (fun w=>se r w)
 rw [show iD r=some (aL r) from if_pos hr] at HP
 have hsz:(aL r).size=64:=by
  unfold aL
  rw [fe,dh _ _ (gu hr)]
 have HB:=zH (fun w (h:Sys X w s k c b m q S H)=>Kb s k c b m q S H (bZ sec slot) (aL r) w h ok (by unfold bZ;omega) (by unfold bZ;omega) (by unfold bZ;omega) hsz)
 have e1:wrap64 (sec * 512)=sec * 512:=by unfold wrap64;omega
 have e2:wrap64 (slot * 64)=slot * 64:=by unfold wrap64;omega
 have e3:wrap64 (sec * 512+slot * 64)=sec * 512+slot * 64:=by unfold wrap64;omega
 have H0:=zH h
 generalize hX:m.dZ (bZ sec slot) (aL r)=br at *
 generalize hT:aL r=t at *
 unfold bZ at HB
 rw [show pQ (some t) 1900=.tuple #[.string t,.int .i64 0] from rfl] at HP
 clear h hr hX hT ok
 unfold aX.cells at HP ⊢
 go_enter func91,ntmps91
 go_wp2_with fail
 refine (HP.out _).mono ?_
 rintro e w1 ⟨rfl,hb⟩
 have H1:=zH (gtr (ae (Below.refl _ w) (.cells #[.int .i64 r.kind,.int .i64 r.an,.string r.key,.string r.value] 74)) hb)
 have H2:=zH (H0.out.aj H1.out)
 obtain ⟨a,cp,h1,h2⟩:=H2.out.st
 obtain ⟨c0,c1,c2,c3,c4,c5,c6,c7,cf⟩:=tH h1
 clear h1 h2 hb c1 c2 c3 c4 c5 c6 c7
 go_wp2_with fail
 refine (HB.out _ H2.out).mono ?_
 rintro e w2 ⟨rfl,H',hs,st⟩
 have H3:=zH (zA hs ((Step.ah H1.out).trans st))
 clear hs st
 go_wp2
 go_ret
 exact ⟨rfl,H',H3.out⟩
end
end Go.Proofs.YtcfdenckiigdaaaGreat

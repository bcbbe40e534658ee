/- Part 17 of the contracts. -/
import Derived.Test.YtcfdenckiigdaaaGreatRd16
set_option linter.unusedVariables false
set_option maxRecDepth 100000
set_option maxHeartbeats 4000000
namespace Go.Proofs.YtcfdenckiigdaaaGreat
open Tryz Go.RowKit
section
open Go.RowKit
variable {X:Nat→Prop}
def jY (vs:List bC):Nat→Option Nat
 | 0=>none
 | j+1=>match vs[j]? with
  | none=>jY vs j
  | some p=>if p.ck=false then jY vs j else
   match jY vs j with
   | none=>some j
   | some k=>match vs[k]? with
    | none=>jY vs j
    | some q=>if q.an<p.an then some j else some k
theorem BY (vs:List (bC×(Option Addr×Nat))) : ∀ j,iV vs j=jY (vs.map Prod.fst) j
 | 0=>rfl
 | j+1=>by
  have ih:=BY vs j
  rw [iV,jY,ih,List.getElem?_map]
  cases vs[j]? with
  | none=>rfl
  | some p =>
   simp only [Option.map_some]
   split
   ·
    rfl
   ·
    cases jY (vs.map Prod.fst) j with
    | none=>rfl
    | some k =>
     simp only [List.getElem?_map]
     cases vs[k]? <;> rfl
theorem Hk:(prog.info? 52).map (fun i=>(i.zero,i.size,i.bytes))=some (some (.agg #[.bool false,.int .i64 0,.slice none 0 0,.int .i64 0]),4,48):=by kernel_rfl
theorem yL (vs:List (bC×(Option Addr×Nat))) (p:bC×(Option Addr×Nat)):eg (vs++[p])=eg vs++[.bool p.1.ck,.int .i64 p.1.an,.slice p.2.1 p.1.aC.length p.2.2,.int .i64 p.1.free]:=by simp [eg,bC.row]
def gQ:Nat→Int→aG→List bC→aG×List bC×Int
 | 0,j,m,vs=>(m,vs,0)
 | n+1,j,m,vs=>if (m.cR (j * 512) 512).2.2≠0 then ((m.cR (j * 512) 512).1,vs,(m.cR (j * 512) 512).2.2) else gQ n (j+1) (m.cR (j * 512) 512).1 (vs++[iK (m.cR (j * 512) 512).2.1])
def uv (r:aG×List bC×Int):aG×Option (Int×bC)×Int:=if r.2.2≠0 then (r.1,none,r.2.2) else (r.1,(jY r.2.1 r.2.1.length).map (fun (k:Nat)=>(4+(k:Int),r.2.1.getD k cE)),0)
def fC (m:aG):aG×Option (Int×bC)×Int:=if m.dU.2≠0 then (m.dU.1,none,m.dU.2) else uv (gQ 4 4 m.dU.1 [])
def BJ (X:Nat→Prop) (s k c b:Nat) (m:aG) (q:Cache) (S:aA) (o:Option (Int×bC)) (er:Int) (H:Nat→Prop) (w:World) (e:Ending) (w':World):Prop :=
 ∃ va vc,e=.returned (.tuple #[.int .i64 (o.getD (0,cE)).1,.agg #[.bool (o.getD (0,cE)).2.ck,.int .i64 (o.getD (0,cE)).2.an,.slice va (o.getD (0,cE)).2.aC.length vc,.int .i64 (o.getD (0,cE)).2.free],.bool o.isSome,.int .i64 er]) ∧ ∃ H',Sys X w' s k c b m q S H'∧Step H H' w w'∧dS w' va vc (o.getD (0,cE)).2.aC (yR X s H')
def xn (r:Nat) (v:Value) (i:Nat):Prop:=i=r∨v.ownBlock=some i
theorem fh.Gt {w:World} {k c b:Nat} {m:aG} {q:Cache} {H:Nat→Prop} (h:fh X w k c b m q H) : ∀ i,X i→i<w.heap.size:=by
 obtain ⟨G,hc,_⟩:=h.ex
 exact hc.Gt
def ux (X:Nat→Prop) (r:Nat) (v:Value) (i:Nat):Prop:=X i∨xn r v i
structure iD (X:Nat→Prop) (W wr:World) (r s k c b:Nat) (m:aG) (q:Cache) (S:aA) (H H':Nat→Prop) (v:Value) (vs:List (bC×(Option Addr×Nat))):Prop where
 sys:Sys (ux X r v) wr s k c b m q S H'
 step:Step H H' W wr
 own:wr.ownsRow W.heap.size 52 4 v vs.length (eg vs)
 fA : ∀ g,v.ownBlock=some g → ¬ bS s H' g
 LW : ¬ bS s H' r
 rat:wr.heap[r]? = some (.cells #[.bool false,.int .i64 0,.slice none 0 0,.int .i64 0] 52 (0,0))
 aC : ∀ p ∈ vs,dS wr p.2.1 p.2.2 p.1.aC (yR (ux X r v) s H')
 Nu:r<W.heap.size
 home:0<m.ar.busy.length→m.ar.home<r
 ok:m.Ok
theorem dE {B n sz:Nat} {t:TypeId} {F:Nat→Prop} {w w':World} {v:Value} {xs:List Value} (h:w.ownsRow B t sz v n xs) (st:Touch F w w') (hn : ∀ g,v.ownBlock=some g → ¬ F g):w'.ownsRow B t sz v n xs:=by
 refine ⟨h.1,?_⟩
 rcases h.2 with h2 | ⟨g,cap,cur,hv,hb,hg,r⟩
 ·
  exact .inl h2
 ·
  exact .inr ⟨g,cap,cur,hv,hb,st.at hg (hn g (by rw [hv];rfl)),r⟩
theorem lx {B n sz:Nat} {t:TypeId} {w:World} {v:Value} {xs:List Value} (h:w.ownsRow B t sz v n xs) : ∀ g,v.ownBlock=some g→g<w.heap.size:=by
 intro g hg
 rcases h.2 with ⟨rfl,_⟩ | ⟨g',cap,cur,rfl,hb,hh,r⟩
 ·
  simp [Value.ownBlock] at hg
 ·
  obtain rfl:g'=g:=by simpa [Value.ownBlock] using hg
  exact aO hh
theorem iD.act {W wr w':World} {r s k c b:Nat} {m m':aG} {q:Cache} {S:aA} {H H1 H2:Nat→Prop} {v:Value} {vs:List (bC×(Option Addr×Nat))} (L:iD X W wr r s k c b m q S H H1 v vs) (hs:Sys (ux X r v) w' s k c b m' q S H2) (st:Step H1 H2 wr w') (hm:bH m m') (ok:m'.Ok):iD X W w' r s k c b m' q S H H2 v vs :=
 ⟨hs,L.step.trans st,dE L.own st.aH (fun g hg hH=>L.fA g hg (.inl hH)),fun g hg=>st.ln.safe (lx L.own g hg) (L.fA g hg),st.ln.safe (aO L.rat) L.LW,st.aH.at L.rat (fun hH=>L.LW (.inl hH)),fun p hp=>(L.aC p hp).step st.off,L.Nu,fun hl=>by rw [hm.1];exact L.home (zV hl hm.2),ok⟩
theorem iD.aj {W wr w':World} {r s k c b:Nat} {m:aG} {q:Cache} {S:aA} {H H1:Nat→Prop} {v:Value} {vs:List (bC×(Option Addr×Nat))} (L:iD X W wr r s k c b m q S H H1 v vs) (hb:Below wr.heap.size wr w'):iD X W w' r s k c b m q S H H1 v vs :=
 L.act (L.sys.aj hb) (Step.ah hb) (bH.refl m) L.ok
theorem iD.apart {W wr:World} {r s k c b:Nat} {m:aG} {q:Cache} {S:aA} {H H1:Nat→Prop} {v:Value} {vs:List (bC×(Option Addr×Nat))} (L:iD X W wr r s k c b m q S H H1 v vs):(∀ i,xn r v i → ¬ bS s H1 i)∧(0<m.ar.busy.length → ¬ xn r v m.ar.home) :=
 ⟨fun i hi=>hi.elim (fun e=>by rw [e];exact L.LW) (fun e=>L.fA i e),fun hl hx=>by
  have h1:=L.home hl
  have h2:=L.Nu
  rcases hx with hx | hx
  ·
   omega
  ·
   have:=bZ L.own _ hx;omega⟩
theorem iD.more {W wr wa w2:World} {r s k c b g cap:Nat} {m:aG} {q:Cache} {S:aA} {H H1:Nat→Prop} {v:Value} {vs:List (bC×(Option Addr×Nat))} {p:bC×(Option Addr×Nat)} (L:iD X W wr r s k c b m q S H H1 v vs) (hb:Below wr.heap.size wr wa) (hr:wa.ownsRow wr.heap.size 74 4 (.slice p.2.1 p.1.aC.length p.2.2) p.1.aC.length (bp p.1.aC)) (ho:w2.ownsRow W.heap.size 52 4 (.slice (some ⟨g,0,none⟩) (vs.length+1) cap) (vs.length+1) (eg (vs++[p]))) (hg:wa.grownBy w2 v.ownBlock) (hor:v.ownBlock=some g∨g=wa.heap.size) (hl:g<w2.heap.size):iD X W w2 r s k c b m q S H H1 (.slice (some ⟨g,0,none⟩) (vs.length+1) cap) (vs++[p]):=by
 have LA:=L.aj hb
 have t0:Touch (fun i=>v.ownBlock=some i) wa w2:=uQ hg
 have t:Touch (xn r v) wa w2:=t0.mono fun i hi=>.inr hi
 have hx : ∀ i,xn r (.slice (some ⟨g,0,none⟩) (vs.length+1) cap) i→xn r v i∨(i=g∧g=wa.heap.size):=fun i hi=>by
  rcases hi with hi | hi
  ·
   exact .inl (.inl hi)
  ·
   obtain rfl:g=i:=by simpa [Value.ownBlock] using hi
   exact hor.imp .inr (fun e=>⟨rfl,e⟩)
 have hnew : ∀ i,bS s H1 i→i≠wa.heap.size:=fun i hi e=>by have:=LA.sys.lt i hi;omega
 have hrr:r≠wa.heap.size:=fun e=>by have:=aO LA.rat;omega
 have ap:=LA.apart
 refine ⟨LA.sys.grow t (fun i hi=>.inr hi) ap.1 ap.2 (fun i hi=>hi.elim (fun h=>.inl (.inl h)) fun hi=>(hx i hi).imp .inr (fun e=>by rw [e.1];exact ⟨Nat.le_of_eq e.2.symm,hl⟩)),⟨LA.step.aH.then t0 (fun i hi=>.inr (bZ L.own i hi)),LA.step.gP⟩,?_,?_,L.LW,t0.at LA.rat (fun hi => ?_),?_,L.Nu,L.home,L.ok⟩
 ·
  rw [List.length_append];exact ho
 ·
  intro i hi
  obtain rfl:g=i:=by simpa [Value.ownBlock] using hi
  rcases hor with ho' | ho'
  ·
   exact L.fA g ho'
  ·
   exact fun hm=>hnew g hm ho'
 ·
  have h1:=bZ L.own r hi
  have h2:=L.Nu
  omega
 ·
  intro p' hp'
  rcases List.mem_append.1 hp' with hp' | hp'
  ·
   have h1:=(LA.aC p' hp')
   have h2:=h1.step (F:=yR (ux X r v) s H1) (G:=yR (ux X r v) s H1) (Step.dD (t.mono fun i hi=>.inr (.inr hi)))
   exact ⟨h2.at_,fun x o f e h0 hy=>hy.elim (fun hm=>h1.fA x o f e h0 (.inl hm)) (fun hy=>hy.elim (fun hx=>h1.fA x o f e h0 (.inr (.inl hx))) fun hy=>(hx x hy).elim (fun hx=>h1.fA x o f e h0 (.inr (.inr hx))) (fun e'=>by have:=h1.lt x o f e h0;have:=e'.1;have:=e'.2;omega))⟩
  ·
   obtain rfl:p'=p:=by simpa using hp'
   have hlr:=lx hr
   have hbr:=bZ hr
   have h3:=dE hr t0 (fun y hy hv=>by have:=hbr y hy;have:=lx L.own y hv;omega)
   refine ⟨aU.cZ h3,fun x o f e h0 hy => ?_⟩
   have h1:=hlr x (by rw [e];rfl)
   have h2:=hbr x (by rw [e];rfl)
   rcases hy with hm | hy
   ·
    have:=L.sys.lt x hm;omega
   rcases hy with hy | hy
   ·
    have:=L.sys.both.Gt x (.inl hy);omega
   ·
    rcases hx x hy with hx | hx
    ·
     rcases hx with hx | hx
     ·
      have:=aO L.rat;omega
     ·
      have:=lx L.own x hx;omega
    ·
     have:=hx.1;have:=hx.2;omega
theorem iD.done {w W wr w2:World} {s k c b:Nat} {m:aG} {q:Cache} {S:aA} {H H1:Nat→Prop} {v:Value} {vs:List (bC×(Option Addr×Nat))} (L:iD X W wr w.heap.size s k c b m q S H H1 v vs) (hw:Below w.heap.size w W) (t:Touch (aN w.heap.size) wr w2):Sys X w2 s k c b m q S H1∧Step H H1 w w2 ∧ ∀ p ∈ vs,dS w2 p.2.1 p.2.2 p.1.aC (yR X s H1):=by
 have t':Touch (xn w.heap.size v) wr w2:=t.mono fun i hi=>.inl (show i=w.heap.size from hi)
 refine ⟨L.sys.grow t' (fun i hi=>.inr hi) L.apart.1 L.apart.2 (fun i hi=>.inl (.inl hi)),?_,fun p hp => ?_⟩
 ·
  have h1:=(Step.ah (F:=H) hw).trans L.step
  exact ⟨h1.aH.then t (fun i hi=>.inr (Nat.le_of_eq (show i=w.heap.size from hi).symm)),h1.gP⟩
 ·
  have h1:=L.aC p hp
  have h2:=h1.step (F:=yR (ux X w.heap.size v) s H1) (G:=yR (ux X w.heap.size v) s H1) (Step.dD (t'.mono fun i hi=>.inr (.inr hi)))
  exact ⟨h2.at_,fun x o f e h0 hy=>h2.fA x o f e h0 (hy.imp id .inl)⟩
def mi (w:World) (g:Nat) (a b c d:Value):World:=(((w.setCell ⟨g,0,none⟩ a).setCell ⟨g,1,none⟩ b).setCell ⟨g,2,none⟩ c).setCell ⟨g,3,none⟩ d
theorem cU (w:World) (g:Nat) (a b c d:Value):Touch (aN g) w (mi w g a b c d):=((((Touch.refl (aN g) w).set g 0 a rfl).set g 1 b rfl).set g 2 c rfl).set g 3 d rfl
theorem eY {w:World} {g:Nat} {a0 b0 c0 d0:Value} {t:TypeId} (h:w.heap[g]? = some (.cells #[a0,b0,c0,d0] t (0,0))) (a b c d:Value):(mi w g a b c d).heap[g]? = some (.cells #[a,b,c,d] t (0,0)) :=
 az (i:=3) (v:=d) (az (i:=2) (v:=c) (az (i:=1) (v:=b) (az (i:=0) (v:=a) h)))
theorem rJ {w W wr w2:World} {s k c b:Nat} {m:aG} {q:Cache} {S:aA} {H H1:Nat→Prop} {v:Value} {vs:List (bC×(Option Addr×Nat))} (L:iD X W wr w.heap.size s k c b m q S H H1 v vs) (hw:Below w.heap.size w W) (t:Touch (aN w.heap.size) wr w2) (o:Option (Int×bC)) (er:Int) (va:Option Addr) (vc:Nat) (ho:(o=none∧va=none∧vc=0) ∨ ∃ sec p,p ∈ vs∧o=some (sec,p.1)∧va=p.2.1∧vc=p.2.2):BJ X s k c b m q S o er H w (.returned (.tuple #[.int .i64 (o.getD (0,cE)).1,.agg #[.bool (o.getD (0,cE)).2.ck,.int .i64 (o.getD (0,cE)).2.an,.slice va (o.getD (0,cE)).2.aC.length vc,.int .i64 (o.getD (0,cE)).2.free],.bool o.isSome,.int .i64 er])) w2:=by
 obtain ⟨h1,h2,h3⟩:=L.done hw t
 refine ⟨va,vc,rfl,H1,h1,h2,?_⟩
 rcases ho with ⟨rfl,rfl,rfl⟩ | ⟨sec,p,hp,rfl,rfl,rfl⟩
 ·
  exact dS.nil _ _
 ·
  exact h3 p hp
theorem xo (s k c b:Nat) (m:aG) (q:Cache) (S:aA) (H:Nat→Prop) (w:World) (h:Sys X w s k c b m q S H) (ok:m.Ok) (kn:m.kQ) (hh:0<m.ar.busy.length→m.ar.home<w.heap.size):Calls prog 87 #[.pointer (some ⟨s,0,none⟩)] w (BJ X s k c b (fC m).1 q S (fC m).2.1 (fC m).2.2 H w):=by
 have HP:=zH (fun w0 (h:Sys (ux X w.heap.size (.slice none 0 0)) w0 s k c b m q S H)=>IG s k c b m q S H w0 h ok kn)
 have HV:=zH (show fC m=if m.dU.2≠0 then (m.dU.1,none,m.dU.2) else uv (gQ 4 4 m.dU.1 []) from rfl)
 have HM:=zH (zA (oX m) (Aj ok))
 have hb0:=ae (Below.refl w.heap.size w) (.cells #[.bool false,.int .i64 0,.slice none 0 0,.int .i64 0] 52)
 have hsz:(w.alloc (.cells #[.bool false,.int .i64 0,.slice none 0 0,.int .i64 0] 52)).heap.size=w.heap.size+1:=by simp
 have L0:iD X (w.alloc (.cells #[.bool false,.int .i64 0,.slice none 0 0,.int .i64 0] 52)) (w.alloc (.cells #[.bool false,.int .i64 0,.slice none 0 0,.int .i64 0] 52)) w.heap.size s k c b m q S H H (.slice none 0 0) []:=by
  refine ⟨h.grow (Touch.ah (F:=fun _=>False) hb0) (fun i hi=>hi.elim) (fun i hi=>hi.elim) (fun _ hi=>hi.elim) (fun i hi => ?_),Step.refl _ _,zN,fun g hg=>by simp [Value.ownBlock] at hg,fun hm=>by have:=h.lt _ hm;omega,af w _,fun p hp=>by simp at hp,by omega,hh,ok⟩
  rcases hi with hi | hi | hi
  ·
   exact .inl hi
  ·
   right;omega
  ·
   simp [Value.ownBlock] at hi
 have HW:=zH (zA hb0 L0)
 obtain ⟨a,cp,h1,h2⟩:=L0.sys.st
 obtain ⟨c0,c1,c2,c3,c4,c5,c6,c7,cf⟩:=tE h1
 clear hb0 h1 h2 h hh ok kn c1 c2 c3 c4 c5 c6 c7 cf L0
 generalize fC m=lr at *
 generalize m.dU=pr at *
 obtain ⟨m1,er1⟩:=pr
 simp only at HP HV HM
 obtain ⟨j0,ji,jz0,jz1,jz2⟩:=info_parts Hk
 go_enter func87,ntmps87
 go_upto_region 1 with fail
 generalize w.alloc (.cells #[.bool false,.int .i64 0,.slice none 0 0,.int .i64 0] 52)=W at *
 have HWS:=zH hsz
 clear hsz
 go_wp2_with fail
 refine (HP.out _ HW.out.2.sys).mono ?_
 rintro e w1 ⟨⟨x,y,z,rfl⟩,H1,hs1,st1⟩
 have HL:=zH (HW.out.2.act hs1 st1 HM.out.1 HM.out.2)
 clear hs1 st1 c0
 obtain ⟨d0,d1,d2,d3,df⟩:=cC HL.out.rat
 have hbl:w.heap.size<w1.heap.size:=aO HL.out.rat
 by_cases k1:er1=0
 ·
  subst k1
  replace HV:=zH (HV.out.trans (if_neg (by simp)))
  clear d0 d1 d2 d3 df hbl HP
  have HLW:=zH (zA HW.out.1 HWS.out)
  clear HW HWS HM
  go_wp2
  go_loopg [10,11] 4 (fun n v i wr => ∃ (j:Nat) (mj:aG) (Hj:Nat→Prop) (vs:List (bC×(Option Addr×Nat))),n=4 - j∧i=.int .i64 (4+(j:Int))∧j≤4∧vs.length=j∧gQ (4 - j) (4+(j:Int)) mj (vs.map Prod.fst)=gQ 4 4 m1 []∧iD X W wr w.heap.size s k c b mj q S H Hj v vs)
  case atStart=>exact ⟨0,m1,H1,[],rfl,rfl,Nat.zero_le _,rfl,rfl,HL.out⟩
  case round =>
   obtain ⟨j,mj,Hj,vs,hgn,rfl,hj,hvl,hlk,L⟩:=hrel
   have HB:=zH (zA hgn (zA hlk (zA L hvl)))
   clear hgn hlk L hvl
   obtain ⟨d0,d1,d2,d3,df⟩:=cC HB.out.2.2.1.rat
   have hbl:w.heap.size<wr.heap.size:=aO HB.out.2.2.1.rat
   by_cases hlt:j<4
   ·
    have hlt':(4+(j:Int))<8:=by omega
    obtain ⟨a,cp,h1,h2⟩:=HB.out.2.2.1.sys.st
    obtain ⟨c0,c1,c2,c3,c4,c5,c6,c7,cf⟩:=tE h1
    clear h1 h2 c1 c2 c3 c4 c5 c6 c7
    have e1:wrap64 ((4+(j:Int)) * 512)=(4+(j:Int)) * 512:=by unfold wrap64;omega
    have HF:=zH (IF s k c b mj q S Hj ((4+(j:Int)) * 512) 512 wr HB.out.2.2.1.sys HB.out.2.2.1.ok (by omega) (by omega) (by omega) (by omega))
    have HFS:=zH (zA (oH mj ((4+(j:Int)) * 512) 512) (zA (zu HB.out.2.2.1.ok ((4+(j:Int)) * 512) 512 (by omega) (by omega) (by omega) (by omega)) (Em mj ((4+(j:Int)) * 512) 512)))
    have HK:=zH (show gQ (4 - j) (4+(j:Int)) mj (vs.map Prod.fst)=if (mj.cR ((4+(j:Int)) * 512) 512).2.2≠0 then ((mj.cR ((4+(j:Int)) * 512) 512).1,vs.map Prod.fst,(mj.cR ((4+(j:Int)) * 512) 512).2.2) else gQ (4 - (j+1)) (4+(j:Int)+1) (mj.cR ((4+(j:Int)) * 512) 512).1 (vs.map Prod.fst++[iK (mj.cR ((4+(j:Int)) * 512) 512).2.1]) by rw [show 4 - j=(4 - (j+1))+1 by omega];rfl)
    rw [show ((512:Nat):Int)=512 from rfl] at HF HFS
    generalize mj.cR ((4+(j:Int)) * 512) 512=fr at *
    obtain ⟨m2,t,er2⟩:=fr
    simp only at HF HFS HK
    go_wp2_with fail
    refine HF.out.mono ?_
    rintro e w2 ⟨rfl,H2,hs2,st2⟩
    have HL2:=zH (HB.out.2.2.1.act hs2 st2 HFS.out.1 HFS.out.2.1)
    clear hs2 st2 c0 cf d0 d1 d2 d3 df hbl
    obtain ⟨d0,d1,d2,d3,df⟩:=cC HL2.out.rat
    have hbl:w.heap.size<w2.heap.size:=aO HL2.out.rat
    by_cases k2:er2=0
    ·
     subst k2
     have ht:t.size=512:=HFS.out.2.2 rfl
     have HSC:=zH (xR t w2 ht)
     replace HK:=zH (HK.out.trans (if_neg (by simp)))
     clear ht HF HFS d0 d1 d2 d3 df hbl
     generalize iK t=V at *
     go_wp2_with fail
     refine HSC.out.mono ?_
     rintro e w3 ⟨vr,rfl,ho,hb⟩
     obtain ⟨ra,rc,rfl⟩:=bG ho
     have HS3:=zH (zA ho hb)
     have HA:=zH (HL2.out.aj hb)
     clear ho hb HSC
     have HVL:=zH HB.out.2.2.2
     go_wp2_with (at_builtin;refine wpList_append_lies _ rfl _ _ 49 rfl W.heap.size 52 j0 (.agg #[.bool false,.int .i64 0,.slice none 0 0,.int .i64 0]) 4 48 underlying49 ji jz0 jz1 jz2 rfl (by decide) u10 vs.length (eg vs) ?b1 (World.ownsRow.aj HA.out.own (ae (ae zR _) _)) ⟨w3.heap.size+1,0,none⟩ 1 1 [.bool V.ck,.int .i64 V.an,.slice ra V.aC.length rc,.int .i64 V.free] ?b2 rfl ?b3 ?b4 (by decide) ?b5 ?b6 ?b7 _ rfl ?_)
     case b1=>rfl
     case b2=>rfl
     case b3=>exact World.news_of_block (cs := #[.bool V.ck,.int .i64 V.an,.slice ra V.aC.length rc,.int .i64 V.free]) (t:=52) (fr:=(0,0)) (by simpa using af (w3.alloc _) _)
     case b4=>intro u hu;simp only [List.mem_cons,List.not_mem_nil,or_false] at hu;rcases hu with rfl | rfl | rfl | rfl <;> rfl
     case b5=>have:=HVL.out;simp only [maxLen];omega
     case b6=>have:=HVL.out;omega
     case b7=>have:=HA.out.step.aH.size;simp only [World.size_alloc];omega
     intro g4 cap4 w4 how hgr hor hgl
     have hgb:Below w3.heap.size w3 _:=ae (ae (Below.refl _ w3) (.cells #[.bool V.ck,.int .i64 V.an,.slice ra V.aC.length rc,.int .i64 V.free] 52)) (.cells #[.bool V.ck,.int .i64 V.an,.slice ra V.aC.length rc,.int .i64 V.free] 52)
     have hL4:=HL2.out.more (p:=(V,ra,rc)) (gtr HS3.out.2 hgb) (World.ownsRow.aj HS3.out.1 hgb) (by rw [yL];exact how) hgr (hor.imp id (fun e=>by rw [e];simp)) hgl
     have HL4:=zH hL4
     have HK4:=zH (show gQ (4 - (j+1)) (4+((j+1:Nat):Int)) m2 ((vs++[(V,ra,rc)]).map Prod.fst)=gQ 4 4 m1 [] by rw [show (4+((j+1:Nat):Int))=4+(j:Int)+1 by omega,List.map_append];exact HK.out.symm.trans HB.out.2.1)
     clear hL4 how hgr hor hgl hgb HS3 HA HK
     go_wp2
     go_roundg (4 - (j+1))
     case measure=>have:=HB.out.1;omega
     case rel=>exact ⟨j+1,m2,H2,vs++[(V,ra,rc)],rfl,by go_num,by omega,by rw [List.length_append,HVL.out];rfl,HK4.out,HL4.out⟩
    ·
     have hne:(er2 != 0)=true:=bne_iff_ne.2 k2
     replace HK:=zH (HB.out.2.1.symm.trans (HK.out.trans (if_pos k2)))
     have HE:=zH k2
     clear k2
     go_wp2_with fail
     have t:=cU w2 w.heap.size (.bool false) (.int .i64 0) (.slice none 0 0) (.int .i64 0)
     obtain ⟨q0,q1,q2,q3,qf⟩:=cC (eY HL2.out.rat (.bool false) (.int .i64 0) (.slice none 0 0) (.int .i64 0))
     refine bodyPost_ret (v:=.tuple #[.int .i64 0,.agg #[.bool false,.int .i64 0,.slice none 0 0,.int .i64 0],.bool false,.int .i64 er2]) ?_ rfl ?_
     ·
      change (results _ _).run _ (mi _ _ _ _ _ _)=_
      simp [results,results87,go_sem,q0,q1,q2,q3]
      rfl
     ·
      rw [HV.out,HK.out,uv,if_pos HE.out]
      exact rJ HL2.out HLW.out.1 t none er2 none 0 (.inl ⟨rfl,rfl,rfl⟩)
   ·
    obtain rfl:j=4:=by omega
    have HBC:=zH (fun v h=>D1 v vs wr h (by rw [HB.out.2.2.2];omega))
    have HSL:=zH (aU.cZ HB.out.2.2.1.own)
    have HK:=zH (show (mj,vs.map Prod.fst,(0:Int))=gQ 4 4 m1 [] from HB.out.2.1)
    have HBL:=zH (wh vs 4)
    have HBE:=zH (BY vs 4)
    have HVT:=zH (py vs)
    obtain ⟨xa,xc,rfl⟩:=bG HB.out.2.2.1.own
    obtain ⟨bb,o,rfl,hc,hx⟩:=HSL.out.some (by have:=HB.out.2.2.2;omega)
    have hbr:w.heap.size<bb:=zV HB.out.2.2.1.Nu (bZ HB.out.2.2.1.own bb rfl)
    have HX:=zH hx
    have hvl:vs.length=4:=HB.out.2.2.2
    rw [hvl] at HBC HSL hc ⊢
    have HVL:=zH hvl
    clear hx hvl
    go_wp2_with fail
    refine (HBC.out _ HSL.out).mono ?_
    rintro e w2 ⟨rfl,hb⟩
    have HE:=zH (HB.out.2.2.1.aj hb)
    have HX2:=zH (fun i u hu=>(hb.cell (p:=⟨bb,o+i,none⟩) (zL wr _ (HX.out i u hu))).trans (HX.out i u hu))
    have hbl2:w.heap.size<w2.heap.size:=zV hbl hb.size
    clear hb d0 d1 d2 d3 df hbl
    obtain ⟨d0,d1,d2,d3,df⟩:=cC HE.out.rat
    cases hbn:iV vs 4 with
    | none =>
     have HZ:=zH hbn
     clear hbn
     go_wp2_with fail
     have t:=cU w2 w.heap.size (.bool false) (.int .i64 0) (.slice none 0 0) (.int .i64 0)
     obtain ⟨q0,q1,q2,q3,qf⟩:=cC (eY HE.out.rat (.bool false) (.int .i64 0) (.slice none 0 0) (.int .i64 0))
     refine bodyPost_ret (v:=.tuple #[.int .i64 0,.agg #[.bool false,.int .i64 0,.slice none 0 0,.int .i64 0],.bool false,.int .i64 0]) ?_ rfl ?_
     ·
      change (results _ _).run _ (mi _ _ _ _ _ _)=_
      simp [results,results87,go_sem,q0,q1,q2,q3]
      rfl
     ·
      have hlen:(vs.map Prod.fst).length=4:=by rw [List.length_map];exact HB.out.2.2.2
      rw [HV.out,← HK.out,uv,if_neg (by simp)]
      simp only
      rw [hlen,← HBE.out,HZ.out]
      exact rJ HE.out HLW.out.1 t none 0 none 0 (.inl ⟨rfl,rfl,rfl⟩)
    | some kb =>
     have hkb:kb<4:=HBL.out kb hbn
     have HZ:=zH hbn
     clear hbn
     obtain ⟨p,hp⟩ : ∃ p,vs[kb]? = some p:=⟨_,List.getElem?_eq_getElem (by rw [HVL.out];exact hkb)⟩
     obtain ⟨V,ra,rc⟩:=p
     have HPM:=zH hp
     obtain ⟨p0,p1,p2,p3⟩:=HVT.out kb _ hp
     have g0:w2.cell? ⟨bb,o+kb * 4,none⟩=some (.bool V.ck):=by rw [Nat.mul_comm];exact HX2.out _ _ p0
     have g1:w2.cell? ⟨bb,o+kb * 4+1,none⟩=some (.int .i64 V.an):=by rw [Nat.mul_comm,Nat.add_assoc];exact HX2.out _ _ p1
     have g2:w2.cell? ⟨bb,o+kb * 4+2,none⟩=some (.slice ra V.aC.length rc):=by rw [Nat.mul_comm,Nat.add_assoc];exact HX2.out _ _ p2
     have g3:w2.cell? ⟨bb,o+kb * 4+3,none⟩=some (.int .i64 V.free):=by rw [Nat.mul_comm,Nat.add_assoc];exact HX2.out _ _ p3
     have hkb':(kb:Int)<4:=by omega
     have hw4:wrap64 (4+(kb:Int))=4+(kb:Int):=by unfold wrap64;omega
     have hne1:bb≠w.heap.size:=by omega
     have hne2:w.heap.size≠bb:=by omega
     clear p0 p1 p2 p3 hp HX HX2 HVT HBL
     go_upto_region 16 with fail
     go_region_held3 (fun w'=>w'.cell? ⟨bb,o+kb * 4,none⟩=some (.bool V.ck)∧w'.cell? ⟨bb,o+kb * 4+1,none⟩=some (.int .i64 V.an)∧w'.cell? ⟨bb,o+kb * 4+2,none⟩=some (.slice ra V.aC.length rc)∧w'.cell? ⟨bb,o+kb * 4+3,none⟩=some (.int .i64 V.free)) (go_keep) (fail)
     have t:Touch (aN w.heap.size) w2 _:=(cU w2 w.heap.size (.bool V.ck) (.int .i64 V.an) (.slice ra V.aC.length rc) (.int .i64 V.free)).drew
     have hq:=aa (au zR) (eY HE.out.rat (.bool V.ck) (.int .i64 V.an) (.slice ra V.aC.length rc) (.int .i64 V.free))
     change Exit.then _ _ _ _ (mi _ _ _ _ _ _).drew
     rw [show IntKind.i64.wrap (4+(kb:Int))=4+(kb:Int) from cX (by omega) (by omega)]
     generalize (mi w2 w.heap.size (.bool V.ck) (.int .i64 V.an) (.slice ra V.aC.length rc) (.int .i64 V.free)).drew=w5 at *
     obtain ⟨q0,q1,q2,q3,qf⟩:=cC hq
     clear hq d0 d1 d2 d3 df g0 g1 g2 g3
     go_wp2
     refine bodyPost_ret (v:=.tuple #[.int .i64 (4+(kb:Int)),.agg #[.bool V.ck,.int .i64 V.an,.slice ra V.aC.length rc,.int .i64 V.free],.bool true,.int .i64 0]) (by simp [results,results87,go_sem,q0,q1,q2,q3]) rfl ?_
     have hlen:(vs.map Prod.fst).length=4:=by rw [List.length_map];exact HVL.out
     have hgd:(vs.map Prod.fst).getD kb cE=V:=by rw [List.getD_eq_getElem?_getD,List.getElem?_map,HPM.out];rfl
     rw [HV.out,← HK.out,uv,if_neg (by simp)]
     simp only
     rw [hlen,← HBE.out,HZ.out]
     simp only [Option.map_some,hgd]
     exact rJ HE.out HLW.out.1 t (some (4+(kb:Int),V)) 0 ra rc (.inr ⟨4+(kb:Int),(V,ra,rc),List.mem_of_getElem? HPM.out,rfl,rfl,rfl⟩)
 ·
  have hne:(er1 != 0)=true:=bne_iff_ne.2 k1
  replace HV:=zH (HV.out.trans (if_pos k1))
  clear k1
  go_wp2_with fail
  have t:=cU w1 w.heap.size (.bool false) (.int .i64 0) (.slice none 0 0) (.int .i64 0)
  obtain ⟨q0,q1,q2,q3,qf⟩:=cC (eY HL.out.rat (.bool false) (.int .i64 0) (.slice none 0 0) (.int .i64 0))
  refine bodyPost_ret (v:=.tuple #[.int .i64 0,.agg #[.bool false,.int .i64 0,.slice none 0 0,.int .i64 0],.bool false,.int .i64 er1]) ?_ rfl ?_
  ·
   change (results _ _).run _ (mi _ _ _ _ _ _)=_
   simp [results,results87,go_sem,q0,q1,q2,q3]
   rfl
  ·
   rw [HV.out]
   exact rJ HL.out HW.out.1 t none er1 none 0 (.inl ⟨rfl,rfl,rfl⟩)
end
section
open Go.RowKit
variable {X:Nat→Prop}
theorem dS.mono {w:World} {a:Option Addr} {cp:Nat} {rs:List aX} {F G:Nat→Prop} (h:dS w a cp rs F) (hG : ∀ i,G i→F i):dS w a cp rs G :=
 ⟨h.at_,fun x o f e h0 hg=>h.fA x o f e h0 (hG x hg)⟩
theorem dS.off {w:World} {a:Option Addr} {cp:Nat} {rs:List aX} {s:Nat} {H:Nat→Prop} (h:dS w a cp rs (yR X s H)):dS w a cp rs (yR X s H):=h
def A5 (r:aG×Option (Int×bC)×Int):aG×aA×Int:=if r.2.2≠0 then (r.1,shut,r.2.2) else match r.2.1 with | none=>(r.1,shut,2305) | some x=>(r.1,⟨true,x.1,x.2⟩,0)
def gv (m:aG):aG×aA×Int:=A5 (fC m)
theorem CT (s k c b:Nat) (m:aG) (q:Cache) (S:aA) (H:Nat→Prop) (w:World) (h:Sys X w s k c b m q S H) (ok:m.Ok) (kn:m.kQ) (hh:0<m.ar.busy.length→m.ar.home<w.heap.size):Calls prog 58 #[.pointer (some ⟨s,0,none⟩)] w (AM X (.int .i64 (gv m).2.2) s k c b (gv m).1 q (gv m).2.1 H w):=by
 have HL:=zH (xo s k c b m q S H w h ok kn hh)
 unfold gv
 generalize fC m=lr at *
 obtain ⟨m',o,er⟩:=lr
 simp only at HL
 clear h ok kn hh
 go_enter func58,ntmps58
 go_wp2_with fail
 refine HL.out.mono ?_
 rintro e w1 ⟨va,vc,rfl,H',hs,st,hr⟩
 have HS:=zH (zA hs (zA st hr))
 clear hs st hr HL
 have HN:=zH (ae (Below.refl w1.heap.size w1) (.cells #[.bool (o.getD (0,cE)).2.ck,.int .i64 (o.getD (0,cE)).2.an,.slice va (o.getD (0,cE)).2.aC.length vc,.int .i64 (o.getD (0,cE)).2.free] 52))
 have HC:=zH (fun er w (h:Sys X w s k c b m' q S H')=>nj s k c b m' q S H' er w h)
 have HO:=zH (fun sec V va vc w (h:Sys X w s k c b m' q S H') hv=>oS s k c b m' q S H' sec V va vc w h hv)
 have HSN:=zH (HS.out.1.aj HN.out)
 have HST:=zH (HS.out.2.1.ln (s:=s))
 by_cases k1:er=0
 ·
  subst k1
  cases o with
  | none =>
   simp only [Option.getD_none,Option.isSome_none] at HN HSN ⊢
   go_wp2_with fail
   refine (HC.out 2305 _ HSN.out).mono ?_
   rintro e w2 ⟨rfl,H2,h2,st2⟩
   have HR:=zH (zA h2 ((HST.out.trans (Step.ah HN.out)).trans st2))
   clear h2 st2
   go_wp2
   go_ret
   exact ⟨rfl,H2,HR.out⟩
  | some x =>
   obtain ⟨sec,V⟩:=x
   simp only [Option.getD_some,Option.isSome_some] at HN HSN HS ⊢
   have HRV:=zH ((HS.out.2.2.off).step (Step.ah HN.out))
   go_wp2_with fail
   refine (HO.out sec V va vc _ HSN.out HRV.out).mono ?_
   rintro e w2 ⟨rfl,H2,h2,st2⟩
   have HR:=zH (zA h2 ((HST.out.trans (Step.ah HN.out)).trans st2))
   clear h2 st2
   go_wp2
   go_ret
   exact ⟨rfl,H2,HR.out⟩
 ·
  have hne:(er != 0)=true:=bne_iff_ne.2 k1
  have HMB:=zH (show A5 (m',o,er)=(m',shut,er) from if_pos k1)
  generalize o.isSome=oi at *
  generalize o.getD (0,cE)=p at *
  obtain ⟨sec,V⟩:=p
  simp only at HN HSN HS ⊢
  clear k1
  go_wp2_with fail
  refine (HC.out er _ HSN.out).mono ?_
  rintro e w2 ⟨rfl,H2,h2,st2⟩
  have HR:=zH (zA h2 ((HST.out.trans (Step.ah HN.out)).trans st2))
  clear h2 st2
  go_wp2
  go_ret
  rw [HMB.out]
  exact ⟨rfl,H2,HR.out⟩
end
section
open Go.RowKit
variable {X:Nat→Prop}
theorem xI {s:ByteArray} {r:aX} (h:dI s=some r):bD r=true:=by
 unfold dI at h
 split at h
 ·
  simp at h
 ·
  split at h
  ·
   rename_i hp
   unfold iB at hp
   split at hp
   ·
    rename_i hm
    obtain rfl:_=r:=by simpa using h
    exact hm
   ·
    simp at hp
  ·
   simp at h
theorem uH (s:ByteArray) : ∀ k,∀ r ∈ bz s k,gW r
 | 0,r,h=>by simp [bz] at h
 | k+1,r,h=>by
  simp only [bz,List.mem_append] at h
  rcases h with h | h
  ·
   exact uH s k r h
  ·
   unfold eC at h
   split at h
   ·
    rename_i x hx
    split at h
    ·
     simp at h
    ·
     rename_i hk
     obtain rfl:r=x:=by simpa using h
     exact ⟨xI hx,hk⟩
   ·
    simp at h
theorem uG (s:ByteArray) : ∀ k,1≤bT s k∧bT s k≤(k+1:Nat)
 | 0=>by simp [bT]
 | k+1=>by
  have:=uG s k
  unfold bT
  split
  ·
   omega
  ·
   omega
theorem Bn (s:ByteArray) (h:(iK s).ck=true):(iK s).Ok:=by
 have hf:=uG s 7
 refine ⟨h,?_,by simpa [iK] using hf,nI s 7,uH s 7⟩
 unfold iK at h ⊢
 simp only at h ⊢
 unfold cD at h ⊢
 split at h
 ·
  rename_i r hr
  split at h
  ·
   rename_i hk
   have hm:=xI hr
   rw [if_pos hk]
   unfold bD at hm
   rw [if_pos hk] at hm
   unfold oF at hm
   simp only [Bool.and_eq_true,decide_eq_true_eq] at hm
   exact hm.1.1
  ·
   simp at h
 ·
  simp at h
theorem mY (vs:List bC) : ∀ j k,jY vs j=some k→k<j ∧ ∃ V,vs[k]? = some V∧V.ck=true
 | 0,k,h=>by simp [jY] at h
 | j+1,k,h=>by
  have ih:=mY vs j
  unfold jY at h
  split at h
  ·
   have:=ih k h;exact ⟨by omega,this.2⟩
  ·
   rename_i p hp
   split at h
   ·
    have:=ih k h;exact ⟨by omega,this.2⟩
   ·
    rename_i hg
    have hg':p.ck=true:=by simpa using hg
    split at h
    ·
     obtain rfl:j=k:=by simpa using h
     exact ⟨by omega,p,hp,hg'⟩
    ·
     rename_i k' hk
     have hk':=ih _ hk
     split at h
     ·
      have:=ih k h;exact ⟨by omega,this.2⟩
     ·
      split at h
      ·
       obtain rfl:j=k:=by simpa using h
       exact ⟨by omega,p,hp,hg'⟩
      ·
       obtain rfl:k'=k:=by simpa using h
       exact ⟨by omega,hk'.2⟩
theorem uw : ∀ (n:Nat) (j:Int) (m:aG) (vs:List bC),(∀ V ∈ vs,∃ t,V=iK t)→(∀ V ∈ (gQ n j m vs).2.1,∃ t,V=iK t)∧(gQ n j m vs).2.1.length≤vs.length+n
 | 0,j,m,vs,h=>⟨h,by simp [gQ]⟩
 | n+1,j,m,vs,h=>by
  unfold gQ
  split
  ·
   exact ⟨h,by simp⟩
  ·
   have:=uw n (j+1) (m.cR (j * 512) 512).1 (vs++[iK (m.cR (j * 512) 512).2.1]) (fun V hV=>by
    rcases List.mem_append.1 hV with hV | hV
    ·
     exact h V hV
    ·
     exact ⟨_,by simpa using hV⟩)
   refine ⟨this.1,?_⟩
   have h2:=this.2
   simp only [List.length_append,List.length_cons,List.length_nil] at h2
   omega
theorem look_ok {m:aG} {sec:Int} {V:bC} (h:(fC m).2.1=some (sec,V)):4≤sec∧sec<8∧V.Ok:=by
 unfold fC at h
 split at h
 ·
  simp at h
 ·
  have hs:=uw 4 4 m.dU.1 [] (fun V hV=>by simp at hV)
  generalize gQ 4 4 m.dU.1 []=r at *
  unfold uv at h
  split at h
  ·
   simp at h
  ·
   cases hb:jY r.2.1 r.2.1.length with
   | none=>rw [hb] at h;simp at h
   | some k =>
    rw [hb] at h
    obtain ⟨hk,V',hV,hg⟩:=mY _ _ _ hb
    simp only [Option.map_some,Option.some.injEq,Prod.mk.injEq] at h
    rw [List.getD_eq_getElem?_getD,hV,Option.getD_some] at h
    obtain ⟨h1,rfl⟩:=h
    obtain ⟨t,rfl⟩:=hs.1 _ (List.mem_of_getElem? hV)
    have:=hs.2
    simp only [List.length_nil] at this
    exact ⟨by omega,by omega,Bn t hg⟩
def jd (m:aG) (q:Cache) (sec:Int) (reads:List Int):aG×Cache×List Int×Int:=if cH reads=true then gS m (sec * 512) reads else (m,q,[],1800)
theorem Ay (s k c b cap:Nat) (m:aG) (q:Cache) (S:aA) (H:Nat→Prop) (sec:Int) (a:Option Addr) (reads:List Int) (w:World) (h:Sys X w s k c b m q S H) (ok:m.Ok) (hi:aL w a reads H) (hcap:reads.length≤cap) (hm:reads.length≤1000000) (hh:0<m.ar.busy.length→m.ar.home<w.heap.size) (s0:4≤sec) (s1:sec<8):Calls prog 90 #[.pointer (some ⟨k,0,none⟩),.pointer (some ⟨b,0,none⟩),.int .i64 sec,.slice a reads.length cap] w (AL X s k c b (jd m q sec reads).1 (jd m q sec reads).2.1 S (jd m q sec reads).2.2.1 (jd m q sec reads).2.2.2 H w):=by
 unfold jd
 split
 ·
  rename_i hr
  exact Ky s k c b cap m q S H sec a reads w h ok hi hcap hh hr s0 s1
 ·
  rename_i hr
  refine (KE k b cap sec a reads w hi.1 hm (by simpa using hr) s0 s1).mono ?_
  rintro e w' ⟨rfl,hb⟩
  exact ⟨_,rfl,fun _=>rfl,H,h.aj hb,Step.ah hb,fun h0=>absurd h0 (show ¬ (1800:Int)=0 by decide)⟩
theorem DL {m:aG} (ok:m.Ok) {q:Cache} (sec:Int) (s0:4≤sec) (s1:sec<8) (reads:List Int):(jd m q sec reads).1.Ok:=by
 unfold jd
 split
 ·
  rename_i hr
  exact (sM ok _ (by omega) (by omega) reads (fun x hx=>by have:=(ja hr).2 x hx;omega)).1
 ·
  exact ok
end
section
open Go.RowKit
variable {X:Nat→Prop}
def cP (e:Int):aX:=⟨0,e,⟨#[]⟩,⟨#[]⟩⟩
def pI (b:aG×Int) (q:Cache) (n ep:Int) (out:List Int):aG×Cache×aA×List Int×Int :=
 if b.2≠0 then (b.1,q,shut,[],b.2) else (b.1,q,⟨true,n,⟨true,ep,[],1⟩⟩,out,0)
def rD (t:aG×Cache×List Int×Int) (n ep:Int):aG×Cache×aA×List Int×Int :=
 if t.2.2.2≠0 then (t.1,t.2.1,shut,[],t.2.2.2) else pI (t.1.dY (cd n 0) (aK (cP ep))) t.2.1 n ep t.2.2.1
def vC (m:aG) (q:Cache) (sec ep:Int) (reads:List Int):aG×Cache×aA×List Int×Int :=
 if 1048576≤ep then (m,q,shut,[],2304) else rD (jd m q (fK sec) reads) (fK sec) (ep+1)
def nT (o:Option (Int×bC)):Int:=match o with | none=>7 | some x=>x.1
def qz (o:Option (Int×bC)):Int:=match o with | none=>0 | some x=>x.2.an
def rz (l:aG×Option (Int×bC)×Int) (q:Cache) (reads:List Int):aG×Cache×aA×List Int×Int :=
 if l.2.2≠0 then (l.1,q,shut,[],l.2.2) else vC l.1 q (nT l.2.1) (qz l.2.1) reads
def cW (m:aG) (q:Cache) (reads:List Int):aG×Cache×aA×List Int×Int:=rz (fC m) q reads
def dK (X:Nat→Prop) (s k c b:Nat) (m:aG) (q:Cache) (S:aA) (out:List Int) (er:Int) (H:Nat→Prop) (w:World) (e:Ending) (w':World):Prop :=
 ∃ v,e=.returned (.tuple #[v,.int .i64 er])∧(er≠0→v=.slice none 0 0) ∧ ∃ H',Sys X w' s k c b m q S H'∧Step (bS s H) (bS s H') w w'∧(er=0→w'.ownsRow w.heap.size 3 1 v out.length (aB out) ∧ ∀ g,v.ownBlock=some g → ¬ bS s H' g)
theorem dK.none {s k c b:Nat} {m:aG} {q:Cache} {S:aA} {er:Int} {H H':Nat→Prop} {w w':World} (h:Sys X w' s k c b m q S H') (st:Step (bS s H) (bS s H') w w') (he:er≠0):dK X s k c b m q S [] er H w (.returned (.tuple #[.slice none 0 0,.int .i64 er])) w' :=
 ⟨_,rfl,fun _=>rfl,H',h,st,fun h0=>absurd h0 he⟩
theorem CM : ∀ (n:Nat) (j:Int) (m:aG) (vs:List bC),m.Ok→0≤j→(j+n) * 512≤4096→(gQ n j m vs).1.Ok∧bH m (gQ n j m vs).1
 | 0,j,m,vs,ok,h0,h1=>⟨ok,bH.refl m⟩
 | n+1,j,m,vs,ok,h0,h1=>by
  have o1:=zu ok (j * 512) 512 (by omega) (by omega) (by omega) (by omega)
  have h2:=oH m (j * 512) 512
  unfold gQ
  split
  ·
   exact ⟨o1,h2⟩
  ·
   have:=CM n (j+1) _ (vs++[iK (m.cR (j * 512) 512).2.1]) o1 (by omega) (by omega)
   exact ⟨this.1,h2.trans this.2⟩
theorem xm {m:aG} (ok:m.Ok):(fC m).1.Ok∧bH m (fC m).1:=by
 have o1:=Aj ok
 have h1:=oX m
 unfold fC
 split
 ·
  exact ⟨o1,h1⟩
 ·
  have:=CM 4 4 m.dU.1 [] o1 (by omega) (by omega)
  unfold uv
  split <;> exact ⟨this.1,h1.trans this.2⟩
theorem aL.wide {w:World} {a:Option Addr} {xs:List Int} {G:Nat→Prop} (h:aL w a xs G):aL w a xs (fun i=>G i∨w.heap.size≤i):=by
 refine ⟨h.1,fun b o e hl hg => ?_⟩
 rcases hg with hg | hg
 ·
  exact h.2 b o e hl hg
 ·
  obtain ⟨b2,o2,g1,g2⟩:=h.1 0 hl
  rw [e] at g1
  obtain ⟨rfl,rfl⟩:b=b2∧o=o2:=by simpa using g1
  have:=zL w _ g2
  simp only at this
  omega
theorem aL.mono {w:World} {a:Option Addr} {xs:List Int} {F G:Nat→Prop} (h:aL w a xs F) (hG : ∀ i,G i→F i):aL w a xs G:=⟨h.1,fun b o e hl hg=>h.2 b o e hl (hG b hg)⟩
theorem aL.new {w w':World} {a:Option Addr} {xs:List Int} {G F:Nat→Prop} (h:aL w a xs G) (t:Touch F w w') (hF : ∀ i,F i→w.heap.size≤i):aL w' a xs G :=
 (h.wide.step (G':=fun i=>G i∨w.heap.size≤i) (Step.dD (t.mono fun i hi=>.inr (hF i hi)))).mono fun i hi=>.inl hi
theorem rM {n:Int} (h0:4≤n) (h1:n<8):4≤fK n∧fK n<8:=by unfold fK;split <;> omega
theorem q9.ln {X:Nat→Prop} {s k c b:Nat} {m:aG} {q:Cache} {S:aA} {H:Nat→Prop} {w w':World} (h:q9 X s k c b m q S H w w') : ∃ H',Sys X w' s k c b m q S H'∧Step (bS s H) (bS s H') w w':=by
 obtain ⟨H',h1,h2⟩:=h
 exact ⟨H',h1,h2.ln⟩
theorem AY (s k c b cap:Nat) (m:aG) (q:Cache) (S:aA) (H:Nat→Prop) (a:Option Addr) (reads:List Int) (w:World) (h:Sys X w s k c b m q S H) (ok:m.Ok) (kn:m.kQ) (hh:0<m.ar.busy.length→m.ar.home<w.heap.size) (hi:aL w a reads H) (hcap:reads.length≤cap) (hm:reads.length≤1000000):Calls prog 57 #[.pointer (some ⟨s,0,none⟩),.slice a reads.length cap] w (dK X s k c b (cW m q reads).1 (cW m q reads).2.1 (cW m q reads).2.2.1 (cW m q reads).2.2.2.1 (cW m q reads).2.2.2.2 H w):=by
 have HL:=zH (xo s k c b m q S H w h ok kn hh)
 have HLO:=zH (fun sec V => @look_ok m sec V)
 obtain ⟨okl,hml⟩:=xm ok
 have HI:=zH (zA hi (zA okl (fun (w':World) (h:w.heap.size≤w'.heap.size) (hl:0<(fC m).1.ar.busy.length)=>by
  have h1:=hh (zV hl hml.2)
  have h2:(fC m).1.ar.home<w'.heap.size:=by rw [hml.1];omega
  exact h2)))
 unfold cW
 generalize fC m=lr at *
 obtain ⟨m',o,er⟩:=lr
 simp only at HL HLO HI
 have HC:=zH (fun m q H er w (h:Sys X w s k c b m q S H)=>nj s k c b m q S H er w h)
 have HO:=zH (fun m q H sec V va vc w (h:Sys X w s k c b m q S H) hv=>oS s k c b m q S H sec V va vc w h hv)
 clear h ok kn hh okl hml hi
 go_enter func57,ntmps57
 go_wp2_with fail
 refine HL.out.mono ?_
 rintro e w1 ⟨va,vc,rfl,H',hs,st,hr⟩
 have HS:=zH (zA hs (zA st (HI.out.1.step st)))
 clear hs st hr HL
 by_cases k1:er=0
 ·
  subst k1
  have HSEC:=zH (show 4≤nT o∧nT o<8∧0≤qz o∧qz o=(o.getD (0,cE)).2.an∧nT o=(if o.isSome=true then (o.getD (0,cE)).1 else 7) by
   cases o with
   | none=>exact ⟨by decide,by decide,by decide,rfl,rfl⟩
   | some x =>
    obtain ⟨h0,h1,h2⟩:=HLO.out x.1 x.2 rfl
    exact ⟨h0,h1,by have:=h2.an;show 0≤x.2.an;omega,rfl,rfl⟩)
  have HR:=zH (show rz (m',o,0) q reads=vC m' q (nT o) (qz o) reads from if_neg (by simp))
  clear HLO
  generalize nT o=sc at *
  generalize qz o=ep at *
  generalize o.isSome=oi at *
  generalize o.getD (0,cE)=p at *
  obtain ⟨sec,V⟩:=p
  simp only at HSEC ⊢
  obtain rfl:ep=V.an:=HSEC.out.2.2.2.1
  have hep:=HSEC.out.2.2.1
  have HN:=zH (ae (Below.refl w1.heap.size w1) (.cells #[.bool V.ck,.int .i64 V.an,.slice va V.aC.length vc,.int .i64 V.free] 52))
  have HV:=zH (af w1 (.cells #[.bool V.ck,.int .i64 V.an,.slice va V.aC.length vc,.int .i64 V.free] 52))
  have hlt:=aO HV.out
  have HB:=zH (zA (HS.out.1.aj HN.out) (zA ((HS.out.2.1.ln (s:=s)).trans (Step.ah HN.out)) (HS.out.2.2.step (Step.ah HN.out))))
  have HG:=zH (show Sys (fun i=>X i∨aN w1.heap.size i) _ s k c b m' q S H' from HS.out.1.grow (Touch.ah (F:=fun _=>False) HN.out) (fun i hi=>hi.elim) (fun i hi=>hi.elim) (fun _ hi=>hi.elim) (fun i hi=>hi.imp id fun hi=>by rw [show i=w1.heap.size from hi];exact ⟨Nat.le_refl _,hlt⟩))
  have HGD:=zH (show (∀ i,aN w1.heap.size i → ¬ bS s H' i)∧(0<m'.ar.busy.length → ¬ aN w1.heap.size m'.ar.home) from ⟨fun i hi hm=>by
   have:=HS.out.1.lt i hm
   rw [show i=w1.heap.size from hi] at this;omega,fun hl hx=>by
   have:=HI.out.2.2 w1 HS.out.2.1.aH.size hl
   rw [show m'.ar.home=w1.heap.size from hx] at this;omega⟩)
  go_upto_if 26 with fail
  generalize w1.alloc (.cells #[.bool V.ck,.int .i64 V.an,.slice va V.aC.length vc,.int .i64 V.free] 52)=w2 at *
  generalize hg:w1.heap.size=g at *
  go_cut [6] from 26 to 26 (fun v wx=>v=.int .i64 sc∧wx=w2)
  case first =>
   have h5:=HSEC.out.2.2.2.2
   cases oi with
   | true =>
    obtain rfl:sc=sec:=by simpa using h5
    clear h5
    go_wp2
    go_meet
    exact ⟨rfl,rfl⟩
   | false =>
    obtain rfl:sc=7:=by simpa using h5
    clear h5
    go_wp2
    go_meet
    exact ⟨rfl,rfl⟩
  case rest =>
   obtain ⟨rfl,hwc⟩:=hcut
   subst hwc
   obtain ⟨wa,hwa⟩ : ∃ wa,wa=wc:=⟨_,rfl⟩
   subst hwa
   have HN2:=zH (show Below w1.heap.size w1 wa by rw [hg];exact HN.out)
   clear HN
   obtain ⟨d0,d1,d2,d3,df⟩:=cC HV.out
   by_cases k2:1048576≤V.an
   ·
    replace HR:=zH (HR.out.trans (if_pos k2))
    go_wp2_with fail
    refine (HC.out _ _ _ 2304 _ HB.out.1).mono ?_
    rintro e w3 ⟨rfl,H2,h2,st2⟩
    have HF:=zH (zA h2 (HB.out.2.1.trans st2))
    clear h2 st2
    go_wp2
    go_ret2
    rw [HR.out]
    exact dK.none HF.out.1 HF.out.2 (show (2304:Int)≠0 by decide)
   ·
    replace HR:=zH (HR.out.trans (if_neg k2))
    have hn:=rM HSEC.out.1 HSEC.out.2.1
    have HNX:=zH (fun w=>oV sc w (by have:=HSEC.out.1;omega) (by have:=HSEC.out.2.1;omega))
    have hw1:IntKind.i64.wrap (V.an+1)=V.an+1:=cX (by omega) (by omega)
    have HW1:=zH hw1
    clear hw1
    generalize fK sc=n at *
    go_upto_region 10 with fail
    go_cut [6] from 32 to 37 (fun v wx=>v=.int .i64 n∧wx.heap[g]? = some (.cells #[.bool true,.int .i64 (V.an+1),.slice none 0 0,.int .i64 1] 52 (0,0))∧Touch (aN g) wa wx)
    case first =>
     go_region_with (go_at_call 89;refine (HNX.out _).mono ?_;rintro e w' ⟨rfl,rfl⟩)
     all_goals
      rw [HW1.out]
      go_wp2
      go_meet
      exact ⟨rfl,aa (au zR) (eY HV.out _ _ _ _),(cU wa g _ _ _ _).drew⟩
    case rest =>
     obtain ⟨rfl,hgx,htx⟩:=hcut
     have hgw:w.heap.size≤g:=by rw [← hg];exact HS.out.2.1.aH.size
     have hx0 : ∀ i,aN g i→w1.heap.size≤i:=fun i hi=>by rw [show i=g from hi,hg];exact Nat.le_refl _
     have HS2:=zH (zA (HG.out.grow (Y:=X) htx (fun i hi=>.inr hi) HGD.out.1 HGD.out.2 (fun i hi=>.inl (.inl hi))) (zA (show Step (bS s H) (bS s H') w wc from ⟨HB.out.2.1.aH.then htx (fun i hi=>.inr (by rw [show i=g from hi];exact hgw)),HB.out.2.1.gP⟩) (zA (HS.out.2.2.new ((Touch.ah HN2.out).trans htx) hx0) hgx)))
     have hsz:w.heap.size≤wc.heap.size:=HS2.out.2.1.aH.size
     have HWT:=zH (fun w' (hb:Below wc.heap.size wc w')=>Ay s k c b cap m' q S H' n a reads w' (HS2.out.1.aj hb) HI.out.2.1 (HS2.out.2.2.1.step (Step.ah hb)) hcap hm (HI.out.2.2 w' (Nat.le_trans hsz hb.size)) hn.1 hn.2)
     have HTO:=zH (DL HI.out.2.1 (q:=q) n hn.1 hn.2 reads)
     have hgH : ¬ bS s H' g:=HGD.out.1 g rfl
     have HGH:=zH hgH
     generalize jd m' q n reads=t at *
     obtain ⟨m2,q2,out,er2⟩:=t
     simp only at HWT HTO
     obtain ⟨a0,cp0,h1,h2⟩:=HS2.out.1.st
     obtain ⟨c0,c1,c2,c3,c4,c5,c6,c7,cf⟩:=tE h1
     clear h1 h2 c2 c3 c4 c5 c6 c7 d0 d1 d2 d3 df hgx htx hx0 hgH
     go_upto_region 11 with fail
     go_cut [9,10] from 38 to 51 (fun v9 v10 wx=>v9=.int .i64 er2 ∧ ∃ H2,Sys X wx s k c b m2 q2 S H2∧Step H' H2 wc wx∧(er2=0→wx.ownsRow wc.heap.size 3 1 v10 out.length (aB out) ∧ ∀ g,v10.ownBlock=some g → ¬ H2 g))
     case first =>
      go_region_with (go_at_call 90;refine (HWT.out _ (au zR)).mono ?_;rintro e w' ⟨v,rfl,hv0,H2,hs2,st2,how⟩;have HQ:=zH (zA hs2 (zA ((Step.ah (au zR)).trans st2) how));clear hs2 st2 how hv0)
      all_goals
       go_wp2
       go_meet
       exact ⟨rfl,H2,HQ.out.1,HQ.out.2.1,HQ.out.2.2⟩
     case rest =>
      obtain ⟨wb,hwb⟩ : ∃ wb,wb=wc:=⟨_,rfl⟩
      obtain ⟨rfl,H2,hs2,st2,how⟩:=hcut
      have HS3:=zH (zA hs2 (zA (HS2.out.2.1.trans st2.ln) (st2.aH.at HS2.out.2.2.2 (fun h=>HGH.out (.inl h)))))
      have HOW:=zH (zA how (zA (st2.ln.safe (aO HS2.out.2.2.2) HGH.out) (aO (HS2.out.1.st.choose_spec.choose_spec.1))))
      clear hs2 st2 how hwb
      obtain ⟨d0,d1,d2,d3,df⟩:=cC HS3.out.2.2
      by_cases k3:er2=0
      ·
       subst k3
       have HR2:=zH (show rD (m2,q2,out,0) n (V.an+1)=pI (m2.dY (cd n 0) (aK (cP (V.an+1)))) q2 n (V.an+1) out from if_neg (by simp))
       have hrm:bD (cP (V.an+1))=true:=by
        unfold bD cP
        rw [if_pos rfl]
        simp only [oF,lu]
        simp
        omega
       have HBU:=zH (fun w h=>tS (X:=X) s k c b m2 q2 S H2 n 0 (cP (V.an+1)) w h HTO.out hn.1 hn.2 (by decide) (by decide) hrm)
       rw [show (cP (V.an+1)).cells = #[.int .i64 0,.int .i64 (V.an+1),.string ⟨#[]⟩,.string ⟨#[]⟩] from rfl] at HBU
       clear hrm
       generalize m2.dY (cd n 0) (aK (cP (V.an+1)))=br at *
       obtain ⟨m3,er3⟩:=br
       simp only at HBU
       go_wp2_with fail
       refine (HBU.out _ HS3.out.1).mono ?_
       rintro e w3 ⟨rfl,H3,hs3,st3⟩
       have HS4:=zH (zA hs3 (zA (HS3.out.2.1.trans st3.ln) st3))
       have HVW:=zH (st3.aH.at HS3.out.2.2 (fun h=>HOW.out.2.1 (.inl h)))
       clear hs3 st3 d0 d1 d2 d3 df c0 c1 cf
       obtain ⟨d0,d1,d2,d3,df⟩:=cC HVW.out
       by_cases k4:er3=0
       ·
        subst k4
        have HR3:=zH (show pI (m3,0) q2 n (V.an+1) out=(m3,q2,⟨true,n,⟨true,V.an+1,[],1⟩⟩,out,0) from if_neg (by simp))
        go_wp2_with fail
        refine (HO.out _ _ _ n ⟨true,V.an+1,[],1⟩ none 0 _ HS4.out.1 (dS.nil _ _)).mono ?_
        rintro e w4 ⟨rfl,H4,hs4,st4⟩
        have HS5:=zH (zA hs4 (zA (HS4.out.2.1.trans st4) ((HS4.out.2.2.ln (s:=s)).trans st4)))
        clear hs4 st4
        go_wp2
        go_ret2
        rw [HR.out,HR2.out,HR3.out]
        have how:=HOW.out.1 (by trivial)
        have hfar : ∀ y,u10.ownBlock=some y → ¬ bS s H2 y:=fun y hy hm=>by
         have h1:=bZ how.1 y hy
         rcases hm with hm | hm
         ·
          exact how.2 y hy hm
         ·
          have:=HOW.out.2.2;omega
        exact ⟨_,rfl,fun h0=>absurd rfl h0,H4,HS5.out.1,HS5.out.2.1,fun _=>⟨eV (dE how.1 HS5.out.2.2.aH hfar) hsz,fun y hy=>HS5.out.2.2.safe (lx how.1 y hy) (hfar y hy)⟩⟩
       ·
        have hne:(er3 != 0)=true:=bne_iff_ne.2 k4
        have HR3:=zH (show pI (m3,er3) q2 n (V.an+1) out=(m3,q2,shut,[],er3) from if_pos k4)
        have HE:=zH k4
        clear k4
        go_wp2_with fail
        refine (HC.out _ _ _ er3 _ HS4.out.1).mono ?_
        rintro e w4 ⟨rfl,H4,hs4,st4⟩
        have HS5:=zH (zA hs4 (HS4.out.2.1.trans st4))
        clear hs4 st4
        go_wp2
        go_ret2
        rw [HR.out,HR2.out,HR3.out]
        exact dK.none HS5.out.1 HS5.out.2 HE.out
      ·
       have hne:(er2 == 0)=false:=zQ k3
       have hne2:(er2 != 0)=true:=bne_iff_ne.2 k3
       have HR2:=zH (show rD (m2,q2,out,er2) n (V.an+1)=(m2,q2,shut,[],er2) from if_pos k3)
       have HE:=zH k3
       clear k3
       go_wp2_with fail
       refine (HC.out _ _ _ er2 _ HS3.out.1).mono ?_
       rintro e w3 ⟨rfl,H3,h3,st3⟩
       have HF:=zH (zA h3 (HS3.out.2.1.trans st3))
       clear h3 st3
       go_wp2
       go_ret2
       rw [HR.out,HR2.out]
       exact dK.none HF.out.1 HF.out.2 HE.out
 ·
  have hne:(er != 0)=true:=bne_iff_ne.2 k1
  have HR:=zH (show rz (m',o,er) q reads=(m',q,shut,[],er) from if_pos k1)
  have HE:=zH k1
  generalize o.isSome=oi at *
  generalize o.getD (0,cE)=p at *
  obtain ⟨sec,V⟩:=p
  simp only
  clear k1
  have HN:=zH (ae (Below.refl w1.heap.size w1) (.cells #[.bool V.ck,.int .i64 V.an,.slice va V.aC.length vc,.int .i64 V.free] 52))
  go_wp2_with fail
  refine (HC.out _ _ _ er _ (HS.out.1.aj HN.out)).mono ?_
  rintro e w2 ⟨rfl,H2,h2,st2⟩
  have HF:=zH (zA h2 (((HS.out.2.1.ln (s:=s)).trans (Step.ah HN.out)).trans st2))
  clear h2 st2
  go_wp2
  go_ret2
  rw [HR.out]
  exact dK.none HF.out.1 HF.out.2 HE.out
end
section
open Go.RowKit
variable {X:Nat→Prop}
def bC.KM (V:bC):Prop:=V.aC.length≤7 ∧ ∀ r ∈ V.aC,gW r
theorem nU (s k c b:Nat) (m:aG) (q:Cache) (S:aA) (H:Nat→Prop) (w:World) (h:Sys X w s k c b m q S H) (ok:S.view.KM):Calls prog 96 #[.pointer (some ⟨s,0,none⟩)] w fun e w' => ∃ v,e=.returned v∧w'.ownsRow w.heap.size 83 2 v (cn S.view.aC).length (aE (cn S.view.aC))∧Below w.heap.size w w':=by
 obtain ⟨a,cp,h1,h2⟩:=h.st
 have HB:=zH (oz (.slice a S.view.aC.length cp) S.view.aC w h2.at_ (by have:=ok.1;omega) ok.2)
 obtain ⟨c0,c1,c2,c3,c4,c5,c6,c7,cf⟩:=tE h1
 clear h h1 h2 ok c0 c1 c2 c3 c4 c5 c7
 go_enter func96,ntmps96
 go_wp2_with fail
 refine HB.out.mono ?_
 rintro e w1 ⟨v,rfl,ho,hb⟩
 have HS:=zH (zA ho hb)
 clear ho hb
 go_wp2
 go_ret
 exact ⟨v,rfl,HS.out⟩
def xe (S:aA) (key:ByteArray):ByteArray×Int:=if cQ S key≠0 then (⟨#[]⟩,cQ S key) else match iI (cn S.view.aC) key with | none=>(⟨#[]⟩,2303) | some v=>(v,0)
theorem xZ (s k c b:Nat) (m:aG) (q:Cache) (S:aA) (H:Nat→Prop) (key:ByteArray) (w:World) (h:Sys X w s k c b m q S H) (ok:S.view.KM):Calls prog 60 #[.pointer (some ⟨s,0,none⟩),.string key] w fun e w'=>e=.returned (.tuple #[.string (xe S key).1,.int .i64 (xe S key).2])∧Below w.heap.size w w':=by
 have HA:=zH (ot s k c b m q S H key w h)
 have HL:=zH (nU s k c b m q S H w h ok)
 have hbl:(cn S.view.aC).length≤100:=by
  have:=(dx _ S.view.aC rfl ok.2).2;have:=ok.1;omega
 have HF:=zH (fun v w h=>p9 v (cn S.view.aC) key w h (by omega))
 have HR:=zH (show xe S key=if cQ S key≠0 then (⟨#[]⟩,cQ S key) else match iI (cn S.view.aC) key with | none=>(⟨#[]⟩,2303) | some v=>(v,0) from rfl)
 clear h ok
 generalize xe S key=gr at *
 generalize cQ S key=er at *
 generalize iI (cn S.view.aC) key=fl at *
 generalize cn S.view.aC=ps at *
 go_enter func60,ntmps60
 go_wp2_with fail
 refine HA.out.mono ?_
 rintro e w1 ⟨rfl,rfl⟩
 by_cases k1:er=0
 ·
  subst k1
  replace HR:=zH (HR.out.trans (if_neg (by simp)))
  go_wp2_with fail
  refine HL.out.mono ?_
  rintro e w1 ⟨v,rfl,ho,hb⟩
  have HS:=zH (zA ho hb)
  clear ho hb
  obtain ⟨xa,xc,rfl⟩:=bG HS.out.1
  go_wp2_with fail
  refine (HF.out _ _ (aU.cZ HS.out.1)).mono ?_
  rintro e w2 ⟨rfl,hb⟩
  have HS2:=zH (gtr HS.out.2 hb)
  clear hb
  cases fl with
  | none =>
   simp only [Option.getD_none,Option.isSome_none]
   go_wp2
   go_ret2
   rw [HR.out]
   exact ⟨rfl,HS2.out⟩
  | some x =>
   simp only [Option.getD_some,Option.isSome_some]
   go_wp2
   go_ret2
   rw [HR.out]
   exact ⟨rfl,HS2.out⟩
 ·
  have hne:(er != 0)=true:=bne_iff_ne.2 k1
  replace HR:=zH (HR.out.trans (if_pos k1))
  clear k1
  go_wp2
  go_ret2
  rw [HR.out]
  exact ⟨rfl,Below.refl _ _⟩
def lN (S:aA):List aJ×Int:=if S.opened=true then (cn S.view.aC,0) else ([],2302)
theorem vn (s k c b:Nat) (m:aG) (q:Cache) (S:aA) (H:Nat→Prop) (w:World) (h:Sys X w s k c b m q S H) (ok:S.view.KM):Calls prog 62 #[.pointer (some ⟨s,0,none⟩)] w fun e w' => ∃ v,e=.returned (.tuple #[v,.int .i64 (lN S).2])∧w'.ownsRow w.heap.size 83 2 v (lN S).1.length (aE (lN S).1)∧Below w.heap.size w w':=by
 have HL:=zH (nU s k c b m q S H w h ok)
 obtain ⟨a,cp,h1,h2⟩:=h.st
 obtain ⟨c0,c1,c2,c3,c4,c5,c6,c7,cf⟩:=tE h1
 clear h ok h1 h2 c0 c1 c3 c4 c5 c6 c7
 unfold lN
 cases hs:S.opened with
 | false =>
  rw [hs] at c2
  rw [if_neg (by decide)]
  go_enter func62,ntmps62
  go_wp2
  go_ret2
  exact ⟨_,rfl,zN,Below.refl _ _⟩
 | true =>
  rw [hs] at c2
  rw [if_pos rfl]
  go_enter func62,ntmps62
  go_wp2_with fail
  refine HL.out.mono ?_
  rintro e w1 ⟨v,rfl,ho,hb⟩
  have HS:=zH (zA ho hb)
  clear ho hb
  go_wp2
  go_ret2
  exact ⟨v,rfl,HS.out⟩
end
end Go.Proofs.YtcfdenckiigdaaaGreat

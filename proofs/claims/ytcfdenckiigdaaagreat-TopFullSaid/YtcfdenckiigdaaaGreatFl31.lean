/- Part 31 of the contracts. -/
import Derived.Test.YtcfdenckiigdaaaGreatFl30
set_option linter.unusedVariables false
set_option maxRecDepth 100000
set_option maxHeartbeats 4000000
namespace Go.Proofs.YtcfdenckiigdaaaGreat
open Tryz
section
open Go.RowKit
variable {X:Nat→Prop}
def jY (vs:List bB):Nat→Option Nat
 | 0=>none
 | j+1=>match vs[j]? with
  | none=>jY vs j
  | some p=>if p.cn=false then jY vs j else
   match jY vs j with
   | none=>some j
   | some k=>match vs[k]? with
    | none=>jY vs j
    | some q=>if q.an<p.an then some j else some k
theorem BO (vs:List (bB×(Option Addr×Nat))) : ∀ j,iX vs j=jY (vs.map Prod.fst) j
 | 0=>rfl
 | j+1=>by
  have ih:=BO vs j
  rw [iX,jY,ih,List.getElem?_map]
  cases vs[j]? with
  | none=>rfl
  | some p =>
   simp only [Option.map_some]
   split
   ·
    rfl
   ·
    cases jY (vs.map Prod.fst) j with
    | none=>rfl
    | some k =>
     simp only [List.getElem?_map]
     cases vs[k]? <;> rfl
theorem GV:(prog.info? 52).map (fun i=>(i.zero,i.size,i.bytes))=some (some (.agg #[.bool false,.int .i64 0,.slice none 0 0,.int .i64 0]),4,48):=by kernel_rfl
theorem yB (vs:List (bB×(Option Addr×Nat))) (p:bB×(Option Addr×Nat)):ei (vs++[p])=ei vs++[.bool p.1.cn,.int .i64 p.1.an,.slice p.2.1 p.1.aB.length p.2.2,.int .i64 p.1.free]:=by simp [ei,bB.row]
def gQ:Nat→Int→aG→List bB→aG×List bB×Int
 | 0,j,m,vs=>(m,vs,0)
 | n+1,j,m,vs=>if (m.cT (j * 512) 512).2.2≠0 then ((m.cT (j * 512) 512).1,vs,(m.cT (j * 512) 512).2.2) else gQ n (j+1) (m.cT (j * 512) 512).1 (vs++[iM (m.cT (j * 512) 512).2.1])
def ux (r:aG×List bB×Int):aG×Option (Int×bB)×Int:=if r.2.2≠0 then (r.1,none,r.2.2) else (r.1,(jY r.2.1 r.2.1.length).map (fun (k:Nat)=>(4+(k:Int),r.2.1.getD k cH)),0)
def fE (m:aG):aG×Option (Int×bB)×Int:=if m.dV.2≠0 then (m.dV.1,none,m.dV.2) else ux (gQ 4 4 m.dV.1 [])
def Bv (s k c b:Nat) (m:aG) (q:Cache) (S:aA) (o:Option (Int×bB)) (er:Int) (H:Nat→Prop) (w:World) (e:Ending) (w':World):Prop :=
 ∃ va vc,e=.returned (.tuple #[.int .i64 (o.getD (0,cH)).1,.agg #[.bool (o.getD (0,cH)).2.cn,.int .i64 (o.getD (0,cH)).2.an,.slice va (o.getD (0,cH)).2.aB.length vc,.int .i64 (o.getD (0,cH)).2.free],.bool o.isSome,.int .i64 er]) ∧ ∃ H',Sys (fun _=>False) w' s k c b m q S H'∧Step H H' w w'∧dU w' va vc (o.getD (0,cH)).2.aB (bK s H')
def lP (r:Nat) (v:Value) (i:Nat):Prop:=i=r∨v.ownBlock=some i
structure iF (W wr:World) (r s k c b:Nat) (m:aG) (q:Cache) (S:aA) (H H':Nat→Prop) (v:Value) (vs:List (bB×(Option Addr×Nat))):Prop where
 sys:Sys (lP r v) wr s k c b m q S H'
 step:Step H H' W wr
 own:wr.ownsRow W.heap.size 52 4 v vs.length (ei vs)
 fB : ∀ g,v.ownBlock=some g → ¬ bK s H' g
 Lw : ¬ bK s H' r
 rat:wr.heap[r]? = some (.cells #[.bool false,.int .i64 0,.slice none 0 0,.int .i64 0] 52 (0,0))
 aB : ∀ p ∈ vs,dU wr p.2.1 p.2.2 p.1.aB (By (lP r v) s H')
 M4:r<W.heap.size
 home:0<m.ar.busy.length→m.ar.home<r
 ok:m.Ok
theorem dE {B n sz:Nat} {t:TypeId} {F:Nat→Prop} {w w':World} {v:Value} {xs:List Value} (h:w.ownsRow B t sz v n xs) (st:Touch F w w') (hn : ∀ g,v.ownBlock=some g → ¬ F g):w'.ownsRow B t sz v n xs:=by
 refine ⟨h.1,?_⟩
 rcases h.2 with h2 | ⟨g,cap,cur,hv,hb,hg,r⟩
 ·
  exact .inl h2
 ·
  exact .inr ⟨g,cap,cur,hv,hb,st.at hg (hn g (by rw [hv];rfl)),r⟩
theorem lx {B n sz:Nat} {t:TypeId} {w:World} {v:Value} {xs:List Value} (h:w.ownsRow B t sz v n xs) : ∀ g,v.ownBlock=some g→g<w.heap.size:=by
 intro g hg
 rcases h.2 with ⟨rfl,_⟩ | ⟨g',cap,cur,rfl,hb,hh,r⟩
 ·
  simp [Value.ownBlock] at hg
 ·
  obtain rfl:g'=g:=by simpa [Value.ownBlock] using hg
  exact aP hh
theorem iF.act {W wr w':World} {r s k c b:Nat} {m m':aG} {q:Cache} {S:aA} {H H1 H2:Nat→Prop} {v:Value} {vs:List (bB×(Option Addr×Nat))} (L:iF W wr r s k c b m q S H H1 v vs) (hs:Sys (lP r v) w' s k c b m' q S H2) (st:Step H1 H2 wr w') (hm:bG m m') (ok:m'.Ok):iF W w' r s k c b m' q S H H2 v vs :=
 ⟨hs,L.step.trans st,dE L.own st.aH (fun g hg hH=>L.fB g hg (.inl hH)),fun g hg=>st.lp.safe (lx L.own g hg) (L.fB g hg),st.lp.safe (aP L.rat) L.Lw,st.aH.at L.rat (fun hH=>L.Lw (.inl hH)),fun p hp=>(L.aB p hp).step st.off,L.M4,fun hl=>by rw [hm.1];exact L.home (zV hl hm.2),ok⟩
theorem iF.aj {W wr w':World} {r s k c b:Nat} {m:aG} {q:Cache} {S:aA} {H H1:Nat→Prop} {v:Value} {vs:List (bB×(Option Addr×Nat))} (L:iF W wr r s k c b m q S H H1 v vs) (hb:Below wr.heap.size wr w'):iF W w' r s k c b m q S H H1 v vs :=
 L.act (L.sys.aj hb) (Step.ah hb) (bG.refl m) L.ok
theorem iF.apart {W wr:World} {r s k c b:Nat} {m:aG} {q:Cache} {S:aA} {H H1:Nat→Prop} {v:Value} {vs:List (bB×(Option Addr×Nat))} (L:iF W wr r s k c b m q S H H1 v vs):(∀ i,lP r v i → ¬ bK s H1 i)∧(0<m.ar.busy.length → ¬ lP r v m.ar.home) :=
 ⟨fun i hi=>hi.elim (fun e=>by rw [e];exact L.Lw) (fun e=>L.fB i e),fun hl hx=>by
  have h1:=L.home hl
  have h2:=L.M4
  rcases hx with hx | hx
  ·
   omega
  ·
   have:=bQ L.own _ hx;omega⟩
theorem iF.more {W wr wa w2:World} {r s k c b g cap:Nat} {m:aG} {q:Cache} {S:aA} {H H1:Nat→Prop} {v:Value} {vs:List (bB×(Option Addr×Nat))} {p:bB×(Option Addr×Nat)} (L:iF W wr r s k c b m q S H H1 v vs) (hb:Below wr.heap.size wr wa) (hr:wa.ownsRow wr.heap.size 74 4 (.slice p.2.1 p.1.aB.length p.2.2) p.1.aB.length (bp p.1.aB)) (ho:w2.ownsRow W.heap.size 52 4 (.slice (some ⟨g,0,none⟩) (vs.length+1) cap) (vs.length+1) (ei (vs++[p]))) (hg:wa.grownBy w2 v.ownBlock) (hor:v.ownBlock=some g∨g=wa.heap.size) (hl:g<w2.heap.size):iF W w2 r s k c b m q S H H1 (.slice (some ⟨g,0,none⟩) (vs.length+1) cap) (vs++[p]):=by
 have LA:=L.aj hb
 have t0:Touch (fun i=>v.ownBlock=some i) wa w2:=uO hg
 have t:Touch (lP r v) wa w2:=t0.mono fun i hi=>.inr hi
 have hx : ∀ i,lP r (.slice (some ⟨g,0,none⟩) (vs.length+1) cap) i→lP r v i∨(i=g∧g=wa.heap.size):=fun i hi=>by
  rcases hi with hi | hi
  ·
   exact .inl (.inl hi)
  ·
   obtain rfl:g=i:=by simpa [Value.ownBlock] using hi
   exact hor.imp .inr (fun e=>⟨rfl,e⟩)
 have hnew : ∀ i,bK s H1 i→i≠wa.heap.size:=fun i hi e=>by have:=LA.sys.lt i hi;omega
 have hrr:r≠wa.heap.size:=fun e=>by have:=aP LA.rat;omega
 have ap:=LA.apart
 refine ⟨LA.sys.grow t ap.1 ap.2 (fun i hi=>(hx i hi).imp id (fun e=>by rw [e.1];exact ⟨Nat.le_of_eq e.2.symm,hl⟩)),⟨LA.step.aH.then t0 (fun i hi=>.inr (bQ L.own i hi)),LA.step.ik⟩,?_,?_,L.Lw,t0.at LA.rat (fun hi => ?_),?_,L.M4,L.home,L.ok⟩
 ·
  rw [List.length_append];exact ho
 ·
  intro i hi
  obtain rfl:g=i:=by simpa [Value.ownBlock] using hi
  rcases hor with ho' | ho'
  ·
   exact L.fB g ho'
  ·
   exact fun hm=>hnew g hm ho'
 ·
  have h1:=bQ L.own r hi
  have h2:=L.M4
  omega
 ·
  intro p' hp'
  rcases List.mem_append.1 hp' with hp' | hp'
  ·
   have h1:=(LA.aB p' hp')
   have h2:=h1.step (F:=By (lP r v) s H1) (G:=By (lP r v) s H1) (Step.dD (t.mono fun i hi=>.inr hi))
   exact ⟨h2.at_,fun x o f e h0 hy=>hy.elim (fun hm=>h1.fB x o f e h0 (.inl hm)) (fun hy=>(hx x hy).elim (fun hx=>h1.fB x o f e h0 (.inr hx)) (fun e'=>by have:=h1.lt x o f e h0;have:=e'.1;have:=e'.2;omega))⟩
  ·
   obtain rfl:p'=p:=by simpa using hp'
   have hlr:=lx hr
   have hbr:=bQ hr
   have h3:=dE hr t0 (fun y hy hv=>by have:=hbr y hy;have:=lx L.own y hv;omega)
   refine ⟨aT.dd h3,fun x o f e h0 hy => ?_⟩
   have h1:=hlr x (by rw [e];rfl)
   have h2:=hbr x (by rw [e];rfl)
   rcases hy with hm | hy
   ·
    have:=L.sys.lt x hm;omega
   ·
    rcases hx x hy with hx | hx
    ·
     rcases hx with hx | hx
     ·
      have:=aP L.rat;omega
     ·
      have:=lx L.own x hx;omega
    ·
     have:=hx.1;have:=hx.2;omega
theorem iF.done {w W wr w2:World} {s k c b:Nat} {m:aG} {q:Cache} {S:aA} {H H1:Nat→Prop} {v:Value} {vs:List (bB×(Option Addr×Nat))} (L:iF W wr w.heap.size s k c b m q S H H1 v vs) (hw:Below w.heap.size w W) (t:Touch (aO w.heap.size) wr w2):Sys (fun _=>False) w2 s k c b m q S H1∧Step H H1 w w2 ∧ ∀ p ∈ vs,dU w2 p.2.1 p.2.2 p.1.aB (bK s H1):=by
 have t':Touch (lP w.heap.size v) wr w2:=t.mono fun i hi=>.inl (show i=w.heap.size from hi)
 refine ⟨L.sys.grow t' L.apart.1 L.apart.2 (fun i hi=>hi.elim),?_,fun p hp => ?_⟩
 ·
  have h1:=(Step.ah (F:=H) hw).trans L.step
  exact ⟨h1.aH.then t (fun i hi=>.inr (Nat.le_of_eq (show i=w.heap.size from hi).symm)),h1.ik⟩
 ·
  have h1:=L.aB p hp
  have h2:=h1.step (F:=By (lP w.heap.size v) s H1) (G:=By (lP w.heap.size v) s H1) (Step.dD (t'.mono fun i hi=>.inr hi))
  exact ⟨h2.at_,fun x o f e h0 hy=>h2.fB x o f e h0 (.inl hy)⟩
def mr (w:World) (g:Nat) (a b c d:Value):World:=(((w.setCell ⟨g,0,none⟩ a).setCell ⟨g,1,none⟩ b).setCell ⟨g,2,none⟩ c).setCell ⟨g,3,none⟩ d
theorem cW (w:World) (g:Nat) (a b c d:Value):Touch (aO g) w (mr w g a b c d):=((((Touch.refl (aO g) w).set g 0 a rfl).set g 1 b rfl).set g 2 c rfl).set g 3 d rfl
theorem fb {w:World} {g:Nat} {a0 b0 c0 d0:Value} {t:TypeId} (h:w.heap[g]? = some (.cells #[a0,b0,c0,d0] t (0,0))) (a b c d:Value):(mr w g a b c d).heap[g]? = some (.cells #[a,b,c,d] t (0,0)) :=
 az (i:=3) (v:=d) (az (i:=2) (v:=c) (az (i:=1) (v:=b) (az (i:=0) (v:=a) h)))
theorem rH {w W wr w2:World} {s k c b:Nat} {m:aG} {q:Cache} {S:aA} {H H1:Nat→Prop} {v:Value} {vs:List (bB×(Option Addr×Nat))} (L:iF W wr w.heap.size s k c b m q S H H1 v vs) (hw:Below w.heap.size w W) (t:Touch (aO w.heap.size) wr w2) (o:Option (Int×bB)) (er:Int) (va:Option Addr) (vc:Nat) (ho:(o=none∧va=none∧vc=0) ∨ ∃ sec p,p ∈ vs∧o=some (sec,p.1)∧va=p.2.1∧vc=p.2.2):Bv s k c b m q S o er H w (.returned (.tuple #[.int .i64 (o.getD (0,cH)).1,.agg #[.bool (o.getD (0,cH)).2.cn,.int .i64 (o.getD (0,cH)).2.an,.slice va (o.getD (0,cH)).2.aB.length vc,.int .i64 (o.getD (0,cH)).2.free],.bool o.isSome,.int .i64 er])) w2:=by
 obtain ⟨h1,h2,h3⟩:=L.done hw t
 refine ⟨va,vc,rfl,H1,h1,h2,?_⟩
 rcases ho with ⟨rfl,rfl,rfl⟩ | ⟨sec,p,hp,rfl,rfl,rfl⟩
 ·
  exact dU.nil _ _
 ·
  exact h3 p hp
theorem xh (s k c b:Nat) (m:aG) (q:Cache) (S:aA) (H:Nat→Prop) (w:World) (h:Sys (fun _=>False) w s k c b m q S H) (ok:m.Ok) (kn:m.kS) (hh:0<m.ar.busy.length→m.ar.home<w.heap.size):Calls prog 87 #[.pointer (some ⟨s,0,none⟩)] w (Bv s k c b (fE m).1 q S (fE m).2.1 (fE m).2.2 H w):=by
 have HP:=zH (fun w0 (h:Sys (lP w.heap.size (.slice none 0 0)) w0 s k c b m q S H)=>Ir s k c b m q S H w0 h ok kn)
 have HV:=zH (show fE m=if m.dV.2≠0 then (m.dV.1,none,m.dV.2) else ux (gQ 4 4 m.dV.1 []) from rfl)
 have HM:=zH (zA (o8 m) (zO ok))
 have hb0:=ae (Below.refl w.heap.size w) (.cells #[.bool false,.int .i64 0,.slice none 0 0,.int .i64 0] 52)
 have hsz:(w.alloc (.cells #[.bool false,.int .i64 0,.slice none 0 0,.int .i64 0] 52)).heap.size=w.heap.size+1:=by simp
 have L0:iF (w.alloc (.cells #[.bool false,.int .i64 0,.slice none 0 0,.int .i64 0] 52)) (w.alloc (.cells #[.bool false,.int .i64 0,.slice none 0 0,.int .i64 0] 52)) w.heap.size s k c b m q S H H (.slice none 0 0) []:=by
  refine ⟨h.grow (Touch.ah hb0) (fun i hi=>hi.elim) (fun _ hi=>hi.elim) (fun i hi => ?_),Step.refl _ _,zN,fun g hg=>by simp [Value.ownBlock] at hg,fun hm=>by have:=h.lt _ hm;omega,af w _,fun p hp=>by simp at hp,by omega,hh,ok⟩
  rcases hi with hi | hi
  ·
   right;omega
  ·
   simp [Value.ownBlock] at hi
 have HW:=zH (zA hb0 L0)
 obtain ⟨a,cp,h1,h2⟩:=L0.sys.st
 obtain ⟨c0,c1,c2,c3,c4,c5,c6,c7,cf⟩:=tH h1
 clear hb0 h1 h2 h hh ok kn c1 c2 c3 c4 c5 c6 c7 cf L0
 generalize fE m=lr at *
 generalize m.dV=pr at *
 obtain ⟨m1,er1⟩:=pr
 simp only at HP HV HM
 obtain ⟨j0,ji,jz0,jz1,jz2⟩:=info_parts GV
 go_enter func87,ntmps87
 go_upto_region 1 with fail
 generalize w.alloc (.cells #[.bool false,.int .i64 0,.slice none 0 0,.int .i64 0] 52)=W at *
 have HWS:=zH hsz
 clear hsz
 go_wp2_with fail
 refine (HP.out _ HW.out.2.sys).mono ?_
 rintro e w1 ⟨⟨x,y,z,rfl⟩,H1,hs1,st1⟩
 have HL:=zH (HW.out.2.act hs1 st1 HM.out.1 HM.out.2)
 clear hs1 st1 c0
 obtain ⟨d0,d1,d2,d3,df⟩:=cF HL.out.rat
 have hbl:w.heap.size<w1.heap.size:=aP HL.out.rat
 by_cases k1:er1=0
 ·
  subst k1
  replace HV:=zH (HV.out.trans (if_neg (by simp)))
  clear d0 d1 d2 d3 df hbl HP
  have HLW:=zH (zA HW.out.1 HWS.out)
  clear HW HWS HM
  go_wp2
  go_loopg [10,11] 4 (fun n v i wr => ∃ (j:Nat) (mj:aG) (Hj:Nat→Prop) (vs:List (bB×(Option Addr×Nat))),n=4 - j∧i=.int .i64 (4+(j:Int))∧j≤4∧vs.length=j∧gQ (4 - j) (4+(j:Int)) mj (vs.map Prod.fst)=gQ 4 4 m1 []∧iF W wr w.heap.size s k c b mj q S H Hj v vs)
  case atStart=>exact ⟨0,m1,H1,[],rfl,rfl,Nat.zero_le _,rfl,rfl,HL.out⟩
  case round =>
   obtain ⟨j,mj,Hj,vs,hgn,rfl,hj,hvl,hlk,L⟩:=hrel
   have HB:=zH (zA hgn (zA hlk (zA L hvl)))
   clear hgn hlk L hvl
   obtain ⟨d0,d1,d2,d3,df⟩:=cF HB.out.2.2.1.rat
   have hbl:w.heap.size<wr.heap.size:=aP HB.out.2.2.1.rat
   by_cases hlt:j<4
   ·
    have hlt':(4+(j:Int))<8:=by omega
    obtain ⟨a,cp,h1,h2⟩:=HB.out.2.2.1.sys.st
    obtain ⟨c0,c1,c2,c3,c4,c5,c6,c7,cf⟩:=tH h1
    clear h1 h2 c1 c2 c3 c4 c5 c6 c7
    have e1:wrap64 ((4+(j:Int)) * 512)=(4+(j:Int)) * 512:=by unfold wrap64;omega
    have HF:=zH (Iq s k c b mj q S Hj ((4+(j:Int)) * 512) 512 wr HB.out.2.2.1.sys HB.out.2.2.1.ok (by omega) (by omega) (by omega) (by omega))
    have HFS:=zH (zA (oO mj ((4+(j:Int)) * 512) 512) (zA (zk HB.out.2.2.1.ok ((4+(j:Int)) * 512) 512 (by omega) (by omega) (by omega) (by omega)) (Ee mj ((4+(j:Int)) * 512) 512)))
    have HK:=zH (show gQ (4 - j) (4+(j:Int)) mj (vs.map Prod.fst)=if (mj.cT ((4+(j:Int)) * 512) 512).2.2≠0 then ((mj.cT ((4+(j:Int)) * 512) 512).1,vs.map Prod.fst,(mj.cT ((4+(j:Int)) * 512) 512).2.2) else gQ (4 - (j+1)) (4+(j:Int)+1) (mj.cT ((4+(j:Int)) * 512) 512).1 (vs.map Prod.fst++[iM (mj.cT ((4+(j:Int)) * 512) 512).2.1]) by rw [show 4 - j=(4 - (j+1))+1 by omega];rfl)
    rw [show ((512:Nat):Int)=512 from rfl] at HF HFS
    generalize mj.cT ((4+(j:Int)) * 512) 512=fr at *
    obtain ⟨m2,t,er2⟩:=fr
    simp only at HF HFS HK
    go_wp2_with fail
    refine HF.out.mono ?_
    rintro e w2 ⟨rfl,H2,hs2,st2⟩
    have HL2:=zH (HB.out.2.2.1.act hs2 st2 HFS.out.1 HFS.out.2.1)
    clear hs2 st2 c0 cf d0 d1 d2 d3 df hbl
    obtain ⟨d0,d1,d2,d3,df⟩:=cF HL2.out.rat
    have hbl:w.heap.size<w2.heap.size:=aP HL2.out.rat
    by_cases k2:er2=0
    ·
     subst k2
     have ht:t.size=512:=HFS.out.2.2 rfl
     have HSC:=zH (xI t w2 ht)
     replace HK:=zH (HK.out.trans (if_neg (by simp)))
     clear ht HF HFS d0 d1 d2 d3 df hbl
     generalize iM t=V at *
     go_wp2_with fail
     refine HSC.out.mono ?_
     rintro e w3 ⟨vr,rfl,ho,hb⟩
     obtain ⟨ra,rc,rfl⟩:=bF ho
     have HS3:=zH (zA ho hb)
     have HA:=zH (HL2.out.aj hb)
     clear ho hb HSC
     have HVL:=zH HB.out.2.2.2
     go_wp2_with (at_builtin;refine wpList_append_lies _ rfl _ _ 49 rfl W.heap.size 52 j0 (.agg #[.bool false,.int .i64 0,.slice none 0 0,.int .i64 0]) 4 48 underlying49 ji jz0 jz1 jz2 rfl (by decide) u10 vs.length (ei vs) ?b1 (World.ownsRow.aj HA.out.own (ae (ae zR _) _)) ⟨w3.heap.size+1,0,none⟩ 1 1 [.bool V.cn,.int .i64 V.an,.slice ra V.aB.length rc,.int .i64 V.free] ?b2 rfl ?b3 ?b4 (by decide) ?b5 ?b6 ?b7 _ rfl ?_)
     case b1=>rfl
     case b2=>rfl
     case b3=>exact World.news_of_block (cs := #[.bool V.cn,.int .i64 V.an,.slice ra V.aB.length rc,.int .i64 V.free]) (t:=52) (fr:=(0,0)) (by simpa using af (w3.alloc _) _)
     case b4=>intro u hu;simp only [List.mem_cons,List.not_mem_nil,or_false] at hu;rcases hu with rfl | rfl | rfl | rfl <;> rfl
     case b5=>have:=HVL.out;simp only [maxLen];omega
     case b6=>have:=HVL.out;omega
     case b7=>have:=HA.out.step.aH.size;simp only [World.size_alloc];omega
     intro g4 cap4 w4 how hgr hor hgl
     have hgb:Below w3.heap.size w3 _:=ae (ae (Below.refl _ w3) (.cells #[.bool V.cn,.int .i64 V.an,.slice ra V.aB.length rc,.int .i64 V.free] 52)) (.cells #[.bool V.cn,.int .i64 V.an,.slice ra V.aB.length rc,.int .i64 V.free] 52)
     have hL4:=HL2.out.more (p:=(V,ra,rc)) (gtr HS3.out.2 hgb) (World.ownsRow.aj HS3.out.1 hgb) (by rw [yB];exact how) hgr (hor.imp id (fun e=>by rw [e];simp)) hgl
     have HL4:=zH hL4
     have HK4:=zH (show gQ (4 - (j+1)) (4+((j+1:Nat):Int)) m2 ((vs++[(V,ra,rc)]).map Prod.fst)=gQ 4 4 m1 [] by rw [show (4+((j+1:Nat):Int))=4+(j:Int)+1 by omega,List.map_append];exact HK.out.symm.trans HB.out.2.1)
     clear hL4 how hgr hor hgl hgb HS3 HA HK
     go_wp2
     go_roundg (4 - (j+1))
     case measure=>have:=HB.out.1;omega
     case rel=>exact ⟨j+1,m2,H2,vs++[(V,ra,rc)],rfl,by go_num,by omega,by rw [List.length_append,HVL.out];rfl,HK4.out,HL4.out⟩
    ·
     have hne:(er2 != 0)=true:=bne_iff_ne.2 k2
     replace HK:=zH (HB.out.2.1.symm.trans (HK.out.trans (if_pos k2)))
     have HE:=zH k2
     clear k2
     go_wp2_with fail
     have t:=cW w2 w.heap.size (.bool false) (.int .i64 0) (.slice none 0 0) (.int .i64 0)
     obtain ⟨q0,q1,q2,q3,qf⟩:=cF (fb HL2.out.rat (.bool false) (.int .i64 0) (.slice none 0 0) (.int .i64 0))
     refine bodyPost_ret (v:=.tuple #[.int .i64 0,.agg #[.bool false,.int .i64 0,.slice none 0 0,.int .i64 0],.bool false,.int .i64 er2]) ?_ rfl ?_
     ·
      change (results _ _).run _ (mr _ _ _ _ _ _)=_
      simp [results,results87,go_sem,q0,q1,q2,q3]
      rfl
     ·
      rw [HV.out,HK.out,ux,if_pos HE.out]
      exact rH HL2.out HLW.out.1 t none er2 none 0 (.inl ⟨rfl,rfl,rfl⟩)
   ·
    obtain rfl:j=4:=by omega
    have HBC:=zH (fun v h=>DT v vs wr h (by rw [HB.out.2.2.2];omega))
    have HSL:=zH (aT.dd HB.out.2.2.1.own)
    have HK:=zH (show (mj,vs.map Prod.fst,(0:Int))=gQ 4 4 m1 [] from HB.out.2.1)
    have HBL:=zH (vW vs 4)
    have HBE:=zH (BO vs 4)
    have HVT:=zH (pA vs)
    obtain ⟨xa,xc,rfl⟩:=bF HB.out.2.2.1.own
    obtain ⟨bb,o,rfl,hc,hx⟩:=HSL.out.some (by have:=HB.out.2.2.2;omega)
    have hbr:w.heap.size<bb:=zV HB.out.2.2.1.M4 (bQ HB.out.2.2.1.own bb rfl)
    have HX:=zH hx
    have hvl:vs.length=4:=HB.out.2.2.2
    rw [hvl] at HBC HSL hc ⊢
    have HVL:=zH hvl
    clear hx hvl
    go_wp2_with fail
    refine (HBC.out _ HSL.out).mono ?_
    rintro e w2 ⟨rfl,hb⟩
    have HE:=zH (HB.out.2.2.1.aj hb)
    have HX2:=zH (fun i u hu=>(hb.cell (p:=⟨bb,o+i,none⟩) (zL wr _ (HX.out i u hu))).trans (HX.out i u hu))
    have hbl2:w.heap.size<w2.heap.size:=zV hbl hb.size
    clear hb d0 d1 d2 d3 df hbl
    obtain ⟨d0,d1,d2,d3,df⟩:=cF HE.out.rat
    cases hbn:iX vs 4 with
    | none =>
     have HZ:=zH hbn
     clear hbn
     go_wp2_with fail
     have t:=cW w2 w.heap.size (.bool false) (.int .i64 0) (.slice none 0 0) (.int .i64 0)
     obtain ⟨q0,q1,q2,q3,qf⟩:=cF (fb HE.out.rat (.bool false) (.int .i64 0) (.slice none 0 0) (.int .i64 0))
     refine bodyPost_ret (v:=.tuple #[.int .i64 0,.agg #[.bool false,.int .i64 0,.slice none 0 0,.int .i64 0],.bool false,.int .i64 0]) ?_ rfl ?_
     ·
      change (results _ _).run _ (mr _ _ _ _ _ _)=_
      simp [results,results87,go_sem,q0,q1,q2,q3]
      rfl
     ·
      have hlen:(vs.map Prod.fst).length=4:=by rw [List.length_map];exact HB.out.2.2.2
      rw [HV.out,← HK.out,ux,if_neg (by simp)]
      simp only
      rw [hlen,← HBE.out,HZ.out]
      exact rH HE.out HLW.out.1 t none 0 none 0 (.inl ⟨rfl,rfl,rfl⟩)
    | some kb =>
     have hkb:kb<4:=HBL.out kb hbn
     have HZ:=zH hbn
     clear hbn
     obtain ⟨p,hp⟩ : ∃ p,vs[kb]? = some p:=⟨_,List.getElem?_eq_getElem (by rw [HVL.out];exact hkb)⟩
     obtain ⟨V,ra,rc⟩:=p
     have HPM:=zH hp
     obtain ⟨p0,p1,p2,p3⟩:=HVT.out kb _ hp
     have g0:w2.cell? ⟨bb,o+kb * 4,none⟩=some (.bool V.cn):=by rw [Nat.mul_comm];exact HX2.out _ _ p0
     have g1:w2.cell? ⟨bb,o+kb * 4+1,none⟩=some (.int .i64 V.an):=by rw [Nat.mul_comm,Nat.add_assoc];exact HX2.out _ _ p1
     have g2:w2.cell? ⟨bb,o+kb * 4+2,none⟩=some (.slice ra V.aB.length rc):=by rw [Nat.mul_comm,Nat.add_assoc];exact HX2.out _ _ p2
     have g3:w2.cell? ⟨bb,o+kb * 4+3,none⟩=some (.int .i64 V.free):=by rw [Nat.mul_comm,Nat.add_assoc];exact HX2.out _ _ p3
     have hkb':(kb:Int)<4:=by omega
     have hw4:wrap64 (4+(kb:Int))=4+(kb:Int):=by unfold wrap64;omega
     have hne1:bb≠w.heap.size:=by omega
     have hne2:w.heap.size≠bb:=by omega
     clear p0 p1 p2 p3 hp HX HX2 HVT HBL
     go_upto_region 16 with fail
     go_region_held3 (fun w'=>w'.cell? ⟨bb,o+kb * 4,none⟩=some (.bool V.cn)∧w'.cell? ⟨bb,o+kb * 4+1,none⟩=some (.int .i64 V.an)∧w'.cell? ⟨bb,o+kb * 4+2,none⟩=some (.slice ra V.aB.length rc)∧w'.cell? ⟨bb,o+kb * 4+3,none⟩=some (.int .i64 V.free)) (go_keep) (fail)
     have t:Touch (aO w.heap.size) w2 _:=(cW w2 w.heap.size (.bool V.cn) (.int .i64 V.an) (.slice ra V.aB.length rc) (.int .i64 V.free)).drew
     have hq:=aa (au zR) (fb HE.out.rat (.bool V.cn) (.int .i64 V.an) (.slice ra V.aB.length rc) (.int .i64 V.free))
     change Exit.then _ _ _ _ (mr _ _ _ _ _ _).drew
     rw [show IntKind.i64.wrap (4+(kb:Int))=4+(kb:Int) from du (by omega) (by omega)]
     generalize (mr w2 w.heap.size (.bool V.cn) (.int .i64 V.an) (.slice ra V.aB.length rc) (.int .i64 V.free)).drew=w5 at *
     obtain ⟨q0,q1,q2,q3,qf⟩:=cF hq
     clear hq d0 d1 d2 d3 df g0 g1 g2 g3
     go_wp2
     refine bodyPost_ret (v:=.tuple #[.int .i64 (4+(kb:Int)),.agg #[.bool V.cn,.int .i64 V.an,.slice ra V.aB.length rc,.int .i64 V.free],.bool true,.int .i64 0]) (by simp [results,results87,go_sem,q0,q1,q2,q3]) rfl ?_
     have hlen:(vs.map Prod.fst).length=4:=by rw [List.length_map];exact HVL.out
     have hgd:(vs.map Prod.fst).getD kb cH=V:=by rw [List.getD_eq_getElem?_getD,List.getElem?_map,HPM.out];rfl
     rw [HV.out,← HK.out,ux,if_neg (by simp)]
     simp only
     rw [hlen,← HBE.out,HZ.out]
     simp only [Option.map_some,hgd]
     exact rH HE.out HLW.out.1 t (some (4+(kb:Int),V)) 0 ra rc (.inr ⟨4+(kb:Int),(V,ra,rc),List.mem_of_getElem? HPM.out,rfl,rfl,rfl⟩)
 ·
  have hne:(er1 != 0)=true:=bne_iff_ne.2 k1
  replace HV:=zH (HV.out.trans (if_pos k1))
  clear k1
  go_wp2_with fail
  have t:=cW w1 w.heap.size (.bool false) (.int .i64 0) (.slice none 0 0) (.int .i64 0)
  obtain ⟨q0,q1,q2,q3,qf⟩:=cF (fb HL.out.rat (.bool false) (.int .i64 0) (.slice none 0 0) (.int .i64 0))
  refine bodyPost_ret (v:=.tuple #[.int .i64 0,.agg #[.bool false,.int .i64 0,.slice none 0 0,.int .i64 0],.bool false,.int .i64 er1]) ?_ rfl ?_
  ·
   change (results _ _).run _ (mr _ _ _ _ _ _)=_
   simp [results,results87,go_sem,q0,q1,q2,q3]
   rfl
  ·
   rw [HV.out]
   exact rH HL.out HW.out.1 t none er1 none 0 (.inl ⟨rfl,rfl,rfl⟩)
end
section
open Go.RowKit
theorem dU.mono {w:World} {a:Option Addr} {cp:Nat} {rs:List aX} {F G:Nat→Prop} (h:dU w a cp rs F) (hG : ∀ i,G i→F i):dU w a cp rs G :=
 ⟨h.at_,fun x o f e h0 hg=>h.fB x o f e h0 (hG x hg)⟩
theorem dU.off {w:World} {a:Option Addr} {cp:Nat} {rs:List aX} {s:Nat} {H:Nat→Prop} (h:dU w a cp rs (bK s H)):dU w a cp rs (By (fun _=>False) s H) :=
 h.mono fun i hi=>hi.elim id (fun hf=>hf.elim)
def AT (r:aG×Option (Int×bB)×Int):aG×aA×Int:=if r.2.2≠0 then (r.1,shut,r.2.2) else match r.2.1 with | none=>(r.1,shut,2305) | some x=>(r.1,⟨true,x.1,x.2⟩,0)
def gz (m:aG):aG×aA×Int:=AT (fE m)
theorem CN (s k c b:Nat) (m:aG) (q:Cache) (S:aA) (H:Nat→Prop) (w:World) (h:Sys (fun _=>False) w s k c b m q S H) (ok:m.Ok) (kn:m.kS) (hh:0<m.ar.busy.length→m.ar.home<w.heap.size):Calls prog 58 #[.pointer (some ⟨s,0,none⟩)] w (Ay (fun _=>False) (.int .i64 (gz m).2.2) s k c b (gz m).1 q (gz m).2.1 H w):=by
 have HL:=zH (xh s k c b m q S H w h ok kn hh)
 unfold gz
 generalize fE m=lr at *
 obtain ⟨m',o,er⟩:=lr
 simp only at HL
 clear h ok kn hh
 go_enter func58,ntmps58
 go_wp2_with fail
 refine HL.out.mono ?_
 rintro e w1 ⟨va,vc,rfl,H',hs,st,hr⟩
 have HS:=zH (zA hs (zA st hr))
 clear hs st hr HL
 have HN:=zH (ae (Below.refl w1.heap.size w1) (.cells #[.bool (o.getD (0,cH)).2.cn,.int .i64 (o.getD (0,cH)).2.an,.slice va (o.getD (0,cH)).2.aB.length vc,.int .i64 (o.getD (0,cH)).2.free] 52))
 have HC:=zH (fun er w (h:Sys (fun _=>False) w s k c b m' q S H')=>nu s k c b m' q S H' er w h)
 have HO:=zH (fun sec V va vc w (h:Sys (fun _=>False) w s k c b m' q S H') hv=>oX s k c b m' q S H' sec V va vc w h hv)
 have HSN:=zH (HS.out.1.aj HN.out)
 have HST:=zH (HS.out.2.1.lp (s:=s))
 by_cases k1:er=0
 ·
  subst k1
  cases o with
  | none =>
   simp only [Option.getD_none,Option.isSome_none] at HN HSN ⊢
   go_wp2_with fail
   refine (HC.out 2305 _ HSN.out).mono ?_
   rintro e w2 ⟨rfl,H2,h2,st2⟩
   have HR:=zH (zA h2 ((HST.out.trans (Step.ah HN.out)).trans st2))
   clear h2 st2
   go_wp2
   go_ret
   exact ⟨rfl,H2,HR.out⟩
  | some x =>
   obtain ⟨sec,V⟩:=x
   simp only [Option.getD_some,Option.isSome_some] at HN HSN HS ⊢
   have HRV:=zH ((HS.out.2.2.off).step (Step.ah HN.out))
   go_wp2_with fail
   refine (HO.out sec V va vc _ HSN.out HRV.out).mono ?_
   rintro e w2 ⟨rfl,H2,h2,st2⟩
   have HR:=zH (zA h2 ((HST.out.trans (Step.ah HN.out)).trans st2))
   clear h2 st2
   go_wp2
   go_ret
   exact ⟨rfl,H2,HR.out⟩
 ·
  have hne:(er != 0)=true:=bne_iff_ne.2 k1
  have HMB:=zH (show AT (m',o,er)=(m',shut,er) from if_pos k1)
  generalize o.isSome=oi at *
  generalize o.getD (0,cH)=p at *
  obtain ⟨sec,V⟩:=p
  simp only at HN HSN HS ⊢
  clear k1
  go_wp2_with fail
  refine (HC.out er _ HSN.out).mono ?_
  rintro e w2 ⟨rfl,H2,h2,st2⟩
  have HR:=zH (zA h2 ((HST.out.trans (Step.ah HN.out)).trans st2))
  clear h2 st2
  go_wp2
  go_ret
  rw [HMB.out]
  exact ⟨rfl,H2,HR.out⟩
end
section
open Go.RowKit
theorem xz {s:ByteArray} {r:aX} (h:dJ s=some r):bC r=true:=by
 unfold dJ at h
 split at h
 ·
  simp at h
 ·
  split at h
  ·
   rename_i hp
   unfold iD at hp
   split at hp
   ·
    rename_i hm
    obtain rfl:_=r:=by simpa using h
    exact hm
   ·
    simp at hp
  ·
   simp at h
theorem uG (s:ByteArray) : ∀ k,∀ r ∈ bw s k,gW r
 | 0,r,h=>by simp [bw] at h
 | k+1,r,h=>by
  simp only [bw,List.mem_append] at h
  rcases h with h | h
  ·
   exact uG s k r h
  ·
   unfold eA at h
   split at h
   ·
    rename_i x hx
    split at h
    ·
     simp at h
    ·
     rename_i hk
     obtain rfl:r=x:=by simpa using h
     exact ⟨xz hx,hk⟩
   ·
    simp at h
theorem uF (s:ByteArray) : ∀ k,1≤bT s k∧bT s k≤(k+1:Nat)
 | 0=>by simp [bT]
 | k+1=>by
  have:=uF s k
  unfold bT
  split
  ·
   omega
  ·
   omega
theorem Bc (s:ByteArray) (h:(iM s).cn=true):(iM s).Ok:=by
 have hf:=uF s 7
 refine ⟨h,?_,by simpa [iM] using hf,nN s 7,uG s 7⟩
 unfold iM at h ⊢
 simp only at h ⊢
 unfold cG at h ⊢
 split at h
 ·
  rename_i r hr
  split at h
  ·
   rename_i hk
   have hm:=xz hr
   rw [if_pos hk]
   unfold bC at hm
   rw [if_pos hk] at hm
   unfold oM at hm
   simp only [Bool.and_eq_true,decide_eq_true_eq] at hm
   exact hm.1.1
  ·
   simp at h
 ·
  simp at h
theorem nh (vs:List bB) : ∀ j k,jY vs j=some k→k<j ∧ ∃ V,vs[k]? = some V∧V.cn=true
 | 0,k,h=>by simp [jY] at h
 | j+1,k,h=>by
  have ih:=nh vs j
  unfold jY at h
  split at h
  ·
   have:=ih k h;exact ⟨by omega,this.2⟩
  ·
   rename_i p hp
   split at h
   ·
    have:=ih k h;exact ⟨by omega,this.2⟩
   ·
    rename_i hg
    have hg':p.cn=true:=by simpa using hg
    split at h
    ·
     obtain rfl:j=k:=by simpa using h
     exact ⟨by omega,p,hp,hg'⟩
    ·
     rename_i k' hk
     have hk':=ih _ hk
     split at h
     ·
      have:=ih k h;exact ⟨by omega,this.2⟩
     ·
      split at h
      ·
       obtain rfl:j=k:=by simpa using h
       exact ⟨by omega,p,hp,hg'⟩
      ·
       obtain rfl:k'=k:=by simpa using h
       exact ⟨by omega,hk'.2⟩
theorem uy : ∀ (n:Nat) (j:Int) (m:aG) (vs:List bB),(∀ V ∈ vs,∃ t,V=iM t)→(∀ V ∈ (gQ n j m vs).2.1,∃ t,V=iM t)∧(gQ n j m vs).2.1.length≤vs.length+n
 | 0,j,m,vs,h=>⟨h,by simp [gQ]⟩
 | n+1,j,m,vs,h=>by
  unfold gQ
  split
  ·
   exact ⟨h,by simp⟩
  ·
   have:=uy n (j+1) (m.cT (j * 512) 512).1 (vs++[iM (m.cT (j * 512) 512).2.1]) (fun V hV=>by
    rcases List.mem_append.1 hV with hV | hV
    ·
     exact h V hV
    ·
     exact ⟨_,by simpa using hV⟩)
   refine ⟨this.1,?_⟩
   have h2:=this.2
   simp only [List.length_append,List.length_cons,List.length_nil] at h2
   omega
theorem look_ok {m:aG} {sec:Int} {V:bB} (h:(fE m).2.1=some (sec,V)):4≤sec∧sec<8∧V.Ok:=by
 unfold fE at h
 split at h
 ·
  simp at h
 ·
  have hs:=uy 4 4 m.dV.1 [] (fun V hV=>by simp at hV)
  generalize gQ 4 4 m.dV.1 []=r at *
  unfold ux at h
  split at h
  ·
   simp at h
  ·
   cases hb:jY r.2.1 r.2.1.length with
   | none=>rw [hb] at h;simp at h
   | some k =>
    rw [hb] at h
    obtain ⟨hk,V',hV,hg⟩:=nh _ _ _ hb
    simp only [Option.map_some,Option.some.injEq,Prod.mk.injEq] at h
    rw [List.getD_eq_getElem?_getD,hV,Option.getD_some] at h
    obtain ⟨h1,rfl⟩:=h
    obtain ⟨t,rfl⟩:=hs.1 _ (List.mem_of_getElem? hV)
    have:=hs.2
    simp only [List.length_nil] at this
    exact ⟨by omega,by omega,Bc t hg⟩
def jf (m:aG) (q:Cache) (sec:Int) (reads:List Int):aG×Cache×List Int×Int:=if cY reads=true then gS m (sec * 512) reads else (m,q,[],1800)
theorem Ak (s k c b cap:Nat) (m:aG) (q:Cache) (S:aA) (H:Nat→Prop) (sec:Int) (a:Option Addr) (reads:List Int) (w:World) (h:Sys (fun _=>False) w s k c b m q S H) (ok:m.Ok) (hi:aN w a reads H) (hcap:reads.length≤cap) (hm:reads.length≤1000000) (hh:0<m.ar.busy.length→m.ar.home<w.heap.size) (s0:4≤sec) (s1:sec<8):Calls prog 90 #[.pointer (some ⟨k,0,none⟩),.pointer (some ⟨b,0,none⟩),.int .i64 sec,.slice a reads.length cap] w (Ax s k c b (jf m q sec reads).1 (jf m q sec reads).2.1 S (jf m q sec reads).2.2.1 (jf m q sec reads).2.2.2 H w):=by
 unfold jf
 split
 ·
  rename_i hr
  exact Kg s k c b cap m q S H sec a reads w h ok hi hcap hh hr s0 s1
 ·
  rename_i hr
  refine (Kl k b cap sec a reads w hi.1 hm (by simpa using hr) s0 s1).mono ?_
  rintro e w' ⟨rfl,hb⟩
  exact ⟨_,rfl,fun _=>rfl,H,h.aj hb,Step.ah hb,fun h0=>absurd h0 (show ¬ (1800:Int)=0 by decide)⟩
theorem DE {m:aG} (ok:m.Ok) {q:Cache} (sec:Int) (s0:4≤sec) (s1:sec<8) (reads:List Int):(jf m q sec reads).1.Ok:=by
 unfold jf
 split
 ·
  rename_i hr
  exact (sK ok _ (by omega) (by omega) reads (fun x hx=>by have:=(jd hr).2 x hx;omega)).1
 ·
  exact ok
end
end Go.Proofs.YtcfdenckiigdaaaGreat

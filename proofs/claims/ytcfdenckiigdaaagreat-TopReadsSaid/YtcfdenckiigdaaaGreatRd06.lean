/- Part 6 of the contracts. -/
import Derived.Test.YtcfdenckiigdaaaGreatRd05
set_option linter.unusedVariables false
set_option maxRecDepth 100000
set_option maxHeartbeats 4000000
namespace Go.Proofs.YtcfdenckiigdaaaGreat
open Tryz Go.RowKit
structure aI where
 ar:ag
 out:List Int
 n:Nat
 bh:Int
def aI.stop (d:aI):Bool:=decide (0≤d.bh)&&decide (d.bh≤(d.n:Int))
def aI.tick (d:aI) (x:Int):aI:={ d with ar:=(d.ar.clock x).2,n:=d.n+1 }
def aI.said (d:aI) (x:Int):Int:=(d.ar.clock x).1
def aI.row:List Int→aI→Bool×aI
 | [],d=>(true,d)
 | x::r,d=>if d.stop=true then (false,d) else aI.row r (d.tick x)
def fR (L x:Int):Int:=if L=1 then 14+x else x
def heard (L x:Int):Int:=if L=1 then x / 2 % 2 else x
def aI.il (L:Int):Nat→List Int→aI→Bool×List Int×aI
 | 0,xs,d=>(true,xs,d)
 | k+1,xs,d=>if d.stop=true then (false,xs,d) else aI.il L k (xs++[heard L (d.said 15)]) (d.tick 15)
def aI.put (b L:Int) (d:aI):Bool×aI:=aI.row ((bM b L).map (fR L)) d
def aI.cM (d:aI) (L:Int) (r:Bool×List Int×aI):Bool×aI:=if r.1=true then (true,{ r.2.2 with out:=r.2.2.out++[cY r.2.1 L] }) else (false,r.2.2)
def aI.get (L:Int) (d:aI):Bool×aI:=d.cM L (aI.il L (many L).toNat [] d)
def aI.dB (L:Int):List Int→aI→Bool×aI
 | [],d=>(true,d)
 | b::r,d=>if (aI.put b L d).1=true then aI.dB L r (aI.put b L d).2 else (false,(aI.put b L d).2)
def aI.fW (L:Int):Nat→aI→Bool×aI
 | 0,d=>(true,d)
 | k+1,d=>if (aI.get L d).1=true then aI.fW L k (aI.get L d).2 else (false,(aI.get L d).2)
def andThen (r:Bool×aI) (f:aI→Bool×aI):Bool×aI:=if r.1=true then f r.2 else (false,r.2)
def aI.phase (p:Ph) (d:aI):Bool×aI:=andThen (aI.dB p.bW p.bytes d) fun d1=>andThen (aI.row (List.replicate p.eN.toNat 15) d1) fun d2=>aI.fW p.bW p.read.toNat d2
def aI.eQ:List Ph→aI→Bool×aI
 | [],d=>(true,d)
 | p::r,d=>andThen (aI.phase p d) (aI.eQ r)
structure aI.Fit (d:aI) (k:Nat):Prop where
 ar:d.ar.Fit d.n
 KI:d.n+k<1099511627776
theorem lD {d:aI} {k:Nat} (h:d.Fit (k+1)) (x:Int):(d.tick x).Fit k:=⟨GS h.ar x (by have:=h.KI;omega),by have:=h.KI;show d.n+1+k<_;omega⟩
theorem D2 (now data left:Int) (h:data=1∨data=4):0≤bitsOf now data left∧bitsOf now data left≤15:=by
 unfold bitsOf
 split <;> omega
theorem xP {d:aI} {k:Nat} (h:d.Fit k) (x:Int):0≤d.said x∧d.said x≤15:=by
 have q:(0:Int)≤15∧(15:Int)≤15:=by decide
 unfold aI.said ag.clock
 split
 ·
  unfold ag.step
  split
  ·
   exact q
  split
  ·
   exact q
  split
  ·
   exact q
  split
  ·
   exact q
  split
  ·
   exact q
  split
  ·
   rename_i hs
   exact D2 _ _ _ ((rV h.ar).part.km hs).1
  split
  ·
   exact q
  ·
   exact q
 ·
  exact q
theorem cz {d:aI} {k j:Nat} (h:d.Fit k) (hj:j≤k):d.Fit j:=⟨h.ar,by have:=h.KI;omega⟩
theorem Bj : ∀ (xs:List Int) (d:aI) (k:Nat),d.Fit (xs.length+k)→(aI.row xs d).2.Fit k
 | [],d,k,h=>by simpa [aI.row] using h
 | x::r,d,k,h=>by
  unfold aI.row
  split
  ·
   exact cz h (by omega)
  ·
   exact Bj r (d.tick x) k (lD (by have e:(x::r).length+k=r.length+k+1:=(by simp;omega);rw [e] at h;exact h) x)
theorem Cs (L:Int) : ∀ (j:Nat) (xs:List Int) (d:aI) (k:Nat),d.Fit (j+k)→(aI.il L j xs d).2.2.Fit k
 | 0,xs,d,k,h=>by simpa [aI.il] using h
 | j+1,xs,d,k,h=>by
  unfold aI.il
  split
  ·
   exact cz h (by omega)
  ·
   exact Cs L j _ (d.tick 15) k (lD (by have e:j+1+k=j+k+1:=(by omega);rw [e] at h;exact h) 15)
theorem CF (b L:Int):(bM b L).length≤8:=by unfold bM;split <;> simp
theorem Gh (b L:Int) (d:aI) (k:Nat) (h:d.Fit (8+k)):(aI.put b L d).2.Fit k:=by
 unfold aI.put
 refine Bj _ _ _ (cz h ?_)
 have:=CF b L
 simp;omega
theorem LB (L:Int):(many L).toNat≤8:=by unfold many;split <;> decide
theorem Lj (L:Int) (d:aI) (r:Bool×List Int×aI) (k:Nat) (h:r.2.2.Fit k):(d.cM L r).2.Fit k:=by
 unfold aI.cM
 split
 ·
  exact ⟨h.ar,h.KI⟩
 ·
  exact h
theorem FP (L:Int) (d:aI) (k:Nat) (h:d.Fit (8+k)):(aI.get L d).2.Fit k:=Lj L d _ k (Cs L _ _ _ _ (cz h (by have:=LB L;omega)))
theorem Db (L:Int) : ∀ (bs:List Int) (d:aI) (k:Nat),d.Fit (8 * bs.length+k)→(aI.dB L bs d).2.Fit k
 | [],d,k,h=>by simpa [aI.dB] using h
 | b::r,d,k,h=>by
  have hp:=Gh b L d (8 * r.length+k) (cz h (by simp;omega))
  unfold aI.dB
  split
  ·
   exact Db L r _ k hp
  ·
   exact cz hp (by omega)
theorem Cl (L:Int) : ∀ (j:Nat) (d:aI) (k:Nat),d.Fit (8 * j+k)→(aI.fW L j d).2.Fit k
 | 0,d,k,h=>by simpa [aI.fW] using h
 | j+1,d,k,h=>by
  have hp:=FP L d (8 * j+k) (cz h (by omega))
  unfold aI.fW
  split
  ·
   exact Cl L j _ k hp
  ·
   exact cz hp (by omega)
def eT:Nat:=10000
theorem Ae (p:Ph) (ok:mT p) (d:aI) (k:Nat) (h:d.Fit (eT+k)):(aI.phase p d).2.Fit k:=by
 have hb:p.bytes.length≤512:=by rcases ok with h | h | h <;> simp_all
 have hr:p.read.toNat≤512:=by rcases ok with ⟨_,_,_,_,_,h⟩ | ⟨_,_,_,h,_⟩ | ⟨_,_,h,_⟩ <;> omega
 have hc:p.eN.toNat≤400:=by rcases ok with ⟨_,_,_,_,h,_⟩ | ⟨_,_,_,_,h⟩ | ⟨_,_,_,_,h⟩ <;> omega
 have h1:=Db p.bW p.bytes d (5000+k) (cz h (by unfold eT;omega))
 unfold aI.phase andThen
 dsimp only
 split
 ·
  have h2:=Bj (List.replicate p.eN.toNat 15) _ (4500+k) (cz h1 (by simp;omega))
  split
  ·
   exact Cl p.bW p.read.toNat _ k (cz h2 (by omega))
  ·
   exact cz h2 (by omega)
 ·
  exact cz h1 (by omega)
theorem Av (m:ag) (x:Int):(m.step x).2.busy=m.busy∧(m.step x).2.home=m.home:=by
 unfold ag.step
 split
 ·
  unfold ag.sC;split;exact ⟨(mX _ _).2.1,ou _ _⟩;exact ⟨rfl,rfl⟩
 split
 ·
  unfold ag.sD;split;exact ⟨(iv _).2.1,iU _⟩;exact ⟨rfl,rfl⟩
 split
 ·
  unfold ag.sE;split;exact ⟨(iv _).2.1,iU _⟩;exact ⟨rfl,rfl⟩
 split
 ·
  unfold ag.uL;split;exact ⟨(iv _).2.1,iU _⟩;exact ⟨rfl,rfl⟩
 split
 ·
  unfold ag.sF;split;exact ⟨(iv _).2.1,iU _⟩;exact ⟨rfl,rfl⟩
 split
 ·
  unfold ag.bU ag.next;split <;> exact ⟨rfl,rfl⟩
 split <;> exact ⟨rfl,rfl⟩
theorem Ad (m:ag):m.pass.home=m.home:=by
 unfold ag.pass;cases m.aZ with | none=>rfl | some j=>simp only;split;rfl;split <;> rfl
theorem fp (m:ag) (x:Int):(m.clock x).2.busy=m.busy∧(m.clock x).2.home=m.home:=by
 obtain ⟨_,_,_,_,_,_,_,_,_,_,_,_,_,_,_,eb⟩:=rU m
 unfold ag.clock
 split
 ·
  exact ⟨(Av _ _).1.trans eb,(Av _ _).2.trans (Ad m)⟩
 ·
  exact ⟨eb,Ad m⟩
theorem aT.home {w:World} {c:Nat} {m:ag} {F:Nat→Prop} (h:aT w c m F) (hb:0<m.busy.length):m.home<w.heap.size ∧ ¬ F m.home:=by
 obtain ⟨s,h⟩:=h.open
 obtain ⟨a,cc,h1,h2,h3,h4,h5,h6⟩:=h.busy.ex
 obtain ⟨b,o,g1,g2⟩:=h2 0 hb
 have e:=h6 b o g1 hb
 rw [← e]
 exact ⟨zL w _ g2,h3 b o g1 hb⟩
theorem aT.fA {w w':World} {c:Nat} {m:ag} {F G:Nat→Prop} (h:aT w c m F) (t:Touch G w w') (hG : ∀ b,F b → ¬ G b) (hh:0<m.busy.length → ¬ G m.home):aT w' c m F:=by
 obtain ⟨s,h⟩:=h.open
 obtain ⟨a,cc,h1,h2,h3,h4,h5,h6⟩:=h.busy.ex
 have hj:=h.aZ
 refine bK.shut (s:=s) ⟨t.at h.raw (hG c h.own),h.bU,?_,⟨a,cc,h1,dr h2 t (fun b o e hl hg=>hh hl (by rw [← h6 b o e hl];exact hg)),h3,h4,h5,h6⟩,gy h.data t (fun g hg=>hG g (h.jQ g hg)),h.own,h.mc,h.jQ,fun b hb=>zV (h.lt b hb) t.size⟩
 cases hm:m.aZ with
 | none=>rw [hm] at hj;exact hj
 | some j =>
  rw [hm] at hj
  obtain ⟨b,e1,e2⟩:=hj
  exact ⟨b,e1,t.at e2 (hG b (h.mc b e1))⟩
structure fm (w:World) (p c:Nat) (d:aI) (G:Nat→Prop):Prop where
 ex : ∃ (F:Nat→Prop) (ov:Value),w.heap[p]? = some (.cells #[.pointer (some ⟨c,0,none⟩),ov,.int .i64 (d.n:Int),.int .i64 d.bh] 291 (0,0))∧aT w c d.ar F∧w.ownsRow 0 3 1 ov d.out.length (aB d.out) ∧ ¬ F p∧(∀ g,ov.ownBlock=some g → ¬ F g)∧(∀ b,F b→G b)∧G p∧(∀ g,ov.ownBlock=some g→G g∧p≤g)∧(0<d.ar.busy.length → ¬ G d.ar.home)
 lt : ∀ b,G b→b<w.heap.size
theorem fm.aj {w w':World} {p c:Nat} {d:aI} {G:Nat→Prop} (h:fm w p c d G) (hb:Below w.heap.size w w'):fm w' p c d G:=by
 obtain ⟨⟨F,ov,h1,h2,h3,h4⟩,hlt⟩:=h
 exact ⟨⟨F,ov,aa hb h1,h2.aj hb,World.ownsRow.aj h3 hb,h4⟩,fun b hb'=>zV (hlt b hb') hb.size⟩
def mR (x:Bool) (p c:Nat) (d:aI) (G:Nat→Prop) (w:World) (e:Ending) (w':World):Prop:=e=.returned (.bool x) ∧ ∃ G',fm w' p c d G'∧Step G G' w w'
def BR (x:Int) (y:Bool) (p c:Nat) (d:aI) (G:Nat→Prop) (w:World) (e:Ending) (w':World):Prop:=e=.returned (.tuple #[.int .i64 x,.bool y]) ∧ ∃ G',fm w' p c d G'∧Step G G' w w'
theorem mM (p c:Nat) (d:aI) (G:Nat→Prop) (x:Int) (w:World) (h:fm w p c d G) (hs:d.stop=true):Calls prog 207 #[.pointer (some ⟨p,0,none⟩),.int .i64 x] w (BR 0 false p c d G w):=by
 obtain ⟨F,ov,hp,_⟩:=h.ex
 have c2:w.cell? ⟨p,2,none⟩=some (.int .i64 (d.n:Int)):=cell_of hp 2
 have c3:w.cell? ⟨p,3,none⟩=some (.int .i64 d.bh):=cell_of hp 3
 have HH:=zH h
 unfold aI.stop at hs
 obtain ⟨g1,g2⟩:decide (0≤d.bh)=true∧decide (d.bh≤(d.n:Int))=true:=by simpa using hs
 clear h hp hs
 go_enter func207,ntmps207
 go_wp2_with fail
 go_quiet (fail)
 go_wp2
 go_ret2
 exact ⟨rfl,G,HH.out.aj (aY zR _),Step.ah (aY zR _)⟩
theorem II {w w1:World} {p c:Nat} {d:aI} {G F F':Nat→Prop} {ov:Value} {x:Int} {w0:World} (hG:fm w p c d G) (h0:w0=w.setCell ⟨p,2,none⟩ (.int .i64 ((d.n:Int)+1))) (hp:w.heap[p]? = some (.cells #[.pointer (some ⟨c,0,none⟩),ov,.int .i64 (d.n:Int),.int .i64 d.bh] 291 (0,0))) (ho:w.ownsRow 0 3 1 ov d.out.length (aB d.out)) (hFp : ¬ F p) (hFo : ∀ g,ov.ownBlock=some g → ¬ F g) (hFG : ∀ b,F b→G b) (hGp:G p) (hGo : ∀ g,ov.ownBlock=some g→G g∧p≤g) (hh:0<d.ar.busy.length → ¬ G d.ar.home) (hhl:0<d.ar.busy.length→d.ar.home<w.heap.size) (h1:aT w1 c (d.ar.clock x).2 F') (st:Step F F' w0 w1) : ∃ G',fm w1 p c (d.tick x) G'∧Step G G' w w1:=by
 subst h0
 have hsz:(w.setCell ⟨p,2,none⟩ (.int .i64 ((d.n:Int)+1))).heap.size=w.heap.size:=World.size_setCell _ _ _
 have hpl:p<w.heap.size:=aO hp
 have q1:(w.setCell ⟨p,2,none⟩ (.int .i64 ((d.n:Int)+1))).heap[p]? = some (.cells #[.pointer (some ⟨c,0,none⟩),ov,.int .i64 ((d.n:Int)+1),.int .i64 d.bh] 291 (0,0)):=az (i:=2) hp
 have t0:Touch G w (w.setCell ⟨p,2,none⟩ (.int .i64 ((d.n:Int)+1))):=(Touch.refl G w).set p 2 _ hGp
 have hop : ∀ g,ov.ownBlock=some g→g≠p:=by
  rintro g hg rfl
  obtain ⟨cur,hc⟩:=gw ho hg
  have:=hc.symm.trans hp;simp at this
 have o1:=gy (F:=aN p) ho ((Touch.refl (aN p) w).set p 2 (.int .i64 ((d.n:Int)+1)) rfl) (fun g hg e=>hop g hg e)
 have F'p : ¬ F' p:=st.safe (by rw [hsz];exact hpl) hFp
 refine ⟨fun b=>F' b∨G b,⟨⟨F',ov,(st.aH.at q1 hFp),h1,gy o1 st.aH hFo,F'p,fun g hg => ?_,fun b hb=>.inl hb,.inr hGp,fun g hg=>⟨.inr (hGo g hg).1,(hGo g hg).2⟩,?_⟩,?_⟩,?_⟩
 ·
  obtain ⟨cur,hc⟩:=gw o1 hg
  exact st.safe (aO hc) (hFo g hg)
 ·
  obtain ⟨eb,eh⟩:=fp d.ar x
  intro hl hg
  have hl':0<d.ar.busy.length:=by rw [← eb];exact hl
  have hl2:d.ar.home<w.heap.size:=hhl hl'
  have hg':F' d.ar.home∨G d.ar.home:=by rw [← eh];exact hg
  rcases hg' with hg' | hg'
  ·
   exact st.safe (by rw [hsz];exact hl2) (fun hf=>hh hl' (hFG _ hf)) hg'
  ·
   exact hh hl' hg'
 ·
  intro b hb
  rcases hb with hb | hb
  ·
   exact h1.lt b hb
  ·
   exact zV (hG.lt b hb) (by rw [← hsz];exact st.aH.size)
 ·
  refine ⟨t0.trans (st.aH.mono hFG),fun b hb => ?_⟩
  rcases hb with hb | hb
  ·
   rcases st.gP b hb with hf | hf
   ·
    exact .inl (hFG b hf)
   ·
    exact .inr (by rw [hsz] at hf;exact hf)
  ·
   exact .inl hb
theorem sJ (p c:Nat) (d:aI) (G:Nat→Prop) (k:Nat) (x:Int) (w:World) (h:fm w p c d G) (fit:d.Fit k) (hs:d.stop=false) (hx0:0≤x) (hx1:x≤15):Calls prog 207 #[.pointer (some ⟨p,0,none⟩),.int .i64 x] w (BR (d.said x) true p c (d.tick x) G w):=by
 have HH:=zH h
 have hcase:decide (0≤d.bh)=false∨(decide (0≤d.bh)=true∧decide (d.bh≤(d.n:Int))=false):=by
  unfold aI.stop at hs
  cases g:decide (0≤d.bh) with
  | false=>exact .inl rfl
  | true=>rw [g] at hs;exact .inr ⟨rfl,by simpa using hs⟩
 have hnb:(d.n:Int)≤1099511627776:=by have:=fit.KI;omega
 obtain ⟨F,ov,hp,hch,ho,hFp,hFo,hFG,hGp,hGo,hh⟩:=h.ex
 have c0:w.cell? ⟨p,0,none⟩=some (.pointer (some ⟨c,0,none⟩)):=cell_of hp 0
 have c2:w.cell? ⟨p,2,none⟩=some (.int .i64 (d.n:Int)):=cell_of hp 2
 have c3:w.cell? ⟨p,3,none⟩=some (.int .i64 d.bh):=cell_of hp 3
 have HD:=zH (fun (nq:Nat) (F':Nat→Prop) (w1:World) (w0:World) (e0:w0=(w.drewN nq).setCell ⟨p,2,none⟩ (.int .i64 ((d.n:Int)+1))) (h1:aT w1 c (d.ar.clock x).2 F') (st:Step F F' w0 w1) =>
  II (w:=w.drewN nq) (h.aj (aY zR nq)) e0 hp (World.ownsRow.aj ho (aY zR nq)) hFp hFo hFG hGp hGo hh (fun hl=>(hch.home hl).1) h1 st)
 have HC:=zH (fun (nq:Nat) (w0:World) (e0:w0=(w.drewN nq).setCell ⟨p,2,none⟩ (.int .i64 ((d.n:Int)+1)))=>(uZ c d.ar F d.n x w0 (by
  subst e0
  exact (hch.aj (aY zR nq)).fA (G:=aN p) ((Touch.refl _ _).set p 2 _ rfl) (fun b hb e=>hFp (by rw [← show b=p from e];exact hb)) (fun hl e=>hh hl (by rw [show d.ar.home=p from e];exact hGp))) fit.ar (by have:=fit.KI;omega) hx0 hx1))
 have f2 : ∀ nq,(w.drewN nq).frozen? ⟨p,2,none⟩=false:=fun nq=>aF (show (w.drewN nq).heap[p]? = _ from hp) 2
 have hpl:p<w.heap.size:=aO hp
 clear h hch ho hp
 rcases hcase with g1 | ⟨g1,g2⟩
 all_goals
  go_enter func207,ntmps207
  go_wp2_with fail
  go_quiet (fail)
  have d0:(w.drewN nq).cell? ⟨p,0,none⟩=some (.pointer (some ⟨c,0,none⟩)):=c0
  have d2:(w.drewN nq).cell? ⟨p,2,none⟩=some (.int .i64 (d.n:Int)):=c2
  have z2:=f2 nq
  go_wp2_with fail
  refine (HC.out nq _ rfl).mono ?_
  rintro e w1 ⟨rfl,F',h1,st⟩
  have hd:=zH (HD.out nq F' w1 _ rfl h1 st)
  clear h1 st
  go_wp2
  go_ret2
  obtain ⟨G',hd1,st1⟩:=hd.out
  exact ⟨rfl,G',hd1,(Step.ah (aY zR _)).trans st1⟩
def aL (w:World) (a:Option Addr) (xs:List Int) (G:Nat→Prop):Prop:=aP w a xs ∧ ∀ b o,a=some ⟨b,o,none⟩→0<xs.length → ¬ G b
theorem aL.step {G G':Nat→Prop} {w w':World} {a:Option Addr} {xs:List Int} (h:aL w a xs G) (st:Step G G' w w'):aL w' a xs G':=by
 refine ⟨dr h.1 st.aH h.2,fun b o e hl => ?_⟩
 obtain ⟨b2,o2,g1,g2⟩:=h.1 0 hl
 rw [e] at g1
 obtain ⟨rfl,rfl⟩:b=b2∧o=o2:=by simpa using g1
 exact st.safe (zL w _ g2) (h.2 _ _ e hl)
theorem bw.safe {w:World} {B:Nat} {a:Option Addr} {c:Nat} {xs:List Int} (h:bw w B (.slice a xs.length c) xs) (G:Nat→Prop) (hG : ∀ b,G b→b<B):aL w a xs G:=by
 obtain ⟨a',c',e,hc⟩:=h
 obtain ⟨rfl,rfl⟩:a=a'∧c=c':=by simpa using e
 refine ⟨fun i hi => ?_,fun b o e hl hf => ?_⟩
 ·
  obtain ⟨b,off,cur,ha,_,hb,hx⟩:=hc i hi
  exact ⟨b,off,ha,(cell_of hb _).trans hx⟩
 ·
  obtain ⟨b',off,cur,ha,hB,_,_⟩:=hc 0 hl
  rw [e] at ha
  obtain ⟨rfl,rfl⟩:b=b'∧o=off:=by simpa using ha
  exact Nat.lt_irrefl _ (zV (hG _ hf) hB)
theorem FL (xs:List Int) (f:Int→Int) (k:Nat) (hk:k<xs.length):(xs.drop k).map f=f (xs.getD k 0)::(xs.drop (k+1)).map f:=by
 rw [List.drop_eq_getElem_cons hk,List.map_cons,show xs.getD k 0=xs[k] by simp [List.getD,List.getElem?_eq_getElem hk]]
theorem sr (x:Int) (r:List Int) (d:aI) (h:d.stop=true):aI.row (x::r) d=(false,d):=by
 show (if d.stop=true then (false,d) else aI.row r (d.tick x))=_
 rw [if_pos h]
theorem xM (x:Int) (r:List Int) (d:aI) (h:d.stop=false):aI.row (x::r) d=aI.row r (d.tick x):=by
 show (if d.stop=true then (false,d) else aI.row r (d.tick x))=_
 rw [if_neg (by rw [h];decide)]
theorem qa (b L:Int) (k:Nat):0≤(bM b L).getD k 0∧(bM b L).getD k 0≤15∧(L=1→(bM b L).getD k 0≤1):=by
 unfold bM
 by_cases hk:k<8
 ·
  have:k=0∨k=1∨k=2∨k=3∨k=4∨k=5∨k=6∨k=7:=by omega
  split
  ·
   rcases this with rfl | rfl | rfl | rfl | rfl | rfl | rfl | rfl <;> simp [List.getD] <;> omega
  ·
   rcases this with rfl | rfl | rfl | rfl | rfl | rfl | rfl | rfl <;> simp [List.getD, *] <;> omega
 ·
  have:(if L=1 then List.map (fun a:Nat=>b / 2 ^ a % 2) [7,6,5,4,3,2,1,0] else List.map (fun a:Nat=>b / 2 ^ a % 16) [4,0])[k]? = none:=by
   rw [List.getElem?_eq_none]
   split <;> simp <;> omega
  rw [List.getD_eq_getElem?_getD,this]
  exact ⟨by decide,by decide,fun _=>by decide⟩
theorem NQ (x:Int) (h0:0≤x) (h1:x≤1):bits .or .i64 x 14=14+x:=by
 have:x=0∨x=1:=by omega
 rcases this with rfl | rfl <;> rfl
theorem Np (p c:Nat) (d:aI) (G:Nat→Prop) (k:Nat) (b:Int) (w:World) (h:fm w p c d G) (fit:d.Fit (8+k)) (h0:0≤b) (h1:b<256):Calls prog 206 #[.pointer (some ⟨p,0,none⟩),.int .i64 b,.int .i64 1] w (mR (aI.put b 1 d).1 p c (aI.put b 1 d).2 G w):=by
 have HO:=zH (Nk b w h0 h1)
 have HH:=zH h
 have HR:=zH (qa b 1)
 have HF:=zH (cz fit (show 8+k≤8+k by omega))
 have HP:=zH (show aI.put b 1 d=aI.row (((bM b 1).drop 0).map (fR 1)) d from rfl)
 have hlen:(bM b 1).length=8:=rfl
 have HLT:=zH h.lt
 clear h fit
 generalize aI.put b 1 d=r at *
 generalize bM b 1=xs at *
 have HL:=zH hlen
 clear hlen
 go_enter func206,ntmps206
 go_wp2_with fail
 refine HO.out.mono ?_
 rintro e w1 ⟨a,cp,rfl,hN,hb⟩
 have hs:=hN.safe G HLT.out
 have HS:=zH hs
 have HD:=zH (HH.out.aj hb)
 have ST:=zH (Step.ah (F:=G) hb)
 rw [HL.out]
 clear hs hN hb HO HH
 go_wp2
 go_loopw [21] (fun i wr => ∃ (j:Nat) (dk:aI) (Gk:Nat→Prop),j≤8∧i=.int .i64 j∧fm wr p c dk Gk∧Step G Gk w wr∧dk.Fit (8 - j+k)∧r=aI.row ((xs.drop j).map (fR 1)) dk∧aL wr a xs Gk) (fun i _=>8 - (intOf i).toNat)
 case atStart=>exact ⟨0,d,G,Nat.zero_le _,rfl,HD.out,ST.out,HF.out,HP.out,HS.out⟩
 case round =>
  obtain ⟨j,dk,Gk,hj,rfl,hD,hst,hf,hr,hs⟩:=hrel
  by_cases hlt:j<8
  ·
   have hlx:j<xs.length:=by rw [HL.out];exact hlt
   obtain ⟨bb,off,rfl,hcell⟩:=hs.1 j hlx
   have hra:=HR.out j
   have hdr:=FL xs (fR 1) j hlx
   rw [hdr] at hr
   have HD':=zH hD
   have HST:=zH hst
   have HF':=zH (show dk.Fit (8 - (j+1)+k+1) from cz hf (by omega))
   have HRR:=zH hr
   have HS':=zH hs
   clear hdr hD hst hf hr hs hlx
   generalize xs.getD j 0=x at *
   obtain ⟨x0,x1,x2⟩:=hra
   have hor:bits .or .i64 x 14=14+x:=NQ x x0 (x2 (by simp))
   have x3:x≤1:=x2 (by simp)
   clear x2
   cases hstop:dk.stop with
   | true =>
    have HT:=zH (mM p c dk Gk (14+x) wr HD'.out hstop)
    have HE:=zH (sr (fR 1 x) ((xs.drop (j+1)).map (fR 1)) dk hstop)
    clear hstop
    go_wp2_with fail
    refine HT.out.mono ?_
    rintro e w2 ⟨rfl,G2,hD2,st2⟩
    have H2:=zH (zA hD2 st2)
    clear hD2 st2
    go_wp2
    go_ret
    rw [HRR.out,HE.out]
    exact ⟨rfl,G2,H2.out.1,HST.out.trans H2.out.2⟩
   | false =>
    have HT:=zH (sJ p c dk Gk _ (14+x) wr HD'.out HF'.out hstop (by omega) (by omega))
    have HE:=zH (xM (fR 1 x) ((xs.drop (j+1)).map (fR 1)) dk hstop)
    clear hstop
    go_wp2_with fail
    refine HT.out.mono ?_
    rintro e w2 ⟨rfl,G2,hD2,st2⟩
    have H2:=zH (zA hD2 st2)
    clear hD2 st2
    go_wp2
    go_roundw
    case rel=>exact ⟨j+1,dk.tick (14+x),G2,by omega,by go_num,H2.out.1,HST.out.trans H2.out.2,lD HF'.out _,HRR.out.trans HE.out,HS'.out.step H2.out.2⟩
    case measure=>simp [intOf];omega
  ·
   obtain rfl:j=8:=by omega
   have e:(xs.drop 8).map (fR 1)=[]:=by rw [List.drop_of_length_le (by rw [HL.out];decide)];rfl
   rw [e] at hr
   have HX:=zH (zA hD hst)
   have HRR:=zH (show r=(true,dk) from hr)
   clear hD hst hf hr hs e
   go_wp2
   go_ret
   rw [HRR.out]
   exact ⟨rfl,Gk,HX.out⟩
theorem Nq (p c:Nat) (d:aI) (G:Nat→Prop) (k:Nat) (b:Int) (w:World) (h:fm w p c d G) (fit:d.Fit (8+k)) (h0:0≤b) (h1:b<256):Calls prog 206 #[.pointer (some ⟨p,0,none⟩),.int .i64 b,.int .i64 4] w (mR (aI.put b 4 d).1 p c (aI.put b 4 d).2 G w):=by
 have HO:=zH (Nl b w h0 h1)
 have HH:=zH h
 have HR:=zH (qa b 4)
 have HF:=zH (cz fit (show 2+k≤8+k by omega))
 have HP:=zH (show aI.put b 4 d=aI.row (((bM b 4).drop 0).map (fR 4)) d from rfl)
 have hlen:(bM b 4).length=2:=rfl
 have HLT:=zH h.lt
 clear h fit
 generalize aI.put b 4 d=r at *
 generalize bM b 4=xs at *
 have HL:=zH hlen
 clear hlen
 go_enter func206,ntmps206
 go_wp2_with fail
 refine HO.out.mono ?_
 rintro e w1 ⟨a,cp,rfl,hN,hb⟩
 have hs:=hN.safe G HLT.out
 have HS:=zH hs
 have HD:=zH (HH.out.aj hb)
 have ST:=zH (Step.ah (F:=G) hb)
 rw [HL.out]
 clear hs hN hb HO HH
 go_wp2
 go_loopw [21] (fun i wr => ∃ (j:Nat) (dk:aI) (Gk:Nat→Prop),j≤2∧i=.int .i64 j∧fm wr p c dk Gk∧Step G Gk w wr∧dk.Fit (2 - j+k)∧r=aI.row ((xs.drop j).map (fR 4)) dk∧aL wr a xs Gk) (fun i _=>2 - (intOf i).toNat)
 case atStart=>exact ⟨0,d,G,Nat.zero_le _,rfl,HD.out,ST.out,HF.out,HP.out,HS.out⟩
 case round =>
  obtain ⟨j,dk,Gk,hj,rfl,hD,hst,hf,hr,hs⟩:=hrel
  by_cases hlt:j<2
  ·
   have hlx:j<xs.length:=by rw [HL.out];exact hlt
   obtain ⟨bb,off,rfl,hcell⟩:=hs.1 j hlx
   have hra:=HR.out j
   have hdr:=FL xs (fR 4) j hlx
   rw [hdr] at hr
   have HD':=zH hD
   have HST:=zH hst
   have HF':=zH (show dk.Fit (2 - (j+1)+k+1) from cz hf (by omega))
   have HRR:=zH hr
   have HS':=zH hs
   clear hdr hD hst hf hr hs hlx
   generalize xs.getD j 0=x at *
   obtain ⟨x0,x1,x2⟩:=hra
   clear x2
   cases hstop:dk.stop with
   | true =>
    have HT:=zH (mM p c dk Gk (x) wr HD'.out hstop)
    have HE:=zH (sr (fR 4 x) ((xs.drop (j+1)).map (fR 4)) dk hstop)
    clear hstop
    go_wp2_with fail
    refine HT.out.mono ?_
    rintro e w2 ⟨rfl,G2,hD2,st2⟩
    have H2:=zH (zA hD2 st2)
    clear hD2 st2
    go_wp2
    go_ret
    rw [HRR.out,HE.out]
    exact ⟨rfl,G2,H2.out.1,HST.out.trans H2.out.2⟩
   | false =>
    have HT:=zH (sJ p c dk Gk _ (x) wr HD'.out HF'.out hstop (by omega) (by omega))
    have HE:=zH (xM (fR 4 x) ((xs.drop (j+1)).map (fR 4)) dk hstop)
    clear hstop
    go_wp2_with fail
    refine HT.out.mono ?_
    rintro e w2 ⟨rfl,G2,hD2,st2⟩
    have H2:=zH (zA hD2 st2)
    clear hD2 st2
    go_wp2
    go_roundw
    case rel=>exact ⟨j+1,dk.tick (x),G2,by omega,by go_num,H2.out.1,HST.out.trans H2.out.2,lD HF'.out _,HRR.out.trans HE.out,HS'.out.step H2.out.2⟩
    case measure=>simp [intOf];omega
  ·
   obtain rfl:j=2:=by omega
   have e:(xs.drop 2).map (fR 4)=[]:=by rw [List.drop_of_length_le (by rw [HL.out];decide)];rfl
   rw [e] at hr
   have HX:=zH (zA hD hst)
   have HRR:=zH (show r=(true,dk) from hr)
   clear hD hst hf hr hs e
   go_wp2
   go_ret
   rw [HRR.out]
   exact ⟨rfl,Gk,HX.out⟩
theorem Im (p c:Nat) (d:aI) (G:Nat→Prop) (k:Nat) (b L:Int) (w:World) (h:fm w p c d G) (fit:d.Fit (8+k)) (hL:L=1∨L=4) (h0:0≤b) (h1:b<256):Calls prog 206 #[.pointer (some ⟨p,0,none⟩),.int .i64 b,.int .i64 L] w (mR (aI.put b L d).1 p c (aI.put b L d).2 G w):=by
 rcases hL with rfl | rfl
 ·
  exact Np p c d G k b w h fit h0 h1
 ·
  exact Nq p c d G k b w h fit h0 h1
theorem fm.fA {w w':World} {p c:Nat} {d:aI} {G H:Nat→Prop} (h:fm w p c d G) (t:Touch H w w') (hG : ∀ b,G b → ¬ H b) (hh:0<d.ar.busy.length → ¬ H d.ar.home):fm w' p c d G:=by
 obtain ⟨F,ov,hp,hch,ho,hFp,hFo,hFG,hGp,hGo,hhm⟩:=h.ex
 exact ⟨⟨F,ov,t.at hp (hG p hGp),hch.fA t (fun b hb=>hG b (hFG b hb)) hh,gy ho t (fun g hg=>hG g (hGo g hg).1),hFp,hFo,hFG,hGp,hGo,hhm⟩,fun b hb=>zV (h.lt b hb) t.size⟩
theorem jK {F:Nat→Prop} {w w':World} {B n:Nat} {v:Value} {xs:List Value} (h:w.ownsRow B 3 1 v n xs) (t:Touch F w w') (hn : ∀ g,v.ownBlock=some g → ¬ F g):w'.ownsRow B 3 1 v n xs:=by
 refine ⟨h.1,?_⟩
 rcases h.2 with h2 | ⟨g,cap,cur,hv,hb,hg,r⟩
 ·
  exact .inl h2
 ·
  exact .inr ⟨g,cap,cur,hv,hb,t.at hg (hn g (by rw [hv];rfl)),r⟩
theorem oK {w w':World} {v:Value} (h:w.grownBy w' v.ownBlock):Touch (fun b=>v.ownBlock=some b) w w':=⟨h.os,h.tape,h.output,h.size,fun k hk hn=>h.block k hk (fun e=>hn e.symm)⟩
theorem wT {w w1 w2:World} {p c g cap:Nat} {d:aI} {G F:Nat→Prop} {ov:Value} {x:Int} (hG:fm w p c d G) (hp:w.heap[p]? = some (.cells #[.pointer (some ⟨c,0,none⟩),ov,.int .i64 (d.n:Int),.int .i64 d.bh] 291 (0,0))) (hch:aT w c d.ar F) (ho:w.ownsRow 0 3 1 ov d.out.length (aB d.out)) (hFp : ¬ F p) (hFo : ∀ g,ov.ownBlock=some g → ¬ F g) (hFG : ∀ b,F b→G b) (hGp:G p) (hGo : ∀ g,ov.ownBlock=some g→G g∧p≤g) (hh:0<d.ar.busy.length → ¬ G d.ar.home) (hb:Below w.heap.size w w1) (hgrow:w1.grownBy w2 ov.ownBlock) (hown:w2.ownsRow 0 3 1 (.slice (some ⟨g,0,none⟩) (d.out.length+1) cap) (d.out.length+1) (aB d.out++[.int .i64 x])) (hat:ov.ownBlock=some g∨g=w1.heap.size) (hlt:g<w2.heap.size):w2.heap[p]? = some (.cells #[.pointer (some ⟨c,0,none⟩),ov,.int .i64 (d.n:Int),.int .i64 d.bh] 291 (0,0)) ∧ ∃ G',fm (w2.setCell ⟨p,1,none⟩ (.slice (some ⟨g,0,none⟩) (d.out.length+1) cap)) p c { d with out:=d.out++[x] } G'∧Step G G' w (w2.setCell ⟨p,1,none⟩ (.slice (some ⟨g,0,none⟩) (d.out.length+1) cap)):=by
 have hpo : ∀ k,ov.ownBlock=some k→k≠p:=by
  rintro k hk rfl
  obtain ⟨cur,hc⟩:=gw ho hk
  have:=hc.symm.trans hp;simp at this
 have T1:Touch (fun b=>ov.ownBlock=some b) w w2:=(Touch.ah hb).trans (oK hgrow)
 have hp2:=T1.at hp (fun e=>hpo p e rfl)
 have hgp:g≠p:=by
  rcases hat with e | e
  ·
   exact hpo g e
  ·
   have:=aO hp;have:=hb.size;omega
 have hgG:G g∨w.heap.size≤g:=by
  rcases hat with e | e
  ·
   exact .inl (hGo g e).1
  ·
   right;have:=hb.size;omega
 have hgF : ¬ F g:=by
  rcases hat with e | e
  ·
   exact hFo g e
  ·
   intro hf;have:=hch.lt g hf;have:=hb.size;omega
 have T2:Touch (aN p) w2 (w2.setCell ⟨p,1,none⟩ (.slice (some ⟨g,0,none⟩) (d.out.length+1) cap)):=(Touch.refl _ _).set p 1 _ rfl
 have hc2:aT w2 c d.ar F:=hch.fA T1 (fun b hb' e=>hFo b e hb') (fun hl e=>hh hl (hGo _ e).1)
 have hc3:=hc2.fA T2 (fun b hb' e=>hFp (by rw [← show b=p from e];exact hb')) (fun hl e=>hh hl (by rw [show d.ar.home=p from e];exact hGp))
 refine ⟨hp2,fun b=>G b∨b=g,⟨⟨F,.slice (some ⟨g,0,none⟩) (d.out.length+1) cap,az (i:=1) (v:=.slice (some ⟨g,0,none⟩) (d.out.length+1) cap) hp2,hc3,?_,hFp,?_,fun b hb'=>.inl (hFG b hb'),.inl hGp,?_,?_⟩,?_⟩,?_,?_⟩
 ·
  have e:(d.out++[x]).length=d.out.length+1:=by simp
  have e2:aB (d.out++[x])=aB d.out++[.int .i64 x]:=by simp [aB]
  show World.ownsRow _ 0 3 1 _ (d.out++[x]).length (aB (d.out++[x]))
  rw [e,e2]
  refine gy hown T2 (fun k hk e => ?_)
  obtain rfl:g=k:=by simpa [Value.ownBlock] using hk
  exact hgp e
 ·
  intro k hk
  obtain rfl:g=k:=by simpa [Value.ownBlock] using hk
  exact hgF
 ·
  intro k hk
  obtain rfl:g=k:=by simpa [Value.ownBlock] using hk
  refine ⟨.inr rfl,?_⟩
  rcases hat with e | e
  ·
   exact (hGo g e).2
  ·
   have:=aO hp;have:=hb.size;omega
 ·
  intro hl hf
  rcases hf with hf | hf
  ·
   exact hh hl hf
  ·
   obtain ⟨h1,h2⟩:=hch.home hl
   rcases hat with e | e
   ·
    exact hh hl (by rw [show d.ar.home=g from hf];exact (hGo g e).1)
   ·
    have e':d.ar.home=g:=hf
    have:=hb.size;omega
 ·
  intro b hb'
  rw [World.size_setCell]
  rcases hb' with hb' | rfl
  ·
   exact zV (hG.lt b hb') T1.size
  ·
   exact hlt
 ·
  exact (T1.mono (fun b e=>(hGo b e).1)).set p 1 _ hGp
 ·
  intro b hb'
  rcases hb' with hb' | rfl
  ·
   exact .inl hb'
  ·
   exact hgG
theorem pJ (L:Int) (j:Nat) (xs:List Int) (d:aI) (h:d.stop=true):aI.il L (j+1) xs d=(false,xs,d):=by
 show (if d.stop=true then (false,xs,d) else _)=_
 rw [if_pos h]
theorem rF (L:Int) (j:Nat) (xs:List Int) (d:aI) (h:d.stop=false):aI.il L (j+1) xs d=aI.il L j (xs++[heard L (d.said 15)]) (d.tick 15):=by
 show (if d.stop=true then (false,xs,d) else _)=_
 rw [if_neg (by rw [h];decide)]
theorem xX {ys:List Int} {m y:Int} (h : ∀ i,i<ys.length→0≤ys.getD i 0∧ys.getD i 0<m) (hy:0≤y∧y<m) : ∀ i,i<(ys++[y]).length→0≤(ys++[y]).getD i 0∧(ys++[y]).getD i 0<m:=by
 intro i hi
 by_cases hlt:i<ys.length
 ·
  have:(ys++[y]).getD i 0=ys.getD i 0:=by simp [List.getD,List.getElem?_append_left hlt]
  rw [this];exact h i hlt
 ·
  obtain rfl:i=ys.length:=by simp at hi;omega
  have:(ys++[y]).getD ys.length 0=y:=by simp [List.getD]
  rw [this];exact hy
theorem Nd (p c:Nat) (d:aI) (G:Nat→Prop) (k:Nat) (w:World) (h:fm w p c d G) (fit:d.Fit (8+k)) (hout:d.out.length≤100000):Calls prog 208 #[.pointer (some ⟨p,0,none⟩),.int .i64 1] w (mR (aI.get 1 d).1 p c (aI.get 1 d).2 G w):=by
 have HH:=zH h
 have HF:=zH (cz fit (show 8+k≤8+k by omega))
 have HP:=zH (show aI.get 1 d=d.cM 1 (aI.il 1 8 [] d) from rfl)
 have HHM:=zH (fun hl=>(h.ex.choose_spec.choose_spec.2.1.home hl).1)
 have HLT:=zH h.lt
 obtain ⟨i0,hi,hz0,hz1,hz2⟩:=info_parts iq
 have HO:=zH hout
 clear h fit hout
 generalize hr0:aI.il 1 8 [] d=hr at *
 have HR0:=zH hr0.symm
 clear hr0
 go_enter func208,ntmps208
 go_wp2_with (go_at_call 204;refine (fP 1 _ (by decide)).mono ?_;rintro e w ⟨rfl,rfl⟩;simp only [show many 1=8 from rfl])
 go_loopw [5,12] (fun v i wr => ∃ (j:Nat) (ys:List Int) (dk:aI) (Gk:Nat→Prop),j≤8∧i=.int .i64 j∧ys.length=j∧fm wr p c dk Gk∧Step G Gk w wr∧dk.Fit (8 - j+k)∧hr=aI.il 1 (8 - j) ys dk∧dk.out=d.out∧dk.ar.home=d.ar.home∧dk.ar.busy=d.ar.busy∧wr.ownsRow w.heap.size 3 1 v j (aB ys)∧(∀ g,v.ownBlock=some g → ¬ Gk g)∧(∀ i,i<ys.length→0≤ys.getD i 0∧ys.getD i 0<2)) (fun _ i _=>8 - (intOf i).toNat)
 case atStart=>exact ⟨0,[],d,G,Nat.zero_le _,rfl,rfl,HH.out,Step.refl _ _,HF.out,HR0.out,rfl,rfl,rfl,zN,(fun g e=>by cases e),(fun i hi=>absurd hi (Nat.not_lt_zero _))⟩
 case round =>
  obtain ⟨j,ys,dk,Gk,hj,rfl,hys,hD,hst,hf,hrr,ho,hhm,hbs,hown,hog,hrg⟩:=hrel
  by_cases hlt:j<8
  ·
   have e1:8 - j=(8 - (j+1))+1:=by omega
   rw [e1] at hrr
   have HD:=zH hD
   have HST:=zH hst
   have HF':=zH (show dk.Fit (8 - (j+1)+k+1) from cz hf (by omega))
   have HRR:=zH hrr
   have HOH:=zH (zA ho (zA hhm hbs))
   have HOWN:=zH (zA hown (zA hog (zA hrg hys)))
   clear e1 hD hst hf hrr ho hhm hbs hown hog hrg hys
   cases hstop:dk.stop with
   | true =>
    have HT:=zH (mM p c dk Gk 15 wr HD.out hstop)
    have HE:=zH (pJ 1 (8 - (j+1)) ys dk hstop)
    clear hstop
    go_wp2_with fail
    refine HT.out.mono ?_
    rintro e w2 ⟨rfl,G2,hD2,st2⟩
    have H2:=zH (zA hD2 st2)
    clear hD2 st2
    go_wp2
    go_ret
    rw [HP.out,HRR.out,HE.out]
    exact ⟨rfl,G2,H2.out.1,HST.out.trans H2.out.2⟩
   | false =>
    have HT:=zH (sJ p c dk Gk _ 15 wr HD.out HF'.out hstop (by decide) (by decide))
    have HE:=zH (rF 1 (8 - (j+1)) ys dk hstop)
    have hsr:=xP HF'.out 15
    clear hstop
    obtain ⟨sd,hsd⟩ : ∃ sd,dk.said 15=sd:=⟨_,rfl⟩
    rw [hsd] at HT HE hsr
    clear hsd
    obtain ⟨s0,s1⟩:=hsr
    have hand:bits .and .i64 (sd / 2) 1=sd / 2 % 2:=GG _
    go_wp2_with fail
    refine HT.out.mono ?_
    rintro e w2 ⟨rfl,G2,hD2,st2⟩
    obtain ⟨hown,hog,hrg,hys⟩:=HOWN.out
    have hown2:=jK hown st2.aH hog
    have hog2 : ∀ g,Value.ownBlock _=some g → ¬ G2 g:=fun g hg=>by
     obtain ⟨cur,hc⟩:=gw (tt hown zX) hg
     exact st2.safe (aO hc) (hog g hg)
    have H2:=zH (zA hD2 (zA st2 (zA hown2 (zA hog2 (zA hrg hys)))))
    have hsz:w.heap.size≤w2.heap.size:=(HST.out.trans st2).aH.size
    have hz63:j+1≤maxLen:=by unfold maxLen;omega
    have hz47:(j+1) * 8≤140737488355328:=by omega
    clear hD2 st2 hown hog hrg hys hown2 hog2
    go_wp2_with (at_builtin;refine wpList_append_lies _ rfl (.tmp 26) (.tmp 28) 22 (by rfl) w.heap.size 3 i0 (.int .i64 0) 1 8 underlying22 hi hz0 hz1 hz2 rfl (by decide) _ j _ (by rfl) (World.ownsRow.aj H2.out.2.2.1 (ae zR _)) ⟨w2.heap.size,0,none⟩ 1 1 [.int .i64 (sd / 2 % 2)] (by rfl) rfl ?nw ?on (by decide) hz63 hz47 ?bs (w2.heap.size+1) ?sz ?_)
    case nw=>exact World.news_of_block (cs := #[.int .i64 (sd / 2 % 2)]) (t:=3) (fr:=(0,0)) (af w2 _)
    case on=>simp [Value.oneCell']
    case bs=>simp;omega
    case sz=>simp
    intro g cap w3 hown3 hgrow hat hlt3
    obtain ⟨hD2,st2,hown2,hog2,hrg,hys⟩:=H2.out
    have hb3:Below w2.heap.size w2 (w2.alloc (.cells #[.int .i64 (sd / 2 % 2)] 3)):=ae zR _
    have T3:=(Touch.ah hb3).trans (oK hgrow)
    have hD3:=hD2.fA T3 (fun b hb e=>hog2 b e hb) (fun hl e=>by
     have e2:=gV hown2 _ e
     have hl0:0<d.ar.busy.length:=by
      have e3:(dk.tick 15).ar.busy=d.ar.busy:=(fp dk.ar 15).1.trans HOH.out.2.2
      rw [← e3];exact hl
     have e4:(dk.tick 15).ar.home=d.ar.home:=(fp dk.ar 15).2.trans HOH.out.2.1
     have:=HHM.out hl0
     rw [e4] at e2
     omega)
    have st02:=HST.out.trans st2
    have st3:Step G G2 w w3:=⟨st02.aH.then T3 (fun b hb=>.inr (gV hown2 b hb)),st02.gP⟩
    have hg3 : ¬ G2 g:=by
     rcases hat with e | e
     ·
      exact hog2 g e
     ·
      intro hg;have:=hD2.lt g hg;omega
    have hown4:w3.ownsRow w.heap.size 3 1 (.slice (some ⟨g,0,none⟩) (j+1) cap) (j+1) (aB (ys++[(sd / 2 % 2)])):=by simpa [aB] using hown3
    have hrg4:=xX hrg (y:=(sd / 2 % 2)) (by omega)
    have hhr:hr=aI.il 1 (8 - (j+1)) (ys++[(sd / 2 % 2)]) (dk.tick 15):=by rw [HRR.out,HE.out];rfl
    have H3:=zH (zA hD3 (zA st3 (zA hg3 (zA hown4 (zA hrg4 (zA hhr hys))))))
    clear hD2 st2 hown2 hog2 hrg hys hD3 st02 st3 hg3 hown4 hrg4 hhr hown3 hgrow hat hb3 T3
    go_wp2
    go_roundw
    case rel=>exact ⟨j+1,ys++[(sd / 2 % 2)],dk.tick 15,G2,by omega,by go_num,by simp [H3.out.2.2.2.2.2.2],H3.out.1,H3.out.2.1,lD HF'.out 15,H3.out.2.2.2.2.2.1,HOH.out.1,(fp dk.ar 15).2.trans HOH.out.2.1,(fp dk.ar 15).1.trans HOH.out.2.2,H3.out.2.2.2.1,(fun k hk=>by
     obtain rfl:g=k:=by simpa [Value.ownBlock] using hk
     exact H3.out.2.2.1),H3.out.2.2.2.2.1⟩
    case measure=>simp [intOf];omega
  ·
   obtain rfl:j=8:=by omega
   obtain ⟨a',c',hv,hints⟩:=(bw.cZ (show wr.ownsRow w.heap.size 3 1 _ ys.length (aB ys) by rw [hys];exact hown)).ints
   rw [hys] at hv
   subst hv
   have HIN:=zH (in_1 a' c' ys wr hints hys hrg)
   have hrr2:hr=(true,ys,dk):=hrr
   have HV:=zH (show d.cM 1 hr=(true,{ dk with out:=dk.out++[cY ys 1] }) by rw [hrr2];rfl)
   have hlen:dk.out.length≤100000:=by rw [ho];exact HO.out
   generalize cY ys 1=y at *
   obtain ⟨F,ov,hp,hch,hoo,hFp,hFo,hFG,hGp,hGo,hhh⟩:=hD.ex
   have c1:wr.cell? ⟨p,1,none⟩=some ov:=cell_of hp 1
   obtain ⟨da,dc,hda⟩ : ∃ da dc,ov=.slice da dk.out.length dc:=by
    rcases CY hoo with ⟨e,e2⟩ | ⟨g,cap,e,_⟩
    ·
     exact ⟨none,0,by rw [e2];exact e⟩
    ·
     exact ⟨_,_,e⟩
   subst hda
   have hb3:Below wr.heap.size wr (wr.alloc (.cells #[.int .i64 y] 3)):=ae zR _
   have HDP:=zH (fun (g cap:Nat) (w2:World) (h1:(wr.alloc (.cells #[.int .i64 y] 3)).grownBy w2 (Value.slice da dk.out.length dc).ownBlock) (h2:_) (h3:_) (h4:_)=>wT (g:=g) (cap:=cap) (w2:=w2) (x:=y) hD hp hch hoo hFp hFo hFG hGp hGo hhh hb3 h1 h2 h3 h4)
   have HOO:=zH (World.ownsRow.aj hoo hb3)
   have hz63:dk.out.length+1≤maxLen:=by unfold maxLen;omega
   have hz47:(dk.out.length+1) * 8≤140737488355328:=by omega
   have HST:=zH hst
   have hpl:p<wr.heap.size:=aO hp
   have c1b:(wr.alloc (.cells #[.int .i64 y] 3)).cell? ⟨p,1,none⟩=some (.slice da dk.out.length dc):=by rw [World.cell?_alloc_lt _ _ _ hpl];exact c1
   clear hD hst hf hrr ho hhm hbs hown hog hrg hints hrr2 hp hch hoo hFp hFo hFG hGp hGo hhh hb3
   go_wp2_with fail
   refine HIN.out.mono ?_
   rintro e wr ⟨rfl,rfl⟩
   go_wp2_with (at_builtin;refine wpList_append_lies _ rfl (.tmp 41) (.tmp 43) 22 (by rfl) 0 3 i0 (.int .i64 0) 1 8 underlying22 hi hz0 hz1 hz2 rfl (by decide) _ dk.out.length (aB dk.out) (by rfl) HOO.out ⟨wr.heap.size,0,none⟩ 1 1 [.int .i64 y] (by rfl) rfl ?nw2 ?on2 (by decide) hz63 hz47 zX (wr.heap.size+1) ?sz2 ?_)
   case nw2=>exact World.news_of_block (cs := #[.int .i64 y]) (t:=3) (fr:=(0,0)) (af wr _)
   case on2=>simp [Value.oneCell']
   case sz2=>simp
   intro g cap w2 hown hgrow hat hlt2
   obtain ⟨hp2,G',hD2,st2⟩:=HDP.out g cap w2 hgrow hown (by simpa using hat) hlt2
   have d1:w2.cell? ⟨p,1,none⟩=some (.slice da dk.out.length dc):=cell_of hp2 1
   have f1:w2.frozen? ⟨p,1,none⟩=false:=aF hp2 1
   have H2:=zH (zA hD2 (HST.out.trans st2))
   clear hp2 hD2 st2 hown hgrow hat hlt2
   go_wp2
   go_ret
   rw [HP.out,HV.out]
   exact ⟨rfl,G',H2.out⟩
theorem Nf (p c:Nat) (d:aI) (G:Nat→Prop) (k:Nat) (w:World) (h:fm w p c d G) (fit:d.Fit (8+k)) (hout:d.out.length≤100000):Calls prog 208 #[.pointer (some ⟨p,0,none⟩),.int .i64 4] w (mR (aI.get 4 d).1 p c (aI.get 4 d).2 G w):=by
 have HH:=zH h
 have HF:=zH (cz fit (show 2+k≤8+k by omega))
 have HP:=zH (show aI.get 4 d=d.cM 4 (aI.il 4 2 [] d) from rfl)
 have HHM:=zH (fun hl=>(h.ex.choose_spec.choose_spec.2.1.home hl).1)
 have HLT:=zH h.lt
 obtain ⟨i0,hi,hz0,hz1,hz2⟩:=info_parts iq
 have HO:=zH hout
 clear h fit hout
 generalize hr0:aI.il 4 2 [] d=hr at *
 have HR0:=zH hr0.symm
 clear hr0
 go_enter func208,ntmps208
 go_wp2_with (go_at_call 204;refine (fP 4 _ (by decide)).mono ?_;rintro e w ⟨rfl,rfl⟩;simp only [show many 4=2 from rfl])
 go_loopw [5,12] (fun v i wr => ∃ (j:Nat) (ys:List Int) (dk:aI) (Gk:Nat→Prop),j≤2∧i=.int .i64 j∧ys.length=j∧fm wr p c dk Gk∧Step G Gk w wr∧dk.Fit (2 - j+k)∧hr=aI.il 4 (2 - j) ys dk∧dk.out=d.out∧dk.ar.home=d.ar.home∧dk.ar.busy=d.ar.busy∧wr.ownsRow w.heap.size 3 1 v j (aB ys)∧(∀ g,v.ownBlock=some g → ¬ Gk g)∧(∀ i,i<ys.length→0≤ys.getD i 0∧ys.getD i 0<16)) (fun _ i _=>2 - (intOf i).toNat)
 case atStart=>exact ⟨0,[],d,G,Nat.zero_le _,rfl,rfl,HH.out,Step.refl _ _,HF.out,HR0.out,rfl,rfl,rfl,zN,(fun g e=>by cases e),(fun i hi=>absurd hi (Nat.not_lt_zero _))⟩
 case round =>
  obtain ⟨j,ys,dk,Gk,hj,rfl,hys,hD,hst,hf,hrr,ho,hhm,hbs,hown,hog,hrg⟩:=hrel
  by_cases hlt:j<2
  ·
   have e1:2 - j=(2 - (j+1))+1:=by omega
   rw [e1] at hrr
   have HD:=zH hD
   have HST:=zH hst
   have HF':=zH (show dk.Fit (2 - (j+1)+k+1) from cz hf (by omega))
   have HRR:=zH hrr
   have HOH:=zH (zA ho (zA hhm hbs))
   have HOWN:=zH (zA hown (zA hog (zA hrg hys)))
   clear e1 hD hst hf hrr ho hhm hbs hown hog hrg hys
   cases hstop:dk.stop with
   | true =>
    have HT:=zH (mM p c dk Gk 15 wr HD.out hstop)
    have HE:=zH (pJ 4 (2 - (j+1)) ys dk hstop)
    clear hstop
    go_wp2_with fail
    refine HT.out.mono ?_
    rintro e w2 ⟨rfl,G2,hD2,st2⟩
    have H2:=zH (zA hD2 st2)
    clear hD2 st2
    go_wp2
    go_ret
    rw [HP.out,HRR.out,HE.out]
    exact ⟨rfl,G2,H2.out.1,HST.out.trans H2.out.2⟩
   | false =>
    have HT:=zH (sJ p c dk Gk _ 15 wr HD.out HF'.out hstop (by decide) (by decide))
    have HE:=zH (rF 4 (2 - (j+1)) ys dk hstop)
    have hsr:=xP HF'.out 15
    clear hstop
    obtain ⟨sd,hsd⟩ : ∃ sd,dk.said 15=sd:=⟨_,rfl⟩
    rw [hsd] at HT HE hsr
    clear hsd
    obtain ⟨s0,s1⟩:=hsr
    go_wp2_with fail
    refine HT.out.mono ?_
    rintro e w2 ⟨rfl,G2,hD2,st2⟩
    obtain ⟨hown,hog,hrg,hys⟩:=HOWN.out
    have hown2:=jK hown st2.aH hog
    have hog2 : ∀ g,Value.ownBlock _=some g → ¬ G2 g:=fun g hg=>by
     obtain ⟨cur,hc⟩:=gw (tt hown zX) hg
     exact st2.safe (aO hc) (hog g hg)
    have H2:=zH (zA hD2 (zA st2 (zA hown2 (zA hog2 (zA hrg hys)))))
    have hsz:w.heap.size≤w2.heap.size:=(HST.out.trans st2).aH.size
    have hz63:j+1≤maxLen:=by unfold maxLen;omega
    have hz47:(j+1) * 8≤140737488355328:=by omega
    clear hD2 st2 hown hog hrg hys hown2 hog2
    go_wp2_with (at_builtin;refine wpList_append_lies _ rfl (.tmp 26) (.tmp 28) 22 (by rfl) w.heap.size 3 i0 (.int .i64 0) 1 8 underlying22 hi hz0 hz1 hz2 rfl (by decide) _ j _ (by rfl) (World.ownsRow.aj H2.out.2.2.1 (ae zR _)) ⟨w2.heap.size,0,none⟩ 1 1 [.int .i64 sd] (by rfl) rfl ?nw ?on (by decide) hz63 hz47 ?bs (w2.heap.size+1) ?sz ?_)
    case nw=>exact World.news_of_block (cs := #[.int .i64 sd]) (t:=3) (fr:=(0,0)) (af w2 _)
    case on=>simp [Value.oneCell']
    case bs=>simp;omega
    case sz=>simp
    intro g cap w3 hown3 hgrow hat hlt3
    obtain ⟨hD2,st2,hown2,hog2,hrg,hys⟩:=H2.out
    have hb3:Below w2.heap.size w2 (w2.alloc (.cells #[.int .i64 sd] 3)):=ae zR _
    have T3:=(Touch.ah hb3).trans (oK hgrow)
    have hD3:=hD2.fA T3 (fun b hb e=>hog2 b e hb) (fun hl e=>by
     have e2:=gV hown2 _ e
     have hl0:0<d.ar.busy.length:=by
      have e3:(dk.tick 15).ar.busy=d.ar.busy:=(fp dk.ar 15).1.trans HOH.out.2.2
      rw [← e3];exact hl
     have e4:(dk.tick 15).ar.home=d.ar.home:=(fp dk.ar 15).2.trans HOH.out.2.1
     have:=HHM.out hl0
     rw [e4] at e2
     omega)
    have st02:=HST.out.trans st2
    have st3:Step G G2 w w3:=⟨st02.aH.then T3 (fun b hb=>.inr (gV hown2 b hb)),st02.gP⟩
    have hg3 : ¬ G2 g:=by
     rcases hat with e | e
     ·
      exact hog2 g e
     ·
      intro hg;have:=hD2.lt g hg;omega
    have hown4:w3.ownsRow w.heap.size 3 1 (.slice (some ⟨g,0,none⟩) (j+1) cap) (j+1) (aB (ys++[sd])):=by simpa [aB] using hown3
    have hrg4:=xX hrg (y:=sd) (by omega)
    have hhr:hr=aI.il 4 (2 - (j+1)) (ys++[sd]) (dk.tick 15):=by rw [HRR.out,HE.out];rfl
    have H3:=zH (zA hD3 (zA st3 (zA hg3 (zA hown4 (zA hrg4 (zA hhr hys))))))
    clear hD2 st2 hown2 hog2 hrg hys hD3 st02 st3 hg3 hown4 hrg4 hhr hown3 hgrow hat hb3 T3
    go_wp2
    go_roundw
    case rel=>exact ⟨j+1,ys++[sd],dk.tick 15,G2,by omega,by go_num,by simp [H3.out.2.2.2.2.2.2],H3.out.1,H3.out.2.1,lD HF'.out 15,H3.out.2.2.2.2.2.1,HOH.out.1,(fp dk.ar 15).2.trans HOH.out.2.1,(fp dk.ar 15).1.trans HOH.out.2.2,H3.out.2.2.2.1,(fun k hk=>by
     obtain rfl:g=k:=by simpa [Value.ownBlock] using hk
     exact H3.out.2.2.1),H3.out.2.2.2.2.1⟩
    case measure=>simp [intOf];omega
  ·
   obtain rfl:j=2:=by omega
   obtain ⟨a',c',hv,hints⟩:=(bw.cZ (show wr.ownsRow w.heap.size 3 1 _ ys.length (aB ys) by rw [hys];exact hown)).ints
   rw [hys] at hv
   subst hv
   have HIN:=zH (ND a' c' ys wr hints hys hrg)
   have hrr2:hr=(true,ys,dk):=hrr
   have HV:=zH (show d.cM 4 hr=(true,{ dk with out:=dk.out++[cY ys 4] }) by rw [hrr2];rfl)
   have hlen:dk.out.length≤100000:=by rw [ho];exact HO.out
   generalize cY ys 4=y at *
   obtain ⟨F,ov,hp,hch,hoo,hFp,hFo,hFG,hGp,hGo,hhh⟩:=hD.ex
   have c1:wr.cell? ⟨p,1,none⟩=some ov:=cell_of hp 1
   obtain ⟨da,dc,hda⟩ : ∃ da dc,ov=.slice da dk.out.length dc:=by
    rcases CY hoo with ⟨e,e2⟩ | ⟨g,cap,e,_⟩
    ·
     exact ⟨none,0,by rw [e2];exact e⟩
    ·
     exact ⟨_,_,e⟩
   subst hda
   have hb3:Below wr.heap.size wr (wr.alloc (.cells #[.int .i64 y] 3)):=ae zR _
   have HDP:=zH (fun (g cap:Nat) (w2:World) (h1:(wr.alloc (.cells #[.int .i64 y] 3)).grownBy w2 (Value.slice da dk.out.length dc).ownBlock) (h2:_) (h3:_) (h4:_)=>wT (g:=g) (cap:=cap) (w2:=w2) (x:=y) hD hp hch hoo hFp hFo hFG hGp hGo hhh hb3 h1 h2 h3 h4)
   have HOO:=zH (World.ownsRow.aj hoo hb3)
   have hz63:dk.out.length+1≤maxLen:=by unfold maxLen;omega
   have hz47:(dk.out.length+1) * 8≤140737488355328:=by omega
   have HST:=zH hst
   have hpl:p<wr.heap.size:=aO hp
   have c1b:(wr.alloc (.cells #[.int .i64 y] 3)).cell? ⟨p,1,none⟩=some (.slice da dk.out.length dc):=by rw [World.cell?_alloc_lt _ _ _ hpl];exact c1
   clear hD hst hf hrr ho hhm hbs hown hog hrg hints hrr2 hp hch hoo hFp hFo hFG hGp hGo hhh hb3
   go_wp2_with fail
   refine HIN.out.mono ?_
   rintro e wr ⟨rfl,rfl⟩
   go_wp2_with (at_builtin;refine wpList_append_lies _ rfl (.tmp 41) (.tmp 43) 22 (by rfl) 0 3 i0 (.int .i64 0) 1 8 underlying22 hi hz0 hz1 hz2 rfl (by decide) _ dk.out.length (aB dk.out) (by rfl) HOO.out ⟨wr.heap.size,0,none⟩ 1 1 [.int .i64 y] (by rfl) rfl ?nw2 ?on2 (by decide) hz63 hz47 zX (wr.heap.size+1) ?sz2 ?_)
   case nw2=>exact World.news_of_block (cs := #[.int .i64 y]) (t:=3) (fr:=(0,0)) (af wr _)
   case on2=>simp [Value.oneCell']
   case sz2=>simp
   intro g cap w2 hown hgrow hat hlt2
   obtain ⟨hp2,G',hD2,st2⟩:=HDP.out g cap w2 hgrow hown (by simpa using hat) hlt2
   have d1:w2.cell? ⟨p,1,none⟩=some (.slice da dk.out.length dc):=cell_of hp2 1
   have f1:w2.frozen? ⟨p,1,none⟩=false:=aF hp2 1
   have H2:=zH (zA hD2 (HST.out.trans st2))
   clear hp2 hD2 st2 hown hgrow hat hlt2
   go_wp2
   go_ret
   rw [HP.out,HV.out]
   exact ⟨rfl,G',H2.out⟩
theorem Hg (p c:Nat) (d:aI) (G:Nat→Prop) (k:Nat) (L:Int) (w:World) (h:fm w p c d G) (fit:d.Fit (8+k)) (hL:L=1∨L=4) (hout:d.out.length≤100000):Calls prog 208 #[.pointer (some ⟨p,0,none⟩),.int .i64 L] w (mR (aI.get L d).1 p c (aI.get L d).2 G w):=by
 rcases hL with rfl | rfl
 ·
  exact Nd p c d G k w h fit hout
 ·
  exact Nf p c d G k w h fit hout
def Mf (w:World) (b o:Nat) (p:Ph) (a:Option Addr) (c:Nat) (G:Nat→Prop):Prop:=qn w b o p a c ∧ ¬ G b ∧ ∀ b' o',a=some ⟨b',o',none⟩→0<p.bytes.length → ¬ G b'
theorem Mf.step {G G':Nat→Prop} {w w':World} {b o:Nat} {p:Ph} {a:Option Addr} {c:Nat} (h:Mf w b o p a c G) (st:Step G G' w w'):Mf w' b o p a c G':=by
 refine ⟨h.1.step st h.2.1 h.2.2,st.safe (zL w _ h.1.c0) h.2.1,fun b' o' e hl => ?_⟩
 obtain ⟨b2,o2,g1,g2⟩:=h.1.ints 0 hl
 rw [e] at g1
 obtain ⟨rfl,rfl⟩:b'=b2∧o'=o2:=by simpa using g1
 exact st.safe (zL w _ g2) (h.2.2 _ _ e hl)
theorem vK : ∀ (xs:List Int) (d:aI),(aI.row xs d).2.out=d.out
 | [],d=>rfl
 | x::r,d=>by
  unfold aI.row
  split
  ·
   rfl
  ·
   exact vK r (d.tick x)
theorem xh (L:Int) : ∀ (k:Nat) (xs:List Int) (d:aI),(aI.il L k xs d).2.2.out=d.out
 | 0,xs,d=>rfl
 | k+1,xs,d=>by
  unfold aI.il
  split
  ·
   rfl
  ·
   exact xh L k _ (d.tick 15)
theorem Bd (b L:Int) (d:aI):(aI.put b L d).2.out=d.out:=vK _ _
theorem FR (L:Int) (d:aI):(aI.get L d).2.out.length≤d.out.length+1:=by
 have h:=xh L (many L).toNat [] d
 unfold aI.get aI.cM
 split
 ·
  show ((aI.il L (many L).toNat [] d).2.2.out++[_]).length≤_
  rw [h];simp
 ·
  show (aI.il L (many L).toNat [] d).2.2.out.length≤_
  rw [h];omega
theorem Am (L b:Int) (r:List Int) (d:aI) (h:(aI.put b L d).1=false):aI.dB L (b::r) d=(false,(aI.put b L d).2):=by
 show (if (aI.put b L d).1=true then _ else _)=_
 rw [if_neg (by rw [h];decide)]
theorem Be (L b:Int) (r:List Int) (d:aI) (h:(aI.put b L d).1=true):aI.dB L (b::r) d=aI.dB L r (aI.put b L d).2:=by
 show (if (aI.put b L d).1=true then _ else _)=_
 rw [if_pos h]
theorem s9 (L:Int) (k:Nat) (d:aI) (h:(aI.get L d).1=false):aI.fW L (k+1) d=(false,(aI.get L d).2):=by
 show (if (aI.get L d).1=true then _ else _)=_
 rw [if_neg (by rw [h];decide)]
theorem vD (L:Int) (k:Nat) (d:aI) (h:(aI.get L d).1=true):aI.fW L (k+1) d=aI.fW L k (aI.get L d).2:=by
 show (if (aI.get L d).1=true then _ else _)=_
 rw [if_pos h]
theorem drop_cons (xs:List Int) (k:Nat) (hk:k<xs.length):xs.drop k=xs.getD k 0::xs.drop (k+1):=by
 rw [List.drop_eq_getElem_cons hk,show xs.getD k 0=xs[k] by simp [List.getD,List.getElem?_eq_getElem hk]]
theorem bytes_at {xs:List Int} (h:xs.all isByte=true) (k:Nat) (hk:k<xs.length):0≤xs.getD k 0∧xs.getD k 0<256:=by
 have:=List.all_eq_true.1 h xs[k] (List.getElem_mem hk)
 rw [show xs.getD k 0=xs[k] by simp [List.getD,List.getElem?_eq_getElem hk]]
 unfold isByte at this
 simpa using this
theorem mT.parts {p:Ph} (ok:mT p):p.bytes.length≤512∧(0<p.bytes.length→(p.bW=1∨p.bW=4)∧p.bytes.all isByte=true)∧0≤p.eN∧p.eN≤400∧0≤p.read∧p.read≤512∧(0<p.read→p.bW=1∨p.bW=4):=by
 rcases ok with ⟨h1,h2,h3,h4,h5,h6⟩ | ⟨h1,h2,h3,h4,h5⟩ | ⟨h1,h2,h3,h4,h5⟩
 ·
  exact ⟨h3,fun _=>⟨h1,h4⟩,by omega,by omega,by omega,by omega,fun _=>h1⟩
 ·
  exact ⟨by rw [h2];simp,fun hl=>by rw [h2] at hl;simp at hl,by omega,by omega,by omega,by omega,fun _=>h1⟩
 ·
  exact ⟨by rw [h2];simp,fun hl=>by rw [h2] at hl;simp at hl,by omega,by omega,by omega,by omega,fun hl=>by omega⟩
theorem C4 (p c b o:Nat) (d:aI) (G:Nat→Prop) (k:Nat) (ph:Ph) (a:Option Addr) (cp:Nat) (w:World) (h:fm w p c d G) (fit:d.Fit (eT+k)) (hout:d.out.length≤90000) (ok:mT ph) (hph:Mf w b o ph a cp G):Calls prog 196 #[.pointer (some ⟨p,0,none⟩),.pointer (some ⟨b,o,none⟩)] w (mR (aI.phase ph d).1 p c (aI.phase ph d).2 G w):=by
 obtain ⟨L,bs,cl,rd⟩:=ph
 obtain ⟨q1,q2,q3,q4,q5,q6,q7⟩:=ok.parts
 simp only at q1 q2 q3 q4 q5 q6 q7
 obtain ⟨C,rfl⟩:=Int.eq_ofNat_of_zero_le q3
 obtain ⟨R,rfl⟩:=Int.eq_ofNat_of_zero_le q5
 have HH:=zH h
 have HPH:=zH hph
 have HF:=zH (cz fit (show 8 * bs.length+(8 * R+C+k)≤eT+k by unfold eT;omega))
 have HP:=zH (show aI.phase ⟨L,bs,C,R⟩ d=andThen (aI.dB L bs d) fun d1=>andThen (aI.row (List.replicate C 15) d1) fun d2=>aI.fW L R d2 from rfl)
 have HQ:=zH q2
 have HQ7:=zH q7
 have hc:=hph.1
 have e1:=hc.c1
 simp only at e1
 have HR0:=zH (show aI.dB L bs d=aI.dB L (bs.drop 0) d from rfl)
 have HO:=zH hout
 clear h hph fit q2 q3 q5 q7 ok hout hc
 generalize aI.phase ⟨L,bs,C,R⟩ d=r at *
 obtain ⟨r1,hr1⟩ : ∃ r1,r1=aI.dB L bs d:=⟨_,rfl⟩
 rw [← hr1] at HP HR0
 clear hr1
 go_enter func196,ntmps196
 go_wp2_with fail
 clear e1
 go_loopw [14] (fun i wr => ∃ (j:Nat) (dk:aI) (Gk:Nat→Prop),j≤bs.length∧i=.int .i64 j∧fm wr p c dk Gk∧Step G Gk w wr∧dk.Fit (8 * (bs.length - j)+(8 * R+C+k))∧r1=aI.dB L (bs.drop j) dk∧dk.out=d.out∧Mf wr b o ⟨L,bs,C,R⟩ a cp Gk) (fun i _=>bs.length - (intOf i).toNat)
 case atStart=>exact ⟨0,d,G,Nat.zero_le _,rfl,HH.out,Step.refl _ _,HF.out,HR0.out,rfl,HPH.out⟩
 case round =>
  obtain ⟨j,dk,Gk,hj,rfl,hD,hst,hf,hr,ho,hs⟩:=hrel
  by_cases hlt:j<bs.length
  ·
   obtain ⟨hL,hby⟩:=HQ.out (by omega)
   obtain ⟨b0,b1⟩:=bytes_at hby j hlt
   obtain ⟨bb,off,rfl,hcell⟩:=hs.1.ints j hlt
   have c0:wr.cell? ⟨b,o,none⟩=some (.int .i64 L):=hs.1.c0
   have hcell:wr.cell? ⟨bb,off+j,none⟩=some (.int .i64 (bs.getD j 0)):=hcell
   rw [drop_cons bs j hlt] at hr
   have hf':dk.Fit (8+(8 * (bs.length - (j+1))+(8 * R+C+k))):=cz hf (by omega)
   have HPC:=zH (Im p c dk Gk (8 * (bs.length - (j+1))+(8 * R+C+k)) (bs.getD j 0) L wr hD hf' hL b0 b1)
   have HFF:=zH (Gh (bs.getD j 0) L dk _ hf')
   have HX:=zH (zA hst (zA hs (zA ((Bd (bs.getD j 0) L dk).trans ho) hr)))
   have HS1:=zH (Am L (bs.getD j 0) (bs.drop (j+1)) dk)
   have HS2:=zH (Be L (bs.getD j 0) (bs.drop (j+1)) dk)
   clear hD hst hf hr ho hs hf' hby hL
   generalize bs.getD j 0=x at *
   generalize aI.put x L dk=rp at *
   obtain ⟨y,dn⟩:=rp
   simp only at HPC HFF HX HS1 HS2
   go_wp2_with fail
   refine HPC.out.mono ?_
   rintro e w2 ⟨rfl,G2,hD2,st2⟩
   have H2:=zH (zA hD2 st2)
   clear hD2 st2
   cases y with
   | false =>
    go_wp2
    go_ret
    rw [HP.out,HX.out.2.2.2,HS1.out (by trivial)]
    exact ⟨rfl,G2,H2.out.1,HX.out.1.trans H2.out.2⟩
   | true =>
    go_wp2
    go_roundw
    case rel=>exact ⟨j+1,dn,G2,by omega,by go_num,H2.out.1,HX.out.1.trans H2.out.2,HFF.out,HX.out.2.2.2.trans (HS2.out (by trivial)),HX.out.2.2.1,HX.out.2.1.step H2.out.2⟩
    case measure=>simp [intOf];omega
  ·
   obtain rfl:j=bs.length:=by omega
   rw [List.drop_of_length_le zY] at hr
   have c2:wr.cell? ⟨b,o+2,none⟩=some (.int .i64 (C:Int)):=hs.1.c2
   have HX:=zH (zA hD (zA hst (zA hs ho)))
   have HF1:=zH (show dk.Fit (C - 0+(8 * R+k)) from cz hf (by omega))
   rw [show r1=(true,dk) from hr] at HP
   have HP1:=zH (show r=andThen (aI.row (List.replicate C 15) dk) fun d2=>aI.fW L R d2 from HP.out)
   obtain ⟨r2,hr2⟩ : ∃ r2,r2=aI.row (List.replicate C 15) dk:=⟨_,rfl⟩
   rw [← hr2] at HP1
   have HR2:=zH hr2
   clear hD hst hf hr ho hs HP HR0 HF HH HPH hr2
   go_wp2_with fail
   clear c2
   obtain ⟨wo,hwo⟩ : ∃ wo:World,wo=wr:=⟨_,rfl⟩
   go_loopw [31] (fun i wr2 => ∃ (j:Nat) (dj:aI) (Gj:Nat→Prop),j≤C∧i=.int .i64 j∧fm wr2 p c dj Gj∧Step G Gj w wr2∧dj.Fit (C - j+(8 * R+k))∧r2=aI.row (List.replicate (C - j) 15) dj∧dj.out=d.out∧Mf wr2 b o ⟨L,bs,C,R⟩ a cp Gj) (fun i _=>C - (intOf i).toNat)
   case atStart=>exact ⟨0,dk,Gk,Nat.zero_le _,rfl,HX.out.1,HX.out.2.1,HF1.out,HR2.out,HX.out.2.2.2,HX.out.2.2.1⟩
   case round =>
    obtain ⟨j,dj,Gj,hj,rfl,hD,hst,hf,hr,ho,hs⟩:=hrel
    by_cases hlt2:j<C
    ·
     rw [show C - j=(C - (j+1))+1 by omega,List.replicate_succ] at hr
     have hf':dj.Fit (C - (j+1)+(8 * R+k)+1):=cz hf (by omega)
     have HX2:=zH (zA hst (zA hs (zA ho (zA hr hf'))))
     have HDD:=zH hD
     clear hst hs ho hr hf hD
     cases hstop:dj.stop with
     | true =>
      have HT:=zH (mM p c dj Gj 15 _ HDD.out hstop)
      have HE:=zH (sr 15 (List.replicate (C - (j+1)) 15) dj hstop)
      clear hstop hf'
      go_wp2_with fail
      refine HT.out.mono ?_
      rintro e w2 ⟨rfl,G2,hD2,st2⟩
      have H2:=zH (zA hD2 st2)
      clear hD2 st2
      go_wp2
      go_ret
      rw [HP1.out,HX2.out.2.2.2.1,HE.out]
      exact ⟨rfl,G2,H2.out.1,HX2.out.1.trans H2.out.2⟩
     | false =>
      have HT:=zH (sJ p c dj Gj _ 15 _ HDD.out hf' hstop (by decide) (by decide))
      have HE:=zH (xM 15 (List.replicate (C - (j+1)) 15) dj hstop)
      clear hstop hf'
      go_wp2_with fail
      refine HT.out.mono ?_
      rintro e w2 ⟨rfl,G2,hD2,st2⟩
      have H2:=zH (zA hD2 st2)
      clear hD2 st2
      go_wp2
      go_roundw
      case rel=>exact ⟨j+1,dj.tick 15,G2,by omega,by go_num,H2.out.1,HX2.out.1.trans H2.out.2,lD HX2.out.2.2.2.2 15,HX2.out.2.2.2.1.trans HE.out,HX2.out.2.2.1,HX2.out.2.1.step H2.out.2⟩
      case measure=>simp [intOf];omega
    ·
     obtain rfl:C=j:=by omega
     rw [Nat.sub_self] at hr
     have c3:_=some (Value.int .i64 (R:Int)):=hs.1.c3
     have HY:=zH (zA hD (zA hst (zA hs ho)))
     have HF2:=zH (show dj.Fit (8 * (R - 0)+k) from cz hf (by omega))
     rw [show r2=(true,dj) from hr] at HP1
     have HP2:=zH (show r=aI.fW L R dj from HP1.out)
     clear hD hst hf hr ho hs HP1 HR2
     go_wp2_with fail
     clear c3
     go_loopw [45] (fun i wr3 => ∃ (j:Nat) (dm:aI) (Gm:Nat→Prop),j≤R∧i=.int .i64 j∧fm wr3 p c dm Gm∧Step G Gm w wr3∧dm.Fit (8 * (R - j)+k)∧r=aI.fW L (R - j) dm∧dm.out.length≤d.out.length+j∧Mf wr3 b o ⟨L,bs,C,R⟩ a cp Gm) (fun i _=>R - (intOf i).toNat)
     case atStart=>exact ⟨0,dj,Gj,Nat.zero_le _,rfl,HY.out.1,HY.out.2.1,HF2.out,HP2.out,by rw [HY.out.2.2.2];exact Nat.le_refl _,HY.out.2.2.1⟩
     case round =>
      obtain ⟨j,dm,Gm,hj,rfl,hD,hst,hf,hr,ho,hs⟩:=hrel
      by_cases hlt3:j<R
      ·
       have hL:=HQ7.out (by omega)
       have c0:_=some (Value.int .i64 L):=hs.1.c0
       rw [show R - j=(R - (j+1))+1 by omega] at hr
       have hf':dm.Fit (8+(8 * (R - (j+1))+k)):=cz hf (by omega)
       have hdo:=HO.out
       have HGC:=zH (Hg p c dm Gm (8 * (R - (j+1))+k) L _ hD hf' hL (by omega))
       have HFF:=zH (FP L dm _ hf')
       have hgo:=FR L dm
       have HX3:=zH (zA hst (zA hs (zA (show (aI.get L dm).2.out.length≤d.out.length+(j+1) by omega) hr)))
       have HS1:=zH (s9 L (R - (j+1)) dm)
       have HS2:=zH (vD L (R - (j+1)) dm)
       clear hD hst hf hr ho hs hf' hL hgo
       generalize aI.get L dm=rp at *
       obtain ⟨y,dn⟩:=rp
       simp only at HGC HFF HX3 HS1 HS2
       go_wp2_with fail
       refine HGC.out.mono ?_
       rintro e w2 ⟨rfl,G2,hD2,st2⟩
       have H2:=zH (zA hD2 st2)
       clear hD2 st2
       cases y with
       | false =>
        go_wp2
        go_ret
        rw [HX3.out.2.2.2,HS1.out (by trivial)]
        exact ⟨rfl,G2,H2.out.1,HX3.out.1.trans H2.out.2⟩
       | true =>
        go_wp2
        go_roundw
        case rel=>exact ⟨j+1,dn,G2,by omega,by go_num,H2.out.1,HX3.out.1.trans H2.out.2,HFF.out,HX3.out.2.2.2.trans (HS2.out (by trivial)),HX3.out.2.2.1,HX3.out.2.1.step H2.out.2⟩
        case measure=>simp [intOf];omega
      ·
       obtain rfl:R=j:=by omega
       rw [Nat.sub_self] at hr
       have HX3:=zH (zA hD (zA hst hr))
       clear hD hst hf hr ho hs
       go_wp2
       go_ret
       rw [show r=(true,dm) from HX3.out.2.2]
       exact ⟨rfl,Gm,HX3.out.1,HX3.out.2.1⟩
theorem xF (L:Int) : ∀ (bs:List Int) (d:aI),(aI.dB L bs d).2.out=d.out
 | [],d=>rfl
 | b::r,d=>by
  unfold aI.dB
  split
  ·
   exact (xF L r _).trans (Bd b L d)
  ·
   exact Bd b L d
theorem Co (L:Int) : ∀ (k:Nat) (d:aI),(aI.fW L k d).2.out.length≤d.out.length+k
 | 0,d=>Nat.le_refl _
 | k+1,d=>by
  have h:=FR L d
  unfold aI.fW
  split
  ·
   have:=Co L k (aI.get L d).2;omega
  ·
   show (aI.get L d).2.out.length≤_;omega
theorem Ii (p:Ph) (ok:mT p) (d:aI):(aI.phase p d).2.out.length≤d.out.length+512:=by
 obtain ⟨q1,q2,q3,q4,q5,q6,q7⟩:=ok.parts
 have h1:=xF p.bW p.bytes d
 unfold aI.phase andThen
 dsimp only
 split
 ·
  have h2:=vK (List.replicate p.eN.toNat 15) (aI.dB p.bW p.bytes d).2
  split
  ·
   have h3:=Co p.bW p.read.toNat (aI.row (List.replicate p.eN.toNat 15) (aI.dB p.bW p.bytes d).2).2
   rw [h2,h1] at h3
   omega
  ·
   show (aI.row (List.replicate p.eN.toNat 15) (aI.dB p.bW p.bytes d).2).2.out.length≤_
   rw [h2,h1];omega
 ·
  show (aI.dB p.bW p.bytes d).2.out.length≤_
  rw [h1];omega
end Go.Proofs.YtcfdenckiigdaaaGreat

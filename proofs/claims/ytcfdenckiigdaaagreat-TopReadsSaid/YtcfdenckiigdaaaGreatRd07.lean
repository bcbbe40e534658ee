/- Part 7 of the contracts. -/
import Derived.Test.YtcfdenckiigdaaaGreatRd06
set_option linter.unusedVariables false
set_option maxRecDepth 100000
set_option maxHeartbeats 4000000
namespace Go.Proofs.YtcfdenckiigdaaaGreat
open Tryz Go.RowKit
theorem eD.free {w:World} {b o:Nat} {ps:List Ph} {G:Nat→Prop} (h:eD w b o ps G):eD w b o ps (fun _=>False) :=
 ⟨fun _ h=>h,fun i hi=>let ⟨a,c,h1,_⟩:=h.ph i hi;⟨a,c,h1,fun _ _ _ _ h=>h⟩⟩
theorem eD.at {w:World} {b o:Nat} {ps:List Ph} {G:Nat→Prop} (h:eD w b o ps G) (i:Nat) (hi:i<ps.length) : ∃ a c,Mf w b (o+i * 4) (ps.getD i Ph.none) a c G:=by
 obtain ⟨a,c,h1,h2⟩:=h.ph i hi
 exact ⟨a,c,h1,h.fA (Nat.lt_of_le_of_lt zX hi),h2⟩
theorem C5 (ps:List Ph) (k:Nat) (hk:k<ps.length) (d:aI):aI.eQ (ps.drop k) d=andThen (aI.phase (ps.getD k Ph.none) d) (aI.eQ (ps.drop (k+1))):=by
 rw [List.drop_eq_getElem_cons hk,show ps.getD k Ph.none=ps[k] by simp [List.getD,List.getElem?_eq_getElem hk]]
 rfl
theorem kU (m:ag):m.behind.dP=m.dP:=by
 unfold ag.behind;split;rfl;split;rfl;split;rfl;split <;> rfl
theorem wg (m:ag) (b:Int):(m.cT b).dP=m.dP:=by
 unfold ag.cT;split;rfl;split;rfl;exact kU _
theorem Fa (m:ag):m.select.dP=true:=by
 unfold ag.select;split;exact wg _ _;rfl
theorem Kr (m:ag) (x:Int):(m.step x).2.dP=m.dP:=by
 unfold ag.step
 split
 ·
  unfold ag.sC;split;exact wg _ _;rfl
 split
 ·
  unfold ag.sD;split;exact kU _;rfl
 split
 ·
  unfold ag.sE;split;exact kU _;rfl
 split
 ·
  unfold ag.uL;split;exact kU _;rfl
 split
 ·
  unfold ag.sF;split;exact kU _;rfl
 split
 ·
  unfold ag.bU ag.next;split <;> rfl
 split <;> rfl
theorem zl (m:ag) (x:Int):(m.clock x).2.dP=m.dP:=by
 obtain ⟨_,_,_,_,_,_,_,_,_,_,_,es,_⟩:=rU m
 unfold ag.clock
 split
 ·
  exact (Kr _ _).trans es
 ·
  exact es
theorem sq : ∀ (xs:List Int) (d:aI),(aI.row xs d).2.ar.dP=d.ar.dP
 | [],d=>rfl
 | x::r,d=>by
  unfold aI.row
  split
  ·
   rfl
  ·
   exact (sq r (d.tick x)).trans (zl _ _)
theorem Cu (L:Int) : ∀ (k:Nat) (xs:List Int) (d:aI),(aI.il L k xs d).2.2.ar.dP=d.ar.dP
 | 0,xs,d=>rfl
 | k+1,xs,d=>by
  unfold aI.il
  split
  ·
   rfl
  ·
   exact (Cu L k _ (d.tick 15)).trans (zl _ _)
theorem FT (L:Int) (d:aI):(aI.get L d).2.ar.dP=d.ar.dP:=by
 have h:=Cu L (many L).toNat [] d
 unfold aI.get aI.cM
 split <;> exact h
theorem rX (L:Int) : ∀ (bs:List Int) (d:aI),(aI.dB L bs d).2.ar.dP=d.ar.dP
 | [],d=>rfl
 | b::r,d=>by
  unfold aI.dB
  split
  ·
   exact (rX L r _).trans (sq _ _)
  ·
   exact sq _ _
theorem Cp (L:Int) : ∀ (k:Nat) (d:aI),(aI.fW L k d).2.ar.dP=d.ar.dP
 | 0,d=>rfl
 | k+1,d=>by
  unfold aI.fW
  split
  ·
   exact (Cp L k _).trans (FT L d)
  ·
   exact FT L d
theorem Ag (p:Ph) (d:aI):(aI.phase p d).2.ar.dP=d.ar.dP:=by
 unfold aI.phase andThen
 dsimp only
 split
 ·
  split
  ·
   exact (Cp _ _ _).trans ((sq _ _).trans (rX _ _ _))
  ·
   exact (sq _ _).trans (rX _ _ _)
 ·
  exact rX _ _ _
theorem xA : ∀ (ps:List Ph) (d:aI),(aI.eQ ps d).2.ar.dP=d.ar.dP
 | [],d=>rfl
 | p::r,d=>by
  unfold aI.eQ andThen
  split
  ·
   exact (xA r _).trans (Ag p d)
  ·
   exact Ag p d
def aI.new (m:ag) (bh:Int):aI:=⟨m.select,[],0,bh⟩
def ig (m:ag) (ps:List Ph) (bh:Int):Bool×aI:=aI.eQ ps (aI.new m bh)
def cg (r:Bool×aI):ag:=if r.1=true then r.2.ar.fu else r.2.ar
theorem zq {w w1 w':World} {p c:Nat} {d:aI} {F G':Nat→Prop} (h:fm w' p c d G') (st:Step (fun b=>F b∨b=p) G' w1 w') (t:Touch F w w1) (hp:w.heap.size≤p) : ∃ (F':Nat→Prop) (ov:Value),w'.heap[p]? = some (.cells #[.pointer (some ⟨c,0,none⟩),ov,.int .i64 (d.n:Int),.int .i64 d.bh] 291 (0,0))∧aT w' c d.ar F'∧w'.ownsRow 0 3 1 ov d.out.length (aB d.out) ∧ ¬ F' p∧(∀ g,ov.ownBlock=some g → ¬ F' g∧w.heap.size≤g)∧Step F F' w w':=by
 obtain ⟨F',ov,h1,h2,h3,h4,h5,h6,h7,h8,_⟩:=h.ex
 refine ⟨F',ov,h1,h2,h3,h4,fun g hg=>⟨h5 g hg,Nat.le_trans hp (h8 g hg).2⟩,t.then st.aH (fun b hb=>hb.elim .inl (fun e=>.inr (by rw [e];exact hp))),fun b hb => ?_⟩
 rcases st.gP b (h6 b hb) with hf | hf
 ·
  exact hf.elim .inl (fun e=>.inr (by rw [e];exact hp))
 ·
  exact .inr (Nat.le_trans t.size hf)
def Gv (r:Bool×aI) (c:Nat) (F:Nat→Prop) (w:World) (e:Ending) (w':World):Prop :=
 ∃ (a:Option Addr) (cp:Nat) (F':Nat→Prop),e=.returned (.tuple #[.slice a r.2.out.length cp,.int .i64 (r.2.n:Int),.bool r.1,.int .i64 0])∧aT w' c (cg r) F'∧aL w' a r.2.out F'∧Step F F' w w' ∧ ∀ b o,a=some ⟨b,o,none⟩→w.heap.size≤b
theorem CZ {w:World} {v:Value} {xs:List Int} {F:Nat→Prop} {B:Nat} (h:w.ownsRow 0 3 1 v xs.length (aB xs)) (hn : ∀ g,v.ownBlock=some g → ¬ F g∧B≤g) : ∃ a cp,v=.slice a xs.length cp∧aL w a xs F ∧ ∀ b o,a=some ⟨b,o,none⟩→B≤b:=by
 obtain ⟨a,cp,hv,hi⟩:=(bw.cZ h).ints
 refine ⟨a,cp,hv,⟨hi,fun b o e hl hf=>(hn b ?_).1 hf⟩,fun b o e=>(hn b ?_).2⟩
 ·
  rw [hv,e];rfl
 ·
  rw [hv,e];rfl
theorem Cb (c b o cap:Nat) (m:ag) (F:Nat→Prop) (ps:List Ph) (bh:Int) (w:World) (h:aT w c m F) (ok:m.Ok) (hsel:m.dP=false) (hph:eD w b o ps F) (hps : ∀ i,i<ps.length→mT (ps.getD i Ph.none)) (hl:ps.length≤100):Calls prog 184 #[.pointer (some ⟨c,0,none⟩),.slice (some ⟨b,o,none⟩) ps.length cap,.int .i64 bh] w (Gv (ig m ps bh) c F w):=by
 have HC:=zH (tK b o cap ps w hph.free hps hl)
 have HS:=zH (fun (w1:World) (hb:Below w.heap.size w w1)=>sX c m F w1 (h.aj hb) hsel)
 have HPH:=zH (fun (w1:World) (hb:Below w.heap.size w w1)=>hph.step (Step.ah (F:=F) hb))
 have HOK:=zH hps
 have HFIT:=zH (show (aI.new m bh).Fit (eT * ps.length) from ⟨xS ok 0,by show 0+eT * ps.length<_;unfold eT;omega⟩)
 have HD:=zH (show ig m ps bh=aI.eQ (ps.drop 0) (aI.new m bh) from rfl)
 have HSEL:=zH (show (ig m ps bh).2.ar.dP=true from (xA ps (aI.new m bh)).trans (Fa m))
 clear h ok hsel hph hps
 go_enter func184,ntmps184
 go_wp2_with fail
 refine HC.out.mono ?_
 rintro e w1 ⟨z,rfl,hb1⟩
 have HS1:=zH (HS.out w1 hb1)
 have H1:=zH (zA hb1 (HPH.out w1 hb1))
 clear hb1 HS HPH HC
 go_wp2_with fail
 refine HS1.out.mono ?_
 rintro e w2 ⟨rfl,h2,t2⟩
 have hcF:F c:=by obtain ⟨s,hr⟩:=h2.open;exact hr.own
 have T2:Touch F w w2:=(Touch.ah H1.out.1).trans (t2.mono fun b e=>by rw [show b=c from e];exact hcF)
 have hph2:eD w2 b o ps F:=H1.out.2.step (Step.dD (t2.mono fun b e=>by rw [show b=c from e];exact hcF))
 have hlt2:=h2.lt
 have hsel:m.select=(aI.new m bh).ar:=rfl
 rw [hsel] at h2
 have H2:=zH h2
 have HT2:=zH T2
 have HP2:=zH hph2
 have HLT2:=zH hlt2
 have HHM:=zH (fun hl=>h2.home hl)
 have HO0:=zH (show (aI.new m bh).out=[]∧(aI.new m bh).n=0∧(aI.new m bh).bh=bh from ⟨rfl,rfl,rfl⟩)
 clear h2 t2 T2 hph2 hlt2 hcF hsel HS1 H1
 generalize aI.new m bh=d at *
 generalize ig m ps bh=r at *
 obtain ⟨p,hp⟩ : ∃ p,w2.heap.size=p:=⟨_,rfl⟩
 have hpw:w.heap.size≤p:=by rw [← hp];exact HT2.out.size
 have hb3:Below w2.heap.size w2 (w2.alloc (.cells #[.pointer (some ⟨c,0,none⟩),.slice none 0 0,.int .i64 0,.int .i64 bh] 291)):=ae zR _
 have hD0:fm (w2.alloc (.cells #[.pointer (some ⟨c,0,none⟩),.slice none 0 0,.int .i64 0,.int .i64 bh] 291)) p c d (fun b=>F b∨b=p):=by
  obtain ⟨e1,e2,e3⟩:=HO0.out
  refine ⟨⟨F,.slice none 0 0,?_,H2.out.aj hb3,?_,?_,(fun g e=>by cases e),fun b hb=>.inl hb,.inr rfl,(fun g e=>by cases e),fun hl hf => ?_⟩,fun b hb => ?_⟩
  ·
   rw [← hp,af,e2,e3];rfl
  ·
   rw [e1];exact zN
  ·
   intro hf;have:=HLT2.out p hf;omega
  ·
   obtain ⟨g1,g2⟩:=HHM.out hl
   rcases hf with hf | hf
   ·
    exact g2 hf
   ·
    have hf':d.ar.home=p:=hf
    omega
  ·
   simp only [World.size_alloc]
   rcases hb with hb | hb
   ·
    have:=HLT2.out b hb;omega
   ·
    omega
 have hP0:eD (w2.alloc (.cells #[.pointer (some ⟨c,0,none⟩),.slice none 0 0,.int .i64 0,.int .i64 bh] 291)) b o ps (fun b=>F b∨b=p) :=
  HP2.out.step ⟨Touch.ah hb3,fun x hx=>hx.elim .inl (fun e=>.inr (by rw [e,hp];exact Nat.le_refl _))⟩
 have hT0:Touch F w (w2.alloc (.cells #[.pointer (some ⟨c,0,none⟩),.slice none 0 0,.int .i64 0,.int .i64 bh] 291)):=HT2.out.trans (Touch.ah hb3)
 have HD0:=zH hD0
 have HP0:=zH hP0
 have HT0:=zH hT0
 clear hD0 hP0 hT0 hb3 HP2 HT2 H2 HLT2 HHM
 go_wp2_with fail
 generalize w2.alloc (.cells #[.pointer (some ⟨c,0,none⟩),.slice none 0 0,.int .i64 0,.int .i64 bh] 291)=w3 at *
 have HPW:=zH hpw
 clear hp hpw
 go_loopw [34] (fun i wr => ∃ (j:Nat) (dk:aI) (Gk:Nat→Prop),j≤ps.length∧i=.int .i64 j∧fm wr p c dk Gk∧Step (fun b=>F b∨b=p) Gk w3 wr∧dk.Fit (eT * (ps.length - j))∧r=aI.eQ (ps.drop j) dk∧dk.out.length≤512 * j∧eD wr b o ps Gk) (fun i _=>ps.length - (intOf i).toNat)
 case atStart=>exact ⟨0,d,_,Nat.zero_le _,rfl,HD0.out,Step.refl _ _,HFIT.out,HD.out,by rw [HO0.out.1];simp,HP0.out⟩
 case round =>
  obtain ⟨j,dk,Gk,hj,rfl,hD,hst,hf,hr,ho,hs⟩:=hrel
  by_cases hlt:j<ps.length
  ·
   obtain ⟨a,cp,hS⟩:=hs.at j hlt
   have hf':dk.Fit (eT+eT * (ps.length - (j+1))):=cz hf (by
    have:ps.length - j=(ps.length - (j+1))+1:=by omega
    rw [this,Nat.mul_add];omega)
   have hpo:=HOK.out j hlt
   have HPC:=zH (C4 p c b (o+j * 4) dk Gk (eT * (ps.length - (j+1))) (ps.getD j Ph.none) a cp wr hD hf' (by omega) hpo hS)
   have HFF:=zH (Ae (ps.getD j Ph.none) hpo dk _ hf')
   have hou:=Ii (ps.getD j Ph.none) hpo dk
   rw [C5 ps j hlt] at hr
   have HX:=zH (zA hst (zA hs (zA (show (aI.phase (ps.getD j Ph.none) dk).2.out.length≤512 * (j+1) by omega) hr)))
   clear hD hst hf hr ho hs hf' hpo hou hS
   generalize aI.phase (ps.getD j Ph.none) dk=rp at *
   obtain ⟨y,dn⟩:=rp
   simp only at HPC HFF HX
   go_wp2_with fail
   refine HPC.out.mono ?_
   rintro e w4 ⟨rfl,G2,hD2,st2⟩
   have hst4:=HX.out.1.trans st2
   have H2:=zH (zA hD2 (zA hst4 st2))
   clear hst4
   cases y with
   | false =>
    obtain ⟨F',ov,q1,q2,q3,q4,q5,q6⟩:=zq hD2 (HX.out.1.trans st2) HT0.out HPW.out
    have c1:w4.cell? ⟨p,1,none⟩=some ov:=cell_of q1 1
    have c2:w4.cell? ⟨p,2,none⟩=some (.int .i64 (dn.n:Int)):=cell_of q1 2
    obtain ⟨a',cp',rfl,hsf,hnew⟩:=CZ q3 q5
    have HQ:=zH (zA q2 (zA hsf q6))
    have HNEW:=zH hnew
    clear q1 q2 q3 q4 q5 q6 hsf hD2 st2 hnew
    have hb4:Below w4.heap.size w4 w4.drew:=au zR
    have HR:=zH (show r=(false,dn) from HX.out.2.2.2)
    go_wp2_with fail
    go_quiet (fail)
    go_wp2
    refine bodyPost_ret (v:=.tuple #[.slice a' dn.out.length cp',.int .i64 (dn.n:Int),.bool false,.int .i64 0]) (by simp [results,results184,go_sem]) rfl ?_
    rw [HR.out]
    exact ⟨a',cp',F',rfl,HQ.out.1.aj (aY zR _),HQ.out.2.1.step (Step.ah (aY zR _)),HQ.out.2.2.trans (Step.ah (aY zR _)),HNEW.out⟩
   | true =>
    clear hD2 st2
    go_wp2
    go_roundw
    case rel=>exact ⟨j+1,dn,G2,by omega,by go_num,H2.out.1,H2.out.2.1,HFF.out,HX.out.2.2.2,HX.out.2.2.1,HX.out.2.1.step H2.out.2.2⟩
    case measure=>simp [intOf];omega
  ·
   obtain rfl:j=ps.length:=by omega
   rw [List.drop_of_length_le zY] at hr
   obtain ⟨F',ov,q1,q2,q3,q4,q5,q6⟩:=zq hD hst HT0.out HPW.out
   obtain ⟨a',cp',rfl,hsf,hnew⟩:=CZ q3 q5
   have hr2:r=(true,dk):=hr
   have HDS:=zH (u3 c dk.ar F' wr q2 hf.ar.base.ok (by have:=HSEL.out;rw [hr2] at this;exact this))
   have HR:=zH hr2
   have HQ:=zH (zA q1 (zA q4 (zA hsf q6)))
   have HNEW:=zH hnew
   clear hD hst hf hr ho hs hr2 q1 q2 q3 q4 q5 q6 hsf hnew
   go_wp2_with fail
   refine HDS.out.mono ?_
   rintro e w5 ⟨rfl,F5,h5,st5⟩
   have hp5:=st5.aH.at HQ.out.1 HQ.out.2.1
   have c1:w5.cell? ⟨p,1,none⟩=some (.slice a' dk.out.length cp'):=cell_of hp5 1
   have c2:w5.cell? ⟨p,2,none⟩=some (.int .i64 (dk.n:Int)):=cell_of hp5 2
   have H5:=zH (zA h5 (zA (HQ.out.2.2.1.step st5) (HQ.out.2.2.2.trans st5)))
   clear h5 st5 hp5
   go_wp2_with fail
   go_quiet (fail)
   go_wp2
   refine bodyPost_ret (v:=.tuple #[.slice a' dk.out.length cp',.int .i64 (dk.n:Int),.bool true,.int .i64 0]) (by simp [results,results184,go_sem]) rfl ?_
   rw [HR.out]
   exact ⟨a',cp',F5,rfl,H5.out.1.aj (aY zR _),H5.out.2.1.step (Step.ah (aY zR _)),H5.out.2.2.trans (Step.ah (aY zR _)),HNEW.out⟩
section
open Go.RowKit
variable {X:Nat→Prop}
structure aG where
 ar:ag
 aD:Bool
 left:Int
 lost:Bool
structure mw where
 c:Nat
 r0:Int
 r1:Int
 r2:Int
 po:Option Addr
 pi:Option Addr
 cl:Int
 aD:Bool
 left:Int
 lost:Bool
 o0:Int
 o1:Int
 o2:Int
 lv:Value
def mw.row (s:mw):Array Value := #[.pointer (some ⟨s.c,0,none⟩),.int .i64 s.r0,.int .i64 s.r1,.int .i64 s.r2,.pointer s.po,.pointer s.pi,.int .i64 s.cl,.bool s.aD,.int .i64 s.left,.bool s.lost,.int .u32 s.o0,.int .i32 s.o1,.int .u32 s.o2,s.lv]
def fE (w:World) (k:Nat) (s:mw):Prop:=w.heap[k]? = some (.cells s.row 141 (0,0))
def bX:Ph:=⟨4,[0,0,0,0],0,0⟩
def qW (X:Nat→Prop) (w:World) (s:mw) (G:Nat→Prop):Prop :=
 (∀ i,X i→i<w.heap.size)∧((s.o0=0∧s.o1=0∧s.o2=0)∨(s.o0=1∧s.o1=0∧s.o2=0 ∧ ∃ b,s.lv=.slice (some ⟨b,0,none⟩) 1 1∧eD w b 0 [bX] (fun i=>G i∨X i)))
theorem Step.Jo {G G' Y:Nat→Prop} {w w':World} (st:Step G G' w w'):Step (fun i=>G i∨Y i) (fun i=>G' i∨Y i) w w' :=
 ⟨st.aH.mono fun _ h=>.inl h,fun i h=>h.elim (fun h=>(st.gP i h).imp .inl id) (fun h=>.inl (.inr h))⟩
theorem qW.step {w w':World} {s:mw} {G G':Nat→Prop} (h:qW X w s G) (st:Step G G' w w'):qW X w' s G':=by
 refine ⟨fun i hi=>zV (h.1 i hi) st.aH.size,?_⟩
 rcases h.2 with h | ⟨h0,h1,h2,b,e,h3⟩
 ·
  exact .inl h
 ·
  exact .inr ⟨h0,h1,h2,b,e,h3.step st.Jo⟩
theorem eD.sub {w:World} {b o:Nat} {ps:List Ph} {F G:Nat→Prop} (h:eD w b o ps G) (hs : ∀ b,F b→G b):eD w b o ps F :=
 ⟨fun hl hf=>h.fA hl (hs _ hf),fun i hi=>by
  obtain ⟨a,c,h1,h2⟩:=h.ph i hi
  exact ⟨a,c,h1,fun b' o' e hl hf=>h2 b' o' e hl (hs _ hf)⟩⟩
structure kP (X:Nat→Prop) (w:World) (k:Nat) (s:mw) (m:aG) (F G:Nat→Prop):Prop where
 raw:fE w k s
 aD:s.aD=m.aD
 left:s.left=m.left
 lost:s.lost=m.lost
 ar:aT w s.c m.ar F
 leave:qW X w s G
 fA : ¬ F k
 sub : ∀ b,F b→G b
 own:G k
 home:0<m.ar.busy.length → ¬ G m.ar.home
 lt : ∀ b,G b→b<w.heap.size
def bO (X:Nat→Prop) (w:World) (k c:Nat) (m:aG) (G:Nat→Prop):Prop := ∃ s F,s.c=c∧kP X w k s m F G
theorem kP.aj {w w':World} {k:Nat} {s:mw} {m:aG} {F G:Nat→Prop} (h:kP X w k s m F G) (hb:Below w.heap.size w w'):kP X w' k s m F G :=
 ⟨aa hb h.raw,h.aD,h.left,h.lost,h.ar.aj hb,h.leave.step (Step.ah hb),h.fA,h.sub,h.own,h.home,fun b hb'=>zV (h.lt b hb') hb.size⟩
theorem bO.aj {w w':World} {k c:Nat} {m:aG} {G:Nat→Prop} (h:bO X w k c m G) (hb:Below w.heap.size w w'):bO X w' k c m G:=by
 obtain ⟨s,F,e,h⟩:=h
 exact ⟨s,F,e,h.aj hb⟩
theorem bO.lt {w:World} {k c:Nat} {m:aG} {G:Nat→Prop} (h:bO X w k c m G) : ∀ b,G b→b<w.heap.size:=by
 obtain ⟨s,F,e,h⟩:=h
 exact h.lt
theorem kP.block {w w':World} {k:Nat} {s s':mw} {m m':aG} {F G:Nat→Prop} (h:kP X w k s m F G) (g:fE w' k s') (t:Touch (aN k) w w') (ec:s'.c=s.c) (e1:s'.aD=m'.aD) (e2:s'.left=m'.left) (e3:s'.lost=m'.lost) (e4:m'.ar=m.ar) (e5:s'.o0=s.o0) (e6:s'.o1=s.o1) (e7:s'.o2=s.o2) (e8:s'.lv=s.lv):kP X w' k s' m' F G:=by
 have hG : ∀ b,aN k b→G b:=fun b e=>by rw [show b=k from e];exact h.own
 refine ⟨g,e1,e2,e3,?_,?_,h.fA,h.sub,h.own,by rw [e4];exact h.home,fun b hb=>zV (h.lt b hb) t.size⟩
 ·
  rw [ec,e4]
  exact h.ar.fA t (fun b hb e=>h.fA (by rw [← show b=k from e];exact hb)) (fun hl e=>h.home hl (by rw [show m.ar.home=k from e];exact h.own))
 ·
  have:=h.leave.step (Step.dD (t.mono hG))
  unfold qW at this ⊢
  rw [e5,e6,e7,e8];exact this
theorem kP.step {w w':World} {k:Nat} {s:mw} {m:aG} {F G:Nat→Prop} (h:kP X w k s m F G) (t:Touch (aN k) w w'):Step G G w w':=Step.dD (t.mono fun b e=>by rw [show b=k from e];exact h.own)
def aG.qR (m:aG):Int:=if m.lost=true then 1101 else 0
theorem kh (k c:Nat) (m:aG) (G:Nat→Prop) (w:World) (h:bO X w k c m G):Calls prog 153 #[.pointer (some ⟨k,0,none⟩)] w fun e w'=>e=.returned (.int .i64 m.qR)∧w=w':=by
 obtain ⟨s,F,rfl,h⟩:=h
 have c9:w.cell? ⟨k,9,none⟩=some (.bool m.lost):=by rw [← h.lost];exact cell_of h.raw 9
 clear h
 unfold aG.qR
 cases hl:m.lost with
 | true =>
  rw [hl] at c9
  clear hl
  go_enter func153,ntmps153
  go_wp2
  go_ret
  exact ⟨rfl,rfl⟩
 | false =>
  rw [hl] at c9
  clear hl
  go_enter func153,ntmps153
  go_wp2
  go_ret
  exact ⟨rfl,rfl⟩
theorem yu (k c:Nat) (m:aG) (G:Nat→Prop) (w:World) (h:bO X w k c m G):Calls prog 33 #[.pointer (some ⟨k,0,none⟩)] w fun e w'=>e=.returned (.bool m.lost)∧w=w':=by
 obtain ⟨s,F,rfl,h⟩:=h
 have c9:w.cell? ⟨k,9,none⟩=some (.bool m.lost):=by rw [← h.lost];exact cell_of h.raw 9
 clear h
 go_enter func33,ntmps33
 go_wp2
 go_ret
 exact ⟨rfl,rfl⟩
theorem u6 (k c:Nat) (m:aG) (G:Nat→Prop) (w:World) (h:bO X w k c m G):Calls prog 66 #[.pointer (some ⟨k,0,none⟩)] w fun e w' => ∃ z:Int,e=.returned (.int .i64 z)∧w=w':=by
 obtain ⟨s,F,rfl,h⟩:=h
 have c6:w.cell? ⟨k,6,none⟩=some (.int .i64 s.cl):=cell_of h.raw 6
 clear h
 go_enter func66,ntmps66
 go_wp2
 go_ret
 exact ⟨_,rfl,rfl⟩
theorem yt (w:World):Calls prog 66 #[.pointer none] w fun e w'=>e=.returned (.int .i64 0)∧w=w':=by
 go_enter func66,ntmps66
 go_wp2
 go_ret
 exact ⟨rfl,rfl⟩
def mQ (X:Nat→Prop) (er:Int) (k c:Nat) (m:aG) (G:Nat→Prop) (w:World) (e:Ending) (w':World):Prop:=e=.returned (.int .i64 er) ∧ ∃ G',bO X w' k c m G'∧Step G G' w w'
theorem GW (k c:Nat) (m:aG) (G:Nat→Prop) (n:Int) (w:World) (h:bO X w k c m G) (hn:0≤n):Calls prog 31 #[.pointer (some ⟨k,0,none⟩),.int .i64 n] w (mQ X 0 k c { m with left:=n } G w):=by
 obtain ⟨s,F,rfl,h⟩:=h
 have c8:w.cell? ⟨k,8,none⟩=some (.int .i64 s.left):=cell_of h.raw 8
 have f8:w.frozen? ⟨k,8,none⟩=false:=aF h.raw 8
 have t:Touch (aN k) w (w.setCell ⟨k,8,none⟩ (.int .i64 n)):=(Touch.refl _ _).set k 8 _ rfl
 have h1:=h.block (s':={ s with left:=n }) (m':={ m with left:=n }) (w':=w.setCell ⟨k,8,none⟩ (.int .i64 n)) (az (i:=8) (v:=.int .i64 n) h.raw) t rfl h.aD rfl h.lost rfl rfl rfl rfl rfl
 have HX:=zH (zA h1 (h.step t))
 have hn' : ¬ n<0:=by omega
 clear h h1 t
 go_enter func31,ntmps31
 go_wp2
 go_ret
 exact ⟨rfl,G,⟨{ s with left:=n },F,rfl,HX.out.1⟩,HX.out.2⟩
def KL (w:World) (e:Ending) (w':World):Prop := ∃ b,e=.returned (.pointer (some ⟨b,0,none⟩))∧Below w.heap.size w w'
theorem p8 (w:World):Calls prog 103 #[] w (KL w):=by
 go_enter func103,ntmps103
 go_wp2
 go_ret
 exact ⟨_,rfl,ae zR _⟩
def aG.new (m:ag):aG:=⟨m,false,-1,false⟩
end
section
open Go.RowKit
variable {X:Nat→Prop}
def IW (k:Nat) (s:mw) (w:World) (G:Nat→Prop) (w3:World):Prop := ∃ b,fE w3 k { s with lv:=.slice (some ⟨b,0,none⟩) 1 1 }∧Touch (aN k) w w3∧w.heap.size≤b∧eD w3 b 0 [bX] G
theorem Ho (w:World) (G:Nat→Prop) (hG : ∀ b,G b→b<w.heap.size):eD ((w.alloc (.cells (Array.replicate 4 (.int .i64 0)) 3)).alloc (.cells #[.int .i64 4,.slice (some ⟨w.heap.size,0,none⟩) 4 4,.int .i64 0,.int .i64 0] 281)) (w.heap.size+1) 0 [bX] G:=by
 have hb:((w.alloc (.cells (Array.replicate 4 (.int .i64 0)) 3)).alloc (.cells #[.int .i64 4,.slice (some ⟨w.heap.size,0,none⟩) 4 4,.int .i64 0,.int .i64 0] 281)).heap[w.heap.size+1]? = some (.cells #[.int .i64 4,.slice (some ⟨w.heap.size,0,none⟩) 4 4,.int .i64 0,.int .i64 0] 281):=by
  have:=af (w.alloc (.cells (Array.replicate 4 (.int .i64 0)) 3)) (.cells #[.int .i64 4,.slice (some ⟨w.heap.size,0,none⟩) 4 4,.int .i64 0,.int .i64 0] 281)
  simpa using this
 have hi:((w.alloc (.cells (Array.replicate 4 (.int .i64 0)) 3)).alloc (.cells #[.int .i64 4,.slice (some ⟨w.heap.size,0,none⟩) 4 4,.int .i64 0,.int .i64 0] 281)).heap[w.heap.size]? = some (.cells (Array.replicate 4 (.int .i64 0)) 3) :=
  aa (ae zR _) (af w _)
 refine ⟨fun _ hf=>by have:=hG _ hf;omega,fun i hi' => ?_⟩
 obtain rfl:i=0:=by simp at hi';omega
 refine ⟨some ⟨w.heap.size,0,none⟩,4,⟨cell_of hb 0,cell_of hb 1,cell_of hb 2,cell_of hb 3,?_⟩,fun b' o' e _ hf => ?_⟩
 ·
  intro j hj
  have hj4:j<4:=hj
  refine ⟨w.heap.size,0,rfl,?_⟩
  rw [cell_of hi]
  have:j=0∨j=1∨j=2∨j=3:=by omega
  rcases this with rfl | rfl | rfl | rfl <;> rfl
 ·
  obtain ⟨rfl,rfl⟩:w.heap.size=b'∧0=o':=by simpa using e
  exact Nat.lt_irrefl _ (hG _ hf)
theorem A3 (k bx:Nat) (s:mw) (G:Nat→Prop) (w:World) (h:fE w k s) (hb:w.cell? ⟨bx,0,none⟩=some (.pointer (some ⟨k,0,none⟩))) (hs0:s.o0=0) (hs1:s.o1=1) (hne:bx≠k) (hG : ∀ b,G b→b<w.heap.size) (hk:G k):Calls prog 186 #[.pointer (some ⟨bx,0,none⟩)] w (AH k 10 (IW k s w G)):=by
 have hmk : ∀ w,(Instr.makeSlice 22 (.int .i64 4) (.int .i64 4)).run prog w=.ok (.slice (some ⟨w.heap.size,0,none⟩) 4 4) (w.alloc (.cells (Array.replicate 4 (.int .i64 0)) 3)):=fun _=>by kernel_rfl
 have hr0:=Ho w G hG
 have hb2:Below w.heap.size w ((w.alloc (.cells (Array.replicate 4 (.int .i64 0)) 3)).alloc (.cells #[.int .i64 4,.slice (some ⟨w.heap.size,0,none⟩) 4 4,.int .i64 0,.int .i64 0] 281)):=ae (ae zR _) _
 have h2:fE _ k s:=aa hb2 h
 have x0:w.drew.cell? ⟨bx,0,none⟩=some (.pointer (some ⟨k,0,none⟩)):=hb
 have hxl:bx<w.heap.size:=zL w _ hb
 have x1:=(hb2.cell (p:=⟨bx,0,none⟩) hxl).trans hb
 have x1a:=((ae (Below.refl w.heap.size w) (.cells (Array.replicate 4 (.int .i64 0)) 3)).cell (p:=⟨bx,0,none⟩) hxl).trans hb
 have d13:((w.alloc (.cells (Array.replicate 4 (.int .i64 0)) 3)).alloc (.cells #[.int .i64 4,.slice (some ⟨w.heap.size,0,none⟩) 4 4,.int .i64 0,.int .i64 0] 281)).cell? ⟨k,13,none⟩=some s.lv:=cell_of h2 13
 have f13:((w.alloc (.cells (Array.replicate 4 (.int .i64 0)) 3)).alloc (.cells #[.int .i64 4,.slice (some ⟨w.heap.size,0,none⟩) 4 4,.int .i64 0,.int .i64 0] 281)).frozen? ⟨k,13,none⟩=false:=aF h2 13
 have HD:=zH (zA h2 (zA hs0 (zA hs1 (zA hr0 hb2))))
 clear h hb hs0 hs1 h2 hr0
 go_enter func186,ntmps186
 go_wp2_with fail
 refine wp_region_noPanic ?_
 refine wp_region_held_drew (S:=(fun w'=>w'.cell? ⟨bx,0,none⟩=some (.pointer (some ⟨k,0,none⟩)))) (by kernel_rfl) (by (try dsimp only);exact x0) fun hHeld => ?_
 refine tk 0 ?_
 refine tr 1 fun K hK => ?_
 go_simp
 refine hK.out _ _ (by (try dsimp only);exact x1a) fun hHeld => ?_
 clear hK K
 try simp only [Act.put,zS,zT,zU]
 refine tk 2 ?_
 refine tr 3 fun K hK => ?_
 go_simp
 refine hK.out _ _ (by (try dsimp only);exact x1) fun hHeld => ?_
 clear hK K
 try simp only [Act.put,zS,zT,zU]
 refine tk 4 ?_
 refine tk 5 ?_
 refine tr 6 fun K hK => ?_
 go_simp
 refine hK.out _ _ (by (try dsimp only);exact ((World.cell?_setCell_other _ _ _ _ (by intro e;have:=congrArg Addr.block e;simp at this;omega)).trans x1)) fun hHeld => ?_
 clear hK K
 try simp only [Act.put,zS,zT,zU]
 refine wpAnyH_done (by kernel_rfl) ?_ _
 refine NoPanic.normal ?_
 go_wp2_with fail
 go_end0
 obtain ⟨h2,hs0,hs1,hr0,hb2⟩:=HD.out
 generalize (w.alloc (.cells (Array.replicate 4 (.int .i64 0)) 3)).alloc (.cells #[.int .i64 4,.slice (some ⟨w.heap.size,0,none⟩) 4 4,.int .i64 0,.int .i64 0] 281)=w2 at *
 have hr:fE (w2.setCell ⟨k,13,none⟩ (.slice (some ⟨w.heap.size+1,0,none⟩) 1 1)) k { s with lv:=.slice (some ⟨w.heap.size+1,0,none⟩) 1 1 }:=az (i:=13) (v:=.slice (some ⟨w.heap.size+1,0,none⟩) 1 1) h2
 have t2:Touch (aN k) w2 (w2.setCell ⟨k,13,none⟩ (.slice (some ⟨w.heap.size+1,0,none⟩) 1 1)):=(Touch.refl _ _).set k 13 _ rfl
 have hp:=(hr0.step (Step.dD (t2.mono fun b e=>by rw [show b=k from e];exact hk))).step (Step.ah (au zR))
 refine ⟨rfl,⟨w.heap.size+1,hr,((Touch.ah hb2).trans t2).drew,by omega,hp⟩,(cell_of hr 10).trans (by simp [mw.row,hs0]),(cell_of hr 11).trans (by simp [mw.row,hs1]),aF hr 10,aF hr 11⟩
def Gx (X:Nat→Prop) (k c:Nat) (m:aG) (G:Nat→Prop) (w:World) (e:Ending) (w':World):Prop :=
 ∃ (b:Nat) (G':Nat→Prop),e=.returned (.slice (some ⟨b,0,none⟩) 1 1)∧bO X w' k c m G'∧Step G G' w w'∧eD w' b 0 [bX] G'
theorem yA (k c:Nat) (m:aG) (G:Nat→Prop) (w:World) (h:bO X w k c m G):Calls prog 157 #[.pointer (some ⟨k,0,none⟩)] w (Gx X k c m G w):=by
 have hmf : ∀ (fn:Fn) (first cap:Array Value) (w:World),(Instr.makeFunc fn first cap).run prog w=.ok (.func fn first cap) w:=fun _ _ _ _=>rfl
 have hb1:Below w.heap.size w (w.alloc (.cells #[.pointer (some ⟨k,0,none⟩)] 85)):=ae zR _
 obtain ⟨s,F,rfl,h0⟩:=h
 have hkl:k<w.heap.size:=h0.lt k h0.own
 have h1:=h0.aj hb1
 have p0:(w.alloc (.cells #[.pointer (some ⟨k,0,none⟩)] 85)).cell? ⟨w.heap.size,0,none⟩=some (.pointer (some ⟨k,0,none⟩)):=cell_of (af w _) 0
 have HB:=zH hb1
 clear h0 hb1
 generalize hW:w.alloc (.cells #[.pointer (some ⟨k,0,none⟩)] 85)=w1 at *
 have hXlt:=h1.leave.1
 rcases h1.leave.2 with ⟨o0,o1,o2⟩ | ⟨o0,o1,o2,b,o3,hph⟩
 ·
  have hr1:fE (w1.setCell ⟨k,11,none⟩ (.int .i32 1)) k { s with o1:=1 }:=az (i:=11) (v:=.int .i32 1) h1.raw
  have k0:(w1.setCell ⟨k,11,none⟩ (.int .i32 1)).cell? ⟨w.heap.size,0,none⟩=some (.pointer (some ⟨k,0,none⟩)):=by
   rw [World.cell?_setCell_other _ _ _ _ (by intro e;have:=congrArg Addr.block e;simp at this;omega)];exact p0
  have HD:=zH (Ca k 10 186 #[.pointer (some ⟨w.heap.size,0,none⟩)] (IW k { s with o1:=1 } (w1.setCell ⟨k,11,none⟩ (.int .i32 1)) (fun i=>G i∨X i)) w1 ((cell_of h1.raw 10).trans (by simp [mw.row,o0])) ((cell_of h1.raw 11).trans (by simp [mw.row,o1])) (aF h1.raw 10) (aF h1.raw 11) (fun _=>by kernel_rfl) (A3 k w.heap.size { s with o1:=1 } (fun i=>G i∨X i) _ hr1 k0 o0 rfl (by omega) (fun b hb=>by rw [World.size_setCell];exact hb.elim (h1.lt b) (hXlt b)) (.inl h1.own)))
  have t1:Touch (aN k) w1 (w1.setCell ⟨k,11,none⟩ (.int .i32 1)):=(Touch.refl _ _).set k 11 _ rfl
  have HH:=zH (zA h1 (zA t1 o2))
  clear h1 hr1 k0 o0 o1 o2 t1
  go_enter func157,ntmps157
  go_wp2_with fail
  try rw [hW]
  refine HD.out.mono ?_
  rintro e w2 ⟨rfl,w3,⟨b,q,tq,hbs,hph⟩,rfl⟩
  obtain ⟨h1,t1,o2⟩:=HH.out
  have q2:fE ((w3.drew.setCell ⟨k,10,none⟩ (.int .u32 1)).setCell ⟨k,11,none⟩ (.int .i32 0)) k { s with o0:=1,o1:=0,lv:=.slice (some ⟨b,0,none⟩) 1 1 } :=
   az (i:=11) (v:=.int .i32 0) (az (i:=10) (v:=.int .u32 1) (show fE w3.drew k _ from q))
  have t3:Touch (aN k) w3 ((w3.drew.setCell ⟨k,10,none⟩ (.int .u32 1)).setCell ⟨k,11,none⟩ (.int .i32 0)):=(((Touch.refl (aN k) w3).drew).set k 10 _ rfl).set k 11 _ rfl
  have t2:Touch (aN k) w1 ((w3.drew.setCell ⟨k,10,none⟩ (.int .u32 1)).setCell ⟨k,11,none⟩ (.int .i32 0)):=(t1.trans tq).trans t3
  have hG : ∀ b,aN k b→G b:=fun b e=>by rw [show b=k from e];exact h1.own
  have hph2:=hph.step (Step.dD (t3.mono fun b e=>.inl (hG b e)))
  have px:((w3.drew.setCell ⟨k,10,none⟩ (.int .u32 1)).setCell ⟨k,11,none⟩ (.int .i32 0)).cell? ⟨w.heap.size,0,none⟩=some (.pointer (some ⟨k,0,none⟩)):=t2.cell _ _ p0 (fun e=>by have:w.heap.size=k:=e;omega)
  have h2:kP X ((w3.drew.setCell ⟨k,10,none⟩ (.int .u32 1)).setCell ⟨k,11,none⟩ (.int .i32 0)) k { s with o0:=1,o1:=0,lv:=.slice (some ⟨b,0,none⟩) 1 1 } m F G :=
   ⟨q2,h1.aD,h1.left,h1.lost,h1.ar.fA t2 (fun b hb e=>h1.fA (by rw [← show b=k from e];exact hb)) (fun hl e=>h1.home hl (by rw [show m.ar.home=k from e];exact h1.own)),⟨fun i hi=>zV (hXlt i hi) t2.size,.inr ⟨rfl,rfl,o2,b,rfl,hph2⟩⟩,h1.fA,h1.sub,h1.own,h1.home,fun b hb=>zV (h1.lt b hb) t2.size⟩
  have st:=(Step.ah (F:=G) HB.out).trans (Step.dD (t2.mono hG))
  have c13:=cell_of q2 13
  have HF:=zH (zA h2 (zA st (hph2.sub fun _ h=>.inl h)))
  generalize (w3.drew.setCell ⟨k,10,none⟩ (.int .u32 1)).setCell ⟨k,11,none⟩ (.int .i32 0)=w4 at *
  replace c13:w4.cell? ⟨k,13,none⟩=some (.slice (some ⟨b,0,none⟩) 1 1):=c13
  clear q tq q2 t2 h2 t3 st h1 t1 HD HH hph hph2 hG hbs
  go_wp2
  go_ret
  exact ⟨b,G,rfl,⟨{ s with o0:=1,o1:=0,lv:=.slice (some ⟨b,0,none⟩) 1 1 },F,rfl,HF.out.1⟩,HF.out.2⟩
 ·
  have HD:=zH (fun fv=>FK ⟨k,10,none⟩ 1 (by decide) fv w1 ((cell_of h1.raw 10).trans (by simp [mw.row,o0])))
  have c13:w1.cell? ⟨k,13,none⟩=some (.slice (some ⟨b,0,none⟩) 1 1):=by rw [← o3];exact cell_of h1.raw 13
  have HF:=zH (zA h1 (zA (Step.ah (F:=G) HB.out) (hph.sub fun _ h=>.inl h)))
  clear h1 o0 o1 o2 o3 hph
  go_enter func157,ntmps157
  go_wp2_with fail
  try rw [hW]
  refine (HD.out _).mono ?_
  rintro e w2 ⟨rfl,rfl⟩
  go_wp2
  go_ret
  exact ⟨b,G,rfl,⟨_,F,rfl,HF.out.1⟩,HF.out.2⟩
end
section
open Go.RowKit
variable {X:Nat→Prop}
structure ag.Good (m:ag):Prop where
 ok:m.Ok
 busy : ∀ x ∈ m.busy,1≤x∧x≤400
theorem uJ {m:ag} (h:m.Good) (j:iC) (hj:vQ j):(m.dN j).Good:=by
 unfold ag.dN
 split
 ·
  exact h
 ·
  split
  ·
   exact ⟨⟨h.ok.size,h.ok.aZ,h.ok.fU,h.ok.gE,h.ok.op,h.ok.data⟩,h.busy⟩
  ·
   refine ⟨⟨h.ok.size,fun x hx => ?_,h.ok.fU,h.ok.gE,h.ok.op,h.ok.data⟩,fun x hx=>h.busy x (List.mem_of_mem_drop hx)⟩
   obtain rfl:({ j with left:=m.busy.headD 8 }:iC)=x:=by simpa using hx
   have hb:1≤m.busy.headD 8∧m.busy.headD 8≤400:=by
    cases hm:m.busy with
    | nil=>exact ⟨by decide,by decide⟩
    | cons y r=>exact h.busy y (by rw [hm];simp)
   exact ⟨hj,by show 1≤m.busy.headD 8;omega,by show m.busy.headD 8≤4096;omega⟩
theorem GZ {m:ag} (h:m.Good):m.gl.Good:=by
 have o:=h.ok
 unfold ag.gl
 split
 ·
  exact ⟨⟨o.size,o.aZ,o.fU,o.gE,o.op,o.data⟩,h.busy⟩
 split
 ·
  exact ⟨⟨o.size,o.aZ,o.fU,o.gE,o.op,o.data⟩,h.busy⟩
 split
 ·
  unfold ag.bN
  split
  ·
   rename_i j hj
   split
   ·
    exact h
   ·
    refine ⟨⟨o.size,fun x hx => ?_,o.fU,o.gE,o.op,o.data⟩,h.busy⟩
    obtain rfl:({ j with ia:=true }:iC)=x:=by simpa using hx
    exact o.aZ j hj
  ·
   exact h
 split
 ·
  unfold ag.gM
  split
  ·
   rename_i j hj
   refine ⟨⟨o.size,fun x hx => ?_,o.fU,o.gE,o.op,o.data⟩,h.busy⟩
   obtain rfl:({ j with ia:=false }:iC)=x:=by simpa using hx
   exact o.aZ j hj
  ·
   exact h
 split
 ·
  unfold ag.dB
  split
  ·
   exact ⟨⟨o.size,o.aZ,o.fU,o.gE,o.op,o.data⟩,h.busy⟩
  ·
   exact h
 split
 ·
  unfold ag.js
  split
  ·
   refine uJ h _ (.inl ⟨rfl,(m.addr - m.addr % 32).toNat,?_,?_,oT _ _⟩)
   ·
    have:=o.fU;show m.addr - m.addr % 32=_;omega
   ·
    have:=o.fU;have:=o.gE;omega
  ·
   exact h
 split
 ·
  unfold ag.erases
  refine uJ h _ (.inr ⟨(m.addr / 512).toNat,?_,?_⟩)
  ·
   have:=o.fU;show m.addr / 512=_;omega
  ·
   have:=o.fU;have:=o.gE;omega
 split
 ·
  exact ⟨⟨o.size,o.aZ,o.fU,o.gE,o.op,o.data⟩,h.busy⟩
 ·
  exact h
theorem Hb {m:ag} (h:m.Good):m.ends.Good:=by
 unfold ag.ends
 split
 ·
  exact h
 ·
  exact GZ h
theorem yw {m:ag} (h:m.Good):m.fu.Good:=Hb ⟨DD h.ok,h.busy⟩
theorem uK (m:ag) (j:iC):(m.dN j).dP=m.dP∧(m.dN j).home=m.home∧((m.dN j).busy=m.busy∨(m.dN j).busy=m.busy.drop 1):=by
 unfold ag.dN
 split
 ·
  exact ⟨rfl,rfl,.inl rfl⟩
 ·
  split
  ·
   exact ⟨rfl,rfl,.inl rfl⟩
  ·
   exact ⟨rfl,rfl,.inr rfl⟩
theorem G8 (m:ag):m.gl.dP=m.dP∧m.gl.home=m.home∧(m.gl.busy=m.busy∨m.gl.busy=m.busy.drop 1):=by
 unfold ag.gl
 split
 ·
  exact ⟨rfl,rfl,.inl rfl⟩
 split
 ·
  exact ⟨rfl,rfl,.inl rfl⟩
 split
 ·
  unfold ag.bN
  split
  ·
   split <;> exact ⟨rfl,rfl,.inl rfl⟩
  ·
   exact ⟨rfl,rfl,.inl rfl⟩
 split
 ·
  unfold ag.gM
  split <;> exact ⟨rfl,rfl,.inl rfl⟩
 split
 ·
  unfold ag.dB
  split <;> exact ⟨rfl,rfl,.inl rfl⟩
 split
 ·
  unfold ag.js
  split
  ·
   exact uK _ _
  ·
   exact ⟨rfl,rfl,.inl rfl⟩
 split
 ·
  exact uK _ _
 split <;> exact ⟨rfl,rfl,.inl rfl⟩
theorem l7 (m:ag):m.fu.dP=false∧m.fu.home=m.home∧(m.fu.busy=m.busy∨m.fu.busy=m.busy.drop 1):=by
 unfold ag.fu ag.ends
 split
 ·
  exact ⟨rfl,rfl,.inl rfl⟩
 ·
  exact G8 m.uS
theorem sn (P:ag→Prop) (hP : ∀ m x,P m→P (m.clock x).2) : ∀ (xs:List Int) (d:aI),P d.ar→P (aI.row xs d).2.ar
 | [],d,h=>h
 | x::r,d,h=>by
  unfold aI.row
  split
  ·
   exact h
  ·
   exact sn P hP r (d.tick x) (hP _ _ h)
theorem Ct (P:ag→Prop) (hP : ∀ m x,P m→P (m.clock x).2) (L:Int) : ∀ (k:Nat) (xs:List Int) (d:aI),P d.ar→P (aI.il L k xs d).2.2.ar
 | 0,xs,d,h=>h
 | k+1,xs,d,h=>by
  unfold aI.il
  split
  ·
   exact h
  ·
   exact Ct P hP L k _ (d.tick 15) (hP _ _ h)
theorem FQ (P:ag→Prop) (hP : ∀ m x,P m→P (m.clock x).2) (L:Int) (d:aI) (h:P d.ar):P (aI.get L d).2.ar:=by
 have h:=Ct P hP L (many L).toNat [] d h
 unfold aI.get aI.cM
 split <;> exact h
theorem rW (P:ag→Prop) (hP : ∀ m x,P m→P (m.clock x).2) (L:Int) : ∀ (bs:List Int) (d:aI),P d.ar→P (aI.dB L bs d).2.ar
 | [],d,h=>h
 | b::r,d,h=>by
  unfold aI.dB
  split
  ·
   exact rW P hP L r _ (sn P hP _ _ h)
  ·
   exact sn P hP _ _ h
theorem Cm (P:ag→Prop) (hP : ∀ m x,P m→P (m.clock x).2) (L:Int) : ∀ (k:Nat) (d:aI),P d.ar→P (aI.fW L k d).2.ar
 | 0,d,h=>h
 | k+1,d,h=>by
  unfold aI.fW
  split
  ·
   exact Cm P hP L k _ (FQ P hP L d h)
  ·
   exact FQ P hP L d h
theorem Af (P:ag→Prop) (hP : ∀ m x,P m→P (m.clock x).2) (p:Ph) (d:aI) (h:P d.ar):P (aI.phase p d).2.ar:=by
 unfold aI.phase andThen
 dsimp only
 split
 ·
  split
  ·
   exact Cm P hP _ _ _ (sn P hP _ _ (rW P hP _ _ _ h))
  ·
   exact sn P hP _ _ (rW P hP _ _ _ h)
 ·
  exact rW P hP _ _ _ h
theorem qJ (P:ag→Prop) (hP : ∀ m x,P m→P (m.clock x).2) : ∀ (ps:List Ph) (d:aI),P d.ar→P (aI.eQ ps d).2.ar
 | [],d,h=>h
 | p::r,d,h=>by
  unfold aI.eQ andThen
  split
  ·
   exact qJ P hP r _ (Af P hP p d h)
  ·
   exact Af P hP p d h
theorem Dh (m:ag):m.select.busy=m.busy∧m.select.home=m.home:=by
 unfold ag.select
 split
 ·
  exact ⟨(mX _ _).2.1,ou _ _⟩
 ·
  exact ⟨rfl,rfl⟩
theorem ua (m:ag) (ps:List Ph) (bh:Int):(ig m ps bh).2.ar.busy=m.busy∧(ig m ps bh).2.ar.home=m.home :=
 qJ (fun c=>c.busy=m.busy∧c.home=m.home) (fun c x h=>⟨(fp c x).1.trans h.1,(fp c x).2.trans h.2⟩) ps (aI.new m bh) (Dh m)
theorem xy : ∀ (ps:List Ph) (ok : ∀ i,i<ps.length→mT (ps.getD i Ph.none)) (d:aI) (k:Nat),d.Fit (eT * ps.length+k)→(aI.eQ ps d).2.Fit k
 | [],ok,d,k,h=>by simpa [aI.eQ] using h
 | p::r,ok,d,k,h=>by
  have h1:=Ae p (ok 0 (by simp)) d (eT * r.length+k) (cz h (by simp [Nat.mul_add];omega))
  unfold aI.eQ andThen
  split
  ·
   exact xy r (fun i hi=>ok (i+1) (by simp;omega)) _ k h1
  ·
   exact cz h1 (by omega)
theorem ub {m:ag} (h:m.Good) (ps:List Ph) (ok : ∀ i,i<ps.length→mT (ps.getD i Ph.none)) (hl:ps.length≤100) (bh:Int):(cg (ig m ps bh)).Good∧(ig m ps bh).2.n<1099511627776:=by
 have hf:=xy ps ok (aI.new m bh) 0 ⟨xS h.ok 0,by show 0+(eT * ps.length+0)<_;unfold eT;omega⟩
 have hb:=ua m ps bh
 have hg:(ig m ps bh).2.ar.Good:=⟨hf.ar.base.ok,fun x hx=>h.busy x (by rw [← hb.1];exact hx)⟩
 refine ⟨?_,by have h:=hf.KI;have e:(ig m ps bh).2.n+0<1099511627776:=h;omega⟩
 unfold cg
 split
 ·
  exact yw hg
 ·
  exact hg
theorem uc (m:ag) (ps:List Ph) (bh:Int):(cg (ig m ps bh)).home=m.home∧((cg (ig m ps bh)).busy=m.busy∨(cg (ig m ps bh)).busy=m.busy.drop 1):=by
 have hb:=ua m ps bh
 unfold cg
 split
 ·
  obtain ⟨_,h1,h2⟩:=l7 (ig m ps bh).2.ar
  rw [hb.2] at h1
  rw [hb.1] at h2
  exact ⟨h1,h2⟩
 ·
  exact ⟨hb.2,.inl hb.1⟩
structure aG.Ok (m:aG):Prop where
 ck:m.ar.Good
 dP:m.lost=false→m.ar.dP=false
 kv : -1≤m.left
 ll:m.left≤1099511627776
def aG.r (m:aG) (ps:List Ph):Bool×aI:=ig m.ar ps m.left
def aG.cL (m:aG) (ps:List Ph):aG:={ ar:=cg (m.r ps),aD:=m.aD,left:=if 0≤m.left then m.left - ((m.r ps).2.n:Int) else m.left,lost:=m.lost || !(m.r ps).1 }
def aG.gm (m:aG) (ps:List Ph):List Int:=if (m.r ps).1=true then (m.r ps).2.out else []
def aG.iP (m:aG) (ps:List Ph):Int:=if (m.r ps).1=true then 0 else 1101
theorem xN : ∀ (xs:List Int) (d:aI),(aI.row xs d).2.bh=d.bh∧(0≤d.bh→(d.n:Int)≤d.bh→((aI.row xs d).2.n:Int)≤d.bh)
 | [],d=>⟨rfl,fun _ h=>h⟩
 | x::r,d=>by
  unfold aI.row
  split
  ·
   exact ⟨rfl,fun _ h=>h⟩
  ·
   rename_i hs
   obtain ⟨h1,h2⟩:=xN r (d.tick x)
   refine ⟨h1,fun h0 hn=>h2 h0 ?_⟩
   unfold aI.stop at hs
   simp at hs
   have:=hs h0
   show ((d.n+1:Nat):Int)≤d.bh
   omega
theorem zC (L:Int) : ∀ (k:Nat) (xs:List Int) (d:aI),(aI.il L k xs d).2.2.bh=d.bh∧(0≤d.bh→(d.n:Int)≤d.bh→((aI.il L k xs d).2.2.n:Int)≤d.bh)
 | 0,xs,d=>⟨rfl,fun _ h=>h⟩
 | k+1,xs,d=>by
  unfold aI.il
  split
  ·
   exact ⟨rfl,fun _ h=>h⟩
  ·
   rename_i hs
   obtain ⟨h1,h2⟩:=zC L k (xs++[heard L (d.said 15)]) (d.tick 15)
   refine ⟨h1,fun h0 hn=>h2 h0 ?_⟩
   unfold aI.stop at hs
   simp at hs
   have:=hs h0
   show ((d.n+1:Nat):Int)≤d.bh
   omega
def Kept (d e:aI):Prop:=e.bh=d.bh∧(0≤d.bh→(d.n:Int)≤d.bh→(e.n:Int)≤d.bh)
theorem Kept.trans {a b c:aI} (h:Kept a b) (k:Kept b c):Kept a c:=⟨k.1.trans h.1,fun h0 hn=>by have:=k.2 (by rw [h.1];exact h0) (by rw [h.1];exact h.2 h0 hn);rw [h.1] at this;exact this⟩
theorem Kept.refl (d:aI):Kept d d:=⟨rfl,fun _ h=>h⟩
theorem Ck (L:Int) (d:aI):Kept d (aI.get L d).2:=by
 have h:=zC L (many L).toNat [] d
 unfold aI.get aI.cM
 split <;> exact h
theorem Al (L:Int) : ∀ (bs:List Int) (d:aI),Kept d (aI.dB L bs d).2
 | [],d=>Kept.refl d
 | b::r,d=>by
  have h:Kept d (aI.put b L d).2:=xN _ d
  unfold aI.dB
  split
  ·
   exact h.trans (Al L r _)
  ·
   exact h
theorem zy (L:Int) : ∀ (k:Nat) (d:aI),Kept d (aI.fW L k d).2
 | 0,d=>Kept.refl d
 | k+1,d=>by
  unfold aI.fW
  split
  ·
   exact (Ck L d).trans (zy L k _)
  ·
   exact Ck L d
theorem xw (p:Ph) (d:aI):Kept d (aI.phase p d).2:=by
 have h1:=Al p.bW p.bytes d
 unfold aI.phase andThen
 dsimp only
 split
 ·
  have h2:Kept _ (aI.row (List.replicate p.eN.toNat 15) (aI.dB p.bW p.bytes d).2).2:=xN _ _
  split
  ·
   exact (h1.trans h2).trans (zy _ _ _)
  ·
   exact h1.trans h2
 ·
  exact h1
theorem oU : ∀ (ps:List Ph) (d:aI),Kept d (aI.eQ ps d).2
 | [],d=>Kept.refl d
 | p::r,d=>by
  unfold aI.eQ andThen
  split
  ·
   exact (xw p d).trans (oU r _)
  ·
   exact xw p d
theorem aG.Ok.cL {m:aG} (h:m.Ok) (hl:m.lost=false) (ps:List Ph) (ok : ∀ i,i<ps.length→mT (ps.getD i Ph.none)) (hn:ps.length≤100):(m.cL ps).Ok:=by
 obtain ⟨h1,h2⟩:=ub h.ck ps ok hn m.left
 have hk:Kept (aI.new m.ar m.left) (m.r ps).2:=oU ps (aI.new m.ar m.left)
 have a:=h.kv
 have b:=h.ll
 refine ⟨h1,fun he => ?_,?_,?_⟩
 ·
  have he':(m.lost || !(m.r ps).1)=false:=he
  have:(m.r ps).1=true:=by rw [hl] at he';simpa using he'
  show (cg (m.r ps)).dP=false
  unfold cg
  rw [if_pos this]
  exact (l7 _).1
 ·
  show -1≤if 0≤m.left then m.left - ((m.r ps).2.n:Int) else m.left
  split
  ·
   rename_i h0
   have:=hk.2 h0 h0
   have e:((m.r ps).2.n:Int)≤m.left:=this
   omega
  ·
   exact a
 ·
  show (if 0≤m.left then m.left - ((m.r ps).2.n:Int) else m.left)≤_
  split <;> omega
def mU (X:Nat→Prop) (xs:List Int) (er:Int) (k c:Nat) (m:aG) (G:Nat→Prop) (w:World) (e:Ending) (w':World):Prop :=
 ∃ (a:Option Addr) (cp:Nat) (G':Nat→Prop),e=.returned (.tuple #[.slice a xs.length cp,.int .i64 er])∧bO X w' k c m G'∧aL w' a xs G'∧Step G G' w w'
theorem ie (k c b o cap:Nat) (m:aG) (G:Nat→Prop) (ps:List Ph) (w:World) (h:bO X w k c m G) (ok:m.Ok) (hlost:m.lost=false) (hph:eD w b o ps G) (hps : ∀ i,i<ps.length→mT (ps.getD i Ph.none)) (hl:ps.length≤100):Calls prog 156 #[.pointer (some ⟨k,0,none⟩),.slice (some ⟨b,o,none⟩) ps.length cap] w (mU X (m.gm ps) (m.iP ps) k c (m.cL ps) G w):=by
 obtain ⟨s,F,rfl,h0⟩:=h
 have h:=h0.aj (au (Below.refl w.heap.size w))
 have hph1:=hph.step (Step.ah (F:=G) (au (Below.refl w.heap.size w)))
 have c0:w.drew.cell? ⟨k,0,none⟩=some (.pointer (some ⟨s.c,0,none⟩)):=cell_of h.raw 0
 have c8:w.drew.cell? ⟨k,8,none⟩=some (.int .i64 m.left):=by rw [← h.left];exact cell_of h.raw 8
 have HD:=zH (Cb s.c b o cap m.ar F ps m.left w.drew h.ar ok.ck.ok (ok.dP hlost) (hph1.sub h.sub) hps hl)
 have HH:=zH h
 have HL:=zH hlost
 have HK:=zH (zA ok.kv ok.ll)
 have HN:=zH (ub ok.ck ps hps hl m.left).2
 have HHM:=zH (uc m.ar ps m.left)
 have hkm:0≤m.left→((m.r ps).2.n:Int)≤m.left:=fun h0'=>(oU ps (aI.new m.ar m.left)).2 h0' h0'
 have HKM:=zH hkm
 have HR:=zH (show m.cL ps={ ar:=cg (m.r ps),aD:=m.aD,left:=if 0≤m.left then m.left - ((m.r ps).2.n:Int) else m.left,lost:=m.lost || !(m.r ps).1 }∧m.gm ps=(if (m.r ps).1=true then (m.r ps).2.out else [])∧m.iP ps=(if (m.r ps).1=true then 0 else 1101) from ⟨rfl,rfl,rfl⟩)
 have hrr:ig m.ar ps m.left=m.r ps:=rfl
 rw [hrr] at HD HN HHM
 clear h0 h ok hlost hph hph1 hps hl hkm hrr
 generalize m.r ps=r at *
 generalize m.cL ps=mm at *
 generalize m.gm ps=xx at *
 generalize m.iP ps=ee at *
 obtain ⟨whole,d⟩:=r
 simp only at HD HN HHM HKM HR
 go_enter func156,ntmps156
 go_wp2_with fail
 refine wp_region_noPanic ?_
 refine wp_region_held_drew (S:=(fun w'=>w'.cell? ⟨k,0,none⟩=some (.pointer (some ⟨s.c,0,none⟩))∧w'.cell? ⟨k,8,none⟩=some (.int .i64 m.left))) (by kernel_rfl) (by (try dsimp only);exact ⟨c0,c8⟩) fun hHeld => ?_
 refine tk 0 ?_
 refine tk 1 ?_
 refine tk 2 ?_
 refine tk 3 ?_
 refine tk 4 ?_
 refine tk 5 ?_
 refine tk 6 ?_
 refine tk 7 ?_
 refine tk 8 ?_
 refine tr 9 fun K hK => ?_
 go_simp
 go_at_call 184
 refine HD.out.mono ?_
 rintro e w2 ⟨a,cp,F',rfl,hc,hs,st,hnew⟩
 simp only at hc hs
 have hr2:fE w2 k s:=st.aH.at HH.out.raw HH.out.fA
 have hkl:k<w.drew.heap.size:=aO HH.out.raw
 obtain ⟨m2,hm2⟩ : ∃ m2:aG,m2={ m with ar:=cg (whole,d) }:=⟨_,rfl⟩
 have hC:kP X w2 k s m2 F' (fun b=>F' b∨G b):=by
  have h:=HH.out
  rw [hm2]
  refine ⟨hr2,h.aD,h.left,h.lost,hc,?_,fun hf=>st.safe hkl h.fA hf,fun b hb=>.inl hb,.inr h.own,fun hl hf => ?_,fun b hb => ?_⟩
  ·
   have st':Step G (fun b=>F' b∨G b) w.drew w2:=⟨st.aH.mono h.sub,fun b hb=>hb.elim (fun hb=>(st.gP b hb).elim (fun x=>.inl (h.sub b x)) .inr) .inl⟩
   exact h.leave.step st'
  ·
   obtain ⟨q1,q2⟩:=HHM.out
   have hl2:0<m.ar.busy.length:=by
    have hl':0<(cg (whole,d)).busy.length:=hl
    rcases q2 with q2 | q2
    ·
     rw [q2] at hl';exact hl'
    ·
     rw [q2] at hl';simp at hl';omega
   obtain ⟨q3,q4⟩:=h.ar.home hl2
   have hf':F' m.ar.home∨G m.ar.home:=by
    have hf2:F' (cg (whole,d)).home∨G (cg (whole,d)).home:=hf
    rw [q1] at hf2;exact hf2
   rcases hf' with hf' | hf'
   ·
    exact st.safe q3 q4 hf'
   ·
    exact h.home hl2 hf'
  ·
   rcases hb with hb | hb
   ·
    exact hc.lt b hb
   ·
    exact zV (h.lt b hb) st.aH.size
 have hsafe:aL w2 a d.out (fun b=>F' b∨G b):=⟨hs.1,fun b o e hl hf=>by
  rcases hf with hf | hf
  ·
   exact hs.2 b o e hl hf
  ·
   have:=hnew b o e;have:=HH.out.lt b hf;omega⟩
 have st2:Step G (fun b=>F' b∨G b) w w2:=(Step.ah (au zR)).trans ⟨st.aH.mono HH.out.sub,fun b hb=>hb.elim (fun hb=>(st.gP b hb).elim (fun x=>.inl (HH.out.sub b x)) .inr) .inl⟩
 have HX:=zH (zA hC (zA hsafe st2))
 have HM2:=zH hm2
 have d0:w2.cell? ⟨k,0,none⟩=some (.pointer (some ⟨s.c,0,none⟩)):=cell_of hr2 0
 have d8:w2.cell? ⟨k,8,none⟩=some (.int .i64 m.left):=by rw [← HH.out.left];exact cell_of hr2 8
 clear hc hs st hnew hr2 hC hsafe st2 hm2
 go_wp2_with fail
 refine hK.out _ _ (by (try dsimp only);exact ⟨d0,d8⟩) fun hHeld => ?_
 clear hK K
 try simp only [Act.put,zS,zT,zU]
 refine tk 10 ?_
 refine tk 11 ?_
 refine tk 12 ?_
 refine tk 13 ?_
 refine tk 14 ?_
 refine tk 15 ?_
 refine tk 16 ?_
 refine tk 17 ?_
 refine tk 18 ?_
 refine wpAnyH_done (by kernel_rfl) ?_ _
 refine NoPanic.normal ?_
 have hr2:fE w2 k s:=HX.out.1.raw
 have d6:w2.cell? ⟨k,6,none⟩=some (.int .i64 s.cl):=cell_of hr2 6
 have f6:w2.frozen? ⟨k,6,none⟩=false:=aF hr2 6
 obtain ⟨z,hz⟩ : ∃ z:Int,wrap64 (s.cl+(d.n:Int))=z:=⟨_,rfl⟩
 have hr3:fE (w2.setCell ⟨k,6,none⟩ (.int .i64 z)) k { s with cl:=z }:=az (i:=6) (v:=.int .i64 z) hr2
 have t3:Touch (aN k) w2 (w2.setCell ⟨k,6,none⟩ (.int .i64 z)):=(Touch.refl _ _).set k 6 _ rfl
 have h3:=HX.out.1.block hr3 t3 rfl HX.out.1.aD HX.out.1.left HX.out.1.lost rfl rfl rfl rfl rfl
 have st3:=HX.out.2.2.trans (HX.out.1.step t3)
 have hs3:=HX.out.2.1.step (HX.out.1.step t3)
 have H3:=zH (zA h3 (zA hs3 st3))
 have e8:(w2.setCell ⟨k,6,none⟩ (.int .i64 z)).cell? ⟨k,8,none⟩=some (.int .i64 m.left):=by rw [← HH.out.left];exact cell_of hr3 8
 have g8:(w2.setCell ⟨k,6,none⟩ (.int .i64 z)).frozen? ⟨k,8,none⟩=false:=aF hr3 8
 have g9:(w2.setCell ⟨k,6,none⟩ (.int .i64 z)).frozen? ⟨k,9,none⟩=false:=aF hr3 9
 have e9:(w2.setCell ⟨k,6,none⟩ (.int .i64 z)).cell? ⟨k,9,none⟩=some (.bool s.lost):=cell_of hr3 9
 clear hr2 hr3 t3 h3 st3 hs3
 obtain ⟨k0,k1⟩:=HK.out
 by_cases hl0:0≤m.left
 ·
  have hkn:=HKM.out hl0
  have r4:fE ((w2.setCell ⟨k,6,none⟩ (.int .i64 z)).setCell ⟨k,8,none⟩ (.int .i64 (m.left - (d.n:Int)))) k { s with cl:=z,left:=m.left - (d.n:Int) }:=az (i:=8) (v:=.int .i64 (m.left - (d.n:Int))) H3.out.1.raw
  have t4:Touch (aN k) (w2.setCell ⟨k,6,none⟩ (.int .i64 z)) ((w2.setCell ⟨k,6,none⟩ (.int .i64 z)).setCell ⟨k,8,none⟩ (.int .i64 (m.left - (d.n:Int)))):=(Touch.refl _ _).set k 8 _ rfl
  have h4:=H3.out.1.block (m':={ m2 with left:=m.left - (d.n:Int) }) r4 t4 rfl H3.out.1.aD rfl H3.out.1.lost rfl rfl rfl rfl rfl
  have H4:=zH (zA h4 (zA (H3.out.2.1.step (H3.out.1.step t4)) (H3.out.2.2.trans (H3.out.1.step t4))))
  have x9:((w2.setCell ⟨k,6,none⟩ (.int .i64 z)).setCell ⟨k,8,none⟩ (.int .i64 (m.left - (d.n:Int)))).cell? ⟨k,9,none⟩=some (.bool s.lost):=cell_of r4 9
  have y9:((w2.setCell ⟨k,6,none⟩ (.int .i64 z)).setCell ⟨k,8,none⟩ (.int .i64 (m.left - (d.n:Int)))).frozen? ⟨k,9,none⟩=false:=aF r4 9
  have E:=zH (show (if 0≤m.left then m.left - (d.n:Int) else m.left)=m.left - (d.n:Int) from if_pos hl0)
  have hnn:0≤(d.n:Int):=by omega
  clear r4 t4 h4
  cases whole with
  | true =>
   have HE:=zH (show { m2 with left:=m.left - (d.n:Int) }={ ar:=cg (true,d),aD:=m.aD,left:=m.left - (d.n:Int),lost:=m.lost || !true } by rw [HM2.out,HL.out];rfl)
   go_wp2
   go_ret2
   obtain ⟨q1,q2,q3⟩:=HR.out
   rw [q1,q2,q3,E.out,← HE.out]
   exact ⟨a,cp,_,rfl,⟨{ s with cl:=z,left:=m.left - (d.n:Int) },F',rfl,H4.out.1⟩,H4.out.2.1,H4.out.2.2⟩
  | false =>
   have r5:fE (((w2.setCell ⟨k,6,none⟩ (.int .i64 z)).setCell ⟨k,8,none⟩ (.int .i64 (m.left - (d.n:Int)))).setCell ⟨k,9,none⟩ (.bool true)) k { { s with cl:=z,left:=m.left - (d.n:Int) } with lost:=true }:=az (i:=9) (v:=.bool true) H4.out.1.raw
   have t5:Touch (aN k) ((w2.setCell ⟨k,6,none⟩ (.int .i64 z)).setCell ⟨k,8,none⟩ (.int .i64 (m.left - (d.n:Int)))) (((w2.setCell ⟨k,6,none⟩ (.int .i64 z)).setCell ⟨k,8,none⟩ (.int .i64 (m.left - (d.n:Int)))).setCell ⟨k,9,none⟩ (.bool true)):=(Touch.refl _ _).set k 9 _ rfl
   have h5:=H4.out.1.block (m':={ { m2 with left:=m.left - (d.n:Int) } with lost:=true }) r5 t5 rfl H4.out.1.aD H4.out.1.left rfl rfl rfl rfl rfl rfl
   have H5:=zH (zA h5 (H4.out.2.2.trans (H4.out.1.step t5)))
   have HE:=zH (show { { m2 with left:=m.left - (d.n:Int) } with lost:=true }={ ar:=cg (false,d),aD:=m.aD,left:=m.left - (d.n:Int),lost:=m.lost || !false } by rw [HM2.out,HL.out];rfl)
   clear r5 t5 h5
   go_wp2
   go_ret2
   obtain ⟨q1,q2,q3⟩:=HR.out
   rw [q1,q2,q3,E.out,← HE.out]
   exact ⟨none,0,_,rfl,⟨{ { s with cl:=z,left:=m.left - (d.n:Int) } with lost:=true },F',rfl,H5.out.1⟩,⟨aP.nil _ _,fun _ _ e=>by cases e⟩,H5.out.2⟩
 ·
  have E:=zH (show (if 0≤m.left then m.left - (d.n:Int) else m.left)=m.left from if_neg hl0)
  cases whole with
  | true =>
   have HE:=zH (show m2={ ar:=cg (true,d),aD:=m.aD,left:=m.left,lost:=m.lost || !true } by rw [HM2.out,HL.out];rfl)
   go_wp2
   go_ret2
   obtain ⟨q1,q2,q3⟩:=HR.out
   rw [q1,q2,q3,E.out,← HE.out]
   exact ⟨a,cp,_,rfl,⟨{ s with cl:=z },F',rfl,H3.out.1⟩,H3.out.2.1,H3.out.2.2⟩
  | false =>
   have r5:fE ((w2.setCell ⟨k,6,none⟩ (.int .i64 z)).setCell ⟨k,9,none⟩ (.bool true)) k { { s with cl:=z } with lost:=true }:=az (i:=9) (v:=.bool true) H3.out.1.raw
   have t5:Touch (aN k) (w2.setCell ⟨k,6,none⟩ (.int .i64 z)) ((w2.setCell ⟨k,6,none⟩ (.int .i64 z)).setCell ⟨k,9,none⟩ (.bool true)):=(Touch.refl _ _).set k 9 _ rfl
   have h5:=H3.out.1.block (m':={ m2 with lost:=true }) r5 t5 rfl H3.out.1.aD H3.out.1.left rfl rfl rfl rfl rfl rfl
   have H5:=zH (zA h5 (H3.out.2.2.trans (H3.out.1.step t5)))
   have HE:=zH (show { m2 with lost:=true }={ ar:=cg (false,d),aD:=m.aD,left:=m.left,lost:=m.lost || !false } by rw [HM2.out,HL.out];rfl)
   clear r5 t5 h5
   go_wp2
   go_ret2
   obtain ⟨q1,q2,q3⟩:=HR.out
   rw [q1,q2,q3,E.out,← HE.out]
   exact ⟨none,0,_,rfl,⟨{ { s with cl:=z } with lost:=true },F',rfl,H5.out.1⟩,⟨aP.nil _ _,fun _ _ e=>by cases e⟩,H5.out.2⟩
end
end Go.Proofs.YtcfdenckiigdaaaGreat

/- Part 22 of the contracts. -/
import Derived.Test.YtcfdenckiigdaaaGreatBu21
set_option linter.unusedVariables false
set_option maxRecDepth 100000
set_option maxHeartbeats 4000000
namespace Go.Proofs.YtcfdenckiigdaaaGreat
open Tryz Go.RowKit
section
open Go.RowKit
variable {X:Nat→Prop}
theorem bN.an {w:World} {k c:Nat} {m:aB} {G:Nat→Prop} (h:bN X w k c m G) : ∃ F,aO w c m.an F∧(∀ i,F i→G i) ∧ ∀ (w':World) (m':af) (F':Nat→Prop),aO w' c m' F'→Step F F' w w'→(0<m'.busy.length→w.heap.size≤m'.home∨(m'.home=m.an.home∧0<m.an.busy.length))→bN X w' k c { m with an:=m' } (fun i=>G i∨F' i)∧Step G (fun i=>G i∨F' i) w w':=by
 obtain ⟨s,F,rfl,h⟩:=h
 refine ⟨F,h.an,h.sub,fun w' m' F' hc st hh => ?_⟩
 have hst:Step G (fun i=>G i∨F' i) w w':=⟨st.aD.mono h.sub,fun i hi=>hi.elim .inl fun hf=>(st.gA i hf).imp (h.sub i) id⟩
 refine ⟨⟨s,F',rfl,st.aD.at h.raw h.fh,h.aA,h.left,h.lost,hc,h.leave.step hst,fun hf => ?_,fun b hb=>.inr hb,.inl h.own,fun hl hg => ?_,fun b hb => ?_⟩,hst⟩
 ·
  rcases st.gA k hf with hk | hk
  ·
   exact h.fh hk
  ·
   have:=aV h.raw
   omega
 ·
  rcases hg with hg | hg
  ·
   rcases hh hl with h1 | ⟨h1,h2⟩
   ·
    have:m'.home<w.heap.size:=h.lt _ hg
    omega
   ·
    rw [h1] at hg
    exact h.home h2 hg
  ·
   exact (hc.home hl).2 hg
 ·
  rcases hb with hb | hb
  ·
   exact zV (h.lt b hb) st.aD.size
  ·
   exact hc.lt b hb
theorem Sys.an {w:World} {s k c b:Nat} {m:aB} {q:Cache} {S:au} {H:Nat→Prop} (h:Sys X w s k c b m q S H) : ∃ F,aO w c m.an F∧(∀ i,F i→H i) ∧ ∀ (w':World) (m':af) (F':Nat→Prop),aO w' c m' F'→Step F F' w w'→(0<m'.busy.length→w.heap.size≤m'.home∨(m'.home=m.an.home∧0<m.an.busy.length)) → ∃ H',Sys X w' s k c b { m with an:=m' } q S H'∧Step H H' w w':=by
 obtain ⟨G,hc,hw,hH,hb⟩:=h.both.ex
 obtain ⟨F,h1,h2,h3⟩:=hc.an
 refine ⟨F,h1,fun i hi=>(hH i).2 (.inl (h2 i hi)),fun w' m' F' k1 k2 k3 => ?_⟩
 obtain ⟨g1,g2⟩:=h3 w' m' F' k1 k2 k3
 have hlt:=h.lt
 have st:Step H (fun i=>(G i∨F' i)∨i=b) w w':=g2.both hH fun i=>Iff.rfl
 obtain ⟨a,cp,r1,r2⟩:=h.st
 have hb':b<w.heap.size:=h.both.lt b ((hH b).2 (.inr rfl))
 have hs':s<w.heap.size:=aV r1
 refine ⟨_,⟨⟨⟨_,g1,hw.step g2.Lh,fun i=>Iff.rfl,fun hl => ?_⟩⟩,⟨a,cp,st.aD.at r1 h.fh,r2.step st.off⟩,st.safe hs' h.fh,fun hl => ?_⟩,st⟩
 ·
  show m'.home≠b
  rcases k3 hl with e | ⟨e1,e2⟩
  ·
   omega
  ·
   rw [e1];exact hb e2
 ·
  show m'.home≠s
  rcases k3 hl with e | ⟨e1,e2⟩
  ·
   omega
  ·
   rw [e1];exact h.home e2
theorem E3 (p o:Nat) (z y:Int) (w:World) (hc:w.cell? ⟨p,o,none⟩=some (.int .i64 z)) (hz:w.frozen? ⟨p,o,none⟩=false):Calls prog 65 #[.pointer (some ⟨p,o,none⟩),.int .i64 y] w fun e w' => ∃ x:Int,e=.returned (.int .i64 x)∧w'=w.setCell ⟨p,o,none⟩ (.int .i64 x):=by
 have hadd:=run_call_add (P:=prog) func102 (by kernel_rfl) (by kernel_rfl) (by kernel_rfl) .i64 (by kernel_rfl) (y:=y) (s:=IntKind.i64.wrap (z+y)) hc hz (by simp [go_sem])
 generalize IntKind.i64.wrap (z+y)=x at hadd
 go_enter func65,ntmps65
 go_wp2
 go_ret
 exact ⟨x,rfl,rfl⟩
def jm (w:World) (p c:Nat) (ko bo so:Option Addr) (z:Int):Prop:=w.heap[p]? = some (.cells #[.pointer (some ⟨c,0,none⟩),.pointer ko,.pointer bo,.pointer so,.int .i64 z] 94 (0,0))
theorem jm.odd {w:World} {p c:Nat} {ko bo so:Option Addr} {z:Int} (h:jm w p c ko bo so z):KL w p:=by
 refine ⟨⟨_,cell_of h 0⟩,fun o hf => ?_⟩
 obtain ⟨x,hx⟩:=hf 0 (by omega)
 obtain ⟨y,hy⟩:=hf 1 (by omega)
 have hlt:o+0<5:=by
  unfold World.cell? at hx
  rw [h] at hx
  exact (Array.getElem?_eq_some_iff.1 (show (#[Value.pointer (some ⟨c,0,none⟩),.pointer ko,.pointer bo,.pointer so,.int .i64 z])[o+0]? = some (.int .i64 x) by simpa using hx)).1
 match o,hlt with
 | 0,_=>rw [cell_of h 0] at hx;cases hx
 | 1,_=>rw [cell_of h 1] at hx;cases hx
 | 2,_=>rw [cell_of h 2] at hx;cases hx
 | 3,_=>rw [cell_of h 3] at hx;cases hx
 | 4,_ =>
  have:w.cell? ⟨p,4+1,none⟩=none:=by
   unfold World.cell?
   rw [h]
   rfl
  rw [this] at hy;cases hy
theorem oz {w:World} {g:Nat} {a b c d e:Value} {t:TypeId} (h:w.heap[g]? = some (.cells #[a,b,c,d,e] t (0,0))):w.cell? ⟨g,0,none⟩=some a∧w.cell? ⟨g,1,none⟩=some b∧w.cell? ⟨g,2,none⟩=some c∧w.cell? ⟨g,3,none⟩=some d∧w.cell? ⟨g,4,none⟩=some e ∧ ∀ i,w.frozen? ⟨g,i,none⟩=false :=
 ⟨cell_of h 0,cell_of h 1,cell_of h 2,cell_of h 3,cell_of h 4,fun i=>aC h i⟩
theorem lQ.mono {w:World} {b k:Nat} {q:Cache} {F G:Nat→Prop} (h:lQ w b k q F) (hG : ∀ i,G i→F i):lQ w b k q G:=by
 obtain ⟨ab,ac,tb,tc,h⟩:=h
 exact ⟨ab,ac,tb,tc,h.raw,h.cap,h.a0,h.a1,h.t0,h.t1,⟨fun e=>h.out.1 (hG _ e),fun e=>h.out.2.1 (hG _ e),fun e=>h.out.2.2 (hG _ e)⟩,h.na,h.nt⟩
theorem Touch.qk {F:Nat→Prop} {a b c:World} (h:Touch F a b) (k:Below b.heap.size b c):Touch F a c:=h.trans (Touch.ah k)
theorem Sys.J4 {w w':World} {s k c b p:Nat} {m:aB} {q:Cache} {H:Nat→Prop} (h:Sys X w s k c b m q shut H) (t:Touch (aM p) w w') (hn : ¬ bP s H p) (o:KL w p) (hh:0<m.an.busy.length→m.an.home≠p):Sys X w' s k c b m q shut H:=by
 obtain ⟨a,cp,h1,h2⟩:=h.st
 refine ⟨h.both.odd t (fun e=>hn (.inl e)) o hh,⟨a,cp,t.at h1 (fun e=>hn (.inr (show s=p from e).symm)),⟨?_,fun x o f e h0=>by simp [shut,ck] at h0⟩⟩,h.fh,h.home⟩
 refine ⟨h2.at_.len,?_⟩
 rcases h2.at_.ex with e | ⟨b',o',c',e1,e2,_⟩
 ·
  exact .inl e
 ·
  exact .inr ⟨b',o',c',e1,e2,fun i u hu=>by simp [shut,ck,bk] at hu⟩
def AN (X:Nat→Prop) (c:Nat) (m:af) (F:Nat→Prop) (w:World) (e:Ending) (w':World):Prop := ∃ k G,e=.returned (.tuple #[.pointer (some ⟨k,0,none⟩),.int .i64 0])∧w.heap.size≤k∧bN X w' k c (aB.new m) G∧(∀ b,G b→F b∨b=k)∧Below w.heap.size w w'
theorem xt (c:Nat) (m:af) (F:Nat→Prop) (w:World) (h:aO w c m F) (hX : ∀ i,X i→i<w.heap.size):Calls prog 67 #[.pointer (some ⟨c,0,none⟩)] w (AN X c m F w):=by
 have HH:=zH h
 have HX0:=zH hX
 clear h hX
 go_enter func67,ntmps67
 go_wp2_with fail
 refine (pw _).mono ?_
 rintro e w1 ⟨b1,rfl,hb1⟩
 go_wp2_with fail
 refine (pw _).mono ?_
 rintro e w2 ⟨b2,rfl,hb2⟩
 have hb12:=gtr hb1 hb2
 have h2:=HH.out.aj hb12
 have hb3:Below w2.heap.size w2 (w2.alloc (.cells (lO.row ⟨c,0,0,0,some ⟨b1,0,none⟩,some ⟨b2,0,none⟩,0,false,-1,false,0,0,0,.slice none 0 0⟩) 141)):=ae zR _
 have h3:=h2.aj hb3
 have hr:fk (w2.alloc (.cells (lO.row ⟨c,0,0,0,some ⟨b1,0,none⟩,some ⟨b2,0,none⟩,0,false,-1,false,0,0,0,.slice none 0 0⟩) 141)) w2.heap.size ⟨c,0,0,0,some ⟨b1,0,none⟩,some ⟨b2,0,none⟩,0,false,-1,false,0,0,0,.slice none 0 0⟩:=ag _ _
 have hC:bN X (w2.alloc (.cells (lO.row ⟨c,0,0,0,some ⟨b1,0,none⟩,some ⟨b2,0,none⟩,0,false,-1,false,0,0,0,.slice none 0 0⟩) 141)) w2.heap.size c (aB.new m) (fun b=>F b∨b=w2.heap.size):=by
  refine ⟨_,F,rfl,hr,rfl,rfl,rfl,h3,⟨fun i h=>zV (HX0.out i h) (gtr hb12 hb3).size,.inl ⟨rfl,rfl,rfl⟩⟩,fun hf => ?_,fun b hb=>.inl hb,.inr rfl,fun hl hf => ?_,fun b hb => ?_⟩
  ·
   have:=h2.lt _ hf;omega
  ·
   obtain ⟨q1,q2⟩:=h2.home hl
   rcases hf with hf | hf
   ·
    exact q2 hf
   ·
    have hf':m.home=w2.heap.size:=hf
    omega
  ·
   simp only [World.size_alloc]
   rcases hb with hb | hb
   ·
    have:=h2.lt b hb;omega
   ·
    omega
 have HX:=zH (zA hC (gtr hb12 hb3))
 have hsz:=hb12.size
 clear hC h3 hr hb3 h2 hb12 hb1 hb2
 go_wp2
 go_ret2
 exact ⟨_,_,rfl,hsz,HX.out.1,fun b hb=>hb,HX.out.2⟩
def CO (X:Nat→Prop) (p c:Nat) (m:af) (F:Nat→Prop) (w:World) (e:Ending) (w':World):Prop :=
 e=.returned (.tuple #[]) ∧ ∃ s k b H z,jm w' p c (some ⟨k,0,none⟩) (some ⟨b,0,none⟩) (some ⟨s,0,none⟩) z∧Sys X w' s k c b (aB.new m) Cache.new shut H ∧ ¬ bP s H p∧Touch (aM p) w w' ∧ ∀ i,bP s H i→F i∨w.heap.size≤i
theorem lq (p c:Nat) (ko bo so:Option Addr) (z:Int) (m:af) (F:Nat→Prop) (w:World) (hr:jm w p c ko bo so z) (h:aO w c m F) (hp : ¬ F p) (hbz:m.busy=[]) (hX : ∀ i,X i→i<w.heap.size) (hk : ∀ w',Below w.heap.size w w'→Calls prog 66 #[.pointer ko] w' fun e w'' => ∃ x:Int,e=.returned (.int .i64 x)∧w'=w''):Calls prog 35 #[.pointer (some ⟨p,0,none⟩)] w (CO X p c m F w):=by
 have hpl:p<w.heap.size:=aV hr
 have hh : ∀ (P:Nat→Prop),0<m.busy.length→P m.home:=fun P hl=>by rw [hbz] at hl;cases hl
 have HH:=zH hh
 have H0:=zH (zA hr (zA h hp))
 have HK:=zH hk
 have HX:=zH hX
 obtain ⟨c0,c1,c2,c3,c4,cf⟩:=oz hr
 clear hr h hp hbz hk hh hX
 go_enter func35,ntmps35
 go_upto_region 0 with fail
 go_region_with (first
  | (go_at_call 66;refine (HK.out _ (aw zR)).mono ?_;rintro e w1 ⟨x,rfl,rfl⟩)
  | (go_at_call 65;refine (E3 p 4 z _ w.drew c4 (cf 4)).mono ?_;rintro e w1 ⟨y,rfl,rfl⟩))
 have tA:Touch (aM p) w (w.setCell ⟨p,4,none⟩ (.int .i64 y)).drew:=((Touch.refl (aM p) w).set p 4 _ rfl).drew
 have rA:jm (w.setCell ⟨p,4,none⟩ (.int .i64 y)).drew p c ko bo so y:=aa (aw zR) (av H0.out.1)
 have hA:=H0.out.2.1.fh tA (fun b hb e=>H0.out.2.2 (by rw [← show b=p from e];exact hb)) (HH.out (fun i => ¬ aM p i))
 have HA:=zH (zA tA (zA rA hA))
 clear c0 c1 c2 c3 c4 cf tA rA hA
 generalize (w.setCell ⟨p,4,none⟩ (.int .i64 y)).drew=wA at *
 obtain ⟨c0,c1,c2,c3,c4,cf⟩:=oz HA.out.2.1
 have HN:=zH (xt (X:=X) c m F wA HA.out.2.2 (fun i hi=>zV (HX.out i hi) HA.out.1.size))
 go_upto_region 2 with (go_at_call 67;refine HN.out.mono ?_;rintro e w1 ⟨k,G,rfl,hkl,hc,hG,hb1⟩;obtain ⟨d0,d1,d2,d3,d4,df⟩:=oz (aa hb1 HA.out.2.1))
 have hpA:p<wA.heap.size:=aV HA.out.2.1
 have hnG : ∀ i,aM p i → ¬ G i:=fun i e hi=>by
  rw [show i=p from e] at hi
  rcases hG p hi with h | h
  ·
   exact H0.out.2.2 h
  ·
   omega
 have tB:Touch (aM p) w1 (w1.setCell ⟨p,1,none⟩ (.pointer (some ⟨k,0,none⟩))):=(Touch.refl (aM p) w1).set p 1 _ rfl
 have rB:jm (w1.setCell ⟨p,1,none⟩ (.pointer (some ⟨k,0,none⟩))) p c (some ⟨k,0,none⟩) bo so y:=av (aa hb1 HA.out.2.1)
 have hB:=hc.fh tB hnG (HH.out (fun i => ¬ aM p i)) (fun i e _=>.inl (by rw [show i=p from e];exact jm.odd (aa hb1 HA.out.2.1)))
 have HB:=zH (zA ((HA.out.1.qk hb1).trans tB) (zA rB (zA hB (zA hG (zA hkl hnG)))))
 clear c0 c1 c2 c3 c4 cf d0 d1 d2 d3 d4 df tB rB hB hc hb1 hG hkl hnG
 generalize w1.setCell ⟨p,1,none⟩ (.pointer (some ⟨k,0,none⟩))=wB at *
 obtain ⟨c0,c1,c2,c3,c4,cf⟩:=oz HB.out.2.1
 have HNW:=zH (uF k wB)
 go_upto_region 3 with (go_at_call 68;refine HNW.out.mono ?_;rintro e w2 ⟨b,rfl,hbl,hw,hb2⟩;obtain ⟨d0,d1,d2,d3,d4,df⟩:=oz (aa hb2 HB.out.2.1))
 have hpB:p<wB.heap.size:=aV HB.out.2.1
 have tC:Touch (aM p) w2 (w2.setCell ⟨p,2,none⟩ (.pointer (some ⟨b,0,none⟩))):=(Touch.refl (aM p) w2).set p 2 _ rfl
 have rC:jm (w2.setCell ⟨p,2,none⟩ (.pointer (some ⟨b,0,none⟩))) p c (some ⟨k,0,none⟩) (some ⟨b,0,none⟩) so y:=av (aa hb2 HB.out.2.1)
 have hC0:eU X w2 k c b (aB.new m) Cache.new (fun i=>G i∨i=b):=⟨⟨G,HB.out.2.2.1.aj hb2,hw.mono (fun i hi=>hi.elim (fun hg=>HB.out.2.2.1.lt i hg) (fun h=>zV (HX.out i h) HB.out.1.size)),fun i=>Iff.rfl,HH.out (fun i=>i≠b)⟩⟩
 have hnb : ¬ (G p∨p=b):=fun h=>h.elim (fun h=>HB.out.2.2.2.2.2 p rfl h) (fun h=>by omega)
 have hC:=hC0.odd tC hnb (jm.odd (aa hb2 HB.out.2.1)) (HH.out (fun i=>i≠p))
 have HC:=zH (zA ((HB.out.1.qk hb2).trans tC) (zA rC (zA hC (zA hnb hbl))))
 clear c0 c1 c2 c3 c4 cf d0 d1 d2 d3 d4 df tC rC hC hC0 hb2 hbl hw hnb
 generalize w2.setCell ⟨p,2,none⟩ (.pointer (some ⟨b,0,none⟩))=wC at *
 obtain ⟨c0,c1,c2,c3,c4,cf⟩:=oz HC.out.2.1
 have HS:=zH (fun w' (hb:Below wC.heap.size wC w')=>xb k c b (aB.new m) Cache.new _ w' (HC.out.2.2.1.aj hb) (HH.out (fun i=>i<w'.heap.size)))
 have HD:=zH (fun w' (hb:Below wC.heap.size wC w')=>oz (aa hb HC.out.2.1))
 go_region_with (go_at_call 69;refine (HS.out _ (aw zR)).mono ?_;rintro e w3 ⟨s,rfl,hs,hb3,hsl⟩;obtain ⟨d0,d1,d2,d3,d4,df⟩:=HD.out w3 (gtr (aw (Below.refl wC.heap.size wC)) hb3))
 all_goals
  go_end0
  have hb4:=gtr (aw (Below.refl wC.heap.size wC)) hb3
  have hpC:p<wC.heap.size:=aV HC.out.2.1
  have hsl':wC.heap.size≤s:=hsl
  have hnM : ¬ bP s (fun i=>G i∨i=b) p:=fun h=>h.elim HC.out.2.2.2.1 (fun e=>by omega)
  have tD:Touch (aM p) w3 (w3.setCell ⟨p,3,none⟩ (.pointer (some ⟨s,0,none⟩))):=(Touch.refl (aM p) w3).set p 3 _ rfl
  refine ⟨rfl,s,k,b,_,y,av (aa hb4 HC.out.2.1),hs.J4 tD hnM (jm.odd (aa hb4 HC.out.2.1)) (HH.out (fun i=>i≠p)),hnM,(HC.out.1.qk hb4).trans tD,fun i hi => ?_⟩
  have z1:=HA.out.1.size
  have z2:=HB.out.1.size
  have z3:=HC.out.1.size
  rcases hi with (hi | hi) | hi
  ·
   rcases HB.out.2.2.2.1 i hi with h | h
   ·
    exact .inl h
   ·
    have:=HB.out.2.2.2.2.1
    omega
  ·
   have:=HC.out.2.2.2.2
   omega
  ·
   omega
end
section
open Go.RowKit
variable {X:Nat→Prop}
structure gz where
 m:aB
 q:Cache
 S:au
def iF (p s:Nat) (H:Nat→Prop) (i:Nat):Prop:=bP s H i∨i=p
structure bI (X:Nat→Prop) (w:World) (p:Nat) (W:gz) (G:Nat→Prop):Prop where
 ex : ∃ s k c b H z,jm w p c (some ⟨k,0,none⟩) (some ⟨b,0,none⟩) (some ⟨s,0,none⟩) z∧Sys X w s k c b W.m W.q W.S H ∧ ¬ bP s H p∧(0<W.m.an.busy.length→W.m.an.home≠p ∧ ¬ X W.m.an.home) ∧ ∀ i,G i ↔ iF p s H i
theorem bI.aj {w w':World} {p:Nat} {W:gz} {G:Nat→Prop} (h:bI X w p W G) (hb:Below w.heap.size w w'):bI X w' p W G:=by
 obtain ⟨s,k,c,b,H,z,h1,h2,h3⟩:=h.ex
 exact ⟨s,k,c,b,H,z,aa hb h1,h2.aj hb,h3⟩
theorem bI.lt {w:World} {p:Nat} {W:gz} {G:Nat→Prop} (h:bI X w p W G) : ∀ i,G i→i<w.heap.size:=fun i hi=>by
 obtain ⟨s,k,c,b,H,z,h1,h2,h3,h4,h5⟩:=h.ex
 rcases (h5 i).1 hi with h | rfl
 ·
  exact h2.lt i h
 ·
  exact aV h1
theorem Cn {m m1 m2 m3 m4:aB} {own bit other kept x y:Int} (S:Sets m m1 m2 m3 m4 own bit other kept x y) (ok:m.Ok):m4.Ok∧bD m m4:=by
 have o1:=dX ok own 0 [] 1 (by rcases S.own with e | e <;> rw [e];exact xB;exact Cf)
 have e1:=cI m own 0 [] 1
 rw [S.r1] at o1 e1
 have o2:=dX o1 other 0 [] 1 (by rcases S.other with e | e <;> rw [e];exact xB;exact Cf)
 have e2:=cI m1 other 0 [] 1
 rw [S.r2] at o2 e2
 have o3:=dX o2 6 0 [] 0 Al
 have e3:=cI m2 6 0 [] 0
 rw [S.r3] at o3 e3
 have o4:=dX o3 1 0 (if own=53 then [bits .and .i64 y kept,bit] else [bit,bits .and .i64 y kept]) 0 (by
  split
  ·
   exact Ki _ _ S.k1 S.bit
  ·
   exact Ki _ _ S.bit S.k1)
 have e4:=cI m3 1 0 (if own=53 then [bits .and .i64 y kept,bit] else [bit,bits .and .i64 y kept]) 0
 rw [S.r4] at o4 e4
 exact ⟨o4,e1.trans (e2.trans (e3.trans e4))⟩
theorem ju (p:Nat) (W:gz) (G:Nat→Prop) (w:World) (h:bI X w p W G):Calls prog 14 #[.pointer (some ⟨p,0,none⟩)] w fun e w'=>e=.returned (.string W.m.an.cells)∧w'=w:=by
 obtain ⟨s,k,c,b,H,z,h1,h2,h3⟩:=h.ex
 obtain ⟨F,hc,_,_⟩:=h2.an
 obtain ⟨c0,_,_,_,_,_⟩:=oz h1
 have HC:=zH (um c W.m.an F w hc)
 clear h h1 h2 h3 hc
 go_enter func14,ntmps14
 go_wp2_with (go_at_call 39;refine HC.out.mono ?_;rintro e w1 ⟨rfl,rfl⟩)
 go_ret
 exact ⟨rfl,rfl⟩
def gT (img:ByteArray):ByteArray:=img++(hU 4096).extract img.size 4096
theorem pN:(hU 4096).size=4096:=by
 unfold hU
 rw [qb]
 show (List.replicate 4096 (255:UInt8)).toArray.size=4096
 rw [List.size_toArray,List.length_replicate]
theorem GW (i:Nat) (h:i<4096):bt (hU 4096) i=255:=by
 unfold hU
 rw [qb]
 show (List.replicate 4096 (255:UInt8)).toArray.getD i 0=255
 rw [Array.getD_eq_getD_getElem?,List.getElem?_toArray,List.getElem?_replicate,if_pos h]
 rfl
theorem jE {img:ByteArray} (h:img.size≤2048):(gT img).size=4096:=by
 unfold gT
 rw [ByteArray.size_append,gS _ _ _ (by rw [pN];omega)]
 omega
theorem Ft {img:ByteArray} (h:img.size≤2048) (i:Nat) (hi:i<4096):bt (gT img) i=if i<img.size then bt img i else 255:=by
 unfold gT
 rw [pO]
 split
 ·
  rfl
 ·
  rw [fo _ _ _ _ (by omega) (by rw [pN];omega),GW _ (by omega)]
theorem vG {img:ByteArray} (h:img.size≤2048):AG (gT img):=by
 refine ⟨jE h,fun j h4 h8 => ?_⟩
 have:dd (gT img) j 0=rU 64:=by
  refine fm (by rw [gw,nQ]) fun k hk => ?_
  rw [gw] at hk
  rw [oC _ _ _ _ hk,Ft h _ (by omega),if_neg (by omega),sn _ _ hk]
 rw [this]
 exact Dd 1
def qq (X:Nat→Prop) (img:ByteArray) (w:World) (e:Ending) (w':World):Prop := ∃ p W G,e=.returned (.tuple #[.pointer (some ⟨p,0,none⟩),.int .i64 0])∧bI X w' p W G∧Below w.heap.size w w'∧(∀ i,G i→w.heap.size≤i)∧Calm W.m (gT img)∧W.m.left<0∧W.m.Ok∧W.m.an.busy=[]∧W.q=Cache.new∧W.S=shut
theorem Iq {x:ByteArray} (hx:x.size=4096):(aB.new (j6 x)).Ok:=by
 refine ⟨⟨⟨hx,?_,?_,?_,?_,?_⟩,?_⟩,fun _=>rfl,?_,?_⟩
 ·
  intro j h;cases h
 ·
  show (0:Int)≤0;decide
 ·
  show (0:Int)<4096;decide
 ·
  show zp ⟨0,0,false,0,0,false⟩;decide
 ·
  show 0≤1099511627776;decide
 ·
  intro y h;cases h
 ·
  show (-1:Int) ≤ -1;decide
 ·
  show (-1:Int)≤1099511627776;decide
theorem oI (img:ByteArray) (w:World) (hi:img.size≤2048) (hXL : ∀ i,X i→i<w.heap.size):Calls prog 16 #[.string img] w (qq X img w):=by
 have hs:=jE hi
 have hi' : ¬ (2048:Int)<img.size:=by omega
 have HN:=zH (fun w=>pq (gT img) w hs)
 have hbs:(hU 4096).size=4096:=pN
 have h4:(img.size:Int)≤((hU 4096).size:Int):=by rw [hbs];omega
 have HI:=zH hi
 have HXL:=zH hXL
 clear hXL
 have HX:=zH (show gT img=img++(hU 4096).extract img.size 4096 from rfl)
 clear hi hs
 go_enter func16,ntmps16
 go_upto_region 4 with (first
  | (go_at_call 40;refine (A4 _).mono ?_;rintro e w1 ⟨rfl,hb1⟩)
  | (go_at_call 28;refine (HN.out _).mono ?_;rintro e w2 ⟨c,rfl,hc,hb2,hcl⟩))
 have hb:=gtr hb1 hb2
 have hcw:w.heap.size≤c:=Nat.le_trans hb1.size hcl
 have hcl2:c<w2.heap.size:=hc.lt c rfl
 have H2:=zH (zA hc (zA hb (zA hcw hcl2)))
 clear hc hb hb1 hb2 hcw hcl2 hcl HN hbs h4 hi'
 go_upto_region 5 with fail
 have e0:=ag w2 (.cells #[.pointer (some ⟨c,0,none⟩),.pointer none,.pointer none,.pointer none,.int .i64 0] 94)
 have HB:=zH (lq (X:=X) w2.heap.size c none none none 0 (j6 (gT img)) (aM c) _ e0 (H2.out.1.aj (ae zR _)) (fun e=>by have:=H2.out.2.2.2;rw [show w2.heap.size=c from e] at this;omega) rfl (fun i hi=>zV (HXL.out i hi) (ae H2.out.2.1 _).size) (fun w' _=>(xq w').mono fun e w'' h=>⟨0,h.1,h.2⟩))
 have H3:=zH (zA (ae H2.out.2.1 (.cells #[.pointer (some ⟨c,0,none⟩),.pointer none,.pointer none,.pointer none,.int .i64 0] 94)) H2.out.2.2)
 clear e0
 generalize w2.alloc (.cells #[.pointer (some ⟨c,0,none⟩),.pointer none,.pointer none,.pointer none,.int .i64 0] 94)=w3 at *
 have hpw:w.heap.size≤w2.heap.size:=H2.out.2.1.size
 have HP:=zH hpw
 clear H2 hpw
 generalize w2.heap.size=p at *
 obtain ⟨m1,m2,m3,m4,S1,R1,l1⟩:=Gc (m:=aB.new (j6 (gT img))) (x:=gT img) (b:=[]) ⟨rfl,rfl,rfl,rfl⟩ (show (-1:Int)<0 by decide)
 obtain ⟨n1,n2,n3,n4,S2,R2,l2⟩:=F9 R1 l1
 obtain ⟨o1,hm1⟩:=Cn S1 (Iq (jE HI.out))
 obtain ⟨o2,hm2⟩:=Cn S2 o1
 have HQ:=zH (zA S1 (zA S2 (zA o1 (zA hm1 hm2))))
 have HE:=zH (zA R2 (zA l2 o2))
 clear S1 S2 o1 o2 hm1 hm2 R1 R2 l1 l2
 go_upto_region 6 with (go_at_call 35;refine HB.out.mono ?_;rintro e w4 ⟨rfl,s,k,b,H,z,hr,hs,hn,ht,hH⟩)
 obtain ⟨r0,r1,r2,r3,r4,rf⟩:=oz hr
 obtain ⟨G,hc,hl⟩:=hs.vz
 have H4:=zH (zA hr (zA hn (zA ht (zA hH hl))))
 have HQ1:=zH (DS k c _ m1 m2 m3 m4 G 0 0 w4 hc (Iq (jE HI.out)) HQ.out.1)
 clear hr hs hn ht hH hc hl HB
 go_upto_region 7 with (go_at_call 41;refine HQ1.out.mono ?_;rintro e w5 ⟨rfl,G5,hc5,st5⟩)
 obtain ⟨H5,hs5,st6⟩:=H4.out.2.2.2.2 w5 m4 G5 hc5 st5 HQ.out.2.2.2.1
 have hr5:jm w5 p c _ _ _ z:=st6.aD.at H4.out.1 (fun e=>H4.out.2.1 (.inl e))
 have hn5 : ¬ bP s H5 p:=(st6.kC (s:=s)).safe (aV H4.out.1) H4.out.2.1
 clear r0 r1 r2 r3 r4 rf
 obtain ⟨r0,r1,r2,r3,r4,rf⟩:=oz hr5
 obtain ⟨G6,hc6,hl6⟩:=hs5.vz
 have HQ2:=zH (xA k c _ n1 n2 n3 n4 G6 0 2 w5 hc6 HQ.out.2.2.1 HQ.out.2.1)
 have H5':=zH (zA hr5 (zA hn5 (zA (st6.kC (s:=s)) hl6)))
 clear hr5 hn5 hc5 st5 hs5 st6 hc6 hl6
 go_wp2_with (go_at_call 42;refine HQ2.out.mono ?_;rintro e w6 ⟨rfl,G7,hc7,st7⟩)
 obtain ⟨H7,hs7,st8⟩:=H5'.out.2.2.2 w6 n4 G7 hc7 st7 HQ.out.2.2.2.2
 have hr7:jm w6 p c _ _ _ z:=st8.aD.at H5'.out.1 (fun e=>H5'.out.2.1 (.inl e))
 have hn7 : ¬ bP s H7 p:=(st8.kC (s:=s)).safe (aV H5'.out.1) H5'.out.2.1
 have st9:=H5'.out.2.2.1.trans (st8.kC (s:=s))
 have F:=zH (zA hs7 (zA hr7 (zA hn7 st9)))
 clear hs7 hr7 hn7 st9 hc7 st7 st8
 go_ret2
 have z3:=H3.out.1.size
 have hp:=HP.out
 have hcw:=H3.out.2.1
 have hM : ∀ i,bP s H i→w.heap.size≤i:=fun i hi=>by
  rcases H4.out.2.2.2.1 i hi with h | h
  ·
   rw [show i=c from h];exact hcw
  ·
   omega
 have z4:=H4.out.2.2.1.size
 have b4:Below w.heap.size w3 w4:=H4.out.2.2.1.below z3 (fun i hi e=>by rw [show i=p from e] at hi;omega)
 have b6:Below w.heap.size w4 w6:=F.out.2.2.2.aD.below (Nat.le_trans z3 z4) (fun i hi hm=>by have:=hM i hm;omega)
 obtain ⟨hR,hl,hok⟩:=HE.out
 have hbusy:n4.an.busy=[]:=congrArg Core.busy hR.core
 have hh:0<n4.an.busy.length→n4.an.home≠p ∧ ¬ X n4.an.home:=fun hl=>by rw [hbusy] at hl;cases hl
 refine ⟨p,⟨n4,Cache.new,shut⟩,iF p s H7,rfl,⟨⟨s,k,c,b,H7,z,F.out.2.1,F.out.1,F.out.2.2.1,hh,fun i=>Iff.rfl⟩⟩,(H3.out.1.trans b4).trans b6,fun i hi => ?_,?_,hl,hok,hbusy,rfl,rfl⟩
 ·
  rcases hi with hi | hi
  ·
   rcases F.out.2.2.2.gA i hi with h | h
   ·
    exact hM i h
   ·
    omega
  ·
   omega
 ·
  exact Calm.of hR rfl rfl rfl rfl (fun y hy=>by cases hy)
end
section
open Go.RowKit
variable {X:Nat→Prop}
structure Plain (w:World) (o:Nat):Prop where
 ints : ∀ i x,w.cell? ⟨o,i,none⟩≠some (.int .i64 x)
 text : ∀ t,w.cell? ⟨o,1,none⟩≠some (.string t)
theorem Plain.off {w:World} {o:Nat} (h:Plain w o) {a:Option Addr} {xs:List Int} (hi:aK w a xs) {b f:Nat} (ha:a=some ⟨b,f,none⟩) (hl:0<xs.length):b≠o:=fun e=>by
 obtain ⟨b2,o2,g1,g2⟩:=hi 0 hl
 rw [ha] at g1
 obtain ⟨rfl,rfl⟩:b=b2∧f=o2:=by simpa using g1
 rw [e] at g2
 exact h.ints _ _ g2
theorem aO.JI {w:World} {c:Nat} {m:af} {F:Nat→Prop} (h:aO w c m F) {o:Nat} (p:Plain w o) (hb:0<m.busy.length):m.home≠o:=by
 obtain ⟨s,h1,h2,h3,h4,_⟩:=h.ex
 obtain ⟨a,cc,e,hi,_,hn,_,hh⟩:=h4.ex
 obtain ⟨b,f,ha,_⟩:=hi.at hb
 rw [← hh b f ha hb]
 exact p.off hi ha hb
theorem bN.plain {w w':World} {k c o:Nat} {m:aB} {G:Nat→Prop} (h:bN X w k c m G) (t:Touch (aM o) w w') (d : ¬ G o) (p:Plain w o):bN X w' k c m G:=by
 obtain ⟨s,f,e,h⟩:=h
 have hlt:k<w.heap.size:=h.lt k h.own
 refine ⟨s,f,e,⟨?_,h.aA,h.left,h.lost,h.an.fh t (fun b hb hf=>d (by rw [← show b=o from hf];exact h.sub b hb)) (fun hl e=>h.an.JI p hl e),?_,h.fh,h.sub,h.own,h.home,fun b hb=>zV (h.lt b hb) t.size⟩⟩
 ·
  exact (t.block k hlt (fun hf=>d (by rw [← show k=o from hf];exact h.own))).trans h.raw
 ·
  refine ⟨fun i hi=>zV (h.leave.1 i hi) t.size,?_⟩
  rcases h.leave.2 with hl | ⟨h0,h1,h2,b,e,hp⟩
  ·
   exact .inl hl
  ·
   refine .inr ⟨h0,h1,h2,b,e,?_⟩
   obtain ⟨a,cc,hc,hn⟩:=hp.ph 0 (by simp)
   have hc:pK w b 0 bW a cc:=hc
   have nb : ¬ aM o b:=fun hf=>by
    have:=hc.c0
    rw [show b=o from hf] at this
    exact p.ints _ _ this
   have ni : ∀ b' o',a=some ⟨b',o',Option.none⟩→0<bW.bytes.length → ¬ aM o b':=fun b' o' ea hl hf=>p.off hc.ints ea hl hf
   refine ⟨hp.fh,fun i hi => ?_⟩
   have hi:i<1:=hi
   obtain rfl:i=0:=by omega
   exact ⟨a,cc,⟨t.cell _ _ hc.c0 nb,t.cell _ _ hc.c1 nb,t.cell _ _ hc.c2 nb,t.cell _ _ hc.c3 nb,dE hc.ints t (fun b o e hl=>ni b o e hl)⟩,hn⟩
theorem Sys.plain {w w':World} {s k c b o:Nat} {m:aB} {q:Cache} {S:au} {H:Nat→Prop} (h:Sys X w s k c b m q S H) (t:Touch (aM o) w w') (hn : ¬ bP s H o) (p:Plain w o):Sys X w' s k c b m q S H:=by
 obtain ⟨G,hc,⟨ab,ac,tb,tc,hw⟩,hH,hb⟩:=h.both.ex
 obtain ⟨a,cp,h1,h2⟩:=h.st
 have nG : ¬ G o:=fun hg=>hn (.inl ((hH o).2 (.inl hg)))
 have nb : ¬ aM o b:=fun e=>hn (.inl ((hH o).2 (.inr (show b=o from e).symm)))
 have na : ¬ aM o ab:=fun e=>by
  have:=hw.a0
  rw [show ab=o from e] at this
  exact p.ints _ _ this
 have nt : ¬ aM o tb:=fun e=>by
  have:=hw.t1
  rw [show tb=o from e] at this
  exact p.text _ this
 refine ⟨⟨⟨G,hc.plain t nG p,⟨ab,ac,tb,tc,t.at hw.raw nb,hw.cap,t.cell _ _ hw.a0 na,t.cell _ _ hw.a1 na,t.cell _ _ hw.t0 nt,t.cell _ _ hw.t1 nt,hw.out,hw.na,hw.nt⟩,hH,hb⟩⟩,⟨a,cp,t.at h1 (fun e=>hn (.inr (show s=o from e).symm)),⟨⟨h2.at_.len,?_⟩,h2.fh⟩⟩,h.fh,h.home⟩
 rcases h2.at_.ex with e | ⟨b',o',c',e1,e2,e3⟩
 ·
  exact .inl e
 ·
  refine .inr ⟨b',o',c',e1,e2,fun i u hu=>t.cell _ _ (e3 i u hu) (fun e => ?_)⟩
  have hl:0<S.view.ay.length:=by
   have h5:=(List.getElem?_eq_some_iff.1 hu).1
   rw [lh] at h5
   omega
  have:=e3 0 _ (mU S.view.ay 0 hl).1
  rw [show b'=o from e] at this
  exact p.ints _ _ this
theorem bI.plain {w w':World} {p o:Nat} {W:gz} {G:Nat→Prop} (h:bI X w p W G) (t:Touch (aM o) w w') (hn : ¬ G o) (pl:Plain w o):bI X w' p W G:=by
 obtain ⟨s,k,c,b,H,z,h1,h2,h3,h4,h5⟩:=h.ex
 exact ⟨s,k,c,b,H,z,t.at h1 (fun e=>hn ((h5 o).2 (.inr (show p=o from e).symm))),h2.plain t (fun hm=>hn ((h5 o).2 (.inl hm))) pl,h3,h4,h5⟩
end
theorem zi {m:aB} {q:Cache} (ok:m.Ok) (g:q.Good) (sec:Int) (s0:4≤sec) (s1:sec<8) (reads:List Int):(iO m q sec reads).1.Ok∧(iO m q sec reads).2.1.Good∧bD m (iO m q sec reads).1:=by
 unfold iO
 split
 ·
  rename_i hr
  exact rT ok _ (by omega) (by omega) reads (fun x hx=>by have:=ox hr x hx;omega)
 ·
  exact ⟨ok,g,bD.refl m⟩
theorem Ii (m:aB):4≤fw (nm (fj m).2.1)∧fw (nm (fj m).2.1)<8:=by
 cases h:(fj m).2.1 with
 | none=>decide
 | some s =>
  obtain ⟨h1,h2,_⟩:=look_ok (m:=m) (sec:=s.1) (V:=s.2) h
  exact qR h1 h2
theorem E9 {m:aB} (ok:m.Ok) {sec slot:Int} (s0:4≤sec) (s1:sec<8) (l0:0≤slot) (l1:slot<8) {r:aS} (hr:bz r=true):(m.dR (bU sec slot) (aG r)).1.Ok∧bD m (m.dR (bU sec slot) (aG r)).1 :=
 ⟨vh ok _ _ (by unfold bU;omega) (by unfold bU;omega) (fB r hr),mA _ _ _⟩
theorem JU (m:aB):0≤nL (fj m).2.1:=by
 cases h:(fj m).2.1 with
 | none=>decide
 | some s =>
  obtain ⟨_,_,h3⟩:=look_ok (m:=m) (sec:=s.1) (V:=s.2) h
  have:=h3.ak
  show 0≤s.2.ak
  omega
theorem tv {m:aB} {q:Cache} (ok:m.Ok) (g:q.Good) (reads:List Int):(cO m q reads).1.Ok∧(cO m q reads).2.1.Good∧bD m (cO m q reads).1:=by
 obtain ⟨o1,h1⟩:=vS ok
 obtain ⟨s0,s1⟩:=Ii m
 have e0:=JU m
 unfold cO
 generalize fj m=l at *
 unfold qG
 split
 ·
  exact ⟨o1,g,h1⟩
 ·
  unfold uM
  split
  ·
   exact ⟨o1,g,h1⟩
  ·
   rename_i hep
   obtain ⟨o2,g2,h2⟩:=zi o1 g _ s0 s1 reads
   generalize iO l.1 q (fw (nm l.2.1)) reads=t at *
   unfold qH
   split
   ·
    exact ⟨o2,g2,h1.trans h2⟩
   ·
    obtain ⟨o3,h3⟩:=E9 o2 s0 s1 (show (0:Int)≤0 by decide) (show (0:Int)<8 by decide) (gU (e:=nL l.2.1+1) (by omega) (by omega))
    generalize t.1.dR (bU (fw (nm l.2.1)) 0) (aG (cz (nL l.2.1+1)))=b at *
    unfold oO
    split <;> exact ⟨o3,g2,h1.trans (h2.trans h3)⟩
theorem pY {m:aB} (ok:m.Ok):(fX m).1.Ok∧bD m (fX m).1:=by
 obtain ⟨o1,h1⟩:=vS ok
 unfold fX
 generalize fj m=l at *
 unfold zP
 split
 ·
  exact ⟨o1,h1⟩
 ·
  split <;> exact ⟨o1,h1⟩
theorem CM {m:aB} {q:Cache} (ok:m.Ok) (g:q.Good) {p:fu} (pk:p.Ok) {reads:List Int} (hr:cP reads=true):(dQ m q p reads).1.Ok∧(dQ m q p reads).2.1.Good∧bD m (dQ m q p reads).1:=by
 have ht:(firstT m q p reads).1.Ok∧(firstT m q p reads).2.1.Good∧bD m (firstT m q p reads).1:=by
  unfold firstT
  split
  ·
   rename_i hw
   have:=pk.dy
   exact zi ok g _ (by omega) (by omega) reads
  ·
   exact ⟨ok,g,bD.refl m⟩
 unfold dQ
 generalize firstT m q p reads=t at *
 obtain ⟨o1,g1,h1⟩:=ht
 unfold o7
 split
 ·
  exact ⟨o1,g1,h1⟩
 ·
  obtain ⟨o2,h2⟩:=xY p.aq pk.aq.1 pk.aq.2 (p.bH.zip p.ay) t.1 o1 (qm pk)
  generalize eB p.aq (p.bH.zip p.ay) t.1=b at *
  unfold fM
  split
  ·
   exact ⟨o2,g1,h1.trans h2⟩
  ·
   split
   ·
    exact ⟨o2,g1,h1.trans h2⟩
   ·
    obtain ⟨o3,g3,h3⟩:=rn reads [] b.1 t.2.1 o2 g1 (fun x hx=>(ox hr x hx).1)
    exact ⟨o3,g3,h1.trans (h2.trans h3)⟩
theorem s8 {m:aB} {q:Cache} (ok:m.Ok) (g:q.Good) {S:au} (vk:S.view.Ok) (s0:4≤S.aq) (s1:S.aq<8) {r:aS} (hr:gI r) (reads:List Int):(dO m q S r reads).1.Ok∧(dO m q S r reads).2.1.Good∧bD m (dO m q S r reads).1:=by
 have hc:=fun he=>oM vk s0 s1 hr he
 unfold dO
 generalize cm S.view S.aq r=c at *
 unfold uK
 split
 ·
  exact ⟨ok,g,bD.refl m⟩
 ·
  split
  ·
   exact ⟨ok,g,bD.refl m⟩
  ·
   rename_i h0
   split
   ·
    rename_i hrd
    have:=CM ok g (hc (by simpa using h0)) hrd
    generalize dQ m q c.2 reads=t at *
    unfold qA
    split <;> exact this
   ·
    exact ⟨ok,g,bD.refl m⟩
theorem B9 {m:aB} {q:Cache} (ok:m.Ok) (g:q.Good) {S:au} (fit:S.Fit) (key value:ByteArray) (reads:List Int):(iR m q S key value reads).1.Ok∧(iR m q S key value reads).2.1.Good∧bD m (iR m q S key value reads).1:=by
 unfold iR
 split
 ·
  exact ⟨ok,g,bD.refl m⟩
 ·
  rename_i h0
  split
  ·
   exact ⟨ok,g,bD.refl m⟩
  ·
   have hz:=gP (by simpa using h0)
   have hf:=jF fit hz.1
   exact s8 ok g hf.2.2 hf.1 hf.2.1 (qa hz.2.1 hz.2.2 (by omega)) reads
theorem Be {m:aB} {q:Cache} (ok:m.Ok) (g:q.Good) {S:au} (fit:S.Fit) (key:ByteArray) (reads:List Int):(iP m q S key reads).1.Ok∧(iP m q S key reads).2.1.Good∧bD m (iP m q S key reads).1:=by
 unfold iP
 split
 ·
  exact ⟨ok,g,bD.refl m⟩
 ·
  rename_i h0
  have hz:=gP (by simpa using h0)
  have hf:=jF fit hz.1
  exact s8 ok g hf.2.2 hf.1 hf.2.1 (vA hz.2.1 hz.2.2) reads
section
open Go.RowKit
variable {X:Nat→Prop}
structure jA where
 value:ByteArray
 aQ:List aU
 reads:List Int
 lost:Bool
def bq:jA:=⟨⟨#[]⟩,[],[],false⟩
def outs (er:Int) (out:List Int):List Int:=if er=0 then out else []
theorem dC.read {s k c b:Nat} {m:aB} {q:Cache} {S:au} {out:List Int} {er:Int} {H:Nat→Prop} {w w':World} {e:Ending} (h:dC X s k c b m q S out er H w e w') : ∃ a cp H',e=.returned (.tuple #[.slice a (outs er out).length cp,.int .i64 er])∧Sys X w' s k c b m q S H'∧Step (bP s H) (bP s H') w w'∧w'.ownsRow w.heap.size 3 1 (.slice a (outs er out).length cp) (outs er out).length (az (outs er out)) ∧ ∀ g,(Value.slice a (outs er out).length cp).ownBlock=some g → ¬ bP s H' g:=by
 obtain ⟨v,he,h0,H',hs,st,ho⟩:=h
 unfold outs
 by_cases hk:er=0
 ·
  obtain ⟨h1,h2⟩:=ho hk
  obtain ⟨a,cp,rfl⟩:=cA h1
  rw [if_pos hk]
  exact ⟨a,cp,H',he,hs,st,h1,h2⟩
 ·
  rw [if_neg hk]
  rw [h0 hk] at he
  exact ⟨Option.none,0,H',he,hs,st,zN,fun g hg=>by simp [Value.ownBlock] at hg⟩
def cn (s b p pa:Nat) (x:cW) (ra:Option Addr) (rc:Nat) (w':World):Prop:=w'.cell? ⟨p,2,none⟩=some (.pointer (some ⟨b,0,none⟩))∧w'.cell? ⟨p,3,none⟩=some (.pointer (some ⟨s,0,none⟩))∧w'.cell? ⟨pa,1,none⟩=some (.string x.key)∧w'.cell? ⟨pa,2,none⟩=some (.string x.value)∧w'.cell? ⟨pa,3,none⟩=some (.int .i64 x.at_)∧w'.cell? ⟨pa,4,none⟩=some (.int .i64 x.width)∧w'.cell? ⟨pa,8,none⟩=some (.slice ra x.reads.length rc)
theorem cn.of {w w':World} {s b p pa k c:Nat} {z:Int} {x:cW} {ba:Option Addr} {bc:Nat} {ra:Option Addr} {rc:Nat} (h1:jm w p c (some ⟨k,0,none⟩) (some ⟨b,0,none⟩) (some ⟨s,0,none⟩) z) (h2:fG w pa x ba bc ra rc) {F:Nat→Prop} (t:Touch F w w') (n1 : ¬ F p) (n2 : ¬ F pa):cn s b p pa x ra rc w':=by
 have k1:=t.at h1 n1
 have k2:fG w' pa x ba bc ra rc:=t.at h2 n2
 exact ⟨cell_of k1 2,cell_of k1 3,cell_of k2 1,cell_of k2 2,cell_of k2 3,cell_of k2 4,cell_of k2 8⟩
def eL (X:Nat→Prop) (p:Nat) (W:gz) (A:jA) (er:Int) (G:Nat→Prop) (w:World) (e:Ending) (w':World):Prop :=
 ∃ pa pc ra rc,e=.returned (.tuple #[.agg #[.string A.value,.slice pa A.aQ.length pc,.slice ra A.reads.length rc,.bool A.lost],.int .i64 er])∧w'.ownsRow w.heap.size 83 2 (.slice pa A.aQ.length pc) A.aQ.length (aI A.aQ)∧w'.ownsRow w.heap.size 3 1 (.slice ra A.reads.length rc) A.reads.length (az A.reads) ∧ ∃ G',bI X w' p W G'∧Step G G' w w'∧(∀ g,(Value.slice pa A.aQ.length pc).ownBlock=some g → ¬ G' g) ∧ ∀ g,(Value.slice ra A.reads.length rc).ownBlock=some g → ¬ G' g
def ZA:Obj:=.cells #[.string ⟨#[]⟩,.slice none 0 0,.slice none 0 0,.bool false] 34
theorem jt {w:World} {o:Nat} {t:ByteArray} {a b:Option Addr} {n m c d:Nat} {l:Bool} {ty:TypeId} (h:w.heap[o]? = some (.cells #[.string t,.slice a n c,.slice b m d,.bool l] ty (0,0))):Plain w o:=by
 refine ⟨fun i x e => ?_,fun u e=>by rw [cell_of h 1] at e;cases e⟩
 rw [cell_of h i] at e
 match i with
 | 0=>cases e
 | 1=>cases e
 | 2=>cases e
 | 3=>cases e
 | i+4=>simp at e
structure Ee (X:Nat→Prop) (w w2:World) (p pa R O s k c b:Nat) (z:Int) (W:gz) (G H:Nat→Prop) (x:cW) (ba:Option Addr) (bc:Nat) (ra:Option Addr) (rc:Nat):Prop where
 sys:Sys X w2 s k c b W.m W.q W.S H
 row:jm w2 p c (some ⟨k,0,none⟩) (some ⟨b,0,none⟩) (some ⟨s,0,none⟩) z
 act:fG w2 pa x ba bc ra rc
 rO:w2.heap[O]? = some ZA
 rR:w2.heap[R]? = some ZA
 nO : ¬ bP s H O
 nR : ¬ bP s H R
 np : ¬ bP s H p
 KF : ¬ bP s H pa
 ne:p≠O∧pa≠O∧p≠R∧pa≠R∧O≠R
 own : ∀ i,G i ↔ iF p s H i
 LJ:0<W.m.an.busy.length→W.m.an.home≠p ∧ ¬ X W.m.an.home
 below:Below w.heap.size w w2
 ge:w.heap.size≤O∧w.heap.size≤R∧O<w2.heap.size∧R<w2.heap.size∧p<w.heap.size
 home:0<W.m.an.busy.length→W.m.an.home<w2.heap.size
 ints:aJ w2 ra x.reads H
theorem nz {w:World} {p pa:Nat} {W:gz} {G:Nat→Prop} {x:cW} {ba:Option Addr} {bc:Nat} {ra:Option Addr} {rc:Nat} (h:bI X w p W G) (hx:fG w pa x ba bc ra rc) (hpa : ¬ G pa) (hh:0<W.m.an.busy.length→W.m.an.home<w.heap.size) (hi:aJ w ra x.reads G) : ∃ s k c b H z,Ee X w ((w.alloc ZA).alloc ZA) p pa w.heap.size (w.heap.size+1) s k c b z W G H x ba bc ra rc:=by
 obtain ⟨s,k,c,b,H,z,h1,h2,h3,h4,h5⟩:=h.ex
 have hb0:=ae (ae (Below.refl w.heap.size w) ZA) ZA
 have hpl:=aV hx
 have hpp:=aV h1
 have hlt : ∀ i,bP s H i→i<w.heap.size:=h2.lt
 have hsz:((w.alloc ZA).alloc ZA).heap.size=w.heap.size+2:=by simp
 have hO:((w.alloc ZA).alloc ZA).heap[w.heap.size+1]? = some ZA:=by simpa using ag (w.alloc ZA) ZA
 refine ⟨s,k,c,b,H,z,h2.aj hb0,aa hb0 h1,aa hb0 hx,hO,aa (ae zR ZA) (ag w ZA),fun hM => ?_,fun hM => ?_,h3,fun hM=>hpa ((h5 pa).2 (.inl hM)),⟨by omega,by omega,by omega,by omega,by omega⟩,h5,h4,hb0,⟨by omega,by omega,by omega,by omega,hpp⟩,fun hl => ?_,(hi.mono fun i hH=>(h5 i).2 (.inl (.inl hH))).step (Step.ah hb0)⟩
 ·
  have:=hlt _ hM;omega
 ·
  have:=hlt _ hM;omega
 ·
  have:=hh hl;omega
theorem iV {w w2 w1 wa w3:World} {p pa R O s k c b:Nat} {z:Int} {W:gz} {G H H1:Nat→Prop} {x:cW} {ba:Option Addr} {bc:Nat} {ra:Option Addr} {rc:Nat} (I:Ee X w w2 p pa R O s k c b z W G H x ba bc ra rc) {m1:aB} {q1:Cache} {S1:au} (hs:Sys X w1 s k c b m1 q1 S1 H1) (st:Step (bP s H) (bP s H1) w2 w1) (hm:bD W.m m1) (A:jA) (er:Int) (pv:Option Addr) (pc:Nat) (rv:Option Addr) (cc:Nat) (h1:w1.ownsRow w2.heap.size 83 2 (.slice pv A.aQ.length pc) A.aQ.length (aI A.aQ)) (h2:w1.ownsRow w2.heap.size 3 1 (.slice rv A.reads.length cc) A.reads.length (az A.reads)) (n1 : ∀ g,(Value.slice pv A.aQ.length pc).ownBlock=some g → ¬ bP s H1 g) (n2 : ∀ g,(Value.slice rv A.reads.length cc).ownBlock=some g → ¬ bP s H1 g) (t3:Touch (aM O) w1 wa) (t4:Touch (aM R) wa w3):eL X p ⟨m1,q1,S1⟩ A er G w (.returned (.tuple #[.agg #[.string A.value,.slice pv A.aQ.length pc,.slice rv A.reads.length cc,.bool A.lost],.int .i64 er])) w3:=by
 obtain ⟨g1,g2,g3,g4,g5⟩:=I.ge
 have z2:=I.below.size
 have nO1 : ¬ bP s H1 O:=st.safe g3 I.nO
 have nR1 : ¬ bP s H1 R:=st.safe g4 I.nR
 have rO1:w1.heap[O]? = some ZA:=st.aD.at I.rO I.nO
 have rR1:w1.heap[R]? = some ZA:=st.aD.at I.rR I.nR
 have rRa:wa.heap[R]? = some ZA:=t3.at rR1 (fun e=>I.ne.2.2.2.2 (show R=O from e).symm)
 have hs3:=(hs.plain t3 nO1 (jt rO1)).plain t4 nR1 (jt rRa)
 have rp1:jm w1 p c _ _ _ z:=st.aD.at I.row I.np
 have rpa:jm wa p c _ _ _ z:=t3.at rp1 (fun e=>I.ne.1 e)
 have rp3:jm w3 p c _ _ _ z:=t4.at rpa (fun e=>I.ne.2.2.1 e)
 have b2 : ∀ {t:TypeId} {sz n:Nat} {v:Value} {cs:List Value},w1.ownsRow w2.heap.size t sz v n cs→w3.ownsRow w.heap.size t sz v n cs ∧ ∀ g,v.ownBlock=some g→w2.heap.size≤g:=fun {t sz n v cs} ho=>by
  refine ⟨cT (cT (gu ho z2) t3 (fun g hg e => ?_)) t4 (fun g hg e => ?_),cH ho⟩
  ·
   have:=cH ho g hg;rw [show g=O from e] at this;omega
  ·
   have:=cH ho g hg;rw [show g=R from e] at this;omega
 have hpw : ¬ bP s H1 p:=st.safe (zV g5 z2) I.np
 refine ⟨pv,pc,rv,cc,rfl,(b2 h1).1,(b2 h2).1,iF p s H1,⟨s,k,c,b,H1,z,rp3,hs3,hpw,fun hl => ?_,fun i=>Iff.rfl⟩,⟨?_,fun i hi => ?_⟩,fun g hg hw => ?_,fun g hg hw => ?_⟩
 ·
  rw [hm.1];exact I.LJ (zV hl hm.2)
 ·
  have e1:Touch G w w1:=(Touch.ah I.below).then st.aD (fun i hi=>.inl ((I.own i).2 (.inl hi)))
  have e2:Touch G w wa:=e1.then t3 (fun i hi=>.inr (by rw [show i=O from hi];exact g1))
  exact e2.then t4 (fun i hi=>.inr (by rw [show i=R from hi];exact g2))
 ·
  rcases hi with hi | hi
  ·
   exact (st.gA i hi).imp (fun h=>(I.own i).2 (.inl h)) (fun h=>Nat.le_trans z2 h)
  ·
   exact .inl ((I.own i).2 (.inr hi))
 ·
  rcases hw with hw | hw
  ·
   exact n1 g hg hw
  ·
   have:=(b2 h1).2 g hg;omega
 ·
  rcases hw with hw | hw
  ·
   exact n2 g hg hw
  ·
   have:=(b2 h2).2 g hg;omega
theorem Ee.reads {w w2 w':World} {p pa R O s k c b:Nat} {z:Int} {W:gz} {G H:Nat→Prop} {x:cW} {ba:Option Addr} {bc:Nat} {ra:Option Addr} {rc:Nat} (I:Ee X w w2 p pa R O s k c b z W G H x ba bc ra rc) (F:Nat→Prop) (t:Touch F w2 w') (n1 : ¬ F p) (n2 : ¬ F pa):cn s b p pa x ra rc w':=cn.of I.row I.act t n1 n2
theorem Lo (p pa:Nat) (W:gz) (G:Nat→Prop) (x:cW) (ba:Option Addr) (bc:Nat) (ra:Option Addr) (rc:Nat) (w:World) (h:bI X w p W G) (hx:fG w pa x ba bc ra rc) (hpa : ¬ G pa) (ok:W.m.Ok) (kn:W.m.kh) (g:W.q.Good) (fit:W.S.Fit) (hh:0<W.m.an.busy.length→W.m.an.home<w.heap.size) (hi:aJ w ra x.reads G) (hcap:x.reads.length≤rc) (hm:x.reads.length≤1000000) (hv:x.value.size<140737488355328) (hat:0≤x.at_∧x.at_<4096) (hwi:0≤x.width∧x.width≤8) (hk:x.kind=0):Calls prog 32 #[.pointer (some ⟨p,0,none⟩),.pointer (some ⟨pa,0,none⟩)] w (eL X p ⟨(cO W.m W.q x.reads).1,(cO W.m W.q x.reads).2.1,(cO W.m W.q x.reads).2.2.1⟩ ⟨⟨#[]⟩,[],outs (cO W.m W.q x.reads).2.2.2.2 (cO W.m W.q x.reads).2.2.2.1,false⟩ (cO W.m W.q x.reads).2.2.2.2 G w):=by
 obtain ⟨s,k,c,b,H,z,I⟩:=nz h hx hpa hh hi
 have c0:w.cell? ⟨pa,0,none⟩=some (.int .i64 0):=by rw [← hk];exact cell_of hx 0
 have hpl:=aV hx
 have HI:=zH I
 have HC:=zH (fun w' (hb:Below ((w.alloc ZA).alloc ZA).heap.size ((w.alloc ZA).alloc ZA) w')=>zG s k c b rc W.m W.q W.S H ra x.reads w' (I.sys.aj hb) ok kn (fun hl=>zV (I.home hl) hb.size) (I.ints.step (Step.ah hb)) hcap hm)
 have HF:=zH (tv ok g x.reads).2.2
 generalize cO W.m W.q x.reads=t at *
 clear h I hx hpa hh hi hcap hm kn ok g fit hv hat hwi
 go_enter func32,ntmps32
 go_upto_region 5 with fail
 have eZ:(w.alloc (.cells #[.string ⟨#[]⟩,.slice none 0 0,.slice none 0 0,.bool false] 34)).alloc (.cells #[.string ⟨#[]⟩,.slice none 0 0,.slice none 0 0,.bool false] 34)=(w.alloc ZA).alloc ZA:=rfl
 rw [eZ]
 clear eZ c0 hpl
 generalize (w.alloc ZA).alloc ZA=w2 at *
 have HGE:=zH HI.out.ge
 generalize hR:w.heap.size=R at HI HGE ⊢
 generalize hO:R+1=O at HI HGE ⊢
 have HN:=zH (zA HI.out.np (zA HI.out.KF (zA HI.out.ne.1 HI.out.ne.2.1)))
 have HO:=zH (zA HI.out.rO HI.out.nO)
 have HS:=zH (fun w' (F:Nat→Prop) (t:Touch F w2 w') n1 n2=>HI.out.reads F t n1 n2)
 clear hR hO
 refine wp_region_noPanic ?_
 refine wp_region_held_drew (S:=(cn s b p pa x ra rc)) (by kernel_rfl) (by (try dsimp only);exact HS.out _ (fun _=>False) (Touch.ah (aw zR)) id id) fun hHeld => ?_
 refine tk 0 ?_ (hy:=by intro w h;unfold cn at h;go_simp;try with_reducible rfl)
 refine tk 1 ?_ (hy:=by intro w h;unfold cn at h;go_simp;try with_reducible rfl)
 refine tk 2 ?_ (hy:=by intro w h;unfold cn at h;go_simp;try with_reducible rfl)
 refine tk 3 ?_ (hy:=by intro w h;unfold cn at h;go_simp;try with_reducible rfl)
 refine tk 4 ?_ (hy:=by intro w h;unfold cn at h;go_simp;try with_reducible rfl)
 refine tk 5 ?_ (hy:=by intro w h;unfold cn at h;go_simp;try with_reducible rfl)
 refine tk 6 ?_ (hy:=by intro w h;unfold cn at h;go_simp;try with_reducible rfl)
 refine tk 7 ?_ (hy:=by intro w h;unfold cn at h;go_simp;try with_reducible rfl)
 refine tr 8 fun K hK => ?_
 go_simp
 go_at_call 57
 refine (HC.out _ (aw zR)).mono ?_
 intro e w1 hout
 obtain ⟨va,vc,H1,rfl,hs1,st1,ho1,hf1⟩:=hout.read
 have ht1:=(Touch.ah (F:=bP s H) (aw (Below.refl w2.heap.size w2))).trans st1.aD
 obtain ⟨z0,z1,z2,z3,zf⟩:=cw (ht1.at HO.out.1 HO.out.2)
 have hr1:=zH (zA hs1 (zA ((Step.ah (aw (Below.refl w2.heap.size w2))).trans st1) (zA ho1 (zA hf1 ht1))))
 clear hs1 st1 ho1 hf1 ht1 hout
 go_wp2_with fail
 refine hK.out _ _ (by (try dsimp only);exact HS.out _ _ hr1.out.2.2.2.2 HN.out.1 HN.out.2.1) fun hHeld => ?_
 clear hK K
 try simp only [Act.put,zS,zT,zU]
 refine tk 9 ?_ (hy:=by intro w h;unfold cn at h;go_simp;try with_reducible rfl)
 refine tk 10 ?_ (hy:=by intro w h;unfold cn at h;go_simp;try with_reducible rfl)
 refine tk 11 ?_ (hy:=by intro w h;unfold cn at h;go_simp;try with_reducible rfl)
 refine tk 12 ?_ (hy:=by intro w h;unfold cn at h;go_simp;try with_reducible rfl)
 refine tr 13 fun K hK => ?_
 go_simp
 refine hK.out _ _ (by (try dsimp only);exact HS.out _ (fun i=>bP s H i∨i=O) ((hr1.out.2.2.2.2.mono fun i h=>.inl h).set _ _ _ (.inr rfl)) (fun h=>h.elim HN.out.1 HN.out.2.2.1) (fun h=>h.elim HN.out.2.1 HN.out.2.2.2)) fun hHeld => ?_
 clear hK K
 try simp only [Act.put,zS,zT,zU]
 refine tk 14 ?_ (hy:=by intro w h;unfold cn at h;go_simp;try with_reducible rfl)
 refine wpAnyH_done (by kernel_rfl) ?_ _
 refine NoPanic.normal ?_
 have ho:=zH (zA (hr1.out.2.2.2.2.at HO.out.1 HO.out.2) (hr1.out.2.2.2.2.at HI.out.rR HI.out.nR))
 have rOa:(w1.setCell ⟨O,2,none⟩ (.slice va (outs t.2.2.2.2 t.2.2.2.1).length vc)).heap[O]? = _:=av ho.out.1
 have ta:Touch (aM O) w1 (w1.setCell ⟨O,2,none⟩ (.slice va (outs t.2.2.2.2 t.2.2.2.1).length vc)):=(Touch.refl (aM O) w1).set O 2 _ rfl
 have HA:=zH (zA rOa (zA (ta.at ho.out.2 (fun e=>HI.out.ne.2.2.2.2 (show R=O from e).symm)) ta))
 clear rOa ta z0 z1 z2 z3 zf HC HS ho
 generalize w1.setCell ⟨O,2,none⟩ (.slice va (outs t.2.2.2.2 t.2.2.2.1).length vc)=wa at *
 obtain ⟨z0,z1,z2,z3,zf⟩:=cw (show wa.heap[O]? = some (.cells #[.string ⟨#[]⟩,.slice none 0 0,.slice va (outs t.2.2.2.2 t.2.2.2.1).length vc,.bool false] 34 (0,0)) from HA.out.1)
 obtain ⟨y0,y1,y2,y3,yf⟩:=cw HA.out.2.1
 go_wp2_with fail
 obtain ⟨q0,q1,q2,q3,qf⟩:=cw (eO HA.out.2.1 (.string ⟨#[]⟩) (.slice none 0 0) (.slice va (outs t.2.2.2.2 t.2.2.2.1).length vc) (.bool false))
 refine bodyPost_ret (v:=.tuple #[.agg #[.string ⟨#[]⟩,.slice none 0 0,.slice va (outs t.2.2.2.2 t.2.2.2.1).length vc,.bool false],.int .i64 t.2.2.2.2]) ?_ rfl ?_
 ·
  change (results _ _).run _ (lL _ _ _ _ _ _)=_
  simp [results,results32,go_sem,q0,q1,q2,q3]
  rfl
 ·
  exact iV HI.out hr1.out.1 hr1.out.2.1 HF.out ⟨⟨#[]⟩,[],outs t.2.2.2.2 t.2.2.2.1,false⟩ t.2.2.2.2 none 0 va vc zN (hr1.out.2.2.1) (fun g hg=>by simp [Value.ownBlock] at hg) (hr1.out.2.2.2.1) HA.out.2.2 (cN wa R _ _ _ _)
theorem Lq (p pa:Nat) (W:gz) (G:Nat→Prop) (x:cW) (ba:Option Addr) (bc:Nat) (ra:Option Addr) (rc:Nat) (w:World) (h:bI X w p W G) (hx:fG w pa x ba bc ra rc) (hpa : ¬ G pa) (ok:W.m.Ok) (kn:W.m.kh) (g:W.q.Good) (fit:W.S.Fit) (hh:0<W.m.an.busy.length→W.m.an.home<w.heap.size) (hi:aJ w ra x.reads G) (hcap:x.reads.length≤rc) (hm:x.reads.length≤1000000) (hv:x.value.size<140737488355328) (hat:0≤x.at_∧x.at_<4096) (hwi:0≤x.width∧x.width≤8) (hk:x.kind=2):Calls prog 32 #[.pointer (some ⟨p,0,none⟩),.pointer (some ⟨pa,0,none⟩)] w (eL X p ⟨(iR W.m W.q W.S x.key x.value x.reads).1,(iR W.m W.q W.S x.key x.value x.reads).2.1,(iR W.m W.q W.S x.key x.value x.reads).2.2.1⟩ ⟨⟨#[]⟩,[],outs (iR W.m W.q W.S x.key x.value x.reads).2.2.2.2 (iR W.m W.q W.S x.key x.value x.reads).2.2.2.1,false⟩ (iR W.m W.q W.S x.key x.value x.reads).2.2.2.2 G w):=by
 obtain ⟨s,k,c,b,H,z,I⟩:=nz h hx hpa hh hi
 have c0:w.cell? ⟨pa,0,none⟩=some (.int .i64 2):=by rw [← hk];exact cell_of hx 0
 have hpl:=aV hx
 have HI:=zH I
 have HC:=zH (fun w' (hb:Below ((w.alloc ZA).alloc ZA).heap.size ((w.alloc ZA).alloc ZA) w')=>xd s k c b rc W.m W.q W.S H x.key x.value ra x.reads w' (I.sys.aj hb) ok g (fun hl=>zV (I.home hl) hb.size) (I.ints.step (Step.ah hb)) hcap hm hv fit)
 have HF:=zH (B9 ok g fit x.key x.value x.reads).2.2
 generalize iR W.m W.q W.S x.key x.value x.reads=t at *
 clear h I hx hpa hh hi hcap hm kn ok g fit hv hat hwi
 go_enter func32,ntmps32
 go_upto_region 9 with fail
 have eZ:(w.alloc (.cells #[.string ⟨#[]⟩,.slice none 0 0,.slice none 0 0,.bool false] 34)).alloc (.cells #[.string ⟨#[]⟩,.slice none 0 0,.slice none 0 0,.bool false] 34)=(w.alloc ZA).alloc ZA:=rfl
 rw [eZ]
 clear eZ c0 hpl
 generalize (w.alloc ZA).alloc ZA=w2 at *
 have HGE:=zH HI.out.ge
 generalize hR:w.heap.size=R at HI HGE ⊢
 generalize hO:R+1=O at HI HGE ⊢
 have HN:=zH (zA HI.out.np (zA HI.out.KF (zA HI.out.ne.1 HI.out.ne.2.1)))
 have HO:=zH (zA HI.out.rO HI.out.nO)
 have HS:=zH (fun w' (F:Nat→Prop) (t:Touch F w2 w') n1 n2=>HI.out.reads F t n1 n2)
 clear hR hO
 refine wp_region_noPanic ?_
 refine wp_region_held_drew (S:=(cn s b p pa x ra rc)) (by kernel_rfl) (by (try dsimp only);exact HS.out _ (fun _=>False) (Touch.ah (aw zR)) id id) fun hHeld => ?_
 refine tk 0 ?_ (hy:=by intro w h;unfold cn at h;go_simp;try with_reducible rfl)
 refine tk 1 ?_ (hy:=by intro w h;unfold cn at h;go_simp;try with_reducible rfl)
 refine tk 2 ?_ (hy:=by intro w h;unfold cn at h;go_simp;try with_reducible rfl)
 refine tk 3 ?_ (hy:=by intro w h;unfold cn at h;go_simp;try with_reducible rfl)
 refine tk 4 ?_ (hy:=by intro w h;unfold cn at h;go_simp;try with_reducible rfl)
 refine tk 5 ?_ (hy:=by intro w h;unfold cn at h;go_simp;try with_reducible rfl)
 refine tk 6 ?_ (hy:=by intro w h;unfold cn at h;go_simp;try with_reducible rfl)
 refine tk 7 ?_ (hy:=by intro w h;unfold cn at h;go_simp;try with_reducible rfl)
 refine tk 8 ?_ (hy:=by intro w h;unfold cn at h;go_simp;try with_reducible rfl)
 refine tk 9 ?_ (hy:=by intro w h;unfold cn at h;go_simp;try with_reducible rfl)
 refine tk 10 ?_ (hy:=by intro w h;unfold cn at h;go_simp;try with_reducible rfl)
 refine tk 11 ?_ (hy:=by intro w h;unfold cn at h;go_simp;try with_reducible rfl)
 refine tk 12 ?_ (hy:=by intro w h;unfold cn at h;go_simp;try with_reducible rfl)
 refine tk 13 ?_ (hy:=by intro w h;unfold cn at h;go_simp;try with_reducible rfl)
 refine tk 14 ?_ (hy:=by intro w h;unfold cn at h;go_simp;try with_reducible rfl)
 refine tk 15 ?_ (hy:=by intro w h;unfold cn at h;go_simp;try with_reducible rfl)
 refine tr 16 fun K hK => ?_
 go_simp
 go_at_call 59
 refine (HC.out _ (aw zR)).mono ?_
 intro e w1 hout
 obtain ⟨va,vc,H1,rfl,hs1,st1,ho1,hf1⟩:=hout.read
 have ht1:=(Touch.ah (F:=bP s H) (aw (Below.refl w2.heap.size w2))).trans st1.aD
 obtain ⟨z0,z1,z2,z3,zf⟩:=cw (ht1.at HO.out.1 HO.out.2)
 have hr1:=zH (zA hs1 (zA ((Step.ah (aw (Below.refl w2.heap.size w2))).trans st1) (zA ho1 (zA hf1 ht1))))
 clear hs1 st1 ho1 hf1 ht1 hout
 go_wp2_with fail
 refine hK.out _ _ (by (try dsimp only);exact HS.out _ _ hr1.out.2.2.2.2 HN.out.1 HN.out.2.1) fun hHeld => ?_
 clear hK K
 try simp only [Act.put,zS,zT,zU]
 refine tk 17 ?_ (hy:=by intro w h;unfold cn at h;go_simp;try with_reducible rfl)
 refine tk 18 ?_ (hy:=by intro w h;unfold cn at h;go_simp;try with_reducible rfl)
 refine tk 19 ?_ (hy:=by intro w h;unfold cn at h;go_simp;try with_reducible rfl)
 refine tk 20 ?_ (hy:=by intro w h;unfold cn at h;go_simp;try with_reducible rfl)
 refine tr 21 fun K hK => ?_
 go_simp
 refine hK.out _ _ (by (try dsimp only);exact HS.out _ (fun i=>bP s H i∨i=O) ((hr1.out.2.2.2.2.mono fun i h=>.inl h).set _ _ _ (.inr rfl)) (fun h=>h.elim HN.out.1 HN.out.2.2.1) (fun h=>h.elim HN.out.2.1 HN.out.2.2.2)) fun hHeld => ?_
 clear hK K
 try simp only [Act.put,zS,zT,zU]
 refine tk 22 ?_ (hy:=by intro w h;unfold cn at h;go_simp;try with_reducible rfl)
 refine wpAnyH_done (by kernel_rfl) ?_ _
 refine NoPanic.normal ?_
 have ho:=zH (zA (hr1.out.2.2.2.2.at HO.out.1 HO.out.2) (hr1.out.2.2.2.2.at HI.out.rR HI.out.nR))
 have rOa:(w1.setCell ⟨O,2,none⟩ (.slice va (outs t.2.2.2.2 t.2.2.2.1).length vc)).heap[O]? = _:=av ho.out.1
 have ta:Touch (aM O) w1 (w1.setCell ⟨O,2,none⟩ (.slice va (outs t.2.2.2.2 t.2.2.2.1).length vc)):=(Touch.refl (aM O) w1).set O 2 _ rfl
 have HA:=zH (zA rOa (zA (ta.at ho.out.2 (fun e=>HI.out.ne.2.2.2.2 (show R=O from e).symm)) ta))
 clear rOa ta z0 z1 z2 z3 zf HC HS ho
 generalize w1.setCell ⟨O,2,none⟩ (.slice va (outs t.2.2.2.2 t.2.2.2.1).length vc)=wa at *
 obtain ⟨z0,z1,z2,z3,zf⟩:=cw (show wa.heap[O]? = some (.cells #[.string ⟨#[]⟩,.slice none 0 0,.slice va (outs t.2.2.2.2 t.2.2.2.1).length vc,.bool false] 34 (0,0)) from HA.out.1)
 obtain ⟨y0,y1,y2,y3,yf⟩:=cw HA.out.2.1
 go_wp2_with fail
 obtain ⟨q0,q1,q2,q3,qf⟩:=cw (eO HA.out.2.1 (.string ⟨#[]⟩) (.slice none 0 0) (.slice va (outs t.2.2.2.2 t.2.2.2.1).length vc) (.bool false))
 refine bodyPost_ret (v:=.tuple #[.agg #[.string ⟨#[]⟩,.slice none 0 0,.slice va (outs t.2.2.2.2 t.2.2.2.1).length vc,.bool false],.int .i64 t.2.2.2.2]) ?_ rfl ?_
 ·
  change (results _ _).run _ (lL _ _ _ _ _ _)=_
  simp [results,results32,go_sem,q0,q1,q2,q3]
  rfl
 ·
  exact iV HI.out hr1.out.1 hr1.out.2.1 HF.out ⟨⟨#[]⟩,[],outs t.2.2.2.2 t.2.2.2.1,false⟩ t.2.2.2.2 none 0 va vc zN (hr1.out.2.2.1) (fun g hg=>by simp [Value.ownBlock] at hg) (hr1.out.2.2.2.1) HA.out.2.2 (cN wa R _ _ _ _)
theorem Ls (p pa:Nat) (W:gz) (G:Nat→Prop) (x:cW) (ba:Option Addr) (bc:Nat) (ra:Option Addr) (rc:Nat) (w:World) (h:bI X w p W G) (hx:fG w pa x ba bc ra rc) (hpa : ¬ G pa) (ok:W.m.Ok) (kn:W.m.kh) (g:W.q.Good) (fit:W.S.Fit) (hh:0<W.m.an.busy.length→W.m.an.home<w.heap.size) (hi:aJ w ra x.reads G) (hcap:x.reads.length≤rc) (hm:x.reads.length≤1000000) (hv:x.value.size<140737488355328) (hat:0≤x.at_∧x.at_<4096) (hwi:0≤x.width∧x.width≤8) (hk:x.kind=4):Calls prog 32 #[.pointer (some ⟨p,0,none⟩),.pointer (some ⟨pa,0,none⟩)] w (eL X p ⟨(iP W.m W.q W.S x.key x.reads).1,(iP W.m W.q W.S x.key x.reads).2.1,(iP W.m W.q W.S x.key x.reads).2.2.1⟩ ⟨⟨#[]⟩,[],outs (iP W.m W.q W.S x.key x.reads).2.2.2.2 (iP W.m W.q W.S x.key x.reads).2.2.2.1,false⟩ (iP W.m W.q W.S x.key x.reads).2.2.2.2 G w):=by
 obtain ⟨s,k,c,b,H,z,I⟩:=nz h hx hpa hh hi
 have c0:w.cell? ⟨pa,0,none⟩=some (.int .i64 4):=by rw [← hk];exact cell_of hx 0
 have hpl:=aV hx
 have HI:=zH I
 have HC:=zH (fun w' (hb:Below ((w.alloc ZA).alloc ZA).heap.size ((w.alloc ZA).alloc ZA) w')=>wY s k c b rc W.m W.q W.S H x.key ra x.reads w' (I.sys.aj hb) ok g (fun hl=>zV (I.home hl) hb.size) (I.ints.step (Step.ah hb)) hcap hm fit)
 have HF:=zH (Be ok g fit x.key x.reads).2.2
 generalize iP W.m W.q W.S x.key x.reads=t at *
 clear h I hx hpa hh hi hcap hm kn ok g fit hv hat hwi
 go_enter func32,ntmps32
 go_upto_region 13 with fail
 have eZ:(w.alloc (.cells #[.string ⟨#[]⟩,.slice none 0 0,.slice none 0 0,.bool false] 34)).alloc (.cells #[.string ⟨#[]⟩,.slice none 0 0,.slice none 0 0,.bool false] 34)=(w.alloc ZA).alloc ZA:=rfl
 rw [eZ]
 clear eZ c0 hpl
 generalize (w.alloc ZA).alloc ZA=w2 at *
 have HGE:=zH HI.out.ge
 generalize hR:w.heap.size=R at HI HGE ⊢
 generalize hO:R+1=O at HI HGE ⊢
 have HN:=zH (zA HI.out.np (zA HI.out.KF (zA HI.out.ne.1 HI.out.ne.2.1)))
 have HO:=zH (zA HI.out.rO HI.out.nO)
 have HS:=zH (fun w' (F:Nat→Prop) (t:Touch F w2 w') n1 n2=>HI.out.reads F t n1 n2)
 clear hR hO
 refine wp_region_noPanic ?_
 refine wp_region_held_drew (S:=(cn s b p pa x ra rc)) (by kernel_rfl) (by (try dsimp only);exact HS.out _ (fun _=>False) (Touch.ah (aw zR)) id id) fun hHeld => ?_
 refine tk 0 ?_ (hy:=by intro w h;unfold cn at h;go_simp;try with_reducible rfl)
 refine tk 1 ?_ (hy:=by intro w h;unfold cn at h;go_simp;try with_reducible rfl)
 refine tk 2 ?_ (hy:=by intro w h;unfold cn at h;go_simp;try with_reducible rfl)
 refine tk 3 ?_ (hy:=by intro w h;unfold cn at h;go_simp;try with_reducible rfl)
 refine tk 4 ?_ (hy:=by intro w h;unfold cn at h;go_simp;try with_reducible rfl)
 refine tk 5 ?_ (hy:=by intro w h;unfold cn at h;go_simp;try with_reducible rfl)
 refine tk 6 ?_ (hy:=by intro w h;unfold cn at h;go_simp;try with_reducible rfl)
 refine tk 7 ?_ (hy:=by intro w h;unfold cn at h;go_simp;try with_reducible rfl)
 refine tk 8 ?_ (hy:=by intro w h;unfold cn at h;go_simp;try with_reducible rfl)
 refine tk 9 ?_ (hy:=by intro w h;unfold cn at h;go_simp;try with_reducible rfl)
 refine tk 10 ?_ (hy:=by intro w h;unfold cn at h;go_simp;try with_reducible rfl)
 refine tk 11 ?_ (hy:=by intro w h;unfold cn at h;go_simp;try with_reducible rfl)
 refine tr 12 fun K hK => ?_
 go_simp
 go_at_call 61
 refine (HC.out _ (aw zR)).mono ?_
 intro e w1 hout
 obtain ⟨va,vc,H1,rfl,hs1,st1,ho1,hf1⟩:=hout.read
 have ht1:=(Touch.ah (F:=bP s H) (aw (Below.refl w2.heap.size w2))).trans st1.aD
 obtain ⟨z0,z1,z2,z3,zf⟩:=cw (ht1.at HO.out.1 HO.out.2)
 have hr1:=zH (zA hs1 (zA ((Step.ah (aw (Below.refl w2.heap.size w2))).trans st1) (zA ho1 (zA hf1 ht1))))
 clear hs1 st1 ho1 hf1 ht1 hout
 go_wp2_with fail
 refine hK.out _ _ (by (try dsimp only);exact HS.out _ _ hr1.out.2.2.2.2 HN.out.1 HN.out.2.1) fun hHeld => ?_
 clear hK K
 try simp only [Act.put,zS,zT,zU]
 refine tk 13 ?_ (hy:=by intro w h;unfold cn at h;go_simp;try with_reducible rfl)
 refine tk 14 ?_ (hy:=by intro w h;unfold cn at h;go_simp;try with_reducible rfl)
 refine tk 15 ?_ (hy:=by intro w h;unfold cn at h;go_simp;try with_reducible rfl)
 refine tk 16 ?_ (hy:=by intro w h;unfold cn at h;go_simp;try with_reducible rfl)
 refine tr 17 fun K hK => ?_
 go_simp
 refine hK.out _ _ (by (try dsimp only);exact HS.out _ (fun i=>bP s H i∨i=O) ((hr1.out.2.2.2.2.mono fun i h=>.inl h).set _ _ _ (.inr rfl)) (fun h=>h.elim HN.out.1 HN.out.2.2.1) (fun h=>h.elim HN.out.2.1 HN.out.2.2.2)) fun hHeld => ?_
 clear hK K
 try simp only [Act.put,zS,zT,zU]
 refine tk 18 ?_ (hy:=by intro w h;unfold cn at h;go_simp;try with_reducible rfl)
 refine wpAnyH_done (by kernel_rfl) ?_ _
 refine NoPanic.normal ?_
 have ho:=zH (zA (hr1.out.2.2.2.2.at HO.out.1 HO.out.2) (hr1.out.2.2.2.2.at HI.out.rR HI.out.nR))
 have rOa:(w1.setCell ⟨O,2,none⟩ (.slice va (outs t.2.2.2.2 t.2.2.2.1).length vc)).heap[O]? = _:=av ho.out.1
 have ta:Touch (aM O) w1 (w1.setCell ⟨O,2,none⟩ (.slice va (outs t.2.2.2.2 t.2.2.2.1).length vc)):=(Touch.refl (aM O) w1).set O 2 _ rfl
 have HA:=zH (zA rOa (zA (ta.at ho.out.2 (fun e=>HI.out.ne.2.2.2.2 (show R=O from e).symm)) ta))
 clear rOa ta z0 z1 z2 z3 zf HC HS ho
 generalize w1.setCell ⟨O,2,none⟩ (.slice va (outs t.2.2.2.2 t.2.2.2.1).length vc)=wa at *
 obtain ⟨z0,z1,z2,z3,zf⟩:=cw (show wa.heap[O]? = some (.cells #[.string ⟨#[]⟩,.slice none 0 0,.slice va (outs t.2.2.2.2 t.2.2.2.1).length vc,.bool false] 34 (0,0)) from HA.out.1)
 obtain ⟨y0,y1,y2,y3,yf⟩:=cw HA.out.2.1
 go_wp2_with fail
 obtain ⟨q0,q1,q2,q3,qf⟩:=cw (eO HA.out.2.1 (.string ⟨#[]⟩) (.slice none 0 0) (.slice va (outs t.2.2.2.2 t.2.2.2.1).length vc) (.bool false))
 refine bodyPost_ret (v:=.tuple #[.agg #[.string ⟨#[]⟩,.slice none 0 0,.slice va (outs t.2.2.2.2 t.2.2.2.1).length vc,.bool false],.int .i64 t.2.2.2.2]) ?_ rfl ?_
 ·
  change (results _ _).run _ (lL _ _ _ _ _ _)=_
  simp [results,results32,go_sem,q0,q1,q2,q3]
  rfl
 ·
  exact iV HI.out hr1.out.1 hr1.out.2.1 HF.out ⟨⟨#[]⟩,[],outs t.2.2.2.2 t.2.2.2.1,false⟩ t.2.2.2.2 none 0 va vc zN (hr1.out.2.2.1) (fun g hg=>by simp [Value.ownBlock] at hg) (hr1.out.2.2.2.1) HA.out.2.2 (cN wa R _ _ _ _)
end
end Go.Proofs.YtcfdenckiigdaaaGreat

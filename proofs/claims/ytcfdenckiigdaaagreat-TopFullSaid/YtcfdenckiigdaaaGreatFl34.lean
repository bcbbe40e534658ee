/- Part 34 of the contracts. -/
import Derived.Test.YtcfdenckiigdaaaGreatFl33
set_option linter.unusedVariables false
set_option maxRecDepth 100000
set_option maxHeartbeats 4000000
namespace Go.Proofs.YtcfdenckiigdaaaGreat
open Tryz
section
theorem D6 (m:ag) (l:Nat) (hs:m.dQ=true) (h6:m.ay=6) (hl:m.left=((l+1:Nat):Int)):m.clock 15=(bitsOf m.now m.op.data l,{ m.aW m.core.pass with left:=(l:Int) }):=by
 have e:(m.aW m.core.pass).next=m.aW m.core.pass:=by
  unfold ag.next
  rw [if_neg (show ¬(m.aW m.core.pass).left=0 by show ¬ m.left=0;omega)]
 unfold ag.clock
 rw [mK,if_pos (show (m.aW m.core.pass).dQ=true from hs)]
 unfold ag.step
 rw [show (m.aW m.core.pass).ay=6 from h6,if_neg (by decide),if_neg (by decide),if_neg (by decide),if_neg (by decide),if_neg (by decide),if_pos rfl]
 unfold ag.bU
 rw [e,show (m.aW m.core.pass).left - 1=(l:Int) by show m.left - 1=_;omega]
 rfl
theorem BU (m:ag) (hs:m.dQ=true) (h6:m.ay=6) (hl:m.left=0) (v:Int) (hv:(m.aW m.core.pass).eM m.told=v):m.clock 15=(bitsOf v m.op.data (many m.op.data - 1),{ m.aW m.core.pass with now:=v,left:=many m.op.data - 1,told:=m.told+1 }):=by
 have e:(m.aW m.core.pass).next={ m.aW m.core.pass with now:=v,left:=many m.op.data,told:=m.told+1 }:=by
  unfold ag.next
  rw [if_pos (show (m.aW m.core.pass).left=0 from hl),← hv]
  rfl
 unfold ag.clock
 rw [mK,if_pos (show (m.aW m.core.pass).dQ=true from hs)]
 unfold ag.step
 rw [show (m.aW m.core.pass).ay=6 from h6,if_neg (by decide),if_neg (by decide),if_neg (by decide),if_neg (by decide),if_neg (by decide),if_pos rfl]
 unfold ag.bU
 rw [e]
 rfl
theorem uw (L:Int) : ∀ (l:Nat) (m:ag),m.dQ=true→m.ay=6→m.left=(l:Int)→listen L l m=(List.range l).reverse.map (fun i:Nat=>heard L (bitsOf m.now m.op.data i))∧feed (List.replicate l 15) m={ m.aW (m.core.bD l) with left:=0 }
 | 0,m,_,_,hl=>⟨rfl,by
   have hl:m.left=0:=hl
   show m={ m.aW m.core with left:=0 }
   rw [← hl];rfl⟩
 | l+1,m,hs,h6,hl=>by
  have e:=D6 m l hs h6 hl
  obtain ⟨h1,h2⟩:=uw L l { m.aW m.core.pass with left:=(l:Int) } hs h6 rfl
  refine ⟨?_,?_⟩
  ·
   show heard L (m.clock 15).1::listen L l (m.clock 15).2=_
   rw [e,List.range_succ,List.reverse_append,List.map_append]
   simp only [h1]
   rfl
  ·
   show feed (List.replicate l 15) (m.clock 15).2=_
   rw [e]
   simp only [h2]
   rfl
theorem GX (L v:Int) (hL:L=1∨L=4) (h0:0≤v) (h1:v<256):cZ ((List.range (many L).toNat).reverse.map fun i:Nat=>heard L (bitsOf v L i)) L=v:=by
 rcases hL with rfl | rfl
 ·
  rw [show (List.range (many 1).toNat).reverse=[7,6,5,4,3,2,1,0] by decide]
  have e : ∀ y:Int,(13+2 * (y % 2)) / 2 % 2=y % 2:=fun y=>by omega
  simp only [cZ,heard,bitsOf,if_true,List.map_cons,List.map_nil,List.foldl_cons,List.foldl_nil,e]
  simp only [show ((2:Int) ^ (((7:Nat):Int)).toNat)=128 by decide,show ((2:Int) ^ (((6:Nat):Int)).toNat)=64 by decide,show ((2:Int) ^ (((5:Nat):Int)).toNat)=32 by decide,show ((2:Int) ^ (((4:Nat):Int)).toNat)=16 by decide,show ((2:Int) ^ (((3:Nat):Int)).toNat)=8 by decide,show ((2:Int) ^ (((2:Nat):Int)).toNat)=4 by decide,show ((2:Int) ^ (((1:Nat):Int)).toNat)=2 by decide,show ((2:Int) ^ (((0:Nat):Int)).toNat)=1 by decide]
  have e7:v / 128 % 2=v / 128:=by omega
  have e6:v / 64=2 * (v / 128)+v / 64 % 2:=by omega
  have e5:v / 32=2 * (v / 64)+v / 32 % 2:=by omega
  have e4:v / 16=2 * (v / 32)+v / 16 % 2:=by omega
  have e3:v / 8=2 * (v / 16)+v / 8 % 2:=by omega
  have e2:v / 4=2 * (v / 8)+v / 4 % 2:=by omega
  have e1:v / 2=2 * (v / 4)+v / 2 % 2:=by omega
  have e0:v=2 * (v / 2)+v / 1 % 2:=by omega
  generalize v / 128 % 2=x7 at *
  generalize v / 64 % 2=x6 at *
  generalize v / 32 % 2=x5 at *
  generalize v / 16 % 2=x4 at *
  generalize v / 8 % 2=x3 at *
  generalize v / 4 % 2=x2 at *
  generalize v / 2 % 2=x1 at *
  generalize v / 1 % 2=x0 at *
  omega
 ·
  rw [show (List.range (many 4).toNat).reverse=[1,0] by decide]
  simp only [cZ,heard,bitsOf,show ¬((4:Int)=1) by decide,if_false,List.map_cons,List.map_nil,List.foldl_cons,List.foldl_nil]
  simp only [show ((16:Int) ^ (((1:Nat):Int)).toNat)=16 by decide,show ((16:Int) ^ (((0:Nat):Int)).toNat)=1 by decide]
  omega
variable {c:Core} {op:gF} {a mo t nw:Int} {md:Bool} {ds:List Int} {h:Nat}
theorem LS (L:Int) (hL:L=1∨L=4) (ho:op.data=L) (o:List Int) (n:Nat) (bh:Int) (hg:(aI.get L ⟨K c op 6 0 a mo md ds t nw h,o,n,bh⟩).1=true) (v:Int) (hv:(K c.pass op 6 0 a mo md ds t nw h).eM t=v):(aI.get L ⟨K c op 6 0 a mo md ds t nw h,o,n,bh⟩).2=⟨K (c.bD (many L).toNat) op 6 0 a mo md ds (t+1) v h,o++[v],n+(many L).toNat,bh⟩:=by
 have hv2:0≤v∧v<256:=by rw [← hv];exact nm _ _
 have hp:=xi hL
 obtain ⟨l,hl⟩ : ∃ l,(many L).toNat=l+1:=⟨(many L).toNat - 1,by omega⟩
 have hml:many L=((l+1:Nat):Int):=by omega
 have e:=BU (K c op 6 0 a mo md ds t nw h) rfl rfl rfl v hv
 have eo:(K c op 6 0 a mo md ds t nw h).op.data=L:=ho
 rw [eo,hml,show ((l+1:Nat):Int) - 1=(l:Int) by omega] at e
 obtain ⟨h1,h2⟩:=uw L l _ (show ({ (K c op 6 0 a mo md ds t nw h).aW (K c op 6 0 a mo md ds t nw h).core.pass with now:=v,left:=(l:Int),told:=t+1 }:ag).dQ=true from rfl) rfl rfl
 have hb:=GX L v hL hv2.1 hv2.2
 rw [hl,List.range_succ,List.reverse_append,List.map_append] at hb
 rw [Jq L _ hg,hl]
 have e1:listen L (l+1) (K c op 6 0 a mo md ds t nw h)=heard L (bitsOf v L l)::(List.range l).reverse.map (fun i:Nat=>heard L (bitsOf v L i)):=by
  show heard L ((K c op 6 0 a mo md ds t nw h).clock 15).1::listen L l ((K c op 6 0 a mo md ds t nw h).clock 15).2=_
  rw [e]
  congr 1
  have eo2:op.data=L:=ho
  rw [← eo2] at h1 ⊢
  exact h1
 have e2:feed (List.replicate (l+1) 15) (K c op 6 0 a mo md ds t nw h)=K (c.bD (l+1)) op 6 0 a mo md ds (t+1) v h:=by
  show feed (List.replicate l 15) ((K c op 6 0 a mo md ds t nw h).clock 15).2=_
  rw [e]
  exact h2
 simp only [e1,e2]
 congr 2
 exact congrArg (fun z=>[z]) hb
def Core.still (c:Core):Prop:=c.pass=c
theorem fC {c:Core} (hc:c.still) : ∀ n,c.bD n=c
 | 0=>rfl
 | n+1=>by show Core.bD n c.pass=c;rw [hc];exact fC hc n
def comes (c:Core) (op:gF) (a:Int) (t:Int) (n:Nat):List Int:=(List.range n).map fun i:Nat=>(K c op 6 0 a 0 false [] 0 0 0).eM (t+i)
theorem D8 (c:Core) (op:gF) (a t:Int) (n:Nat):comes c op a t (n+1)=(K c op 6 0 a 0 false [] 0 0 0).eM t::comes c op a (t+1) n:=by
 unfold comes
 rw [List.range_succ_eq_map,List.map_cons,List.map_map]
 simp only [Int.natCast_zero,Int.add_zero]
 congr 1
 refine List.map_congr_left fun i _ => ?_
 simp only [Function.comp]
 congr 1
 omega
theorem Jr (L:Int) (hL:L=1∨L=4) (ho:op.data=L) (hc:c.still) (bh:Int) : ∀ (k:Nat) (t nw:Int) (o:List Int) (n:Nat),(aI.fZ L k ⟨K c op 6 0 a mo md ds t nw h,o,n,bh⟩).1=true → ∃ nw',(aI.fZ L k ⟨K c op 6 0 a mo md ds t nw h,o,n,bh⟩).2.ar=K c op 6 0 a mo md ds (t+k) nw' h∧(aI.fZ L k ⟨K c op 6 0 a mo md ds t nw h,o,n,bh⟩).2.out=o++comes c op a t k
 | 0,t,nw,o,n,_=>⟨nw,by simp [aI.fZ],by simp [aI.fZ,comes]⟩
 | k+1,t,nw,o,n,hg=>by
  cases hp:(aI.get L ⟨K c op 6 0 a mo md ds t nw h,o,n,bh⟩).1 with
  | false=>rw [te L k _ hp] at hg;cases hg
  | true =>
   have e:=LS L hL ho o n bh hp _ rfl
   rw [vy L k _ hp,e,fC hc] at hg ⊢
   obtain ⟨nw',h1,h2⟩:=Jr L hL ho hc bh k _ _ _ _ hg
   refine ⟨nw',by rw [h1];congr 1;omega,?_⟩
   rw [h2,D8,List.append_assoc]
   rw [hc]
   rfl
def Ends (ps:List Ph) (m:ag) (o:List Int) (P:ag→List Int→Prop):Prop := ∀ n bh,(aI.eR ps ⟨m,o,n,bh⟩).1=true→P (aI.eR ps ⟨m,o,n,bh⟩).2.ar (aI.eR ps ⟨m,o,n,bh⟩).2.out
theorem Ends.nil {m:ag} {o:List Int} {P:ag→List Int→Prop} (h:P m o):Ends [] m o P:=fun _ _ _=>h
theorem Ends.dB {L:Int} {bs:List Int} {r:List Ph} {m:ag} {o:List Int} {P:ag→List Int→Prop} (h:Ends r (feed (ey L bs) m) o P):Ends (⟨L,bs,0,0⟩::r) m o P:=fun n bh hr=>by
 obtain ⟨h1,h2,e⟩:=dA hr
 obtain ⟨g1,g2,ge⟩:=dA h1
 obtain ⟨k1,k2,ke⟩:=dA g2
 have e3:(aI.phase ⟨L,bs,0,0⟩ ⟨m,o,n,bh⟩).2=(aI.dB L bs ⟨m,o,n,bh⟩).2:=ge.trans (ke.trans rfl)
 rw [e3,Aa L bs _ g1] at h2 e
 have:=h _ _ h2
 show P (andThen _ _).2.ar (andThen _ _).2.out
 rw [e]
 exact this
theorem Ends.dummy {k:Int} {r:List Ph} {m:ag} {o:List Int} {P:ag→List Int→Prop} (h:Ends r (feed (List.replicate k.toNat 15) m) o P):Ends (⟨0,[],k,0⟩::r) m o P:=fun n bh hr=>by
 obtain ⟨h1,h2,e⟩:=dA hr
 obtain ⟨g1,g2,ge⟩:=dA h1
 obtain ⟨k1,k2,ke⟩:=dA g2
 have k1:(aI.row (List.replicate k.toNat 15) ⟨m,o,n,bh⟩).1=true:=k1
 have e3:(aI.phase ⟨0,[],k,0⟩ ⟨m,o,n,bh⟩).2=(aI.row (List.replicate k.toNat 15) ⟨m,o,n,bh⟩).2:=ge.trans (ke.trans rfl)
 rw [e3,xF _ _ k1] at h2 e
 have:=h _ _ h2
 show P (andThen _ _).2.ar (andThen _ _).2.out
 rw [e]
 exact this
theorem Ends.fZ {L k:Int} (hL:L=1∨L=4) (ho:op.data=L) (hc:c.still) {o:List Int} {P:ag→List Int→Prop} (hP : ∀ nw',P (K c op 6 0 a mo md ds (t+k.toNat) nw' h) (o++comes c op a t k.toNat)):Ends [⟨L,[],0,k⟩] (K c op 6 0 a mo md ds t nw h) o P:=fun n bh hr=>by
 obtain ⟨h1,h2,e⟩:=dA hr
 obtain ⟨g1,g2,ge⟩:=dA h1
 obtain ⟨k1,k2,ke⟩:=dA g2
 have e3:(aI.phase ⟨L,[],0,k⟩ ⟨K c op 6 0 a mo md ds t nw h,o,n,bh⟩).2=(aI.fZ L k.toNat ⟨K c op 6 0 a mo md ds t nw h,o,n,bh⟩).2:=ge.trans (ke.trans rfl)
 obtain ⟨nw',f1,f2⟩:=Jr L hL ho hc bh k.toNat t nw o n k2
 show P (andThen _ _).2.ar (andThen _ _).2.out
 rw [e,e3]
 show P (aI.fZ L k.toNat ⟨K c op 6 0 a mo md ds t nw h,o,n,bh⟩).2.ar (aI.fZ L k.toNat ⟨K c op 6 0 a mo md ds t nw h,o,n,bh⟩).2.out
 rw [f1,f2]
 exact hP nw'
theorem Ends.get {L:Int} (hL:L=1∨L=4) (ho:op.data=L) {o:List Int} {P:ag→List Int→Prop} (v:Int) (hv:(K c.pass op 6 0 a mo md ds t nw h).eM t=v) (hP:P (K (c.bD (many L).toNat) op 6 0 a mo md ds (t+1) v h) (o++[v])):Ends [⟨L,[],0,1⟩] (K c op 6 0 a mo md ds t nw h) o P:=fun n bh hr=>by
 obtain ⟨h1,h2,e⟩:=dA hr
 obtain ⟨g1,g2,ge⟩:=dA h1
 obtain ⟨k1,k2,ke⟩:=dA g2
 have e3:(aI.phase ⟨L,[],0,1⟩ ⟨K c op 6 0 a mo md ds t nw h,o,n,bh⟩).2=(aI.fZ L 1 ⟨K c op 6 0 a mo md ds t nw h,o,n,bh⟩).2:=ge.trans (ke.trans rfl)
 have k2:(aI.fZ L 1 ⟨K c op 6 0 a mo md ds t nw h,o,n,bh⟩).1=true:=k2
 show P (andThen _ _).2.ar (andThen _ _).2.out
 rw [e,e3]
 show P (aI.fZ L 1 ⟨K c op 6 0 a mo md ds t nw h,o,n,bh⟩).2.ar (aI.fZ L 1 ⟨K c op 6 0 a mo md ds t nw h,o,n,bh⟩).2.out
 cases hp:(aI.get L ⟨K c op 6 0 a mo md ds t nw h,o,n,bh⟩).1 with
 | false=>rw [te L 0 _ hp] at k2;cases k2
 | true =>
  have e4:=LS L hL ho o n bh hp v hv
  rw [vy L 0 _ hp,e4]
  exact hP
end
section
def Core.bP (c:Core):Bool:=eT c.aZ
theorem ef {c:Core} (h:c.bP=false):c.still:=by
 unfold Core.still Core.pass
 unfold Core.bP eT at h
 cases hj:c.aZ with
 | none=>rfl
 | some j=>rw [hj] at h;simp only;rw [if_pos (by simpa using h)]
variable {c:Core} {op:gF} {a mo t nw:Int} {md:Bool} {ds:List Int} {h:Nat}
theorem fQ (b:Int) (hk:(K c op 0 8 a mo md ds t nw h).known b=true):(K c op 0 8 a mo md ds t nw h).cV b=if 0<(ak b).addr then K c (ak b) 2 (if (ak b).addr=1 then 24 else 6) a mo md ds t nw h else ag.behind (K c (ak b) 0 8 a mo md ds t nw h):=by
 unfold ag.cV
 rw [if_neg (by rw [hk];decide)]
 rfl
def Bt (ps:List Ph) (c:Core) (xs:List Int) (c':Core):Prop := ∀ (m:ag),m.dQ=false→m.core=c→Ends ps m.select [] fun m2 o=>m2.fw.core=c'∧o=xs
theorem fJ {m:ag} (hc:m.core=c) (hg:c.aD=false):m.select=K c gF.zero 0 8 0 0 false [] 0 0 m.home:=by
 unfold ag.select
 have e:m.aD=false:=by rw [← hg,← hc];rfl
 rw [e]
 subst hc
 rfl
theorem xK {m:ag} (hc:m.core=c) (hg:c.aD=true) (hq:c.bk=true) (hw:c.bP=false):m.select=K c (ak 235) 2 6 0 0 false [] 0 0 m.home:=by
 unfold ag.select
 have e:m.aD=true:=by rw [← hg,← hc];rfl
 rw [if_pos e,KR,hc]
 have hw':(K c gF.zero 0 8 0 0 false [] 0 0 m.home).bP=false:=hw
 rw [fQ 235 (by simp [ag.known,ag.xW,gH,ak,fN,hw'];exact hq)]
 simp [ak,fN]
def K0 (c:Core) (op:gF) (st left addr mode:Int) (cL:Bool) (data:List Int) (told now:Int) (h:Nat):ag:={ K c op st left addr mode cL data told now h with dQ:=false }
theorem iA (st left:Int) (h0:st≠0) (h1:st≠1) (hw:(K0 c op st left a mo md ds t nw h).whole=true):(K c op st left a mo md ds t nw h).fw=(K0 c op st left a mo md ds t nw h).gp:=by
 unfold ag.fw ag.ends
 show (if (K0 c op st left a mo md ds t nw h).ay=0∨(K0 c op st left a mo md ds t nw h).ay=1∨(K0 c op st left a mo md ds t nw h).whole=false then _ else _)=_
 rw [if_neg]
 ·
  rfl
 ·
  rintro (e | e | e)
  ·
   exact h0 e
  ·
   exact h1 e
  ·
   rw [hw] at e;cases e
theorem ti (b:Int) (hb:b=5∨b=53∨b=117):(K c op 0 8 a mo md ds t nw h).known b=true:=by
 rcases hb with rfl | rfl | rfl <;> simp [ag.known,ag.xW,gH,ak,fN]
theorem nD (b:Int) (hb:b=6∨b=90∨b=122∨b=159) (hw:c.bP=false):(K c op 0 8 a mo md ds t nw h).known b=true:=by
 have hw':(K c op 0 8 a mo md ds t nw h).bP=false:=hw
 rcases hb with rfl | rfl | rfl | rfl <;> simp [ag.known,ag.xW,gH,ak,fN,hw']
theorem xb (b:Int) (hb:b=107∨b=235) (hq:c.bk=true) (hw:c.bP=false):(K c op 0 8 a mo md ds t nw h).known b=true:=by
 have hw':(K c op 0 8 a mo md ds t nw h).bP=false:=hw
 have hq':(K c op 0 8 a mo md ds t nw h).bk=true:=hq
 rcases hb with rfl | rfl <;> simp [ag.known,ag.xW,gH,ak,fN,hw',hq']
theorem qC (b:Int) (hb:b=1∨b=2∨b=32) (hj:c.aZ=none):(K c op 0 8 a mo md ds t nw h).known b=true:=by
 have hj':(K c op 0 8 a mo md ds t nw h).aZ=none:=hj
 rcases hb with rfl | rfl | rfl <;> simp [ag.known,ag.xW,gH,ak,fN,hj']
theorem qy (b:Int) (h0:0≤b) (h1:b<256) (hk:(K (c.bD 8) gF.zero 0 8 0 0 false [] 0 0 h).known b=true) (hr:ak b=⟨b,0,false,0,0,false⟩) {P:ag→List Int→Prop} (hP:P (K (c.bD 8) (ak b) 7 0 0 0 false [] 0 0 h) []):Ends [⟨1,[b],0,0⟩] (K c gF.zero 0 8 0 0 false [] 0 0 h) [] P:=by
 refine Ends.dB (Ends.nil ?_)
 rw [jr b h0 h1,fQ b hk,if_neg (by rw [hr];exact Int.lt_irrefl 0)]
 have e:ag.behind (K (c.bD 8) (ak b) 0 8 0 0 false [] 0 0 h)=K (c.bD 8) (ak b) 7 0 0 0 false [] 0 0 h:=by
  unfold ag.behind ag.enter
  rw [hr]
  simp [K]
 rw [e]
 exact hP
theorem Fz (hg:c.aD=false) (hw:c.bP=false):Bt (aQ (ak 6) 0 [] 0) c [] { c with en:=true }:=fun m hs hm=>by
 rw [fJ hm hg]
 have st:=fC (ef hw) 8
 refine qy 6 (by decide) (by decide) (by rw [st];exact nD 6 (by simp) hw) rfl ⟨?_,rfl⟩
 rw [st,iA 7 0 (by decide) (by decide) rfl]
 rfl
def Core.bN (c:Core):Core:=match c.aZ with | some j=>if j.av = -1 then c else { c with aZ:=some { j with hZ:=true } } | none=>c
def Core.gM (c:Core):Core:=match c.aZ with | some j=>{ c with aZ:=some { j with hZ:=false } } | none=>c
theorem yz (m:ag):m.bN.core=m.core.bN:=by
 obtain ⟨a1,a2,a3,a4,a5,a6,aZ,a7,a8,a9,a10,a11,a12,a13,a14,a15,a16,a17,a18,a19⟩:=m
 cases aZ with
 | none=>rfl
 | some j =>
  show (if j.av = -1 then _ else _:ag).core=if j.av = -1 then _ else _
  split <;> rfl
theorem A5 (m:ag):m.gM.core=m.core.gM:=by
 obtain ⟨a1,a2,a3,a4,a5,a6,aZ,a7,a8,a9,a10,a11,a12,a13,a14,a15,a16,a17,a18,a19⟩:=m
 cases aZ <;> rfl
theorem KM (hg:c.aD=false):Bt (aQ (ak 117) 0 [] 0) c [] (c.bD 8).bN:=fun m hs hm=>by
 rw [fJ hm hg]
 refine qy 117 (by decide) (by decide) (ti 117 (by simp)) rfl ⟨?_,rfl⟩
 rw [iA 7 0 (by decide) (by decide) rfl]
 show (ag.bN _).core=_
 exact yz _
theorem KN (hg:c.aD=false) (hw:c.bP=false):Bt (aQ (ak 122) 0 [] 0) c [] c.gM:=fun m hs hm=>by
 rw [fJ hm hg]
 have st:=fC (ef hw) 8
 refine qy 122 (by decide) (by decide) (by rw [st];exact nD 122 (by simp) hw) rfl ⟨?_,rfl⟩
 rw [st,iA 7 0 (by decide) (by decide) rfl]
 show (ag.gM _).core=_
 exact A5 _
def Core.first (c:Core):Int:=DV c.bP c.en c.bq
def Core.second (c:Core):Int:=yO c.bk (match c.aZ with | none=>false | some j=>j.hZ)
theorem ug (b:Int) (h0:0≤b) (h1:b<256) (hk:(K (c.bD 8) gF.zero 0 8 0 0 false [] 0 0 h).known b=true) (hr:ak b=⟨b,0,false,0,1,false⟩) {P:ag→List Int→Prop} (v:Int) (hv:(K (c.bD 9) (ak b) 6 0 0 0 false [] 0 0 h).eM 0=v) (hP:P (K (c.bD 16) (ak b) 6 0 0 0 false [] 1 v h) [v]):Ends [⟨1,[b],0,0⟩,⟨1,[],0,1⟩] (K c gF.zero 0 8 0 0 false [] 0 0 h) [] P:=by
 refine Ends.dB ?_
 rw [jr b h0 h1,fQ b hk,if_neg (by rw [hr];exact Int.lt_irrefl 0)]
 have e:ag.behind (K (c.bD 8) (ak b) 0 8 0 0 false [] 0 0 h)=K (c.bD 8) (ak b) 6 0 0 0 false [] 0 0 h:=by
  unfold ag.behind ag.enter
  rw [hr]
  simp [K]
 rw [e]
 refine Ends.get (.inl rfl) (by rw [hr]) v ?_ ?_
 ·
  rw [← hv,show c.bD 9=(c.bD 8).pass from iC 8 1 c]
 ·
  rw [show (c.bD 8).bD (many 1).toNat=c.bD 16 from (iC 8 8 c).symm]
  exact hP
theorem LR (hg:c.aD=false):Bt (aQ (ak 5) 0 [] 1) c [(c.bD 9).first] (c.bD 16):=fun m hs hm=>by
 rw [fJ hm hg]
 refine ug 5 (by decide) (by decide) (ti 5 (by simp)) rfl (c.bD 9).first rfl ⟨?_,rfl⟩
 rw [iA 6 0 (by decide) (by decide) rfl]
 rfl
theorem L4 (hg:c.aD=false):Bt (aQ (ak 53) 0 [] 1) c [(c.bD 9).second] (c.bD 16):=fun m hs hm=>by
 rw [fJ hm hg]
 refine ug 53 (by decide) (by decide) (ti 53 (by simp)) rfl (c.bD 9).second rfl ⟨?_,rfl⟩
 rw [iA 6 0 (by decide) (by decide) rfl]
 rfl
theorem KO (hg:c.aD=false) (hw:c.bP=false):Bt (aQ (ak 159) 0 [] 3) c [239,64,12] c:=fun m hs hm=>by
 rw [fJ hm hg]
 have st:=fun n=>fC (ef hw) n
 show Ends [⟨1,[159],0,0⟩,⟨1,[],0,3⟩] _ _ _
 refine Ends.dB ?_
 rw [jr 159 (by decide) (by decide),st,fQ 159 (nD 159 (by simp) hw),if_neg (by decide)]
 refine Ends.fZ (op:=ak 159) (.inl rfl) rfl (ef hw) fun nw'=>⟨?_,rfl⟩
 rw [iA 6 0 (by decide) (by decide) rfl]
 rfl
theorem L5 (hg:c.aD=false) (hw:c.bP=false):Bt (aQ (ak 90) 0 [] 32) c (comes c (ak 90) 0 0 32) c:=fun m hs hm=>by
 rw [fJ hm hg]
 have st:=fun n=>fC (ef hw) n
 show Ends [⟨1,[90],0,0⟩,⟨1,[0,0 / 256,0 % 256],0,0⟩,⟨0,[],8,0⟩,⟨1,[],0,32⟩] _ _ _
 refine Ends.dB ?_
 rw [jr 90 (by decide) (by decide),st,fQ 90 (nD 90 (by simp) hw),if_pos (by decide)]
 refine Ends.dB ?_
 rw [show (if (ak 90).addr=1 then (24:Int) else 6)=if (1:Int)=1 then 24 else 6 from rfl,kL 1 0 (.inl rfl) rfl (by decide) (by decide),st]
 refine Ends.dummy ?_
 rw [show ag.behind (K c (ak 90) 2 0 0 0 false [] 0 0 m.home)=K c (ak 90) 4 ((7+1:Nat):Int) 0 0 false [] 0 0 m.home from rfl,show (8:Int).toNat=7+1 from rfl,nx 7 c,st]
 refine Ends.fZ (op:=ak 90) (.inl rfl) rfl (ef hw) fun nw'=>⟨?_,rfl⟩
 rw [iA 6 0 (by decide) (by decide) rfl]
 rfl
theorem KL (p:Int) (n:Nat) (h0:0≤p) (h1:p<4096) (hn:0<n) (hg:c.aD=false) (hq:c.bk=true) (hw:c.bP=false):Bt (aQ (ak 107) p [] n) c (comes c (ak 107) p 0 n) c:=fun m hs hm=>by
 rw [fJ hm hg]
 have st:=fun n=>fC (ef hw) n
 have e:aQ (ak 107) p [] n=[⟨1,[107],0,0⟩,⟨1,[0,p / 256,p % 256],0,0⟩,⟨0,[],8,0⟩,⟨4,[],0,n⟩]:=by
  simp [aQ,ak,fN,hn]
 rw [e]
 refine Ends.dB ?_
 rw [jr 107 (by decide) (by decide),st,fQ 107 (xb 107 (by simp) hq hw),if_pos (by decide)]
 refine Ends.dB ?_
 rw [show (if (ak 107).addr=1 then (24:Int) else 6)=if (1:Int)=1 then 24 else 6 from rfl,kL 1 p (.inl rfl) rfl h0 h1,st]
 refine Ends.dummy ?_
 rw [show ag.behind (K c (ak 107) 2 0 p 0 false [] 0 0 m.home)=K c (ak 107) 4 ((7+1:Nat):Int) p 0 false [] 0 0 m.home from rfl,show (8:Int).toNat=7+1 from rfl,nx 7 c,st]
 refine Ends.fZ (op:=ak 107) (.inr rfl) rfl (ef hw) fun nw'=>⟨?_,by show []++comes c (ak 107) p 0 (n:Int).toNat=_;simp⟩
 rw [iA 6 0 (by decide) (by decide) rfl]
 rfl
theorem B1 (p:Int) (h0:0≤p) (h1:p<4096) (hw:c.bP=false) (h:Nat):Ends ((aQ (ak 235) p [160] 16).drop 1) (K c (ak 235) 2 6 0 0 false [] 0 0 h) [] fun m2 o=>m2.fw.core={ c with aD:=true }∧o=comes c (ak 235) p 0 16:=by
 have st:=fun n=>fC (ef hw) n
 show Ends [⟨4,[0,p / 256,p % 256],0,0⟩,⟨4,[160],0,0⟩,⟨0,[],4,0⟩,⟨4,[],0,16⟩] _ _ _
 refine Ends.dB ?_
 rw [show K c (ak 235) 2 6 0 0 false [] 0 0 h=K c (ak 235) 2 (if (4:Int)=1 then 24 else 6) 0 0 false [] 0 0 h from rfl,kL 4 p (.inr rfl) rfl h0 h1,st]
 refine Ends.dB ?_
 rw [show ag.behind (K c (ak 235) 2 0 p 0 false [] 0 0 h)=K c (ak 235) 3 (many 4) p 0 false [] 0 0 h from rfl,zj 4 160 (.inr rfl) rfl (by decide) (by decide),st]
 refine Ends.dummy ?_
 rw [show ag.behind (K c (ak 235) 3 0 p 160 true [] 0 0 h)=K c (ak 235) 4 ((3+1:Nat):Int) p 160 true [] 0 0 h from rfl,show (4:Int).toNat=3+1 from rfl,nx 3 c,st]
 refine Ends.fZ (op:=ak 235) (.inr rfl) rfl (ef hw) fun nw'=>⟨?_,rfl⟩
 rw [iA 6 0 (by decide) (by decide) rfl]
 rfl
theorem KP (p:Int) (h0:0≤p) (h1:p<4096) (hg:c.aD=false) (hq:c.bk=true) (hw:c.bP=false):Bt (aQ (ak 235) p [160] 16) c (comes c (ak 235) p 0 16) { c with aD:=true }:=fun m hs hm=>by
 rw [fJ hm hg]
 have st:=fun n=>fC (ef hw) n
 show Ends (⟨1,[235],0,0⟩::(aQ (ak 235) p [160] 16).drop 1) _ _ _
 refine Ends.dB ?_
 rw [jr 235 (by decide) (by decide),st,fQ 235 (xb 235 (by simp) hq hw),if_pos (by decide)]
 exact B1 p h0 h1 hw _
theorem Jd (p:Int) (h0:0≤p) (h1:p<4096) (hg:c.aD=true) (hq:c.bk=true) (hw:c.bP=false):Bt ((aQ (ak 235) p [160] 16).drop 1) c (comes c (ak 235) p 0 16) { c with aD:=true }:=fun m hs hm=>by
 rw [xK hm hg hq hw]
 exact B1 p h0 h1 hw _
theorem GL (hg:c.aD=true) (hq:c.bk=true) (hw:c.bP=false):Bt [bX] c [] { c with aD:=false }:=fun m hs hm=>by
 rw [xK hm hg hq hw]
 have st:=fun n=>fC (ef hw) n
 refine Ends.dB (Ends.nil ?_)
 rw [show ey 4 [0,0,0,0]=ey 4 [0,0 / 256,0 % 256]++ey 4 [0] from rfl,rn,show K c (ak 235) 2 6 0 0 false [] 0 0 m.home=K c (ak 235) 2 (if (4:Int)=1 then 24 else 6) 0 0 false [] 0 0 m.home from rfl,kL 4 0 (.inr rfl) rfl (by decide) (by decide),st,show ag.behind (K c (ak 235) 2 0 0 0 false [] 0 0 m.home)=K c (ak 235) 3 (many 4) 0 0 false [] 0 0 m.home from rfl,zj 4 0 (.inr rfl) rfl (by decide) (by decide),st,show ag.behind (K c (ak 235) 3 0 0 0 true [] 0 0 m.home)=K c (ak 235) 4 4 0 0 true [] 0 0 m.home from rfl]
 refine ⟨?_,rfl⟩
 rw [iA 4 4 (by decide) (by decide) rfl]
 rfl
def Core.dO (c:Core) (p:Int) (j:iE):Core:=if c.en=false then c else if (c.bq&&decide (p<2048))=true then { c with en:=false } else { c with aZ:=some { j with left:=c.busy.headD 8 },busy:=c.busy.drop 1 }
theorem uH (m:ag) (j:iE):(m.dO j).core=m.core.dO m.addr j:=by
 unfold ag.dO Core.dO
 show _=if m.en=false then _ else if (m.bq&&decide (m.addr<2048))=true then _ else _
 split
 ·
  rfl
 ·
  split <;> rfl
theorem L3 (p:Int) (h0:0≤p) (h1:p<4096) (hg:c.aD=false) (hj:c.aZ=none):Bt (aQ (ak 32) p [] 0) c [] (c.dO p ⟨p / 512,0,ByteArray.empty,0,false⟩):=fun m hs hm=>by
 rw [fJ hm hg]
 have st:=fun n=>fC (ef (show c.bP=false by unfold Core.bP;rw [hj];rfl)) n
 show Ends [⟨1,[32],0,0⟩,⟨1,[0,p / 256,p % 256],0,0⟩] _ _ _
 refine Ends.dB ?_
 rw [jr 32 (by decide) (by decide),st,fQ 32 (qC 32 (by simp) hj),if_pos (by decide)]
 refine Ends.dB (Ends.nil ?_)
 rw [show (if (ak 32).addr=1 then (24:Int) else 6)=if (1:Int)=1 then 24 else 6 from rfl,kL 1 p (.inl rfl) rfl h0 h1,st,show ag.behind (K c (ak 32) 2 0 p 0 false [] 0 0 m.home)=K c (ak 32) 7 0 p 0 false [] 0 0 m.home from rfl]
 refine ⟨?_,rfl⟩
 rw [iA 7 0 (by decide) (by decide) rfl]
 show (ag.dO _ _).core=_
 rw [uH]
 rfl
theorem MJ (p:Int) (bs:List Int) (h0:0≤p) (h1:p<4096) (hl:0<bs.length) (hb : ∀ b ∈ bs,0≤b∧b<256) (hg:c.aD=false) (hj:c.aZ=none):Bt (aQ (ak 2) p bs 0) c [] (c.dO p ⟨-1,p - p % 32,lA p bs,0,false⟩):=fun m hs hm=>by
 rw [fJ hm hg]
 have st:=fun n=>fC (ef (show c.bP=false by unfold Core.bP;rw [hj];rfl)) n
 have e:aQ (ak 2) p bs 0=[⟨1,[2],0,0⟩,⟨1,[0,p / 256,p % 256],0,0⟩,⟨1,bs,0,0⟩]:=by simp [aQ,ak,fN,hl]
 rw [e]
 refine Ends.dB ?_
 rw [jr 2 (by decide) (by decide),st,fQ 2 (qC 2 (by simp) hj),if_pos (by decide)]
 refine Ends.dB ?_
 rw [show (if (ak 2).addr=1 then (24:Int) else 6)=if (1:Int)=1 then 24 else 6 from rfl,kL 1 p (.inl rfl) rfl h0 h1,st,show ag.behind (K c (ak 2) 2 0 p 0 false [] 0 0 m.home)=K c (ak 2) 5 8 p 0 false [] 0 0 m.home from rfl]
 refine Ends.dB (Ends.nil ?_)
 rw [sZ rfl rfl rfl rfl bs _ _ hb,st,List.nil_append]
 refine ⟨?_,rfl⟩
 rw [iA 5 8 (by decide) (by decide) rfl]
 show (ag.ju _).core=_
 unfold ag.ju
 rw [if_pos (show 0<(K0 c (ak 2) 5 8 p 0 false bs 0 0 m.home).data.length from hl),uH]
 rfl
theorem LQ (x y:Int) (hx:0≤x∧x<256) (hy:0≤y∧y<256) (hg:c.aD=false) (hj:c.aZ=none) (he:c.en=true):Bt (aQ (ak 1) 0 [x,y] 0) c [] { c with bq:=bits .and .i64 x 4 != 0,bk:=bits .and .i64 y 2 != 0,en:=false }:=fun m hs hm=>by
 rw [fJ hm hg]
 have st:=fun n=>fC (ef (show c.bP=false by unfold Core.bP;rw [hj];rfl)) n
 show Ends [⟨1,[1],0,0⟩,⟨1,[x,y],0,0⟩] _ _ _
 refine Ends.dB ?_
 rw [jr 1 (by decide) (by decide),st,fQ 1 (qC 1 (by simp) hj),if_neg (by decide),show ag.behind (K c (ak 1) 0 8 0 0 false [] 0 0 m.home)=K c (ak 1) 5 8 0 0 false [] 0 0 m.home from rfl]
 refine Ends.dB (Ends.nil ?_)
 rw [sZ rfl rfl rfl rfl [x,y] _ _ (by simp;omega),st,List.nil_append]
 refine ⟨?_,rfl⟩
 rw [iA 5 8 (by decide) (by decide) rfl]
 show (ag.dB _).core=_
 unfold ag.dB
 rw [if_pos ⟨he,rfl⟩]
 rfl
end
section
structure gl (m:aG) (c:Core):Prop where
 lost:m.lost=false
 dQ:m.ar.dQ=false
 core:m.ar.core=c
 aD:m.aD=c.aD
structure IE (m:aG) (c:Core) (m':aG):Prop where
 lost:m'.lost=true
 left:0≤m.left
 Ms : ∃ k g,m'.ar.core=Core.bD k { c with aD:=g }
def gj (m m':aG):Prop:=m.left<0→m'.left<0
theorem gj.trans {a b c:aG} (h:gj a b) (k:gj b c):gj a c:=fun x=>k (h x)
theorem Dd (m:ag):m.select.core=m.core:=by
 unfold ag.select
 split
 ·
  exact tS _ _
 ·
  rfl
theorem zg {m:aG} {c:Core} {ps:List Ph} {xs:List Int} {c':Core} (h:gl m c) (hE:Bt ps c xs c'):(m.iR ps=1101∧m.gq ps=[]∧IE m c (m.cN ps))∨(m.iR ps=0∧m.gq ps=xs∧(m.cN ps).lost=false∧(m.cN ps).ar.dQ=false∧(m.cN ps).ar.core=c'∧(m.cN ps).aD=m.aD∧gj m (m.cN ps)):=by
 unfold aG.iR aG.gq
 cases hr:(m.r ps).1 with
 | false =>
  refine .inl ⟨rfl,rfl,?_,?_,?_⟩
  ·
   unfold aG.cN;simp [hr]
  ·
   rcases Int.lt_or_le m.left 0 with hl | hl
   ·
    have:=(uD ps (aI.new m.ar m.left) hl).1
    have e:(m.r ps).1=true:=this
    rw [hr] at e;cases e
   ·
    exact hl
  ·
   obtain ⟨k,hk⟩:=C0 ps (aI.new m.ar m.left)
   refine ⟨k,c.aD,?_⟩
   have e:(m.cN ps).ar=(m.r ps).2.ar:=by unfold aG.cN cj;simp [hr]
   rw [e]
   show (aI.eR ps (aI.new m.ar m.left)).2.ar.core=_
   rw [hk]
   show Core.bD k m.ar.select.core=_
   rw [Dd,h.core]
 | true =>
  obtain ⟨h1,h2⟩:=hE m.ar h.dQ h.core 0 m.left hr
  refine .inr ⟨rfl,h2,?_,?_,?_,rfl,?_⟩
  ·
   unfold aG.cN;simp [hr,h.lost]
  ·
   have e:(m.cN ps).ar=(m.r ps).2.ar.fw:=by unfold aG.cN cj;simp [hr]
   rw [e]
   exact (l9 _).1
  ·
   have e:(m.cN ps).ar=(m.r ps).2.ar.fw:=by unfold aG.cN cj;simp [hr]
   rw [e]
   exact h1
  ·
   intro hl
   unfold aG.cN
   simp only
   rw [if_neg (by omega)]
   exact hl
def vO (m:aG) (c:Core) (r:aG×List Int×Int) (xs:List Int) (c':Core):Prop:=(r.2.2=1101∧r.2.1=[]∧IE m c r.1)∨(r.2.2=0∧r.2.1=xs∧gl r.1 c'∧gj m r.1)
theorem vv {m:aG} {c:Core} {b:Int} {ys:List Int} {ps:List Ph} {xs:List Int} {c':Core} (h:gl m c) (hE:Bt ps c xs c') (hg:c'.aD=(decide (b=235)&&decide (ys.headD 0=160))):vO m c (m.fin b ys ps) xs c':=by
 rcases zg h hE with ⟨e,_,g⟩ | ⟨e,ex,h1,h2,h3,h4,h5⟩
 ·
  left
  unfold aG.fin
  rw [if_neg (by rw [e];decide)]
  exact ⟨rfl,rfl,g⟩
 ·
  right
  unfold aG.fin
  rw [if_pos e]
  exact ⟨rfl,ex,⟨h1,h2,h3,hg.symm⟩,h5⟩
theorem gh {m:aG} {c:Core} {b at_:Int} {ys:List Int} {read:Int} {xs:List Int} {c':Core} (h:gl m c) (hb:b≠235) (hl:c.aD=true→c.bk=true∧c.bP=false) (hE:Bt (aQ (ak b) at_ ys read) { c with aD:=false } xs c') (hg:c'.aD=false):vO m c (m.run b at_ ys read) xs c':=by
 have hg':c'.aD=(decide (b=235)&&decide (ys.headD 0=160)):=by simp [hb,hg]
 unfold aG.run
 rw [if_neg (by rw [h.lost];decide),if_neg (by rintro ⟨_,e⟩;exact hb e)]
 cases hgo:c.aD with
 | false =>
  rw [if_neg (by rw [h.aD,hgo];decide)]
  have e:({ c with aD:=false }:Core)=c:=by rw [← hgo]
  rw [e] at hE
  exact vv h hE hg'
 | true =>
  rw [if_pos (by rw [h.aD,hgo])]
  obtain ⟨hq,hw⟩:=hl hgo
  rcases zg h (GL hgo hq hw) with ⟨e,_,g⟩ | ⟨e,ex,h1,h2,h3,h4,h5⟩
  ·
   rw [if_neg (by rw [e];decide)]
   exact .inl ⟨rfl,rfl,g⟩
  ·
   rw [if_pos e]
   have h':gl { m.cN [bX] with aD:=false } { c with aD:=false }:=⟨h1,h2,h3,rfl⟩
   rcases vv (b:=b) (ys:=ys) h' hE hg' with ⟨e1,e2,g⟩ | ⟨e1,e2,r,hB⟩
   ·
    refine .inl ⟨e1,e2,g.lost,?_,g.Ms⟩
    rcases Int.lt_or_le m.left 0 with hl | hl
    ·
     have:=h5 hl
     have:=g.left
     have:0≤(m.cN [bX]).left:=this
     omega
    ·
     exact hl
   ·
    exact .inr ⟨e1,e2,r,fun x=>hB (h5 x)⟩
theorem J4 {m:aG} {c:Core} {p:Int} (h:gl m c) (hq:c.bk=true) (hw:c.bP=false) (h0:0≤p) (h1:p<4096):vO m c (m.run 235 p [160] 16) (comes c (ak 235) p 0 16) { c with aD:=true }:=by
 unfold aG.run
 rw [if_neg (by rw [h.lost];decide)]
 cases hgo:c.aD with
 | false =>
  rw [if_neg (by rintro ⟨e,_⟩;rw [h.aD,hgo] at e;cases e),if_neg (by rw [h.aD,hgo];decide)]
  exact vv h (KP p h0 h1 hgo hq hw) rfl
 | true =>
  rw [if_pos ⟨by rw [h.aD,hgo],rfl⟩]
  exact vv h (Jd p h0 h1 hgo hq hw) rfl
def Core.tm (c:Core) (mask:ByteArray):ByteArray:=match c.aZ with | none=>c.cells | some j=>cK j c.cells mask
theorem mJ {c:Core} {j:iE} (hj:c.aZ=some j) (hs:j.hZ=false) : ∀ (k:Nat),(k:Int)<j.left→c.bD k={ c with aZ:=some { j with left:=j.left - k } }:=by
 intro k
 induction k generalizing c j with
 | zero =>
  intro _
  show c=_
  have e:({ j with left:=j.left - ((0:Nat):Int) }:iE)=j:=by simp
  rw [e,← hj]
 | succ k ih =>
  intro hk
  have e:c.pass={ c with aZ:=some { j with left:=j.left - 1 } }:=by
   unfold Core.pass
   rw [hj]
   simp only
   rw [if_neg (by rw [hs];decide),if_neg (by omega)]
  show Core.bD k c.pass=_
  rw [e,ih (c:={ c with aZ:=some { j with left:=j.left - 1 } }) (j:={ j with left:=j.left - 1 }) rfl hs (by show (k:Int)<j.left - 1;omega)]
  simp only [Core.mk.injEq,Option.some.injEq,iE.mk.injEq,true_and,and_true]
  omega
def Core.done (c:Core) (j:iE):Core:={ c with cells:=cK j c.cells ⟨#[255]⟩,aZ:=none,en:=false }
theorem Ed (c:Core) (j:iE) : ∀ k,(c.done j).bD k=c.done j:=fC rfl
theorem jc {c:Core} {j:iE} (hj:c.aZ=some j) (hs:j.hZ=false) (h1:1≤j.left) (k:Nat) (hk:j.left≤k):c.bD k=c.done j:=by
 obtain ⟨l,hl⟩ : ∃ l:Nat,j.left=((l+1:Nat):Int):=⟨(j.left - 1).toNat,by omega⟩
 obtain ⟨r,rfl⟩ : ∃ r,k=l+(1+r):=⟨k - l - 1,by omega⟩
 rw [iC,mJ hj hs l (by omega),iC]
 have e:Core.bD 1 { c with aZ:=some { j with left:=j.left - l } }=c.done j:=by
  show Core.bD 0 (Core.pass { c with aZ:=some { j with left:=j.left - l } })=_
  unfold Core.pass
  simp only
  rw [if_neg (by rw [hs];decide),if_pos (by omega)]
  rfl
 rw [e,Ed]
theorem EK {c:Core} {j:iE} (hj:c.aZ=some j) (hs:j.hZ=true) (k:Nat):c.bD k=c:=fC (ef (by unfold Core.bP eT;rw [hj];simp [hs])) k
theorem eu {c:Core} (hj:c.aZ=none) (k:Nat):c.bD k=c:=fC (ef (by unfold Core.bP eT;rw [hj])) k
structure yg (m:aG) (S:ByteArray→Prop):Prop where
 lost:m.lost=true
 bq:m.ar.bq=true
 bk:m.ar.bk=true
 cells : ∀ mask,S (m.ar.core.tm mask)
theorem yg.mono {m:aG} {S T:ByteArray→Prop} (h:yg m S) (k : ∀ x,S x→T x):yg m T:=⟨h.lost,h.bq,h.bk,fun mask=>k _ (h.cells mask)⟩
theorem mQ {m m':aG} {c:Core} (g:IE m c m') (hj:c.aZ=none) (hp:c.bq=true) (hq:c.bk=true):yg m' fun x=>x=c.cells:=by
 obtain ⟨k,b,e⟩:=g.Ms
 rw [eu (c:={ c with aD:=b }) hj] at e
 refine ⟨g.lost,?_,?_,fun mask => ?_⟩
 ·
  show m'.ar.core.bq=true;rw [e];exact hp
 ·
  show m'.ar.core.bk=true;rw [e];exact hq
 ·
  rw [e];unfold Core.tm;simp only [hj]
theorem sI {m m':aG} {c:Core} {j:iE} (g:IE m c m') (hj:c.aZ=some j) (h1:1≤j.left) (hp:c.bq=true) (hq:c.bk=true):yg m' fun x => ∃ mask,x=cK j c.cells mask:=by
 obtain ⟨k,b,e⟩:=g.Ms
 cases hs:j.hZ with
 | true =>
  rw [EK (c:={ c with aD:=b }) hj hs] at e
  refine ⟨g.lost,?_,?_,fun mask=>⟨mask,?_⟩⟩
  ·
   show m'.ar.core.bq=true;rw [e];exact hp
  ·
   show m'.ar.core.bk=true;rw [e];exact hq
  ·
   rw [e];unfold Core.tm;simp only [hj]
 | false =>
  rcases Int.lt_or_le (k:Int) j.left with hk | hk
  ·
   rw [mJ (c:={ c with aD:=b }) hj hs k hk] at e
   refine ⟨g.lost,?_,?_,fun mask=>⟨mask,?_⟩⟩
   ·
    show m'.ar.core.bq=true;rw [e];exact hp
   ·
    show m'.ar.core.bk=true;rw [e];exact hq
   ·
    rw [e];rfl
  ·
   rw [jc (c:={ c with aD:=b }) hj hs h1 k hk] at e
   refine ⟨g.lost,?_,?_,fun mask=>⟨⟨#[255]⟩,?_⟩⟩
   ·
    show m'.ar.core.bq=true;rw [e];exact hp
   ·
    show m'.ar.core.bk=true;rw [e];exact hq
   ·
    rw [e];rfl
end
end Go.Proofs.YtcfdenckiigdaaaGreat

/- Part 5 of the contracts. -/
import Derived.Test.YtcfdenckiigdaaaGreatFl04
set_option linter.unusedVariables false
set_option maxRecDepth 100000
set_option maxHeartbeats 4000000
namespace Go.Proofs.YtcfdenckiigdaaaGreat
open Tryz
section
open Go.RowKit
structure ag where
 cells:ByteArray
 bq:Bool
 bk:Bool
 dQ:Bool
 en:Bool
 aD:Bool
 aZ:Option iE
 busy:List Int
 op:gF
 ay:Int
 left:Int
 cO:Int
 addr:Int
 mode:Int
 cL:Bool
 data:List Int
 told:Int
 now:Int
 beyond:Bool
 home:Nat
def bn:ByteArray:=⟨#[83,70,68,80,6,1,0,255,0,16,0,0,0,2,0,0,32,0,0,0,255,255,255,255,255,255,255,255,255,255,255,255]⟩
structure pY (s:Raw) (m:ag):Prop where
 cells:s.cells=m.cells
 bq:s.bq=m.bq
 bk:s.bk=m.bk
 dQ:s.dQ=m.dQ
 en:s.en=m.en
 aD:s.aD=m.aD
 op:s.op=m.op
 ay:s.ay=m.ay
 left:s.left=m.left
 cO:s.cO=m.cO
 addr:s.addr=m.addr
 mode:s.mode=m.mode
 cL:s.cL=m.cL
 told:s.told=m.told
 now:s.now=m.now
 beyond:s.beyond=m.beyond
 once:(s.o0=0∧s.o1=0∧s.o2=0)∨(s.o0=1∧s.o1=0∧s.o2=0∧s.yv=bn)
structure sO (w:World) (v:Value) (busy:List Int) (home:Nat) (F:Nat→Prop):Prop where
 ex : ∃ a c,v=.slice a busy.length c∧aU w a busy∧(∀ b o,a=some ⟨b,o,none⟩→0<busy.length → ¬ F b)∧(a=none→c=0)∧busy.length≤c∧(∀ b o,a=some ⟨b,o,none⟩→0<busy.length→b=home)
structure aS (w:World) (c:Nat) (m:ag) (F:Nat→Prop):Prop where
 ex : ∃ s:Raw,aV w c s∧pY s m∧jW w s.aZ m.aZ∧sO w s.busy m.busy m.home F∧w.ownsRow 0 3 1 s.data m.data.length (aC m.data)∧F c∧(∀ b,s.aZ=some ⟨b,0,none⟩→F b)∧(∀ g,s.data.ownBlock=some g→F g)
 lt : ∀ b,F b→b<w.heap.size
structure Step (F F':Nat→Prop) (w w':World):Prop where
 aH:Touch F w w'
 ik : ∀ b,F' b→F b∨w.heap.size≤b
theorem Step.refl (F:Nat→Prop) (w:World):Step F F w w:=⟨Touch.refl _ _,fun _ h=>.inl h⟩
theorem Step.trans {F F' F'':Nat→Prop} {a b c:World} (h:Step F F' a b) (k:Step F' F'' b c):Step F F'' a c :=
 ⟨h.aH.then k.aH h.ik,fun i hi=>(k.ik i hi).elim (h.ik i) (fun hl=>.inr (Nat.le_trans h.aH.size hl))⟩
theorem Step.dD {F:Nat→Prop} {a b:World} (h:Touch F a b):Step F F a b:=⟨h,fun _ h=>.inl h⟩
theorem aS.aj {w w':World} {c:Nat} {m:ag} {F:Nat→Prop} (h:aS w c m F) (hb:Below w.heap.size w w'):aS w' c m F:=by
 obtain ⟨⟨s,h1,h2,h3,⟨⟨a,cc,h4,h5,h6,h7,h7'⟩⟩,h8,h9,h10,h11⟩,hlt⟩:=h
 exact ⟨⟨s,h1.aj hb,h2,h3.aj hb,⟨a,cc,h4,h5.aj hb,h6,h7,h7'⟩,World.ownsRow.aj h8 hb,h9,h10,h11⟩,fun b hb'=>zV (hlt b hb') hb.size⟩
def ag.bP (m:ag):Bool:=eT m.aZ
def ag.pass (m:ag):ag:=match m.aZ with
 | none=>m
 | some j=>if j.hZ then m else if j.left - 1≤0 then { m with cells:=cK j m.cells ⟨#[255]⟩,aZ:=none,en:=false } else { m with aZ:=some { j with left:=j.left - 1 } }
structure ag.Ok (m:ag):Prop where
 size:m.cells.size=4096
 aZ : ∀ x,m.aZ=some x→LO x
 fX:0≤m.addr
 gG:m.addr<4096
 op:Au m.op
 data:m.data.length≤1099511627776
theorem gA {w:World} {v:Value} {n:Nat} {xs:List Value} (h:w.ownsRow 0 3 1 v n xs) {g:Nat} (hg:v.ownBlock=some g) : ∃ cur,w.heap[g]? = some (.cells cur 3 (0,0)):=by
 rcases h.2 with ⟨rfl,_⟩ | ⟨g',cap,cur,rfl,_,hgg,_⟩
 ·
  simp [Value.ownBlock] at hg
 ·
  obtain rfl:g'=g:=by simpa [Value.ownBlock] using hg
  exact ⟨cur,hgg⟩
theorem gB {F:Nat→Prop} {w w':World} {v:Value} {n:Nat} {xs:List Value} (h:w.ownsRow 0 3 1 v n xs) (t:Touch F w w') (hn : ∀ g,v.ownBlock=some g → ¬ F g):w'.ownsRow 0 3 1 v n xs:=by
 refine ⟨h.1,?_⟩
 rcases h.2 with h2 | ⟨g,cap,cur,hv,hb,hg,r⟩
 ·
  exact .inl h2
 ·
  exact .inr ⟨g,cap,cur,hv,hb,t.at hg (hn g (by rw [hv];rfl)),r⟩
theorem sO.aH {F G:Nat→Prop} {w w':World} {v:Value} {busy:List Int} {home:Nat} (h:sO w v busy home F) (t:Touch G w w') (hG : ∀ b,G b→F b):sO w' v busy home F:=by
 obtain ⟨a,c,h1,h2,h3,h4,h5⟩:=h
 exact ⟨a,c,h1,dM h2 t (fun b o e hl hg=>h3 b o e hl (hG b hg)),h3,h4,h5⟩
theorem BX {w:World} {c:Nat} {s:Raw} {j:Option iE} {n:Nat} {xs:List Value} (h1:aV w c s) (h3:jW w s.aZ j) (h8:w.ownsRow 0 3 1 s.data n xs) : ∀ g,s.data.ownBlock=some g → ¬ ID c s.aZ g:=by
 intro g hg hf
 obtain ⟨cur,hc⟩:=gA h8 hg
 rcases hf with rfl | hf
 ·
  have:=hc.symm.trans h1;simp at this
 ·
  cases j with
  | none=>rw [show s.aZ=none from h3] at hf;cases hf
  | some j =>
   obtain ⟨b,hb,hbj⟩:=h3
   rw [hb] at hf
   obtain rfl:b=g:=by simpa using hf
   have:=hc.symm.trans hbj;simp at this
def fk (c:Nat) (m:ag) (F:Nat→Prop) (w:World) (e:Ending) (w':World):Prop:=e=.returned (.tuple #[]) ∧ ∃ F',aS w' c m F'∧Step F F' w w'
theorem wI (c:Nat) (m:ag) (F:Nat→Prop) (w:World) (h:aS w c m F) (ok:m.Ok):Calls prog 231 #[.pointer (some ⟨c,0,none⟩)] w (fk c m.pass F w):=by
 obtain ⟨⟨s,h1,h2,h3,h4,h8,h9,h10,h11⟩,hlt⟩:=h
 refine (EL c s m.aZ w h1 h3 ok.aZ (by rw [h2.cells];exact ok.size)).mono ?_
 rintro e w' ⟨rfl,g1,g3,t⟩
 have hFF : ∀ b,ID c s.aZ b→F b:=fun b hb=>hb.elim (fun e=>by rw [e];exact h9) (fun e=>h10 b e)
 refine ⟨rfl,F,⟨⟨fa s m.aZ,g1,?_,?_,?_,?_,h9,?_,?_⟩,fun b hb=>zV (hlt b hb) t.size⟩,Step.dD (t.mono hFF)⟩
 ·
  unfold fa ag.pass
  cases hj:m.aZ with
  | none=>exact h2
  | some j =>
   simp only
   split
   ·
    exact h2
   ·
    split
    ·
     exact ⟨by simp only [h2.cells],h2.bq,h2.bk,h2.dQ,rfl,h2.aD,h2.op,h2.ay,h2.left,h2.cO,h2.addr,h2.mode,h2.cL,h2.told,h2.now,h2.beyond,h2.once⟩
    ·
     exact ⟨h2.cells,h2.bq,h2.bk,h2.dQ,h2.en,h2.aD,h2.op,h2.ay,h2.left,h2.cO,h2.addr,h2.mode,h2.cL,h2.told,h2.now,h2.beyond,h2.once⟩
 ·
  have e:m.pass.aZ=jS s m.aZ:=by
   unfold jS ag.pass
   cases hj:m.aZ with
   | none=>exact hj
   | some j =>
    simp only
    split
    ·
     exact hj
    ·
     split <;> rfl
  rw [e];exact g3
 ·
  have e1:m.pass.busy=m.busy:=by unfold ag.pass;cases m.aZ with | none=>rfl | some j=>simp only;split;rfl;split <;> rfl
  have e2:(fa s m.aZ).busy=s.busy:=by unfold fa;cases m.aZ with | none=>rfl | some j=>simp only;split;rfl;split <;> rfl
  have e3:m.pass.home=m.home:=by unfold ag.pass;cases m.aZ with | none=>rfl | some j=>simp only;split;rfl;split <;> rfl
  rw [e1,e2,e3]
  exact h4.aH t hFF
 ·
  have e1:m.pass.data=m.data:=by unfold ag.pass;cases m.aZ with | none=>rfl | some j=>simp only;split;rfl;split <;> rfl
  have e2:(fa s m.aZ).data=s.data:=by unfold fa;cases m.aZ with | none=>rfl | some j=>simp only;split;rfl;split <;> rfl
  rw [e1,e2]
  exact gB h8 t (BX h1 h3 h8)
 ·
  intro b hb
  have:(fa s m.aZ).aZ=s.aZ∨(fa s m.aZ).aZ=none:=by
   unfold fa
   cases m.aZ with
   | none=>exact .inl rfl
   | some j=>simp only;split;exact .inl rfl;split;exact .inr rfl;exact .inl rfl
  rcases this with e | e
  ·
   rw [e] at hb;exact h10 b hb
  ·
   rw [e] at hb;cases hb
 ·
  have e2:(fa s m.aZ).data=s.data:=by unfold fa;cases m.aZ with | none=>rfl | some j=>simp only;split;rfl;split <;> rfl
  rw [e2];exact h11
structure bJ (w:World) (c:Nat) (s:Raw) (m:ag) (F:Nat→Prop):Prop where
 raw:aV w c s
 bU:pY s m
 aZ:jW w s.aZ m.aZ
 busy:sO w s.busy m.busy m.home F
 data:w.ownsRow 0 3 1 s.data m.data.length (aC m.data)
 own:F c
 me : ∀ b,s.aZ=some ⟨b,0,none⟩→F b
 jQ : ∀ g,s.data.ownBlock=some g→F g
 lt : ∀ b,F b→b<w.heap.size
theorem aS.open {w:World} {c:Nat} {m:ag} {F:Nat→Prop} (h:aS w c m F) : ∃ s,bJ w c s m F:=by
 obtain ⟨⟨s,h1,h2,h3,h4,h8,h9,h10,h11⟩,hlt⟩:=h
 exact ⟨s,h1,h2,h3,h4,h8,h9,h10,h11,hlt⟩
theorem bJ.shut {w:World} {c:Nat} {s:Raw} {m:ag} {F:Nat→Prop} (h:bJ w c s m F):aS w c m F :=
 ⟨⟨s,h.raw,h.bU,h.aZ,h.busy,h.data,h.own,h.me,h.jQ⟩,h.lt⟩
theorem jW.only {w w':World} {c:Nat} {s:Raw} {a:Option Addr} {j:Option iE} (h:jW w a j) (h1:aV w c s) (t:Touch (aO c) w w'):jW w' a j:=by
 cases j with
 | none=>exact h
 | some j =>
  obtain ⟨b,hb,hbj⟩:=h
  refine ⟨b,hb,t.at hbj fun e => ?_⟩
  obtain rfl:b=c:=e
  have:=hbj.symm.trans h1;simp at this
theorem bJ.block {w w':World} {c:Nat} {s s':Raw} {m m':ag} {F:Nat→Prop} (h:bJ w c s m F) (g1:aV w' c s') (g2:pY s' m') (t:Touch (aO c) w w') (ej:s'.aZ=s.aZ) (emj:m'.aZ=m.aZ) (eb:s'.busy=s.busy) (emb:m'.busy=m.busy) (ed:s'.data=s.data) (emd:m'.data=m.data) (emh:m'.home=m.home:=by rfl):bJ w' c s' m' F:=by
 have hF : ∀ b,aO c b→F b:=fun b e=>by rw [show b=c from e];exact h.own
 have hd:w'.ownsRow 0 3 1 s.data m.data.length (aC m.data):=gB h.data t (fun g hg e=>by
  obtain ⟨cur,hc⟩:=gA h.data hg
  rw [show g=c from e] at hc
  have:=hc.symm.trans h.raw;simp at this)
 exact ⟨g1,g2,by rw [ej,emj];exact h.aZ.only h.raw t,by rw [eb,emb,emh];exact h.busy.aH t hF,by rw [ed,emd];exact hd,h.own,by rw [ej];exact h.me,by rw [ed];exact h.jQ,fun b hb=>zV (h.lt b hb) t.size⟩
theorem bJ.step {w w':World} {c:Nat} {s:Raw} {m:ag} {F:Nat→Prop} (h:bJ w c s m F) (t:Touch (aO c) w w'):Step F F w w':=Step.dD (t.mono fun b e=>by rw [show b=c from e];exact h.own)
def ag.dO (m:ag) (j:iE):ag :=
 if m.en=false then m else if (m.bq&&decide (m.addr<2048))=true then { m with en:=false } else { m with aZ:=some { j with left:=m.busy.headD 8 },busy:=m.busy.drop 1 }
def ag.whole (m:ag):Bool:=if m.op.jB=true then decide (m.ay=5)&&decide (m.left=8) else if m.op.data=0 then decide (m.ay=7) && !m.beyond else true
def ag.bN (m:ag):ag:=match m.aZ with | some j=>if j.av = -1 then m else { m with aZ:=some { j with hZ:=true } } | none=>m
def ag.gM (m:ag):ag:=match m.aZ with | some j=>{ m with aZ:=some { j with hZ:=false } } | none=>m
def ag.dB (m:ag):ag:=if m.en=true∧m.data.length=2 then { m with bq:=bits .and .i64 (m.data.getD 0 0) 4 != 0,bk:=bits .and .i64 (m.data.getD 1 0) 2 != 0,en:=false } else m
def ag.ju (m:ag):ag:=if 0<m.data.length then m.dO ⟨-1,m.addr - m.addr % 32,lA m.addr m.data,0,false⟩ else m
def ag.erases (m:ag):ag:=m.dO ⟨m.addr / 512,0,ByteArray.empty,0,false⟩
def ag.gp (m:ag):ag :=
 if m.op.byte=6 then { m with en:=true } else if m.op.byte=4 then { m with en:=false } else if m.op.byte=117 then m.bN else if m.op.byte=122 then m.gM
 else if m.op.byte=1 then m.dB else if m.op.byte=2 then m.ju else if m.op.byte=32 then m.erases else if m.op.byte=235 then { m with aD:=m.cL&&decide (m.mode=160) } else m
def ag.ends (m:ag):ag:=if m.ay=0∨m.ay=1∨m.whole=false then m else m.gp
theorem JM {s t:Raw} (h:s.EB=t.EB):s.cells=t.cells∧s.bq=t.bq∧s.bk=t.bk∧s.o0=t.o0∧s.o1=t.o1∧s.o2=t.o2∧s.yv=t.yv∧s.dQ=t.dQ∧s.en=t.en∧s.aD=t.aD∧s.aZ=t.aZ∧s.busy=t.busy∧s.op=t.op∧s.ay=t.ay∧s.left=t.left∧s.cO=t.cO∧s.addr=t.addr∧s.mode=t.mode∧s.cL=t.cL∧s.data=t.data∧s.told=t.told∧s.now=t.now∧s.beyond=t.beyond:=by
 unfold Raw.EB at h
 injection h with a1 a2 a3 a4 a5 a6 a7 a8 a9 a10 a11 a12 a13 a14 a15 a16 a17 a18 a19 a20 a21 a22 a23 a24 a25 a26 a27 a28 a29 a30 a31
 exact ⟨a1,a2,a3,a12,a13,a14,a15,a16,a17,a18,a19,a20,a21,a22,a23,a24,a25,a26,a27,a28,a29,a30,a31⟩
def BB (c jb:Nat) (m:ag) (F:Nat→Prop) (w:World) (e:Ending) (w':World):Prop :=
 e=.returned (.tuple #[]) ∧ ∃ F':Nat→Prop,aS w' c m F'∧Touch (fun b=>F b∨b=jb) w w' ∧ ∀ b,F' b→F b∨b=jb
theorem sA (c jb:Nat) (s:Raw) (m:ag) (j:iE) (F:Nat→Prop) (w:World) (h:bJ w c s m F) (hj:w.heap[jb]? = some (.cells j.row 192 (0,0))) (hjn : ¬ F jb) (hsec:j.av = -1 ∨ ∃ k:Nat,j.av=k∧k<8) (ha0:0≤m.addr) (ha1:m.addr<4096) (hnb : ∀ ba bc,s.busy=.slice ba m.busy.length bc → ∀ b o,ba=some ⟨b,o,none⟩→0<m.busy.length→b≠jb):Calls prog 224 #[.pointer (some ⟨c,0,none⟩),.pointer (some ⟨jb,0,none⟩)] w (BB c jb (m.dO j) F w):=by
 have hsub : ∀ {w':World},Touch (aO c) w w'→Touch (fun b=>F b∨b=jb) w w':=fun t=>t.mono fun b e=>.inl (by rw [show b=c from e];exact h.own)
 by_cases he:m.en=false
 ·
  have e:m.dO j=m:=by unfold ag.dO;rw [if_pos he]
  rw [e]
  refine (E3 c jb s w h.raw (by rw [h.bU.en];exact he)).mono ?_
  rintro e w' ⟨rfl,g,t⟩
  exact ⟨rfl,F,(h.block g h.bU t rfl rfl rfl rfl rfl rfl).shut,hsub t,fun b hb=>.inl hb⟩
 have he':m.en=true:=by cases hh:m.en with | true=>rfl | false=>exact absurd hh he
 have es:s.en=true:=by rw [h.bU.en];exact he'
 have a0:0≤s.addr:=by rw [h.bU.addr];exact ha0
 have a1:s.addr<4096:=by rw [h.bU.addr];exact ha1
 have ep:(s.bq&&decide (s.addr<2048))=(m.bq&&decide (m.addr<2048)):=by rw [h.bU.bq,h.bU.addr]
 by_cases hp:(m.bq&&decide (m.addr<2048))=true
 ·
  have e:m.dO j={ m with en:=false }:=by unfold ag.dO;rw [if_neg he,if_pos hp]
  rw [e]
  refine (Dk c jb s w h.raw es a0 a1 (ep.trans hp)).mono ?_
  rintro e w' ⟨rfl,g,t⟩
  have hs:=h.bU
  exact ⟨rfl,F,(h.block (m':={ m with en:=false }) g ⟨hs.cells,hs.bq,hs.bk,hs.dQ,rfl,hs.aD,hs.op,hs.ay,hs.left,hs.cO,hs.addr,hs.mode,hs.cL,hs.told,hs.now,hs.beyond,hs.once⟩ t rfl rfl rfl rfl rfl rfl).shut,hsub t,fun b hb=>.inl hb⟩
 ·
  have e:m.dO j={ m with aZ:=some { j with left:=m.busy.headD 8 },busy:=m.busy.drop 1 }:=by unfold ag.dO;rw [if_neg he,if_neg hp]
  rw [e]
  obtain ⟨ba,bc,hb1,hb2,hb3,hb4,hb5,hb6⟩:=h.busy.ex
  have hp':(m.bq&&decide (m.addr<2048))=false:=by cases hh:(m.bq&&decide (m.addr<2048)) with | false=>rfl | true=>exact absurd hh hp
  have hbj : ∀ b o,ba=some ⟨b,o,none⟩→0<m.busy.length→b≠c∧b≠jb:=fun b o e hl=>⟨fun e2=>hb3 b o e hl (by rw [e2];exact h.own),hnb ba bc hb1 b o e hl⟩
  refine (Ii c jb s j ba bc m.busy w h.raw hj es a0 a1 (ep.trans hp') hb1 hb2 hbj hb5 hb4 hsec).mono ?_
  rintro e w' ⟨rfl,s',ba',bc',r1,r2,r3,r4,r4',r5,r6,t⟩
  obtain ⟨n1,n2,n3,n4,n5,n6,n7,n8,n9,n10,n11,n12,n13,n14,n15,n16,n17,n18,n19,n20,n21,n22,n23⟩:=JM r2
  have hs:=h.bU
  have tF:Touch (fun b=>F b∨b=jb) w w':=t.mono fun b e=>e.elim (fun e=>.inl (by rw [e];exact h.own)) .inr
  have hlt':jb<w.heap.size:=aP hj
  have hdj : ∀ g,s.data.ownBlock=some g → ¬ Bn c jb g:=fun g hg e=>by
   obtain ⟨cur,hc⟩:=gA h.data hg
   rcases e with rfl | rfl
   ·
    have:=hc.symm.trans h.raw;simp at this
   ·
    have:=hc.symm.trans hj;simp at this
  refine ⟨rfl,fun b=>F b∨b=jb,bJ.shut (s:=s') ⟨r1,?_,?_,?_,?_,.inl h.own,?_,?_,?_⟩,tF,fun b hb=>hb⟩
  ·
   exact ⟨n1.trans hs.cells,n2.trans hs.bq,n3.trans hs.bk,n8.trans hs.dQ,n9.trans hs.en,n10.trans hs.aD,n13.trans hs.op,n14.trans hs.ay,n15.trans hs.left,n16.trans hs.cO,n17.trans hs.addr,n18.trans hs.mode,n19.trans hs.cL,n21.trans hs.told,n22.trans hs.now,n23.trans hs.beyond,by
    rw [n4,n5,n6,n7];exact hs.once⟩
  ·
   exact ⟨jb,n11,r6⟩
  ·
   refine ⟨ba',bc',n12,r3,fun b o e hl hF => ?_,r5,r4',fun b o e hl => ?_⟩
   ·
    obtain ⟨o',k1⟩:=r4 b o e hl
    have hl':0<m.busy.length:=by have:0<(m.busy.drop 1).length:=hl;simp at this;omega
    exact hF.elim (hb3 b o' k1 hl') (hbj b o' k1 hl').2
   ·
    obtain ⟨o',k1⟩:=r4 b o e hl
    have hl':0<m.busy.length:=by have:0<(m.busy.drop 1).length:=hl;simp at this;omega
    exact hb6 b o' k1 hl'
  ·
   rw [n20];exact gB h.data t hdj
  ·
   intro b hb
   rw [n11] at hb
   exact .inr (by simpa using hb.symm)
  ·
   intro g hg
   rw [n20] at hg
   exact .inl (h.jQ g hg)
  ·
   intro b hb
   exact zV (hb.elim (h.lt b) (fun e=>by rw [e];exact hlt')) t.size
end
section
open Go.RowKit
def ag.pT (m:ag):Bool:=match m.aZ with | none=>false | some j=>j.hZ
def ag.first (m:ag):Int:=DV m.bP m.en m.bq
def ag.second (m:ag):Int:=yO m.bk m.pT
def qq (m:ag) (w:World) (e:Ending) (w':World):Prop:=e=.returned (.tuple #[.int .i64 m.first,.int .i64 m.second])∧Below w.heap.size w w'
theorem Dl (c:Nat) (m:ag) (s:Raw) (F:Nat→Prop) (w:World) (h:bJ w c s m F) (hj:m.aZ=none):Calls prog 253 #[.pointer (some ⟨c,0,none⟩)] w (qq m w):=by
 have hs:=h.bU
 have hd:aV w.drew c s:=h.raw
 have c1:w.drew.cell? ⟨c,1,none⟩=some (.bool m.bq):=by rw [← hs.bq];exact cell_of hd 1
 have c2:w.drew.cell? ⟨c,2,none⟩=some (.bool m.bk):=by rw [← hs.bk];exact cell_of hd 2
 have c16:w.drew.cell? ⟨c,16,none⟩=some (.bool m.en):=by rw [← hs.en];exact cell_of hd 16
 have c18:w.drew.cell? ⟨c,18,none⟩=some (.pointer s.aZ):=cell_of hd 18
 have HW:=zH (lW c s m.aZ w.drew hd h.aZ)
 have HL:=zH (aP hd)
 have hsj:s.aZ=none:=by have:=h.aZ;rw [hj] at this;exact this
 have E:=zH (show m.first=DV false m.en m.bq∧m.second=yO m.bk false by unfold ag.first ag.second ag.bP ag.pT eT;rw [hj];exact ⟨rfl,rfl⟩)
 rw [hsj] at c18
 rw [hj] at HW
 clear h hs hd hsj hj
 go_enter func253,ntmps253
 go_wp2_with fail
 refine wp_region_noPanic ?_
 refine wp_region_held_drew (S:=(fun w'=>w'.cell? ⟨c,1,none⟩=some (.bool m.bq)∧w'.cell? ⟨c,2,none⟩=some (.bool m.bk)∧w'.cell? ⟨c,16,none⟩=some (.bool m.en)∧w'.cell? ⟨c,18,none⟩=some (.pointer none))) (by kernel_rfl) (by (try dsimp only);exact ⟨c1,c2,c16,c18⟩) fun hHeld => ?_
 refine tk 0 ?_
 refine tk 2 ?_
 refine tk 3 ?_
 refine tk 4 ?_
 refine tk 5 ?_
 refine tk 6 ?_
 refine tk 7 ?_
 refine tk 8 ?_
 refine tk 9 ?_
 refine tk 10 ?_
 refine tk 12 ?_
 refine tk 13 ?_
 refine tk 14 ?_
 refine tk 15 ?_
 refine tk 16 ?_
 refine tk 17 ?_
 refine tk 18 ?_
 refine tk 19 ?_
 refine tk 20 ?_
 refine tk 21 ?_
 refine tr 1 fun K hK => ?_
 go_simp
 go_at_call 242
 refine HW.out.mono ?_
 rintro e w1 ⟨rfl,rfl⟩
 go_wp2_with fail
 refine hK.out _ _ (by (try dsimp only);exact ⟨c1,c2,c16,c18⟩) fun hHeld => ?_
 clear hK K
 try simp only [Act.put,zS,zT,zU]
 refine tr 11 fun K hK => ?_
 go_simp
 go_at_call 255
 refine (uj _ _ _ _).mono ?_
 rintro e w1 ⟨rfl,hb1⟩
 go_wp2_with fail
 refine hK.out _ _ (by (try dsimp only);exact ⟨(hb1.cell (p:=⟨c,1,none⟩) HL.out).trans c1,(hb1.cell (p:=⟨c,2,none⟩) HL.out).trans c2,(hb1.cell (p:=⟨c,16,none⟩) HL.out).trans c16,(hb1.cell (p:=⟨c,18,none⟩) HL.out).trans c18⟩) fun hHeld => ?_
 clear hK K
 try simp only [Act.put,zS,zT,zU]
 refine tk 22 ?_
 refine tn 23 ?_
 refine tn 24 ?_
 refine tn 25 ?_
 refine tn 26 ?_
 refine tn 27 ?_
 refine tn 28 ?_
 refine tn 29 ?_
 refine tn 30 ?_
 refine tk 31 ?_
 refine tr 32 fun K hK => ?_
 go_simp
 go_at_call 256
 refine (sq _ _ _).mono ?_
 rintro e w2 ⟨rfl,hb2⟩
 go_wp2_with fail
 refine hK.out _ _ (by (try dsimp only);exact ⟨((gtr hb1 hb2).cell (p:=⟨c,1,none⟩) HL.out).trans c1,((gtr hb1 hb2).cell (p:=⟨c,2,none⟩) HL.out).trans c2,((gtr hb1 hb2).cell (p:=⟨c,16,none⟩) HL.out).trans c16,((gtr hb1 hb2).cell (p:=⟨c,18,none⟩) HL.out).trans c18⟩) fun hHeld => ?_
 clear hK K
 try simp only [Act.put,zS,zT,zU]
 refine tk 33 ?_
 refine tk 34 ?_
 refine wpAnyH_done (by kernel_rfl) ?_ _
 refine NoPanic.normal ?_
 go_wp2
 go_ret2
 exact ⟨by rw [E.out.1,E.out.2];rfl,gtr (au zR) (gtr hb1 hb2)⟩
theorem Dm (c b:Nat) (m:ag) (j:iE) (s:Raw) (F:Nat→Prop) (w:World) (h:bJ w c s m F) (hj:m.aZ=some j):Calls prog 253 #[.pointer (some ⟨c,0,none⟩)] w (qq m w):=by
 have hs:=h.bU
 have hd:aV w.drew c s:=h.raw
 have c1:w.drew.cell? ⟨c,1,none⟩=some (.bool m.bq):=by rw [← hs.bq];exact cell_of hd 1
 have c2:w.drew.cell? ⟨c,2,none⟩=some (.bool m.bk):=by rw [← hs.bk];exact cell_of hd 2
 have c16:w.drew.cell? ⟨c,16,none⟩=some (.bool m.en):=by rw [← hs.en];exact cell_of hd 16
 have c18:w.drew.cell? ⟨c,18,none⟩=some (.pointer s.aZ):=cell_of hd 18
 have HW:=zH (lW c s m.aZ w.drew hd h.aZ)
 have HL:=zH (aP hd)
 have hJ:=h.aZ
 rw [hj] at hJ
 obtain ⟨b,hsj,hjb⟩:=hJ
 have hjd:w.drew.heap[b]? = some (.cells j.row 192 (0,0)):=hjb
 have d4:w.drew.cell? ⟨b,4,none⟩=some (.bool j.hZ):=cell_of hjd 4
 have HB:=zH (aP hjd)
 have E:=zH (show m.first=DV (!j.hZ) m.en m.bq∧m.second=yO m.bk j.hZ by unfold ag.first ag.second ag.bP ag.pT eT;rw [hj];exact ⟨rfl,rfl⟩)
 rw [hsj] at c18
 rw [hj] at HW
 clear h hs hd hsj hj hjb hjd
 go_enter func253,ntmps253
 go_wp2_with fail
 refine wp_region_noPanic ?_
 refine wp_region_held_drew (S:=(fun w'=>w'.cell? ⟨c,1,none⟩=some (.bool m.bq)∧w'.cell? ⟨c,2,none⟩=some (.bool m.bk)∧w'.cell? ⟨c,16,none⟩=some (.bool m.en)∧w'.cell? ⟨c,18,none⟩=some (.pointer (some ⟨b,0,none⟩))∧w'.cell? ⟨b,4,none⟩=some (.bool j.hZ))) (by kernel_rfl) (by (try dsimp only);exact ⟨c1,c2,c16,c18,d4⟩) fun hHeld => ?_
 refine tk 0 ?_
 refine tk 2 ?_
 refine tk 3 ?_
 refine tk 4 ?_
 refine tk 5 ?_
 refine tk 6 ?_
 refine tk 7 ?_
 refine tk 8 ?_
 refine tk 9 ?_
 refine tk 10 ?_
 refine tk 12 ?_
 refine tk 13 ?_
 refine tk 14 ?_
 refine tk 15 ?_
 refine tk 16 ?_
 refine tk 17 ?_
 refine tk 18 ?_
 refine tk 19 ?_
 refine tk 20 ?_
 refine tk 21 ?_
 refine tr 1 fun K hK => ?_
 go_simp
 go_at_call 242
 refine HW.out.mono ?_
 rintro e w1 ⟨rfl,rfl⟩
 go_wp2_with fail
 refine hK.out _ _ (by (try dsimp only);exact ⟨c1,c2,c16,c18,d4⟩) fun hHeld => ?_
 clear hK K
 try simp only [Act.put,zS,zT,zU]
 refine tr 11 fun K hK => ?_
 go_simp
 go_at_call 255
 refine (uj _ _ _ _).mono ?_
 rintro e w1 ⟨rfl,hb1⟩
 go_wp2_with fail
 refine hK.out _ _ (by (try dsimp only);exact ⟨(hb1.cell (p:=⟨c,1,none⟩) HL.out).trans c1,(hb1.cell (p:=⟨c,2,none⟩) HL.out).trans c2,(hb1.cell (p:=⟨c,16,none⟩) HL.out).trans c16,(hb1.cell (p:=⟨c,18,none⟩) HL.out).trans c18,(hb1.cell (p:=⟨b,4,none⟩) HB.out).trans d4⟩) fun hHeld => ?_
 clear hK K
 try simp only [Act.put,zS,zT,zU]
 refine tk 22 ?_
 refine tk 23 ?_
 refine tk 24 ?_
 refine tk 25 ?_
 refine tk 26 ?_
 refine tk 27 ?_
 refine tk 28 ?_
 refine tk 29 ?_
 refine tk 30 ?_
 refine tk 31 ?_
 refine tr 32 fun K hK => ?_
 go_simp
 go_at_call 256
 refine (sq _ _ _).mono ?_
 rintro e w2 ⟨rfl,hb2⟩
 go_wp2_with fail
 refine hK.out _ _ (by (try dsimp only);exact ⟨((gtr hb1 hb2).cell (p:=⟨c,1,none⟩) HL.out).trans c1,((gtr hb1 hb2).cell (p:=⟨c,2,none⟩) HL.out).trans c2,((gtr hb1 hb2).cell (p:=⟨c,16,none⟩) HL.out).trans c16,((gtr hb1 hb2).cell (p:=⟨c,18,none⟩) HL.out).trans c18,((gtr hb1 hb2).cell (p:=⟨b,4,none⟩) HB.out).trans d4⟩) fun hHeld => ?_
 clear hK K
 try simp only [Act.put,zS,zT,zU]
 refine tk 33 ?_
 refine tk 34 ?_
 refine wpAnyH_done (by kernel_rfl) ?_ _
 refine NoPanic.normal ?_
 go_wp2
 go_ret2
 exact ⟨by rw [E.out.1,E.out.2];rfl,gtr (au zR) (gtr hb1 hb2)⟩
theorem Bf (c:Nat) (m:ag) (F:Nat→Prop) (w:World) (h:aS w c m F):Calls prog 253 #[.pointer (some ⟨c,0,none⟩)] w (qq m w):=by
 obtain ⟨s,h⟩:=h.open
 cases hj:m.aZ with
 | none=>exact Dl c m s F w h hj
 | some j=>exact Dm c 0 m j s F w h hj
end
end Go.Proofs.YtcfdenckiigdaaaGreat

/- Part 5 of the contracts. -/
import Derived.Test.YtcfdenckiigdaaaGreatKp04
set_option linter.unusedVariables false
set_option maxRecDepth 100000
set_option maxHeartbeats 4000000
namespace Go.Proofs.YtcfdenckiigdaaaGreat
section
open Go.RowKit
structure qae where
 cells:ByteArray
 prot:Bool
 quad:Bool
 sel:Bool
 en:Bool
 goes:Bool
 job:Option Job
 busy:List Int
 op:OpR
 stage:Int
 left:Int
 got:Int
 addr:Int
 mode:Int
 moded:Bool
 data:List Int
 told:Int
 now:Int
 beyond:Bool
 home:Nat
def sfdpText:ByteArray:=⟨#[83,70,68,80,6,1,0,255,0,16,0,0,0,2,0,0,32,0,0,0,255,255,255,255,255,255,255,255,255,255,255,255]⟩
structure Says (s:Raw) (m:qae):Prop where
 cells:s.cells=m.cells
 prot:s.prot=m.prot
 quad:s.quad=m.quad
 sel:s.sel=m.sel
 en:s.en=m.en
 goes:s.goes=m.goes
 op:s.op=m.op
 stage:s.stage=m.stage
 left:s.left=m.left
 got:s.got=m.got
 addr:s.addr=m.addr
 mode:s.mode=m.mode
 moded:s.moded=m.moded
 told:s.told=m.told
 now:s.now=m.now
 beyond:s.beyond=m.beyond
 once:(s.o0=0∧s.o1=0∧s.o2=0)∨(s.o0=1∧s.o1=0∧s.o2=0∧s.sfdp=sfdpText)
structure qjX (w:World) (v:Value) (busy:List Int) (home:Nat) (F:Nat→Prop):Prop where
 ex : ∃ a c,v=.slice a busy.length c∧qal w a busy∧(∀ b o,a=some ⟨b,o,none⟩→0<busy.length → ¬ F b)∧(a=none→c=0)∧busy.length≤c∧(∀ b o,a=some ⟨b,o,none⟩→0<busy.length→b=home)
structure qan (w:World) (c:Nat) (m:qae) (F:Nat→Prop):Prop where
 ex : ∃ s:Raw,qas w c s∧Says s m∧qel w s.job m.job∧qjX w s.busy m.busy m.home F∧w.ownsRow 0 3 1 s.data m.data.length (intVals m.data)∧F c∧(∀ b,s.job=some ⟨b,0,none⟩→F b)∧(∀ g,s.data.ownBlock=some g→F g)
 lt : ∀ b,F b→b<w.heap.size
structure Step (F F':Nat→Prop) (w w':World):Prop where
 touch:Touch F w w'
 foot : ∀ b,F' b→F b∨w.heap.size≤b
theorem Step.refl (F:Nat→Prop) (w:World):Step F F w w:=⟨Touch.refl _ _,fun _ h=>.inl h⟩
theorem Step.trans {F F' F'':Nat→Prop} {a b c:World} (h:Step F F' a b) (k:Step F' F'' b c):Step F F'' a c :=
 ⟨h.touch.then k.touch h.foot,fun i hi=>(k.foot i hi).elim (h.foot i) (fun hl=>.inr (Nat.le_trans h.touch.size hl))⟩
theorem Step.of_touch {F:Nat→Prop} {a b:World} (h:Touch F a b):Step F F a b:=⟨h,fun _ h=>.inl h⟩
theorem qan.later {w w':World} {c:Nat} {m:qae} {F:Nat→Prop} (h:qan w c m F) (hb:Below w.heap.size w w'):qan w' c m F:=by
 obtain ⟨⟨s,h1,h2,h3,⟨⟨a,cc,h4,h5,h6,h7,h7'⟩⟩,h8,h9,h10,h11⟩,hlt⟩:=h
 exact ⟨⟨s,h1.later hb,h2,h3.later hb,⟨a,cc,h4,h5.later hb,h6,h7,h7'⟩,World.ownsRow.later h8 hb,h9,h10,h11⟩,fun b hb'=>Nat.lt_of_lt_of_le (hlt b hb') hb.size⟩
def qae.works (m:qae):Bool:=worksB m.job
def qae.pass (m:qae):qae:=match m.job with
 | none=>m
 | some j=>if j.susp then m else if j.left - 1≤0 then { m with cells:=jobCells j m.cells ⟨#[255]⟩,job:=none,en:=false } else { m with job:=some { j with left:=j.left - 1 } }
structure qae.Ok (m:qae):Prop where
 size:m.cells.size=4096
 job : ∀ x,m.job=some x→qv1 x
 addr0:0≤m.addr
 addr1:m.addr<4096
 op:qs4 m.op
 data:m.data.length≤1099511627776
theorem qbP {w:World} {v:Value} {n:Nat} {xs:List Value} (h:w.ownsRow 0 3 1 v n xs) {g:Nat} (hg:v.ownBlock=some g) : ∃ cur,w.heap[g]? = some (.cells cur 3 (0,0)):=by
 rcases h.2 with ⟨rfl,_⟩ | ⟨g',cap,cur,rfl,_,hgg,_⟩
 ·
  simp [Value.ownBlock] at hg
 ·
  obtain rfl:g'=g:=by simpa [Value.ownBlock] using hg
  exact ⟨cur,hgg⟩
theorem qbR {F:Nat→Prop} {w w':World} {v:Value} {n:Nat} {xs:List Value} (h:w.ownsRow 0 3 1 v n xs) (t:Touch F w w') (hn : ∀ g,v.ownBlock=some g → ¬ F g):w'.ownsRow 0 3 1 v n xs:=by
 refine ⟨h.1,?_⟩
 rcases h.2 with h2 | ⟨g,cap,cur,hv,hb,hg,r⟩
 ·
  exact .inl h2
 ·
  exact .inr ⟨g,cap,cur,hv,hb,t.at hg (hn g (by rw [hv];rfl)),r⟩
theorem qjX.touch {F G:Nat→Prop} {w w':World} {v:Value} {busy:List Int} {home:Nat} (h:qjX w v busy home F) (t:Touch G w w') (hG : ∀ b,G b→F b):qjX w' v busy home F:=by
 obtain ⟨a,c,h1,h2,h3,h4,h5⟩:=h
 exact ⟨a,c,h1,qaY h2 t (fun b o e hl hg=>h3 b o e hl (hG b hg)),h3,h4,h5⟩
theorem qoH {w:World} {c:Nat} {s:Raw} {j:Option Job} {n:Nat} {xs:List Value} (h1:qas w c s) (h3:qel w s.job j) (h8:w.ownsRow 0 3 1 s.data n xs) : ∀ g,s.data.ownBlock=some g → ¬ qv0 c s.job g:=by
 intro g hg hf
 obtain ⟨cur,hc⟩:=qbP h8 hg
 rcases hf with rfl | hf
 ·
  have:=hc.symm.trans h1;simp at this
 ·
  cases j with
  | none=>rw [show s.job=none from h3] at hf;cases hf
  | some j =>
   obtain ⟨b,hb,hbj⟩:=h3
   rw [hb] at hf
   obtain rfl:b=g:=by simpa using hf
   have:=hc.symm.trans hbj;simp at this
def qbv (c:Nat) (m:qae) (F:Nat→Prop) (w:World) (e:Ending) (w':World):Prop:=e=.returned (.tuple #[]) ∧ ∃ F',qan w' c m F'∧Step F F' w w'
theorem qjF (c:Nat) (m:qae) (F:Nat→Prop) (w:World) (h:qan w c m F) (ok:m.Ok):Calls Tryz.prog 231 #[.pointer (some ⟨c,0,none⟩)] w (qbv c m.pass F w):=by
 obtain ⟨⟨s,h1,h2,h3,h4,h8,h9,h10,h11⟩,hlt⟩:=h
 refine (qqx c s m.job w h1 h3 ok.job (by rw [h2.cells];exact ok.size)).mono ?_
 rintro e w' ⟨rfl,g1,g3,t⟩
 have hFF : ∀ b,qv0 c s.job b→F b:=fun b hb=>hb.elim (fun e=>by rw [e];exact h9) (fun e=>h10 b e)
 refine ⟨rfl,F,⟨⟨qbz s m.job,g1,?_,?_,?_,?_,h9,?_,?_⟩,fun b hb=>Nat.lt_of_lt_of_le (hlt b hb) t.size⟩,Step.of_touch (t.mono hFF)⟩
 ·
  unfold qbz qae.pass
  cases hj:m.job with
  | none=>exact h2
  | some j =>
   simp only
   split
   ·
    exact h2
   ·
    split
    ·
     exact ⟨by simp only [h2.cells],h2.prot,h2.quad,h2.sel,rfl,h2.goes,h2.op,h2.stage,h2.left,h2.got,h2.addr,h2.mode,h2.moded,h2.told,h2.now,h2.beyond,h2.once⟩
    ·
     exact ⟨h2.cells,h2.prot,h2.quad,h2.sel,h2.en,h2.goes,h2.op,h2.stage,h2.left,h2.got,h2.addr,h2.mode,h2.moded,h2.told,h2.now,h2.beyond,h2.once⟩
 ·
  have e:m.pass.job=qds s m.job:=by
   unfold qds qae.pass
   cases hj:m.job with
   | none=>exact hj
   | some j =>
    simp only
    split
    ·
     exact hj
    ·
     split <;> rfl
  rw [e];exact g3
 ·
  have e1:m.pass.busy=m.busy:=by unfold qae.pass;cases m.job with | none=>rfl | some j=>simp only;split;rfl;split <;> rfl
  have e2:(qbz s m.job).busy=s.busy:=by unfold qbz;cases m.job with | none=>rfl | some j=>simp only;split;rfl;split <;> rfl
  have e3:m.pass.home=m.home:=by unfold qae.pass;cases m.job with | none=>rfl | some j=>simp only;split;rfl;split <;> rfl
  rw [e1,e2,e3]
  exact h4.touch t hFF
 ·
  have e1:m.pass.data=m.data:=by unfold qae.pass;cases m.job with | none=>rfl | some j=>simp only;split;rfl;split <;> rfl
  have e2:(qbz s m.job).data=s.data:=by unfold qbz;cases m.job with | none=>rfl | some j=>simp only;split;rfl;split <;> rfl
  rw [e1,e2]
  exact qbR h8 t (qoH h1 h3 h8)
 ·
  intro b hb
  have:(qbz s m.job).job=s.job∨(qbz s m.job).job=none:=by
   unfold qbz
   cases m.job with
   | none=>exact .inl rfl
   | some j=>simp only;split;exact .inl rfl;split;exact .inr rfl;exact .inl rfl
  rcases this with e | e
  ·
   rw [e] at hb;exact h10 b hb
  ·
   rw [e] at hb;cases hb
 ·
  have e2:(qbz s m.job).data=s.data:=by unfold qbz;cases m.job with | none=>rfl | some j=>simp only;split;rfl;split <;> rfl
  rw [e2];exact h11
structure qaw (w:World) (c:Nat) (s:Raw) (m:qae) (F:Nat→Prop):Prop where
 raw:qas w c s
 says:Says s m
 job:qel w s.job m.job
 busy:qjX w s.busy m.busy m.home F
 data:w.ownsRow 0 3 1 s.data m.data.length (intVals m.data)
 own:F c
 ownJob : ∀ b,s.job=some ⟨b,0,none⟩→F b
 ownData : ∀ g,s.data.ownBlock=some g→F g
 lt : ∀ b,F b→b<w.heap.size
theorem qan.open {w:World} {c:Nat} {m:qae} {F:Nat→Prop} (h:qan w c m F) : ∃ s,qaw w c s m F:=by
 obtain ⟨⟨s,h1,h2,h3,h4,h8,h9,h10,h11⟩,hlt⟩:=h
 exact ⟨s,h1,h2,h3,h4,h8,h9,h10,h11,hlt⟩
theorem qaw.shut {w:World} {c:Nat} {s:Raw} {m:qae} {F:Nat→Prop} (h:qaw w c s m F):qan w c m F :=
 ⟨⟨s,h.raw,h.says,h.job,h.busy,h.data,h.own,h.ownJob,h.ownData⟩,h.lt⟩
theorem qel.only {w w':World} {c:Nat} {s:Raw} {a:Option Addr} {j:Option Job} (h:qel w a j) (h1:qas w c s) (t:Touch (Only c) w w'):qel w' a j:=by
 cases j with
 | none=>exact h
 | some j =>
  obtain ⟨b,hb,hbj⟩:=h
  refine ⟨b,hb,t.at hbj fun e => ?_⟩
  obtain rfl:b=c:=e
  have:=hbj.symm.trans h1;simp at this
theorem qaw.block {w w':World} {c:Nat} {s s':Raw} {m m':qae} {F:Nat→Prop} (h:qaw w c s m F) (g1:qas w' c s') (g2:Says s' m') (t:Touch (Only c) w w') (ej:s'.job=s.job) (emj:m'.job=m.job) (eb:s'.busy=s.busy) (emb:m'.busy=m.busy) (ed:s'.data=s.data) (emd:m'.data=m.data) (emh:m'.home=m.home:=by rfl):qaw w' c s' m' F:=by
 have hF : ∀ b,Only c b→F b:=fun b e=>by rw [show b=c from e];exact h.own
 have hd:w'.ownsRow 0 3 1 s.data m.data.length (intVals m.data):=qbR h.data t (fun g hg e=>by
  obtain ⟨cur,hc⟩:=qbP h.data hg
  rw [show g=c from e] at hc
  have:=hc.symm.trans h.raw;simp at this)
 exact ⟨g1,g2,by rw [ej,emj];exact h.job.only h.raw t,by rw [eb,emb,emh];exact h.busy.touch t hF,by rw [ed,emd];exact hd,h.own,by rw [ej];exact h.ownJob,by rw [ed];exact h.ownData,fun b hb=>Nat.lt_of_lt_of_le (h.lt b hb) t.size⟩
theorem qaw.step {w w':World} {c:Nat} {s:Raw} {m:qae} {F:Nat→Prop} (h:qaw w c s m F) (t:Touch (Only c) w w'):Step F F w w':=Step.of_touch (t.mono fun b e=>by rw [show b=c from e];exact h.own)
def qae.starts (m:qae) (j:Job):qae :=
 if m.en=false then m else if (m.prot&&decide (m.addr<2048))=true then { m with en:=false } else { m with job:=some { j with left:=m.busy.headD 8 },busy:=m.busy.drop 1 }
def qae.whole (m:qae):Bool:=if m.op.inn=true then decide (m.stage=5)&&decide (m.left=8) else if m.op.data=0 then decide (m.stage=7) && !m.beyond else true
def qae.suspends (m:qae):qae:=match m.job with | some j=>if j.sector = -1 then m else { m with job:=some { j with susp:=true } } | none=>m
def qae.resumes (m:qae):qae:=match m.job with | some j=>{ m with job:=some { j with susp:=false } } | none=>m
def qae.puts (m:qae):qae:=if m.en=true∧m.data.length=2 then { m with prot:=bits .and .i64 (m.data.getD 0 0) 4 != 0,quad:=bits .and .i64 (m.data.getD 1 0) 2 != 0,en:=false } else m
def qae.programs (m:qae):qae:=if 0<m.data.length then m.starts ⟨-1,m.addr - m.addr % 32,pageOf m.addr m.data,0,false⟩ else m
def qae.erases (m:qae):qae:=m.starts ⟨m.addr / 512,0,ByteArray.empty,0,false⟩
def qae.does (m:qae):qae :=
 if m.op.byte=6 then { m with en:=true } else if m.op.byte=4 then { m with en:=false } else if m.op.byte=117 then m.suspends else if m.op.byte=122 then m.resumes
 else if m.op.byte=1 then m.puts else if m.op.byte=2 then m.programs else if m.op.byte=32 then m.erases else if m.op.byte=235 then { m with goes:=m.moded&&decide (m.mode=160) } else m
def qae.ends (m:qae):qae:=if m.stage=0∨m.stage=1∨m.whole=false then m else m.does
theorem qt3 {s t:Raw} (h:s.noW=t.noW):s.cells=t.cells∧s.prot=t.prot∧s.quad=t.quad∧s.o0=t.o0∧s.o1=t.o1∧s.o2=t.o2∧s.sfdp=t.sfdp∧s.sel=t.sel∧s.en=t.en∧s.goes=t.goes∧s.job=t.job∧s.busy=t.busy∧s.op=t.op∧s.stage=t.stage∧s.left=t.left∧s.got=t.got∧s.addr=t.addr∧s.mode=t.mode∧s.moded=t.moded∧s.data=t.data∧s.told=t.told∧s.now=t.now∧s.beyond=t.beyond:=by
 unfold Raw.noW at h
 injection h with a1 a2 a3 a4 a5 a6 a7 a8 a9 a10 a11 a12 a13 a14 a15 a16 a17 a18 a19 a20 a21 a22 a23 a24 a25 a26 a27 a28 a29 a30 a31
 exact ⟨a1,a2,a3,a12,a13,a14,a15,a16,a17,a18,a19,a20,a21,a22,a23,a24,a25,a26,a27,a28,a29,a30,a31⟩
def qng (c jb:Nat) (m:qae) (F:Nat→Prop) (w:World) (e:Ending) (w':World):Prop :=
 e=.returned (.tuple #[]) ∧ ∃ F':Nat→Prop,qan w' c m F'∧Touch (fun b=>F b∨b=jb) w w' ∧ ∀ b,F' b→F b∨b=jb
theorem qhw (c jb:Nat) (s:Raw) (m:qae) (j:Job) (F:Nat→Prop) (w:World) (h:qaw w c s m F) (hj:w.heap[jb]? = some (.cells j.row 192 (0,0))) (hjn : ¬ F jb) (hsec:j.sector = -1 ∨ ∃ k:Nat,j.sector=k∧k<8) (ha0:0≤m.addr) (ha1:m.addr<4096) (hnb : ∀ ba bc,s.busy=.slice ba m.busy.length bc → ∀ b o,ba=some ⟨b,o,none⟩→0<m.busy.length→b≠jb):Calls Tryz.prog 224 #[.pointer (some ⟨c,0,none⟩),.pointer (some ⟨jb,0,none⟩)] w (qng c jb (m.starts j) F w):=by
 have hsub : ∀ {w':World},Touch (Only c) w w'→Touch (fun b=>F b∨b=jb) w w':=fun t=>t.mono fun b e=>.inl (by rw [show b=c from e];exact h.own)
 by_cases he:m.en=false
 ·
  have e:m.starts j=m:=by unfold qae.starts;rw [if_pos he]
  rw [e]
  refine (qqL c jb s w h.raw (by rw [h.says.en];exact he)).mono ?_
  rintro e w' ⟨rfl,g,t⟩
  exact ⟨rfl,F,(h.block g h.says t rfl rfl rfl rfl rfl rfl).shut,hsub t,fun b hb=>.inl hb⟩
 have he':m.en=true:=by cases hh:m.en with | true=>rfl | false=>exact absurd hh he
 have es:s.en=true:=by rw [h.says.en];exact he'
 have a0:0≤s.addr:=by rw [h.says.addr];exact ha0
 have a1:s.addr<4096:=by rw [h.says.addr];exact ha1
 have ep:(s.prot&&decide (s.addr<2048))=(m.prot&&decide (m.addr<2048)):=by rw [h.says.prot,h.says.addr]
 by_cases hp:(m.prot&&decide (m.addr<2048))=true
 ·
  have e:m.starts j={ m with en:=false }:=by unfold qae.starts;rw [if_neg he,if_pos hp]
  rw [e]
  refine (qoh c jb s w h.raw es a0 a1 (ep.trans hp)).mono ?_
  rintro e w' ⟨rfl,g,t⟩
  have hs:=h.says
  exact ⟨rfl,F,(h.block (m':={ m with en:=false }) g ⟨hs.cells,hs.prot,hs.quad,hs.sel,rfl,hs.goes,hs.op,hs.stage,hs.left,hs.got,hs.addr,hs.mode,hs.moded,hs.told,hs.now,hs.beyond,hs.once⟩ t rfl rfl rfl rfl rfl rfl).shut,hsub t,fun b hb=>.inl hb⟩
 ·
  have e:m.starts j={ m with job:=some { j with left:=m.busy.headD 8 },busy:=m.busy.drop 1 }:=by unfold qae.starts;rw [if_neg he,if_neg hp]
  rw [e]
  obtain ⟨ba,bc,hb1,hb2,hb3,hb4,hb5,hb6⟩:=h.busy.ex
  have hp':(m.prot&&decide (m.addr<2048))=false:=by cases hh:(m.prot&&decide (m.addr<2048)) with | false=>rfl | true=>exact absurd hh hp
  have hbj : ∀ b o,ba=some ⟨b,o,none⟩→0<m.busy.length→b≠c∧b≠jb:=fun b o e hl=>⟨fun e2=>hb3 b o e hl (by rw [e2];exact h.own),hnb ba bc hb1 b o e hl⟩
  refine (qsJ c jb s j ba bc m.busy w h.raw hj es a0 a1 (ep.trans hp') hb1 hb2 hbj hb5 hb4 hsec).mono ?_
  rintro e w' ⟨rfl,s',ba',bc',r1,r2,r3,r4,r4',r5,r6,t⟩
  obtain ⟨n1,n2,n3,n4,n5,n6,n7,n8,n9,n10,n11,n12,n13,n14,n15,n16,n17,n18,n19,n20,n21,n22,n23⟩:=qt3 r2
  have hs:=h.says
  have tF:Touch (fun b=>F b∨b=jb) w w':=t.mono fun b e=>e.elim (fun e=>.inl (by rw [e];exact h.own)) .inr
  have hlt':jb<w.heap.size:=qat hj
  have hdj : ∀ g,s.data.ownBlock=some g → ¬ Two c jb g:=fun g hg e=>by
   obtain ⟨cur,hc⟩:=qbP h.data hg
   rcases e with rfl | rfl
   ·
    have:=hc.symm.trans h.raw;simp at this
   ·
    have:=hc.symm.trans hj;simp at this
  refine ⟨rfl,fun b=>F b∨b=jb,qaw.shut (s:=s') ⟨r1,?_,?_,?_,?_,.inl h.own,?_,?_,?_⟩,tF,fun b hb=>hb⟩
  ·
   exact ⟨n1.trans hs.cells,n2.trans hs.prot,n3.trans hs.quad,n8.trans hs.sel,n9.trans hs.en,n10.trans hs.goes,n13.trans hs.op,n14.trans hs.stage,n15.trans hs.left,n16.trans hs.got,n17.trans hs.addr,n18.trans hs.mode,n19.trans hs.moded,n21.trans hs.told,n22.trans hs.now,n23.trans hs.beyond,by
    rw [n4,n5,n6,n7];exact hs.once⟩
  ·
   exact ⟨jb,n11,r6⟩
  ·
   refine ⟨ba',bc',n12,r3,fun b o e hl hF => ?_,r5,r4',fun b o e hl => ?_⟩
   ·
    obtain ⟨o',k1⟩:=r4 b o e hl
    have hl':0<m.busy.length:=by have:0<(m.busy.drop 1).length:=hl;simp at this;omega
    exact hF.elim (hb3 b o' k1 hl') (hbj b o' k1 hl').2
   ·
    obtain ⟨o',k1⟩:=r4 b o e hl
    have hl':0<m.busy.length:=by have:0<(m.busy.drop 1).length:=hl;simp at this;omega
    exact hb6 b o' k1 hl'
  ·
   rw [n20];exact qbR h.data t hdj
  ·
   intro b hb
   rw [n11] at hb
   exact .inr (by simpa using hb.symm)
  ·
   intro g hg
   rw [n20] at hg
   exact .inl (h.ownData g hg)
  ·
   intro b hb
   exact Nat.lt_of_lt_of_le (hb.elim (h.lt b) (fun e=>by rw [e];exact hlt')) t.size
end
section
open Go.RowKit
def qae.suspended (m:qae):Bool:=match m.job with | none=>false | some j=>j.susp
def qae.first (m:qae):Int:=qu1 m.works m.en m.prot
def qae.second (m:qae):Int:=qpK m.quad m.suspended
def qgG (m:qae) (w:World) (e:Ending) (w':World):Prop:=e=.returned (.tuple #[.int .i64 m.first,.int .i64 m.second])∧Below w.heap.size w w'
theorem qoi (c:Nat) (m:qae) (s:Raw) (F:Nat→Prop) (w:World) (h:qaw w c s m F) (hj:m.job=none):Calls Tryz.prog 253 #[.pointer (some ⟨c,0,none⟩)] w (qgG m w):=by
 have hs:=h.says
 have hd:qas w.drew c s:=h.raw
 have c1:w.drew.cell? ⟨c,1,none⟩=some (.bool m.prot):=by rw [← hs.prot];exact qaa hd 1
 have c2:w.drew.cell? ⟨c,2,none⟩=some (.bool m.quad):=by rw [← hs.quad];exact qaa hd 2
 have c16:w.drew.cell? ⟨c,16,none⟩=some (.bool m.en):=by rw [← hs.en];exact qaa hd 16
 have c18:w.drew.cell? ⟨c,18,none⟩=some (.pointer s.job):=qaa hd 18
 have HW:=zH (qec c s m.job w.drew hd h.job)
 have HL:=zH (qat hd)
 have hsj:s.job=none:=by have:=h.job;rw [hj] at this;exact this
 have E:=zH (show m.first=qu1 false m.en m.prot∧m.second=qpK m.quad false by unfold qae.first qae.second qae.works qae.suspended worksB;rw [hj];exact ⟨rfl,rfl⟩)
 rw [hsj] at c18
 rw [hj] at HW
 clear h hs hd hsj hj
 go_enter Tryz.func253,Tryz.ntmps253
 go_wp2_with fail
 refine wp_region_noPanic ?_
 refine wp_region_held_drew (S:=(fun w'=>w'.cell? ⟨c,1,none⟩=some (.bool m.prot)∧w'.cell? ⟨c,2,none⟩=some (.bool m.quad)∧w'.cell? ⟨c,16,none⟩=some (.bool m.en)∧w'.cell? ⟨c,18,none⟩=some (.pointer none))) (by kernel_rfl) ?hS3000 (fun hHeld => ?_)
 case hS3000=>(try dsimp only);exact ⟨c1,c2,c16,c18⟩
 refine tk 0 ?_
 refine tk 2 ?_
 refine tk 3 ?_
 refine tk 4 ?_
 refine tk 5 ?_
 refine tk 6 ?_
 refine tk 7 ?_
 refine tk 8 ?_
 refine tk 9 ?_
 refine tk 10 ?_
 refine tk 12 ?_
 refine tk 13 ?_
 refine tk 14 ?_
 refine tk 15 ?_
 refine tk 16 ?_
 refine tk 17 ?_
 refine tk 18 ?_
 refine tk 19 ?_
 refine tk 20 ?_
 refine tk 21 ?_
 refine tr 1 fun K hK => ?_
 go_simp
 go_at_call 242
 refine HW.out.mono ?_
 rintro e w1 ⟨rfl,rfl⟩
 go_wp2_with fail
 refine hK.out _ _ ?hS3001 (fun hHeld => ?_)
 case hS3001=>(try dsimp only);exact ⟨c1,c2,c16,c18⟩
 clear hK K
 try simp only [Act.put,zS,zT,zU]
 refine tr 11 fun K hK => ?_
 go_simp
 go_at_call 255
 refine (qiD _ _ _ _).mono ?_
 rintro e w1 ⟨rfl,hb1⟩
 go_wp2_with fail
 refine hK.out _ _ ?hS3011 (fun hHeld => ?_)
 case hS3011=>(try dsimp only);exact ⟨(hb1.cell (p:=⟨c,1,none⟩) HL.out).trans c1,(hb1.cell (p:=⟨c,2,none⟩) HL.out).trans c2,(hb1.cell (p:=⟨c,16,none⟩) HL.out).trans c16,(hb1.cell (p:=⟨c,18,none⟩) HL.out).trans c18⟩
 clear hK K
 try simp only [Act.put,zS,zT,zU]
 refine tk 22 ?_
 refine wpAnyH_take (i:=23) (oi:=⟨some 29,.move (.tmp 0),79, "chip.go:199",#[⟨22,.guard⟩],some (22,true)⟩) (v:=undef) rfl (by kernel_rfl) (by kernel_rfl) (by kernel_rfl) (fun _ _ _ h=>h) (Or.inr ⟨by rfl,rfl⟩) (by assumption) ?_
 try simp only [Act.put,zS,zT,zU]
 refine wpAnyH_take (i:=24) (oi:=⟨some 30,.nilCheck (.tmp 29),0, "chip.go:199",#[⟨23,.data⟩,⟨22,.guard⟩],some (22,true)⟩) (v:=undef) rfl (by kernel_rfl) (by kernel_rfl) (by kernel_rfl) (fun _ _ _ h=>h) (Or.inr ⟨by rfl,rfl⟩) (by assumption) ?_
 try simp only [Act.put,zS,zT,zU]
 refine wpAnyH_take (i:=25) (oi:=⟨some 31,.fieldAddr 131 (.tmp 30) 6,0, "chip.go:199",#[⟨24,.data⟩,⟨22,.guard⟩],some (22,true)⟩) (v:=undef) rfl (by kernel_rfl) (by kernel_rfl) (by kernel_rfl) (fun _ _ _ h=>h) (Or.inr ⟨by rfl,rfl⟩) (by assumption) ?_
 try simp only [Act.put,zS,zT,zU]
 refine wpAnyH_take (i:=26) (oi:=⟨some 32,.fieldAddr 129 (.tmp 31) 3,0, "chip.go:199",#[⟨25,.data⟩,⟨22,.guard⟩],some (22,true)⟩) (v:=undef) rfl (by kernel_rfl) (by kernel_rfl) (by kernel_rfl) (fun _ _ _ h=>h) (Or.inr ⟨by rfl,rfl⟩) (by assumption) ?_
 try simp only [Act.put,zS,zT,zU]
 refine wpAnyH_take (i:=27) (oi:=⟨some 33,.load 123 (.tmp 32),123, "chip.go:199",#[⟨26,.data⟩,⟨22,.guard⟩],some (22,true)⟩) (v:=undef) rfl (by kernel_rfl) (by kernel_rfl) (by kernel_rfl) (fun _ _ _ h=>h) (Or.inr ⟨by rfl,rfl⟩) (by assumption) ?_
 try simp only [Act.put,zS,zT,zU]
 refine wpAnyH_take (i:=28) (oi:=⟨some 34,.nilCheck (.tmp 33),0, "chip.go:199",#[⟨27,.data⟩,⟨22,.guard⟩],some (22,true)⟩) (v:=undef) rfl (by kernel_rfl) (by kernel_rfl) (by kernel_rfl) (fun _ _ _ h=>h) (Or.inr ⟨by rfl,rfl⟩) (by assumption) ?_
 try simp only [Act.put,zS,zT,zU]
 refine wpAnyH_take (i:=29) (oi:=⟨some 35,.fieldAddr 192 (.tmp 34) 4,0, "chip.go:199",#[⟨28,.data⟩,⟨22,.guard⟩],some (22,true)⟩) (v:=undef) rfl (by kernel_rfl) (by kernel_rfl) (by kernel_rfl) (fun _ _ _ h=>h) (Or.inr ⟨by rfl,rfl⟩) (by assumption) ?_
 try simp only [Act.put,zS,zT,zU]
 refine wpAnyH_take (i:=30) (oi:=⟨some 36,.load 4 (.tmp 35),4, "chip.go:199",#[⟨29,.data⟩,⟨22,.guard⟩],some (22,true)⟩) (v:=undef) rfl (by kernel_rfl) (by kernel_rfl) (by kernel_rfl) (fun _ _ _ h=>h) (Or.inr ⟨by rfl,rfl⟩) (by assumption) ?_
 try simp only [Act.put,zS,zT,zU]
 refine tk 31 ?_
 refine tr 32 fun K hK => ?_
 go_simp
 go_at_call 256
 refine (qhu _ _ _).mono ?_
 rintro e w2 ⟨rfl,hb2⟩
 go_wp2_with fail
 refine hK.out _ _ ?hS3032 (fun hHeld => ?_)
 case hS3032=>(try dsimp only);exact ⟨((gtr hb1 hb2).cell (p:=⟨c,1,none⟩) HL.out).trans c1,((gtr hb1 hb2).cell (p:=⟨c,2,none⟩) HL.out).trans c2,((gtr hb1 hb2).cell (p:=⟨c,16,none⟩) HL.out).trans c16,((gtr hb1 hb2).cell (p:=⟨c,18,none⟩) HL.out).trans c18⟩
 clear hK K
 try simp only [Act.put,zS,zT,zU]
 refine tk 33 ?_
 refine tk 34 ?_
 refine wpAnyH_done (by kernel_rfl) ?_ _
 refine NoPanic.normal ?_
 go_wp2_with fail
 go_ret2
 exact ⟨by rw [E.out.1,E.out.2];rfl,gtr (qai (Below.refl _ _)) (gtr hb1 hb2)⟩
theorem qoj (c b:Nat) (m:qae) (j:Job) (s:Raw) (F:Nat→Prop) (w:World) (h:qaw w c s m F) (hj:m.job=some j):Calls Tryz.prog 253 #[.pointer (some ⟨c,0,none⟩)] w (qgG m w):=by
 have hs:=h.says
 have hd:qas w.drew c s:=h.raw
 have c1:w.drew.cell? ⟨c,1,none⟩=some (.bool m.prot):=by rw [← hs.prot];exact qaa hd 1
 have c2:w.drew.cell? ⟨c,2,none⟩=some (.bool m.quad):=by rw [← hs.quad];exact qaa hd 2
 have c16:w.drew.cell? ⟨c,16,none⟩=some (.bool m.en):=by rw [← hs.en];exact qaa hd 16
 have c18:w.drew.cell? ⟨c,18,none⟩=some (.pointer s.job):=qaa hd 18
 have HW:=zH (qec c s m.job w.drew hd h.job)
 have HL:=zH (qat hd)
 have hJ:=h.job
 rw [hj] at hJ
 obtain ⟨b,hsj,hjb⟩:=hJ
 have hjd:w.drew.heap[b]? = some (.cells j.row 192 (0,0)):=hjb
 have d4:w.drew.cell? ⟨b,4,none⟩=some (.bool j.susp):=qaa hjd 4
 have HB:=zH (qat hjd)
 have E:=zH (show m.first=qu1 (!j.susp) m.en m.prot∧m.second=qpK m.quad j.susp by unfold qae.first qae.second qae.works qae.suspended worksB;rw [hj];exact ⟨rfl,rfl⟩)
 rw [hsj] at c18
 rw [hj] at HW
 clear h hs hd hsj hj hjb hjd
 go_enter Tryz.func253,Tryz.ntmps253
 go_wp2_with fail
 refine wp_region_noPanic ?_
 refine wp_region_held_drew (S:=(fun w'=>w'.cell? ⟨c,1,none⟩=some (.bool m.prot)∧w'.cell? ⟨c,2,none⟩=some (.bool m.quad)∧w'.cell? ⟨c,16,none⟩=some (.bool m.en)∧w'.cell? ⟨c,18,none⟩=some (.pointer (some ⟨b,0,none⟩))∧w'.cell? ⟨b,4,none⟩=some (.bool j.susp))) (by kernel_rfl) ?hS3000 (fun hHeld => ?_)
 case hS3000=>(try dsimp only);exact ⟨c1,c2,c16,c18,d4⟩
 refine tk 0 ?_
 refine tk 2 ?_
 refine tk 3 ?_
 refine tk 4 ?_
 refine tk 5 ?_
 refine tk 6 ?_
 refine tk 7 ?_
 refine tk 8 ?_
 refine tk 9 ?_
 refine tk 10 ?_
 refine tk 12 ?_
 refine tk 13 ?_
 refine tk 14 ?_
 refine tk 15 ?_
 refine tk 16 ?_
 refine tk 17 ?_
 refine tk 18 ?_
 refine tk 19 ?_
 refine tk 20 ?_
 refine tk 21 ?_
 refine tr 1 fun K hK => ?_
 go_simp
 go_at_call 242
 refine HW.out.mono ?_
 rintro e w1 ⟨rfl,rfl⟩
 go_wp2_with fail
 refine hK.out _ _ ?hS3001 (fun hHeld => ?_)
 case hS3001=>(try dsimp only);exact ⟨c1,c2,c16,c18,d4⟩
 clear hK K
 try simp only [Act.put,zS,zT,zU]
 refine tr 11 fun K hK => ?_
 go_simp
 go_at_call 255
 refine (qiD _ _ _ _).mono ?_
 rintro e w1 ⟨rfl,hb1⟩
 go_wp2_with fail
 refine hK.out _ _ ?hS3011 (fun hHeld => ?_)
 case hS3011=>(try dsimp only);exact ⟨(hb1.cell (p:=⟨c,1,none⟩) HL.out).trans c1,(hb1.cell (p:=⟨c,2,none⟩) HL.out).trans c2,(hb1.cell (p:=⟨c,16,none⟩) HL.out).trans c16,(hb1.cell (p:=⟨c,18,none⟩) HL.out).trans c18,(hb1.cell (p:=⟨b,4,none⟩) HB.out).trans d4⟩
 clear hK K
 try simp only [Act.put,zS,zT,zU]
 refine tk 22 ?_
 refine tk 23 ?_
 refine tk 24 ?_
 refine tk 25 ?_
 refine tk 26 ?_
 refine tk 27 ?_
 refine tk 28 ?_
 refine tk 29 ?_
 refine tk 30 ?_
 refine tk 31 ?_
 refine tr 32 fun K hK => ?_
 go_simp
 go_at_call 256
 refine (qhu _ _ _).mono ?_
 rintro e w2 ⟨rfl,hb2⟩
 go_wp2_with fail
 refine hK.out _ _ ?hS3032 (fun hHeld => ?_)
 case hS3032=>(try dsimp only);exact ⟨((gtr hb1 hb2).cell (p:=⟨c,1,none⟩) HL.out).trans c1,((gtr hb1 hb2).cell (p:=⟨c,2,none⟩) HL.out).trans c2,((gtr hb1 hb2).cell (p:=⟨c,16,none⟩) HL.out).trans c16,((gtr hb1 hb2).cell (p:=⟨c,18,none⟩) HL.out).trans c18,((gtr hb1 hb2).cell (p:=⟨b,4,none⟩) HB.out).trans d4⟩
 clear hK K
 try simp only [Act.put,zS,zT,zU]
 refine tk 33 ?_
 refine tk 34 ?_
 refine wpAnyH_done (by kernel_rfl) ?_ _
 refine NoPanic.normal ?_
 go_wp2_with fail
 go_ret2
 exact ⟨by rw [E.out.1,E.out.2];rfl,gtr (qai (Below.refl _ _)) (gtr hb1 hb2)⟩
theorem qmX (c:Nat) (m:qae) (F:Nat→Prop) (w:World) (h:qan w c m F):Calls Tryz.prog 253 #[.pointer (some ⟨c,0,none⟩)] w (qgG m w):=by
 obtain ⟨s,h⟩:=h.open
 cases hj:m.job with
 | none=>exact qoi c m s F w h hj
 | some j=>exact qoj c 0 m j s F w h hj
end
end Go.Proofs.YtcfdenckiigdaaaGreat

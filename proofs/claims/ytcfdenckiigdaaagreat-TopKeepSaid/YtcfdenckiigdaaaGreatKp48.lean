/- Part 48 of the contracts. -/
import Derived.Test.YtcfdenckiigdaaaGreatKp47
set_option linter.unusedVariables false
set_option maxRecDepth 100000
set_option maxHeartbeats 4000000
namespace Go.Proofs.YtcfdenckiigdaaaGreat
section
open Go.RowKit
theorem qnV (x:Int) (w:World):Calls Tryz.prog 13 #[.int .i64 x] w fun e w'=>e=.returned (.int .i64 x)∧w'=w:=(qsf x w).mono fun e w' h=>⟨h.1,h.2.symm⟩
theorem qr2 {x:ByteArray} {S:qaf} {V:qau} (h:Lay x 4 V) (e:S=⟨true,4,V⟩):S.Fit:=by
 subst e
 exact .inr ⟨rfl,show (4:Int)≤4 by decide,show (4:Int)<8 by decide,h.vok⟩
theorem qoL (p:Nat) (W:Wld) (G:Nat→Prop) (x0 img:ByteArray) (w:World) (h:qaz w p W G) (n:Now W x0 img) (hs:W.S=shut) (hx:qvY x0):Calls Tryz.prog 11 #[.pointer (some ⟨p,0,none⟩),.agg #[.int .i64 0,.string ⟨#[]⟩,.string ⟨#[]⟩,.int .i64 0,.int .i64 0,.int .i64 0,.string ⟨#[]⟩,.slice none 0 0,.slice none 0 0]] w fun e w' => ∃ W' x1,Now W' x1 img∧W'.S=⟨true,4,V0⟩∧Lay x1 4 V0∧qa2 p W' ansZero 0 G w e w':=by
 obtain ⟨x1,h1,h2⟩:=qmb (img:=img) hx
 have:=qcx p W G (qeg 0 ⟨#[]⟩ ⟨#[]⟩) x0 img w h n (.inl hs) rfl (by decide) rfl rfl
 rw [hs,h2] at this
 refine this.mono ?_
 rintro e w' ⟨W',k1,k2,k3⟩
 exact ⟨W',x1,k1,k2,h1,k3⟩
theorem qsD (p:Nat) (W:Wld) (G:Nat→Prop) (x0 img:ByteArray) (w:World) (h:qaz w p W G) (n:Now W x0 img) (hs:W.S=⟨true,4,V0⟩) (hx:Lay x0 4 V0):Calls Tryz.prog 11 #[.pointer (some ⟨p,0,none⟩),.agg #[.int .i64 2,.string ⟨#[107]⟩,.string ⟨#[118]⟩,.int .i64 0,.int .i64 0,.int .i64 0,.string ⟨#[]⟩,.slice none 0 0,.slice none 0 0]] w fun e w' => ∃ W' x1,Now W' x1 img∧W'.S=⟨true,4,V1⟩∧Lay x1 4 V1∧qa2 p W' ansZero 0 G w e w':=by
 obtain ⟨x1,h1,h2⟩:=qrJ (img:=img) hx
 have:=qcx p W G (qeg 2 kB vB) x0 img w h n (qr2 hx hs) rfl (by decide) rfl rfl
 rw [hs,h2] at this
 refine this.mono ?_
 rintro e w' ⟨W',k1,k2,k3⟩
 exact ⟨W',x1,k1,k2,h1,k3⟩
def listA:qcq:=⟨⟨#[]⟩,[⟨kB,vB⟩],[],false⟩
theorem quv (p:Nat) (W:Wld) (G:Nat→Prop) (x0 img:ByteArray) (w:World) (h:qaz w p W G) (n:Now W x0 img) (hs:W.S=⟨true,4,V1⟩) (hx:Lay x0 4 V1):Calls Tryz.prog 11 #[.pointer (some ⟨p,0,none⟩),.agg #[.int .i64 5,.string ⟨#[]⟩,.string ⟨#[]⟩,.int .i64 0,.int .i64 0,.int .i64 0,.string ⟨#[]⟩,.slice none 0 0,.slice none 0 0]] w fun e w' => ∃ W',Now W' x0 img∧qa2 p W' listA 0 G w e w':=by
 have:=qcx p W G (qeg 5 ⟨#[]⟩ ⟨#[]⟩) x0 img w h n (qr2 hx hs) rfl (by decide) rfl rfl
 rw [hs,qp5] at this
 refine this.mono ?_
 rintro e w' ⟨W',k1,k2,k3⟩
 exact ⟨W',k1,k3⟩
structure Own (w w':World) (p:Nat) (W:Wld) (G:Nat→Prop):Prop where
 at_:qaz w' p W G
 below:Below w.heap.size w w'
 new : ∀ i,G i→w.heap.size≤i
theorem Own.later {w w1 w2:World} {p:Nat} {W:Wld} {G:Nat→Prop} (h:Own w w1 p W G) (hb:Below w1.heap.size w1 w2):Own w w2 p W G:=⟨h.at_.later hb,gtr h.below hb,h.new⟩
theorem Own.step {w w1 w2:World} {p:Nat} {W W':Wld} {G G':Nat→Prop} (h:Own w w1 p W G) (h2:qaz w2 p W' G') (st:Step G G' w1 w2):Own w w2 p W' G' :=
 ⟨h2,h.below.trans (st.touch.below h.below.size fun i hi hg=>by have:=h.new i hg;omega),fun i hi=>(st.foot i hi).elim (h.new i) (fun hl=>Nat.le_trans h.below.size hl)⟩
theorem qnl (w:World):Calls Tryz.prog 9 #[] w fun e w'=>e=.returned (.bool true)∧Below w.heap.size w w':=by
 have HN:=zH (show Calls Tryz.prog 16 #[.string ⟨#[97,98,99,100]⟩] w (qhc abcd w) from qfx abcd w (by decide))
 have HX:=zH (show qvY (firstX abcd) from qke (by decide))
 have HM:=zH qnV
 go_enter Tryz.func9,Tryz.ntmps9
 go_upto_region 2 with (go_at_call 16;refine HN.out.mono ?_;rintro e w1 ⟨p,W0,G0,rfl,hw,hb,hg,hc,hl,ok,hbusy,hq,hs⟩)
 have HO:=zH (zA (show Own w w1 p W0 G0 from ⟨hw,hb,hg⟩) (zA (qse hc hl ok hq (qtJ HX.out.size)) hs))
 clear hw hb hg hc hl ok hbusy hq hs HN
 generalize firstX abcd=x0 at *
 go_upto_region 4 with (go_at_call 13;refine (HM.out _ _).mono ?_;rintro e w' ⟨rfl,rfl⟩)
 have HD:=zH (fun w' hb=>qoL p W0 G0 x0 x0 w' (HO.out.1.later hb).at_ HO.out.2.1 HO.out.2.2 HX.out)
 go_upto_region 5 with (go_at_call 11;refine (HD.out _ (Below.refl _ _)).mono ?_;rintro e w2 ⟨W1,x1,n1,hs1,lay1,va,vc,vb,vd,rfl,o1,o2,G1,hw1,st1,m1,m2⟩)
 have HO1:=zH (zA ((HO.out.1.step hw1 st1).later (qac (Below.refl _ _) (.cells #[.string ansZero.value,.slice va ansZero.pairs.length vc,.slice vb ansZero.reads.length vd,.bool ansZero.lost] 34))) (zA n1 (zA hs1 lay1)))
 generalize Value.agg #[.string ansZero.value,.slice va ansZero.pairs.length vc,.slice vb ansZero.reads.length vd,.bool ansZero.lost]=va1 at *
 generalize w2.alloc (.cells #[.string ansZero.value,.slice va ansZero.pairs.length vc,.slice vb ansZero.reads.length vd,.bool ansZero.lost] 34)=wA at *
 clear n1 hs1 lay1 o1 o2 hw1 st1 m1 m2 HD HO HX
 have HD:=zH (qsD p W1 G1 x1 x0 wA HO1.out.1.at_ HO1.out.2.1 HO1.out.2.2.1 HO1.out.2.2.2)
 go_upto_region 6 with (go_at_call 11;refine HD.out.mono ?_;rintro e w3 ⟨W2,x2,n1,hs1,lay1,va,vc,vb,vd,rfl,o1,o2,G2,hw1,st1,m1,m2⟩)
 have HO2:=zH (zA ((HO1.out.1.step hw1 st1).later (qac (Below.refl _ _) (.cells #[.string ansZero.value,.slice va ansZero.pairs.length vc,.slice vb ansZero.reads.length vd,.bool ansZero.lost] 34))) (zA n1 (zA hs1 lay1)))
 generalize Value.agg #[.string ansZero.value,.slice va ansZero.pairs.length vc,.slice vb ansZero.reads.length vd,.bool ansZero.lost]=va2 at *
 generalize w3.alloc (.cells #[.string ansZero.value,.slice va ansZero.pairs.length vc,.slice vb ansZero.reads.length vd,.bool ansZero.lost] 34)=wB at *
 clear n1 hs1 lay1 o1 o2 hw1 st1 m1 m2 HD HO1
 have HD:=zH (quv p W2 G2 x2 x0 wB HO2.out.1.at_ HO2.out.2.1 HO2.out.2.2.1 HO2.out.2.2.2)
 go_upto_region 7 with (go_at_call 11;refine HD.out.mono ?_;rintro e w4 ⟨W3,n1,va,vc,vb,vd,rfl,o1,o2,G3,hw1,st1,m1,m2⟩)
 have kD:=qad w4 (.cells #[.string listA.value,.slice va listA.pairs.length vc,.slice vb listA.reads.length vd,.bool listA.lost] 34)
 have HO3:=zH (zA ((HO2.out.1.step hw1 st1).later (qac (Below.refl _ _) (.cells #[.string listA.value,.slice va listA.pairs.length vc,.slice vb listA.reads.length vd,.bool listA.lost] 34))) (zA n1.calm.cells (SliceAt.of_own (o1.alloc (.cells #[.string listA.value,.slice va listA.pairs.length vc,.slice vb listA.reads.length vd,.bool listA.lost] 34)))))
 have HK:=zH kD
 have hx4:x2.size=4096:=HO2.out.2.2.2.size
 have HH:=zH (qp4 HO2.out.2.2.2)
 have HE:=zH (zA (qw7 hx4) (qvM hx4))
 generalize Value.agg #[.string listA.value,.slice va listA.pairs.length vc,.slice vb listA.reads.length vd,.bool listA.lost]=va3 at *
 generalize w4.alloc (.cells #[.string listA.value,.slice va listA.pairs.length vc,.slice vb listA.reads.length vd,.bool listA.lost] 34)=wC at *
 generalize w4.heap.size=bL at *
 clear n1 o1 o2 hw1 st1 m1 m2 HD HO2 kD
 have HC:=zH (qhD p W3 G3 wC HO3.out.1.at_)
 rw [HO3.out.2.1] at HC
 go_upto_region 8 with (go_at_call 14;refine HC.out.mono ?_;rintro e w5 ⟨rfl,rfl⟩)
 go_upto_region 10 with fail
 have HS:=zH (qkx (qeP x2 4) w5 (qbr _ _))
 rw [HH.out.1] at HS
 have b10:(2048:Int)≤4096:=by decide
 go_upto_region 11 with (go_at_call 19;rw [HE.out.1];refine HS.out.mono ?_;rintro e w6 ⟨vr,rfl,o6,hb6⟩;obtain ⟨va5,vc5,rfl⟩:=qaD o6)
 have HV:=zH (qad w6 (.cells #[.bool V1.good,.int .i64 V1.epoch,.slice va5 V1.recs.length vc5,.int .i64 V1.free] 52))
 have HB6:=zH (gtr hb6 (qac (Below.refl w6.heap.size w6) (.cells #[.bool V1.good,.int .i64 V1.epoch,.slice va5 V1.recs.length vc5,.int .i64 V1.free] 52)))
 have HR:=zH (SliceAt.of_own (o6.alloc (.cells #[.bool V1.good,.int .i64 V1.epoch,.slice va5 V1.recs.length vc5,.int .i64 V1.free] 52)))
 generalize Value.agg #[.bool V1.good,.int .i64 V1.epoch,.slice va5 V1.recs.length vc5,.int .i64 V1.free]=va6 at *
 generalize w6.alloc (.cells #[.bool V1.good,.int .i64 V1.epoch,.slice va5 V1.recs.length vc5,.int .i64 V1.free] 52)=wD at *
 generalize w6.heap.size=bV at *
 clear o6 hb6 HS HC
 obtain ⟨t,ht1,ht2⟩:=HH.out.2.2
 have HG:=zH (qgp (qaM x2 4 0) wD)
 rw [ht1,show qgY (some t) 200=.tuple #[.string t,.int .i64 0] from rfl] at HG
 have HT:=zH ht2
 clear ht1 ht2
 go_upto_region 12 with (go_at_call 25;rw [HE.out.2];refine HG.out.mono ?_;rintro e w7 ⟨rfl,hb7⟩)
 have HB7:=zH hb7
 have HG2:=zH (qhq (qaM x2 4 0) w7)
 rw [HH.out.2.1,show qiZ (some (headRec 1)) 1900=.tuple #[.agg #[.int .i64 0,.int .i64 1,.string ⟨#[]⟩,.string ⟨#[]⟩],.int .i64 0] from rfl] at HG2
 clear hb7 HG
 go_upto_region 13 with (go_at_call 26;rw [HE.out.2];refine HG2.out.mono ?_;rintro e w8 ⟨rfl,hb8⟩)
 have HRB:=zH (qad w8 (.cells #[.int .i64 0,.int .i64 1,.string ⟨#[]⟩,.string ⟨#[]⟩] 74))
 have HB8:=zH (gtr hb8 (qac (Below.refl w8.heap.size w8) (.cells #[.int .i64 0,.int .i64 1,.string ⟨#[]⟩,.string ⟨#[]⟩] 74)))
 generalize w8.alloc (.cells #[.int .i64 0,.int .i64 1,.string ⟨#[]⟩,.string ⟨#[]⟩] 74)=wE at *
 generalize w8.heap.size=bR at *
 clear hb8 HG2
 have HBD:=zH (gtr HB7.out HB8.out)
 have kV:=qab HBD.out HV.out
 have c2:wE.cell? ⟨bV,2,none⟩=some (.slice va5 V1.recs.length vc5):=qaa kV 2
 have HBU:=zH (qfF _ V1.recs wE (HR.out.later HBD.out) (by decide) (by
  intro r hr
  rw [show V1.recs=[⟨1,0,kB,vB⟩] from rfl,List.mem_singleton] at hr
  rw [hr]
  exact qgq (by decide) (by decide) (by decide)))
 clear kV
 rw [qnF] at HBU
 go_upto_region 14 with (go_at_call 27;refine HBU.out.mono ?_;rintro e w9 ⟨vp,rfl,o9,hb9⟩;obtain ⟨va9,vc9,rfl⟩:=qaD o9)
 have HB9:=zH hb9
 have H9:=zH (SliceAt.of_own o9)
 clear hb9 o9 c2 HBU
 have HCN:=zH (qf4 x2 w9 hx4)
 go_upto_region 15 with (go_at_call 28;refine HCN.out.mono ?_;rintro e w10 ⟨pc,rfl,hch,hb10,_⟩)
 have HB10:=zH hb10
 clear hch hb10 HCN
 have HL10:=zH (gtr HB6.out (gtr HBD.out (gtr HB9.out HB10.out)))
 have HVV:=zH (qab (gtr HBD.out (gtr HB9.out HB10.out)) HV.out)
 have HRR:=zH (qab (gtr HB9.out HB10.out) HRB.out)
 have HKK:=zH (qab HL10.out HK.out)
 have HLS:=zH (HO3.out.2.2.later HL10.out)
 have HPS:=zH (H9.out.later HB10.out)
 have HBW:=zH (gtr HO3.out.1.below HL10.out)
 have HFW:=zH (fun w' (hb:Below w10.heap.size w10 w')=>(show w'.cell? ⟨bL,1,none⟩=some (.slice va listA.pairs.length vc)∧w'.cell? ⟨bV,0,none⟩=some (.bool true)∧w'.cell? ⟨bR,1,none⟩=some (.int .i64 1) from ⟨qaa (qab hb HKK.out) 1,qaa (qab hb HVV.out) 0,qaa (qab hb HRR.out) 1⟩))
 have hnew:=SliceAt.of_own (qld (B:=0) (sz:=2) (n:=1) (qad w10 (.cells #[.string ⟨#[107]⟩,.string ⟨#[118]⟩] 83)) (Nat.zero_le _) rfl (by decide))
 have HP1:=zH (qeN _ _ listA.pairs [⟨kB,vB⟩] _ (HLS.out.later (qac (Below.refl _ _) _)) hnew (by decide))
 rw [show decide (listA.pairs=[⟨kB,vB⟩])=true from by decide +kernel] at HP1
 have HP2:=zH (fun w' (hb:Below w10.heap.size w10 w')=>(show Calls Tryz.prog 22 #[.slice va9 1 vc9,.slice va listA.pairs.length vc] w' (quU true w') from by
  have:=qeN _ _ [⟨kB,vB⟩] listA.pairs w' (HPS.out.later hb) (HLS.out.later hb) (by decide)
  rw [show decide ([⟨kB,vB⟩]=listA.pairs)=true from by decide +kernel] at this
  exact this))
 obtain ⟨c1,c2,c3⟩:=HFW.out w10 (Below.refl _ _)
 have ht:=HT.out
 clear hnew
 go_wp2_with (first
  | (go_at_call 13;refine (HM.out _ _).mono ?_;rintro e w' ⟨rfl,rfl⟩)
  | (go_at_call 22;(with_reducible refine HP1.out.mono ?_);rintro e w11 ⟨rfl,hb11⟩;obtain ⟨d1,d2,d3⟩:=HFW.out w11 (gtr (qac (Below.refl _ _) _) hb11))
  | (go_at_call 22;(with_reducible refine (HP2.out _ (gtr (qac (Below.refl _ _) _) hb11)).mono ?_);rintro e w12 ⟨rfl,hb12⟩))
 go_ret
 exact ⟨rfl,gtr HBW.out (gtr (gtr (qac (Below.refl _ _) _) hb11) hb12)⟩
end
section
open Go.RowKit
structure qm8 where
 x:qbV
 ba:Option Addr
 bc:Nat
 ra:Option Addr
 rc:Nat
def qm8.row (a:qm8):Array Value:=a.x.row a.ba a.bc a.ra a.rc
structure qm8.At (w:World) (a:qm8):Prop where
 busy:qal w a.ba a.x.busy
 bnil:a.ba=none→a.bc=0
 reads:qal w a.ra a.x.reads
 rnil:a.ra=none→a.rc=0
 blen:a.x.busy.length * 8≤140737488355328
 rlen:a.x.reads.length * 8≤140737488355328
 rcap:a.x.reads.length≤a.rc
theorem qm8.At.later {w w':World} {a:qm8} (h:a.At w) (hb:Below w.heap.size w w'):a.At w':=⟨h.busy.later hb,h.bnil,h.reads.later hb,h.rnil,h.blen,h.rlen,h.rcap⟩
def qhY (w:World) (a:Option Addr) (us:List qm8):Prop :=
 ∀ i (h:i<us.length),us[i].At w ∧ ∃ b off,a=some ⟨b,off,none⟩ ∧ ∀ j u,us[i].row[j]? = some u→w.cell? ⟨b,off+i * 9+j,none⟩=some u
theorem qhY.later {w w':World} {a:Option Addr} {us:List qm8} (h:qhY w a us) (hb:Below w.heap.size w w'):qhY w' a us:=fun i hi=>by
 obtain ⟨h1,b,off,ha,hc⟩:=h i hi
 exact ⟨h1.later hb,b,off,ha,fun j u hu=>(hb.cell (p:=⟨b,off+i * 9+j,none⟩) (World.block_lt_of_cell? w _ (hc j u hu))).trans (hc j u hu)⟩
end
section
open Go.RowKit
theorem qch (p:qaq) (ps:List qaq) (j:ByteArray):findL (p::ps) j=if p.key=j then some p.value else findL ps j:=by
 unfold findL
 rw [List.find?_cons]
 by_cases e:p.key=j
 ·
  rw [decide_eq_true e,if_pos e]
 ·
  rw [decide_eq_false e,if_neg e]
theorem qk1 (k v j:ByteArray) (hj:k≠j) : ∀ ps:List qaq,findL (putL k v ps) j=findL ps j
 | []=>by rw [show putL k v []=[⟨k,v⟩] from rfl,qch,if_neg hj]
 | p::ps=>by
  unfold putL
  split
  ·
   rw [qch,qch,qk1 k v j hj ps]
  ·
   split
   ·
    rename_i e
    rw [qch,qch,if_neg hj,if_neg (by rw [e];exact hj)]
   ·
    rw [qch,if_neg hj]
theorem qk0 (k j:ByteArray) (hj:k≠j) : ∀ ps:List qaq,findL (ql4 k ps) j=findL ps j
 | []=>rfl
 | p::ps=>by
  have ih:=qk0 k j hj ps
  unfold ql4 at ih ⊢
  rw [List.filter_cons]
  by_cases e:p.key=k
  ·
   rw [if_neg (by simp [e]),ih,qch,if_neg (by rw [e];exact hj)]
  ·
   rw [if_pos (by simp [e]),qch,qch,ih]
theorem qsl {x img:ByteArray} {S:qaf} {ps:List qaq} {E:Int} (h:OpenAt x S ps E) (hE:E<1048576) {a:qbV} (h0:a.kind≠0) {j:ByteArray} (hk:a.key≠j):(qfC x img S a).2.2.1.lost=false ∧ ∃ ps',OpenAt (qfC x img S a).1 (qfC x img S a).2.1 ps' (E+1)∧findL ps' j=findL ps j:=by
 have hm:=h.more (show E≤E+1 by omega)
 unfold qfC
 rw [if_neg h0]
 by_cases k1:a.kind=1
 ·
  rw [if_pos k1]
  refine ⟨rfl,ps,?_,rfl⟩
  dsimp only
  exact (qki hm.kept).2
 rw [if_neg k1]
 by_cases k2:a.kind=2
 ·
  rw [if_pos k2]
  refine ⟨rfl,?_⟩
  have o:=qkm (img:=img) h hE a.key a.value a.reads
  by_cases e:qwr ps a.key a.value a.reads=0
  ·
   exact ⟨_,(o.2 e).1,qk1 _ _ _ hk _⟩
  ·
   have e2:=o.1 e
   refine ⟨ps,?_,rfl⟩
   unfold qfw
   rw [e2]
   exact hm
 rw [if_neg k2]
 by_cases k3:a.kind=3
 ·
  rw [if_pos k3]
  exact ⟨rfl,ps,hm,rfl⟩
 rw [if_neg k3]
 by_cases k4:a.kind=4
 ·
  rw [if_pos k4]
  refine ⟨rfl,?_⟩
  have o:=qqp (img:=img) h hE a.key a.reads
  by_cases e:qv5 ps a.key a.reads=0
  ·
   exact ⟨_,(o.2 e).1,qk0 _ _ hk _⟩
  ·
   have e2:=o.1 e
   refine ⟨ps,?_,rfl⟩
   unfold qfw
   rw [e2]
   exact hm
 rw [if_neg k4]
 split
 ·
  exact ⟨rfl,ps,hm,rfl⟩
 ·
  split
  ·
   exact ⟨rfl,ps,hm,rfl⟩
  ·
   exact ⟨rfl,ps,hm,rfl⟩
theorem qqr {x y:ByteArray} {S:qaf} {ps:List qaq} {E:Int} (h:OpenAt x S ps E) {a:qbV} (h0:a.kind≠0) {j:ByteArray} (hk:a.key≠j) (k:qgD x S a y) : ∃ ps',qem y ps' (E+1)∧findL ps' j=findL ps j:=by
 rcases k with rfl | ⟨k,_⟩ | ⟨_,k⟩ | ⟨_,k⟩
 ·
  exact ⟨ps,h.kept.more (by omega),rfl⟩
 ·
  exact absurd k h0
 ·
  rcases quc h k with q | q
  ·
   exact ⟨ps,q,rfl⟩
  ·
   exact ⟨_,q,qk1 _ _ _ hk _⟩
 ·
  rcases qtw h k with q | q
  ·
   exact ⟨ps,q,rfl⟩
  ·
   exact ⟨_,q,qk0 _ _ hk _⟩
def qcV:ByteArray:=⟨#[107,101,101,112]⟩
def thisB:ByteArray:=⟨#[116,104,105,115]⟩
theorem qiS:qcV.toList=[107,101,101,112]:=by rw [ByteArray.toList_eq];rfl
def qv2 (y:ByteArray) (E:Int):Prop := ∃ ps,qem y ps E∧findL ps qcV=some thisB
def qh1 (y:ByteArray) (S:qaf) (E:Int):Prop := ∃ ps,OpenAt y S ps E∧findL ps qcV=some thisB
theorem qvr (p:Nat) (W:Wld) (G:Nat→Prop) (x:qbV) (ba:Option Addr) (bc:Nat) (ra:Option Addr) (rc:Nat) (cx img:ByteArray) (w:World) (h:qaz w p W G) (n:Now W cx img) {E:Int} (ho:qh1 cx W.S E) (hE:E<1048576) (h0:x.kind≠0) (hk:x.key≠qcV) (hb:qal w ba x.busy) (hbn:ba=none→bc=0) (hi:qak w ra x.reads G) (hcap:x.reads.length≤rc) (lb:x.busy.length≤4611686018427387904) (lr:x.reads.length≤4611686018427387904):Calls Tryz.prog 11 #[.pointer (some ⟨p,0,none⟩),.agg (x.row ba bc ra rc)] w fun e w' => ∃ W' y A er,Now W' y img∧(A.lost=false→qh1 y W'.S (E+1))∧(A.lost=true→W'.S=shut∧qv2 y (E+1))∧qa2 p W' A er G w e w':=by
 obtain ⟨ps,ho,hf⟩:=ho
 cases hm:mayB x with
 | false =>
  refine (qnU p W G x ba bc ra rc cx img w h n ho.fit hm hb hbn hi hcap lb lr).mono ?_
  exact fun e w' hp=>⟨W,cx,_,_,n,fun _=>⟨ps,ho.more (by omega),hf⟩,fun h=>(by cases h),hp⟩
 | true =>
  have oa:=qsl (img:=img) ho hE h0 hk
  by_cases hl:x.loss=0∧x.kind≠7
  ·
   refine (qmx p W G x ba bc ra rc cx img w h n ho.fit hl.1 hl.2 hb hbn hi hcap lb lr).mono ?_
   rintro e w' ⟨W',k1,k2,k3⟩
   rw [show doX cx img W.S x=qfC cx img W.S x from by unfold doX;rw [hm,if_neg (by decide)]] at k1 k2 k3
   obtain ⟨q1,ps',q2,q3⟩:=oa
   rw [← k2] at q2
   exact ⟨W',_,_,_,k1,fun _=>⟨ps',q2,q3.trans hf⟩,fun h=>(by rw [q1] at h;cases h),k3⟩
  ·
   refine (qqi p W G x ba bc ra rc cx img w h n ho.fit hm hl hb hbn hi hcap lb lr).mono ?_
   rintro e w' ⟨W',y,A,er,k1,k2,k3,k4⟩
   refine ⟨W',y,A,er,k1,?_⟩
   rcases k3 with ⟨rfl,k3⟩ | ⟨kp,k3⟩
   ·
    obtain ⟨rfl,rfl⟩:=Prod.mk.inj k3
    obtain ⟨q1,ps',q2,q3⟩:=oa
    exact ⟨fun h=>(by cases h),fun _=>⟨k2,ps',q2.kept,q3.trans hf⟩,k4⟩
   ·
    obtain ⟨rfl,rfl⟩:=Prod.mk.inj k3
    obtain ⟨ps',q2,q3⟩:=qqr ho h0 hk kp
    exact ⟨fun h=>(by cases h),fun _=>⟨k2,ps',q2,q3.trans hf⟩,k4⟩
theorem qsc:mayB (qeg 1 ⟨#[]⟩ ⟨#[]⟩)=true:=by decide +kernel
theorem qtY:mayB (qeg 2 qcV thisB)=true:=by decide +kernel
theorem qtX:mayB (qeg 3 qcV ⟨#[]⟩)=true:=by decide +kernel
theorem qt0 (p:Nat) (W:Wld) (G:Nat→Prop) (cx img:ByteArray) (w:World) (h:qaz w p W G) (n:Now W cx img) (hs:W.S=shut) {E:Int} (ho:qv2 cx E):Calls Tryz.prog 11 #[.pointer (some ⟨p,0,none⟩),.agg #[.int .i64 1,.string ⟨#[]⟩,.string ⟨#[]⟩,.int .i64 0,.int .i64 0,.int .i64 0,.string ⟨#[]⟩,.slice none 0 0,.slice none 0 0]] w fun e w' => ∃ W',Now W' cx img∧qh1 cx W'.S E∧qa2 p W' ansZero 0 G w e w':=by
 obtain ⟨ps,hp,hf⟩:=ho
 have:=qcx p W G (qeg 1 ⟨#[]⟩ ⟨#[]⟩) cx img w h n (.inl hs) rfl (show (1:Int)≠7 by decide) rfl rfl
 obtain ⟨m1,m2⟩:=qki hp
 have e:doX cx img W.S (qeg 1 ⟨#[]⟩ ⟨#[]⟩)=(cx,(mountX cx).1,ansZero,0):=by
  unfold doX
  rw [qsc,if_neg (by decide)]
  unfold qfC
  rw [show (qeg 1 ⟨#[]⟩ ⟨#[]⟩).kind=1 from rfl,if_neg (by decide),if_pos rfl,m1]
  rfl
 rw [e] at this
 refine this.mono ?_
 rintro e w' ⟨W',k1,k2,k3⟩
 dsimp only at k1 k2 k3
 rw [← k2] at m2
 exact ⟨W',k1,⟨ps,m2,hf⟩,k3⟩
theorem qrQ (p:Nat) (W:Wld) (G:Nat→Prop) (cx img:ByteArray) (w:World) (h:qaz w p W G) (n:Now W cx img) {E:Int} (ho:qh1 cx W.S E):Calls Tryz.prog 11 #[.pointer (some ⟨p,0,none⟩),.agg #[.int .i64 3,.string ⟨#[107,101,101,112]⟩,.string ⟨#[]⟩,.int .i64 0,.int .i64 0,.int .i64 0,.string ⟨#[]⟩,.slice none 0 0,.slice none 0 0]] w fun e w' => ∃ W',Now W' cx img∧qh1 cx W'.S E∧qa2 p W' ⟨thisB,[],[],false⟩ 0 G w e w':=by
 obtain ⟨ps,hp,hf⟩:=ho
 have:=qcx p W G (qeg 3 qcV ⟨#[]⟩) cx img w h n hp.fit rfl (show (3:Int)≠7 by decide) rfl rfl
 have g:=qqq hp qcV
 rw [if_neg (not_not_intro (by decide)),hf] at g
 have e:doX cx img W.S (qeg 3 qcV ⟨#[]⟩)=(cx,W.S,⟨thisB,[],[],false⟩,0):=by
  unfold doX
  rw [qtX,if_neg (by decide)]
  unfold qfC
  rw [show (qeg 3 qcV ⟨#[]⟩).kind=3 from rfl,if_neg (by decide),if_neg (by decide),if_neg (by decide),if_pos rfl,show (qeg 3 qcV ⟨#[]⟩).key=qcV from rfl,g]
 rw [e] at this
 refine this.mono ?_
 rintro e w' ⟨W',k1,k2,k3⟩
 rw [← show W'.S=W.S from k2] at hp
 exact ⟨W',k1,⟨ps,hp,hf⟩,k3⟩
theorem qvJ (p:Nat) (W:Wld) (G:Nat→Prop) (cx img:ByteArray) (w:World) (h:qaz w p W G) (n:Now W cx img) (hs:W.S=⟨true,4,V0⟩) (hx:Lay cx 4 V0):Calls Tryz.prog 11 #[.pointer (some ⟨p,0,none⟩),.agg #[.int .i64 2,.string ⟨#[107,101,101,112]⟩,.string ⟨#[116,104,105,115]⟩,.int .i64 0,.int .i64 0,.int .i64 0,.string ⟨#[]⟩,.slice none 0 0,.slice none 0 0]] w fun e w' => ∃ W' y,Now W' y img∧qh1 y W'.S 2∧qa2 p W' ansZero 0 G w e w':=by
 have ho:OpenAt cx W.S [] 1:=⟨4,V0,hx,rfl,by decide,hs⟩
 have:=qcx p W G (qeg 2 qcV thisB) cx img w h n ho.fit rfl (show (2:Int)≠7 by decide) rfl rfl
 obtain ⟨o1,o2⟩:=(qkm (img:=img) ho (by decide) qcV thisB []).2 (by decide +kernel)
 have e:doX cx img W.S (qeg 2 qcV thisB)=((qn6 cx img W.S qcV thisB []).1,(qn6 cx img W.S qcV thisB []).2.1,ansZero,0):=by
  unfold doX
  rw [qtY,if_neg (by decide)]
  unfold qfC
  rw [show (qeg 2 qcV thisB).kind=2 from rfl,if_neg (by decide),if_neg (by decide),if_pos rfl,show (qeg 2 qcV thisB).key=qcV from rfl,show (qeg 2 qcV thisB).value=thisB from rfl,show (qeg 2 qcV thisB).reads=[] from rfl]
  unfold qfw
  rw [o2]
  rfl
 rw [e] at this
 refine this.mono ?_
 rintro e w' ⟨W',k1,k2,k3⟩
 rw [← show W'.S=(qn6 cx img W.S qcV thisB []).2.1 from k2] at o1
 exact ⟨W',_,k1,⟨_,o1,by decide +kernel⟩,k3⟩
end
end Go.Proofs.YtcfdenckiigdaaaGreat

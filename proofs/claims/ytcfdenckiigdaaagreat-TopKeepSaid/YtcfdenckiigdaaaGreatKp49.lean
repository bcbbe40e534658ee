/- Part 49 of the contracts. -/
import Derived.Deep.Slices
import Derived.OpenShut
import Derived.ShutString
import Derived.Test.YtcfdenckiigdaaaGreatKp48
set_option linter.unusedVariables false
set_option maxRecDepth 100000
set_option maxHeartbeats 4000000
namespace Go.Proofs.YtcfdenckiigdaaaGreat
section
open Go.RowKit
theorem qvo {img:ByteArray} (h:img.size=2048):Has (firstX img) img:=by
 refine ⟨qdb (by omega),fun i hi => ?_⟩
 unfold firstX
 rw [qib,if_pos (by omega)]
theorem qsB {w w':World} {a:Option Addr} {xs:List Int} {G:Nat→Prop} (h:qal w a xs) (hG : ∀ i,G i→w.heap.size≤i) (hb:Below w.heap.size w w'):qak w' a xs G :=
 ⟨h.later hb,fun b o e h0 hg=>by
  obtain ⟨b',off,e',hc⟩:=h 0 h0
  rw [e] at e'
  cases e'
  have:=World.block_lt_of_cell? w _ hc
  have:=hG b hg
  simp only at *
  omega⟩
def qgk:Array Value := #[.bool false,.slice none 0 0,.bool false,.slice none 0 0,.bool true]
def qqZ (w:World) (img:ByteArray) (e:Ending) (w':World):Prop :=
 ∃ p W G x1 g,e=.returned (.tuple #[.pointer (some ⟨p,0,none⟩),.pointer (some ⟨g,0,none⟩)])∧Own w w' p W G∧Now W x1 img∧W.S=⟨true,4,V0⟩∧Lay x1 4 V0∧w'.heap[g]? = some (.cells qgk 63 (0,0))∧w.heap.size≤g ∧ ¬ G g
theorem qnp (t:ByteArray) (w:World) (ht:t.size<140737488355328):Calls Tryz.prog 10 #[.string t,.slice none 0 0,.int .i64 0] w (qqZ w (imageT t)):=by
 have HI:=zH (fun w=>qjT t w ht)
 have hsz:(imageT t).size=2048:=qbr _ _
 have HN:=zH (fun w=>qfx (imageT t) w (by rw [hsz];exact Nat.le_refl _))
 have HX:=zH (zA (qvo (img:=imageT t) hsz) (qke (img:=imageT t) (Nat.le_of_eq hsz)))
 have HM:=zH qnV
 clear hsz
 generalize imageT t=img at *
 go_enter Tryz.func10,Tryz.ntmps10
 go_upto_region 2 with (first
  | (go_at_call 17;refine (HI.out _).mono ?_;rintro e w1 ⟨rfl,hb1⟩)
  | (go_at_call 16;refine (HN.out _).mono ?_;rintro e w2 ⟨p,W0,G0,rfl,hw,hb,hg,hc,hl,ok,hbusy,hq,hs⟩))
 have HO:=zH (zA (show Own w w2 p W0 G0 from ⟨hw,gtr hb1 hb,fun i hi=>Nat.le_trans hb1.size (hg i hi)⟩) (zA (qse hc hl ok hq HX.out.1) hs))
 have HB:=zH HX.out.2
 clear hw hb hg hc hl ok hbusy hq hs hb1 HI HN HX
 generalize firstX img=x0 at *
 go_upto_region 4 with (go_at_call 13;refine (HM.out _ _).mono ?_;rintro e w' ⟨rfl,rfl⟩)
 have HD:=zH (qoL p W0 G0 x0 img w' HO.out.1.at_ HO.out.2.1 HO.out.2.2 HB.out)
 go_upto_region 5 with (go_at_call 11;refine HD.out.mono ?_;rintro e w3 ⟨W1,x1,n1,hs1,lay1,va,vc,vb,vd,rfl,o1,o2,G1,hw1,st1,m1,m2⟩)
 have HO1:=zH (zA ((HO.out.1.step hw1 st1).later (qac (Below.refl _ _) (.cells qgk 63))) (zA n1 (zA hs1 (zA lay1 (zA (qad w3 (.cells qgk 63)) (zA (HO.out.1.step hw1 st1).below.size (show ¬ G1 w3.heap.size from fun h=>Nat.lt_irrefl _ (hw1.lt _ h))))))))
 unfold qgk at HO1
 clear n1 hs1 lay1 o1 o2 hw1 st1 m1 m2 HD HO HB
 go_wp2_with fail
 go_loopw [11] (fun i wr=>i=.int .i64 0∧wr=w3.alloc (.cells #[.bool false,.slice none 0 0,.bool false,.slice none 0 0,.bool true] 63)) (fun _ _=>0)
 case atStart=>exact ⟨rfl,rfl⟩
 case round =>
  obtain ⟨rfl,rfl⟩:=hrel
  go_wp2_with fail
  go_ret2
  exact ⟨p,W1,G1,x1,w3.heap.size,rfl,HO1.out⟩
theorem qlx (t:ByteArray) (a:Option Addr) (c:Nat) (us:List qm8) (w:World) (ht:t.size<140737488355328) (hu:qhY w a us) (hn:us.length≤9223372036854775807):Calls Tryz.prog 8 #[.string t,.slice a us.length c] w fun e w'=>e=.returned (.bool true)∧Below w.heap.size w w':=by
 have HA:=zH (qnl w)
 have HBG:=zH (fun w=>qnp t w ht)
 have HM:=zH qnV
 have HU:=zH hu
 clear hu
 generalize imageT t=img at *
 go_enter Tryz.func8,Tryz.ntmps8
 go_upto_region 3 with (go_at_call 9;refine HA.out.mono ?_;rintro e w1 ⟨rfl,hb1⟩)
 go_upto_region 4 with (go_at_call 10;refine (HBG.out _).mono ?_;rintro e w2 ⟨p,W0,G0,x0,g,rfl,ho,hn0,hs,hl,hg,hgl,hng⟩)
 have HO:=zH (zA (show Own w w2 p W0 G0 from ⟨ho.at_,gtr hb1 ho.below,fun i hi=>Nat.le_trans hb1.size (ho.new i hi)⟩) (zA hn0 (zA hs (zA hl (zA hg hng)))))
 clear ho hn0 hs hl hg hgl hng hb1 HA HBG
 go_upto_region 6 with fail
 have HD:=zH (qvJ p W0 G0 x0 img w2 HO.out.1.at_ HO.out.2.1 HO.out.2.2.1 HO.out.2.2.2.1)
 go_upto_region 7 with (go_at_call 11;refine HD.out.mono ?_;rintro e w3 ⟨W1,y1,n1,k1,va,vc,vb,vd,rfl,o1,o2,G1,hw1,st1,m1,m2⟩)
 have HO1:=zH (zA ((HO.out.1.step hw1 st1).later (qac (Below.refl _ _) (.cells #[.string ansZero.value,.slice va ansZero.pairs.length vc,.slice vb ansZero.reads.length vd,.bool ansZero.lost] 34))) (zA n1 k1))
 have c4:(w3.alloc (.cells #[.string ansZero.value,.slice va ansZero.pairs.length vc,.slice vb ansZero.reads.length vd,.bool ansZero.lost] 34)).cell? ⟨g,4,none⟩=some (.bool true):=qaa (qab (qac (Below.refl _ _) _) (st1.touch.at HO.out.2.2.2.2.1 HO.out.2.2.2.2.2)) 4
 generalize Value.agg #[.string ansZero.value,.slice va ansZero.pairs.length vc,.slice vb ansZero.reads.length vd,.bool ansZero.lost]=vag at *
 generalize w3.alloc (.cells #[.string ansZero.value,.slice va ansZero.pairs.length vc,.slice vb ansZero.reads.length vd,.bool ansZero.lost] 34)=w4 at *
 clear n1 k1 o1 o2 hw1 st1 m1 m2 HD HO
 have HW:=zH (zA HO1.out (show ∀ w',Below w.heap.size w w'→qhY w' a us from fun w' hb=>HU.out.later hb))
 go_upto_region 9 with (go_at_call 13;refine (HM.out _ _).mono ?_;rintro e w' ⟨rfl,rfl⟩)
 clear c4 HO1
 go_wp2_with fail
 go_loopw [9] (fun i wr => ∃ k:Nat,i=.int .i64 k∧k≤us.length∧k≤25 ∧ ∃ W G y,Own w wr p W G∧Now W y img∧qh1 y W.S (k+2)) (fun i _=>25 - (intOf i).toNat)
 case atStart=>exact ⟨0,rfl,Nat.zero_le _,Nat.zero_le _,W1,G1,y1,HW.out.1.1,HW.out.1.2.1,HW.out.1.2.2⟩
 case round =>
  obtain ⟨k,rfl,hk1,hk2,W,G,y,ho,hnow,hkp⟩:=hrel
  have HR:=zH (zA ho (zA hnow hkp))
  clear ho hnow hkp
  by_cases hlt:k<us.length∧k<25
  ·
   obtain ⟨hl1,hl2⟩:=hlt
   have hi1:(k:Int)<(us.length:Int):=by omega
   have hi2:(k:Int)<25:=by omega
   have HU0:=zH (HU.out k hl1).1
   obtain ⟨hat,b,off,rfl,hcell⟩:=HW.out.2 wr HR.out.1.below k hl1
   generalize us[k]=u at *
   unfold qm8.row qbV.row at hcell
   have c0:wr.cell? ⟨b,off+k * 9,none⟩=some (.int .i64 u.x.kind):=hcell 0 _ rfl
   have c1:wr.cell? ⟨b,off+k * 9+1,none⟩=some (.string u.x.key):=hcell 1 _ rfl
   have c2:wr.cell? ⟨b,off+k * 9+2,none⟩=some (.string u.x.value):=hcell 2 _ rfl
   have c3:wr.cell? ⟨b,off+k * 9+3,none⟩=some (.int .i64 u.x.at_):=hcell 3 _ rfl
   have c4:wr.cell? ⟨b,off+k * 9+4,none⟩=some (.int .i64 u.x.width):=hcell 4 _ rfl
   have c5:wr.cell? ⟨b,off+k * 9+5,none⟩=some (.int .i64 u.x.loss):=hcell 5 _ rfl
   have c6:wr.cell? ⟨b,off+k * 9+6,none⟩=some (.string u.x.mask):=hcell 6 _ rfl
   have c7:wr.cell? ⟨b,off+k * 9+7,none⟩=some (.slice u.ba u.x.busy.length u.bc):=hcell 7 _ rfl
   have c8:wr.cell? ⟨b,off+k * 9+8,none⟩=some (.slice u.ra u.x.reads.length u.rc):=hcell 8 _ rfl
   have HL:=zH hat
   clear hat hcell
   by_cases kk:u.x.key=qcV
   ·
    have ek:(u.x.key.toList == [107,101,101,112])=true:=by rw [← qiS,kk];exact beq_self_eq_true _
    have ek2:u.x.key.toList=[107,101,101,112]:=by rw [kk];exact qiS
    have HQ:=zH kk
    clear kk c2 c3 c4 c5 c6 c7 c8
    go_wp2_with fail
    go_roundw
    case rel=>exact ⟨k+1,by go_num,by omega,by omega,W,G,y,HR.out.1,HR.out.2.1,by obtain ⟨ps,q1,q2⟩:=HR.out.2.2;exact ⟨ps,q1.more (by omega),q2⟩⟩
    case measure=>simp [intOf];omega
   ·
    have ek:(u.x.key.toList == [107,101,101,112])=false:=by rw [← qiS,qgU,decide_eq_false kk]
    have ek2 : ¬ u.x.key.toList=[107,101,101,112]:=fun e=>by rw [e] at ek;cases ek
    have HK:=zH kk
    clear kk
    by_cases k0:u.x.kind=0
    ·
     have e0:(u.x.kind == 0)=true:=by rw [k0];rfl
     have HQ:=zH k0
     clear k0 c2 c3 c4 c5 c6 c7 c8
     go_wp2_with fail
     go_roundw
     case rel=>exact ⟨k+1,by go_num,by omega,by omega,W,G,y,HR.out.1,HR.out.2.1,by obtain ⟨ps,q1,q2⟩:=HR.out.2.2;exact ⟨ps,q1.more (by omega),q2⟩⟩
     case measure=>simp [intOf];omega
    ·
     have e0:(u.x.kind == 0)=false:=beq_eq_false_iff_ne.2 k0
     have HK0:=zH k0
     clear k0
     have hdo:=qvr p W G u.x u.ba u.bc u.ra u.rc y img wr HR.out.1.at_ HR.out.2.1 HR.out.2.2 (by omega) HK0.out HK.out HL.out.busy HL.out.bnil (qsB HU0.out.reads HR.out.1.new HR.out.1.below) HL.out.rcap (by have:=HL.out.blen;omega) (by have:=HL.out.rlen;omega)
     have HD:=zH (show Calls Tryz.prog 11 #[.pointer (some ⟨p,0,none⟩),.agg #[.int .i64 u.x.kind,.string u.x.key,.string u.x.value,.int .i64 u.x.at_,.int .i64 u.x.width,.int .i64 u.x.loss,.string u.x.mask,.slice u.ba u.x.busy.length u.bc,.slice u.ra u.x.reads.length u.rc]] wr _ from hdo)
     clear hdo HL HU0
     go_upto_region 14 with (go_at_call 11;refine HD.out.mono ?_;rintro e w5 ⟨W2,y2,A,er,n2,q1,q2,va,vc,vb,vd,rfl,o1,o2,G2,hw2,st2,m1,m2⟩)
     have cl:(w5.alloc (.cells #[.string A.value,.slice va A.pairs.length vc,.slice vb A.reads.length vd,.bool A.lost] 34)).cell? ⟨w5.heap.size,3,none⟩=some (.bool A.lost):=qaa (qad w5 (.cells #[.string A.value,.slice va A.pairs.length vc,.slice vb A.reads.length vd,.bool A.lost] 34)) 3
     have HO2:=zH (zA ((HR.out.1.step hw2 st2).later (qac (Below.refl _ _) (.cells #[.string A.value,.slice va A.pairs.length vc,.slice vb A.reads.length vd,.bool A.lost] 34))) (zA n2 (zA q1 q2)))
     generalize Value.agg #[.string A.value,.slice va A.pairs.length vc,.slice vb A.reads.length vd,.bool A.lost]=vag2 at *
     generalize w5.alloc (.cells #[.string A.value,.slice va A.pairs.length vc,.slice vb A.reads.length vd,.bool A.lost] 34)=w6 at *
     generalize w5.heap.size=gA at *
     clear n2 q1 q2 o1 o2 hw2 st2 m1 m2 HD c0 c1 c2 c3 c4 c5 c6 c7 c8
     cases hlo:A.lost with
     | false =>
      rw [hlo] at cl
      have HO3:=zH (zA HO2.out.1 (zA HO2.out.2.1 (HO2.out.2.2.1 hlo)))
      clear hlo HO2
      go_upto_region 18 with fail
      have HD:=zH (qrQ p W2 G2 y2 img w6 HO3.out.1.at_ HO3.out.2.1 HO3.out.2.2)
      go_upto_region 19 with (go_at_call 11;refine HD.out.mono ?_;rintro e w9 ⟨W4,n4,k4,va,vc,vb,vd,rfl,o1,o2,G4,hw4,st4,m1,m2⟩)
      have cv:(w9.alloc (.cells #[.string (⟨thisB,[],[],false⟩:qcq).value,.slice va (⟨thisB,[],[],false⟩:qcq).pairs.length vc,.slice vb (⟨thisB,[],[],false⟩:qcq).reads.length vd,.bool (⟨thisB,[],[],false⟩:qcq).lost] 34)).cell? ⟨w9.heap.size,0,none⟩=some (.string ⟨#[116,104,105,115]⟩):=qaa (qad w9 _) 0
      have HE:=zH (zA ((HO3.out.1.step hw4 st4).later (qac (Below.refl _ _) (.cells #[.string (⟨thisB,[],[],false⟩:qcq).value,.slice va (⟨thisB,[],[],false⟩:qcq).pairs.length vc,.slice vb (⟨thisB,[],[],false⟩:qcq).reads.length vd,.bool (⟨thisB,[],[],false⟩:qcq).lost] 34))) (zA n4 k4))
      generalize Value.agg #[.string (⟨thisB,[],[],false⟩:qcq).value,.slice va (⟨thisB,[],[],false⟩:qcq).pairs.length vc,.slice vb (⟨thisB,[],[],false⟩:qcq).reads.length vd,.bool (⟨thisB,[],[],false⟩:qcq).lost]=vag4 at *
      generalize w9.alloc (.cells #[.string (⟨thisB,[],[],false⟩:qcq).value,.slice va (⟨thisB,[],[],false⟩:qcq).pairs.length vc,.slice vb (⟨thisB,[],[],false⟩:qcq).reads.length vd,.bool (⟨thisB,[],[],false⟩:qcq).lost] 34)=w10 at *
      clear n4 k4 o1 o2 hw4 st4 m1 m2 HD HO3
      go_wp2_with (go_at_call 13;refine (HM.out _ _).mono ?_;rintro e w' ⟨rfl,rfl⟩)
      go_roundw
      case rel=>exact ⟨k+1,by go_num,by omega,by omega,W4,G4,y2,HE.out.1,HE.out.2.1,by have q:=HE.out.2.2;rw [show ((k+1:Nat):Int)+2=(k:Int)+2+1 by omega];exact q⟩
      case measure=>simp [intOf];omega
     | true =>
      rw [hlo] at cl
      have HO3:=zH (zA HO2.out.1 (zA HO2.out.2.1 (HO2.out.2.2.2 hlo)))
      clear hlo HO2
      go_upto_region 15 with fail
      have HD:=zH (qt0 p W2 G2 y2 img w6 HO3.out.1.at_ HO3.out.2.1 HO3.out.2.2.1 HO3.out.2.2.2)
      go_upto_region 16 with (go_at_call 11;refine HD.out.mono ?_;rintro e w7 ⟨W3,n3,k3,va,vc,vb,vd,rfl,o1,o2,G3,hw3,st3,m1,m2⟩)
      have HO4:=zH (zA ((HO3.out.1.step hw3 st3).later (qac (Below.refl _ _) (.cells #[.string ansZero.value,.slice va ansZero.pairs.length vc,.slice vb ansZero.reads.length vd,.bool ansZero.lost] 34))) (zA n3 k3))
      generalize Value.agg #[.string ansZero.value,.slice va ansZero.pairs.length vc,.slice vb ansZero.reads.length vd,.bool ansZero.lost]=vag3 at *
      generalize w7.alloc (.cells #[.string ansZero.value,.slice va ansZero.pairs.length vc,.slice vb ansZero.reads.length vd,.bool ansZero.lost] 34)=w8 at *
      clear n3 k3 o1 o2 hw3 st3 m1 m2 HD HO3 cl
      go_upto_region 18 with (go_at_call 13;refine (HM.out _ _).mono ?_;rintro e w' ⟨rfl,rfl⟩)
      have HD:=zH (qrQ p W3 G3 y2 img w' HO4.out.1.at_ HO4.out.2.1 HO4.out.2.2)
      go_upto_region 19 with (go_at_call 11;refine HD.out.mono ?_;rintro e w9 ⟨W4,n4,k4,va,vc,vb,vd,rfl,o1,o2,G4,hw4,st4,m1,m2⟩)
      have cv:(w9.alloc (.cells #[.string (⟨thisB,[],[],false⟩:qcq).value,.slice va (⟨thisB,[],[],false⟩:qcq).pairs.length vc,.slice vb (⟨thisB,[],[],false⟩:qcq).reads.length vd,.bool (⟨thisB,[],[],false⟩:qcq).lost] 34)).cell? ⟨w9.heap.size,0,none⟩=some (.string ⟨#[116,104,105,115]⟩):=qaa (qad w9 _) 0
      have HE:=zH (zA ((HO4.out.1.step hw4 st4).later (qac (Below.refl _ _) (.cells #[.string (⟨thisB,[],[],false⟩:qcq).value,.slice va (⟨thisB,[],[],false⟩:qcq).pairs.length vc,.slice vb (⟨thisB,[],[],false⟩:qcq).reads.length vd,.bool (⟨thisB,[],[],false⟩:qcq).lost] 34))) (zA n4 k4))
      generalize Value.agg #[.string (⟨thisB,[],[],false⟩:qcq).value,.slice va (⟨thisB,[],[],false⟩:qcq).pairs.length vc,.slice vb (⟨thisB,[],[],false⟩:qcq).reads.length vd,.bool (⟨thisB,[],[],false⟩:qcq).lost]=vag4 at *
      generalize w9.alloc (.cells #[.string (⟨thisB,[],[],false⟩:qcq).value,.slice va (⟨thisB,[],[],false⟩:qcq).pairs.length vc,.slice vb (⟨thisB,[],[],false⟩:qcq).reads.length vd,.bool (⟨thisB,[],[],false⟩:qcq).lost] 34)=w10 at *
      clear n4 k4 o1 o2 hw4 st4 m1 m2 HD HO4
      go_wp2_with (go_at_call 13;refine (HM.out _ _).mono ?_;rintro e w' ⟨rfl,rfl⟩)
      go_roundw
      case rel=>exact ⟨k+1,by go_num,by omega,by omega,W4,G4,y2,HE.out.1,HE.out.2.1,by have q:=HE.out.2.2;rw [show ((k+1:Nat):Int)+2=(k:Int)+2+1 by omega];exact q⟩
      case measure=>simp [intOf];omega
  ·
   by_cases hlu:k<us.length
   ·
    have hi1:(k:Int)<(us.length:Int):=by omega
    have hi2 : ¬ (k:Int)<25:=by omega
    clear hlt
    go_wp2_with fail
    go_ret
    exact ⟨rfl,HR.out.1.below⟩
   ·
    have hi1 : ¬ (k:Int)<(us.length:Int):=by omega
    clear hlt
    go_wp2_with fail
    go_ret
    exact ⟨rfl,HR.out.1.below⟩
end
section
open Go.ChangeShapes Go.WideShapes Go.ChangeAt Go.RowKit Go.Deep
section
variable {H:Type} {enc:TypeId×Value→H} {W:World}
theorem cl3:Tryz.prog.cellsOf 3=1:=by kernel_rfl
theorem cl9:Tryz.prog.cellsOf 9=1:=by kernel_rfl
theorem qxa:Tryz.prog.cellsOf 22=1:=by kernel_rfl
theorem qxb:Tryz.prog.cellsOf 31=9:=by kernel_rfl
theorem bo3:Tryz.prog.bytesOf 3=8:=by kernel_rfl
theorem qmB {fuel:Nat} {v:Value} {x:DataW H×List MemPlace} (h:DataW.trod enc Tryz.prog W 0 (fun _=>true) true fuel 22 [v]=some x) (hw:(x.1.weights Tryz.prog 22).all (· ≤ reachBytes)=true) : ∃ (a:Option Addr) (c:Nat) (zs:List Int),v=.slice a zs.length c∧qal W a zs∧(a=none→c=0)∧zs.length * 8≤140737488355328∧zs.length≤c:=by
 rcases open_ints Tryz.underlying22 Tryz.underlying3 cl3 h with ⟨hcs,_⟩ | ⟨a,l,c,zs,hcs,_,hl,hm,hz,hx,hcell,hwz⟩
 ·
  obtain rfl:v=.slice none 0 0:=by simpa using hcs
  exact ⟨none,0,[],rfl,qal.nil _ _,fun _=>rfl,by simp,Nat.le_refl _⟩
 ·
  obtain rfl:v=.slice (some a) l c:=by simpa using hcs
  subst hx
  simp only [if_true] at hz
  have e:(zs.take l).length=l:=by simp;omega
  have hr:c * 8≤reachBytes:=by
   have:=List.all_eq_true.1 hw ((lits IntKind.i64 (zs.take l)).length * 8+(lits IntKind.i64 (zs.drop l)).length * 8) (by
    unfold DataW.weights
    rw [Tryz.underlying22]
    simp only [bo3,List.mem_cons]
    left
    omega)
   simp only [lits,List.length_map,List.length_take,List.length_drop,decide_eq_true_eq] at this
   omega
  simp only [reachBytes] at hr
  refine ⟨some a,c,zs.take l,by rw [e],fun i hi => ?_,(fun h=>by cases h),(by rw [e];omega),(by rw [e];exact hl)⟩
  rw [e] at hi
  obtain ⟨b,off,spot⟩:=a
  have hi':i<zs.length:=by omega
  have hc:=hcell i hi'
  have hspot:spot=none:=by simpa [Addr.add] using World.cell?_spot (hcell 0 (by omega))
  subst hspot
  refine ⟨b,off,rfl,?_⟩
  rw [qaP] at hc
  rw [hc]
  simp [List.getD,hi]
theorem qwg {α : Type} {cs:List α} (h:cs.length=9) : ∃ c0 c1 c2 c3 c4 c5 c6 c7 c8,cs=[c0,c1,c2,c3,c4,c5,c6,c7,c8]:=by
 match cs,h with
 | [c0,c1,c2,c3,c4,c5,c6,c7,c8],_=>exact ⟨c0,c1,c2,c3,c4,c5,c6,c7,c8,rfl⟩
theorem qt7 {fuel:Nat} {cs:List Value} {x:DataW H×List MemPlace} (h:DataW.trod enc Tryz.prog W 0 (fun _=>true) true fuel 31 cs=some x) (hw:(x.1.weights Tryz.prog 31).all (· ≤ reachBytes)=true) : ∃ u:qm8,cs=u.row.toList∧u.At W:=by
 obtain ⟨xs,n,_,rfl,hcl,hlen,hx⟩:=DataW.trod_struct Tryz.underlying31 h
 rw [qxb] at hcl
 obtain ⟨c0,c1,c2,c3,c4,c5,c6,c7,c8,rfl⟩:=qwg hcl
 have hl9:xs.length=9:=hlen
 obtain ⟨y0,y1,y2,y3,y4,y5,y6,y7,y8,rfl⟩:=qwg hl9
 obtain ⟨m0,e0,_,_⟩:=DataW.trod_int Tryz.underlying3 (hx 0 _ rfl)
 obtain ⟨m1,e1,_,_⟩:=DataW.trod_string Tryz.underlying9 (hx 1 _ rfl)
 obtain ⟨m2,e2,_,_⟩:=DataW.trod_string Tryz.underlying9 (hx 2 _ rfl)
 obtain ⟨m3,e3,_,_⟩:=DataW.trod_int Tryz.underlying3 (hx 3 _ rfl)
 obtain ⟨m4,e4,_,_⟩:=DataW.trod_int Tryz.underlying3 (hx 4 _ rfl)
 obtain ⟨m5,e5,_,_⟩:=DataW.trod_int Tryz.underlying3 (hx 5 _ rfl)
 obtain ⟨m6,e6,_,_⟩:=DataW.trod_string Tryz.underlying9 (hx 6 _ rfl)
 have k7:DataW.trod enc Tryz.prog W 0 (fun _=>true) true n 22 [c7]=some y7:=by
  have:=hx 7 _ rfl
  simpa [qxa] using this
 have k8:DataW.trod enc Tryz.prog W 0 (fun _=>true) true n 22 [c8]=some y8:=by
  have:=hx 8 _ rfl
  simpa [qxa] using this
 have w7:(y7.1.weights Tryz.prog 22).all (· ≤ reachBytes)=true:=List.all_eq_true.2 fun q hq=>List.all_eq_true.1 hw q (by
  unfold DataW.weights
  rw [Tryz.underlying31]
  exact DataW.weights_mem_each (j:=7) rfl rfl q hq)
 have w8:(y8.1.weights Tryz.prog 22).all (· ≤ reachBytes)=true:=List.all_eq_true.2 fun q hq=>List.all_eq_true.1 hw q (by
  unfold DataW.weights
  rw [Tryz.underlying31]
  exact DataW.weights_mem_each (j:=8) rfl rfl q hq)
 obtain ⟨a7,b7,z7,e7,f7,g7,i7,_⟩:=qmB k7 w7
 obtain ⟨a8,b8,z8,e8,f8,g8,i8,j8⟩:=qmB k8 w8
 simp [cl3,cl9] at e0 e1 e2 e3 e4 e5 e6
 subst e0 e1 e2 e3 e4 e5 e6 e7 e8
 exact ⟨⟨⟨m0,m1,m2,m3,m4,m5,m6,z7,z8⟩,a7,b7,a8,b8⟩,rfl,f7,g7,f8,g8,i7,i8,j8⟩
theorem qoq {t:TypeId} {l:List (DataW H)} {d:DataW H} (hd:d ∈ l) : ∀ q ∈ d.weights Tryz.prog t,q ∈ DataW.weightsAll Tryz.prog t l:=by
 induction l with
 | nil=>cases hd
 | cons x r ih =>
  intro q hq
  unfold DataW.weightsAll
  rcases List.mem_cons.1 hd with rfl | hd
  ·
   exact List.mem_append_left _ hq
  ·
   exact List.mem_append_right _ (ih hd q hq)
theorem qsk {fuel:Nat} {v:Value} {x:DataW H×List MemPlace} (h:DataW.trod enc Tryz.prog W 0 (fun _=>true) true fuel 43 [v]=some x) (hw:(x.1.weights Tryz.prog 43).all (· ≤ reachBytes)=true) : ∃ (a:Option Addr) (c:Nat) (us:List qm8),v=.slice a us.length c∧qhY W a us∧us.length≤9223372036854775807:=by
 rcases open_slice Tryz.underlying43 h with ⟨hcs,_⟩ | ⟨a,l,c,m,n,D,Pl,hcs,_,hl,hm,hmm,hx,hcell⟩
 ·
  obtain rfl:v=.slice none 0 0:=by simpa using hcs
  exact ⟨none,0,[],rfl,fun i hi=>absurd hi (Nat.not_lt_zero _),by simp⟩
 ·
  obtain rfl:v=.slice (some a) l c:=by simpa using hcs
  subst hx
  simp only [if_true] at hmm
  subst hmm
  rw [qxb] at hcell
  have each : ∀ i,i<l → ∃ u:qm8,u.At W ∧ ∃ b off,a=⟨b,off,none⟩ ∧ ∀ j q,u.row[j]? = some q→W.cell? ⟨b,off+i * 9+j,none⟩=some q:=by
   intro i hi
   obtain ⟨cs',h1,h2⟩:=hcell i (by omega)
   obtain ⟨u,rfl,hu⟩:=qt7 h2 (List.all_eq_true.2 fun q hq=>List.all_eq_true.1 hw q (by
    unfold DataW.weights
    rw [Tryz.underlying43]
    exact List.mem_cons_of_mem _ (List.mem_append_left _ (qoq (List.mem_map.2 ⟨i,List.mem_range.2 hi,rfl⟩) q hq))))
   obtain ⟨_,hlen,hc⟩:=World.cells?_some h1
   obtain ⟨b,off,spot⟩:=a
   have hspot:spot=none:=by
    obtain ⟨cs0,g1,g2⟩:=hcell 0 (by omega)
    obtain ⟨_,gl,gc⟩:=World.cells?_some g1
    have:=gc 0 (by omega)
    rw [List.getElem?_eq_getElem (by omega)] at this
    simpa [Addr.add] using World.cell?_spot this
   subst hspot
   refine ⟨u,hu,b,off,rfl,fun j q hj => ?_⟩
   have hj9:j<9:=by
    have:=(Array.getElem?_eq_some_iff.1 hj).1
    exact this
   have:=hc j (by omega)
   rw [qaP,qaP] at this
   rw [this]
   simpa using hj
  haveI:Inhabited qm8:=⟨⟨qeg 0 ⟨#[]⟩ ⟨#[]⟩,none,0,none,0⟩⟩
  obtain ⟨f,hf⟩:=choose_lt each
  refine ⟨some a,m,(List.range l).map f,by simp,fun i hi => ?_,by simp;simp only [maxLen] at hm;omega⟩
  have hi':i<l:=by simpa using hi
  obtain ⟨g1,b,off,g2,g3⟩:=hf i hi'
  rw [List.getElem_map,List.getElem_range]
  exact ⟨g1,b,off,by rw [g2],g3⟩
end
end
end Go.Proofs.YtcfdenckiigdaaaGreat

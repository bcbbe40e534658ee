/- Part 30 of the contracts. -/
import Derived.Test.YtcfdenckiigdaaaGreatKp29
set_option linter.unusedVariables false
set_option maxRecDepth 100000
set_option maxHeartbeats 4000000
namespace Go.Proofs.YtcfdenckiigdaaaGreat
section
open Go.RowKit
variable {X:Nat→Prop}
theorem qdn {fn:Func} {t u v x:Tmp} (h:fn.results = #[.tmp t,.tmp u,.tmp v,.tmp x]) (tmps:Array Value) (P:Program) (w:World):(results fn tmps).run P w=.ok (.tuple #[tmps.getD t undef,tmps.getD u undef,tmps.getD v undef,tmps.getD x undef]) w:=by
 simp [results,h]
theorem qlr (w:World):Calls Tryz.prog 163 #[.string sfdpText] w fun e w'=>e=.returned (.tuple #[.int .i64 4096,.int .i64 512,.int .i64 32,.int .i64 0])∧Below w.heap.size w w':=by
 have HP:=zH (fun w=>qgu w)
 have h1:sfdpText.size=32:=by decide
 have HN1:=zH (fun w=>qdl (sfdpText.extract 8 32) w (by decide))
 have HN2:=zH (fun w=>qdl ((sfdpText.extract 8 32).extract 4 24) w (by decide))
 have HN3:=zH (fun w=>qdl ((sfdpText.extract 8 32).extract 8 24) w (by decide))
 have e1:(sfdpText.extract 8 32).size=24:=by decide
 have n1:qdd (sfdpText.extract 8 32)=4096:=by decide
 have n2:qdd ((sfdpText.extract 8 32).extract 4 24)=512:=by decide
 have n3:qdd ((sfdpText.extract 8 32).extract 8 24)=32:=by decide
 rw [n1] at HN1
 rw [n2] at HN2
 rw [n3] at HN3
 have hq:(sfdpText == sfdpText)=true:=by decide
 clear n1 n2 n3
 generalize hg:sfdpText.extract 8 32=s1 at *
 generalize sfdpText=s0 at *
 go_enter Tryz.func163,Tryz.ntmps163
 go_wp2_with fail
 refine wp_region_noPanic ?_
 refine wp_region_held_drew (S:=(fun _=>True)) (by kernel_rfl) ?hS4000 (fun hHeld => ?_)
 case hS4000=>(try dsimp only);first | done | exact trivial
 refine tk 0 ?_
 refine tk 2 ?_
 refine tk 3 ?_
 refine tk 5 ?_
 refine tk 6 ?_
 refine tr 1 fun K hK => ?_
 go_simp
 refine (HN1.out _).mono ?_
 rintro e w1 ⟨rfl,rfl⟩
 go_wp2_with fail
 refine hK.out _ _ ?hS4001 (fun hHeld => ?_)
 case hS4001=>(try dsimp only);first | done | exact trivial
 clear hK K
 try simp only [Act.put,zS,zT,zU]
 refine tr 4 fun K hK => ?_
 go_simp
 refine (HN2.out _).mono ?_
 rintro e w2 ⟨rfl,rfl⟩
 go_wp2_with fail
 refine hK.out _ _ ?hS4004 (fun hHeld => ?_)
 case hS4004=>(try dsimp only);first | done | exact trivial
 clear hK K
 try simp only [Act.put,zS,zT,zU]
 refine tr 7 fun K hK => ?_
 go_simp
 refine (HN3.out _).mono ?_
 rintro e w3 ⟨rfl,rfl⟩
 go_wp2_with fail
 refine hK.out _ _ ?hS4007 (fun hHeld => ?_)
 case hS4007=>(try dsimp only);first | done | exact trivial
 clear hK K
 try simp only [Act.put,zS,zT,zU]
 refine tk 8 ?_
 refine tk 9 ?_
 refine tk 10 ?_
 refine wpAnyH_done (by kernel_rfl) ?_ _
 refine NoPanic.normal ?_
 go_wp2_with fail
 refine (HP.out _).mono ?_
 rintro e w4 ⟨rfl,hb⟩
 have HB:=zH (gtr (qai (Below.refl _ _)) hb)
 clear hb
 go_wp2_with fail
 refine bodyPost_ret (qdn rfl _ _ _) rfl ?_
 exact ⟨rfl,HB.out⟩
theorem qtL (w:World):Calls Tryz.prog 161 #[] w fun e w'=>e=.returned (.slice (some ⟨w.heap.size,0,none⟩) 3 3)∧w'=w.alloc (.cells #[.int .i64 239,.int .i64 64,.int .i64 12] 3):=by
 go_enter Tryz.func161,Tryz.ntmps161
 go_wp2_with fail
 go_ret
 exact ⟨rfl,rfl⟩
theorem qpj:qcR 159 0 [] 3:=⟨by decide,by decide,by decide,fun _=>rfl,by decide,by decide,by decide,by decide,by decide⟩
theorem qwt:qcR 90 0 [] 32:=⟨by decide,by decide,by decide,fun _=>rfl,by decide,by decide,by decide,by decide,by decide⟩
def Ctl.probeR (m:Ctl):Ctl×Int:=if (m.run 159 0 [] 3).2.2=0 then (((m.run 159 0 [] 3).1.run 90 0 [] 32).1,((m.run 159 0 [] 3).1.run 90 0 [] 32).2.2) else ((m.run 159 0 [] 3).1,(m.run 159 0 [] 3).2.2)
theorem qmJ {m:Ctl} (ok:m.Ok):m.probeR.1.Ok:=by
 unfold Ctl.probeR
 split
 ·
  exact qbu (qbu ok _ _ _ _ qpj) _ _ _ _ qwt
 ·
  exact qbu ok _ _ _ _ qpj
structure Ctl.Known (m:Ctl):Prop where
 id:(m.run 159 0 [] 3).2.2=0→(m.run 159 0 [] 3).2.1=[239,64,12]
 sfdp:(m.run 159 0 [] 3).2.2=0→((m.run 159 0 [] 3).1.run 90 0 [] 32).2.2=0→textOf ((m.run 159 0 [] 3).1.run 90 0 [] 32).2.1=sfdpText
def qq6 (X:Nat→Prop) (er:Int) (k c:Nat) (m:Ctl) (G:Nat→Prop) (w:World) (e:Ending) (w':World):Prop :=
 (∃ a b d,e=.returned (.tuple #[.int .i64 a,.int .i64 b,.int .i64 d,.int .i64 er])) ∧ ∃ G',qaL X w' k c m G'∧Step G G' w w'
theorem qn4 (k c:Nat) (m:Ctl) (G:Nat→Prop) (w:World) (h:qaL X w k c m G) (ok:m.Ok) (kn:m.Known):Calls Tryz.prog 123 #[.pointer (some ⟨k,0,none⟩)] w (qq6 X m.probeR.2 k c m.probeR.1 G w):=by
 have HI:=zH (fun w=>qtL w)
 have HR:=zH (fun (w1:World) (h1:qaL X w1 k c m G)=>qbt k c m G 159 0 none [] 0 3 w1 h1 ok qpj (qgm w1 G) (fun _=>rfl) (by simp))
 have HE:=zH (qeM m 159 0 [] 3)
 have HS:=zH (fun (G1:Nat→Prop) (w1:World) (h1:qaL X w1 k c (m.run 159 0 [] 3).1 G1)=>qbt k c (m.run 159 0 [] 3).1 G1 90 0 none [] 0 32 w1 h1 (qbu ok _ _ _ _ qpj) qwt (qgm w1 G1) (fun _=>rfl) (by simp))
 have HL:=zH (fun h=>qfT (m:=(m.run 159 0 [] 3).1) (b:=90) (at_:=0) (xs:=[]) (read:=32) (by omega) h)
 have HF:=zH (qeM (m.run 159 0 [] 3).1 90 0 [] 32)
 have HB:=zH (show m.probeR=if (m.run 159 0 [] 3).2.2=0 then (((m.run 159 0 [] 3).1.run 90 0 [] 32).1,((m.run 159 0 [] 3).1.run 90 0 [] 32).2.2) else ((m.run 159 0 [] 3).1,(m.run 159 0 [] 3).2.2) from rfl)
 have HK:=zH kn.id
 have HT:=zH kn.sfdp
 have HG:=zH (fun w=>qlr w)
 have H0:=zH (zA h (qac (Below.refl w.heap.size w) (.cells #[.int .i64 239,.int .i64 64,.int .i64 12] 3)))
 clear h ok kn
 generalize m.probeR=br at *
 generalize m.run 159 0 [] 3=r at *
 obtain ⟨m1,xs,er⟩:=r
 simp only at HR HE HS HL HF HB HK HT
 generalize m1.run 90 0 [] 32=r2 at *
 obtain ⟨m2,ys,er2⟩:=r2
 simp only at HS HL HF HB HT
 simp only [List.length_nil] at HR HS
 rcases HE.out with he | ⟨he,hx⟩
 ·
  subst he
  obtain rfl:xs=[239,64,12]:=HK.out (by trivial)
  go_enter Tryz.func123,Tryz.ntmps123
  go_wp2_with fail
  refine (HI.out _).mono ?_
  rintro e w1 ⟨rfl,rfl⟩
  go_wp2_with fail
  refine (HR.out _ (H0.out.1.later H0.out.2)).mono ?_
  rintro e w1 ⟨a,cp,G1,rfl,hc,hs,st⟩
  have H1:=zH (zA hc ((Step.of_below H0.out.2).trans st))
  have HIN:=zH hs
  clear hc hs st
  go_wp2_with fail
  refine (HI.out _).mono ?_
  rintro e w2 ⟨rfl,rfl⟩
  obtain ⟨b,o,rfl,hcell⟩:=HIN.out.1.at (by simp)
  have HEQ:=zH (Tryz.slices_Equal_int b o 3 cp w1.heap.size 0 3 3 [239,64,12] [239,64,12] (w1.alloc (.cells #[.int .i64 239,.int .i64 64,.int .i64 12] 3)) (by simp) (by simp) (by decide) (by decide) (fun j hj=>(World.cell?_alloc_lt _ _ _ (World.block_lt_of_cell? w1 _ (hcell j hj))).trans (hcell j hj)) (fun j hj=>by
    have hj:j<3:=hj
    match j,hj with
    | 0,_=>exact qaa (qad w1 _) 0
    | 1,_=>exact qaa (qad w1 _) 1
    | 2,_=>exact qaa (qad w1 _) 2))
  have HBA:=zH (qac (Below.refl w1.heap.size w1) (.cells #[.int .i64 239,.int .i64 64,.int .i64 12] 3))
  clear hcell
  go_wp2_with fail
  refine HEQ.out.mono ?_
  rintro e w2 ⟨rfl,q,rfl⟩
  have HB2:=zH (qao HBA.out q)
  generalize (w1.alloc (.cells #[.int .i64 239,.int .i64 64,.int .i64 12] 3)).drewN q=w2 at *
  have H2:=zH (zA (H1.out.1.later HB2.out) (H1.out.2.trans (Step.of_below HB2.out)))
  clear HEQ HBA HB2 H1
  go_wp2_with fail
  refine (HS.out _ _ H2.out.1).mono ?_
  rintro e w3 ⟨a,cp3,G3,rfl,hc,hs,st⟩
  have H3:=zH (zA hc (H2.out.2.trans st))
  have HIN3:=zH hs
  clear hc hs st H2
  rcases HF.out with he | ⟨he,hx⟩
  ·
   subst he
   have hl:ys.length=32:=HL.out (by trivial)
   have HX:=zH (fun w3 h=>qqR a cp3 ys w3 h (by omega))
   rw [show textOf ys=sfdpText from HT.out (by trivial) (by trivial)] at HX
   rw [hl] at HX ⊢
   clear hl
   go_wp2_with fail
   refine (HX.out _ HIN3.out.1).mono ?_
   rintro e w4 ⟨rfl,hb4⟩
   have H4:=zH (zA (H3.out.1.later hb4) (H3.out.2.trans (Step.of_below hb4)))
   clear hb4 H3
   go_wp2_with fail
   refine (HG.out _).mono ?_
   rintro e w5 ⟨rfl,hb5⟩
   have H5:=zH (zA (H4.out.1.later hb5) (H4.out.2.trans (Step.of_below hb5)))
   clear hb5 H4
   go_wp2_with fail
   refine bodyPost_ret (qdn rfl _ _ _) rfl ?_
   rw [show br=(m2,0) from HB.out]
   exact ⟨⟨_,_,_,rfl⟩,G3,H5.out⟩
  ·
   subst he
   subst hx
   go_wp2_with fail
   refine bodyPost_ret (qdn rfl _ _ _) rfl ?_
   rw [show br=(m2,1101) from HB.out]
   exact ⟨⟨_,_,_,rfl⟩,G3,H3.out⟩
 ·
  subst he
  subst hx
  go_enter Tryz.func123,Tryz.ntmps123
  go_wp2_with fail
  refine (HI.out _).mono ?_
  rintro e w1 ⟨rfl,rfl⟩
  go_wp2_with fail
  refine (HR.out _ (H0.out.1.later H0.out.2)).mono ?_
  rintro e w1 ⟨a,cp,G1,rfl,hc,hs,st⟩
  have H1:=zH (zA hc ((Step.of_below H0.out.2).trans st))
  clear hc hs st
  go_wp2_with fail
  refine bodyPost_ret (qdn rfl _ _ _) rfl ?_
  rw [show br=(m1,1101) from HB.out]
  exact ⟨⟨_,_,_,rfl⟩,G1,H1.out⟩
def qpC (X:Nat→Prop) (y:Int) (er:Int) (k c:Nat) (m:Ctl) (G:Nat→Prop) (w:World) (e:Ending) (w':World):Prop:=e=.returned (.tuple #[.int .i64 y,.int .i64 er]) ∧ ∃ G',qaL X w' k c m G'∧Step G G' w w'
theorem qsz:qcR 53 0 [] 1:=⟨by decide,by decide,by decide,fun _=>rfl,by decide,by decide,by decide,by decide,by decide⟩
theorem qfv (k c:Nat) (m m':Ctl) (G:Nat→Prop) (b x:Int) (w:World) (h:qaL X w k c m G) (ok:m.Ok) (hb:b=5∨b=53) (hr:m.run b 0 [] 1=(m',[x],0)):Calls Tryz.prog 111 #[.pointer (some ⟨k,0,none⟩),.int .i64 b] w (qpC X x 0 k c m' G w):=by
 have HR:=zH (qbt k c m G b 0 none [] 0 1 w h ok (by rcases hb with rfl | rfl;exact qs6;exact qsz) (qgm w G) (fun _=>rfl) (by simp))
 rw [hr] at HR
 simp only [List.length_nil] at HR
 clear h ok hr hb
 go_enter Tryz.func111,Tryz.ntmps111
 go_wp2_with fail
 refine HR.out.mono ?_
 rintro e w1 ⟨a,cp,G1,rfl,hc,hs,st⟩
 obtain ⟨b,o,rfl,hcell⟩:=hs.1 0 (by simp)
 rw [Nat.add_zero] at hcell
 have hcell:w1.cell? ⟨b,o,none⟩=some (.int .i64 x):=hcell
 have H1:=zH (zA hc st)
 have i0:(0:Int)<1:=by decide
 clear hc hs st
 simp only [List.length_singleton]
 go_wp2_with fail
 go_ret2
 exact ⟨rfl,G1,H1.out⟩
structure qvW (m m1 m2 m3 m4:Ctl) (own bit other kept x y:Int):Prop where
 r1:m.run own 0 [] 1=(m1,[x],0)
 b1:bits .and .i64 x bit=0
 r2:m1.run other 0 [] 1=(m2,[y],0)
 r3:m2.run 6 0 [] 0=(m3,[],0)
 r4:m3.run 1 0 (if own=53 then [bits .and .i64 y kept,bit] else [bit,bits .and .i64 y kept]) 0=(m4,[],0)
 k1:isByte (bits .and .i64 y kept)=true
 own:own=5∨own=53
 other:other=5∨other=53
 bit:isByte bit=true
theorem qsV (w:World) (x y:Int) (G:Nat→Prop) (hG : ∀ b,G b→b<w.heap.size):qak (w.alloc (.cells #[.int .i64 x,.int .i64 y] 3)) (some ⟨w.heap.size,0,none⟩) [x,y] G :=
 ⟨qal.of fun i hi=>by
  have hi:i<2:=hi
  match i,hi with
  | 0,_=>exact qaa (qad w _) 0
  | 1,_=>exact qaa (qad w _) 1,fun b o e _ hg=>by
  obtain ⟨rfl,rfl⟩:w.heap.size=b∧0=o:=by simpa using e
  exact absurd (hG _ hg) (by omega)⟩
theorem qwB (x y:Int) (hx:isByte x=true) (hy:isByte y=true):qcR 1 0 [x,y] 0 :=
 ⟨by decide,by decide,by decide,fun _=>rfl,by simp,by simp [hx,hy],by decide,by decide,by unfold qfj;rfl⟩
theorem qkB (k c:Nat) (m m1 m2 m3 m4:Ctl) (G:Nat→Prop) (own bit other kept x y:Int) (w:World) (h:qaL X w k c m G) (ok:m.Ok) (S:qvW m m1 m2 m3 m4 own bit other kept x y):Calls Tryz.prog 73 #[.pointer (some ⟨k,0,none⟩),.int .i64 own,.int .i64 bit,.int .i64 other,.int .i64 kept] w (qfy X 0 k c m4 G w):=by
 have ok1:m1.Ok:=by have:=qbu ok own 0 [] 1 (by rcases S.own with e | e <;> rw [e];exact qs6;exact qsz);rw [S.r1] at this;exact this
 have ok2:m2.Ok:=by have:=qbu ok1 other 0 [] 1 (by rcases S.other with e | e <;> rw [e];exact qs6;exact qsz);rw [S.r2] at this;exact this
 have ok3:m3.Ok:=by have:=qbu ok2 6 0 [] 0 quf;rw [S.r3] at this;exact this
 have HS1:=zH (qfv k c m m1 G own x w h ok S.own S.r1)
 have HS2:=zH (fun G w (h:qaL X w k c m1 G)=>qfv k c m1 m2 G other y w h ok1 S.other S.r2)
 have HR:=zH (fun G w (h:qaL X w k c m2 G)=>qbt k c m2 G 6 0 none [] 0 0 w h ok2 quf (qgm w G) (fun _=>rfl) (by simp))
 rw [S.r3] at HR
 simp only [List.length_nil] at HR
 have hb1:=S.b1
 have HK:=zH S
 clear h ok ok1 ok2
 go_enter Tryz.func73,Tryz.ntmps73
 go_wp2_with fail
 refine HS1.out.mono ?_
 rintro e w1 ⟨rfl,G1,hc,st⟩
 have H1:=zH (zA hc st)
 clear hc st HS1
 go_wp2_with fail
 refine (HS2.out _ _ H1.out.1).mono ?_
 rintro e w2 ⟨rfl,G2,hc,st⟩
 have H2:=zH (zA hc (H1.out.2.trans st))
 clear hc st HS2 H1
 go_wp2_with fail
 refine (HR.out _ _ H2.out.1).mono ?_
 rintro e w3 ⟨a,cp,G3,rfl,hc,hs,st⟩
 have H3:=zH (zA hc (H2.out.2.trans st))
 clear hc hs st HR H2
 have hG3:=zH (H3.out.1.lt)
 by_cases ho:own=53
 ·
  have HW:=zH (fun G w a cap (h:qaL X w k c m3 G) hs hn hcap=>qbt k c m3 G 1 0 a [bits .and .i64 y kept,bit] cap 0 w h ok3 (qwB _ _ HK.out.k1 HK.out.bit) hs hn hcap)
  have r4:=HK.out.r4
  rw [if_pos ho] at r4
  rw [r4] at HW
  clear r4
  subst ho
  have HB3:=zH (qac (qac (Below.refl w3.heap.size w3) (.cells #[.int .i64 bit,.int .i64 (bits .and .i64 y kept)] 3)) (.cells #[.int .i64 (bits .and .i64 y kept),.int .i64 bit] 3))
  have HT:=zH (qsV (w3.alloc (.cells #[.int .i64 bit,.int .i64 (bits .and .i64 y kept)] 3)) (bits .and .i64 y kept) bit G3 (fun b hb=>Nat.lt_of_lt_of_le (hG3.out b hb) (by simp)))
  go_wp2_with fail
  refine (HW.out G3 _ _ 2 (H3.out.1.later HB3.out) (by simpa using HT.out) (fun e=>by cases e) (by simp)).mono ?_
  rintro e w4 ⟨a4,cp4,G4,rfl,hc,hs,st⟩
  have H4:=zH (zA hc (H3.out.2.trans ((Step.of_below HB3.out).trans st)))
  clear hc hs st
  go_wp2_with fail
  go_ret
  exact ⟨rfl,G4,H4.out⟩
 ·
  have HW:=zH (fun G w a cap (h:qaL X w k c m3 G) hs hn hcap=>qbt k c m3 G 1 0 a [bit,bits .and .i64 y kept] cap 0 w h ok3 (qwB _ _ HK.out.bit HK.out.k1) hs hn hcap)
  have r4:=HK.out.r4
  rw [if_neg ho] at r4
  rw [r4] at HW
  clear r4
  have HB3:=zH (qac (Below.refl w3.heap.size w3) (.cells #[.int .i64 bit,.int .i64 (bits .and .i64 y kept)] 3))
  have HT:=zH (qsV w3 bit (bits .and .i64 y kept) G3 hG3.out)
  go_wp2_with fail
  refine (HW.out G3 _ _ 2 (H3.out.1.later HB3.out) HT.out (fun e=>by cases e) (by simp)).mono ?_
  rintro e w4 ⟨a4,cp4,G4,rfl,hc,hs,st⟩
  have H4:=zH (zA hc (H3.out.2.trans ((Step.of_below HB3.out).trans st)))
  clear hc hs st
  go_wp2_with fail
  go_ret
  exact ⟨rfl,G4,H4.out⟩
theorem qqD (k c:Nat) (m m1 m2 m3 m4:Ctl) (G:Nat→Prop) (x y:Int) (w:World) (h:qaL X w k c m G) (ok:m.Ok) (S:qvW m m1 m2 m3 m4 53 2 5 4 x y):Calls Tryz.prog 41 #[.pointer (some ⟨k,0,none⟩)] w (qfy X 0 k c m4 G w):=by
 have HS:=zH (qkB k c m m1 m2 m3 m4 G 53 2 5 4 x y w h ok S)
 clear h ok S
 go_enter Tryz.func41,Tryz.ntmps41
 go_wp2_with fail
 refine HS.out.mono ?_
 rintro e w1 ⟨rfl,H⟩
 have H:=zH H
 go_wp2_with fail
 go_ret
 exact ⟨rfl,H.out⟩
theorem qlf (k c:Nat) (m m1 m2 m3 m4:Ctl) (G:Nat→Prop) (x y:Int) (w:World) (h:qaL X w k c m G) (ok:m.Ok) (S:qvW m m1 m2 m3 m4 5 4 53 2 x y):Calls Tryz.prog 42 #[.pointer (some ⟨k,0,none⟩)] w (qfy X 0 k c m4 G w):=by
 have HS:=zH (qkB k c m m1 m2 m3 m4 G 5 4 53 2 x y w h ok S)
 clear h ok S
 go_enter Tryz.func42,Tryz.ntmps42
 go_wp2_with fail
 refine HS.out.mono ?_
 rintro e w1 ⟨rfl,H⟩
 have H:=zH H
 go_wp2_with fail
 go_ret
 exact ⟨rfl,H.out⟩
end
section
open Go.RowKit
variable {X:Nat→Prop}
theorem Both.odd {w w':World} {k c b s:Nat} {m:Ctl} {q:Cache} {H:Nat→Prop} (h:Both X w k c b m q H) (t:Touch (Only s) w w') (hn : ¬ H s) (o:Odd w s) (hh:0<m.chip.busy.length→m.chip.home≠s):Both X w' k c b m q H:=by
 obtain ⟨G,hc,⟨ab,ac,tb,tc,hw⟩,hH,hb⟩:=h.ex
 obtain ⟨p,hp⟩:=o.ptr
 have na : ¬ Only s ab:=fun e=>by
  have e:ab=s:=e
  have:=hw.a0
  rw [e,hp] at this;cases this
 have nt : ¬ Only s tb:=fun e=>by
  have e:tb=s:=e
  have:=hw.t0
  rw [e,hp] at this;cases this
 have nb : ¬ Only s b:=fun e=>hn ((hH s).2 (.inr e.symm))
 have hbl:b<w.heap.size:=(Array.getElem?_eq_some_iff.1 hw.raw).1
 exact ⟨⟨G,hc.far t (fun x hx hg=>by rw [show x=s from hx] at hg;exact hn ((hH s).2 (.inl hg))) (fun hl hx=>hh hl hx) (fun x hx _=>by rw [show x=s from hx];exact .inl o),⟨ab,ac,tb,tc,(t.block b hbl nb).trans hw.raw,hw.cap,t.cell _ _ hw.a0 na,t.cell _ _ hw.a1 na,t.cell _ _ hw.t0 nt,t.cell _ _ hw.t1 nt,hw.out,hw.na,hw.nt⟩,hH,hb⟩⟩
theorem Both.lt {w:World} {k c b:Nat} {m:Ctl} {q:Cache} {H:Nat→Prop} (h:Both X w k c b m q H) : ∀ i,H i→i<w.heap.size:=fun i hi=>by
 obtain ⟨G,hc,⟨_,_,_,_,hw⟩,hH,_⟩:=h.ex
 rcases (hH i).1 hi with hg | hg
 ·
  exact hc.lt i hg
 ·
  rw [hg];exact (Array.getElem?_eq_some_iff.1 hw.raw).1
structure qaf where
 opened : Bool
 sector:Int
 view:qau
def qaB:qau:=⟨false,0,[],0⟩
def shut:qaf:=⟨false,0,qaB⟩
def qhU (k b:Nat) (S:qaf) (a:Option Addr) (cp:Nat):Array Value := #[.pointer (some ⟨k,0,none⟩),.pointer (some ⟨b,0,none⟩),.bool S.opened,.int .i64 S.sector,.bool S.view.good,.int .i64 S.view.epoch,.slice a S.view.recs.length cp,.int .i64 S.view.free]
structure qbn (w:World) (a:Option Addr) (cp:Nat) (rs:List qaC) (F:Nat→Prop):Prop where
 at_:SliceAt w (.slice a rs.length cp) rs.length 4 (recVals rs)
 far : ∀ x o f,a=some ⟨x,o,f⟩→0<rs.length → ¬ F x
theorem qbn.lt {w:World} {a:Option Addr} {cp:Nat} {rs:List qaC} {F:Nat→Prop} (h:qbn w a cp rs F) : ∀ x o f,a=some ⟨x,o,f⟩→0<rs.length→x<w.heap.size:=by
 intro x o f e hl
 rcases h.at_.ex with ⟨_,h0⟩ | ⟨b,o',c,hv,hc,hx⟩
 ·
  omega
 ·
  have hlen:0<(recVals rs).length:=by rw [qd6];omega
  have:=World.block_lt_of_cell? w _ (hx 0 _ (List.getElem?_eq_getElem hlen))
  simp only [Value.slice.injEq] at hv
  rw [hv.1] at e
  obtain ⟨rfl,_⟩:b=x∧_:=by simpa using e
  exact this
theorem qbn.step {w w':World} {a:Option Addr} {cp:Nat} {rs:List qaC} {F G:Nat→Prop} (h:qbn w a cp rs F) (st:Step F G w w'):qbn w' a cp rs G:=by
 have hl:=h.lt
 refine ⟨⟨h.at_.len,?_⟩,fun x o f e h0=>st.safe (hl x o f e h0) (h.far x o f e h0)⟩
 rcases h.at_.ex with h0 | ⟨b,o,c,hv,hc,hx⟩
 ·
  exact .inl h0
 ·
  refine .inr ⟨b,o,c,hv,hc,fun i u hu => ?_⟩
  have hv':a=some ⟨b,o,none⟩:=by simp only [Value.slice.injEq] at hv;exact hv.1
  have h0:0<rs.length:=by
   have:=(List.getElem?_eq_some_iff.1 hu).1
   rw [qd6] at this;omega
  exact st.touch.cell _ _ (hx i u hu) (h.far _ _ _ hv' h0)
theorem qbn.nil (w:World) (F:Nat→Prop):qbn w none 0 [] F:=⟨SliceAt.nil _ _,fun _ _ _ e=>nomatch e⟩
theorem qbn.of_own {w:World} {B:Nat} {a:Option Addr} {cp:Nat} {rs:List qaC} {F:Nat→Prop} (h:w.ownsRow B 74 4 (.slice a rs.length cp) rs.length (recVals rs)) (hF : ∀ i,F i→i<B):qbn w a cp rs F :=
 ⟨SliceAt.of_own h,fun x o f e _ hf=>by
  have:=qaN h x (by rw [e];rfl)
  have:=hF x hf
  omega⟩
def Mine (s:Nat) (H:Nat→Prop) (i:Nat):Prop:=H i∨i=s
def Off (X:Nat→Prop) (s:Nat) (H:Nat→Prop) (i:Nat):Prop:=Mine s H i∨X i
structure Sys (X:Nat→Prop) (w:World) (s k c b:Nat) (m:Ctl) (q:Cache) (S:qaf) (H:Nat→Prop):Prop where
 both:Both X w k c b m q H
 st : ∃ a cp,w.heap[s]? = some (.cells (qhU k b S a cp) 180 (0,0))∧qbn w a cp S.view.recs (Off X s H)
 far : ¬ H s
 home:0<m.chip.busy.length→m.chip.home≠s
theorem Sys.lt {w:World} {s k c b:Nat} {m:Ctl} {q:Cache} {S:qaf} {H:Nat→Prop} (h:Sys X w s k c b m q S H) : ∀ i,Mine s H i→i<w.heap.size:=fun i hi=>by
 obtain ⟨a,cp,h1,_⟩:=h.st
 rcases hi with hi | rfl
 ·
  exact h.both.lt i hi
 ·
  exact qat h1
theorem Step.mine {w w':World} {s:Nat} {H H':Nat→Prop} (st:Step H H' w w'):Step (Mine s H) (Mine s H') w w' :=
 ⟨st.touch.mono fun i h=>.inl h,fun i h=>h.elim (fun h=>(st.foot i h).imp .inl id) (fun h=>.inl (.inr h))⟩
theorem Step.off {w w':World} {s:Nat} {H H':Nat→Prop} (st:Step H H' w w'):Step (Off X s H) (Off X s H') w w':=st.mine.cup
theorem Sys.step {w w':World} {s k c b:Nat} {m m':Ctl} {q q':Cache} {S:qaf} {H H':Nat→Prop} (h:Sys X w s k c b m q S H) (hb:Both X w' k c b m' q' H') (st:Step H H' w w') (hm:qaF m m'):Sys X w' s k c b m' q' S H':=by
 obtain ⟨a,cp,h1,h2⟩:=h.st
 exact ⟨hb,⟨a,cp,st.touch.at h1 h.far,h2.step st.off⟩,st.safe (qat h1) h.far,fun hl=>by rw [hm.1];exact h.home (Nat.lt_of_lt_of_le hl hm.2)⟩
theorem Sys.later {w w':World} {s k c b:Nat} {m:Ctl} {q:Cache} {S:qaf} {H:Nat→Prop} (h:Sys X w s k c b m q S H) (hb:Below w.heap.size w w'):Sys X w' s k c b m q S H :=
 h.step (h.both.later hb) (Step.of_below hb) (qaF.refl m)
theorem qsM {w:World} {s k b:Nat} {S:qaf} {a:Option Addr} {cp:Nat} (h:w.heap[s]? = some (.cells (qhU k b S a cp) 180 (0,0))):Odd w s:=by
 refine ⟨⟨_,qaa h 0⟩,fun o hf => ?_⟩
 obtain ⟨x,hx⟩:=hf 0 (by omega)
 obtain ⟨y,hy⟩:=hf 1 (by omega)
 have hx':(qhU k b S a cp)[o+0]? = some (.int .i64 x):=by
  unfold World.cell? at hx
  rw [h] at hx
  simpa using hx
 have hlt:=(Array.getElem?_eq_some_iff.1 hx').1
 have hlt:o<8:=hlt
 match o,hlt with
 | 0,_=>rw [qaa h 0] at hx;cases hx
 | 1,_=>rw [qaa h 1] at hx;cases hx
 | 2,_=>rw [qaa h 2] at hx;cases hx
 | 3,_=>rw [qaa h 4] at hy;cases hy
 | 4,_=>rw [qaa h 4] at hx;cases hx
 | 5,_=>rw [qaa h 6] at hy;cases hy
 | 6,_=>rw [qaa h 6] at hx;cases hx
 | 7,_ =>
  have:w.cell? ⟨s,7+1,none⟩=none:=by
   unfold World.cell?
   rw [h]
   rfl
  rw [this] at hy;cases hy
theorem Sys.put {w w':World} {s k c b:Nat} {m:Ctl} {q:Cache} {S S':qaf} {H:Nat→Prop} {a:Option Addr} {cp:Nat} (h:Sys X w s k c b m q S H) (t:Touch (Only s) w w') (h1:w'.heap[s]? = some (.cells (qhU k b S' a cp) 180 (0,0))) (h2:qbn w a cp S'.view.recs (Off X s H)):Sys X w' s k c b m q S' H∧Step (Mine s H) (Mine s H) w w':=by
 obtain ⟨a0,cp0,h0,_⟩:=h.st
 have st:Step (Mine s H) (Mine s H) w w':=Step.of_touch (t.mono fun i hi=>.inr hi)
 exact ⟨⟨h.both.odd t h.far (qsM h0) h.home,⟨a,cp,h1,h2.step (Step.of_touch (t.mono fun i hi=>.inl (.inr hi)))⟩,h.far,h.home⟩,st⟩
theorem qqE {w:World} {s:Nat} {a b c d e f g h:Value} {t:TypeId} (H:w.heap[s]? = some (.cells #[a,b,c,d,e,f,g,h] t (0,0))):w.cell? ⟨s,0,none⟩=some a∧w.cell? ⟨s,1,none⟩=some b∧w.cell? ⟨s,2,none⟩=some c∧w.cell? ⟨s,3,none⟩=some d∧w.cell? ⟨s,4,none⟩=some e∧w.cell? ⟨s,5,none⟩=some f∧w.cell? ⟨s,6,none⟩=some g∧w.cell? ⟨s,7,none⟩=some h ∧ ∀ i,w.frozen? ⟨s,i,none⟩=false :=
 ⟨qaa H 0,qaa H 1,qaa H 2,qaa H 3,qaa H 4,qaa H 5,qaa H 6,qaa H 7,fun i=>qah H i⟩
theorem Sys.grow {Y:Nat→Prop} {w w':World} {s k c b:Nat} {m:Ctl} {q:Cache} {S:qaf} {H:Nat→Prop} (h:Sys X w s k c b m q S H) (t:Touch X w w') (d : ∀ i,X i → ¬ Mine s H i) (hh:0<m.chip.busy.length → ¬ X m.chip.home) (hY : ∀ i,Y i→X i∨(w.heap.size≤i∧i<w'.heap.size)):Sys Y w' s k c b m q S H:=by
 obtain ⟨a,cp,h1,h2⟩:=h.st
 refine ⟨h.both.grow t (fun i hx hH=>d i hx (.inl hH)) hh hY,⟨a,cp,t.at h1 (fun hx=>d s hx (.inr rfl)),?_⟩,h.far,h.home⟩
 have h3:=h2.step (F:=Off X s H) (G:=Off X s H) (Step.of_touch (t.mono fun i hi=>.inr hi))
 exact ⟨h3.at_,fun x o f e h0 hy=>hy.elim (fun hm=>h2.far x o f e h0 (.inl hm)) (fun hy=>(hY x hy).elim (fun hx=>h2.far x o f e h0 (.inr hx)) (fun hl=>by have:=h2.lt x o f e h0;omega))⟩
def qwA (w:World) (s:Nat) (c d e f g h:Value):World:=(((((w.setCell ⟨s,2,none⟩ c).setCell ⟨s,3,none⟩ d).setCell ⟨s,4,none⟩ e).setCell ⟨s,5,none⟩ f).setCell ⟨s,6,none⟩ g).setCell ⟨s,7,none⟩ h
theorem qqC (w:World) (s:Nat) (c d e f g h:Value):Touch (Only s) w (qwA w s c d e f g h) :=
 ((((((Touch.refl (Only s) w).set s 2 c rfl).set s 3 d rfl).set s 4 e rfl).set s 5 f rfl).set s 6 g rfl).set s 7 h rfl
theorem qvH {w:World} {s:Nat} {a b c0 d0 e0 f0 g0 h0:Value} {t:TypeId} (hh:w.heap[s]? = some (.cells #[a,b,c0,d0,e0,f0,g0,h0] t (0,0))) (c d e f g h:Value):(qwA w s c d e f g h).heap[s]? = some (.cells #[a,b,c,d,e,f,g,h] t (0,0)) :=
 qag (i:=7) (v:=h) (qag (i:=6) (v:=g) (qag (i:=5) (v:=f) (qag (i:=4) (v:=e) (qag (i:=3) (v:=d) (qag (i:=2) (v:=c) hh)))))
theorem Sys.store {w:World} {s k c b:Nat} {m:Ctl} {q:Cache} {S:qaf} {H:Nat→Prop} (h:Sys X w s k c b m q S H) (S':qaf) (a:Option Addr) (cp:Nat) (hr:qbn w a cp S'.view.recs (Off X s H)):Sys X (qwA w s (.bool S'.opened) (.int .i64 S'.sector) (.bool S'.view.good) (.int .i64 S'.view.epoch) (.slice a S'.view.recs.length cp) (.int .i64 S'.view.free)) s k c b m q S' H∧Step (Mine s H) (Mine s H) w (qwA w s (.bool S'.opened) (.int .i64 S'.sector) (.bool S'.view.good) (.int .i64 S'.view.epoch) (.slice a S'.view.recs.length cp) (.int .i64 S'.view.free)):=by
 obtain ⟨a0,cp0,h1,_⟩:=h.st
 exact h.put (qqC _ _ _ _ _ _ _ _) (qvH h1 _ _ _ _ _ _) hr
def qnj (X:Nat→Prop) (v:Value) (s k c b:Nat) (m:Ctl) (q:Cache) (S:qaf) (H:Nat→Prop) (w:World) (e:Ending) (w':World):Prop:=e=.returned v ∧ ∃ H',Sys X w' s k c b m q S H'∧Step (Mine s H) (Mine s H') w w'
theorem qev (s k c b:Nat) (m:Ctl) (q:Cache) (S:qaf) (H:Nat→Prop) (er:Int) (w:World) (h:Sys X w s k c b m q S H):Calls Tryz.prog 88 #[.pointer (some ⟨s,0,none⟩),.int .i64 er] w (qnj X (.int .i64 er) s k c b m q shut H w):=by
 obtain ⟨a,cp,h1,h2⟩:=h.st
 have H0:=zH (zA h h1)
 obtain ⟨c0,c1,c2,c3,c4,c5,c6,c7,cf⟩:=qqE h1
 clear h h1 h2
 go_enter Tryz.func88,Tryz.ntmps88
 go_wp2_with fail
 go_ret
 obtain ⟨h1,h2⟩:=H0.out.1.store shut none 0 (qbn.nil _ _)
 exact ⟨rfl,H,h1,h2⟩
theorem qfO (s k c b:Nat) (m:Ctl) (q:Cache) (S:qaf) (H:Nat→Prop) (sec:Int) (V:qau) (va:Option Addr) (vc:Nat) (w:World) (h:Sys X w s k c b m q S H) (hv:qbn w va vc V.recs (Off X s H)):Calls Tryz.prog 92 #[.pointer (some ⟨s,0,none⟩),.int .i64 sec,.agg #[.bool V.good,.int .i64 V.epoch,.slice va V.recs.length vc,.int .i64 V.free]] w (qnj X (.tuple #[]) s k c b m q ⟨true,sec,V⟩ H w):=by
 obtain ⟨a,cp,h1,h2⟩:=h.st
 have H0:=zH (zA h (zA h1 hv))
 obtain ⟨c0,c1,c2,c3,c4,c5,c6,c7,cf⟩:=qqE h1
 have hs:s<w.heap.size:=qat h1
 clear h h1 h2 hv
 go_enter Tryz.func92,Tryz.ntmps92
 go_upto_region 1 with fail
 have e0:=qad w (.cells #[.bool V.good,.int .i64 V.epoch,.slice va V.recs.length vc,.int .i64 V.free] 52)
 obtain ⟨b0,b1,b2,b3,bf⟩:=row4 e0
 have HN:=zH (qac (Below.refl w.heap.size w) (.cells #[.bool V.good,.int .i64 V.epoch,.slice va V.recs.length vc,.int .i64 V.free] 52))
 have d2:=(HN.out.cell (p:=⟨s,2,none⟩) hs).trans c2
 have d3:=(HN.out.cell (p:=⟨s,3,none⟩) hs).trans c3
 have d4:=(HN.out.cell (p:=⟨s,4,none⟩) hs).trans c4
 have d5:=(HN.out.cell (p:=⟨s,5,none⟩) hs).trans c5
 have d6:=(HN.out.cell (p:=⟨s,6,none⟩) hs).trans c6
 have d7:=(HN.out.cell (p:=⟨s,7,none⟩) hs).trans c7
 have df:=fun i=>qah (qab HN.out H0.out.2.1) i
 have hgs:w.heap.size≠s:=by omega
 have hsg:s≠w.heap.size:=by omega
 clear c0 c1 c2 c3 c4 c5 c6 c7 cf e0 hs
 have H1:=zH (zA (H0.out.1.later HN.out) (zA (H0.out.2.2.step (F:=Off X s H) (G:=Off X s H) (Step.of_below HN.out)) (show Step (Mine s H) (Mine s H) w _ from Step.of_below HN.out)))
 clear H0 HN
 generalize w.heap.size=g at *
 generalize w.alloc (.cells #[.bool V.good,.int .i64 V.epoch,.slice va V.recs.length vc,.int .i64 V.free] 52)=w2 at *
 go_region_held3 (fun w'=>w'.cell? ⟨g,0,none⟩=some (.bool V.good)∧w'.cell? ⟨g,1,none⟩=some (.int .i64 V.epoch)∧w'.cell? ⟨g,2,none⟩=some (.slice va V.recs.length vc)∧w'.cell? ⟨g,3,none⟩=some (.int .i64 V.free)) (go_keep) (fail)
 go_end0
 obtain ⟨h1,h2⟩:=H1.out.1.store ⟨true,sec,V⟩ va vc H1.out.2.1
 exact ⟨rfl,H,h1.later (qai (Below.refl _ _)),H1.out.2.2.trans (h2.trans (Step.of_below (qai (Below.refl _ _))))⟩
theorem qjP (k c b:Nat) (m:Ctl) (q:Cache) (H:Nat→Prop) (w:World) (h:Both X w k c b m q H) (hh:0<m.chip.busy.length→m.chip.home<w.heap.size):Calls Tryz.prog 69 #[.pointer (some ⟨k,0,none⟩),.pointer (some ⟨b,0,none⟩)] w fun e w' => ∃ s,e=.returned (.tuple #[.pointer (some ⟨s,0,none⟩),.int .i64 0])∧Sys X w' s k c b m q shut H∧Below w.heap.size w w'∧w.heap.size≤s:=by
 have H0:=zH (zA h hh)
 clear h hh
 go_enter Tryz.func69,Tryz.ntmps69
 go_wp2_with fail
 go_ret2
 exact ⟨w.heap.size,rfl,⟨H0.out.1.later (qac (Below.refl _ _) _),⟨none,0,qad _ _,qbn.nil _ _⟩,fun hH=>by have:=H0.out.1.lt _ hH;omega,fun hl=>by have:=H0.out.2 hl;omega⟩,qac (Below.refl _ _) _,Nat.le_refl _⟩
def askedE (S:qaf) (key:ByteArray):Int:=if S.opened=false then 2302 else if 1≤key.size∧key.size≤6 then 0 else 2300
theorem qfD (s k c b:Nat) (m:Ctl) (q:Cache) (S:qaf) (H:Nat→Prop) (key:ByteArray) (w:World) (h:Sys X w s k c b m q S H):Calls Tryz.prog 93 #[.pointer (some ⟨s,0,none⟩),.string key] w fun e w'=>e=.returned (.int .i64 (askedE S key))∧w=w':=by
 obtain ⟨a,cp,h1,h2⟩:=h.st
 obtain ⟨c0,c1,c2,c3,c4,c5,c6,c7,cf⟩:=qqE h1
 have HK:=zH (fun w=>qhr key w)
 clear h h1 h2 c0 c1 c3 c4 c5 c6 c7 cf
 unfold askedE
 cases ho:S.opened with
 | false =>
  rw [ho] at c2
  rw [if_pos rfl]
  go_enter Tryz.func93,Tryz.ntmps93
  go_wp2_with fail
  go_ret
  exact ⟨rfl,rfl⟩
 | true =>
  rw [ho] at c2
  rw [if_neg (by decide)]
  by_cases hk:1≤key.size∧key.size≤6
  ·
   rw [if_pos hk]
   rw [show (decide (1≤key.size)&&decide (key.size≤6))=true by simp [hk.1,hk.2]] at HK
   clear hk
   go_enter Tryz.func93,Tryz.ntmps93
   go_wp2_with fail
   refine (HK.out _).mono ?_
   rintro e w1 ⟨rfl,rfl⟩
   go_wp2_with fail
   go_ret
   exact ⟨rfl,rfl⟩
  ·
   rw [if_neg hk]
   rw [show (decide (1≤key.size)&&decide (key.size≤6))=false by rw [Bool.and_eq_false_iff];simp only [decide_eq_false_iff_not];omega] at HK
   clear hk
   go_enter Tryz.func93,Tryz.ntmps93
   go_wp2_with fail
   refine (HK.out _).mono ?_
   rintro e w1 ⟨rfl,rfl⟩
   go_wp2_with fail
   go_ret
   exact ⟨rfl,rfl⟩
end
section
open Go.RowKit
variable {X:Nat→Prop}
theorem qfR (m:Ctl):qaF m m.probeR.1:=by
 unfold Ctl.probeR
 split
 ·
  exact (qaI _ _ _ _ _).trans (qaI _ _ _ _ _)
 ·
  exact qaI _ _ _ _ _
theorem qfI (m:Ctl) (p n:Int):qaF m (m.fetchR p n).1:=by
 unfold Ctl.fetchR
 split <;> exact qaI _ _ _ _ _
theorem qkI : ∀ (k:Nat) (n:Int) (m:Ctl),qaF m (Ctl.waitR k n m).1
 | 0,n,m=>qaF.refl m
 | k+1,n,m=>by
  unfold Ctl.waitR
  split
  ·
   exact qdG m
  ·
   split
   ·
    exact qdG m
   ·
    exact (qdG m).trans (qkI k _ _)
theorem qgZ (m:Ctl) (p:Int) (s:ByteArray):qaF m (m.pageR p s).1:=by
 unfold Ctl.pageR
 split
 ·
  exact qaI _ _ _ _ _
 ·
  split
  ·
   exact (qaI _ _ _ _ _).trans (qaI _ _ _ _ _)
  ·
   exact ((qaI _ _ _ _ _).trans (qaI _ _ _ _ _)).trans (qkI _ _ _)
theorem qeY (m:Ctl) (p:Int) (s:ByteArray):qaF m (m.burnR p s).1:=by
 unfold Ctl.burnR
 split
 ·
  exact qgZ _ _ _
 ·
  exact (qgZ _ _ _).trans (qgZ _ _ _)
theorem qp0 (m:Ctl) (p:Int) (n:Nat) (h:(m.fetchR p n).2.2=0):(m.fetchR p n).2.1.size=n:=by
 unfold Ctl.fetchR at h ⊢
 split at h
 ·
  rename_i he
  rw [if_pos he,qbl,qfT (by omega) he];omega
 ·
  rename_i he
  exact absurd h he
theorem Sys.ctl {w:World} {s k c b:Nat} {m:Ctl} {q:Cache} {S:qaf} {H:Nat→Prop} (h:Sys X w s k c b m q S H) : ∃ G,qaL X w k c m G ∧ ∀ w' m' G',qaL X w' k c m' G'→Step G G' w w'→qaF m m' → ∃ H',Sys X w' s k c b m' q S H'∧Step H H' w w':=by
 obtain ⟨G,hc,hw,hH,hh⟩:=h.both.ex
 refine ⟨G,hc,fun w' m' G' hc' st hm => ?_⟩
 have stH:=Step.both st hH (fun i=>Iff.rfl)
 exact ⟨_,h.step (Both.ctl hw hh hm hc' st) stH hm,stH⟩
def qkR (X:Nat→Prop) (s k c b:Nat) (m:Ctl) (q:Cache) (S:qaf) (H:Nat→Prop) (w w':World):Prop := ∃ H',Sys X w' s k c b m q S H'∧Step H H' w w'
theorem qsR (s k c b:Nat) (m:Ctl) (q:Cache) (S:qaf) (H:Nat→Prop) (w:World) (h:Sys X w s k c b m q S H) (ok:m.Ok) (kn:m.Known):Calls Tryz.prog 123 #[.pointer (some ⟨k,0,none⟩)] w fun e w'=>(∃ x y z,e=.returned (.tuple #[.int .i64 x,.int .i64 y,.int .i64 z,.int .i64 m.probeR.2]))∧qkR X s k c b m.probeR.1 q S H w w':=by
 obtain ⟨G,hc,hk⟩:=h.ctl
 refine (qn4 k c m G w hc ok kn).mono ?_
 rintro e w' ⟨he,G',hc',st⟩
 exact ⟨he,hk _ _ _ hc' st (qfR m)⟩
theorem qsQ (s k c b:Nat) (m:Ctl) (q:Cache) (S:qaf) (H:Nat→Prop) (p:Int) (n:Nat) (w:World) (h:Sys X w s k c b m q S H) (ok:m.Ok) (h0:1≤n) (h1:n≤512) (h2:0≤p) (h3:p≤4096 - n):Calls Tryz.prog 124 #[.pointer (some ⟨k,0,none⟩),.int .i64 p,.int .i64 n] w fun e w'=>e=.returned (.tuple #[.string (m.fetchR p n).2.1,.int .i64 (m.fetchR p n).2.2])∧qkR X s k c b (m.fetchR p n).1 q S H w w':=by
 obtain ⟨G,hc,hk⟩:=h.ctl
 refine (qnB k c m G p n w hc ok h0 h1 h2 h3).mono ?_
 rintro e w' ⟨he,G',hc',st⟩
 exact ⟨he,hk _ _ _ hc' st (qfI m p n)⟩
theorem qup (s k c b:Nat) (m:Ctl) (q:Cache) (S:qaf) (H:Nat→Prop) (p:Int) (t:ByteArray) (w:World) (h:Sys X w s k c b m q S H) (ok:m.Ok) (h0:2048≤p) (h1:p≤4032) (hp:p % 32=0) (hs:t.size=64):Calls Tryz.prog 132 #[.pointer (some ⟨k,0,none⟩),.int .i64 p,.string t] w fun e w'=>e=.returned (.int .i64 (m.burnR p t).2)∧qkR X s k c b (m.burnR p t).1 q S H w w':=by
 obtain ⟨G,hc,hk⟩:=h.ctl
 refine (qpL k c m G p t w hc ok h0 h1 hp hs).mono ?_
 rintro e w' ⟨he,G',hc',st⟩
 exact ⟨he,hk _ _ _ hc' st (qeY m p t)⟩
def qoA (s k c b:Nat) (m:Ctl) (q:Cache) (S:qaf) (out:List Int) (er:Int) (H:Nat→Prop) (w:World) (e:Ending) (w':World):Prop :=
 ∃ v,e=.returned (.tuple #[v,.int .i64 er])∧(er≠0→v=.slice none 0 0) ∧ ∃ H',Sys (fun _=>False) w' s k c b m q S H'∧Step H H' w w'∧(er=0→w'.ownsRow w.heap.size 3 1 v out.length (intVals out) ∧ ∀ g,v.ownBlock=some g → ¬ H' g)
theorem quu (s k c b cap:Nat) (m:Ctl) (q:Cache) (S:qaf) (H:Nat→Prop) (sec:Int) (a:Option Addr) (reads:List Int) (w:World) (h:Sys (fun _=>False) w s k c b m q S H) (ok:m.Ok) (hi:qak w a reads H) (hcap:reads.length≤cap) (hh:0<m.chip.busy.length→m.chip.home<w.heap.size) (hr:readsOk reads=true) (s0:4≤sec) (s1:sec<8):Calls Tryz.prog 90 #[.pointer (some ⟨k,0,none⟩),.pointer (some ⟨b,0,none⟩),.int .i64 sec,.slice a reads.length cap] w (qoA s k c b (wipeR m (sec * 512) reads).1 (wipeR m (sec * 512) reads).2.1 S (wipeR m (sec * 512) reads).2.2.1 (wipeR m (sec * 512) reads).2.2.2 H w):=by
 refine (qqV k c b cap m q sec a reads H w h.both ok hi hcap hh hr s0 s1).mono ?_
 rintro e w' ⟨v,he,H',hb,st,h1,h2⟩
 exact ⟨v,he,h1,H',h.step hb st (qhX ok _ (by omega) (by omega) reads (fun x hx=>by have:=(qcL hr).2 x hx;omega)).2.2,st,h2⟩
theorem qvO (s k c b cap:Nat) (m:Ctl) (q:Cache) (S:qaf) (H:Nat→Prop) (a:Option Addr) (reads:List Int) (w:World) (h:Sys (fun _=>False) w s k c b m q S H) (ok:m.Ok) (g:q.Good) (hi:qak w a reads H) (hcap:reads.length≤cap) (hh:0<m.chip.busy.length→m.chip.home<w.heap.size) (hr:readsOk reads=true):Calls Tryz.prog 174 #[.pointer (some ⟨b,0,none⟩),.slice a reads.length cap] w (qoA s k c b (restR reads [] m q).1 (restR reads [] m q).2.1 S (restR reads [] m q).2.2.1 (restR reads [] m q).2.2.2 H w):=by
 refine (qlB k c b cap m q a reads H w h.both ok g hi hcap hh (fun x hx=>by have:=(qcL hr).2 x hx;omega) (qcL hr).1).mono ?_
 rintro e w' ⟨v,he,H',hb,st,h1,h2⟩
 exact ⟨v,he,h1,H',h.step hb st (qhR reads [] m q ok g (fun x hx=>((qcL hr).2 x hx).1)).2.2,st,h2⟩
end
end Go.Proofs.YtcfdenckiigdaaaGreat

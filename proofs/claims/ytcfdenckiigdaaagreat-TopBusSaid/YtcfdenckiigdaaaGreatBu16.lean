/- Part 16 of the contracts. -/
import Derived.Test.YtcfdenckiigdaaaGreatBu15
set_option linter.unusedVariables false
set_option maxRecDepth 100000
set_option maxHeartbeats 4000000
namespace Go.Proofs.YtcfdenckiigdaaaGreat
open Tryz Go.RowKit
section
open Go.RowKit
variable {X:Nat→Prop}
theorem j5 {fn:Func} {t u v x:Tmp} (h:fn.results = #[.tmp t,.tmp u,.tmp v,.tmp x]) (tmps:Array Value) (P:Program) (w:World):(results fn tmps).run P w=.ok (.tuple #[tmps.getD t undef,tmps.getD u undef,tmps.getD v undef,tmps.getD x undef]) w:=by
 simp [results,h]
theorem xG (w:World):Calls prog 163 #[.string bh] w fun e w'=>e=.returned (.tuple #[.int .i64 4096,.int .i64 512,.int .i64 32,.int .i64 0])∧Below w.heap.size w w':=by
 have HP:=zH (fun w=>pG w)
 have h1:bh.size=32:=by decide
 have HN1:=zH (fun w=>jX (bh.extract 8 32) w (by decide))
 have HN2:=zH (fun w=>jX ((bh.extract 8 32).extract 4 24) w (by decide))
 have HN3:=zH (fun w=>jX ((bh.extract 8 32).extract 8 24) w (by decide))
 have e1:(bh.extract 8 32).size=24:=by decide
 have n1:iX (bh.extract 8 32)=4096:=by decide
 have n2:iX ((bh.extract 8 32).extract 4 24)=512:=by decide
 have n3:iX ((bh.extract 8 32).extract 8 24)=32:=by decide
 rw [n1] at HN1
 rw [n2] at HN2
 rw [n3] at HN3
 have hq:(bh == bh)=true:=by decide
 clear n1 n2 n3
 generalize hg:bh.extract 8 32=s1 at *
 generalize bh=s0 at *
 go_enter func163,ntmps163
 go_wp2_with fail
 refine wp_region_noPanic ?_
 refine wp_region_held_drew (S:=(fun _=>True)) (by kernel_rfl) (by (try dsimp only);first | done | exact trivial) fun hHeld => ?_
 refine tk 0 ?_
 refine tk 2 ?_
 refine tk 3 ?_
 refine tk 5 ?_
 refine tk 6 ?_
 refine tr 1 fun K hK => ?_
 go_simp
 refine (HN1.out _).mono ?_
 rintro e w1 ⟨rfl,rfl⟩
 go_wp2_with fail
 refine hK.out _ _ (by (try dsimp only);first | done | exact trivial) fun hHeld => ?_
 clear hK K
 try simp only [Act.put,zS,zT,zU]
 refine tr 4 fun K hK => ?_
 go_simp
 refine (HN2.out _).mono ?_
 rintro e w2 ⟨rfl,rfl⟩
 go_wp2_with fail
 refine hK.out _ _ (by (try dsimp only);first | done | exact trivial) fun hHeld => ?_
 clear hK K
 try simp only [Act.put,zS,zT,zU]
 refine tr 7 fun K hK => ?_
 go_simp
 refine (HN3.out _).mono ?_
 rintro e w3 ⟨rfl,rfl⟩
 go_wp2_with fail
 refine hK.out _ _ (by (try dsimp only);first | done | exact trivial) fun hHeld => ?_
 clear hK K
 try simp only [Act.put,zS,zT,zU]
 refine tk 8 ?_
 refine tk 9 ?_
 refine tk 10 ?_
 refine wpAnyH_done (by kernel_rfl) ?_ _
 refine NoPanic.normal ?_
 go_wp2_with fail
 refine (HP.out _).mono ?_
 rintro e w4 ⟨rfl,hb⟩
 have HB:=zH (gtr (aw zR) hb)
 clear hb
 go_wp2
 refine bodyPost_ret (j5 rfl _ _ _) rfl ?_
 exact ⟨rfl,HB.out⟩
theorem Hz (w:World):Calls prog 161 #[] w fun e w'=>e=.returned (.slice (some ⟨w.heap.size,0,none⟩) 3 3)∧w'=w.alloc (.cells #[.int .i64 239,.int .i64 64,.int .i64 12] 3):=by
 go_enter func161,ntmps161
 go_wp2
 go_ret
 exact ⟨rfl,rfl⟩
theorem Ak:gJ 159 0 [] 3:=⟨by decide,by decide,by decide,fun _=>rfl,by decide,by decide,by decide,by decide,by decide⟩
theorem KH:gJ 90 0 [] 32:=⟨by decide,by decide,by decide,fun _=>rfl,by decide,by decide,by decide,by decide,by decide⟩
def aB.dN (m:aB):aB×Int:=if (m.run 159 0 [] 3).2.2=0 then (((m.run 159 0 [] 3).1.run 90 0 [] 32).1,((m.run 159 0 [] 3).1.run 90 0 [] 32).2.2) else ((m.run 159 0 [] 3).1,(m.run 159 0 [] 3).2.2)
theorem yS {m:aB} (ok:m.Ok):m.dN.1.Ok:=by
 unfold aB.dN
 split
 ·
  exact dX (dX ok _ _ _ _ Ak) _ _ _ _ KH
 ·
  exact dX ok _ _ _ _ Ak
structure aB.kh (m:aB):Prop where
 id:(m.run 159 0 [] 3).2.2=0→(m.run 159 0 [] 3).2.1=[239,64,12]
 xF:(m.run 159 0 [] 3).2.2=0→((m.run 159 0 [] 3).1.run 90 0 [] 32).2.2=0→eu ((m.run 159 0 [] 3).1.run 90 0 [] 32).2.1=bh
def EV (X:Nat→Prop) (er:Int) (k c:Nat) (m:aB) (G:Nat→Prop) (w:World) (e:Ending) (w':World):Prop :=
 (∃ a b d,e=.returned (.tuple #[.int .i64 a,.int .i64 b,.int .i64 d,.int .i64 er])) ∧ ∃ G',bN X w' k c m G'∧Step G G' w w'
theorem B7 (k c:Nat) (m:aB) (G:Nat→Prop) (w:World) (h:bN X w k c m G) (ok:m.Ok) (kn:m.kh):Calls prog 123 #[.pointer (some ⟨k,0,none⟩)] w (EV X m.dN.2 k c m.dN.1 G w):=by
 have HI:=zH (fun w=>Hz w)
 have HR:=zH (fun (w1:World) (h1:bN X w1 k c m G)=>eV k c m G 159 0 none [] 0 3 w1 h1 ok Ak (mO w1 G) (fun _=>rfl) (by simp))
 have HE:=zH (lk m 159 0 [] 3)
 have HS:=zH (fun (G1:Nat→Prop) (w1:World) (h1:bN X w1 k c (m.run 159 0 [] 3).1 G1)=>eV k c (m.run 159 0 [] 3).1 G1 90 0 none [] 0 32 w1 h1 (dX ok _ _ _ _ Ak) KH (mO w1 G1) (fun _=>rfl) (by simp))
 have HL:=zH (fun h=>mW (m:=(m.run 159 0 [] 3).1) (b:=90) (at_:=0) (xs:=[]) (read:=32) (by omega) h)
 have HF:=zH (lk (m.run 159 0 [] 3).1 90 0 [] 32)
 have HB:=zH (show m.dN=if (m.run 159 0 [] 3).2.2=0 then (((m.run 159 0 [] 3).1.run 90 0 [] 32).1,((m.run 159 0 [] 3).1.run 90 0 [] 32).2.2) else ((m.run 159 0 [] 3).1,(m.run 159 0 [] 3).2.2) from rfl)
 have HK:=zH kn.id
 have HT:=zH kn.xF
 have HG:=zH (fun w=>xG w)
 have H0:=zH (zA h (ae (Below.refl w.heap.size w) (.cells #[.int .i64 239,.int .i64 64,.int .i64 12] 3)))
 clear h ok kn
 generalize m.dN=br at *
 generalize m.run 159 0 [] 3=r at *
 obtain ⟨m1,xs,er⟩:=r
 simp only at HR HE HS HL HF HB HK HT
 generalize m1.run 90 0 [] 32=r2 at *
 obtain ⟨m2,ys,er2⟩:=r2
 simp only at HS HL HF HB HT
 simp only [List.length_nil] at HR HS
 rcases HE.out with he | ⟨he,hx⟩
 ·
  subst he
  obtain rfl:xs=[239,64,12]:=HK.out (by trivial)
  go_enter func123,ntmps123
  go_wp2_with fail
  refine (HI.out _).mono ?_
  rintro e w1 ⟨rfl,rfl⟩
  go_wp2_with fail
  refine (HR.out _ (H0.out.1.aj H0.out.2)).mono ?_
  rintro e w1 ⟨a,cp,G1,rfl,hc,hs,st⟩
  have H1:=zH (zA hc ((Step.ah H0.out.2).trans st))
  have HIN:=zH hs
  clear hc hs st
  go_wp2_with fail
  refine (HI.out _).mono ?_
  rintro e w2 ⟨rfl,rfl⟩
  obtain ⟨b,o,rfl,hcell⟩:=HIN.out.1.at (by simp)
  have HEQ:=zH (Tryz.slices_Equal_int b o 3 cp w1.heap.size 0 3 3 [239,64,12] [239,64,12] (w1.alloc (.cells #[.int .i64 239,.int .i64 64,.int .i64 12] 3)) (by simp) (by simp) (by decide) (by decide) (fun j hj=>(World.cell?_alloc_lt _ _ _ (zL w1 _ (hcell j hj))).trans (hcell j hj)) (fun j hj=>by
    have hj:j<3:=hj
    match j,hj with
    | 0,_=>exact cell_of (ag w1 _) 0
    | 1,_=>exact cell_of (ag w1 _) 1
    | 2,_=>exact cell_of (ag w1 _) 2))
  have HBA:=zH (ae (Below.refl w1.heap.size w1) (.cells #[.int .i64 239,.int .i64 64,.int .i64 12] 3))
  clear hcell
  go_wp2_with fail
  refine HEQ.out.mono ?_
  rintro e w2 ⟨rfl,q,rfl⟩
  have HB2:=zH (aT HBA.out q)
  generalize (w1.alloc (.cells #[.int .i64 239,.int .i64 64,.int .i64 12] 3)).drewN q=w2 at *
  have H2:=zH (zA (H1.out.1.aj HB2.out) (H1.out.2.trans (Step.ah HB2.out)))
  clear HEQ HBA HB2 H1
  go_wp2_with fail
  refine (HS.out _ _ H2.out.1).mono ?_
  rintro e w3 ⟨a,cp3,G3,rfl,hc,hs,st⟩
  have H3:=zH (zA hc (H2.out.2.trans st))
  have HIN3:=zH hs
  clear hc hs st H2
  rcases HF.out with he | ⟨he,hx⟩
  ·
   subst he
   have hl:ys.length=32:=HL.out (by trivial)
   have HX:=zH (fun w3 h=>D4 a cp3 ys w3 h (by omega))
   rw [show eu ys=bh from HT.out (by trivial) (by trivial)] at HX
   rw [hl] at HX ⊢
   clear hl
   go_wp2_with fail
   refine (HX.out _ HIN3.out.1).mono ?_
   rintro e w4 ⟨rfl,hb4⟩
   have H4:=zH (zA (H3.out.1.aj hb4) (H3.out.2.trans (Step.ah hb4)))
   clear hb4 H3
   go_wp2_with fail
   refine (HG.out _).mono ?_
   rintro e w5 ⟨rfl,hb5⟩
   have H5:=zH (zA (H4.out.1.aj hb5) (H4.out.2.trans (Step.ah hb5)))
   clear hb5 H4
   go_wp2
   refine bodyPost_ret (j5 rfl _ _ _) rfl ?_
   rw [show br=(m2,0) from HB.out]
   exact ⟨⟨_,_,_,rfl⟩,G3,H5.out⟩
  ·
   subst he
   subst hx
   go_wp2
   refine bodyPost_ret (j5 rfl _ _ _) rfl ?_
   rw [show br=(m2,1101) from HB.out]
   exact ⟨⟨_,_,_,rfl⟩,G3,H3.out⟩
 ·
  subst he
  subst hx
  go_enter func123,ntmps123
  go_wp2_with fail
  refine (HI.out _).mono ?_
  rintro e w1 ⟨rfl,rfl⟩
  go_wp2_with fail
  refine (HR.out _ (H0.out.1.aj H0.out.2)).mono ?_
  rintro e w1 ⟨a,cp,G1,rfl,hc,hs,st⟩
  have H1:=zH (zA hc ((Step.ah H0.out.2).trans st))
  clear hc hs st
  go_wp2
  refine bodyPost_ret (j5 rfl _ _ _) rfl ?_
  rw [show br=(m1,1101) from HB.out]
  exact ⟨⟨_,_,_,rfl⟩,G1,H1.out⟩
def CS (X:Nat→Prop) (y:Int) (er:Int) (k c:Nat) (m:aB) (G:Nat→Prop) (w:World) (e:Ending) (w':World):Prop:=e=.returned (.tuple #[.int .i64 y,.int .i64 er]) ∧ ∃ G',bN X w' k c m G'∧Step G G' w w'
theorem Cf:gJ 53 0 [] 1:=⟨by decide,by decide,by decide,fun _=>rfl,by decide,by decide,by decide,by decide,by decide⟩
theorem oD (k c:Nat) (m m':aB) (G:Nat→Prop) (b x:Int) (w:World) (h:bN X w k c m G) (ok:m.Ok) (hb:b=5∨b=53) (hr:m.run b 0 [] 1=(m',[x],0)):Calls prog 111 #[.pointer (some ⟨k,0,none⟩),.int .i64 b] w (CS X x 0 k c m' G w):=by
 have HR:=zH (eV k c m G b 0 none [] 0 1 w h ok (by rcases hb with rfl | rfl;exact xB;exact Cf) (mO w G) (fun _=>rfl) (by simp))
 rw [hr] at HR
 simp only [List.length_nil] at HR
 clear h ok hr hb
 go_enter func111,ntmps111
 go_wp2_with fail
 refine HR.out.mono ?_
 rintro e w1 ⟨a,cp,G1,rfl,hc,hs,st⟩
 obtain ⟨b,o,rfl,hcell⟩:=hs.1 0 (by simp)
 rw [Nat.add_zero] at hcell
 have hcell:w1.cell? ⟨b,o,none⟩=some (.int .i64 x):=hcell
 have H1:=zH (zA hc st)
 have i0:(0:Int)<1:=by decide
 clear hc hs st
 simp only [List.length_singleton]
 go_wp2
 go_ret2
 exact ⟨rfl,G1,H1.out⟩
structure Sets (m m1 m2 m3 m4:aB) (own bit other kept x y:Int):Prop where
 r1:m.run own 0 [] 1=(m1,[x],0)
 b1:bits .and .i64 x bit=0
 r2:m1.run other 0 [] 1=(m2,[y],0)
 r3:m2.run 6 0 [] 0=(m3,[],0)
 r4:m3.run 1 0 (if own=53 then [bits .and .i64 y kept,bit] else [bit,bits .and .i64 y kept]) 0=(m4,[],0)
 k1:isByte (bits .and .i64 y kept)=true
 own:own=5∨own=53
 other:other=5∨other=53
 bit:isByte bit=true
theorem EN (w:World) (x y:Int) (G:Nat→Prop) (hG : ∀ b,G b→b<w.heap.size):aJ (w.alloc (.cells #[.int .i64 x,.int .i64 y] 3)) (some ⟨w.heap.size,0,none⟩) [x,y] G :=
 ⟨aK.of fun i hi=>by
  have hi:i<2:=hi
  match i,hi with
  | 0,_=>exact cell_of (ag w _) 0
  | 1,_=>exact cell_of (ag w _) 1,fun b o e _ hg=>by
  obtain ⟨rfl,rfl⟩:w.heap.size=b∧0=o:=by simpa using e
  exact absurd (hG _ hg) (by omega)⟩
theorem Ki (x y:Int) (hx:isByte x=true) (hy:isByte y=true):gJ 1 0 [x,y] 0 :=
 ⟨by decide,by decide,by decide,fun _=>rfl,by simp,by simp [hx,hy],by decide,by decide,by unfold jR;rfl⟩
theorem wV (k c:Nat) (m m1 m2 m3 m4:aB) (G:Nat→Prop) (own bit other kept x y:Int) (w:World) (h:bN X w k c m G) (ok:m.Ok) (S:Sets m m1 m2 m3 m4 own bit other kept x y):Calls prog 73 #[.pointer (some ⟨k,0,none⟩),.int .i64 own,.int .i64 bit,.int .i64 other,.int .i64 kept] w (mi X 0 k c m4 G w):=by
 have ok1:m1.Ok:=by have:=dX ok own 0 [] 1 (by rcases S.own with e | e <;> rw [e];exact xB;exact Cf);rw [S.r1] at this;exact this
 have ok2:m2.Ok:=by have:=dX ok1 other 0 [] 1 (by rcases S.other with e | e <;> rw [e];exact xB;exact Cf);rw [S.r2] at this;exact this
 have ok3:m3.Ok:=by have:=dX ok2 6 0 [] 0 Al;rw [S.r3] at this;exact this
 have HS1:=zH (oD k c m m1 G own x w h ok S.own S.r1)
 have HS2:=zH (fun G w (h:bN X w k c m1 G)=>oD k c m1 m2 G other y w h ok1 S.other S.r2)
 have HR:=zH (fun G w (h:bN X w k c m2 G)=>eV k c m2 G 6 0 none [] 0 0 w h ok2 Al (mO w G) (fun _=>rfl) (by simp))
 rw [S.r3] at HR
 simp only [List.length_nil] at HR
 have hb1:=S.b1
 have HK:=zH S
 clear h ok ok1 ok2
 go_enter func73,ntmps73
 go_wp2_with fail
 refine HS1.out.mono ?_
 rintro e w1 ⟨rfl,G1,hc,st⟩
 have H1:=zH (zA hc st)
 clear hc st HS1
 go_wp2_with fail
 refine (HS2.out _ _ H1.out.1).mono ?_
 rintro e w2 ⟨rfl,G2,hc,st⟩
 have H2:=zH (zA hc (H1.out.2.trans st))
 clear hc st HS2 H1
 go_wp2_with fail
 refine (HR.out _ _ H2.out.1).mono ?_
 rintro e w3 ⟨a,cp,G3,rfl,hc,hs,st⟩
 have H3:=zH (zA hc (H2.out.2.trans st))
 clear hc hs st HR H2
 have hG3:=zH (H3.out.1.lt)
 by_cases ho:own=53
 ·
  have HW:=zH (fun G w a cap (h:bN X w k c m3 G) hs hn hcap=>eV k c m3 G 1 0 a [bits .and .i64 y kept,bit] cap 0 w h ok3 (Ki _ _ HK.out.k1 HK.out.bit) hs hn hcap)
  have r4:=HK.out.r4
  rw [if_pos ho] at r4
  rw [r4] at HW
  clear r4
  subst ho
  have HB3:=zH (ae (ae (Below.refl w3.heap.size w3) (.cells #[.int .i64 bit,.int .i64 (bits .and .i64 y kept)] 3)) (.cells #[.int .i64 (bits .and .i64 y kept),.int .i64 bit] 3))
  have HT:=zH (EN (w3.alloc (.cells #[.int .i64 bit,.int .i64 (bits .and .i64 y kept)] 3)) (bits .and .i64 y kept) bit G3 (fun b hb=>zV (hG3.out b hb) (by simp)))
  go_wp2_with fail
  refine (HW.out G3 _ _ 2 (H3.out.1.aj HB3.out) (by simpa using HT.out) (fun e=>by cases e) (by simp)).mono ?_
  rintro e w4 ⟨a4,cp4,G4,rfl,hc,hs,st⟩
  have H4:=zH (zA hc (H3.out.2.trans ((Step.ah HB3.out).trans st)))
  clear hc hs st
  go_wp2
  go_ret
  exact ⟨rfl,G4,H4.out⟩
 ·
  have HW:=zH (fun G w a cap (h:bN X w k c m3 G) hs hn hcap=>eV k c m3 G 1 0 a [bit,bits .and .i64 y kept] cap 0 w h ok3 (Ki _ _ HK.out.bit HK.out.k1) hs hn hcap)
  have r4:=HK.out.r4
  rw [if_neg ho] at r4
  rw [r4] at HW
  clear r4
  have HB3:=zH (ae (Below.refl w3.heap.size w3) (.cells #[.int .i64 bit,.int .i64 (bits .and .i64 y kept)] 3))
  have HT:=zH (EN w3 bit (bits .and .i64 y kept) G3 hG3.out)
  go_wp2_with fail
  refine (HW.out G3 _ _ 2 (H3.out.1.aj HB3.out) HT.out (fun e=>by cases e) (by simp)).mono ?_
  rintro e w4 ⟨a4,cp4,G4,rfl,hc,hs,st⟩
  have H4:=zH (zA hc (H3.out.2.trans ((Step.ah HB3.out).trans st)))
  clear hc hs st
  go_wp2
  go_ret
  exact ⟨rfl,G4,H4.out⟩
theorem DS (k c:Nat) (m m1 m2 m3 m4:aB) (G:Nat→Prop) (x y:Int) (w:World) (h:bN X w k c m G) (ok:m.Ok) (S:Sets m m1 m2 m3 m4 53 2 5 4 x y):Calls prog 41 #[.pointer (some ⟨k,0,none⟩)] w (mi X 0 k c m4 G w):=by
 have HS:=zH (wV k c m m1 m2 m3 m4 G 53 2 5 4 x y w h ok S)
 clear h ok S
 go_enter func41,ntmps41
 go_wp2_with fail
 refine HS.out.mono ?_
 rintro e w1 ⟨rfl,H⟩
 have H:=zH H
 go_wp2
 go_ret
 exact ⟨rfl,H.out⟩
theorem xA (k c:Nat) (m m1 m2 m3 m4:aB) (G:Nat→Prop) (x y:Int) (w:World) (h:bN X w k c m G) (ok:m.Ok) (S:Sets m m1 m2 m3 m4 5 4 53 2 x y):Calls prog 42 #[.pointer (some ⟨k,0,none⟩)] w (mi X 0 k c m4 G w):=by
 have HS:=zH (wV k c m m1 m2 m3 m4 G 5 4 53 2 x y w h ok S)
 clear h ok S
 go_enter func42,ntmps42
 go_wp2_with fail
 refine HS.out.mono ?_
 rintro e w1 ⟨rfl,H⟩
 have H:=zH H
 go_wp2
 go_ret
 exact ⟨rfl,H.out⟩
end
section
open Go.RowKit
variable {X:Nat→Prop}
theorem eU.odd {w w':World} {k c b s:Nat} {m:aB} {q:Cache} {H:Nat→Prop} (h:eU X w k c b m q H) (t:Touch (aM s) w w') (hn : ¬ H s) (o:KL w s) (hh:0<m.an.busy.length→m.an.home≠s):eU X w' k c b m q H:=by
 obtain ⟨G,hc,⟨ab,ac,tb,tc,hw⟩,hH,hb⟩:=h.ex
 obtain ⟨p,hp⟩:=o.ptr
 have na : ¬ aM s ab:=fun e=>by
  have e:ab=s:=e
  have:=hw.a0
  rw [e,hp] at this;cases this
 have nt : ¬ aM s tb:=fun e=>by
  have e:tb=s:=e
  have:=hw.t0
  rw [e,hp] at this;cases this
 have nb : ¬ aM s b:=fun e=>hn ((hH s).2 (.inr e.symm))
 have hbl:b<w.heap.size:=(Array.getElem?_eq_some_iff.1 hw.raw).1
 exact ⟨⟨G,hc.fh t (fun x hx hg=>by rw [show x=s from hx] at hg;exact hn ((hH s).2 (.inl hg))) (fun hl hx=>hh hl hx) (fun x hx _=>by rw [show x=s from hx];exact .inl o),⟨ab,ac,tb,tc,(t.block b hbl nb).trans hw.raw,hw.cap,t.cell _ _ hw.a0 na,t.cell _ _ hw.a1 na,t.cell _ _ hw.t0 nt,t.cell _ _ hw.t1 nt,hw.out,hw.na,hw.nt⟩,hH,hb⟩⟩
theorem eU.lt {w:World} {k c b:Nat} {m:aB} {q:Cache} {H:Nat→Prop} (h:eU X w k c b m q H) : ∀ i,H i→i<w.heap.size:=fun i hi=>by
 obtain ⟨G,hc,⟨_,_,_,_,hw⟩,hH,_⟩:=h.ex
 rcases (hH i).1 hi with hg | hg
 ·
  exact hc.lt i hg
 ·
  rw [hg];exact (Array.getElem?_eq_some_iff.1 hw.raw).1
structure au where
 opened : Bool
 aq:Int
 view:bg
def ck:bg:=⟨false,0,[],0⟩
def shut:au:=⟨false,0,ck⟩
def rN (k b:Nat) (S:au) (a:Option Addr) (cp:Nat):Array Value := #[.pointer (some ⟨k,0,none⟩),.pointer (some ⟨b,0,none⟩),.bool S.opened,.int .i64 S.aq,.bool S.view.bX,.int .i64 S.view.ak,.slice a S.view.ay.length cp,.int .i64 S.view.free]
structure dM (w:World) (a:Option Addr) (cp:Nat) (rs:List aS) (F:Nat→Prop):Prop where
 at_:bj w (.slice a rs.length cp) rs.length 4 (bk rs)
 fh : ∀ x o f,a=some ⟨x,o,f⟩→0<rs.length → ¬ F x
theorem dM.lt {w:World} {a:Option Addr} {cp:Nat} {rs:List aS} {F:Nat→Prop} (h:dM w a cp rs F) : ∀ x o f,a=some ⟨x,o,f⟩→0<rs.length→x<w.heap.size:=by
 intro x o f e hl
 rcases h.at_.ex with ⟨_,h0⟩ | ⟨b,o',c,hv,hc,hx⟩
 ·
  omega
 ·
  have hlen:0<(bk rs).length:=by rw [lh];omega
  have:=zL w _ (hx 0 _ (List.getElem?_eq_getElem hlen))
  simp only [Value.slice.injEq] at hv
  rw [hv.1] at e
  obtain ⟨rfl,_⟩:b=x∧_:=by simpa using e
  exact this
theorem dM.step {w w':World} {a:Option Addr} {cp:Nat} {rs:List aS} {F G:Nat→Prop} (h:dM w a cp rs F) (st:Step F G w w'):dM w' a cp rs G:=by
 have hl:=h.lt
 refine ⟨⟨h.at_.len,?_⟩,fun x o f e h0=>st.safe (hl x o f e h0) (h.fh x o f e h0)⟩
 rcases h.at_.ex with h0 | ⟨b,o,c,hv,hc,hx⟩
 ·
  exact .inl h0
 ·
  refine .inr ⟨b,o,c,hv,hc,fun i u hu => ?_⟩
  have hv':a=some ⟨b,o,none⟩:=by simp only [Value.slice.injEq] at hv;exact hv.1
  have h0:0<rs.length:=by
   have:=(List.getElem?_eq_some_iff.1 hu).1
   rw [lh] at this;omega
  exact st.aD.cell _ _ (hx i u hu) (h.fh _ _ _ hv' h0)
theorem dM.nil (w:World) (F:Nat→Prop):dM w none 0 [] F:=⟨bj.nil _ _,fun _ _ _ e=>nomatch e⟩
theorem dM.cX {w:World} {B:Nat} {a:Option Addr} {cp:Nat} {rs:List aS} {F:Nat→Prop} (h:w.ownsRow B 74 4 (.slice a rs.length cp) rs.length (bk rs)) (hF : ∀ i,F i→i<B):dM w a cp rs F :=
 ⟨bj.cX h,fun x o f e _ hf=>by
  have:=cH h x (by rw [e];rfl)
  have:=hF x hf
  omega⟩
def bP (s:Nat) (H:Nat→Prop) (i:Nat):Prop:=H i∨i=s
def xQ (X:Nat→Prop) (s:Nat) (H:Nat→Prop) (i:Nat):Prop:=bP s H i∨X i
structure Sys (X:Nat→Prop) (w:World) (s k c b:Nat) (m:aB) (q:Cache) (S:au) (H:Nat→Prop):Prop where
 both:eU X w k c b m q H
 st : ∃ a cp,w.heap[s]? = some (.cells (rN k b S a cp) 180 (0,0))∧dM w a cp S.view.ay (xQ X s H)
 fh : ¬ H s
 home:0<m.an.busy.length→m.an.home≠s
theorem Sys.lt {w:World} {s k c b:Nat} {m:aB} {q:Cache} {S:au} {H:Nat→Prop} (h:Sys X w s k c b m q S H) : ∀ i,bP s H i→i<w.heap.size:=fun i hi=>by
 obtain ⟨a,cp,h1,_⟩:=h.st
 rcases hi with hi | rfl
 ·
  exact h.both.lt i hi
 ·
  exact aV h1
theorem Step.kC {w w':World} {s:Nat} {H H':Nat→Prop} (st:Step H H' w w'):Step (bP s H) (bP s H') w w' :=
 ⟨st.aD.mono fun i h=>.inl h,fun i h=>h.elim (fun h=>(st.gA i h).imp .inl id) (fun h=>.inl (.inr h))⟩
theorem Step.off {w w':World} {s:Nat} {H H':Nat→Prop} (st:Step H H' w w'):Step (xQ X s H) (xQ X s H') w w':=st.kC.Lh
theorem Sys.step {w w':World} {s k c b:Nat} {m m':aB} {q q':Cache} {S:au} {H H':Nat→Prop} (h:Sys X w s k c b m q S H) (hb:eU X w' k c b m' q' H') (st:Step H H' w w') (hm:bD m m'):Sys X w' s k c b m' q' S H':=by
 obtain ⟨a,cp,h1,h2⟩:=h.st
 exact ⟨hb,⟨a,cp,st.aD.at h1 h.fh,h2.step st.off⟩,st.safe (aV h1) h.fh,fun hl=>by rw [hm.1];exact h.home (zV hl hm.2)⟩
theorem Sys.aj {w w':World} {s k c b:Nat} {m:aB} {q:Cache} {S:au} {H:Nat→Prop} (h:Sys X w s k c b m q S H) (hb:Below w.heap.size w w'):Sys X w' s k c b m q S H :=
 h.step (h.both.aj hb) (Step.ah hb) (bD.refl m)
theorem Gh {w:World} {s k b:Nat} {S:au} {a:Option Addr} {cp:Nat} (h:w.heap[s]? = some (.cells (rN k b S a cp) 180 (0,0))):KL w s:=by
 refine ⟨⟨_,cell_of h 0⟩,fun o hf => ?_⟩
 obtain ⟨x,hx⟩:=hf 0 (by omega)
 obtain ⟨y,hy⟩:=hf 1 (by omega)
 have hx':(rN k b S a cp)[o+0]? = some (.int .i64 x):=by
  unfold World.cell? at hx
  rw [h] at hx
  simpa using hx
 have hlt:=(Array.getElem?_eq_some_iff.1 hx').1
 have hlt:o<8:=hlt
 match o,hlt with
 | 0,_=>rw [cell_of h 0] at hx;cases hx
 | 1,_=>rw [cell_of h 1] at hx;cases hx
 | 2,_=>rw [cell_of h 2] at hx;cases hx
 | 3,_=>rw [cell_of h 4] at hy;cases hy
 | 4,_=>rw [cell_of h 4] at hx;cases hx
 | 5,_=>rw [cell_of h 6] at hy;cases hy
 | 6,_=>rw [cell_of h 6] at hx;cases hx
 | 7,_ =>
  have:w.cell? ⟨s,7+1,none⟩=none:=by
   unfold World.cell?
   rw [h]
   rfl
  rw [this] at hy;cases hy
theorem Sys.put {w w':World} {s k c b:Nat} {m:aB} {q:Cache} {S S':au} {H:Nat→Prop} {a:Option Addr} {cp:Nat} (h:Sys X w s k c b m q S H) (t:Touch (aM s) w w') (h1:w'.heap[s]? = some (.cells (rN k b S' a cp) 180 (0,0))) (h2:dM w a cp S'.view.ay (xQ X s H)):Sys X w' s k c b m q S' H∧Step (bP s H) (bP s H) w w':=by
 obtain ⟨a0,cp0,h0,_⟩:=h.st
 have st:Step (bP s H) (bP s H) w w':=Step.dw (t.mono fun i hi=>.inr hi)
 exact ⟨⟨h.both.odd t h.fh (Gh h0) h.home,⟨a,cp,h1,h2.step (Step.dw (t.mono fun i hi=>.inl (.inr hi)))⟩,h.fh,h.home⟩,st⟩
theorem sL {w:World} {s:Nat} {a b c d e f g h:Value} {t:TypeId} (H:w.heap[s]? = some (.cells #[a,b,c,d,e,f,g,h] t (0,0))):w.cell? ⟨s,0,none⟩=some a∧w.cell? ⟨s,1,none⟩=some b∧w.cell? ⟨s,2,none⟩=some c∧w.cell? ⟨s,3,none⟩=some d∧w.cell? ⟨s,4,none⟩=some e∧w.cell? ⟨s,5,none⟩=some f∧w.cell? ⟨s,6,none⟩=some g∧w.cell? ⟨s,7,none⟩=some h ∧ ∀ i,w.frozen? ⟨s,i,none⟩=false :=
 ⟨cell_of H 0,cell_of H 1,cell_of H 2,cell_of H 3,cell_of H 4,cell_of H 5,cell_of H 6,cell_of H 7,fun i=>aC H i⟩
theorem Sys.grow {Y F:Nat→Prop} {w w':World} {s k c b:Nat} {m:aB} {q:Cache} {S:au} {H:Nat→Prop} (h:Sys X w s k c b m q S H) (t:Touch F w w') (hF : ∀ i,F i→X i) (d : ∀ i,F i → ¬ bP s H i) (hh:0<m.an.busy.length → ¬ F m.an.home) (hY : ∀ i,Y i→X i∨(w.heap.size≤i∧i<w'.heap.size)):Sys Y w' s k c b m q S H:=by
 obtain ⟨a,cp,h1,h2⟩:=h.st
 refine ⟨h.both.grow t hF (fun i hx hH=>d i hx (.inl hH)) hh hY,⟨a,cp,t.at h1 (fun hx=>d s hx (.inr rfl)),?_⟩,h.fh,h.home⟩
 have h3:=h2.step (F:=xQ X s H) (G:=xQ X s H) (Step.dw (t.mono fun i hi=>.inr (hF i hi)))
 exact ⟨h3.at_,fun x o f e h0 hy=>hy.elim (fun hm=>h2.fh x o f e h0 (.inl hm)) (fun hy=>(hY x hy).elim (fun hx=>h2.fh x o f e h0 (.inr hx)) (fun hl=>by have:=h2.lt x o f e h0;omega))⟩
def Kc (w:World) (s:Nat) (c d e f g h:Value):World:=(((((w.setCell ⟨s,2,none⟩ c).setCell ⟨s,3,none⟩ d).setCell ⟨s,4,none⟩ e).setCell ⟨s,5,none⟩ f).setCell ⟨s,6,none⟩ g).setCell ⟨s,7,none⟩ h
theorem DR (w:World) (s:Nat) (c d e f g h:Value):Touch (aM s) w (Kc w s c d e f g h) :=
 ((((((Touch.refl (aM s) w).set s 2 c rfl).set s 3 d rfl).set s 4 e rfl).set s 5 f rfl).set s 6 g rfl).set s 7 h rfl
theorem Kd {w:World} {s:Nat} {a b c0 d0 e0 f0 g0 h0:Value} {t:TypeId} (hh:w.heap[s]? = some (.cells #[a,b,c0,d0,e0,f0,g0,h0] t (0,0))) (c d e f g h:Value):(Kc w s c d e f g h).heap[s]? = some (.cells #[a,b,c,d,e,f,g,h] t (0,0)) :=
 av (i:=7) (v:=h) (av (i:=6) (v:=g) (av (i:=5) (v:=f) (av (i:=4) (v:=e) (av (i:=3) (v:=d) (av (i:=2) (v:=c) hh)))))
theorem Sys.store {w:World} {s k c b:Nat} {m:aB} {q:Cache} {S:au} {H:Nat→Prop} (h:Sys X w s k c b m q S H) (S':au) (a:Option Addr) (cp:Nat) (hr:dM w a cp S'.view.ay (xQ X s H)):Sys X (Kc w s (.bool S'.opened) (.int .i64 S'.aq) (.bool S'.view.bX) (.int .i64 S'.view.ak) (.slice a S'.view.ay.length cp) (.int .i64 S'.view.free)) s k c b m q S' H∧Step (bP s H) (bP s H) w (Kc w s (.bool S'.opened) (.int .i64 S'.aq) (.bool S'.view.bX) (.int .i64 S'.view.ak) (.slice a S'.view.ay.length cp) (.int .i64 S'.view.free)):=by
 obtain ⟨a0,cp0,h1,_⟩:=h.st
 exact h.put (DR _ _ _ _ _ _ _ _) (Kd h1 _ _ _ _ _ _) hr
def zu (X:Nat→Prop) (v:Value) (s k c b:Nat) (m:aB) (q:Cache) (S:au) (H:Nat→Prop) (w:World) (e:Ending) (w':World):Prop:=e=.returned v ∧ ∃ H',Sys X w' s k c b m q S H'∧Step (bP s H) (bP s H') w w'
theorem mE (s k c b:Nat) (m:aB) (q:Cache) (S:au) (H:Nat→Prop) (er:Int) (w:World) (h:Sys X w s k c b m q S H):Calls prog 88 #[.pointer (some ⟨s,0,none⟩),.int .i64 er] w (zu X (.int .i64 er) s k c b m q shut H w):=by
 obtain ⟨a,cp,h1,h2⟩:=h.st
 have H0:=zH (zA h h1)
 obtain ⟨c0,c1,c2,c3,c4,c5,c6,c7,cf⟩:=sL h1
 clear h h1 h2
 go_enter func88,ntmps88
 go_wp2
 go_ret
 obtain ⟨h1,h2⟩:=H0.out.1.store shut none 0 (dM.nil _ _)
 exact ⟨rfl,H,h1,h2⟩
theorem og (s k c b:Nat) (m:aB) (q:Cache) (S:au) (H:Nat→Prop) (sec:Int) (V:bg) (va:Option Addr) (vc:Nat) (w:World) (h:Sys X w s k c b m q S H) (hv:dM w va vc V.ay (xQ X s H)):Calls prog 92 #[.pointer (some ⟨s,0,none⟩),.int .i64 sec,.agg #[.bool V.bX,.int .i64 V.ak,.slice va V.ay.length vc,.int .i64 V.free]] w (zu X (.tuple #[]) s k c b m q ⟨true,sec,V⟩ H w):=by
 obtain ⟨a,cp,h1,h2⟩:=h.st
 have H0:=zH (zA h (zA h1 hv))
 obtain ⟨c0,c1,c2,c3,c4,c5,c6,c7,cf⟩:=sL h1
 have hs:s<w.heap.size:=aV h1
 clear h h1 h2 hv
 go_enter func92,ntmps92
 go_upto_region 1 with fail
 have e0:=ag w (.cells #[.bool V.bX,.int .i64 V.ak,.slice va V.ay.length vc,.int .i64 V.free] 52)
 obtain ⟨b0,b1,b2,b3,bf⟩:=cw e0
 have HN:=zH (ae (Below.refl w.heap.size w) (.cells #[.bool V.bX,.int .i64 V.ak,.slice va V.ay.length vc,.int .i64 V.free] 52))
 have d2:=(HN.out.cell (p:=⟨s,2,none⟩) hs).trans c2
 have d3:=(HN.out.cell (p:=⟨s,3,none⟩) hs).trans c3
 have d4:=(HN.out.cell (p:=⟨s,4,none⟩) hs).trans c4
 have d5:=(HN.out.cell (p:=⟨s,5,none⟩) hs).trans c5
 have d6:=(HN.out.cell (p:=⟨s,6,none⟩) hs).trans c6
 have d7:=(HN.out.cell (p:=⟨s,7,none⟩) hs).trans c7
 have df:=fun i=>aC (aa HN.out H0.out.2.1) i
 have hgs:w.heap.size≠s:=by omega
 have hsg:s≠w.heap.size:=by omega
 clear c0 c1 c2 c3 c4 c5 c6 c7 cf e0 hs
 have H1:=zH (zA (H0.out.1.aj HN.out) (zA (H0.out.2.2.step (F:=xQ X s H) (G:=xQ X s H) (Step.ah HN.out)) (show Step (bP s H) (bP s H) w _ from Step.ah HN.out)))
 clear H0 HN
 generalize w.heap.size=g at *
 generalize w.alloc (.cells #[.bool V.bX,.int .i64 V.ak,.slice va V.ay.length vc,.int .i64 V.free] 52)=w2 at *
 go_region_held3 (fun w'=>w'.cell? ⟨g,0,none⟩=some (.bool V.bX)∧w'.cell? ⟨g,1,none⟩=some (.int .i64 V.ak)∧w'.cell? ⟨g,2,none⟩=some (.slice va V.ay.length vc)∧w'.cell? ⟨g,3,none⟩=some (.int .i64 V.free)) (go_keep) (fail)
 go_end0
 obtain ⟨h1,h2⟩:=H1.out.1.store ⟨true,sec,V⟩ va vc H1.out.2.1
 exact ⟨rfl,H,h1.aj (aw zR),H1.out.2.2.trans (h2.trans (Step.ah (aw zR)))⟩
theorem xb (k c b:Nat) (m:aB) (q:Cache) (H:Nat→Prop) (w:World) (h:eU X w k c b m q H) (hh:0<m.an.busy.length→m.an.home<w.heap.size):Calls prog 69 #[.pointer (some ⟨k,0,none⟩),.pointer (some ⟨b,0,none⟩)] w fun e w' => ∃ s,e=.returned (.tuple #[.pointer (some ⟨s,0,none⟩),.int .i64 0])∧Sys X w' s k c b m q shut H∧Below w.heap.size w w'∧w.heap.size≤s:=by
 have H0:=zH (zA h hh)
 clear h hh
 go_enter func69,ntmps69
 go_wp2
 go_ret2
 exact ⟨w.heap.size,rfl,⟨H0.out.1.aj (ae zR _),⟨none,0,ag _ _,dM.nil _ _⟩,fun hH=>by have:=H0.out.1.lt _ hH;omega,fun hl=>by have:=H0.out.2 hl;omega⟩,ae zR _,Nat.le_refl _⟩
def cJ (S:au) (key:ByteArray):Int:=if S.opened=false then 2302 else if 1≤key.size∧key.size≤6 then 0 else 2300
theorem nA (s k c b:Nat) (m:aB) (q:Cache) (S:au) (H:Nat→Prop) (key:ByteArray) (w:World) (h:Sys X w s k c b m q S H):Calls prog 93 #[.pointer (some ⟨s,0,none⟩),.string key] w fun e w'=>e=.returned (.int .i64 (cJ S key))∧w=w':=by
 obtain ⟨a,cp,h1,h2⟩:=h.st
 obtain ⟨c0,c1,c2,c3,c4,c5,c6,c7,cf⟩:=sL h1
 have HK:=zH (fun w=>rj key w)
 clear h h1 h2 c0 c1 c3 c4 c5 c6 c7 cf
 unfold cJ
 cases ho:S.opened with
 | false =>
  rw [ho] at c2
  rw [if_pos rfl]
  go_enter func93,ntmps93
  go_wp2
  go_ret
  exact ⟨rfl,rfl⟩
 | true =>
  rw [ho] at c2
  rw [if_neg (by decide)]
  by_cases hk:1≤key.size∧key.size≤6
  ·
   rw [if_pos hk]
   rw [show (decide (1≤key.size)&&decide (key.size≤6))=true by simp [hk.1,hk.2]] at HK
   clear hk
   go_enter func93,ntmps93
   go_wp2_with fail
   refine (HK.out _).mono ?_
   rintro e w1 ⟨rfl,rfl⟩
   go_wp2
   go_ret
   exact ⟨rfl,rfl⟩
  ·
   rw [if_neg hk]
   rw [show (decide (1≤key.size)&&decide (key.size≤6))=false by rw [Bool.and_eq_false_iff];simp only [decide_eq_false_iff_not];omega] at HK
   clear hk
   go_enter func93,ntmps93
   go_wp2_with fail
   refine (HK.out _).mono ?_
   rintro e w1 ⟨rfl,rfl⟩
   go_wp2
   go_ret
   exact ⟨rfl,rfl⟩
end
section
open Go.RowKit
variable {X:Nat→Prop}
theorem ot (m:aB):bD m m.dN.1:=by
 unfold aB.dN
 split
 ·
  exact (cI _ _ _ _ _).trans (cI _ _ _ _ _)
 ·
  exact cI _ _ _ _ _
theorem nP (m:aB) (p n:Int):bD m (m.cK p n).1:=by
 unfold aB.cK
 split <;> exact cI _ _ _ _ _
theorem xl : ∀ (k:Nat) (n:Int) (m:aB),bD m (aB.gC k n m).1
 | 0,n,m=>bD.refl m
 | k+1,n,m=>by
  unfold aB.gC
  split
  ·
   exact kp m
  ·
   split
   ·
    exact kp m
   ·
    exact (kp m).trans (xl k _ _)
theorem p7 (m:aB) (p:Int) (s:ByteArray):bD m (m.gM p s).1:=by
 unfold aB.gM
 split
 ·
  exact cI _ _ _ _ _
 ·
  split
  ·
   exact (cI _ _ _ _ _).trans (cI _ _ _ _ _)
  ·
   exact ((cI _ _ _ _ _).trans (cI _ _ _ _ _)).trans (xl _ _ _)
theorem mA (m:aB) (p:Int) (s:ByteArray):bD m (m.dR p s).1:=by
 unfold aB.dR
 split
 ·
  exact p7 _ _ _
 ·
  exact (p7 _ _ _).trans (p7 _ _ _)
theorem Dh (m:aB) (p:Int) (n:Nat) (h:(m.cK p n).2.2=0):(m.cK p n).2.1.size=n:=by
 unfold aB.cK at h ⊢
 split at h
 ·
  rename_i he
  rw [if_pos he,eS,mW (by omega) he];omega
 ·
  rename_i he
  exact absurd h he
theorem Sys.vz {w:World} {s k c b:Nat} {m:aB} {q:Cache} {S:au} {H:Nat→Prop} (h:Sys X w s k c b m q S H) : ∃ G,bN X w k c m G ∧ ∀ w' m' G',bN X w' k c m' G'→Step G G' w w'→bD m m' → ∃ H',Sys X w' s k c b m' q S H'∧Step H H' w w':=by
 obtain ⟨G,hc,hw,hH,hh⟩:=h.both.ex
 refine ⟨G,hc,fun w' m' G' hc' st hm => ?_⟩
 have stH:=Step.both st hH (fun i=>Iff.rfl)
 exact ⟨_,h.step (eU.vz hw hh hm hc' st) stH hm,stH⟩
def qw (X:Nat→Prop) (s k c b:Nat) (m:aB) (q:Cache) (S:au) (H:Nat→Prop) (w w':World):Prop := ∃ H',Sys X w' s k c b m q S H'∧Step H H' w w'
theorem Gq (s k c b:Nat) (m:aB) (q:Cache) (S:au) (H:Nat→Prop) (w:World) (h:Sys X w s k c b m q S H) (ok:m.Ok) (kn:m.kh):Calls prog 123 #[.pointer (some ⟨k,0,none⟩)] w fun e w'=>(∃ x y z,e=.returned (.tuple #[.int .i64 x,.int .i64 y,.int .i64 z,.int .i64 m.dN.2]))∧qw X s k c b m.dN.1 q S H w w':=by
 obtain ⟨G,hc,hk⟩:=h.vz
 refine (B7 k c m G w hc ok kn).mono ?_
 rintro e w' ⟨he,G',hc',st⟩
 exact ⟨he,hk _ _ _ hc' st (ot m)⟩
theorem Gp (s k c b:Nat) (m:aB) (q:Cache) (S:au) (H:Nat→Prop) (p:Int) (n:Nat) (w:World) (h:Sys X w s k c b m q S H) (ok:m.Ok) (h0:1≤n) (h1:n≤512) (h2:0≤p) (h3:p≤4096 - n):Calls prog 124 #[.pointer (some ⟨k,0,none⟩),.int .i64 p,.int .i64 n] w fun e w'=>e=.returned (.tuple #[.string (m.cK p n).2.1,.int .i64 (m.cK p n).2.2])∧qw X s k c b (m.cK p n).1 q S H w w':=by
 obtain ⟨G,hc,hk⟩:=h.vz
 refine (Bi k c m G p n w hc ok h0 h1 h2 h3).mono ?_
 rintro e w' ⟨he,G',hc',st⟩
 exact ⟨he,hk _ _ _ hc' st (nP m p n)⟩
theorem IV (s k c b:Nat) (m:aB) (q:Cache) (S:au) (H:Nat→Prop) (p:Int) (t:ByteArray) (w:World) (h:Sys X w s k c b m q S H) (ok:m.Ok) (h0:2048≤p) (h1:p≤4032) (hp:p % 32=0) (hs:t.size=64):Calls prog 132 #[.pointer (some ⟨k,0,none⟩),.int .i64 p,.string t] w fun e w'=>e=.returned (.int .i64 (m.dR p t).2)∧qw X s k c b (m.dR p t).1 q S H w w':=by
 obtain ⟨G,hc,hk⟩:=h.vz
 refine (C0 k c m G p t w hc ok h0 h1 hp hs).mono ?_
 rintro e w' ⟨he,G',hc',st⟩
 exact ⟨he,hk _ _ _ hc' st (mA m p t)⟩
def zt (X:Nat→Prop) (s k c b:Nat) (m:aB) (q:Cache) (S:au) (out:List Int) (er:Int) (H:Nat→Prop) (w:World) (e:Ending) (w':World):Prop :=
 ∃ v,e=.returned (.tuple #[v,.int .i64 er])∧(er≠0→v=.slice none 0 0) ∧ ∃ H',Sys X w' s k c b m q S H'∧Step H H' w w'∧(er=0→w'.ownsRow w.heap.size 3 1 v out.length (az out) ∧ ∀ g,v.ownBlock=some g → ¬ H' g)
theorem I0 (s k c b cap:Nat) (m:aB) (q:Cache) (S:au) (H:Nat→Prop) (sec:Int) (a:Option Addr) (reads:List Int) (w:World) (h:Sys X w s k c b m q S H) (ok:m.Ok) (hi:aJ w a reads H) (hcap:reads.length≤cap) (hh:0<m.an.busy.length→m.an.home<w.heap.size) (hr:cP reads=true) (s0:4≤sec) (s1:sec<8):Calls prog 90 #[.pointer (some ⟨k,0,none⟩),.pointer (some ⟨b,0,none⟩),.int .i64 sec,.slice a reads.length cap] w (zt X s k c b (gD m (sec * 512) reads).1 (gD m (sec * 512) reads).2.1 S (gD m (sec * 512) reads).2.2.1 (gD m (sec * 512) reads).2.2.2 H w):=by
 refine (Ea k c b cap m q sec a reads H w h.both ok hi hcap hh hr s0 s1).mono ?_
 rintro e w' ⟨v,he,H',hb,st,h1,h2⟩
 exact ⟨v,he,h1,H',h.step hb st (rT ok _ (by omega) (by omega) reads (fun x hx=>by have:=(iM hr).2 x hx;omega)).2.2,st,h2⟩
theorem Ko (s k c b cap:Nat) (m:aB) (q:Cache) (S:au) (H:Nat→Prop) (a:Option Addr) (reads:List Int) (w:World) (h:Sys X w s k c b m q S H) (ok:m.Ok) (g:q.Good) (hi:aJ w a reads H) (hcap:reads.length≤cap) (hh:0<m.an.busy.length→m.an.home<w.heap.size) (hr:cP reads=true):Calls prog 174 #[.pointer (some ⟨b,0,none⟩),.slice a reads.length cap] w (zt X s k c b (dx reads [] m q).1 (dx reads [] m q).2.1 S (dx reads [] m q).2.2.1 (dx reads [] m q).2.2.2 H w):=by
 refine (xL k c b cap m q a reads H w h.both ok g hi hcap hh (fun x hx=>by have:=(iM hr).2 x hx;omega) (iM hr).1).mono ?_
 rintro e w' ⟨v,he,H',hb,st,h1,h2⟩
 exact ⟨v,he,h1,H',h.step hb st (rn reads [] m q ok g (fun x hx=>((iM hr).2 x hx).1)).2.2,st,h2⟩
end
section
open Go.RowKit
variable {X:Nat→Prop}
def bU (sec slot:Int):Int:=sec * 512+slot * 64
theorem sZ (s k c b:Nat) (m:aB) (q:Cache) (S:au) (H:Nat→Prop) (sec slot:Int) (r:aS) (w:World) (h:Sys X w s k c b m q S H) (ok:m.Ok) (s0:4≤sec) (s1:sec<8) (l0:0≤slot) (l1:slot<8) (hr:bz r=true):Calls prog 91 #[.pointer (some ⟨s,0,none⟩),.int .i64 sec,.int .i64 slot,.agg r.cells] w fun e w'=>e=.returned (.int .i64 (m.dR (bU sec slot) (aG r)).2)∧qw X s k c b (m.dR (bU sec slot) (aG r)).1 q S H w w':=by
 have HP:=zH (fun w=>rm r w)
 rw [show ic r=some (aG r) from if_pos hr] at HP
 have hsz:(aG r).size=64:=by
  unfold aG
  rw [eQ,cY _ _ (fU hr)]
 have HB:=zH (fun w (h:Sys X w s k c b m q S H)=>IV s k c b m q S H (bU sec slot) (aG r) w h ok (by unfold bU;omega) (by unfold bU;omega) (by unfold bU;omega) hsz)
 have e1:wrap64 (sec * 512)=sec * 512:=by unfold wrap64;omega
 have e2:wrap64 (slot * 64)=slot * 64:=by unfold wrap64;omega
 have e3:wrap64 (sec * 512+slot * 64)=sec * 512+slot * 64:=by unfold wrap64;omega
 have H0:=zH h
 generalize hX:m.dR (bU sec slot) (aG r)=br at *
 generalize hT:aG r=t at *
 unfold bU at HB
 rw [show oT (some t) 1900=.tuple #[.string t,.int .i64 0] from rfl] at HP
 clear h hr hX hT ok
 unfold aS.cells at HP ⊢
 go_enter func91,ntmps91
 go_wp2_with fail
 refine (HP.out _).mono ?_
 rintro e w1 ⟨rfl,hb⟩
 have H1:=zH (gtr (ae (Below.refl _ w) (.cells #[.int .i64 r.kind,.int .i64 r.ak,.string r.key,.string r.value] 74)) hb)
 have H2:=zH (H0.out.aj H1.out)
 obtain ⟨a,cp,h1,h2⟩:=H2.out.st
 obtain ⟨c0,c1,c2,c3,c4,c5,c6,c7,cf⟩:=sL h1
 clear h1 h2 hb c1 c2 c3 c4 c5 c6 c7
 go_wp2_with fail
 refine (HB.out _ H2.out).mono ?_
 rintro e w2 ⟨rfl,H',hs,st⟩
 have H3:=zH (zA hs ((Step.ah H1.out).trans st))
 clear hs st
 go_wp2
 go_ret
 exact ⟨rfl,H',H3.out⟩
end
section
open Go.RowKit
variable {X:Nat→Prop}
def iI (vs:List bg):Nat→Option Nat
 | 0=>none
 | j+1=>match vs[j]? with
  | none=>iI vs j
  | some p=>if p.bX=false then iI vs j else
   match iI vs j with
   | none=>some j
   | some k=>match vs[k]? with
    | none=>iI vs j
    | some q=>if q.ak<p.ak then some j else some k
theorem A1 (vs:List (bg×(Option Addr×Nat))) : ∀ j,iH vs j=iI (vs.map Prod.fst) j
 | 0=>rfl
 | j+1=>by
  have ih:=A1 vs j
  rw [iH,iI,ih,List.getElem?_map]
  cases vs[j]? with
  | none=>rfl
  | some p =>
   simp only [Option.map_some]
   split
   ·
    rfl
   ·
    cases iI (vs.map Prod.fst) j with
    | none=>rfl
    | some k =>
     simp only [List.getElem?_map]
     cases vs[k]? <;> rfl
theorem Fz:(prog.info? 52).map (fun i=>(i.zero,i.size,i.bytes))=some (some (.agg #[.bool false,.int .i64 0,.slice none 0 0,.int .i64 0]),4,48):=by kernel_rfl
theorem xK (vs:List (bg×(Option Addr×Nat))) (p:bg×(Option Addr×Nat)):dV (vs++[p])=dV vs++[.bool p.1.bX,.int .i64 p.1.ak,.slice p.2.1 p.1.ay.length p.2.2,.int .i64 p.1.free]:=by simp [dV,bg.row]
def gB:Nat→Int→aB→List bg→aB×List bg×Int
 | 0,j,m,vs=>(m,vs,0)
 | n+1,j,m,vs=>if (m.cK (j * 512) 512).2.2≠0 then ((m.cK (j * 512) 512).1,vs,(m.cK (j * 512) 512).2.2) else gB n (j+1) (m.cK (j * 512) 512).1 (vs++[iw (m.cK (j * 512) 512).2.1])
def tJ (r:aB×List bg×Int):aB×Option (Int×bg)×Int:=if r.2.2≠0 then (r.1,none,r.2.2) else (r.1,(iI r.2.1 r.2.1.length).map (fun (k:Nat)=>(4+(k:Int),r.2.1.getD k ck)),0)
def fj (m:aB):aB×Option (Int×bg)×Int:=if m.dN.2≠0 then (m.dN.1,none,m.dN.2) else tJ (gB 4 4 m.dN.1 [])
def AM (X:Nat→Prop) (s k c b:Nat) (m:aB) (q:Cache) (S:au) (o:Option (Int×bg)) (er:Int) (H:Nat→Prop) (w:World) (e:Ending) (w':World):Prop :=
 ∃ va vc,e=.returned (.tuple #[.int .i64 (o.getD (0,ck)).1,.agg #[.bool (o.getD (0,ck)).2.bX,.int .i64 (o.getD (0,ck)).2.ak,.slice va (o.getD (0,ck)).2.ay.length vc,.int .i64 (o.getD (0,ck)).2.free],.bool o.isSome,.int .i64 er]) ∧ ∃ H',Sys X w' s k c b m q S H'∧Step H H' w w'∧dM w' va vc (o.getD (0,ck)).2.ay (xQ X s H')
def vT (r:Nat) (v:Value) (i:Nat):Prop:=i=r∨v.ownBlock=some i
theorem eU.Ja {w:World} {k c b:Nat} {m:aB} {q:Cache} {H:Nat→Prop} (h:eU X w k c b m q H) : ∀ i,X i→i<w.heap.size:=by
 obtain ⟨G,hc,_⟩:=h.ex
 exact hc.Ja
def tL (X:Nat→Prop) (r:Nat) (v:Value) (i:Nat):Prop:=X i∨vT r v i
structure ig (X:Nat→Prop) (W wr:World) (r s k c b:Nat) (m:aB) (q:Cache) (S:au) (H H':Nat→Prop) (v:Value) (vs:List (bg×(Option Addr×Nat))):Prop where
 sys:Sys (tL X r v) wr s k c b m q S H'
 step:Step H H' W wr
 own:wr.ownsRow W.heap.size 52 4 v vs.length (dV vs)
 fh : ∀ g,v.ownBlock=some g → ¬ bP s H' g
 Kg : ¬ bP s H' r
 rat:wr.heap[r]? = some (.cells #[.bool false,.int .i64 0,.slice none 0 0,.int .i64 0] 52 (0,0))
 ay : ∀ p ∈ vs,dM wr p.2.1 p.2.2 p.1.ay (xQ (tL X r v) s H')
 LX:r<W.heap.size
 home:0<m.an.busy.length→m.an.home<r
 ok:m.Ok
theorem cT {B n sz:Nat} {t:TypeId} {F:Nat→Prop} {w w':World} {v:Value} {xs:List Value} (h:w.ownsRow B t sz v n xs) (st:Touch F w w') (hn : ∀ g,v.ownBlock=some g → ¬ F g):w'.ownsRow B t sz v n xs:=by
 refine ⟨h.1,?_⟩
 rcases h.2 with h2 | ⟨g,cap,cur,hv,hb,hg,r⟩
 ·
  exact .inl h2
 ·
  exact .inr ⟨g,cap,cur,hv,hb,st.at hg (hn g (by rw [hv];rfl)),r⟩
theorem kF {B n sz:Nat} {t:TypeId} {w:World} {v:Value} {xs:List Value} (h:w.ownsRow B t sz v n xs) : ∀ g,v.ownBlock=some g→g<w.heap.size:=by
 intro g hg
 rcases h.2 with ⟨rfl,_⟩ | ⟨g',cap,cur,rfl,hb,hh,r⟩
 ·
  simp [Value.ownBlock] at hg
 ·
  obtain rfl:g'=g:=by simpa [Value.ownBlock] using hg
  exact aV hh
theorem ig.act {W wr w':World} {r s k c b:Nat} {m m':aB} {q:Cache} {S:au} {H H1 H2:Nat→Prop} {v:Value} {vs:List (bg×(Option Addr×Nat))} (L:ig X W wr r s k c b m q S H H1 v vs) (hs:Sys (tL X r v) w' s k c b m' q S H2) (st:Step H1 H2 wr w') (hm:bD m m') (ok:m'.Ok):ig X W w' r s k c b m' q S H H2 v vs :=
 ⟨hs,L.step.trans st,cT L.own st.aD (fun g hg hH=>L.fh g hg (.inl hH)),fun g hg=>st.kC.safe (kF L.own g hg) (L.fh g hg),st.kC.safe (aV L.rat) L.Kg,st.aD.at L.rat (fun hH=>L.Kg (.inl hH)),fun p hp=>(L.ay p hp).step st.off,L.LX,fun hl=>by rw [hm.1];exact L.home (zV hl hm.2),ok⟩
theorem ig.aj {W wr w':World} {r s k c b:Nat} {m:aB} {q:Cache} {S:au} {H H1:Nat→Prop} {v:Value} {vs:List (bg×(Option Addr×Nat))} (L:ig X W wr r s k c b m q S H H1 v vs) (hb:Below wr.heap.size wr w'):ig X W w' r s k c b m q S H H1 v vs :=
 L.act (L.sys.aj hb) (Step.ah hb) (bD.refl m) L.ok
theorem ig.apart {W wr:World} {r s k c b:Nat} {m:aB} {q:Cache} {S:au} {H H1:Nat→Prop} {v:Value} {vs:List (bg×(Option Addr×Nat))} (L:ig X W wr r s k c b m q S H H1 v vs):(∀ i,vT r v i → ¬ bP s H1 i)∧(0<m.an.busy.length → ¬ vT r v m.an.home) :=
 ⟨fun i hi=>hi.elim (fun e=>by rw [e];exact L.Kg) (fun e=>L.fh i e),fun hl hx=>by
  have h1:=L.home hl
  have h2:=L.LX
  rcases hx with hx | hx
  ·
   omega
  ·
   have:=cH L.own _ hx;omega⟩
theorem ig.more {W wr wa w2:World} {r s k c b g cap:Nat} {m:aB} {q:Cache} {S:au} {H H1:Nat→Prop} {v:Value} {vs:List (bg×(Option Addr×Nat))} {p:bg×(Option Addr×Nat)} (L:ig X W wr r s k c b m q S H H1 v vs) (hb:Below wr.heap.size wr wa) (hr:wa.ownsRow wr.heap.size 74 4 (.slice p.2.1 p.1.ay.length p.2.2) p.1.ay.length (bk p.1.ay)) (ho:w2.ownsRow W.heap.size 52 4 (.slice (some ⟨g,0,none⟩) (vs.length+1) cap) (vs.length+1) (dV (vs++[p]))) (hg:wa.grownBy w2 v.ownBlock) (hor:v.ownBlock=some g∨g=wa.heap.size) (hl:g<w2.heap.size):ig X W w2 r s k c b m q S H H1 (.slice (some ⟨g,0,none⟩) (vs.length+1) cap) (vs++[p]):=by
 have LA:=L.aj hb
 have t0:Touch (fun i=>v.ownBlock=some i) wa w2:=ue hg
 have t:Touch (vT r v) wa w2:=t0.mono fun i hi=>.inr hi
 have hx : ∀ i,vT r (.slice (some ⟨g,0,none⟩) (vs.length+1) cap) i→vT r v i∨(i=g∧g=wa.heap.size):=fun i hi=>by
  rcases hi with hi | hi
  ·
   exact .inl (.inl hi)
  ·
   obtain rfl:g=i:=by simpa [Value.ownBlock] using hi
   exact hor.imp .inr (fun e=>⟨rfl,e⟩)
 have hnew : ∀ i,bP s H1 i→i≠wa.heap.size:=fun i hi e=>by have:=LA.sys.lt i hi;omega
 have hrr:r≠wa.heap.size:=fun e=>by have:=aV LA.rat;omega
 have ap:=LA.apart
 refine ⟨LA.sys.grow t (fun i hi=>.inr hi) ap.1 ap.2 (fun i hi=>hi.elim (fun h=>.inl (.inl h)) fun hi=>(hx i hi).imp .inr (fun e=>by rw [e.1];exact ⟨Nat.le_of_eq e.2.symm,hl⟩)),⟨LA.step.aD.then t0 (fun i hi=>.inr (cH L.own i hi)),LA.step.gA⟩,?_,?_,L.Kg,t0.at LA.rat (fun hi => ?_),?_,L.LX,L.home,L.ok⟩
 ·
  rw [List.length_append];exact ho
 ·
  intro i hi
  obtain rfl:g=i:=by simpa [Value.ownBlock] using hi
  rcases hor with ho' | ho'
  ·
   exact L.fh g ho'
  ·
   exact fun hm=>hnew g hm ho'
 ·
  have h1:=cH L.own r hi
  have h2:=L.LX
  omega
 ·
  intro p' hp'
  rcases List.mem_append.1 hp' with hp' | hp'
  ·
   have h1:=(LA.ay p' hp')
   have h2:=h1.step (F:=xQ (tL X r v) s H1) (G:=xQ (tL X r v) s H1) (Step.dw (t.mono fun i hi=>.inr (.inr hi)))
   exact ⟨h2.at_,fun x o f e h0 hy=>hy.elim (fun hm=>h1.fh x o f e h0 (.inl hm)) (fun hy=>hy.elim (fun hx=>h1.fh x o f e h0 (.inr (.inl hx))) fun hy=>(hx x hy).elim (fun hx=>h1.fh x o f e h0 (.inr (.inr hx))) (fun e'=>by have:=h1.lt x o f e h0;have:=e'.1;have:=e'.2;omega))⟩
  ·
   obtain rfl:p'=p:=by simpa using hp'
   have hlr:=kF hr
   have hbr:=cH hr
   have h3:=cT hr t0 (fun y hy hv=>by have:=hbr y hy;have:=kF L.own y hv;omega)
   refine ⟨bj.cX h3,fun x o f e h0 hy => ?_⟩
   have h1:=hlr x (by rw [e];rfl)
   have h2:=hbr x (by rw [e];rfl)
   rcases hy with hm | hy
   ·
    have:=L.sys.lt x hm;omega
   rcases hy with hy | hy
   ·
    have:=L.sys.both.Ja x (.inl hy);omega
   ·
    rcases hx x hy with hx | hx
    ·
     rcases hx with hx | hx
     ·
      have:=aV L.rat;omega
     ·
      have:=kF L.own x hx;omega
    ·
     have:=hx.1;have:=hx.2;omega
theorem ig.done {w W wr w2:World} {s k c b:Nat} {m:aB} {q:Cache} {S:au} {H H1:Nat→Prop} {v:Value} {vs:List (bg×(Option Addr×Nat))} (L:ig X W wr w.heap.size s k c b m q S H H1 v vs) (hw:Below w.heap.size w W) (t:Touch (aM w.heap.size) wr w2):Sys X w2 s k c b m q S H1∧Step H H1 w w2 ∧ ∀ p ∈ vs,dM w2 p.2.1 p.2.2 p.1.ay (xQ X s H1):=by
 have t':Touch (vT w.heap.size v) wr w2:=t.mono fun i hi=>.inl (show i=w.heap.size from hi)
 refine ⟨L.sys.grow t' (fun i hi=>.inr hi) L.apart.1 L.apart.2 (fun i hi=>.inl (.inl hi)),?_,fun p hp => ?_⟩
 ·
  have h1:=(Step.ah (F:=H) hw).trans L.step
  exact ⟨h1.aD.then t (fun i hi=>.inr (Nat.le_of_eq (show i=w.heap.size from hi).symm)),h1.gA⟩
 ·
  have h1:=L.ay p hp
  have h2:=h1.step (F:=xQ (tL X w.heap.size v) s H1) (G:=xQ (tL X w.heap.size v) s H1) (Step.dw (t'.mono fun i hi=>.inr (.inr hi)))
  exact ⟨h2.at_,fun x o f e h0 hy=>h2.fh x o f e h0 (hy.imp id .inl)⟩
def lL (w:World) (g:Nat) (a b c d:Value):World:=(((w.setCell ⟨g,0,none⟩ a).setCell ⟨g,1,none⟩ b).setCell ⟨g,2,none⟩ c).setCell ⟨g,3,none⟩ d
theorem cN (w:World) (g:Nat) (a b c d:Value):Touch (aM g) w (lL w g a b c d):=((((Touch.refl (aM g) w).set g 0 a rfl).set g 1 b rfl).set g 2 c rfl).set g 3 d rfl
theorem eO {w:World} {g:Nat} {a0 b0 c0 d0:Value} {t:TypeId} (h:w.heap[g]? = some (.cells #[a0,b0,c0,d0] t (0,0))) (a b c d:Value):(lL w g a b c d).heap[g]? = some (.cells #[a,b,c,d] t (0,0)) :=
 av (i:=3) (v:=d) (av (i:=2) (v:=c) (av (i:=1) (v:=b) (av (i:=0) (v:=a) h)))
theorem qO {w W wr w2:World} {s k c b:Nat} {m:aB} {q:Cache} {S:au} {H H1:Nat→Prop} {v:Value} {vs:List (bg×(Option Addr×Nat))} (L:ig X W wr w.heap.size s k c b m q S H H1 v vs) (hw:Below w.heap.size w W) (t:Touch (aM w.heap.size) wr w2) (o:Option (Int×bg)) (er:Int) (va:Option Addr) (vc:Nat) (ho:(o=none∧va=none∧vc=0) ∨ ∃ sec p,p ∈ vs∧o=some (sec,p.1)∧va=p.2.1∧vc=p.2.2):AM X s k c b m q S o er H w (.returned (.tuple #[.int .i64 (o.getD (0,ck)).1,.agg #[.bool (o.getD (0,ck)).2.bX,.int .i64 (o.getD (0,ck)).2.ak,.slice va (o.getD (0,ck)).2.ay.length vc,.int .i64 (o.getD (0,ck)).2.free],.bool o.isSome,.int .i64 er])) w2:=by
 obtain ⟨h1,h2,h3⟩:=L.done hw t
 refine ⟨va,vc,rfl,H1,h1,h2,?_⟩
 rcases ho with ⟨rfl,rfl,rfl⟩ | ⟨sec,p,hp,rfl,rfl,rfl⟩
 ·
  exact dM.nil _ _
 ·
  exact h3 p hp
theorem vU (s k c b:Nat) (m:aB) (q:Cache) (S:au) (H:Nat→Prop) (w:World) (h:Sys X w s k c b m q S H) (ok:m.Ok) (kn:m.kh) (hh:0<m.an.busy.length→m.an.home<w.heap.size):Calls prog 87 #[.pointer (some ⟨s,0,none⟩)] w (AM X s k c b (fj m).1 q S (fj m).2.1 (fj m).2.2 H w):=by
 have HP:=zH (fun w0 (h:Sys (tL X w.heap.size (.slice none 0 0)) w0 s k c b m q S H)=>Gq s k c b m q S H w0 h ok kn)
 have HV:=zH (show fj m=if m.dN.2≠0 then (m.dN.1,none,m.dN.2) else tJ (gB 4 4 m.dN.1 []) from rfl)
 have HM:=zH (zA (ot m) (yS ok))
 have hb0:=ae (Below.refl w.heap.size w) (.cells #[.bool false,.int .i64 0,.slice none 0 0,.int .i64 0] 52)
 have hsz:(w.alloc (.cells #[.bool false,.int .i64 0,.slice none 0 0,.int .i64 0] 52)).heap.size=w.heap.size+1:=by simp
 have L0:ig X (w.alloc (.cells #[.bool false,.int .i64 0,.slice none 0 0,.int .i64 0] 52)) (w.alloc (.cells #[.bool false,.int .i64 0,.slice none 0 0,.int .i64 0] 52)) w.heap.size s k c b m q S H H (.slice none 0 0) []:=by
  refine ⟨h.grow (Touch.ah (F:=fun _=>False) hb0) (fun i hi=>hi.elim) (fun i hi=>hi.elim) (fun _ hi=>hi.elim) (fun i hi => ?_),Step.refl _ _,zN,fun g hg=>by simp [Value.ownBlock] at hg,fun hm=>by have:=h.lt _ hm;omega,ag w _,fun p hp=>by simp at hp,by omega,hh,ok⟩
  rcases hi with hi | hi | hi
  ·
   exact .inl hi
  ·
   right;omega
  ·
   simp [Value.ownBlock] at hi
 have HW:=zH (zA hb0 L0)
 obtain ⟨a,cp,h1,h2⟩:=L0.sys.st
 obtain ⟨c0,c1,c2,c3,c4,c5,c6,c7,cf⟩:=sL h1
 clear hb0 h1 h2 h hh ok kn c1 c2 c3 c4 c5 c6 c7 cf L0
 generalize fj m=lr at *
 generalize m.dN=pr at *
 obtain ⟨m1,er1⟩:=pr
 simp only at HP HV HM
 obtain ⟨j0,ji,jz0,jz1,jz2⟩:=info_parts Fz
 go_enter func87,ntmps87
 go_upto_region 1 with fail
 generalize w.alloc (.cells #[.bool false,.int .i64 0,.slice none 0 0,.int .i64 0] 52)=W at *
 have HWS:=zH hsz
 clear hsz
 go_wp2_with fail
 refine (HP.out _ HW.out.2.sys).mono ?_
 rintro e w1 ⟨⟨x,y,z,rfl⟩,H1,hs1,st1⟩
 have HL:=zH (HW.out.2.act hs1 st1 HM.out.1 HM.out.2)
 clear hs1 st1 c0
 obtain ⟨d0,d1,d2,d3,df⟩:=cw HL.out.rat
 have hbl:w.heap.size<w1.heap.size:=aV HL.out.rat
 by_cases k1:er1=0
 ·
  subst k1
  replace HV:=zH (HV.out.trans (if_neg (by simp)))
  clear d0 d1 d2 d3 df hbl HP
  have HLW:=zH (zA HW.out.1 HWS.out)
  clear HW HWS HM
  go_wp2
  go_loopg [10,11] 4 (fun n v i wr => ∃ (j:Nat) (mj:aB) (Hj:Nat→Prop) (vs:List (bg×(Option Addr×Nat))),n=4 - j∧i=.int .i64 (4+(j:Int))∧j≤4∧vs.length=j∧gB (4 - j) (4+(j:Int)) mj (vs.map Prod.fst)=gB 4 4 m1 []∧ig X W wr w.heap.size s k c b mj q S H Hj v vs)
  case atStart=>exact ⟨0,m1,H1,[],rfl,rfl,Nat.zero_le _,rfl,rfl,HL.out⟩
  case round =>
   obtain ⟨j,mj,Hj,vs,hgn,rfl,hj,hvl,hlk,L⟩:=hrel
   have HB:=zH (zA hgn (zA hlk (zA L hvl)))
   clear hgn hlk L hvl
   obtain ⟨d0,d1,d2,d3,df⟩:=cw HB.out.2.2.1.rat
   have hbl:w.heap.size<wr.heap.size:=aV HB.out.2.2.1.rat
   by_cases hlt:j<4
   ·
    have hlt':(4+(j:Int))<8:=by omega
    obtain ⟨a,cp,h1,h2⟩:=HB.out.2.2.1.sys.st
    obtain ⟨c0,c1,c2,c3,c4,c5,c6,c7,cf⟩:=sL h1
    clear h1 h2 c1 c2 c3 c4 c5 c6 c7
    have e1:wrap64 ((4+(j:Int)) * 512)=(4+(j:Int)) * 512:=by unfold wrap64;omega
    have HF:=zH (Gp s k c b mj q S Hj ((4+(j:Int)) * 512) 512 wr HB.out.2.2.1.sys HB.out.2.2.1.ok (by omega) (by omega) (by omega) (by omega))
    have HFS:=zH (zA (nP mj ((4+(j:Int)) * 512) 512) (zA (yv HB.out.2.2.1.ok ((4+(j:Int)) * 512) 512 (by omega) (by omega) (by omega) (by omega)) (Dh mj ((4+(j:Int)) * 512) 512)))
    have HK:=zH (show gB (4 - j) (4+(j:Int)) mj (vs.map Prod.fst)=if (mj.cK ((4+(j:Int)) * 512) 512).2.2≠0 then ((mj.cK ((4+(j:Int)) * 512) 512).1,vs.map Prod.fst,(mj.cK ((4+(j:Int)) * 512) 512).2.2) else gB (4 - (j+1)) (4+(j:Int)+1) (mj.cK ((4+(j:Int)) * 512) 512).1 (vs.map Prod.fst++[iw (mj.cK ((4+(j:Int)) * 512) 512).2.1]) by rw [show 4 - j=(4 - (j+1))+1 by omega];rfl)
    rw [show ((512:Nat):Int)=512 from rfl] at HF HFS
    generalize mj.cK ((4+(j:Int)) * 512) 512=fr at *
    obtain ⟨m2,t,er2⟩:=fr
    simp only at HF HFS HK
    go_wp2_with fail
    refine HF.out.mono ?_
    rintro e w2 ⟨rfl,H2,hs2,st2⟩
    have HL2:=zH (HB.out.2.2.1.act hs2 st2 HFS.out.1 HFS.out.2.1)
    clear hs2 st2 c0 cf d0 d1 d2 d3 df hbl
    obtain ⟨d0,d1,d2,d3,df⟩:=cw HL2.out.rat
    have hbl:w.heap.size<w2.heap.size:=aV HL2.out.rat
    by_cases k2:er2=0
    ·
     subst k2
     have ht:t.size=512:=HFS.out.2.2 rfl
     have HSC:=zH (wR t w2 ht)
     replace HK:=zH (HK.out.trans (if_neg (by simp)))
     clear ht HF HFS d0 d1 d2 d3 df hbl
     generalize iw t=V at *
     go_wp2_with fail
     refine HSC.out.mono ?_
     rintro e w3 ⟨vr,rfl,ho,hb⟩
     obtain ⟨ra,rc,rfl⟩:=cA ho
     have HS3:=zH (zA ho hb)
     have HA:=zH (HL2.out.aj hb)
     clear ho hb HSC
     have HVL:=zH HB.out.2.2.2
     go_wp2_with (at_builtin;refine wpList_append_lies _ rfl _ _ 49 rfl W.heap.size 52 j0 (.agg #[.bool false,.int .i64 0,.slice none 0 0,.int .i64 0]) 4 48 underlying49 ji jz0 jz1 jz2 rfl (by decide) u10 vs.length (dV vs) ?b1 (World.ownsRow.aj HA.out.own (ae (ae zR _) _)) ⟨w3.heap.size+1,0,none⟩ 1 1 [.bool V.bX,.int .i64 V.ak,.slice ra V.ay.length rc,.int .i64 V.free] ?b2 rfl ?b3 ?b4 (by decide) ?b5 ?b6 ?b7 _ rfl ?_)
     case b1=>rfl
     case b2=>rfl
     case b3=>exact World.news_of_block (cs := #[.bool V.bX,.int .i64 V.ak,.slice ra V.ay.length rc,.int .i64 V.free]) (t:=52) (fr:=(0,0)) (by simpa using ag (w3.alloc _) _)
     case b4=>intro u hu;simp only [List.mem_cons,List.not_mem_nil,or_false] at hu;rcases hu with rfl | rfl | rfl | rfl <;> rfl
     case b5=>have:=HVL.out;simp only [maxLen];omega
     case b6=>have:=HVL.out;omega
     case b7=>have:=HA.out.step.aD.size;simp only [World.size_alloc];omega
     intro g4 cap4 w4 how hgr hor hgl
     have hgb:Below w3.heap.size w3 _:=ae (ae (Below.refl _ w3) (.cells #[.bool V.bX,.int .i64 V.ak,.slice ra V.ay.length rc,.int .i64 V.free] 52)) (.cells #[.bool V.bX,.int .i64 V.ak,.slice ra V.ay.length rc,.int .i64 V.free] 52)
     have hL4:=HL2.out.more (p:=(V,ra,rc)) (gtr HS3.out.2 hgb) (World.ownsRow.aj HS3.out.1 hgb) (by rw [xK];exact how) hgr (hor.imp id (fun e=>by rw [e];simp)) hgl
     have HL4:=zH hL4
     have HK4:=zH (show gB (4 - (j+1)) (4+((j+1:Nat):Int)) m2 ((vs++[(V,ra,rc)]).map Prod.fst)=gB 4 4 m1 [] by rw [show (4+((j+1:Nat):Int))=4+(j:Int)+1 by omega,List.map_append];exact HK.out.symm.trans HB.out.2.1)
     clear hL4 how hgr hor hgl hgb HS3 HA HK
     go_wp2
     go_roundg (4 - (j+1))
     case measure=>have:=HB.out.1;omega
     case rel=>exact ⟨j+1,m2,H2,vs++[(V,ra,rc)],rfl,by go_num,by omega,by rw [List.length_append,HVL.out];rfl,HK4.out,HL4.out⟩
    ·
     have hne:(er2 != 0)=true:=bne_iff_ne.2 k2
     replace HK:=zH (HB.out.2.1.symm.trans (HK.out.trans (if_pos k2)))
     have HE:=zH k2
     clear k2
     go_wp2_with fail
     have t:=cN w2 w.heap.size (.bool false) (.int .i64 0) (.slice none 0 0) (.int .i64 0)
     obtain ⟨q0,q1,q2,q3,qf⟩:=cw (eO HL2.out.rat (.bool false) (.int .i64 0) (.slice none 0 0) (.int .i64 0))
     refine bodyPost_ret (v:=.tuple #[.int .i64 0,.agg #[.bool false,.int .i64 0,.slice none 0 0,.int .i64 0],.bool false,.int .i64 er2]) ?_ rfl ?_
     ·
      change (results _ _).run _ (lL _ _ _ _ _ _)=_
      simp [results,results87,go_sem,q0,q1,q2,q3]
      rfl
     ·
      rw [HV.out,HK.out,tJ,if_pos HE.out]
      exact qO HL2.out HLW.out.1 t none er2 none 0 (.inl ⟨rfl,rfl,rfl⟩)
   ·
    obtain rfl:j=4:=by omega
    have HBC:=zH (fun v h=>CX v vs wr h (by rw [HB.out.2.2.2];omega))
    have HSL:=zH (bj.cX HB.out.2.2.1.own)
    have HK:=zH (show (mj,vs.map Prod.fst,(0:Int))=gB 4 4 m1 [] from HB.out.2.1)
    have HBL:=zH (ve vs 4)
    have HBE:=zH (A1 vs 4)
    have HVT:=zH (oF vs)
    obtain ⟨xa,xc,rfl⟩:=cA HB.out.2.2.1.own
    obtain ⟨bb,o,rfl,hc,hx⟩:=HSL.out.some (by have:=HB.out.2.2.2;omega)
    have hbr:w.heap.size<bb:=zV HB.out.2.2.1.LX (cH HB.out.2.2.1.own bb rfl)
    have HX:=zH hx
    have hvl:vs.length=4:=HB.out.2.2.2
    rw [hvl] at HBC HSL hc ⊢
    have HVL:=zH hvl
    clear hx hvl
    go_wp2_with fail
    refine (HBC.out _ HSL.out).mono ?_
    rintro e w2 ⟨rfl,hb⟩
    have HE:=zH (HB.out.2.2.1.aj hb)
    have HX2:=zH (fun i u hu=>(hb.cell (p:=⟨bb,o+i,none⟩) (zL wr _ (HX.out i u hu))).trans (HX.out i u hu))
    have hbl2:w.heap.size<w2.heap.size:=zV hbl hb.size
    clear hb d0 d1 d2 d3 df hbl
    obtain ⟨d0,d1,d2,d3,df⟩:=cw HE.out.rat
    cases hbn:iH vs 4 with
    | none =>
     have HZ:=zH hbn
     clear hbn
     go_wp2_with fail
     have t:=cN w2 w.heap.size (.bool false) (.int .i64 0) (.slice none 0 0) (.int .i64 0)
     obtain ⟨q0,q1,q2,q3,qf⟩:=cw (eO HE.out.rat (.bool false) (.int .i64 0) (.slice none 0 0) (.int .i64 0))
     refine bodyPost_ret (v:=.tuple #[.int .i64 0,.agg #[.bool false,.int .i64 0,.slice none 0 0,.int .i64 0],.bool false,.int .i64 0]) ?_ rfl ?_
     ·
      change (results _ _).run _ (lL _ _ _ _ _ _)=_
      simp [results,results87,go_sem,q0,q1,q2,q3]
      rfl
     ·
      have hlen:(vs.map Prod.fst).length=4:=by rw [List.length_map];exact HB.out.2.2.2
      rw [HV.out,← HK.out,tJ,if_neg (by simp)]
      simp only
      rw [hlen,← HBE.out,HZ.out]
      exact qO HE.out HLW.out.1 t none 0 none 0 (.inl ⟨rfl,rfl,rfl⟩)
    | some kb =>
     have hkb:kb<4:=HBL.out kb hbn
     have HZ:=zH hbn
     clear hbn
     obtain ⟨p,hp⟩ : ∃ p,vs[kb]? = some p:=⟨_,List.getElem?_eq_getElem (by rw [HVL.out];exact hkb)⟩
     obtain ⟨V,ra,rc⟩:=p
     have HPM:=zH hp
     obtain ⟨p0,p1,p2,p3⟩:=HVT.out kb _ hp
     have g0:w2.cell? ⟨bb,o+kb * 4,none⟩=some (.bool V.bX):=by rw [Nat.mul_comm];exact HX2.out _ _ p0
     have g1:w2.cell? ⟨bb,o+kb * 4+1,none⟩=some (.int .i64 V.ak):=by rw [Nat.mul_comm,Nat.add_assoc];exact HX2.out _ _ p1
     have g2:w2.cell? ⟨bb,o+kb * 4+2,none⟩=some (.slice ra V.ay.length rc):=by rw [Nat.mul_comm,Nat.add_assoc];exact HX2.out _ _ p2
     have g3:w2.cell? ⟨bb,o+kb * 4+3,none⟩=some (.int .i64 V.free):=by rw [Nat.mul_comm,Nat.add_assoc];exact HX2.out _ _ p3
     have hkb':(kb:Int)<4:=by omega
     have hw4:wrap64 (4+(kb:Int))=4+(kb:Int):=by unfold wrap64;omega
     have hne1:bb≠w.heap.size:=by omega
     have hne2:w.heap.size≠bb:=by omega
     clear p0 p1 p2 p3 hp HX HX2 HVT HBL
     go_upto_region 16 with fail
     go_region_held3 (fun w'=>w'.cell? ⟨bb,o+kb * 4,none⟩=some (.bool V.bX)∧w'.cell? ⟨bb,o+kb * 4+1,none⟩=some (.int .i64 V.ak)∧w'.cell? ⟨bb,o+kb * 4+2,none⟩=some (.slice ra V.ay.length rc)∧w'.cell? ⟨bb,o+kb * 4+3,none⟩=some (.int .i64 V.free)) (go_keep) (fail)
     have t:Touch (aM w.heap.size) w2 _:=(cN w2 w.heap.size (.bool V.bX) (.int .i64 V.ak) (.slice ra V.ay.length rc) (.int .i64 V.free)).drew
     have hq:=aa (aw zR) (eO HE.out.rat (.bool V.bX) (.int .i64 V.ak) (.slice ra V.ay.length rc) (.int .i64 V.free))
     change Exit.then _ _ _ _ (lL _ _ _ _ _ _).drew
     rw [show IntKind.i64.wrap (4+(kb:Int))=4+(kb:Int) from dz (by omega) (by omega)]
     generalize (lL w2 w.heap.size (.bool V.bX) (.int .i64 V.ak) (.slice ra V.ay.length rc) (.int .i64 V.free)).drew=w5 at *
     obtain ⟨q0,q1,q2,q3,qf⟩:=cw hq
     clear hq d0 d1 d2 d3 df g0 g1 g2 g3
     go_wp2
     refine bodyPost_ret (v:=.tuple #[.int .i64 (4+(kb:Int)),.agg #[.bool V.bX,.int .i64 V.ak,.slice ra V.ay.length rc,.int .i64 V.free],.bool true,.int .i64 0]) (by simp [results,results87,go_sem,q0,q1,q2,q3]) rfl ?_
     have hlen:(vs.map Prod.fst).length=4:=by rw [List.length_map];exact HVL.out
     have hgd:(vs.map Prod.fst).getD kb ck=V:=by rw [List.getD_eq_getElem?_getD,List.getElem?_map,HPM.out];rfl
     rw [HV.out,← HK.out,tJ,if_neg (by simp)]
     simp only
     rw [hlen,← HBE.out,HZ.out]
     simp only [Option.map_some,hgd]
     exact qO HE.out HLW.out.1 t (some (4+(kb:Int),V)) 0 ra rc (.inr ⟨4+(kb:Int),(V,ra,rc),List.mem_of_getElem? HPM.out,rfl,rfl,rfl⟩)
 ·
  have hne:(er1 != 0)=true:=bne_iff_ne.2 k1
  replace HV:=zH (HV.out.trans (if_pos k1))
  clear k1
  go_wp2_with fail
  have t:=cN w1 w.heap.size (.bool false) (.int .i64 0) (.slice none 0 0) (.int .i64 0)
  obtain ⟨q0,q1,q2,q3,qf⟩:=cw (eO HL.out.rat (.bool false) (.int .i64 0) (.slice none 0 0) (.int .i64 0))
  refine bodyPost_ret (v:=.tuple #[.int .i64 0,.agg #[.bool false,.int .i64 0,.slice none 0 0,.int .i64 0],.bool false,.int .i64 er1]) ?_ rfl ?_
  ·
   change (results _ _).run _ (lL _ _ _ _ _ _)=_
   simp [results,results87,go_sem,q0,q1,q2,q3]
   rfl
  ·
   rw [HV.out]
   exact qO HL.out HW.out.1 t none er1 none 0 (.inl ⟨rfl,rfl,rfl⟩)
end
end Go.Proofs.YtcfdenckiigdaaaGreat

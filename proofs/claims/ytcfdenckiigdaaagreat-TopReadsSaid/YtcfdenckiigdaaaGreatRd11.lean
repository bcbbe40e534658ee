/- Part 11 of the contracts. -/
import Derived.Test.YtcfdenckiigdaaaGreatRd10
set_option linter.unusedVariables false
set_option maxRecDepth 100000
set_option maxHeartbeats 4000000
namespace Go.Proofs.YtcfdenckiigdaaaGreat
open Tryz Go.RowKit
section
open Go.RowKit
variable {X:Nat→Prop}
def yI (b:Int) (j:Nat):Int:=wrap64 (b * 2 ^ (8 * j))
def fy:Nat→Nat→Int→aG→Cache→Int→aG×Cache×Int×Int
 | 0,_,y,m,q,_=>(m,q,y,0)
 | n+1,j,y,m,q,at_ =>
  if (q.find (at_+j)).2=true then fy n (j+1) (bits .or .i64 y (yI (q.find (at_+j)).1 j)) m q at_
  else if (fa m q (at_+j)).2.2≠0 then ((fa m q (at_+j)).1,(fa m q (at_+j)).2.1,0,(fa m q (at_+j)).2.2)
  else fy n (j+1) (bits .or .i64 y (yI ((fa m q (at_+j)).2.1.find (at_+j)).1 j)) (fa m q (at_+j)).1 (fa m q (at_+j)).2.1 at_
theorem tw : ∀ (n j:Nat) (y:Int) (m:aG) (q:Cache) (at_:Int),m.Ok→q.Good→0≤at_→at_+j+n≤4096→(fy n j y m q at_).1.Ok∧(fy n j y m q at_).2.1.Good∧bH m (fy n j y m q at_).1
 | 0,j,y,m,q,at_,ok,g,h0,h1=>⟨ok,g,bH.refl m⟩
 | n+1,j,y,m,q,at_,ok,g,h0,h1=>by
  obtain ⟨l1,l2,l3⟩:=CL ok g (at_+j) (by omega) (by omega)
  unfold fy
  split
  ·
   exact tw n (j+1) _ m q at_ ok g h0 (by omega)
  split
  ·
   exact ⟨l1,l2,l3⟩
  ·
   obtain ⟨r1,r2,r3⟩:=tw n (j+1) (bits .or .i64 y (yI ((fa m q (at_+j)).2.1.find (at_+j)).1 j)) _ _ at_ l1 l2 h0 (by omega)
   exact ⟨r1,r2,l3.trans r3⟩
def fM (at_ width:Int):Bool:=(decide (width=1) || decide (width=2) || decide (width=4))&&decide (0≤at_)&&decide (at_+width - 1<2048)
def bI (m:aG) (q:Cache) (at_ width:Int):aG×Cache×Int×Int:=if fM at_ width=true then fy width.toNat 0 0 m q at_ else (m,q,0,1300)
def tM (X:Nat→Prop) (y:Int) (er:Int) (k c b:Nat) (m:aG) (q:Cache) (H:Nat→Prop) (w:World) (e:Ending) (w':World):Prop:=e=.returned (.tuple #[.int .i64 y,.int .i64 er]) ∧ ∃ H',fh X w' k c b m q H'∧Step H H' w w'
theorem find_range (q:Cache) (x:Int):0≤(q.find x).1∧(q.find x).1<256:=by
 unfold Cache.find
 split
 ·
  have:=(bt q.t0 (fV x)).toNat_lt;dsimp only;omega
 split
 ·
  have:=(bt q.t1 (fV x)).toNat_lt;dsimp only;omega
 ·
  dsimp only;omega
theorem fh.cache {w:World} {k c b:Nat} {m:aG} {q:Cache} {H:Nat→Prop} (h:fh X w k c b m q H) : ∃ ab ac tb tc,w.heap[b]? = some (.cells (ks k ab ac tb tc q.next) 190 (0,0))∧dz w ab ac tb tc q:=by
 obtain ⟨G,hc,⟨ab,ac,tb,tc,hw⟩,hH,hh⟩:=h.ex
 exact ⟨ab,ac,tb,tc,hw.raw,hw.cap,hw.a0,hw.a1,hw.t0,hw.t1⟩
theorem fh.aj {w w':World} {k c b:Nat} {m:aG} {q:Cache} {H:Nat→Prop} (h:fh X w k c b m q H) (hb:Below w.heap.size w w'):fh X w' k c b m q H:=by
 obtain ⟨G,hc,hw,hH,hh⟩:=h.ex
 exact ⟨⟨G,hc.aj hb,hw.step (Step.ah hb),hH,hh⟩⟩
theorem Iq (k c b:Nat) (m:aG) (q:Cache) (H:Nat→Prop) (x z:Int) (n:Nat) (w:World) (h:fh X w k c b m q H) (ok:m.Ok) (g:q.Good) (hz:z=n) (hn:z=1∨z=2∨z=4) (x0:0≤x) (x1:x+z - 1<2048):Calls prog 63 #[.pointer (some ⟨b,0,none⟩),.int .i64 x,.int .i64 z] w (tM X (fy n 0 0 m q x).2.2.1 (fy n 0 0 m q x).2.2.2 k c b (fy n 0 0 m q x).1 (fy n 0 0 m q x).2.1 H w):=by
 have HI1:=zH (fun w=>im x w)
 have HI2:=zH (fun w=>im (x+z - 1) w)
 have b1:z≤4:=by omega
 have b2:1≤z:=by omega
 have s1:x+z<4096:=by omega
 have e1:(decide (0≤x)&&decide (x<2048))=true:=by simp;omega
 have e2:(decide (0≤x+z - 1)&&decide (x+z - 1<2048))=true:=by simp;omega
 rw [e1] at HI1
 rw [e2] at HI2
 have H0:=zH (zA h (zA ok g))
 obtain ⟨rr,hrr⟩ : ∃ rr,rr=fy n 0 0 m q x:=⟨_,rfl⟩
 rw [← hrr]
 have HV:=zH hrr
 have HZ:=zH hz
 clear h ok g e1 e2 hrr hz
 obtain ⟨c1,c2,c4,ho⟩ : ∃ c1 c2 c4:Bool,((z != 1)=c1∧(z != 2)=c2∧(z != 4)=c4)∧((c1=false)∨(c1=true∧c2=false)∨(c1=true∧c2=true∧c4=false)):=by
  refine ⟨_,_,_,⟨rfl,rfl,rfl⟩,?_⟩
  rcases hn with rfl | rfl | rfl
  ·
   exact .inl rfl
  ·
   exact .inr (.inl ⟨rfl,rfl⟩)
  ·
   exact .inr (.inr ⟨rfl,rfl,rfl⟩)
 obtain ⟨⟨d1,d2,d4⟩,ho⟩:=ho
 clear hn
 rcases ho with rfl | ⟨rfl,rfl⟩ | ⟨rfl,rfl,rfl⟩
 all_goals
  go_enter func63,ntmps63
  go_wp2_with (first | (go_at_call 97;first | (refine (HI1.out _).mono ?_;rintro e w ⟨rfl,rfl⟩) | (refine (HI2.out _).mono ?_;rintro e w ⟨rfl,rfl⟩)))
  clear d1 d2 d4
  go_loopw [8,39] (fun o i wr => ∃ (j:Nat) (mj:aG) (qj:Cache) (Hj:Nat→Prop) (y:Int),j≤n∧o=.int .i64 y∧i=.int .i64 j∧fh X wr k c b mj qj Hj∧mj.Ok∧qj.Good∧Step H Hj w wr∧rr=fy (n - j) j y mj qj x) (fun _ i _=>n - (intOf i).toNat)
  case atStart=>exact ⟨0,m,q,H,0,Nat.zero_le _,rfl,rfl,H0.out.1,H0.out.2.1,H0.out.2.2,Step.refl _ _,HV.out⟩
  case round =>
   obtain ⟨j,mj,qj,Hj,y,hj,rfl,rfl,hB,hok,hg,hst,hr⟩:=hrel
   by_cases hlt:j<n
   ·
    have g1:(j:Int)<z:=by have:=HZ.out;omega
    rw [show n - j=(n - (j+1))+1 by omega] at hr
    obtain ⟨ab,ac,tb,tc,hraw,hC⟩:=hB.cache
    have k1:wr.cell? ⟨b,1,none⟩=some (.slice (some ⟨ab,0,none⟩) 2 ac):=cell_of hraw 1
    have k2:wr.cell? ⟨b,2,none⟩=some (.slice (some ⟨tb,0,none⟩) 2 tc):=cell_of hraw 2
    have k3:wr.cell? ⟨b,3,none⟩=some (.int .i64 qj.next):=cell_of hraw 3
    have hx0:0≤x+(j:Int):=by omega
    have hx1:x+(j:Int)<4096:=by omega
    have HFD:=zH (oQ ab ac tb tc qj (x+j) _ hC hg hx0 hx1)
    have hfr:=find_range qj (x+j)
    have HR:=zH (show rr=if (qj.find (x+j)).2=true then fy (n - (j+1)) (j+1) (bits .or .i64 y (yI (qj.find (x+j)).1 j)) mj qj x else if (fa mj qj (x+j)).2.2≠0 then ((fa mj qj (x+j)).1,(fa mj qj (x+j)).2.1,0,(fa mj qj (x+j)).2.2) else fy (n - (j+1)) (j+1) (bits .or .i64 y (yI ((fa mj qj (x+j)).2.1.find (x+j)).1 j)) (fa mj qj (x+j)).1 (fa mj qj (x+j)).2.1 x from hr)
    have HS:=zH (zA hB (zA hok (zA hg hst)))
    clear hr hB hok hg hst hraw hC
    generalize qj.find (x+j)=fd at *
    obtain ⟨v,is⟩:=fd
    simp only at HFD hfr HR
    cases is with
    | true =>
     go_wp2_with fail
     refine HFD.out.mono ?_
     rintro e w2 ⟨rfl,hb2⟩
     have H2:=zH hb2
     clear hb2
     go_wp2
     go_roundw
     case rel=>exact ⟨j+1,mj,qj,Hj,_,by omega,rfl,by go_num,HS.out.1.aj H2.out,HS.out.2.1,HS.out.2.2.1,HS.out.2.2.2.trans (Step.ah H2.out),HR.out.trans (if_pos (by trivial))⟩
     case measure=>simp [intOf];omega
    | false =>
     have HLD:=zH (fun w2 (h2:fh X w2 k c b mj qj Hj)=>ED k c b mj qj Hj (x+j) w2 h2 HS.out.2.1 HS.out.2.2.1 hx0 hx1)
     have HLO:=zH (CL HS.out.2.1 HS.out.2.2.1 (x+j) hx0 hx1)
     generalize fa mj qj (x+j)=ld at *
     obtain ⟨ml,ql,el⟩:=ld
     simp only at HLD HLO HR
     have hfr2:=find_range ql (x+j)
     have HF2:=zH (fun ab ac tb tc w2 hC=>oQ ab ac tb tc ql (x+j) w2 hC HLO.out.2.1 hx0 hx1)
     generalize ql.find (x+j)=fd2 at *
     obtain ⟨v2,is2⟩:=fd2
     simp only at hfr2 HF2 HR
     by_cases hel:el=0
     ·
      subst hel
      go_wp2_with fail
      refine HFD.out.mono ?_
      rintro e w2 ⟨rfl,hb2⟩
      have H2:=zH hb2
      clear hb2
      go_wp2_with fail
      refine (HLD.out _ (HS.out.1.aj H2.out)).mono ?_
      rintro e w3 ⟨rfl,H3',hB3,st3⟩
      have H3:=zH (zA hB3 (HS.out.2.2.2.trans ((Step.ah H2.out).trans st3)))
      obtain ⟨ab3,ac3,tb3,tc3,hraw3,hC3⟩:=hB3.cache
      have k1':w3.cell? ⟨b,1,none⟩=some (.slice (some ⟨ab3,0,none⟩) 2 ac3):=cell_of hraw3 1
      have k2':w3.cell? ⟨b,2,none⟩=some (.slice (some ⟨tb3,0,none⟩) 2 tc3):=cell_of hraw3 2
      have k3':w3.cell? ⟨b,3,none⟩=some (.int .i64 ql.next):=cell_of hraw3 3
      have HC3:=zH hC3
      clear hB3 st3 hraw3 hC3
      go_wp2_with fail
      refine (HF2.out _ _ _ _ _ HC3.out).mono ?_
      rintro e w4 ⟨rfl,hb4⟩
      have H4:=zH hb4
      clear hb4
      go_wp2
      go_roundw
      case rel=>exact ⟨j+1,ml,ql,H3',_,by omega,rfl,by go_num,H3.out.1.aj H4.out,HLO.out.1,HLO.out.2.1,H3.out.2.trans (Step.ah H4.out),HR.out.trans ((if_neg (by decide)).trans (if_neg (by decide)))⟩
      case measure=>simp [intOf];omega
     ·
      have hel':(el != 0)=true:=bne_iff_ne.2 hel
      have HEL:=zH hel
      clear hel
      go_wp2_with fail
      refine HFD.out.mono ?_
      rintro e w2 ⟨rfl,hb2⟩
      have H2:=zH hb2
      clear hb2
      go_wp2_with fail
      refine (HLD.out _ (HS.out.1.aj H2.out)).mono ?_
      rintro e w3 ⟨rfl,H3',hB3,st3⟩
      have H3:=zH (zA hB3 (HS.out.2.2.2.trans ((Step.ah H2.out).trans st3)))
      clear hB3 st3
      go_wp2
      go_ret2
      rw [show rr=(ml,ql,0,el) from HR.out.trans ((if_neg (by decide)).trans (if_pos HEL.out))]
      exact ⟨rfl,H3',H3.out⟩
   ·
    obtain rfl:n=j:=by omega
    have g1 : ¬ ((n:Int)<z):=by have:=HZ.out;omega
    rw [Nat.sub_self] at hr
    have HR:=zH (show rr=(mj,qj,y,0) from hr)
    have HS:=zH (zA hB hst)
    clear hr hB hok hg hst
    go_wp2
    go_ret2
    rw [HR.out]
    exact ⟨rfl,Hj,HS.out⟩
theorem Kb (b:Nat) (x z:Int) (w:World) (x0:0≤x) (x1:x<4096) (z0:0≤z) (z1:z≤8) (hg:fM x z=false):Calls prog 63 #[.pointer (some ⟨b,0,none⟩),.int .i64 x,.int .i64 z] w fun e w'=>e=.returned (.tuple #[.int .i64 0,.int .i64 1300])∧w'=w:=by
 have HI1:=zH (fun w=>im x w)
 have HI2:=zH (fun w=>im (x+z - 1) w)
 by_cases h1:z=1∨z=2∨z=4
 ·
  by_cases h2:x<2048
  ·
   have e1:(decide (0≤x)&&decide (x<2048))=true:=by simp;omega
   have e2:(decide (0≤x+z - 1)&&decide (x+z - 1<2048))=false:=by
    unfold fM at hg
    rcases h1 with rfl | rfl | rfl <;> simp at hg ⊢ <;> omega
   rw [e1] at HI1
   rw [e2] at HI2
   have hne:z≠1:=by rintro rfl;unfold fM at hg;simp at hg;omega
   have h1:z=2∨z=4:=by omega
   clear e1 e2 hg hne
   rcases h1 with rfl | rfl
   all_goals
    go_enter func63,ntmps63
    go_wp2_with (first | (go_at_call 97;first | (refine (HI1.out _).mono ?_;rintro e w ⟨rfl,rfl⟩) | (refine (HI2.out _).mono ?_;rintro e w ⟨rfl,rfl⟩)))
    go_ret2
    exact ⟨rfl,rfl⟩
  ·
   have e1:(decide (0≤x)&&decide (x<2048))=false:=by simp;omega
   rw [e1] at HI1
   clear e1 hg
   rcases h1 with rfl | rfl | rfl
   all_goals
    go_enter func63,ntmps63
    go_wp2_with (first | (go_at_call 97;(refine (HI1.out _).mono ?_;rintro e w ⟨rfl,rfl⟩)))
    go_ret2
    exact ⟨rfl,rfl⟩
 ·
  have d1:(z != 1)=true:=bne_iff_ne.2 (by omega)
  have d2:(z != 2)=true:=bne_iff_ne.2 (by omega)
  have d4:(z != 4)=true:=bne_iff_ne.2 (by omega)
  clear hg h1
  go_enter func63,ntmps63
  go_wp2
  go_ret2
  exact ⟨rfl,rfl⟩
theorem xG (k c b:Nat) (m:aG) (q:Cache) (H:Nat→Prop) (x z:Int) (w:World) (h:fh X w k c b m q H) (ok:m.Ok) (g:q.Good) (x0:0≤x) (x1:x<4096) (z0:0≤z) (z1:z≤8):Calls prog 63 #[.pointer (some ⟨b,0,none⟩),.int .i64 x,.int .i64 z] w (tM X (bI m q x z).2.2.1 (bI m q x z).2.2.2 k c b (bI m q x z).1 (bI m q x z).2.1 H w):=by
 cases hg:fM x z with
 | true =>
  have:=hg
  unfold fM at this
  simp at this
  rw [show bI m q x z=fy z.toNat 0 0 m q x from if_pos hg]
  exact Iq k c b m q H x z z.toNat w h ok g (by omega) (by omega) x0 (by omega)
 | false =>
  rw [show bI m q x z=(m,q,0,1300) from if_neg (by rw [hg];decide)]
  refine (Kb b x z w x0 x1 z0 z1 hg).mono ?_
  rintro e w' ⟨rfl,rfl⟩
  exact ⟨rfl,H,h,Step.refl _ _⟩
theorem lB {m:aG} (ok:m.Ok) {q:Cache} (g:q.Good) (x z:Int) (x0:0≤x):(bI m q x z).1.Ok∧(bI m q x z).2.1.Good∧bH m (bI m q x z).1:=by
 unfold bI
 split
 ·
  rename_i h
  unfold fM at h
  simp at h
  exact tw _ 0 0 m q x ok g x0 (by omega)
 ·
  exact ⟨ok,g,bH.refl m⟩
end
section
open Go.RowKit
variable {X:Nat→Prop}
theorem xt (x:Int) (w:World):Calls prog 166 #[.int .i64 x] w (kN (!(decide (0≤x)&&decide (x<2048))) w):=by
 have H:=zH (im x w)
 go_enter func166,ntmps166
 go_wp2_with fail
 refine H.out.mono ?_
 rintro e w ⟨rfl,rfl⟩
 go_wp2
 go_ret
 exact ⟨by simp,rfl⟩
def l8 (x:Int):Bool:=decide (0≤x)&&decide (x<2048)
def cH (xs:List Int):Bool:=decide (xs.length≤16)&&xs.all l8
theorem Ew:de 166 (fun x => !(l8 x)):=⟨fun x w=>(xt x w).mono (fun e w' h=>⟨h.1,h.2.symm⟩),fun args w=>by kernel_rfl⟩
theorem KT (xs:List Int):xs.any (fun x => !(l8 x)) = !(xs.all l8):=by
 induction xs with
 | nil=>rfl
 | cons x r ih=>simp only [List.any_cons,List.all_cons,ih];cases l8 x <;> simp
theorem oY (a:Option Addr) (c:Nat) (xs:List Int) (w:World) (h:aP w a xs) (hm:xs.length≤1000000):Calls prog 125 #[.slice a xs.length c] w fun e w'=>e=.returned (.bool (cH xs)) ∧ ∃ n,w'=w.drewN n:=by
 have HC:=zH (fq 166 _ Ew a c xs w h (by omega))
 rw [KT] at HC
 have HV:=zH (show cH xs=(decide (xs.length≤16)&&xs.all l8) from rfl)
 generalize cH xs=rr at *
 generalize xs.all l8=ai at *
 by_cases hl:xs.length≤16
 ·
  have hl':(xs.length:Int)≤16:=by omega
  have HL:=zH hl
  go_enter func125,ntmps125
  go_wp2_with fail
  refine HC.out.mono ?_
  rintro e w1 ⟨rfl,n,rfl⟩
  go_wp2
  go_ret
  rw [HV.out]
  exact ⟨by simp [HL.out],n,rfl⟩
 ·
  have hl' : ¬ (xs.length:Int)≤16:=by omega
  have HL:=zH hl
  go_enter func125,ntmps125
  go_wp2
  go_ret
  rw [HV.out]
  exact ⟨by simp [HL.out],0,rfl⟩
structure MO where
 F:Nat
 B:Array Value
 C:Array Value
def MO.val (f:MO):Value:=.func (.func f.F) f.B f.C
def pC (n:Nat) (S:Nat→World→Prop) (R:Int→World→Prop) (e:Ending) (w':World):Prop := ∃ er:Int,e=.returned (.int .i64 er)∧((er=0∧S n w')∨(er≠0∧R er w'))
theorem nV (b n cap:Nat) (f:Nat→MO) (S:Nat→World→Prop) (R:Int→World→Prop) (w:World) (h0:S 0 w) (hn:n≤1000) (hcell : ∀ j w,j<n→S j w→w.cell? ⟨b,j,none⟩=some (f j).val) (hrun : ∀ j,j<n → ∀ (args:Array Value) (w:World),(callFunc (f j).F args).run prog w=.ok (.enter (f j).F args) w) (hcall : ∀ j w,j<n→S j w→Calls prog (f j).F ((f j).B++(f j).C) w (pC (j+1) S R)):Calls prog 128 #[.slice (some ⟨b,0,none⟩) n cap] w (pC n S R):=by
 have H0:=zH (zA h0 (zA hcell (zA hrun hcall)))
 clear h0 hcell hrun hcall
 go_enter func128,ntmps128
 go_wp2
 go_loopw [8] (fun i wr => ∃ j:Nat,j≤n∧i=.int .i64 j∧S j wr) (fun i _=>n - (intOf i).toNat)
 case atStart=>exact ⟨0,Nat.zero_le _,rfl,H0.out.1⟩
 case round =>
  obtain ⟨j,hj,rfl,hS⟩:=hrel
  by_cases hlt:j<n
  ·
   have g1:(j:Int)<(n:Int):=by omega
   have hv:=H0.out.2.1 j wr hlt hS
   have hr:=H0.out.2.2.1 j hlt
   have HC:=zH (H0.out.2.2.2 j wr hlt hS)
   obtain ⟨F,B,C,hf⟩ : ∃ F B C,f j=⟨F,B,C⟩:=⟨_,_,_,rfl⟩
   rw [hf] at hv hr HC
   simp only [MO.val] at hv hr HC
   clear hS hf
   go_wp2_with fail
   refine HC.out.mono ?_
   rintro e w2 ⟨er,rfl,hcase⟩
   have HD:=zH hcase
   by_cases he:er=0
   ·
    subst he
    clear hcase
    go_wp2
    go_roundw
    case rel=>exact ⟨j+1,by omega,by go_num,by rcases HD.out with ⟨_,h⟩ | ⟨h,_⟩;exact h;exact absurd rfl h⟩
    case measure=>simp [intOf];omega
   ·
    have he':(er != 0)=true:=bne_iff_ne.2 he
    have HE:=zH he
    clear hcase he
    go_wp2
    go_ret
    exact ⟨er,rfl,.inr ⟨HE.out,by rcases HD.out with ⟨h,_⟩ | ⟨_,h⟩;exact absurd h HE.out;exact h⟩⟩
  ·
   obtain rfl:n=j:=by omega
   have HS:=zH hS
   clear hS
   go_wp2
   go_ret
   exact ⟨0,rfl,.inl ⟨rfl,HS.out⟩⟩
theorem qO (k:Nat) (b p:Int) (w:World):Calls prog 130 #[.pointer (some ⟨k,0,none⟩),.int .i64 b,.int .i64 p] w fun e w' =>
  e=.returned (.func (.func 169) #[] #[.pointer (some ⟨w.heap.size,0,none⟩),.pointer (some ⟨w.heap.size+1,0,none⟩),.pointer (some ⟨w.heap.size+2,0,none⟩)]) ∧
  w'=((w.alloc (.cells #[.pointer (some ⟨k,0,none⟩)] 85)).alloc (.cells #[.int .i64 b] 3)).alloc (.cells #[.int .i64 p] 3):=by
 go_enter func130,ntmps130
 go_wp2
 go_ret
 exact ⟨rfl,rfl⟩
theorem Bk (args:Array Value) (w:World):(callFunc 169 args).run prog w=.ok (.enter 169 args) w:=by kernel_rfl
theorem Bm (k c x y z:Nat) (m:aG) (G:Nat→Prop) (b p:Int) (w:World) (hx:w.cell? ⟨x,0,none⟩=some (.pointer (some ⟨k,0,none⟩))) (hy:w.cell? ⟨y,0,none⟩=some (.int .i64 b)) (hz:w.cell? ⟨z,0,none⟩=some (.int .i64 p)) (h:bO X w k c m G) (ok:m.Ok) (rok:gX b p [] 0):Calls prog 169 #[.pointer (some ⟨x,0,none⟩),.pointer (some ⟨y,0,none⟩),.pointer (some ⟨z,0,none⟩)] w (mQ X (m.run b p [] 0).2.2 k c (m.run b p [] 0).1 G w):=by
 have HR:=zH (fj k c m G b p none [] 0 0 w h ok rok (nA w G) (fun _=>rfl) (by simp))
 simp only [List.length_nil] at HR
 generalize m.run b p [] 0=r at *
 clear h ok rok
 go_enter func169,ntmps169
 go_wp2_with fail
 refine HR.out.mono ?_
 rintro e w1 ⟨a,cp,G1,rfl,hc,hs,st⟩
 have H1:=zH (zA hc st)
 clear hc hs st
 go_wp2
 go_ret
 exact ⟨rfl,G1,H1.out⟩
end
section
open Go.RowKit
variable {X:Nat→Prop}
def su (b:Nat) (a:Option Addr) (n cap:Nat) (v:Value):Array Value := #[.pointer (some ⟨b,0,none⟩),.slice a n cap,v]
structure om (w:World) (N sv b:Nat) (a:Option Addr) (cap:Nat) (v:Value) (left out:List Int) (H:Nat→Prop):Prop where
 raw:w.heap[sv]? = some (.cells (su b a left.length cap v) 222 (0,0))
 own:w.ownsRow N 3 1 v out.length (aB out)
 vi : ∀ g,v.ownBlock=some g→g≠sv ∧ ¬ H g
 ints:aL w a left H
 old : ∀ b' o',a=some ⟨b',o',none⟩→0<left.length→b'<N
 cap:left.length≤cap
 lo:N≤sv
 fA : ¬ H sv
theorem om.step {w w':World} {N sv b:Nat} {a:Option Addr} {cap:Nat} {v:Value} {left out:List Int} {H H':Nat→Prop} (h:om w N sv b a cap v left out H) (st:Step H H' w w'):om w' N sv b a cap v left out H':=by
 have hl:sv<w.heap.size:=(Array.getElem?_eq_some_iff.1 h.raw).1
 exact ⟨(st.aH.block sv hl h.fA).trans h.raw,jK h.own st.aH (fun g hg=>(h.vi g hg).2),fun g hg=>⟨(h.vi g hg).1,st.safe (h.own.lt g hg).2 (h.vi g hg).2⟩,h.ints.step st,h.old,h.cap,h.lo,st.safe hl h.fA⟩
def lG (N:Nat) (H H':Nat→Prop) (w w':World):Prop:=Touch (fun i=>H i∨N≤i) w w' ∧ ∀ i,H' i→H i∨w.heap.size≤i
theorem lG.refl (N:Nat) (H:Nat→Prop) (w:World):lG N H H w w:=⟨Touch.refl _ _,fun _ h=>.inl h⟩
theorem lG.fX {N:Nat} {H H':Nat→Prop} {w w':World} (h:Step H H' w w'):lG N H H' w w':=⟨h.aH.mono fun _ h=>.inl h,h.gP⟩
theorem lG.trans {N:Nat} {H H' H'':Nat→Prop} {a b c:World} (hN:N≤a.heap.size) (h:lG N H H' a b) (k:lG N H' H'' b c):lG N H H'' a c :=
 ⟨h.1.then k.1 fun i hi=>by
  rcases hi with hi | hi
  ·
   exact (h.2 i hi).imp .inl id
  ·
   exact .inl (.inr hi),fun i hi=>(k.2 i hi).elim (h.2 i) fun hl=>.inr (Nat.le_trans h.1.size hl)⟩
theorem lG.step {H H1 H2:Nat→Prop} {w0 wr w':World} (h:Step H H1 w0 wr) (k:lG w0.heap.size H1 H2 wr w'):Step H H2 w0 w' :=
 ⟨h.aH.then k.1 fun i hi=>by
  rcases hi with hi | hi
  ·
   exact h.gP i hi
  ·
   exact .inr hi,fun i hi=>(k.2 i hi).elim (h.gP i) fun hl=>.inr (Nat.le_trans h.aH.size hl)⟩
def Dj (sv:Nat) (v:Value) (i:Nat):Prop:=i=sv∨v.ownBlock=some i
def Dk (X:Nat→Prop) (sv:Nat) (v:Value) (i:Nat):Prop:=X i∨Dj sv v i
theorem bO.grow {X Y F:Nat→Prop} {w w':World} {k c:Nat} {m:aG} {G:Nat→Prop} (h:bO X w k c m G) (t:Touch F w w') (hF : ∀ i,F i→X i) (d : ∀ b,F b → ¬ G b) (hh:0<m.ar.busy.length → ¬ F m.ar.home) (hY : ∀ i,Y i→X i∨(w.heap.size≤i∧i<w'.heap.size)):bO Y w' k c m G:=by
 have h2:=h.fA t d hh (fun _ hx _=>.inr (hF _ hx))
 obtain ⟨s2,f2,e2,h2⟩:=h2
 obtain ⟨s,f,e,h⟩:=h
 have es:s2=s:=by
  have a:=h2.raw
  have b:=(t.block k (h.lt k h.own) (fun hx=>d k hx h.own)).trans h.raw
  unfold fE at a
  rw [a] at b
  simp only [Option.some.injEq,Obj.cells.injEq,mw.row,Array.mk.injEq,List.cons.injEq,Value.pointer.injEq,Value.int.injEq,Value.bool.injEq,Addr.mk.injEq,and_true,true_and] at b
  obtain ⟨s2c,s20,s21,s22,s2p,s2i,s2l,s2g,s2f,s2o,o20,o21,o22,lv2⟩:=s2
  obtain ⟨sc,s0,s1,s2',sp,si,sl,sg,sf,so,o0,o1,o2,lv⟩:=s
  simp only at b
  obtain ⟨rfl,rfl,rfl,rfl,rfl,rfl,rfl,rfl,rfl,rfl,rfl,rfl,rfl,rfl⟩:=b
  rfl
 subst es
 refine ⟨s2,f2,e2,⟨h2.raw,h2.aD,h2.left,h2.lost,h2.ar,?_,h2.fA,h2.sub,h2.own,h2.home,h2.lt⟩⟩
 refine ⟨fun i hi=>(hY i hi).elim (fun hx=>h2.leave.1 i hx) (fun hl=>hl.2),?_⟩
 rcases h.leave.2 with hl | ⟨h0,h1,h2',b,e',hp⟩
 ·
  exact .inl hl
 ·
  rcases h2.leave.2 with hl | ⟨_,_,_,b9,e9,hp2⟩
  ·
   rw [h0] at hl;exact absurd hl.1 (by decide)
  rw [e'] at e9
  obtain rfl:b=b9:=by simpa using e9
  refine .inr ⟨h0,h1,h2',b,e',?_⟩
  obtain ⟨a,cc,hc,hn⟩:=hp.ph 0 (by simp)
  have hbl:b<w.heap.size:=zL w _ hc.c0
  refine ⟨fun hl hg => ?_,fun i hi => ?_⟩
  ·
   rcases hg with hg | hy
   ·
    exact hp2.fA hl (.inl hg)
   ·
    rcases hY b hy with hx | hx
    ·
     exact hp2.fA hl (.inr hx)
    ·
     omega
  ·
   obtain ⟨a2,c2,q1,q2⟩:=hp2.ph i hi
   have hi:i<1:=hi
   obtain rfl:i=0:=by omega
   refine ⟨a2,c2,q1,fun b' o' ea hl hg => ?_⟩
   rcases hg with hg | hy
   ·
    exact q2 b' o' ea hl (.inl hg)
   ·
    rcases hY b' hy with hx | hx
    ·
     exact q2 b' o' ea hl (.inr hx)
    ·
     have g1:=q1.c1
     have g2:=t.cell _ _ hc.c1 (fun hx=>hp.fA (by simp) (.inr (hF _ hx)))
     simp only [Nat.zero_mul,Nat.add_zero,Nat.zero_add] at g1 g2
     rw [g2] at g1
     have ha:a=a2:=by simp only [Option.some.injEq,Value.slice.injEq] at g1;exact g1.1
     obtain ⟨b3,o3,r1,r2⟩:=hc.ints.at (by decide)
     rw [ha,ea] at r1
     obtain ⟨rfl,rfl⟩:b'=b3∧o'=o3:=by simpa using r1
     have:=zL w _ (r2 0 (by decide))
     simp only at this
     omega
theorem fh.grow {X Y F:Nat→Prop} {w w':World} {k c b:Nat} {m:aG} {q:Cache} {H:Nat→Prop} (h:fh X w k c b m q H) (t:Touch F w w') (hF : ∀ i,F i→X i) (d : ∀ i,F i → ¬ H i) (hh:0<m.ar.busy.length → ¬ F m.ar.home) (hY : ∀ i,Y i→X i∨(w.heap.size≤i∧i<w'.heap.size)):fh Y w' k c b m q H:=by
 obtain ⟨G,hc,⟨ab,ac,tb,tc,hw⟩,hH,hb⟩:=h.ex
 have hbl:b<w.heap.size:=(Array.getElem?_eq_some_iff.1 hw.raw).1
 have la:ab<w.heap.size:=zL w _ hw.a0
 have lt:tb<w.heap.size:=zL w _ hw.t0
 have nY : ∀ i,i<w.heap.size → ¬ (G i∨X i) → ¬ (G i∨Y i):=fun i hi hn hy=>hy.elim (fun hg=>hn (.inl hg)) (fun hy=>(hY i hy).elim (fun hx=>hn (.inr hx)) (fun hl=>by omega))
 exact ⟨⟨G,hc.grow t hF (fun i hi hg=>d i hi ((hH i).2 (.inl hg))) hh hY,⟨ab,ac,tb,tc,(t.block b hbl (fun hx=>hw.out.1 (.inr (hF _ hx)))).trans hw.raw,hw.cap,t.cell _ _ hw.a0 (fun hx=>hw.out.2.1 (.inr (hF _ hx))),t.cell _ _ hw.a1 (fun hx=>hw.out.2.1 (.inr (hF _ hx))),t.cell _ _ hw.t0 (fun hx=>hw.out.2.2 (.inr (hF _ hx))),t.cell _ _ hw.t1 (fun hx=>hw.out.2.2 (.inr (hF _ hx))),⟨nY b hbl hw.out.1,nY ab la hw.out.2.1,nY tb lt hw.out.2.2⟩,hw.na,hw.nt⟩,hH,hb⟩⟩
def dw (X:Nat→Prop) (w:World) (N sv k c b:Nat) (m:aG) (q:Cache) (left out:List Int) (H:Nat→Prop):Prop :=
 ∃ a cap v,fh (Dk X sv v) w k c b m q H∧om w N sv b a cap v left out H∧(0<m.ar.busy.length→m.ar.home<N)
def Ao (w:World) (sv:Nat) (H:Nat→Prop) (i:Nat):Prop:=H i∨i=sv ∨ ∃ v,w.cell? ⟨sv,2,none⟩=some v∧v.ownBlock=some i
theorem nJ {w w':World} {N sv b:Nat} {a:Option Addr} {cap:Nat} {v:Value} {left out:List Int} {H H':Nat→Prop} (hS:om w N sv b a cap v left out H) (st:Step H H' w w'):Step (Ao w sv H) (Ao w' sv H') w w' :=
 ⟨st.aH.mono fun i h=>.inl h,fun i h=>by
  rcases h with h | h | ⟨v',hv,hv2⟩
  ·
   exact (st.gP i h).imp .inl id
  ·
   exact .inl (.inr (.inl h))
  ·
   have e1:w.cell? ⟨sv,2,none⟩=some v:=cell_of hS.raw 2
   have e2:=st.aH.cell _ _ e1 hS.fA
   rw [hv] at e2
   obtain rfl:v'=v:=by simpa using e2
   exact .inl (.inr (.inr ⟨v',e1,hv2⟩))⟩
def cB (N sv:Nat) (H H':Nat→Prop) (w w':World):Prop:=lG N H H' w w'∧Step (Ao w sv H) (Ao w' sv H') w w'
theorem cB.refl (N sv:Nat) (H:Nat→Prop) (w:World):cB N sv H H w w:=⟨lG.refl _ _ _,Step.refl _ _⟩
theorem cB.trans {N sv:Nat} {H H' H'':Nat→Prop} {x y z:World} (h:cB N sv H H' x y) (hN:N≤x.heap.size) (k:cB N sv H' H'' y z):cB N sv H H'' x z:=⟨h.1.trans hN k.1,h.2.trans k.2⟩
theorem cB.fX {w w':World} {N sv k c b:Nat} {m:aG} {q:Cache} {left out:List Int} {H H':Nat→Prop} (h:dw X w N sv k c b m q left out H) (st:Step H H' w w'):cB N sv H H' w w':=by
 obtain ⟨a,cap,v,hB,hS,hN⟩:=h
 exact ⟨lG.fX st,nJ hS st⟩
def I0 (X:Nat→Prop) (er:Int) (N sv k c b:Nat) (m:aG) (q:Cache) (left out:List Int) (H:Nat→Prop) (w:World) (e:Ending) (w':World):Prop :=
 e=.returned (.int .i64 er) ∧ ∃ H',dw X w' N sv k c b m q left out H'∧cB N sv H H' w w'
theorem uQ {w w':World} {r:Option Nat} (h:w.grownBy w' r):Touch (fun i=>r=some i) w w' :=
 ⟨h.os,h.tape,h.output,h.size,fun k hk hn=>h.block k hk (fun e=>hn e.symm)⟩
theorem Ap {w1 w3 w4:World} {N sv k c b ab ao ao' cap cap' g cp:Nat} {m:aG} {q:Cache} {x y:Int} {v:Value} {left out:List Int} {H:Nat→Prop} {O:Obj} (hB:fh (Dk X sv v) w1 k c b m q H) (hS:om w1 N sv b (some ⟨ab,ao,none⟩) cap v (x::left) out H) (hN:0<m.ar.busy.length→m.ar.home<N) (hcap:left.length≤cap') (hao:0<left.length→ao'=ao+1) (hown:w3.ownsRow N 3 1 (.slice (some ⟨g,0,none⟩) (out.length+1) cp) (out.length+1) (aB out++[.int .i64 y])) (hgrow:((w1.setCell ⟨sv,1,none⟩ (.slice (some ⟨ab,ao',none⟩) left.length cap')).alloc O).grownBy w3 v.ownBlock) (hat:v.ownBlock=some g∨g=w1.heap.size+1) (hlt:g<w3.heap.size) (e4:w4=w3.setCell ⟨sv,2,none⟩ (.slice (some ⟨g,0,none⟩) (out.length+1) cp)):dw X w4 N sv k c b m q left (out++[y]) H∧cB N sv H H w1 w4:=by
 have hsl:sv<w1.heap.size:=(Array.getElem?_eq_some_iff.1 hS.raw).1
 have habN:ab<N:=hS.old ab ao rfl (by simp)
 have tA:Touch (aN sv) w1 (w1.setCell ⟨sv,1,none⟩ (.slice (some ⟨ab,ao',none⟩) left.length cap')):=(Touch.refl _ _).set sv 1 _ rfl
 have hrA:(w1.setCell ⟨sv,1,none⟩ (.slice (some ⟨ab,ao',none⟩) left.length cap')).heap[sv]? = some (.cells (su b (some ⟨ab,ao',none⟩) left.length cap' v) 222 (0,0)):=az (i:=1) (v:=.slice (some ⟨ab,ao',none⟩) left.length cap') hS.raw
 have hsA:(w1.setCell ⟨sv,1,none⟩ (.slice (some ⟨ab,ao',none⟩) left.length cap')).heap.size=w1.heap.size:=by simp
 generalize w1.setCell ⟨sv,1,none⟩ (.slice (some ⟨ab,ao',none⟩) left.length cap')=wA at *
 have tB:Touch (aN sv) w1 (wA.alloc O):=tA.then (Touch.ah (F:=aN sv) (ae zR _)) (fun i hi=>.inl hi)
 have hrB:(wA.alloc O).heap[sv]? = _:=aa (ae zR O) hrA
 have hsB:(wA.alloc O).heap.size=w1.heap.size+1:=by simp [hsA]
 have tX:Touch (Dj sv v) w1 w3:=(tB.mono fun i hi=>.inl hi).trans ((uQ hgrow).mono fun i hi=>.inr hi)
 have hns:v.ownBlock≠some sv:=fun e=>(hS.vi sv e).1 rfl
 have hr3:w3.heap[sv]? = some (.cells (su b (some ⟨ab,ao',none⟩) left.length cap' v) 222 (0,0)):=(hgrow.block sv (by omega) (fun e=>hns e.symm)).trans hrB
 have hr4:=az (i:=2) (v:=.slice (some ⟨g,0,none⟩) (out.length+1) cp) hr3
 have t4:Touch (aN sv) w3 w4:=by rw [e4];exact (Touch.refl _ _).set sv 2 _ rfl
 have tX4:Touch (Dj sv v) w1 w4:=tX.trans (t4.mono fun i hi=>.inl hi)
 rw [← e4] at hr4
 have hgs:g≠sv:=by rcases hat with e | e;exact (hS.vi g e).1;omega
 have hl4:w3.heap.size≤w4.heap.size:=t4.size
 have hgN:N≤g:=gV hown g rfl
 have hgH : ¬ H g:=by
  rcases hat with e | e
  ·
   exact (hS.vi g e).2
  ·
   intro hg
   obtain ⟨G,hc,⟨_,_,_,_,hw⟩,hH,_⟩:=hB.ex
   have hbl:b<w1.heap.size:=(Array.getElem?_eq_some_iff.1 hw.raw).1
   rcases (hH g).1 hg with hg | hg
   ·
    have:=hc.lt g hg;omega
   ·
    omega
 have nX : ∀ i,i<N → ¬ Dj sv v i:=fun i hi hx=>by
  rcases hx with hx | hx
  ·
   have:=hS.lo;omega
  ·
   have:=gV hS.own i hx;omega
 have hXH : ∀ i,Dj sv v i → ¬ H i:=fun i hx=>by
  rcases hx with hx | hx
  ·
   rw [hx];exact hS.fA
  ·
   exact (hS.vi i hx).2
 refine ⟨⟨some ⟨ab,ao',none⟩,cap',.slice (some ⟨g,0,none⟩) (out.length+1) cp,?_,?_,hN⟩,⟨tX4.mono fun i hx => ?_,fun i hi=>.inl hi⟩,tX4.mono fun i hx=>hx.elim (fun e=>.inr (.inl e)) (fun e=>.inr (.inr ⟨v,cell_of hS.raw 2,e⟩)),fun i hi => ?_⟩
 ·
  refine hB.grow tX4 (fun i hi=>.inr hi) hXH (fun hl=>nX _ (hN hl)) (fun i hi => ?_)
  rcases hi with hi | hi | hi
  ·
   exact .inl (.inl hi)
  ·
   exact .inl (.inr (.inl hi))
  ·
   obtain rfl:g=i:=by simpa [Value.ownBlock] using hi
   rcases hat with e | e
   ·
    exact .inl (.inr (.inr e))
   ·
    exact .inr ⟨by omega,by omega⟩
 ·
  refine ⟨?_,?_,fun i hi => ?_,⟨fun i hi => ?_,fun b' o' e hl => ?_⟩,fun b' o' e hl => ?_,hcap,hS.lo,hS.fA⟩
  ·
   exact hr4
  ·
   rw [show (out++[y]).length=out.length+1 by simp,show aB (out++[y])=aB out++[.int .i64 y] by simp [aB]]
   exact jK hown t4 (fun i hi e=>by
    obtain rfl:g=i:=by simpa [Value.ownBlock] using hi
    exact hgs e)
  ·
   obtain rfl:g=i:=by simpa [Value.ownBlock] using hi
   exact ⟨hgs,hgH⟩
  ·
   obtain ⟨b2,o2,e2,h2⟩:=hS.ints.1 (i+1) (by simp;omega)
   obtain ⟨rfl,rfl⟩:ab=b2∧ao=o2:=by simpa using e2
   refine ⟨ab,ao',rfl,?_⟩
   rw [hao (by omega)]
   have h3:=tX4.cell _ _ h2 (nX ab habN)
   rw [show ao+1+i=ao+(i+1) by omega]
   simpa using h3
  ·
   obtain ⟨rfl,rfl⟩:ab=b'∧ao'=o':=by simpa using e
   exact hS.ints.2 ab ao rfl (by simp)
  ·
   obtain ⟨rfl,rfl⟩:ab=b'∧ao'=o':=by simpa using e
   exact habN
 ·
  rcases hx with hx | hx
  ·
   exact .inr (by rw [hx];exact hS.lo)
  ·
   exact .inr (gV hS.own i hx)
 ·
  rcases hi with hi | hi | ⟨v',hv,hv2⟩
  ·
   exact .inl (.inl hi)
  ·
   exact .inl (.inr (.inl hi))
  ·
   have e2:w4.cell? ⟨sv,2,none⟩=some (.slice (some ⟨g,0,none⟩) (out.length+1) cp):=cell_of hr4 2
   rw [hv] at e2
   obtain rfl:v'=.slice (some ⟨g,0,none⟩) (out.length+1) cp:=by simpa using e2
   obtain rfl:g=i:=by simpa [Value.ownBlock] using hv2
   rcases hat with e | e
   ·
    exact .inl (.inr (.inr ⟨v,cell_of hS.raw 2,e⟩))
   ·
    exact .inr (by omega)
def eP (m:aG) (q:Cache) (x:Int) (left out:List Int):aG×Cache×List Int×List Int×Int :=
 if (bI m q x 1).2.2.2≠0 then ((bI m q x 1).1,(bI m q x 1).2.1,x::left,out,(bI m q x 1).2.2.2) else ((bI m q x 1).1,(bI m q x 1).2.1,left,out++[(bI m q x 1).2.2.1],0)
theorem zP (N sv k c b:Nat) (m:aG) (q:Cache) (x:Int) (left out:List Int) (H:Nat→Prop) (w:World) (h:dw X w N sv k c b m q (x::left) out H) (ok:m.Ok) (g:q.Good) (x0:0≤x) (x1:x<4096) (ho:out.length≤1000):Calls prog 168 #[.pointer (some ⟨sv,0,none⟩)] w (I0 X (eP m q x left out).2.2.2.2 N sv k c b (eP m q x left out).1 (eP m q x left out).2.1 (eP m q x left out).2.2.1 (eP m q x left out).2.2.2.1 H w):=by
 obtain ⟨a,cap,v,hB,hS,hN⟩:=h
 obtain ⟨ab,ao,rfl,hint⟩:=hS.ints.1.at (by simp)
 have HSW:=zH hS
 have hSd:=hS.step (Step.ah (F:=H) (au (Below.refl w.heap.size w)))
 have HSV:=zH hSd
 have HRD:=zH (xG k c b m q H x 1 w.drew (hB.aj (au zR)) ok g x0 x1 (by decide) (by decide))
 have HHO:=zH (lB ok g x 1 x0).2.2
 have HSK:=zH (fun (H2:Nat→Prop) (w1:World) (st:Step H H2 w.drew w1)=>(show w1.cell? ⟨sv,0,none⟩=some (.pointer (some ⟨b,0,none⟩))∧w1.cell? ⟨sv,1,none⟩=some (.slice (some ⟨ab,ao,none⟩) (left.length+1) cap)∧w1.cell? ⟨ab,ao,none⟩=some (.int .i64 x) from ⟨cell_of (hSd.step st).raw 0,cell_of (hSd.step st).raw 1,by
   obtain ⟨b2,o2,e2,h2⟩:=(hSd.step st).ints.1 0 (by simp)
   obtain ⟨rfl,rfl⟩:ab=b2∧ao=o2:=by simpa using e2
   exact h2⟩))
 have HS0:=zH (HSK.out H w.drew (Step.refl _ _))
 have HN:=zH hN
 have HCAP:=zH hS.cap
 have hcap:left.length+1≤cap:=hS.cap
 obtain ⟨i0,hi,hz0,hz1,hz2⟩:=info_parts iq
 have HOV:=zH (show eP m q x left out=if (bI m q x 1).2.2.2≠0 then ((bI m q x 1).1,(bI m q x 1).2.1,x::left,out,(bI m q x 1).2.2.2) else ((bI m q x 1).1,(bI m q x 1).2.1,left,out++[(bI m q x 1).2.2.1],0) from rfl)
 clear hB hS hN hint hSd ok g
 generalize eP m q x left out=rr at *
 generalize bI m q x 1=rd at *
 obtain ⟨m1,q1,y,er⟩:=rd
 simp only at HRD HHO HOV
 by_cases he:er=0
 ·
  subst he
  go_enter func168,ntmps168
  go_wp2_with fail
  refine wp_region_noPanic ?_
  refine wp_region_held_drew (S:=(fun (v:World)=>v.cell? ⟨sv,0,none⟩=some (.pointer (some ⟨b,0,none⟩))∧v.cell? ⟨sv,1,none⟩=some (.slice (some ⟨ab,ao,none⟩) (left.length+1) cap)∧v.cell? ⟨ab,ao,none⟩=some (.int .i64 x))) (by kernel_rfl) (by (try dsimp only);exact HS0.out) fun hHeld => ?_
  refine tk 0 ?_
  refine tk 1 ?_
  refine tk 2 ?_
  refine tk 3 ?_
  refine tk 4 ?_
  refine tk 5 ?_
  refine tk 6 ?_
  refine tk 7 ?_
  refine tk 8 ?_
  refine tk 9 ?_
  refine tr 10 fun K hK => ?_
  go_simp
  refine HRD.out.mono ?_
  rintro e w1 ⟨rfl,H2,hB2,st⟩
  have hs1:=HSV.out.step st
  have H1:=zH (zA hB2 (zA hs1 st))
  have HS1:=zH (HSK.out H2 w1 st)
  clear hB2 hs1 st
  go_wp2_with fail
  refine hK.out _ _ (by (try dsimp only);exact HS1.out) fun hHeld => ?_
  clear hK K
  try simp only [Act.put,zS,zT,zU]
  refine tk 11 ?_
  refine tk 12 ?_
  refine tk 13 ?_
  refine tk 14 ?_
  refine tk 15 ?_
  refine wpAnyH_done (by kernel_rfl) ?_ _
  refine NoPanic.normal ?_
  by_cases hc1:cap=1
  ·
   subst hc1
   have hr:=H1.out.2.1.raw
   have c1:w1.cell? ⟨sv,1,none⟩=some (.slice (some ⟨ab,ao,none⟩) (left.length+1) (1)):=cell_of hr 1
   have f1:w1.frozen? ⟨sv,1,none⟩=false:=aF hr 1
   have hr2:(w1.setCell ⟨sv,1,none⟩ (.slice (some ⟨ab,ao,none⟩) left.length (0))).heap[sv]? = some (.cells (su b (some ⟨ab,ao,none⟩) left.length (0) v) 222 (0,0)):=az (i:=1) (v:=.slice (some ⟨ab,ao,none⟩) left.length (0)) hr
   have tA:Touch (aN sv) w1 (w1.setCell ⟨sv,1,none⟩ (.slice (some ⟨ab,ao,none⟩) left.length (0))):=(Touch.refl _ _).set sv 1 _ rfl
   have hown:World.ownsRow (w1.setCell ⟨sv,1,none⟩ (.slice (some ⟨ab,ao,none⟩) left.length (0))) N 3 1 v out.length (aB out):=jK H1.out.2.1.own tA (fun g hg e=>(H1.out.2.1.vi g hg).1 e)
   have c2:(w1.setCell ⟨sv,1,none⟩ (.slice (some ⟨ab,ao,none⟩) left.length (0))).cell? ⟨sv,2,none⟩=some v:=cell_of hr2 2
   have HA:=zH (zA tA (zA hr2 hown))
   have hl1:(left.length+1:Nat) - 1=left.length:=by omega
   clear hown hr hr2 tA
   have hz63:out.length+1≤maxLen:=by unfold maxLen;omega
   have hz47:(out.length+1) * 8≤140737488355328:=by omega
   go_wp2_with (at_builtin;refine wpList_append_lies _ rfl (.tmp 34) (.tmp 36) 22 (by rfl) N 3 i0 (.int .i64 0) 1 8 underlying22 hi hz0 hz1 hz2 rfl (by decide) v out.length (aB out) (by rfl) (World.ownsRow.aj HA.out.2.2 (ae zR _)) ⟨w1.heap.size,0,none⟩ 1 1 [.int .i64 y] (by rfl) rfl ?nw1 ?on1 (by decide) hz63 hz47 ?bs1 (w1.heap.size+1) ?sz1 ?_)
   case nw1=>simpa using World.news_of_block (cs := #[.int .i64 y]) (t:=3) (fr:=(0,0)) (af (w1.setCell ⟨sv,1,none⟩ (.slice (some ⟨ab,ao,none⟩) left.length (0))) _)
   case on1=>simp [Value.oneCell']
   case bs1=>simp;have:=(Array.getElem?_eq_some_iff.1 H1.out.2.1.raw).1;have:=H1.out.2.1.lo;omega
   case sz1=>simp
   intro g cp w3 hown3 hgrow hat hlt3
   have HQ:=zH (zA hown3 (zA hgrow (zA hat hlt3)))
   have hsl:sv<w1.heap.size:=(Array.getElem?_eq_some_iff.1 H1.out.2.1.raw).1
   have hr3:w3.heap[sv]? = _:=(hgrow.block sv (by simp;omega) (fun e=>(H1.out.2.1.vi sv e.symm).1 rfl)).trans (aa (ae zR _) HA.out.2.1)
   have d2:w3.cell? ⟨sv,2,none⟩=some v:=cell_of hr3 2
   have f2:w3.frozen? ⟨sv,2,none⟩=false:=aF hr3 2
   have d0:w3.cell? ⟨sv,0,none⟩=some (.pointer (some ⟨b,0,none⟩)):=cell_of hr3 0
   clear hown3 hgrow hat hlt3 hr3 hsl
   go_wp2
   go_ret
   obtain ⟨hS9,hV9⟩:=Ap (y:=y) H1.out.1 H1.out.2.1 (fun hl=>by rw [HHO.out.1];exact HN.out (zV hl HHO.out.2)) (ao':=ao) (cap':=0) (by omega) (by omega) HQ.out.1 HQ.out.2.1 HQ.out.2.2.1 HQ.out.2.2.2 rfl
   rw [show rr=(m1,q1,left,out++[y],0) from HOV.out.trans (if_neg (by decide))]
   have hNs:N≤w.heap.size:=by have:=(Array.getElem?_eq_some_iff.1 HSV.out.raw).1;have:=HSV.out.lo;simp at *;omega
   have hst:=(Step.ah (F:=H) (au (Below.refl w.heap.size w))).trans H1.out.2.2
   exact ⟨rfl,H2,hS9,(lG.fX hst).trans hNs hV9.1,(nJ HSW.out hst).trans hV9.2⟩
  ·
   have hcp:2≤cap:=by omega
   have hr:=H1.out.2.1.raw
   have c1:w1.cell? ⟨sv,1,none⟩=some (.slice (some ⟨ab,ao,none⟩) (left.length+1) (cap)):=cell_of hr 1
   have f1:w1.frozen? ⟨sv,1,none⟩=false:=aF hr 1
   have hr2:(w1.setCell ⟨sv,1,none⟩ (.slice (some ⟨ab,ao+1,none⟩) left.length (cap - 1))).heap[sv]? = some (.cells (su b (some ⟨ab,ao+1,none⟩) left.length (cap - 1) v) 222 (0,0)):=az (i:=1) (v:=.slice (some ⟨ab,ao+1,none⟩) left.length (cap - 1)) hr
   have tA:Touch (aN sv) w1 (w1.setCell ⟨sv,1,none⟩ (.slice (some ⟨ab,ao+1,none⟩) left.length (cap - 1))):=(Touch.refl _ _).set sv 1 _ rfl
   have hown:World.ownsRow (w1.setCell ⟨sv,1,none⟩ (.slice (some ⟨ab,ao+1,none⟩) left.length (cap - 1))) N 3 1 v out.length (aB out):=jK H1.out.2.1.own tA (fun g hg e=>(H1.out.2.1.vi g hg).1 e)
   have c2:(w1.setCell ⟨sv,1,none⟩ (.slice (some ⟨ab,ao+1,none⟩) left.length (cap - 1))).cell? ⟨sv,2,none⟩=some v:=cell_of hr2 2
   have HA:=zH (zA tA (zA hr2 hown))
   have hl1:(left.length+1:Nat) - 1=left.length:=by omega
   clear hown hr hr2 tA
   have hz63:out.length+1≤maxLen:=by unfold maxLen;omega
   have hz47:(out.length+1) * 8≤140737488355328:=by omega
   go_wp2_with (at_builtin;refine wpList_append_lies _ rfl (.tmp 34) (.tmp 36) 22 (by rfl) N 3 i0 (.int .i64 0) 1 8 underlying22 hi hz0 hz1 hz2 rfl (by decide) v out.length (aB out) (by rfl) (World.ownsRow.aj HA.out.2.2 (ae zR _)) ⟨w1.heap.size,0,none⟩ 1 1 [.int .i64 y] (by rfl) rfl ?nw2 ?on2 (by decide) hz63 hz47 ?bs2 (w1.heap.size+1) ?sz2 ?_)
   case nw2=>simpa using World.news_of_block (cs := #[.int .i64 y]) (t:=3) (fr:=(0,0)) (af (w1.setCell ⟨sv,1,none⟩ (.slice (some ⟨ab,ao+1,none⟩) left.length (cap - 1))) _)
   case on2=>simp [Value.oneCell']
   case bs2=>simp;have:=(Array.getElem?_eq_some_iff.1 H1.out.2.1.raw).1;have:=H1.out.2.1.lo;omega
   case sz2=>simp
   intro g cp w3 hown3 hgrow hat hlt3
   have HQ:=zH (zA hown3 (zA hgrow (zA hat hlt3)))
   have hsl:sv<w1.heap.size:=(Array.getElem?_eq_some_iff.1 H1.out.2.1.raw).1
   have hr3:w3.heap[sv]? = _:=(hgrow.block sv (by simp;omega) (fun e=>(H1.out.2.1.vi sv e.symm).1 rfl)).trans (aa (ae zR _) HA.out.2.1)
   have d2:w3.cell? ⟨sv,2,none⟩=some v:=cell_of hr3 2
   have f2:w3.frozen? ⟨sv,2,none⟩=false:=aF hr3 2
   have d0:w3.cell? ⟨sv,0,none⟩=some (.pointer (some ⟨b,0,none⟩)):=cell_of hr3 0
   clear hown3 hgrow hat hlt3 hr3 hsl
   go_wp2
   go_ret
   obtain ⟨hS9,hV9⟩:=Ap (y:=y) H1.out.1 H1.out.2.1 (fun hl=>by rw [HHO.out.1];exact HN.out (zV hl HHO.out.2)) (ao':=ao+1) (cap':=cap - 1) (by omega) (by omega) HQ.out.1 HQ.out.2.1 HQ.out.2.2.1 HQ.out.2.2.2 rfl
   rw [show rr=(m1,q1,left,out++[y],0) from HOV.out.trans (if_neg (by decide))]
   have hNs:N≤w.heap.size:=by have:=(Array.getElem?_eq_some_iff.1 HSV.out.raw).1;have:=HSV.out.lo;simp at *;omega
   have hst:=(Step.ah (F:=H) (au (Below.refl w.heap.size w))).trans H1.out.2.2
   exact ⟨rfl,H2,hS9,(lG.fX hst).trans hNs hV9.1,(nJ HSW.out hst).trans hV9.2⟩
 ·
  have he':(er != 0)=true:=bne_iff_ne.2 he
  have HE:=zH he
  clear he
  go_enter func168,ntmps168
  go_wp2_with fail
  refine wp_region_noPanic ?_
  refine wp_region_held_drew (S:=(fun (v:World)=>v.cell? ⟨sv,0,none⟩=some (.pointer (some ⟨b,0,none⟩))∧v.cell? ⟨sv,1,none⟩=some (.slice (some ⟨ab,ao,none⟩) (left.length+1) cap)∧v.cell? ⟨ab,ao,none⟩=some (.int .i64 x))) (by kernel_rfl) (by (try dsimp only);exact HS0.out) fun hHeld => ?_
  refine tk 0 ?_
  refine tk 1 ?_
  refine tk 2 ?_
  refine tk 3 ?_
  refine tk 4 ?_
  refine tk 5 ?_
  refine tk 6 ?_
  refine tk 7 ?_
  refine tk 8 ?_
  refine tk 9 ?_
  refine tr 10 fun K hK => ?_
  go_simp
  refine HRD.out.mono ?_
  rintro e w1 ⟨rfl,H2,hB2,st⟩
  have hs1:=HSV.out.step st
  have H1:=zH (zA hB2 (zA hs1 st))
  have HS1:=zH (HSK.out H2 w1 st)
  clear hB2 hs1 st
  go_wp2_with fail
  refine hK.out _ _ (by (try dsimp only);exact HS1.out) fun hHeld => ?_
  clear hK K
  try simp only [Act.put,zS,zT,zU]
  refine tk 11 ?_
  refine tk 12 ?_
  refine tk 13 ?_
  refine tk 14 ?_
  refine tk 15 ?_
  refine wpAnyH_done (by kernel_rfl) ?_ _
  refine NoPanic.normal ?_
  go_wp2
  go_ret
  rw [show rr=(m1,q1,x::left,out,er) from HOV.out.trans (if_pos HE.out)]
  refine ⟨rfl,H2,⟨_,cap,v,H1.out.1,H1.out.2.1,fun hl => ?_⟩,lG.fX ((Step.ah (au zR)).trans H1.out.2.2),nJ HSW.out ((Step.ah (F:=H) (au (Below.refl w.heap.size w))).trans H1.out.2.2)⟩
  rw [HHO.out.1]
  exact HN.out (zV hl HHO.out.2)
end
section
open Go.RowKit
variable {X:Nat→Prop}
def dF:List Int→List Int→aG→Cache→aG×Cache×List Int×Int
 | [],out,m,q=>(m,q,out,0)
 | x::l,out,m,q=>if (bI m q x 1).2.2.2≠0 then ((bI m q x 1).1,(bI m q x 1).2.1,[],(bI m q x 1).2.2.2) else dF l (out++[(bI m q x 1).2.2.1]) (bI m q x 1).1 (bI m q x 1).2.1
theorem sm : ∀ (l out:List Int) (m:aG) (q:Cache),m.Ok→q.Good→(∀ x ∈ l,0≤x)→(dF l out m q).1.Ok∧(dF l out m q).2.1.Good∧bH m (dF l out m q).1
 | [],out,m,q,ok,g,h=>⟨ok,g,bH.refl m⟩
 | x::l,out,m,q,ok,g,h=>by
  obtain ⟨r1,r2,r3⟩:=lB ok g x 1 (h x (by simp))
  unfold dF
  split
  ·
   exact ⟨r1,r2,r3⟩
  ·
   obtain ⟨s1,s2,s3⟩:=sm l (out++[(bI m q x 1).2.2.1]) _ _ r1 r2 (fun y hy=>h y (by simp [hy]))
   exact ⟨s1,s2,r3.trans s3⟩
def oh (X:Nat→Prop) (N:Nat) (k c b:Nat) (m:aG) (q:Cache) (out:List Int) (er:Int) (H:Nat→Prop) (w:World) (e:Ending) (w':World):Prop :=
 ∃ v,e=.returned (.tuple #[v,.int .i64 er]) ∧ ∃ H',fh X w' k c b m q H'∧lG N H H' w w'∧(er≠0→v=.slice none 0 0)∧(er=0→w'.ownsRow N 3 1 v out.length (aB out) ∧ ∀ g,v.ownBlock=some g → ¬ H' g)
theorem fh.M8 {X Y:Nat→Prop} {w:World} {k c b:Nat} {m:aG} {q:Cache} {H:Nat→Prop} (h:fh X w k c b m q H) (hY : ∀ i,Y i→X i):fh Y w k c b m q H :=
 h.grow (Touch.refl (fun _=>False) _) (fun _ h=>h.elim) (fun _ h=>h.elim) (fun _ h=>h.elim) (fun i h=>.inl (hY i h))
theorem dw.bare {w:World} {N sv k c b:Nat} {m:aG} {q:Cache} {left out:List Int} {H:Nat→Prop} {a:Option Addr} {cap:Nat} {v:Value} (hB:fh (Dk X sv v) w k c b m q H) (hS:om w N sv b a cap v left out H) (hN:0<m.ar.busy.length→m.ar.home<N):fh X w k c b m q H:=hB.M8 (fun i hi=>.inl hi)
theorem xJ (N sv k c b:Nat) (m:aG) (q:Cache) (left out:List Int) (H:Nat→Prop) (w:World) (h:dw X w N sv k c b m q left out H) (ok:m.Ok) (g:q.Good) (hx : ∀ x ∈ left,0≤x∧x<4096) (ho:out.length+left.length≤1000):Calls prog 131 #[.pointer (some ⟨sv,0,none⟩)] w (oh X N k c b (dF left out m q).1 (dF left out m q).2.1 (dF left out m q).2.2.1 (dF left out m q).2.2.2 H w):=by
 have H0:=zH (zA h (zA ok (zA g (zA hx ho))))
 obtain ⟨rr,hrr⟩ : ∃ rr,rr=dF left out m q:=⟨_,rfl⟩
 rw [← hrr]
 have HV:=zH hrr
 have hNw:N≤w.heap.size:=by
  obtain ⟨a,cap,v,hB,hS,hN⟩:=h
  have:=(Array.getElem?_eq_some_iff.1 hS.raw).1
  have:=hS.lo;omega
 have HNW:=zH hNw
 clear h ok g hx ho hrr hNw
 go_enter func131,ntmps131
 go_wp2
 go_loopg [4] (left.length) (fun n s4 wr => ∃ (lj oj:List Int) (mj:aG) (qj:Cache) (Hj:Nat→Prop),n=lj.length∧dw X wr N sv k c b mj qj lj oj Hj∧mj.Ok∧qj.Good∧(∀ x ∈ lj,0≤x∧x<4096)∧oj.length+lj.length≤1000∧lG N H Hj w wr∧rr=dF lj oj mj qj)
 case atStart=>exact ⟨left,out,m,q,H,rfl,H0.out.1,H0.out.2.1,H0.out.2.2.1,H0.out.2.2.2.1,H0.out.2.2.2.2,lG.refl _ _ _,HV.out⟩
 case round =>
  obtain ⟨lj,oj,mj,qj,Hj,hn,hS,hok,hg,hxs,hol,hov,hr⟩:=hrel
  cases lj with
  | nil =>
   obtain ⟨a,cap,v,hB,hS,hN⟩:=hS
   have hraw:=hS.raw
   have c1:wr.cell? ⟨sv,1,none⟩=some (.slice a 0 cap):=cell_of hraw 1
   have c2:wr.cell? ⟨sv,2,none⟩=some v:=cell_of hraw 2
   have HS:=zH (zA hB (zA hS (zA hN hov)))
   have HR:=zH (show rr=(mj,qj,oj,0) from hr)
   clear hB hS hN hraw hok hg hxs hol hov hr
   go_wp2
   go_ret2
   rw [HR.out]
   obtain ⟨hB,hS,hN,hov⟩:=HS.out
   exact ⟨v,rfl,Hj,dw.bare hB hS hN,hov,fun h=>absurd rfl h,fun _=>⟨hS.own,fun g hg=>(hS.vi g hg).2⟩⟩
  | cons x l =>
   have hone:=zP N sv k c b mj qj x l oj Hj wr hS hok hg (hxs x (by simp)).1 (hxs x (by simp)).2 (by simp at hol;omega)
   have hro:=lB hok hg x 1 (hxs x (by simp)).1
   obtain ⟨a,cap,v,hB,hSv,hN⟩:=hS
   have hraw:=hSv.raw
   have c1:wr.cell? ⟨sv,1,none⟩=some (.slice a (l.length+1) cap):=cell_of hraw 1
   have HONE:=zH hone
   have HRO:=zH hro
   have HR:=zH (show rr=if (bI mj qj x 1).2.2.2≠0 then ((bI mj qj x 1).1,(bI mj qj x 1).2.1,[],(bI mj qj x 1).2.2.2) else dF l (oj++[(bI mj qj x 1).2.2.1]) (bI mj qj x 1).1 (bI mj qj x 1).2.1 from hr)
   have HX:=zH (zA hxs (zA hol hov))
   have hl0:(0:Int)<((l.length+1:Nat):Int):=by omega
   clear hone hro hB hSv hN hraw hok hg hxs hol hov hr
   unfold eP at HONE
   generalize bI mj qj x 1=rd at *
   obtain ⟨m1,q1,y,er⟩:=rd
   simp only at HONE HRO HR
   by_cases he:er=0
   ·
    subst he
    rw [if_neg (by decide)] at HONE
    go_wp2_with fail
    refine HONE.out.mono ?_
    rintro e w2 ⟨rfl,H2,hS2,hO2,hT2⟩
    have HS2:=zH (zA hS2 hO2)
    clear hS2 hO2 hT2
    go_wp2
    go_roundg l.length
    case rel=>exact ⟨l,oj++[y],m1,q1,H2,rfl,HS2.out.1,HRO.out.1,HRO.out.2.1,fun x' hx'=>HX.out.1 x' (by simp [hx']),by have:=HX.out.2.1;simp at this ⊢;omega,HX.out.2.2.trans HNW.out HS2.out.2,HR.out.trans (if_neg (by decide))⟩
    case measure=>rw [hn];simp
   ·
    have he':(er != 0)=true:=bne_iff_ne.2 he
    have HE:=zH he
    rw [if_pos he] at HONE
    clear he
    go_wp2_with fail
    refine HONE.out.mono ?_
    rintro e w2 ⟨rfl,H2,hS2,hO2,hT2⟩
    have HS2:=zH (zA hS2 hO2)
    clear hS2 hO2 hT2
    go_wp2
    go_ret2
    rw [show rr=(m1,q1,[],er) from HR.out.trans (if_pos HE.out)]
    obtain ⟨⟨a2,cap2,v2,hB,hS,hN⟩,hO2⟩:=HS2.out
    exact ⟨_,rfl,H2,dw.bare hB hS hN,HX.out.2.2.trans HNW.out hO2,fun _=>rfl,fun h=>absurd h HE.out⟩
theorem Dl {w:World} {k c b cap:Nat} {m:aG} {q:Cache} {H:Nat→Prop} {a:Option Addr} {reads:List Int} (h:fh X w k c b m q H) (hi:aL w a reads H) (hc:reads.length≤cap) (hh:0<m.ar.busy.length→m.ar.home<w.heap.size):dw X (w.alloc (.cells #[.pointer (some ⟨b,0,none⟩),.slice a reads.length cap,.slice none 0 0] 222)) w.heap.size w.heap.size k c b m q reads [] H:=by
 have hb:Below w.heap.size w (w.alloc (.cells #[.pointer (some ⟨b,0,none⟩),.slice a reads.length cap,.slice none 0 0] 222)):=ae zR _
 have hlt : ∀ i,H i→i<w.heap.size:=fun i hi=>by
  obtain ⟨G,hc,⟨_,_,_,_,hw⟩,hH,_⟩:=h.ex
  rcases (hH i).1 hi with hg | hg
  ·
   exact hc.lt i hg
  ·
   rw [hg];exact (Array.getElem?_eq_some_iff.1 hw.raw).1
 refine ⟨a,cap,.slice none 0 0,?_,⟨af w _,zN,fun g hg=>by simp [Value.ownBlock] at hg,hi.step (Step.ah hb),fun b' o' e hl => ?_,hc,Nat.le_refl _,fun hf=>Nat.lt_irrefl _ (hlt _ hf)⟩,hh⟩
 ·
  refine h.grow (Touch.ah (F:=fun _=>False) hb) (fun _ h=>h.elim) (fun _ h=>h.elim) (fun _ h=>h.elim) (fun i hi => ?_)
  rcases hi with hi | hi | hi
  ·
   exact .inl hi
  ·
   exact .inr ⟨by omega,by rw [hi];simp⟩
  ·
   simp [Value.ownBlock] at hi
 ·
  obtain ⟨b2,o2,e2,h2⟩:=hi.1 0 hl
  rw [e] at e2
  obtain ⟨rfl,rfl⟩:b'=b2∧o'=o2:=by simpa using e2
  exact zL w _ h2
theorem oh.under {k c b:Nat} {m:aG} {q:Cache} {out:List Int} {er:Int} {H:Nat→Prop} {w0 w:World} {e:Ending} {w':World} (h:oh X w0.heap.size k c b m q out er H w e w') (hb:Below w0.heap.size w0 w) : ∃ v,e=.returned (.tuple #[v,.int .i64 er]) ∧ ∃ H',fh X w' k c b m q H'∧Step H H' w0 w'∧(er≠0→v=.slice none 0 0)∧(er=0→w'.ownsRow w0.heap.size 3 1 v out.length (aB out) ∧ ∀ g,v.ownBlock=some g → ¬ H' g):=by
 obtain ⟨v,e1,H',hB,hO,h1,h2⟩:=h
 exact ⟨v,e1,H',hB,lG.step (Step.ah hb) hO,h1,h2⟩
def vR (X:Nat→Prop) (k c b:Nat) (m:aG) (q:Cache) (out:List Int) (er:Int) (H:Nat→Prop) (w:World) (e:Ending) (w':World):Prop :=
 ∃ v,e=.returned (.tuple #[v,.int .i64 er]) ∧ ∃ H',fh X w' k c b m q H'∧Step H H' w w'∧(er≠0→v=.slice none 0 0)∧(er=0→w'.ownsRow w.heap.size 3 1 v out.length (aB out) ∧ ∀ g,v.ownBlock=some g → ¬ H' g)
theorem yM (k c b cap:Nat) (m:aG) (q:Cache) (a:Option Addr) (reads:List Int) (H:Nat→Prop) (w:World) (h:fh X w k c b m q H) (ok:m.Ok) (g:q.Good) (hi:aL w a reads H) (hc:reads.length≤cap) (hh:0<m.ar.busy.length→m.ar.home<w.heap.size) (hx : ∀ x ∈ reads,0≤x∧x<4096) (hl:reads.length≤16):Calls prog 174 #[.pointer (some ⟨b,0,none⟩),.slice a reads.length cap] w (vR X k c b (dF reads [] m q).1 (dF reads [] m q).2.1 (dF reads [] m q).2.2.1 (dF reads [] m q).2.2.2 H w):=by
 have HS:=zH (xJ w.heap.size w.heap.size k c b m q reads [] H _ (Dl h hi hc hh) ok g hx (by simp;omega))
 have HB:=zH (ae (Below.refl w.heap.size w) (.cells #[.pointer (some ⟨b,0,none⟩),.slice a reads.length cap,.slice none 0 0] 222))
 clear h ok g hi hh hx
 generalize dF reads [] m q=rr at *
 go_enter func174,ntmps174
 go_wp2_with fail
 refine HS.out.mono ?_
 rintro e w2 hp
 obtain ⟨v,rfl,H',h1⟩:=hp.under HB.out
 have H1:=zH h1
 clear h1 hp
 go_wp2
 go_ret2
 exact ⟨v,rfl,H',H1.out⟩
end
section
open Go.RowKit
variable {X:Nat→Prop}
theorem E6:gX 117 0 [] 0:=⟨by decide,by decide,by decide,fun _=>rfl,by decide,by decide,by decide,by decide,by decide⟩
theorem Kf:gX 122 0 [] 0:=⟨by decide,by decide,by decide,fun _=>rfl,by decide,by decide,by decide,by decide,by decide⟩
abbrev I1:=aG×Cache×List Int×List Int×Int
def ef (m:aG) (q:Cache) (x:Int) (left out:List Int):I1 :=
 if (m.run 117 0 [] 0).2.2≠0 then ((m.run 117 0 [] 0).1,q,x::left,out,(m.run 117 0 [] 0).2.2)
 else if (eP (m.run 117 0 [] 0).1 q x left out).2.2.2.2≠0 then eP (m.run 117 0 [] 0).1 q x left out
 else (((eP (m.run 117 0 [] 0).1 q x left out).1.run 122 0 [] 0).1,(eP (m.run 117 0 [] 0).1 q x left out).2.1,(eP (m.run 117 0 [] 0).1 q x left out).2.2.1,(eP (m.run 117 0 [] 0).1 q x left out).2.2.2.1,((eP (m.run 117 0 [] 0).1 q x left out).1.run 122 0 [] 0).2.2)
theorem Gc {m:aG} (ok:m.Ok) {q:Cache} (g:q.Good) (x:Int) (left out:List Int) (x0:0≤x):(eP m q x left out).1.Ok∧(eP m q x left out).2.1.Good∧bH m (eP m q x left out).1:=by
 have h:=lB ok g x 1 x0
 unfold eP
 split <;> exact h
theorem Dv {m:aG} (ok:m.Ok) {q:Cache} (g:q.Good) (x:Int) (left out:List Int) (x0:0≤x):(ef m q x left out).1.Ok∧(ef m q x left out).2.1.Good∧bH m (ef m q x left out).1:=by
 have o1:=eu ok 117 0 [] 0 E6
 have h1:=cO m 117 0 [] 0
 obtain ⟨o2,g2,h2⟩:=Gc o1 g x left out x0
 unfold ef
 split
 ·
  exact ⟨o1,g,h1⟩
 split
 ·
  exact ⟨o2,g2,h1.trans h2⟩
 ·
  exact ⟨eu o2 _ _ _ _ Kf,g2,(h1.trans h2).trans (cO _ _ _ _ _)⟩
theorem dw.wQ {w w':World} {N sv k c b:Nat} {m m':aG} {q:Cache} {left out:List Int} {H:Nat→Prop} {a:Option Addr} {cap:Nat} {v:Value} {G G':Nat→Prop} (hw:my w b k q (fun i=>G i∨Dk X sv v i)) (hH : ∀ i,H i ↔ (G i∨i=b)) (hh:0<m.ar.busy.length→m.ar.home≠b) (hS:om w N sv b a cap v left out H) (hN:0<m.ar.busy.length→m.ar.home<N) (hm:bH m m') (hc:bO (Dk X sv v) w' k c m' G') (st:Step G G' w w'):dw X w' N sv k c b m' q left out (fun i=>G' i∨i=b)∧Step H (fun i=>G' i∨i=b) w w':=by
 have stH:Step H (fun i=>G' i∨i=b) w w':=st.both hH (fun _=>Iff.rfl)
 exact ⟨⟨a,cap,v,fh.wQ hw hh hm hc st,hS.step stH,fun hl=>by rw [hm.1];exact hN (zV hl hm.2)⟩,stH⟩
theorem dw.aj {w w':World} {N sv k c b:Nat} {m:aG} {q:Cache} {left out:List Int} {H:Nat→Prop} (h:dw X w N sv k c b m q left out H) (hb:Below w.heap.size w w'):dw X w' N sv k c b m q left out H:=by
 obtain ⟨a,cap,v,hB,hS,hN⟩:=h
 exact ⟨a,cap,v,hB.aj hb,hS.step (Step.ah hb),hN⟩
theorem jT (N sv k c b x y z:Nat) (m:aG) (q:Cache) (left out:List Int) (H:Nat→Prop) (op p:Int) (w:World) (h:dw X w N sv k c b m q left out H) (ok:m.Ok) (rok:gX op p [] 0) (hx:w.cell? ⟨x,0,none⟩=some (.pointer (some ⟨k,0,none⟩))) (hy:w.cell? ⟨y,0,none⟩=some (.int .i64 op)) (hz:w.cell? ⟨z,0,none⟩=some (.int .i64 p)):Calls prog 169 #[.pointer (some ⟨x,0,none⟩),.pointer (some ⟨y,0,none⟩),.pointer (some ⟨z,0,none⟩)] w fun e w'=>e=.returned (.int .i64 (m.run op p [] 0).2.2) ∧ ∃ H',dw X w' N sv k c b (m.run op p [] 0).1 q left out H'∧Step H H' w w':=by
 obtain ⟨a,cap,v,hB,hS,hN⟩:=h
 obtain ⟨G,hc,hw,hH,hh⟩:=hB.ex
 refine (Bm k c x y z m G op p w hx hy hz hc ok rok).mono ?_
 rintro e w' ⟨rfl,G',hc',st⟩
 exact ⟨rfl,_,dw.wQ hw hH hh hS hN (cO m op p [] 0) hc' st⟩
structure vW (w:World) (n sv k:Nat):Prop where
 x1:w.cell? ⟨n,0,none⟩=some (.pointer (some ⟨k,0,none⟩))
 y1:w.cell? ⟨n+1,0,none⟩=some (.int .i64 117)
 z1:w.cell? ⟨n+2,0,none⟩=some (.int .i64 0)
 x3:w.cell? ⟨n+3,0,none⟩=some (.pointer (some ⟨k,0,none⟩))
 y3:w.cell? ⟨n+4,0,none⟩=some (.int .i64 122)
 z3:w.cell? ⟨n+5,0,none⟩=some (.int .i64 0)
 f1:w.cell? ⟨n+6,0,none⟩=some (.func (.func 169) #[] #[.pointer (some ⟨n,0,none⟩),.pointer (some ⟨n+1,0,none⟩),.pointer (some ⟨n+2,0,none⟩)])
 f2:w.cell? ⟨n+6,1,none⟩=some (.func (.func 168) #[.pointer (some ⟨sv,0,none⟩)] #[])
 f3:w.cell? ⟨n+6,2,none⟩=some (.func (.func 169) #[] #[.pointer (some ⟨n+3,0,none⟩),.pointer (some ⟨n+4,0,none⟩),.pointer (some ⟨n+5,0,none⟩)])
theorem vW.aH {w w':World} {n sv k:Nat} {F:Nat→Prop} (h:vW w n sv k) (t:Touch F w w') (d : ∀ i,n≤i→i<n+7 → ¬ F i):vW w' n sv k :=
 ⟨t.cell _ _ h.x1 (d _ (by omega) (by omega)),t.cell _ _ h.y1 (d _ (by omega) (by omega)),t.cell _ _ h.z1 (d _ (by omega) (by omega)),t.cell _ _ h.x3 (d _ (by omega) (by omega)),t.cell _ _ h.y3 (d _ (by omega) (by omega)),t.cell _ _ h.z3 (d _ (by omega) (by omega)),t.cell _ _ h.f1 (d _ (by omega) (by omega)),t.cell _ _ h.f2 (d _ (by omega) (by omega)),t.cell _ _ h.f3 (d _ (by omega) (by omega))⟩
def Nx (n sv:Nat):Nat→MO
 | 0=>⟨169,#[],#[.pointer (some ⟨n,0,none⟩),.pointer (some ⟨n+1,0,none⟩),.pointer (some ⟨n+2,0,none⟩)]⟩
 | 1=>⟨168,#[.pointer (some ⟨sv,0,none⟩)],#[]⟩
 | _=>⟨169,#[],#[.pointer (some ⟨n+3,0,none⟩),.pointer (some ⟨n+4,0,none⟩),.pointer (some ⟨n+5,0,none⟩)]⟩
def AK (w:World) (n sv:Nat) (H:Nat→Prop):Prop:=n+7≤w.heap.size ∧ ∀ i,n≤i→i<n+7 → ¬ Ao w sv H i
attribute [local irreducible] aG.run bI
def MT (X:Nat→Prop) (w0:World) (N sv k c b n:Nat) (m:aG) (q:Cache) (x:Int) (left out:List Int) (H:Nat→Prop):Nat→World→Prop
 | 0,w=>w=w0
 | 1,w=>vW w n sv k∧(m.run 117 0 [] 0).2.2=0 ∧ ∃ H',dw X w N sv k c b (m.run 117 0 [] 0).1 q (x::left) out H'∧cB N sv H H' w0 w∧AK w n sv H'
 | 2,w=>vW w n sv k∧(m.run 117 0 [] 0).2.2=0∧(eP (m.run 117 0 [] 0).1 q x left out).2.2.2.2=0 ∧ ∃ H',dw X w N sv k c b (eP (m.run 117 0 [] 0).1 q x left out).1 (eP (m.run 117 0 [] 0).1 q x left out).2.1 (eP (m.run 117 0 [] 0).1 q x left out).2.2.1 (eP (m.run 117 0 [] 0).1 q x left out).2.2.2.1 H'∧cB N sv H H' w0 w
 | _,w=>(ef m q x left out).2.2.2.2=0 ∧ ∃ H',dw X w N sv k c b (ef m q x left out).1 (ef m q x left out).2.1 (ef m q x left out).2.2.1 (ef m q x left out).2.2.2.1 H'∧cB N sv H H' w0 w
def MS (X:Nat→Prop) (w0:World) (N sv k c b:Nat) (m:aG) (q:Cache) (x:Int) (left out:List Int) (H:Nat→Prop) (er:Int) (w:World):Prop :=
 er=(ef m q x left out).2.2.2.2 ∧ ∃ H',dw X w N sv k c b (ef m q x left out).1 (ef m q x left out).2.1 (ef m q x left out).2.2.1 (ef m q x left out).2.2.2.1 H'∧cB N sv H H' w0 w
theorem ML (args:Array Value) (w:World):(callFunc 168 args).run prog w=.ok (.enter 168 args) w:=by kernel_rfl
theorem Fg (N sv k c b n:Nat) (m:aG) (q:Cache) (x:Int) (left out:List Int) (H:Nat→Prop) (w0:World) (h:dw X w0 N sv k c b m q (x::left) out H) (ok:m.Ok) (g:q.Good) (x0:0≤x) (x1:x<4096) (ho:out.length≤1000) (hF:vW w0 n sv k) (hO:AK w0 n sv H) (hNw:N≤w0.heap.size):Calls prog 128 #[.slice (some ⟨n+6,0,none⟩) 3 3] w0 (pC 3 (MT X w0 N sv k c b n m q x left out H) (MS X w0 N sv k c b m q x left out H)):=by
 have o1:=eu ok 117 0 [] 0 E6
 obtain ⟨o2,g2,h2⟩:=Gc o1 g x left out x0
 refine nV (n+6) 3 3 (Nx n sv) _ _ w0 rfl (by decide) ?_ ?_ ?_
 ·
  intro j w hj hS
  obtain rfl | rfl | rfl:j=0∨j=1∨j=2:=by omega
  ·
   rw [show w=w0 from hS];exact hF.f1
  ·
   exact hS.1.f2
  ·
   exact hS.1.f3
 ·
  intro j hj args w
  obtain rfl | rfl | rfl:j=0∨j=1∨j=2:=by omega
  ·
   exact Bk args w
  ·
   exact ML args w
  ·
   exact Bk args w
 ·
  intro j w hj hS
  obtain rfl | rfl | rfl:j=0∨j=1∨j=2:=by omega
  ·
   obtain rfl:w=w0:=hS
   refine (jT N sv k c b n (n+1) (n+2) m q (x::left) out H 117 0 w h ok E6 hF.x1 hF.y1 hF.z1).mono ?_
   rintro e w' ⟨rfl,H',hS',st⟩
   by_cases he:(m.run 117 0 [] 0).2.2=0
   ·
    refine ⟨_,rfl,.inl ⟨he,hF.aH st.aH (fun i h1 h2 hh=>hO.2 i h1 h2 (.inl hh)),he,H',hS',cB.fX h st,Nat.le_trans hO.1 st.aH.size,fun i h1 h2 hy => ?_⟩⟩
    have hil:i<w.heap.size:=by have:=hO.1;omega
    rcases hy with hy | hy | ⟨v,hv,hv2⟩
    ·
     exact (st.gP i hy).elim (fun hh=>hO.2 i h1 h2 (.inl hh)) (fun hl=>by omega)
    ·
     exact hO.2 i h1 h2 (.inr (.inl hy))
    ·
     obtain ⟨a,cap,v',hB,hSv,hN⟩:=h
     have e1:w.cell? ⟨sv,2,none⟩=some v':=cell_of hSv.raw 2
     have e2:=st.aH.cell _ _ e1 hSv.fA
     rw [hv] at e2
     obtain rfl:v=v':=by simpa using e2
     exact hO.2 i h1 h2 (.inr (.inr ⟨v,e1,hv2⟩))
   ·
    have e:ef m q x left out=((m.run 117 0 [] 0).1,q,x::left,out,(m.run 117 0 [] 0).2.2):=if_pos he
    exact ⟨_,rfl,.inr ⟨he,by rw [e],H',by rw [e];exact hS',cB.fX h st⟩⟩
  ·
   obtain ⟨hF1,he1,H1,hS1,hO1,hf1⟩:=hS
   refine (zP N sv k c b (m.run 117 0 [] 0).1 q x left out H1 w hS1 o1 g x0 x1 ho).mono ?_
   rintro e w' ⟨rfl,H',hS',hOv⟩
   have hov:=hO1.trans hNw hOv
   by_cases he:(eP (m.run 117 0 [] 0).1 q x left out).2.2.2.2=0
   ·
    exact ⟨_,rfl,.inl ⟨he,hF1.aH hOv.2.aH hf1.2,he1,he,H',hS',hov⟩⟩
   ·
    have e:ef m q x left out=eP (m.run 117 0 [] 0).1 q x left out:=(if_neg (by simpa using he1)).trans (if_pos he)
    exact ⟨_,rfl,.inr ⟨he,by rw [e],H',by rw [e];exact hS',hov⟩⟩
  ·
   obtain ⟨hF1,he1,he2,H1,hS1,hO1⟩:=hS
   refine (jT N sv k c b (n+3) (n+4) (n+5) _ _ _ _ H1 122 0 w hS1 o2 Kf hF1.x3 hF1.y3 hF1.z3).mono ?_
   rintro e w' ⟨rfl,H',hS',st⟩
   have hov:=hO1.trans hNw (cB.fX hS1 st)
   have e:ef m q x left out=(((eP (m.run 117 0 [] 0).1 q x left out).1.run 122 0 [] 0).1,(eP (m.run 117 0 [] 0).1 q x left out).2.1,(eP (m.run 117 0 [] 0).1 q x left out).2.2.1,(eP (m.run 117 0 [] 0).1 q x left out).2.2.2.1,((eP (m.run 117 0 [] 0).1 q x left out).1.run 122 0 [] 0).2.2) :=
    (if_neg (by simpa using he1)).trans (if_neg (by simpa using he2))
   by_cases he:((eP (m.run 117 0 [] 0).1 q x left out).1.run 122 0 [] 0).2.2=0
   ·
    exact ⟨_,rfl,.inl ⟨he,by rw [e];exact he,H',by rw [e];exact hS',hov⟩⟩
   ·
    exact ⟨_,rfl,.inr ⟨he,by rw [e],H',by rw [e];exact hS',hov⟩⟩
end
end Go.Proofs.YtcfdenckiigdaaaGreat

/- Part 20 of the contracts. -/
import Derived.Test.YtcfdenckiigdaaaGreatFl19
set_option linter.unusedVariables false
set_option maxRecDepth 100000
set_option maxHeartbeats 4000000
namespace Go.Proofs.YtcfdenckiigdaaaGreat
open Tryz
section
open Go.RowKit
variable {X:Nat→Prop}
theorem DZ {v wr:World} {nb:Nat} {w:World} {xs:List Int} (h:fK w wr nb xs.length xs.length xs) (e : ∀ j x,wr.cell? ⟨nb,j,none⟩=some x→v.cell? ⟨nb,j,none⟩=some x):(convert 29 9 (.slice (some ⟨nb,0,none⟩) xs.length xs.length)).run prog v=.ok (.string (eE xs)) v:=by
 have:=run_convert_bytes_back (P:=prog) v 29 9 5 ⟨nb,0,none⟩ xs.length (bytesOf xs) underlying29 underlying5 underlying9 (fun j hj=>by
  have hj':j<xs.length:=by simpa [bytesOf] using hj
  obtain ⟨x,hx,hx2⟩:=h.cell j hj'
  rw [di,Nat.zero_add,e _ _ hx,hx2 hj']
  simp [bytesOf,List.getD,List.getElem?_eq_getElem hj'])
 rw [show (bytesOf xs).length=xs.length by simp [bytesOf]] at this
 exact this
theorem JZ (p:Int) (h0:0≤p) (h1:p<4096):gX 235 p [160] 16:=⟨by decide,h0,h1,fun e=>absurd e (by decide),by decide,by decide,by decide,by decide,by decide⟩
theorem Mk (w:World) (x:Int) (G:Nat→Prop) (hG : ∀ b,G b→b<w.heap.size):aN (w.alloc (.cells #[.int .i64 x] 3)) (some ⟨w.heap.size,0,none⟩) [x] G :=
 ⟨aU.of fun i hi=>by
  have hi:i<1:=hi
  obtain rfl:i=0:=by omega
  exact cell_of (af w _) 0,fun b o e _ hg=>by
  obtain ⟨rfl,rfl⟩:w.heap.size=b∧0=o:=by simpa using e
  exact absurd (hG _ hg) (by omega)⟩
def fc (m:aG) (q:Cache) (x:Int):aG×Cache×Int :=
 if (m.run 5 0 [] 1).2.2≠0 then ((m.run 5 0 [] 1).1,q,(m.run 5 0 [] 1).2.2)
 else if (m.run 5 0 [] 1).2.1.headD 0 % 2≠0 then ((m.run 5 0 [] 1).1,q,1301)
 else if ((m.run 5 0 [] 1).1.run 235 (aM x) [160] 16).2.2≠0 then (((m.run 5 0 [] 1).1.run 235 (aM x) [160] 16).1,q,((m.run 5 0 [] 1).1.run 235 (aM x) [160] 16).2.2)
 else (((m.run 5 0 [] 1).1.run 235 (aM x) [160] 16).1,q.keep (aM x) (eE ((m.run 5 0 [] 1).1.run 235 (aM x) [160] 16).2.1),0)
theorem CD {m:aG} (ok:m.Ok) {q:Cache} (g:q.Good) (x:Int) (x0:0≤x) (x1:x<4096):(fc m q x).1.Ok∧(fc m q x).2.1.Good∧bG m (fc m q x).1:=by
 have o1:=ew ok 5 0 [] 1 yq
 have hf:0≤aM x∧aM x<4096∧aM x % 16=0:=by unfold aM;omega
 have o2:=ew o1 235 (aM x) [160] 16 (JZ _ hf.1 hf.2.1)
 have h1:=cQ m 5 0 [] 1
 have h2:=h1.trans (cQ (m.run 5 0 [] 1).1 235 (aM x) [160] 16)
 unfold fc
 split
 ·
  exact ⟨o1,g,h1⟩
 split
 ·
  exact ⟨o1,g,h1⟩
 split
 ·
  exact ⟨o2,g,h2⟩
 ·
  rename_i hh
  refine ⟨o2,zv g _ _ hf.1 hf.2.1 hf.2.2 ?_,h2⟩
  rw [fh]
  exact nM (by decide) (by simpa using hh)
theorem Al {w w2:World} {k c b ab0 ac0 tb0 tc0 ab ac tb tc:Nat} {m:aG} {q0 q:Cache} {G:Nat→Prop} (hc:bO X w k c m G) (hw:IQ w b k ab0 ac0 tb0 tc0 q0 (fun i=>G i∨X i)) (hh:0<m.ar.busy.length→m.ar.home≠b) (hb:Below w.heap.size w w2) (hC:dz w2 ab ac tb tc q) (la:w.heap.size≤ab) (lt:w.heap.size≤tb) {H:Nat→Prop} (hH : ∀ i,H i ↔ (G i∨i=b)) (w3:World) (e3:w3=w2.setRow b (ku k ab ac tb tc q.next)):fD X w3 k c b m q H∧Step H H w w3:=by
 subst e3
 have hG:=hc.lt
 have hbl:b<w.heap.size:=(Array.getElem?_eq_some_iff.1 hw.raw).1
 have t:Touch (aO b) w (w2.setRow b (ku k ab ac tb tc q.next)):=jy (Touch.ah hb) b _ rfl
 have hr2:=aa hb hw.raw
 have ec : ∀ x i v,x≠b→w2.cell? ⟨x,i,none⟩=some v→(w2.setRow b (ku k ab ac tb tc q.next)).cell? ⟨x,i,none⟩=some v:=fun x i v hx hv=>by
  unfold World.cell? at hv ⊢
  rw [bj _ _ _ _ hx];exact hv
 have hodd:L1 w b:=mA.odd ⟨ab0,ac0,tb0,tc0,hw⟩
 exact ⟨⟨⟨G,hc.fB t (fun x hx hg=>by rw [show x=b from hx] at hg;exact hw.out.1 (.inl hg)) (fun hl hx=>hh hl hx) (fun x hx _=>by rw [show x=b from hx];exact .inl hodd),⟨ab,ac,tb,tc,setRow_heap _ _ _ _ _ _ hr2,hC.cap,ec _ _ _ (by omega) hC.a0,ec _ _ _ (by omega) hC.a1,ec _ _ _ (by omega) hC.t0,ec _ _ _ (by omega) hC.t1,⟨hw.out.1,fun hg=>by have:=hg.elim (hG _) (hc.Na _);omega,fun hg=>by have:=hg.elim (hG _) (hc.Na _);omega⟩,by omega,by omega⟩,hH,hh⟩⟩,Step.dD (t.mono fun x hx=>(hH x).2 (.inr hx))⟩
theorem Ev (k c b:Nat) (m:aG) (q:Cache) (H:Nat→Prop) (x:Int) (w:World) (h:fD X w k c b m q H) (ok:m.Ok) (g:q.Good) (x0:0≤x) (x1:x<4096):Calls prog 99 #[.pointer (some ⟨b,0,none⟩),.int .i64 x] w (Bq X (fc m q x).2.2 k c b (fc m q x).1 (fc m q x).2.1 H w):=by
 obtain ⟨G,hc,hw,hH,hh⟩:=h.ex
 have hf:0≤aM x∧aM x<4096∧aM x % 16=0:=by unfold aM;omega
 have HF:=zH hf
 have o1:=ew ok 5 0 [] 1 yq
 have HR:=zH (fj k c m G 5 0 none [] 0 1 w hc ok yq (nF w G) (fun _=>rfl) (by simp))
 have HR2:=zH (fun G1 w1 a cap (h:bO X w1 k c (m.run 5 0 [] 1).1 G1) hs hn hcap=>fj k c (m.run 5 0 [] 1).1 G1 235 (aM x) a [160] cap 16 w1 h o1 (JZ _ hf.1 hf.2.1) hs hn hcap)
 have HL:=zH (fun h=>nM (m:=m) (b:=5) (at_:=0) (xs:=[]) (read:=1) (by decide) h)
 have HL2:=zH (fun h=>nM (m:=(m.run 5 0 [] 1).1) (b:=235) (at_:=aM x) (xs:=[160]) (read:=16) (by decide) h)
 have HE:=zH (lU m 5 0 [] 1)
 have HE2:=zH (lU (m.run 5 0 [] 1).1 235 (aM x) [160] 16)
 have HO1:=zH (cQ m 5 0 [] 1)
 have HO2:=zH (cQ (m.run 5 0 [] 1).1 235 (aM x) [160] 16)
 have HV:=zH (show fc m q x=if (m.run 5 0 [] 1).2.2≠0 then ((m.run 5 0 [] 1).1,q,(m.run 5 0 [] 1).2.2) else if (m.run 5 0 [] 1).2.1.headD 0 % 2≠0 then ((m.run 5 0 [] 1).1,q,1301) else if ((m.run 5 0 [] 1).1.run 235 (aM x) [160] 16).2.2≠0 then (((m.run 5 0 [] 1).1.run 235 (aM x) [160] 16).1,q,((m.run 5 0 [] 1).1.run 235 (aM x) [160] 16).2.2) else (((m.run 5 0 [] 1).1.run 235 (aM x) [160] 16).1,q.keep (aM x) (eE ((m.run 5 0 [] 1).1.run 235 (aM x) [160] 16).2.1),0) from rfl)
 have HX:=zH (zA hw (zA hH hh))
 have hg:=zH g
 have c0:w.cell? ⟨b,0,none⟩=some (.pointer (some ⟨k,0,none⟩)):=by obtain ⟨_,_,_,_,hw⟩:=hw;exact cell_of hw.raw 0
 clear h hc hw hH hh ok g o1 hf
 generalize fc m q x=rr at *
 generalize m.run 5 0 [] 1=r at *
 obtain ⟨m1,xs,er⟩:=r
 simp only at HR HR2 HL HL2 HE HE2 HO1 HO2 HV
 generalize m1.run 235 (aM x) [160] 16=r2 at *
 obtain ⟨m2,ys,er2⟩:=r2
 simp only at HR2 HL2 HE2 HO2 HV
 simp only [List.length_nil] at HR
 rcases HE.out with he | ⟨he,hx⟩
 ·
  subst he
  have hl:xs.length=1:=HL.out (by trivial)
  obtain ⟨y,rfl⟩ : ∃ y,xs=[y]:=List.length_eq_one_iff.1 hl
  have ha:bits .and .i64 y 1=y % 2:=Gq y
  clear hl
  go_enter func99,ntmps99
  go_wp2_with fail
  refine HR.out.mono ?_
  rintro e w1 ⟨a,cp,G1,rfl,hc,hs,st⟩
  obtain ⟨d,o,rfl,hcell⟩:=hs.1 0 (by simp)
  rw [Nat.add_zero] at hcell
  have hcell:w1.cell? ⟨d,o,none⟩=some (.int .i64 y):=hcell
  have hw1:=HX.out.1.step (Step.Mu (Y:=X) st)
  have c1:w1.cell? ⟨b,0,none⟩=some (.pointer (some ⟨k,0,none⟩)):=by obtain ⟨_,_,_,_,hw⟩:=hw1;exact cell_of hw.raw 0
  have H1:=zH (zA hc (zA hw1 st))
  have i0:(0:Int)<1:=by decide
  clear hc hs st hw1 HR c0
  simp only [List.length_singleton]
  by_cases hy:y % 2=0
  ·
   have HB1:=zH (ae (Below.refl w1.heap.size w1) (.cells #[.int .i64 160] 3))
   have HT:=zH (Mk w1 160 G1 H1.out.1.lt)
   have HY:=zH hy
   go_wp2_with (first | (go_at_call 140;refine (iP x _ x0 x1).mono ?_;rintro e w1 ⟨rfl,rfl⟩))
   refine (HR2.out G1 _ _ 1 (H1.out.1.aj HB1.out) HT.out (fun e=>by cases e) (by simp)).mono ?_
   rintro e w2 ⟨a2,cp2,G2,rfl,hc,hs,st⟩
   have st2:=H1.out.2.2.trans ((Step.ah HB1.out).trans st)
   have hw2:=HX.out.1.step (Step.Mu (Y:=X) st2)
   have c2:w2.cell? ⟨b,0,none⟩=some (.pointer (some ⟨k,0,none⟩)):=by obtain ⟨_,_,_,_,hw⟩:=hw2;exact cell_of hw.raw 0
   have H2:=zH (zA hc (zA hw2 st2))
   have HI2:=zH hs
   clear hc hs st st2 hw2 c1
   rcases HE2.out with he | ⟨he,hx⟩
   ·
    subst he
    have hl:ys.length=16:=HL2.out (by trivial)
    have HLEN:=zH hl
    have hmk:=fun w=>run_make_row' (P:=prog) 29 5 (.int .u8 0) 1 underlying29 mG rfl .i64 .i64 ys.length (by omega) (by omega) w
    have hlq:(ys.length:Int)<100000:=by omega
    clear hl
    go_wp2_with fail
    have hs:=fK.start (w:=w2) ys.length ys
    have HS:=zH hs
    generalize hW:w2.alloc (.cells (madeCells #[.int .u8 0] ys.length) 5)=w3 at *
    clear hmk hs hW
    go_loopw [47] (fun i wr => ∃ k:Nat,i=.int .i64 k∧k≤ys.length∧fK w2 wr w2.heap.size ys.length k ys) (fun i _=>ys.length - (intOf i).toNat)
    case atStart=>exact ⟨0,rfl,Nat.zero_le _,HS.out⟩
    case round =>
     obtain ⟨j,rfl,hk,hB⟩:=hrel
     by_cases hlt:j<ys.length
     ·
      obtain ⟨d2,o2,rfl,hc⟩:=(HI2.out.1.aj hB.below) j hlt
      obtain ⟨z,hz,_⟩:=hB.cell j hlt
      have hf:=hB.free j
      have hconv:=oI (ys.getD j 0)
      have HN:=zH (hB.next zY hlt)
      rw [hconv] at HN
      clear hB hconv
      generalize hx:ys.getD j 0=x' at *
      clear hx
      go_wp2
      go_roundw
      case rel=>exact ⟨j+1,by go_num,by omega,HN.out⟩
      case measure=>simp [intOf];omega
     ·
      obtain rfl:j=ys.length:=by omega
      have HD:=zH hB
      have HBB:=zH hB.below
      obtain ⟨ab0,ac0,tb0,tc0,hwr⟩:=H2.out.2.1
      have hraw:=aa hB.below hwr.raw
      have HRAW:=zH hraw
      have HW0:=zH hwr
      have k1:wr.cell? ⟨b,1,none⟩=some (.slice (some ⟨ab0,0,none⟩) 2 ac0):=cell_of hraw 1
      have k2:wr.cell? ⟨b,2,none⟩=some (.slice (some ⟨tb0,0,none⟩) 2 tc0):=cell_of hraw 2
      have k3:wr.cell? ⟨b,3,none⟩=some (.int .i64 q.next):=cell_of hraw 3
      have hback:=DZ (v:=wr.drew) hB (fun j x h=>h)
      have HCI:=zH ((show dz w2 ab0 ac0 tb0 tc0 q from ⟨hwr.cap,hwr.a0,hwr.a1,hwr.t0,hwr.t1⟩).aj hB.below)
      have hts:(eE ys).size=16:=(fh ys).trans HLEN.out
      have HKP:=zH (xe ab0 ac0 tb0 tc0 q (aM x) (eE ys) wr.drew (HCI.out.aj (au zR)) hg.out HF.out.1 HF.out.2.1 HF.out.2.2 hts)
      clear hB hwr hraw hts
      go_wp2_with fail
      refine wp_region_noPanic ?_
      refine wp_region_held_drew (S:=(fun _=>True)) (by kernel_rfl) (by (try dsimp only);first | done | exact trivial) fun hHeld => ?_
      refine tk 0 ?_
      refine tk 1 ?_
      refine tk 2 ?_
      refine tk 3 ?_
      refine tk 5 ?_
      refine tk 6 ?_
      refine wpAnyH_ready (rs:=[4,7]) (by kernel_rfl) (by simp) ?_
      refine (AllReadyH.cons (o:=⟨some 63,.load 188 (.tmp 62),188, "window.go:55",#[⟨3,.data⟩],none⟩) rfl (fun K hK => ?_) (AllReadyH.cons (o:=⟨some 66,.convert 29 9 (.tmp 65),9, "window.go:55",#[⟨6,.data⟩],none⟩) rfl (fun K hK => ?_) AllReadyH.nil))
      ·
       skip
       go_simp
       refine hK.out _ _ (by (try dsimp only);first | done | exact trivial) fun hHeld => ?_
       clear hK K
       try simp only [Act.put,zS,zT,zU]
       refine tr 7 fun K hK => ?_
       go_simp
       refine hK.out _ _ (by (try dsimp only);first | done | exact trivial) fun hHeld => ?_
       clear hK K
       try simp only [Act.put,zS,zT,zU]
       refine tr 8 fun K hK => ?_
       go_simp
       refine HKP.out.mono ?_
       rintro e w5 ⟨a5,t5,ca5,ct5,rfl,hC5,la5,lt5,hb5⟩
       have hraw5:=aa hb5 HRAW.out
       go_wp2_with fail
       refine hK.out _ _ (by (try dsimp only);first | done | exact trivial) fun hHeld => ?_
       clear hK K
       try simp only [Act.put,zS,zT,zU]
       refine tk 9 ?_
       refine tk 10 ?_
       refine tk 11 ?_
       refine tk 12 ?_
       refine tk 13 ?_
       refine tr 14 fun K hK => ?_
       refine fg rfl 188 (.tmp 71) (.tmp 68) rfl rfl b 1 #[.slice (some ⟨a5,0,none⟩) 2 ca5,.slice (some ⟨t5,0,none⟩) 2 ct5,.int .i64 (q.keep (aM x) (eE ys)).next] (by kernel_rfl) (by kernel_rfl) 190 (ku k ab0 ac0 tb0 tc0 q.next) hraw5 rfl (Nat.le_of_ble_eq_true rfl) (by kernel_rfl) (fun w9 hw9 hz9 => ?_)
       refine hK.out _ _ (by (try dsimp only);first | done | exact trivial) fun hHeld => ?_
       clear hK K
       try simp only [Act.put,zS,zT,zU]
       refine wpAnyH_done (by kernel_rfl) ?_ _
       refine NoPanic.normal ?_
       go_wp2
       go_ret
       rw [show rr=(m2,q.keep (aM x) (eE ys),0) from HV.out.trans ((if_neg (by decide)).trans ((if_neg (by simpa using HY.out)).trans (if_neg (by decide))))]
       have hbx:=gtr (au HBB.out) hb5
       have hs2:=HBB.out.size
       have la5:wr.heap.size≤a5:=la5
       have lt5:wr.heap.size≤t5:=lt5
       obtain ⟨hB9,hS9⟩:=Al (H:=fun i=>G2 i∨i=b) H2.out.1 HW0.out (fun hl=>by rw [HO2.out.1,HO1.out.1];exact HX.out.2.2 (zV hl (HO1.out.trans HO2.out).2)) hbx hC5 (by omega) (by omega) (fun _=>Iff.rfl) w9 hw9.out
       exact ⟨rfl,_,hB9,(H2.out.2.2.both HX.out.2.1 (fun _=>Iff.rfl)).trans hS9⟩
      ·
       skip
       go_simp
       refine hK.out _ _ (by (try dsimp only);first | done | exact trivial) fun hHeld => ?_
       clear hK K
       try simp only [Act.put,zS,zT,zU]
       refine tr 4 fun K hK => ?_
       go_simp
       refine hK.out _ _ (by (try dsimp only);first | done | exact trivial) fun hHeld => ?_
       clear hK K
       try simp only [Act.put,zS,zT,zU]
       refine tr 8 fun K hK => ?_
       go_simp
       refine HKP.out.mono ?_
       rintro e w5 ⟨a5,t5,ca5,ct5,rfl,hC5,la5,lt5,hb5⟩
       have hraw5:=aa hb5 HRAW.out
       go_wp2_with fail
       refine hK.out _ _ (by (try dsimp only);first | done | exact trivial) fun hHeld => ?_
       clear hK K
       try simp only [Act.put,zS,zT,zU]
       refine tk 9 ?_
       refine tk 10 ?_
       refine tk 11 ?_
       refine tk 12 ?_
       refine tk 13 ?_
       refine tr 14 fun K hK => ?_
       refine fg rfl 188 (.tmp 71) (.tmp 68) rfl rfl b 1 #[.slice (some ⟨a5,0,none⟩) 2 ca5,.slice (some ⟨t5,0,none⟩) 2 ct5,.int .i64 (q.keep (aM x) (eE ys)).next] (by kernel_rfl) (by kernel_rfl) 190 (ku k ab0 ac0 tb0 tc0 q.next) hraw5 rfl (Nat.le_of_ble_eq_true rfl) (by kernel_rfl) (fun w9 hw9 hz9 => ?_)
       refine hK.out _ _ (by (try dsimp only);first | done | exact trivial) fun hHeld => ?_
       clear hK K
       try simp only [Act.put,zS,zT,zU]
       refine wpAnyH_done (by kernel_rfl) ?_ _
       refine NoPanic.normal ?_
       go_wp2
       go_ret
       rw [show rr=(m2,q.keep (aM x) (eE ys),0) from HV.out.trans ((if_neg (by decide)).trans ((if_neg (by simpa using HY.out)).trans (if_neg (by decide))))]
       have hbx:=gtr (au HBB.out) hb5
       have hs2:=HBB.out.size
       have la5:wr.heap.size≤a5:=la5
       have lt5:wr.heap.size≤t5:=lt5
       obtain ⟨hB9,hS9⟩:=Al (H:=fun i=>G2 i∨i=b) H2.out.1 HW0.out (fun hl=>by rw [HO2.out.1,HO1.out.1];exact HX.out.2.2 (zV hl (HO1.out.trans HO2.out).2)) hbx hC5 (by omega) (by omega) (fun _=>Iff.rfl) w9 hw9.out
       exact ⟨rfl,_,hB9,(H2.out.2.2.both HX.out.2.1 (fun _=>Iff.rfl)).trans hS9⟩
   ·
    subst he
    subst hx
    go_wp2
    go_ret
    rw [show rr=(m2,q,1101) from HV.out.trans ((if_neg (by decide)).trans ((if_neg (by simpa using HY.out)).trans (if_pos (by decide))))]
    exact ⟨rfl,_,fD.wK HX.out.1 HX.out.2.2 (HO1.out.trans HO2.out) H2.out.1 H2.out.2.2,H2.out.2.2.both HX.out.2.1 (fun _=>Iff.rfl)⟩
  ·
   have HY:=zH hy
   go_wp2
   go_ret
   rw [show rr=(m1,q,1301) from HV.out.trans ((if_neg (by decide)).trans (if_pos HY.out))]
   exact ⟨rfl,_,fD.wK HX.out.1 HX.out.2.2 HO1.out H1.out.1 H1.out.2.2,H1.out.2.2.both HX.out.2.1 (fun _=>Iff.rfl)⟩
 ·
  subst he
  subst hx
  go_enter func99,ntmps99
  go_wp2_with fail
  refine HR.out.mono ?_
  rintro e w1 ⟨a,cp,G1,rfl,hc,hs,st⟩
  have H1:=zH (zA hc st)
  clear hc hs st HR c0
  go_wp2
  go_ret
  rw [show rr=(m1,q,1101) from HV.out.trans (if_pos (by decide))]
  exact ⟨rfl,_,fD.wK HX.out.1 HX.out.2.2 HO1.out H1.out.1 H1.out.2,H1.out.2.both HX.out.2.1 (fun _=>Iff.rfl)⟩
end
section
open Go.RowKit
variable {X:Nat→Prop}
def yx (b:Int) (j:Nat):Int:=wrap64 (b * 2 ^ (8 * j))
def fy:Nat→Nat→Int→aG→Cache→Int→aG×Cache×Int×Int
 | 0,_,y,m,q,_=>(m,q,y,0)
 | n+1,j,y,m,q,at_ =>
  if (q.find (at_+j)).2=true then fy n (j+1) (bits .or .i64 y (yx (q.find (at_+j)).1 j)) m q at_
  else if (fc m q (at_+j)).2.2≠0 then ((fc m q (at_+j)).1,(fc m q (at_+j)).2.1,0,(fc m q (at_+j)).2.2)
  else fy n (j+1) (bits .or .i64 y (yx ((fc m q (at_+j)).2.1.find (at_+j)).1 j)) (fc m q (at_+j)).1 (fc m q (at_+j)).2.1 at_
theorem tz : ∀ (n j:Nat) (y:Int) (m:aG) (q:Cache) (at_:Int),m.Ok→q.Good→0≤at_→at_+j+n≤4096→(fy n j y m q at_).1.Ok∧(fy n j y m q at_).2.1.Good∧bG m (fy n j y m q at_).1
 | 0,j,y,m,q,at_,ok,g,h0,h1=>⟨ok,g,bG.refl m⟩
 | n+1,j,y,m,q,at_,ok,g,h0,h1=>by
  obtain ⟨l1,l2,l3⟩:=CD ok g (at_+j) (by omega) (by omega)
  unfold fy
  split
  ·
   exact tz n (j+1) _ m q at_ ok g h0 (by omega)
  split
  ·
   exact ⟨l1,l2,l3⟩
  ·
   obtain ⟨r1,r2,r3⟩:=tz n (j+1) (bits .or .i64 y (yx ((fc m q (at_+j)).2.1.find (at_+j)).1 j)) _ _ at_ l1 l2 h0 (by omega)
   exact ⟨r1,r2,l3.trans r3⟩
def fO (at_ width:Int):Bool:=(decide (width=1) || decide (width=2) || decide (width=4))&&decide (0≤at_)&&decide (at_+width - 1<2048)
def bH (m:aG) (q:Cache) (at_ width:Int):aG×Cache×Int×Int:=if fO at_ width=true then fy width.toNat 0 0 m q at_ else (m,q,0,1300)
def tQ (X:Nat→Prop) (y:Int) (er:Int) (k c b:Nat) (m:aG) (q:Cache) (H:Nat→Prop) (w:World) (e:Ending) (w':World):Prop:=e=.returned (.tuple #[.int .i64 y,.int .i64 er]) ∧ ∃ H',fD X w' k c b m q H'∧Step H H' w w'
theorem find_range (q:Cache) (x:Int):0≤(q.find x).1∧(q.find x).1<256:=by
 unfold Cache.find
 split
 ·
  have:=(bt q.t0 (fY x)).toNat_lt;dsimp only;omega
 split
 ·
  have:=(bt q.t1 (fY x)).toNat_lt;dsimp only;omega
 ·
  dsimp only;omega
theorem fD.cache {w:World} {k c b:Nat} {m:aG} {q:Cache} {H:Nat→Prop} (h:fD X w k c b m q H) : ∃ ab ac tb tc,w.heap[b]? = some (.cells (ku k ab ac tb tc q.next) 190 (0,0))∧dz w ab ac tb tc q:=by
 obtain ⟨G,hc,⟨ab,ac,tb,tc,hw⟩,hH,hh⟩:=h.ex
 exact ⟨ab,ac,tb,tc,hw.raw,hw.cap,hw.a0,hw.a1,hw.t0,hw.t1⟩
theorem fD.aj {w w':World} {k c b:Nat} {m:aG} {q:Cache} {H:Nat→Prop} (h:fD X w k c b m q H) (hb:Below w.heap.size w w'):fD X w' k c b m q H:=by
 obtain ⟨G,hc,hw,hH,hh⟩:=h.ex
 exact ⟨⟨G,hc.aj hb,hw.step (Step.ah hb),hH,hh⟩⟩
theorem Hz (k c b:Nat) (m:aG) (q:Cache) (H:Nat→Prop) (x z:Int) (n:Nat) (w:World) (h:fD X w k c b m q H) (ok:m.Ok) (g:q.Good) (hz:z=n) (hn:z=1∨z=2∨z=4) (x0:0≤x) (x1:x+z - 1<2048):Calls prog 63 #[.pointer (some ⟨b,0,none⟩),.int .i64 x,.int .i64 z] w (tQ X (fy n 0 0 m q x).2.2.1 (fy n 0 0 m q x).2.2.2 k c b (fy n 0 0 m q x).1 (fy n 0 0 m q x).2.1 H w):=by
 have HI1:=zH (fun w=>iq x w)
 have HI2:=zH (fun w=>iq (x+z - 1) w)
 have b1:z≤4:=by omega
 have b2:1≤z:=by omega
 have s1:x+z<4096:=by omega
 have e1:(decide (0≤x)&&decide (x<2048))=true:=by simp;omega
 have e2:(decide (0≤x+z - 1)&&decide (x+z - 1<2048))=true:=by simp;omega
 rw [e1] at HI1
 rw [e2] at HI2
 have H0:=zH (zA h (zA ok g))
 obtain ⟨rr,hrr⟩ : ∃ rr,rr=fy n 0 0 m q x:=⟨_,rfl⟩
 rw [← hrr]
 have HV:=zH hrr
 have HZ:=zH hz
 clear h ok g e1 e2 hrr hz
 obtain ⟨c1,c2,c4,ho⟩ : ∃ c1 c2 c4:Bool,((z != 1)=c1∧(z != 2)=c2∧(z != 4)=c4)∧((c1=false)∨(c1=true∧c2=false)∨(c1=true∧c2=true∧c4=false)):=by
  refine ⟨_,_,_,⟨rfl,rfl,rfl⟩,?_⟩
  rcases hn with rfl | rfl | rfl
  ·
   exact .inl rfl
  ·
   exact .inr (.inl ⟨rfl,rfl⟩)
  ·
   exact .inr (.inr ⟨rfl,rfl,rfl⟩)
 obtain ⟨⟨d1,d2,d4⟩,ho⟩:=ho
 clear hn
 rcases ho with rfl | ⟨rfl,rfl⟩ | ⟨rfl,rfl,rfl⟩
 all_goals
  go_enter func63,ntmps63
  go_wp2_with (first | (go_at_call 97;first | (refine (HI1.out _).mono ?_;rintro e w ⟨rfl,rfl⟩) | (refine (HI2.out _).mono ?_;rintro e w ⟨rfl,rfl⟩)))
  clear d1 d2 d4
  go_loopw [8,39] (fun o i wr => ∃ (j:Nat) (mj:aG) (qj:Cache) (Hj:Nat→Prop) (y:Int),j≤n∧o=.int .i64 y∧i=.int .i64 j∧fD X wr k c b mj qj Hj∧mj.Ok∧qj.Good∧Step H Hj w wr∧rr=fy (n - j) j y mj qj x) (fun _ i _=>n - (intOf i).toNat)
  case atStart=>exact ⟨0,m,q,H,0,Nat.zero_le _,rfl,rfl,H0.out.1,H0.out.2.1,H0.out.2.2,Step.refl _ _,HV.out⟩
  case round =>
   obtain ⟨j,mj,qj,Hj,y,hj,rfl,rfl,hB,hok,hg,hst,hr⟩:=hrel
   by_cases hlt:j<n
   ·
    have g1:(j:Int)<z:=by have:=HZ.out;omega
    rw [show n - j=(n - (j+1))+1 by omega] at hr
    obtain ⟨ab,ac,tb,tc,hraw,hC⟩:=hB.cache
    have k1:wr.cell? ⟨b,1,none⟩=some (.slice (some ⟨ab,0,none⟩) 2 ac):=cell_of hraw 1
    have k2:wr.cell? ⟨b,2,none⟩=some (.slice (some ⟨tb,0,none⟩) 2 tc):=cell_of hraw 2
    have k3:wr.cell? ⟨b,3,none⟩=some (.int .i64 qj.next):=cell_of hraw 3
    have hx0:0≤x+(j:Int):=by omega
    have hx1:x+(j:Int)<4096:=by omega
    have HFD:=zH (oV ab ac tb tc qj (x+j) _ hC hg hx0 hx1)
    have hfr:=find_range qj (x+j)
    have HR:=zH (show rr=if (qj.find (x+j)).2=true then fy (n - (j+1)) (j+1) (bits .or .i64 y (yx (qj.find (x+j)).1 j)) mj qj x else if (fc mj qj (x+j)).2.2≠0 then ((fc mj qj (x+j)).1,(fc mj qj (x+j)).2.1,0,(fc mj qj (x+j)).2.2) else fy (n - (j+1)) (j+1) (bits .or .i64 y (yx ((fc mj qj (x+j)).2.1.find (x+j)).1 j)) (fc mj qj (x+j)).1 (fc mj qj (x+j)).2.1 x from hr)
    have HS:=zH (zA hB (zA hok (zA hg hst)))
    clear hr hB hok hg hst hraw hC
    generalize qj.find (x+j)=fd at *
    obtain ⟨v,is⟩:=fd
    simp only at HFD hfr HR
    cases is with
    | true =>
     go_wp2_with fail
     refine HFD.out.mono ?_
     rintro e w2 ⟨rfl,hb2⟩
     have H2:=zH hb2
     clear hb2
     go_wp2
     go_roundw
     case rel=>exact ⟨j+1,mj,qj,Hj,_,by omega,rfl,by go_num,HS.out.1.aj H2.out,HS.out.2.1,HS.out.2.2.1,HS.out.2.2.2.trans (Step.ah H2.out),HR.out.trans (if_pos (by trivial))⟩
     case measure=>simp [intOf];omega
    | false =>
     have HLD:=zH (fun w2 (h2:fD X w2 k c b mj qj Hj)=>Ev k c b mj qj Hj (x+j) w2 h2 HS.out.2.1 HS.out.2.2.1 hx0 hx1)
     have HLO:=zH (CD HS.out.2.1 HS.out.2.2.1 (x+j) hx0 hx1)
     generalize fc mj qj (x+j)=ld at *
     obtain ⟨ml,ql,el⟩:=ld
     simp only at HLD HLO HR
     have hfr2:=find_range ql (x+j)
     have HF2:=zH (fun ab ac tb tc w2 hC=>oV ab ac tb tc ql (x+j) w2 hC HLO.out.2.1 hx0 hx1)
     generalize ql.find (x+j)=fd2 at *
     obtain ⟨v2,is2⟩:=fd2
     simp only at hfr2 HF2 HR
     by_cases hel:el=0
     ·
      subst hel
      go_wp2_with fail
      refine HFD.out.mono ?_
      rintro e w2 ⟨rfl,hb2⟩
      have H2:=zH hb2
      clear hb2
      go_wp2_with fail
      refine (HLD.out _ (HS.out.1.aj H2.out)).mono ?_
      rintro e w3 ⟨rfl,H3',hB3,st3⟩
      have H3:=zH (zA hB3 (HS.out.2.2.2.trans ((Step.ah H2.out).trans st3)))
      obtain ⟨ab3,ac3,tb3,tc3,hraw3,hC3⟩:=hB3.cache
      have k1':w3.cell? ⟨b,1,none⟩=some (.slice (some ⟨ab3,0,none⟩) 2 ac3):=cell_of hraw3 1
      have k2':w3.cell? ⟨b,2,none⟩=some (.slice (some ⟨tb3,0,none⟩) 2 tc3):=cell_of hraw3 2
      have k3':w3.cell? ⟨b,3,none⟩=some (.int .i64 ql.next):=cell_of hraw3 3
      have HC3:=zH hC3
      clear hB3 st3 hraw3 hC3
      go_wp2_with fail
      refine (HF2.out _ _ _ _ _ HC3.out).mono ?_
      rintro e w4 ⟨rfl,hb4⟩
      have H4:=zH hb4
      clear hb4
      go_wp2
      go_roundw
      case rel=>exact ⟨j+1,ml,ql,H3',_,by omega,rfl,by go_num,H3.out.1.aj H4.out,HLO.out.1,HLO.out.2.1,H3.out.2.trans (Step.ah H4.out),HR.out.trans ((if_neg (by decide)).trans (if_neg (by decide)))⟩
      case measure=>simp [intOf];omega
     ·
      have hel':(el != 0)=true:=bne_iff_ne.2 hel
      have HEL:=zH hel
      clear hel
      go_wp2_with fail
      refine HFD.out.mono ?_
      rintro e w2 ⟨rfl,hb2⟩
      have H2:=zH hb2
      clear hb2
      go_wp2_with fail
      refine (HLD.out _ (HS.out.1.aj H2.out)).mono ?_
      rintro e w3 ⟨rfl,H3',hB3,st3⟩
      have H3:=zH (zA hB3 (HS.out.2.2.2.trans ((Step.ah H2.out).trans st3)))
      clear hB3 st3
      go_wp2
      go_ret2
      rw [show rr=(ml,ql,0,el) from HR.out.trans ((if_neg (by decide)).trans (if_pos HEL.out))]
      exact ⟨rfl,H3',H3.out⟩
   ·
    obtain rfl:n=j:=by omega
    have g1 : ¬ ((n:Int)<z):=by have:=HZ.out;omega
    rw [Nat.sub_self] at hr
    have HR:=zH (show rr=(mj,qj,y,0) from hr)
    have HS:=zH (zA hB hst)
    clear hr hB hok hg hst
    go_wp2
    go_ret2
    rw [HR.out]
    exact ⟨rfl,Hj,HS.out⟩
theorem JV (b:Nat) (x z:Int) (w:World) (x0:0≤x) (x1:x<4096) (z0:0≤z) (z1:z≤8) (hg:fO x z=false):Calls prog 63 #[.pointer (some ⟨b,0,none⟩),.int .i64 x,.int .i64 z] w fun e w'=>e=.returned (.tuple #[.int .i64 0,.int .i64 1300])∧w'=w:=by
 have HI1:=zH (fun w=>iq x w)
 have HI2:=zH (fun w=>iq (x+z - 1) w)
 by_cases h1:z=1∨z=2∨z=4
 ·
  by_cases h2:x<2048
  ·
   have e1:(decide (0≤x)&&decide (x<2048))=true:=by simp;omega
   have e2:(decide (0≤x+z - 1)&&decide (x+z - 1<2048))=false:=by
    unfold fO at hg
    rcases h1 with rfl | rfl | rfl <;> simp at hg ⊢ <;> omega
   rw [e1] at HI1
   rw [e2] at HI2
   have hne:z≠1:=by rintro rfl;unfold fO at hg;simp at hg;omega
   have h1:z=2∨z=4:=by omega
   clear e1 e2 hg hne
   rcases h1 with rfl | rfl
   all_goals
    go_enter func63,ntmps63
    go_wp2_with (first | (go_at_call 97;first | (refine (HI1.out _).mono ?_;rintro e w ⟨rfl,rfl⟩) | (refine (HI2.out _).mono ?_;rintro e w ⟨rfl,rfl⟩)))
    go_ret2
    exact ⟨rfl,rfl⟩
  ·
   have e1:(decide (0≤x)&&decide (x<2048))=false:=by simp;omega
   rw [e1] at HI1
   clear e1 hg
   rcases h1 with rfl | rfl | rfl
   all_goals
    go_enter func63,ntmps63
    go_wp2_with (first | (go_at_call 97;(refine (HI1.out _).mono ?_;rintro e w ⟨rfl,rfl⟩)))
    go_ret2
    exact ⟨rfl,rfl⟩
 ·
  have d1:(z != 1)=true:=bne_iff_ne.2 (by omega)
  have d2:(z != 2)=true:=bne_iff_ne.2 (by omega)
  have d4:(z != 4)=true:=bne_iff_ne.2 (by omega)
  clear hg h1
  go_enter func63,ntmps63
  go_wp2
  go_ret2
  exact ⟨rfl,rfl⟩
theorem xw (k c b:Nat) (m:aG) (q:Cache) (H:Nat→Prop) (x z:Int) (w:World) (h:fD X w k c b m q H) (ok:m.Ok) (g:q.Good) (x0:0≤x) (x1:x<4096) (z0:0≤z) (z1:z≤8):Calls prog 63 #[.pointer (some ⟨b,0,none⟩),.int .i64 x,.int .i64 z] w (tQ X (bH m q x z).2.2.1 (bH m q x z).2.2.2 k c b (bH m q x z).1 (bH m q x z).2.1 H w):=by
 cases hg:fO x z with
 | true =>
  have:=hg
  unfold fO at this
  simp at this
  rw [show bH m q x z=fy z.toNat 0 0 m q x from if_pos hg]
  exact Hz k c b m q H x z z.toNat w h ok g (by omega) (by omega) x0 (by omega)
 | false =>
  rw [show bH m q x z=(m,q,0,1300) from if_neg (by rw [hg];decide)]
  refine (JV b x z w x0 x1 z0 z1 hg).mono ?_
  rintro e w' ⟨rfl,rfl⟩
  exact ⟨rfl,H,h,Step.refl _ _⟩
theorem lC {m:aG} (ok:m.Ok) {q:Cache} (g:q.Good) (x z:Int) (x0:0≤x):(bH m q x z).1.Ok∧(bH m q x z).2.1.Good∧bG m (bH m q x z).1:=by
 unfold bH
 split
 ·
  rename_i h
  unfold fO at h
  simp at h
  exact tz _ 0 0 m q x ok g x0 (by omega)
 ·
  exact ⟨ok,g,bG.refl m⟩
end
section
open Go.RowKit
variable {X:Nat→Prop}
theorem xl (x:Int) (w:World):Calls prog 166 #[.int .i64 x] w (kP (!(decide (0≤x)&&decide (x<2048))) w):=by
 have H:=zH (iq x w)
 go_enter func166,ntmps166
 go_wp2_with fail
 refine H.out.mono ?_
 rintro e w ⟨rfl,rfl⟩
 go_wp2
 go_ret
 exact ⟨by simp,rfl⟩
def nB (x:Int):Bool:=decide (0≤x)&&decide (x<2048)
def cY (xs:List Int):Bool:=decide (xs.length≤16)&&xs.all nB
theorem En:dg 166 (fun x => !(nB x)):=⟨fun x w=>(xl x w).mono (fun e w' h=>⟨h.1,h.2.symm⟩),fun args w=>by kernel_rfl⟩
theorem Kz (xs:List Int):xs.any (fun x => !(nB x)) = !(xs.all nB):=by
 induction xs with
 | nil=>rfl
 | cons x r ih=>simp only [List.any_cons,List.all_cons,ih];cases nB x <;> simp
theorem pd (a:Option Addr) (c:Nat) (xs:List Int) (w:World) (h:aU w a xs) (hm:xs.length≤1000000):Calls prog 125 #[.slice a xs.length c] w fun e w'=>e=.returned (.bool (cY xs)) ∧ ∃ n,w'=w.drewN n:=by
 have HC:=zH (fq 166 _ En a c xs w h (by omega))
 rw [Kz] at HC
 have HV:=zH (show cY xs=(decide (xs.length≤16)&&xs.all nB) from rfl)
 generalize cY xs=rr at *
 generalize xs.all nB=ai at *
 by_cases hl:xs.length≤16
 ·
  have hl':(xs.length:Int)≤16:=by omega
  have HL:=zH hl
  go_enter func125,ntmps125
  go_wp2_with fail
  refine HC.out.mono ?_
  rintro e w1 ⟨rfl,n,rfl⟩
  go_wp2
  go_ret
  rw [HV.out]
  exact ⟨by simp [HL.out],n,rfl⟩
 ·
  have hl' : ¬ (xs.length:Int)≤16:=by omega
  have HL:=zH hl
  go_enter func125,ntmps125
  go_wp2
  go_ret
  rw [HV.out]
  exact ⟨by simp [HL.out],0,rfl⟩
structure Mt where
 F:Nat
 B:Array Value
 C:Array Value
def Mt.val (f:Mt):Value:=.func (.func f.F) f.B f.C
def pE (n:Nat) (S:Nat→World→Prop) (R:Int→World→Prop) (e:Ending) (w':World):Prop := ∃ er:Int,e=.returned (.int .i64 er)∧((er=0∧S n w')∨(er≠0∧R er w'))
theorem om (b n cap:Nat) (f:Nat→Mt) (S:Nat→World→Prop) (R:Int→World→Prop) (w:World) (h0:S 0 w) (hn:n≤1000) (hcell : ∀ j w,j<n→S j w→w.cell? ⟨b,j,none⟩=some (f j).val) (hrun : ∀ j,j<n → ∀ (args:Array Value) (w:World),(callFunc (f j).F args).run prog w=.ok (.enter (f j).F args) w) (hcall : ∀ j w,j<n→S j w→Calls prog (f j).F ((f j).B++(f j).C) w (pE (j+1) S R)):Calls prog 128 #[.slice (some ⟨b,0,none⟩) n cap] w (pE n S R):=by
 have H0:=zH (zA h0 (zA hcell (zA hrun hcall)))
 clear h0 hcell hrun hcall
 go_enter func128,ntmps128
 go_wp2
 go_loopw [8] (fun i wr => ∃ j:Nat,j≤n∧i=.int .i64 j∧S j wr) (fun i _=>n - (intOf i).toNat)
 case atStart=>exact ⟨0,Nat.zero_le _,rfl,H0.out.1⟩
 case round =>
  obtain ⟨j,hj,rfl,hS⟩:=hrel
  by_cases hlt:j<n
  ·
   have g1:(j:Int)<(n:Int):=by omega
   have hv:=H0.out.2.1 j wr hlt hS
   have hr:=H0.out.2.2.1 j hlt
   have HC:=zH (H0.out.2.2.2 j wr hlt hS)
   obtain ⟨F,B,C,hf⟩ : ∃ F B C,f j=⟨F,B,C⟩:=⟨_,_,_,rfl⟩
   rw [hf] at hv hr HC
   simp only [Mt.val] at hv hr HC
   clear hS hf
   go_wp2_with fail
   refine HC.out.mono ?_
   rintro e w2 ⟨er,rfl,hcase⟩
   have HD:=zH hcase
   by_cases he:er=0
   ·
    subst he
    clear hcase
    go_wp2
    go_roundw
    case rel=>exact ⟨j+1,by omega,by go_num,by rcases HD.out with ⟨_,h⟩ | ⟨h,_⟩;exact h;exact absurd rfl h⟩
    case measure=>simp [intOf];omega
   ·
    have he':(er != 0)=true:=bne_iff_ne.2 he
    have HE:=zH he
    clear hcase he
    go_wp2
    go_ret
    exact ⟨er,rfl,.inr ⟨HE.out,by rcases HD.out with ⟨h,_⟩ | ⟨_,h⟩;exact absurd h HE.out;exact h⟩⟩
  ·
   obtain rfl:n=j:=by omega
   have HS:=zH hS
   clear hS
   go_wp2
   go_ret
   exact ⟨0,rfl,.inl ⟨rfl,HS.out⟩⟩
theorem qM (k:Nat) (b p:Int) (w:World):Calls prog 130 #[.pointer (some ⟨k,0,none⟩),.int .i64 b,.int .i64 p] w fun e w' =>
  e=.returned (.func (.func 169) #[] #[.pointer (some ⟨w.heap.size,0,none⟩),.pointer (some ⟨w.heap.size+1,0,none⟩),.pointer (some ⟨w.heap.size+2,0,none⟩)]) ∧
  w'=((w.alloc (.cells #[.pointer (some ⟨k,0,none⟩)] 85)).alloc (.cells #[.int .i64 b] 3)).alloc (.cells #[.int .i64 p] 3):=by
 go_enter func130,ntmps130
 go_wp2
 go_ret
 exact ⟨rfl,rfl⟩
theorem A9 (args:Array Value) (w:World):(callFunc 169 args).run prog w=.ok (.enter 169 args) w:=by kernel_rfl
theorem Bb (k c x y z:Nat) (m:aG) (G:Nat→Prop) (b p:Int) (w:World) (hx:w.cell? ⟨x,0,none⟩=some (.pointer (some ⟨k,0,none⟩))) (hy:w.cell? ⟨y,0,none⟩=some (.int .i64 b)) (hz:w.cell? ⟨z,0,none⟩=some (.int .i64 p)) (h:bO X w k c m G) (ok:m.Ok) (rok:gX b p [] 0):Calls prog 169 #[.pointer (some ⟨x,0,none⟩),.pointer (some ⟨y,0,none⟩),.pointer (some ⟨z,0,none⟩)] w (mT X (m.run b p [] 0).2.2 k c (m.run b p [] 0).1 G w):=by
 have HR:=zH (fj k c m G b p none [] 0 0 w h ok rok (nF w G) (fun _=>rfl) (by simp))
 simp only [List.length_nil] at HR
 generalize m.run b p [] 0=r at *
 clear h ok rok
 go_enter func169,ntmps169
 go_wp2_with fail
 refine HR.out.mono ?_
 rintro e w1 ⟨a,cp,G1,rfl,hc,hs,st⟩
 have H1:=zH (zA hc st)
 clear hc hs st
 go_wp2
 go_ret
 exact ⟨rfl,G1,H1.out⟩
end
end Go.Proofs.YtcfdenckiigdaaaGreat

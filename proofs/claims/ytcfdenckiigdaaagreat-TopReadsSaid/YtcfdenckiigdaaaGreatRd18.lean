/- Part 18 of the contracts. -/
import Derived.Test.YtcfdenckiigdaaaGreatRd17
set_option linter.unusedVariables false
set_option maxRecDepth 100000
set_option maxHeartbeats 4000000
namespace Go.Proofs.YtcfdenckiigdaaaGreat
open Tryz Go.RowKit
section
open Go.RowKit
variable {X:Nat→Prop}
def D0 (w:World) (b:Nat) (p:fJ) (vs vr:Value):Prop:=w.heap[b]? = some (.cells (pP p vs vr) 228 (0,0))
def dH (r:aX):Bool:=r.kind != 0
def iL (S:aA) (p:fJ):bC:=⟨true,p.an,(if p.dG<0 then S.view.aC else [])++p.aC.filter dH,p.free⟩
structure gO (w wr:World) (ep free:Int) (rs:List aX):Prop where
 below:Below w.heap.size w wr
 res:wr.heap[w.heap.size]? = some (.cells #[.bool false,.int .i64 0,.slice none 0 0,.int .i64 0] 52 (0,0))
 row : ∃ v,wr.heap[w.heap.size+1]? = some (.cells #[.bool true,.int .i64 ep,v,.int .i64 free] 52 (0,0))∧wr.ownsRow w.heap.size 74 4 v rs.length (bp rs)
theorem gO.put {w w2:World} {ep free:Int} {v v':Value} {rs:List aX} (hb:Below w.heap.size w w2) (e1:w2.heap[w.heap.size]? = some (.cells #[.bool false,.int .i64 0,.slice none 0 0,.int .i64 0] 52 (0,0))) (e2:w2.heap[w.heap.size+1]? = some (.cells #[.bool true,.int .i64 ep,v,.int .i64 free] 52 (0,0))) (ho:w2.ownsRow w.heap.size 74 4 v' rs.length (bp rs)):gO w (w2.setCell ⟨w.heap.size+1,2,none⟩ v') ep free rs :=
 ⟨lg hb (by simp) _,by rw [Below.heap_setCell _ _ _ _ (show w.heap.size≠w.heap.size+1 by omega)];exact e1,v',az (i:=2) (v:=v') e2,eW ho (cN ho e2 (by decide)) _⟩
theorem gO.aj {w wr w2:World} {ep free:Int} {rs:List aX} (h:gO w wr ep free rs) (hb:Below wr.heap.size wr w2):gO w w2 ep free rs:=by
 obtain ⟨v,h1,h2⟩:=h.row
 exact ⟨gtr h.below hb,aa hb h.res,v,aa hb h1,World.ownsRow.aj h2 hb⟩
def DS (V:bC) (w:World) (e:Ending) (w':World):Prop := ∃ va vc,e=.returned (.agg #[.bool V.ck,.int .i64 V.an,.slice va V.aC.length vc,.int .i64 V.free])∧w'.ownsRow w.heap.size 74 4 (.slice va V.aC.length vc) V.aC.length (bp V.aC)∧Below w.heap.size w w'
theorem sG (s k c b pb:Nat) (m:aG) (q:Cache) (S:aA) (H:Nat→Prop) (p:fJ) (vs:Value) (ra:Option Addr) (rc:Nat) (w:World) (h:Sys X w s k c b m q S H) (hp:D0 w pb p vs (.slice ra p.aC.length rc)) (hr:aU w (.slice ra p.aC.length rc) p.aC.length 4 (bp p.aC)) (hn:p.aC.length≤100) (ho:S.view.aC.length≤100):Calls prog 135 #[.pointer (some ⟨s,0,none⟩),.pointer (some ⟨pb,0,none⟩)] w (DS (iL S p) w):=by
 obtain ⟨a,cp,h1,h2⟩:=h.st
 have HCL:=zH (fun w h=>u5 (.slice a S.view.aC.length cp) S.view.aC w h (by omega))
 have H0:=zH (zA hp (zA hr (zA h2.at_ h1)))
 obtain ⟨c0,c1,c2,c3,c4,c5,c6,c7,cf⟩:=tE h1
 obtain ⟨p0,p1,p2,p3,p4,p5,pf⟩:=km hp
 have hpl:pb<w.heap.size:=aO hp
 have hsl:s<w.heap.size:=aO h1
 have hbB:=ae (Below.refl w.heap.size w) (.cells #[.bool false,.int .i64 0,.slice none 0 0,.int .i64 0] 52)
 have e4:=(hbB.cell (p:=⟨pb,4,none⟩) hpl).trans p4
 have e5:=(hbB.cell (p:=⟨pb,5,none⟩) hpl).trans p5
 have hres:=af w (.cells #[.bool false,.int .i64 0,.slice none 0 0,.int .i64 0] 52)
 have hsz:(w.alloc (.cells #[.bool false,.int .i64 0,.slice none 0 0,.int .i64 0] 52)).heap.size=w.heap.size+1:=by simp
 have HB:=zH (zA hbB hres)
 clear h hp hr h1 h2 c0 c1 c2 c3 c4 c5 c6 c7 cf p0 p1 p2 p3 p4 p5 pf hbB hres
 go_enter func135,ntmps135
 go_upto_region 1 with fail
 generalize w.alloc (.cells #[.bool false,.int .i64 0,.slice none 0 0,.int .i64 0] 52)=W at *
 have hne:W.heap.size≠pb:=by omega
 have hne2:pb≠W.heap.size:=by omega
 have hlp:pb<W.heap.size:=by omega
 go_region_held3 (fun w'=>w'.cell? ⟨pb,4,none⟩=some (.int .i64 p.free)∧w'.cell? ⟨pb,5,none⟩=some (.int .i64 p.an)) (first | go_keep | exact ⟨(World.cell?_alloc_lt _ _ _ hlp).trans e4,(World.cell?_alloc_lt _ _ _ hlp).trans e5⟩) (fail)
 have hbW:Below w.heap.size w (W.alloc (.cells #[.bool true,.int .i64 p.an,.slice none 0 0,.int .i64 p.free] 52)).drew:=au (ae HB.out.1 _)
 have hrow:(W.alloc (.cells #[.bool true,.int .i64 p.an,.slice none 0 0,.int .i64 p.free] 52)).drew.heap[w.heap.size+1]? = some (.cells #[.bool true,.int .i64 p.an,.slice none 0 0,.int .i64 p.free] 52 (0,0)):=by
  rw [← hsz];exact af W _
 have hres2:=aa (au (ae (Below.refl W.heap.size W) (.cells #[.bool true,.int .i64 p.an,.slice none 0 0,.int .i64 p.free] 52))) HB.out.2
 generalize (W.alloc (.cells #[.bool true,.int .i64 p.an,.slice none 0 0,.int .i64 p.free] 52)).drew=w2 at *
 have HA:=zH (show gO w w2 p.an p.free [] from ⟨hbW,hres2,_,hrow,zN⟩)
 have HR:=zH hrow
 have p0:w2.cell? ⟨pb,0,none⟩=some (.int .i64 p.dG):=(hbW.cell (p:=⟨pb,0,none⟩) hpl).trans (cell_of H0.out.1 0)
 have c6:w2.cell? ⟨s,6,none⟩=some (.slice a S.view.aC.length cp):=(hbW.cell (p:=⟨s,6,none⟩) hsl).trans (cell_of H0.out.2.2.2 6)
 clear hbW hrow hres2 e4 e5 hne hne2 hlp hsz HB
 go_upto_if 21 with fail
 go_cut [28] from 21 to 28 (fun v wx=>gO w wx p.an p.free (if p.dG<0 then S.view.aC else []))
 case first =>
  by_cases hw:p.dG<0
  ·
   have HW:=zH hw
   go_wp2_with fail
   refine (HCL.out _ (H0.out.2.2.1.aj HA.out.below)).mono ?_
   rintro e w3 ⟨v,rfl,ho,hb⟩
   have HS:=zH (zA (eV ho HA.out.below.size) (zA hb (aa hb HR.out)))
   clear ho hb
   obtain ⟨xa,xc,rfl⟩:=bG HS.out.1
   obtain ⟨d0,d1,d2,d3,df⟩:=cC HS.out.2.2
   go_wp2
   go_meet
   show gO _ _ _ _ _
   rw [if_pos (by have:=HW.out;omega)]
   exact gO.put (gtr HA.out.below HS.out.2.1) (aa HS.out.2.1 HA.out.res) HS.out.2.2 HS.out.1
  ·
   have HW:=zH hw
   go_wp2
   go_meet
   show gO _ _ _ _ _
   rw [if_neg (by have:=HW.out;omega)]
   exact HA.out
 case rest =>
  have HV:=zH (show iL S p=⟨true,p.an,(if p.dG<0 then S.view.aC else [])++p.aC.filter dH,p.free⟩ from rfl)
  have hL:(if p.dG<0 then S.view.aC else []).length≤100:=by
   split
   ·
    exact ho
   ·
    simp
  generalize iL S p=V at *
  generalize (if p.dG<0 then S.view.aC else [])=L at *
  have HC:=zH hcut
  have q3:wc.cell? ⟨pb,3,none⟩=some (.slice ra p.aC.length rc):=(hcut.below.cell (p:=⟨pb,3,none⟩) hpl).trans (cell_of H0.out.1 3)
  have HX:=zH (fun i (hi:i<p.aC.length)=>nE p.aC i hi)
  have HT:=zH (fun j (hj:j<p.aC.length)=>List.take_succ_eq_append_getElem hj)
  obtain ⟨j0,ji,jz0,jz1,jz2⟩:=info_parts xi
  clear p0 c6 HA HR HCL hcut
  go_wp2
  go_loopg [34] p.aC.length (fun n i wr => ∃ j:Nat,n=p.aC.length - j∧i=.int .i64 j∧j≤p.aC.length∧gO w wr p.an p.free (L++(p.aC.take j).filter dH))
  case atStart=>exact ⟨0,rfl,rfl,Nat.zero_le _,by simpa using HC.out⟩
  case round =>
   obtain ⟨j,hgn,rfl,hj,hM⟩:=hrel
   have HB:=zH (zA hgn hM)
   clear hgn hM
   by_cases hlt:j<p.aC.length
   ·
    have hlt':(j:Int)<(p.aC.length:Int):=by omega
    obtain ⟨b',o,rfl,hc,hx⟩:=H0.out.2.1.some (by omega)
    obtain ⟨r0,r1,r2,r3⟩:=HX.out j hlt
    have cc : ∀ i u,(bp p.aC)[4 * j+i]? = some u→wr.cell? ⟨b',o+j * 4+i,none⟩=some u:=fun i u hu=>by
     have e:=hx _ _ hu
     rw [show o+j * 4+i=o+(4 * j+i) by omega]
     exact (HB.out.2.below.cell (p:=⟨b',o+(4 * j+i),none⟩) (zL w _ e)).trans e
    have HCC:=zH cc
    have d0:wr.cell? ⟨b',o+j * 4,none⟩=some (.int .i64 p.aC[j].kind):=cc 0 _ r0
    have d1:wr.cell? ⟨b',o+j * 4+1,none⟩=some (.int .i64 p.aC[j].an):=cc 1 _ r1
    have d2:wr.cell? ⟨b',o+j * 4+2,none⟩=some (.string p.aC[j].key):=cc 2 _ r2
    have d3:wr.cell? ⟨b',o+j * 4+3,none⟩=some (.string p.aC[j].value):=cc 3 _ r3
    have HTK:=zH (show (p.aC.take (j+1)).filter dH=(p.aC.take j).filter dH++[p.aC[j]].filter dH by rw [HT.out j hlt,List.filter_append])
    have HLE:=zH (show ((p.aC.take j).filter dH).length≤j from Nat.le_trans (List.length_filter_le _ _) (by rw [List.length_take];omega))
    clear cc r0 r1 r2 r3 hx
    generalize p.aC[j]=r at *
    have e0:=af wr (.cells #[.int .i64 r.kind,.int .i64 r.an,.string r.key,.string r.value] 74)
    have HN:=zH (HB.out.2.aj (ae (Below.refl _ wr) (.cells #[.int .i64 r.kind,.int .i64 r.an,.string r.key,.string r.value] 74)))
    obtain ⟨f0,f1,f2,f3,ff⟩:=cC e0
    have HE0:=zH e0
    have hgl:=aO e0
    clear e0
    go_upto_region 7 with fail
    clear d0 d1 d2 d3
    generalize wr.heap.size=g at *
    generalize wr.alloc (.cells #[.int .i64 r.kind,.int .i64 r.an,.string r.key,.string r.value] 74)=w3 at *
    by_cases hk:r.kind=0
    ·
     have hkb:(r.kind != 0)=false:=by rw [hk];rfl
     replace HTK:=zH (show (p.aC.take (j+1)).filter dH=(p.aC.take j).filter dH by rw [HTK.out,List.filter_cons_of_neg (by unfold dH;rw [hkb];decide)];simp)
     rw [hk] at f0
     clear hk hkb
     go_wp2
     go_roundg (p.aC.length - (j+1))
     case measure=>have:=HB.out.1;omega
     case rel=>exact ⟨j+1,rfl,by go_num,by omega,by rw [HTK.out];exact HN.out⟩
    ·
     have hkb:(r.kind != 0)=true:=bne_iff_ne.2 hk
     replace HTK:=zH (show L++(p.aC.take (j+1)).filter dH=(L++(p.aC.take j).filter dH)++[r] by rw [HTK.out,List.filter_cons_of_pos (by unfold dH;exact hkb),List.append_assoc];rfl)
     have hML:(L++(p.aC.take j).filter dH).length≤200:=by rw [List.length_append];have:=HLE.out;omega
     generalize L++(p.aC.take j).filter dH=M at *
     obtain ⟨v,hrow,hown⟩:=HN.out.row
     obtain ⟨t0,t1,t2,t3,tf⟩:=cC hrow
     have HO:=zH (zA hrow hown)
     clear hrow hown hk
     go_wp2_with (at_builtin;refine wpList_append_lies _ rfl _ _ 50 rfl w.heap.size 74 j0 (.agg #[.int .i64 0,.int .i64 0,.string ⟨#[]⟩,.string ⟨#[]⟩]) 4 48 underlying50 ji jz0 jz1 jz2 rfl (by decide) v M.length (bp M) ?b1 (World.ownsRow.aj HO.out.2 (ae zR _)) ⟨w3.heap.size,0,none⟩ 1 1 [.int .i64 r.kind,.int .i64 r.an,.string r.key,.string r.value] ?b2 rfl ?b3 ?b4 (by decide) ?b5 ?b6 ?b7 _ rfl ?_)
     case b1=>rfl
     case b2=>rfl
     case b3=>exact World.news_of_block (cs := #[.int .i64 r.kind,.int .i64 r.an,.string r.key,.string r.value]) (t:=74) (fr:=(0,0)) (af w3 _)
     case b4=>intro u hu;simp only [List.mem_cons,List.not_mem_nil,or_false] at hu;rcases hu with rfl | rfl | rfl | rfl <;> rfl
     case b5=>simp only [maxLen];omega
     case b6=>omega
     case b7=>have:=HN.out.below.size;simp only [World.size_alloc];omega
     intro g5 cap5 w4 how hgr _ _
     have hgr2:=fw (ae (Below.refl w3.heap.size w3) (.cells #[.int .i64 r.kind,.int .i64 r.an,.string r.key,.string r.value] 74)) hgr
     have how2:w4.ownsRow w.heap.size 74 4 (.slice (some ⟨g5,0,none⟩) (M.length+1) cap5) (M++[r]).length (bp (M++[r])):=by
      rw [List.length_append,kG];exact how
     have h1:w4.heap[w.heap.size]? = _:=(hgr2.block _ (aO HN.out.res) (cN HO.out.2 HN.out.res (by decide))).trans HN.out.res
     have h2:w4.heap[w.heap.size+1]? = _:=(hgr2.block _ (aO HO.out.1) (cN HO.out.2 HO.out.1 (by decide))).trans HO.out.1
     have HP:=zH (gO.put (oJ HN.out.below HN.out.below.size (bZ HO.out.2) hgr2) h1 h2 how2)
     obtain ⟨x0,x1,x2,x3,xf⟩:=cC h2
     clear how hgr hgr2 how2 h1 h2 t0 t1 t2 t3 tf f0 f1 f2 f3 ff
     go_wp2
     go_roundg (p.aC.length - (j+1))
     case measure=>have:=HB.out.1;omega
     case rel=>exact ⟨j+1,rfl,by go_num,by omega,by rw [HTK.out];exact HP.out⟩
   ·
    obtain rfl:j=p.aC.length:=by omega
    rw [List.take_length] at HB
    generalize L++p.aC.filter dH=M at *
    obtain ⟨v,hrow,hown⟩:=HB.out.2.row
    obtain ⟨xa,xc,rfl⟩:=bG hown
    obtain ⟨t0,t1,t2,t3,tf⟩:=cC hrow
    obtain ⟨z0,z1,z2,z3,zf⟩:=cC HB.out.2.res
    have HO:=zH (zA hrow hown)
    clear hrow hown
    go_wp2_with fail
    have hq:=eY HB.out.2.res (.bool true) (.int .i64 p.an) (.slice xa M.length xc) (.int .i64 p.free)
    obtain ⟨q0,q1,q2,q3,qf⟩:=cC hq
    refine bodyPost_ret (v:=.agg #[.bool true,.int .i64 p.an,.slice xa M.length xc,.int .i64 p.free]) ?_ rfl ?_
    ·
     change (results _ _).run _ (mi _ _ _ _ _ _)=_
     simp [results,results135,go_sem,q0,q1,q2,q3]
     rfl
    ·
     rw [HV.out]
     have ht:=dE HO.out.2 (cU wr w.heap.size (.bool true) (.int .i64 p.an) (.slice xa M.length xc) (.int .i64 p.free)) (fun y hy hx=>cN HO.out.2 HB.out.2.res (by decide) (by rw [hy];exact congrArg some (show y=w.heap.size from hx).symm))
     exact ⟨xa,xc,rfl,ht,((((HB.out.2.below.setCell (p:=⟨w.heap.size,0,none⟩) zY _).setCell (p:=⟨w.heap.size,1,none⟩) zY _).setCell (p:=⟨w.heap.size,2,none⟩) zY _).setCell (p:=⟨w.heap.size,3,none⟩) zY _)⟩
end
structure BN (w:World) (a:Option Addr) (cp n sz:Nat) (cs:List Value) (F:Nat→Prop):Prop where
 at_:aU w (.slice a n cp) n sz cs
 fA : ∀ x o f,a=some ⟨x,o,f⟩→0<n → ¬ F x
theorem BN.step {w w':World} {a:Option Addr} {cp n sz:Nat} {cs:List Value} {F G:Nat→Prop} (h:BN w a cp n sz cs F) (hz:0<sz) (st:Step F G w w'):BN w' a cp n sz cs G:=by
 rcases h.at_.ex with ⟨h1,h0⟩ | ⟨b,o,c,hv,hc,hx⟩
 ·
  exact ⟨⟨h.at_.len,.inl ⟨h1,h0⟩⟩,fun x o f e hl=>by omega⟩
 ·
  have hv':a=some ⟨b,o,none⟩:=by simp only [Value.slice.injEq] at hv;exact hv.1
  have hpos : ∀ i u,cs[i]? = some u→0<n:=fun i u hu=>by
   have h1:=(List.getElem?_eq_some_iff.1 hu).1
   rw [h.at_.len] at h1
   rcases Nat.eq_zero_or_pos n with h2 | h2
   ·
    rw [h2] at h1;simp at h1
   ·
    exact h2
  refine ⟨⟨h.at_.len,.inr ⟨b,o,c,hv,hc,fun i u hu=>st.aH.cell _ _ (hx i u hu) (h.fA _ _ _ hv' (hpos i u hu))⟩⟩,fun x o' f e hl => ?_⟩
  have hlen:0<cs.length:=by rw [h.at_.len];exact Nat.mul_pos hl hz
  have hb:=zL w _ (hx 0 _ (List.getElem?_eq_getElem hlen))
  rw [hv'] at e
  obtain ⟨rfl,_⟩:b=x∧_:=by simpa using e
  exact st.safe hb (h.fA _ _ _ hv' hl)
structure vT (w:World) (pb:Nat) (p:fJ) (sa:Option Addr) (sc:Nat) (ra:Option Addr) (rc:Nat) (F:Nat→Prop):Prop where
 at_:D0 w pb p (.slice sa p.bJ.length sc) (.slice ra p.aC.length rc)
 fA : ¬ F pb
 bJ:BN w sa sc p.bJ.length 1 (aB p.bJ) F
 aC:BN w ra rc p.aC.length 4 (bp p.aC) F
theorem vT.step {w w':World} {pb:Nat} {p:fJ} {sa:Option Addr} {sc:Nat} {ra:Option Addr} {rc:Nat} {F G:Nat→Prop} (h:vT w pb p sa sc ra rc F) (st:Step F G w w'):vT w' pb p sa sc ra rc G :=
 ⟨st.aH.at h.at_ h.fA,st.safe (aO h.at_) h.fA,h.bJ.step (by decide) st,h.aC.step (by decide) st⟩
structure fJ.Ok (p:fJ):Prop where
 av:4≤p.av∧p.av<8
 dG:p.dG<0∨(4≤p.dG∧p.dG<8)
 len:p.bJ.length=p.aC.length
 KI:p.aC.length≤8
 bJ : ∀ x ∈ p.bJ,0≤x∧x<8
 aC : ∀ r ∈ p.aC,bD r=true
def eL (sec:Int):List (Int×aX)→aG→aG×Int
 | [],m=>(m,0)
 | x::l,m=>if (m.dY (cd sec x.1) (aK x.2)).2≠0 then m.dY (cd sec x.1) (aK x.2) else eL sec l (m.dY (cd sec x.1) (aK x.2)).1
theorem za (sec:Int) (s0:4≤sec) (s1:sec<8) : ∀ (l:List (Int×aX)) (m:aG),m.Ok→(∀ x ∈ l,0≤x.1∧x.1<8∧bD x.2=true)→(eL sec l m).1.Ok∧bH m (eL sec l m).1
 | [],m,ok,h=>⟨ok,bH.refl m⟩
 | x::l,m,ok,h=>by
  obtain ⟨h0,h1,h2⟩:=h x (by simp)
  have hsz:(aK x.2).size=64:=by
   unfold aK
   rw [fb,dg _ _ (gp h2)]
  have o1:=wj ok (cd sec x.1) (aK x.2) (by unfold cd;omega) (by unfold cd;omega) hsz
  have m1:=mZ m (cd sec x.1) (aK x.2)
  unfold eL
  split
  ·
   exact ⟨o1,m1⟩
  ·
   have:=za sec s0 s1 l _ o1 (fun y hy=>h y (by simp [hy]))
   exact ⟨this.1,m1.trans this.2⟩
def firstT (m:aG) (q:Cache) (p:fJ) (reads:List Int):aG×Cache×List Int×Int:=if 0≤p.dG then jd m q p.dG reads else (m,q,[],0)
def fZ (b:aG×Int) (q:Cache) (dG:Int) (out reads:List Int):aG×Cache×List Int×Int:=if b.2≠0 then (b.1,q,[],b.2) else if 0≤dG then (b.1,q,out,0) else dF reads [] b.1 q
def pV (t:aG×Cache×List Int×Int) (p:fJ) (reads:List Int):aG×Cache×List Int×Int:=if t.2.2.2≠0 then (t.1,t.2.1,[],t.2.2.2) else fZ (eL p.av (p.bJ.zip p.aC) t.1) t.2.1 p.dG t.2.2.1 reads
def dX (m:aG) (q:Cache) (p:fJ) (reads:List Int):aG×Cache×List Int×Int:=pV (firstT m q p reads) p reads
section
open Go.RowKit
variable {X:Nat→Prop}
theorem Bx (s k c b cap pb:Nat) (m:aG) (q:Cache) (S:aA) (H:Nat→Prop) (p:fJ) (sa:Option Addr) (sc:Nat) (ra:Option Addr) (rc:Nat) (a:Option Addr) (reads:List Int) (w:World) (h:Sys X w s k c b m q S H) (ok:m.Ok) (g:q.Good) (hh:0<m.ar.busy.length→m.ar.home<w.heap.size) (hi:aL w a reads H) (hcap:reads.length≤cap) (hr:cH reads=true) (hp:vT w pb p sa sc ra rc H) (pk:p.Ok):Calls prog 134 #[.pointer (some ⟨s,0,none⟩),.pointer (some ⟨pb,0,none⟩),.slice a reads.length cap] w (AL X s k c b (dX m q p reads).1 (dX m q p reads).2.1 S (dX m q p reads).2.2.1 (dX m q p reads).2.2.2 H w):=by
 have hlen:=(ja hr).1
 have HWT:=zH (fun w' (hb:Below w.heap.size w w') (h0:4≤p.dG∧p.dG<8)=>Ay s k c b cap m q S H p.dG a reads w' (h.aj hb) ok (hi.step (Step.ah hb)) hcap (by omega) (fun hl=>zV (hh hl) hb.size) h0.1 h0.2)
 have HTF:=zH (show (0≤p.dG→firstT m q p reads=jd m q p.dG reads)∧(¬ 0≤p.dG→firstT m q p reads=(m,q,[],0)) from ⟨fun h=>if_pos h,fun h=>if_neg h⟩)
 have HTO:=zH (show (firstT m q p reads).1.Ok∧bH m (firstT m q p reads).1 by
  unfold firstT
  split
  ·
   rename_i h0
   have h4:4≤p.dG∧p.dG<8:=by have:=pk.dG;omega
   refine ⟨DL ok p.dG h4.1 h4.2 reads,?_⟩
   unfold jd
   rw [if_pos hr]
   exact (sM ok _ (by omega) (by omega) reads (fun x hx=>by have:=(ja hr).2 x hx;omega)).2.2
  ·
   exact ⟨ok,bH.refl m⟩)
 have HR:=zH (show dX m q p reads=pV (firstT m q p reads) p reads from rfl)
 have H0:=zH (zA h (zA hi (zA hp hh)))
 have HPK:=zH pk
 have HG:=zH (zA g hr)
 have hw48:p.dG<0∨(4≤p.dG∧p.dG<8):=pk.dG
 obtain ⟨a0,cp0,h1,h2⟩:=h.st
 obtain ⟨c0,c1,c2,c3,c4,c5,c6,c7,cf⟩:=tE h1
 obtain ⟨p0,p1,p2,p3,p4,p5,pf⟩:=km hp.at_
 clear h ok g hi hr hp pk hh h1 h2 c2 c3 c4 c5 c6 c7 p4 p5
 generalize dX m q p reads=wr0 at *
 generalize firstT m q p reads=T at *
 obtain ⟨m1,q1,out1,er1⟩:=T
 simp only at HTO
 go_enter func134,ntmps134
 go_upto_if 18 with fail
 go_cut [8] from 18 to 39 (fun v wx => ∃ H1,Sys X wx s k c b m1 q1 S H1∧Step H H1 w wx∧er1=0∧wx.ownsRow w.heap.size 3 1 v out1.length (aB out1)∧(∀ g,v.ownBlock=some g → ¬ H1 g))
 case first =>
  by_cases hw:p.dG<0
  ·
   have HWN:=zH (HTF.out.2 (by omega))
   go_wp2
   go_meet
   have e:=HWN.out
   simp only [Prod.mk.injEq] at e
   obtain ⟨rfl,rfl,rfl,rfl⟩:=e
   exact ⟨H,H0.out.1,Step.refl _ _,rfl,zN,by simp [Value.ownBlock]⟩
  ·
   have h4:4≤p.dG∧p.dG<8:=by omega
   have HWX:=zH (fun w' hb=>HWT.out w' hb h4)
   rw [← HTF.out.1 (by omega)] at HWX
   simp only at HWX
   have hge:0≤p.dG:=by omega
   clear HWT HTF hw48
   go_upto_region 3 with fail
   go_cut [9,10] from 18 to 35 (fun v9 v10 wx=>v10=.int .i64 er1 ∧ ∃ H1,Sys X wx s k c b m1 q1 S H1∧Step H H1 w wx∧(er1=0→wx.ownsRow w.heap.size 3 1 v9 out1.length (aB out1) ∧ ∀ g,v9.ownBlock=some g → ¬ H1 g))
   case first =>
    go_region_with (go_at_call 90;refine (HWX.out _ (au zR)).mono ?_;rintro e w' ⟨v,rfl,hv0,H2,hs2,st2,how⟩;have HQ:=zH (zA hs2 (zA ((Step.ah (au zR)).trans st2) how));clear hs2 st2 how hv0)
    all_goals
     go_wp2
     go_meet
     exact ⟨rfl,H2,HQ.out.1,HQ.out.2.1,HQ.out.2.2⟩
   case rest =>
    obtain ⟨rfl,H2,hs2,st2,how⟩:=hcut
    have HS:=zH (zA hs2 (zA st2 how))
    clear hs2 st2 how
    by_cases ke:er1=0
    ·
     have HE:=zH ke
     subst ke
     go_wp2
     go_meet
     exact ⟨H2,HS.out.1,HS.out.2.1,by trivial,(HS.out.2.2 (by trivial)).1,(HS.out.2.2 (by trivial)).2⟩
    ·
     have hne:(er1 != 0)=true:=bne_iff_ne.2 ke
     have HE:=zH ke
     clear ke
     go_wp2
     go_ret2
     rw [HR.out,pV,if_pos HE.out]
     exact ⟨_,rfl,fun _=>rfl,H2,HS.out.1,HS.out.2.1,fun h0=>absurd h0 HE.out⟩
 case rest =>
  obtain ⟨H1,hs1,st1,rfl,ho1⟩:=hcut
  have HS:=zH (zA hs1 (zA st1 ho1))
  replace HR:=zH (show wr0=fZ (eL p.av (p.bJ.zip p.aC) m1) q1 p.dG out1 reads from HR.out.trans (if_neg (by simp)))
  have HPL:=zH (H0.out.2.2.1.step st1)
  clear hs1 st1 ho1 p0 p1 p2 p3 pf c0 c1 cf HWT
  obtain ⟨p0,p1,p2,p3,p4,p5,pf⟩:=km HPL.out.at_
  have hsl:(aB p.bJ).length=p.bJ.length:=by simp [aB]
  have hsn:p.bJ.length≤8:=by have:=HPK.out.KI;have:=HPK.out.len;omega
  go_wp2
  go_loopg [45] p.bJ.length (fun gn i wr => ∃ (j:Nat) (mj:aG) (Hj:Nat→Prop),gn=p.bJ.length - j∧i=.int .i64 j∧j≤p.bJ.length∧eL p.av ((p.bJ.zip p.aC).drop j) mj=eL p.av (p.bJ.zip p.aC) m1∧mj.Ok∧bH m mj∧Sys X wr s k c b mj q1 S Hj∧Step H Hj w wr∧wr.ownsRow w.heap.size 3 1 u8 out1.length (aB out1) ∧ ∀ g,u8.ownBlock=some g → ¬ Hj g)
  case atStart=>exact ⟨0,m1,H1,rfl,rfl,Nat.zero_le _,rfl,HTO.out.1,HTO.out.2,HS.out.1,HS.out.2.1,HS.out.2.2.1,HS.out.2.2.2⟩
  case round =>
   obtain ⟨j,mj,Hj,hgn,rfl,hj,hbl,okj,hmj,hsj,stj,hoj⟩:=hrel
   have HJ:=zH (zA hgn (zA hbl (zA okj (zA hmj (zA hsj (zA stj hoj))))))
   have HPJ:=zH (H0.out.2.2.1.step stj)
   clear hgn hbl okj hmj hsj stj hoj p0 p1 p2 p3 p4 p5 pf
   obtain ⟨p0,p1,p2,p3,p4,p5,pf⟩:=km HPJ.out.at_
   by_cases hlt:j<p.bJ.length
   ·
    have hlt':(j:Int)<(p.bJ.length:Int):=by omega
    have hrl:p.aC.length=p.bJ.length:=HPK.out.len.symm
    have hrlt:j<p.aC.length:=by omega
    have hrlt':(j:Int)<(p.aC.length:Int):=by omega
    obtain ⟨sb,so,rfl,hsc,hsx⟩:=HPJ.out.bJ.at_.some (by omega)
    obtain ⟨rb,ro,rfl,hrc,hrx⟩:=HPJ.out.aC.at_.some (by omega)
    obtain ⟨r0,r1,r2,r3⟩:=nE p.aC j hrlt
    have x0:wr.cell? ⟨sb,so+j,none⟩=some (.int .i64 p.bJ[j]):=hsx j _ (by simp [aB,hlt])
    have d0:wr.cell? ⟨rb,ro+j * 4,none⟩=some (.int .i64 p.aC[j].kind):=by rw [Nat.mul_comm];exact hrx _ _ r0
    have d1:wr.cell? ⟨rb,ro+j * 4+1,none⟩=some (.int .i64 p.aC[j].an):=by rw [Nat.mul_comm,Nat.add_assoc];exact hrx _ _ r1
    have d2:wr.cell? ⟨rb,ro+j * 4+2,none⟩=some (.string p.aC[j].key):=by rw [Nat.mul_comm,Nat.add_assoc];exact hrx _ _ r2
    have d3:wr.cell? ⟨rb,ro+j * 4+3,none⟩=some (.string p.aC[j].value):=by rw [Nat.mul_comm,Nat.add_assoc];exact hrx _ _ r3
    have hl8:=HPK.out.bJ _ (List.getElem_mem hlt)
    have hrm:=HPK.out.aC _ (List.getElem_mem hrlt)
    have hsec:=HPK.out.av
    have HDR:=zH (show (p.bJ.zip p.aC).drop j=(p.bJ[j],p.aC[j])::(p.bJ.zip p.aC).drop (j+1) by
     rw [List.drop_eq_getElem_cons (by rw [List.length_zip];omega),List.getElem_zip])
    generalize p.bJ[j]=l at *
    generalize p.aC[j]=r at *
    have HBU:=zH (fun w' (hb:Below wr.heap.size wr w')=>tS (X:=X) s k c b mj q1 S Hj p.av l r w' (HJ.out.2.2.2.2.1.aj hb) HJ.out.2.2.1 hsec.1 hsec.2 hl8.1 hl8.2 hrm)
    have HMB:=zH (show (mj.dY (cd p.av l) (aK r)).1.Ok∧bH mj (mj.dY (cd p.av l) (aK r)).1 by
     have hsz:(aK r).size=64:=by
      unfold aK
      rw [fb,dg _ _ (gp hrm)]
     exact ⟨wj HJ.out.2.2.1 (cd p.av l) (aK r) (by unfold cd;omega) (by unfold cd;omega) hsz,mZ _ _ _⟩)
    replace HDR:=zH (show eL p.av ((p.bJ.zip p.aC).drop j) mj=if (mj.dY (cd p.av l) (aK r)).2≠0 then mj.dY (cd p.av l) (aK r) else eL p.av ((p.bJ.zip p.aC).drop (j+1)) (mj.dY (cd p.av l) (aK r)).1 by rw [HDR.out];rfl)
    unfold aX.cells at HBU
    generalize mj.dY (cd p.av l) (aK r)=br at *
    obtain ⟨m2,er2⟩:=br
    simp only at HBU HMB HDR
    clear r0 r1 r2 r3 hsx hrx hl8 hrm p0 p2 p4 p5
    go_upto_region 10 with fail
    go_cut [13] from 50 to 63 (fun v wx=>v=.int .i64 er2 ∧ ∃ H2,Sys X wx s k c b m2 q1 S H2∧Step Hj H2 wr wx)
    case first =>
     go_region_with (go_at_call 91;refine (HBU.out _ (au zR)).mono ?_;rintro e w' ⟨rfl,H2,hs2,st2⟩;have HQ:=zH (zA hs2 ((Step.ah (au zR)).trans st2));clear hs2 st2)
     all_goals
      go_wp2
      go_meet
      exact ⟨rfl,H2,HQ.out⟩
    case rest =>
     obtain ⟨rfl,H2,hs2,st2⟩:=hcut
     have HS2:=zH (zA hs2 (zA (HJ.out.2.2.2.2.2.1.trans st2) (zA (dE HJ.out.2.2.2.2.2.2.1 st2.aH (fun y hy=>HJ.out.2.2.2.2.2.2.2 y hy)) (fun y hy=>st2.safe (lx HJ.out.2.2.2.2.2.2.1 y hy) (HJ.out.2.2.2.2.2.2.2 y hy)))))
     clear hs2 st2 p1 p3 pf d0 d1 d2 d3 x0
     by_cases ke:er2=0
     ·
      subst ke
      have HD2:=zH (HDR.out.symm.trans HJ.out.2.1)
      replace HD2:=zH ((if_neg (by simp)).symm.trans HD2.out)
      have HQ:=zH (zA HMB.out.1 (HJ.out.2.2.2.1.trans HMB.out.2))
      go_wp2
      go_roundg (p.bJ.length - (j+1))
      case measure=>have:=HJ.out.1;omega
      case rel=>exact ⟨j+1,m2,H2,rfl,by go_num,by omega,HD2.out,HQ.out.1,HQ.out.2,HS2.out.1,HS2.out.2.1,HS2.out.2.2.1,HS2.out.2.2.2⟩
     ·
      have hne:(er2 != 0)=true:=bne_iff_ne.2 ke
      have HE:=zH ke
      have HD2:=zH (HJ.out.2.1.symm.trans (HDR.out.trans (if_pos ke)))
      clear ke
      go_wp2
      go_ret2
      rw [HR.out,HD2.out,fZ,if_pos HE.out]
      exact ⟨_,rfl,fun _=>rfl,H2,HS2.out.1,HS2.out.2.1,fun h0=>absurd h0 HE.out⟩
   ·
    obtain rfl:j=p.bJ.length:=by omega
    have HB:=zH (show (mj,(0:Int))=eL p.av (p.bJ.zip p.aC) m1 by
     rw [← HJ.out.2.1,List.drop_of_length_le (by rw [List.length_zip];omega)];rfl)
    obtain ⟨a1,cp1,h1,h2⟩:=HJ.out.2.2.2.2.1.st
    obtain ⟨c0,c1,c2,c3,c4,c5,c6,c7,cf⟩:=tE h1
    clear h1 h2 c0 c2 c3 c4 c5 c6 c7 p1 p2 p3 p4 p5
    by_cases hw:p.dG<0
    ·
     have e:=HTF.out.2 (by omega)
     simp only [Prod.mk.injEq] at e
     have hq1:q1=q:=e.2.1
     have HAL:=zH (L4 s k c b cap mj q1 S Hj a reads wr HJ.out.2.2.2.2.1 HJ.out.2.2.1 (by rw [hq1];exact HG.out.1) (H0.out.2.1.step HJ.out.2.2.2.2.2.1) hcap (fun hl=>by
      have h3:=HJ.out.2.2.2.1
      have h4:=H0.out.2.2.2 (zV hl h3.2)
      have h5:=HJ.out.2.2.2.2.2.1.aH.size
      rw [h3.1];omega) HG.out.2)
     have HW:=zH (show fZ (mj,0) q1 p.dG out1 reads=dF reads [] mj q1 by
      unfold fZ
      rw [if_neg (by simp),if_neg (by omega)])
     clear e hq1 hw48 HTF
     generalize dF reads [] mj q1=rr at *
     go_wp2_with fail
     refine HAL.out.mono ?_
     rintro e w2 ⟨v,rfl,hv0,H2,hs2,st2,how⟩
     have HQ:=zH (zA hs2 (zA (HJ.out.2.2.2.2.2.1.trans st2) (zA hv0 how)))
     clear hs2 st2 hv0 how
     go_wp2
     go_ret2
     rw [HR.out,← HB.out,HW.out]
     exact ⟨v,rfl,HQ.out.2.2.1,H2,HQ.out.1,HQ.out.2.1,fun h0=>⟨eV (HQ.out.2.2.2 h0).1 HJ.out.2.2.2.2.2.1.aH.size,(HQ.out.2.2.2 h0).2⟩⟩
    ·
     have hge:0≤p.dG:=by omega
     have HW:=zH (show fZ (mj,0) q1 p.dG out1 reads=(mj,q1,out1,0) by
      unfold fZ
      rw [if_neg (by simp),if_pos hge])
     clear hw48 HTF hw
     go_wp2
     go_ret2
     rw [HR.out,← HB.out,HW.out]
     exact ⟨_,rfl,fun h0=>absurd rfl h0,Hj,HJ.out.2.2.2.2.1,HJ.out.2.2.2.2.2.1,fun _=>⟨HJ.out.2.2.2.2.2.2.1,HJ.out.2.2.2.2.2.2.2⟩⟩
end
def mS (x:aJ):Prop:=bD (eR x)=true
theorem Ie {r:aX} (h:bD r=true) (hk:r.kind=1):mS ⟨r.key,r.value⟩:=by
 unfold mS eR
 unfold bD at h ⊢
 rw [if_neg (by rw [hk];decide),if_pos hk] at h
 simp only at h ⊢
 rw [if_neg (by decide)]
 simp only [Bool.and_eq_true,if_true] at h ⊢
 exact ⟨⟨by decide,h.1.2⟩,h.2⟩
theorem pz {ps:List aJ} {r:aX} (h : ∀ x ∈ ps,mS x) (hr:gW r) : ∀ x ∈ eI ps r,mS x:=by
 intro x hx
 have hnew:r.kind=1→x=⟨r.key,r.value⟩→mS x:=fun hk e=>by rw [e];exact Ie hr.1 hk
 unfold eI at hx
 split at hx
 ·
  split at hx
  ·
   rcases List.mem_append.1 hx with hx | hx
   ·
    exact h x (List.mem_of_mem_take hx)
   ·
    exact h x (List.mem_of_mem_drop hx)
  ·
   rename_i hk
   have hk1:r.kind=1:=(Cv hr).resolve_right hk
   rcases List.mem_append.1 hx with hx | hx
   ·
    rcases List.mem_append.1 hx with hx | hx
    ·
     exact h x (List.mem_of_mem_take hx)
    ·
     exact hnew hk1 (by simpa using hx)
   ·
    exact h x (List.mem_of_mem_drop hx)
 ·
  split at hx
  ·
   rename_i hk1
   rcases List.mem_append.1 hx with hx | hx
   ·
    rcases List.mem_append.1 hx with hx | hx
    ·
     exact h x (List.mem_of_mem_take hx)
    ·
     exact hnew hk1 (by simpa using hx)
   ·
    exact h x (List.mem_of_mem_drop hx)
  ·
   exact h x hx
theorem uh : ∀ (rs:List aX) (ps:List aJ),(∀ x ∈ ps,mS x)→(∀ r ∈ rs,gW r) → ∀ x ∈ rs.foldl eI ps,mS x
 | [],ps,h,_=>h
 | r::rs,ps,h,hr=>uh rs (eI ps r) (pz h (hr r (by simp))) (fun y hy=>hr y (by simp [hy]))
theorem ri {rs:List aX} (h : ∀ r ∈ rs,gW r) : ∀ x ∈ cn rs,mS x:=uh rs [] (fun x hx=>by simp at hx) h
theorem ik {e:Int} (h0:1≤e) (h1:e≤1048576):bD (cP e)=true:=by
 unfold bD cP
 rw [if_pos rfl]
 simp only [oF,lu]
 simp
 omega
theorem pG {V:bC} (ok:V.Ok) {sec:Int} (s0:4≤sec) (s1:sec<8) {r:aX} (hr:gW r) (h:(cA V sec r).1=0):(cA V sec r).2.Ok:=by
 have hve:=ok.an
 have hvf:=ok.free
 unfold cA at h ⊢
 split at h
 ·
  simp at h
 ·
  rename_i n1
  rw [if_neg n1]
  split at h
  ·
   simp at h
  ·
   rename_i n2
   rw [if_neg n2]
   split at h
   ·
    rename_i n3
    rw [if_pos n3]
    exact ⟨⟨s0,s1⟩,.inl (show (-1:Int)<0 by decide),rfl,by simp,fun x hx=>by
     obtain rfl:x=V.free:=by simpa using hx
     omega,fun x hx=>by
     obtain rfl:x=r:=by simpa using hx
     exact hr.1⟩
   ·
    rename_i n3
    rw [if_neg n3]
    split at h
    ·
     simp at h
    ·
     rename_i n4
     rw [if_neg n4]
     have hn:=rM s0 s1
     have hp:=pz (ri ok.aC) hr
     have hlen:(eI (cn V.aC) r).length≤7:=by omega
     generalize eI (cn V.aC) r=ps at *
     refine ⟨hn,.inr hn,?_,?_,fun x hx => ?_,fun x hx => ?_⟩
     ·
      simp [jI]
     ·
      simp [jI];omega
     ·
      simp only [jI,List.mem_append,List.mem_map,List.mem_range,List.mem_singleton] at hx
      rcases hx with ⟨i,hi,rfl⟩ | rfl
      ·
       omega
      ·
       omega
     ·
      simp only [jI,List.mem_append,List.mem_map,List.mem_singleton] at hx
      rcases hx with ⟨y,hy,rfl⟩ | rfl
      ·
       exact hp y hy
      ·
       exact ik (by omega) (by omega)
structure Core where
 cells:ByteArray
 bq:Bool
 bk:Bool
 en:Bool
 aD:Bool
 aZ:Option iC
 busy:List Int
def ag.core (m:ag):Core:=⟨m.cells,m.bq,m.bk,m.en,m.aD,m.aZ,m.busy⟩
def Core.pass (c:Core):Core:=match c.aZ with
 | none=>c
 | some j=>if j.ia then c else if j.left - 1≤0 then { c with cells:=cI j c.cells ⟨#[255]⟩,aZ:=none,en:=false } else { c with aZ:=some { j with left:=j.left - 1 } }
def Core.bF:Nat→Core→Core
 | 0,c=>c
 | n+1,c=>Core.bF n c.pass
theorem iA : ∀ (a b:Nat) (c:Core),Core.bF (a+b) c=Core.bF b (Core.bF a c)
 | 0,b,c=>by rw [Nat.zero_add];rfl
 | a+1,b,c=>by rw [Nat.add_right_comm];exact iA a b c.pass
def ag.aW (m:ag) (c:Core):ag:={ m with cells:=c.cells,bq:=c.bq,bk:=c.bk,en:=c.en,aD:=c.aD,aZ:=c.aZ,busy:=c.busy }
theorem mJ (m:ag):m.pass=m.aW m.core.pass:=by
 unfold ag.pass Core.pass ag.aW ag.core
 cases h:m.aZ with
 | none=>simp only;rw [← h]
 | some j =>
  simp only
  split
  ·
   simp only;rw [← h]
  ·
   split <;> rfl
theorem jX (m:ag):m.behind.core=m.core:=by
 unfold ag.behind
 repeat' split
 all_goals rfl
theorem tP (m:ag) (b:Int):(m.cT b).core=m.core:=by
 unfold ag.cT
 split
 ·
  rfl
 ·
  split
  ·
   rfl
  ·
   exact jX _
theorem Iz (m:ag) (x:Int):(m.step x).2.core=m.core:=by
 unfold ag.step
 split
 ·
  unfold ag.sC;split;exact tP _ _;rfl
 split
 ·
  unfold ag.sD;split;exact jX _;rfl
 split
 ·
  unfold ag.sE;split;exact jX _;rfl
 split
 ·
  unfold ag.uL;split;exact jX _;rfl
 split
 ·
  unfold ag.sF;split;exact jX _;rfl
 split
 ·
  unfold ag.bU ag.next;split <;> rfl
 split <;> rfl
theorem Ed (m:ag) (x:Int):(m.clock x).2.core=m.core.pass:=by
 have h:m.pass.core=m.core.pass:=by rw [mJ];rfl
 unfold ag.clock
 split
 ·
  rw [Iz];exact h
 ·
  exact h
def feed:List Int→ag→ag
 | [],m=>m
 | x::r,m=>feed r (m.clock x).2
theorem ru : ∀ (a b:List Int) (m:ag),feed (a++b) m=feed b (feed a m)
 | [],b,m=>rfl
 | x::a,b,m=>ru a b _
theorem xO : ∀ (xs:List Int) (d:aI),(aI.row xs d).1=true→(aI.row xs d).2={ d with ar:=feed xs d.ar,n:=d.n+xs.length }
 | [],d,h=>rfl
 | x::r,d,h=>by
  cases hs:d.stop with
  | true=>rw [sr x r d hs] at h;cases h
  | false =>
   rw [xM x r d hs] at h ⊢
   rw [xO r _ h]
   simp only [aI.tick,feed,List.length_cons]
   congr 1
   omega
theorem dA {r:Bool×aI} {f:aI→Bool×aI} (h:(andThen r f).1=true):r.1=true∧(f r.2).1=true∧(andThen r f).2=(f r.2).2:=by
 unfold andThen at h ⊢
 split at h
 ·
  rename_i hr;exact ⟨hr,h,by rw [if_pos hr]⟩
 ·
  cases h
def lZ (L b:Int):List Int:=(bM b L).map (fR L)
def eA (L:Int):List Int→List Int
 | []=>[]
 | b::r=>lZ L b++eA L r
theorem An (L:Int) : ∀ (bs:List Int) (d:aI),(aI.dB L bs d).1=true→(aI.dB L bs d).2={ d with ar:=feed (eA L bs) d.ar,n:=d.n+(eA L bs).length }
 | [],d,h=>rfl
 | b::r,d,h=>by
  cases hp:(aI.put b L d).1 with
  | false=>rw [Am L b r d hp] at h;cases h
  | true =>
   rw [Be L b r d hp] at h ⊢
   rw [An L r _ h,show (aI.put b L d).2={ d with ar:=feed (lZ L b) d.ar,n:=d.n+(lZ L b).length } from xO _ d hp]
   simp only [eA,ru,List.length_append]
   congr 1
   omega
theorem zz (L:Int) : ∀ (k:Nat) (xs:List Int) (d:aI),(aI.il L k xs d).1=true→(aI.il L k xs d).2.2={ d with ar:=feed (List.replicate k 15) d.ar,n:=d.n+k }
 | 0,xs,d,h=>rfl
 | k+1,xs,d,h=>by
  cases hs:d.stop with
  | true=>rw [pJ L k xs d hs] at h;cases h
  | false =>
   rw [rF L k xs d hs] at h ⊢
   rw [zz L k _ _ h]
   simp only [aI.tick,List.replicate_succ,feed]
   congr 1
   omega
def listen (L:Int):Nat→ag→List Int
 | 0,m=>[]
 | k+1,m=>heard L (m.clock 15).1::listen L k (m.clock 15).2
theorem FV (L:Int) : ∀ (k:Nat) (xs:List Int) (d:aI),(aI.il L k xs d).1=true→(aI.il L k xs d).2.1=xs++listen L k d.ar
 | 0,xs,d,h=>by simp [aI.il,listen]
 | k+1,xs,d,h=>by
  cases hs:d.stop with
  | true=>rw [pJ L k xs d hs] at h;cases h
  | false =>
   rw [rF L k xs d hs] at h ⊢
   rw [FV L k _ _ h]
   simp [listen,aI.tick,aI.said]
theorem JF (L:Int) (d:aI) (h:(aI.get L d).1=true):(aI.get L d).2={ d with ar:=feed (List.replicate (many L).toNat 15) d.ar,n:=d.n+(many L).toNat,out:=d.out++[cY (listen L (many L).toNat d.ar) L] }:=by
 unfold aI.get aI.cM at h ⊢
 split at h
 ·
  rename_i hr
  rw [if_pos hr,zz L _ _ _ hr,FV L _ _ _ hr]
  rfl
 ·
  cases h
def AN (a b:ag):Prop := ∃ k,b.core=Core.bF k a.core
theorem AN.refl (a:ag):AN a a:=⟨0,rfl⟩
theorem AN.trans {a b c:ag} (h:AN a b) (k:AN b c):AN a c:=by
 obtain ⟨n,h⟩:=h
 obtain ⟨m,k⟩:=k
 exact ⟨n+m,by rw [k,h,iA]⟩
theorem C6 (ps:List Ph) (d:aI):AN d.ar (aI.eQ ps d).2.ar :=
 qJ (fun m=>AN d.ar m) (fun m x h=>h.trans ⟨1,Ed m x⟩) ps d (AN.refl _)
theorem Aw {d:aI} (h:d.bh<0):d.stop=false:=by unfold aI.stop;simp;intro;omega
theorem xL : ∀ (xs:List Int) (d:aI),d.bh<0→(aI.row xs d).1=true∧(aI.row xs d).2.bh<0
 | [],d,h=>⟨rfl,h⟩
 | x::r,d,h=>by rw [xM x r d (Aw h)];exact xL r _ h
theorem zB (L:Int) : ∀ (k:Nat) (xs:List Int) (d:aI),d.bh<0→(aI.il L k xs d).1=true∧(aI.il L k xs d).2.2.bh<0
 | 0,xs,d,h=>⟨rfl,h⟩
 | k+1,xs,d,h=>by rw [rF L k xs d (Aw h)];exact zB L k _ _ h
theorem JE (L:Int) (d:aI) (h:d.bh<0):(aI.get L d).1=true∧(aI.get L d).2.bh<0:=by
 have:=zB L (many L).toNat [] d h
 unfold aI.get aI.cM
 rw [if_pos this.1]
 exact ⟨rfl,this.2⟩
theorem Ak (L:Int) : ∀ (bs:List Int) (d:aI),d.bh<0→(aI.dB L bs d).1=true∧(aI.dB L bs d).2.bh<0
 | [],d,h=>⟨rfl,h⟩
 | b::r,d,h=>by
  have:=xL ((bM b L).map (fR L)) d h
  rw [Be L b r d this.1]
  exact Ak L r _ this.2
theorem zx (L:Int) : ∀ (k:Nat) (d:aI),d.bh<0→(aI.fW L k d).1=true∧(aI.fW L k d).2.bh<0
 | 0,d,h=>⟨rfl,h⟩
 | k+1,d,h=>by
  have:=JE L d h
  rw [vD L k d this.1]
  exact zx L k _ this.2
theorem mW {r:Bool×aI} {f:aI→Bool×aI} (h:r.1=true∧r.2.bh<0) (k:r.2.bh<0→(f r.2).1=true∧(f r.2).2.bh<0):(andThen r f).1=true∧(andThen r f).2.bh<0:=by
 unfold andThen
 rw [if_pos h.1]
 exact k h.2
theorem uE : ∀ (ps:List Ph) (d:aI),d.bh<0→(aI.eQ ps d).1=true∧(aI.eQ ps d).2.bh<0
 | [],d,h=>⟨rfl,h⟩
 | p::r,d,h=>mW (mW (Ak _ _ _ h) fun h=>mW (xL _ _ h) fun h=>zx _ _ _ h) (uE r _)
section
def ag.bW (m:ag):Int:=if m.ay=0 then 1 else if m.ay=5 then m.op.data else m.op.addr
def ag.fin (m:ag):ag:=if m.ay=0 then m.cT m.cM else if m.ay=2 then ag.behind { m with addr:=m.cM % 4096 } else if m.ay=3 then ag.behind { m with mode:=m.cM,cJ:=true } else ag.behind { m with data:=m.data++[m.cM] }
def FC (s:Int):Prop:=s=0∨s=2∨s=3∨s=5
theorem Ff (m:ag) (x:Int) (h:FC m.ay):(m.step x).2=if m.left - 1=0 then (m.dd x m.bW).fin else m.dd x m.bW:=by
 rcases h with h | h | h | h <;> simp [ag.step,h,ag.sC,ag.sD,ag.sE,ag.sF,ag.bW,ag.dd,ag.fin]
theorem tW (m:ag) (x:Int) (hs:m.dP=true) (h:FC m.ay):(m.clock x).2=if m.left - 1=0 then ((m.aW m.core.pass).dd x m.bW).fin else (m.aW m.core.pass).dd x m.bW:=by
 unfold ag.clock
 rw [mJ,if_pos (show (m.aW m.core.pass).dP=true from hs),Ff _ x (show FC (m.aW m.core.pass).ay from h)]
 rfl
def qi (m:ag) (xs:List Int):ag:={ m.aW (Core.bF xs.length m.core) with cM:=xs.foldl (fun g x=>aS g x m.bW) m.cM,left:=m.left - xs.length }
theorem yk (m:ag) (x:Int) (r:List Int):qi ((m.aW m.core.pass).dd x m.bW) r=qi m (x::r):=by
 unfold qi
 simp only [List.length_cons,List.foldl_cons]
 have e:((m.aW m.core.pass).dd x m.bW).left - (r.length:Int)=m.left - ((r.length+1:Nat):Int):=by simp only [ag.dd,ag.aW];omega
 rw [e];rfl
theorem kZ : ∀ (xs:List Int) (m:ag),xs≠[]→m.dP=true→FC m.ay→(xs.length:Int)=m.left→feed xs m=(qi m xs).fin
 | [],m,h,_,_,_=>absurd rfl h
 | [x],m,_,hs,ht,hl=>by
  have hl:1=m.left:=hl
  show (m.clock x).2=_
  rw [tW m x hs ht,if_pos (by omega)]
  rw [← yk]
  congr 1
  have e:(m.aW m.core.pass).dd x m.bW=qi ((m.aW m.core.pass).dd x m.bW) []:=by
   unfold qi
   simp [Core.bF,ag.aW,ag.core]
  exact e
 | x::y::r,m,_,hs,ht,hl=>by
  simp only [List.length_cons] at hl
  show feed (y::r) (m.clock x).2=_
  have hl':(((y::r).length:Nat):Int)=((m.aW m.core.pass).dd x m.bW).left:=by simp only [ag.dd,ag.aW,List.length_cons];omega
  rw [tW m x hs ht,if_neg (by omega)]
  exact (kZ (y::r) ((m.aW m.core.pass).dd x m.bW) (by simp) hs ht hl').trans (congrArg ag.fin (yk m x (y::r)))
theorem wi (L b:Int):(lZ L b).length=(many L).toNat:=by
 unfold lZ bM many
 split <;> rfl
theorem zv (L g b:Int) (hL:L=1∨L=4) (h0:0≤b) (h1:b<256):(lZ L b).foldl (fun g x=>aS g x L) g=g * 256+b:=by
 rcases hL with rfl | rfl
 ·
  have e : ∀ y:Int,(14+y % 2) % 2=y % 2:=fun y=>by omega
  simp only [lZ,bM,fR,aS,if_true,List.map_cons,List.map_nil,List.foldl_cons,List.foldl_nil,e]
  simp only [show ((2:Int) ^ 7)=128 by decide,show ((2:Int) ^ 6)=64 by decide,show ((2:Int) ^ 5)=32 by decide,show ((2:Int) ^ 4)=16 by decide,show ((2:Int) ^ 3)=8 by decide,show ((2:Int) ^ 2)=4 by decide,show ((2:Int) ^ 1)=2 by decide,show ((2:Int) ^ 0)=1 by decide]
  have e7:b / 128 % 2=b / 128:=by omega
  have e6:b / 64=2 * (b / 128)+b / 64 % 2:=by omega
  have e5:b / 32=2 * (b / 64)+b / 32 % 2:=by omega
  have e4:b / 16=2 * (b / 32)+b / 16 % 2:=by omega
  have e3:b / 8=2 * (b / 16)+b / 8 % 2:=by omega
  have e2:b / 4=2 * (b / 8)+b / 4 % 2:=by omega
  have e1:b / 2=2 * (b / 4)+b / 2 % 2:=by omega
  have e0:b=2 * (b / 2)+b / 1 % 2:=by omega
  generalize b / 128 % 2=x7 at *
  generalize b / 64 % 2=x6 at *
  generalize b / 32 % 2=x5 at *
  generalize b / 16 % 2=x4 at *
  generalize b / 8 % 2=x3 at *
  generalize b / 4 % 2=x2 at *
  generalize b / 2 % 2=x1 at *
  generalize b / 1 % 2=x0 at *
  omega
 ·
  simp only [lZ,bM,fR,aS,show ¬((4:Int)=1) by decide,if_false,List.map_cons,List.map_nil,List.foldl_cons,List.foldl_nil]
  simp only [show ((2:Int) ^ 4)=16 by decide,show ((2:Int) ^ 0)=1 by decide]
  omega
theorem LC {L:Int} (h:L=1∨L=4):(many L=8∧L=1)∨(many L=2∧L=4):=by
 rcases h with rfl | rfl <;> simp [many]
theorem ox (L:Int) : ∀ bs:List Int,(eA L bs).length=(many L).toNat * bs.length
 | []=>rfl
 | b::r=>by rw [eA,List.length_append,wi,ox L r,List.length_cons,Nat.mul_succ];omega
theorem ns (L:Int) (hL:L=1∨L=4) : ∀ (bs:List Int) (g:Int),(∀ b ∈ bs,0≤b∧b<256)→(eA L bs).foldl (fun g x=>aS g x L) g=bs.foldl (fun g b=>g * 256+b) g
 | [],g,_=>rfl
 | b::r,g,h=>by
  rw [eA,List.foldl_append,zv L g b hL (h b (by simp)).1 (h b (by simp)).2,ns L hL r _ (fun x hx=>h x (by simp [hx]))];rfl
def K (c:Core) (op:gD) (st left addr mode:Int) (cJ:Bool) (data:List Int) (told now:Int) (h:Nat):ag :=
 ⟨c.cells,c.bq,c.bk,true,c.en,c.aD,c.aZ,c.busy,op,st,left,0,addr,mode,cJ,data,told,now,false,h⟩
theorem Lh (m:ag):m.fresh=K m.core gD.zero 0 8 0 0 false [] 0 0 m.home:=rfl
theorem lL (m:ag) (g l:Int):ag.behind { m with cM:=g,left:=l }=m.behind:=by
 unfold ag.behind ag.enter
 repeat' split
 all_goals first | rfl | simp_all
theorem BU (m:ag) (g l b:Int):ag.cT { m with cM:=g,left:=l } b=m.cT b:=by
 unfold ag.cT
 have e:ag.known { m with cM:=g,left:=l } b=m.known b:=rfl
 rw [e]
 split
 ·
  rfl
 ·
  split
  ·
   rfl
  ·
   exact lL { m with op:=ak b } g l
theorem xp {L:Int} (hL:L=1∨L=4):0<(many L).toNat:=by rcases LC hL with ⟨e,_⟩ | ⟨e,_⟩ <;> rw [e] <;> decide
variable {c:Core} {op:gD} {a mo t nw:Int} {md:Bool} {ds:List Int} {h:Nat}
theorem jo (b:Int) (h0:0≤b) (h1:b<256):feed (eA 1 [b]) (K c op 0 8 a mo md ds t nw h)=(K (c.bF 8) op 0 8 a mo md ds t nw h).cT b:=by
 have hb : ∀ x ∈ [b],0≤x∧x<256:=by simp;omega
 rw [kZ _ _ (by simp [eA,lZ,bM]) rfl (.inl rfl) (by rw [ox];rfl)]
 unfold qi
 rw [show (K c op 0 8 a mo md ds t nw h).bW=1 from rfl,ns 1 (.inl rfl) [b] _ hb,ox]
 have e:List.foldl (fun g b=>g * 256+b) (K c op 0 8 a mo md ds t nw h).cM [b]=b:=by simp [K]
 rw [e]
 exact BU (K (c.bF 8) op 0 8 a mo md ds t nw h) _ _ _
theorem kK (L i:Int) (hL:L=1∨L=4) (ho:op.addr=L) (h0:0≤i) (h1:i<4096):feed (eA L [0,i / 256,i % 256]) (K c op 2 (if L=1 then 24 else 6) a mo md ds t nw h)=ag.behind (K (c.bF (if L=1 then 24 else 6)) op 2 0 i mo md ds t nw h):=by
 have hb : ∀ x ∈ [0,i / 256,i % 256],0≤x∧x<256:=by simp;omega
 have hl:(eA L [0,i / 256,i % 256]).length=if L=1 then 24 else 6:=by rw [ox];rcases hL with rfl | rfl <;> rfl
 have hlan:(K c op 2 (if L=1 then 24 else 6) a mo md ds t nw h).bW=L:=by simp [ag.bW,K,ho]
 rw [kZ _ _ (by intro e;rw [e] at hl;simp at hl;split at hl <;> omega) rfl (.inr (.inl rfl)) (by rw [hl];simp only [K];split <;> rfl)]
 unfold qi
 rw [hlan,ns L hL _ _ hb,hl]
 unfold ag.fin
 rw [if_neg (by simp [K,ag.aW]),if_pos (by simp [K,ag.aW])]
 have e:List.foldl (fun g b=>g * 256+b) (K c op 2 (if L=1 then 24 else 6) a mo md ds t nw h).cM [0,i / 256,i % 256]=i:=by simp [K];omega
 rw [e]
 show ag.behind { K (c.bF (if L=1 then 24 else 6)) op 2 0 (i % 4096) mo md ds t nw h with cM:=_,left:=_ }=_
 rw [lL,Int.emod_eq_of_lt h0 h1]
theorem zt (L b:Int) (hL:L=1∨L=4) (ho:op.addr=L) (h0:0≤b) (h1:b<256):feed (eA L [b]) (K c op 3 (many L) a mo md ds t nw h)=ag.behind (K (c.bF (many L).toNat) op 3 0 a b true ds t nw h):=by
 have hb : ∀ x ∈ [b],0≤x∧x<256:=by simp;omega
 have hl:(eA L [b]).length=(many L).toNat:=by rw [ox];simp
 have hp:=xp hL
 have hlan:(K c op 3 (many L) a mo md ds t nw h).bW=L:=by simp [ag.bW,K,ho]
 rw [kZ _ _ (by intro e;rw [e] at hl;simp at hl;omega) rfl (.inr (.inr (.inl rfl))) (by rw [hl];simp only [K];omega)]
 unfold qi
 rw [hlan,ns L hL _ _ hb,hl]
 unfold ag.fin
 rw [if_neg (by simp [K,ag.aW]),if_neg (by simp [K,ag.aW]),if_pos (by simp [K,ag.aW])]
 have e:List.foldl (fun g b=>g * 256+b) (K c op 3 (many L) a mo md ds t nw h).cM [b]=b:=by simp [K]
 rw [e]
 exact lL (K (c.bF (many L).toNat) op 3 0 a b true ds t nw h) _ _
theorem Jx (L b:Int) (hL:L=1∨L=4) (ho:op.data=L) (h0:0≤b) (h1:b<256):feed (lZ L b) (K c op 5 (many L) a mo md ds t nw h)=ag.behind (K (c.bF (many L).toNat) op 5 0 a mo md (ds++[b]) t nw h):=by
 have hl:=wi L b
 have hp:=xp hL
 have hlan:(K c op 5 (many L) a mo md ds t nw h).bW=L:=by simp [ag.bW,K,ho]
 rw [kZ _ _ (by intro e;rw [e] at hl;simp at hl;omega) rfl (.inr (.inr (.inr rfl))) (by rw [hl];simp only [K];omega)]
 unfold qi
 rw [hlan,zv L _ b hL h0 h1,hl]
 unfold ag.fin
 rw [if_neg (by simp [K,ag.aW]),if_neg (by simp [K,ag.aW]),if_neg (by simp [K,ag.aW])]
 have e:(K c op 5 (many L) a mo md ds t nw h).cM * 256+b=b:=by simp [K]
 rw [e]
 exact lL (K (c.bF (many L).toNat) op 5 0 a mo md (ds++[b]) t nw h) _ _
theorem BW (hm:op.mode=false) (hd:op.dummy=0) (h1:op.data=1) (hi:op.jz=true) (s:Int):ag.behind (K c op s 0 a mo md ds t nw h)=K c op 5 8 a mo md ds t nw h:=by
 unfold ag.behind
 simp [K,hm,hd,h1,hi,ag.enter,many]
theorem sZ (hm:op.mode=false) (hd:op.dummy=0) (hda:op.data=1) (hi:op.jz=true) : ∀ (bs:List Int) (c:Core) (ds:List Int),(∀ b ∈ bs,0≤b∧b<256)→feed (eA 1 bs) (K c op 5 8 a mo md ds t nw h)=K (c.bF (8 * bs.length)) op 5 8 a mo md (ds++bs) t nw h
 | [],c,ds,_=>by simp [eA,feed,Core.bF]
 | b::r,c,ds,hb=>by
  have h:=Jx (c:=c) (ds:=ds) (a:=a) (mo:=mo) (md:=md) (t:=t) (nw:=nw) (h:=h) 1 b (.inl rfl) hda (hb b (by simp)).1 (hb b (by simp)).2
  rw [show many 1=8 from rfl,BW hm hd hda hi] at h
  rw [eA,ru,h,sZ hm hd hda hi r _ _ (fun x hx=>hb x (by simp [hx])),List.append_assoc,List.length_cons,Nat.mul_succ,Nat.add_comm,iA]
  rfl
theorem tV (m:ag) (x:Int) (hs:m.dP=true) (h4:m.ay=4):(m.clock x).2=if m.left - 1=0 then ag.behind { m.aW m.core.pass with left:=m.left - 1 } else { m.aW m.core.pass with left:=m.left - 1 }:=by
 unfold ag.clock
 rw [mJ,if_pos (show (m.aW m.core.pass).dP=true from hs)]
 unfold ag.step
 rw [show (m.aW m.core.pass).ay=4 from h4,if_neg (by decide),if_neg (by decide),if_neg (by decide),if_pos rfl]
 rfl
theorem nm : ∀ (n:Nat) (c:Core),feed (List.replicate (n+1) 15) (K c op 4 ((n+1:Nat):Int) a mo md ds t nw h)=ag.behind (K (c.bF (n+1)) op 4 0 a mo md ds t nw h)
 | 0,c=>tV (K c op 4 ((0+1:Nat):Int) a mo md ds t nw h) 15 rfl rfl
 | n+1,c=>by
  have e:((K c op 4 ((n+1+1:Nat):Int) a mo md ds t nw h).clock 15).2=K c.pass op 4 ((n+1:Nat):Int) a mo md ds t nw h:=by
   have hl:(K c op 4 ((n+1+1:Nat):Int) a mo md ds t nw h).left - 1=((n+1:Nat):Int):=by simp only [K];omega
   rw [tV _ 15 rfl rfl,hl,if_neg (by omega)]
   rfl
  show feed (List.replicate (n+1) 15) (ag.clock _ 15).2=_
  rw [e,nm n c.pass]
  rfl
end
section
theorem Ee (m:ag) (l:Nat) (hs:m.dP=true) (h6:m.ay=6) (hl:m.left=((l+1:Nat):Int)):m.clock 15=(bitsOf m.now m.op.data l,{ m.aW m.core.pass with left:=(l:Int) }):=by
 have e:(m.aW m.core.pass).next=m.aW m.core.pass:=by
  unfold ag.next
  rw [if_neg (show ¬(m.aW m.core.pass).left=0 by show ¬ m.left=0;omega)]
 unfold ag.clock
 rw [mJ,if_pos (show (m.aW m.core.pass).dP=true from hs)]
 unfold ag.step
 rw [show (m.aW m.core.pass).ay=6 from h6,if_neg (by decide),if_neg (by decide),if_neg (by decide),if_neg (by decide),if_neg (by decide),if_pos rfl]
 unfold ag.bU
 rw [e,show (m.aW m.core.pass).left - 1=(l:Int) by show m.left - 1=_;omega]
 rfl
theorem B4 (m:ag) (hs:m.dP=true) (h6:m.ay=6) (hl:m.left=0) (v:Int) (hv:(m.aW m.core.pass).eM m.told=v):m.clock 15=(bitsOf v m.op.data (many m.op.data - 1),{ m.aW m.core.pass with now:=v,left:=many m.op.data - 1,told:=m.told+1 }):=by
 have e:(m.aW m.core.pass).next={ m.aW m.core.pass with now:=v,left:=many m.op.data,told:=m.told+1 }:=by
  unfold ag.next
  rw [if_pos (show (m.aW m.core.pass).left=0 from hl),← hv]
  rfl
 unfold ag.clock
 rw [mJ,if_pos (show (m.aW m.core.pass).dP=true from hs)]
 unfold ag.step
 rw [show (m.aW m.core.pass).ay=6 from h6,if_neg (by decide),if_neg (by decide),if_neg (by decide),if_neg (by decide),if_neg (by decide),if_pos rfl]
 unfold ag.bU
 rw [e]
 rfl
theorem ur (L:Int) : ∀ (l:Nat) (m:ag),m.dP=true→m.ay=6→m.left=(l:Int)→listen L l m=(List.range l).reverse.map (fun i:Nat=>heard L (bitsOf m.now m.op.data i))∧feed (List.replicate l 15) m={ m.aW (m.core.bF l) with left:=0 }
 | 0,m,_,_,hl=>⟨rfl,by
   have hl:m.left=0:=hl
   show m={ m.aW m.core with left:=0 }
   rw [← hl];rfl⟩
 | l+1,m,hs,h6,hl=>by
  have e:=Ee m l hs h6 hl
  obtain ⟨h1,h2⟩:=ur L l { m.aW m.core.pass with left:=(l:Int) } hs h6 rfl
  refine ⟨?_,?_⟩
  ·
   show heard L (m.clock 15).1::listen L l (m.clock 15).2=_
   rw [e,List.range_succ,List.reverse_append,List.map_append]
   simp only [h1]
   rfl
  ·
   show feed (List.replicate l 15) (m.clock 15).2=_
   rw [e]
   simp only [h2]
   rfl
theorem Hl (L v:Int) (hL:L=1∨L=4) (h0:0≤v) (h1:v<256):cY ((List.range (many L).toNat).reverse.map fun i:Nat=>heard L (bitsOf v L i)) L=v:=by
 rcases hL with rfl | rfl
 ·
  rw [show (List.range (many 1).toNat).reverse=[7,6,5,4,3,2,1,0] by decide]
  have e : ∀ y:Int,(13+2 * (y % 2)) / 2 % 2=y % 2:=fun y=>by omega
  simp only [cY,heard,bitsOf,if_true,List.map_cons,List.map_nil,List.foldl_cons,List.foldl_nil,e]
  simp only [show ((2:Int) ^ (((7:Nat):Int)).toNat)=128 by decide,show ((2:Int) ^ (((6:Nat):Int)).toNat)=64 by decide,show ((2:Int) ^ (((5:Nat):Int)).toNat)=32 by decide,show ((2:Int) ^ (((4:Nat):Int)).toNat)=16 by decide,show ((2:Int) ^ (((3:Nat):Int)).toNat)=8 by decide,show ((2:Int) ^ (((2:Nat):Int)).toNat)=4 by decide,show ((2:Int) ^ (((1:Nat):Int)).toNat)=2 by decide,show ((2:Int) ^ (((0:Nat):Int)).toNat)=1 by decide]
  have e7:v / 128 % 2=v / 128:=by omega
  have e6:v / 64=2 * (v / 128)+v / 64 % 2:=by omega
  have e5:v / 32=2 * (v / 64)+v / 32 % 2:=by omega
  have e4:v / 16=2 * (v / 32)+v / 16 % 2:=by omega
  have e3:v / 8=2 * (v / 16)+v / 8 % 2:=by omega
  have e2:v / 4=2 * (v / 8)+v / 4 % 2:=by omega
  have e1:v / 2=2 * (v / 4)+v / 2 % 2:=by omega
  have e0:v=2 * (v / 2)+v / 1 % 2:=by omega
  generalize v / 128 % 2=x7 at *
  generalize v / 64 % 2=x6 at *
  generalize v / 32 % 2=x5 at *
  generalize v / 16 % 2=x4 at *
  generalize v / 8 % 2=x3 at *
  generalize v / 4 % 2=x2 at *
  generalize v / 2 % 2=x1 at *
  generalize v / 1 % 2=x0 at *
  omega
 ·
  rw [show (List.range (many 4).toNat).reverse=[1,0] by decide]
  simp only [cY,heard,bitsOf,show ¬((4:Int)=1) by decide,if_false,List.map_cons,List.map_nil,List.foldl_cons,List.foldl_nil]
  simp only [show ((16:Int) ^ (((1:Nat):Int)).toNat)=16 by decide,show ((16:Int) ^ (((0:Nat):Int)).toNat)=1 by decide]
  omega
variable {c:Core} {op:gD} {a mo t nw:Int} {md:Bool} {ds:List Int} {h:Nat}
theorem Mi (L:Int) (hL:L=1∨L=4) (ho:op.data=L) (o:List Int) (n:Nat) (bh:Int) (hg:(aI.get L ⟨K c op 6 0 a mo md ds t nw h,o,n,bh⟩).1=true) (v:Int) (hv:(K c.pass op 6 0 a mo md ds t nw h).eM t=v):(aI.get L ⟨K c op 6 0 a mo md ds t nw h,o,n,bh⟩).2=⟨K (c.bF (many L).toNat) op 6 0 a mo md ds (t+1) v h,o++[v],n+(many L).toNat,bh⟩:=by
 have hv2:0≤v∧v<256:=by rw [← hv];exact nd _ _
 have hp:=xp hL
 obtain ⟨l,hl⟩ : ∃ l,(many L).toNat=l+1:=⟨(many L).toNat - 1,by omega⟩
 have hml:many L=((l+1:Nat):Int):=by omega
 have e:=B4 (K c op 6 0 a mo md ds t nw h) rfl rfl rfl v hv
 have eo:(K c op 6 0 a mo md ds t nw h).op.data=L:=ho
 rw [eo,hml,show ((l+1:Nat):Int) - 1=(l:Int) by omega] at e
 obtain ⟨h1,h2⟩:=ur L l _ (show ({ (K c op 6 0 a mo md ds t nw h).aW (K c op 6 0 a mo md ds t nw h).core.pass with now:=v,left:=(l:Int),told:=t+1 }:ag).dP=true from rfl) rfl rfl
 have hb:=Hl L v hL hv2.1 hv2.2
 rw [hl,List.range_succ,List.reverse_append,List.map_append] at hb
 rw [JF L _ hg,hl]
 have e1:listen L (l+1) (K c op 6 0 a mo md ds t nw h)=heard L (bitsOf v L l)::(List.range l).reverse.map (fun i:Nat=>heard L (bitsOf v L i)):=by
  show heard L ((K c op 6 0 a mo md ds t nw h).clock 15).1::listen L l ((K c op 6 0 a mo md ds t nw h).clock 15).2=_
  rw [e]
  congr 1
  have eo2:op.data=L:=ho
  rw [← eo2] at h1 ⊢
  exact h1
 have e2:feed (List.replicate (l+1) 15) (K c op 6 0 a mo md ds t nw h)=K (c.bF (l+1)) op 6 0 a mo md ds (t+1) v h:=by
  show feed (List.replicate l 15) ((K c op 6 0 a mo md ds t nw h).clock 15).2=_
  rw [e]
  exact h2
 simp only [e1,e2]
 congr 2
 exact congrArg (fun z=>[z]) hb
def Core.still (c:Core):Prop:=c.pass=c
theorem fB {c:Core} (hc:c.still) : ∀ n,c.bF n=c
 | 0=>rfl
 | n+1=>by show Core.bF n c.pass=c;rw [hc];exact fB hc n
def comes (c:Core) (op:gD) (a:Int) (t:Int) (n:Nat):List Int:=(List.range n).map fun i:Nat=>(K c op 6 0 a 0 false [] 0 0 0).eM (t+i)
theorem Eg (c:Core) (op:gD) (a t:Int) (n:Nat):comes c op a t (n+1)=(K c op 6 0 a 0 false [] 0 0 0).eM t::comes c op a (t+1) n:=by
 unfold comes
 rw [List.range_succ_eq_map,List.map_cons,List.map_map]
 simp only [Int.natCast_zero,Int.add_zero]
 congr 1
 refine List.map_congr_left fun i _ => ?_
 simp only [Function.comp]
 congr 1
 omega
theorem JG (L:Int) (hL:L=1∨L=4) (ho:op.data=L) (hc:c.still) (bh:Int) : ∀ (k:Nat) (t nw:Int) (o:List Int) (n:Nat),(aI.fW L k ⟨K c op 6 0 a mo md ds t nw h,o,n,bh⟩).1=true → ∃ nw',(aI.fW L k ⟨K c op 6 0 a mo md ds t nw h,o,n,bh⟩).2.ar=K c op 6 0 a mo md ds (t+k) nw' h∧(aI.fW L k ⟨K c op 6 0 a mo md ds t nw h,o,n,bh⟩).2.out=o++comes c op a t k
 | 0,t,nw,o,n,_=>⟨nw,by simp [aI.fW],by simp [aI.fW,comes]⟩
 | k+1,t,nw,o,n,hg=>by
  cases hp:(aI.get L ⟨K c op 6 0 a mo md ds t nw h,o,n,bh⟩).1 with
  | false=>rw [s9 L k _ hp] at hg;cases hg
  | true =>
   have e:=Mi L hL ho o n bh hp _ rfl
   rw [vD L k _ hp,e,fB hc] at hg ⊢
   obtain ⟨nw',h1,h2⟩:=JG L hL ho hc bh k _ _ _ _ hg
   refine ⟨nw',by rw [h1];congr 1;omega,?_⟩
   rw [h2,Eg,List.append_assoc]
   rw [hc]
   rfl
def Ends (ps:List Ph) (m:ag) (o:List Int) (P:ag→List Int→Prop):Prop := ∀ n bh,(aI.eQ ps ⟨m,o,n,bh⟩).1=true→P (aI.eQ ps ⟨m,o,n,bh⟩).2.ar (aI.eQ ps ⟨m,o,n,bh⟩).2.out
theorem Ends.nil {m:ag} {o:List Int} {P:ag→List Int→Prop} (h:P m o):Ends [] m o P:=fun _ _ _=>h
theorem Ends.dB {L:Int} {bs:List Int} {r:List Ph} {m:ag} {o:List Int} {P:ag→List Int→Prop} (h:Ends r (feed (eA L bs) m) o P):Ends (⟨L,bs,0,0⟩::r) m o P:=fun n bh hr=>by
 obtain ⟨h1,h2,e⟩:=dA hr
 obtain ⟨g1,g2,ge⟩:=dA h1
 obtain ⟨k1,k2,ke⟩:=dA g2
 have e3:(aI.phase ⟨L,bs,0,0⟩ ⟨m,o,n,bh⟩).2=(aI.dB L bs ⟨m,o,n,bh⟩).2:=ge.trans (ke.trans rfl)
 rw [e3,An L bs _ g1] at h2 e
 have:=h _ _ h2
 show P (andThen _ _).2.ar (andThen _ _).2.out
 rw [e]
 exact this
theorem Ends.dummy {k:Int} {r:List Ph} {m:ag} {o:List Int} {P:ag→List Int→Prop} (h:Ends r (feed (List.replicate k.toNat 15) m) o P):Ends (⟨0,[],k,0⟩::r) m o P:=fun n bh hr=>by
 obtain ⟨h1,h2,e⟩:=dA hr
 obtain ⟨g1,g2,ge⟩:=dA h1
 obtain ⟨k1,k2,ke⟩:=dA g2
 have k1:(aI.row (List.replicate k.toNat 15) ⟨m,o,n,bh⟩).1=true:=k1
 have e3:(aI.phase ⟨0,[],k,0⟩ ⟨m,o,n,bh⟩).2=(aI.row (List.replicate k.toNat 15) ⟨m,o,n,bh⟩).2:=ge.trans (ke.trans rfl)
 rw [e3,xO _ _ k1] at h2 e
 have:=h _ _ h2
 show P (andThen _ _).2.ar (andThen _ _).2.out
 rw [e]
 exact this
theorem Ends.fW {L k:Int} (hL:L=1∨L=4) (ho:op.data=L) (hc:c.still) {o:List Int} {P:ag→List Int→Prop} (hP : ∀ nw',P (K c op 6 0 a mo md ds (t+k.toNat) nw' h) (o++comes c op a t k.toNat)):Ends [⟨L,[],0,k⟩] (K c op 6 0 a mo md ds t nw h) o P:=fun n bh hr=>by
 obtain ⟨h1,h2,e⟩:=dA hr
 obtain ⟨g1,g2,ge⟩:=dA h1
 obtain ⟨k1,k2,ke⟩:=dA g2
 have e3:(aI.phase ⟨L,[],0,k⟩ ⟨K c op 6 0 a mo md ds t nw h,o,n,bh⟩).2=(aI.fW L k.toNat ⟨K c op 6 0 a mo md ds t nw h,o,n,bh⟩).2:=ge.trans (ke.trans rfl)
 obtain ⟨nw',f1,f2⟩:=JG L hL ho hc bh k.toNat t nw o n k2
 show P (andThen _ _).2.ar (andThen _ _).2.out
 rw [e,e3]
 show P (aI.fW L k.toNat ⟨K c op 6 0 a mo md ds t nw h,o,n,bh⟩).2.ar (aI.fW L k.toNat ⟨K c op 6 0 a mo md ds t nw h,o,n,bh⟩).2.out
 rw [f1,f2]
 exact hP nw'
theorem Ends.get {L:Int} (hL:L=1∨L=4) (ho:op.data=L) {o:List Int} {P:ag→List Int→Prop} (v:Int) (hv:(K c.pass op 6 0 a mo md ds t nw h).eM t=v) (hP:P (K (c.bF (many L).toNat) op 6 0 a mo md ds (t+1) v h) (o++[v])):Ends [⟨L,[],0,1⟩] (K c op 6 0 a mo md ds t nw h) o P:=fun n bh hr=>by
 obtain ⟨h1,h2,e⟩:=dA hr
 obtain ⟨g1,g2,ge⟩:=dA h1
 obtain ⟨k1,k2,ke⟩:=dA g2
 have e3:(aI.phase ⟨L,[],0,1⟩ ⟨K c op 6 0 a mo md ds t nw h,o,n,bh⟩).2=(aI.fW L 1 ⟨K c op 6 0 a mo md ds t nw h,o,n,bh⟩).2:=ge.trans (ke.trans rfl)
 have k2:(aI.fW L 1 ⟨K c op 6 0 a mo md ds t nw h,o,n,bh⟩).1=true:=k2
 show P (andThen _ _).2.ar (andThen _ _).2.out
 rw [e,e3]
 show P (aI.fW L 1 ⟨K c op 6 0 a mo md ds t nw h,o,n,bh⟩).2.ar (aI.fW L 1 ⟨K c op 6 0 a mo md ds t nw h,o,n,bh⟩).2.out
 cases hp:(aI.get L ⟨K c op 6 0 a mo md ds t nw h,o,n,bh⟩).1 with
 | false=>rw [s9 L 0 _ hp] at k2;cases k2
 | true =>
  have e4:=Mi L hL ho o n bh hp v hv
  rw [vD L 0 _ hp,e4]
  exact hP
end
end Go.Proofs.YtcfdenckiigdaaaGreat

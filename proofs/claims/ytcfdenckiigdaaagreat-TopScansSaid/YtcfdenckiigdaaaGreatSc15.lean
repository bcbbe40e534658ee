/- Part 15 of the contracts. -/
import Derived.Test.YtcfdenckiigdaaaGreatSc14
set_option linter.unusedVariables false
set_option maxRecDepth 100000
set_option maxHeartbeats 4000000
namespace Go.Proofs.YtcfdenckiigdaaaGreat
open Tryz Go.RowKit
def fG (s:Int):Int:=if s+1 ≥ 8 then 4 else s+1
theorem oV (s:Int) (w:World) (h0:0≤s) (h1:s≤100):Calls prog 89 #[.int .i64 s] w fun e w'=>e=.returned (.int .i64 (fG s))∧w=w':=by
 have hw:wrap64 (s+1)=s+1:=by unfold wrap64;omega
 by_cases h:s+1 ≥ 8
 ·
  have e:fG s=4:=by unfold fG;rw [if_pos h]
  rw [e];clear e
  go_enter func89,ntmps89
  go_wp2
  go_ret
  exact ⟨rfl,rfl⟩
 ·
  have e:fG s=s+1:=by unfold fG;rw [if_neg h]
  rw [e];clear e
  go_enter func89,ntmps89
  go_wp2
  go_ret
  exact ⟨rfl,rfl⟩
structure LQ (w:World) (b:Nat) (V:bj):Prop where
 ex : ∃ vr,w.heap[b]? = some (.cells #[.bool V.bI,.int .i64 V.ak,vr,.int .i64 V.free] 52 (0,0))∧aQ w vr V.aB.length 4 (bh V.aB)
structure bj.Ok (V:bj):Prop where
 bI:V.bI=true
 ak:1≤V.ak∧V.ak≤1048576
 free:1≤V.free∧V.free≤8
 len:V.aB.length≤7
 aB : ∀ r ∈ V.aB,fQ r
def Iu (ps qs:List aK) (w:World) (e:Ending) (w':World):Prop := ∃ x y,e=.returned (.tuple #[x,y,.int .i64 0])∧w'.ownsRow w.heap.size 83 2 x ps.length (aC ps)∧w'.ownsRow w.heap.size 83 2 y qs.length (aC qs)∧Below w.heap.size w w'
theorem xo (b:Nat) (V:bj) (r:aT) (w:World) (h:LQ w b V) (ok:V.Ok) (hr:fQ r):Calls prog 172 #[.pointer (some ⟨b,0,none⟩),.agg r.cells] w (Iu (bU V.aB) (eu (bU V.aB) r) w):=by
 obtain ⟨vr,hb,hs⟩:=h
 have HBL:=zH (fun w h=>oB vr V.aB w h (by have:=ok.len;omega) ok.aB)
 have HW:=zH (fun v w h=>xZ v (bU V.aB) r w h (dh _ V.aB rfl ok.aB).1 (by have:=(dh _ V.aB rfl ok.aB).2;have:=ok.len;omega) hr.1 hr.2)
 have HS:=zH (zA hb hs)
 obtain ⟨c0,c1,c2,c3,hf⟩:=ck hb
 have hbl:b<w.heap.size:=aO hb
 have hg:=ok.bI
 have he:=ok.ak
 have hfr:=ok.free
 have HE:=zH (fun n w=>oZ n w)
 obtain ⟨va,vc,rfl⟩:=hs.slice
 unfold aT.cells at HW ⊢
 rw [hg] at c0
 clear hb hs hg hr ok
 go_enter func172,ntmps172
 go_wp2_with (go_at_call 114;refine (HE.out _ _).mono ?_;rintro e w' ⟨rfl,rfl⟩)
 have hnb:=ae (Below.refl _ w) (.cells #[.int .i64 r.kind,.int .i64 r.ak,.string r.key,.string r.value] 74)
 refine (HBL.out _ (HS.out.2.aj hnb)).mono ?_
 rintro e w1 ⟨x,rfl,ho,hb1⟩
 obtain ⟨d0,d1,d2,d3,df⟩:=ck (aa hb1 (af w (.cells #[.int .i64 r.kind,.int .i64 r.ak,.string r.key,.string r.value] 74)))
 have HB1:=zH (zA (gtr hnb hb1) (eC ho hnb.size))
 clear hb1 ho hnb
 obtain ⟨xa,xc,rfl⟩:=bz HB1.out.2
 clear c0 c1 c2 c3 hf
 go_wp2_with fail
 refine (HW.out _ _ (aQ.cX HB1.out.2)).mono ?_
 rintro e w2 ⟨y,rfl,ho2,hb2⟩
 have HB2:=zH (zA (gtr HB1.out.1 hb2) (zA (World.ownsRow.aj HB1.out.2 hb2) (eC ho2 HB1.out.1.size)))
 clear hb2 ho2
 go_wp2
 refine bodyPost_ret (v:=.tuple #[.slice xa (bU V.aB).length xc,y,.int .i64 0]) (by simp [results,results172,go_sem]) rfl ?_
 exact ⟨_,_,rfl,HB2.out.2.1,HB2.out.2.2,HB2.out.1⟩
structure fR where
 dH:Int
 au:Int
 bM:List Int
 aB:List aT
 free:Int
 ak:Int
def eR (p:aK):aT:=⟨1,0,p.key,p.value⟩
def jG (au ak:Int) (ps:List aK):fR:=⟨au,au,(List.range ps.length).map (fun i:Nat=>(i:Int)+1)++[0],ps.map eR++[⟨0,ak,⟨#[]⟩,⟨#[]⟩⟩],ps.length+1,ak⟩
def pM (p:fR) (vs vr:Value):Array Value := #[.int .i64 p.dH,.int .i64 p.au,vs,vr,.int .i64 p.free,.int .i64 p.ak]
def Bz (p:fR) (w:World) (e:Ending) (w':World):Prop := ∃ vs vr,e=.returned (.agg (pM p vs vr))∧w'.ownsRow w.heap.size 3 1 vs p.bM.length (aD p.bM)∧w'.ownsRow w.heap.size 74 4 vr p.aB.length (bh p.aB)∧Below w.heap.size w w'
structure gF (w wr:World) (b g:Nat) (au ak:Int) (sl:List Int) (rs:List aT) (free:Int):Prop where
 below:Below w.heap.size w wr
 ne:b≠g
 res:wr.heap[b]? = some (.cells #[.int .i64 0,.int .i64 0,.slice none 0 0,.slice none 0 0,.int .i64 0,.int .i64 0] 228 (0,0))
 row : ∃ vs vr,wr.heap[g]? = some (.cells #[.int .i64 au,.int .i64 au,vs,vr,.int .i64 free,.int .i64 ak] 228 (0,0))∧wr.ownsRow w.heap.size 3 1 vs sl.length (aD sl)∧wr.ownsRow w.heap.size 74 4 vr rs.length (bh rs)
theorem mI {w w2:World} {B B':Nat} {t t':TypeId} {v v':Value} {n n' sz sz':Nat} {cs cs':List Value} (h:w.ownsRow B t sz v n cs) (h':w.ownsRow B' t' sz' v' n' cs') (ht:t≠t') (hg:w.grownBy w2 v'.ownBlock):w2.ownsRow B t sz v n cs:=by
 refine ⟨h.1,h.2.imp id fun ⟨g,cap,cur,hv,hB,hh,r⟩=>⟨g,cap,cur,hv,hB,?_,r⟩⟩
 exact (hg.block g (aO hh) (cE h' hh (fun e=>ht e.symm))).trans hh
theorem kg {w:World} {g:Nat} {a b c d e f:Value} {t:TypeId} (h:w.heap[g]? = some (.cells #[a,b,c,d,e,f] t (0,0))):w.cell? ⟨g,0,none⟩=some a∧w.cell? ⟨g,1,none⟩=some b∧w.cell? ⟨g,2,none⟩=some c∧w.cell? ⟨g,3,none⟩=some d∧w.cell? ⟨g,4,none⟩=some e∧w.cell? ⟨g,5,none⟩=some f ∧ ∀ i,w.frozen? ⟨g,i,none⟩=false :=
 ⟨cell_of h 0,cell_of h 1,cell_of h 2,cell_of h 3,cell_of h 4,cell_of h 5,fun i=>aF h i⟩
theorem oL {w w2:World} {N:Nat} {v:Value} {w0:World} (hb:Below N w0 w) (hN:N≤w.heap.size) (ho : ∀ k,v.ownBlock=some k→N≤k) (hg:w.grownBy w2 v.ownBlock):Below N w0 w2 :=
 hb.trans ⟨hg.os,hg.tape,hg.output,hg.size,fun i hi=>hg.block i (zV hi hN) (fun e=>by have:=ho i e.symm;omega)⟩
theorem gF.aj {w wr w2:World} {b g:Nat} {au ak free:Int} {sl:List Int} {rs:List aT} (h:gF w wr b g au ak sl rs free) (hb:Below wr.heap.size wr w2):gF w w2 b g au ak sl rs free:=by
 obtain ⟨vs,vr,h1,h2,h3⟩:=h.row
 exact ⟨gtr h.below hb,h.ne,aa hb h.res,vs,vr,aa hb h1,World.ownsRow.aj h2 hb,World.ownsRow.aj h3 hb⟩
theorem gF.bM {w wr w2:World} {b g:Nat} {au ak free:Int} {sl sl':List Int} {rs:List aT} {v v':Value} (h:gF w wr b g au ak sl rs free) (hw:w.heap.size≤g) (hv:wr.cell? ⟨g,2,none⟩=some v) (hg:wr.grownBy w2 v.ownBlock) (ho:w2.ownsRow w.heap.size 3 1 v' sl'.length (aD sl')):(∃ x,w2.cell? ⟨g,2,none⟩=some x)∧(∀ i,w2.frozen? ⟨g,i,none⟩=false)∧gF w (w2.setCell ⟨g,2,none⟩ v') b g au ak sl' rs free:=by
 obtain ⟨vs,vr,h1,h2,h3⟩:=h.row
 obtain rfl:vs=v:=by rw [cell_of h1] at hv;simpa using hv
 have e1:w2.heap[g]? = _:=(hg.block g (aO h1) (cE h2 h1 (by decide))).trans h1
 have e2:w2.heap[b]? = _:=(hg.block b (aO h.res) (cE h2 h.res (by decide))).trans h.res
 have hb:=oL h.below h.below.size (bK h2) hg
 refine ⟨⟨_,cell_of e1 2⟩,fun i=>aF e1 i,kX hb hw _,h.ne,?_,v',vr,az (i:=2) (v:=v') e1,eW ho (cE ho e1 (by decide)) _,eW (mI h3 h2 (by decide) hg) (cE (mI h3 h2 (by decide) hg) e1 (by decide)) _⟩
 rw [Below.heap_setCell _ _ _ _ h.ne];exact e2
theorem gF.aB {w wr w2:World} {b g:Nat} {au ak free:Int} {sl:List Int} {rs rs':List aT} {v v':Value} (h:gF w wr b g au ak sl rs free) (hw:w.heap.size≤g) (hv:wr.cell? ⟨g,3,none⟩=some v) (hg:wr.grownBy w2 v.ownBlock) (ho:w2.ownsRow w.heap.size 74 4 v' rs'.length (bh rs')):(∃ x,w2.cell? ⟨g,3,none⟩=some x)∧(∀ i,w2.frozen? ⟨g,i,none⟩=false)∧gF w (w2.setCell ⟨g,3,none⟩ v') b g au ak sl rs' free:=by
 obtain ⟨vs,vr,h1,h2,h3⟩:=h.row
 obtain rfl:vr=v:=by rw [cell_of h1] at hv;simpa using hv
 have e1:w2.heap[g]? = _:=(hg.block g (aO h1) (cE h3 h1 (by decide))).trans h1
 have e2:w2.heap[b]? = _:=(hg.block b (aO h.res) (cE h3 h.res (by decide))).trans h.res
 have hb:=oL h.below h.below.size (bK h3) hg
 refine ⟨⟨_,cell_of e1 3⟩,fun i=>aF e1 i,kX hb hw _,h.ne,?_,vs,v',az (i:=3) (v:=v') e1,eW (mI h2 h3 (by decide) hg) (cE (mI h2 h3 (by decide) hg) e1 (by decide)) _,eW ho (cE ho e1 (by decide)) _⟩
 rw [Below.heap_setCell _ _ _ _ h.ne];exact e2
theorem gF.MB {w wr:World} {b g:Nat} {au ak free:Int} {sl:List Int} {rs:List aT} (h:gF w wr b g au ak sl rs free) (hw:w.heap.size≤g) (x:Int):gF w (wr.setCell ⟨g,4,none⟩ (.int .i64 x)) b g au ak sl rs x:=by
 obtain ⟨vs,vr,h1,h2,h3⟩:=h.row
 refine ⟨kX h.below hw _,h.ne,?_,vs,vr,az (i:=4) (v:=.int .i64 x) h1,eW h2 (cE h2 h1 (by decide)) _,eW h3 (cE h3 h1 (by decide)) _⟩
 rw [Below.heap_setCell _ _ _ _ h.ne];exact h.res
theorem gF.kg {w wr:World} {b g:Nat} {au ak free:Int} {sl:List Int} {rs:List aT} (h:gF w wr b g au ak sl rs free) : ∃ vs vr,(wr.cell? ⟨g,0,none⟩=some (.int .i64 au)∧wr.cell? ⟨g,1,none⟩=some (.int .i64 au)∧wr.cell? ⟨g,2,none⟩=some vs∧wr.cell? ⟨g,3,none⟩=some vr∧wr.cell? ⟨g,4,none⟩=some (.int .i64 free)∧wr.cell? ⟨g,5,none⟩=some (.int .i64 ak) ∧ ∀ i,wr.frozen? ⟨g,i,none⟩=false)∧wr.ownsRow w.heap.size 3 1 vs sl.length (aD sl)∧wr.ownsRow w.heap.size 74 4 vr rs.length (bh rs):=by
 obtain ⟨vs,vr,h1,h2,h3⟩:=h.row
 exact ⟨vs,vr,YtcfdenckiigdaaaGreat.kg h1,h2,h3⟩
theorem dM {w w1 w2:World} {r:Option Nat} (hb:Below w.heap.size w w1) (hg:w1.grownBy w2 r):w.grownBy w2 r :=
 ⟨hg.os.trans hb.os,hg.tape.trans hb.tape,hg.output.trans hb.output,Nat.le_trans hb.size hg.size,fun i hi hn=>(hg.block i (zV hi hb.size) hn).trans (hb.block i hi)⟩
def Bd (w:World) (g:Nat) (a b c d e f:Value):World:=(((((w.setCell ⟨g,0,none⟩ a).setCell ⟨g,1,none⟩ b).setCell ⟨g,2,none⟩ c).setCell ⟨g,3,none⟩ d).setCell ⟨g,4,none⟩ e).setCell ⟨g,5,none⟩ f
theorem fN {N:Nat} {w0 w:World} {g:Nat} (h:Below N w0 w) (hg:N≤g) (a b c d e f:Value):Below N w0 (Bd w g a b c d e f) :=
 ((((((h.setCell (p:=⟨g,0,none⟩) hg a).setCell (p:=⟨g,1,none⟩) hg b).setCell (p:=⟨g,2,none⟩) hg c).setCell (p:=⟨g,3,none⟩) hg d).setCell (p:=⟨g,4,none⟩) hg e).setCell (p:=⟨g,5,none⟩) hg f)
theorem j5 {w:World} {B:Nat} {t:TypeId} {v:Value} {n sz:Nat} {cs:List Value} {g:Nat} (h:w.ownsRow B t sz v n cs) (hn:some g≠v.ownBlock) (a b c d e f:Value):(Bd w g a b c d e f).ownsRow B t sz v n cs :=
 eW (eW (eW (eW (eW (eW h hn a) hn b) hn c) hn d) hn e) hn f
theorem u4 (au ak:Int) (v:Value) (ps:List aK) (w:World) (h:aQ w v ps.length 2 (aC ps)) (hn:ps.length≤100):Calls prog 173 #[.int .i64 au,.int .i64 ak,v] w (Bz (jG au ak ps) w):=by
 have H:=zH h
 have HX:=zH (fun i (hi:i<ps.length)=>dw ps i hi)
 obtain ⟨a,c,rfl⟩:=h.slice
 clear h
 obtain ⟨i0,hi,hz0,hz1,hz2⟩:=info_parts (show (prog.info? 3).map (fun i=>(i.zero,i.size,i.bytes))=some (some (.int .i64 0),1,8) by kernel_rfl)
 obtain ⟨j0,ji,jz0,jz1,jz2⟩:=info_parts wU
 have hg1:w.heap.size≤w.heap.size+1:=by omega
 go_enter func173,ntmps173
 go_wp2
 go_loopg [16] ps.length (fun n i wr => ∃ j:Nat,n=ps.length - j∧i=.int .i64 j∧j≤ps.length∧gF w wr w.heap.size (w.heap.size+1) au ak ((List.range j).map (fun i:Nat=>(i:Int)+1)) ((ps.take j).map eR) (j+1))
 case atStart =>
  refine ⟨0,rfl,rfl,Nat.zero_le _,ae (ae zR _) _,by omega,?_,.slice none 0 0,.slice none 0 0,?_,zN,zN⟩
  ·
   exact aa (ae (Below.refl _ (w.alloc _)) _) (af w _)
  ·
   simpa using af (w.alloc _) _
 case round =>
  obtain ⟨j,hgn,rfl,hj,hM⟩:=hrel
  have HB:=zH (zA hgn hM)
  clear hgn hM
  obtain ⟨vs,vr,⟨c0,c1,c2,c3,c4,c5,hf⟩,hs,hr⟩:=HB.out.2.kg
  have hgl:w.heap.size+1<wr.heap.size:=zL wr _ c0
  by_cases hlt:j<ps.length
  ·
   have hlt':(j:Int)<(ps.length:Int):=by omega
   obtain ⟨b,o,rfl,hc,hx⟩:=H.out.some (by omega)
   obtain ⟨p0,p1⟩:=HX.out j hlt
   have cc : ∀ i u,(aC ps)[2 * j+i]? = some u→wr.cell? ⟨b,o+j * 2+i,none⟩=some u:=fun i u hu=>by
    have e:=hx _ _ hu
    rw [show o+j * 2+i=o+(2 * j+i) by omega]
    exact (HB.out.2.below.cell (p:=⟨b,o+(2 * j+i),none⟩) (zL w _ e)).trans e
   have d0:wr.cell? ⟨b,o+j * 2,none⟩=some (.string ps[j].key):=cc 0 _ p0
   have d1:wr.cell? ⟨b,o+j * 2+1,none⟩=some (.string ps[j].value):=cc 1 _ p1
   have HS:=zH (zA hs hr)
   clear p0 p1 cc hx hs hr
   go_wp2_with (at_builtin;refine wpList_append_lies _ rfl _ _ 22 rfl w.heap.size 3 i0 (.int .i64 0) 1 8 underlying22 hi hz0 hz1 hz2 rfl (by decide) vs ((List.range j).map (fun i:Nat=>(i:Int)+1)).length (aD ((List.range j).map (fun i:Nat=>(i:Int)+1))) ?a1 (World.ownsRow.aj HS.out.1 (ae (ae zR _) _)) ⟨wr.heap.size+1,0,none⟩ 1 1 [.int .i64 ((j:Int)+1)] ?a2 rfl ?a3 ?a4 (by decide) ?a5 ?a6 ?a7 _ rfl ?_)
   case a1=>rfl
   case a2=>rfl
   case a3=>exact World.news_of_block (cs := #[.int .i64 ((j:Int)+1)]) (t:=3) (fr:=(0,0)) (by simpa using af (wr.alloc _) _)
   case a4=>intro u hu;simp only [List.mem_cons,List.not_mem_nil,or_false] at hu;rcases hu with rfl;rfl
   case a5=>simp only [maxLen,List.length_map,List.length_range];omega
   case a6=>simp only [List.length_map,List.length_range];omega
   case a7=>have:=HB.out.2.below.size;simp only [World.size_alloc];omega
   intro g4 cap4 w2 how hgr _ _
   have hgr2:=dM (ae (ae (Below.refl wr.heap.size wr) (.cells #[.string ps[j].key,.string ps[j].value] 83)) (.cells #[.int .i64 ((j:Int)+1)] 3)) hgr
   have hpr:w2.heap[wr.heap.size]? = some (.cells #[.string ps[j].key,.string ps[j].value] 83 (0,0)):=(hgr.block wr.heap.size (by simp only [World.size_alloc];omega) (AV HS.out.1)).trans (aa (ae (Below.refl _ (wr.alloc _)) _) (af wr _))
   have how2:w2.ownsRow w.heap.size 3 1 (.slice (some ⟨g4,0,none⟩) (j+1) cap4) ((List.range (j+1)).map (fun i:Nat=>(i:Int)+1)).length (aD ((List.range (j+1)).map (fun i:Nat=>(i:Int)+1))):=by
    rw [List.range_succ,List.map_append,List.length_append]
    have e:aD ((List.range j).map (fun i:Nat=>(i:Int)+1)++[j].map (fun i:Nat=>(i:Int)+1))=aD ((List.range j).map (fun i:Nat=>(i:Int)+1))++[.int .i64 ((j:Int)+1)]:=by simp [aD]
    rw [e];simp only [List.length_map,List.length_range,List.length_cons,List.length_nil];exact how
   have hgl2:wr.heap.size<w2.heap.size:=aO hpr
   obtain ⟨⟨y,e2⟩,hf',hM2⟩:=HB.out.2.bM hg1 c2 hgr2 how2
   have hpr2:(w2.setCell ⟨w.heap.size+1,2,none⟩ (.slice (some ⟨g4,0,none⟩) (j+1) cap4)).heap[wr.heap.size]? = some (.cells #[.string ps[j].key,.string ps[j].value] 83 (0,0)):=by
    rw [Below.heap_setCell _ _ _ _ (show wr.heap.size≠w.heap.size+1 by omega)];exact hpr
   have HM2:=zH (zA hM2 hpr2)
   clear how hgr hgr2 how2 hM2 hpr hpr2 HS c0 c1 c2 c3 c4 c5 hf d0 d1
   go_upto_region 6 with fail
   generalize w2.setCell ⟨w.heap.size+1,2,none⟩ (.slice (some ⟨g4,0,none⟩) (j+1) cap4)=w3 at *
   clear e2 hf' hgl2
   obtain ⟨vs3,vr3,⟨c0,c1,c2,c3,c4,c5,hf⟩,hs,hr⟩:=HM2.out.1.kg
   have d0:w3.cell? ⟨wr.heap.size,0,none⟩=some (.string ps[j].key):=cell_of HM2.out.2 0
   have d1:w3.cell? ⟨wr.heap.size,1,none⟩=some (.string ps[j].value):=cell_of HM2.out.2 1
   have HS3:=zH (zA hs hr)
   have hgl3:w.heap.size+1<w3.heap.size:=zL w3 _ c0
   clear hs hr
   go_wp2_with (at_builtin;refine wpList_append_lies _ rfl _ _ 50 rfl w.heap.size 74 j0 (.agg #[.int .i64 0,.int .i64 0,.string ⟨#[]⟩,.string ⟨#[]⟩]) 4 48 underlying50 ji jz0 jz1 jz2 rfl (by decide) vr3 ((ps.take j).map eR).length (bh ((ps.take j).map eR)) ?b1 (World.ownsRow.aj HS3.out.2 (ae zR _)) ⟨w3.heap.size,0,none⟩ 1 1 [.int .i64 1,.int .i64 0,.string ps[j].key,.string ps[j].value] ?b2 rfl ?b3 ?b4 (by decide) ?b5 ?b6 ?b7 _ rfl ?_)
   case b1=>rfl
   case b2=>rfl
   case b3=>exact World.news_of_block (cs := #[.int .i64 1,.int .i64 0,.string ps[j].key,.string ps[j].value]) (t:=74) (fr:=(0,0)) (af w3 _)
   case b4=>intro u hu;simp only [List.mem_cons,List.not_mem_nil,or_false] at hu;rcases hu with rfl | rfl | rfl | rfl <;> rfl
   case b5=>simp only [maxLen,List.length_map,List.length_take];omega
   case b6=>simp only [List.length_map,List.length_take];omega
   case b7=>have:=HM2.out.1.below.size;simp only [World.size_alloc];omega
   intro g5 cap5 w4 how hgr _ _
   have hgr2:=dM (ae (Below.refl w3.heap.size w3) (.cells #[.int .i64 1,.int .i64 0,.string ps[j].key,.string ps[j].value] 74)) hgr
   have how2:w4.ownsRow w.heap.size 74 4 (.slice (some ⟨g5,0,none⟩) (j+1) cap5) ((ps.take (j+1)).map eR).length (bh ((ps.take (j+1)).map eR)):=by
    have hjl:((ps.take j).map eR).length=j:=by rw [List.length_map,List.length_take];omega
    rw [← List.map_take] at how
    rw [List.take_succ_eq_append_getElem hlt,List.map_append,List.length_append,List.map_cons,List.map_nil,kA,hjl]
    exact how
   obtain ⟨⟨y5,e2⟩,hf',hM2⟩:=HM2.out.1.aB hg1 c3 hgr2 how2
   have HM3:=zH hM2
   clear how hgr hgr2 how2 hM2 HS3 c0 c1 c2 c3 c4 c5 hf d0 d1 HM2
   go_upto_region 7 with fail
   generalize w4.setCell ⟨w.heap.size+1,3,none⟩ (.slice (some ⟨g5,0,none⟩) (j+1) cap5)=w5 at *
   clear e2 hf'
   obtain ⟨vs5,vr5,⟨c0,c1,c2,c3,c4,c5,hf⟩,hs,hr⟩:=HM3.out.kg
   have HM4:=zH (HM3.out.MB hg1 ((j:Int)+1+1))
   clear hs hr c0 c1 c2 c3 c5
   go_wp2
   go_roundg (ps.length - (j+1))
   case measure=>have:=HB.out.1;omega
   case rel=>exact ⟨j+1,rfl,by go_num,by omega,HM4.out⟩
  ·
   obtain rfl:j=ps.length:=by omega
   have HV:=zH (show jG au ak ps=⟨au,au,(List.range ps.length).map (fun i:Nat=>(i:Int)+1)++[0],ps.map eR++[⟨0,ak,⟨#[]⟩,⟨#[]⟩⟩],ps.length+1,ak⟩ from rfl)
   rw [List.take_length] at HB hr
   have HS:=zH (zA hs hr)
   clear hs hr
   generalize hsl:(List.range ps.length).map (fun i:Nat=>(i:Int)+1)=sl at *
   generalize hrl:ps.map eR=rl at *
   have hsn:sl.length=ps.length:=by rw [← hsl];simp
   have hrn:rl.length=ps.length:=by rw [← hrl];simp
   clear hsl hrl
   go_wp2_with (at_builtin;refine wpList_append_lies _ rfl _ _ 22 rfl w.heap.size 3 i0 (.int .i64 0) 1 8 underlying22 hi hz0 hz1 hz2 rfl (by decide) vs sl.length (aD sl) ?a1 (World.ownsRow.aj HS.out.1 (ae zR _)) ⟨wr.heap.size,0,none⟩ 1 1 [.int .i64 0] ?a2 rfl ?a3 ?a4 (by decide) ?a5 ?a6 ?a7 _ rfl ?_)
   case a1=>rfl
   case a2=>rfl
   case a3=>exact World.news_of_block (cs := #[.int .i64 0]) (t:=3) (fr:=(0,0)) (af wr _)
   case a4=>intro u hu;simp only [List.mem_cons,List.not_mem_nil,or_false] at hu;rcases hu with rfl;rfl
   case a5=>simp only [maxLen];omega
   case a6=>omega
   case a7=>have:=HB.out.2.below.size;simp only [World.size_alloc];omega
   intro g4 cap4 w2 how hgr _ _
   have hgr2:=dM (ae (Below.refl wr.heap.size wr) (.cells #[.int .i64 0] 3)) hgr
   have how2:w2.ownsRow w.heap.size 3 1 (.slice (some ⟨g4,0,none⟩) (ps.length+1) cap4) (sl++[0]).length (aD (sl++[0])):=by
    rw [List.length_append]
    have e:aD (sl++[0])=aD sl++[.int .i64 0]:=by simp [aD]
    rw [e,hsn];exact how
   obtain ⟨⟨y,e2⟩,hf',hM2⟩:=HB.out.2.bM hg1 c2 hgr2 how2
   have HM2:=zH hM2
   clear how hgr hgr2 how2 hM2 HS c0 c1 c2 c3 c4 c5 hf
   go_upto_region 10 with fail
   generalize w2.setCell ⟨w.heap.size+1,2,none⟩ (.slice (some ⟨g4,0,none⟩) (ps.length+1) cap4)=w3 at *
   clear e2 hf'
   obtain ⟨vs3,vr3,⟨c0,c1,c2,c3,c4,c5,hf⟩,hs,hr⟩:=HM2.out.kg
   have HS3:=zH (zA hs hr)
   have hgl3:w.heap.size+1<w3.heap.size:=zL w3 _ c0
   clear hs hr
   go_wp2_with (at_builtin;refine wpList_append_lies _ rfl _ _ 50 rfl w.heap.size 74 j0 (.agg #[.int .i64 0,.int .i64 0,.string ⟨#[]⟩,.string ⟨#[]⟩]) 4 48 underlying50 ji jz0 jz1 jz2 rfl (by decide) vr3 rl.length (bh rl) ?b1 (World.ownsRow.aj HS3.out.2 (ae zR _)) ⟨w3.heap.size,0,none⟩ 1 1 [.int .i64 0,.int .i64 ak,.string ⟨#[]⟩,.string ⟨#[]⟩] ?b2 rfl ?b3 ?b4 (by decide) ?b5 ?b6 ?b7 _ rfl ?_)
   case b1=>rfl
   case b2=>rfl
   case b3=>exact World.news_of_block (cs := #[.int .i64 0,.int .i64 ak,.string ⟨#[]⟩,.string ⟨#[]⟩]) (t:=74) (fr:=(0,0)) (af w3 _)
   case b4=>intro u hu;simp only [List.mem_cons,List.not_mem_nil,or_false] at hu;rcases hu with rfl | rfl | rfl | rfl <;> rfl
   case b5=>simp only [maxLen];omega
   case b6=>omega
   case b7=>have:=HM2.out.below.size;simp only [World.size_alloc];omega
   intro g5 cap5 w4 how hgr _ _
   have hgr2:=dM (ae (Below.refl w3.heap.size w3) (.cells #[.int .i64 0,.int .i64 ak,.string ⟨#[]⟩,.string ⟨#[]⟩] 74)) hgr
   have how2:w4.ownsRow w.heap.size 74 4 (.slice (some ⟨g5,0,none⟩) (ps.length+1) cap5) (rl++[(⟨0,ak,⟨#[]⟩,⟨#[]⟩⟩:aT)]).length (bh (rl++[(⟨0,ak,⟨#[]⟩,⟨#[]⟩⟩:aT)])):=by
    rw [List.length_append,kA,hrn];exact how
   obtain ⟨⟨y5,e2⟩,hf',hM2⟩:=HM2.out.aB hg1 c3 hgr2 how2
   have HM3:=zH hM2
   clear how hgr hgr2 how2 hM2 HS3 c0 c1 c2 c3 c4 c5 hf HM2
   go_upto_region 11 with fail
   generalize w4.setCell ⟨w.heap.size+1,3,none⟩ (.slice (some ⟨g5,0,none⟩) (ps.length+1) cap5)=w5 at *
   clear e2 hf'
   obtain ⟨vs5,vr5,⟨c0,c1,c2,c3,c4,c5,hf⟩,hs,hr⟩:=HM3.out.kg
   obtain ⟨d0,d1,d2,d3,d4,d5,df⟩:=kg HM3.out.res
   have HS5:=zH (zA hs hr)
   clear hs hr
   obtain ⟨sa,sc,rfl⟩:=bz HS5.out.1
   obtain ⟨ra,rc,rfl⟩:=bz HS5.out.2
   go_wp2
   refine bodyPost_ret (v:=.agg #[.int .i64 au,.int .i64 au,.slice sa (sl++[0]).length sc,.slice ra (rl++[(⟨0,ak,⟨#[]⟩,⟨#[]⟩⟩:aT)]).length rc,.int .i64 (ps.length+1),.int .i64 ak]) (by simp [results,results173,go_sem,d0,d1,d2,d3,d4,d5,hsn,hrn]) rfl ?_
   rw [HV.out]
   refine ⟨_,_,rfl,j5 HS5.out.1 (cE HS5.out.1 HM3.out.res (by decide)) _ _ _ _ _ _,j5 HS5.out.2 (cE HS5.out.2 HM3.out.res (by decide)) _ _ _ _ _ _,fN HM3.out.below zY _ _ _ _ _ _⟩
def iH (ps:List aK) (k:ByteArray):Option ByteArray:=match ps.find? fun p=>decide (p.key=k) with | some p=>some p.value | none=>none
def E8 (k:ByteArray) (ps:List aK) (i:Nat):Prop := ∃ hi:i<ps.length,ps[i].key=k ∧ ∀ j (hj:j<ps.length),j<i→ps[j].key≠k
theorem wM {k:ByteArray} {ps:List aK} {i:Nat} (h:E8 k ps i):iH ps k=some (ps[i]'h.1).value:=by
 obtain ⟨hi,hk,hj⟩:=h
 have:ps.find? (fun p=>decide (p.key=k))=some ps[i]:=List.find?_eq_some_iff_getElem.2 ⟨decide_eq_true hk,i,hi,rfl,fun j hji=>by simpa using hj j (by omega) hji⟩
 unfold iH
 rw [this]
theorem Fu {k:ByteArray} {ps:List aK} (h : ∀ j (hj:j<ps.length),ps[j].key≠k):iH ps k=none:=by
 have:ps.find? (fun p=>decide (p.key=k))=none:=List.find?_eq_none.2 fun p hp=>by
  obtain ⟨j,hj,rfl⟩:=List.getElem_of_mem hp
  simpa using h j hj
 unfold iH
 rw [this]
theorem uW (v:Value) (ps:List aK) (k:ByteArray) (kb:Nat) (w:World) (h:aQ w v ps.length 2 (aC ps)) (hk:w.cell? ⟨kb,0,none⟩=some (.string k)) (hn:ps.length≤1000):Calls prog 136 #[v,.func (.func 137) #[] #[.pointer (some ⟨kb,0,none⟩)]] w fun e w' => ∃ x:Int,e=.returned (.int .i64 x)∧Below w.heap.size w w'∧((∃ i:Nat,x=i∧E8 k ps i)∨(x = -1 ∧ ∀ j (hj:j<ps.length),ps[j].key≠k)):=by
 have HF:=zH (fun a b w h=>B2 a b k kb w h)
 have HK:=zH (fun (w':World) (hb:Below w.heap.size w w')=>(hb.cell (p:=⟨kb,0,none⟩) (zL w _ hk)).trans hk)
 have H:=zH h
 have HX:=zH (fun i (hi:i<ps.length)=>dw ps i hi)
 obtain ⟨a,c,rfl⟩:=h.slice
 clear h hk
 go_enter func136,ntmps136
 go_wp2
 go_loopg [8] ps.length (fun n i wr => ∃ j:Nat,n=ps.length - j∧i=.int .i64 j∧j≤ps.length∧Below w.heap.size w wr ∧ ∀ q (hq:q<ps.length),q<j→ps[q].key≠k)
 case atStart=>exact ⟨0,rfl,rfl,Nat.zero_le _,Below.refl _ _,fun q _ h=>absurd h (Nat.not_lt_zero _)⟩
 case round =>
  obtain ⟨j,hgn,rfl,hj,hb,hne⟩:=hrel
  have HB:=zH (zA hgn (zA hb hne))
  clear hgn hb hne
  by_cases hlt:j<ps.length
  ·
   have hlt':(j:Int)<(ps.length:Int):=by omega
   obtain ⟨b,o,rfl,hc,hx⟩:=H.out.some (by omega)
   obtain ⟨p0,p1⟩:=HX.out j hlt
   have cc : ∀ i u,(aC ps)[2 * j+i]? = some u→wr.cell? ⟨b,o+j * 2+i,none⟩=some u:=fun i u hu=>by
    have e:=hx _ _ hu
    rw [show o+j * 2+i=o+(2 * j+i) by omega]
    exact (HB.out.2.1.cell (p:=⟨b,o+(2 * j+i),none⟩) (zL w _ e)).trans e
   have c0:wr.cell? ⟨b,o+j * 2,none⟩=some (.string ps[j].key):=cc 0 _ p0
   have c1:wr.cell? ⟨b,o+j * 2+1,none⟩=some (.string ps[j].value):=cc 1 _ p1
   clear p0 p1 cc hx
   go_wp2_with fail
   refine (HF.out _ _ _ (HK.out _ HB.out.2.1)).mono ?_
   rintro e w1 ⟨rfl,hb1⟩
   have HB1:=zH (gtr HB.out.2.1 hb1)
   clear hb1
   rw [gT]
   by_cases hkk:ps[j].key=k
   ·
    rw [decide_eq_true hkk]
    have HE:=zH hkk
    clear hkk
    go_wp2
    go_ret
    exact ⟨_,rfl,HB1.out,.inl ⟨j,rfl,hlt,HE.out,HB.out.2.2⟩⟩
   ·
    rw [decide_eq_false hkk]
    have HE:=zH hkk
    clear hkk
    go_wp2
    go_roundg (ps.length - (j+1))
    case measure=>have:=HB.out.1;omega
    case rel =>
     refine ⟨j+1,rfl,by go_num,by omega,HB1.out,fun q hq hl => ?_⟩
     rcases Nat.lt_or_ge q j with h' | h'
     ·
      exact HB.out.2.2 q hq h'
     ·
      obtain rfl:q=j:=by omega
      exact HE.out
  ·
   have hlt' : ¬ (j:Int)<(ps.length:Int):=by omega
   go_wp2
   go_ret
   exact ⟨_,rfl,HB.out.2.1,.inr ⟨rfl,fun q hq=>HB.out.2.2 q hq (by omega)⟩⟩
def FY (r:Option ByteArray) (w:World) (e:Ending) (w':World):Prop:=e=.returned (.tuple #[.string (r.getD ⟨#[]⟩),.bool r.isSome])∧Below w.heap.size w w'
theorem pZ (v:Value) (ps:List aK) (k:ByteArray) (w:World) (h:aQ w v ps.length 2 (aC ps)) (hn:ps.length≤1000):Calls prog 95 #[v,.string k] w (FY (iH ps k) w):=by
 have HI:=zH (uW v ps k w.heap.size (w.alloc (.cells #[.string k] 9)) (h.aj (ae zR _)) (cell_of (af w _) 0) hn)
 have H:=zH h
 have HX:=zH (fun i (hi:i<ps.length)=>dw ps i hi)
 have HF:=zH (fun i (h:E8 k ps i)=>wM h)
 have HN:=zH (fun (h : ∀ j (hj:j<ps.length),ps[j].key≠k)=>Fu h)
 obtain ⟨a,c,rfl⟩:=h.slice
 clear h
 generalize iH ps k=fl at *
 go_enter func95,ntmps95
 go_wp2_with fail
 refine HI.out.mono ?_
 rintro e w1 ⟨x,rfl,hb,hx⟩
 have HB:=zH (gtr (ae (Below.refl _ w) (.cells #[.string k] 9)) hb)
 clear hb HI
 rcases hx with ⟨i,rfl,hi⟩ | ⟨rfl,hno⟩
 ·
  obtain rfl:=HF.out i hi
  obtain ⟨hil,_,_⟩:=hi
  obtain ⟨b,o,rfl,hc,hx⟩:=H.out.some (by omega)
  obtain ⟨_,p1⟩:=HX.out i hil
  have e:=hx _ _ p1
  have c1:w1.cell? ⟨b,o+i * 2+1,none⟩=some (.string ps[i].value):=by
   rw [show o+i * 2+1=o+(2 * i+1) by omega]
   exact (HB.out.cell (p:=⟨b,o+(2 * i+1),none⟩) (zL w _ e)).trans e
  have hlt':(i:Int)<(ps.length:Int):=by omega
  clear hx e p1 HX H
  go_wp2
  go_ret2
  exact ⟨rfl,HB.out⟩
 ·
  obtain rfl:=HN.out hno
  clear hno
  go_wp2
  go_ret2
  exact ⟨rfl,HB.out⟩
def qi (k v:ByteArray):Bool→List aK→List aK
 | b,[]=>if b=true then [] else [⟨k,v⟩]
 | b,p::r=>(if b=false∧bZ p.key k=false then [⟨k,v⟩] else [])++((if p.key=k then [] else [p])++qi k v (b || !bZ p.key k) r)
theorem Cw {a b:ByteArray} (h:bZ a b=false) (e:a≠b):bZ b a=true:=by
 cases h2:bZ b a with
 | true=>rfl
 | false=>exact absurd (tg h h2) e
theorem Bk (k v:ByteArray) : ∀ ps:List aK,(∀ p ∈ ps,bZ k p.key=true)→qi k v true ps=ps
 | [],_=>rfl
 | p::ps,h=>by
  unfold qi
  rw [if_neg (by simp),if_neg (lk (h p (List.mem_cons_self ..))).symm,Bool.true_or,Bk k v ps fun q hq=>h q (List.mem_cons_of_mem _ hq)]
  rfl
theorem Bm (k v:ByteArray) : ∀ ps:List aK,eK ps→qi k v false ps=gv k v ps
 | [],_=>rfl
 | p::ps,h=>by
  obtain ⟨hp,hs⟩:=List.pairwise_cons.1 h
  unfold qi gv
  cases hl:bZ p.key k with
  | true =>
   rw [if_neg (by simp),if_neg (lk hl),if_pos rfl]
   show []++([p]++qi k v (false || !true) ps)=_
   rw [show (false || !true)=false from rfl,Bm k v ps hs]
   rfl
  | false =>
   rw [if_pos ⟨rfl,rfl⟩,if_neg (show ¬ (false=true) by decide),show (false || !false)=true from rfl]
   by_cases e:p.key=k
   ·
    rw [if_pos e,if_pos e,Bk k v ps fun q hq=>by have:=hp q hq;rwa [e] at this]
    rfl
   ·
    rw [if_neg e,if_neg e,Bk k v ps fun q hq=>jX (Cw hl e) (hp q hq)]
    rfl
def lG (w:World) (g:Nat) (a b:Value):World:=(w.setCell ⟨g,0,none⟩ a).setCell ⟨g,1,none⟩ b
theorem dD {N:Nat} {w0 w:World} {g:Nat} (h:Below N w0 w) (hg:N≤g) (a b:Value):Below N w0 (lG w g a b):=(h.setCell (p:=⟨g,0,none⟩) hg a).setCell (p:=⟨g,1,none⟩) hg b
theorem jZ {w:World} {B:Nat} {t:TypeId} {v:Value} {n sz:Nat} {cs:List Value} {g:Nat} (h:w.ownsRow B t sz v n cs) (hn:some g≠v.ownBlock) (a b:Value):(lG w g a b).ownsRow B t sz v n cs:=eW (eW h hn a) hn b
theorem jQ {w:World} {g:Nat} {a0 b0:Value} {t:TypeId} (h:w.heap[g]? = some (.cells #[a0,b0] t (0,0))) (a b:Value):(lG w g a b).heap[g]? = some (.cells #[a,b] t (0,0)):=by
 have:=az (i:=1) (v:=b) (az (i:=0) (v:=a) h)
 exact this
theorem ik {w:World} {g k:Nat} {o:Obj} (h:w.heap[k]? = some o) (hn:k≠g) (a b:Value):(lG w g a b).heap[k]? = some o:=by
 unfold lG
 rw [heap_setCell_other _ _ _ _ hn,heap_setCell_other _ _ _ _ hn]
 exact h
theorem jJ {w:World} {g:Nat} {a b:Value} {t:TypeId} (h:w.heap[g]? = some (.cells #[a,b] t (0,0))):w.cell? ⟨g,0,none⟩=some a∧w.cell? ⟨g,1,none⟩=some b ∧ ∀ i,w.frozen? ⟨g,i,none⟩=false:=⟨cell_of h 0,cell_of h 1,fun i=>aF h i⟩
def LN (o:Option ByteArray) (w:World) (e:Ending) (w':World):Prop:=e=.returned (.tuple #[.string (o.getD ⟨#[]⟩),.bool o.isSome])∧Below w.heap.size w w'
theorem xe (bl:Bool) (v:Value) (ps:List aK) (k:ByteArray) (w:World) (h:aQ w v ps.length 2 (aC ps)) (hn:ps.length≤1000):Calls prog 38 #[.agg #[.bool bl,v],.string k] w (LN (iH ps k) w):=by
 have H:=zH h
 have HX:=zH (fun i (hi:i<ps.length)=>dw ps i hi)
 obtain ⟨a,c,rfl⟩:=h.slice
 have HG:=zH (zA (ae (Below.refl w.heap.size w) (.cells #[.bool bl,.slice a ps.length c] 61)) (af w (.cells #[.bool bl,.slice a ps.length c] 61)))
 clear h
 go_enter func38,ntmps38
 go_wp2
 go_loopg [6] ps.length (fun n i wr => ∃ j:Nat,n=ps.length - j∧i=.int .i64 j∧j≤ps.length∧wr=w.alloc (.cells #[.bool bl,.slice a ps.length c] 61) ∧ ∀ m (hm:m<ps.length),m<j→ps[m].key≠k)
 case atStart=>exact ⟨0,rfl,rfl,Nat.zero_le _,rfl,fun m _ hm=>absurd hm (Nat.not_lt_zero _)⟩
 case round =>
  obtain ⟨j,hgn,rfl,hj,rfl,hno⟩:=hrel
  have HB:=zH (zA hgn hno)
  clear hgn hno
  have c1:(w.alloc (.cells #[.bool bl,.slice a ps.length c] 61)).cell? ⟨w.heap.size,1,none⟩=some (.slice a ps.length c):=cell_of HG.out.2 1
  by_cases hlt:j<ps.length
  ·
   have hlt':(j:Int)<(ps.length:Int):=by omega
   obtain ⟨b,o,rfl,hc,hx⟩:=H.out.some (by omega)
   obtain ⟨p0,p1⟩:=HX.out j hlt
   have cc : ∀ i u,(aC ps)[2 * j+i]? = some u→(w.alloc (.cells #[.bool bl,.slice (some ⟨b,o,none⟩) ps.length c] 61)).cell? ⟨b,o+j * 2+i,none⟩=some u:=fun i u hu=>by
    have e:=hx _ _ hu
    rw [show o+j * 2+i=o+(2 * j+i) by omega]
    exact (HG.out.1.cell (p:=⟨b,o+(2 * j+i),none⟩) (zL w _ e)).trans e
   have d0:(w.alloc (.cells #[.bool bl,.slice (some ⟨b,o,none⟩) ps.length c] 61)).cell? ⟨b,o+j * 2,none⟩=some (.string ps[j].key):=cc 0 _ p0
   have d1:(w.alloc (.cells #[.bool bl,.slice (some ⟨b,o,none⟩) ps.length c] 61)).cell? ⟨b,o+j * 2+1,none⟩=some (.string ps[j].value):=cc 1 _ p1
   clear p0 p1 cc hx
   by_cases hk:ps[j].key=k
   ·
    have ek:(ps[j].key.toList == k.toList)=true:=by rw [gT,decide_eq_true hk]
    have HF:=zH (show iH ps k=some ps[j].value from wM (k:=k) (ps:=ps) (i:=j) ⟨hlt,hk,fun m hm hmj=>HB.out.2 m hm hmj⟩)
    clear hk
    go_wp2
    go_ret2
    rw [HF.out]
    exact ⟨rfl,HG.out.1⟩
   ·
    have ek:(ps[j].key.toList == k.toList)=false:=by rw [gT,decide_eq_false hk]
    have HK:=zH hk
    clear hk
    go_wp2
    go_roundg (ps.length - (j+1))
    case measure=>have:=HB.out.1;omega
    case rel=>exact ⟨j+1,rfl,by go_num,by omega,rfl,fun m hm hmj=>by
     by_cases e:m=j
     ·
      subst e;exact HK.out
     ·
      exact HB.out.2 m hm (by omega)⟩
  ·
   obtain rfl:j=ps.length:=by omega
   have HF:=zH (Fu (k:=k) (ps:=ps) fun m hm=>HB.out.2 m hm hm)
   go_wp2
   go_ret2
   rw [HF.out]
   exact ⟨rfl,HG.out.1⟩
def BE (ps:List aK) (w:World) (e:Ending) (w':World):Prop := ∃ v,e=.returned (.agg #[.bool false,v])∧w'.ownsRow w.heap.size 83 2 v ps.length (aC ps)∧Below w.heap.size w w'
theorem fM (ps:List aK) (p:aK):aC (ps++[p])=aC ps++[.string p.key,.string p.value]:=by rw [iv];rfl
theorem IZ (k:ByteArray) (ps:List aK) (j:Nat) (h:j<ps.length):fo k (ps.take (j+1))=if ps[j].key=k then fo k (ps.take j) else fo k (ps.take j)++[ps[j]]:=by
 rw [List.take_succ_eq_append_getElem h]
 unfold fo
 rw [List.filter_append]
 by_cases e:ps[j].key=k
 ·
  rw [if_pos e];simp [e]
 ·
  rw [if_neg e];simp [e]
theorem CB (bl:Bool) (v:Value) (ps:List aK) (k:ByteArray) (w:World) (h:aQ w v ps.length 2 (aC ps)) (hn:ps.length≤1000):Calls prog 70 #[.agg #[.bool bl,v],.string k] w (BE (fo k ps) w):=by
 have H:=zH h
 have HX:=zH (fun i (hi:i<ps.length)=>dw ps i hi)
 have HT:=zH (fun j (hj:j<ps.length)=>IZ k ps j hj)
 have HLE:=zH (fun j=>show (fo k (ps.take j)).length≤ps.length from Nat.le_trans (List.length_filter_le _ _) (List.length_take_le' ..))
 obtain ⟨i0,hi,hz0,hz1,hz2⟩:=info_parts iW
 obtain ⟨a,c,rfl⟩:=h.slice
 have hb1:=ae (Below.refl w.heap.size w) (.cells #[.bool bl,.slice a ps.length c] 61)
 have HG:=zH (zA (ae hb1 (.cells #[.bool false,.slice none 0 0] 61)) (zA (aa (ae zR (.cells #[.bool false,.slice none 0 0] 61)) (af w (.cells #[.bool bl,.slice a ps.length c] 61))) (show ((w.alloc (.cells #[.bool bl,.slice a ps.length c] 61)).alloc (.cells #[.bool false,.slice none 0 0] 61)).heap[w.heap.size+1]? = some (.cells #[.bool false,.slice none 0 0] 61 (0,0)) from by simpa using af (w.alloc (.cells #[.bool bl,.slice a ps.length c] 61)) (.cells #[.bool false,.slice none 0 0] 61))))
 have hg1:w.heap.size≤w.heap.size+1:=by omega
 clear h hb1
 go_enter func70,ntmps70
 go_wp2
 go_loopg [5,6] ps.length (fun n x i wr => ∃ j:Nat,n=ps.length - j∧i=.int .i64 j∧j≤ps.length∧Below w.heap.size w wr∧wr.heap[w.heap.size]? = some (.cells #[.bool bl,.slice a ps.length c] 61 (0,0))∧wr.heap[w.heap.size+1]? = some (.cells #[.bool false,.slice none 0 0] 61 (0,0))∧wr.ownsRow w.heap.size 83 2 x (fo k (ps.take j)).length (aC (fo k (ps.take j))))
 case atStart=>exact ⟨0,rfl,rfl,Nat.zero_le _,HG.out.1,HG.out.2.1,HG.out.2.2,zN⟩
 case round =>
  obtain ⟨j,hgn,rfl,hj,hb,hk0,hk1,ho⟩:=hrel
  obtain ⟨xa,xc,rfl⟩:=bz ho
  have HB:=zH (zA hgn (zA hb (zA hk0 (zA hk1 ho))))
  have c1:wr.cell? ⟨w.heap.size,1,none⟩=some (.slice a ps.length c):=cell_of hk0 1
  have hlt1:w.heap.size+1<wr.heap.size:=aO hk1
  clear hgn hb hk0 ho
  by_cases hlt:j<ps.length
  ·
   have hlt':(j:Int)<(ps.length:Int):=by omega
   obtain ⟨b,o,rfl,hc,hx⟩:=H.out.some (by omega)
   obtain ⟨p0,p1⟩:=HX.out j hlt
   have cc : ∀ i u,(aC ps)[2 * j+i]? = some u→wr.cell? ⟨b,o+j * 2+i,none⟩=some u:=fun i u hu=>by
    have e:=hx _ _ hu
    rw [show o+j * 2+i=o+(2 * j+i) by omega]
    exact (HB.out.2.1.cell (p:=⟨b,o+(2 * j+i),none⟩) (zL w _ e)).trans e
   have d0:wr.cell? ⟨b,o+j * 2,none⟩=some (.string ps[j].key):=cc 0 _ p0
   have d1:wr.cell? ⟨b,o+j * 2+1,none⟩=some (.string ps[j].value):=cc 1 _ p1
   have hT:=HT.out j hlt
   clear p0 p1 cc hx hk1
   by_cases hk:ps[j].key=k
   ·
    have ek:(ps[j].key.toList == k.toList)=true:=by rw [gT,decide_eq_true hk]
    rw [if_pos hk] at hT
    have HTT:=zH hT
    clear hk hT
    go_wp2
    go_roundg (ps.length - (j+1))
    case measure=>have:=HB.out.1;omega
    case rel=>exact ⟨j+1,rfl,by go_num,by omega,HB.out.2.1,HB.out.2.2.1,HB.out.2.2.2.1,by rw [HTT.out];exact HB.out.2.2.2.2⟩
   ·
    have ek:(ps[j].key.toList == k.toList)=false:=by rw [gT,decide_eq_false hk]
    rw [if_neg hk] at hT
    have HTT:=zH hT
    have hle:=HLE.out j
    clear hk hT
    go_wp2_with (at_builtin;refine wpList_append_lies _ rfl _ _ 32 rfl w.heap.size 83 i0 (.agg #[.string ⟨#[]⟩,.string ⟨#[]⟩]) 2 32 underlying32 hi hz0 hz1 hz2 rfl (by decide) (.slice xa (fo k (ps.take j)).length xc) (fo k (ps.take j)).length (aC (fo k (ps.take j))) ?a1 (World.ownsRow.aj HB.out.2.2.2.2 (ae zR _)) ⟨wr.heap.size,0,none⟩ 1 1 [.string ps[j].key,.string ps[j].value] ?a2 rfl ?a3 ?a4 (by decide) ?a5 ?a6 ?a7 _ rfl ?_)
    case a1=>rfl
    case a2=>rfl
    case a3=>exact World.news_of_block (cs := #[.string ps[j].key,.string ps[j].value]) (t:=83) (fr:=(0,0)) (af wr _)
    case a4=>intro u hu;simp only [List.mem_cons,List.not_mem_nil,or_false] at hu;rcases hu with rfl | rfl <;> rfl
    case a5=>simp only [maxLen];omega
    case a6=>omega
    case a7=>have:=HB.out.2.1.size;simp only [World.size_alloc];omega
    intro g4 cap4 w2 how hgr _ _
    have hgr2:=dM (ae (Below.refl wr.heap.size wr) (.cells #[.string ps[j].key,.string ps[j].value] 83)) hgr
    have hown2:w2.ownsRow w.heap.size 83 2 (.slice (some ⟨g4,0,none⟩) ((fo k (ps.take j)).length+1) cap4) (fo k (ps.take (j+1))).length (aC (fo k (ps.take (j+1)))):=by
     rw [HTT.out,List.length_append,fM];exact how
    have k0':w2.heap[w.heap.size]? = some (.cells #[.bool bl,.slice (some ⟨b,o,none⟩) ps.length c] 61 (0,0)):=(hgr2.block _ (aO HB.out.2.2.1) (cE HB.out.2.2.2.2 HB.out.2.2.1 (by decide))).trans HB.out.2.2.1
    have k1':w2.heap[w.heap.size+1]? = some (.cells #[.bool false,.slice none 0 0] 61 (0,0)):=(hgr2.block _ hlt1 (cE HB.out.2.2.2.2 HB.out.2.2.2.1 (by decide))).trans HB.out.2.2.2.1
    have HN:=zH (zA (gO HB.out.2.1 (bK HB.out.2.2.2.2) hgr2) (zA k0' (zA k1' hown2)))
    clear how hgr hgr2 hown2 k0' k1' c1 d0 d1 hle
    go_wp2
    go_roundg (ps.length - (j+1))
    case measure=>have:=HB.out.1;omega
    case rel=>exact ⟨j+1,rfl,by go_num,by omega,HN.out.1,HN.out.2.1,HN.out.2.2.1,HN.out.2.2.2⟩
  ·
   obtain rfl:j=ps.length:=by omega
   rw [List.take_length] at HB
   obtain ⟨z0,z1,zf⟩:=jJ hk1
   have e:=jJ (jQ hk1 (.bool false) (.slice xa (fo k ps).length xc))
   unfold lG at e
   obtain ⟨d0,d1,df⟩:=e
   clear hk1
   go_wp2
   refine bodyPost_ret (v:=.agg #[.bool false,.slice xa (fo k ps).length xc]) (by simp [results,results70,go_sem,d0,d1]) rfl ?_
   exact ⟨_,rfl,jZ HB.out.2.2.2.2 (cE HB.out.2.2.2.2 HB.out.2.2.2.1 (by decide)) _ _,dD HB.out.2.1 hg1 _ _⟩
structure sU (w wr:World) (bl:Bool) (a:Option Addr) (n c:Nat) (x:Value) (o:List aK):Prop where
 below:Below w.heap.size w wr
 k0:wr.heap[w.heap.size]? = some (.cells #[.bool bl,.slice a n c] 61 (0,0))
 k1:wr.heap[w.heap.size+1]? = some (.cells #[.bool false,.slice none 0 0] 61 (0,0))
 own:wr.ownsRow w.heap.size 83 2 x o.length (aC o)
theorem sI (k v:ByteArray) : ∀ (ps:List aK) (b:Bool),(qi k v b ps).length≤ps.length+(if b=true then 0 else 1)
 | [],b=>by cases b <;> simp [qi]
 | p::ps,b=>by
  have h1:(if p.key=k then ([]:List aK) else [p]).length≤1:=by split <;> simp
  unfold qi
  rw [List.length_append,List.length_append]
  generalize (if p.key=k then ([]:List aK) else [p])=q at *
  cases b with
  | true =>
   have ih:(qi k v true ps).length≤ps.length+0:=sI k v ps true
   rw [if_neg (by simp),Bool.true_or]
   show 0+(q.length+(qi k v true ps).length)≤ps.length+1+0
   omega
  | false =>
   cases hl:bZ p.key k with
   | true =>
    have ih:(qi k v false ps).length≤ps.length+1:=sI k v ps false
    rw [if_neg (by simp)]
    show 0+(q.length+(qi k v false ps).length)≤ps.length+1+1
    omega
   | false =>
    have ih:(qi k v true ps).length≤ps.length+0:=sI k v ps true
    rw [if_pos ⟨rfl,rfl⟩]
    show 1+(q.length+(qi k v true ps).length)≤ps.length+1+1
    omega
theorem Bl (k v:ByteArray) (ps:List aK) (b:Bool):(qi k v b ps).length≤ps.length+1:=by
 have:=sI k v ps b
 split at this <;> omega
theorem Dt (k v:ByteArray) (b:Bool) (ps:List aK) (j:Nat) (h:j<ps.length):qi k v b (ps.drop j)=(if b=false∧bZ ps[j].key k=false then [⟨k,v⟩] else [])++((if ps[j].key=k then [] else [ps[j]])++qi k v (b || !bZ ps[j].key k) (ps.drop (j+1))):=by
 rw [List.drop_eq_getElem_cons h]
 rfl
theorem CH (bl:Bool) (u:Value) (ps:List aK) (k v:ByteArray) (w:World) (h:aQ w u ps.length 2 (aC ps)) (hn:ps.length≤1000):Calls prog 71 #[.agg #[.bool bl,u],.string k,.string v] w (BE (qi k v false ps) w):=by
 have H:=zH h
 have HX:=zH (fun i (hi:i<ps.length)=>dw ps i hi)
 have HT:=zH (fun b j (hj:j<ps.length)=>Dt k v b ps j hj)
 have HLE:=zH (fun b j=>Bl k v (ps.drop j) b)
 have HLF:=zH (Bl k v ps false)
 obtain ⟨i0,hi,hz0,hz1,hz2⟩:=info_parts iW
 obtain ⟨a,c,rfl⟩:=h.slice
 have hb1:=ae (Below.refl w.heap.size w) (.cells #[.bool bl,.slice a ps.length c] 61)
 have HG:=zH (show sU w ((w.alloc (.cells #[.bool bl,.slice a ps.length c] 61)).alloc (.cells #[.bool false,.slice none 0 0] 61)) bl a ps.length c (.slice none 0 0) [] from ⟨ae hb1 (.cells #[.bool false,.slice none 0 0] 61),aa (ae zR (.cells #[.bool false,.slice none 0 0] 61)) (af w (.cells #[.bool bl,.slice a ps.length c] 61)),by simpa using af (w.alloc (.cells #[.bool bl,.slice a ps.length c] 61)) (.cells #[.bool false,.slice none 0 0] 61),zN⟩)
 have hg1:w.heap.size≤w.heap.size+1:=by omega
 clear h hb1
 go_enter func71,ntmps71
 go_wp2
 go_loopg [7,8,9] ps.length (fun n x y i wr => ∃ (j:Nat) (b:Bool) (o:List aK),n=ps.length - j∧y=.bool b∧i=.int .i64 j∧j≤ps.length∧sU w wr bl a ps.length c x o∧o++qi k v b (ps.drop j)=qi k v false ps)
 case atStart=>exact ⟨0,false,[],rfl,rfl,rfl,Nat.zero_le _,HG.out,rfl⟩
 case round =>
  obtain ⟨j,bo,o,hgn,rfl,rfl,hj,hw,heq⟩:=hrel
  obtain ⟨xa,xc,rfl⟩:=bz hw.own
  have HB:=zH (zA hgn (zA hw heq))
  have c1:wr.cell? ⟨w.heap.size,1,none⟩=some (.slice a ps.length c):=cell_of hw.k0 1
  have hlt1:w.heap.size+1<wr.heap.size:=aO hw.k1
  have hol:o.length+(qi k v bo (ps.drop j)).length≤ps.length+1:=by rw [← List.length_append,heq];exact HLF.out
  clear hgn hw heq
  by_cases hlt:j<ps.length
  ·
   have hlt':(j:Int)<(ps.length:Int):=by omega
   obtain ⟨b,off,rfl,hc,hx⟩:=H.out.some (by omega)
   obtain ⟨p0,p1⟩:=HX.out j hlt
   have cc : ∀ w',Below wr.heap.size wr w' → ∀ i q,(aC ps)[2 * j+i]? = some q→w'.cell? ⟨b,off+j * 2+i,none⟩=some q:=fun w' hb' i q hu=>by
    have e:=hx _ _ hu
    rw [show off+j * 2+i=off+(2 * j+i) by omega]
    exact ((gtr HB.out.2.1.below hb').cell (p:=⟨b,off+(2 * j+i),none⟩) (zL w _ e)).trans e
   have hcw : ∀ w',Below w.heap.size w w'→w'.cell? ⟨b,off+j * 2,none⟩=some (.string ps[j].key)∧w'.cell? ⟨b,off+j * 2+1,none⟩=some (.string ps[j].value):=fun w' hb'=>by
    have e0:=hx _ _ p0
    have e1:=hx _ _ p1
    rw [show off+j * 2=off+(2 * j) by omega,show off+2 * j+1=off+(2 * j+1) by omega]
    exact ⟨(hb'.cell (p:=⟨b,off+2 * j,none⟩) (zL w _ e0)).trans e0,(hb'.cell (p:=⟨b,off+(2 * j+1),none⟩) (zL w _ e1)).trans e1⟩
   have HCW:=zH hcw
   have d0:wr.cell? ⟨b,off+j * 2,none⟩=some (.string ps[j].key):=cc wr zR 0 _ p0
   have hT:=HT.out bo j hlt
   have HOL:=zH hol
   clear p0 p1 cc hx hcw hol
   go_upto_region 6 with fail
   go_cut [28] from 10 to 50 (fun v wx=>v=.bool (!bo && !bZ ps[j].key k)∧wr=wx)
   case first =>
    cases bo with
    | true =>
     go_wp2
     go_meet
     exact ⟨rfl,rfl⟩
    | false =>
     obtain ⟨q,hq⟩ : ∃ q,Op.bytesLess ps[j].key.toList k.toList=q:=⟨_,rfl⟩
     have hq2:bZ ps[j].key k=q:=hq
     have HQ:=zH hq2
     clear hq2
     go_wp2
     go_meet
     exact ⟨by rw [HQ.out];rfl,rfl⟩
   case rest =>
   obtain ⟨rfl,rfl⟩:=hcut
   go_upto_if 28 with fail
   go_cut [7,8] from 10 to 50 (fun x' y' wx => ∃ o',sU w wx bl (some ⟨b,off,none⟩) ps.length c x' o'∧y'=.bool (bo || !bZ ps[j].key k)∧o'=o++(if bo=false∧bZ ps[j].key k=false then [⟨k,v⟩] else []))
   case first =>
    cases hc:(!bo && !bZ ps[j].key k) with
    | false =>
     go_wp2
     go_meet
     refine ⟨o,HB.out.2.1,?_,?_⟩
     ·
      cases bo with
      | true=>rfl
      | false=>cases hl:bZ ps[j].key k with
       | true=>rfl
       | false=>rw [hl] at hc;cases hc
     ·
      rw [if_neg (by rintro ⟨rfl,hl⟩;rw [hl] at hc;cases hc)];simp
    | true =>
      obtain ⟨rfl,hl⟩:bo=false∧bZ ps[j].key k=false:=by simpa using hc
      clear hc
      have hob:o.length≤ps.length+1:=by have:=HOL.out;omega
      go_wp2_with (at_builtin;refine wpList_append_lies _ rfl _ _ 32 rfl w.heap.size 83 i0 (.agg #[.string ⟨#[]⟩,.string ⟨#[]⟩]) 2 32 underlying32 hi hz0 hz1 hz2 rfl (by decide) (.slice xa o.length xc) o.length (aC o) ?b1 (World.ownsRow.aj HB.out.2.1.own (ae zR _)) ⟨wr.heap.size,0,none⟩ 1 1 [.string k,.string v] ?b2 rfl ?b3 ?b4 (by decide) ?b5 ?b6 ?b7 _ rfl ?_)
      case b4=>first | (intro u hu;simp only [List.mem_cons,List.not_mem_nil,or_false] at hu;rcases hu with rfl | rfl <;> rfl) | exact ⟨rfl,rfl⟩
      case b5=>first | (simp only [maxLen];omega) | omega
      case b6=>omega
      case b7=>(have:=HB.out.2.1.below.size;first | omega | (simp only [World.size_alloc];omega))
      intro g4 cap4 w2 how hgr _ _
      have hgr2:=dM (ae (Below.refl wr.heap.size wr) (.cells #[.string k,.string v] 83)) hgr
      have hown2:w2.ownsRow w.heap.size 83 2 (.slice (some ⟨g4,0,none⟩) (o.length+1) cap4) (o++[(⟨k,v⟩:aK)]).length (aC (o++[⟨k,v⟩])):=by
       rw [List.length_append,fM];exact how
      have k0':w2.heap[w.heap.size]? = some (.cells #[.bool bl,.slice (some ⟨b,off,none⟩) ps.length c] 61 (0,0)):=(hgr2.block _ (aO HB.out.2.1.k0) (cE HB.out.2.1.own HB.out.2.1.k0 (by decide))).trans HB.out.2.1.k0
      have k1':w2.heap[w.heap.size+1]? = some (.cells #[.bool false,.slice none 0 0] 61 (0,0)):=(hgr2.block _ (aO HB.out.2.1.k1) (cE HB.out.2.1.own HB.out.2.1.k1 (by decide))).trans HB.out.2.1.k1
      have HN:=zH (show sU w w2 bl (some ⟨b,off,none⟩) ps.length c (.slice (some ⟨g4,0,none⟩) (o.length+1) cap4) (o++[⟨k,v⟩]) from ⟨gO HB.out.2.1.below (bK HB.out.2.1.own) hgr2,k0',k1',hown2⟩)
      clear how hgr hgr2 hown2 k0' k1'
      go_wp2
      go_meet
      refine ⟨_,HN.out,?_,?_⟩
      ·
       first | trivial | (rw [hl];rfl)
      ·
       rw [if_pos (show _∧_ from ⟨by first | trivial | rfl,hl⟩)]
   case rest =>
    obtain ⟨o',hw',rfl,ho'⟩:=hcut
    obtain ⟨xa',xc',rfl⟩:=bz hw'.own
    have HB2:=zH (zA hw' ho')
    obtain ⟨d0',d1'⟩:=HCW.out wc hw'.below
    have c1':wc.cell? ⟨w.heap.size,1,none⟩=some (.slice (some ⟨b,off,none⟩) ps.length c):=cell_of hw'.k0 1
    have hlt2:w.heap.size+1<wc.heap.size:=aO hw'.k1
    clear hw' ho' d0 c1 hlt1
    by_cases hk:ps[j].key=k
    ·
     have ek:(ps[j].key.toList == k.toList)=true:=by rw [gT,decide_eq_true hk]
     rw [if_pos hk] at hT
     have HTT:=zH hT
     clear hk hT
     go_wp2
     go_roundg (ps.length - (j+1))
     case measure=>have:=HB.out.1;omega
     case rel=>exact ⟨j+1,_,o',rfl,rfl,by go_num,by omega,HB2.out.1,by rw [← HB.out.2.2,HTT.out,HB2.out.2];simp⟩
    ·
     have ek:(ps[j].key.toList == k.toList)=false:=by rw [gT,decide_eq_false hk]
     rw [if_neg hk] at hT
     have HTT:=zH hT
     have hob:o'.length≤ps.length+1:=by have:=HOL.out;rw [HTT.out] at this;rw [HB2.out.2];simp only [List.length_append] at this ⊢;omega
     clear hk hT
     go_wp2_with (at_builtin;refine wpList_append_lies _ rfl _ _ 32 rfl w.heap.size 83 i0 (.agg #[.string ⟨#[]⟩,.string ⟨#[]⟩]) 2 32 underlying32 hi hz0 hz1 hz2 rfl (by decide) (.slice xa' o'.length xc') o'.length (aC o') ?d1 (World.ownsRow.aj HB2.out.1.own (ae zR _)) ⟨wc.heap.size,0,none⟩ 1 1 [.string ps[j].key,.string ps[j].value] ?d2 rfl ?d3 ?d4 (by decide) ?d5 ?d6 ?d7 _ rfl ?_)
     case d1=>rfl
     case d2=>rfl
     case d3=>exact World.news_of_block (cs := #[.string ps[j].key,.string ps[j].value]) (t:=83) (fr:=(0,0)) (af wc _)
     case d4=>first | (intro u hu;simp only [List.mem_cons,List.not_mem_nil,or_false] at hu;rcases hu with rfl | rfl <;> rfl) | exact ⟨rfl,rfl⟩
     case d5=>first | (simp only [maxLen];omega) | omega
     case d6=>omega
     case d7=>(have:=HB2.out.1.below.size;first | omega | (simp only [World.size_alloc];omega))
     intro g4 cap4 w2 how hgr _ _
     have hgr2:=dM (ae (Below.refl wc.heap.size wc) (.cells #[.string ps[j].key,.string ps[j].value] 83)) hgr
     have hown2:w2.ownsRow w.heap.size 83 2 (.slice (some ⟨g4,0,none⟩) (o'.length+1) cap4) (o'++[(⟨ps[j].key,ps[j].value⟩:aK)]).length (aC (o'++[⟨ps[j].key,ps[j].value⟩])):=by
      rw [List.length_append,fM];exact how
     have k0':w2.heap[w.heap.size]? = some (.cells #[.bool bl,.slice (some ⟨b,off,none⟩) ps.length c] 61 (0,0)):=(hgr2.block _ (aO HB2.out.1.k0) (cE HB2.out.1.own HB2.out.1.k0 (by decide))).trans HB2.out.1.k0
     have k1':w2.heap[w.heap.size+1]? = some (.cells #[.bool false,.slice none 0 0] 61 (0,0)):=(hgr2.block _ (aO HB2.out.1.k1) (cE HB2.out.1.own HB2.out.1.k1 (by decide))).trans HB2.out.1.k1
     have HN:=zH (show sU w w2 bl (some ⟨b,off,none⟩) ps.length c (.slice (some ⟨g4,0,none⟩) (o'.length+1) cap4) (o'++[⟨ps[j].key,ps[j].value⟩]) from ⟨gO HB2.out.1.below (bK HB2.out.1.own) hgr2,k0',k1',hown2⟩)
     clear how hgr hgr2 hown2 k0' k1'
     clear d0' d1' c1' hlt2 hob
     go_wp2
     go_roundg (ps.length - (j+1))
     case measure=>have:=HB.out.1;omega
     case rel=>exact ⟨j+1,_,_,rfl,rfl,by go_num,by omega,HN.out,by rw [← HB.out.2.2,HTT.out,HB2.out.2];simp⟩
  ·
   obtain rfl:j=ps.length:=by omega
   rw [List.drop_length] at HB
   cases bo with
   | true =>
    obtain ⟨z0,z1,zf⟩:=jJ HB.out.2.1.k1
    have e:=jJ (jQ HB.out.2.1.k1 (.bool false) (.slice xa o.length xc))
    unfold lG at e
    obtain ⟨d0,d1,df⟩:=e
    go_wp2
    refine bodyPost_ret (v:=.agg #[.bool false,.slice xa o.length xc]) (by simp [results,results71,go_sem,d0,d1]) rfl ?_
    have e:=HB.out.2.2
    rw [show qi k v true []=[] from rfl,List.append_nil] at e
    rw [← e]
    exact ⟨_,rfl,jZ HB.out.2.1.own (cE HB.out.2.1.own HB.out.2.1.k1 (by decide)) _ _,dD HB.out.2.1.below hg1 _ _⟩
   | false =>
    have hob:o.length≤ps.length+1:=by omega
    go_wp2_with (at_builtin;refine wpList_append_lies _ rfl _ _ 32 rfl w.heap.size 83 i0 (.agg #[.string ⟨#[]⟩,.string ⟨#[]⟩]) 2 32 underlying32 hi hz0 hz1 hz2 rfl (by decide) (.slice xa o.length xc) o.length (aC o) ?e1 (World.ownsRow.aj HB.out.2.1.own (ae zR _)) ⟨wr.heap.size,0,none⟩ 1 1 [.string k,.string v] ?e2 rfl ?e3 ?e4 (by decide) ?e5 ?e6 ?e7 _ rfl ?_)
    case e1=>rfl
    case e2=>rfl
    case e3=>exact World.news_of_block (cs := #[.string k,.string v]) (t:=83) (fr:=(0,0)) (af wr _)
    case e4=>first | (intro u hu;simp only [List.mem_cons,List.not_mem_nil,or_false] at hu;rcases hu with rfl | rfl <;> rfl) | exact ⟨rfl,rfl⟩
    case e5=>first | (simp only [maxLen];omega) | omega
    case e6=>omega
    case e7=>(have:=HB.out.2.1.below.size;first | omega | (simp only [World.size_alloc];omega))
    intro g4 cap4 w2 how hgr _ _
    have hgr2:=dM (ae (Below.refl wr.heap.size wr) (.cells #[.string k,.string v] 83)) hgr
    have hown2:w2.ownsRow w.heap.size 83 2 (.slice (some ⟨g4,0,none⟩) (o.length+1) cap4) (o++[(⟨k,v⟩:aK)]).length (aC (o++[⟨k,v⟩])):=by
     rw [List.length_append,fM];exact how
    have k0':w2.heap[w.heap.size]? = some (.cells #[.bool bl,.slice a ps.length c] 61 (0,0)):=(hgr2.block _ (aO HB.out.2.1.k0) (cE HB.out.2.1.own HB.out.2.1.k0 (by decide))).trans HB.out.2.1.k0
    have k1':w2.heap[w.heap.size+1]? = some (.cells #[.bool false,.slice none 0 0] 61 (0,0)):=(hgr2.block _ (aO HB.out.2.1.k1) (cE HB.out.2.1.own HB.out.2.1.k1 (by decide))).trans HB.out.2.1.k1
    have HN:=zH (show sU w w2 bl a ps.length c (.slice (some ⟨g4,0,none⟩) (o.length+1) cap4) (o++[⟨k,v⟩]) from ⟨gO HB.out.2.1.below (bK HB.out.2.1.own) hgr2,k0',k1',hown2⟩)
    clear how hgr hgr2 hown2 k0' k1'
    clear c1 hlt1
    have HEQ:=zH (show o++[⟨k,v⟩]=qi k v false ps from HB.out.2.2)
    obtain ⟨z0,z1,zf⟩:=jJ HN.out.k1
    have e:=jJ (jQ HN.out.k1 (.bool false) (.slice (some ⟨g4,0,none⟩) (o.length+1) cap4))
    unfold lG at e
    obtain ⟨d0,d1,df⟩:=e
    go_wp2
    refine bodyPost_ret (v:=.agg #[.bool false,.slice (some ⟨g4,0,none⟩) (o.length+1) cap4]) (by simp [results,results71,go_sem,d0,d1]) rfl ?_
    rw [← HEQ.out]
    refine ⟨_,?_,jZ HN.out.own (cE HN.out.own HN.out.k1 (by decide)) _ _,dD HN.out.below hg1 _ _⟩
    rfl
end Go.Proofs.YtcfdenckiigdaaaGreat

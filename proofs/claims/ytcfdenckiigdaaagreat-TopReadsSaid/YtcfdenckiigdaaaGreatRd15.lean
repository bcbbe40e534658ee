/- Part 15 of the contracts. -/
import Derived.Test.YtcfdenckiigdaaaGreatRd14
set_option linter.unusedVariables false
set_option maxRecDepth 100000
set_option maxHeartbeats 4000000
namespace Go.Proofs.YtcfdenckiigdaaaGreat
open Tryz Go.RowKit
def fK (s:Int):Int:=if s+1 ≥ 8 then 4 else s+1
theorem oV (s:Int) (w:World) (h0:0≤s) (h1:s≤100):Calls prog 89 #[.int .i64 s] w fun e w'=>e=.returned (.int .i64 (fK s))∧w=w':=by
 have hw:wrap64 (s+1)=s+1:=by unfold wrap64;omega
 by_cases h:s+1 ≥ 8
 ·
  have e:fK s=4:=by unfold fK;rw [if_pos h]
  rw [e];clear e
  go_enter func89,ntmps89
  go_wp2
  go_ret
  exact ⟨rfl,rfl⟩
 ·
  have e:fK s=s+1:=by unfold fK;rw [if_neg h]
  rw [e];clear e
  go_enter func89,ntmps89
  go_wp2
  go_ret
  exact ⟨rfl,rfl⟩
structure Mr (w:World) (b:Nat) (V:bC):Prop where
 ex : ∃ vr,w.heap[b]? = some (.cells #[.bool V.ck,.int .i64 V.an,vr,.int .i64 V.free] 52 (0,0))∧aU w vr V.aC.length 4 (bp V.aC)
structure bC.Ok (V:bC):Prop where
 ck:V.ck=true
 an:1≤V.an∧V.an≤1048576
 free:1≤V.free∧V.free≤8
 len:V.aC.length≤7
 aC : ∀ r ∈ V.aC,gW r
def IX (ps qs:List aJ) (w:World) (e:Ending) (w':World):Prop := ∃ x y,e=.returned (.tuple #[x,y,.int .i64 0])∧w'.ownsRow w.heap.size 83 2 x ps.length (aE ps)∧w'.ownsRow w.heap.size 83 2 y qs.length (aE qs)∧Below w.heap.size w w'
theorem xB (b:Nat) (V:bC) (r:aX) (w:World) (h:Mr w b V) (ok:V.Ok) (hr:gW r):Calls prog 172 #[.pointer (some ⟨b,0,none⟩),.agg r.cells] w (IX (cn V.aC) (eI (cn V.aC) r) w):=by
 obtain ⟨vr,hb,hs⟩:=h
 have HBL:=zH (fun w h=>oz vr V.aC w h (by have:=ok.len;omega) ok.aC)
 have HW:=zH (fun v w h=>yp v (cn V.aC) r w h (dx _ V.aC rfl ok.aC).1 (by have:=(dx _ V.aC rfl ok.aC).2;have:=ok.len;omega) hr.1 hr.2)
 have HS:=zH (zA hb hs)
 obtain ⟨c0,c1,c2,c3,hf⟩:=cC hb
 have hbl:b<w.heap.size:=aO hb
 have hg:=ok.ck
 have he:=ok.an
 have hfr:=ok.free
 have HE:=zH (fun n w=>o7 n w)
 obtain ⟨va,vc,rfl⟩:=hs.slice
 unfold aX.cells at HW ⊢
 rw [hg] at c0
 clear hb hs hg hr ok
 go_enter func172,ntmps172
 go_wp2_with (go_at_call 114;refine (HE.out _ _).mono ?_;rintro e w' ⟨rfl,rfl⟩)
 have hnb:=ae (Below.refl _ w) (.cells #[.int .i64 r.kind,.int .i64 r.an,.string r.key,.string r.value] 74)
 refine (HBL.out _ (HS.out.2.aj hnb)).mono ?_
 rintro e w1 ⟨x,rfl,ho,hb1⟩
 obtain ⟨d0,d1,d2,d3,df⟩:=cC (aa hb1 (af w (.cells #[.int .i64 r.kind,.int .i64 r.an,.string r.key,.string r.value] 74)))
 have HB1:=zH (zA (gtr hnb hb1) (eV ho hnb.size))
 clear hb1 ho hnb
 obtain ⟨xa,xc,rfl⟩:=bG HB1.out.2
 clear c0 c1 c2 c3 hf
 go_wp2_with fail
 refine (HW.out _ _ (aU.cZ HB1.out.2)).mono ?_
 rintro e w2 ⟨y,rfl,ho2,hb2⟩
 have HB2:=zH (zA (gtr HB1.out.1 hb2) (zA (World.ownsRow.aj HB1.out.2 hb2) (eV ho2 HB1.out.1.size)))
 clear hb2 ho2
 go_wp2
 refine bodyPost_ret (v:=.tuple #[.slice xa (cn V.aC).length xc,y,.int .i64 0]) (by simp [results,results172,go_sem]) rfl ?_
 exact ⟨_,_,rfl,HB2.out.2.1,HB2.out.2.2,HB2.out.1⟩
structure fJ where
 dG:Int
 av:Int
 bJ:List Int
 aC:List aX
 free:Int
 an:Int
def eR (p:aJ):aX:=⟨1,0,p.key,p.value⟩
def jI (av an:Int) (ps:List aJ):fJ:=⟨av,av,(List.range ps.length).map (fun i:Nat=>(i:Int)+1)++[0],ps.map eR++[⟨0,an,⟨#[]⟩,⟨#[]⟩⟩],ps.length+1,an⟩
def pP (p:fJ) (vs vr:Value):Array Value := #[.int .i64 p.dG,.int .i64 p.av,vs,vr,.int .i64 p.free,.int .i64 p.an]
def BM (p:fJ) (w:World) (e:Ending) (w':World):Prop := ∃ vs vr,e=.returned (.agg (pP p vs vr))∧w'.ownsRow w.heap.size 3 1 vs p.bJ.length (aB p.bJ)∧w'.ownsRow w.heap.size 74 4 vr p.aC.length (bp p.aC)∧Below w.heap.size w w'
structure gH (w wr:World) (b g:Nat) (av an:Int) (sl:List Int) (rs:List aX) (free:Int):Prop where
 below:Below w.heap.size w wr
 ne:b≠g
 res:wr.heap[b]? = some (.cells #[.int .i64 0,.int .i64 0,.slice none 0 0,.slice none 0 0,.int .i64 0,.int .i64 0] 228 (0,0))
 row : ∃ vs vr,wr.heap[g]? = some (.cells #[.int .i64 av,.int .i64 av,vs,vr,.int .i64 free,.int .i64 an] 228 (0,0))∧wr.ownsRow w.heap.size 3 1 vs sl.length (aB sl)∧wr.ownsRow w.heap.size 74 4 vr rs.length (bp rs)
theorem rQ {w w2:World} {B B':Nat} {t t':TypeId} {v v':Value} {n n' sz sz':Nat} {cs cs':List Value} (h:w.ownsRow B t sz v n cs) (h':w.ownsRow B' t' sz' v' n' cs') (ht:t≠t') (hg:w.grownBy w2 v'.ownBlock):w2.ownsRow B t sz v n cs:=by
 refine ⟨h.1,h.2.imp id fun ⟨g,cap,cur,hv,hB,hh,r⟩=>⟨g,cap,cur,hv,hB,?_,r⟩⟩
 exact (hg.block g (aO hh) (cN h' hh (fun e=>ht e.symm))).trans hh
theorem km {w:World} {g:Nat} {a b c d e f:Value} {t:TypeId} (h:w.heap[g]? = some (.cells #[a,b,c,d,e,f] t (0,0))):w.cell? ⟨g,0,none⟩=some a∧w.cell? ⟨g,1,none⟩=some b∧w.cell? ⟨g,2,none⟩=some c∧w.cell? ⟨g,3,none⟩=some d∧w.cell? ⟨g,4,none⟩=some e∧w.cell? ⟨g,5,none⟩=some f ∧ ∀ i,w.frozen? ⟨g,i,none⟩=false :=
 ⟨cell_of h 0,cell_of h 1,cell_of h 2,cell_of h 3,cell_of h 4,cell_of h 5,fun i=>aF h i⟩
theorem oJ {w w2:World} {N:Nat} {v:Value} {w0:World} (hb:Below N w0 w) (hN:N≤w.heap.size) (ho : ∀ k,v.ownBlock=some k→N≤k) (hg:w.grownBy w2 v.ownBlock):Below N w0 w2 :=
 hb.trans ⟨hg.os,hg.tape,hg.output,hg.size,fun i hi=>hg.block i (zV hi hN) (fun e=>by have:=ho i e.symm;omega)⟩
theorem gH.aj {w wr w2:World} {b g:Nat} {av an free:Int} {sl:List Int} {rs:List aX} (h:gH w wr b g av an sl rs free) (hb:Below wr.heap.size wr w2):gH w w2 b g av an sl rs free:=by
 obtain ⟨vs,vr,h1,h2,h3⟩:=h.row
 exact ⟨gtr h.below hb,h.ne,aa hb h.res,vs,vr,aa hb h1,World.ownsRow.aj h2 hb,World.ownsRow.aj h3 hb⟩
theorem gH.bJ {w wr w2:World} {b g:Nat} {av an free:Int} {sl sl':List Int} {rs:List aX} {v v':Value} (h:gH w wr b g av an sl rs free) (hw:w.heap.size≤g) (hv:wr.cell? ⟨g,2,none⟩=some v) (hg:wr.grownBy w2 v.ownBlock) (ho:w2.ownsRow w.heap.size 3 1 v' sl'.length (aB sl')):(∃ x,w2.cell? ⟨g,2,none⟩=some x)∧(∀ i,w2.frozen? ⟨g,i,none⟩=false)∧gH w (w2.setCell ⟨g,2,none⟩ v') b g av an sl' rs free:=by
 obtain ⟨vs,vr,h1,h2,h3⟩:=h.row
 obtain rfl:vs=v:=by rw [cell_of h1] at hv;simpa using hv
 have e1:w2.heap[g]? = _:=(hg.block g (aO h1) (cN h2 h1 (by decide))).trans h1
 have e2:w2.heap[b]? = _:=(hg.block b (aO h.res) (cN h2 h.res (by decide))).trans h.res
 have hb:=oJ h.below h.below.size (bZ h2) hg
 refine ⟨⟨_,cell_of e1 2⟩,fun i=>aF e1 i,lg hb hw _,h.ne,?_,v',vr,az (i:=2) (v:=v') e1,eW ho (cN ho e1 (by decide)) _,eW (rQ h3 h2 (by decide) hg) (cN (rQ h3 h2 (by decide) hg) e1 (by decide)) _⟩
 rw [Below.heap_setCell _ _ _ _ h.ne];exact e2
theorem gH.aC {w wr w2:World} {b g:Nat} {av an free:Int} {sl:List Int} {rs rs':List aX} {v v':Value} (h:gH w wr b g av an sl rs free) (hw:w.heap.size≤g) (hv:wr.cell? ⟨g,3,none⟩=some v) (hg:wr.grownBy w2 v.ownBlock) (ho:w2.ownsRow w.heap.size 74 4 v' rs'.length (bp rs')):(∃ x,w2.cell? ⟨g,3,none⟩=some x)∧(∀ i,w2.frozen? ⟨g,i,none⟩=false)∧gH w (w2.setCell ⟨g,3,none⟩ v') b g av an sl rs' free:=by
 obtain ⟨vs,vr,h1,h2,h3⟩:=h.row
 obtain rfl:vr=v:=by rw [cell_of h1] at hv;simpa using hv
 have e1:w2.heap[g]? = _:=(hg.block g (aO h1) (cN h3 h1 (by decide))).trans h1
 have e2:w2.heap[b]? = _:=(hg.block b (aO h.res) (cN h3 h.res (by decide))).trans h.res
 have hb:=oJ h.below h.below.size (bZ h3) hg
 refine ⟨⟨_,cell_of e1 3⟩,fun i=>aF e1 i,lg hb hw _,h.ne,?_,vs,v',az (i:=3) (v:=v') e1,eW (rQ h2 h3 (by decide) hg) (cN (rQ h2 h3 (by decide) hg) e1 (by decide)) _,eW ho (cN ho e1 (by decide)) _⟩
 rw [Below.heap_setCell _ _ _ _ h.ne];exact e2
theorem gH.Nc {w wr:World} {b g:Nat} {av an free:Int} {sl:List Int} {rs:List aX} (h:gH w wr b g av an sl rs free) (hw:w.heap.size≤g) (x:Int):gH w (wr.setCell ⟨g,4,none⟩ (.int .i64 x)) b g av an sl rs x:=by
 obtain ⟨vs,vr,h1,h2,h3⟩:=h.row
 refine ⟨lg h.below hw _,h.ne,?_,vs,vr,az (i:=4) (v:=.int .i64 x) h1,eW h2 (cN h2 h1 (by decide)) _,eW h3 (cN h3 h1 (by decide)) _⟩
 rw [Below.heap_setCell _ _ _ _ h.ne];exact h.res
theorem gH.km {w wr:World} {b g:Nat} {av an free:Int} {sl:List Int} {rs:List aX} (h:gH w wr b g av an sl rs free) : ∃ vs vr,(wr.cell? ⟨g,0,none⟩=some (.int .i64 av)∧wr.cell? ⟨g,1,none⟩=some (.int .i64 av)∧wr.cell? ⟨g,2,none⟩=some vs∧wr.cell? ⟨g,3,none⟩=some vr∧wr.cell? ⟨g,4,none⟩=some (.int .i64 free)∧wr.cell? ⟨g,5,none⟩=some (.int .i64 an) ∧ ∀ i,wr.frozen? ⟨g,i,none⟩=false)∧wr.ownsRow w.heap.size 3 1 vs sl.length (aB sl)∧wr.ownsRow w.heap.size 74 4 vr rs.length (bp rs):=by
 obtain ⟨vs,vr,h1,h2,h3⟩:=h.row
 exact ⟨vs,vr,YtcfdenckiigdaaaGreat.km h1,h2,h3⟩
theorem fw {w w1 w2:World} {r:Option Nat} (hb:Below w.heap.size w w1) (hg:w1.grownBy w2 r):w.grownBy w2 r :=
 ⟨hg.os.trans hb.os,hg.tape.trans hb.tape,hg.output.trans hb.output,Nat.le_trans hb.size hg.size,fun i hi hn=>(hg.block i (zV hi hb.size) hn).trans (hb.block i hi)⟩
def Bp (w:World) (g:Nat) (a b c d e f:Value):World:=(((((w.setCell ⟨g,0,none⟩ a).setCell ⟨g,1,none⟩ b).setCell ⟨g,2,none⟩ c).setCell ⟨g,3,none⟩ d).setCell ⟨g,4,none⟩ e).setCell ⟨g,5,none⟩ f
theorem fQ {N:Nat} {w0 w:World} {g:Nat} (h:Below N w0 w) (hg:N≤g) (a b c d e f:Value):Below N w0 (Bp w g a b c d e f) :=
 ((((((h.setCell (p:=⟨g,0,none⟩) hg a).setCell (p:=⟨g,1,none⟩) hg b).setCell (p:=⟨g,2,none⟩) hg c).setCell (p:=⟨g,3,none⟩) hg d).setCell (p:=⟨g,4,none⟩) hg e).setCell (p:=⟨g,5,none⟩) hg f)
theorem kg {w:World} {B:Nat} {t:TypeId} {v:Value} {n sz:Nat} {cs:List Value} {g:Nat} (h:w.ownsRow B t sz v n cs) (hn:some g≠v.ownBlock) (a b c d e f:Value):(Bp w g a b c d e f).ownsRow B t sz v n cs :=
 eW (eW (eW (eW (eW (eW h hn a) hn b) hn c) hn d) hn e) hn f
theorem vj (av an:Int) (v:Value) (ps:List aJ) (w:World) (h:aU w v ps.length 2 (aE ps)) (hn:ps.length≤100):Calls prog 173 #[.int .i64 av,.int .i64 an,v] w (BM (jI av an ps) w):=by
 have H:=zH h
 have HX:=zH (fun i (hi:i<ps.length)=>dt ps i hi)
 obtain ⟨a,c,rfl⟩:=h.slice
 clear h
 obtain ⟨i0,hi,hz0,hz1,hz2⟩:=info_parts (show (prog.info? 3).map (fun i=>(i.zero,i.size,i.bytes))=some (some (.int .i64 0),1,8) by kernel_rfl)
 obtain ⟨j0,ji,jz0,jz1,jz2⟩:=info_parts xi
 have hg1:w.heap.size≤w.heap.size+1:=by omega
 go_enter func173,ntmps173
 go_wp2
 go_loopg [16] ps.length (fun n i wr => ∃ j:Nat,n=ps.length - j∧i=.int .i64 j∧j≤ps.length∧gH w wr w.heap.size (w.heap.size+1) av an ((List.range j).map (fun i:Nat=>(i:Int)+1)) ((ps.take j).map eR) (j+1))
 case atStart =>
  refine ⟨0,rfl,rfl,Nat.zero_le _,ae (ae zR _) _,by omega,?_,.slice none 0 0,.slice none 0 0,?_,zN,zN⟩
  ·
   exact aa (ae (Below.refl _ (w.alloc _)) _) (af w _)
  ·
   simpa using af (w.alloc _) _
 case round =>
  obtain ⟨j,hgn,rfl,hj,hM⟩:=hrel
  have HB:=zH (zA hgn hM)
  clear hgn hM
  obtain ⟨vs,vr,⟨c0,c1,c2,c3,c4,c5,hf⟩,hs,hr⟩:=HB.out.2.km
  have hgl:w.heap.size+1<wr.heap.size:=zL wr _ c0
  by_cases hlt:j<ps.length
  ·
   have hlt':(j:Int)<(ps.length:Int):=by omega
   obtain ⟨b,o,rfl,hc,hx⟩:=H.out.some (by omega)
   obtain ⟨p0,p1⟩:=HX.out j hlt
   have cc : ∀ i u,(aE ps)[2 * j+i]? = some u→wr.cell? ⟨b,o+j * 2+i,none⟩=some u:=fun i u hu=>by
    have e:=hx _ _ hu
    rw [show o+j * 2+i=o+(2 * j+i) by omega]
    exact (HB.out.2.below.cell (p:=⟨b,o+(2 * j+i),none⟩) (zL w _ e)).trans e
   have d0:wr.cell? ⟨b,o+j * 2,none⟩=some (.string ps[j].key):=cc 0 _ p0
   have d1:wr.cell? ⟨b,o+j * 2+1,none⟩=some (.string ps[j].value):=cc 1 _ p1
   have HS:=zH (zA hs hr)
   clear p0 p1 cc hx hs hr
   go_wp2_with (at_builtin;refine wpList_append_lies _ rfl _ _ 22 rfl w.heap.size 3 i0 (.int .i64 0) 1 8 underlying22 hi hz0 hz1 hz2 rfl (by decide) vs ((List.range j).map (fun i:Nat=>(i:Int)+1)).length (aB ((List.range j).map (fun i:Nat=>(i:Int)+1))) ?a1 (World.ownsRow.aj HS.out.1 (ae (ae zR _) _)) ⟨wr.heap.size+1,0,none⟩ 1 1 [.int .i64 ((j:Int)+1)] ?a2 rfl ?a3 ?a4 (by decide) ?a5 ?a6 ?a7 _ rfl ?_)
   case a1=>rfl
   case a2=>rfl
   case a3=>exact World.news_of_block (cs := #[.int .i64 ((j:Int)+1)]) (t:=3) (fr:=(0,0)) (by simpa using af (wr.alloc _) _)
   case a4=>intro u hu;simp only [List.mem_cons,List.not_mem_nil,or_false] at hu;rcases hu with rfl;rfl
   case a5=>simp only [maxLen,List.length_map,List.length_range];omega
   case a6=>simp only [List.length_map,List.length_range];omega
   case a7=>have:=HB.out.2.below.size;simp only [World.size_alloc];omega
   intro g4 cap4 w2 how hgr _ _
   have hgr2:=fw (ae (ae (Below.refl wr.heap.size wr) (.cells #[.string ps[j].key,.string ps[j].value] 83)) (.cells #[.int .i64 ((j:Int)+1)] 3)) hgr
   have hpr:w2.heap[wr.heap.size]? = some (.cells #[.string ps[j].key,.string ps[j].value] 83 (0,0)):=(hgr.block wr.heap.size (by simp only [World.size_alloc];omega) (Ba HS.out.1)).trans (aa (ae (Below.refl _ (wr.alloc _)) _) (af wr _))
   have how2:w2.ownsRow w.heap.size 3 1 (.slice (some ⟨g4,0,none⟩) (j+1) cap4) ((List.range (j+1)).map (fun i:Nat=>(i:Int)+1)).length (aB ((List.range (j+1)).map (fun i:Nat=>(i:Int)+1))):=by
    rw [List.range_succ,List.map_append,List.length_append]
    have e:aB ((List.range j).map (fun i:Nat=>(i:Int)+1)++[j].map (fun i:Nat=>(i:Int)+1))=aB ((List.range j).map (fun i:Nat=>(i:Int)+1))++[.int .i64 ((j:Int)+1)]:=by simp [aB]
    rw [e];simp only [List.length_map,List.length_range,List.length_cons,List.length_nil];exact how
   have hgl2:wr.heap.size<w2.heap.size:=aO hpr
   obtain ⟨⟨y,e2⟩,hf',hM2⟩:=HB.out.2.bJ hg1 c2 hgr2 how2
   have hpr2:(w2.setCell ⟨w.heap.size+1,2,none⟩ (.slice (some ⟨g4,0,none⟩) (j+1) cap4)).heap[wr.heap.size]? = some (.cells #[.string ps[j].key,.string ps[j].value] 83 (0,0)):=by
    rw [Below.heap_setCell _ _ _ _ (show wr.heap.size≠w.heap.size+1 by omega)];exact hpr
   have HM2:=zH (zA hM2 hpr2)
   clear how hgr hgr2 how2 hM2 hpr hpr2 HS c0 c1 c2 c3 c4 c5 hf d0 d1
   go_upto_region 6 with fail
   generalize w2.setCell ⟨w.heap.size+1,2,none⟩ (.slice (some ⟨g4,0,none⟩) (j+1) cap4)=w3 at *
   clear e2 hf' hgl2
   obtain ⟨vs3,vr3,⟨c0,c1,c2,c3,c4,c5,hf⟩,hs,hr⟩:=HM2.out.1.km
   have d0:w3.cell? ⟨wr.heap.size,0,none⟩=some (.string ps[j].key):=cell_of HM2.out.2 0
   have d1:w3.cell? ⟨wr.heap.size,1,none⟩=some (.string ps[j].value):=cell_of HM2.out.2 1
   have HS3:=zH (zA hs hr)
   have hgl3:w.heap.size+1<w3.heap.size:=zL w3 _ c0
   clear hs hr
   go_wp2_with (at_builtin;refine wpList_append_lies _ rfl _ _ 50 rfl w.heap.size 74 j0 (.agg #[.int .i64 0,.int .i64 0,.string ⟨#[]⟩,.string ⟨#[]⟩]) 4 48 underlying50 ji jz0 jz1 jz2 rfl (by decide) vr3 ((ps.take j).map eR).length (bp ((ps.take j).map eR)) ?b1 (World.ownsRow.aj HS3.out.2 (ae zR _)) ⟨w3.heap.size,0,none⟩ 1 1 [.int .i64 1,.int .i64 0,.string ps[j].key,.string ps[j].value] ?b2 rfl ?b3 ?b4 (by decide) ?b5 ?b6 ?b7 _ rfl ?_)
   case b1=>rfl
   case b2=>rfl
   case b3=>exact World.news_of_block (cs := #[.int .i64 1,.int .i64 0,.string ps[j].key,.string ps[j].value]) (t:=74) (fr:=(0,0)) (af w3 _)
   case b4=>intro u hu;simp only [List.mem_cons,List.not_mem_nil,or_false] at hu;rcases hu with rfl | rfl | rfl | rfl <;> rfl
   case b5=>simp only [maxLen,List.length_map,List.length_take];omega
   case b6=>simp only [List.length_map,List.length_take];omega
   case b7=>have:=HM2.out.1.below.size;simp only [World.size_alloc];omega
   intro g5 cap5 w4 how hgr _ _
   have hgr2:=fw (ae (Below.refl w3.heap.size w3) (.cells #[.int .i64 1,.int .i64 0,.string ps[j].key,.string ps[j].value] 74)) hgr
   have how2:w4.ownsRow w.heap.size 74 4 (.slice (some ⟨g5,0,none⟩) (j+1) cap5) ((ps.take (j+1)).map eR).length (bp ((ps.take (j+1)).map eR)):=by
    have hjl:((ps.take j).map eR).length=j:=by rw [List.length_map,List.length_take];omega
    rw [← List.map_take] at how
    rw [List.take_succ_eq_append_getElem hlt,List.map_append,List.length_append,List.map_cons,List.map_nil,kG,hjl]
    exact how
   obtain ⟨⟨y5,e2⟩,hf',hM2⟩:=HM2.out.1.aC hg1 c3 hgr2 how2
   have HM3:=zH hM2
   clear how hgr hgr2 how2 hM2 HS3 c0 c1 c2 c3 c4 c5 hf d0 d1 HM2
   go_upto_region 7 with fail
   generalize w4.setCell ⟨w.heap.size+1,3,none⟩ (.slice (some ⟨g5,0,none⟩) (j+1) cap5)=w5 at *
   clear e2 hf'
   obtain ⟨vs5,vr5,⟨c0,c1,c2,c3,c4,c5,hf⟩,hs,hr⟩:=HM3.out.km
   have HM4:=zH (HM3.out.Nc hg1 ((j:Int)+1+1))
   clear hs hr c0 c1 c2 c3 c5
   go_wp2
   go_roundg (ps.length - (j+1))
   case measure=>have:=HB.out.1;omega
   case rel=>exact ⟨j+1,rfl,by go_num,by omega,HM4.out⟩
  ·
   obtain rfl:j=ps.length:=by omega
   have HV:=zH (show jI av an ps=⟨av,av,(List.range ps.length).map (fun i:Nat=>(i:Int)+1)++[0],ps.map eR++[⟨0,an,⟨#[]⟩,⟨#[]⟩⟩],ps.length+1,an⟩ from rfl)
   rw [List.take_length] at HB hr
   have HS:=zH (zA hs hr)
   clear hs hr
   generalize hsl:(List.range ps.length).map (fun i:Nat=>(i:Int)+1)=sl at *
   generalize hrl:ps.map eR=rl at *
   have hsn:sl.length=ps.length:=by rw [← hsl];simp
   have hrn:rl.length=ps.length:=by rw [← hrl];simp
   clear hsl hrl
   go_wp2_with (at_builtin;refine wpList_append_lies _ rfl _ _ 22 rfl w.heap.size 3 i0 (.int .i64 0) 1 8 underlying22 hi hz0 hz1 hz2 rfl (by decide) vs sl.length (aB sl) ?a1 (World.ownsRow.aj HS.out.1 (ae zR _)) ⟨wr.heap.size,0,none⟩ 1 1 [.int .i64 0] ?a2 rfl ?a3 ?a4 (by decide) ?a5 ?a6 ?a7 _ rfl ?_)
   case a1=>rfl
   case a2=>rfl
   case a3=>exact World.news_of_block (cs := #[.int .i64 0]) (t:=3) (fr:=(0,0)) (af wr _)
   case a4=>intro u hu;simp only [List.mem_cons,List.not_mem_nil,or_false] at hu;rcases hu with rfl;rfl
   case a5=>simp only [maxLen];omega
   case a6=>omega
   case a7=>have:=HB.out.2.below.size;simp only [World.size_alloc];omega
   intro g4 cap4 w2 how hgr _ _
   have hgr2:=fw (ae (Below.refl wr.heap.size wr) (.cells #[.int .i64 0] 3)) hgr
   have how2:w2.ownsRow w.heap.size 3 1 (.slice (some ⟨g4,0,none⟩) (ps.length+1) cap4) (sl++[0]).length (aB (sl++[0])):=by
    rw [List.length_append]
    have e:aB (sl++[0])=aB sl++[.int .i64 0]:=by simp [aB]
    rw [e,hsn];exact how
   obtain ⟨⟨y,e2⟩,hf',hM2⟩:=HB.out.2.bJ hg1 c2 hgr2 how2
   have HM2:=zH hM2
   clear how hgr hgr2 how2 hM2 HS c0 c1 c2 c3 c4 c5 hf
   go_upto_region 10 with fail
   generalize w2.setCell ⟨w.heap.size+1,2,none⟩ (.slice (some ⟨g4,0,none⟩) (ps.length+1) cap4)=w3 at *
   clear e2 hf'
   obtain ⟨vs3,vr3,⟨c0,c1,c2,c3,c4,c5,hf⟩,hs,hr⟩:=HM2.out.km
   have HS3:=zH (zA hs hr)
   have hgl3:w.heap.size+1<w3.heap.size:=zL w3 _ c0
   clear hs hr
   go_wp2_with (at_builtin;refine wpList_append_lies _ rfl _ _ 50 rfl w.heap.size 74 j0 (.agg #[.int .i64 0,.int .i64 0,.string ⟨#[]⟩,.string ⟨#[]⟩]) 4 48 underlying50 ji jz0 jz1 jz2 rfl (by decide) vr3 rl.length (bp rl) ?b1 (World.ownsRow.aj HS3.out.2 (ae zR _)) ⟨w3.heap.size,0,none⟩ 1 1 [.int .i64 0,.int .i64 an,.string ⟨#[]⟩,.string ⟨#[]⟩] ?b2 rfl ?b3 ?b4 (by decide) ?b5 ?b6 ?b7 _ rfl ?_)
   case b1=>rfl
   case b2=>rfl
   case b3=>exact World.news_of_block (cs := #[.int .i64 0,.int .i64 an,.string ⟨#[]⟩,.string ⟨#[]⟩]) (t:=74) (fr:=(0,0)) (af w3 _)
   case b4=>intro u hu;simp only [List.mem_cons,List.not_mem_nil,or_false] at hu;rcases hu with rfl | rfl | rfl | rfl <;> rfl
   case b5=>simp only [maxLen];omega
   case b6=>omega
   case b7=>have:=HM2.out.below.size;simp only [World.size_alloc];omega
   intro g5 cap5 w4 how hgr _ _
   have hgr2:=fw (ae (Below.refl w3.heap.size w3) (.cells #[.int .i64 0,.int .i64 an,.string ⟨#[]⟩,.string ⟨#[]⟩] 74)) hgr
   have how2:w4.ownsRow w.heap.size 74 4 (.slice (some ⟨g5,0,none⟩) (ps.length+1) cap5) (rl++[(⟨0,an,⟨#[]⟩,⟨#[]⟩⟩:aX)]).length (bp (rl++[(⟨0,an,⟨#[]⟩,⟨#[]⟩⟩:aX)])):=by
    rw [List.length_append,kG,hrn];exact how
   obtain ⟨⟨y5,e2⟩,hf',hM2⟩:=HM2.out.aC hg1 c3 hgr2 how2
   have HM3:=zH hM2
   clear how hgr hgr2 how2 hM2 HS3 c0 c1 c2 c3 c4 c5 hf HM2
   go_upto_region 11 with fail
   generalize w4.setCell ⟨w.heap.size+1,3,none⟩ (.slice (some ⟨g5,0,none⟩) (ps.length+1) cap5)=w5 at *
   clear e2 hf'
   obtain ⟨vs5,vr5,⟨c0,c1,c2,c3,c4,c5,hf⟩,hs,hr⟩:=HM3.out.km
   obtain ⟨d0,d1,d2,d3,d4,d5,df⟩:=km HM3.out.res
   have HS5:=zH (zA hs hr)
   clear hs hr
   obtain ⟨sa,sc,rfl⟩:=bG HS5.out.1
   obtain ⟨ra,rc,rfl⟩:=bG HS5.out.2
   go_wp2
   refine bodyPost_ret (v:=.agg #[.int .i64 av,.int .i64 av,.slice sa (sl++[0]).length sc,.slice ra (rl++[(⟨0,an,⟨#[]⟩,⟨#[]⟩⟩:aX)]).length rc,.int .i64 (ps.length+1),.int .i64 an]) (by simp [results,results173,go_sem,d0,d1,d2,d3,d4,d5,hsn,hrn]) rfl ?_
   rw [HV.out]
   refine ⟨_,_,rfl,kg HS5.out.1 (cN HS5.out.1 HM3.out.res (by decide)) _ _ _ _ _ _,kg HS5.out.2 (cN HS5.out.2 HM3.out.res (by decide)) _ _ _ _ _ _,fQ HM3.out.below zY _ _ _ _ _ _⟩
def iI (ps:List aJ) (k:ByteArray):Option ByteArray:=match ps.find? fun p=>decide (p.key=k) with | some p=>some p.value | none=>none
def Fp (k:ByteArray) (ps:List aJ) (i:Nat):Prop := ∃ hi:i<ps.length,ps[i].key=k ∧ ∀ j (hj:j<ps.length),j<i→ps[j].key≠k
theorem wY {k:ByteArray} {ps:List aJ} {i:Nat} (h:Fp k ps i):iI ps k=some (ps[i]'h.1).value:=by
 obtain ⟨hi,hk,hj⟩:=h
 have:ps.find? (fun p=>decide (p.key=k))=some ps[i]:=List.find?_eq_some_iff_getElem.2 ⟨decide_eq_true hk,i,hi,rfl,fun j hji=>by simpa using hj j (by omega) hji⟩
 unfold iI
 rw [this]
theorem FN {k:ByteArray} {ps:List aJ} (h : ∀ j (hj:j<ps.length),ps[j].key≠k):iI ps k=none:=by
 have:ps.find? (fun p=>decide (p.key=k))=none:=List.find?_eq_none.2 fun p hp=>by
  obtain ⟨j,hj,rfl⟩:=List.getElem_of_mem hp
  simpa using h j hj
 unfold iI
 rw [this]
theorem u9 (v:Value) (ps:List aJ) (k:ByteArray) (kb:Nat) (w:World) (h:aU w v ps.length 2 (aE ps)) (hk:w.cell? ⟨kb,0,none⟩=some (.string k)) (hn:ps.length≤1000):Calls prog 136 #[v,.func (.func 137) #[] #[.pointer (some ⟨kb,0,none⟩)]] w fun e w' => ∃ x:Int,e=.returned (.int .i64 x)∧Below w.heap.size w w'∧((∃ i:Nat,x=i∧Fp k ps i)∨(x = -1 ∧ ∀ j (hj:j<ps.length),ps[j].key≠k)):=by
 have HF:=zH (fun a b w h=>Cf a b k kb w h)
 have HK:=zH (fun (w':World) (hb:Below w.heap.size w w')=>(hb.cell (p:=⟨kb,0,none⟩) (zL w _ hk)).trans hk)
 have H:=zH h
 have HX:=zH (fun i (hi:i<ps.length)=>dt ps i hi)
 obtain ⟨a,c,rfl⟩:=h.slice
 clear h hk
 go_enter func136,ntmps136
 go_wp2
 go_loopg [8] ps.length (fun n i wr => ∃ j:Nat,n=ps.length - j∧i=.int .i64 j∧j≤ps.length∧Below w.heap.size w wr ∧ ∀ q (hq:q<ps.length),q<j→ps[q].key≠k)
 case atStart=>exact ⟨0,rfl,rfl,Nat.zero_le _,Below.refl _ _,fun q _ h=>absurd h (Nat.not_lt_zero _)⟩
 case round =>
  obtain ⟨j,hgn,rfl,hj,hb,hne⟩:=hrel
  have HB:=zH (zA hgn (zA hb hne))
  clear hgn hb hne
  by_cases hlt:j<ps.length
  ·
   have hlt':(j:Int)<(ps.length:Int):=by omega
   obtain ⟨b,o,rfl,hc,hx⟩:=H.out.some (by omega)
   obtain ⟨p0,p1⟩:=HX.out j hlt
   have cc : ∀ i u,(aE ps)[2 * j+i]? = some u→wr.cell? ⟨b,o+j * 2+i,none⟩=some u:=fun i u hu=>by
    have e:=hx _ _ hu
    rw [show o+j * 2+i=o+(2 * j+i) by omega]
    exact (HB.out.2.1.cell (p:=⟨b,o+(2 * j+i),none⟩) (zL w _ e)).trans e
   have c0:wr.cell? ⟨b,o+j * 2,none⟩=some (.string ps[j].key):=cc 0 _ p0
   have c1:wr.cell? ⟨b,o+j * 2+1,none⟩=some (.string ps[j].value):=cc 1 _ p1
   clear p0 p1 cc hx
   go_wp2_with fail
   refine (HF.out _ _ _ (HK.out _ HB.out.2.1)).mono ?_
   rintro e w1 ⟨rfl,hb1⟩
   have HB1:=zH (gtr HB.out.2.1 hb1)
   clear hb1
   rw [jq]
   by_cases hkk:ps[j].key=k
   ·
    rw [decide_eq_true hkk]
    have HE:=zH hkk
    clear hkk
    go_wp2
    go_ret
    exact ⟨_,rfl,HB1.out,.inl ⟨j,rfl,hlt,HE.out,HB.out.2.2⟩⟩
   ·
    rw [decide_eq_false hkk]
    have HE:=zH hkk
    clear hkk
    go_wp2
    go_roundg (ps.length - (j+1))
    case measure=>have:=HB.out.1;omega
    case rel =>
     refine ⟨j+1,rfl,by go_num,by omega,HB1.out,fun q hq hl => ?_⟩
     rcases Nat.lt_or_ge q j with h' | h'
     ·
      exact HB.out.2.2 q hq h'
     ·
      obtain rfl:q=j:=by omega
      exact HE.out
  ·
   have hlt' : ¬ (j:Int)<(ps.length:Int):=by omega
   go_wp2
   go_ret
   exact ⟨_,rfl,HB.out.2.1,.inr ⟨rfl,fun q hq=>HB.out.2.2 q hq (by omega)⟩⟩
def Gw (r:Option ByteArray) (w:World) (e:Ending) (w':World):Prop:=e=.returned (.tuple #[.string (r.getD ⟨#[]⟩),.bool r.isSome])∧Below w.heap.size w w'
theorem p9 (v:Value) (ps:List aJ) (k:ByteArray) (w:World) (h:aU w v ps.length 2 (aE ps)) (hn:ps.length≤1000):Calls prog 95 #[v,.string k] w (Gw (iI ps k) w):=by
 have HI:=zH (u9 v ps k w.heap.size (w.alloc (.cells #[.string k] 9)) (h.aj (ae zR _)) (cell_of (af w _) 0) hn)
 have H:=zH h
 have HX:=zH (fun i (hi:i<ps.length)=>dt ps i hi)
 have HF:=zH (fun i (h:Fp k ps i)=>wY h)
 have HN:=zH (fun (h : ∀ j (hj:j<ps.length),ps[j].key≠k)=>FN h)
 obtain ⟨a,c,rfl⟩:=h.slice
 clear h
 generalize iI ps k=fl at *
 go_enter func95,ntmps95
 go_wp2_with fail
 refine HI.out.mono ?_
 rintro e w1 ⟨x,rfl,hb,hx⟩
 have HB:=zH (gtr (ae (Below.refl _ w) (.cells #[.string k] 9)) hb)
 clear hb HI
 rcases hx with ⟨i,rfl,hi⟩ | ⟨rfl,hno⟩
 ·
  obtain rfl:=HF.out i hi
  obtain ⟨hil,_,_⟩:=hi
  obtain ⟨b,o,rfl,hc,hx⟩:=H.out.some (by omega)
  obtain ⟨_,p1⟩:=HX.out i hil
  have e:=hx _ _ p1
  have c1:w1.cell? ⟨b,o+i * 2+1,none⟩=some (.string ps[i].value):=by
   rw [show o+i * 2+1=o+(2 * i+1) by omega]
   exact (HB.out.cell (p:=⟨b,o+(2 * i+1),none⟩) (zL w _ e)).trans e
  have hlt':(i:Int)<(ps.length:Int):=by omega
  clear hx e p1 HX H
  go_wp2
  go_ret2
  exact ⟨rfl,HB.out⟩
 ·
  obtain rfl:=HN.out hno
  clear hno
  go_wp2
  go_ret2
  exact ⟨rfl,HB.out⟩
def vO (k v:ByteArray):Bool→List aJ→List aJ
 | b,[]=>if b=true then [] else [⟨k,v⟩]
 | b,p::r=>(if b=false∧cF p.key k=false then [⟨k,v⟩] else [])++((if p.key=k then [] else [p])++vO k v (b || !cF p.key k) r)
theorem CK {a b:ByteArray} (h:cF a b=false) (e:a≠b):cF b a=true:=by
 cases h2:cF b a with
 | true=>rfl
 | false=>exact absurd (ti h h2) e
theorem Bw (k v:ByteArray) : ∀ ps:List aJ,(∀ p ∈ ps,cF k p.key=true)→vO k v true ps=ps
 | [],_=>rfl
 | p::ps,h=>by
  unfold vO
  rw [if_neg (by simp),if_neg (nz (h p (List.mem_cons_self ..))).symm,Bool.true_or,Bw k v ps fun q hq=>h q (List.mem_cons_of_mem _ hq)]
  rfl
theorem Gs (k v:ByteArray) : ∀ ps:List aJ,fo ps→vO k v false ps=eB k v ps
 | [],_=>rfl
 | p::ps,h=>by
  obtain ⟨hp,hs⟩:=List.pairwise_cons.1 h
  unfold vO eB
  cases hl:cF p.key k with
  | true =>
   rw [if_neg (by simp),if_neg (nz hl),if_pos rfl]
   show []++([p]++vO k v (false || !true) ps)=_
   rw [show (false || !true)=false from rfl,Gs k v ps hs]
   rfl
  | false =>
   rw [if_pos ⟨rfl,rfl⟩,if_neg (show ¬ (false=true) by decide),show (false || !false)=true from rfl]
   by_cases e:p.key=k
   ·
    rw [if_pos e,if_pos e,Bw k v ps fun q hq=>by have:=hp q hq;rwa [e] at this]
    rfl
   ·
    rw [if_neg e,if_neg e,Bw k v ps fun q hq=>lM (CK hl e) (hp q hq)]
    rfl
def lI (w:World) (g:Nat) (a b:Value):World:=(w.setCell ⟨g,0,none⟩ a).setCell ⟨g,1,none⟩ b
theorem dC {N:Nat} {w0 w:World} {g:Nat} (h:Below N w0 w) (hg:N≤g) (a b:Value):Below N w0 (lI w g a b):=(h.setCell (p:=⟨g,0,none⟩) hg a).setCell (p:=⟨g,1,none⟩) hg b
theorem kc {w:World} {B:Nat} {t:TypeId} {v:Value} {n sz:Nat} {cs:List Value} {g:Nat} (h:w.ownsRow B t sz v n cs) (hn:some g≠v.ownBlock) (a b:Value):(lI w g a b).ownsRow B t sz v n cs:=eW (eW h hn a) hn b
theorem jU {w:World} {g:Nat} {a0 b0:Value} {t:TypeId} (h:w.heap[g]? = some (.cells #[a0,b0] t (0,0))) (a b:Value):(lI w g a b).heap[g]? = some (.cells #[a,b] t (0,0)):=by
 have:=az (i:=1) (v:=b) (az (i:=0) (v:=a) h)
 exact this
theorem iu {w:World} {g k:Nat} {o:Obj} (h:w.heap[k]? = some o) (hn:k≠g) (a b:Value):(lI w g a b).heap[k]? = some o:=by
 unfold lI
 rw [heap_setCell_other _ _ _ _ hn,heap_setCell_other _ _ _ _ hn]
 exact h
theorem jM {w:World} {g:Nat} {a b:Value} {t:TypeId} (h:w.heap[g]? = some (.cells #[a,b] t (0,0))):w.cell? ⟨g,0,none⟩=some a∧w.cell? ⟨g,1,none⟩=some b ∧ ∀ i,w.frozen? ⟨g,i,none⟩=false:=⟨cell_of h 0,cell_of h 1,fun i=>aF h i⟩
def Mo (o:Option ByteArray) (w:World) (e:Ending) (w':World):Prop:=e=.returned (.tuple #[.string (o.getD ⟨#[]⟩),.bool o.isSome])∧Below w.heap.size w w'
theorem xq (bl:Bool) (v:Value) (ps:List aJ) (k:ByteArray) (w:World) (h:aU w v ps.length 2 (aE ps)) (hn:ps.length≤1000):Calls prog 38 #[.agg #[.bool bl,v],.string k] w (Mo (iI ps k) w):=by
 have H:=zH h
 have HX:=zH (fun i (hi:i<ps.length)=>dt ps i hi)
 obtain ⟨a,c,rfl⟩:=h.slice
 have HG:=zH (zA (ae (Below.refl w.heap.size w) (.cells #[.bool bl,.slice a ps.length c] 61)) (af w (.cells #[.bool bl,.slice a ps.length c] 61)))
 clear h
 go_enter func38,ntmps38
 go_wp2
 go_loopg [6] ps.length (fun n i wr => ∃ j:Nat,n=ps.length - j∧i=.int .i64 j∧j≤ps.length∧wr=w.alloc (.cells #[.bool bl,.slice a ps.length c] 61) ∧ ∀ m (hm:m<ps.length),m<j→ps[m].key≠k)
 case atStart=>exact ⟨0,rfl,rfl,Nat.zero_le _,rfl,fun m _ hm=>absurd hm (Nat.not_lt_zero _)⟩
 case round =>
  obtain ⟨j,hgn,rfl,hj,rfl,hno⟩:=hrel
  have HB:=zH (zA hgn hno)
  clear hgn hno
  have c1:(w.alloc (.cells #[.bool bl,.slice a ps.length c] 61)).cell? ⟨w.heap.size,1,none⟩=some (.slice a ps.length c):=cell_of HG.out.2 1
  by_cases hlt:j<ps.length
  ·
   have hlt':(j:Int)<(ps.length:Int):=by omega
   obtain ⟨b,o,rfl,hc,hx⟩:=H.out.some (by omega)
   obtain ⟨p0,p1⟩:=HX.out j hlt
   have cc : ∀ i u,(aE ps)[2 * j+i]? = some u→(w.alloc (.cells #[.bool bl,.slice (some ⟨b,o,none⟩) ps.length c] 61)).cell? ⟨b,o+j * 2+i,none⟩=some u:=fun i u hu=>by
    have e:=hx _ _ hu
    rw [show o+j * 2+i=o+(2 * j+i) by omega]
    exact (HG.out.1.cell (p:=⟨b,o+(2 * j+i),none⟩) (zL w _ e)).trans e
   have d0:(w.alloc (.cells #[.bool bl,.slice (some ⟨b,o,none⟩) ps.length c] 61)).cell? ⟨b,o+j * 2,none⟩=some (.string ps[j].key):=cc 0 _ p0
   have d1:(w.alloc (.cells #[.bool bl,.slice (some ⟨b,o,none⟩) ps.length c] 61)).cell? ⟨b,o+j * 2+1,none⟩=some (.string ps[j].value):=cc 1 _ p1
   clear p0 p1 cc hx
   by_cases hk:ps[j].key=k
   ·
    have ek:(ps[j].key.toList == k.toList)=true:=by rw [jq,decide_eq_true hk]
    have HF:=zH (show iI ps k=some ps[j].value from wY (k:=k) (ps:=ps) (i:=j) ⟨hlt,hk,fun m hm hmj=>HB.out.2 m hm hmj⟩)
    clear hk
    go_wp2
    go_ret2
    rw [HF.out]
    exact ⟨rfl,HG.out.1⟩
   ·
    have ek:(ps[j].key.toList == k.toList)=false:=by rw [jq,decide_eq_false hk]
    have HK:=zH hk
    clear hk
    go_wp2
    go_roundg (ps.length - (j+1))
    case measure=>have:=HB.out.1;omega
    case rel=>exact ⟨j+1,rfl,by go_num,by omega,rfl,fun m hm hmj=>by
     by_cases e:m=j
     ·
      subst e;exact HK.out
     ·
      exact HB.out.2 m hm (by omega)⟩
  ·
   obtain rfl:j=ps.length:=by omega
   have HF:=zH (FN (k:=k) (ps:=ps) fun m hm=>HB.out.2 m hm hm)
   go_wp2
   go_ret2
   rw [HF.out]
   exact ⟨rfl,HG.out.1⟩
def BQ (ps:List aJ) (w:World) (e:Ending) (w':World):Prop := ∃ v,e=.returned (.agg #[.bool false,v])∧w'.ownsRow w.heap.size 83 2 v ps.length (aE ps)∧Below w.heap.size w w'
theorem jR (ps:List aJ) (p:aJ):aE (ps++[p])=aE ps++[.string p.key,.string p.value]:=by rw [iz];rfl
theorem Jp (k:ByteArray) (ps:List aJ) (j:Nat) (h:j<ps.length):fi k (ps.take (j+1))=if ps[j].key=k then fi k (ps.take j) else fi k (ps.take j)++[ps[j]]:=by
 rw [List.take_succ_eq_append_getElem h]
 unfold fi
 rw [List.filter_append]
 by_cases e:ps[j].key=k
 ·
  rw [if_pos e];simp [e]
 ·
  rw [if_neg e];simp [e]
theorem CQ (bl:Bool) (v:Value) (ps:List aJ) (k:ByteArray) (w:World) (h:aU w v ps.length 2 (aE ps)) (hn:ps.length≤1000):Calls prog 70 #[.agg #[.bool bl,v],.string k] w (BQ (fi k ps) w):=by
 have H:=zH h
 have HX:=zH (fun i (hi:i<ps.length)=>dt ps i hi)
 have HT:=zH (fun j (hj:j<ps.length)=>Jp k ps j hj)
 have HLE:=zH (fun j=>show (fi k (ps.take j)).length≤ps.length from Nat.le_trans (List.length_filter_le _ _) (List.length_take_le' ..))
 obtain ⟨i0,hi,hz0,hz1,hz2⟩:=info_parts jG
 obtain ⟨a,c,rfl⟩:=h.slice
 have hb1:=ae (Below.refl w.heap.size w) (.cells #[.bool bl,.slice a ps.length c] 61)
 have HG:=zH (zA (ae hb1 (.cells #[.bool false,.slice none 0 0] 61)) (zA (aa (ae zR (.cells #[.bool false,.slice none 0 0] 61)) (af w (.cells #[.bool bl,.slice a ps.length c] 61))) (show ((w.alloc (.cells #[.bool bl,.slice a ps.length c] 61)).alloc (.cells #[.bool false,.slice none 0 0] 61)).heap[w.heap.size+1]? = some (.cells #[.bool false,.slice none 0 0] 61 (0,0)) from by simpa using af (w.alloc (.cells #[.bool bl,.slice a ps.length c] 61)) (.cells #[.bool false,.slice none 0 0] 61))))
 have hg1:w.heap.size≤w.heap.size+1:=by omega
 clear h hb1
 go_enter func70,ntmps70
 go_wp2
 go_loopg [5,6] ps.length (fun n x i wr => ∃ j:Nat,n=ps.length - j∧i=.int .i64 j∧j≤ps.length∧Below w.heap.size w wr∧wr.heap[w.heap.size]? = some (.cells #[.bool bl,.slice a ps.length c] 61 (0,0))∧wr.heap[w.heap.size+1]? = some (.cells #[.bool false,.slice none 0 0] 61 (0,0))∧wr.ownsRow w.heap.size 83 2 x (fi k (ps.take j)).length (aE (fi k (ps.take j))))
 case atStart=>exact ⟨0,rfl,rfl,Nat.zero_le _,HG.out.1,HG.out.2.1,HG.out.2.2,zN⟩
 case round =>
  obtain ⟨j,hgn,rfl,hj,hb,hk0,hk1,ho⟩:=hrel
  obtain ⟨xa,xc,rfl⟩:=bG ho
  have HB:=zH (zA hgn (zA hb (zA hk0 (zA hk1 ho))))
  have c1:wr.cell? ⟨w.heap.size,1,none⟩=some (.slice a ps.length c):=cell_of hk0 1
  have hlt1:w.heap.size+1<wr.heap.size:=aO hk1
  clear hgn hb hk0 ho
  by_cases hlt:j<ps.length
  ·
   have hlt':(j:Int)<(ps.length:Int):=by omega
   obtain ⟨b,o,rfl,hc,hx⟩:=H.out.some (by omega)
   obtain ⟨p0,p1⟩:=HX.out j hlt
   have cc : ∀ i u,(aE ps)[2 * j+i]? = some u→wr.cell? ⟨b,o+j * 2+i,none⟩=some u:=fun i u hu=>by
    have e:=hx _ _ hu
    rw [show o+j * 2+i=o+(2 * j+i) by omega]
    exact (HB.out.2.1.cell (p:=⟨b,o+(2 * j+i),none⟩) (zL w _ e)).trans e
   have d0:wr.cell? ⟨b,o+j * 2,none⟩=some (.string ps[j].key):=cc 0 _ p0
   have d1:wr.cell? ⟨b,o+j * 2+1,none⟩=some (.string ps[j].value):=cc 1 _ p1
   have hT:=HT.out j hlt
   clear p0 p1 cc hx hk1
   by_cases hk:ps[j].key=k
   ·
    have ek:(ps[j].key.toList == k.toList)=true:=by rw [jq,decide_eq_true hk]
    rw [if_pos hk] at hT
    have HTT:=zH hT
    clear hk hT
    go_wp2
    go_roundg (ps.length - (j+1))
    case measure=>have:=HB.out.1;omega
    case rel=>exact ⟨j+1,rfl,by go_num,by omega,HB.out.2.1,HB.out.2.2.1,HB.out.2.2.2.1,by rw [HTT.out];exact HB.out.2.2.2.2⟩
   ·
    have ek:(ps[j].key.toList == k.toList)=false:=by rw [jq,decide_eq_false hk]
    rw [if_neg hk] at hT
    have HTT:=zH hT
    have hle:=HLE.out j
    clear hk hT
    go_wp2_with (at_builtin;refine wpList_append_lies _ rfl _ _ 32 rfl w.heap.size 83 i0 (.agg #[.string ⟨#[]⟩,.string ⟨#[]⟩]) 2 32 underlying32 hi hz0 hz1 hz2 rfl (by decide) (.slice xa (fi k (ps.take j)).length xc) (fi k (ps.take j)).length (aE (fi k (ps.take j))) ?a1 (World.ownsRow.aj HB.out.2.2.2.2 (ae zR _)) ⟨wr.heap.size,0,none⟩ 1 1 [.string ps[j].key,.string ps[j].value] ?a2 rfl ?a3 ?a4 (by decide) ?a5 ?a6 ?a7 _ rfl ?_)
    case a1=>rfl
    case a2=>rfl
    case a3=>exact World.news_of_block (cs := #[.string ps[j].key,.string ps[j].value]) (t:=83) (fr:=(0,0)) (af wr _)
    case a4=>intro u hu;simp only [List.mem_cons,List.not_mem_nil,or_false] at hu;rcases hu with rfl | rfl <;> rfl
    case a5=>simp only [maxLen];omega
    case a6=>omega
    case a7=>have:=HB.out.2.1.size;simp only [World.size_alloc];omega
    intro g4 cap4 w2 how hgr _ _
    have hgr2:=fw (ae (Below.refl wr.heap.size wr) (.cells #[.string ps[j].key,.string ps[j].value] 83)) hgr
    have hown2:w2.ownsRow w.heap.size 83 2 (.slice (some ⟨g4,0,none⟩) ((fi k (ps.take j)).length+1) cap4) (fi k (ps.take (j+1))).length (aE (fi k (ps.take (j+1)))):=by
     rw [HTT.out,List.length_append,jR];exact how
    have k0':w2.heap[w.heap.size]? = some (.cells #[.bool bl,.slice (some ⟨b,o,none⟩) ps.length c] 61 (0,0)):=(hgr2.block _ (aO HB.out.2.2.1) (cN HB.out.2.2.2.2 HB.out.2.2.1 (by decide))).trans HB.out.2.2.1
    have k1':w2.heap[w.heap.size+1]? = some (.cells #[.bool false,.slice none 0 0] 61 (0,0)):=(hgr2.block _ hlt1 (cN HB.out.2.2.2.2 HB.out.2.2.2.1 (by decide))).trans HB.out.2.2.2.1
    have HN:=zH (zA (jJ HB.out.2.1 (bZ HB.out.2.2.2.2) hgr2) (zA k0' (zA k1' hown2)))
    clear how hgr hgr2 hown2 k0' k1' c1 d0 d1 hle
    go_wp2
    go_roundg (ps.length - (j+1))
    case measure=>have:=HB.out.1;omega
    case rel=>exact ⟨j+1,rfl,by go_num,by omega,HN.out.1,HN.out.2.1,HN.out.2.2.1,HN.out.2.2.2⟩
  ·
   obtain rfl:j=ps.length:=by omega
   rw [List.take_length] at HB
   obtain ⟨z0,z1,zf⟩:=jM hk1
   have e:=jM (jU hk1 (.bool false) (.slice xa (fi k ps).length xc))
   unfold lI at e
   obtain ⟨d0,d1,df⟩:=e
   clear hk1
   go_wp2
   refine bodyPost_ret (v:=.agg #[.bool false,.slice xa (fi k ps).length xc]) (by simp [results,results70,go_sem,d0,d1]) rfl ?_
   exact ⟨_,rfl,kc HB.out.2.2.2.2 (cN HB.out.2.2.2.2 HB.out.2.2.2.1 (by decide)) _ _,dC HB.out.2.1 hg1 _ _⟩
structure sW (w wr:World) (bl:Bool) (a:Option Addr) (n c:Nat) (x:Value) (o:List aJ):Prop where
 below:Below w.heap.size w wr
 k0:wr.heap[w.heap.size]? = some (.cells #[.bool bl,.slice a n c] 61 (0,0))
 k1:wr.heap[w.heap.size+1]? = some (.cells #[.bool false,.slice none 0 0] 61 (0,0))
 own:wr.ownsRow w.heap.size 83 2 x o.length (aE o)
theorem sL (k v:ByteArray) : ∀ (ps:List aJ) (b:Bool),(vO k v b ps).length≤ps.length+(if b=true then 0 else 1)
 | [],b=>by cases b <;> simp [vO]
 | p::ps,b=>by
  have h1:(if p.key=k then ([]:List aJ) else [p]).length≤1:=by split <;> simp
  unfold vO
  rw [List.length_append,List.length_append]
  generalize (if p.key=k then ([]:List aJ) else [p])=q at *
  cases b with
  | true =>
   have ih:(vO k v true ps).length≤ps.length+0:=sL k v ps true
   rw [if_neg (by simp),Bool.true_or]
   show 0+(q.length+(vO k v true ps).length)≤ps.length+1+0
   omega
  | false =>
   cases hl:cF p.key k with
   | true =>
    have ih:(vO k v false ps).length≤ps.length+1:=sL k v ps false
    rw [if_neg (by simp)]
    show 0+(q.length+(vO k v false ps).length)≤ps.length+1+1
    omega
   | false =>
    have ih:(vO k v true ps).length≤ps.length+0:=sL k v ps true
    rw [if_pos ⟨rfl,rfl⟩]
    show 1+(q.length+(vO k v true ps).length)≤ps.length+1+1
    omega
theorem Gr (k v:ByteArray) (ps:List aJ) (b:Bool):(vO k v b ps).length≤ps.length+1:=by
 have:=sL k v ps b
 split at this <;> omega
theorem KD (k v:ByteArray) (b:Bool) (ps:List aJ) (j:Nat) (h:j<ps.length):vO k v b (ps.drop j)=(if b=false∧cF ps[j].key k=false then [⟨k,v⟩] else [])++((if ps[j].key=k then [] else [ps[j]])++vO k v (b || !cF ps[j].key k) (ps.drop (j+1))):=by
 rw [List.drop_eq_getElem_cons h]
 rfl
theorem CU (bl:Bool) (u:Value) (ps:List aJ) (k v:ByteArray) (w:World) (h:aU w u ps.length 2 (aE ps)) (hn:ps.length≤1000):Calls prog 71 #[.agg #[.bool bl,u],.string k,.string v] w (BQ (vO k v false ps) w):=by
 have H:=zH h
 have HX:=zH (fun i (hi:i<ps.length)=>dt ps i hi)
 have HT:=zH (fun b j (hj:j<ps.length)=>KD k v b ps j hj)
 have HLE:=zH (fun b j=>Gr k v (ps.drop j) b)
 have HLF:=zH (Gr k v ps false)
 obtain ⟨i0,hi,hz0,hz1,hz2⟩:=info_parts jG
 obtain ⟨a,c,rfl⟩:=h.slice
 have hb1:=ae (Below.refl w.heap.size w) (.cells #[.bool bl,.slice a ps.length c] 61)
 have HG:=zH (show sW w ((w.alloc (.cells #[.bool bl,.slice a ps.length c] 61)).alloc (.cells #[.bool false,.slice none 0 0] 61)) bl a ps.length c (.slice none 0 0) [] from ⟨ae hb1 (.cells #[.bool false,.slice none 0 0] 61),aa (ae zR (.cells #[.bool false,.slice none 0 0] 61)) (af w (.cells #[.bool bl,.slice a ps.length c] 61)),by simpa using af (w.alloc (.cells #[.bool bl,.slice a ps.length c] 61)) (.cells #[.bool false,.slice none 0 0] 61),zN⟩)
 have hg1:w.heap.size≤w.heap.size+1:=by omega
 clear h hb1
 go_enter func71,ntmps71
 go_wp2
 go_loopg [7,8,9] ps.length (fun n x y i wr => ∃ (j:Nat) (b:Bool) (o:List aJ),n=ps.length - j∧y=.bool b∧i=.int .i64 j∧j≤ps.length∧sW w wr bl a ps.length c x o∧o++vO k v b (ps.drop j)=vO k v false ps)
 case atStart=>exact ⟨0,false,[],rfl,rfl,rfl,Nat.zero_le _,HG.out,rfl⟩
 case round =>
  obtain ⟨j,bo,o,hgn,rfl,rfl,hj,hw,heq⟩:=hrel
  obtain ⟨xa,xc,rfl⟩:=bG hw.own
  have HB:=zH (zA hgn (zA hw heq))
  have c1:wr.cell? ⟨w.heap.size,1,none⟩=some (.slice a ps.length c):=cell_of hw.k0 1
  have hlt1:w.heap.size+1<wr.heap.size:=aO hw.k1
  have hol:o.length+(vO k v bo (ps.drop j)).length≤ps.length+1:=by rw [← List.length_append,heq];exact HLF.out
  clear hgn hw heq
  by_cases hlt:j<ps.length
  ·
   have hlt':(j:Int)<(ps.length:Int):=by omega
   obtain ⟨b,off,rfl,hc,hx⟩:=H.out.some (by omega)
   obtain ⟨p0,p1⟩:=HX.out j hlt
   have cc : ∀ w',Below wr.heap.size wr w' → ∀ i q,(aE ps)[2 * j+i]? = some q→w'.cell? ⟨b,off+j * 2+i,none⟩=some q:=fun w' hb' i q hu=>by
    have e:=hx _ _ hu
    rw [show off+j * 2+i=off+(2 * j+i) by omega]
    exact ((gtr HB.out.2.1.below hb').cell (p:=⟨b,off+(2 * j+i),none⟩) (zL w _ e)).trans e
   have hcw : ∀ w',Below w.heap.size w w'→w'.cell? ⟨b,off+j * 2,none⟩=some (.string ps[j].key)∧w'.cell? ⟨b,off+j * 2+1,none⟩=some (.string ps[j].value):=fun w' hb'=>by
    have e0:=hx _ _ p0
    have e1:=hx _ _ p1
    rw [show off+j * 2=off+(2 * j) by omega,show off+2 * j+1=off+(2 * j+1) by omega]
    exact ⟨(hb'.cell (p:=⟨b,off+2 * j,none⟩) (zL w _ e0)).trans e0,(hb'.cell (p:=⟨b,off+(2 * j+1),none⟩) (zL w _ e1)).trans e1⟩
   have HCW:=zH hcw
   have d0:wr.cell? ⟨b,off+j * 2,none⟩=some (.string ps[j].key):=cc wr zR 0 _ p0
   have hT:=HT.out bo j hlt
   have HOL:=zH hol
   clear p0 p1 cc hx hcw hol
   go_upto_region 6 with fail
   go_cut [28] from 10 to 50 (fun v wx=>v=.bool (!bo && !cF ps[j].key k)∧wr=wx)
   case first =>
    cases bo with
    | true =>
     go_wp2
     go_meet
     exact ⟨rfl,rfl⟩
    | false =>
     obtain ⟨q,hq⟩ : ∃ q,Op.bytesLess ps[j].key.toList k.toList=q:=⟨_,rfl⟩
     have hq2:cF ps[j].key k=q:=hq
     have HQ:=zH hq2
     clear hq2
     go_wp2
     go_meet
     exact ⟨by rw [HQ.out];rfl,rfl⟩
   case rest =>
   obtain ⟨rfl,rfl⟩:=hcut
   go_upto_if 28 with fail
   go_cut [7,8] from 10 to 50 (fun x' y' wx => ∃ o',sW w wx bl (some ⟨b,off,none⟩) ps.length c x' o'∧y'=.bool (bo || !cF ps[j].key k)∧o'=o++(if bo=false∧cF ps[j].key k=false then [⟨k,v⟩] else []))
   case first =>
    cases hc:(!bo && !cF ps[j].key k) with
    | false =>
     go_wp2
     go_meet
     refine ⟨o,HB.out.2.1,?_,?_⟩
     ·
      cases bo with
      | true=>rfl
      | false=>cases hl:cF ps[j].key k with
       | true=>rfl
       | false=>rw [hl] at hc;cases hc
     ·
      rw [if_neg (by rintro ⟨rfl,hl⟩;rw [hl] at hc;cases hc)];simp
    | true =>
      obtain ⟨rfl,hl⟩:bo=false∧cF ps[j].key k=false:=by simpa using hc
      clear hc
      have hob:o.length≤ps.length+1:=by have:=HOL.out;omega
      go_wp2_with (at_builtin;refine wpList_append_lies _ rfl _ _ 32 rfl w.heap.size 83 i0 (.agg #[.string ⟨#[]⟩,.string ⟨#[]⟩]) 2 32 underlying32 hi hz0 hz1 hz2 rfl (by decide) (.slice xa o.length xc) o.length (aE o) ?b1 (World.ownsRow.aj HB.out.2.1.own (ae zR _)) ⟨wr.heap.size,0,none⟩ 1 1 [.string k,.string v] ?b2 rfl ?b3 ?b4 (by decide) ?b5 ?b6 ?b7 _ rfl ?_)
      case b4=>first | (intro u hu;simp only [List.mem_cons,List.not_mem_nil,or_false] at hu;rcases hu with rfl | rfl <;> rfl) | exact ⟨rfl,rfl⟩
      case b5=>first | (simp only [maxLen];omega) | omega
      case b6=>omega
      case b7=>(have:=HB.out.2.1.below.size;first | omega | (simp only [World.size_alloc];omega))
      intro g4 cap4 w2 how hgr _ _
      have hgr2:=fw (ae (Below.refl wr.heap.size wr) (.cells #[.string k,.string v] 83)) hgr
      have hown2:w2.ownsRow w.heap.size 83 2 (.slice (some ⟨g4,0,none⟩) (o.length+1) cap4) (o++[(⟨k,v⟩:aJ)]).length (aE (o++[⟨k,v⟩])):=by
       rw [List.length_append,jR];exact how
      have k0':w2.heap[w.heap.size]? = some (.cells #[.bool bl,.slice (some ⟨b,off,none⟩) ps.length c] 61 (0,0)):=(hgr2.block _ (aO HB.out.2.1.k0) (cN HB.out.2.1.own HB.out.2.1.k0 (by decide))).trans HB.out.2.1.k0
      have k1':w2.heap[w.heap.size+1]? = some (.cells #[.bool false,.slice none 0 0] 61 (0,0)):=(hgr2.block _ (aO HB.out.2.1.k1) (cN HB.out.2.1.own HB.out.2.1.k1 (by decide))).trans HB.out.2.1.k1
      have HN:=zH (show sW w w2 bl (some ⟨b,off,none⟩) ps.length c (.slice (some ⟨g4,0,none⟩) (o.length+1) cap4) (o++[⟨k,v⟩]) from ⟨jJ HB.out.2.1.below (bZ HB.out.2.1.own) hgr2,k0',k1',hown2⟩)
      clear how hgr hgr2 hown2 k0' k1'
      go_wp2
      go_meet
      refine ⟨_,HN.out,?_,?_⟩
      ·
       first | trivial | (rw [hl];rfl)
      ·
       rw [if_pos (show _∧_ from ⟨by first | trivial | rfl,hl⟩)]
   case rest =>
    obtain ⟨o',hw',rfl,ho'⟩:=hcut
    obtain ⟨xa',xc',rfl⟩:=bG hw'.own
    have HB2:=zH (zA hw' ho')
    obtain ⟨d0',d1'⟩:=HCW.out wc hw'.below
    have c1':wc.cell? ⟨w.heap.size,1,none⟩=some (.slice (some ⟨b,off,none⟩) ps.length c):=cell_of hw'.k0 1
    have hlt2:w.heap.size+1<wc.heap.size:=aO hw'.k1
    clear hw' ho' d0 c1 hlt1
    by_cases hk:ps[j].key=k
    ·
     have ek:(ps[j].key.toList == k.toList)=true:=by rw [jq,decide_eq_true hk]
     rw [if_pos hk] at hT
     have HTT:=zH hT
     clear hk hT
     go_wp2
     go_roundg (ps.length - (j+1))
     case measure=>have:=HB.out.1;omega
     case rel=>exact ⟨j+1,_,o',rfl,rfl,by go_num,by omega,HB2.out.1,by rw [← HB.out.2.2,HTT.out,HB2.out.2];simp⟩
    ·
     have ek:(ps[j].key.toList == k.toList)=false:=by rw [jq,decide_eq_false hk]
     rw [if_neg hk] at hT
     have HTT:=zH hT
     have hob:o'.length≤ps.length+1:=by have:=HOL.out;rw [HTT.out] at this;rw [HB2.out.2];simp only [List.length_append] at this ⊢;omega
     clear hk hT
     go_wp2_with (at_builtin;refine wpList_append_lies _ rfl _ _ 32 rfl w.heap.size 83 i0 (.agg #[.string ⟨#[]⟩,.string ⟨#[]⟩]) 2 32 underlying32 hi hz0 hz1 hz2 rfl (by decide) (.slice xa' o'.length xc') o'.length (aE o') ?d1 (World.ownsRow.aj HB2.out.1.own (ae zR _)) ⟨wc.heap.size,0,none⟩ 1 1 [.string ps[j].key,.string ps[j].value] ?d2 rfl ?d3 ?d4 (by decide) ?d5 ?d6 ?d7 _ rfl ?_)
     case d1=>rfl
     case d2=>rfl
     case d3=>exact World.news_of_block (cs := #[.string ps[j].key,.string ps[j].value]) (t:=83) (fr:=(0,0)) (af wc _)
     case d4=>first | (intro u hu;simp only [List.mem_cons,List.not_mem_nil,or_false] at hu;rcases hu with rfl | rfl <;> rfl) | exact ⟨rfl,rfl⟩
     case d5=>first | (simp only [maxLen];omega) | omega
     case d6=>omega
     case d7=>(have:=HB2.out.1.below.size;first | omega | (simp only [World.size_alloc];omega))
     intro g4 cap4 w2 how hgr _ _
     have hgr2:=fw (ae (Below.refl wc.heap.size wc) (.cells #[.string ps[j].key,.string ps[j].value] 83)) hgr
     have hown2:w2.ownsRow w.heap.size 83 2 (.slice (some ⟨g4,0,none⟩) (o'.length+1) cap4) (o'++[(⟨ps[j].key,ps[j].value⟩:aJ)]).length (aE (o'++[⟨ps[j].key,ps[j].value⟩])):=by
      rw [List.length_append,jR];exact how
     have k0':w2.heap[w.heap.size]? = some (.cells #[.bool bl,.slice (some ⟨b,off,none⟩) ps.length c] 61 (0,0)):=(hgr2.block _ (aO HB2.out.1.k0) (cN HB2.out.1.own HB2.out.1.k0 (by decide))).trans HB2.out.1.k0
     have k1':w2.heap[w.heap.size+1]? = some (.cells #[.bool false,.slice none 0 0] 61 (0,0)):=(hgr2.block _ (aO HB2.out.1.k1) (cN HB2.out.1.own HB2.out.1.k1 (by decide))).trans HB2.out.1.k1
     have HN:=zH (show sW w w2 bl (some ⟨b,off,none⟩) ps.length c (.slice (some ⟨g4,0,none⟩) (o'.length+1) cap4) (o'++[⟨ps[j].key,ps[j].value⟩]) from ⟨jJ HB2.out.1.below (bZ HB2.out.1.own) hgr2,k0',k1',hown2⟩)
     clear how hgr hgr2 hown2 k0' k1'
     clear d0' d1' c1' hlt2 hob
     go_wp2
     go_roundg (ps.length - (j+1))
     case measure=>have:=HB.out.1;omega
     case rel=>exact ⟨j+1,_,_,rfl,rfl,by go_num,by omega,HN.out,by rw [← HB.out.2.2,HTT.out,HB2.out.2];simp⟩
  ·
   obtain rfl:j=ps.length:=by omega
   rw [List.drop_length] at HB
   cases bo with
   | true =>
    obtain ⟨z0,z1,zf⟩:=jM HB.out.2.1.k1
    have e:=jM (jU HB.out.2.1.k1 (.bool false) (.slice xa o.length xc))
    unfold lI at e
    obtain ⟨d0,d1,df⟩:=e
    go_wp2
    refine bodyPost_ret (v:=.agg #[.bool false,.slice xa o.length xc]) (by simp [results,results71,go_sem,d0,d1]) rfl ?_
    have e:=HB.out.2.2
    rw [show vO k v true []=[] from rfl,List.append_nil] at e
    rw [← e]
    exact ⟨_,rfl,kc HB.out.2.1.own (cN HB.out.2.1.own HB.out.2.1.k1 (by decide)) _ _,dC HB.out.2.1.below hg1 _ _⟩
   | false =>
    have hob:o.length≤ps.length+1:=by omega
    go_wp2_with (at_builtin;refine wpList_append_lies _ rfl _ _ 32 rfl w.heap.size 83 i0 (.agg #[.string ⟨#[]⟩,.string ⟨#[]⟩]) 2 32 underlying32 hi hz0 hz1 hz2 rfl (by decide) (.slice xa o.length xc) o.length (aE o) ?e1 (World.ownsRow.aj HB.out.2.1.own (ae zR _)) ⟨wr.heap.size,0,none⟩ 1 1 [.string k,.string v] ?e2 rfl ?e3 ?e4 (by decide) ?e5 ?e6 ?e7 _ rfl ?_)
    case e1=>rfl
    case e2=>rfl
    case e3=>exact World.news_of_block (cs := #[.string k,.string v]) (t:=83) (fr:=(0,0)) (af wr _)
    case e4=>first | (intro u hu;simp only [List.mem_cons,List.not_mem_nil,or_false] at hu;rcases hu with rfl | rfl <;> rfl) | exact ⟨rfl,rfl⟩
    case e5=>first | (simp only [maxLen];omega) | omega
    case e6=>omega
    case e7=>(have:=HB.out.2.1.below.size;first | omega | (simp only [World.size_alloc];omega))
    intro g4 cap4 w2 how hgr _ _
    have hgr2:=fw (ae (Below.refl wr.heap.size wr) (.cells #[.string k,.string v] 83)) hgr
    have hown2:w2.ownsRow w.heap.size 83 2 (.slice (some ⟨g4,0,none⟩) (o.length+1) cap4) (o++[(⟨k,v⟩:aJ)]).length (aE (o++[⟨k,v⟩])):=by
     rw [List.length_append,jR];exact how
    have k0':w2.heap[w.heap.size]? = some (.cells #[.bool bl,.slice a ps.length c] 61 (0,0)):=(hgr2.block _ (aO HB.out.2.1.k0) (cN HB.out.2.1.own HB.out.2.1.k0 (by decide))).trans HB.out.2.1.k0
    have k1':w2.heap[w.heap.size+1]? = some (.cells #[.bool false,.slice none 0 0] 61 (0,0)):=(hgr2.block _ (aO HB.out.2.1.k1) (cN HB.out.2.1.own HB.out.2.1.k1 (by decide))).trans HB.out.2.1.k1
    have HN:=zH (show sW w w2 bl a ps.length c (.slice (some ⟨g4,0,none⟩) (o.length+1) cap4) (o++[⟨k,v⟩]) from ⟨jJ HB.out.2.1.below (bZ HB.out.2.1.own) hgr2,k0',k1',hown2⟩)
    clear how hgr hgr2 hown2 k0' k1'
    clear c1 hlt1
    have HEQ:=zH (show o++[⟨k,v⟩]=vO k v false ps from HB.out.2.2)
    obtain ⟨z0,z1,zf⟩:=jM HN.out.k1
    have e:=jM (jU HN.out.k1 (.bool false) (.slice (some ⟨g4,0,none⟩) (o.length+1) cap4))
    unfold lI at e
    obtain ⟨d0,d1,df⟩:=e
    go_wp2
    refine bodyPost_ret (v:=.agg #[.bool false,.slice (some ⟨g4,0,none⟩) (o.length+1) cap4]) (by simp [results,results71,go_sem,d0,d1]) rfl ?_
    rw [← HEQ.out]
    refine ⟨_,?_,kc HN.out.own (cN HN.out.own HN.out.k1 (by decide)) _ _,dC HN.out.below hg1 _ _⟩
    rfl
end Go.Proofs.YtcfdenckiigdaaaGreat

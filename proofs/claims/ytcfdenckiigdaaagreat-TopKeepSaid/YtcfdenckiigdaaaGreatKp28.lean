/- Part 28 of the contracts. -/
import Derived.Test.YtcfdenckiigdaaaGreatKp26
import Derived.Test.YtcfdenckiigdaaaGreatKp27
set_option linter.unusedVariables false
set_option maxRecDepth 100000
set_option maxHeartbeats 4000000
namespace Go.Proofs.YtcfdenckiigdaaaGreat
section
open Go.RowKit
def nextS (s:Int):Int:=if s+1 ≥ 8 then 4 else s+1
theorem qfs (s:Int) (w:World) (h0:0≤s) (h1:s≤100):Calls Tryz.prog 89 #[.int .i64 s] w fun e w'=>e=.returned (.int .i64 (nextS s))∧w=w':=by
 have hw:wrap64 (s+1)=s+1:=by unfold wrap64;omega
 by_cases h:s+1 ≥ 8
 ·
  have e:nextS s=4:=by unfold nextS;rw [if_pos h]
  rw [e];clear e
  go_enter Tryz.func89,Tryz.ntmps89
  go_wp2_with fail
  go_ret
  exact ⟨rfl,rfl⟩
 ·
  have e:nextS s=s+1:=by unfold nextS;rw [if_neg h]
  rw [e];clear e
  go_enter Tryz.func89,Tryz.ntmps89
  go_wp2_with fail
  go_ret
  exact ⟨rfl,rfl⟩
structure qv3 (w:World) (b:Nat) (V:qau):Prop where
 ex : ∃ vr,w.heap[b]? = some (.cells #[.bool V.good,.int .i64 V.epoch,vr,.int .i64 V.free] 52 (0,0))∧SliceAt w vr V.recs.length 4 (recVals V.recs)
structure qau.Ok (V:qau):Prop where
 good:V.good=true
 epoch:1≤V.epoch∧V.epoch≤1048576
 free:1≤V.free∧V.free≤8
 len:V.recs.length≤7
 recs : ∀ r ∈ V.recs,qcH r
def qtc (ps qs:List qaq) (w:World) (e:Ending) (w':World):Prop := ∃ x y,e=.returned (.tuple #[x,y,.int .i64 0])∧w'.ownsRow w.heap.size 83 2 x ps.length (pairVals ps)∧w'.ownsRow w.heap.size 83 2 y qs.length (pairVals qs)∧Below w.heap.size w w'
theorem qjL (b:Nat) (V:qau) (r:qaC) (w:World) (h:qv3 w b V) (ok:V.Ok) (hr:qcH r):Calls Tryz.prog 172 #[.pointer (some ⟨b,0,none⟩),.agg r.cells] w (qtc (buildL V.recs) (withL (buildL V.recs) r) w):=by
 obtain ⟨vr,hb,hs⟩:=h
 have HBL:=zH (fun w h=>qfF vr V.recs w h (by have:=ok.len;omega) ok.recs)
 have HW:=zH (fun v w h=>qkJ v (buildL V.recs) r w h (qaJ _ V.recs rfl ok.recs).1 (by have:=(qaJ _ V.recs rfl ok.recs).2;have:=ok.len;omega) hr.1 hr.2)
 have HS:=zH (zA hb hs)
 obtain ⟨c0,c1,c2,c3,hf⟩:=row4 hb
 have hbl:b<w.heap.size:=qat hb
 have hg:=ok.good
 have he:=ok.epoch
 have hfr:=ok.free
 have HE:=zH (fun n w=>qft n w)
 obtain ⟨va,vc,rfl⟩:=hs.slice
 unfold qaC.cells at HW ⊢
 rw [hg] at c0
 clear hb hs hg hr ok
 go_enter Tryz.func172,Tryz.ntmps172
 go_wp2_with (go_at_call 114;refine (HE.out _ _).mono ?_;rintro e w' ⟨rfl,rfl⟩)
 have hnb:=qac (Below.refl _ w) (.cells #[.int .i64 r.kind,.int .i64 r.epoch,.string r.key,.string r.value] 74)
 refine (HBL.out _ (HS.out.2.later hnb)).mono ?_
 rintro e w1 ⟨x,rfl,ho,hb1⟩
 obtain ⟨d0,d1,d2,d3,df⟩:=row4 (qab hb1 (qad w (.cells #[.int .i64 r.kind,.int .i64 r.epoch,.string r.key,.string r.value] 74)))
 have HB1:=zH (zA (gtr hnb hb1) (qb9 ho hnb.size))
 clear hb1 ho hnb
 obtain ⟨xa,xc,rfl⟩:=qaD HB1.out.2
 clear c0 c1 c2 c3 hf
 go_wp2_with fail
 refine (HW.out _ _ (SliceAt.of_own HB1.out.2)).mono ?_
 rintro e w2 ⟨y,rfl,ho2,hb2⟩
 have HB2:=zH (zA (gtr HB1.out.1 hb2) (zA (World.ownsRow.later HB1.out.2 hb2) (qb9 ho2 HB1.out.1.size)))
 clear hb2 ho2
 go_wp2_with fail
 refine bodyPost_ret (v:=.tuple #[.slice xa (buildL V.recs).length xc,y,.int .i64 0]) (by simp [results,Tryz.results172,go_sem]) rfl ?_
 exact ⟨_,_,rfl,HB2.out.2.1,HB2.out.2.2,HB2.out.1⟩
structure qcd where
 wipe:Int
 sector:Int
 slots:List Int
 recs:List qaC
 free:Int
 epoch:Int
def putRec (p:qaq):qaC:=⟨1,0,p.key,p.value⟩
def movedR (sector epoch:Int) (ps:List qaq):qcd:=⟨sector,sector,(List.range ps.length).map (fun i:Nat=>(i:Int)+1)++[0],ps.map putRec++[⟨0,epoch,⟨#[]⟩,⟨#[]⟩⟩],ps.length+1,epoch⟩
def qg2 (p:qcd) (vs vr:Value):Array Value := #[.int .i64 p.wipe,.int .i64 p.sector,vs,vr,.int .i64 p.free,.int .i64 p.epoch]
def qnb (p:qcd) (w:World) (e:Ending) (w':World):Prop := ∃ vs vr,e=.returned (.agg (qg2 p vs vr))∧w'.ownsRow w.heap.size 3 1 vs p.slots.length (intVals p.slots)∧w'.ownsRow w.heap.size 74 4 vr p.recs.length (recVals p.recs)∧Below w.heap.size w w'
structure qb7 (w wr:World) (b g:Nat) (sector epoch:Int) (sl:List Int) (rs:List qaC) (free:Int):Prop where
 below:Below w.heap.size w wr
 ne:b≠g
 res:wr.heap[b]? = some (.cells #[.int .i64 0,.int .i64 0,.slice none 0 0,.slice none 0 0,.int .i64 0,.int .i64 0] 228 (0,0))
 row : ∃ vs vr,wr.heap[g]? = some (.cells #[.int .i64 sector,.int .i64 sector,vs,vr,.int .i64 free,.int .i64 epoch] 228 (0,0))∧wr.ownsRow w.heap.size 3 1 vs sl.length (intVals sl)∧wr.ownsRow w.heap.size 74 4 vr rs.length (recVals rs)
theorem qhL {w w2:World} {B B':Nat} {t t':TypeId} {v v':Value} {n n' sz sz':Nat} {cs cs':List Value} (h:w.ownsRow B t sz v n cs) (h':w.ownsRow B' t' sz' v' n' cs') (ht:t≠t') (hg:w.grownBy w2 v'.ownBlock):w2.ownsRow B t sz v n cs:=by
 refine ⟨h.1,h.2.imp id fun ⟨g,cap,cur,hv,hB,hh,r⟩=>⟨g,cap,cur,hv,hB,?_,r⟩⟩
 exact (hg.block g (qat hh) (qbD h' hh (fun e=>ht e.symm))).trans hh
theorem row6 {w:World} {g:Nat} {a b c d e f:Value} {t:TypeId} (h:w.heap[g]? = some (.cells #[a,b,c,d,e,f] t (0,0))):w.cell? ⟨g,0,none⟩=some a∧w.cell? ⟨g,1,none⟩=some b∧w.cell? ⟨g,2,none⟩=some c∧w.cell? ⟨g,3,none⟩=some d∧w.cell? ⟨g,4,none⟩=some e∧w.cell? ⟨g,5,none⟩=some f ∧ ∀ i,w.frozen? ⟨g,i,none⟩=false :=
 ⟨qaa h 0,qaa h 1,qaa h 2,qaa h 3,qaa h 4,qaa h 5,fun i=>qah h i⟩
theorem qfJ {w w2:World} {N:Nat} {v:Value} {w0:World} (hb:Below N w0 w) (hN:N≤w.heap.size) (ho : ∀ k,v.ownBlock=some k→N≤k) (hg:w.grownBy w2 v.ownBlock):Below N w0 w2 :=
 hb.trans ⟨hg.os,hg.tape,hg.output,hg.size,fun i hi=>hg.block i (Nat.lt_of_lt_of_le hi hN) (fun e=>by have:=ho i e.symm;omega)⟩
theorem qb7.later {w wr w2:World} {b g:Nat} {sector epoch free:Int} {sl:List Int} {rs:List qaC} (h:qb7 w wr b g sector epoch sl rs free) (hb:Below wr.heap.size wr w2):qb7 w w2 b g sector epoch sl rs free:=by
 obtain ⟨vs,vr,h1,h2,h3⟩:=h.row
 exact ⟨gtr h.below hb,h.ne,qab hb h.res,vs,vr,qab hb h1,World.ownsRow.later h2 hb,World.ownsRow.later h3 hb⟩
theorem qb7.slots {w wr w2:World} {b g:Nat} {sector epoch free:Int} {sl sl':List Int} {rs:List qaC} {v v':Value} (h:qb7 w wr b g sector epoch sl rs free) (hw:w.heap.size≤g) (hv:wr.cell? ⟨g,2,none⟩=some v) (hg:wr.grownBy w2 v.ownBlock) (ho:w2.ownsRow w.heap.size 3 1 v' sl'.length (intVals sl')):(∃ x,w2.cell? ⟨g,2,none⟩=some x)∧(∀ i,w2.frozen? ⟨g,i,none⟩=false)∧qb7 w (w2.setCell ⟨g,2,none⟩ v') b g sector epoch sl' rs free:=by
 obtain ⟨vs,vr,h1,h2,h3⟩:=h.row
 obtain rfl:vs=v:=by rw [qaa h1] at hv;simpa using hv
 have e1:w2.heap[g]? = _:=(hg.block g (qat h1) (qbD h2 h1 (by decide))).trans h1
 have e2:w2.heap[b]? = _:=(hg.block b (qat h.res) (qbD h2 h.res (by decide))).trans h.res
 have hb:=qfJ h.below h.below.size (qaN h2) hg
 refine ⟨⟨_,qaa e1 2⟩,fun i=>qah e1 i,gset hb hw _,h.ne,?_,v',vr,qag (i:=2) (v:=v') e1,qbQ ho (qbD ho e1 (by decide)) _,qbQ (qhL h3 h2 (by decide) hg) (qbD (qhL h3 h2 (by decide) hg) e1 (by decide)) _⟩
 rw [Below.heap_setCell _ _ _ _ h.ne];exact e2
theorem qb7.recs {w wr w2:World} {b g:Nat} {sector epoch free:Int} {sl:List Int} {rs rs':List qaC} {v v':Value} (h:qb7 w wr b g sector epoch sl rs free) (hw:w.heap.size≤g) (hv:wr.cell? ⟨g,3,none⟩=some v) (hg:wr.grownBy w2 v.ownBlock) (ho:w2.ownsRow w.heap.size 74 4 v' rs'.length (recVals rs')):(∃ x,w2.cell? ⟨g,3,none⟩=some x)∧(∀ i,w2.frozen? ⟨g,i,none⟩=false)∧qb7 w (w2.setCell ⟨g,3,none⟩ v') b g sector epoch sl rs' free:=by
 obtain ⟨vs,vr,h1,h2,h3⟩:=h.row
 obtain rfl:vr=v:=by rw [qaa h1] at hv;simpa using hv
 have e1:w2.heap[g]? = _:=(hg.block g (qat h1) (qbD h3 h1 (by decide))).trans h1
 have e2:w2.heap[b]? = _:=(hg.block b (qat h.res) (qbD h3 h.res (by decide))).trans h.res
 have hb:=qfJ h.below h.below.size (qaN h3) hg
 refine ⟨⟨_,qaa e1 3⟩,fun i=>qah e1 i,gset hb hw _,h.ne,?_,vs,v',qag (i:=3) (v:=v') e1,qbQ (qhL h2 h3 (by decide) hg) (qbD (qhL h2 h3 (by decide) hg) e1 (by decide)) _,qbQ ho (qbD ho e1 (by decide)) _⟩
 rw [Below.heap_setCell _ _ _ _ h.ne];exact e2
theorem qb7.frees {w wr:World} {b g:Nat} {sector epoch free:Int} {sl:List Int} {rs:List qaC} (h:qb7 w wr b g sector epoch sl rs free) (hw:w.heap.size≤g) (x:Int):qb7 w (wr.setCell ⟨g,4,none⟩ (.int .i64 x)) b g sector epoch sl rs x:=by
 obtain ⟨vs,vr,h1,h2,h3⟩:=h.row
 refine ⟨gset h.below hw _,h.ne,?_,vs,vr,qag (i:=4) (v:=.int .i64 x) h1,qbQ h2 (qbD h2 h1 (by decide)) _,qbQ h3 (qbD h3 h1 (by decide)) _⟩
 rw [Below.heap_setCell _ _ _ _ h.ne];exact h.res
theorem qb7.row6 {w wr:World} {b g:Nat} {sector epoch free:Int} {sl:List Int} {rs:List qaC} (h:qb7 w wr b g sector epoch sl rs free) : ∃ vs vr,(wr.cell? ⟨g,0,none⟩=some (.int .i64 sector)∧wr.cell? ⟨g,1,none⟩=some (.int .i64 sector)∧wr.cell? ⟨g,2,none⟩=some vs∧wr.cell? ⟨g,3,none⟩=some vr∧wr.cell? ⟨g,4,none⟩=some (.int .i64 free)∧wr.cell? ⟨g,5,none⟩=some (.int .i64 epoch) ∧ ∀ i,wr.frozen? ⟨g,i,none⟩=false)∧wr.ownsRow w.heap.size 3 1 vs sl.length (intVals sl)∧wr.ownsRow w.heap.size 74 4 vr rs.length (recVals rs):=by
 obtain ⟨vs,vr,h1,h2,h3⟩:=h.row
 exact ⟨vs,vr,YtcfdenckiigdaaaGreat.row6 h1,h2,h3⟩
theorem qdK {w w1 w2:World} {r:Option Nat} (hb:Below w.heap.size w w1) (hg:w1.grownBy w2 r):w.grownBy w2 r :=
 ⟨hg.os.trans hb.os,hg.tape.trans hb.tape,hg.output.trans hb.output,Nat.le_trans hb.size hg.size,fun i hi hn=>(hg.block i (Nat.lt_of_lt_of_le hi hb.size) hn).trans (hb.block i hi)⟩
def set6 (w:World) (g:Nat) (a b c d e f:Value):World:=(((((w.setCell ⟨g,0,none⟩ a).setCell ⟨g,1,none⟩ b).setCell ⟨g,2,none⟩ c).setCell ⟨g,3,none⟩ d).setCell ⟨g,4,none⟩ e).setCell ⟨g,5,none⟩ f
theorem qbI {N:Nat} {w0 w:World} {g:Nat} (h:Below N w0 w) (hg:N≤g) (a b c d e f:Value):Below N w0 (set6 w g a b c d e f) :=
 ((((((h.setCell (p:=⟨g,0,none⟩) hg a).setCell (p:=⟨g,1,none⟩) hg b).setCell (p:=⟨g,2,none⟩) hg c).setCell (p:=⟨g,3,none⟩) hg d).setCell (p:=⟨g,4,none⟩) hg e).setCell (p:=⟨g,5,none⟩) hg f)
theorem qdo {w:World} {B:Nat} {t:TypeId} {v:Value} {n sz:Nat} {cs:List Value} {g:Nat} (h:w.ownsRow B t sz v n cs) (hn:some g≠v.ownBlock) (a b c d e f:Value):(set6 w g a b c d e f).ownsRow B t sz v n cs :=
 qbQ (qbQ (qbQ (qbQ (qbQ (qbQ h hn a) hn b) hn c) hn d) hn e) hn f
theorem qi7 (sector epoch:Int) (v:Value) (ps:List qaq) (w:World) (h:SliceAt w v ps.length 2 (pairVals ps)) (hn:ps.length≤100):Calls Tryz.prog 173 #[.int .i64 sector,.int .i64 epoch,v] w (qnb (movedR sector epoch ps) w):=by
 have H:=zH h
 have HX:=zH (fun i (hi:i<ps.length)=>qby ps i hi)
 obtain ⟨a,c,rfl⟩:=h.slice
 clear h
 obtain ⟨i0,hi,hz0,hz1,hz2⟩:=info_parts (show (Tryz.prog.info? 3).map (fun i=>(i.zero,i.size,i.bytes))=some (some (.int .i64 0),1,8) by kernel_rfl)
 obtain ⟨j0,ji,jz0,jz1,jz2⟩:=info_parts qk5
 have hg1:w.heap.size≤w.heap.size+1:=by omega
 go_enter Tryz.func173,Tryz.ntmps173
 go_wp2_with fail
 go_loopg [16] ps.length (fun n i wr => ∃ j:Nat,n=ps.length - j∧i=.int .i64 j∧j≤ps.length∧qb7 w wr w.heap.size (w.heap.size+1) sector epoch ((List.range j).map (fun i:Nat=>(i:Int)+1)) ((ps.take j).map putRec) (j+1))
 case atStart =>
  refine ⟨0,rfl,rfl,Nat.zero_le _,qac (qac (Below.refl _ _) _) _,by omega,?_,.slice none 0 0,.slice none 0 0,?_,World.ownsRow_nil _ _ _ _,World.ownsRow_nil _ _ _ _⟩
  ·
   exact qab (qac (Below.refl _ (w.alloc _)) _) (qad w _)
  ·
   simpa using qad (w.alloc _) _
 case round =>
  obtain ⟨j,hgn,rfl,hj,hM⟩:=hrel
  have HB:=zH (zA hgn hM)
  clear hgn hM
  obtain ⟨vs,vr,⟨c0,c1,c2,c3,c4,c5,hf⟩,hs,hr⟩:=HB.out.2.row6
  have hgl:w.heap.size+1<wr.heap.size:=World.block_lt_of_cell? wr _ c0
  by_cases hlt:j<ps.length
  ·
   have hlt':(j:Int)<(ps.length:Int):=by omega
   obtain ⟨b,o,rfl,hc,hx⟩:=H.out.some (by omega)
   obtain ⟨p0,p1⟩:=HX.out j hlt
   have cc : ∀ i u,(pairVals ps)[2 * j+i]? = some u→wr.cell? ⟨b,o+j * 2+i,none⟩=some u:=fun i u hu=>by
    have e:=hx _ _ hu
    rw [show o+j * 2+i=o+(2 * j+i) by omega]
    exact (HB.out.2.below.cell (p:=⟨b,o+(2 * j+i),none⟩) (World.block_lt_of_cell? w _ e)).trans e
   have d0:wr.cell? ⟨b,o+j * 2,none⟩=some (.string ps[j].key):=cc 0 _ p0
   have d1:wr.cell? ⟨b,o+j * 2+1,none⟩=some (.string ps[j].value):=cc 1 _ p1
   have HS:=zH (zA hs hr)
   clear p0 p1 cc hx hs hr
   go_wp2_with (at_builtin;refine wpList_append_lies _ rfl _ _ 22 rfl w.heap.size 3 i0 (.int .i64 0) 1 8 Tryz.underlying22 hi hz0 hz1 hz2 rfl (by decide) vs ((List.range j).map (fun i:Nat=>(i:Int)+1)).length (intVals ((List.range j).map (fun i:Nat=>(i:Int)+1))) ?a1 (World.ownsRow.later HS.out.1 (qac (qac (Below.refl _ _) _) _)) ⟨wr.heap.size+1,0,none⟩ 1 1 [.int .i64 ((j:Int)+1)] ?a2 rfl ?a3 ?a4 (by decide) ?a5 ?a6 ?a7 _ rfl ?_)
   case a1=>rfl
   case a2=>rfl
   case a3=>exact World.news_of_block (cs := #[.int .i64 ((j:Int)+1)]) (t:=3) (fr:=(0,0)) (by simpa using qad (wr.alloc _) _)
   case a4=>intro u hu;simp only [List.mem_cons,List.not_mem_nil,or_false] at hu;rcases hu with rfl;rfl
   case a5=>simp only [maxLen,List.length_map,List.length_range];omega
   case a6=>simp only [List.length_map,List.length_range];omega
   case a7=>have:=HB.out.2.below.size;simp only [World.size_alloc];omega
   intro g4 cap4 w2 how hgr _ _
   have hgr2:=qdK (qac (qac (Below.refl wr.heap.size wr) (.cells #[.string ps[j].key,.string ps[j].value] 83)) (.cells #[.int .i64 ((j:Int)+1)] 3)) hgr
   have hpr:w2.heap[wr.heap.size]? = some (.cells #[.string ps[j].key,.string ps[j].value] 83 (0,0)):=(hgr.block wr.heap.size (by simp only [World.size_alloc];omega) (qpb HS.out.1)).trans (qab (qac (Below.refl _ (wr.alloc _)) _) (qad wr _))
   have how2:w2.ownsRow w.heap.size 3 1 (.slice (some ⟨g4,0,none⟩) (j+1) cap4) ((List.range (j+1)).map (fun i:Nat=>(i:Int)+1)).length (intVals ((List.range (j+1)).map (fun i:Nat=>(i:Int)+1))):=by
    rw [List.range_succ,List.map_append,List.length_append]
    have e:intVals ((List.range j).map (fun i:Nat=>(i:Int)+1)++[j].map (fun i:Nat=>(i:Int)+1))=intVals ((List.range j).map (fun i:Nat=>(i:Int)+1))++[.int .i64 ((j:Int)+1)]:=by simp [intVals]
    rw [e];simp only [List.length_map,List.length_range,List.length_cons,List.length_nil];exact how
   have hgl2:wr.heap.size<w2.heap.size:=qat hpr
   obtain ⟨⟨y,e2⟩,hf',hM2⟩:=HB.out.2.slots hg1 c2 hgr2 how2
   have hpr2:(w2.setCell ⟨w.heap.size+1,2,none⟩ (.slice (some ⟨g4,0,none⟩) (j+1) cap4)).heap[wr.heap.size]? = some (.cells #[.string ps[j].key,.string ps[j].value] 83 (0,0)):=by
    rw [Below.heap_setCell _ _ _ _ (show wr.heap.size≠w.heap.size+1 by omega)];exact hpr
   have HM2:=zH (zA hM2 hpr2)
   clear how hgr hgr2 how2 hM2 hpr hpr2 HS c0 c1 c2 c3 c4 c5 hf d0 d1
   go_upto_region 6 with fail
   generalize w2.setCell ⟨w.heap.size+1,2,none⟩ (.slice (some ⟨g4,0,none⟩) (j+1) cap4)=w3 at *
   clear e2 hf' hgl2
   obtain ⟨vs3,vr3,⟨c0,c1,c2,c3,c4,c5,hf⟩,hs,hr⟩:=HM2.out.1.row6
   have d0:w3.cell? ⟨wr.heap.size,0,none⟩=some (.string ps[j].key):=qaa HM2.out.2 0
   have d1:w3.cell? ⟨wr.heap.size,1,none⟩=some (.string ps[j].value):=qaa HM2.out.2 1
   have HS3:=zH (zA hs hr)
   have hgl3:w.heap.size+1<w3.heap.size:=World.block_lt_of_cell? w3 _ c0
   clear hs hr
   go_wp2_with (at_builtin;refine wpList_append_lies _ rfl _ _ 50 rfl w.heap.size 74 j0 (.agg #[.int .i64 0,.int .i64 0,.string ⟨#[]⟩,.string ⟨#[]⟩]) 4 48 Tryz.underlying50 ji jz0 jz1 jz2 rfl (by decide) vr3 ((ps.take j).map putRec).length (recVals ((ps.take j).map putRec)) ?b1 (World.ownsRow.later HS3.out.2 (qac (Below.refl _ _) _)) ⟨w3.heap.size,0,none⟩ 1 1 [.int .i64 1,.int .i64 0,.string ps[j].key,.string ps[j].value] ?b2 rfl ?b3 ?b4 (by decide) ?b5 ?b6 ?b7 _ rfl ?_)
   case b1=>rfl
   case b2=>rfl
   case b3=>exact World.news_of_block (cs := #[.int .i64 1,.int .i64 0,.string ps[j].key,.string ps[j].value]) (t:=74) (fr:=(0,0)) (qad w3 _)
   case b4=>intro u hu;simp only [List.mem_cons,List.not_mem_nil,or_false] at hu;rcases hu with rfl | rfl | rfl | rfl <;> rfl
   case b5=>simp only [maxLen,List.length_map,List.length_take];omega
   case b6=>simp only [List.length_map,List.length_take];omega
   case b7=>have:=HM2.out.1.below.size;simp only [World.size_alloc];omega
   intro g5 cap5 w4 how hgr _ _
   have hgr2:=qdK (qac (Below.refl w3.heap.size w3) (.cells #[.int .i64 1,.int .i64 0,.string ps[j].key,.string ps[j].value] 74)) hgr
   have how2:w4.ownsRow w.heap.size 74 4 (.slice (some ⟨g5,0,none⟩) (j+1) cap5) ((ps.take (j+1)).map putRec).length (recVals ((ps.take (j+1)).map putRec)):=by
    have hjl:((ps.take j).map putRec).length=j:=by rw [List.length_map,List.length_take];omega
    rw [← List.map_take] at how
    rw [List.take_succ_eq_append_getElem hlt,List.map_append,List.length_append,List.map_cons,List.map_nil,qdm,hjl]
    exact how
   obtain ⟨⟨y5,e2⟩,hf',hM2⟩:=HM2.out.1.recs hg1 c3 hgr2 how2
   have HM3:=zH hM2
   clear how hgr hgr2 how2 hM2 HS3 c0 c1 c2 c3 c4 c5 hf d0 d1 HM2
   go_upto_region 7 with fail
   generalize w4.setCell ⟨w.heap.size+1,3,none⟩ (.slice (some ⟨g5,0,none⟩) (j+1) cap5)=w5 at *
   clear e2 hf'
   obtain ⟨vs5,vr5,⟨c0,c1,c2,c3,c4,c5,hf⟩,hs,hr⟩:=HM3.out.row6
   have HM4:=zH (HM3.out.frees hg1 ((j:Int)+1+1))
   clear hs hr c0 c1 c2 c3 c5
   go_wp2_with fail
   go_roundg (ps.length - (j+1))
   case measure=>have:=HB.out.1;omega
   case rel=>exact ⟨j+1,rfl,by go_num,by omega,HM4.out⟩
  ·
   obtain rfl:j=ps.length:=by omega
   have HV:=zH (show movedR sector epoch ps=⟨sector,sector,(List.range ps.length).map (fun i:Nat=>(i:Int)+1)++[0],ps.map putRec++[⟨0,epoch,⟨#[]⟩,⟨#[]⟩⟩],ps.length+1,epoch⟩ from rfl)
   rw [List.take_length] at HB hr
   have HS:=zH (zA hs hr)
   clear hs hr
   generalize hsl:(List.range ps.length).map (fun i:Nat=>(i:Int)+1)=sl at *
   generalize hrl:ps.map putRec=rl at *
   have hsn:sl.length=ps.length:=by rw [← hsl];simp
   have hrn:rl.length=ps.length:=by rw [← hrl];simp
   clear hsl hrl
   go_wp2_with (at_builtin;refine wpList_append_lies _ rfl _ _ 22 rfl w.heap.size 3 i0 (.int .i64 0) 1 8 Tryz.underlying22 hi hz0 hz1 hz2 rfl (by decide) vs sl.length (intVals sl) ?a1 (World.ownsRow.later HS.out.1 (qac (Below.refl _ _) _)) ⟨wr.heap.size,0,none⟩ 1 1 [.int .i64 0] ?a2 rfl ?a3 ?a4 (by decide) ?a5 ?a6 ?a7 _ rfl ?_)
   case a1=>rfl
   case a2=>rfl
   case a3=>exact World.news_of_block (cs := #[.int .i64 0]) (t:=3) (fr:=(0,0)) (qad wr _)
   case a4=>intro u hu;simp only [List.mem_cons,List.not_mem_nil,or_false] at hu;rcases hu with rfl;rfl
   case a5=>simp only [maxLen];omega
   case a6=>omega
   case a7=>have:=HB.out.2.below.size;simp only [World.size_alloc];omega
   intro g4 cap4 w2 how hgr _ _
   have hgr2:=qdK (qac (Below.refl wr.heap.size wr) (.cells #[.int .i64 0] 3)) hgr
   have how2:w2.ownsRow w.heap.size 3 1 (.slice (some ⟨g4,0,none⟩) (ps.length+1) cap4) (sl++[0]).length (intVals (sl++[0])):=by
    rw [List.length_append]
    have e:intVals (sl++[0])=intVals sl++[.int .i64 0]:=by simp [intVals]
    rw [e,hsn];exact how
   obtain ⟨⟨y,e2⟩,hf',hM2⟩:=HB.out.2.slots hg1 c2 hgr2 how2
   have HM2:=zH hM2
   clear how hgr hgr2 how2 hM2 HS c0 c1 c2 c3 c4 c5 hf
   go_upto_region 10 with fail
   generalize w2.setCell ⟨w.heap.size+1,2,none⟩ (.slice (some ⟨g4,0,none⟩) (ps.length+1) cap4)=w3 at *
   clear e2 hf'
   obtain ⟨vs3,vr3,⟨c0,c1,c2,c3,c4,c5,hf⟩,hs,hr⟩:=HM2.out.row6
   have HS3:=zH (zA hs hr)
   have hgl3:w.heap.size+1<w3.heap.size:=World.block_lt_of_cell? w3 _ c0
   clear hs hr
   go_wp2_with (at_builtin;refine wpList_append_lies _ rfl _ _ 50 rfl w.heap.size 74 j0 (.agg #[.int .i64 0,.int .i64 0,.string ⟨#[]⟩,.string ⟨#[]⟩]) 4 48 Tryz.underlying50 ji jz0 jz1 jz2 rfl (by decide) vr3 rl.length (recVals rl) ?b1 (World.ownsRow.later HS3.out.2 (qac (Below.refl _ _) _)) ⟨w3.heap.size,0,none⟩ 1 1 [.int .i64 0,.int .i64 epoch,.string ⟨#[]⟩,.string ⟨#[]⟩] ?b2 rfl ?b3 ?b4 (by decide) ?b5 ?b6 ?b7 _ rfl ?_)
   case b1=>rfl
   case b2=>rfl
   case b3=>exact World.news_of_block (cs := #[.int .i64 0,.int .i64 epoch,.string ⟨#[]⟩,.string ⟨#[]⟩]) (t:=74) (fr:=(0,0)) (qad w3 _)
   case b4=>intro u hu;simp only [List.mem_cons,List.not_mem_nil,or_false] at hu;rcases hu with rfl | rfl | rfl | rfl <;> rfl
   case b5=>simp only [maxLen];omega
   case b6=>omega
   case b7=>have:=HM2.out.below.size;simp only [World.size_alloc];omega
   intro g5 cap5 w4 how hgr _ _
   have hgr2:=qdK (qac (Below.refl w3.heap.size w3) (.cells #[.int .i64 0,.int .i64 epoch,.string ⟨#[]⟩,.string ⟨#[]⟩] 74)) hgr
   have how2:w4.ownsRow w.heap.size 74 4 (.slice (some ⟨g5,0,none⟩) (ps.length+1) cap5) (rl++[(⟨0,epoch,⟨#[]⟩,⟨#[]⟩⟩:qaC)]).length (recVals (rl++[(⟨0,epoch,⟨#[]⟩,⟨#[]⟩⟩:qaC)])):=by
    rw [List.length_append,qdm,hrn];exact how
   obtain ⟨⟨y5,e2⟩,hf',hM2⟩:=HM2.out.recs hg1 c3 hgr2 how2
   have HM3:=zH hM2
   clear how hgr hgr2 how2 hM2 HS3 c0 c1 c2 c3 c4 c5 hf HM2
   go_upto_region 11 with fail
   generalize w4.setCell ⟨w.heap.size+1,3,none⟩ (.slice (some ⟨g5,0,none⟩) (ps.length+1) cap5)=w5 at *
   clear e2 hf'
   obtain ⟨vs5,vr5,⟨c0,c1,c2,c3,c4,c5,hf⟩,hs,hr⟩:=HM3.out.row6
   obtain ⟨d0,d1,d2,d3,d4,d5,df⟩:=row6 HM3.out.res
   have HS5:=zH (zA hs hr)
   clear hs hr
   obtain ⟨sa,sc,rfl⟩:=qaD HS5.out.1
   obtain ⟨ra,rc,rfl⟩:=qaD HS5.out.2
   go_wp2_with fail
   refine bodyPost_ret (v:=.agg #[.int .i64 sector,.int .i64 sector,.slice sa (sl++[0]).length sc,.slice ra (rl++[(⟨0,epoch,⟨#[]⟩,⟨#[]⟩⟩:qaC)]).length rc,.int .i64 (ps.length+1),.int .i64 epoch]) (by simp [results,Tryz.results173,go_sem,d0,d1,d2,d3,d4,d5,hsn,hrn]) rfl ?_
   rw [HV.out]
   refine ⟨_,_,rfl,qdo HS5.out.1 (qbD HS5.out.1 HM3.out.res (by decide)) _ _ _ _ _ _,qdo HS5.out.2 (qbD HS5.out.2 HM3.out.res (by decide)) _ _ _ _ _ _,qbI HM3.out.below (Nat.le_refl _) _ _ _ _ _ _⟩
end
section
open Go.RowKit
def findL (ps:List qaq) (k:ByteArray):Option ByteArray:=match ps.find? fun p=>decide (p.key=k) with | some p=>some p.value | none=>none
def qs2 (k:ByteArray) (ps:List qaq) (i:Nat):Prop := ∃ hi:i<ps.length,ps[i].key=k ∧ ∀ j (hj:j<ps.length),j<i→ps[j].key≠k
theorem qp3 {k:ByteArray} {ps:List qaq} {i:Nat} (h:qs2 k ps i):findL ps k=some (ps[i]'h.1).value:=by
 obtain ⟨hi,hk,hj⟩:=h
 have:ps.find? (fun p=>decide (p.key=k))=some ps[i]:=List.find?_eq_some_iff_getElem.2 ⟨decide_eq_true hk,i,hi,rfl,fun j hji=>by simpa using hj j (by omega) hji⟩
 unfold findL
 rw [this]
theorem qvi {k:ByteArray} {ps:List qaq} (h : ∀ j (hj:j<ps.length),ps[j].key≠k):findL ps k=none:=by
 have:ps.find? (fun p=>decide (p.key=k))=none:=List.find?_eq_none.2 fun p hp=>by
  obtain ⟨j,hj,rfl⟩:=List.getElem_of_mem hp
  simpa using h j hj
 unfold findL
 rw [this]
theorem qiN (v:Value) (ps:List qaq) (k:ByteArray) (kb:Nat) (w:World) (h:SliceAt w v ps.length 2 (pairVals ps)) (hk:w.cell? ⟨kb,0,none⟩=some (.string k)) (hn:ps.length≤1000):Calls Tryz.prog 136 #[v,.func (.func 137) #[] #[.pointer (some ⟨kb,0,none⟩)]] w fun e w' => ∃ x:Int,e=.returned (.int .i64 x)∧Below w.heap.size w w'∧((∃ i:Nat,x=i∧qs2 k ps i)∨(x = -1 ∧ ∀ j (hj:j<ps.length),ps[j].key≠k)):=by
 have HF:=zH (fun a b w h=>qnE a b k kb w h)
 have HK:=zH (fun (w':World) (hb:Below w.heap.size w w')=>(hb.cell (p:=⟨kb,0,none⟩) (World.block_lt_of_cell? w _ hk)).trans hk)
 have H:=zH h
 have HX:=zH (fun i (hi:i<ps.length)=>qby ps i hi)
 obtain ⟨a,c,rfl⟩:=h.slice
 clear h hk
 go_enter Tryz.func136,Tryz.ntmps136
 go_wp2_with fail
 go_loopg [8] ps.length (fun n i wr => ∃ j:Nat,n=ps.length - j∧i=.int .i64 j∧j≤ps.length∧Below w.heap.size w wr ∧ ∀ q (hq:q<ps.length),q<j→ps[q].key≠k)
 case atStart=>exact ⟨0,rfl,rfl,Nat.zero_le _,Below.refl _ _,fun q _ h=>absurd h (Nat.not_lt_zero _)⟩
 case round =>
  obtain ⟨j,hgn,rfl,hj,hb,hne⟩:=hrel
  have HB:=zH (zA hgn (zA hb hne))
  clear hgn hb hne
  by_cases hlt:j<ps.length
  ·
   have hlt':(j:Int)<(ps.length:Int):=by omega
   obtain ⟨b,o,rfl,hc,hx⟩:=H.out.some (by omega)
   obtain ⟨p0,p1⟩:=HX.out j hlt
   have cc : ∀ i u,(pairVals ps)[2 * j+i]? = some u→wr.cell? ⟨b,o+j * 2+i,none⟩=some u:=fun i u hu=>by
    have e:=hx _ _ hu
    rw [show o+j * 2+i=o+(2 * j+i) by omega]
    exact (HB.out.2.1.cell (p:=⟨b,o+(2 * j+i),none⟩) (World.block_lt_of_cell? w _ e)).trans e
   have c0:wr.cell? ⟨b,o+j * 2,none⟩=some (.string ps[j].key):=cc 0 _ p0
   have c1:wr.cell? ⟨b,o+j * 2+1,none⟩=some (.string ps[j].value):=cc 1 _ p1
   clear p0 p1 cc hx
   go_wp2_with fail
   refine (HF.out _ _ _ (HK.out _ HB.out.2.1)).mono ?_
   rintro e w1 ⟨rfl,hb1⟩
   have HB1:=zH (gtr HB.out.2.1 hb1)
   clear hb1
   rw [qgU]
   by_cases hkk:ps[j].key=k
   ·
    rw [decide_eq_true hkk]
    have HE:=zH hkk
    clear hkk
    go_wp2_with fail
    go_ret
    exact ⟨_,rfl,HB1.out,.inl ⟨j,rfl,hlt,HE.out,HB.out.2.2⟩⟩
   ·
    rw [decide_eq_false hkk]
    have HE:=zH hkk
    clear hkk
    go_wp2_with fail
    go_roundg (ps.length - (j+1))
    case measure=>have:=HB.out.1;omega
    case rel =>
     refine ⟨j+1,rfl,by go_num,by omega,HB1.out,fun q hq hl => ?_⟩
     rcases Nat.lt_or_ge q j with h' | h'
     ·
      exact HB.out.2.2 q hq h'
     ·
      obtain rfl:q=j:=by omega
      exact HE.out
  ·
   have hlt' : ¬ (j:Int)<(ps.length:Int):=by omega
   go_wp2_with fail
   go_ret
   exact ⟨_,rfl,HB.out.2.1,.inr ⟨rfl,fun q hq=>HB.out.2.2 q hq (by omega)⟩⟩
def qq2 (r:Option ByteArray) (w:World) (e:Ending) (w':World):Prop:=e=.returned (.tuple #[.string (r.getD ⟨#[]⟩),.bool r.isSome])∧Below w.heap.size w w'
theorem qga (v:Value) (ps:List qaq) (k:ByteArray) (w:World) (h:SliceAt w v ps.length 2 (pairVals ps)) (hn:ps.length≤1000):Calls Tryz.prog 95 #[v,.string k] w (qq2 (findL ps k) w):=by
 have HI:=zH (qiN v ps k w.heap.size (w.alloc (.cells #[.string k] 9)) (h.later (qac (Below.refl _ _) _)) (qaa (qad w _) 0) hn)
 have H:=zH h
 have HX:=zH (fun i (hi:i<ps.length)=>qby ps i hi)
 have HF:=zH (fun i (h:qs2 k ps i)=>qp3 h)
 have HN:=zH (fun (h : ∀ j (hj:j<ps.length),ps[j].key≠k)=>qvi h)
 obtain ⟨a,c,rfl⟩:=h.slice
 clear h
 generalize findL ps k=fl at *
 go_enter Tryz.func95,Tryz.ntmps95
 go_wp2_with fail
 refine HI.out.mono ?_
 rintro e w1 ⟨x,rfl,hb,hx⟩
 have HB:=zH (gtr (qac (Below.refl _ w) (.cells #[.string k] 9)) hb)
 clear hb HI
 rcases hx with ⟨i,rfl,hi⟩ | ⟨rfl,hno⟩
 ·
  obtain rfl:=HF.out i hi
  obtain ⟨hil,_,_⟩:=hi
  obtain ⟨b,o,rfl,hc,hx⟩:=H.out.some (by omega)
  obtain ⟨_,p1⟩:=HX.out i hil
  have e:=hx _ _ p1
  have c1:w1.cell? ⟨b,o+i * 2+1,none⟩=some (.string ps[i].value):=by
   rw [show o+i * 2+1=o+(2 * i+1) by omega]
   exact (HB.out.cell (p:=⟨b,o+(2 * i+1),none⟩) (World.block_lt_of_cell? w _ e)).trans e
  have hlt':(i:Int)<(ps.length:Int):=by omega
  clear hx e p1 HX H
  go_wp2_with fail
  go_ret2
  exact ⟨rfl,HB.out⟩
 ·
  obtain rfl:=HN.out hno
  clear hno
  go_wp2_with fail
  go_ret2
  exact ⟨rfl,HB.out⟩
end
end Go.Proofs.YtcfdenckiigdaaaGreat

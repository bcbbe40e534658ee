/- Part 27 of the contracts. -/
import Derived.Test.YtcfdenckiigdaaaGreatKp24
set_option linter.unusedVariables false
set_option maxRecDepth 100000
set_option maxHeartbeats 4000000
namespace Go.Proofs.YtcfdenckiigdaaaGreat
section
open Go.RowKit
structure qau where
 good:Bool
 epoch:Int
 recs:List qaC
 free:Int
def qa5 (s:ByteArray) (i:Nat):List qaC:=match qa1 (qbo s i) with | some r=>if r.kind=0 then [] else [r] | none=>[]
def scanRecs (s:ByteArray):Nat→List qaC
 | 0=>[]
 | k+1=>scanRecs s k++qa5 s (k+1)
def qav (s:ByteArray):Nat→Int
 | 0=>1
 | k+1=>if qdF (qbo s (k+1))=true then qav s k else ((k+2:Nat):Int)
def qaE (s:ByteArray):Bool×Int:=match qa1 (qbo s 0) with | some r=>if r.kind=0 then (true,r.epoch) else (false,0) | none=>(false,0)
def scanR (s:ByteArray):qau:=⟨(qaE s).1,(qaE s).2,scanRecs s 7,qav s 7⟩
theorem qeO (s:ByteArray) : ∀ k,(scanRecs s k).length≤k
 | 0=>Nat.le_refl _
 | k+1=>by
  have:=qeO s k
  have h1:(qa5 s (k+1)).length≤1:=by
   unfold qa5
   split
   ·
    split <;> simp
   ·
    simp
  simp only [scanRecs,List.length_append];omega
def quX (V:qau) (er:Int) (w:World) (e:Ending) (w':World):Prop := ∃ vr,e=.returned (.tuple #[.agg #[.bool V.good,.int .i64 V.epoch,vr,.int .i64 V.free],.int .i64 er])∧w'.ownsRow w.heap.size 74 4 vr V.recs.length (recVals V.recs)∧Below w.heap.size w w'
structure qce (w wr:World) (b g:Nat) (s:ByteArray) (kr kf:Nat):Prop where
 ne:b≠g
 below:Below w.heap.size w wr
 res:wr.heap[b]? = some (.cells #[.bool false,.int .i64 0,.slice none 0 0,.int .i64 0] 52 (0,0))
 row : ∃ vr,wr.heap[g]? = some (.cells #[.bool (qaE s).1,.int .i64 (qaE s).2,vr,.int .i64 (qav s kf)] 52 (0,0))∧wr.ownsRow w.heap.size 74 4 vr (scanRecs s kr).length (recVals (scanRecs s kr))
theorem qce.later {w wr w2:World} {b g kr kf:Nat} {s:ByteArray} (h:qce w wr b g s kr kf) (hb:Below wr.heap.size wr w2):qce w w2 b g s kr kf:=by
 obtain ⟨vr,h1,h2⟩:=h.row
 exact ⟨h.ne,gtr h.below hb,qab hb h.res,vr,qab hb h1,World.ownsRow.later h2 hb⟩
theorem qff {s:ByteArray} (hs:s.size=512) (i:Nat) (hi:i<8):(qbo s i).size=64:=by unfold qbo;simp;omega
theorem qi1 (r:qaC):qiZ (some r) 1900=.tuple #[.agg #[.int .i64 r.kind,.int .i64 r.epoch,.string r.key,.string r.value],.int .i64 0]:=rfl
theorem qi0:qiZ none 1900=.tuple #[.agg #[.int .i64 0,.int .i64 0,.string ⟨#[]⟩,.string ⟨#[]⟩],.int .i64 1900]:=rfl
theorem qhT {w:World} {g:Nat} {a b c d:Value} {t:TypeId} (h:w.heap[g]? = some (.cells #[a,b,c,d] t (0,0))) (x:Value):(w.setCell ⟨g,0,none⟩ x).heap[g]? = some (.cells #[x,b,c,d] t (0,0))∧(w.setCell ⟨g,1,none⟩ x).heap[g]? = some (.cells #[a,x,c,d] t (0,0))∧(w.setCell ⟨g,2,none⟩ x).heap[g]? = some (.cells #[a,b,x,d] t (0,0))∧(w.setCell ⟨g,3,none⟩ x).heap[g]? = some (.cells #[a,b,c,x] t (0,0)) :=
 ⟨qag (i:=0) (v:=x) h,qag (i:=1) (v:=x) h,qag (i:=2) (v:=x) h,qag (i:=3) (v:=x) h⟩
theorem qce.row4 {w wr:World} {b g kr kf:Nat} {s:ByteArray} (h:qce w wr b g s kr kf) : ∃ vr,(wr.cell? ⟨g,0,none⟩=some (.bool (qaE s).1)∧wr.cell? ⟨g,1,none⟩=some (.int .i64 (qaE s).2)∧wr.cell? ⟨g,2,none⟩=some vr∧wr.cell? ⟨g,3,none⟩=some (.int .i64 (qav s kf)) ∧ ∀ i,wr.frozen? ⟨g,i,none⟩=false)∧wr.ownsRow w.heap.size 74 4 vr (scanRecs s kr).length (recVals (scanRecs s kr)):=by
 obtain ⟨vr,h1,h2⟩:=h.row
 exact ⟨vr,YtcfdenckiigdaaaGreat.row4 h1,h2⟩
theorem qce.grow {w wr w2:World} {b g k:Nat} {s:ByteArray} {v v':Value} (h:qce w wr b g s k k) (hw:w.heap.size≤g) (hv:wr.cell? ⟨g,2,none⟩=some v) (hg:wr.grownBy w2 v.ownBlock) (ho:w2.ownsRow w.heap.size 74 4 v' (scanRecs s (k+1)).length (recVals (scanRecs s (k+1)))):(∃ x,w2.cell? ⟨g,2,none⟩=some x)∧(∀ i,w2.frozen? ⟨g,i,none⟩=false)∧qce w (w2.setCell ⟨g,2,none⟩ v') b g s (k+1) k:=by
 obtain ⟨vr,h1,h2⟩:=h.row
 obtain rfl:vr=v:=by rw [qaa h1] at hv;simpa using hv
 have hgl:=qat h1
 have e1:w2.heap[g]? = _:=(hg.block g hgl (qbD h2 h1 (by decide))).trans h1
 have e2:w2.heap[b]? = _:=(hg.block b (qat h.res) (qbD h2 h.res (by decide))).trans h.res
 have hbl:Below w.heap.size w w2:=h.below.trans ⟨hg.os,hg.tape,hg.output,hg.size,fun i hi=>hg.block i (Nat.lt_of_lt_of_le hi h.below.size) (fun e=>by have:=qaN h2 i e.symm;omega)⟩
 refine ⟨⟨_,qaa e1 2⟩,fun i=>qah e1 i,h.ne,gset hbl hw _,?_,v',(qhT e1 v').2.2.1,?_⟩
 ·
  rw [Below.heap_setCell _ _ _ _ h.ne];exact e2
 ·
  rcases ho with ⟨hl,ho⟩
  refine ⟨hl,ho.imp id fun ⟨g2,cap,cur,hv,hB,hh,r⟩=>⟨g2,cap,cur,hv,hB,?_,r⟩⟩
  rw [Below.heap_setCell _ _ _ _ ?_]
  ·
   exact hh
  ·
   show g2≠g
   rintro rfl
   rw [e1] at hh
   simp at hh
theorem qce.same {w wr:World} {b g k:Nat} {s:ByteArray} (h:qce w wr b g s k k) (hs:qa5 s (k+1)=[]):qce w wr b g s (k+1) k:=by
 obtain ⟨a1,a2,a3,vr,a4,a5⟩:=h
 have e:scanRecs s (k+1)=scanRecs s k:=by simp only [scanRecs];rw [hs,List.append_nil]
 exact ⟨a1,a2,a3,vr,a4,by rw [e];exact a5⟩
theorem qce.free {w wr:World} {b g k:Nat} {s:ByteArray} (h:qce w wr b g s (k+1) k) (hw:w.heap.size≤g) {x:Int} (hx:x=qav s (k+1)):qce w (wr.setCell ⟨g,3,none⟩ (.int .i64 x)) b g s (k+1) (k+1):=by
 obtain ⟨a1,a2,a3,vr,a4,a5⟩:=h
 refine ⟨a1,gset a2 hw _,?_,vr,?_,?_⟩
 ·
  rw [Below.heap_setCell _ _ _ _ a1];exact a3
 ·
  rw [← hx];exact (qhT a4 _).2.2.2
 ·
  rcases a5 with ⟨hl,ho⟩
  refine ⟨hl,ho.imp id fun ⟨g2,cap,cur,hv,hB,hh,r⟩=>⟨g2,cap,cur,hv,hB,?_,r⟩⟩
  rw [Below.heap_setCell _ _ _ _ ?_]
  ·
   exact hh
  ·
   show g2≠g
   rintro rfl
   rw [a4] at hh
   simp at hh
theorem qk5:(Tryz.prog.info? 74).map (fun i=>(i.zero,i.size,i.bytes))=some (some (.agg #[.int .i64 0,.int .i64 0,.string ⟨#[]⟩,.string ⟨#[]⟩]),4,48):=by kernel_rfl
theorem qkx (s:ByteArray) (w:World) (hs:s.size=512):Calls Tryz.prog 19 #[.string s] w (quX (scanR s) 0 w):=by
 have HS:=zH (fun i hi w=>qqK s i w hs hi)
 have HZ:=zH (fun i hi=>qff hs i hi)
 have HG:=zH (fun s w=>qhq s w)
 have hbw:=qac (qac (Below.refl w.heap.size w) (.cells #[.bool false,.int .i64 0,.slice none 0 0,.int .i64 0] 52)) (.cells #[.bool false,.int .i64 0,.slice none 0 0,.int .i64 1] 52)
 have hres:=qab (qac (Below.refl _ (w.alloc (.cells #[.bool false,.int .i64 0,.slice none 0 0,.int .i64 0] 52))) (.cells #[.bool false,.int .i64 0,.slice none 0 0,.int .i64 1] 52)) (qad w (.cells #[.bool false,.int .i64 0,.slice none 0 0,.int .i64 0] 52))
 have hrow:=qad (w.alloc (.cells #[.bool false,.int .i64 0,.slice none 0 0,.int .i64 0] 52)) (.cells #[.bool false,.int .i64 0,.slice none 0 0,.int .i64 1] 52)
 rw [World.size_alloc] at hrow
 have HW:=zH (zA hbw (zA hres hrow))
 clear hbw hres hrow
 go_enter Tryz.func19,Tryz.ntmps19
 go_wp2_with fail
 refine (HS.out 0 (by decide) _).mono ?_
 rintro e w1 ⟨rfl,rfl⟩
 generalize (w.alloc (.cells #[.bool false,.int .i64 0,.slice none 0 0,.int .i64 0] 52)).alloc (.cells #[.bool false,.int .i64 0,.slice none 0 0,.int .i64 1] 52)=W at *
 go_wp2_with fail
 refine (HG.out _ _).mono ?_
 rintro e w1 ⟨rfl,hb⟩
 have hres:=qab hb HW.out.2.1
 have hrow:=qab hb HW.out.2.2
 have hB:=zH (gtr HW.out.1 hb)
 obtain ⟨c0,c1,c2,c3,hf⟩:=row4 hrow
 have HR:=zH (zA hres hrow)
 clear hb hres hrow HW
 have hlt:w.heap.size+1<w1.heap.size:=qat HR.out.2
 cases hh:qa1 (qbo s 0)
 case' some =>
  rename_i h0
  rw [qi1]
  by_cases k0:h0.kind=0
 case' pos =>
  have HH:=zH (show qaE s=(true,h0.epoch) by unfold qaE;rw [hh];simp only;rw [if_pos k0])
  clear hh
  rw [k0]
  go_upto_region 6 with fail
  go_region
  go_upto_region 8 with fail
  have HSC:qce w (((w1.setCell ⟨w.heap.size+1,0,none⟩ (.bool true)).setCell ⟨w.heap.size+1,1,none⟩ (.int .i64 h0.epoch)).alloc (.cells #[.int .i64 0,.int .i64 h0.epoch,.string h0.key,.string h0.value] 74)).drew w.heap.size (w.heap.size+1) s 0 0:=by
   refine qce.later (wr:=(w1.setCell ⟨w.heap.size+1,0,none⟩ (.bool true)).setCell ⟨w.heap.size+1,1,none⟩ (.int .i64 h0.epoch)) ?_ (qai (qac (Below.refl _ _) _))
   refine ⟨by omega,gset (gset hB.out (by show w.heap.size≤w.heap.size+1;omega) _) (by show w.heap.size≤w.heap.size+1;omega) _,?_,.slice none 0 0,?_,World.ownsRow_nil _ _ _ _⟩
   ·
    rw [Below.heap_setCell _ _ _ _ (by show w.heap.size≠w.heap.size+1;omega),Below.heap_setCell _ _ _ _ (by show w.heap.size≠w.heap.size+1;omega)]
    exact HR.out.1
   ·
    rw [HH.out]
    exact (qhT (qhT HR.out.2 _).1 _).2.1
  generalize (((w1.setCell ⟨w.heap.size+1,0,none⟩ (.bool true)).setCell ⟨w.heap.size+1,1,none⟩ (.int .i64 h0.epoch)).alloc (.cells #[.int .i64 0,.int .i64 h0.epoch,.string h0.key,.string h0.value] 74)).drew=w2 at *
 case' neg =>
  have HH:=zH (show qaE s=(false,0) by unfold qaE;rw [hh];simp only;rw [if_neg k0])
  have hkx:(h0.kind == 0)=false:=by simpa using k0
  clear hh
  go_upto_region 8 with fail
  have HSC:qce w (w1.alloc (.cells #[.int .i64 h0.kind,.int .i64 h0.epoch,.string h0.key,.string h0.value] 74)) w.heap.size (w.heap.size+1) s 0 0:=by
   have hx:=qac (Below.refl _ w1) (.cells #[.int .i64 h0.kind,.int .i64 h0.epoch,.string h0.key,.string h0.value] 74)
   exact ⟨by omega,gtr hB.out hx,qab hx HR.out.1,.slice none 0 0,by rw [HH.out];exact qab hx HR.out.2,World.ownsRow_nil _ _ _ _⟩
  generalize (w1.alloc (.cells #[.int .i64 h0.kind,.int .i64 h0.epoch,.string h0.key,.string h0.value] 74))=w2 at *
  clear hkx k0
 case' none =>
  rw [qi0]
  have HH:=zH (show qaE s=(false,0) by unfold qaE;rw [hh])
  clear hh
  go_upto_region 8 with fail
  have HSC:qce w (w1.alloc (.cells #[.int .i64 0,.int .i64 0,.string ⟨#[]⟩,.string ⟨#[]⟩] 74)) w.heap.size (w.heap.size+1) s 0 0:=by
   have hx:=qac (Below.refl _ w1) (.cells #[.int .i64 0,.int .i64 0,.string ⟨#[]⟩,.string ⟨#[]⟩] 74)
   exact ⟨by omega,gtr hB.out hx,qab hx HR.out.1,.slice none 0 0,by rw [HH.out];exact qab hx HR.out.2,World.ownsRow_nil _ _ _ _⟩
  generalize (w1.alloc (.cells #[.int .i64 0,.int .i64 0,.string ⟨#[]⟩,.string ⟨#[]⟩] 74))=w2 at *
 all_goals
  have H0:=zH HSC
  clear HSC HH hB c0 c1 c2 c3 hf HR hlt
  go_loopg [7] 7 (fun n i wr => ∃ j:Nat,j≤7∧n=7 - j∧i=.int .i64 ((j+1:Nat):Int)∧qce w wr w.heap.size (w.heap.size+1) s j j)
  case atStart=>exact ⟨0,by omega,rfl,rfl,H0.out⟩
  case round =>
   obtain ⟨j,hj,hn,rfl,hS⟩:=hrel
   have HN:=zH hn
   clear hn
   by_cases hlt:j<7
   ·
    have hlt8:((j+1:Nat):Int)<8:=by omega
    have HS1:=zH hS
    clear hS
    go_wp2_with fail
    refine (HS.out (j+1) (by omega) _).mono ?_
    rintro e w3 ⟨rfl,rfl⟩
    go_wp2_with fail
    refine (HG.out _ _).mono ?_
    rintro e w3 ⟨rfl,hb⟩
    have hS2:=HS1.out.later hb
    obtain ⟨vr,⟨c0,c1,c2,c3,hf⟩,ho⟩:=hS2.row4
    have HS2:=zH hS2
    have HO:=zH ho
    have hgl:w.heap.size+1<w3.heap.size:=World.block_lt_of_cell? w3 _ c0
    clear hb HS1 hS2 ho
    have hjl:=qeO s j
    have hw1:w.heap.size≤w.heap.size+1:=by omega
    have HBL:=zH (fun w=>qia (qbo s (j+1)) w (by rw [HZ.out (j+1) (by omega)];decide))
    obtain ⟨i0,hi,hz0,hz1,hz2⟩:=info_parts qk5
    cases hr:qa1 (qbo s (j+1))
    case' some =>
     rename_i r
     rw [qi1]
     by_cases k:r.kind=0
    case' pos =>
     have hsr:qa5 s (j+1)=[]:=by unfold qa5;rw [hr];simp only;rw [if_pos k]
     rw [k]
     have HSX:=zH ((HS2.out.same hsr).later (qac (Below.refl _ w3) (.cells #[.int .i64 0,.int .i64 r.epoch,.string r.key,.string r.value] 74)))
     clear hr hsr HS2 c0 c1 c2 c3 hf
     go_wp2_with fail
     generalize w3.alloc (.cells #[.int .i64 0,.int .i64 r.epoch,.string r.key,.string r.value] 74)=w4 at *
    case' neg =>
     have hsr:qa5 s (j+1)=[r]:=by unfold qa5;rw [hr];simp only;rw [if_neg k]
     have HR2:=zH (show scanRecs s (j+1)=scanRecs s j++[r] by rw [← hsr];rfl)
     clear hr hsr
     go_wp2_with (at_builtin;refine wpList_append_lies _ rfl _ _ 50 rfl w.heap.size 74 i0 (.agg #[.int .i64 0,.int .i64 0,.string ⟨#[]⟩,.string ⟨#[]⟩]) 4 48 Tryz.underlying50 hi hz0 hz1 hz2 rfl (by decide) vr (scanRecs s j).length (recVals (scanRecs s j)) ?a1 (World.ownsRow.later HO.out (qac (qac (Below.refl _ _) _) _)) ⟨w3.heap.size+1,0,none⟩ 1 1 [.int .i64 r.kind,.int .i64 r.epoch,.string r.key,.string r.value] ?a2 rfl ?a3 ?a4 (by decide) ?a5 ?a6 ?a7 _ rfl ?_)
     case a1=>rfl
     case a2=>rfl
     case a3=>exact World.news_of_block (cs := #[.int .i64 r.kind,.int .i64 r.epoch,.string r.key,.string r.value]) (t:=74) (fr:=(0,0)) (by simpa using qad (w3.alloc _) _)
     case a4=>intro u hu;simp only [List.mem_cons,List.not_mem_nil,or_false] at hu;rcases hu with rfl | rfl | rfl | rfl <;> rfl
     case a5=>simp only [maxLen];omega
     case a6=>omega
     case a7=>have:=HS2.out.below.size;simp only [World.size_alloc];omega
     intro g4 cap4 w' how hgr _ _
     have hgr3:w3.grownBy w' vr.ownBlock:=⟨hgr.os,hgr.tape,hgr.output,by have:=hgr.size;simp only [World.size_alloc] at this;omega,fun i hi hne=>(hgr.block i (by simp only [World.size_alloc];omega) hne).trans ((qac (qac (Below.refl w3.heap.size w3) _) _).block i hi)⟩
     have how2:w'.ownsRow w.heap.size 74 4 (.slice (some ⟨g4,0,none⟩) ((scanRecs s j).length+1) cap4) (scanRecs s (j+1)).length (recVals (scanRecs s (j+1))):=by
      rw [HR2.out,qdm,List.length_append];exact how
     obtain ⟨⟨y,e2⟩,hf',hSX⟩:=HS2.out.grow hw1 c2 hgr3 how2
     have HSX:=zH hSX
     clear how hgr hgr3 how2 hSX HR2 HS2 c0 c1 c2 c3 hf
     go_wp2_with fail
     generalize w'.setCell ⟨w.heap.size+1,2,none⟩ (.slice (some ⟨g4,0,none⟩) ((scanRecs s j).length+1) cap4)=w4 at *
    case' none =>
     rw [qi0]
     have hsr:qa5 s (j+1)=[]:=by unfold qa5;rw [hr]
     have HSX:=zH ((HS2.out.same hsr).later (qac (Below.refl _ w3) (.cells #[.int .i64 0,.int .i64 0,.string ⟨#[]⟩,.string ⟨#[]⟩] 74)))
     clear hr hsr HS2 c0 c1 c2 c3 hf
     go_wp2_with fail
     generalize w3.alloc (.cells #[.int .i64 0,.int .i64 0,.string ⟨#[]⟩,.string ⟨#[]⟩] 74)=w4 at *
    all_goals
     refine (HBL.out _).mono ?_
     rintro e w5 ⟨rfl,hb5⟩
     have hS5:=HSX.out.later hb5
     obtain ⟨vr5,⟨d0,d1,d2,d3,df⟩,_⟩:=hS5.row4
     have HS5:=zH hS5
     clear hb5 hS5
     cases hbl:qdF (qbo s (j+1)) with
     | true =>
      go_wp2_with fail
      go_roundg (7 - (j+1))
      case measure=>have:=HN.out;omega
      case rel =>
       refine ⟨j+1,by omega,rfl,by go_num,?_⟩
       have e:qav s (j+1)=qav s j:=by simp only [qav];rw [if_pos hbl]
       obtain ⟨a1,a2,a3,vr,a4,a5⟩:=HS5.out
       exact ⟨a1,a2,a3,vr,by rw [e];exact a4,a5⟩
     | false =>
      go_wp2_with fail
      go_roundg (7 - (j+1))
      case measure=>have:=HN.out;omega
      case rel =>
       refine ⟨j+1,by omega,rfl,by go_num,?_⟩
       have e:qav s (j+1)=((j+2:Nat):Int):=by simp only [qav];rw [if_neg (by rw [hbl];decide)]
       exact HS5.out.free hw1 (by rw [e];rfl)
   ·
    obtain rfl:j=7:=by omega
    obtain ⟨vr,⟨c0,c1,c2,c3,hf⟩,ho⟩:=hS.row4
    obtain ⟨d0,d1,d2,d3,df⟩:=row4 hS.res
    obtain ⟨va,vc,rfl⟩:=qaD ho
    have HX:=zH (zA hS.below (qbQ (o:=3) (qbQ (o:=2) (qbQ (o:=1) (qbQ (o:=0) ho (qbD ho hS.res (by decide)) (.bool (qaE s).1)) (qbD ho hS.res (by decide)) (.int .i64 (qaE s).2)) (qbD ho hS.res (by decide)) (.slice va (scanRecs s 7).length vc)) (qbD ho hS.res (by decide)) (.int .i64 (qav s 7))))
    have HV:=zH (show scanR s=⟨(qaE s).1,(qaE s).2,scanRecs s 7,qav s 7⟩ from rfl)
    clear hS ho
    go_wp2_with fail
    refine bodyPost_ret (v:=.tuple #[.agg #[.bool (qaE s).1,.int .i64 (qaE s).2,.slice va (scanRecs s 7).length vc,.int .i64 (qav s 7)],.int .i64 0]) (by simp [results,Tryz.results19,go_sem,d0,d1,d2,d3]) rfl ?_
    exact ⟨_,rfl,HX.out.2,qwx HX.out.1 (Nat.le_refl _) _ _ _ _⟩
end
end Go.Proofs.YtcfdenckiigdaaaGreat

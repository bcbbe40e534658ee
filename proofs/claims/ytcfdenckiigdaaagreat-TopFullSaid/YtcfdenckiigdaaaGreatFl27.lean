/- Part 27 of the contracts. -/
import Derived.Test.YtcfdenckiigdaaaGreatFl26
set_option linter.unusedVariables false
set_option maxRecDepth 100000
set_option maxHeartbeats 4000000
namespace Go.Proofs.YtcfdenckiigdaaaGreat
open Tryz
section
open Go.RowKit
structure bB where
 cn:Bool
 an:Int
 aB:List aX
 free:Int
def eA (s:ByteArray) (i:Nat):List aX:=match dJ (dR s i) with | some r=>if r.kind=0 then [] else [r] | none=>[]
def bw (s:ByteArray):Nat→List aX
 | 0=>[]
 | k+1=>bw s k++eA s (k+1)
def bT (s:ByteArray):Nat→Int
 | 0=>1
 | k+1=>if jG (dR s (k+1))=true then bT s k else ((k+2:Nat):Int)
def cG (s:ByteArray):Bool×Int:=match dJ (dR s 0) with | some r=>if r.kind=0 then (true,r.an) else (false,0) | none=>(false,0)
def iM (s:ByteArray):bB:=⟨(cG s).1,(cG s).2,bw s 7,bT s 7⟩
theorem nN (s:ByteArray) : ∀ k,(bw s k).length≤k
 | 0=>Nat.le_refl _
 | k+1=>by
  have:=nN s k
  have h1:(eA s (k+1)).length≤1:=by
   unfold eA
   split
   ·
    split <;> simp
   ·
    simp
  simp only [bw,List.length_append];omega
def Kv (V:bB) (er:Int) (w:World) (e:Ending) (w':World):Prop := ∃ vr,e=.returned (.tuple #[.agg #[.bool V.cn,.int .i64 V.an,vr,.int .i64 V.free],.int .i64 er])∧w'.ownsRow w.heap.size 74 4 vr V.aB.length (bp V.aB)∧Below w.heap.size w w'
structure gK (w wr:World) (b g:Nat) (s:ByteArray) (kr kf:Nat):Prop where
 ne:b≠g
 below:Below w.heap.size w wr
 res:wr.heap[b]? = some (.cells #[.bool false,.int .i64 0,.slice none 0 0,.int .i64 0] 52 (0,0))
 row : ∃ vr,wr.heap[g]? = some (.cells #[.bool (cG s).1,.int .i64 (cG s).2,vr,.int .i64 (bT s kf)] 52 (0,0))∧wr.ownsRow w.heap.size 74 4 vr (bw s kr).length (bp (bw s kr))
theorem gK.aj {w wr w2:World} {b g kr kf:Nat} {s:ByteArray} (h:gK w wr b g s kr kf) (hb:Below wr.heap.size wr w2):gK w w2 b g s kr kf:=by
 obtain ⟨vr,h1,h2⟩:=h.row
 exact ⟨h.ne,gtr h.below hb,aa hb h.res,vr,aa hb h1,World.ownsRow.aj h2 hb⟩
theorem nS {s:ByteArray} (hs:s.size=512) (i:Nat) (hi:i<8):(dR s i).size=64:=by unfold dR;simp;omega
theorem uA (r:aX):qG (some r) 1900=.tuple #[.agg #[.int .i64 r.kind,.int .i64 r.an,.string r.key,.string r.value],.int .i64 0]:=rfl
theorem uz:qG none 1900=.tuple #[.agg #[.int .i64 0,.int .i64 0,.string ⟨#[]⟩,.string ⟨#[]⟩],.int .i64 1900]:=rfl
theorem sw {w:World} {g:Nat} {a b c d:Value} {t:TypeId} (h:w.heap[g]? = some (.cells #[a,b,c,d] t (0,0))) (x:Value):(w.setCell ⟨g,0,none⟩ x).heap[g]? = some (.cells #[x,b,c,d] t (0,0))∧(w.setCell ⟨g,1,none⟩ x).heap[g]? = some (.cells #[a,x,c,d] t (0,0))∧(w.setCell ⟨g,2,none⟩ x).heap[g]? = some (.cells #[a,b,x,d] t (0,0))∧(w.setCell ⟨g,3,none⟩ x).heap[g]? = some (.cells #[a,b,c,x] t (0,0)) :=
 ⟨az (i:=0) (v:=x) h,az (i:=1) (v:=x) h,az (i:=2) (v:=x) h,az (i:=3) (v:=x) h⟩
theorem gK.cF {w wr:World} {b g kr kf:Nat} {s:ByteArray} (h:gK w wr b g s kr kf) : ∃ vr,(wr.cell? ⟨g,0,none⟩=some (.bool (cG s).1)∧wr.cell? ⟨g,1,none⟩=some (.int .i64 (cG s).2)∧wr.cell? ⟨g,2,none⟩=some vr∧wr.cell? ⟨g,3,none⟩=some (.int .i64 (bT s kf)) ∧ ∀ i,wr.frozen? ⟨g,i,none⟩=false)∧wr.ownsRow w.heap.size 74 4 vr (bw s kr).length (bp (bw s kr)):=by
 obtain ⟨vr,h1,h2⟩:=h.row
 exact ⟨vr,YtcfdenckiigdaaaGreat.cF h1,h2⟩
theorem gK.grow {w wr w2:World} {b g k:Nat} {s:ByteArray} {v v':Value} (h:gK w wr b g s k k) (hw:w.heap.size≤g) (hv:wr.cell? ⟨g,2,none⟩=some v) (hg:wr.grownBy w2 v.ownBlock) (ho:w2.ownsRow w.heap.size 74 4 v' (bw s (k+1)).length (bp (bw s (k+1)))):(∃ x,w2.cell? ⟨g,2,none⟩=some x)∧(∀ i,w2.frozen? ⟨g,i,none⟩=false)∧gK w (w2.setCell ⟨g,2,none⟩ v') b g s (k+1) k:=by
 obtain ⟨vr,h1,h2⟩:=h.row
 obtain rfl:vr=v:=by rw [cell_of h1] at hv;simpa using hv
 have hgl:=aP h1
 have e1:w2.heap[g]? = _:=(hg.block g hgl (cP h2 h1 (by decide))).trans h1
 have e2:w2.heap[b]? = _:=(hg.block b (aP h.res) (cP h2 h.res (by decide))).trans h.res
 have hbl:Below w.heap.size w w2:=h.below.trans ⟨hg.os,hg.tape,hg.output,hg.size,fun i hi=>hg.block i (zV hi h.below.size) (fun e=>by have:=bQ h2 i e.symm;omega)⟩
 refine ⟨⟨_,cell_of e1 2⟩,fun i=>aF e1 i,h.ne,lh hbl hw _,?_,v',(sw e1 v').2.2.1,?_⟩
 ·
  rw [Below.heap_setCell _ _ _ _ h.ne];exact e2
 ·
  rcases ho with ⟨hl,ho⟩
  refine ⟨hl,ho.imp id fun ⟨g2,cap,cur,hv,hB,hh,r⟩=>⟨g2,cap,cur,hv,hB,?_,r⟩⟩
  rw [Below.heap_setCell _ _ _ _ ?_]
  ·
   exact hh
  ·
   show g2≠g
   rintro rfl
   rw [e1] at hh
   simp at hh
theorem gK.same {w wr:World} {b g k:Nat} {s:ByteArray} (h:gK w wr b g s k k) (hs:eA s (k+1)=[]):gK w wr b g s (k+1) k:=by
 obtain ⟨a1,a2,a3,vr,a4,a5⟩:=h
 have e:bw s (k+1)=bw s k:=by simp only [bw];rw [hs,List.append_nil]
 exact ⟨a1,a2,a3,vr,a4,by rw [e];exact a5⟩
theorem gK.free {w wr:World} {b g k:Nat} {s:ByteArray} (h:gK w wr b g s (k+1) k) (hw:w.heap.size≤g) {x:Int} (hx:x=bT s (k+1)):gK w (wr.setCell ⟨g,3,none⟩ (.int .i64 x)) b g s (k+1) (k+1):=by
 obtain ⟨a1,a2,a3,vr,a4,a5⟩:=h
 refine ⟨a1,lh a2 hw _,?_,vr,?_,?_⟩
 ·
  rw [Below.heap_setCell _ _ _ _ a1];exact a3
 ·
  rw [← hx];exact (sw a4 _).2.2.2
 ·
  rcases a5 with ⟨hl,ho⟩
  refine ⟨hl,ho.imp id fun ⟨g2,cap,cur,hv,hB,hh,r⟩=>⟨g2,cap,cur,hv,hB,?_,r⟩⟩
  rw [Below.heap_setCell _ _ _ _ ?_]
  ·
   exact hh
  ·
   show g2≠g
   rintro rfl
   rw [a4] at hh
   simp at hh
theorem wY:(prog.info? 74).map (fun i=>(i.zero,i.size,i.bytes))=some (some (.agg #[.int .i64 0,.int .i64 0,.string ⟨#[]⟩,.string ⟨#[]⟩]),4,48):=by kernel_rfl
theorem xI (s:ByteArray) (w:World) (hs:s.size=512):Calls prog 19 #[.string s] w (Kv (iM s) 0 w):=by
 have HS:=zH (fun i hi w=>EZ s i w hs hi)
 have HZ:=zH (fun i hi=>nS hs i hi)
 have HG:=zH (fun s w=>r7 s w)
 have hbw:=ae (ae (Below.refl w.heap.size w) (.cells #[.bool false,.int .i64 0,.slice none 0 0,.int .i64 0] 52)) (.cells #[.bool false,.int .i64 0,.slice none 0 0,.int .i64 1] 52)
 have hres:=aa (ae (Below.refl _ (w.alloc (.cells #[.bool false,.int .i64 0,.slice none 0 0,.int .i64 0] 52))) (.cells #[.bool false,.int .i64 0,.slice none 0 0,.int .i64 1] 52)) (af w (.cells #[.bool false,.int .i64 0,.slice none 0 0,.int .i64 0] 52))
 have hrow:=af (w.alloc (.cells #[.bool false,.int .i64 0,.slice none 0 0,.int .i64 0] 52)) (.cells #[.bool false,.int .i64 0,.slice none 0 0,.int .i64 1] 52)
 rw [World.size_alloc] at hrow
 have HW:=zH (zA hbw (zA hres hrow))
 clear hbw hres hrow
 go_enter func19,ntmps19
 go_wp2_with fail
 refine (HS.out 0 (by decide) _).mono ?_
 rintro e w1 ⟨rfl,rfl⟩
 generalize (w.alloc (.cells #[.bool false,.int .i64 0,.slice none 0 0,.int .i64 0] 52)).alloc (.cells #[.bool false,.int .i64 0,.slice none 0 0,.int .i64 1] 52)=W at *
 go_wp2_with fail
 refine (HG.out _ _).mono ?_
 rintro e w1 ⟨rfl,hb⟩
 have hres:=aa hb HW.out.2.1
 have hrow:=aa hb HW.out.2.2
 have hB:=zH (gtr HW.out.1 hb)
 obtain ⟨c0,c1,c2,c3,hf⟩:=cF hrow
 have HR:=zH (zA hres hrow)
 clear hb hres hrow HW
 have hlt:w.heap.size+1<w1.heap.size:=aP HR.out.2
 cases hh:dJ (dR s 0)
 case' some =>
  rename_i h0
  rw [uA]
  by_cases k0:h0.kind=0
 case' pos =>
  have HH:=zH (show cG s=(true,h0.an) by unfold cG;rw [hh];simp only;rw [if_pos k0])
  clear hh
  rw [k0]
  go_upto_region 6 with fail
  go_region
  go_upto_region 8 with fail
  have HSC:gK w (((w1.setCell ⟨w.heap.size+1,0,none⟩ (.bool true)).setCell ⟨w.heap.size+1,1,none⟩ (.int .i64 h0.an)).alloc (.cells #[.int .i64 0,.int .i64 h0.an,.string h0.key,.string h0.value] 74)).drew w.heap.size (w.heap.size+1) s 0 0:=by
   refine gK.aj (wr:=(w1.setCell ⟨w.heap.size+1,0,none⟩ (.bool true)).setCell ⟨w.heap.size+1,1,none⟩ (.int .i64 h0.an)) ?_ (au (ae zR _))
   refine ⟨by omega,lh (lh hB.out (by show w.heap.size≤w.heap.size+1;omega) _) (by show w.heap.size≤w.heap.size+1;omega) _,?_,.slice none 0 0,?_,zN⟩
   ·
    rw [Below.heap_setCell _ _ _ _ (by show w.heap.size≠w.heap.size+1;omega),Below.heap_setCell _ _ _ _ (by show w.heap.size≠w.heap.size+1;omega)]
    exact HR.out.1
   ·
    rw [HH.out]
    exact (sw (sw HR.out.2 _).1 _).2.1
  generalize (((w1.setCell ⟨w.heap.size+1,0,none⟩ (.bool true)).setCell ⟨w.heap.size+1,1,none⟩ (.int .i64 h0.an)).alloc (.cells #[.int .i64 0,.int .i64 h0.an,.string h0.key,.string h0.value] 74)).drew=w2 at *
 case' neg =>
  have HH:=zH (show cG s=(false,0) by unfold cG;rw [hh];simp only;rw [if_neg k0])
  have hkx:(h0.kind == 0)=false:=by simpa using k0
  clear hh
  go_upto_region 8 with fail
  have HSC:gK w (w1.alloc (.cells #[.int .i64 h0.kind,.int .i64 h0.an,.string h0.key,.string h0.value] 74)) w.heap.size (w.heap.size+1) s 0 0:=by
   have hx:=ae (Below.refl _ w1) (.cells #[.int .i64 h0.kind,.int .i64 h0.an,.string h0.key,.string h0.value] 74)
   exact ⟨by omega,gtr hB.out hx,aa hx HR.out.1,.slice none 0 0,by rw [HH.out];exact aa hx HR.out.2,zN⟩
  generalize (w1.alloc (.cells #[.int .i64 h0.kind,.int .i64 h0.an,.string h0.key,.string h0.value] 74))=w2 at *
  clear hkx k0
 case' none =>
  rw [uz]
  have HH:=zH (show cG s=(false,0) by unfold cG;rw [hh])
  clear hh
  go_upto_region 8 with fail
  have HSC:gK w (w1.alloc (.cells #[.int .i64 0,.int .i64 0,.string ⟨#[]⟩,.string ⟨#[]⟩] 74)) w.heap.size (w.heap.size+1) s 0 0:=by
   have hx:=ae (Below.refl _ w1) (.cells #[.int .i64 0,.int .i64 0,.string ⟨#[]⟩,.string ⟨#[]⟩] 74)
   exact ⟨by omega,gtr hB.out hx,aa hx HR.out.1,.slice none 0 0,by rw [HH.out];exact aa hx HR.out.2,zN⟩
  generalize (w1.alloc (.cells #[.int .i64 0,.int .i64 0,.string ⟨#[]⟩,.string ⟨#[]⟩] 74))=w2 at *
 all_goals
  have H0:=zH HSC
  clear HSC HH hB c0 c1 c2 c3 hf HR hlt
  go_loopg [7] 7 (fun n i wr => ∃ j:Nat,j≤7∧n=7 - j∧i=.int .i64 ((j+1:Nat):Int)∧gK w wr w.heap.size (w.heap.size+1) s j j)
  case atStart=>exact ⟨0,by omega,rfl,rfl,H0.out⟩
  case round =>
   obtain ⟨j,hj,hn,rfl,hS⟩:=hrel
   have HN:=zH hn
   clear hn
   by_cases hlt:j<7
   ·
    have hlt8:((j+1:Nat):Int)<8:=by omega
    have HS1:=zH hS
    clear hS
    go_wp2_with fail
    refine (HS.out (j+1) (by omega) _).mono ?_
    rintro e w3 ⟨rfl,rfl⟩
    go_wp2_with fail
    refine (HG.out _ _).mono ?_
    rintro e w3 ⟨rfl,hb⟩
    have hS2:=HS1.out.aj hb
    obtain ⟨vr,⟨c0,c1,c2,c3,hf⟩,ho⟩:=hS2.cF
    have HS2:=zH hS2
    have HO:=zH ho
    have hgl:w.heap.size+1<w3.heap.size:=zL w3 _ c0
    clear hb HS1 hS2 ho
    have hjl:=nN s j
    have hw1:w.heap.size≤w.heap.size+1:=by omega
    have HBL:=zH (fun w=>uU (dR s (j+1)) w (by rw [HZ.out (j+1) (by omega)];decide))
    obtain ⟨i0,hi,hz0,hz1,hz2⟩:=info_parts wY
    cases hr:dJ (dR s (j+1))
    case' some =>
     rename_i r
     rw [uA]
     by_cases k:r.kind=0
    case' pos =>
     have hsr:eA s (j+1)=[]:=by unfold eA;rw [hr];simp only;rw [if_pos k]
     rw [k]
     have HSX:=zH ((HS2.out.same hsr).aj (ae (Below.refl _ w3) (.cells #[.int .i64 0,.int .i64 r.an,.string r.key,.string r.value] 74)))
     clear hr hsr HS2 c0 c1 c2 c3 hf
     go_wp2_with fail
     generalize w3.alloc (.cells #[.int .i64 0,.int .i64 r.an,.string r.key,.string r.value] 74)=w4 at *
    case' neg =>
     have hsr:eA s (j+1)=[r]:=by unfold eA;rw [hr];simp only;rw [if_neg k]
     have HR2:=zH (show bw s (j+1)=bw s j++[r] by rw [← hsr];rfl)
     clear hr hsr
     go_wp2_with (at_builtin;refine wpList_append_lies _ rfl _ _ 50 rfl w.heap.size 74 i0 (.agg #[.int .i64 0,.int .i64 0,.string ⟨#[]⟩,.string ⟨#[]⟩]) 4 48 underlying50 hi hz0 hz1 hz2 rfl (by decide) vr (bw s j).length (bp (bw s j)) ?a1 (World.ownsRow.aj HO.out (ae (ae zR _) _)) ⟨w3.heap.size+1,0,none⟩ 1 1 [.int .i64 r.kind,.int .i64 r.an,.string r.key,.string r.value] ?a2 rfl ?a3 ?a4 (by decide) ?a5 ?a6 ?a7 _ rfl ?_)
     case a1=>rfl
     case a2=>rfl
     case a3=>exact World.news_of_block (cs := #[.int .i64 r.kind,.int .i64 r.an,.string r.key,.string r.value]) (t:=74) (fr:=(0,0)) (by simpa using af (w3.alloc _) _)
     case a4=>intro u hu;simp only [List.mem_cons,List.not_mem_nil,or_false] at hu;rcases hu with rfl | rfl | rfl | rfl <;> rfl
     case a5=>simp only [maxLen];omega
     case a6=>omega
     case a7=>have:=HS2.out.below.size;simp only [World.size_alloc];omega
     intro g4 cap4 w' how hgr _ _
     have hgr3:w3.grownBy w' vr.ownBlock:=⟨hgr.os,hgr.tape,hgr.output,by have:=hgr.size;simp only [World.size_alloc] at this;omega,fun i hi hne=>(hgr.block i (by simp only [World.size_alloc];omega) hne).trans ((ae (ae (Below.refl w3.heap.size w3) _) _).block i hi)⟩
     have how2:w'.ownsRow w.heap.size 74 4 (.slice (some ⟨g4,0,none⟩) ((bw s j).length+1) cap4) (bw s (j+1)).length (bp (bw s (j+1))):=by
      rw [HR2.out,kH,List.length_append];exact how
     obtain ⟨⟨y,e2⟩,hf',hSX⟩:=HS2.out.grow hw1 c2 hgr3 how2
     have HSX:=zH hSX
     clear how hgr hgr3 how2 hSX HR2 HS2 c0 c1 c2 c3 hf
     go_wp2_with fail
     generalize w'.setCell ⟨w.heap.size+1,2,none⟩ (.slice (some ⟨g4,0,none⟩) ((bw s j).length+1) cap4)=w4 at *
    case' none =>
     rw [uz]
     have hsr:eA s (j+1)=[]:=by unfold eA;rw [hr]
     have HSX:=zH ((HS2.out.same hsr).aj (ae (Below.refl _ w3) (.cells #[.int .i64 0,.int .i64 0,.string ⟨#[]⟩,.string ⟨#[]⟩] 74)))
     clear hr hsr HS2 c0 c1 c2 c3 hf
     go_wp2_with fail
     generalize w3.alloc (.cells #[.int .i64 0,.int .i64 0,.string ⟨#[]⟩,.string ⟨#[]⟩] 74)=w4 at *
    all_goals
     refine (HBL.out _).mono ?_
     rintro e w5 ⟨rfl,hb5⟩
     have hS5:=HSX.out.aj hb5
     obtain ⟨vr5,⟨d0,d1,d2,d3,df⟩,_⟩:=hS5.cF
     have HS5:=zH hS5
     clear hb5 hS5
     cases hbl:jG (dR s (j+1)) with
     | true =>
      go_wp2
      go_roundg (7 - (j+1))
      case measure=>have:=HN.out;omega
      case rel =>
       refine ⟨j+1,by omega,rfl,by go_num,?_⟩
       have e:bT s (j+1)=bT s j:=by simp only [bT];rw [if_pos hbl]
       obtain ⟨a1,a2,a3,vr,a4,a5⟩:=HS5.out
       exact ⟨a1,a2,a3,vr,by rw [e];exact a4,a5⟩
     | false =>
      go_wp2
      go_roundg (7 - (j+1))
      case measure=>have:=HN.out;omega
      case rel =>
       refine ⟨j+1,by omega,rfl,by go_num,?_⟩
       have e:bT s (j+1)=((j+2:Nat):Int):=by simp only [bT];rw [if_neg (by rw [hbl];decide)]
       exact HS5.out.free hw1 (by rw [e];rfl)
   ·
    obtain rfl:j=7:=by omega
    obtain ⟨vr,⟨c0,c1,c2,c3,hf⟩,ho⟩:=hS.cF
    obtain ⟨d0,d1,d2,d3,df⟩:=cF hS.res
    obtain ⟨va,vc,rfl⟩:=bF ho
    have HX:=zH (zA hS.below (eY (o:=3) (eY (o:=2) (eY (o:=1) (eY (o:=0) ho (cP ho hS.res (by decide)) (.bool (cG s).1)) (cP ho hS.res (by decide)) (.int .i64 (cG s).2)) (cP ho hS.res (by decide)) (.slice va (bw s 7).length vc)) (cP ho hS.res (by decide)) (.int .i64 (bT s 7))))
    have HV:=zH (show iM s=⟨(cG s).1,(cG s).2,bw s 7,bT s 7⟩ from rfl)
    clear hS ho
    go_wp2
    refine bodyPost_ret (v:=.tuple #[.agg #[.bool (cG s).1,.int .i64 (cG s).2,.slice va (bw s 7).length vc,.int .i64 (bT s 7)],.int .i64 0]) (by simp [results,results19,go_sem,d0,d1,d2,d3]) rfl ?_
    exact ⟨_,rfl,HX.out.2,J5 HX.out.1 zY _ _ _ _⟩
end
section
open Go.RowKit
def fM (s:Int):Int:=if s+1 ≥ 8 then 4 else s+1
theorem o7 (s:Int) (w:World) (h0:0≤s) (h1:s≤100):Calls prog 89 #[.int .i64 s] w fun e w'=>e=.returned (.int .i64 (fM s))∧w=w':=by
 have hw:wrap64 (s+1)=s+1:=by unfold wrap64;omega
 by_cases h:s+1 ≥ 8
 ·
  have e:fM s=4:=by unfold fM;rw [if_pos h]
  rw [e];clear e
  go_enter func89,ntmps89
  go_wp2
  go_ret
  exact ⟨rfl,rfl⟩
 ·
  have e:fM s=s+1:=by unfold fM;rw [if_neg h]
  rw [e];clear e
  go_enter func89,ntmps89
  go_wp2
  go_ret
  exact ⟨rfl,rfl⟩
structure L2 (w:World) (b:Nat) (V:bB):Prop where
 ex : ∃ vr,w.heap[b]? = some (.cells #[.bool V.cn,.int .i64 V.an,vr,.int .i64 V.free] 52 (0,0))∧aT w vr V.aB.length 4 (bp V.aB)
structure bB.Ok (V:bB):Prop where
 cn:V.cn=true
 an:1≤V.an∧V.an≤1048576
 free:1≤V.free∧V.free≤8
 len:V.aB.length≤7
 aB : ∀ r ∈ V.aB,gW r
def IG (ps qs:List aK) (w:World) (e:Ending) (w':World):Prop := ∃ x y,e=.returned (.tuple #[x,y,.int .i64 0])∧w'.ownsRow w.heap.size 83 2 x ps.length (aE ps)∧w'.ownsRow w.heap.size 83 2 y qs.length (aE qs)∧Below w.heap.size w w'
theorem xt (b:Nat) (V:bB) (r:aX) (w:World) (h:L2 w b V) (ok:V.Ok) (hr:gW r):Calls prog 172 #[.pointer (some ⟨b,0,none⟩),.agg r.cells] w (IG (cz V.aB) (eG (cz V.aB) r) w):=by
 obtain ⟨vr,hb,hs⟩:=h
 have HBL:=zH (fun w h=>oG vr V.aB w h (by have:=ok.len;omega) ok.aB)
 have HW:=zH (fun v w h=>yd v (cz V.aB) r w h (dx _ V.aB rfl ok.aB).1 (by have:=(dx _ V.aB rfl ok.aB).2;have:=ok.len;omega) hr.1 hr.2)
 have HS:=zH (zA hb hs)
 obtain ⟨c0,c1,c2,c3,hf⟩:=cF hb
 have hbl:b<w.heap.size:=aP hb
 have hg:=ok.cn
 have he:=ok.an
 have hfr:=ok.free
 have HE:=zH (fun n w=>pj n w)
 obtain ⟨va,vc,rfl⟩:=hs.slice
 unfold aX.cells at HW ⊢
 rw [hg] at c0
 clear hb hs hg hr ok
 go_enter func172,ntmps172
 go_wp2_with (go_at_call 114;refine (HE.out _ _).mono ?_;rintro e w' ⟨rfl,rfl⟩)
 have hnb:=ae (Below.refl _ w) (.cells #[.int .i64 r.kind,.int .i64 r.an,.string r.key,.string r.value] 74)
 refine (HBL.out _ (HS.out.2.aj hnb)).mono ?_
 rintro e w1 ⟨x,rfl,ho,hb1⟩
 obtain ⟨d0,d1,d2,d3,df⟩:=cF (aa hb1 (af w (.cells #[.int .i64 r.kind,.int .i64 r.an,.string r.key,.string r.value] 74)))
 have HB1:=zH (zA (gtr hnb hb1) (eX ho hnb.size))
 clear hb1 ho hnb
 obtain ⟨xa,xc,rfl⟩:=bF HB1.out.2
 clear c0 c1 c2 c3 hf
 go_wp2_with fail
 refine (HW.out _ _ (aT.dd HB1.out.2)).mono ?_
 rintro e w2 ⟨y,rfl,ho2,hb2⟩
 have HB2:=zH (zA (gtr HB1.out.1 hb2) (zA (World.ownsRow.aj HB1.out.2 hb2) (eX ho2 HB1.out.1.size)))
 clear hb2 ho2
 go_wp2
 refine bodyPost_ret (v:=.tuple #[.slice xa (cz V.aB).length xc,y,.int .i64 0]) (by simp [results,results172,go_sem]) rfl ?_
 exact ⟨_,_,rfl,HB2.out.2.1,HB2.out.2.2,HB2.out.1⟩
structure fW where
 dH:Int
 av:Int
 bI:List Int
 aB:List aX
 free:Int
 an:Int
def eS (p:aK):aX:=⟨1,0,p.key,p.value⟩
def jJ (av an:Int) (ps:List aK):fW:=⟨av,av,(List.range ps.length).map (fun i:Nat=>(i:Int)+1)++[0],ps.map eS++[⟨0,an,⟨#[]⟩,⟨#[]⟩⟩],ps.length+1,an⟩
def pR (p:fW) (vs vr:Value):Array Value := #[.int .i64 p.dH,.int .i64 p.av,vs,vr,.int .i64 p.free,.int .i64 p.an]
def Bx (p:fW) (w:World) (e:Ending) (w':World):Prop := ∃ vs vr,e=.returned (.agg (pR p vs vr))∧w'.ownsRow w.heap.size 3 1 vs p.bI.length (aC p.bI)∧w'.ownsRow w.heap.size 74 4 vr p.aB.length (bp p.aB)∧Below w.heap.size w w'
structure gJ (w wr:World) (b g:Nat) (av an:Int) (sl:List Int) (rs:List aX) (free:Int):Prop where
 below:Below w.heap.size w wr
 ne:b≠g
 res:wr.heap[b]? = some (.cells #[.int .i64 0,.int .i64 0,.slice none 0 0,.slice none 0 0,.int .i64 0,.int .i64 0] 228 (0,0))
 row : ∃ vs vr,wr.heap[g]? = some (.cells #[.int .i64 av,.int .i64 av,vs,vr,.int .i64 free,.int .i64 an] 228 (0,0))∧wr.ownsRow w.heap.size 3 1 vs sl.length (aC sl)∧wr.ownsRow w.heap.size 74 4 vr rs.length (bp rs)
theorem rN {w w2:World} {B B':Nat} {t t':TypeId} {v v':Value} {n n' sz sz':Nat} {cs cs':List Value} (h:w.ownsRow B t sz v n cs) (h':w.ownsRow B' t' sz' v' n' cs') (ht:t≠t') (hg:w.grownBy w2 v'.ownBlock):w2.ownsRow B t sz v n cs:=by
 refine ⟨h.1,h.2.imp id fun ⟨g,cap,cur,hv,hB,hh,r⟩=>⟨g,cap,cur,hv,hB,?_,r⟩⟩
 exact (hg.block g (aP hh) (cP h' hh (fun e=>ht e.symm))).trans hh
theorem kp {w:World} {g:Nat} {a b c d e f:Value} {t:TypeId} (h:w.heap[g]? = some (.cells #[a,b,c,d,e,f] t (0,0))):w.cell? ⟨g,0,none⟩=some a∧w.cell? ⟨g,1,none⟩=some b∧w.cell? ⟨g,2,none⟩=some c∧w.cell? ⟨g,3,none⟩=some d∧w.cell? ⟨g,4,none⟩=some e∧w.cell? ⟨g,5,none⟩=some f ∧ ∀ i,w.frozen? ⟨g,i,none⟩=false :=
 ⟨cell_of h 0,cell_of h 1,cell_of h 2,cell_of h 3,cell_of h 4,cell_of h 5,fun i=>aF h i⟩
theorem oQ {w w2:World} {N:Nat} {v:Value} {w0:World} (hb:Below N w0 w) (hN:N≤w.heap.size) (ho : ∀ k,v.ownBlock=some k→N≤k) (hg:w.grownBy w2 v.ownBlock):Below N w0 w2 :=
 hb.trans ⟨hg.os,hg.tape,hg.output,hg.size,fun i hi=>hg.block i (zV hi hN) (fun e=>by have:=ho i e.symm;omega)⟩
theorem gJ.aj {w wr w2:World} {b g:Nat} {av an free:Int} {sl:List Int} {rs:List aX} (h:gJ w wr b g av an sl rs free) (hb:Below wr.heap.size wr w2):gJ w w2 b g av an sl rs free:=by
 obtain ⟨vs,vr,h1,h2,h3⟩:=h.row
 exact ⟨gtr h.below hb,h.ne,aa hb h.res,vs,vr,aa hb h1,World.ownsRow.aj h2 hb,World.ownsRow.aj h3 hb⟩
theorem gJ.bI {w wr w2:World} {b g:Nat} {av an free:Int} {sl sl':List Int} {rs:List aX} {v v':Value} (h:gJ w wr b g av an sl rs free) (hw:w.heap.size≤g) (hv:wr.cell? ⟨g,2,none⟩=some v) (hg:wr.grownBy w2 v.ownBlock) (ho:w2.ownsRow w.heap.size 3 1 v' sl'.length (aC sl')):(∃ x,w2.cell? ⟨g,2,none⟩=some x)∧(∀ i,w2.frozen? ⟨g,i,none⟩=false)∧gJ w (w2.setCell ⟨g,2,none⟩ v') b g av an sl' rs free:=by
 obtain ⟨vs,vr,h1,h2,h3⟩:=h.row
 obtain rfl:vs=v:=by rw [cell_of h1] at hv;simpa using hv
 have e1:w2.heap[g]? = _:=(hg.block g (aP h1) (cP h2 h1 (by decide))).trans h1
 have e2:w2.heap[b]? = _:=(hg.block b (aP h.res) (cP h2 h.res (by decide))).trans h.res
 have hb:=oQ h.below h.below.size (bQ h2) hg
 refine ⟨⟨_,cell_of e1 2⟩,fun i=>aF e1 i,lh hb hw _,h.ne,?_,v',vr,az (i:=2) (v:=v') e1,eY ho (cP ho e1 (by decide)) _,eY (rN h3 h2 (by decide) hg) (cP (rN h3 h2 (by decide) hg) e1 (by decide)) _⟩
 rw [Below.heap_setCell _ _ _ _ h.ne];exact e2
theorem gJ.aB {w wr w2:World} {b g:Nat} {av an free:Int} {sl:List Int} {rs rs':List aX} {v v':Value} (h:gJ w wr b g av an sl rs free) (hw:w.heap.size≤g) (hv:wr.cell? ⟨g,3,none⟩=some v) (hg:wr.grownBy w2 v.ownBlock) (ho:w2.ownsRow w.heap.size 74 4 v' rs'.length (bp rs')):(∃ x,w2.cell? ⟨g,3,none⟩=some x)∧(∀ i,w2.frozen? ⟨g,i,none⟩=false)∧gJ w (w2.setCell ⟨g,3,none⟩ v') b g av an sl rs' free:=by
 obtain ⟨vs,vr,h1,h2,h3⟩:=h.row
 obtain rfl:vr=v:=by rw [cell_of h1] at hv;simpa using hv
 have e1:w2.heap[g]? = _:=(hg.block g (aP h1) (cP h3 h1 (by decide))).trans h1
 have e2:w2.heap[b]? = _:=(hg.block b (aP h.res) (cP h3 h.res (by decide))).trans h.res
 have hb:=oQ h.below h.below.size (bQ h3) hg
 refine ⟨⟨_,cell_of e1 3⟩,fun i=>aF e1 i,lh hb hw _,h.ne,?_,vs,v',az (i:=3) (v:=v') e1,eY (rN h2 h3 (by decide) hg) (cP (rN h2 h3 (by decide) hg) e1 (by decide)) _,eY ho (cP ho e1 (by decide)) _⟩
 rw [Below.heap_setCell _ _ _ _ h.ne];exact e2
theorem gJ.MN {w wr:World} {b g:Nat} {av an free:Int} {sl:List Int} {rs:List aX} (h:gJ w wr b g av an sl rs free) (hw:w.heap.size≤g) (x:Int):gJ w (wr.setCell ⟨g,4,none⟩ (.int .i64 x)) b g av an sl rs x:=by
 obtain ⟨vs,vr,h1,h2,h3⟩:=h.row
 refine ⟨lh h.below hw _,h.ne,?_,vs,vr,az (i:=4) (v:=.int .i64 x) h1,eY h2 (cP h2 h1 (by decide)) _,eY h3 (cP h3 h1 (by decide)) _⟩
 rw [Below.heap_setCell _ _ _ _ h.ne];exact h.res
theorem gJ.kp {w wr:World} {b g:Nat} {av an free:Int} {sl:List Int} {rs:List aX} (h:gJ w wr b g av an sl rs free) : ∃ vs vr,(wr.cell? ⟨g,0,none⟩=some (.int .i64 av)∧wr.cell? ⟨g,1,none⟩=some (.int .i64 av)∧wr.cell? ⟨g,2,none⟩=some vs∧wr.cell? ⟨g,3,none⟩=some vr∧wr.cell? ⟨g,4,none⟩=some (.int .i64 free)∧wr.cell? ⟨g,5,none⟩=some (.int .i64 an) ∧ ∀ i,wr.frozen? ⟨g,i,none⟩=false)∧wr.ownsRow w.heap.size 3 1 vs sl.length (aC sl)∧wr.ownsRow w.heap.size 74 4 vr rs.length (bp rs):=by
 obtain ⟨vs,vr,h1,h2,h3⟩:=h.row
 exact ⟨vs,vr,YtcfdenckiigdaaaGreat.kp h1,h2,h3⟩
theorem eO {w w1 w2:World} {r:Option Nat} (hb:Below w.heap.size w w1) (hg:w1.grownBy w2 r):w.grownBy w2 r :=
 ⟨hg.os.trans hb.os,hg.tape.trans hb.tape,hg.output.trans hb.output,Nat.le_trans hb.size hg.size,fun i hi hn=>(hg.block i (zV hi hb.size) hn).trans (hb.block i hi)⟩
def Be (w:World) (g:Nat) (a b c d e f:Value):World:=(((((w.setCell ⟨g,0,none⟩ a).setCell ⟨g,1,none⟩ b).setCell ⟨g,2,none⟩ c).setCell ⟨g,3,none⟩ d).setCell ⟨g,4,none⟩ e).setCell ⟨g,5,none⟩ f
theorem fT {N:Nat} {w0 w:World} {g:Nat} (h:Below N w0 w) (hg:N≤g) (a b c d e f:Value):Below N w0 (Be w g a b c d e f) :=
 ((((((h.setCell (p:=⟨g,0,none⟩) hg a).setCell (p:=⟨g,1,none⟩) hg b).setCell (p:=⟨g,2,none⟩) hg c).setCell (p:=⟨g,3,none⟩) hg d).setCell (p:=⟨g,4,none⟩) hg e).setCell (p:=⟨g,5,none⟩) hg f)
theorem kg {w:World} {B:Nat} {t:TypeId} {v:Value} {n sz:Nat} {cs:List Value} {g:Nat} (h:w.ownsRow B t sz v n cs) (hn:some g≠v.ownBlock) (a b c d e f:Value):(Be w g a b c d e f).ownsRow B t sz v n cs :=
 eY (eY (eY (eY (eY (eY h hn a) hn b) hn c) hn d) hn e) hn f
theorem vg (av an:Int) (v:Value) (ps:List aK) (w:World) (h:aT w v ps.length 2 (aE ps)) (hn:ps.length≤100):Calls prog 173 #[.int .i64 av,.int .i64 an,v] w (Bx (jJ av an ps) w):=by
 have H:=zH h
 have HX:=zH (fun i (hi:i<ps.length)=>dF ps i hi)
 obtain ⟨a,c,rfl⟩:=h.slice
 clear h
 obtain ⟨i0,hi,hz0,hz1,hz2⟩:=info_parts (show (prog.info? 3).map (fun i=>(i.zero,i.size,i.bytes))=some (some (.int .i64 0),1,8) by kernel_rfl)
 obtain ⟨j0,ji,jz0,jz1,jz2⟩:=info_parts wY
 have hg1:w.heap.size≤w.heap.size+1:=by omega
 go_enter func173,ntmps173
 go_wp2
 go_loopg [16] ps.length (fun n i wr => ∃ j:Nat,n=ps.length - j∧i=.int .i64 j∧j≤ps.length∧gJ w wr w.heap.size (w.heap.size+1) av an ((List.range j).map (fun i:Nat=>(i:Int)+1)) ((ps.take j).map eS) (j+1))
 case atStart =>
  refine ⟨0,rfl,rfl,Nat.zero_le _,ae (ae zR _) _,by omega,?_,.slice none 0 0,.slice none 0 0,?_,zN,zN⟩
  ·
   exact aa (ae (Below.refl _ (w.alloc _)) _) (af w _)
  ·
   simpa using af (w.alloc _) _
 case round =>
  obtain ⟨j,hgn,rfl,hj,hM⟩:=hrel
  have HB:=zH (zA hgn hM)
  clear hgn hM
  obtain ⟨vs,vr,⟨c0,c1,c2,c3,c4,c5,hf⟩,hs,hr⟩:=HB.out.2.kp
  have hgl:w.heap.size+1<wr.heap.size:=zL wr _ c0
  by_cases hlt:j<ps.length
  ·
   have hlt':(j:Int)<(ps.length:Int):=by omega
   obtain ⟨b,o,rfl,hc,hx⟩:=H.out.some (by omega)
   obtain ⟨p0,p1⟩:=HX.out j hlt
   have cc : ∀ i u,(aE ps)[2 * j+i]? = some u→wr.cell? ⟨b,o+j * 2+i,none⟩=some u:=fun i u hu=>by
    have e:=hx _ _ hu
    rw [show o+j * 2+i=o+(2 * j+i) by omega]
    exact (HB.out.2.below.cell (p:=⟨b,o+(2 * j+i),none⟩) (zL w _ e)).trans e
   have d0:wr.cell? ⟨b,o+j * 2,none⟩=some (.string ps[j].key):=cc 0 _ p0
   have d1:wr.cell? ⟨b,o+j * 2+1,none⟩=some (.string ps[j].value):=cc 1 _ p1
   have HS:=zH (zA hs hr)
   clear p0 p1 cc hx hs hr
   go_wp2_with (at_builtin;refine wpList_append_lies _ rfl _ _ 22 rfl w.heap.size 3 i0 (.int .i64 0) 1 8 underlying22 hi hz0 hz1 hz2 rfl (by decide) vs ((List.range j).map (fun i:Nat=>(i:Int)+1)).length (aC ((List.range j).map (fun i:Nat=>(i:Int)+1))) ?a1 (World.ownsRow.aj HS.out.1 (ae (ae zR _) _)) ⟨wr.heap.size+1,0,none⟩ 1 1 [.int .i64 ((j:Int)+1)] ?a2 rfl ?a3 ?a4 (by decide) ?a5 ?a6 ?a7 _ rfl ?_)
   case a1=>rfl
   case a2=>rfl
   case a3=>exact World.news_of_block (cs := #[.int .i64 ((j:Int)+1)]) (t:=3) (fr:=(0,0)) (by simpa using af (wr.alloc _) _)
   case a4=>intro u hu;simp only [List.mem_cons,List.not_mem_nil,or_false] at hu;rcases hu with rfl;rfl
   case a5=>simp only [maxLen,List.length_map,List.length_range];omega
   case a6=>simp only [List.length_map,List.length_range];omega
   case a7=>have:=HB.out.2.below.size;simp only [World.size_alloc];omega
   intro g4 cap4 w2 how hgr _ _
   have hgr2:=eO (ae (ae (Below.refl wr.heap.size wr) (.cells #[.string ps[j].key,.string ps[j].value] 83)) (.cells #[.int .i64 ((j:Int)+1)] 3)) hgr
   have hpr:w2.heap[wr.heap.size]? = some (.cells #[.string ps[j].key,.string ps[j].value] 83 (0,0)):=(hgr.block wr.heap.size (by simp only [World.size_alloc];omega) (AY HS.out.1)).trans (aa (ae (Below.refl _ (wr.alloc _)) _) (af wr _))
   have how2:w2.ownsRow w.heap.size 3 1 (.slice (some ⟨g4,0,none⟩) (j+1) cap4) ((List.range (j+1)).map (fun i:Nat=>(i:Int)+1)).length (aC ((List.range (j+1)).map (fun i:Nat=>(i:Int)+1))):=by
    rw [List.range_succ,List.map_append,List.length_append]
    have e:aC ((List.range j).map (fun i:Nat=>(i:Int)+1)++[j].map (fun i:Nat=>(i:Int)+1))=aC ((List.range j).map (fun i:Nat=>(i:Int)+1))++[.int .i64 ((j:Int)+1)]:=by simp [aC]
    rw [e];simp only [List.length_map,List.length_range,List.length_cons,List.length_nil];exact how
   have hgl2:wr.heap.size<w2.heap.size:=aP hpr
   obtain ⟨⟨y,e2⟩,hf',hM2⟩:=HB.out.2.bI hg1 c2 hgr2 how2
   have hpr2:(w2.setCell ⟨w.heap.size+1,2,none⟩ (.slice (some ⟨g4,0,none⟩) (j+1) cap4)).heap[wr.heap.size]? = some (.cells #[.string ps[j].key,.string ps[j].value] 83 (0,0)):=by
    rw [Below.heap_setCell _ _ _ _ (show wr.heap.size≠w.heap.size+1 by omega)];exact hpr
   have HM2:=zH (zA hM2 hpr2)
   clear how hgr hgr2 how2 hM2 hpr hpr2 HS c0 c1 c2 c3 c4 c5 hf d0 d1
   go_upto_region 6 with fail
   generalize w2.setCell ⟨w.heap.size+1,2,none⟩ (.slice (some ⟨g4,0,none⟩) (j+1) cap4)=w3 at *
   clear e2 hf' hgl2
   obtain ⟨vs3,vr3,⟨c0,c1,c2,c3,c4,c5,hf⟩,hs,hr⟩:=HM2.out.1.kp
   have d0:w3.cell? ⟨wr.heap.size,0,none⟩=some (.string ps[j].key):=cell_of HM2.out.2 0
   have d1:w3.cell? ⟨wr.heap.size,1,none⟩=some (.string ps[j].value):=cell_of HM2.out.2 1
   have HS3:=zH (zA hs hr)
   have hgl3:w.heap.size+1<w3.heap.size:=zL w3 _ c0
   clear hs hr
   go_wp2_with (at_builtin;refine wpList_append_lies _ rfl _ _ 50 rfl w.heap.size 74 j0 (.agg #[.int .i64 0,.int .i64 0,.string ⟨#[]⟩,.string ⟨#[]⟩]) 4 48 underlying50 ji jz0 jz1 jz2 rfl (by decide) vr3 ((ps.take j).map eS).length (bp ((ps.take j).map eS)) ?b1 (World.ownsRow.aj HS3.out.2 (ae zR _)) ⟨w3.heap.size,0,none⟩ 1 1 [.int .i64 1,.int .i64 0,.string ps[j].key,.string ps[j].value] ?b2 rfl ?b3 ?b4 (by decide) ?b5 ?b6 ?b7 _ rfl ?_)
   case b1=>rfl
   case b2=>rfl
   case b3=>exact World.news_of_block (cs := #[.int .i64 1,.int .i64 0,.string ps[j].key,.string ps[j].value]) (t:=74) (fr:=(0,0)) (af w3 _)
   case b4=>intro u hu;simp only [List.mem_cons,List.not_mem_nil,or_false] at hu;rcases hu with rfl | rfl | rfl | rfl <;> rfl
   case b5=>simp only [maxLen,List.length_map,List.length_take];omega
   case b6=>simp only [List.length_map,List.length_take];omega
   case b7=>have:=HM2.out.1.below.size;simp only [World.size_alloc];omega
   intro g5 cap5 w4 how hgr _ _
   have hgr2:=eO (ae (Below.refl w3.heap.size w3) (.cells #[.int .i64 1,.int .i64 0,.string ps[j].key,.string ps[j].value] 74)) hgr
   have how2:w4.ownsRow w.heap.size 74 4 (.slice (some ⟨g5,0,none⟩) (j+1) cap5) ((ps.take (j+1)).map eS).length (bp ((ps.take (j+1)).map eS)):=by
    have hjl:((ps.take j).map eS).length=j:=by rw [List.length_map,List.length_take];omega
    rw [← List.map_take] at how
    rw [List.take_succ_eq_append_getElem hlt,List.map_append,List.length_append,List.map_cons,List.map_nil,kH,hjl]
    exact how
   obtain ⟨⟨y5,e2⟩,hf',hM2⟩:=HM2.out.1.aB hg1 c3 hgr2 how2
   have HM3:=zH hM2
   clear how hgr hgr2 how2 hM2 HS3 c0 c1 c2 c3 c4 c5 hf d0 d1 HM2
   go_upto_region 7 with fail
   generalize w4.setCell ⟨w.heap.size+1,3,none⟩ (.slice (some ⟨g5,0,none⟩) (j+1) cap5)=w5 at *
   clear e2 hf'
   obtain ⟨vs5,vr5,⟨c0,c1,c2,c3,c4,c5,hf⟩,hs,hr⟩:=HM3.out.kp
   have HM4:=zH (HM3.out.MN hg1 ((j:Int)+1+1))
   clear hs hr c0 c1 c2 c3 c5
   go_wp2
   go_roundg (ps.length - (j+1))
   case measure=>have:=HB.out.1;omega
   case rel=>exact ⟨j+1,rfl,by go_num,by omega,HM4.out⟩
  ·
   obtain rfl:j=ps.length:=by omega
   have HV:=zH (show jJ av an ps=⟨av,av,(List.range ps.length).map (fun i:Nat=>(i:Int)+1)++[0],ps.map eS++[⟨0,an,⟨#[]⟩,⟨#[]⟩⟩],ps.length+1,an⟩ from rfl)
   rw [List.take_length] at HB hr
   have HS:=zH (zA hs hr)
   clear hs hr
   generalize hsl:(List.range ps.length).map (fun i:Nat=>(i:Int)+1)=sl at *
   generalize hrl:ps.map eS=rl at *
   have hsn:sl.length=ps.length:=by rw [← hsl];simp
   have hrn:rl.length=ps.length:=by rw [← hrl];simp
   clear hsl hrl
   go_wp2_with (at_builtin;refine wpList_append_lies _ rfl _ _ 22 rfl w.heap.size 3 i0 (.int .i64 0) 1 8 underlying22 hi hz0 hz1 hz2 rfl (by decide) vs sl.length (aC sl) ?a1 (World.ownsRow.aj HS.out.1 (ae zR _)) ⟨wr.heap.size,0,none⟩ 1 1 [.int .i64 0] ?a2 rfl ?a3 ?a4 (by decide) ?a5 ?a6 ?a7 _ rfl ?_)
   case a1=>rfl
   case a2=>rfl
   case a3=>exact World.news_of_block (cs := #[.int .i64 0]) (t:=3) (fr:=(0,0)) (af wr _)
   case a4=>intro u hu;simp only [List.mem_cons,List.not_mem_nil,or_false] at hu;rcases hu with rfl;rfl
   case a5=>simp only [maxLen];omega
   case a6=>omega
   case a7=>have:=HB.out.2.below.size;simp only [World.size_alloc];omega
   intro g4 cap4 w2 how hgr _ _
   have hgr2:=eO (ae (Below.refl wr.heap.size wr) (.cells #[.int .i64 0] 3)) hgr
   have how2:w2.ownsRow w.heap.size 3 1 (.slice (some ⟨g4,0,none⟩) (ps.length+1) cap4) (sl++[0]).length (aC (sl++[0])):=by
    rw [List.length_append]
    have e:aC (sl++[0])=aC sl++[.int .i64 0]:=by simp [aC]
    rw [e,hsn];exact how
   obtain ⟨⟨y,e2⟩,hf',hM2⟩:=HB.out.2.bI hg1 c2 hgr2 how2
   have HM2:=zH hM2
   clear how hgr hgr2 how2 hM2 HS c0 c1 c2 c3 c4 c5 hf
   go_upto_region 10 with fail
   generalize w2.setCell ⟨w.heap.size+1,2,none⟩ (.slice (some ⟨g4,0,none⟩) (ps.length+1) cap4)=w3 at *
   clear e2 hf'
   obtain ⟨vs3,vr3,⟨c0,c1,c2,c3,c4,c5,hf⟩,hs,hr⟩:=HM2.out.kp
   have HS3:=zH (zA hs hr)
   have hgl3:w.heap.size+1<w3.heap.size:=zL w3 _ c0
   clear hs hr
   go_wp2_with (at_builtin;refine wpList_append_lies _ rfl _ _ 50 rfl w.heap.size 74 j0 (.agg #[.int .i64 0,.int .i64 0,.string ⟨#[]⟩,.string ⟨#[]⟩]) 4 48 underlying50 ji jz0 jz1 jz2 rfl (by decide) vr3 rl.length (bp rl) ?b1 (World.ownsRow.aj HS3.out.2 (ae zR _)) ⟨w3.heap.size,0,none⟩ 1 1 [.int .i64 0,.int .i64 an,.string ⟨#[]⟩,.string ⟨#[]⟩] ?b2 rfl ?b3 ?b4 (by decide) ?b5 ?b6 ?b7 _ rfl ?_)
   case b1=>rfl
   case b2=>rfl
   case b3=>exact World.news_of_block (cs := #[.int .i64 0,.int .i64 an,.string ⟨#[]⟩,.string ⟨#[]⟩]) (t:=74) (fr:=(0,0)) (af w3 _)
   case b4=>intro u hu;simp only [List.mem_cons,List.not_mem_nil,or_false] at hu;rcases hu with rfl | rfl | rfl | rfl <;> rfl
   case b5=>simp only [maxLen];omega
   case b6=>omega
   case b7=>have:=HM2.out.below.size;simp only [World.size_alloc];omega
   intro g5 cap5 w4 how hgr _ _
   have hgr2:=eO (ae (Below.refl w3.heap.size w3) (.cells #[.int .i64 0,.int .i64 an,.string ⟨#[]⟩,.string ⟨#[]⟩] 74)) hgr
   have how2:w4.ownsRow w.heap.size 74 4 (.slice (some ⟨g5,0,none⟩) (ps.length+1) cap5) (rl++[(⟨0,an,⟨#[]⟩,⟨#[]⟩⟩:aX)]).length (bp (rl++[(⟨0,an,⟨#[]⟩,⟨#[]⟩⟩:aX)])):=by
    rw [List.length_append,kH,hrn];exact how
   obtain ⟨⟨y5,e2⟩,hf',hM2⟩:=HM2.out.aB hg1 c3 hgr2 how2
   have HM3:=zH hM2
   clear how hgr hgr2 how2 hM2 HS3 c0 c1 c2 c3 c4 c5 hf HM2
   go_upto_region 11 with fail
   generalize w4.setCell ⟨w.heap.size+1,3,none⟩ (.slice (some ⟨g5,0,none⟩) (ps.length+1) cap5)=w5 at *
   clear e2 hf'
   obtain ⟨vs5,vr5,⟨c0,c1,c2,c3,c4,c5,hf⟩,hs,hr⟩:=HM3.out.kp
   obtain ⟨d0,d1,d2,d3,d4,d5,df⟩:=kp HM3.out.res
   have HS5:=zH (zA hs hr)
   clear hs hr
   obtain ⟨sa,sc,rfl⟩:=bF HS5.out.1
   obtain ⟨ra,rc,rfl⟩:=bF HS5.out.2
   go_wp2
   refine bodyPost_ret (v:=.agg #[.int .i64 av,.int .i64 av,.slice sa (sl++[0]).length sc,.slice ra (rl++[(⟨0,an,⟨#[]⟩,⟨#[]⟩⟩:aX)]).length rc,.int .i64 (ps.length+1),.int .i64 an]) (by simp [results,results173,go_sem,d0,d1,d2,d3,d4,d5,hsn,hrn]) rfl ?_
   rw [HV.out]
   refine ⟨_,_,rfl,kg HS5.out.1 (cP HS5.out.1 HM3.out.res (by decide)) _ _ _ _ _ _,kg HS5.out.2 (cP HS5.out.2 HM3.out.res (by decide)) _ _ _ _ _ _,fT HM3.out.below zY _ _ _ _ _ _⟩
end
end Go.Proofs.YtcfdenckiigdaaaGreat

/- Part 13 of the contracts. -/
import Derived.Lib.SlicesDelete
import Derived.Shelf.Spec.SlicesInsert
import Derived.Sort.WalkB12
import Derived.WalkLawsBesides
import Derived.Test.YtcfdenckiigdaaaGreatRd12
set_option linter.unusedVariables false
set_option maxRecDepth 100000
set_option maxHeartbeats 4000000
namespace Go.Proofs.YtcfdenckiigdaaaGreat
open Tryz Go.RowKit
def aK (r:aX):ByteArray:=dy (dW (bY r) 32)
def iB (r:aX):Option ByteArray:=if bD r=true then some (aK r) else none
theorem gp {r:aX} (h:bD r=true):(bY r).size≤32:=by
 obtain ⟨hk,hv⟩:=tm h
 have hh:(headText r).size=3+r.key.size:=by unfold headText;rw [ByteArray.size_append];rfl
 unfold bY
 split
 ·
  rw [ByteArray.size_append];show 1+4≤32;decide
 ·
  split
  ·
   rw [ByteArray.size_append,dg _ _ (by rw [ByteArray.size_append,hh];show 1+(3+r.key.size)≤10;omega)];omega
  ·
   rw [ByteArray.size_append,hh];show 1+(3+r.key.size)≤32;omega
theorem sk (r:aX) (w:World):Calls prog 48 #[.agg r.cells] w fun e w'=>e=.returned (pO (iB r) 1900)∧Below w.heap.size w w':=by
 have HM:=zH (fun w=>sj r w)
 have hcell:=zH (show r.cells = #[.int .i64 r.kind,.int .i64 r.an,.string r.key,.string r.value] from rfl)
 rw [hcell.out] at *
 by_cases hm:bD r=true
 ·
  have HH:=zH (fun b w h=>Ev r b w h hm)
  have HP:=zH (fun w=>rS (bY r) 32 w (gp hm) (by decide))
  have HQ:=zH (fun w=>me (dW (bY r) 32) w (dg _ _ (gp hm)))
  have er:=zH (show iB r=some (aK r) by unfold iB;rw [if_pos hm])
  rw [er.out]
  have HR:=zH (show aK r=dy (dW (bY r) 32) from rfl)
  rw [hm] at HM
  generalize aK r=rt at *
  go_enter func48,ntmps48
  go_wp2_with fail
  refine (HM.out _).mono ?_
  rintro e w1 ⟨rfl,hb⟩
  have hb1:=gtr (ae (Below.refl w.heap.size w) (.cells #[.int .i64 r.kind,.int .i64 r.an,.string r.key,.string r.value] 74)) hb
  have hbx:qo w1 w.heap.size r:=⟨74,(0,0),aa hb (af w _)⟩
  have HB:=zH (zA hb1 hbx)
  clear hb hb1 hbx
  go_wp2_with fail
  refine (HH.out _ _ HB.out.2).mono ?_
  rintro e w2 ⟨rfl,hb2⟩
  have HB2:=zH (gtr HB.out.1 hb2)
  clear hb2
  go_wp2_with fail
  refine (HP.out _).mono ?_
  rintro e w3 ⟨rfl,hb3⟩
  have HB3:=zH (gtr HB2.out hb3)
  clear hb3
  go_wp2_with fail
  refine (HQ.out _).mono ?_
  rintro e w4 ⟨rfl,hb4⟩
  rw [← HR.out]
  have HB4:=zH (gtr HB3.out hb4)
  clear hb4
  go_wp2
  go_ret2
  exact ⟨rfl,HB4.out⟩
 ·
  have er:=zH (show iB r=none by unfold iB;rw [if_neg hm])
  rw [er.out]
  rw [show bD r=false by simpa using hm] at HM
  go_enter func48,ntmps48
  go_wp2_with fail
  refine (HM.out _).mono ?_
  rintro e w1 ⟨rfl,hb⟩
  have hb1:=zH (gtr (ae (Below.refl w.heap.size w) (.cells #[.int .i64 r.kind,.int .i64 r.an,.string r.key,.string r.value] 74)) hb)
  clear hb
  go_wp2
  go_ret2
  exact ⟨rfl,hb1.out⟩
def gz (s:ByteArray):aX :=
 if s.extract 0 1=⟨#[72]⟩ then ⟨0,jr (s.extract 1 32),⟨#[]⟩,⟨#[]⟩⟩
 else if s.extract 0 1=⟨#[82]⟩ then ⟨1,0,s.extract 4 (4+min (bt s 1).toNat 6),s.extract 10 (10+min (bt s 2).toNat 20)⟩
 else ⟨2,0,s.extract 4 (4+min (bt s 1).toNat 6),⟨#[]⟩⟩
theorem L6 (s:ByteArray) (w:World) (hs:s.size=32) (h:s.extract 0 1=⟨#[72]⟩):Calls prog 47 #[.string s] w fun e w'=>e=.returned (.agg (⟨0,jr (s.extract 1 32),⟨#[]⟩,⟨#[]⟩⟩:aX).cells)∧Below w.heap.size w w':=by
 have HN:=zH (fun w=>kC (s.extract 1 32) w (by simp;omega))
 have h1:(1:Int)<(s.size:Int):=by omega
 have g1:=gT s 1 (by omega)
 have g2:=gT s 2 (by omega)
 have q1:((s.extract 0 1).toList == [72])=true:=by rw [show [(72:UInt8)]=(⟨#[72]⟩:ByteArray).toList by rw [ByteArray.toList_eq],jx];exact decide_eq_true h
 have hl:min (bt s 1).toNat 6≤6:=Nat.min_le_right _ _
 have hv:min (bt s 2).toNat 20≤20:=Nat.min_le_right _ _
 have e1:min (wrap64 ((bt s 1).toNat:Int)) 6=((min (bt s 1).toNat 6:Nat):Int):=by rw [gC];omega
 have e2:min (wrap64 ((bt s 2).toNat:Int)) 20=((min (bt s 2).toNat 20:Nat):Int):=by rw [gC];omega
 have HE:=zH (zA e1 e2)
 clear e1 e2
 generalize min (bt s 1).toNat 6=L at *
 generalize min (bt s 2).toNat 20=V at *
 go_enter func47,ntmps47
 go_wp2_with fail
 go_region
 rw [HE.out.1,HE.out.2]
 clear HE g1 g2
 generalize wrap64 ((bt s 1).toNat:Int)=j1
 generalize wrap64 ((bt s 2).toNat:Int)=j2
 generalize ((bt s 1).toNat:Int)=j3
 generalize ((bt s 2).toNat:Int)=j4
 go_wp2_with fail
 refine (HN.out _).mono ?_
 rintro e w2 ⟨rfl,rfl⟩
 go_wp2
 refine bodyPost_ret (v:=.agg (⟨0,jr (s.extract 1 32),⟨#[]⟩,⟨#[]⟩⟩:aX).cells) (by simp [results,results47,go_sem,aX.cells]) rfl ⟨rfl,?_⟩
 exact au (ae zR _)
theorem L7 (s:ByteArray) (w:World) (hs:s.size=32) (h : ¬ s.extract 0 1=⟨#[72]⟩) (h':s.extract 0 1=⟨#[82]⟩):Calls prog 47 #[.string s] w fun e w'=>e=.returned (.agg (⟨1,0,s.extract 4 (4+min (bt s 1).toNat 6),s.extract 10 (10+min (bt s 2).toNat 20)⟩:aX).cells)∧Below w.heap.size w w':=by
 have h1:(1:Int)<(s.size:Int):=by omega
 have g1:=gT s 1 (by omega)
 have g2:=gT s 2 (by omega)
 have q1:((s.extract 0 1).toList == [72])=false:=by rw [show [(72:UInt8)]=(⟨#[72]⟩:ByteArray).toList by rw [ByteArray.toList_eq],jx];exact decide_eq_false h
 have q2:((s.extract 0 1).toList == [82])=true:=by rw [show [(82:UInt8)]=(⟨#[82]⟩:ByteArray).toList by rw [ByteArray.toList_eq],jx];exact decide_eq_true h'
 have hl:min (bt s 1).toNat 6≤6:=Nat.min_le_right _ _
 have hv:min (bt s 2).toNat 20≤20:=Nat.min_le_right _ _
 have e1:min (wrap64 ((bt s 1).toNat:Int)) 6=((min (bt s 1).toNat 6:Nat):Int):=by rw [gC];omega
 have e2:min (wrap64 ((bt s 2).toNat:Int)) 20=((min (bt s 2).toNat 20:Nat):Int):=by rw [gC];omega
 have HE:=zH (zA e1 e2)
 clear e1 e2
 generalize min (bt s 1).toNat 6=L at *
 generalize min (bt s 2).toNat 20=V at *
 go_enter func47,ntmps47
 go_wp2_with fail
 go_region
 rw [HE.out.1,HE.out.2]
 clear HE g1 g2
 generalize wrap64 ((bt s 1).toNat:Int)=j1
 generalize wrap64 ((bt s 2).toNat:Int)=j2
 generalize ((bt s 1).toNat:Int)=j3
 generalize ((bt s 2).toNat:Int)=j4
 go_wp2_with fail
 go_region
 go_wp2
 refine bodyPost_ret (v:=.agg (⟨1,0,s.extract 4 (4+L),s.extract 10 (10+V)⟩:aX).cells) (by simp [results,results47,go_sem,aX.cells]) rfl ⟨rfl,?_⟩
 exact au (au (ae zR _))
theorem L8 (s:ByteArray) (w:World) (hs:s.size=32) (h : ¬ s.extract 0 1=⟨#[72]⟩) (h' : ¬ s.extract 0 1=⟨#[82]⟩):Calls prog 47 #[.string s] w fun e w'=>e=.returned (.agg (⟨2,0,s.extract 4 (4+min (bt s 1).toNat 6),⟨#[]⟩⟩:aX).cells)∧Below w.heap.size w w':=by
 have h1:(1:Int)<(s.size:Int):=by omega
 have g1:=gT s 1 (by omega)
 have g2:=gT s 2 (by omega)
 have q1:((s.extract 0 1).toList == [72])=false:=by rw [show [(72:UInt8)]=(⟨#[72]⟩:ByteArray).toList by rw [ByteArray.toList_eq],jx];exact decide_eq_false h
 have q2:((s.extract 0 1).toList == [82])=false:=by rw [show [(82:UInt8)]=(⟨#[82]⟩:ByteArray).toList by rw [ByteArray.toList_eq],jx];exact decide_eq_false h'
 have hl:min (bt s 1).toNat 6≤6:=Nat.min_le_right _ _
 have hv:min (bt s 2).toNat 20≤20:=Nat.min_le_right _ _
 have e1:min (wrap64 ((bt s 1).toNat:Int)) 6=((min (bt s 1).toNat 6:Nat):Int):=by rw [gC];omega
 have e2:min (wrap64 ((bt s 2).toNat:Int)) 20=((min (bt s 2).toNat 20:Nat):Int):=by rw [gC];omega
 have HE:=zH (zA e1 e2)
 clear e1 e2
 generalize min (bt s 1).toNat 6=L at *
 generalize min (bt s 2).toNat 20=V at *
 go_enter func47,ntmps47
 go_wp2_with fail
 go_region
 rw [HE.out.1,HE.out.2]
 clear HE g1 g2
 generalize wrap64 ((bt s 1).toNat:Int)=j1
 generalize wrap64 ((bt s 2).toNat:Int)=j2
 generalize ((bt s 1).toNat:Int)=j3
 generalize ((bt s 2).toNat:Int)=j4
 go_wp2
 refine bodyPost_ret (v:=.agg (⟨2,0,s.extract 4 (4+L),⟨#[]⟩⟩:aX).cells) (by simp [results,results47,go_sem,aX.cells]) rfl ⟨rfl,?_⟩
 exact au (ae zR _)
theorem Dy (s:ByteArray) (w:World) (hs:s.size=32):Calls prog 47 #[.string s] w fun e w'=>e=.returned (.agg (gz s).cells)∧Below w.heap.size w w':=by
 unfold gz
 split
 ·
  rename_i h;exact L6 s w hs h
 ·
  rename_i h
  split
  ·
   rename_i h';exact L7 s w hs h h'
  ·
   rename_i h';exact L8 s w hs h h'
theorem cC {w:World} {g:Nat} {a b c d:Value} {t:TypeId} (h:w.heap[g]? = some (.cells #[a,b,c,d] t (0,0))):w.cell? ⟨g,0,none⟩=some a∧w.cell? ⟨g,1,none⟩=some b∧w.cell? ⟨g,2,none⟩=some c∧w.cell? ⟨g,3,none⟩=some d ∧ ∀ i,w.frozen? ⟨g,i,none⟩=false :=
 ⟨cell_of h 0,cell_of h 1,cell_of h 2,cell_of h 3,fun i=>aF h i⟩
theorem Kn {w w':World} {g:Nat} (h:Below w.heap.size w w') (hg:w.heap.size≤g) (a b c d:Value):Below w.heap.size w ((((w'.setCell ⟨g,0,none⟩ a).setCell ⟨g,1,none⟩ b).setCell ⟨g,2,none⟩ c).setCell ⟨g,3,none⟩ d) :=
 lg (lg (lg (lg h hg _) hg _) hg _) hg _
def kH:aX:=⟨0,0,⟨#[]⟩,⟨#[]⟩⟩
def dI (s:ByteArray):Option aX:=match fx s with
 | none=>none
 | some t=>if iB (gz t)=some s then some (gz t) else none
def qH (r:Option aX) (er:Int):Value:=match r with | some r=>.tuple #[.agg r.cells,.int .i64 0] | none=>.tuple #[.agg kH.cells,.int .i64 er]
theorem rT {s t:ByteArray} (h:fx s=some t):t.size=32:=by
 unfold fx at h
 split at h
 ·
  rename_i hh
  obtain rfl:s.extract 0 32=t:=by simpa using h
  simp;omega
 ·
  cases h
theorem r9 (s:ByteArray) (w:World):Calls prog 26 #[.string s] w fun e w'=>e=.returned (qH (dI s) 1900)∧Below w.heap.size w w':=by
 have HG:=zH (fun w=>qd s w)
 cases hp:fx s with
 | none =>
  have er:=zH (show dI s=none by unfold dI;rw [hp])
  rw [er.out]
  rw [hp] at HG
  unfold pO at HG
  simp only at HG
  have HO:=zH (show qH none 1900=.tuple #[.agg kH.cells,.int .i64 1900] from rfl)
  rw [HO.out]
  clear hp
  go_enter func26,ntmps26
  go_wp2_with fail
  refine (HG.out _).mono ?_
  rintro e w1 ⟨rfl,hb⟩
  have hr:=aa hb (af w _)
  have c0:w1.cell? ⟨w.heap.size,0,none⟩=some (.int .i64 0):=cell_of hr 0
  have c1:w1.cell? ⟨w.heap.size,1,none⟩=some (.int .i64 0):=cell_of hr 1
  have c2:w1.cell? ⟨w.heap.size,2,none⟩=some (.string ⟨#[]⟩):=cell_of hr 2
  have c3:w1.cell? ⟨w.heap.size,3,none⟩=some (.string ⟨#[]⟩):=cell_of hr 3
  have hf : ∀ i,w1.frozen? ⟨w.heap.size,i,none⟩=false:=fun i=>aF hr i
  have HB:=zH (gtr (ae (Below.refl w.heap.size w) _) hb)
  clear hb hr
  go_wp2
  refine bodyPost_ret (v:=.tuple #[.agg kH.cells,.int .i64 1900]) (by simp [results,results26,go_sem,aX.cells,kH,c0,c1,c2,c3]) rfl ⟨rfl,?_⟩
  exact Kn HB.out zY _ _ _ _
 | some t =>
  have ht:=rT hp
  rw [hp] at HG
  have HT:=zH (fun w=>Dy t w ht)
  have HP:=zH (fun w=>sk (gz t) w)
  have HV:=zH (show dI s=if iB (gz t)=some s then some (gz t) else none by unfold dI;rw [hp])
  have HC:=zH (show (gz t).cells = #[.int .i64 (gz t).kind,.int .i64 (gz t).an,.string (gz t).key,.string (gz t).value] from rfl)
  have HO:=zH (show qH none 1900=.tuple #[.agg kH.cells,.int .i64 1900] from rfl)
  have HO1:=zH (show qH (some (gz t)) 1900=.tuple #[.agg (gz t).cells,.int .i64 0] from rfl)
  rw [HV.out]
  unfold pO at HG HP
  simp only at HG
  clear hp
  generalize gz t=r at *
  rw [HC.out] at HT HP HO1
  cases hpo:iB r with
  | none =>
   rw [hpo] at HP
   simp only at HP
   rw [if_neg (by simp),HO.out]
   clear HV HO1 HO
   go_enter func26,ntmps26
   go_wp2_with fail
   refine (HG.out _).mono ?_
   rintro e w1 ⟨rfl,hb⟩
   have hr:=aa hb (af w _)
   have HB:=zH (zA (gtr (ae (Below.refl w.heap.size w) _) hb) hr)
   clear hb hr
   go_wp2_with fail
   refine (HT.out _).mono ?_
   rintro e w2 ⟨rfl,hb⟩
   have HB2:=zH (zA (gtr HB.out.1 hb) (aa hb HB.out.2))
   clear hb HB
   go_wp2_with fail
   refine (HP.out _).mono ?_
   rintro e w3 ⟨rfl,hb⟩
   have HB3:=zH (gtr (ae HB2.out.1 _) hb)
   obtain ⟨c0,c1,c2,c3,hf⟩:=cC (aa hb (aa (ae zR _) HB2.out.2))
   clear hb HB2
   go_wp2
   refine bodyPost_ret (v:=.tuple #[.agg kH.cells,.int .i64 1900]) (by simp [results,results26,go_sem,aX.cells,kH,c0,c1,c2,c3]) rfl ⟨rfl,?_⟩
   exact Kn HB3.out zY _ _ _ _
  | some u =>
   rw [hpo] at HP
   simp only at HP
   by_cases hus:u=s
   ·
    subst hus
    have hne:(!u.toList == u.toList)=false:=by simp
    rw [if_pos rfl,HO1.out]
    clear HV HO HO1
    go_enter func26,ntmps26
    go_wp2_with fail
    refine (HG.out _).mono ?_
    rintro e w1 ⟨rfl,hb⟩
    have hr:=aa hb (af w _)
    have HB:=zH (zA (gtr (ae (Below.refl w.heap.size w) _) hb) hr)
    clear hb hr
    go_wp2_with fail
    refine (HT.out _).mono ?_
    rintro e w2 ⟨rfl,hb⟩
    have HB2:=zH (zA (gtr HB.out.1 hb) (aa hb HB.out.2))
    clear hb HB
    go_wp2_with fail
    refine (HP.out _).mono ?_
    rintro e w3 ⟨rfl,hb⟩
    have HB3:=zH (gtr (ae HB2.out.1 _) hb)
    obtain ⟨c0,c1,c2,c3,hf⟩:=cC (aa hb (aa (ae zR _) HB2.out.2))
    obtain ⟨d0,d1,d2,d3,hf2⟩:=cC (aa hb (af w2 _))
    have HL:=zH HB2.out.1.size
    clear hb HB2
    go_wp2
    refine bodyPost_ret (v:=.tuple #[.agg #[.int .i64 r.kind,.int .i64 r.an,.string r.key,.string r.value],.int .i64 0]) (by simp [results,results26,go_sem,c0,c1,c2,c3]) rfl ⟨rfl,?_⟩
    exact Kn HB3.out zY _ _ _ _
   ·
    have hne:(!u.toList == s.toList)=true:=by rw [jx,decide_eq_false hus];rfl
    rw [if_neg (fun e=>hus (Option.some.inj e)),HO.out]
    clear HV HO HO1
    go_enter func26,ntmps26
    go_wp2_with fail
    refine (HG.out _).mono ?_
    rintro e w1 ⟨rfl,hb⟩
    have hr:=aa hb (af w _)
    have HB:=zH (zA (gtr (ae (Below.refl w.heap.size w) _) hb) hr)
    clear hb hr
    go_wp2_with fail
    refine (HT.out _).mono ?_
    rintro e w2 ⟨rfl,hb⟩
    have HB2:=zH (zA (gtr HB.out.1 hb) (aa hb HB.out.2))
    clear hb HB
    go_wp2_with fail
    refine (HP.out _).mono ?_
    rintro e w3 ⟨rfl,hb⟩
    have HB3:=zH (gtr (ae HB2.out.1 _) hb)
    obtain ⟨c0,c1,c2,c3,hf⟩:=cC (aa hb (aa (ae zR _) HB2.out.2))
    clear hb HB2
    go_wp2
    refine bodyPost_ret (v:=.tuple #[.agg kH.cells,.int .i64 1900]) (by simp [results,results26,go_sem,aX.cells,kH,c0,c1,c2,c3]) rfl ⟨rfl,?_⟩
    exact Kn HB3.out zY _ _ _ _
structure aU (w:World) (v:Value) (n sz:Nat) (cs:List Value):Prop where
 len:cs.length=n * sz
 ex:(v=.slice none 0 0∧n=0) ∨ ∃ b o c,v=.slice (some ⟨b,o,none⟩) n c∧n≤c ∧ ∀ i u,cs[i]? = some u→w.cell? ⟨b,o+i,none⟩=some u
theorem aU.aj {w w':World} {v:Value} {n sz:Nat} {cs:List Value} (h:aU w v n sz cs) (hb:Below w.heap.size w w'):aU w' v n sz cs :=
 ⟨h.len,h.ex.imp id fun ⟨b,o,c,hv,hc,hx⟩=>⟨b,o,c,hv,hc,fun i u hu=>(hb.cell (p:=⟨b,o+i,none⟩) (zL w _ (hx i u hu))).trans (hx i u hu)⟩⟩
theorem aU.nil (w:World) (sz:Nat):aU w (.slice none 0 0) 0 sz []:=⟨by simp,.inl ⟨rfl,rfl⟩⟩
theorem aU.cZ {w:World} {B:Nat} {t:TypeId} {v:Value} {n sz:Nat} {cs:List Value} (h:w.ownsRow B t sz v n cs):aU w v n sz cs:=by
 refine ⟨h.1,?_⟩
 rcases h.2 with h0 | ⟨g,cap,cur,rfl,_,hg,hle,_,hsz,ht⟩
 ·
  exact .inl h0
 ·
  refine .inr ⟨g,0,cap,rfl,hle,fun i u hu => ?_⟩
  rw [cell_of hg,Nat.zero_add,← hu,← ht,List.getElem?_take,if_pos]
  ·
   simp
  ·
   have:=(List.getElem?_eq_some_iff.1 hu).1
   rw [h.1] at this;exact this
theorem cN {w:World} {B:Nat} {t t':TypeId} {v:Value} {n sz:Nat} {cs:List Value} {g:Nat} {c:Array Value} (h:w.ownsRow B t sz v n cs) (hg:w.heap[g]? = some (.cells c t' (0,0))) (ht:t≠t'):some g≠v.ownBlock:=by
 rcases h.2 with ⟨rfl,_⟩ | ⟨k,cap,cur,rfl,_,hk,_⟩
 ·
  exact fun e=>nomatch e
 ·
  intro e
  obtain rfl:g=k:=by simpa [Value.ownBlock] using e
  rw [hg] at hk
  simp at hk
  exact ht hk.2.symm
theorem bZ {w:World} {B:Nat} {t:TypeId} {v:Value} {n sz:Nat} {cs:List Value} (h:w.ownsRow B t sz v n cs) : ∀ k,v.ownBlock=some k→B≤k:=by
 rcases h.2 with ⟨rfl,_⟩ | ⟨k,cap,cur,rfl,hb,hk,_⟩
 ·
  exact fun k e=>nomatch e
 ·
  intro j e
  obtain rfl:k=j:=by simpa [Value.ownBlock] using e
  exact hb
theorem bG {w:World} {B:Nat} {t:TypeId} {v:Value} {n sz:Nat} {cs:List Value} (h:w.ownsRow B t sz v n cs) : ∃ a c,v=.slice a n c:=by
 rcases h.2 with ⟨rfl,rfl⟩ | ⟨g,cap,cur,rfl,_⟩
 ·
  exact ⟨_,_,rfl⟩
 ·
  exact ⟨_,_,rfl⟩
theorem eW {w:World} {B:Nat} {t:TypeId} {v:Value} {n sz:Nat} {cs:List Value} {b o:Nat} (h:w.ownsRow B t sz v n cs) (hn:some b≠v.ownBlock) (x:Value):(w.setCell ⟨b,o,none⟩ x).ownsRow B t sz v n cs:=by
 refine ⟨h.1,h.2.imp id fun ⟨g,cap,cur,hv,hB,hh,r⟩=>⟨g,cap,cur,hv,hB,?_,r⟩⟩
 rw [Below.heap_setCell _ _ _ _ (fun e=>hn (by rw [hv];exact congrArg some e.symm))]
 exact hh
def bp (rs:List aX):List Value:=rs.flatMap fun r=>r.cells.toList
theorem lR (rs:List aX):(bp rs).length=rs.length * 4:=by
 induction rs with
 | nil=>rfl
 | cons r rs ih=>simp only [bp,List.flatMap_cons,List.length_append,List.length_cons] at ih ⊢;rw [ih];simp [aX.cells];omega
theorem kG (rs:List aX) (r:aX):bp (rs++[r])=bp rs++[.int .i64 r.kind,.int .i64 r.an,.string r.key,.string r.value]:=by simp [bp,aX.cells]
def dQ (s:ByteArray) (i:Nat):ByteArray:=s.extract (i * 64) ((i+1) * 64)
def sN (n:Nat):ByteArray:=⟨Array.replicate n 255⟩
def jE (t:ByteArray):Bool:=t.toList == (sN t.size).toList
theorem Fc (s:ByteArray) (i:Nat) (w:World) (hs:s.size=512) (hi:i<8):Calls prog 43 #[.string s,.int .i64 i] w fun e w'=>e=.returned (.string (dQ s i))∧w=w':=by
 go_enter func43,ntmps43
 go_wp2
 go_ret
 refine ⟨?_,rfl⟩
 simp [dQ]
theorem uX (t:ByteArray) (w:World) (ht:t.size≤4096):Calls prog 44 #[.string t] w (vx (jE t) w):=by
 go_enter func44,ntmps44
 go_wp2_with fail
 refine (qe 255 t.size w (by omega)).mono ?_
 rintro e w1 ⟨rfl,hb⟩
 go_wp2
 go_ret
 refine ⟨?_,hb⟩
 simp [jE,sN]
end Go.Proofs.YtcfdenckiigdaaaGreat
namespace Go.Proofs
open Go.Shelf
def Tryz.qD:Go.Shelf.Ren:=⟨fun | 41=>80 | n=>n,fun | 22=>32 | 23=>83 | 4=>4 | n=>n,fun | n=>n⟩
theorem Tryz.oO:Go.Proofs.SlLaysE0.n41 prog Tryz.qD:={ mixed:=by kernel_rfl,f41:=⟨Tryz.f80.name,by decide,func80.trans (congrArg some (by kernel_rfl))⟩,t4:=underlying4,a4:=Tryz.isAgg4,z4:=Tryz.sizeOf4,v4:=Tryz.zeroValue4,t22:=underlying32,a22:=Tryz.isAgg32,z22:=Tryz.sizeOf32,v22:=Tryz.zeroValue32 }
def Tryz.pX:Go.Shelf.Ren:=⟨fun | 41=>175 | n=>n,fun | 22=>50 | 23=>74 | 4=>4 | n=>n,fun | n=>n⟩
theorem Tryz.nQ:Go.Proofs.SlLaysE0.n41 prog Tryz.pX:={ mixed:=by kernel_rfl,f41:=⟨Tryz.f175.name,by decide,func175.trans (congrArg some (by kernel_rfl))⟩,t4:=underlying4,a4:=Tryz.isAgg4,z4:=Tryz.sizeOf4,v4:=Tryz.zeroValue4,t22:=underlying50,a22:=Tryz.isAgg50,z22:=Tryz.sizeOf50,v22:=Tryz.zeroValue50 }
end Go.Proofs
namespace Go.Proofs.YtcfdenckiigdaaaGreat
open Tryz Go.RowKit
section
open Go.RowKit
structure aJ where
 key:ByteArray
 value:ByteArray
def aE (ps:List aJ):List Value:=ps.flatMap fun p=>[.string p.key,.string p.value]
theorem kE (ps:List aJ):(aE ps).length=ps.length * 2:=by
 induction ps with
 | nil=>rfl
 | cons r rs ih=>simp only [aE,List.flatMap_cons,List.length_append,List.length_cons] at ih ⊢;rw [ih];simp;omega
theorem nC : ∀ (ps:List aJ),∀ u ∈ aE ps,u.oneCell'=true:=by
 intro ps u hu
 obtain ⟨p,_,hp⟩:=List.mem_flatMap.1 hu
 simp only [List.mem_cons,List.not_mem_nil,or_false] at hp
 rcases hp with rfl | rfl <;> rfl
theorem Dd : ∀ (rs:List aX),∀ u ∈ bp rs,u.oneCell'=true:=by
 intro rs u hu
 obtain ⟨r,_,hr⟩:=List.mem_flatMap.1 hu
 simp only [aX.cells,List.mem_cons,List.not_mem_nil,or_false] at hr
 rcases hr with rfl | rfl | rfl | rfl <;> rfl
theorem dt (ps:List aJ) (i:Nat) (h:i<ps.length):(aE ps)[2 * i]? = some (.string ps[i].key)∧(aE ps)[2 * i+1]? = some (.string ps[i].value):=by
 induction ps generalizing i with
 | nil=>simp at h
 | cons p ps ih =>
  cases i with
  | zero=>exact ⟨rfl,rfl⟩
  | succ i =>
   have:=ih i (by simpa using h)
   rw [show 2 * (i+1)=2 * i+2 by omega]
   simpa [aE] using this
theorem jG:(prog.info? 83).map (fun i=>(i.zero,i.size,i.bytes))=some (some (.agg #[.string ⟨#[]⟩,.string ⟨#[]⟩]),2,32):=by kernel_rfl
def yO (t:TypeId) (n sz:Nat) (cs:List Value) (w:World) (e:Ending) (w':World):Prop := ∃ v,e=.returned v∧w'.ownsRow w.heap.size t sz v n cs∧Below w.heap.size w w'
theorem sY (v:Value) (ps:List aJ) (w:World) (h:aU w v ps.length 2 (aE ps)) (hn:ps.length≤1000000):Calls prog 80 #[v] w (yO 83 ps.length 2 (aE ps) w):=by
 rcases h.ex with ⟨rfl,h0⟩ | ⟨b,o,c,rfl,hc,hx⟩
 ·
  refine (AnyE.slices_Clone_nil Tryz.oO 0 0 w).mono ?_
  rintro e w' ⟨rfl,rfl⟩
  have:ps=[]:=List.length_eq_zero_iff.1 h0
  subst this
  exact ⟨_,rfl,zN,Below.refl _ _⟩
 ·
  obtain ⟨i0,hi,hz0,hz1,hz2⟩:=info_parts jG
  refine (AnyE.slices_Clone Tryz.oO i0 _ 2 32 hi hz0 hz1 hz2 rfl (by decide) Tryz.sizeOf83 b o ps.length c (aE ps) w (kE ps) (by unfold maxLen;omega) (by omega) hx (nC ps)).mono ?_
  rintro e w' ⟨v',rfl,ho,_,hb⟩
  exact ⟨v',rfl,ho,hb⟩
theorem u5 (v:Value) (rs:List aX) (w:World) (h:aU w v rs.length 4 (bp rs)) (hn:rs.length≤1000000):Calls prog 175 #[v] w (yO 74 rs.length 4 (bp rs) w):=by
 rcases h.ex with ⟨rfl,h0⟩ | ⟨b,o,c,rfl,hc,hx⟩
 ·
  refine (AnyE.slices_Clone_nil Tryz.nQ 0 0 w).mono ?_
  rintro e w' ⟨rfl,rfl⟩
  have:rs=[]:=List.length_eq_zero_iff.1 h0
  subst this
  exact ⟨_,rfl,zN,Below.refl _ _⟩
 ·
  obtain ⟨i0,hi,hz0,hz1,hz2⟩:=info_parts (show (prog.info? 74).map (fun i=>(i.zero,i.size,i.bytes))=some (some (.agg #[.int .i64 0,.int .i64 0,.string ⟨#[]⟩,.string ⟨#[]⟩]),4,48) by kernel_rfl)
  refine (AnyE.slices_Clone Tryz.nQ i0 _ 4 48 hi hz0 hz1 hz2 rfl (by decide) Tryz.sizeOf74 b o rs.length c (bp rs) w (lR rs) (by unfold maxLen;omega) (by omega) hx (Dd rs)).mono ?_
  rintro e w' ⟨v',rfl,ho,_,hb⟩
  exact ⟨v',rfl,ho,hb⟩
def cF (a b:ByteArray):Bool:=Op.bytesLess a.toList b.toList
def AS (a b:ByteArray):Int:=if cF a b=true then -1 else if (a.toList == b.toList)=true then 0 else 1
theorem GV (a b:ByteArray) (w:World):Calls prog 119 #[.string a,.string b] w fun e w'=>e=.returned (.int .i64 (AS a b))∧w=w':=by
 go_enter func119,ntmps119
 go_wp2
 all_goals
  go_ret
  refine ⟨?_,rfl⟩
  simp_all [AS,cF]
theorem GH (k v t:ByteArray) (w:World):Calls prog 118 #[.agg #[.string k,.string v],.string t] w fun e w'=>e=.returned (.int .i64 (AS k t))∧Below w.heap.size w w':=by
 have HC:=zH (fun a b w=>GV a b w)
 go_enter func118,ntmps118
 go_wp2_with fail
 refine (HC.out _ _ _).mono ?_
 rintro e w1 ⟨rfl,rfl⟩
 go_wp2
 go_ret
 exact ⟨rfl,ae zR _⟩
theorem Cf (k v t:ByteArray) (b:Nat) (w:World) (h:w.cell? ⟨b,0,none⟩=some (.string t)):Calls prog 137 #[.agg #[.string k,.string v],.pointer (some ⟨b,0,none⟩)] w fun e w'=>e=.returned (.bool (k.toList == t.toList))∧Below w.heap.size w w':=by
 have hb:b<w.heap.size:=zL w _ h
 go_enter func137,ntmps137
 go_wp2
 go_ret
 exact ⟨rfl,ae zR _⟩
end
theorem aU.slice {w:World} {v:Value} {n sz:Nat} {cs:List Value} (h:aU w v n sz cs) : ∃ a c,v=.slice a n c:=by
 rcases h.ex with ⟨rfl,h0⟩ | ⟨b,o,c,rfl,_⟩
 ·
  exact ⟨none,0,by rw [h0]⟩
 ·
  exact ⟨_,_,rfl⟩
theorem aU.some {w:World} {a:Option Addr} {c n sz:Nat} {cs:List Value} (h:aU w (.slice a n c) n sz cs) (hn:0<n) : ∃ b o,a=some ⟨b,o,none⟩∧n≤c ∧ ∀ i u,cs[i]? = some u→w.cell? ⟨b,o+i,none⟩=some u:=by
 rcases h.ex with ⟨_,h0⟩ | ⟨b,o,c',hv,hc,hx⟩
 ·
  omega
 ·
  simp only [Value.slice.injEq,true_and] at hv
  obtain ⟨rfl,rfl⟩:=hv
  exact ⟨b,o,rfl,hc,hx⟩
def jf (ps:List aJ) (k:ByteArray):Nat:=(ps.takeWhile fun p=>cF p.key k).length
def BA (ps:List aJ) (k:ByteArray):Bool:=match ps[jf ps k]? with | some p=>p.key.toList == k.toList | none=>false
def Mp (ps:List aJ) (k:ByteArray):Prop := ∀ i j (hi:i<ps.length) (hj:j<ps.length),i≤j→cF ps[j].key k=true→cF ps[i].key k=true
theorem Lm (ps:List aJ) (k:ByteArray) (n:Nat) (hn:n≤ps.length) (h1 : ∀ i (hi:i<ps.length),i<n→cF ps[i].key k=true) (h2 : ∀ i (hi:i<ps.length),n≤i→cF ps[i].key k=false):jf ps k=n:=by
 induction ps generalizing n with
 | nil=>simp at hn;simp [jf,hn]
 | cons p ps ih =>
  cases n with
  | zero =>
   have:=h2 0 (by simp) zY
   simp only [List.getElem_cons_zero] at this
   simp [jf,this]
  | succ n =>
   have:=h1 0 (by simp) (by omega)
   simp only [List.getElem_cons_zero] at this
   have e:=ih n (by simpa using hn) (fun i hi hl=>by have:=h1 (i+1) (by simpa using hi) (by omega);simpa using this) (fun i hi hl=>by have:=h2 (i+1) (by simpa using hi) (by omega);simpa using this)
   unfold jf at e ⊢
   rw [List.takeWhile_cons,if_pos this,List.length_cons,e]
def vV (i:Nat) (b:Bool) (w:World) (e:Ending) (w':World):Prop:=e=.returned (.tuple #[.int .i64 i,.bool b])∧Below w.heap.size w w'
theorem Bo (v:Value) (ps:List aJ) (k:ByteArray) (w:World) (h:aU w v ps.length 2 (aE ps)) (hn:ps.length≤1000000) (hm:Mp ps k):Calls prog 117 #[v,.string k,.func (.func 118) #[] #[]] w (vV (jf ps k) (BA ps k) w):=by
 obtain ⟨a,c,rfl⟩:=h.slice
 have H:=zH h
 have HC:=zH (fun k v t w=>GH k v t w)
 clear h
 go_enter func117,ntmps117
 go_wp2
 go_loopg [9,10] ps.length (fun n x y wr => ∃ i j:Nat,i≤j∧j≤ps.length∧n=j - i∧x=.int .i64 i∧y=.int .i64 j∧Below w.heap.size w wr∧(∀ q (hq:q<ps.length),q<i→cF ps[q].key k=true)∧(∀ q (hq:q<ps.length),j≤q→cF ps[q].key k=false))
 case atStart=>exact ⟨0,ps.length,Nat.zero_le _,Nat.le_refl _,rfl,rfl,rfl,Below.refl _ _,fun q _ h=>absurd h (Nat.not_lt_zero _),fun q h h'=>absurd h (by omega)⟩
 case round =>
  obtain ⟨i,j,hij,hj,hgn,rfl,rfl,hb,h1,h2⟩:=hrel
  have HX:=zH (zA hgn (zA hb (zA h1 h2)))
  clear hgn hb h1 h2
  by_cases hlt:i<j
  ·
   have hlt':(i:Int)<(j:Int):=by omega
   obtain ⟨m,hmd⟩ : ∃ m,m=(i+j) / 2:=⟨_,rfl⟩
   have hmi:((i:Int)+(j:Int)) / 2=(m:Int):=by omega
   have hml:m<ps.length:=by omega
   have hmr:i≤m∧m<j:=by omega
   clear hmd
   obtain ⟨b,o,rfl,hc,hx⟩:=H.out.some (by omega)
   obtain ⟨p0,p1⟩:=dt ps m hml
   have hbw:=HX.out.2.1
   have e0:=hx (2 * m) _ p0
   have e1:=hx (2 * m+1) _ p1
   have hmk:(m:Int)<(ps.length:Int):=by omega
   have c0:wr.cell? ⟨b,o+m * 2,none⟩=some (.string ps[m].key):=by rw [show o+m * 2=o+2 * m by omega];exact (hbw.cell (p:=⟨b,o+2 * m,none⟩) (zL w _ e0)).trans e0
   have c1:wr.cell? ⟨b,o+m * 2+1,none⟩=some (.string ps[m].value):=by rw [show o+m * 2+1=o+(2 * m+1) by omega];exact (hbw.cell (p:=⟨b,o+(2 * m+1),none⟩) (zL w _ e1)).trans e1
   clear p0 p1 e0 e1 hx hbw
   go_wp2_with fail
   refine (HC.out _ _ _ _).mono ?_
   rintro e w1 ⟨rfl,hb⟩
   have HB:=zH (gtr HX.out.2.1 hb)
   clear hb
   have hcmp:AS ps[m].key k<0 ↔ cF ps[m].key k=true:=by
    unfold AS
    split
    ·
     simp [*]
    ·
     split <;> simp [*]
   by_cases hl:cF ps[m].key k=true
   ·
    have hneg:AS ps[m].key k<0:=hcmp.2 hl
    have HL:=zH hl
    clear hl hcmp
    go_wp2
    go_roundg (j - (m+1))
    case measure=>have:=HX.out.1;omega
    case rel =>
     refine ⟨m+1,j,by omega,hj,rfl,by go_num,rfl,HB.out,fun q hq hqm=>hm q m hq hml (by omega) HL.out,HX.out.2.2.2⟩
   ·
    have hneg : ¬ AS ps[m].key k<0:=fun h=>hl (hcmp.1 h)
    have HL:=zH hl
    clear hl hcmp
    go_wp2
    go_roundg (m - i)
    case measure=>have:=HX.out.1;omega
    case rel =>
     refine ⟨i,m,by omega,by omega,rfl,rfl,rfl,HB.out,HX.out.2.2.1,fun q hq hqm => ?_⟩
     cases hq':cF ps[q].key k with
     | false=>rfl
     | true=>exact absurd (hm m q hml hq hqm hq') HL.out
  ·
   obtain rfl:i=j:=by omega
   have hid:=Lm ps k i hj HX.out.2.2.1 HX.out.2.2.2
   have HB:=zH (zA HX.out.2.1 (zA hid HX.out.2.2.2))
   clear HX hid
   by_cases hil:i<ps.length
   ·
    obtain ⟨b,o,rfl,hc,hx⟩:=H.out.some (by omega)
    obtain ⟨p0,p1⟩:=dt ps i hil
    have e0:=hx (2 * i) _ p0
    have e1:=hx (2 * i+1) _ p1
    have hbw:=HB.out.1
    have hmk:(i:Int)<(ps.length:Int):=by omega
    have c0:wr.cell? ⟨b,o+i * 2,none⟩=some (.string ps[i].key):=by rw [show o+i * 2=o+2 * i by omega];exact (hbw.cell (p:=⟨b,o+2 * i,none⟩) (zL w _ e0)).trans e0
    have c1:wr.cell? ⟨b,o+i * 2+1,none⟩=some (.string ps[i].value):=by rw [show o+i * 2+1=o+(2 * i+1) by omega];exact (hbw.cell (p:=⟨b,o+(2 * i+1),none⟩) (zL w _ e1)).trans e1
    clear p0 p1 e0 e1 hx hbw
    have hnl:=HB.out.2.2 i hil zY
    have hcz:(AS ps[i].key k == 0)=(ps[i].key.toList == k.toList):=by
     unfold AS
     rw [if_neg (by rw [hnl];decide)]
     split
     ·
      rename_i h;rw [h];rfl
     ·
      rename_i h;rw [show (ps[i].key.toList == k.toList)=false by simpa using h];rfl
    have HZ:=zH (zA hcz (show BA ps k=(ps[i].key.toList == k.toList) by unfold BA;rw [HB.out.2.1,List.getElem?_eq_getElem hil]))
    clear hnl hcz
    go_wp2_with fail
    refine (HC.out _ _ _ _).mono ?_
    rintro e w1 ⟨rfl,hb⟩
    have HB2:=zH (gtr HB.out.1 hb)
    clear hb
    go_wp2
    go_ret2
    exact ⟨by rw [HB.out.2.1,HZ.out.2,HZ.out.1];rfl,HB2.out⟩
   ·
    have hmk : ¬ (i:Int)<(ps.length:Int):=by omega
    go_wp2
    go_ret2
    refine ⟨?_,HB.out.1⟩
    rw [HB.out.2.1]
    have:BA ps k=false:=by unfold BA;rw [HB.out.2.1,List.getElem?_eq_none (by omega)]
    rw [this];rfl
theorem Ja (v:Value) (ps:List aJ) (k:ByteArray) (w:World) (h:aU w v ps.length 2 (aE ps)) (hn:ps.length≤1000000) (hm:Mp ps k):Calls prog 81 #[v,.string k] w (vV (jf ps k) (BA ps k) w):=by
 have HS:=zH (Bo v ps k w h hn hm)
 obtain ⟨a,c,rfl⟩:=h.slice
 clear h
 go_enter func81,ntmps81
 go_wp2_with fail
 refine HS.out.mono ?_
 rintro e w1 ⟨rfl,hb⟩
 go_wp2
 go_ret2
 exact ⟨rfl,hb⟩
theorem pQ (w:World) (dT sT ty elem:TypeId) (b o dLen dCap:Nat) (a:Addr) (sLen sCap:Nat) (cs:List Value) (hu:prog.underlying dT=some (.slice elem)) (hs:(prog.info? elem).map (·.size)=some 2) (hn:cs.length=Nat.min sLen dLen * 2) (hsrc : ∀ j v,cs[j]? = some v→w.cell? (a.add j)=some v) (hc : ∀ j,j<cs.length→(w.cell? ⟨b,o+j,none⟩).isSome=true) (hf : ∀ j,j<cs.length→w.frozen? ⟨b,o+j,none⟩=false) (h1 : ∀ v ∈ cs,v.oneCell'=true):(Builtin.copy_ #[dT,sT] ty #[.slice (some ⟨b,o,none⟩) dLen dCap,.slice (some a) sLen sCap]).run prog w=.ok (goInt (Nat.min sLen dLen)) (w.setCells b o cs):=by
 have hl:=run_loadCells_list (P:=prog) w a cs hsrc
 have hst:=run_storeCells_cells (P:=prog) b o cs 0 w (by simpa using hc) (by simpa using hf) h1
 cases hq:prog.info? elem with
 | none=>simp [hq] at hs
 | some i =>
  have hi:i.size=2:=by simpa [hq] using hs
  simp [Builtin.copy_,run_underlying hu,Builtin.lenOf,Builtin.firstCells,sizeOf,typeInfo,hq,hi,← hn,hl,hst]
theorem E8 (w:World) (t e ty:TypeId) (z0 z1:Value) (ht:prog.underlying t=some (.slice e)) (hv : ∀ w,(zeroValue e).run prog w=.ok (.agg #[z0,z1]) w) (h1:z0.oneCell'=true∧z1.oneCell'=true) (b o c:Nat) (hc : ∀ j,j<2→(w.cell? ⟨b,o+j,none⟩).isSome=true) (hf : ∀ j,j<2→w.frozen? ⟨b,o+j,none⟩=false):(Builtin.clear_ #[t] ty #[.slice (some ⟨b,o,none⟩) 1 c]).run prog w=.ok (.tuple #[]) (w.setCells b o [z0,z1]):=by
 have hst:=run_storeCells_cells (P:=prog) b o [z0,z1] 0 w (by simpa using hc) (by simpa using hf) (by intro v hv';simp at hv';rcases hv' with rfl | rfl;exact h1.1;exact h1.2)
 simp only [Nat.add_zero] at hst
 have hzc:(Builtin.zeroCells (Value.agg #[z0,z1]).cells 1).toList=[z0,z1]:=by
  have e0:(Value.agg #[z0,z1]).cells = #[z0,z1]:=rfl
  rw [e0]
  simp only [Builtin.zeroCells]
  rw [show (#[z0,z1]:Array Value).size=2 from rfl,show Array.range (1 * 2) = #[0,1] by decide]
  simp
 simp [Builtin.clear_,run_underlying ht,hv,hzc,hst]
theorem E3 (cur:Array Value) (o:Nat) (vs:List Value):(putAt cur o vs).size=cur.size:=by
 induction vs generalizing cur o with
 | nil=>rfl
 | cons v vs ih=>rw [putAt,ih];simp
theorem Il (cur:Array Value) (o:Nat) (vs:List Value) (h:o+vs.length≤cur.size) (j:Nat):(putAt cur o vs)[j]? = if o≤j∧j<o+vs.length then vs[j - o]? else cur[j]? := by
 induction vs generalizing cur o with
 | nil=>rw [putAt,if_neg (by simp only [List.length_nil];omega)]
 | cons v vs ih =>
  rw [putAt,ih _ _ (by simp at h ⊢;omega)]
  simp only [List.length_cons] at h ⊢
  by_cases h1:o+1≤j∧j<o+1+vs.length
  ·
   rw [if_pos h1,if_pos (by omega),show j - o=(j - (o+1))+1 by omega,List.getElem?_cons_succ]
  ·
   rw [if_neg h1]
   by_cases h2:j=o
   ·
    subst h2
    rw [if_pos (by omega),Nat.sub_self,Array.getElem?_setIfInBounds_self_of_lt (by omega)];rfl
   ·
    rw [if_neg (by omega),Array.getElem?_setIfInBounds_ne (by omega)]
theorem sw (g:Nat) : ∀ (vs:List Value) (o:Nat) (w:World) (cur:Array Value) (t:TypeId),w.heap[g]? = some (.cells cur t (0,0))→(w.setCells g o vs).heap[g]? = some (.cells (putAt cur o vs) t (0,0))
 | [],o,w,cur,t,h=>h
 | v::vs,o,w,cur,t,h=>sw g vs (o+1) _ _ t (az (i:=o) (v:=v) h)
theorem fz {N:Nat} {w0:World} (g:Nat) (hg:N≤g) : ∀ (vs:List Value) (o:Nat) (w:World),Below N w0 w→Below N w0 (w.setCells g o vs)
 | [],o,w,h=>h
 | v::vs,o,w,h=>fz g hg vs (o+1) _ (h.setCell (p:=⟨g,o,none⟩) hg v)
structure jC (w:World) (B g cap n:Nat) (cs:List Value) (cur:Array Value):Prop where
 heap:w.heap[g]? = some (.cells cur 83 (0,0))
 base:B≤g
 le:n≤cap
 max:cap≤maxLen
 size:cur.size=cap * 2
 len:cs.length=n * 2
 FD : ∀ j,j<n * 2→cur[j]? = cs[j]?
theorem jC.of {w:World} {B n:Nat} {v:Value} {cs:List Value} (h:w.ownsRow B 83 2 v n cs):(v=.slice none 0 0∧n=0∧cs=[]) ∨ ∃ g cap cur,v=.slice (some ⟨g,0,none⟩) n cap∧jC w B g cap n cs cur:=by
 rcases h.2 with ⟨h1,h2⟩ | ⟨g,cap,cur,hv,hb,hh,hle,hm,hs,ht⟩
 ·
  refine .inl ⟨h1,h2,?_⟩
  have:=h.1
  rw [h2] at this
  exact List.length_eq_zero_iff.1 (by simpa using this)
 ·
  refine .inr ⟨g,cap,cur,hv,hh,hb,hle,hm,hs,h.1,fun j hj => ?_⟩
  rw [← ht,List.getElem?_take,if_pos hj]
  simp
theorem jC.own {w:World} {B g cap n:Nat} {cs:List Value} {cur:Array Value} (h:jC w B g cap n cs cur):w.ownsRow B 83 2 (.slice (some ⟨g,0,none⟩) n cap) n cs:=by
 refine ⟨h.len,.inr ⟨g,cap,cur,rfl,h.base,h.heap,h.le,h.max,h.size,?_⟩⟩
 refine List.ext_getElem? fun j => ?_
 rw [List.getElem?_take]
 split
 ·
  rename_i hj
  rw [← h.FD j hj]
  simp
 ·
  rename_i hj
  rw [List.getElem?_eq_none (by rw [h.len];omega)]
theorem jC.cell {w:World} {B g cap n:Nat} {cs:List Value} {cur:Array Value} (h:jC w B g cap n cs cur):(∀ j u,cs[j]? = some u→w.cell? ⟨g,j,none⟩=some u)∧(∀ j,j<cap * 2→(w.cell? ⟨g,j,none⟩).isSome=true) ∧ ∀ j,w.frozen? ⟨g,j,none⟩=false:=by
 refine ⟨fun j u hu => ?_,fun j hj => ?_,fun j=>aF h.heap j⟩
 ·
  have hj:j<n * 2:=by have:=(List.getElem?_eq_some_iff.1 hu).1;rw [h.len] at this;exact this
  rw [cell_of h.heap,h.FD j hj,hu]
 ·
  rw [cell_of h.heap,Array.getElem?_eq_getElem (by rw [h.size];exact hj)];rfl
theorem jC.set {w:World} {B g cap n:Nat} {cs:List Value} {cur:Array Value} (h:jC w B g cap n cs cur) (o:Nat) (vs:List Value) (ho:o+vs.length≤cap * 2) (n':Nat) (cs':List Value) (hn:n'≤cap) (hl:cs'.length=n' * 2) (hx : ∀ j,j<n' * 2→(if o≤j∧j<o+vs.length then vs[j - o]? else cur[j]?)=cs'[j]?):jC (w.setCells g o vs) B g cap n' cs' (putAt cur o vs) :=
 ⟨sw g vs o w cur 83 h.heap,h.base,hn,h.max,by rw [E3,h.size],hl,fun j hj=>by rw [Il _ _ _ (by rw [h.size];exact ho)];exact hx j hj⟩
def qZ (w0:World) (n:Nat) (cs:List Value) (e:Ending) (w':World):Prop := ∃ v,e=.returned v∧w'.ownsRow w0.heap.size 83 2 v n cs∧Below w0.heap.size w0 w'
theorem AU (w0 w:World) (g cap n i:Nat) (cs:List Value) (cur:Array Value) (h:jC w w0.heap.size g cap n cs cur) (hb:Below w0.heap.size w0 w) (hi:i<n) (h1 : ∀ u ∈ cs,u.oneCell'=true):Calls prog 82 #[.slice (some ⟨g,0,none⟩) n cap,.int .i64 i,.int .i64 ((i:Int)+1)] w (qZ w0 (n - 1) (cs.take (2 * i)++cs.drop (2 * i+2))):=by
 obtain ⟨i0,hi0,hz0,hz1,hz2⟩:=info_parts jG
 have hcl:=h.len
 have hle:=h.le
 have hmx:=h.max
 unfold maxLen at hmx
 obtain ⟨ha,hs,hf⟩:=h.cell
 have hdl:(cs.drop (2 * i+2)).length=(n - (i+1)) * 2:=by rw [List.length_drop,hcl];omega
 have hne : ¬ ((i:Int)=(i:Int)+1):=by omega
 have hni:(i:Int)+1≤(n:Int):=by omega
 have HH:=zH h
 have HB:=zH hb
 obtain ⟨A,hA,hsrc⟩ : ∃ A:Addr,(if cap=i+1 then some (⟨g,0,none⟩:Addr) else some ⟨g,(i+1) * 2,none⟩)=some A∧Hid (∀ t u,(cs.drop (2 * i+2))[t]? = some u→w.drew.cell? (A.add t)=some u):=by
  by_cases hc:cap=i+1
  ·
   refine ⟨⟨g,0,none⟩,by simp [hc],zH fun t u hu => ?_⟩
   have h0:(cs.drop (2 * i+2)).length=0:=by rw [hdl];omega
   rw [List.length_eq_zero_iff.1 h0] at hu
   simp at hu
  ·
   refine ⟨⟨g,(i+1) * 2,none⟩,by simp [hc],zH fun t u hu => ?_⟩
   rw [List.getElem?_drop] at hu
   rw [dh]
   show w.cell? _=_
   rw [show (i+1) * 2+t=2 * i+2+t by omega]
   exact ha _ u hu
 have s1:Hid ((cs.drop (2 * i+2)).length=(n - (i+1)) * 2):=zH hdl
 have s2:Hid (∀ u ∈ cs.drop (2 * i+2),u.oneCell'=true):=zH fun u hu=>h1 u (List.mem_of_mem_drop hu)
 have s3:Hid (∀ t,t<(cs.drop (2 * i+2)).length→(w.drew.cell? ⟨g,0+i * 2+t,none⟩).isSome=true∧w.drew.frozen? ⟨g,0+i * 2+t,none⟩=false):=zH fun t ht=>by
  rw [hdl] at ht
  exact ⟨hs _ (by omega),hf _⟩
 have hrow1:jC (w.drew.setCells g (0+i * 2) (cs.drop (2 * i+2))) w0.heap.size g cap (n - 1) (cs.take (2 * i)++cs.drop (2 * i+2)) (putAt cur (0+i * 2) (cs.drop (2 * i+2))):=by
  have hd:jC w.drew w0.heap.size g cap n cs cur:=⟨h.heap,h.base,h.le,h.max,h.size,h.len,h.FD⟩
  refine hd.set _ _ (by rw [hdl];omega) (n - 1) _ (by omega) (by rw [List.length_append,List.length_take,hdl,hcl];omega) fun j hj => ?_
  rw [hdl]
  by_cases hj1:0+i * 2≤j∧j<0+i * 2+(n - (i+1)) * 2
  ·
   rw [if_pos hj1,List.getElem?_append_right (by rw [List.length_take,hcl];omega),List.length_take,hcl]
   congr 1
   omega
  ·
   rw [if_neg hj1,List.getElem?_append_left (by rw [List.length_take,hcl];omega),List.getElem?_take,if_pos (by omega)]
   exact h.FD j (by omega)
 have hW:Hid (∀ W,W=w.drew.setCells g (0+i * 2) (cs.drop (2 * i+2))→jC W w0.heap.size g cap (n - 1) (cs.take (2 * i)++cs.drop (2 * i+2)) (putAt cur (0+i * 2) (cs.drop (2 * i+2)))∧Below w0.heap.size w0 W):=zH fun W e=>by
  subst e
  exact ⟨hrow1,fz g h.base _ _ _ hb.drew⟩
 obtain ⟨W1,hW1⟩ : ∃ W1,W1=w.drew.setCells g (0+i * 2) (cs.drop (2 * i+2)):=⟨_,rfl⟩
 obtain ⟨hr1,hb1⟩:=hW.out W1 hW1
 obtain ⟨xa,xs,xf⟩:=hr1.cell
 have hclr : ∀ ty c,(Builtin.clear_ #[32] ty #[.slice (some ⟨g,(n - 1) * 2,none⟩) 1 c]).run prog W1=.ok (.tuple #[]) (W1.setCells g ((n - 1) * 2) [.string ⟨#[]⟩,.string ⟨#[]⟩]):=fun ty c =>
  E8 W1 32 83 ty _ _ underlying32 Tryz.zeroValue83 ⟨rfl,rfl⟩ g _ c (fun j hj=>xs _ (by omega)) (fun j _=>xf _)
 have hfin:Hid (jC (W1.setCells g ((n - 1) * 2) [.string ⟨#[]⟩,.string ⟨#[]⟩]) w0.heap.size g cap (n - 1) (cs.take (2 * i)++cs.drop (2 * i+2)) _∧Below w0.heap.size w0 (W1.setCells g ((n - 1) * 2) [.string ⟨#[]⟩,.string ⟨#[]⟩])) :=
  zH ⟨hr1.set _ _ (by simp only [List.length_cons,List.length_nil];omega) (n - 1) _ (by omega) hr1.len (fun j hj=>by rw [if_neg (by simp only [List.length_cons,List.length_nil];omega)];exact hr1.FD j hj),fz g hr1.base _ _ _ hb1⟩
 have hWH:Hid (W1=w.drew.setCells g (0+i * 2) (cs.drop (2 * i+2))):=zH hW1
 clear hrow1 ha hs hf h hW hW1 hr1 hb1 xa xs xf hb hdl HH HB
 have e1:i+(n - (i+1))=n - 1:=by omega
 have hclr2 : ∀ ty c,(Builtin.clear_ #[32] ty #[.slice (some ⟨g,(i+(n - (i+1))) * 2,none⟩) (n - (i+(n - (i+1)))) c]).run prog W1=.ok (.tuple #[]) (W1.setCells g ((n - 1) * 2) [.string ⟨#[]⟩,.string ⟨#[]⟩]):=fun ty c=>by
  rw [e1,show n - (n - 1)=1 by omega]
  exact hclr ty c
 have HE:=zH e1
 clear e1 hclr
 have mixed:prog.follows Departure.mixedOrders=true:=by kernel_rfl
 have hic:i≤cap:=by omega
 have hjc:i+1≤cap:=by omega
 have hin:i≤n:=by omega
 have htn:((i:Int)+1).toNat=i+1:=by omega
 have hb0:(0:Int)≤(i:Int)+1:=by omega
 have hjn:i+1≤n:=by omega
 go_enter func82,ntmps82
 go_wp2_with fail
 go_region_law_o (refine step_append_room rfl (.tmp 22) (.tmp 25) 32 rfl 83 i0 2 underlying32 hi0 hz1 g 0 i cap (by simp [Act.eval,Act.put]) A (n - (i+1)) (cap - (i+1)) (cs.drop (2 * i+2)) (by simp [Act.eval,Act.put]) s1.out hsrc.out s2.out (by omega) s3.out ?_;rw [← hWH.out])
 go_wp2
 go_ret
 exact ⟨_,rfl,by rw [HE.out];exact hfin.out.1.own,hfin.out.2⟩
def vS (w:World) (vb:Nat) (k v:ByteArray):Prop:=w.heap[vb]? = some (.cells #[.string k,.string v] 83 (0,0))
def ve (cs:List Value) (i:Nat) (k v:ByteArray):List Value:=cs.take (2 * i)++[.string k,.string v]++cs.drop (2 * i)
theorem vS.cells {w:World} {vb:Nat} {k v:ByteArray} (h:vS w vb k v) : ∀ j u,([.string k,.string v]:List Value)[j]? = some u→w.cell? ⟨vb,0+j,none⟩=some u:=fun j u hu=>by
 rw [Nat.zero_add,cell_of h]
 rw [← hu]
 match j with
 | 0=>rfl
 | 1=>rfl
 | j+2=>simp at hu
theorem jJ {w0 w w':World} {v:Value} (hb:Below w0.heap.size w0 w) (ho : ∀ k,v.ownBlock=some k→w0.heap.size≤k) (hg:w.grownBy w' v.ownBlock):Below w0.heap.size w0 w' :=
 hb.trans ⟨hg.os,hg.tape,hg.output,hg.size,fun i hi=>hg.block i (zV hi hb.size) (fun e=>by have:=ho i e.symm;omega)⟩
theorem Ex (w0 w:World) (x:Value) (n vb vc:Nat) (cs:List Value) (k v:ByteArray) (h:w.ownsRow w0.heap.size 83 2 x n cs) (hb:Below w0.heap.size w0 w) (hn:n≤1000000) (h2:vS w vb k v):Calls prog 83 #[x,.int .i64 n,.slice (some ⟨vb,0,none⟩) 1 vc] w (qZ w0 (n+1) (cs++[.string k,.string v])):=by
 obtain ⟨i0,hi,hz0,hz1,hz2⟩:=info_parts jG
 have hx:(∃ c,x=.slice none n c∧c=0∧n=0) ∨ ∃ g c,x=.slice (some ⟨g,0,none⟩) n c∧n≤c∧(c:Int)≤9223372036854775807:=by
  rcases h.2 with ⟨rfl,rfl⟩ | ⟨g,cap,cur,rfl,_,_,h3,h4,_⟩
  ·
   exact .inl ⟨0,rfl,rfl,rfl⟩
  ·
   exact .inr ⟨g,cap,rfl,h3,by unfold maxLen at h4;omega⟩
 have HO:=zH h
 have HB:=zH (zA hb (bZ h))
 have H2:=zH h2.cells
 have hmb:w0.heap.size≤w.heap.size:=hb.size
 clear h hb h2
 rcases hx with ⟨c,rfl,rfl,rfl⟩ | ⟨g,c,rfl,hc,hc2⟩
 all_goals
  go_enter func83,ntmps83
  go_wp2_with (at_builtin;refine wpList_append_own _ rfl _ _ 32 rfl w0.heap.size 83 i0 (.agg #[.string ⟨#[]⟩,.string ⟨#[]⟩]) 2 32 underlying32 hi hz0 hz1 hz2 rfl (by decide) _ _ _ rfl HO.out ⟨vb,0,none⟩ 1 vc [.string k,.string v] rfl rfl (fun j u hu=>by rw [dh];exact H2.out j u hu) (fun u hu=>by simp at hu;rcases hu with rfl | rfl <;> rfl) (by unfold maxLen;omega) (by omega) hmb ?_)
  all_goals
   intro v' w' ho hg _
   have HX:=zH (zA ho (jJ HB.out.1 HB.out.2 hg))
   clear ho hg
   go_wp2
   go_ret
   exact ⟨_,rfl,HX.out.1,HX.out.2⟩
theorem Cy (w0 w:World) (g cap n i vb vc:Nat) (cs:List Value) (cur:Array Value) (k v:ByteArray) (h:jC w w0.heap.size g cap n cs cur) (hb:Below w0.heap.size w0 w) (hi:i<n) (hroom:n+1≤cap) (h2:vS w vb k v) (hvb:vb≠g) (h1 : ∀ u ∈ cs,u.oneCell'=true):Calls prog 83 #[.slice (some ⟨g,0,none⟩) n cap,.int .i64 i,.slice (some ⟨vb,0,none⟩) 1 vc] w (qZ w0 (n+1) (ve cs i k v)):=by
 have hsz:(prog.info? 83).map (·.size)=some 2:=by
  obtain ⟨i0,hi0,hz0,hz1,hz2⟩:=info_parts jG
  rw [hi0];simp [hz1]
 have hmx:=h.max
 unfold maxLen at hmx
 have hcl:=h.len
 obtain ⟨xa,xs,xf⟩:=h.cell
 have hov : ∀ lb cb,(callFunc 120 #[.slice (some ⟨vb,0,none⟩) 1 vc,.slice (some ⟨g,(i+1) * 2,none⟩) lb cb]).run prog w=.ok (.value (.bool false)) w:=fun lb cb=>by
  rw [run_callFunc_extern func120 (by kernel_rfl) (by kernel_rfl) (by kernel_rfl) (e:=Extern.SlicesOverlaps.overlaps #[32,32] #[4]) (by kernel_rfl),Lib.run_overlaps_apart w 32 4 83 underlying32 2 Tryz.sizeOf83 ⟨vb,0,none⟩ ⟨g,(i+1) * 2,none⟩ 1 vc lb cb hvb 83 83 2 cur.size (by unfold World.shape?;rw [h2];rfl) (by unfold World.shape?;rw [h.heap]) (by rw [h.size];omega) (aF h2 0) (aF h2 2)]
  rfl
 have hdl:(cs.drop (2 * i)).length=(n - i) * 2:=by rw [List.length_drop,hcl];omega
 have mixed:prog.follows Departure.mixedOrders=true:=by kernel_rfl
 have hw1:IntKind.i64.wrap ((i:Int)+1)=(i:Int)+1:=by rw [IntKind.wrap_i64];omega
 have hb1:(0:Int)≤(i:Int)+1:=by omega
 have hin:i≤n:=by omega
 have hne : ¬ ((i:Int)=(n:Int)):=by omega
 have htn:((i:Int)+1).toNat=i+1:=by omega
 have hb2 : ¬ (cap=i+1):=by omega
 have hb3:(i:Int)≤(n:Int)+1:=by omega
 have hb4 : ¬ (cap=i):=by omega
 have hrm : ¬ ((cap:Int)<(n:Int)+1):=by omega
 have hcp1 : ∀ ty dc sc,(Builtin.copy_ #[32,32] ty #[.slice (some ⟨g,(i+1) * 2,none⟩) (n - i) dc,.slice (some ⟨g,i * 2,none⟩) (n+1 - i) sc]).run prog w.drew=.ok (goInt (Nat.min (n+1 - i) (n - i))) (w.drew.setCells g ((i+1) * 2) (cs.drop (2 * i))):=fun ty dc sc =>
  pQ w.drew 32 32 ty 83 g ((i+1) * 2) (n - i) dc ⟨g,i * 2,none⟩ (n+1 - i) sc (cs.drop (2 * i)) underlying32 hsz (by rw [hdl];simp only [Nat.min_def];split <;> omega) (fun j u hj=>by rw [dh,show i * 2+j=2 * i+j by omega];exact xa (2 * i+j) u (by rwa [List.getElem?_drop] at hj)) (fun j hj=>xs _ (by omega)) (fun j _=>xf _) (fun u hu=>h1 u (List.mem_of_mem_drop hu))
 have hd:jC w.drew w0.heap.size g cap n cs cur:=⟨h.heap,h.base,h.le,h.max,h.size,h.len,h.FD⟩
 have hr1:jC (w.drew.setCells g ((i+1) * 2) (cs.drop (2 * i))) w0.heap.size g cap (n+1) (cs.take (2 * i)++[cur.getD (2 * i) undef,cur.getD (2 * i+1) undef]++cs.drop (2 * i)) (putAt cur ((i+1) * 2) (cs.drop (2 * i))):=by
  have hlt:(cs.take (2 * i)).length=2 * i:=by rw [List.length_take,hcl];omega
  refine hd.set _ _ (by rw [hdl];omega) (n+1) _ hroom (by simp only [List.length_append,hlt,hdl,List.length_cons,List.length_nil];omega) fun j hj => ?_
  rw [hdl]
  by_cases hj1:(i+1) * 2≤j∧j<(i+1) * 2+(n - i) * 2
  ·
   rw [if_pos hj1,List.getElem?_append_right (by simp only [List.length_append,hlt,List.length_cons,List.length_nil];omega)]
   simp only [List.length_append,hlt,List.length_cons,List.length_nil]
   congr 1
   omega
  ·
   rw [if_neg hj1,List.getElem?_append_left (by simp only [List.length_append,hlt,List.length_cons,List.length_nil];omega)]
   by_cases hj2:j<2 * i
   ·
    rw [List.getElem?_append_left (by rw [hlt];exact hj2),List.getElem?_take,if_pos hj2]
    exact h.FD j (by omega)
   ·
    rw [List.getElem?_append_right (by rw [hlt];omega),hlt]
    have hc:j<cur.size:=by rw [h.size];omega
    obtain rfl | rfl:j=2 * i∨j=2 * i+1:=by omega
    ·
     rw [Nat.sub_self];simp [hc]
    ·
     rw [show 2 * i+1 - 2 * i=1 by omega];simp [hc]
 obtain ⟨W1,hW1⟩ : ∃ W1,W1=w.drew.setCells g ((i+1) * 2) (cs.drop (2 * i)):=⟨_,rfl⟩
 rw [← hW1] at hcp1 hr1
 have hbW1:Below w0.heap.size w0 W1:=by rw [hW1];exact fz g h.base _ _ _ hb.drew
 have h2W : ∀ j u,([.string k,.string v]:List Value)[j]? = some u→W1.cell? ⟨vb,0+j,none⟩=some u:=fun j u hu=>by
  rw [hW1,World.cell?_setCells_out g _ _ _ _ (fun e _=>absurd e hvb)]
  exact h2.cells j u hu
 obtain ⟨ya,ys,yf⟩:=hr1.cell
 have hcp2 : ∀ ty dc,(Builtin.copy_ #[32,32] ty #[.slice (some ⟨g,i * 2,none⟩) (n+1 - i) dc,.slice (some ⟨vb,0,none⟩) 1 vc]).run prog W1=.ok (goInt (Nat.min 1 (n+1 - i))) (W1.setCells g (i * 2) [.string k,.string v]):=fun ty dc =>
  pQ W1 32 32 ty 83 g (i * 2) (n+1 - i) dc ⟨vb,0,none⟩ 1 vc [.string k,.string v] underlying32 hsz (by simp only [List.length_cons,List.length_nil,Nat.min_def];split <;> omega) (fun j u hj=>by rw [dh];exact h2W j u hj) (fun j hj=>ys _ (by simp only [List.length_cons,List.length_nil] at hj;omega)) (fun j _=>yf _) (fun u hu=>by simp at hu;rcases hu with rfl | rfl <;> rfl)
 have hfin:Hid (jC (W1.setCells g (i * 2) [.string k,.string v]) w0.heap.size g cap (n+1) (ve cs i k v) (putAt (putAt cur ((i+1) * 2) (cs.drop (2 * i))) (i * 2) [.string k,.string v])∧Below w0.heap.size w0 (W1.setCells g (i * 2) [.string k,.string v])):=by
  have hlt:(cs.take (2 * i)).length=2 * i:=by rw [List.length_take,hcl];omega
  refine zH ⟨hr1.set _ _ (by simp only [List.length_cons,List.length_nil];omega) (n+1) _ hroom (by unfold ve;simp only [List.length_append,hlt,hdl,List.length_cons,List.length_nil];omega) fun j hj => ?_,fz g h.base _ _ _ hbW1⟩
  simp only [List.length_cons,List.length_nil]
  unfold ve
  by_cases hj1:i * 2≤j∧j<i * 2+(0+1+1)
  ·
   rw [if_pos hj1,List.getElem?_append_left (by simp only [List.length_append,hlt,List.length_cons,List.length_nil];omega),List.getElem?_append_right (by rw [hlt];omega),hlt]
   congr 1
   omega
  ·
   rw [if_neg hj1,hr1.FD j hj]
   by_cases hj2:j<2 * i
   ·
    rw [List.getElem?_append_left (by simp only [List.length_append,hlt,List.length_cons,List.length_nil];omega),List.getElem?_append_left (by rw [hlt];exact hj2),List.getElem?_append_left (by simp only [List.length_append,hlt,List.length_cons,List.length_nil];omega),List.getElem?_append_left (by rw [hlt];exact hj2)]
   ·
    rw [List.getElem?_append_right (by simp only [List.length_append,hlt,List.length_cons,List.length_nil];omega),List.getElem?_append_right (by simp only [List.length_append,hlt,List.length_cons,List.length_nil];omega)]
    simp only [List.length_append,hlt,List.length_cons,List.length_nil]
 clear hr1 hbW1 h2W ya ys yf hd xa xs xf hdl h hb hW1
 go_enter func83,ntmps83
 go_wp2_with (simp only [hov])
 go_region_law_o (refine step_copy_runI rfl _ _ 32 32 rfl _ _ (by simp [Act.eval,Act.put]) (by simp [Act.eval,Act.put]) (hcp1 _ _ _) ?_)
 go_wp2_with (at_builtin;refine wpList_copy_runI _ rfl _ _ 32 32 rfl _ _ rfl rfl (hcp2 _ _) ?_)
 go_ret
 exact ⟨_,rfl,hfin.out.1.own,hfin.out.2⟩
end Go.Proofs.YtcfdenckiigdaaaGreat

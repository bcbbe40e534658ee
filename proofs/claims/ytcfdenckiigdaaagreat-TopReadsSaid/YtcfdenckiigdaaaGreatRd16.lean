/- Part 16 of the contracts. -/
import Derived.Test.YtcfdenckiigdaaaGreatRd15
set_option linter.unusedVariables false
set_option maxRecDepth 100000
set_option maxHeartbeats 4000000
namespace Go.Proofs.YtcfdenckiigdaaaGreat
open Tryz Go.RowKit
def lA:fJ:=⟨0,0,[],[],0,0⟩
def cA (V:bC) (av:Int) (r:aX):Int×fJ :=
 if (iI (cn V.aC) r.key).isSome=false∧r.kind=2 then (2202,lA)
 else if 7<(eI (cn V.aC) r).length then (2201,lA)
 else if V.free<8 then (0,⟨-1,av,[V.free],[r],V.free+1,V.an⟩)
 else if 1048576≤V.an then (2201,lA)
 else (0,jI (fK av) (V.an+1) (eI (cn V.aC) r))
def vP (c:Int×fJ) (w:World) (e:Ending) (w':World):Prop := ∃ vs vr,e=.returned (.tuple #[.agg (pP c.2 vs vr),.int .i64 c.1])∧w'.ownsRow w.heap.size 3 1 vs c.2.bJ.length (aB c.2.bJ)∧w'.ownsRow w.heap.size 74 4 vr c.2.aC.length (bp c.2.aC)∧Below w.heap.size w w'
theorem oD (er:Int) {w w':World} (hb:Below w.heap.size w w'):vP (er,lA) w (.returned (.tuple #[.agg #[.int .i64 0,.int .i64 0,.slice none 0 0,.slice none 0 0,.int .i64 0,.int .i64 0],.int .i64 er])) w' :=
 ⟨_,_,rfl,zN,zN,hb⟩
theorem vI {w:World} {B b n sz:Nat} {cs:Array Value} {t:TypeId} (h:w.heap[b]? = some (.cells cs t (0,0))) (hB:B≤b) (hl:cs.size=n * sz) (hn:n≤1000):w.ownsRow B t sz (.slice (some ⟨b,0,none⟩) n n) n cs.toList :=
 ⟨by simpa using hl,.inr ⟨b,n,cs,rfl,hB,h,Nat.le_refl _,by unfold maxLen;omega,hl,List.take_of_length_le (Nat.le_of_eq hl)⟩⟩
theorem Iu (w:World) (g:Nat) (a b c d e f:Value):(Bp w g a b c d e f).heap.size=w.heap.size:=by simp [Bp]
theorem vL {w:World} {g:Nat} {a0 b0 c0 d0 e0 f0:Value} {t:TypeId} (h:w.heap[g]? = some (.cells #[a0,b0,c0,d0,e0,f0] t (0,0))) (a b c d e f:Value):(Bp w g a b c d e f).heap[g]? = some (.cells #[a,b,c,d,e,f] t (0,0)) :=
 az (i:=5) (v:=f) (az (i:=4) (v:=e) (az (i:=3) (v:=d) (az (i:=2) (v:=c) (az (i:=1) (v:=b) (az (i:=0) (v:=a) h)))))
theorem tu (V:bC) (vr:Value) (av:Int) (r:aX) (w:World) (hs:aU w vr V.aC.length 4 (bp V.aC)) (ok:V.Ok) (hr:gW r) (s0:4≤av) (s1:av<8):Calls prog 133 #[.agg #[.bool V.ck,.int .i64 V.an,vr,.int .i64 V.free],.int .i64 av,.agg r.cells] w (vP (cA V av r) w):=by
 have HL:=zH (fun b w h=>xB b V r w h ok hr)
 have HF:=zH (fun v w h=>p9 v (cn V.aC) r.key w h (by have:=(dx _ V.aC rfl ok.aC).2;have:=ok.len;omega))
 have HM:=zH (fun sec ep v w h=>vj sec ep v (eI (cn V.aC) r) w h (by have:=(dx _ V.aC rfl ok.aC);have:=(nN this.1 hr).2;have:=ok.len;omega))
 have HN:=zH (fun w=>oV av w (by omega) (by omega))
 have hve:=ok.an
 have hvf:=ok.free
 have HS:=zH hs
 obtain ⟨va,vc,rfl⟩:=hs.slice
 have hnb:=ae (ae (ae (Below.refl w.heap.size w) (.cells #[.bool V.ck,.int .i64 V.an,.slice va V.aC.length vc,.int .i64 V.free] 52)) (.cells #[.int .i64 r.kind,.int .i64 r.an,.string r.key,.string r.value] 74)) (.cells #[.int .i64 0,.int .i64 0,.slice none 0 0,.slice none 0 0,.int .i64 0,.int .i64 0] 228)
 have e0:=aa (ae (ae (Below.refl _ (w.alloc _)) (.cells #[.int .i64 r.kind,.int .i64 r.an,.string r.key,.string r.value] 74)) (.cells #[.int .i64 0,.int .i64 0,.slice none 0 0,.slice none 0 0,.int .i64 0,.int .i64 0] 228)) (af w (.cells #[.bool V.ck,.int .i64 V.an,.slice va V.aC.length vc,.int .i64 V.free] 52))
 have e1:=aa (ae (Below.refl _ ((w.alloc (.cells #[.bool V.ck,.int .i64 V.an,.slice va V.aC.length vc,.int .i64 V.free] 52)).alloc _)) (.cells #[.int .i64 0,.int .i64 0,.slice none 0 0,.slice none 0 0,.int .i64 0,.int .i64 0] 228)) (af (w.alloc _) (.cells #[.int .i64 r.kind,.int .i64 r.an,.string r.key,.string r.value] 74))
 have e2:=af ((w.alloc (.cells #[.bool V.ck,.int .i64 V.an,.slice va V.aC.length vc,.int .i64 V.free] 52)).alloc (.cells #[.int .i64 r.kind,.int .i64 r.an,.string r.key,.string r.value] 74)) (.cells #[.int .i64 0,.int .i64 0,.slice none 0 0,.slice none 0 0,.int .i64 0,.int .i64 0] 228)
 simp only [World.size_alloc] at e1 e2
 have HW:=zH (zA hnb (zA e0 (zA e1 e2)))
 clear hnb e0 e1 e2 hs
 have HC:=zH (show cA V av r=if (iI (cn V.aC) r.key).isSome=false∧r.kind=2 then (2202,lA) else if 7<(eI (cn V.aC) r).length then (2201,lA) else if V.free<8 then (0,⟨-1,av,[V.free],[r],V.free+1,V.an⟩) else if 1048576≤V.an then (2201,lA) else (0,jI (fK av) (V.an+1) (eI (cn V.aC) r)) from rfl)
 unfold aX.cells at HL ⊢
 generalize cA V av r=cr at *
 generalize iI (cn V.aC) r.key=fl at *
 generalize cn V.aC=now at *
 generalize eI now r=then_ at *
 clear ok hr
 go_enter func133,ntmps133
 go_upto_region 1 with fail
 generalize ((w.alloc (.cells #[.bool V.ck,.int .i64 V.an,.slice va V.aC.length vc,.int .i64 V.free] 52)).alloc (.cells #[.int .i64 r.kind,.int .i64 r.an,.string r.key,.string r.value] 74)).alloc (.cells #[.int .i64 0,.int .i64 0,.slice none 0 0,.slice none 0 0,.int .i64 0,.int .i64 0] 228)=W at *
 obtain ⟨c0,c1,c2,c3,hf⟩:=cC HW.out.2.2.1
 go_wp2_with fail
 refine (HL.out _ _ ⟨_,HW.out.2.1,HS.out.aj HW.out.1⟩).mono ?_
 rintro e w1 ⟨x,y,rfl,hx,hy,hb⟩
 have HB:=zH (zA (gtr HW.out.1 hb) (zA (aa hb HW.out.2.1) (zA (aa hb HW.out.2.2.1) (zA (aa hb HW.out.2.2.2) (zA hx hy)))))
 clear hb hx hy c0 c1 c2 c3 hf HW
 obtain ⟨xa,xc,rfl⟩:=bG HB.out.2.2.2.2.1
 obtain ⟨ya,yc,rfl⟩:=bG HB.out.2.2.2.2.2
 obtain ⟨c0,c1,c2,c3,hf⟩:=cC HB.out.2.2.1
 go_wp2_with fail
 refine (HF.out _ _ (aU.cZ HB.out.2.2.2.2.1)).mono ?_
 rintro e w2 ⟨rfl,hb⟩
 have HB2:=zH (zA (gtr HB.out.1 hb) (zA (aa hb HB.out.2.1) (zA (aa hb HB.out.2.2.1) (zA (aa hb HB.out.2.2.2.1) (World.ownsRow.aj HB.out.2.2.2.2.2 hb)))))
 clear hb c0 c1 c2 c3 hf HB
 obtain ⟨c0,c1,c2,c3,hf⟩:=cC HB2.out.2.2.1
 obtain ⟨v0,v1,v2,v3,vf⟩:=cC HB2.out.2.1
 obtain ⟨p0,p1,p2,p3,p4,p5,pf⟩:=km HB2.out.2.2.2.1
 have hbl2:w.heap.size+1+1<w2.heap.size:=aO HB2.out.2.2.2.1
 have hbl1:w.heap.size+1<w2.heap.size:=by omega
 have hbl0:w.heap.size<w2.heap.size:=by omega
 generalize fl.isSome=fs at *
 by_cases k1:fs=false∧r.kind=2
 ·
  obtain ⟨rfl,k2⟩:=k1
  rw [if_pos ⟨rfl,k2⟩] at HC
  rw [k2] at c0 ⊢
  go_wp2
  refine bodyPost_ret (v:=.tuple #[.agg #[.int .i64 0,.int .i64 0,.slice none 0 0,.slice none 0 0,.int .i64 0,.int .i64 0],.int .i64 2202]) (by simp [results,results133,go_sem,p0,p1,p2,p3,p4,p5]) rfl ?_
  rw [HC.out]
  exact oD 2202 (fQ HB2.out.1 (show w.heap.size≤w.heap.size+1+1 by omega) _ _ _ _ _ _)
 ·
  have k1':(!fs&&(r.kind == 2))=false:=by
   cases hfs:fs with
   | true=>rfl
   | false =>
    have:r.kind≠2:=fun e=>k1 ⟨hfs,e⟩
    simpa using this
  rw [if_neg k1] at HC
  have hsplit:fs=true∨(fs=false∧(r.kind == 2)=false):=by
   cases hfs:fs with
   | true=>exact .inl rfl
   | false=>exact .inr ⟨rfl,by rw [hfs] at k1';simpa using k1'⟩
  clear k1 k1'
  go_upto_region 5 with fail
  go_cut [43] from 37 to 43 (fun v wx=>v=.bool false∧wx=w2)
  case first =>
   rcases hsplit with rfl | ⟨rfl,hk⟩
   all_goals
    go_wp2
    go_meet
    exact ⟨rfl,rfl⟩
  case rest =>
   obtain ⟨rfl,hwc⟩:=hcut
   subst hwc
   clear hsplit
   by_cases k2:7<then_.length
   ·
    have k2':(7:Int)<(then_.length:Int):=by omega
    rw [if_pos k2] at HC
    go_wp2
    refine bodyPost_ret (v:=.tuple #[.agg #[.int .i64 0,.int .i64 0,.slice none 0 0,.slice none 0 0,.int .i64 0,.int .i64 0],.int .i64 2201]) (by simp [results,results133,go_sem,p0,p1,p2,p3,p4,p5]) rfl ?_
    rw [HC.out]
    exact oD 2201 (fQ HB2.out.1 (show w.heap.size≤w.heap.size+1+1 by omega) _ _ _ _ _ _)
   ·
    have k2' : ¬ (7:Int)<(then_.length:Int):=by omega
    rw [if_neg k2] at HC
    by_cases k3:V.free<8
    ·
     rw [if_pos k3] at HC
     go_wp2_with fail
     have hS:=fQ (w:=wc) HB2.out.1 (show w.heap.size≤w.heap.size+1+1 by omega) (.int .i64 (-1)) (.int .i64 av) (.slice (some ⟨wc.heap.size,0,none⟩) 1 1) (.slice (some ⟨wc.heap.size+1,0,none⟩) 1 1) (.int .i64 (V.free+1)) (.int .i64 V.an)
     have hz:=Iu wc (w.heap.size+1+1) (.int .i64 (-1)) (.int .i64 av) (.slice (some ⟨wc.heap.size,0,none⟩) 1 1) (.slice (some ⟨wc.heap.size+1,0,none⟩) 1 1) (.int .i64 (V.free+1)) (.int .i64 V.an)
     have hat:=vL HB2.out.2.2.2.1 (.int .i64 (-1)) (.int .i64 av) (.slice (some ⟨wc.heap.size,0,none⟩) 1 1) (.slice (some ⟨wc.heap.size+1,0,none⟩) 1 1) (.int .i64 (V.free+1)) (.int .i64 V.an)
     have hA:=af (Bp wc (w.heap.size+1+1) (.int .i64 (-1)) (.int .i64 av) (.slice (some ⟨wc.heap.size,0,none⟩) 1 1) (.slice (some ⟨wc.heap.size+1,0,none⟩) 1 1) (.int .i64 (V.free+1)) (.int .i64 V.an)) (.cells #[.int .i64 V.free] 3)
     change bodyPost _ _ _ _ _ (((Bp wc (w.heap.size+1+1) (.int .i64 (-1)) (.int .i64 av) (.slice (some ⟨wc.heap.size,0,none⟩) 1 1) (.slice (some ⟨wc.heap.size+1,0,none⟩) 1 1) (.int .i64 (V.free+1)) (.int .i64 V.an)).alloc _).alloc _)
     generalize Bp wc (w.heap.size+1+1) (.int .i64 (-1)) (.int .i64 av) (.slice (some ⟨wc.heap.size,0,none⟩) 1 1) (.slice (some ⟨wc.heap.size+1,0,none⟩) 1 1) (.int .i64 (V.free+1)) (.int .i64 V.an)=w5 at *
     have hB:=af (w5.alloc (.cells #[.int .i64 V.free] 3)) (.cells #[.int .i64 r.kind,.int .i64 r.an,.string r.key,.string r.value] 74)
     have hA:=aa (ae (Below.refl _ (w5.alloc (.cells #[.int .i64 V.free] 3))) (.cells #[.int .i64 r.kind,.int .i64 r.an,.string r.key,.string r.value] 74)) hA
     have hat:=aa (ae (ae (Below.refl _ w5) (.cells #[.int .i64 V.free] 3)) (.cells #[.int .i64 r.kind,.int .i64 r.an,.string r.key,.string r.value] 74)) hat
     have hS:=ae (ae hS (.cells #[.int .i64 V.free] 3)) (.cells #[.int .i64 r.kind,.int .i64 r.an,.string r.key,.string r.value] 74)
     simp only [World.size_alloc] at hB
     generalize (w5.alloc (.cells #[.int .i64 V.free] 3)).alloc (.cells #[.int .i64 r.kind,.int .i64 r.an,.string r.key,.string r.value] 74)=w6 at *
     rw [hz] at hA hB
     obtain ⟨q0,q1,q2,q3,q4,q5,qf⟩:=km hat
     refine bodyPost_ret (v:=.tuple #[.agg #[.int .i64 (-1),.int .i64 av,.slice (some ⟨wc.heap.size,0,none⟩) 1 1,.slice (some ⟨wc.heap.size+1,0,none⟩) 1 1,.int .i64 (V.free+1),.int .i64 V.an],.int .i64 0]) (by simp [results,results133,go_sem,q0,q1,q2,q3,q4,q5]) rfl ?_
     rw [HC.out]
     exact ⟨_,_,rfl,vI (cs := #[.int .i64 V.free]) (t:=3) hA (by omega) rfl (by omega),vI (cs := #[.int .i64 r.kind,.int .i64 r.an,.string r.key,.string r.value]) (t:=74) hB (by omega) rfl (by omega),hS⟩
    ·
     rw [if_neg k3] at HC
     by_cases k4:1048576≤V.an
     ·
      rw [if_pos k4] at HC
      go_wp2
      refine bodyPost_ret (v:=.tuple #[.agg #[.int .i64 0,.int .i64 0,.slice none 0 0,.slice none 0 0,.int .i64 0,.int .i64 0],.int .i64 2201]) (by simp [results,results133,go_sem,p0,p1,p2,p3,p4,p5]) rfl ?_
      rw [HC.out]
      exact oD 2201 (fQ HB2.out.1 (show w.heap.size≤w.heap.size+1+1 by omega) _ _ _ _ _ _)
     ·
      rw [if_neg k4] at HC
      have hw1:wrap64 (V.an+1)=V.an+1:=by unfold wrap64;omega
      have HO:=zH (aU.cZ HB2.out.2.2.2.2)
      have HW2:=zH (cX (n:=V.an+1) (by omega) (by omega))
      go_wp2_with fail
      clear p0 p1 p2 p3 p4 p5 pf c0 c1 c2 c3 hf v0 v2 v3 HF HL HS
      go_region_with (first | (go_at_call 89;refine (HN.out _).mono ?_;rintro e w' ⟨rfl,rfl⟩) | (go_at_call 173;refine (HM.out _ _ _ _ (HO.out.aj (au zR))).mono ?_;rintro e w' ⟨vs,vr,rfl,hs,hr,hb⟩;have HR:=zH (zA hs (zA hr (zA (gtr (au zR) hb) (aa (gtr (au zR) hb) HB2.out.2.2.2.1))));clear hs hr hb;obtain ⟨sa,sc,rfl⟩:=bG HR.out.1;obtain ⟨ra,rc,rfl⟩:=bG HR.out.2.1;obtain ⟨q0,q1,q2,q3,q4,q5,qf⟩:=km HR.out.2.2.2;unfold pP))
      all_goals
       simp only [HW2.out] at HR ⊢
       generalize jI (fK av) (V.an+1) then_=pl at *
       have hS:=fQ (gtr HB2.out.1 HR.out.2.2.1) (show w.heap.size≤w.heap.size+1+1 by omega) (.int .i64 pl.dG) (.int .i64 pl.av) (.slice sa pl.bJ.length sc) (.slice ra pl.aC.length rc) (.int .i64 pl.free) (.int .i64 pl.an)
       have hat:=vL HR.out.2.2.2 (.int .i64 pl.dG) (.int .i64 pl.av) (.slice sa pl.bJ.length sc) (.slice ra pl.aC.length rc) (.int .i64 pl.free) (.int .i64 pl.an)
       have hs:=kg HR.out.1 (cN HR.out.1 HR.out.2.2.2 (by decide)) (.int .i64 pl.dG) (.int .i64 pl.av) (.slice sa pl.bJ.length sc) (.slice ra pl.aC.length rc) (.int .i64 pl.free) (.int .i64 pl.an)
       have hr:=kg HR.out.2.1 (cN HR.out.2.1 HR.out.2.2.2 (by decide)) (.int .i64 pl.dG) (.int .i64 pl.av) (.slice sa pl.bJ.length sc) (.slice ra pl.aC.length rc) (.int .i64 pl.free) (.int .i64 pl.an)
       obtain ⟨d0,d1,d2,d3,d4,d5,df⟩:=km hat
       clear q0 q1 q2 q3 q4 q5 qf
       go_wp2
       refine bodyPost_ret (v:=.tuple #[.agg #[.int .i64 pl.dG,.int .i64 pl.av,.slice sa pl.bJ.length sc,.slice ra pl.aC.length rc,.int .i64 pl.free,.int .i64 pl.an],.int .i64 0]) ?_ rfl ?_
       ·
        change (results _ _).run _ (Bp _ _ _ _ _ _ _ _)=_
        simp [results,results133,go_sem,d0,d1,d2,d3,d4,d5]
        rfl
       ·
        rw [HC.out]
        exact ⟨_,_,rfl,eV hs HB2.out.1.size,eV hr HB2.out.1.size,hS⟩
def bC.row (V:bC) (x:Option Addr×Nat):List Value:=[.bool V.ck,.int .i64 V.an,.slice x.1 V.aC.length x.2,.int .i64 V.free]
def eg (vs:List (bC×(Option Addr×Nat))):List Value:=vs.flatMap fun p=>p.1.row p.2
theorem py : ∀ (vs:List (bC×(Option Addr×Nat))) (i:Nat) (p:bC×(Option Addr×Nat)),vs[i]? = some p→(eg vs)[4 * i]? = some (.bool p.1.ck)∧(eg vs)[4 * i+1]? = some (.int .i64 p.1.an)∧(eg vs)[4 * i+2]? = some (.slice p.2.1 p.1.aC.length p.2.2)∧(eg vs)[4 * i+3]? = some (.int .i64 p.1.free)
 | [],i,p,h=>by simp at h
 | q::vs,0,p,h=>by
  obtain rfl:q=p:=by simpa using h
  simp [eg,bC.row]
 | q::vs,i+1,p,h=>by
  have:=py vs i p (by simpa using h)
  have e : ∀ j,(eg (q::vs))[4 * (i+1)+j]? = (eg vs)[4 * i+j]? := fun j=>by
   have:eg (q::vs)=q.1.row q.2++eg vs:=by simp [eg]
   rw [this,List.getElem?_append_right (by simp [bC.row];omega)]
   congr 1
   simp [bC.row];omega
  exact ⟨(e 0).trans this.1,(e 1).trans this.2.1,(e 2).trans this.2.2.1,(e 3).trans this.2.2.2⟩
def iV (vs:List (bC×(Option Addr×Nat))):Nat→Option Nat
 | 0=>none
 | j+1=>match vs[j]? with
  | none=>iV vs j
  | some p=>if p.1.ck=false then iV vs j else
   match iV vs j with
   | none=>some j
   | some k=>match vs[k]? with
    | none=>iV vs j
    | some q=>if q.1.an<p.1.an then some j else some k
def yX (o:Option Nat):Int:=match o with | none => -1 | some k=>k
theorem wh (vs:List (bC×(Option Addr×Nat))) : ∀ j k,iV vs j=some k→k<j
 | 0,k,h=>by simp [iV] at h
 | j+1,k,h=>by
  have ih:=wh vs j
  unfold iV at h
  split at h
  ·
   have:=ih k h;omega
  ·
   split at h
   ·
    have:=ih k h;omega
   ·
    split at h
    ·
     simp at h;omega
    ·
     rename_i hk
     have hk':=ih _ hk
     split at h
     ·
      have:=ih k h;omega
     ·
      split at h <;> simp at h <;> omega
def IP (o:Option Nat) (w:World) (e:Ending) (w':World):Prop:=e=.returned (match o with | none=>.tuple #[.int .i64 0,.int .i64 2001] | some k=>.tuple #[.int .i64 k,.int .i64 0])∧Below w.heap.size w w'
theorem D1 (v:Value) (vs:List (bC×(Option Addr×Nat))) (w:World) (h:aU w v vs.length 4 (eg vs)) (hn:vs.length≤100):Calls prog 20 #[v] w (IP (iV vs vs.length) w):=by
 have H:=zH h
 have HX:=zH (py vs)
 have HL:=zH (wh vs)
 obtain ⟨a,c,rfl⟩:=h.slice
 clear h
 go_enter func20,ntmps20
 go_wp2
 go_loopg [4,9] vs.length (fun n b i wr => ∃ j:Nat,n=vs.length - j∧b=.int .i64 (yX (iV vs j))∧i=.int .i64 j∧j≤vs.length∧Below w.heap.size w wr)
 case atStart=>exact ⟨0,rfl,rfl,rfl,Nat.zero_le _,Below.refl _ _⟩
 case round =>
  obtain ⟨j,hgn,rfl,rfl,hj,hM⟩:=hrel
  have HB:=zH (zA hgn hM)
  clear hgn hM
  by_cases hlt:j<vs.length
  ·
   have hlt':(j:Int)<(vs.length:Int):=by omega
   obtain ⟨b,o,rfl,hc,hx⟩:=H.out.some (by omega)
   have hp:vs[j]? = some vs[j]:=List.getElem?_eq_getElem hlt
   have HS:=zH (show iV vs (j+1)=(match some vs[j] with | none=>iV vs j | some p=>if p.1.ck=false then iV vs j else match iV vs j with | none=>some j | some k=>match vs[k]? with | none=>iV vs j | some q=>if q.1.an<p.1.an then some j else some k) from by rw [iV,hp])
   generalize vs[j]=p at *
   obtain ⟨V,ra,rc⟩:=p
   obtain ⟨p0,p1,p2,p3⟩:=HX.out j _ hp
   have cc : ∀ i u,(eg vs)[i]? = some u→wr.cell? ⟨b,o+i,none⟩=some u:=fun i u hu=>by
    have e:=hx _ _ hu
    exact (HB.out.2.cell (p:=⟨b,o+i,none⟩) (zL w _ e)).trans e
   have d0:wr.cell? ⟨b,o+j * 4,none⟩=some (.bool V.ck):=by rw [Nat.mul_comm];exact cc _ _ p0
   have d1:wr.cell? ⟨b,o+j * 4+1,none⟩=some (.int .i64 V.an):=by rw [Nat.mul_comm,Nat.add_assoc];exact cc _ _ p1
   have d2:wr.cell? ⟨b,o+j * 4+2,none⟩=some (.slice ra V.aC.length rc):=by rw [Nat.mul_comm,Nat.add_assoc];exact cc _ _ p2
   have d3:wr.cell? ⟨b,o+j * 4+3,none⟩=some (.int .i64 V.free):=by rw [Nat.mul_comm,Nat.add_assoc];exact cc _ _ p3
   have HC:=zH cc
   have hbl:b<wr.heap.size:=zL wr _ d0
   clear p0 p1 p2 p3 cc hx
   go_upto_region 5 with fail
   have e0:=af wr (.cells #[.bool V.ck,.int .i64 V.an,.slice ra V.aC.length rc,.int .i64 V.free] 52)
   obtain ⟨f0,f1,f2,f3,ff⟩:=cC e0
   have hN:=gtr HB.out.2 (ae (Below.refl _ wr) (.cells #[.bool V.ck,.int .i64 V.an,.slice ra V.aC.length rc,.int .i64 V.free] 52))
   have HN:=zH hN
   have HC2:=zH (fun i u hu=>((ae (Below.refl wr.heap.size wr) (.cells #[.bool V.ck,.int .i64 V.an,.slice ra V.aC.length rc,.int .i64 V.free] 52)).cell (p:=⟨b,o+i,none⟩) hbl).trans (HC.out i u hu))
   clear d0 d1 d2 d3 e0 hN HC
   generalize wr.heap.size=g at *
   generalize wr.alloc (.cells #[.bool V.ck,.int .i64 V.an,.slice ra V.aC.length rc,.int .i64 V.free] 52)=w2 at *
   clear hbl
   replace HS:=HS.out
   dsimp only at HS
   cases hg:V.ck with
   | false =>
    rw [hg,if_pos rfl] at HS
    rw [hg] at f0
    replace HS:=zH HS
    clear hg hp f2 f3
    go_quiet (fail)
    go_wp2
    go_roundg (vs.length - (j+1))
    case measure=>have:=HB.out.1;omega
    case rel=>exact ⟨j+1,rfl,by first | (rw [HS.out];done) | (rw [HS.out];rfl),by go_num,by omega,aY HN.out _⟩
   | true =>
    rw [hg,if_neg (by decide)] at HS
    rw [hg] at f0
    clear hg hp f2 f3
    cases hb:iV vs j with
    | none =>
     rw [hb] at HS
     replace HS:=zH HS
     clear hb
     rw [show yX none = -1 from rfl]
     go_quiet (fail)
     go_wp2
     go_roundg (vs.length - (j+1))
     case measure=>have:=HB.out.1;omega
     case rel=>exact ⟨j+1,rfl,by first | (rw [HS.out];done) | (rw [HS.out];rfl),by go_num,by omega,aY HN.out _⟩
    | some k =>
     have hk:=HL.out j k hb
     rw [hb] at HS
     obtain ⟨q,hq⟩ : ∃ q,vs[k]? = some q:=⟨_,List.getElem?_eq_getElem (by omega)⟩
     dsimp only at HS
     rw [hq] at HS
     dsimp only at HS
     have g1:w2.cell? ⟨b,o+k * 4+1,none⟩=some (.int .i64 q.1.an):=by rw [Nat.mul_comm,Nat.add_assoc];exact HC2.out _ _ (HX.out k q hq).2.1
     have hk1:k<vs.length:=by omega
     have hk2:(k:Int)<(vs.length:Int):=by omega
     clear hq
     by_cases hlt:q.1.an<V.an
     ·
      rw [if_pos hlt] at HS
      replace HS:=zH HS
      clear hb
      rw [show yX (some k)=(k:Int) from rfl]
      have hk0:decide ((k:Int)<0)=false:=decide_eq_false (by omega)
      go_quiet (fail)
      go_wp2
      go_roundg (vs.length - (j+1))
      case measure=>have:=HB.out.1;omega
      case rel=>exact ⟨j+1,rfl,by first | (rw [HS.out];done) | (rw [HS.out];rfl),by go_num,by omega,aY HN.out _⟩
     ·
      rw [if_neg hlt] at HS
      replace HS:=zH HS
      clear hb
      have hlt2:decide (q.1.an<V.an)=false:=decide_eq_false hlt
      clear hlt
      rw [show yX (some k)=(k:Int) from rfl]
      have hk0:decide ((k:Int)<0)=false:=decide_eq_false (by omega)
      go_quiet (fail)
      go_wp2
      go_roundg (vs.length - (j+1))
      case measure=>have:=HB.out.1;omega
      case rel=>exact ⟨j+1,rfl,by first | (rw [HS.out];done) | (rw [HS.out];rfl),by go_num,by omega,aY HN.out _⟩
  ·
   obtain rfl:j=vs.length:=by omega
   have HL2:=HL.out vs.length
   clear HL HX
   cases hb:iV vs vs.length with
   | none =>
    have HZ:=zH hb
    clear hb HL2
    rw [show yX none = -1 from rfl]
    go_wp2
    go_ret2
    rw [HZ.out]
    exact ⟨rfl,HB.out.2⟩
   | some k =>
    have HZ:=zH hb
    clear hb HL2
    rw [show yX (some k)=(k:Int) from rfl]
    have hk0:decide ((k:Int)<0)=false:=decide_eq_false (by omega)
    go_wp2
    go_ret2
    rw [HZ.out]
    exact ⟨rfl,HB.out.2⟩
section
open Go.RowKit
variable {X:Nat→Prop}
theorem kI {fn:Func} {t u v x:Tmp} (h:fn.results = #[.tmp t,.tmp u,.tmp v,.tmp x]) (tmps:Array Value) (P:Program) (w:World):(results fn tmps).run P w=.ok (.tuple #[tmps.getD t undef,tmps.getD u undef,tmps.getD v undef,tmps.getD x undef]) w:=by
 simp [results,h]
theorem yH (w:World):Calls prog 163 #[.string bn] w fun e w'=>e=.returned (.tuple #[.int .i64 4096,.int .i64 512,.int .i64 32,.int .i64 0])∧Below w.heap.size w w':=by
 have HP:=zH (fun w=>qh w)
 have h1:bn.size=32:=by decide
 have HN1:=zH (fun w=>kC (bn.extract 8 32) w (by decide))
 have HN2:=zH (fun w=>kC ((bn.extract 8 32).extract 4 24) w (by decide))
 have HN3:=zH (fun w=>kC ((bn.extract 8 32).extract 8 24) w (by decide))
 have e1:(bn.extract 8 32).size=24:=by decide
 have n1:jr (bn.extract 8 32)=4096:=by decide
 have n2:jr ((bn.extract 8 32).extract 4 24)=512:=by decide
 have n3:jr ((bn.extract 8 32).extract 8 24)=32:=by decide
 rw [n1] at HN1
 rw [n2] at HN2
 rw [n3] at HN3
 have hq:(bn == bn)=true:=by decide
 clear n1 n2 n3
 generalize hg:bn.extract 8 32=s1 at *
 generalize bn=s0 at *
 go_enter func163,ntmps163
 go_wp2_with fail
 refine wp_region_noPanic ?_
 refine wp_region_held_drew (S:=(fun _=>True)) (by kernel_rfl) (by (try dsimp only);first | done | exact trivial) fun hHeld => ?_
 refine tk 0 ?_
 refine tk 2 ?_
 refine tk 3 ?_
 refine tk 5 ?_
 refine tk 6 ?_
 refine tr 1 fun K hK => ?_
 go_simp
 refine (HN1.out _).mono ?_
 rintro e w1 ⟨rfl,rfl⟩
 go_wp2_with fail
 refine hK.out _ _ (by (try dsimp only);first | done | exact trivial) fun hHeld => ?_
 clear hK K
 try simp only [Act.put,zS,zT,zU]
 refine tr 4 fun K hK => ?_
 go_simp
 refine (HN2.out _).mono ?_
 rintro e w2 ⟨rfl,rfl⟩
 go_wp2_with fail
 refine hK.out _ _ (by (try dsimp only);first | done | exact trivial) fun hHeld => ?_
 clear hK K
 try simp only [Act.put,zS,zT,zU]
 refine tr 7 fun K hK => ?_
 go_simp
 refine (HN3.out _).mono ?_
 rintro e w3 ⟨rfl,rfl⟩
 go_wp2_with fail
 refine hK.out _ _ (by (try dsimp only);first | done | exact trivial) fun hHeld => ?_
 clear hK K
 try simp only [Act.put,zS,zT,zU]
 refine tk 8 ?_
 refine tk 9 ?_
 refine tk 10 ?_
 refine wpAnyH_done (by kernel_rfl) ?_ _
 refine NoPanic.normal ?_
 go_wp2_with fail
 refine (HP.out _).mono ?_
 rintro e w4 ⟨rfl,hb⟩
 have HB:=zH (gtr (au zR) hb)
 clear hb
 go_wp2
 refine bodyPost_ret (kI rfl _ _ _) rfl ?_
 exact ⟨rfl,HB.out⟩
theorem JK (w:World):Calls prog 161 #[] w fun e w'=>e=.returned (.slice (some ⟨w.heap.size,0,none⟩) 3 3)∧w'=w.alloc (.cells #[.int .i64 239,.int .i64 64,.int .i64 12] 3):=by
 go_enter func161,ntmps161
 go_wp2
 go_ret
 exact ⟨rfl,rfl⟩
theorem Bh:gX 159 0 [] 3:=⟨by decide,by decide,by decide,fun _=>rfl,by decide,by decide,by decide,by decide,by decide⟩
theorem Ml:gX 90 0 [] 32:=⟨by decide,by decide,by decide,fun _=>rfl,by decide,by decide,by decide,by decide,by decide⟩
def aG.dU (m:aG):aG×Int:=if (m.run 159 0 [] 3).2.2=0 then (((m.run 159 0 [] 3).1.run 90 0 [] 32).1,((m.run 159 0 [] 3).1.run 90 0 [] 32).2.2) else ((m.run 159 0 [] 3).1,(m.run 159 0 [] 3).2.2)
theorem Aj {m:aG} (ok:m.Ok):m.dU.1.Ok:=by
 unfold aG.dU
 split
 ·
  exact eu (eu ok _ _ _ _ Bh) _ _ _ _ Ml
 ·
  exact eu ok _ _ _ _ Bh
structure aG.kQ (m:aG):Prop where
 id:(m.run 159 0 [] 3).2.2=0→(m.run 159 0 [] 3).2.1=[239,64,12]
 yG:(m.run 159 0 [] 3).2.2=0→((m.run 159 0 [] 3).1.run 90 0 [] 32).2.2=0→eH ((m.run 159 0 [] 3).1.run 90 0 [] 32).2.1=bn
def Gz (X:Nat→Prop) (er:Int) (k c:Nat) (m:aG) (G:Nat→Prop) (w:World) (e:Ending) (w':World):Prop :=
 (∃ a b d,e=.returned (.tuple #[.int .i64 a,.int .i64 b,.int .i64 d,.int .i64 er])) ∧ ∃ G',bO X w' k c m G'∧Step G G' w w'
theorem C7 (k c:Nat) (m:aG) (G:Nat→Prop) (w:World) (h:bO X w k c m G) (ok:m.Ok) (kn:m.kQ):Calls prog 123 #[.pointer (some ⟨k,0,none⟩)] w (Gz X m.dU.2 k c m.dU.1 G w):=by
 have HI:=zH (fun w=>JK w)
 have HR:=zH (fun (w1:World) (h1:bO X w1 k c m G)=>fj k c m G 159 0 none [] 0 3 w1 h1 ok Bh (nA w1 G) (fun _=>rfl) (by simp))
 have HE:=zH (lS m 159 0 [] 3)
 have HS:=zH (fun (G1:Nat→Prop) (w1:World) (h1:bO X w1 k c (m.run 159 0 [] 3).1 G1)=>fj k c (m.run 159 0 [] 3).1 G1 90 0 none [] 0 32 w1 h1 (eu ok _ _ _ _ Bh) Ml (nA w1 G1) (fun _=>rfl) (by simp))
 have HL:=zH (fun h=>nH (m:=(m.run 159 0 [] 3).1) (b:=90) (at_:=0) (xs:=[]) (read:=32) (by omega) h)
 have HF:=zH (lS (m.run 159 0 [] 3).1 90 0 [] 32)
 have HB:=zH (show m.dU=if (m.run 159 0 [] 3).2.2=0 then (((m.run 159 0 [] 3).1.run 90 0 [] 32).1,((m.run 159 0 [] 3).1.run 90 0 [] 32).2.2) else ((m.run 159 0 [] 3).1,(m.run 159 0 [] 3).2.2) from rfl)
 have HK:=zH kn.id
 have HT:=zH kn.yG
 have HG:=zH (fun w=>yH w)
 have H0:=zH (zA h (ae (Below.refl w.heap.size w) (.cells #[.int .i64 239,.int .i64 64,.int .i64 12] 3)))
 clear h ok kn
 generalize m.dU=br at *
 generalize m.run 159 0 [] 3=r at *
 obtain ⟨m1,xs,er⟩:=r
 simp only at HR HE HS HL HF HB HK HT
 generalize m1.run 90 0 [] 32=r2 at *
 obtain ⟨m2,ys,er2⟩:=r2
 simp only at HS HL HF HB HT
 simp only [List.length_nil] at HR HS
 rcases HE.out with he | ⟨he,hx⟩
 ·
  subst he
  obtain rfl:xs=[239,64,12]:=HK.out (by trivial)
  go_enter func123,ntmps123
  go_wp2_with fail
  refine (HI.out _).mono ?_
  rintro e w1 ⟨rfl,rfl⟩
  go_wp2_with fail
  refine (HR.out _ (H0.out.1.aj H0.out.2)).mono ?_
  rintro e w1 ⟨a,cp,G1,rfl,hc,hs,st⟩
  have H1:=zH (zA hc ((Step.ah H0.out.2).trans st))
  have HIN:=zH hs
  clear hc hs st
  go_wp2_with fail
  refine (HI.out _).mono ?_
  rintro e w2 ⟨rfl,rfl⟩
  obtain ⟨b,o,rfl,hcell⟩:=HIN.out.1.at (by simp)
  have HEQ:=zH (Tryz.slices_Equal_int b o 3 cp w1.heap.size 0 3 3 [239,64,12] [239,64,12] (w1.alloc (.cells #[.int .i64 239,.int .i64 64,.int .i64 12] 3)) (by simp) (by simp) (by decide) (by decide) (fun j hj=>(World.cell?_alloc_lt _ _ _ (zL w1 _ (hcell j hj))).trans (hcell j hj)) (fun j hj=>by
    have hj:j<3:=hj
    match j,hj with
    | 0,_=>exact cell_of (af w1 _) 0
    | 1,_=>exact cell_of (af w1 _) 1
    | 2,_=>exact cell_of (af w1 _) 2))
  have HBA:=zH (ae (Below.refl w1.heap.size w1) (.cells #[.int .i64 239,.int .i64 64,.int .i64 12] 3))
  clear hcell
  go_wp2_with fail
  refine HEQ.out.mono ?_
  rintro e w2 ⟨rfl,q,rfl⟩
  have HB2:=zH (aY HBA.out q)
  generalize (w1.alloc (.cells #[.int .i64 239,.int .i64 64,.int .i64 12] 3)).drewN q=w2 at *
  have H2:=zH (zA (H1.out.1.aj HB2.out) (H1.out.2.trans (Step.ah HB2.out)))
  clear HEQ HBA HB2 H1
  go_wp2_with fail
  refine (HS.out _ _ H2.out.1).mono ?_
  rintro e w3 ⟨a,cp3,G3,rfl,hc,hs,st⟩
  have H3:=zH (zA hc (H2.out.2.trans st))
  have HIN3:=zH hs
  clear hc hs st H2
  rcases HF.out with he | ⟨he,hx⟩
  ·
   subst he
   have hl:ys.length=32:=HL.out (by trivial)
   have HX:=zH (fun w3 h=>Fk a cp3 ys w3 h (by omega))
   rw [show eH ys=bn from HT.out (by trivial) (by trivial)] at HX
   rw [hl] at HX ⊢
   clear hl
   go_wp2_with fail
   refine (HX.out _ HIN3.out.1).mono ?_
   rintro e w4 ⟨rfl,hb4⟩
   have H4:=zH (zA (H3.out.1.aj hb4) (H3.out.2.trans (Step.ah hb4)))
   clear hb4 H3
   go_wp2_with fail
   refine (HG.out _).mono ?_
   rintro e w5 ⟨rfl,hb5⟩
   have H5:=zH (zA (H4.out.1.aj hb5) (H4.out.2.trans (Step.ah hb5)))
   clear hb5 H4
   go_wp2
   refine bodyPost_ret (kI rfl _ _ _) rfl ?_
   rw [show br=(m2,0) from HB.out]
   exact ⟨⟨_,_,_,rfl⟩,G3,H5.out⟩
  ·
   subst he
   subst hx
   go_wp2
   refine bodyPost_ret (kI rfl _ _ _) rfl ?_
   rw [show br=(m2,1101) from HB.out]
   exact ⟨⟨_,_,_,rfl⟩,G3,H3.out⟩
 ·
  subst he
  subst hx
  go_enter func123,ntmps123
  go_wp2_with fail
  refine (HI.out _).mono ?_
  rintro e w1 ⟨rfl,rfl⟩
  go_wp2_with fail
  refine (HR.out _ (H0.out.1.aj H0.out.2)).mono ?_
  rintro e w1 ⟨a,cp,G1,rfl,hc,hs,st⟩
  have H1:=zH (zA hc ((Step.ah H0.out.2).trans st))
  clear hc hs st
  go_wp2
  refine bodyPost_ret (kI rfl _ _ _) rfl ?_
  rw [show br=(m1,1101) from HB.out]
  exact ⟨⟨_,_,_,rfl⟩,G1,H1.out⟩
def DV (X:Nat→Prop) (y:Int) (er:Int) (k c:Nat) (m:aG) (G:Nat→Prop) (w:World) (e:Ending) (w':World):Prop:=e=.returned (.tuple #[.int .i64 y,.int .i64 er]) ∧ ∃ G',bO X w' k c m G'∧Step G G' w w'
theorem Df:gX 53 0 [] 1:=⟨by decide,by decide,by decide,fun _=>rfl,by decide,by decide,by decide,by decide,by decide⟩
theorem pn (k c:Nat) (m m':aG) (G:Nat→Prop) (b x:Int) (w:World) (h:bO X w k c m G) (ok:m.Ok) (hb:b=5∨b=53) (hr:m.run b 0 [] 1=(m',[x],0)):Calls prog 111 #[.pointer (some ⟨k,0,none⟩),.int .i64 b] w (DV X x 0 k c m' G w):=by
 have HR:=zH (fj k c m G b 0 none [] 0 1 w h ok (by rcases hb with rfl | rfl;exact yC;exact Df) (nA w G) (fun _=>rfl) (by simp))
 rw [hr] at HR
 simp only [List.length_nil] at HR
 clear h ok hr hb
 go_enter func111,ntmps111
 go_wp2_with fail
 refine HR.out.mono ?_
 rintro e w1 ⟨a,cp,G1,rfl,hc,hs,st⟩
 obtain ⟨b,o,rfl,hcell⟩:=hs.1 0 (by simp)
 rw [Nat.add_zero] at hcell
 have hcell:w1.cell? ⟨b,o,none⟩=some (.int .i64 x):=hcell
 have H1:=zH (zA hc st)
 have i0:(0:Int)<1:=by decide
 clear hc hs st
 simp only [List.length_singleton]
 go_wp2
 go_ret2
 exact ⟨rfl,G1,H1.out⟩
structure Sets (m m1 m2 m3 m4:aG) (own bit other kept x y:Int):Prop where
 r1:m.run own 0 [] 1=(m1,[x],0)
 b1:bits .and .i64 x bit=0
 r2:m1.run other 0 [] 1=(m2,[y],0)
 r3:m2.run 6 0 [] 0=(m3,[],0)
 r4:m3.run 1 0 (if own=53 then [bits .and .i64 y kept,bit] else [bit,bits .and .i64 y kept]) 0=(m4,[],0)
 k1:isByte (bits .and .i64 y kept)=true
 own:own=5∨own=53
 other:other=5∨other=53
 bit:isByte bit=true
theorem Gn (w:World) (x y:Int) (G:Nat→Prop) (hG : ∀ b,G b→b<w.heap.size):aL (w.alloc (.cells #[.int .i64 x,.int .i64 y] 3)) (some ⟨w.heap.size,0,none⟩) [x,y] G :=
 ⟨aP.of fun i hi=>by
  have hi:i<2:=hi
  match i,hi with
  | 0,_=>exact cell_of (af w _) 0
  | 1,_=>exact cell_of (af w _) 1,fun b o e _ hg=>by
  obtain ⟨rfl,rfl⟩:w.heap.size=b∧0=o:=by simpa using e
  exact absurd (hG _ hg) (by omega)⟩
theorem LX (x y:Int) (hx:isByte x=true) (hy:isByte y=true):gX 1 0 [x,y] 0 :=
 ⟨by decide,by decide,by decide,fun _=>rfl,by simp,by simp [hx,hy],by decide,by decide,by unfold ku;rfl⟩
theorem xV (k c:Nat) (m m1 m2 m3 m4:aG) (G:Nat→Prop) (own bit other kept x y:Int) (w:World) (h:bO X w k c m G) (ok:m.Ok) (S:Sets m m1 m2 m3 m4 own bit other kept x y):Calls prog 73 #[.pointer (some ⟨k,0,none⟩),.int .i64 own,.int .i64 bit,.int .i64 other,.int .i64 kept] w (mQ X 0 k c m4 G w):=by
 have ok1:m1.Ok:=by have:=eu ok own 0 [] 1 (by rcases S.own with e | e <;> rw [e];exact yC;exact Df);rw [S.r1] at this;exact this
 have ok2:m2.Ok:=by have:=eu ok1 other 0 [] 1 (by rcases S.other with e | e <;> rw [e];exact yC;exact Df);rw [S.r2] at this;exact this
 have ok3:m3.Ok:=by have:=eu ok2 6 0 [] 0 Bi;rw [S.r3] at this;exact this
 have HS1:=zH (pn k c m m1 G own x w h ok S.own S.r1)
 have HS2:=zH (fun G w (h:bO X w k c m1 G)=>pn k c m1 m2 G other y w h ok1 S.other S.r2)
 have HR:=zH (fun G w (h:bO X w k c m2 G)=>fj k c m2 G 6 0 none [] 0 0 w h ok2 Bi (nA w G) (fun _=>rfl) (by simp))
 rw [S.r3] at HR
 simp only [List.length_nil] at HR
 have hb1:=S.b1
 have HK:=zH S
 clear h ok ok1 ok2
 go_enter func73,ntmps73
 go_wp2_with fail
 refine HS1.out.mono ?_
 rintro e w1 ⟨rfl,G1,hc,st⟩
 have H1:=zH (zA hc st)
 clear hc st HS1
 go_wp2_with fail
 refine (HS2.out _ _ H1.out.1).mono ?_
 rintro e w2 ⟨rfl,G2,hc,st⟩
 have H2:=zH (zA hc (H1.out.2.trans st))
 clear hc st HS2 H1
 go_wp2_with fail
 refine (HR.out _ _ H2.out.1).mono ?_
 rintro e w3 ⟨a,cp,G3,rfl,hc,hs,st⟩
 have H3:=zH (zA hc (H2.out.2.trans st))
 clear hc hs st HR H2
 have hG3:=zH (H3.out.1.lt)
 by_cases ho:own=53
 ·
  have HW:=zH (fun G w a cap (h:bO X w k c m3 G) hs hn hcap=>fj k c m3 G 1 0 a [bits .and .i64 y kept,bit] cap 0 w h ok3 (LX _ _ HK.out.k1 HK.out.bit) hs hn hcap)
  have r4:=HK.out.r4
  rw [if_pos ho] at r4
  rw [r4] at HW
  clear r4
  subst ho
  have HB3:=zH (ae (ae (Below.refl w3.heap.size w3) (.cells #[.int .i64 bit,.int .i64 (bits .and .i64 y kept)] 3)) (.cells #[.int .i64 (bits .and .i64 y kept),.int .i64 bit] 3))
  have HT:=zH (Gn (w3.alloc (.cells #[.int .i64 bit,.int .i64 (bits .and .i64 y kept)] 3)) (bits .and .i64 y kept) bit G3 (fun b hb=>zV (hG3.out b hb) (by simp)))
  go_wp2_with fail
  refine (HW.out G3 _ _ 2 (H3.out.1.aj HB3.out) (by simpa using HT.out) (fun e=>by cases e) (by simp)).mono ?_
  rintro e w4 ⟨a4,cp4,G4,rfl,hc,hs,st⟩
  have H4:=zH (zA hc (H3.out.2.trans ((Step.ah HB3.out).trans st)))
  clear hc hs st
  go_wp2
  go_ret
  exact ⟨rfl,G4,H4.out⟩
 ·
  have HW:=zH (fun G w a cap (h:bO X w k c m3 G) hs hn hcap=>fj k c m3 G 1 0 a [bit,bits .and .i64 y kept] cap 0 w h ok3 (LX _ _ HK.out.bit HK.out.k1) hs hn hcap)
  have r4:=HK.out.r4
  rw [if_neg ho] at r4
  rw [r4] at HW
  clear r4
  have HB3:=zH (ae (Below.refl w3.heap.size w3) (.cells #[.int .i64 bit,.int .i64 (bits .and .i64 y kept)] 3))
  have HT:=zH (Gn w3 bit (bits .and .i64 y kept) G3 hG3.out)
  go_wp2_with fail
  refine (HW.out G3 _ _ 2 (H3.out.1.aj HB3.out) HT.out (fun e=>by cases e) (by simp)).mono ?_
  rintro e w4 ⟨a4,cp4,G4,rfl,hc,hs,st⟩
  have H4:=zH (zA hc (H3.out.2.trans ((Step.ah HB3.out).trans st)))
  clear hc hs st
  go_wp2
  go_ret
  exact ⟨rfl,G4,H4.out⟩
theorem E5 (k c:Nat) (m m1 m2 m3 m4:aG) (G:Nat→Prop) (x y:Int) (w:World) (h:bO X w k c m G) (ok:m.Ok) (S:Sets m m1 m2 m3 m4 53 2 5 4 x y):Calls prog 41 #[.pointer (some ⟨k,0,none⟩)] w (mQ X 0 k c m4 G w):=by
 have HS:=zH (xV k c m m1 m2 m3 m4 G 53 2 5 4 x y w h ok S)
 clear h ok S
 go_enter func41,ntmps41
 go_wp2_with fail
 refine HS.out.mono ?_
 rintro e w1 ⟨rfl,H⟩
 have H:=zH H
 go_wp2
 go_ret
 exact ⟨rfl,H.out⟩
theorem yB (k c:Nat) (m m1 m2 m3 m4:aG) (G:Nat→Prop) (x y:Int) (w:World) (h:bO X w k c m G) (ok:m.Ok) (S:Sets m m1 m2 m3 m4 5 4 53 2 x y):Calls prog 42 #[.pointer (some ⟨k,0,none⟩)] w (mQ X 0 k c m4 G w):=by
 have HS:=zH (xV k c m m1 m2 m3 m4 G 5 4 53 2 x y w h ok S)
 clear h ok S
 go_enter func42,ntmps42
 go_wp2_with fail
 refine HS.out.mono ?_
 rintro e w1 ⟨rfl,H⟩
 have H:=zH H
 go_wp2
 go_ret
 exact ⟨rfl,H.out⟩
end
section
open Go.RowKit
variable {X:Nat→Prop}
theorem fh.odd {w w':World} {k c b s:Nat} {m:aG} {q:Cache} {H:Nat→Prop} (h:fh X w k c b m q H) (t:Touch (aN s) w w') (hn : ¬ H s) (o:Mq w s) (hh:0<m.ar.busy.length→m.ar.home≠s):fh X w' k c b m q H:=by
 obtain ⟨G,hc,⟨ab,ac,tb,tc,hw⟩,hH,hb⟩:=h.ex
 obtain ⟨p,hp⟩:=o.ptr
 have na : ¬ aN s ab:=fun e=>by
  have e:ab=s:=e
  have:=hw.a0
  rw [e,hp] at this;cases this
 have nt : ¬ aN s tb:=fun e=>by
  have e:tb=s:=e
  have:=hw.t0
  rw [e,hp] at this;cases this
 have nb : ¬ aN s b:=fun e=>hn ((hH s).2 (.inr e.symm))
 have hbl:b<w.heap.size:=(Array.getElem?_eq_some_iff.1 hw.raw).1
 exact ⟨⟨G,hc.fA t (fun x hx hg=>by rw [show x=s from hx] at hg;exact hn ((hH s).2 (.inl hg))) (fun hl hx=>hh hl hx) (fun x hx _=>by rw [show x=s from hx];exact .inl o),⟨ab,ac,tb,tc,(t.block b hbl nb).trans hw.raw,hw.cap,t.cell _ _ hw.a0 na,t.cell _ _ hw.a1 na,t.cell _ _ hw.t0 nt,t.cell _ _ hw.t1 nt,hw.out,hw.na,hw.nt⟩,hH,hb⟩⟩
theorem fh.lt {w:World} {k c b:Nat} {m:aG} {q:Cache} {H:Nat→Prop} (h:fh X w k c b m q H) : ∀ i,H i→i<w.heap.size:=fun i hi=>by
 obtain ⟨G,hc,⟨_,_,_,_,hw⟩,hH,_⟩:=h.ex
 rcases (hH i).1 hi with hg | hg
 ·
  exact hc.lt i hg
 ·
  rw [hg];exact (Array.getElem?_eq_some_iff.1 hw.raw).1
structure aA where
 opened : Bool
 av:Int
 view:bC
def cE:bC:=⟨false,0,[],0⟩
def shut:aA:=⟨false,0,cE⟩
def sH (k b:Nat) (S:aA) (a:Option Addr) (cp:Nat):Array Value := #[.pointer (some ⟨k,0,none⟩),.pointer (some ⟨b,0,none⟩),.bool S.opened,.int .i64 S.av,.bool S.view.ck,.int .i64 S.view.an,.slice a S.view.aC.length cp,.int .i64 S.view.free]
structure dS (w:World) (a:Option Addr) (cp:Nat) (rs:List aX) (F:Nat→Prop):Prop where
 at_:aU w (.slice a rs.length cp) rs.length 4 (bp rs)
 fA : ∀ x o f,a=some ⟨x,o,f⟩→0<rs.length → ¬ F x
theorem dS.lt {w:World} {a:Option Addr} {cp:Nat} {rs:List aX} {F:Nat→Prop} (h:dS w a cp rs F) : ∀ x o f,a=some ⟨x,o,f⟩→0<rs.length→x<w.heap.size:=by
 intro x o f e hl
 rcases h.at_.ex with ⟨_,h0⟩ | ⟨b,o',c,hv,hc,hx⟩
 ·
  omega
 ·
  have hlen:0<(bp rs).length:=by rw [lR];omega
  have:=zL w _ (hx 0 _ (List.getElem?_eq_getElem hlen))
  simp only [Value.slice.injEq] at hv
  rw [hv.1] at e
  obtain ⟨rfl,_⟩:b=x∧_:=by simpa using e
  exact this
theorem dS.step {w w':World} {a:Option Addr} {cp:Nat} {rs:List aX} {F G:Nat→Prop} (h:dS w a cp rs F) (st:Step F G w w'):dS w' a cp rs G:=by
 have hl:=h.lt
 refine ⟨⟨h.at_.len,?_⟩,fun x o f e h0=>st.safe (hl x o f e h0) (h.fA x o f e h0)⟩
 rcases h.at_.ex with h0 | ⟨b,o,c,hv,hc,hx⟩
 ·
  exact .inl h0
 ·
  refine .inr ⟨b,o,c,hv,hc,fun i u hu => ?_⟩
  have hv':a=some ⟨b,o,none⟩:=by simp only [Value.slice.injEq] at hv;exact hv.1
  have h0:0<rs.length:=by
   have:=(List.getElem?_eq_some_iff.1 hu).1
   rw [lR] at this;omega
  exact st.aH.cell _ _ (hx i u hu) (h.fA _ _ _ hv' h0)
theorem dS.nil (w:World) (F:Nat→Prop):dS w none 0 [] F:=⟨aU.nil _ _,fun _ _ _ e=>nomatch e⟩
theorem dS.cZ {w:World} {B:Nat} {a:Option Addr} {cp:Nat} {rs:List aX} {F:Nat→Prop} (h:w.ownsRow B 74 4 (.slice a rs.length cp) rs.length (bp rs)) (hF : ∀ i,F i→i<B):dS w a cp rs F :=
 ⟨aU.cZ h,fun x o f e _ hf=>by
  have:=bZ h x (by rw [e];rfl)
  have:=hF x hf
  omega⟩
def bS (s:Nat) (H:Nat→Prop) (i:Nat):Prop:=H i∨i=s
def yR (X:Nat→Prop) (s:Nat) (H:Nat→Prop) (i:Nat):Prop:=bS s H i∨X i
structure Sys (X:Nat→Prop) (w:World) (s k c b:Nat) (m:aG) (q:Cache) (S:aA) (H:Nat→Prop):Prop where
 both:fh X w k c b m q H
 st : ∃ a cp,w.heap[s]? = some (.cells (sH k b S a cp) 180 (0,0))∧dS w a cp S.view.aC (yR X s H)
 fA : ¬ H s
 home:0<m.ar.busy.length→m.ar.home≠s
theorem Sys.lt {w:World} {s k c b:Nat} {m:aG} {q:Cache} {S:aA} {H:Nat→Prop} (h:Sys X w s k c b m q S H) : ∀ i,bS s H i→i<w.heap.size:=fun i hi=>by
 obtain ⟨a,cp,h1,_⟩:=h.st
 rcases hi with hi | rfl
 ·
  exact h.both.lt i hi
 ·
  exact aO h1
theorem Step.ln {w w':World} {s:Nat} {H H':Nat→Prop} (st:Step H H' w w'):Step (bS s H) (bS s H') w w' :=
 ⟨st.aH.mono fun i h=>.inl h,fun i h=>h.elim (fun h=>(st.gP i h).imp .inl id) (fun h=>.inl (.inr h))⟩
theorem Step.off {w w':World} {s:Nat} {H H':Nat→Prop} (st:Step H H' w w'):Step (yR X s H) (yR X s H') w w':=st.ln.Jo
theorem Sys.step {w w':World} {s k c b:Nat} {m m':aG} {q q':Cache} {S:aA} {H H':Nat→Prop} (h:Sys X w s k c b m q S H) (hb:fh X w' k c b m' q' H') (st:Step H H' w w') (hm:bH m m'):Sys X w' s k c b m' q' S H':=by
 obtain ⟨a,cp,h1,h2⟩:=h.st
 exact ⟨hb,⟨a,cp,st.aH.at h1 h.fA,h2.step st.off⟩,st.safe (aO h1) h.fA,fun hl=>by rw [hm.1];exact h.home (zV hl hm.2)⟩
theorem Sys.aj {w w':World} {s k c b:Nat} {m:aG} {q:Cache} {S:aA} {H:Nat→Prop} (h:Sys X w s k c b m q S H) (hb:Below w.heap.size w w'):Sys X w' s k c b m q S H :=
 h.step (h.both.aj hb) (Step.ah hb) (bH.refl m)
theorem IB {w:World} {s k b:Nat} {S:aA} {a:Option Addr} {cp:Nat} (h:w.heap[s]? = some (.cells (sH k b S a cp) 180 (0,0))):Mq w s:=by
 refine ⟨⟨_,cell_of h 0⟩,fun o hf => ?_⟩
 obtain ⟨x,hx⟩:=hf 0 (by omega)
 obtain ⟨y,hy⟩:=hf 1 (by omega)
 have hx':(sH k b S a cp)[o+0]? = some (.int .i64 x):=by
  unfold World.cell? at hx
  rw [h] at hx
  simpa using hx
 have hlt:=(Array.getElem?_eq_some_iff.1 hx').1
 have hlt:o<8:=hlt
 match o,hlt with
 | 0,_=>rw [cell_of h 0] at hx;cases hx
 | 1,_=>rw [cell_of h 1] at hx;cases hx
 | 2,_=>rw [cell_of h 2] at hx;cases hx
 | 3,_=>rw [cell_of h 4] at hy;cases hy
 | 4,_=>rw [cell_of h 4] at hx;cases hx
 | 5,_=>rw [cell_of h 6] at hy;cases hy
 | 6,_=>rw [cell_of h 6] at hx;cases hx
 | 7,_ =>
  have:w.cell? ⟨s,7+1,none⟩=none:=by
   unfold World.cell?
   rw [h]
   rfl
  rw [this] at hy;cases hy
theorem Sys.put {w w':World} {s k c b:Nat} {m:aG} {q:Cache} {S S':aA} {H:Nat→Prop} {a:Option Addr} {cp:Nat} (h:Sys X w s k c b m q S H) (t:Touch (aN s) w w') (h1:w'.heap[s]? = some (.cells (sH k b S' a cp) 180 (0,0))) (h2:dS w a cp S'.view.aC (yR X s H)):Sys X w' s k c b m q S' H∧Step (bS s H) (bS s H) w w':=by
 obtain ⟨a0,cp0,h0,_⟩:=h.st
 have st:Step (bS s H) (bS s H) w w':=Step.dD (t.mono fun i hi=>.inr hi)
 exact ⟨⟨h.both.odd t h.fA (IB h0) h.home,⟨a,cp,h1,h2.step (Step.dD (t.mono fun i hi=>.inl (.inr hi)))⟩,h.fA,h.home⟩,st⟩
theorem tE {w:World} {s:Nat} {a b c d e f g h:Value} {t:TypeId} (H:w.heap[s]? = some (.cells #[a,b,c,d,e,f,g,h] t (0,0))):w.cell? ⟨s,0,none⟩=some a∧w.cell? ⟨s,1,none⟩=some b∧w.cell? ⟨s,2,none⟩=some c∧w.cell? ⟨s,3,none⟩=some d∧w.cell? ⟨s,4,none⟩=some e∧w.cell? ⟨s,5,none⟩=some f∧w.cell? ⟨s,6,none⟩=some g∧w.cell? ⟨s,7,none⟩=some h ∧ ∀ i,w.frozen? ⟨s,i,none⟩=false :=
 ⟨cell_of H 0,cell_of H 1,cell_of H 2,cell_of H 3,cell_of H 4,cell_of H 5,cell_of H 6,cell_of H 7,fun i=>aF H i⟩
theorem Sys.grow {Y F:Nat→Prop} {w w':World} {s k c b:Nat} {m:aG} {q:Cache} {S:aA} {H:Nat→Prop} (h:Sys X w s k c b m q S H) (t:Touch F w w') (hF : ∀ i,F i→X i) (d : ∀ i,F i → ¬ bS s H i) (hh:0<m.ar.busy.length → ¬ F m.ar.home) (hY : ∀ i,Y i→X i∨(w.heap.size≤i∧i<w'.heap.size)):Sys Y w' s k c b m q S H:=by
 obtain ⟨a,cp,h1,h2⟩:=h.st
 refine ⟨h.both.grow t hF (fun i hx hH=>d i hx (.inl hH)) hh hY,⟨a,cp,t.at h1 (fun hx=>d s hx (.inr rfl)),?_⟩,h.fA,h.home⟩
 have h3:=h2.step (F:=yR X s H) (G:=yR X s H) (Step.dD (t.mono fun i hi=>.inr (hF i hi)))
 exact ⟨h3.at_,fun x o f e h0 hy=>hy.elim (fun hm=>h2.fA x o f e h0 (.inl hm)) (fun hy=>(hY x hy).elim (fun hx=>h2.fA x o f e h0 (.inr hx)) (fun hl=>by have:=h2.lt x o f e h0;omega))⟩
def LR (w:World) (s:Nat) (c d e f g h:Value):World:=(((((w.setCell ⟨s,2,none⟩ c).setCell ⟨s,3,none⟩ d).setCell ⟨s,4,none⟩ e).setCell ⟨s,5,none⟩ f).setCell ⟨s,6,none⟩ g).setCell ⟨s,7,none⟩ h
theorem E4 (w:World) (s:Nat) (c d e f g h:Value):Touch (aN s) w (LR w s c d e f g h) :=
 ((((((Touch.refl (aN s) w).set s 2 c rfl).set s 3 d rfl).set s 4 e rfl).set s 5 f rfl).set s 6 g rfl).set s 7 h rfl
theorem LS {w:World} {s:Nat} {a b c0 d0 e0 f0 g0 h0:Value} {t:TypeId} (hh:w.heap[s]? = some (.cells #[a,b,c0,d0,e0,f0,g0,h0] t (0,0))) (c d e f g h:Value):(LR w s c d e f g h).heap[s]? = some (.cells #[a,b,c,d,e,f,g,h] t (0,0)) :=
 az (i:=7) (v:=h) (az (i:=6) (v:=g) (az (i:=5) (v:=f) (az (i:=4) (v:=e) (az (i:=3) (v:=d) (az (i:=2) (v:=c) hh)))))
theorem Sys.store {w:World} {s k c b:Nat} {m:aG} {q:Cache} {S:aA} {H:Nat→Prop} (h:Sys X w s k c b m q S H) (S':aA) (a:Option Addr) (cp:Nat) (hr:dS w a cp S'.view.aC (yR X s H)):Sys X (LR w s (.bool S'.opened) (.int .i64 S'.av) (.bool S'.view.ck) (.int .i64 S'.view.an) (.slice a S'.view.aC.length cp) (.int .i64 S'.view.free)) s k c b m q S' H∧Step (bS s H) (bS s H) w (LR w s (.bool S'.opened) (.int .i64 S'.av) (.bool S'.view.ck) (.int .i64 S'.view.an) (.slice a S'.view.aC.length cp) (.int .i64 S'.view.free)):=by
 obtain ⟨a0,cp0,h1,_⟩:=h.st
 exact h.put (E4 _ _ _ _ _ _ _ _) (LS h1 _ _ _ _ _ _) hr
def AM (X:Nat→Prop) (v:Value) (s k c b:Nat) (m:aG) (q:Cache) (S:aA) (H:Nat→Prop) (w:World) (e:Ending) (w':World):Prop:=e=.returned v ∧ ∃ H',Sys X w' s k c b m q S H'∧Step (bS s H) (bS s H') w w'
theorem nj (s k c b:Nat) (m:aG) (q:Cache) (S:aA) (H:Nat→Prop) (er:Int) (w:World) (h:Sys X w s k c b m q S H):Calls prog 88 #[.pointer (some ⟨s,0,none⟩),.int .i64 er] w (AM X (.int .i64 er) s k c b m q shut H w):=by
 obtain ⟨a,cp,h1,h2⟩:=h.st
 have H0:=zH (zA h h1)
 obtain ⟨c0,c1,c2,c3,c4,c5,c6,c7,cf⟩:=tE h1
 clear h h1 h2
 go_enter func88,ntmps88
 go_wp2
 go_ret
 obtain ⟨h1,h2⟩:=H0.out.1.store shut none 0 (dS.nil _ _)
 exact ⟨rfl,H,h1,h2⟩
theorem oS (s k c b:Nat) (m:aG) (q:Cache) (S:aA) (H:Nat→Prop) (sec:Int) (V:bC) (va:Option Addr) (vc:Nat) (w:World) (h:Sys X w s k c b m q S H) (hv:dS w va vc V.aC (yR X s H)):Calls prog 92 #[.pointer (some ⟨s,0,none⟩),.int .i64 sec,.agg #[.bool V.ck,.int .i64 V.an,.slice va V.aC.length vc,.int .i64 V.free]] w (AM X (.tuple #[]) s k c b m q ⟨true,sec,V⟩ H w):=by
 obtain ⟨a,cp,h1,h2⟩:=h.st
 have H0:=zH (zA h (zA h1 hv))
 obtain ⟨c0,c1,c2,c3,c4,c5,c6,c7,cf⟩:=tE h1
 have hs:s<w.heap.size:=aO h1
 clear h h1 h2 hv
 go_enter func92,ntmps92
 go_upto_region 1 with fail
 have e0:=af w (.cells #[.bool V.ck,.int .i64 V.an,.slice va V.aC.length vc,.int .i64 V.free] 52)
 obtain ⟨b0,b1,b2,b3,bf⟩:=cC e0
 have HN:=zH (ae (Below.refl w.heap.size w) (.cells #[.bool V.ck,.int .i64 V.an,.slice va V.aC.length vc,.int .i64 V.free] 52))
 have d2:=(HN.out.cell (p:=⟨s,2,none⟩) hs).trans c2
 have d3:=(HN.out.cell (p:=⟨s,3,none⟩) hs).trans c3
 have d4:=(HN.out.cell (p:=⟨s,4,none⟩) hs).trans c4
 have d5:=(HN.out.cell (p:=⟨s,5,none⟩) hs).trans c5
 have d6:=(HN.out.cell (p:=⟨s,6,none⟩) hs).trans c6
 have d7:=(HN.out.cell (p:=⟨s,7,none⟩) hs).trans c7
 have df:=fun i=>aF (aa HN.out H0.out.2.1) i
 have hgs:w.heap.size≠s:=by omega
 have hsg:s≠w.heap.size:=by omega
 clear c0 c1 c2 c3 c4 c5 c6 c7 cf e0 hs
 have H1:=zH (zA (H0.out.1.aj HN.out) (zA (H0.out.2.2.step (F:=yR X s H) (G:=yR X s H) (Step.ah HN.out)) (show Step (bS s H) (bS s H) w _ from Step.ah HN.out)))
 clear H0 HN
 generalize w.heap.size=g at *
 generalize w.alloc (.cells #[.bool V.ck,.int .i64 V.an,.slice va V.aC.length vc,.int .i64 V.free] 52)=w2 at *
 go_region_held3 (fun w'=>w'.cell? ⟨g,0,none⟩=some (.bool V.ck)∧w'.cell? ⟨g,1,none⟩=some (.int .i64 V.an)∧w'.cell? ⟨g,2,none⟩=some (.slice va V.aC.length vc)∧w'.cell? ⟨g,3,none⟩=some (.int .i64 V.free)) (go_keep) (fail)
 go_end0
 obtain ⟨h1,h2⟩:=H1.out.1.store ⟨true,sec,V⟩ va vc H1.out.2.1
 exact ⟨rfl,H,h1.aj (au zR),H1.out.2.2.trans (h2.trans (Step.ah (au zR)))⟩
theorem yb (k c b:Nat) (m:aG) (q:Cache) (H:Nat→Prop) (w:World) (h:fh X w k c b m q H) (hh:0<m.ar.busy.length→m.ar.home<w.heap.size):Calls prog 69 #[.pointer (some ⟨k,0,none⟩),.pointer (some ⟨b,0,none⟩)] w fun e w' => ∃ s,e=.returned (.tuple #[.pointer (some ⟨s,0,none⟩),.int .i64 0])∧Sys X w' s k c b m q shut H∧Below w.heap.size w w'∧w.heap.size≤s:=by
 have H0:=zH (zA h hh)
 clear h hh
 go_enter func69,ntmps69
 go_wp2
 go_ret2
 exact ⟨w.heap.size,rfl,⟨H0.out.1.aj (ae zR _),⟨none,0,af _ _,dS.nil _ _⟩,fun hH=>by have:=H0.out.1.lt _ hH;omega,fun hl=>by have:=H0.out.2 hl;omega⟩,ae zR _,Nat.le_refl _⟩
def cQ (S:aA) (key:ByteArray):Int:=if S.opened=false then 2302 else if 1≤key.size∧key.size≤6 then 0 else 2300
theorem ot (s k c b:Nat) (m:aG) (q:Cache) (S:aA) (H:Nat→Prop) (key:ByteArray) (w:World) (h:Sys X w s k c b m q S H):Calls prog 93 #[.pointer (some ⟨s,0,none⟩),.string key] w fun e w'=>e=.returned (.int .i64 (cQ S key))∧w=w':=by
 obtain ⟨a,cp,h1,h2⟩:=h.st
 obtain ⟨c0,c1,c2,c3,c4,c5,c6,c7,cf⟩:=tE h1
 have HK:=zH (fun w=>se key w)
 clear h h1 h2 c0 c1 c3 c4 c5 c6 c7 cf
 unfold cQ
 cases ho:S.opened with
 | false =>
  rw [ho] at c2
  rw [if_pos rfl]
  go_enter func93,ntmps93
  go_wp2
  go_ret
  exact ⟨rfl,rfl⟩
 | true =>
  rw [ho] at c2
  rw [if_neg (by decide)]
  by_cases hk:1≤key.size∧key.size≤6
  ·
   rw [if_pos hk]
   rw [show (decide (1≤key.size)&&decide (key.size≤6))=true by simp [hk.1,hk.2]] at HK
   clear hk
   go_enter func93,ntmps93
   go_wp2_with fail
   refine (HK.out _).mono ?_
   rintro e w1 ⟨rfl,rfl⟩
   go_wp2
   go_ret
   exact ⟨rfl,rfl⟩
  ·
   rw [if_neg hk]
   rw [show (decide (1≤key.size)&&decide (key.size≤6))=false by rw [Bool.and_eq_false_iff];simp only [decide_eq_false_iff_not];omega] at HK
   clear hk
   go_enter func93,ntmps93
   go_wp2_with fail
   refine (HK.out _).mono ?_
   rintro e w1 ⟨rfl,rfl⟩
   go_wp2
   go_ret
   exact ⟨rfl,rfl⟩
end
section
open Go.RowKit
variable {X:Nat→Prop}
theorem oX (m:aG):bH m m.dU.1:=by
 unfold aG.dU
 split
 ·
  exact (cO _ _ _ _ _).trans (cO _ _ _ _ _)
 ·
  exact cO _ _ _ _ _
theorem oH (m:aG) (p n:Int):bH m (m.cR p n).1:=by
 unfold aG.cR
 split <;> exact cO _ _ _ _ _
theorem yn : ∀ (k:Nat) (n:Int) (m:aG),bH m (aG.gR k n m).1
 | 0,n,m=>bH.refl m
 | k+1,n,m=>by
  unfold aG.gR
  split
  ·
   exact kX m
  ·
   split
   ·
    exact kX m
   ·
    exact (kX m).trans (yn k _ _)
theorem qI (m:aG) (p:Int) (s:ByteArray):bH m (m.hU p s).1:=by
 unfold aG.hU
 split
 ·
  exact cO _ _ _ _ _
 ·
  split
  ·
   exact (cO _ _ _ _ _).trans (cO _ _ _ _ _)
  ·
   exact ((cO _ _ _ _ _).trans (cO _ _ _ _ _)).trans (yn _ _ _)
theorem mZ (m:aG) (p:Int) (s:ByteArray):bH m (m.dY p s).1:=by
 unfold aG.dY
 split
 ·
  exact qI _ _ _
 ·
  exact (qI _ _ _).trans (qI _ _ _)
theorem Em (m:aG) (p:Int) (n:Nat) (h:(m.cR p n).2.2=0):(m.cR p n).2.1.size=n:=by
 unfold aG.cR at h ⊢
 split at h
 ·
  rename_i he
  rw [if_pos he,fe,nH (by omega) he];omega
 ·
  rename_i he
  exact absurd h he
theorem Sys.wQ {w:World} {s k c b:Nat} {m:aG} {q:Cache} {S:aA} {H:Nat→Prop} (h:Sys X w s k c b m q S H) : ∃ G,bO X w k c m G ∧ ∀ w' m' G',bO X w' k c m' G'→Step G G' w w'→bH m m' → ∃ H',Sys X w' s k c b m' q S H'∧Step H H' w w':=by
 obtain ⟨G,hc,hw,hH,hh⟩:=h.both.ex
 refine ⟨G,hc,fun w' m' G' hc' st hm => ?_⟩
 have stH:=Step.both st hH (fun i=>Iff.rfl)
 exact ⟨_,h.step (fh.wQ hw hh hm hc' st) stH hm,stH⟩
def q9 (X:Nat→Prop) (s k c b:Nat) (m:aG) (q:Cache) (S:aA) (H:Nat→Prop) (w w':World):Prop := ∃ H',Sys X w' s k c b m q S H'∧Step H H' w w'
theorem IG (s k c b:Nat) (m:aG) (q:Cache) (S:aA) (H:Nat→Prop) (w:World) (h:Sys X w s k c b m q S H) (ok:m.Ok) (kn:m.kQ):Calls prog 123 #[.pointer (some ⟨k,0,none⟩)] w fun e w'=>(∃ x y z,e=.returned (.tuple #[.int .i64 x,.int .i64 y,.int .i64 z,.int .i64 m.dU.2]))∧q9 X s k c b m.dU.1 q S H w w':=by
 obtain ⟨G,hc,hk⟩:=h.wQ
 refine (C7 k c m G w hc ok kn).mono ?_
 rintro e w' ⟨he,G',hc',st⟩
 exact ⟨he,hk _ _ _ hc' st (oX m)⟩
theorem IF (s k c b:Nat) (m:aG) (q:Cache) (S:aA) (H:Nat→Prop) (p:Int) (n:Nat) (w:World) (h:Sys X w s k c b m q S H) (ok:m.Ok) (h0:1≤n) (h1:n≤512) (h2:0≤p) (h3:p≤4096 - n):Calls prog 124 #[.pointer (some ⟨k,0,none⟩),.int .i64 p,.int .i64 n] w fun e w'=>e=.returned (.tuple #[.string (m.cR p n).2.1,.int .i64 (m.cR p n).2.2])∧q9 X s k c b (m.cR p n).1 q S H w w':=by
 obtain ⟨G,hc,hk⟩:=h.wQ
 refine (Cd k c m G p n w hc ok h0 h1 h2 h3).mono ?_
 rintro e w' ⟨he,G',hc',st⟩
 exact ⟨he,hk _ _ _ hc' st (oH m p n)⟩
theorem Kt (s k c b:Nat) (m:aG) (q:Cache) (S:aA) (H:Nat→Prop) (p:Int) (t:ByteArray) (w:World) (h:Sys X w s k c b m q S H) (ok:m.Ok) (h0:2048≤p) (h1:p≤4032) (hp:p % 32=0) (hs:t.size=64):Calls prog 132 #[.pointer (some ⟨k,0,none⟩),.int .i64 p,.string t] w fun e w'=>e=.returned (.int .i64 (m.dY p t).2)∧q9 X s k c b (m.dY p t).1 q S H w w':=by
 obtain ⟨G,hc,hk⟩:=h.wQ
 refine (D4 k c m G p t w hc ok h0 h1 hp hs).mono ?_
 rintro e w' ⟨he,G',hc',st⟩
 exact ⟨he,hk _ _ _ hc' st (mZ m p t)⟩
def AL (X:Nat→Prop) (s k c b:Nat) (m:aG) (q:Cache) (S:aA) (out:List Int) (er:Int) (H:Nat→Prop) (w:World) (e:Ending) (w':World):Prop :=
 ∃ v,e=.returned (.tuple #[v,.int .i64 er])∧(er≠0→v=.slice none 0 0) ∧ ∃ H',Sys X w' s k c b m q S H'∧Step H H' w w'∧(er=0→w'.ownsRow w.heap.size 3 1 v out.length (aB out) ∧ ∀ g,v.ownBlock=some g → ¬ H' g)
theorem Ky (s k c b cap:Nat) (m:aG) (q:Cache) (S:aA) (H:Nat→Prop) (sec:Int) (a:Option Addr) (reads:List Int) (w:World) (h:Sys X w s k c b m q S H) (ok:m.Ok) (hi:aL w a reads H) (hcap:reads.length≤cap) (hh:0<m.ar.busy.length→m.ar.home<w.heap.size) (hr:cH reads=true) (s0:4≤sec) (s1:sec<8):Calls prog 90 #[.pointer (some ⟨k,0,none⟩),.pointer (some ⟨b,0,none⟩),.int .i64 sec,.slice a reads.length cap] w (AL X s k c b (gS m (sec * 512) reads).1 (gS m (sec * 512) reads).2.1 S (gS m (sec * 512) reads).2.2.1 (gS m (sec * 512) reads).2.2.2 H w):=by
 refine (Fs k c b cap m q sec a reads H w h.both ok hi hcap hh hr s0 s1).mono ?_
 rintro e w' ⟨v,he,H',hb,st,h1,h2⟩
 exact ⟨v,he,h1,H',h.step hb st (sM ok _ (by omega) (by omega) reads (fun x hx=>by have:=(ja hr).2 x hx;omega)).2.2,st,h2⟩
theorem L4 (s k c b cap:Nat) (m:aG) (q:Cache) (S:aA) (H:Nat→Prop) (a:Option Addr) (reads:List Int) (w:World) (h:Sys X w s k c b m q S H) (ok:m.Ok) (g:q.Good) (hi:aL w a reads H) (hcap:reads.length≤cap) (hh:0<m.ar.busy.length→m.ar.home<w.heap.size) (hr:cH reads=true):Calls prog 174 #[.pointer (some ⟨b,0,none⟩),.slice a reads.length cap] w (AL X s k c b (dF reads [] m q).1 (dF reads [] m q).2.1 S (dF reads [] m q).2.2.1 (dF reads [] m q).2.2.2 H w):=by
 refine (yM k c b cap m q a reads H w h.both ok g hi hcap hh (fun x hx=>by have:=(ja hr).2 x hx;omega) (ja hr).1).mono ?_
 rintro e w' ⟨v,he,H',hb,st,h1,h2⟩
 exact ⟨v,he,h1,H',h.step hb st (sm reads [] m q ok g (fun x hx=>((ja hr).2 x hx).1)).2.2,st,h2⟩
end
section
open Go.RowKit
variable {X:Nat→Prop}
def cd (sec slot:Int):Int:=sec * 512+slot * 64
theorem tS (s k c b:Nat) (m:aG) (q:Cache) (S:aA) (H:Nat→Prop) (sec slot:Int) (r:aX) (w:World) (h:Sys X w s k c b m q S H) (ok:m.Ok) (s0:4≤sec) (s1:sec<8) (l0:0≤slot) (l1:slot<8) (hr:bD r=true):Calls prog 91 #[.pointer (some ⟨s,0,none⟩),.int .i64 sec,.int .i64 slot,.agg r.cells] w fun e w'=>e=.returned (.int .i64 (m.dY (cd sec slot) (aK r)).2)∧q9 X s k c b (m.dY (cd sec slot) (aK r)).1 q S H w w':=by
 have HP:=zH (fun w=>sk r w)
 rw [show iB r=some (aK r) from if_pos hr] at HP
 have hsz:(aK r).size=64:=by
  unfold aK
  rw [fb,dg _ _ (gp hr)]
 have HB:=zH (fun w (h:Sys X w s k c b m q S H)=>Kt s k c b m q S H (cd sec slot) (aK r) w h ok (by unfold cd;omega) (by unfold cd;omega) (by unfold cd;omega) hsz)
 have e1:wrap64 (sec * 512)=sec * 512:=by unfold wrap64;omega
 have e2:wrap64 (slot * 64)=slot * 64:=by unfold wrap64;omega
 have e3:wrap64 (sec * 512+slot * 64)=sec * 512+slot * 64:=by unfold wrap64;omega
 have H0:=zH h
 generalize hX:m.dY (cd sec slot) (aK r)=br at *
 generalize hT:aK r=t at *
 unfold cd at HB
 rw [show pO (some t) 1900=.tuple #[.string t,.int .i64 0] from rfl] at HP
 clear h hr hX hT ok
 unfold aX.cells at HP ⊢
 go_enter func91,ntmps91
 go_wp2_with fail
 refine (HP.out _).mono ?_
 rintro e w1 ⟨rfl,hb⟩
 have H1:=zH (gtr (ae (Below.refl _ w) (.cells #[.int .i64 r.kind,.int .i64 r.an,.string r.key,.string r.value] 74)) hb)
 have H2:=zH (H0.out.aj H1.out)
 obtain ⟨a,cp,h1,h2⟩:=H2.out.st
 obtain ⟨c0,c1,c2,c3,c4,c5,c6,c7,cf⟩:=tE h1
 clear h1 h2 hb c1 c2 c3 c4 c5 c6 c7
 go_wp2_with fail
 refine (HB.out _ H2.out).mono ?_
 rintro e w2 ⟨rfl,H',hs,st⟩
 have H3:=zH (zA hs ((Step.ah H1.out).trans st))
 clear hs st
 go_wp2
 go_ret
 exact ⟨rfl,H',H3.out⟩
end
end Go.Proofs.YtcfdenckiigdaaaGreat

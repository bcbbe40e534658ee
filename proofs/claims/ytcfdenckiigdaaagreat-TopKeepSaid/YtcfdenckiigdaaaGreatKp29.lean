/- Part 29 of the contracts. -/
import Derived.Test.YtcfdenckiigdaaaGreatKp28
set_option linter.unusedVariables false
set_option maxRecDepth 100000
set_option maxHeartbeats 4000000
namespace Go.Proofs.YtcfdenckiigdaaaGreat
section
open Go.RowKit
def qd4:qcd:=⟨0,0,[],[],0,0⟩
def changeR (V:qau) (sector:Int) (r:qaC):Int×qcd :=
 if (findL (buildL V.recs) r.key).isSome=false∧r.kind=2 then (2202,qd4)
 else if 7<(withL (buildL V.recs) r).length then (2201,qd4)
 else if V.free<8 then (0,⟨-1,sector,[V.free],[r],V.free+1,V.epoch⟩)
 else if 1048576≤V.epoch then (2201,qd4)
 else (0,movedR (nextS sector) (V.epoch+1) (withL (buildL V.recs) r))
def qjZ (c:Int×qcd) (w:World) (e:Ending) (w':World):Prop := ∃ vs vr,e=.returned (.tuple #[.agg (qg2 c.2 vs vr),.int .i64 c.1])∧w'.ownsRow w.heap.size 3 1 vs c.2.slots.length (intVals c.2.slots)∧w'.ownsRow w.heap.size 74 4 vr c.2.recs.length (recVals c.2.recs)∧Below w.heap.size w w'
theorem qfH (er:Int) {w w':World} (hb:Below w.heap.size w w'):qjZ (er,qd4) w (.returned (.tuple #[.agg #[.int .i64 0,.int .i64 0,.slice none 0 0,.slice none 0 0,.int .i64 0,.int .i64 0],.int .i64 er])) w' :=
 ⟨_,_,rfl,World.ownsRow_nil _ _ _ _,World.ownsRow_nil _ _ _ _,hb⟩
theorem qld {w:World} {B b n sz:Nat} {cs:Array Value} {t:TypeId} (h:w.heap[b]? = some (.cells cs t (0,0))) (hB:B≤b) (hl:cs.size=n * sz) (hn:n≤1000):w.ownsRow B t sz (.slice (some ⟨b,0,none⟩) n n) n cs.toList :=
 ⟨by simpa using hl,.inr ⟨b,n,cs,rfl,hB,h,Nat.le_refl _,by unfold maxLen;omega,hl,List.take_of_length_le (Nat.le_of_eq hl)⟩⟩
theorem qsF (w:World) (g:Nat) (a b c d e f:Value):(set6 w g a b c d e f).heap.size=w.heap.size:=by simp [set6]
theorem qlq {w:World} {g:Nat} {a0 b0 c0 d0 e0 f0:Value} {t:TypeId} (h:w.heap[g]? = some (.cells #[a0,b0,c0,d0,e0,f0] t (0,0))) (a b c d e f:Value):(set6 w g a b c d e f).heap[g]? = some (.cells #[a,b,c,d,e,f] t (0,0)) :=
 qag (i:=5) (v:=f) (qag (i:=4) (v:=e) (qag (i:=3) (v:=d) (qag (i:=2) (v:=c) (qag (i:=1) (v:=b) (qag (i:=0) (v:=a) h)))))
theorem qhz (V:qau) (vr:Value) (sector:Int) (r:qaC) (w:World) (hs:SliceAt w vr V.recs.length 4 (recVals V.recs)) (ok:V.Ok) (hr:qcH r) (s0:4≤sector) (s1:sector<8):Calls Tryz.prog 133 #[.agg #[.bool V.good,.int .i64 V.epoch,vr,.int .i64 V.free],.int .i64 sector,.agg r.cells] w (qjZ (changeR V sector r) w):=by
 have HL:=zH (fun b w h=>qjL b V r w h ok hr)
 have HF:=zH (fun v w h=>qga v (buildL V.recs) r.key w h (by have:=(qaJ _ V.recs rfl ok.recs).2;have:=ok.len;omega))
 have HM:=zH (fun sec ep v w h=>qi7 sec ep v (withL (buildL V.recs) r) w h (by have:=(qaJ _ V.recs rfl ok.recs);have:=(qdp this.1 hr).2;have:=ok.len;omega))
 have HN:=zH (fun w=>qfs sector w (by omega) (by omega))
 have hve:=ok.epoch
 have hvf:=ok.free
 have HS:=zH hs
 obtain ⟨va,vc,rfl⟩:=hs.slice
 have hnb:=qac (qac (qac (Below.refl w.heap.size w) (.cells #[.bool V.good,.int .i64 V.epoch,.slice va V.recs.length vc,.int .i64 V.free] 52)) (.cells #[.int .i64 r.kind,.int .i64 r.epoch,.string r.key,.string r.value] 74)) (.cells #[.int .i64 0,.int .i64 0,.slice none 0 0,.slice none 0 0,.int .i64 0,.int .i64 0] 228)
 have e0:=qab (qac (qac (Below.refl _ (w.alloc _)) (.cells #[.int .i64 r.kind,.int .i64 r.epoch,.string r.key,.string r.value] 74)) (.cells #[.int .i64 0,.int .i64 0,.slice none 0 0,.slice none 0 0,.int .i64 0,.int .i64 0] 228)) (qad w (.cells #[.bool V.good,.int .i64 V.epoch,.slice va V.recs.length vc,.int .i64 V.free] 52))
 have e1:=qab (qac (Below.refl _ ((w.alloc (.cells #[.bool V.good,.int .i64 V.epoch,.slice va V.recs.length vc,.int .i64 V.free] 52)).alloc _)) (.cells #[.int .i64 0,.int .i64 0,.slice none 0 0,.slice none 0 0,.int .i64 0,.int .i64 0] 228)) (qad (w.alloc _) (.cells #[.int .i64 r.kind,.int .i64 r.epoch,.string r.key,.string r.value] 74))
 have e2:=qad ((w.alloc (.cells #[.bool V.good,.int .i64 V.epoch,.slice va V.recs.length vc,.int .i64 V.free] 52)).alloc (.cells #[.int .i64 r.kind,.int .i64 r.epoch,.string r.key,.string r.value] 74)) (.cells #[.int .i64 0,.int .i64 0,.slice none 0 0,.slice none 0 0,.int .i64 0,.int .i64 0] 228)
 simp only [World.size_alloc] at e1 e2
 have HW:=zH (zA hnb (zA e0 (zA e1 e2)))
 clear hnb e0 e1 e2 hs
 have HC:=zH (show changeR V sector r=if (findL (buildL V.recs) r.key).isSome=false∧r.kind=2 then (2202,qd4) else if 7<(withL (buildL V.recs) r).length then (2201,qd4) else if V.free<8 then (0,⟨-1,sector,[V.free],[r],V.free+1,V.epoch⟩) else if 1048576≤V.epoch then (2201,qd4) else (0,movedR (nextS sector) (V.epoch+1) (withL (buildL V.recs) r)) from rfl)
 unfold qaC.cells at HL ⊢
 generalize changeR V sector r=cr at *
 generalize findL (buildL V.recs) r.key=fl at *
 generalize buildL V.recs=now at *
 generalize withL now r=then_ at *
 clear ok hr
 go_enter Tryz.func133,Tryz.ntmps133
 go_upto_region 1 with fail
 generalize ((w.alloc (.cells #[.bool V.good,.int .i64 V.epoch,.slice va V.recs.length vc,.int .i64 V.free] 52)).alloc (.cells #[.int .i64 r.kind,.int .i64 r.epoch,.string r.key,.string r.value] 74)).alloc (.cells #[.int .i64 0,.int .i64 0,.slice none 0 0,.slice none 0 0,.int .i64 0,.int .i64 0] 228)=W at *
 obtain ⟨c0,c1,c2,c3,hf⟩:=row4 HW.out.2.2.1
 go_wp2_with fail
 refine (HL.out _ _ ⟨_,HW.out.2.1,HS.out.later HW.out.1⟩).mono ?_
 rintro e w1 ⟨x,y,rfl,hx,hy,hb⟩
 have HB:=zH (zA (gtr HW.out.1 hb) (zA (qab hb HW.out.2.1) (zA (qab hb HW.out.2.2.1) (zA (qab hb HW.out.2.2.2) (zA hx hy)))))
 clear hb hx hy c0 c1 c2 c3 hf HW
 obtain ⟨xa,xc,rfl⟩:=qaD HB.out.2.2.2.2.1
 obtain ⟨ya,yc,rfl⟩:=qaD HB.out.2.2.2.2.2
 obtain ⟨c0,c1,c2,c3,hf⟩:=row4 HB.out.2.2.1
 go_wp2_with fail
 refine (HF.out _ _ (SliceAt.of_own HB.out.2.2.2.2.1)).mono ?_
 rintro e w2 ⟨rfl,hb⟩
 have HB2:=zH (zA (gtr HB.out.1 hb) (zA (qab hb HB.out.2.1) (zA (qab hb HB.out.2.2.1) (zA (qab hb HB.out.2.2.2.1) (World.ownsRow.later HB.out.2.2.2.2.2 hb)))))
 clear hb c0 c1 c2 c3 hf HB
 obtain ⟨c0,c1,c2,c3,hf⟩:=row4 HB2.out.2.2.1
 obtain ⟨v0,v1,v2,v3,vf⟩:=row4 HB2.out.2.1
 obtain ⟨p0,p1,p2,p3,p4,p5,pf⟩:=row6 HB2.out.2.2.2.1
 have hbl2:w.heap.size+1+1<w2.heap.size:=qat HB2.out.2.2.2.1
 have hbl1:w.heap.size+1<w2.heap.size:=by omega
 have hbl0:w.heap.size<w2.heap.size:=by omega
 generalize fl.isSome=fs at *
 by_cases k1:fs=false∧r.kind=2
 ·
  obtain ⟨rfl,k2⟩:=k1
  rw [if_pos ⟨rfl,k2⟩] at HC
  rw [k2] at c0 ⊢
  go_wp2_with fail
  refine bodyPost_ret (v:=.tuple #[.agg #[.int .i64 0,.int .i64 0,.slice none 0 0,.slice none 0 0,.int .i64 0,.int .i64 0],.int .i64 2202]) (by simp [results,Tryz.results133,go_sem,p0,p1,p2,p3,p4,p5]) rfl ?_
  rw [HC.out]
  exact qfH 2202 (qbI HB2.out.1 (show w.heap.size≤w.heap.size+1+1 by omega) _ _ _ _ _ _)
 ·
  have k1':(!fs&&(r.kind == 2))=false:=by
   cases hfs:fs with
   | true=>rfl
   | false =>
    have:r.kind≠2:=fun e=>k1 ⟨hfs,e⟩
    simpa using this
  rw [if_neg k1] at HC
  have hsplit:fs=true∨(fs=false∧(r.kind == 2)=false):=by
   cases hfs:fs with
   | true=>exact .inl rfl
   | false=>exact .inr ⟨rfl,by rw [hfs] at k1';simpa using k1'⟩
  clear k1 k1'
  go_upto_region 5 with fail
  go_cut [43] from 37 to 43 (fun v wx=>v=.bool false∧wx=w2)
  case first =>
   rcases hsplit with rfl | ⟨rfl,hk⟩
   all_goals
    go_wp2_with fail
    go_meet
    exact ⟨rfl,rfl⟩
  case rest =>
   obtain ⟨rfl,hwc⟩:=hcut
   subst hwc
   clear hsplit
   by_cases k2:7<then_.length
   ·
    have k2':(7:Int)<(then_.length:Int):=by omega
    rw [if_pos k2] at HC
    go_wp2_with fail
    refine bodyPost_ret (v:=.tuple #[.agg #[.int .i64 0,.int .i64 0,.slice none 0 0,.slice none 0 0,.int .i64 0,.int .i64 0],.int .i64 2201]) (by simp [results,Tryz.results133,go_sem,p0,p1,p2,p3,p4,p5]) rfl ?_
    rw [HC.out]
    exact qfH 2201 (qbI HB2.out.1 (show w.heap.size≤w.heap.size+1+1 by omega) _ _ _ _ _ _)
   ·
    have k2' : ¬ (7:Int)<(then_.length:Int):=by omega
    rw [if_neg k2] at HC
    by_cases k3:V.free<8
    ·
     rw [if_pos k3] at HC
     go_wp2_with fail
     have hS:=qbI (w:=wc) HB2.out.1 (show w.heap.size≤w.heap.size+1+1 by omega) (.int .i64 (-1)) (.int .i64 sector) (.slice (some ⟨wc.heap.size,0,none⟩) 1 1) (.slice (some ⟨wc.heap.size+1,0,none⟩) 1 1) (.int .i64 (V.free+1)) (.int .i64 V.epoch)
     have hz:=qsF wc (w.heap.size+1+1) (.int .i64 (-1)) (.int .i64 sector) (.slice (some ⟨wc.heap.size,0,none⟩) 1 1) (.slice (some ⟨wc.heap.size+1,0,none⟩) 1 1) (.int .i64 (V.free+1)) (.int .i64 V.epoch)
     have hat:=qlq HB2.out.2.2.2.1 (.int .i64 (-1)) (.int .i64 sector) (.slice (some ⟨wc.heap.size,0,none⟩) 1 1) (.slice (some ⟨wc.heap.size+1,0,none⟩) 1 1) (.int .i64 (V.free+1)) (.int .i64 V.epoch)
     have hA:=qad (set6 wc (w.heap.size+1+1) (.int .i64 (-1)) (.int .i64 sector) (.slice (some ⟨wc.heap.size,0,none⟩) 1 1) (.slice (some ⟨wc.heap.size+1,0,none⟩) 1 1) (.int .i64 (V.free+1)) (.int .i64 V.epoch)) (.cells #[.int .i64 V.free] 3)
     change bodyPost _ _ _ _ _ (((set6 wc (w.heap.size+1+1) (.int .i64 (-1)) (.int .i64 sector) (.slice (some ⟨wc.heap.size,0,none⟩) 1 1) (.slice (some ⟨wc.heap.size+1,0,none⟩) 1 1) (.int .i64 (V.free+1)) (.int .i64 V.epoch)).alloc _).alloc _)
     generalize set6 wc (w.heap.size+1+1) (.int .i64 (-1)) (.int .i64 sector) (.slice (some ⟨wc.heap.size,0,none⟩) 1 1) (.slice (some ⟨wc.heap.size+1,0,none⟩) 1 1) (.int .i64 (V.free+1)) (.int .i64 V.epoch)=w5 at *
     have hB:=qad (w5.alloc (.cells #[.int .i64 V.free] 3)) (.cells #[.int .i64 r.kind,.int .i64 r.epoch,.string r.key,.string r.value] 74)
     have hA:=qab (qac (Below.refl _ (w5.alloc (.cells #[.int .i64 V.free] 3))) (.cells #[.int .i64 r.kind,.int .i64 r.epoch,.string r.key,.string r.value] 74)) hA
     have hat:=qab (qac (qac (Below.refl _ w5) (.cells #[.int .i64 V.free] 3)) (.cells #[.int .i64 r.kind,.int .i64 r.epoch,.string r.key,.string r.value] 74)) hat
     have hS:=qac (qac hS (.cells #[.int .i64 V.free] 3)) (.cells #[.int .i64 r.kind,.int .i64 r.epoch,.string r.key,.string r.value] 74)
     simp only [World.size_alloc] at hB
     generalize (w5.alloc (.cells #[.int .i64 V.free] 3)).alloc (.cells #[.int .i64 r.kind,.int .i64 r.epoch,.string r.key,.string r.value] 74)=w6 at *
     rw [hz] at hA hB
     obtain ⟨q0,q1,q2,q3,q4,q5,qf⟩:=row6 hat
     refine bodyPost_ret (v:=.tuple #[.agg #[.int .i64 (-1),.int .i64 sector,.slice (some ⟨wc.heap.size,0,none⟩) 1 1,.slice (some ⟨wc.heap.size+1,0,none⟩) 1 1,.int .i64 (V.free+1),.int .i64 V.epoch],.int .i64 0]) (by simp [results,Tryz.results133,go_sem,q0,q1,q2,q3,q4,q5]) rfl ?_
     rw [HC.out]
     exact ⟨_,_,rfl,qld (cs := #[.int .i64 V.free]) (t:=3) hA (by omega) rfl (by omega),qld (cs := #[.int .i64 r.kind,.int .i64 r.epoch,.string r.key,.string r.value]) (t:=74) hB (by omega) rfl (by omega),hS⟩
    ·
     rw [if_neg k3] at HC
     by_cases k4:1048576≤V.epoch
     ·
      rw [if_pos k4] at HC
      go_wp2_with fail
      refine bodyPost_ret (v:=.tuple #[.agg #[.int .i64 0,.int .i64 0,.slice none 0 0,.slice none 0 0,.int .i64 0,.int .i64 0],.int .i64 2201]) (by simp [results,Tryz.results133,go_sem,p0,p1,p2,p3,p4,p5]) rfl ?_
      rw [HC.out]
      exact qfH 2201 (qbI HB2.out.1 (show w.heap.size≤w.heap.size+1+1 by omega) _ _ _ _ _ _)
     ·
      rw [if_neg k4] at HC
      have hw1:wrap64 (V.epoch+1)=V.epoch+1:=by unfold wrap64;omega
      have HO:=zH (SliceAt.of_own HB2.out.2.2.2.2)
      have HW2:=zH (qaT (n:=V.epoch+1) (by omega) (by omega))
      go_wp2_with fail
      clear p0 p1 p2 p3 p4 p5 pf c0 c1 c2 c3 hf v0 v2 v3 HF HL HS
      go_region_with (first | (go_at_call 89;refine (HN.out _).mono ?_;rintro e w' ⟨rfl,rfl⟩) | (go_at_call 173;refine (HM.out _ _ _ _ (HO.out.later (qai (Below.refl _ _)))).mono ?_;rintro e w' ⟨vs,vr,rfl,hs,hr,hb⟩;have HR:=zH (zA hs (zA hr (zA (gtr (qai (Below.refl _ _)) hb) (qab (gtr (qai (Below.refl _ _)) hb) HB2.out.2.2.2.1))));clear hs hr hb;obtain ⟨sa,sc,rfl⟩:=qaD HR.out.1;obtain ⟨ra,rc,rfl⟩:=qaD HR.out.2.1;obtain ⟨q0,q1,q2,q3,q4,q5,qf⟩:=row6 HR.out.2.2.2;unfold qg2))
      all_goals
       simp only [HW2.out] at HR ⊢
       generalize movedR (nextS sector) (V.epoch+1) then_=pl at *
       have hS:=qbI (gtr HB2.out.1 HR.out.2.2.1) (show w.heap.size≤w.heap.size+1+1 by omega) (.int .i64 pl.wipe) (.int .i64 pl.sector) (.slice sa pl.slots.length sc) (.slice ra pl.recs.length rc) (.int .i64 pl.free) (.int .i64 pl.epoch)
       have hat:=qlq HR.out.2.2.2 (.int .i64 pl.wipe) (.int .i64 pl.sector) (.slice sa pl.slots.length sc) (.slice ra pl.recs.length rc) (.int .i64 pl.free) (.int .i64 pl.epoch)
       have hs:=qdo HR.out.1 (qbD HR.out.1 HR.out.2.2.2 (by decide)) (.int .i64 pl.wipe) (.int .i64 pl.sector) (.slice sa pl.slots.length sc) (.slice ra pl.recs.length rc) (.int .i64 pl.free) (.int .i64 pl.epoch)
       have hr:=qdo HR.out.2.1 (qbD HR.out.2.1 HR.out.2.2.2 (by decide)) (.int .i64 pl.wipe) (.int .i64 pl.sector) (.slice sa pl.slots.length sc) (.slice ra pl.recs.length rc) (.int .i64 pl.free) (.int .i64 pl.epoch)
       obtain ⟨d0,d1,d2,d3,d4,d5,df⟩:=row6 hat
       clear q0 q1 q2 q3 q4 q5 qf
       go_wp2_with fail
       refine bodyPost_ret (v:=.tuple #[.agg #[.int .i64 pl.wipe,.int .i64 pl.sector,.slice sa pl.slots.length sc,.slice ra pl.recs.length rc,.int .i64 pl.free,.int .i64 pl.epoch],.int .i64 0]) ?_ rfl ?_
       ·
        change (results _ _).run _ (set6 _ _ _ _ _ _ _ _)=_
        simp [results,Tryz.results133,go_sem,d0,d1,d2,d3,d4,d5]
        rfl
       ·
        rw [HC.out]
        exact ⟨_,_,rfl,qb9 hs HB2.out.1.size,qb9 hr HB2.out.1.size,hS⟩
end
section
open Go.RowKit
def qau.row (V:qau) (x:Option Addr×Nat):List Value:=[.bool V.good,.int .i64 V.epoch,.slice x.1 V.recs.length x.2,.int .i64 V.free]
def qbb (vs:List (qau×(Option Addr×Nat))):List Value:=vs.flatMap fun p=>p.1.row p.2
theorem qfU : ∀ (vs:List (qau×(Option Addr×Nat))) (i:Nat) (p:qau×(Option Addr×Nat)),vs[i]? = some p→(qbb vs)[4 * i]? = some (.bool p.1.good)∧(qbb vs)[4 * i+1]? = some (.int .i64 p.1.epoch)∧(qbb vs)[4 * i+2]? = some (.slice p.2.1 p.1.recs.length p.2.2)∧(qbb vs)[4 * i+3]? = some (.int .i64 p.1.free)
 | [],i,p,h=>by simp at h
 | q::vs,0,p,h=>by
  obtain rfl:q=p:=by simpa using h
  simp [qbb,qau.row]
 | q::vs,i+1,p,h=>by
  have:=qfU vs i p (by simpa using h)
  have e : ∀ j,(qbb (q::vs))[4 * (i+1)+j]? = (qbb vs)[4 * i+j]? := fun j=>by
   have:qbb (q::vs)=q.1.row q.2++qbb vs:=by simp [qbb]
   rw [this,List.getElem?_append_right (by simp [qau.row];omega)]
   congr 1
   simp [qau.row];omega
  exact ⟨(e 0).trans this.1,(e 1).trans this.2.1,(e 2).trans this.2.2.1,(e 3).trans this.2.2.2⟩
def qdC (vs:List (qau×(Option Addr×Nat))):Nat→Option Nat
 | 0=>none
 | j+1=>match vs[j]? with
  | none=>qdC vs j
  | some p=>if p.1.good=false then qdC vs j else
   match qdC vs j with
   | none=>some j
   | some k=>match vs[k]? with
    | none=>qdC vs j
    | some q=>if q.1.epoch<p.1.epoch then some j else some k
def qpH (o:Option Nat):Int:=match o with | none => -1 | some k=>k
theorem qkS (vs:List (qau×(Option Addr×Nat))) : ∀ j k,qdC vs j=some k→k<j
 | 0,k,h=>by simp [qdC] at h
 | j+1,k,h=>by
  have ih:=qkS vs j
  unfold qdC at h
  split at h
  ·
   have:=ih k h;omega
  ·
   split at h
   ·
    have:=ih k h;omega
   ·
    split at h
    ·
     simp at h;omega
    ·
     rename_i hk
     have hk':=ih _ hk
     split at h
     ·
      have:=ih k h;omega
     ·
      split at h <;> simp at h <;> omega
def qs9 (o:Option Nat) (w:World) (e:Ending) (w':World):Prop:=e=.returned (match o with | none=>.tuple #[.int .i64 0,.int .i64 2001] | some k=>.tuple #[.int .i64 k,.int .i64 0])∧Below w.heap.size w w'
theorem qpI (v:Value) (vs:List (qau×(Option Addr×Nat))) (w:World) (h:SliceAt w v vs.length 4 (qbb vs)) (hn:vs.length≤100):Calls Tryz.prog 20 #[v] w (qs9 (qdC vs vs.length) w):=by
 have H:=zH h
 have HX:=zH (qfU vs)
 have HL:=zH (qkS vs)
 obtain ⟨a,c,rfl⟩:=h.slice
 clear h
 go_enter Tryz.func20,Tryz.ntmps20
 go_wp2_with fail
 go_loopg [4,9] vs.length (fun n b i wr => ∃ j:Nat,n=vs.length - j∧b=.int .i64 (qpH (qdC vs j))∧i=.int .i64 j∧j≤vs.length∧Below w.heap.size w wr)
 case atStart=>exact ⟨0,rfl,rfl,rfl,Nat.zero_le _,Below.refl _ _⟩
 case round =>
  obtain ⟨j,hgn,rfl,rfl,hj,hM⟩:=hrel
  have HB:=zH (zA hgn hM)
  clear hgn hM
  by_cases hlt:j<vs.length
  ·
   have hlt':(j:Int)<(vs.length:Int):=by omega
   obtain ⟨b,o,rfl,hc,hx⟩:=H.out.some (by omega)
   have hp:vs[j]? = some vs[j]:=List.getElem?_eq_getElem hlt
   have HS:=zH (show qdC vs (j+1)=(match some vs[j] with | none=>qdC vs j | some p=>if p.1.good=false then qdC vs j else match qdC vs j with | none=>some j | some k=>match vs[k]? with | none=>qdC vs j | some q=>if q.1.epoch<p.1.epoch then some j else some k) from by rw [qdC,hp])
   generalize vs[j]=p at *
   obtain ⟨V,ra,rc⟩:=p
   obtain ⟨p0,p1,p2,p3⟩:=HX.out j _ hp
   have cc : ∀ i u,(qbb vs)[i]? = some u→wr.cell? ⟨b,o+i,none⟩=some u:=fun i u hu=>by
    have e:=hx _ _ hu
    exact (HB.out.2.cell (p:=⟨b,o+i,none⟩) (World.block_lt_of_cell? w _ e)).trans e
   have d0:wr.cell? ⟨b,o+j * 4,none⟩=some (.bool V.good):=by rw [Nat.mul_comm];exact cc _ _ p0
   have d1:wr.cell? ⟨b,o+j * 4+1,none⟩=some (.int .i64 V.epoch):=by rw [Nat.mul_comm,Nat.add_assoc];exact cc _ _ p1
   have d2:wr.cell? ⟨b,o+j * 4+2,none⟩=some (.slice ra V.recs.length rc):=by rw [Nat.mul_comm,Nat.add_assoc];exact cc _ _ p2
   have d3:wr.cell? ⟨b,o+j * 4+3,none⟩=some (.int .i64 V.free):=by rw [Nat.mul_comm,Nat.add_assoc];exact cc _ _ p3
   have HC:=zH cc
   have hbl:b<wr.heap.size:=World.block_lt_of_cell? wr _ d0
   clear p0 p1 p2 p3 cc hx
   go_upto_region 5 with fail
   have e0:=qad wr (.cells #[.bool V.good,.int .i64 V.epoch,.slice ra V.recs.length rc,.int .i64 V.free] 52)
   obtain ⟨f0,f1,f2,f3,ff⟩:=row4 e0
   have hN:=gtr HB.out.2 (qac (Below.refl _ wr) (.cells #[.bool V.good,.int .i64 V.epoch,.slice ra V.recs.length rc,.int .i64 V.free] 52))
   have HN:=zH hN
   have HC2:=zH (fun i u hu=>((qac (Below.refl wr.heap.size wr) (.cells #[.bool V.good,.int .i64 V.epoch,.slice ra V.recs.length rc,.int .i64 V.free] 52)).cell (p:=⟨b,o+i,none⟩) hbl).trans (HC.out i u hu))
   clear d0 d1 d2 d3 e0 hN HC
   generalize wr.heap.size=g at *
   generalize wr.alloc (.cells #[.bool V.good,.int .i64 V.epoch,.slice ra V.recs.length rc,.int .i64 V.free] 52)=w2 at *
   clear hbl
   replace HS:=HS.out
   dsimp only at HS
   cases hg:V.good with
   | false =>
    rw [hg,if_pos rfl] at HS
    rw [hg] at f0
    replace HS:=zH HS
    clear hg hp f2 f3
    go_quiet (fail)
    go_wp2_with fail
    go_roundg (vs.length - (j+1))
    case measure=>have:=HB.out.1;omega
    case rel=>exact ⟨j+1,rfl,by first | (rw [HS.out];done) | (rw [HS.out];rfl),by go_num,by omega,qao HN.out _⟩
   | true =>
    rw [hg,if_neg (by decide)] at HS
    rw [hg] at f0
    clear hg hp f2 f3
    cases hb:qdC vs j with
    | none =>
     rw [hb] at HS
     replace HS:=zH HS
     clear hb
     rw [show qpH none = -1 from rfl]
     go_quiet (fail)
     go_wp2_with fail
     go_roundg (vs.length - (j+1))
     case measure=>have:=HB.out.1;omega
     case rel=>exact ⟨j+1,rfl,by first | (rw [HS.out];done) | (rw [HS.out];rfl),by go_num,by omega,qao HN.out _⟩
    | some k =>
     have hk:=HL.out j k hb
     rw [hb] at HS
     obtain ⟨q,hq⟩ : ∃ q,vs[k]? = some q:=⟨_,List.getElem?_eq_getElem (by omega)⟩
     dsimp only at HS
     rw [hq] at HS
     dsimp only at HS
     have g1:w2.cell? ⟨b,o+k * 4+1,none⟩=some (.int .i64 q.1.epoch):=by rw [Nat.mul_comm,Nat.add_assoc];exact HC2.out _ _ (HX.out k q hq).2.1
     have hk1:k<vs.length:=by omega
     have hk2:(k:Int)<(vs.length:Int):=by omega
     clear hq
     by_cases hlt:q.1.epoch<V.epoch
     ·
      rw [if_pos hlt] at HS
      replace HS:=zH HS
      clear hb
      rw [show qpH (some k)=(k:Int) from rfl]
      have hk0:decide ((k:Int)<0)=false:=decide_eq_false (by omega)
      go_quiet (fail)
      go_wp2_with fail
      go_roundg (vs.length - (j+1))
      case measure=>have:=HB.out.1;omega
      case rel=>exact ⟨j+1,rfl,by first | (rw [HS.out];done) | (rw [HS.out];rfl),by go_num,by omega,qao HN.out _⟩
     ·
      rw [if_neg hlt] at HS
      replace HS:=zH HS
      clear hb
      have hlt2:decide (q.1.epoch<V.epoch)=false:=decide_eq_false hlt
      clear hlt
      rw [show qpH (some k)=(k:Int) from rfl]
      have hk0:decide ((k:Int)<0)=false:=decide_eq_false (by omega)
      go_quiet (fail)
      go_wp2_with fail
      go_roundg (vs.length - (j+1))
      case measure=>have:=HB.out.1;omega
      case rel=>exact ⟨j+1,rfl,by first | (rw [HS.out];done) | (rw [HS.out];rfl),by go_num,by omega,qao HN.out _⟩
  ·
   obtain rfl:j=vs.length:=by omega
   have HL2:=HL.out vs.length
   clear HL HX
   cases hb:qdC vs vs.length with
   | none =>
    have HZ:=zH hb
    clear hb HL2
    rw [show qpH none = -1 from rfl]
    go_wp2_with fail
    go_ret2
    rw [HZ.out]
    exact ⟨rfl,HB.out.2⟩
   | some k =>
    have HZ:=zH hb
    clear hb HL2
    rw [show qpH (some k)=(k:Int) from rfl]
    have hk0:decide ((k:Int)<0)=false:=decide_eq_false (by omega)
    go_wp2_with fail
    go_ret2
    rw [HZ.out]
    exact ⟨rfl,HB.out.2⟩
end
end Go.Proofs.YtcfdenckiigdaaaGreat

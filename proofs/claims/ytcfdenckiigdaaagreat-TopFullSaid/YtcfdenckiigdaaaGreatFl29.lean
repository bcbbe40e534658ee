/- Part 29 of the contracts. -/
import Derived.Test.YtcfdenckiigdaaaGreatFl28
set_option linter.unusedVariables false
set_option maxRecDepth 100000
set_option maxHeartbeats 4000000
namespace Go.Proofs.YtcfdenckiigdaaaGreat
open Tryz
section
open Go.RowKit
def lB:fW:=⟨0,0,[],[],0,0⟩
def cC (V:bB) (av:Int) (r:aX):Int×fW :=
 if (gP (cz V.aB) r.key).isSome=false∧r.kind=2 then (2202,lB)
 else if 7<(eG (cz V.aB) r).length then (2201,lB)
 else if V.free<8 then (0,⟨-1,av,[V.free],[r],V.free+1,V.an⟩)
 else if 1048576≤V.an then (2201,lB)
 else (0,jJ (fM av) (V.an+1) (eG (cz V.aB) r))
def vJ (c:Int×fW) (w:World) (e:Ending) (w':World):Prop := ∃ vs vr,e=.returned (.tuple #[.agg (pR c.2 vs vr),.int .i64 c.1])∧w'.ownsRow w.heap.size 3 1 vs c.2.bI.length (aC c.2.bI)∧w'.ownsRow w.heap.size 74 4 vr c.2.aB.length (bp c.2.aB)∧Below w.heap.size w w'
theorem oK (er:Int) {w w':World} (hb:Below w.heap.size w w'):vJ (er,lB) w (.returned (.tuple #[.agg #[.int .i64 0,.int .i64 0,.slice none 0 0,.slice none 0 0,.int .i64 0,.int .i64 0],.int .i64 er])) w' :=
 ⟨_,_,rfl,zN,zN,hb⟩
theorem vD {w:World} {B b n sz:Nat} {cs:Array Value} {t:TypeId} (h:w.heap[b]? = some (.cells cs t (0,0))) (hB:B≤b) (hl:cs.size=n * sz) (hn:n≤1000):w.ownsRow B t sz (.slice (some ⟨b,0,none⟩) n n) n cs.toList :=
 ⟨by simpa using hl,.inr ⟨b,n,cs,rfl,hB,h,Nat.le_refl _,by unfold maxLen;omega,hl,List.take_of_length_le (Nat.le_of_eq hl)⟩⟩
theorem Ic (w:World) (g:Nat) (a b c d e f:Value):(Be w g a b c d e f).heap.size=w.heap.size:=by simp [Be]
theorem vF {w:World} {g:Nat} {a0 b0 c0 d0 e0 f0:Value} {t:TypeId} (h:w.heap[g]? = some (.cells #[a0,b0,c0,d0,e0,f0] t (0,0))) (a b c d e f:Value):(Be w g a b c d e f).heap[g]? = some (.cells #[a,b,c,d,e,f] t (0,0)) :=
 az (i:=5) (v:=f) (az (i:=4) (v:=e) (az (i:=3) (v:=d) (az (i:=2) (v:=c) (az (i:=1) (v:=b) (az (i:=0) (v:=a) h)))))
theorem tw (V:bB) (vr:Value) (av:Int) (r:aX) (w:World) (hs:aT w vr V.aB.length 4 (bp V.aB)) (ok:V.Ok) (hr:gW r) (s0:4≤av) (s1:av<8):Calls prog 133 #[.agg #[.bool V.cn,.int .i64 V.an,vr,.int .i64 V.free],.int .i64 av,.agg r.cells] w (vJ (cC V av r) w):=by
 have HL:=zH (fun b w h=>xt b V r w h ok hr)
 have HF:=zH (fun v w h=>qa v (cz V.aB) r.key w h (by have:=(dx _ V.aB rfl ok.aB).2;have:=ok.len;omega))
 have HM:=zH (fun sec ep v w h=>vg sec ep v (eG (cz V.aB) r) w h (by have:=(dx _ V.aB rfl ok.aB);have:=(nW this.1 hr).2;have:=ok.len;omega))
 have HN:=zH (fun w=>o7 av w (by omega) (by omega))
 have hve:=ok.an
 have hvf:=ok.free
 have HS:=zH hs
 obtain ⟨va,vc,rfl⟩:=hs.slice
 have hnb:=ae (ae (ae (Below.refl w.heap.size w) (.cells #[.bool V.cn,.int .i64 V.an,.slice va V.aB.length vc,.int .i64 V.free] 52)) (.cells #[.int .i64 r.kind,.int .i64 r.an,.string r.key,.string r.value] 74)) (.cells #[.int .i64 0,.int .i64 0,.slice none 0 0,.slice none 0 0,.int .i64 0,.int .i64 0] 228)
 have e0:=aa (ae (ae (Below.refl _ (w.alloc _)) (.cells #[.int .i64 r.kind,.int .i64 r.an,.string r.key,.string r.value] 74)) (.cells #[.int .i64 0,.int .i64 0,.slice none 0 0,.slice none 0 0,.int .i64 0,.int .i64 0] 228)) (af w (.cells #[.bool V.cn,.int .i64 V.an,.slice va V.aB.length vc,.int .i64 V.free] 52))
 have e1:=aa (ae (Below.refl _ ((w.alloc (.cells #[.bool V.cn,.int .i64 V.an,.slice va V.aB.length vc,.int .i64 V.free] 52)).alloc _)) (.cells #[.int .i64 0,.int .i64 0,.slice none 0 0,.slice none 0 0,.int .i64 0,.int .i64 0] 228)) (af (w.alloc _) (.cells #[.int .i64 r.kind,.int .i64 r.an,.string r.key,.string r.value] 74))
 have e2:=af ((w.alloc (.cells #[.bool V.cn,.int .i64 V.an,.slice va V.aB.length vc,.int .i64 V.free] 52)).alloc (.cells #[.int .i64 r.kind,.int .i64 r.an,.string r.key,.string r.value] 74)) (.cells #[.int .i64 0,.int .i64 0,.slice none 0 0,.slice none 0 0,.int .i64 0,.int .i64 0] 228)
 simp only [World.size_alloc] at e1 e2
 have HW:=zH (zA hnb (zA e0 (zA e1 e2)))
 clear hnb e0 e1 e2 hs
 have HC:=zH (show cC V av r=if (gP (cz V.aB) r.key).isSome=false∧r.kind=2 then (2202,lB) else if 7<(eG (cz V.aB) r).length then (2201,lB) else if V.free<8 then (0,⟨-1,av,[V.free],[r],V.free+1,V.an⟩) else if 1048576≤V.an then (2201,lB) else (0,jJ (fM av) (V.an+1) (eG (cz V.aB) r)) from rfl)
 unfold aX.cells at HL ⊢
 generalize cC V av r=cr at *
 generalize gP (cz V.aB) r.key=fl at *
 generalize cz V.aB=now at *
 generalize eG now r=then_ at *
 clear ok hr
 go_enter func133,ntmps133
 go_upto_region 1 with fail
 generalize ((w.alloc (.cells #[.bool V.cn,.int .i64 V.an,.slice va V.aB.length vc,.int .i64 V.free] 52)).alloc (.cells #[.int .i64 r.kind,.int .i64 r.an,.string r.key,.string r.value] 74)).alloc (.cells #[.int .i64 0,.int .i64 0,.slice none 0 0,.slice none 0 0,.int .i64 0,.int .i64 0] 228)=W at *
 obtain ⟨c0,c1,c2,c3,hf⟩:=cF HW.out.2.2.1
 go_wp2_with fail
 refine (HL.out _ _ ⟨_,HW.out.2.1,HS.out.aj HW.out.1⟩).mono ?_
 rintro e w1 ⟨x,y,rfl,hx,hy,hb⟩
 have HB:=zH (zA (gtr HW.out.1 hb) (zA (aa hb HW.out.2.1) (zA (aa hb HW.out.2.2.1) (zA (aa hb HW.out.2.2.2) (zA hx hy)))))
 clear hb hx hy c0 c1 c2 c3 hf HW
 obtain ⟨xa,xc,rfl⟩:=bF HB.out.2.2.2.2.1
 obtain ⟨ya,yc,rfl⟩:=bF HB.out.2.2.2.2.2
 obtain ⟨c0,c1,c2,c3,hf⟩:=cF HB.out.2.2.1
 go_wp2_with fail
 refine (HF.out _ _ (aT.dd HB.out.2.2.2.2.1)).mono ?_
 rintro e w2 ⟨rfl,hb⟩
 have HB2:=zH (zA (gtr HB.out.1 hb) (zA (aa hb HB.out.2.1) (zA (aa hb HB.out.2.2.1) (zA (aa hb HB.out.2.2.2.1) (World.ownsRow.aj HB.out.2.2.2.2.2 hb)))))
 clear hb c0 c1 c2 c3 hf HB
 obtain ⟨c0,c1,c2,c3,hf⟩:=cF HB2.out.2.2.1
 obtain ⟨v0,v1,v2,v3,vf⟩:=cF HB2.out.2.1
 obtain ⟨p0,p1,p2,p3,p4,p5,pf⟩:=kp HB2.out.2.2.2.1
 have hbl2:w.heap.size+1+1<w2.heap.size:=aP HB2.out.2.2.2.1
 have hbl1:w.heap.size+1<w2.heap.size:=by omega
 have hbl0:w.heap.size<w2.heap.size:=by omega
 generalize fl.isSome=fs at *
 by_cases k1:fs=false∧r.kind=2
 ·
  obtain ⟨rfl,k2⟩:=k1
  rw [if_pos ⟨rfl,k2⟩] at HC
  rw [k2] at c0 ⊢
  go_wp2
  refine bodyPost_ret (v:=.tuple #[.agg #[.int .i64 0,.int .i64 0,.slice none 0 0,.slice none 0 0,.int .i64 0,.int .i64 0],.int .i64 2202]) (by simp [results,results133,go_sem,p0,p1,p2,p3,p4,p5]) rfl ?_
  rw [HC.out]
  exact oK 2202 (fT HB2.out.1 (show w.heap.size≤w.heap.size+1+1 by omega) _ _ _ _ _ _)
 ·
  have k1':(!fs&&(r.kind == 2))=false:=by
   cases hfs:fs with
   | true=>rfl
   | false =>
    have:r.kind≠2:=fun e=>k1 ⟨hfs,e⟩
    simpa using this
  rw [if_neg k1] at HC
  have hsplit:fs=true∨(fs=false∧(r.kind == 2)=false):=by
   cases hfs:fs with
   | true=>exact .inl rfl
   | false=>exact .inr ⟨rfl,by rw [hfs] at k1';simpa using k1'⟩
  clear k1 k1'
  go_upto_region 5 with fail
  go_cut [43] from 37 to 43 (fun v wx=>v=.bool false∧wx=w2)
  case first =>
   rcases hsplit with rfl | ⟨rfl,hk⟩
   all_goals
    go_wp2
    go_meet
    exact ⟨rfl,rfl⟩
  case rest =>
   obtain ⟨rfl,hwc⟩:=hcut
   subst hwc
   clear hsplit
   by_cases k2:7<then_.length
   ·
    have k2':(7:Int)<(then_.length:Int):=by omega
    rw [if_pos k2] at HC
    go_wp2
    refine bodyPost_ret (v:=.tuple #[.agg #[.int .i64 0,.int .i64 0,.slice none 0 0,.slice none 0 0,.int .i64 0,.int .i64 0],.int .i64 2201]) (by simp [results,results133,go_sem,p0,p1,p2,p3,p4,p5]) rfl ?_
    rw [HC.out]
    exact oK 2201 (fT HB2.out.1 (show w.heap.size≤w.heap.size+1+1 by omega) _ _ _ _ _ _)
   ·
    have k2' : ¬ (7:Int)<(then_.length:Int):=by omega
    rw [if_neg k2] at HC
    by_cases k3:V.free<8
    ·
     rw [if_pos k3] at HC
     go_wp2_with fail
     have hS:=fT (w:=wc) HB2.out.1 (show w.heap.size≤w.heap.size+1+1 by omega) (.int .i64 (-1)) (.int .i64 av) (.slice (some ⟨wc.heap.size,0,none⟩) 1 1) (.slice (some ⟨wc.heap.size+1,0,none⟩) 1 1) (.int .i64 (V.free+1)) (.int .i64 V.an)
     have hz:=Ic wc (w.heap.size+1+1) (.int .i64 (-1)) (.int .i64 av) (.slice (some ⟨wc.heap.size,0,none⟩) 1 1) (.slice (some ⟨wc.heap.size+1,0,none⟩) 1 1) (.int .i64 (V.free+1)) (.int .i64 V.an)
     have hat:=vF HB2.out.2.2.2.1 (.int .i64 (-1)) (.int .i64 av) (.slice (some ⟨wc.heap.size,0,none⟩) 1 1) (.slice (some ⟨wc.heap.size+1,0,none⟩) 1 1) (.int .i64 (V.free+1)) (.int .i64 V.an)
     have hA:=af (Be wc (w.heap.size+1+1) (.int .i64 (-1)) (.int .i64 av) (.slice (some ⟨wc.heap.size,0,none⟩) 1 1) (.slice (some ⟨wc.heap.size+1,0,none⟩) 1 1) (.int .i64 (V.free+1)) (.int .i64 V.an)) (.cells #[.int .i64 V.free] 3)
     change bodyPost _ _ _ _ _ (((Be wc (w.heap.size+1+1) (.int .i64 (-1)) (.int .i64 av) (.slice (some ⟨wc.heap.size,0,none⟩) 1 1) (.slice (some ⟨wc.heap.size+1,0,none⟩) 1 1) (.int .i64 (V.free+1)) (.int .i64 V.an)).alloc _).alloc _)
     generalize Be wc (w.heap.size+1+1) (.int .i64 (-1)) (.int .i64 av) (.slice (some ⟨wc.heap.size,0,none⟩) 1 1) (.slice (some ⟨wc.heap.size+1,0,none⟩) 1 1) (.int .i64 (V.free+1)) (.int .i64 V.an)=w5 at *
     have hB:=af (w5.alloc (.cells #[.int .i64 V.free] 3)) (.cells #[.int .i64 r.kind,.int .i64 r.an,.string r.key,.string r.value] 74)
     have hA:=aa (ae (Below.refl _ (w5.alloc (.cells #[.int .i64 V.free] 3))) (.cells #[.int .i64 r.kind,.int .i64 r.an,.string r.key,.string r.value] 74)) hA
     have hat:=aa (ae (ae (Below.refl _ w5) (.cells #[.int .i64 V.free] 3)) (.cells #[.int .i64 r.kind,.int .i64 r.an,.string r.key,.string r.value] 74)) hat
     have hS:=ae (ae hS (.cells #[.int .i64 V.free] 3)) (.cells #[.int .i64 r.kind,.int .i64 r.an,.string r.key,.string r.value] 74)
     simp only [World.size_alloc] at hB
     generalize (w5.alloc (.cells #[.int .i64 V.free] 3)).alloc (.cells #[.int .i64 r.kind,.int .i64 r.an,.string r.key,.string r.value] 74)=w6 at *
     rw [hz] at hA hB
     obtain ⟨q0,q1,q2,q3,q4,q5,qf⟩:=kp hat
     refine bodyPost_ret (v:=.tuple #[.agg #[.int .i64 (-1),.int .i64 av,.slice (some ⟨wc.heap.size,0,none⟩) 1 1,.slice (some ⟨wc.heap.size+1,0,none⟩) 1 1,.int .i64 (V.free+1),.int .i64 V.an],.int .i64 0]) (by simp [results,results133,go_sem,q0,q1,q2,q3,q4,q5]) rfl ?_
     rw [HC.out]
     exact ⟨_,_,rfl,vD (cs := #[.int .i64 V.free]) (t:=3) hA (by omega) rfl (by omega),vD (cs := #[.int .i64 r.kind,.int .i64 r.an,.string r.key,.string r.value]) (t:=74) hB (by omega) rfl (by omega),hS⟩
    ·
     rw [if_neg k3] at HC
     by_cases k4:1048576≤V.an
     ·
      rw [if_pos k4] at HC
      go_wp2
      refine bodyPost_ret (v:=.tuple #[.agg #[.int .i64 0,.int .i64 0,.slice none 0 0,.slice none 0 0,.int .i64 0,.int .i64 0],.int .i64 2201]) (by simp [results,results133,go_sem,p0,p1,p2,p3,p4,p5]) rfl ?_
      rw [HC.out]
      exact oK 2201 (fT HB2.out.1 (show w.heap.size≤w.heap.size+1+1 by omega) _ _ _ _ _ _)
     ·
      rw [if_neg k4] at HC
      have hw1:wrap64 (V.an+1)=V.an+1:=by unfold wrap64;omega
      have HO:=zH (aT.dd HB2.out.2.2.2.2)
      have HW2:=zH (du (n:=V.an+1) (by omega) (by omega))
      go_wp2_with fail
      clear p0 p1 p2 p3 p4 p5 pf c0 c1 c2 c3 hf v0 v2 v3 HF HL HS
      go_region_with (first | (go_at_call 89;refine (HN.out _).mono ?_;rintro e w' ⟨rfl,rfl⟩) | (go_at_call 173;refine (HM.out _ _ _ _ (HO.out.aj (au zR))).mono ?_;rintro e w' ⟨vs,vr,rfl,hs,hr,hb⟩;have HR:=zH (zA hs (zA hr (zA (gtr (au zR) hb) (aa (gtr (au zR) hb) HB2.out.2.2.2.1))));clear hs hr hb;obtain ⟨sa,sc,rfl⟩:=bF HR.out.1;obtain ⟨ra,rc,rfl⟩:=bF HR.out.2.1;obtain ⟨q0,q1,q2,q3,q4,q5,qf⟩:=kp HR.out.2.2.2;unfold pR))
      all_goals
       simp only [HW2.out] at HR ⊢
       generalize jJ (fM av) (V.an+1) then_=pl at *
       have hS:=fT (gtr HB2.out.1 HR.out.2.2.1) (show w.heap.size≤w.heap.size+1+1 by omega) (.int .i64 pl.dH) (.int .i64 pl.av) (.slice sa pl.bI.length sc) (.slice ra pl.aB.length rc) (.int .i64 pl.free) (.int .i64 pl.an)
       have hat:=vF HR.out.2.2.2 (.int .i64 pl.dH) (.int .i64 pl.av) (.slice sa pl.bI.length sc) (.slice ra pl.aB.length rc) (.int .i64 pl.free) (.int .i64 pl.an)
       have hs:=kg HR.out.1 (cP HR.out.1 HR.out.2.2.2 (by decide)) (.int .i64 pl.dH) (.int .i64 pl.av) (.slice sa pl.bI.length sc) (.slice ra pl.aB.length rc) (.int .i64 pl.free) (.int .i64 pl.an)
       have hr:=kg HR.out.2.1 (cP HR.out.2.1 HR.out.2.2.2 (by decide)) (.int .i64 pl.dH) (.int .i64 pl.av) (.slice sa pl.bI.length sc) (.slice ra pl.aB.length rc) (.int .i64 pl.free) (.int .i64 pl.an)
       obtain ⟨d0,d1,d2,d3,d4,d5,df⟩:=kp hat
       clear q0 q1 q2 q3 q4 q5 qf
       go_wp2
       refine bodyPost_ret (v:=.tuple #[.agg #[.int .i64 pl.dH,.int .i64 pl.av,.slice sa pl.bI.length sc,.slice ra pl.aB.length rc,.int .i64 pl.free,.int .i64 pl.an],.int .i64 0]) ?_ rfl ?_
       ·
        change (results _ _).run _ (Be _ _ _ _ _ _ _ _)=_
        simp [results,results133,go_sem,d0,d1,d2,d3,d4,d5]
        rfl
       ·
        rw [HC.out]
        exact ⟨_,_,rfl,eX hs HB2.out.1.size,eX hr HB2.out.1.size,hS⟩
end
section
open Go.RowKit
def bB.row (V:bB) (x:Option Addr×Nat):List Value:=[.bool V.cn,.int .i64 V.an,.slice x.1 V.aB.length x.2,.int .i64 V.free]
def ei (vs:List (bB×(Option Addr×Nat))):List Value:=vs.flatMap fun p=>p.1.row p.2
theorem pA : ∀ (vs:List (bB×(Option Addr×Nat))) (i:Nat) (p:bB×(Option Addr×Nat)),vs[i]? = some p→(ei vs)[4 * i]? = some (.bool p.1.cn)∧(ei vs)[4 * i+1]? = some (.int .i64 p.1.an)∧(ei vs)[4 * i+2]? = some (.slice p.2.1 p.1.aB.length p.2.2)∧(ei vs)[4 * i+3]? = some (.int .i64 p.1.free)
 | [],i,p,h=>by simp at h
 | q::vs,0,p,h=>by
  obtain rfl:q=p:=by simpa using h
  simp [ei,bB.row]
 | q::vs,i+1,p,h=>by
  have:=pA vs i p (by simpa using h)
  have e : ∀ j,(ei (q::vs))[4 * (i+1)+j]? = (ei vs)[4 * i+j]? := fun j=>by
   have:ei (q::vs)=q.1.row q.2++ei vs:=by simp [ei]
   rw [this,List.getElem?_append_right (by simp [bB.row];omega)]
   congr 1
   simp [bB.row];omega
  exact ⟨(e 0).trans this.1,(e 1).trans this.2.1,(e 2).trans this.2.2.1,(e 3).trans this.2.2.2⟩
def iX (vs:List (bB×(Option Addr×Nat))):Nat→Option Nat
 | 0=>none
 | j+1=>match vs[j]? with
  | none=>iX vs j
  | some p=>if p.1.cn=false then iX vs j else
   match iX vs j with
   | none=>some j
   | some k=>match vs[k]? with
    | none=>iX vs j
    | some q=>if q.1.an<p.1.an then some j else some k
def yM (o:Option Nat):Int:=match o with | none => -1 | some k=>k
theorem vW (vs:List (bB×(Option Addr×Nat))) : ∀ j k,iX vs j=some k→k<j
 | 0,k,h=>by simp [iX] at h
 | j+1,k,h=>by
  have ih:=vW vs j
  unfold iX at h
  split at h
  ·
   have:=ih k h;omega
  ·
   split at h
   ·
    have:=ih k h;omega
   ·
    split at h
    ·
     simp at h;omega
    ·
     rename_i hk
     have hk':=ih _ hk
     split at h
     ·
      have:=ih k h;omega
     ·
      split at h <;> simp at h <;> omega
def Iz (o:Option Nat) (w:World) (e:Ending) (w':World):Prop:=e=.returned (match o with | none=>.tuple #[.int .i64 0,.int .i64 2001] | some k=>.tuple #[.int .i64 k,.int .i64 0])∧Below w.heap.size w w'
theorem DT (v:Value) (vs:List (bB×(Option Addr×Nat))) (w:World) (h:aT w v vs.length 4 (ei vs)) (hn:vs.length≤100):Calls prog 20 #[v] w (Iz (iX vs vs.length) w):=by
 have H:=zH h
 have HX:=zH (pA vs)
 have HL:=zH (vW vs)
 obtain ⟨a,c,rfl⟩:=h.slice
 clear h
 go_enter func20,ntmps20
 go_wp2
 go_loopg [4,9] vs.length (fun n b i wr => ∃ j:Nat,n=vs.length - j∧b=.int .i64 (yM (iX vs j))∧i=.int .i64 j∧j≤vs.length∧Below w.heap.size w wr)
 case atStart=>exact ⟨0,rfl,rfl,rfl,Nat.zero_le _,Below.refl _ _⟩
 case round =>
  obtain ⟨j,hgn,rfl,rfl,hj,hM⟩:=hrel
  have HB:=zH (zA hgn hM)
  clear hgn hM
  by_cases hlt:j<vs.length
  ·
   have hlt':(j:Int)<(vs.length:Int):=by omega
   obtain ⟨b,o,rfl,hc,hx⟩:=H.out.some (by omega)
   have hp:vs[j]? = some vs[j]:=List.getElem?_eq_getElem hlt
   have HS:=zH (show iX vs (j+1)=(match some vs[j] with | none=>iX vs j | some p=>if p.1.cn=false then iX vs j else match iX vs j with | none=>some j | some k=>match vs[k]? with | none=>iX vs j | some q=>if q.1.an<p.1.an then some j else some k) from by rw [iX,hp])
   generalize vs[j]=p at *
   obtain ⟨V,ra,rc⟩:=p
   obtain ⟨p0,p1,p2,p3⟩:=HX.out j _ hp
   have cc : ∀ i u,(ei vs)[i]? = some u→wr.cell? ⟨b,o+i,none⟩=some u:=fun i u hu=>by
    have e:=hx _ _ hu
    exact (HB.out.2.cell (p:=⟨b,o+i,none⟩) (zL w _ e)).trans e
   have d0:wr.cell? ⟨b,o+j * 4,none⟩=some (.bool V.cn):=by rw [Nat.mul_comm];exact cc _ _ p0
   have d1:wr.cell? ⟨b,o+j * 4+1,none⟩=some (.int .i64 V.an):=by rw [Nat.mul_comm,Nat.add_assoc];exact cc _ _ p1
   have d2:wr.cell? ⟨b,o+j * 4+2,none⟩=some (.slice ra V.aB.length rc):=by rw [Nat.mul_comm,Nat.add_assoc];exact cc _ _ p2
   have d3:wr.cell? ⟨b,o+j * 4+3,none⟩=some (.int .i64 V.free):=by rw [Nat.mul_comm,Nat.add_assoc];exact cc _ _ p3
   have HC:=zH cc
   have hbl:b<wr.heap.size:=zL wr _ d0
   clear p0 p1 p2 p3 cc hx
   go_upto_region 5 with fail
   have e0:=af wr (.cells #[.bool V.cn,.int .i64 V.an,.slice ra V.aB.length rc,.int .i64 V.free] 52)
   obtain ⟨f0,f1,f2,f3,ff⟩:=cF e0
   have hN:=gtr HB.out.2 (ae (Below.refl _ wr) (.cells #[.bool V.cn,.int .i64 V.an,.slice ra V.aB.length rc,.int .i64 V.free] 52))
   have HN:=zH hN
   have HC2:=zH (fun i u hu=>((ae (Below.refl wr.heap.size wr) (.cells #[.bool V.cn,.int .i64 V.an,.slice ra V.aB.length rc,.int .i64 V.free] 52)).cell (p:=⟨b,o+i,none⟩) hbl).trans (HC.out i u hu))
   clear d0 d1 d2 d3 e0 hN HC
   generalize wr.heap.size=g at *
   generalize wr.alloc (.cells #[.bool V.cn,.int .i64 V.an,.slice ra V.aB.length rc,.int .i64 V.free] 52)=w2 at *
   clear hbl
   replace HS:=HS.out
   dsimp only at HS
   cases hg:V.cn with
   | false =>
    rw [hg,if_pos rfl] at HS
    rw [hg] at f0
    replace HS:=zH HS
    clear hg hp f2 f3
    go_quiet (fail)
    go_wp2
    go_roundg (vs.length - (j+1))
    case measure=>have:=HB.out.1;omega
    case rel=>exact ⟨j+1,rfl,by first | (rw [HS.out];done) | (rw [HS.out];rfl),by go_num,by omega,aY HN.out _⟩
   | true =>
    rw [hg,if_neg (by decide)] at HS
    rw [hg] at f0
    clear hg hp f2 f3
    cases hb:iX vs j with
    | none =>
     rw [hb] at HS
     replace HS:=zH HS
     clear hb
     rw [show yM none = -1 from rfl]
     go_quiet (fail)
     go_wp2
     go_roundg (vs.length - (j+1))
     case measure=>have:=HB.out.1;omega
     case rel=>exact ⟨j+1,rfl,by first | (rw [HS.out];done) | (rw [HS.out];rfl),by go_num,by omega,aY HN.out _⟩
    | some k =>
     have hk:=HL.out j k hb
     rw [hb] at HS
     obtain ⟨q,hq⟩ : ∃ q,vs[k]? = some q:=⟨_,List.getElem?_eq_getElem (by omega)⟩
     dsimp only at HS
     rw [hq] at HS
     dsimp only at HS
     have g1:w2.cell? ⟨b,o+k * 4+1,none⟩=some (.int .i64 q.1.an):=by rw [Nat.mul_comm,Nat.add_assoc];exact HC2.out _ _ (HX.out k q hq).2.1
     have hk1:k<vs.length:=by omega
     have hk2:(k:Int)<(vs.length:Int):=by omega
     clear hq
     by_cases hlt:q.1.an<V.an
     ·
      rw [if_pos hlt] at HS
      replace HS:=zH HS
      clear hb
      rw [show yM (some k)=(k:Int) from rfl]
      have hk0:decide ((k:Int)<0)=false:=decide_eq_false (by omega)
      go_quiet (fail)
      go_wp2
      go_roundg (vs.length - (j+1))
      case measure=>have:=HB.out.1;omega
      case rel=>exact ⟨j+1,rfl,by first | (rw [HS.out];done) | (rw [HS.out];rfl),by go_num,by omega,aY HN.out _⟩
     ·
      rw [if_neg hlt] at HS
      replace HS:=zH HS
      clear hb
      have hlt2:decide (q.1.an<V.an)=false:=decide_eq_false hlt
      clear hlt
      rw [show yM (some k)=(k:Int) from rfl]
      have hk0:decide ((k:Int)<0)=false:=decide_eq_false (by omega)
      go_quiet (fail)
      go_wp2
      go_roundg (vs.length - (j+1))
      case measure=>have:=HB.out.1;omega
      case rel=>exact ⟨j+1,rfl,by first | (rw [HS.out];done) | (rw [HS.out];rfl),by go_num,by omega,aY HN.out _⟩
  ·
   obtain rfl:j=vs.length:=by omega
   have HL2:=HL.out vs.length
   clear HL HX
   cases hb:iX vs vs.length with
   | none =>
    have HZ:=zH hb
    clear hb HL2
    rw [show yM none = -1 from rfl]
    go_wp2
    go_ret2
    rw [HZ.out]
    exact ⟨rfl,HB.out.2⟩
   | some k =>
    have HZ:=zH hb
    clear hb HL2
    rw [show yM (some k)=(k:Int) from rfl]
    have hk0:decide ((k:Int)<0)=false:=decide_eq_false (by omega)
    go_wp2
    go_ret2
    rw [HZ.out]
    exact ⟨rfl,HB.out.2⟩
end
section
open Go.RowKit
variable {X:Nat→Prop}
theorem kJ {fn:Func} {t u v x:Tmp} (h:fn.results = #[.tmp t,.tmp u,.tmp v,.tmp x]) (tmps:Array Value) (P:Program) (w:World):(results fn tmps).run P w=.ok (.tuple #[tmps.getD t undef,tmps.getD u undef,tmps.getD v undef,tmps.getD x undef]) w:=by
 simp [results,h]
theorem yw (w:World):Calls prog 163 #[.string bn] w fun e w'=>e=.returned (.tuple #[.int .i64 4096,.int .i64 512,.int .i64 32,.int .i64 0])∧Below w.heap.size w w':=by
 have HP:=zH (fun w=>qk w)
 have h1:bn.size=32:=by decide
 have HN1:=zH (fun w=>kF (bn.extract 8 32) w (by decide))
 have HN2:=zH (fun w=>kF ((bn.extract 8 32).extract 4 24) w (by decide))
 have HN3:=zH (fun w=>kF ((bn.extract 8 32).extract 8 24) w (by decide))
 have e1:(bn.extract 8 32).size=24:=by decide
 have n1:jt (bn.extract 8 32)=4096:=by decide
 have n2:jt ((bn.extract 8 32).extract 4 24)=512:=by decide
 have n3:jt ((bn.extract 8 32).extract 8 24)=32:=by decide
 rw [n1] at HN1
 rw [n2] at HN2
 rw [n3] at HN3
 have hq:(bn == bn)=true:=by decide
 clear n1 n2 n3
 generalize hg:bn.extract 8 32=s1 at *
 generalize bn=s0 at *
 go_enter func163,ntmps163
 go_wp2_with fail
 refine wp_region_noPanic ?_
 refine wp_region_held_drew (S:=(fun _=>True)) (by kernel_rfl) (by (try dsimp only);first | done | exact trivial) fun hHeld => ?_
 refine tk 0 ?_
 refine tk 2 ?_
 refine tk 3 ?_
 refine tk 5 ?_
 refine tk 6 ?_
 refine tr 1 fun K hK => ?_
 go_simp
 refine (HN1.out _).mono ?_
 rintro e w1 ⟨rfl,rfl⟩
 go_wp2_with fail
 refine hK.out _ _ (by (try dsimp only);first | done | exact trivial) fun hHeld => ?_
 clear hK K
 try simp only [Act.put,zS,zT,zU]
 refine tr 4 fun K hK => ?_
 go_simp
 refine (HN2.out _).mono ?_
 rintro e w2 ⟨rfl,rfl⟩
 go_wp2_with fail
 refine hK.out _ _ (by (try dsimp only);first | done | exact trivial) fun hHeld => ?_
 clear hK K
 try simp only [Act.put,zS,zT,zU]
 refine tr 7 fun K hK => ?_
 go_simp
 refine (HN3.out _).mono ?_
 rintro e w3 ⟨rfl,rfl⟩
 go_wp2_with fail
 refine hK.out _ _ (by (try dsimp only);first | done | exact trivial) fun hHeld => ?_
 clear hK K
 try simp only [Act.put,zS,zT,zU]
 refine tk 8 ?_
 refine tk 9 ?_
 refine tk 10 ?_
 refine wpAnyH_done (by kernel_rfl) ?_ _
 refine NoPanic.normal ?_
 go_wp2_with fail
 refine (HP.out _).mono ?_
 rintro e w4 ⟨rfl,hb⟩
 have HB:=zH (gtr (au zR) hb)
 clear hb
 go_wp2
 refine bodyPost_ret (kJ rfl _ _ _) rfl ?_
 exact ⟨rfl,HB.out⟩
theorem Jv (w:World):Calls prog 161 #[] w fun e w'=>e=.returned (.slice (some ⟨w.heap.size,0,none⟩) 3 3)∧w'=w.alloc (.cells #[.int .i64 239,.int .i64 64,.int .i64 12] 3):=by
 go_enter func161,ntmps161
 go_wp2
 go_ret
 exact ⟨rfl,rfl⟩
theorem A6:gX 159 0 [] 3:=⟨by decide,by decide,by decide,fun _=>rfl,by decide,by decide,by decide,by decide,by decide⟩
theorem LW:gX 90 0 [] 32:=⟨by decide,by decide,by decide,fun _=>rfl,by decide,by decide,by decide,by decide,by decide⟩
def aG.dV (m:aG):aG×Int:=if (m.run 159 0 [] 3).2.2=0 then (((m.run 159 0 [] 3).1.run 90 0 [] 32).1,((m.run 159 0 [] 3).1.run 90 0 [] 32).2.2) else ((m.run 159 0 [] 3).1,(m.run 159 0 [] 3).2.2)
theorem zO {m:aG} (ok:m.Ok):m.dV.1.Ok:=by
 unfold aG.dV
 split
 ·
  exact ew (ew ok _ _ _ _ A6) _ _ _ _ LW
 ·
  exact ew ok _ _ _ _ A6
structure aG.kS (m:aG):Prop where
 id:(m.run 159 0 [] 3).2.2=0→(m.run 159 0 [] 3).2.1=[239,64,12]
 yv:(m.run 159 0 [] 3).2.2=0→((m.run 159 0 [] 3).1.run 90 0 [] 32).2.2=0→eE ((m.run 159 0 [] 3).1.run 90 0 [] 32).2.1=bn
def Gf (X:Nat→Prop) (er:Int) (k c:Nat) (m:aG) (G:Nat→Prop) (w:World) (e:Ending) (w':World):Prop :=
 (∃ a b d,e=.returned (.tuple #[.int .i64 a,.int .i64 b,.int .i64 d,.int .i64 er])) ∧ ∃ G',bO X w' k c m G'∧Step G G' w w'
theorem C1 (k c:Nat) (m:aG) (G:Nat→Prop) (w:World) (h:bO X w k c m G) (ok:m.Ok) (kn:m.kS):Calls prog 123 #[.pointer (some ⟨k,0,none⟩)] w (Gf X m.dV.2 k c m.dV.1 G w):=by
 have HI:=zH (fun w=>Jv w)
 have HR:=zH (fun (w1:World) (h1:bO X w1 k c m G)=>fj k c m G 159 0 none [] 0 3 w1 h1 ok A6 (nF w1 G) (fun _=>rfl) (by simp))
 have HE:=zH (lU m 159 0 [] 3)
 have HS:=zH (fun (G1:Nat→Prop) (w1:World) (h1:bO X w1 k c (m.run 159 0 [] 3).1 G1)=>fj k c (m.run 159 0 [] 3).1 G1 90 0 none [] 0 32 w1 h1 (ew ok _ _ _ _ A6) LW (nF w1 G1) (fun _=>rfl) (by simp))
 have HL:=zH (fun h=>nM (m:=(m.run 159 0 [] 3).1) (b:=90) (at_:=0) (xs:=[]) (read:=32) (by omega) h)
 have HF:=zH (lU (m.run 159 0 [] 3).1 90 0 [] 32)
 have HB:=zH (show m.dV=if (m.run 159 0 [] 3).2.2=0 then (((m.run 159 0 [] 3).1.run 90 0 [] 32).1,((m.run 159 0 [] 3).1.run 90 0 [] 32).2.2) else ((m.run 159 0 [] 3).1,(m.run 159 0 [] 3).2.2) from rfl)
 have HK:=zH kn.id
 have HT:=zH kn.yv
 have HG:=zH (fun w=>yw w)
 have H0:=zH (zA h (ae (Below.refl w.heap.size w) (.cells #[.int .i64 239,.int .i64 64,.int .i64 12] 3)))
 clear h ok kn
 generalize m.dV=br at *
 generalize m.run 159 0 [] 3=r at *
 obtain ⟨m1,xs,er⟩:=r
 simp only at HR HE HS HL HF HB HK HT
 generalize m1.run 90 0 [] 32=r2 at *
 obtain ⟨m2,ys,er2⟩:=r2
 simp only at HS HL HF HB HT
 simp only [List.length_nil] at HR HS
 rcases HE.out with he | ⟨he,hx⟩
 ·
  subst he
  obtain rfl:xs=[239,64,12]:=HK.out (by trivial)
  go_enter func123,ntmps123
  go_wp2_with fail
  refine (HI.out _).mono ?_
  rintro e w1 ⟨rfl,rfl⟩
  go_wp2_with fail
  refine (HR.out _ (H0.out.1.aj H0.out.2)).mono ?_
  rintro e w1 ⟨a,cp,G1,rfl,hc,hs,st⟩
  have H1:=zH (zA hc ((Step.ah H0.out.2).trans st))
  have HIN:=zH hs
  clear hc hs st
  go_wp2_with fail
  refine (HI.out _).mono ?_
  rintro e w2 ⟨rfl,rfl⟩
  obtain ⟨b,o,rfl,hcell⟩:=HIN.out.1.at (by simp)
  have HEQ:=zH (Tryz.slices_Equal_int b o 3 cp w1.heap.size 0 3 3 [239,64,12] [239,64,12] (w1.alloc (.cells #[.int .i64 239,.int .i64 64,.int .i64 12] 3)) (by simp) (by simp) (by decide) (by decide) (fun j hj=>(World.cell?_alloc_lt _ _ _ (zL w1 _ (hcell j hj))).trans (hcell j hj)) (fun j hj=>by
    have hj:j<3:=hj
    match j,hj with
    | 0,_=>exact cell_of (af w1 _) 0
    | 1,_=>exact cell_of (af w1 _) 1
    | 2,_=>exact cell_of (af w1 _) 2))
  have HBA:=zH (ae (Below.refl w1.heap.size w1) (.cells #[.int .i64 239,.int .i64 64,.int .i64 12] 3))
  clear hcell
  go_wp2_with fail
  refine HEQ.out.mono ?_
  rintro e w2 ⟨rfl,q,rfl⟩
  have HB2:=zH (aY HBA.out q)
  generalize (w1.alloc (.cells #[.int .i64 239,.int .i64 64,.int .i64 12] 3)).drewN q=w2 at *
  have H2:=zH (zA (H1.out.1.aj HB2.out) (H1.out.2.trans (Step.ah HB2.out)))
  clear HEQ HBA HB2 H1
  go_wp2_with fail
  refine (HS.out _ _ H2.out.1).mono ?_
  rintro e w3 ⟨a,cp3,G3,rfl,hc,hs,st⟩
  have H3:=zH (zA hc (H2.out.2.trans st))
  have HIN3:=zH hs
  clear hc hs st H2
  rcases HF.out with he | ⟨he,hx⟩
  ·
   subst he
   have hl:ys.length=32:=HL.out (by trivial)
   have HX:=zH (fun w3 h=>E9 a cp3 ys w3 h (by omega))
   rw [show eE ys=bn from HT.out (by trivial) (by trivial)] at HX
   rw [hl] at HX ⊢
   clear hl
   go_wp2_with fail
   refine (HX.out _ HIN3.out.1).mono ?_
   rintro e w4 ⟨rfl,hb4⟩
   have H4:=zH (zA (H3.out.1.aj hb4) (H3.out.2.trans (Step.ah hb4)))
   clear hb4 H3
   go_wp2_with fail
   refine (HG.out _).mono ?_
   rintro e w5 ⟨rfl,hb5⟩
   have H5:=zH (zA (H4.out.1.aj hb5) (H4.out.2.trans (Step.ah hb5)))
   clear hb5 H4
   go_wp2
   refine bodyPost_ret (kJ rfl _ _ _) rfl ?_
   rw [show br=(m2,0) from HB.out]
   exact ⟨⟨_,_,_,rfl⟩,G3,H5.out⟩
  ·
   subst he
   subst hx
   go_wp2
   refine bodyPost_ret (kJ rfl _ _ _) rfl ?_
   rw [show br=(m2,1101) from HB.out]
   exact ⟨⟨_,_,_,rfl⟩,G3,H3.out⟩
 ·
  subst he
  subst hx
  go_enter func123,ntmps123
  go_wp2_with fail
  refine (HI.out _).mono ?_
  rintro e w1 ⟨rfl,rfl⟩
  go_wp2_with fail
  refine (HR.out _ (H0.out.1.aj H0.out.2)).mono ?_
  rintro e w1 ⟨a,cp,G1,rfl,hc,hs,st⟩
  have H1:=zH (zA hc ((Step.ah H0.out.2).trans st))
  clear hc hs st
  go_wp2
  refine bodyPost_ret (kJ rfl _ _ _) rfl ?_
  rw [show br=(m1,1101) from HB.out]
  exact ⟨⟨_,_,_,rfl⟩,G1,H1.out⟩
def DO (X:Nat→Prop) (y:Int) (er:Int) (k c:Nat) (m:aG) (G:Nat→Prop) (w:World) (e:Ending) (w':World):Prop:=e=.returned (.tuple #[.int .i64 y,.int .i64 er]) ∧ ∃ G',bO X w' k c m G'∧Step G G' w w'
theorem C9:gX 53 0 [] 1:=⟨by decide,by decide,by decide,fun _=>rfl,by decide,by decide,by decide,by decide,by decide⟩
theorem py (k c:Nat) (m m':aG) (G:Nat→Prop) (b x:Int) (w:World) (h:bO X w k c m G) (ok:m.Ok) (hb:b=5∨b=53) (hr:m.run b 0 [] 1=(m',[x],0)):Calls prog 111 #[.pointer (some ⟨k,0,none⟩),.int .i64 b] w (DO X x 0 k c m' G w):=by
 have HR:=zH (fj k c m G b 0 none [] 0 1 w h ok (by rcases hb with rfl | rfl;exact yq;exact C9) (nF w G) (fun _=>rfl) (by simp))
 rw [hr] at HR
 simp only [List.length_nil] at HR
 clear h ok hr hb
 go_enter func111,ntmps111
 go_wp2_with fail
 refine HR.out.mono ?_
 rintro e w1 ⟨a,cp,G1,rfl,hc,hs,st⟩
 obtain ⟨b,o,rfl,hcell⟩:=hs.1 0 (by simp)
 rw [Nat.add_zero] at hcell
 have hcell:w1.cell? ⟨b,o,none⟩=some (.int .i64 x):=hcell
 have H1:=zH (zA hc st)
 have i0:(0:Int)<1:=by decide
 clear hc hs st
 simp only [List.length_singleton]
 go_wp2
 go_ret2
 exact ⟨rfl,G1,H1.out⟩
structure Sets (m m1 m2 m3 m4:aG) (own bit other kept x y:Int):Prop where
 r1:m.run own 0 [] 1=(m1,[x],0)
 b1:bits .and .i64 x bit=0
 r2:m1.run other 0 [] 1=(m2,[y],0)
 r3:m2.run 6 0 [] 0=(m3,[],0)
 r4:m3.run 1 0 (if own=53 then [bits .and .i64 y kept,bit] else [bit,bits .and .i64 y kept]) 0=(m4,[],0)
 k1:isByte (bits .and .i64 y kept)=true
 own:own=5∨own=53
 other:other=5∨other=53
 bit:isByte bit=true
theorem F4 (w:World) (x y:Int) (G:Nat→Prop) (hG : ∀ b,G b→b<w.heap.size):aN (w.alloc (.cells #[.int .i64 x,.int .i64 y] 3)) (some ⟨w.heap.size,0,none⟩) [x,y] G :=
 ⟨aU.of fun i hi=>by
  have hi:i<2:=hi
  match i,hi with
  | 0,_=>exact cell_of (af w _) 0
  | 1,_=>exact cell_of (af w _) 1,fun b o e _ hg=>by
  obtain ⟨rfl,rfl⟩:w.heap.size=b∧0=o:=by simpa using e
  exact absurd (hG _ hg) (by omega)⟩
theorem Lx (x y:Int) (hx:isByte x=true) (hy:isByte y=true):gX 1 0 [x,y] 0 :=
 ⟨by decide,by decide,by decide,fun _=>rfl,by simp,by simp [hx,hy],by decide,by decide,by unfold kv;rfl⟩
theorem xM (k c:Nat) (m m1 m2 m3 m4:aG) (G:Nat→Prop) (own bit other kept x y:Int) (w:World) (h:bO X w k c m G) (ok:m.Ok) (S:Sets m m1 m2 m3 m4 own bit other kept x y):Calls prog 73 #[.pointer (some ⟨k,0,none⟩),.int .i64 own,.int .i64 bit,.int .i64 other,.int .i64 kept] w (mT X 0 k c m4 G w):=by
 have ok1:m1.Ok:=by have:=ew ok own 0 [] 1 (by rcases S.own with e | e <;> rw [e];exact yq;exact C9);rw [S.r1] at this;exact this
 have ok2:m2.Ok:=by have:=ew ok1 other 0 [] 1 (by rcases S.other with e | e <;> rw [e];exact yq;exact C9);rw [S.r2] at this;exact this
 have ok3:m3.Ok:=by have:=ew ok2 6 0 [] 0 A7;rw [S.r3] at this;exact this
 have HS1:=zH (py k c m m1 G own x w h ok S.own S.r1)
 have HS2:=zH (fun G w (h:bO X w k c m1 G)=>py k c m1 m2 G other y w h ok1 S.other S.r2)
 have HR:=zH (fun G w (h:bO X w k c m2 G)=>fj k c m2 G 6 0 none [] 0 0 w h ok2 A7 (nF w G) (fun _=>rfl) (by simp))
 rw [S.r3] at HR
 simp only [List.length_nil] at HR
 have hb1:=S.b1
 have HK:=zH S
 clear h ok ok1 ok2
 go_enter func73,ntmps73
 go_wp2_with fail
 refine HS1.out.mono ?_
 rintro e w1 ⟨rfl,G1,hc,st⟩
 have H1:=zH (zA hc st)
 clear hc st HS1
 go_wp2_with fail
 refine (HS2.out _ _ H1.out.1).mono ?_
 rintro e w2 ⟨rfl,G2,hc,st⟩
 have H2:=zH (zA hc (H1.out.2.trans st))
 clear hc st HS2 H1
 go_wp2_with fail
 refine (HR.out _ _ H2.out.1).mono ?_
 rintro e w3 ⟨a,cp,G3,rfl,hc,hs,st⟩
 have H3:=zH (zA hc (H2.out.2.trans st))
 clear hc hs st HR H2
 have hG3:=zH (H3.out.1.lt)
 by_cases ho:own=53
 ·
  have HW:=zH (fun G w a cap (h:bO X w k c m3 G) hs hn hcap=>fj k c m3 G 1 0 a [bits .and .i64 y kept,bit] cap 0 w h ok3 (Lx _ _ HK.out.k1 HK.out.bit) hs hn hcap)
  have r4:=HK.out.r4
  rw [if_pos ho] at r4
  rw [r4] at HW
  clear r4
  subst ho
  have HB3:=zH (ae (ae (Below.refl w3.heap.size w3) (.cells #[.int .i64 bit,.int .i64 (bits .and .i64 y kept)] 3)) (.cells #[.int .i64 (bits .and .i64 y kept),.int .i64 bit] 3))
  have HT:=zH (F4 (w3.alloc (.cells #[.int .i64 bit,.int .i64 (bits .and .i64 y kept)] 3)) (bits .and .i64 y kept) bit G3 (fun b hb=>zV (hG3.out b hb) (by simp)))
  go_wp2_with fail
  refine (HW.out G3 _ _ 2 (H3.out.1.aj HB3.out) (by simpa using HT.out) (fun e=>by cases e) (by simp)).mono ?_
  rintro e w4 ⟨a4,cp4,G4,rfl,hc,hs,st⟩
  have H4:=zH (zA hc (H3.out.2.trans ((Step.ah HB3.out).trans st)))
  clear hc hs st
  go_wp2
  go_ret
  exact ⟨rfl,G4,H4.out⟩
 ·
  have HW:=zH (fun G w a cap (h:bO X w k c m3 G) hs hn hcap=>fj k c m3 G 1 0 a [bit,bits .and .i64 y kept] cap 0 w h ok3 (Lx _ _ HK.out.bit HK.out.k1) hs hn hcap)
  have r4:=HK.out.r4
  rw [if_neg ho] at r4
  rw [r4] at HW
  clear r4
  have HB3:=zH (ae (Below.refl w3.heap.size w3) (.cells #[.int .i64 bit,.int .i64 (bits .and .i64 y kept)] 3))
  have HT:=zH (F4 w3 bit (bits .and .i64 y kept) G3 hG3.out)
  go_wp2_with fail
  refine (HW.out G3 _ _ 2 (H3.out.1.aj HB3.out) HT.out (fun e=>by cases e) (by simp)).mono ?_
  rintro e w4 ⟨a4,cp4,G4,rfl,hc,hs,st⟩
  have H4:=zH (zA hc (H3.out.2.trans ((Step.ah HB3.out).trans st)))
  clear hc hs st
  go_wp2
  go_ret
  exact ⟨rfl,G4,H4.out⟩
theorem EU (k c:Nat) (m m1 m2 m3 m4:aG) (G:Nat→Prop) (x y:Int) (w:World) (h:bO X w k c m G) (ok:m.Ok) (S:Sets m m1 m2 m3 m4 53 2 5 4 x y):Calls prog 41 #[.pointer (some ⟨k,0,none⟩)] w (mT X 0 k c m4 G w):=by
 have HS:=zH (xM k c m m1 m2 m3 m4 G 53 2 5 4 x y w h ok S)
 clear h ok S
 go_enter func41,ntmps41
 go_wp2_with fail
 refine HS.out.mono ?_
 rintro e w1 ⟨rfl,H⟩
 have H:=zH H
 go_wp2
 go_ret
 exact ⟨rfl,H.out⟩
theorem yp (k c:Nat) (m m1 m2 m3 m4:aG) (G:Nat→Prop) (x y:Int) (w:World) (h:bO X w k c m G) (ok:m.Ok) (S:Sets m m1 m2 m3 m4 5 4 53 2 x y):Calls prog 42 #[.pointer (some ⟨k,0,none⟩)] w (mT X 0 k c m4 G w):=by
 have HS:=zH (xM k c m m1 m2 m3 m4 G 5 4 53 2 x y w h ok S)
 clear h ok S
 go_enter func42,ntmps42
 go_wp2_with fail
 refine HS.out.mono ?_
 rintro e w1 ⟨rfl,H⟩
 have H:=zH H
 go_wp2
 go_ret
 exact ⟨rfl,H.out⟩
end
end Go.Proofs.YtcfdenckiigdaaaGreat

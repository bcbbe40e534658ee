/- Part 16 of the contracts. -/
import Derived.Test.YtcfdenckiigdaaaGreatSc15
set_option linter.unusedVariables false
set_option maxRecDepth 100000
set_option maxHeartbeats 4000000
namespace Go.Proofs.YtcfdenckiigdaaaGreat
open Tryz Go.RowKit
def lx:fR:=⟨0,0,[],[],0,0⟩
def cA (V:bj) (au:Int) (r:aT):Int×fR :=
 if (iH (bU V.aB) r.key).isSome=false∧r.kind=2 then (2202,lx)
 else if 7<(eu (bU V.aB) r).length then (2201,lx)
 else if V.free<8 then (0,⟨-1,au,[V.free],[r],V.free+1,V.ak⟩)
 else if 1048576≤V.ak then (2201,lx)
 else (0,jG (fG au) (V.ak+1) (eu (bU V.aB) r))
def vA (c:Int×fR) (w:World) (e:Ending) (w':World):Prop := ∃ vs vr,e=.returned (.tuple #[.agg (pM c.2 vs vr),.int .i64 c.1])∧w'.ownsRow w.heap.size 3 1 vs c.2.bM.length (aD c.2.bM)∧w'.ownsRow w.heap.size 74 4 vr c.2.aB.length (bh c.2.aB)∧Below w.heap.size w w'
theorem oF (er:Int) {w w':World} (hb:Below w.heap.size w w'):vA (er,lx) w (.returned (.tuple #[.agg #[.int .i64 0,.int .i64 0,.slice none 0 0,.slice none 0 0,.int .i64 0,.int .i64 0],.int .i64 er])) w' :=
 ⟨_,_,rfl,zN,zN,hb⟩
theorem vu {w:World} {B b n sz:Nat} {cs:Array Value} {t:TypeId} (h:w.heap[b]? = some (.cells cs t (0,0))) (hB:B≤b) (hl:cs.size=n * sz) (hn:n≤1000):w.ownsRow B t sz (.slice (some ⟨b,0,none⟩) n n) n cs.toList :=
 ⟨by simpa using hl,.inr ⟨b,n,cs,rfl,hB,h,Nat.le_refl _,by unfold maxLen;omega,hl,List.take_of_length_le (Nat.le_of_eq hl)⟩⟩
theorem Ho (w:World) (g:Nat) (a b c d e f:Value):(Bd w g a b c d e f).heap.size=w.heap.size:=by simp [Bd]
theorem vx {w:World} {g:Nat} {a0 b0 c0 d0 e0 f0:Value} {t:TypeId} (h:w.heap[g]? = some (.cells #[a0,b0,c0,d0,e0,f0] t (0,0))) (a b c d e f:Value):(Bd w g a b c d e f).heap[g]? = some (.cells #[a,b,c,d,e,f] t (0,0)) :=
 az (i:=5) (v:=f) (az (i:=4) (v:=e) (az (i:=3) (v:=d) (az (i:=2) (v:=c) (az (i:=1) (v:=b) (az (i:=0) (v:=a) h)))))
theorem ts (V:bj) (vr:Value) (au:Int) (r:aT) (w:World) (hs:aQ w vr V.aB.length 4 (bh V.aB)) (ok:V.Ok) (hr:fQ r) (s0:4≤au) (s1:au<8):Calls prog 133 #[.agg #[.bool V.bI,.int .i64 V.ak,vr,.int .i64 V.free],.int .i64 au,.agg r.cells] w (vA (cA V au r) w):=by
 have HL:=zH (fun b w h=>xo b V r w h ok hr)
 have HF:=zH (fun v w h=>pZ v (bU V.aB) r.key w h (by have:=(dh _ V.aB rfl ok.aB).2;have:=ok.len;omega))
 have HM:=zH (fun sec ep v w h=>u4 sec ep v (eu (bU V.aB) r) w h (by have:=(dh _ V.aB rfl ok.aB);have:=(nP this.1 hr).2;have:=ok.len;omega))
 have HN:=zH (fun w=>oV au w (by omega) (by omega))
 have hve:=ok.ak
 have hvf:=ok.free
 have HS:=zH hs
 obtain ⟨va,vc,rfl⟩:=hs.slice
 have hnb:=ae (ae (ae (Below.refl w.heap.size w) (.cells #[.bool V.bI,.int .i64 V.ak,.slice va V.aB.length vc,.int .i64 V.free] 52)) (.cells #[.int .i64 r.kind,.int .i64 r.ak,.string r.key,.string r.value] 74)) (.cells #[.int .i64 0,.int .i64 0,.slice none 0 0,.slice none 0 0,.int .i64 0,.int .i64 0] 228)
 have e0:=aa (ae (ae (Below.refl _ (w.alloc _)) (.cells #[.int .i64 r.kind,.int .i64 r.ak,.string r.key,.string r.value] 74)) (.cells #[.int .i64 0,.int .i64 0,.slice none 0 0,.slice none 0 0,.int .i64 0,.int .i64 0] 228)) (af w (.cells #[.bool V.bI,.int .i64 V.ak,.slice va V.aB.length vc,.int .i64 V.free] 52))
 have e1:=aa (ae (Below.refl _ ((w.alloc (.cells #[.bool V.bI,.int .i64 V.ak,.slice va V.aB.length vc,.int .i64 V.free] 52)).alloc _)) (.cells #[.int .i64 0,.int .i64 0,.slice none 0 0,.slice none 0 0,.int .i64 0,.int .i64 0] 228)) (af (w.alloc _) (.cells #[.int .i64 r.kind,.int .i64 r.ak,.string r.key,.string r.value] 74))
 have e2:=af ((w.alloc (.cells #[.bool V.bI,.int .i64 V.ak,.slice va V.aB.length vc,.int .i64 V.free] 52)).alloc (.cells #[.int .i64 r.kind,.int .i64 r.ak,.string r.key,.string r.value] 74)) (.cells #[.int .i64 0,.int .i64 0,.slice none 0 0,.slice none 0 0,.int .i64 0,.int .i64 0] 228)
 simp only [World.size_alloc] at e1 e2
 have HW:=zH (zA hnb (zA e0 (zA e1 e2)))
 clear hnb e0 e1 e2 hs
 have HC:=zH (show cA V au r=if (iH (bU V.aB) r.key).isSome=false∧r.kind=2 then (2202,lx) else if 7<(eu (bU V.aB) r).length then (2201,lx) else if V.free<8 then (0,⟨-1,au,[V.free],[r],V.free+1,V.ak⟩) else if 1048576≤V.ak then (2201,lx) else (0,jG (fG au) (V.ak+1) (eu (bU V.aB) r)) from rfl)
 unfold aT.cells at HL ⊢
 generalize cA V au r=cr at *
 generalize iH (bU V.aB) r.key=fl at *
 generalize bU V.aB=now at *
 generalize eu now r=then_ at *
 clear ok hr
 go_enter func133,ntmps133
 go_upto_region 1 with fail
 generalize ((w.alloc (.cells #[.bool V.bI,.int .i64 V.ak,.slice va V.aB.length vc,.int .i64 V.free] 52)).alloc (.cells #[.int .i64 r.kind,.int .i64 r.ak,.string r.key,.string r.value] 74)).alloc (.cells #[.int .i64 0,.int .i64 0,.slice none 0 0,.slice none 0 0,.int .i64 0,.int .i64 0] 228)=W at *
 obtain ⟨c0,c1,c2,c3,hf⟩:=ck HW.out.2.2.1
 go_wp2_with fail
 refine (HL.out _ _ ⟨_,HW.out.2.1,HS.out.aj HW.out.1⟩).mono ?_
 rintro e w1 ⟨x,y,rfl,hx,hy,hb⟩
 have HB:=zH (zA (gtr HW.out.1 hb) (zA (aa hb HW.out.2.1) (zA (aa hb HW.out.2.2.1) (zA (aa hb HW.out.2.2.2) (zA hx hy)))))
 clear hb hx hy c0 c1 c2 c3 hf HW
 obtain ⟨xa,xc,rfl⟩:=bz HB.out.2.2.2.2.1
 obtain ⟨ya,yc,rfl⟩:=bz HB.out.2.2.2.2.2
 obtain ⟨c0,c1,c2,c3,hf⟩:=ck HB.out.2.2.1
 go_wp2_with fail
 refine (HF.out _ _ (aQ.cX HB.out.2.2.2.2.1)).mono ?_
 rintro e w2 ⟨rfl,hb⟩
 have HB2:=zH (zA (gtr HB.out.1 hb) (zA (aa hb HB.out.2.1) (zA (aa hb HB.out.2.2.1) (zA (aa hb HB.out.2.2.2.1) (World.ownsRow.aj HB.out.2.2.2.2.2 hb)))))
 clear hb c0 c1 c2 c3 hf HB
 obtain ⟨c0,c1,c2,c3,hf⟩:=ck HB2.out.2.2.1
 obtain ⟨v0,v1,v2,v3,vf⟩:=ck HB2.out.2.1
 obtain ⟨p0,p1,p2,p3,p4,p5,pf⟩:=kg HB2.out.2.2.2.1
 have hbl2:w.heap.size+1+1<w2.heap.size:=aO HB2.out.2.2.2.1
 have hbl1:w.heap.size+1<w2.heap.size:=by omega
 have hbl0:w.heap.size<w2.heap.size:=by omega
 generalize fl.isSome=fs at *
 by_cases k1:fs=false∧r.kind=2
 ·
  obtain ⟨rfl,k2⟩:=k1
  rw [if_pos ⟨rfl,k2⟩] at HC
  rw [k2] at c0 ⊢
  go_wp2
  refine bodyPost_ret (v:=.tuple #[.agg #[.int .i64 0,.int .i64 0,.slice none 0 0,.slice none 0 0,.int .i64 0,.int .i64 0],.int .i64 2202]) (by simp [results,results133,go_sem,p0,p1,p2,p3,p4,p5]) rfl ?_
  rw [HC.out]
  exact oF 2202 (fN HB2.out.1 (show w.heap.size≤w.heap.size+1+1 by omega) _ _ _ _ _ _)
 ·
  have k1':(!fs&&(r.kind == 2))=false:=by
   cases hfs:fs with
   | true=>rfl
   | false =>
    have:r.kind≠2:=fun e=>k1 ⟨hfs,e⟩
    simpa using this
  rw [if_neg k1] at HC
  have hsplit:fs=true∨(fs=false∧(r.kind == 2)=false):=by
   cases hfs:fs with
   | true=>exact .inl rfl
   | false=>exact .inr ⟨rfl,by rw [hfs] at k1';simpa using k1'⟩
  clear k1 k1'
  go_upto_region 5 with fail
  go_cut [43] from 37 to 43 (fun v wx=>v=.bool false∧wx=w2)
  case first =>
   rcases hsplit with rfl | ⟨rfl,hk⟩
   all_goals
    go_wp2
    go_meet
    exact ⟨rfl,rfl⟩
  case rest =>
   obtain ⟨rfl,hwc⟩:=hcut
   subst hwc
   clear hsplit
   by_cases k2:7<then_.length
   ·
    have k2':(7:Int)<(then_.length:Int):=by omega
    rw [if_pos k2] at HC
    go_wp2
    refine bodyPost_ret (v:=.tuple #[.agg #[.int .i64 0,.int .i64 0,.slice none 0 0,.slice none 0 0,.int .i64 0,.int .i64 0],.int .i64 2201]) (by simp [results,results133,go_sem,p0,p1,p2,p3,p4,p5]) rfl ?_
    rw [HC.out]
    exact oF 2201 (fN HB2.out.1 (show w.heap.size≤w.heap.size+1+1 by omega) _ _ _ _ _ _)
   ·
    have k2' : ¬ (7:Int)<(then_.length:Int):=by omega
    rw [if_neg k2] at HC
    by_cases k3:V.free<8
    ·
     rw [if_pos k3] at HC
     go_wp2_with fail
     have hS:=fN (w:=wc) HB2.out.1 (show w.heap.size≤w.heap.size+1+1 by omega) (.int .i64 (-1)) (.int .i64 au) (.slice (some ⟨wc.heap.size,0,none⟩) 1 1) (.slice (some ⟨wc.heap.size+1,0,none⟩) 1 1) (.int .i64 (V.free+1)) (.int .i64 V.ak)
     have hz:=Ho wc (w.heap.size+1+1) (.int .i64 (-1)) (.int .i64 au) (.slice (some ⟨wc.heap.size,0,none⟩) 1 1) (.slice (some ⟨wc.heap.size+1,0,none⟩) 1 1) (.int .i64 (V.free+1)) (.int .i64 V.ak)
     have hat:=vx HB2.out.2.2.2.1 (.int .i64 (-1)) (.int .i64 au) (.slice (some ⟨wc.heap.size,0,none⟩) 1 1) (.slice (some ⟨wc.heap.size+1,0,none⟩) 1 1) (.int .i64 (V.free+1)) (.int .i64 V.ak)
     have hA:=af (Bd wc (w.heap.size+1+1) (.int .i64 (-1)) (.int .i64 au) (.slice (some ⟨wc.heap.size,0,none⟩) 1 1) (.slice (some ⟨wc.heap.size+1,0,none⟩) 1 1) (.int .i64 (V.free+1)) (.int .i64 V.ak)) (.cells #[.int .i64 V.free] 3)
     change bodyPost _ _ _ _ _ (((Bd wc (w.heap.size+1+1) (.int .i64 (-1)) (.int .i64 au) (.slice (some ⟨wc.heap.size,0,none⟩) 1 1) (.slice (some ⟨wc.heap.size+1,0,none⟩) 1 1) (.int .i64 (V.free+1)) (.int .i64 V.ak)).alloc _).alloc _)
     generalize Bd wc (w.heap.size+1+1) (.int .i64 (-1)) (.int .i64 au) (.slice (some ⟨wc.heap.size,0,none⟩) 1 1) (.slice (some ⟨wc.heap.size+1,0,none⟩) 1 1) (.int .i64 (V.free+1)) (.int .i64 V.ak)=w5 at *
     have hB:=af (w5.alloc (.cells #[.int .i64 V.free] 3)) (.cells #[.int .i64 r.kind,.int .i64 r.ak,.string r.key,.string r.value] 74)
     have hA:=aa (ae (Below.refl _ (w5.alloc (.cells #[.int .i64 V.free] 3))) (.cells #[.int .i64 r.kind,.int .i64 r.ak,.string r.key,.string r.value] 74)) hA
     have hat:=aa (ae (ae (Below.refl _ w5) (.cells #[.int .i64 V.free] 3)) (.cells #[.int .i64 r.kind,.int .i64 r.ak,.string r.key,.string r.value] 74)) hat
     have hS:=ae (ae hS (.cells #[.int .i64 V.free] 3)) (.cells #[.int .i64 r.kind,.int .i64 r.ak,.string r.key,.string r.value] 74)
     simp only [World.size_alloc] at hB
     generalize (w5.alloc (.cells #[.int .i64 V.free] 3)).alloc (.cells #[.int .i64 r.kind,.int .i64 r.ak,.string r.key,.string r.value] 74)=w6 at *
     rw [hz] at hA hB
     obtain ⟨q0,q1,q2,q3,q4,q5,qf⟩:=kg hat
     refine bodyPost_ret (v:=.tuple #[.agg #[.int .i64 (-1),.int .i64 au,.slice (some ⟨wc.heap.size,0,none⟩) 1 1,.slice (some ⟨wc.heap.size+1,0,none⟩) 1 1,.int .i64 (V.free+1),.int .i64 V.ak],.int .i64 0]) (by simp [results,results133,go_sem,q0,q1,q2,q3,q4,q5]) rfl ?_
     rw [HC.out]
     exact ⟨_,_,rfl,vu (cs := #[.int .i64 V.free]) (t:=3) hA (by omega) rfl (by omega),vu (cs := #[.int .i64 r.kind,.int .i64 r.ak,.string r.key,.string r.value]) (t:=74) hB (by omega) rfl (by omega),hS⟩
    ·
     rw [if_neg k3] at HC
     by_cases k4:1048576≤V.ak
     ·
      rw [if_pos k4] at HC
      go_wp2
      refine bodyPost_ret (v:=.tuple #[.agg #[.int .i64 0,.int .i64 0,.slice none 0 0,.slice none 0 0,.int .i64 0,.int .i64 0],.int .i64 2201]) (by simp [results,results133,go_sem,p0,p1,p2,p3,p4,p5]) rfl ?_
      rw [HC.out]
      exact oF 2201 (fN HB2.out.1 (show w.heap.size≤w.heap.size+1+1 by omega) _ _ _ _ _ _)
     ·
      rw [if_neg k4] at HC
      have hw1:wrap64 (V.ak+1)=V.ak+1:=by unfold wrap64;omega
      have HO:=zH (aQ.cX HB2.out.2.2.2.2)
      have HW2:=zH (cU (n:=V.ak+1) (by omega) (by omega))
      go_wp2_with fail
      clear p0 p1 p2 p3 p4 p5 pf c0 c1 c2 c3 hf v0 v2 v3 HF HL HS
      go_region_with (first | (go_at_call 89;refine (HN.out _).mono ?_;rintro e w' ⟨rfl,rfl⟩) | (go_at_call 173;refine (HM.out _ _ _ _ (HO.out.aj (av zR))).mono ?_;rintro e w' ⟨vs,vr,rfl,hs,hr,hb⟩;have HR:=zH (zA hs (zA hr (zA (gtr (av zR) hb) (aa (gtr (av zR) hb) HB2.out.2.2.2.1))));clear hs hr hb;obtain ⟨sa,sc,rfl⟩:=bz HR.out.1;obtain ⟨ra,rc,rfl⟩:=bz HR.out.2.1;obtain ⟨q0,q1,q2,q3,q4,q5,qf⟩:=kg HR.out.2.2.2;unfold pM))
      all_goals
       simp only [HW2.out] at HR ⊢
       generalize jG (fG au) (V.ak+1) then_=pl at *
       have hS:=fN (gtr HB2.out.1 HR.out.2.2.1) (show w.heap.size≤w.heap.size+1+1 by omega) (.int .i64 pl.dH) (.int .i64 pl.au) (.slice sa pl.bM.length sc) (.slice ra pl.aB.length rc) (.int .i64 pl.free) (.int .i64 pl.ak)
       have hat:=vx HR.out.2.2.2 (.int .i64 pl.dH) (.int .i64 pl.au) (.slice sa pl.bM.length sc) (.slice ra pl.aB.length rc) (.int .i64 pl.free) (.int .i64 pl.ak)
       have hs:=j5 HR.out.1 (cE HR.out.1 HR.out.2.2.2 (by decide)) (.int .i64 pl.dH) (.int .i64 pl.au) (.slice sa pl.bM.length sc) (.slice ra pl.aB.length rc) (.int .i64 pl.free) (.int .i64 pl.ak)
       have hr:=j5 HR.out.2.1 (cE HR.out.2.1 HR.out.2.2.2 (by decide)) (.int .i64 pl.dH) (.int .i64 pl.au) (.slice sa pl.bM.length sc) (.slice ra pl.aB.length rc) (.int .i64 pl.free) (.int .i64 pl.ak)
       obtain ⟨d0,d1,d2,d3,d4,d5,df⟩:=kg hat
       clear q0 q1 q2 q3 q4 q5 qf
       go_wp2
       refine bodyPost_ret (v:=.tuple #[.agg #[.int .i64 pl.dH,.int .i64 pl.au,.slice sa pl.bM.length sc,.slice ra pl.aB.length rc,.int .i64 pl.free,.int .i64 pl.ak],.int .i64 0]) ?_ rfl ?_
       ·
        change (results _ _).run _ (Bd _ _ _ _ _ _ _ _)=_
        simp [results,results133,go_sem,d0,d1,d2,d3,d4,d5]
        rfl
       ·
        rw [HC.out]
        exact ⟨_,_,rfl,eC hs HB2.out.1.size,eC hr HB2.out.1.size,hS⟩
def bj.row (V:bj) (x:Option Addr×Nat):List Value:=[.bool V.bI,.int .i64 V.ak,.slice x.1 V.aB.length x.2,.int .i64 V.free]
def du (vs:List (bj×(Option Addr×Nat))):List Value:=vs.flatMap fun p=>p.1.row p.2
theorem ka : ∀ (vs:List (bj×(Option Addr×Nat))) (i:Nat) (p:bj×(Option Addr×Nat)),vs[i]? = some p→(du vs)[4 * i]? = some (.bool p.1.bI)∧(du vs)[4 * i+1]? = some (.int .i64 p.1.ak)∧(du vs)[4 * i+2]? = some (.slice p.2.1 p.1.aB.length p.2.2)∧(du vs)[4 * i+3]? = some (.int .i64 p.1.free)
 | [],i,p,h=>by simp at h
 | q::vs,0,p,h=>by
  obtain rfl:q=p:=by simpa using h
  simp [du,bj.row]
 | q::vs,i+1,p,h=>by
  have:=ka vs i p (by simpa using h)
  have e : ∀ j,(du (q::vs))[4 * (i+1)+j]? = (du vs)[4 * i+j]? := fun j=>by
   have:du (q::vs)=q.1.row q.2++du vs:=by simp [du]
   rw [this,List.getElem?_append_right (by simp [bj.row];omega)]
   congr 1
   simp [bj.row];omega
  exact ⟨(e 0).trans this.1,(e 1).trans this.2.1,(e 2).trans this.2.2.1,(e 3).trans this.2.2.2⟩
def iU (vs:List (bj×(Option Addr×Nat))):Nat→Option Nat
 | 0=>none
 | j+1=>match vs[j]? with
  | none=>iU vs j
  | some p=>if p.1.bI=false then iU vs j else
   match iU vs j with
   | none=>some j
   | some k=>match vs[k]? with
    | none=>iU vs j
    | some q=>if q.1.ak<p.1.ak then some j else some k
def yJ (o:Option Nat):Int:=match o with | none => -1 | some k=>k
theorem vO (vs:List (bj×(Option Addr×Nat))) : ∀ j k,iU vs j=some k→k<j
 | 0,k,h=>by simp [iU] at h
 | j+1,k,h=>by
  have ih:=vO vs j
  unfold iU at h
  split at h
  ·
   have:=ih k h;omega
  ·
   split at h
   ·
    have:=ih k h;omega
   ·
    split at h
    ·
     simp at h;omega
    ·
     rename_i hk
     have hk':=ih _ hk
     split at h
     ·
      have:=ih k h;omega
     ·
      split at h <;> simp at h <;> omega
def Im (o:Option Nat) (w:World) (e:Ending) (w':World):Prop:=e=.returned (match o with | none=>.tuple #[.int .i64 0,.int .i64 2001] | some k=>.tuple #[.int .i64 k,.int .i64 0])∧Below w.heap.size w w'
theorem vP (v:Value) (vs:List (bj×(Option Addr×Nat))) (w:World) (h:aQ w v vs.length 4 (du vs)) (hn:vs.length≤100):Calls prog 20 #[v] w (Im (iU vs vs.length) w):=by
 have H:=zH h
 have HX:=zH (ka vs)
 have HL:=zH (vO vs)
 obtain ⟨a,c,rfl⟩:=h.slice
 clear h
 go_enter func20,ntmps20
 go_wp2
 go_loopg [4,9] vs.length (fun n b i wr => ∃ j:Nat,n=vs.length - j∧b=.int .i64 (yJ (iU vs j))∧i=.int .i64 j∧j≤vs.length∧Below w.heap.size w wr)
 case atStart=>exact ⟨0,rfl,rfl,rfl,Nat.zero_le _,Below.refl _ _⟩
 case round =>
  obtain ⟨j,hgn,rfl,rfl,hj,hM⟩:=hrel
  have HB:=zH (zA hgn hM)
  clear hgn hM
  by_cases hlt:j<vs.length
  ·
   have hlt':(j:Int)<(vs.length:Int):=by omega
   obtain ⟨b,o,rfl,hc,hx⟩:=H.out.some (by omega)
   have hp:vs[j]? = some vs[j]:=List.getElem?_eq_getElem hlt
   have HS:=zH (show iU vs (j+1)=(match some vs[j] with | none=>iU vs j | some p=>if p.1.bI=false then iU vs j else match iU vs j with | none=>some j | some k=>match vs[k]? with | none=>iU vs j | some q=>if q.1.ak<p.1.ak then some j else some k) from by rw [iU,hp])
   generalize vs[j]=p at *
   obtain ⟨V,ra,rc⟩:=p
   obtain ⟨p0,p1,p2,p3⟩:=HX.out j _ hp
   have cc : ∀ i u,(du vs)[i]? = some u→wr.cell? ⟨b,o+i,none⟩=some u:=fun i u hu=>by
    have e:=hx _ _ hu
    exact (HB.out.2.cell (p:=⟨b,o+i,none⟩) (zL w _ e)).trans e
   have d0:wr.cell? ⟨b,o+j * 4,none⟩=some (.bool V.bI):=by rw [Nat.mul_comm];exact cc _ _ p0
   have d1:wr.cell? ⟨b,o+j * 4+1,none⟩=some (.int .i64 V.ak):=by rw [Nat.mul_comm,Nat.add_assoc];exact cc _ _ p1
   have d2:wr.cell? ⟨b,o+j * 4+2,none⟩=some (.slice ra V.aB.length rc):=by rw [Nat.mul_comm,Nat.add_assoc];exact cc _ _ p2
   have d3:wr.cell? ⟨b,o+j * 4+3,none⟩=some (.int .i64 V.free):=by rw [Nat.mul_comm,Nat.add_assoc];exact cc _ _ p3
   have HC:=zH cc
   have hbl:b<wr.heap.size:=zL wr _ d0
   clear p0 p1 p2 p3 cc hx
   go_upto_region 5 with fail
   have e0:=af wr (.cells #[.bool V.bI,.int .i64 V.ak,.slice ra V.aB.length rc,.int .i64 V.free] 52)
   obtain ⟨f0,f1,f2,f3,ff⟩:=ck e0
   have hN:=gtr HB.out.2 (ae (Below.refl _ wr) (.cells #[.bool V.bI,.int .i64 V.ak,.slice ra V.aB.length rc,.int .i64 V.free] 52))
   have HN:=zH hN
   have HC2:=zH (fun i u hu=>((ae (Below.refl wr.heap.size wr) (.cells #[.bool V.bI,.int .i64 V.ak,.slice ra V.aB.length rc,.int .i64 V.free] 52)).cell (p:=⟨b,o+i,none⟩) hbl).trans (HC.out i u hu))
   clear d0 d1 d2 d3 e0 hN HC
   generalize wr.heap.size=g at *
   generalize wr.alloc (.cells #[.bool V.bI,.int .i64 V.ak,.slice ra V.aB.length rc,.int .i64 V.free] 52)=w2 at *
   clear hbl
   replace HS:=HS.out
   dsimp only at HS
   cases hg:V.bI with
   | false =>
    rw [hg,if_pos rfl] at HS
    rw [hg] at f0
    replace HS:=zH HS
    clear hg hp f2 f3
    go_quiet (fail)
    go_wp2
    go_roundg (vs.length - (j+1))
    case measure=>have:=HB.out.1;omega
    case rel=>exact ⟨j+1,rfl,by first | (rw [HS.out];done) | (rw [HS.out];rfl),by go_num,by omega,aZ HN.out _⟩
   | true =>
    rw [hg,if_neg (by decide)] at HS
    rw [hg] at f0
    clear hg hp f2 f3
    cases hb:iU vs j with
    | none =>
     rw [hb] at HS
     replace HS:=zH HS
     clear hb
     rw [show yJ none = -1 from rfl]
     go_quiet (fail)
     go_wp2
     go_roundg (vs.length - (j+1))
     case measure=>have:=HB.out.1;omega
     case rel=>exact ⟨j+1,rfl,by first | (rw [HS.out];done) | (rw [HS.out];rfl),by go_num,by omega,aZ HN.out _⟩
    | some k =>
     have hk:=HL.out j k hb
     rw [hb] at HS
     obtain ⟨q,hq⟩ : ∃ q,vs[k]? = some q:=⟨_,List.getElem?_eq_getElem (by omega)⟩
     dsimp only at HS
     rw [hq] at HS
     dsimp only at HS
     have g1:w2.cell? ⟨b,o+k * 4+1,none⟩=some (.int .i64 q.1.ak):=by rw [Nat.mul_comm,Nat.add_assoc];exact HC2.out _ _ (HX.out k q hq).2.1
     have hk1:k<vs.length:=by omega
     have hk2:(k:Int)<(vs.length:Int):=by omega
     clear hq
     by_cases hlt:q.1.ak<V.ak
     ·
      rw [if_pos hlt] at HS
      replace HS:=zH HS
      clear hb
      rw [show yJ (some k)=(k:Int) from rfl]
      have hk0:decide ((k:Int)<0)=false:=decide_eq_false (by omega)
      go_quiet (fail)
      go_wp2
      go_roundg (vs.length - (j+1))
      case measure=>have:=HB.out.1;omega
      case rel=>exact ⟨j+1,rfl,by first | (rw [HS.out];done) | (rw [HS.out];rfl),by go_num,by omega,aZ HN.out _⟩
     ·
      rw [if_neg hlt] at HS
      replace HS:=zH HS
      clear hb
      have hlt2:decide (q.1.ak<V.ak)=false:=decide_eq_false hlt
      clear hlt
      rw [show yJ (some k)=(k:Int) from rfl]
      have hk0:decide ((k:Int)<0)=false:=decide_eq_false (by omega)
      go_quiet (fail)
      go_wp2
      go_roundg (vs.length - (j+1))
      case measure=>have:=HB.out.1;omega
      case rel=>exact ⟨j+1,rfl,by first | (rw [HS.out];done) | (rw [HS.out];rfl),by go_num,by omega,aZ HN.out _⟩
  ·
   obtain rfl:j=vs.length:=by omega
   have HL2:=HL.out vs.length
   clear HL HX
   cases hb:iU vs vs.length with
   | none =>
    have HZ:=zH hb
    clear hb HL2
    rw [show yJ none = -1 from rfl]
    go_wp2
    go_ret2
    rw [HZ.out]
    exact ⟨rfl,HB.out.2⟩
   | some k =>
    have HZ:=zH hb
    clear hb HL2
    rw [show yJ (some k)=(k:Int) from rfl]
    have hk0:decide ((k:Int)<0)=false:=decide_eq_false (by omega)
    go_wp2
    go_ret2
    rw [HZ.out]
    exact ⟨rfl,HB.out.2⟩
section
open Go.RowKit
variable {X:Nat→Prop}
theorem kE {fn:Func} {t u v x:Tmp} (h:fn.results = #[.tmp t,.tmp u,.tmp v,.tmp x]) (tmps:Array Value) (P:Program) (w:World):(results fn tmps).run P w=.ok (.tuple #[tmps.getD t undef,tmps.getD u undef,tmps.getD v undef,tmps.getD x undef]) w:=by
 simp [results,h]
theorem yv (w:World):Calls prog 163 #[.string bw] w fun e w'=>e=.returned (.tuple #[.int .i64 4096,.int .i64 512,.int .i64 32,.int .i64 0])∧Below w.heap.size w w':=by
 have HP:=zH (fun w=>qd w)
 have h1:bw.size=32:=by decide
 have HN1:=zH (fun w=>ky (bw.extract 8 32) w (by decide))
 have HN2:=zH (fun w=>ky ((bw.extract 8 32).extract 4 24) w (by decide))
 have HN3:=zH (fun w=>ky ((bw.extract 8 32).extract 8 24) w (by decide))
 have e1:(bw.extract 8 32).size=24:=by decide
 have n1:jq (bw.extract 8 32)=4096:=by decide
 have n2:jq ((bw.extract 8 32).extract 4 24)=512:=by decide
 have n3:jq ((bw.extract 8 32).extract 8 24)=32:=by decide
 rw [n1] at HN1
 rw [n2] at HN2
 rw [n3] at HN3
 have hq:(bw == bw)=true:=by decide
 clear n1 n2 n3
 generalize hg:bw.extract 8 32=s1 at *
 generalize bw=s0 at *
 go_enter func163,ntmps163
 go_wp2_with fail
 refine wp_region_noPanic ?_
 refine wp_region_held_drew (S:=(fun _=>True)) (by kernel_rfl) (by (try dsimp only);first | done | exact trivial) fun hHeld => ?_
 refine tk 0 ?_
 refine tk 2 ?_
 refine tk 3 ?_
 refine tk 5 ?_
 refine tk 6 ?_
 refine tr 1 fun K hK => ?_
 go_simp
 refine (HN1.out _).mono ?_
 rintro e w1 ⟨rfl,rfl⟩
 go_wp2_with fail
 refine hK.out _ _ (by (try dsimp only);first | done | exact trivial) fun hHeld => ?_
 clear hK K
 try simp only [Act.put,zS,zT,zU]
 refine tr 4 fun K hK => ?_
 go_simp
 refine (HN2.out _).mono ?_
 rintro e w2 ⟨rfl,rfl⟩
 go_wp2_with fail
 refine hK.out _ _ (by (try dsimp only);first | done | exact trivial) fun hHeld => ?_
 clear hK K
 try simp only [Act.put,zS,zT,zU]
 refine tr 7 fun K hK => ?_
 go_simp
 refine (HN3.out _).mono ?_
 rintro e w3 ⟨rfl,rfl⟩
 go_wp2_with fail
 refine hK.out _ _ (by (try dsimp only);first | done | exact trivial) fun hHeld => ?_
 clear hK K
 try simp only [Act.put,zS,zT,zU]
 refine tk 8 ?_
 refine tk 9 ?_
 refine tk 10 ?_
 refine wpAnyH_done (by kernel_rfl) ?_ _
 refine NoPanic.normal ?_
 go_wp2_with fail
 refine (HP.out _).mono ?_
 rintro e w4 ⟨rfl,hb⟩
 have HB:=zH (gtr (av zR) hb)
 clear hb
 go_wp2
 refine bodyPost_ret (kE rfl _ _ _) rfl ?_
 exact ⟨rfl,HB.out⟩
theorem Jh (w:World):Calls prog 161 #[] w fun e w'=>e=.returned (.slice (some ⟨w.heap.size,0,none⟩) 3 3)∧w'=w.alloc (.cells #[.int .i64 239,.int .i64 64,.int .i64 12] 3):=by
 go_enter func161,ntmps161
 go_wp2
 go_ret
 exact ⟨rfl,rfl⟩
theorem A5:gS 159 0 [] 3:=⟨by decide,by decide,by decide,fun _=>rfl,by decide,by decide,by decide,by decide,by decide⟩
theorem LK:gS 90 0 [] 32:=⟨by decide,by decide,by decide,fun _=>rfl,by decide,by decide,by decide,by decide,by decide⟩
def aG.dW (m:aG):aG×Int:=if (m.run 159 0 [] 3).2.2=0 then (((m.run 159 0 [] 3).1.run 90 0 [] 32).1,((m.run 159 0 [] 3).1.run 90 0 [] 32).2.2) else ((m.run 159 0 [] 3).1,(m.run 159 0 [] 3).2.2)
theorem zK {m:aG} (ok:m.Ok):m.dW.1.Ok:=by
 unfold aG.dW
 split
 ·
  exact ey (ey ok _ _ _ _ A5) _ _ _ _ LK
 ·
  exact ey ok _ _ _ _ A5
structure aG.kM (m:aG):Prop where
 id:(m.run 159 0 [] 3).2.2=0→(m.run 159 0 [] 3).2.1=[239,64,12]
 yu:(m.run 159 0 [] 3).2.2=0→((m.run 159 0 [] 3).1.run 90 0 [] 32).2.2=0→eI ((m.run 159 0 [] 3).1.run 90 0 [] 32).2.1=bw
def F0 (X:Nat→Prop) (er:Int) (k c:Nat) (m:aG) (G:Nat→Prop) (w:World) (e:Ending) (w':World):Prop :=
 (∃ a b d,e=.returned (.tuple #[.int .i64 a,.int .i64 b,.int .i64 d,.int .i64 er])) ∧ ∃ G',bS X w' k c m G'∧Step G G' w w'
theorem CT (k c:Nat) (m:aG) (G:Nat→Prop) (w:World) (h:bS X w k c m G) (ok:m.Ok) (kn:m.kM):Calls prog 123 #[.pointer (some ⟨k,0,none⟩)] w (F0 X m.dW.2 k c m.dW.1 G w):=by
 have HI:=zH (fun w=>Jh w)
 have HR:=zH (fun (w1:World) (h1:bS X w1 k c m G)=>fh k c m G 159 0 none [] 0 3 w1 h1 ok A5 (nB w1 G) (fun _=>rfl) (by simp))
 have HE:=zH (lR m 159 0 [] 3)
 have HS:=zH (fun (G1:Nat→Prop) (w1:World) (h1:bS X w1 k c (m.run 159 0 [] 3).1 G1)=>fh k c (m.run 159 0 [] 3).1 G1 90 0 none [] 0 32 w1 h1 (ey ok _ _ _ _ A5) LK (nB w1 G1) (fun _=>rfl) (by simp))
 have HL:=zH (fun h=>nH (m:=(m.run 159 0 [] 3).1) (b:=90) (at_:=0) (xs:=[]) (read:=32) (by omega) h)
 have HF:=zH (lR (m.run 159 0 [] 3).1 90 0 [] 32)
 have HB:=zH (show m.dW=if (m.run 159 0 [] 3).2.2=0 then (((m.run 159 0 [] 3).1.run 90 0 [] 32).1,((m.run 159 0 [] 3).1.run 90 0 [] 32).2.2) else ((m.run 159 0 [] 3).1,(m.run 159 0 [] 3).2.2) from rfl)
 have HK:=zH kn.id
 have HT:=zH kn.yu
 have HG:=zH (fun w=>yv w)
 have H0:=zH (zA h (ae (Below.refl w.heap.size w) (.cells #[.int .i64 239,.int .i64 64,.int .i64 12] 3)))
 clear h ok kn
 generalize m.dW=br at *
 generalize m.run 159 0 [] 3=r at *
 obtain ⟨m1,xs,er⟩:=r
 simp only at HR HE HS HL HF HB HK HT
 generalize m1.run 90 0 [] 32=r2 at *
 obtain ⟨m2,ys,er2⟩:=r2
 simp only at HS HL HF HB HT
 simp only [List.length_nil] at HR HS
 rcases HE.out with he | ⟨he,hx⟩
 ·
  subst he
  obtain rfl:xs=[239,64,12]:=HK.out (by trivial)
  go_enter func123,ntmps123
  go_wp2_with fail
  refine (HI.out _).mono ?_
  rintro e w1 ⟨rfl,rfl⟩
  go_wp2_with fail
  refine (HR.out _ (H0.out.1.aj H0.out.2)).mono ?_
  rintro e w1 ⟨a,cp,G1,rfl,hc,hs,st⟩
  have H1:=zH (zA hc ((Step.ah H0.out.2).trans st))
  have HIN:=zH hs
  clear hc hs st
  go_wp2_with fail
  refine (HI.out _).mono ?_
  rintro e w2 ⟨rfl,rfl⟩
  obtain ⟨b,o,rfl,hcell⟩:=HIN.out.1.at (by simp)
  have HEQ:=zH (Tryz.slices_Equal_int b o 3 cp w1.heap.size 0 3 3 [239,64,12] [239,64,12] (w1.alloc (.cells #[.int .i64 239,.int .i64 64,.int .i64 12] 3)) (by simp) (by simp) (by decide) (by decide) (fun j hj=>(World.cell?_alloc_lt _ _ _ (zL w1 _ (hcell j hj))).trans (hcell j hj)) (fun j hj=>by
    have hj:j<3:=hj
    match j,hj with
    | 0,_=>exact cell_of (af w1 _) 0
    | 1,_=>exact cell_of (af w1 _) 1
    | 2,_=>exact cell_of (af w1 _) 2))
  have HBA:=zH (ae (Below.refl w1.heap.size w1) (.cells #[.int .i64 239,.int .i64 64,.int .i64 12] 3))
  clear hcell
  go_wp2_with fail
  refine HEQ.out.mono ?_
  rintro e w2 ⟨rfl,q,rfl⟩
  have HB2:=zH (aZ HBA.out q)
  generalize (w1.alloc (.cells #[.int .i64 239,.int .i64 64,.int .i64 12] 3)).drewN q=w2 at *
  have H2:=zH (zA (H1.out.1.aj HB2.out) (H1.out.2.trans (Step.ah HB2.out)))
  clear HEQ HBA HB2 H1
  go_wp2_with fail
  refine (HS.out _ _ H2.out.1).mono ?_
  rintro e w3 ⟨a,cp3,G3,rfl,hc,hs,st⟩
  have H3:=zH (zA hc (H2.out.2.trans st))
  have HIN3:=zH hs
  clear hc hs st H2
  rcases HF.out with he | ⟨he,hx⟩
  ·
   subst he
   have hl:ys.length=32:=HL.out (by trivial)
   have HX:=zH (fun w3 h=>E3 a cp3 ys w3 h (by omega))
   rw [show eI ys=bw from HT.out (by trivial) (by trivial)] at HX
   rw [hl] at HX ⊢
   clear hl
   go_wp2_with fail
   refine (HX.out _ HIN3.out.1).mono ?_
   rintro e w4 ⟨rfl,hb4⟩
   have H4:=zH (zA (H3.out.1.aj hb4) (H3.out.2.trans (Step.ah hb4)))
   clear hb4 H3
   go_wp2_with fail
   refine (HG.out _).mono ?_
   rintro e w5 ⟨rfl,hb5⟩
   have H5:=zH (zA (H4.out.1.aj hb5) (H4.out.2.trans (Step.ah hb5)))
   clear hb5 H4
   go_wp2
   refine bodyPost_ret (kE rfl _ _ _) rfl ?_
   rw [show br=(m2,0) from HB.out]
   exact ⟨⟨_,_,_,rfl⟩,G3,H5.out⟩
  ·
   subst he
   subst hx
   go_wp2
   refine bodyPost_ret (kE rfl _ _ _) rfl ?_
   rw [show br=(m2,1101) from HB.out]
   exact ⟨⟨_,_,_,rfl⟩,G3,H3.out⟩
 ·
  subst he
  subst hx
  go_enter func123,ntmps123
  go_wp2_with fail
  refine (HI.out _).mono ?_
  rintro e w1 ⟨rfl,rfl⟩
  go_wp2_with fail
  refine (HR.out _ (H0.out.1.aj H0.out.2)).mono ?_
  rintro e w1 ⟨a,cp,G1,rfl,hc,hs,st⟩
  have H1:=zH (zA hc ((Step.ah H0.out.2).trans st))
  clear hc hs st
  go_wp2
  refine bodyPost_ret (kE rfl _ _ _) rfl ?_
  rw [show br=(m1,1101) from HB.out]
  exact ⟨⟨_,_,_,rfl⟩,G1,H1.out⟩
def DG (X:Nat→Prop) (y:Int) (er:Int) (k c:Nat) (m:aG) (G:Nat→Prop) (w:World) (e:Ending) (w':World):Prop:=e=.returned (.tuple #[.int .i64 y,.int .i64 er]) ∧ ∃ G',bS X w' k c m G'∧Step G G' w w'
theorem C1:gS 53 0 [] 1:=⟨by decide,by decide,by decide,fun _=>rfl,by decide,by decide,by decide,by decide,by decide⟩
theorem pe (k c:Nat) (m m':aG) (G:Nat→Prop) (b x:Int) (w:World) (h:bS X w k c m G) (ok:m.Ok) (hb:b=5∨b=53) (hr:m.run b 0 [] 1=(m',[x],0)):Calls prog 111 #[.pointer (some ⟨k,0,none⟩),.int .i64 b] w (DG X x 0 k c m' G w):=by
 have HR:=zH (fh k c m G b 0 none [] 0 1 w h ok (by rcases hb with rfl | rfl;exact yo;exact C1) (nB w G) (fun _=>rfl) (by simp))
 rw [hr] at HR
 simp only [List.length_nil] at HR
 clear h ok hr hb
 go_enter func111,ntmps111
 go_wp2_with fail
 refine HR.out.mono ?_
 rintro e w1 ⟨a,cp,G1,rfl,hc,hs,st⟩
 obtain ⟨b,o,rfl,hcell⟩:=hs.1 0 (by simp)
 rw [Nat.add_zero] at hcell
 have hcell:w1.cell? ⟨b,o,none⟩=some (.int .i64 x):=hcell
 have H1:=zH (zA hc st)
 have i0:(0:Int)<1:=by decide
 clear hc hs st
 simp only [List.length_singleton]
 go_wp2
 go_ret2
 exact ⟨rfl,G1,H1.out⟩
structure Sets (m m1 m2 m3 m4:aG) (own bit other kept x y:Int):Prop where
 r1:m.run own 0 [] 1=(m1,[x],0)
 b1:bits .and .i64 x bit=0
 r2:m1.run other 0 [] 1=(m2,[y],0)
 r3:m2.run 6 0 [] 0=(m3,[],0)
 r4:m3.run 1 0 (if own=53 then [bits .and .i64 y kept,bit] else [bit,bits .and .i64 y kept]) 0=(m4,[],0)
 k1:isByte (bits .and .i64 y kept)=true
 own:own=5∨own=53
 other:other=5∨other=53
 bit:isByte bit=true
theorem FU (w:World) (x y:Int) (G:Nat→Prop) (hG : ∀ b,G b→b<w.heap.size):aP (w.alloc (.cells #[.int .i64 x,.int .i64 y] 3)) (some ⟨w.heap.size,0,none⟩) [x,y] G :=
 ⟨aS.of fun i hi=>by
  have hi:i<2:=hi
  match i,hi with
  | 0,_=>exact cell_of (af w _) 0
  | 1,_=>exact cell_of (af w _) 1,fun b o e _ hg=>by
  obtain ⟨rfl,rfl⟩:w.heap.size=b∧0=o:=by simpa using e
  exact absurd (hG _ hg) (by omega)⟩
theorem Ll (x y:Int) (hx:isByte x=true) (hy:isByte y=true):gS 1 0 [x,y] 0 :=
 ⟨by decide,by decide,by decide,fun _=>rfl,by simp,by simp [hx,hy],by decide,by decide,by unfold kl;rfl⟩
theorem xI (k c:Nat) (m m1 m2 m3 m4:aG) (G:Nat→Prop) (own bit other kept x y:Int) (w:World) (h:bS X w k c m G) (ok:m.Ok) (S:Sets m m1 m2 m3 m4 own bit other kept x y):Calls prog 73 #[.pointer (some ⟨k,0,none⟩),.int .i64 own,.int .i64 bit,.int .i64 other,.int .i64 kept] w (mU X 0 k c m4 G w):=by
 have ok1:m1.Ok:=by have:=ey ok own 0 [] 1 (by rcases S.own with e | e <;> rw [e];exact yo;exact C1);rw [S.r1] at this;exact this
 have ok2:m2.Ok:=by have:=ey ok1 other 0 [] 1 (by rcases S.other with e | e <;> rw [e];exact yo;exact C1);rw [S.r2] at this;exact this
 have ok3:m3.Ok:=by have:=ey ok2 6 0 [] 0 A6;rw [S.r3] at this;exact this
 have HS1:=zH (pe k c m m1 G own x w h ok S.own S.r1)
 have HS2:=zH (fun G w (h:bS X w k c m1 G)=>pe k c m1 m2 G other y w h ok1 S.other S.r2)
 have HR:=zH (fun G w (h:bS X w k c m2 G)=>fh k c m2 G 6 0 none [] 0 0 w h ok2 A6 (nB w G) (fun _=>rfl) (by simp))
 rw [S.r3] at HR
 simp only [List.length_nil] at HR
 have hb1:=S.b1
 have HK:=zH S
 clear h ok ok1 ok2
 go_enter func73,ntmps73
 go_wp2_with fail
 refine HS1.out.mono ?_
 rintro e w1 ⟨rfl,G1,hc,st⟩
 have H1:=zH (zA hc st)
 clear hc st HS1
 go_wp2_with fail
 refine (HS2.out _ _ H1.out.1).mono ?_
 rintro e w2 ⟨rfl,G2,hc,st⟩
 have H2:=zH (zA hc (H1.out.2.trans st))
 clear hc st HS2 H1
 go_wp2_with fail
 refine (HR.out _ _ H2.out.1).mono ?_
 rintro e w3 ⟨a,cp,G3,rfl,hc,hs,st⟩
 have H3:=zH (zA hc (H2.out.2.trans st))
 clear hc hs st HR H2
 have hG3:=zH (H3.out.1.lt)
 by_cases ho:own=53
 ·
  have HW:=zH (fun G w a cap (h:bS X w k c m3 G) hs hn hcap=>fh k c m3 G 1 0 a [bits .and .i64 y kept,bit] cap 0 w h ok3 (Ll _ _ HK.out.k1 HK.out.bit) hs hn hcap)
  have r4:=HK.out.r4
  rw [if_pos ho] at r4
  rw [r4] at HW
  clear r4
  subst ho
  have HB3:=zH (ae (ae (Below.refl w3.heap.size w3) (.cells #[.int .i64 bit,.int .i64 (bits .and .i64 y kept)] 3)) (.cells #[.int .i64 (bits .and .i64 y kept),.int .i64 bit] 3))
  have HT:=zH (FU (w3.alloc (.cells #[.int .i64 bit,.int .i64 (bits .and .i64 y kept)] 3)) (bits .and .i64 y kept) bit G3 (fun b hb=>zV (hG3.out b hb) (by simp)))
  go_wp2_with fail
  refine (HW.out G3 _ _ 2 (H3.out.1.aj HB3.out) (by simpa using HT.out) (fun e=>by cases e) (by simp)).mono ?_
  rintro e w4 ⟨a4,cp4,G4,rfl,hc,hs,st⟩
  have H4:=zH (zA hc (H3.out.2.trans ((Step.ah HB3.out).trans st)))
  clear hc hs st
  go_wp2
  go_ret
  exact ⟨rfl,G4,H4.out⟩
 ·
  have HW:=zH (fun G w a cap (h:bS X w k c m3 G) hs hn hcap=>fh k c m3 G 1 0 a [bit,bits .and .i64 y kept] cap 0 w h ok3 (Ll _ _ HK.out.bit HK.out.k1) hs hn hcap)
  have r4:=HK.out.r4
  rw [if_neg ho] at r4
  rw [r4] at HW
  clear r4
  have HB3:=zH (ae (Below.refl w3.heap.size w3) (.cells #[.int .i64 bit,.int .i64 (bits .and .i64 y kept)] 3))
  have HT:=zH (FU w3 bit (bits .and .i64 y kept) G3 hG3.out)
  go_wp2_with fail
  refine (HW.out G3 _ _ 2 (H3.out.1.aj HB3.out) HT.out (fun e=>by cases e) (by simp)).mono ?_
  rintro e w4 ⟨a4,cp4,G4,rfl,hc,hs,st⟩
  have H4:=zH (zA hc (H3.out.2.trans ((Step.ah HB3.out).trans st)))
  clear hc hs st
  go_wp2
  go_ret
  exact ⟨rfl,G4,H4.out⟩
theorem EL (k c:Nat) (m m1 m2 m3 m4:aG) (G:Nat→Prop) (x y:Int) (w:World) (h:bS X w k c m G) (ok:m.Ok) (S:Sets m m1 m2 m3 m4 53 2 5 4 x y):Calls prog 41 #[.pointer (some ⟨k,0,none⟩)] w (mU X 0 k c m4 G w):=by
 have HS:=zH (xI k c m m1 m2 m3 m4 G 53 2 5 4 x y w h ok S)
 clear h ok S
 go_enter func41,ntmps41
 go_wp2_with fail
 refine HS.out.mono ?_
 rintro e w1 ⟨rfl,H⟩
 have H:=zH H
 go_wp2
 go_ret
 exact ⟨rfl,H.out⟩
theorem ym (k c:Nat) (m m1 m2 m3 m4:aG) (G:Nat→Prop) (x y:Int) (w:World) (h:bS X w k c m G) (ok:m.Ok) (S:Sets m m1 m2 m3 m4 5 4 53 2 x y):Calls prog 42 #[.pointer (some ⟨k,0,none⟩)] w (mU X 0 k c m4 G w):=by
 have HS:=zH (xI k c m m1 m2 m3 m4 G 5 4 53 2 x y w h ok S)
 clear h ok S
 go_enter func42,ntmps42
 go_wp2_with fail
 refine HS.out.mono ?_
 rintro e w1 ⟨rfl,H⟩
 have H:=zH H
 go_wp2
 go_ret
 exact ⟨rfl,H.out⟩
end
section
open Go.RowKit
variable {X:Nat→Prop}
theorem fz.odd {w w':World} {k c b s:Nat} {m:aG} {q:Cache} {H:Nat→Prop} (h:fz X w k c b m q H) (t:Touch (aN s) w w') (hn : ¬ H s) (o:LP w s) (hh:0<m.ar.busy.length→m.ar.home≠s):fz X w' k c b m q H:=by
 obtain ⟨G,hc,⟨ab,ac,tb,tc,hw⟩,hH,hb⟩:=h.ex
 obtain ⟨p,hp⟩:=o.ptr
 have na : ¬ aN s ab:=fun e=>by
  have e:ab=s:=e
  have:=hw.a0
  rw [e,hp] at this;cases this
 have nt : ¬ aN s tb:=fun e=>by
  have e:tb=s:=e
  have:=hw.t0
  rw [e,hp] at this;cases this
 have nb : ¬ aN s b:=fun e=>hn ((hH s).2 (.inr e.symm))
 have hbl:b<w.heap.size:=(Array.getElem?_eq_some_iff.1 hw.raw).1
 exact ⟨⟨G,hc.fx t (fun x hx hg=>by rw [show x=s from hx] at hg;exact hn ((hH s).2 (.inl hg))) (fun hl hx=>hh hl hx) (fun x hx _=>by rw [show x=s from hx];exact .inl o),⟨ab,ac,tb,tc,(t.block b hbl nb).trans hw.raw,hw.cap,t.cell _ _ hw.a0 na,t.cell _ _ hw.a1 na,t.cell _ _ hw.t0 nt,t.cell _ _ hw.t1 nt,hw.out,hw.na,hw.nt⟩,hH,hb⟩⟩
theorem fz.lt {w:World} {k c b:Nat} {m:aG} {q:Cache} {H:Nat→Prop} (h:fz X w k c b m q H) : ∀ i,H i→i<w.heap.size:=fun i hi=>by
 obtain ⟨G,hc,⟨_,_,_,_,hw⟩,hH,_⟩:=h.ex
 rcases (hH i).1 hi with hg | hg
 ·
  exact hc.lt i hg
 ·
  rw [hg];exact (Array.getElem?_eq_some_iff.1 hw.raw).1
structure aA where
 opened : Bool
 au:Int
 view:bj
def cG:bj:=⟨false,0,[],0⟩
def shut:aA:=⟨false,0,cG⟩
def sF (k b:Nat) (S:aA) (a:Option Addr) (cp:Nat):Array Value := #[.pointer (some ⟨k,0,none⟩),.pointer (some ⟨b,0,none⟩),.bool S.opened,.int .i64 S.au,.bool S.view.bI,.int .i64 S.view.ak,.slice a S.view.aB.length cp,.int .i64 S.view.free]
structure dV (w:World) (a:Option Addr) (cp:Nat) (rs:List aT) (F:Nat→Prop):Prop where
 at_:aQ w (.slice a rs.length cp) rs.length 4 (bh rs)
 fx : ∀ x o f,a=some ⟨x,o,f⟩→0<rs.length → ¬ F x
theorem dV.lt {w:World} {a:Option Addr} {cp:Nat} {rs:List aT} {F:Nat→Prop} (h:dV w a cp rs F) : ∀ x o f,a=some ⟨x,o,f⟩→0<rs.length→x<w.heap.size:=by
 intro x o f e hl
 rcases h.at_.ex with ⟨_,h0⟩ | ⟨b,o',c,hv,hc,hx⟩
 ·
  omega
 ·
  have hlen:0<(bh rs).length:=by rw [lQ];omega
  have:=zL w _ (hx 0 _ (List.getElem?_eq_getElem hlen))
  simp only [Value.slice.injEq] at hv
  rw [hv.1] at e
  obtain ⟨rfl,_⟩:b=x∧_:=by simpa using e
  exact this
theorem dV.step {w w':World} {a:Option Addr} {cp:Nat} {rs:List aT} {F G:Nat→Prop} (h:dV w a cp rs F) (st:Step F G w w'):dV w' a cp rs G:=by
 have hl:=h.lt
 refine ⟨⟨h.at_.len,?_⟩,fun x o f e h0=>st.safe (hl x o f e h0) (h.fx x o f e h0)⟩
 rcases h.at_.ex with h0 | ⟨b,o,c,hv,hc,hx⟩
 ·
  exact .inl h0
 ·
  refine .inr ⟨b,o,c,hv,hc,fun i u hu => ?_⟩
  have hv':a=some ⟨b,o,none⟩:=by simp only [Value.slice.injEq] at hv;exact hv.1
  have h0:0<rs.length:=by
   have:=(List.getElem?_eq_some_iff.1 hu).1
   rw [lQ] at this;omega
  exact st.aH.cell _ _ (hx i u hu) (h.fx _ _ _ hv' h0)
theorem dV.nil (w:World) (F:Nat→Prop):dV w none 0 [] F:=⟨aQ.nil _ _,fun _ _ _ e=>nomatch e⟩
theorem dV.cX {w:World} {B:Nat} {a:Option Addr} {cp:Nat} {rs:List aT} {F:Nat→Prop} (h:w.ownsRow B 74 4 (.slice a rs.length cp) rs.length (bh rs)) (hF : ∀ i,F i→i<B):dV w a cp rs F :=
 ⟨aQ.cX h,fun x o f e _ hf=>by
  have:=bK h x (by rw [e];rfl)
  have:=hF x hf
  omega⟩
def bO (s:Nat) (H:Nat→Prop) (i:Nat):Prop:=H i∨i=s
def BA (X:Nat→Prop) (s:Nat) (H:Nat→Prop) (i:Nat):Prop:=bO s H i∨X i
structure Sys (X:Nat→Prop) (w:World) (s k c b:Nat) (m:aG) (q:Cache) (S:aA) (H:Nat→Prop):Prop where
 both:fz X w k c b m q H
 st : ∃ a cp,w.heap[s]? = some (.cells (sF k b S a cp) 180 (0,0))∧dV w a cp S.view.aB (BA X s H)
 fx : ¬ H s
 home:0<m.ar.busy.length→m.ar.home≠s
theorem Sys.lt {w:World} {s k c b:Nat} {m:aG} {q:Cache} {S:aA} {H:Nat→Prop} (h:Sys X w s k c b m q S H) : ∀ i,bO s H i→i<w.heap.size:=fun i hi=>by
 obtain ⟨a,cp,h1,_⟩:=h.st
 rcases hi with hi | rfl
 ·
  exact h.both.lt i hi
 ·
  exact aO h1
theorem Step.lh {w w':World} {s:Nat} {H H':Nat→Prop} (st:Step H H' w w'):Step (bO s H) (bO s H') w w' :=
 ⟨st.aH.mono fun i h=>.inl h,fun i h=>h.elim (fun h=>(st.ib i h).imp .inl id) (fun h=>.inl (.inr h))⟩
theorem Step.off {w w':World} {s:Nat} {H H':Nat→Prop} (st:Step H H' w w'):Step (BA X s H) (BA X s H') w w':=st.lh.Mg
theorem Sys.step {w w':World} {s k c b:Nat} {m m':aG} {q q':Cache} {S:aA} {H H':Nat→Prop} (h:Sys X w s k c b m q S H) (hb:fz X w' k c b m' q' H') (st:Step H H' w w') (hm:bH m m'):Sys X w' s k c b m' q' S H':=by
 obtain ⟨a,cp,h1,h2⟩:=h.st
 exact ⟨hb,⟨a,cp,st.aH.at h1 h.fx,h2.step st.off⟩,st.safe (aO h1) h.fx,fun hl=>by rw [hm.1];exact h.home (zV hl hm.2)⟩
theorem Sys.aj {w w':World} {s k c b:Nat} {m:aG} {q:Cache} {S:aA} {H:Nat→Prop} (h:Sys X w s k c b m q S H) (hb:Below w.heap.size w w'):Sys X w' s k c b m q S H :=
 h.step (h.both.aj hb) (Step.ah hb) (bH.refl m)
theorem Hv {w:World} {s k b:Nat} {S:aA} {a:Option Addr} {cp:Nat} (h:w.heap[s]? = some (.cells (sF k b S a cp) 180 (0,0))):LP w s:=by
 refine ⟨⟨_,cell_of h 0⟩,fun o hf => ?_⟩
 obtain ⟨x,hx⟩:=hf 0 (by omega)
 obtain ⟨y,hy⟩:=hf 1 (by omega)
 have hx':(sF k b S a cp)[o+0]? = some (.int .i64 x):=by
  unfold World.cell? at hx
  rw [h] at hx
  simpa using hx
 have hlt:=(Array.getElem?_eq_some_iff.1 hx').1
 have hlt:o<8:=hlt
 match o,hlt with
 | 0,_=>rw [cell_of h 0] at hx;cases hx
 | 1,_=>rw [cell_of h 1] at hx;cases hx
 | 2,_=>rw [cell_of h 2] at hx;cases hx
 | 3,_=>rw [cell_of h 4] at hy;cases hy
 | 4,_=>rw [cell_of h 4] at hx;cases hx
 | 5,_=>rw [cell_of h 6] at hy;cases hy
 | 6,_=>rw [cell_of h 6] at hx;cases hx
 | 7,_ =>
  have:w.cell? ⟨s,7+1,none⟩=none:=by
   unfold World.cell?
   rw [h]
   rfl
  rw [this] at hy;cases hy
theorem Sys.put {w w':World} {s k c b:Nat} {m:aG} {q:Cache} {S S':aA} {H:Nat→Prop} {a:Option Addr} {cp:Nat} (h:Sys X w s k c b m q S H) (t:Touch (aN s) w w') (h1:w'.heap[s]? = some (.cells (sF k b S' a cp) 180 (0,0))) (h2:dV w a cp S'.view.aB (BA X s H)):Sys X w' s k c b m q S' H∧Step (bO s H) (bO s H) w w':=by
 obtain ⟨a0,cp0,h0,_⟩:=h.st
 have st:Step (bO s H) (bO s H) w w':=Step.dE (t.mono fun i hi=>.inr hi)
 exact ⟨⟨h.both.odd t h.fx (Hv h0) h.home,⟨a,cp,h1,h2.step (Step.dE (t.mono fun i hi=>.inl (.inr hi)))⟩,h.fx,h.home⟩,st⟩
theorem tx {w:World} {s:Nat} {a b c d e f g h:Value} {t:TypeId} (H:w.heap[s]? = some (.cells #[a,b,c,d,e,f,g,h] t (0,0))):w.cell? ⟨s,0,none⟩=some a∧w.cell? ⟨s,1,none⟩=some b∧w.cell? ⟨s,2,none⟩=some c∧w.cell? ⟨s,3,none⟩=some d∧w.cell? ⟨s,4,none⟩=some e∧w.cell? ⟨s,5,none⟩=some f∧w.cell? ⟨s,6,none⟩=some g∧w.cell? ⟨s,7,none⟩=some h ∧ ∀ i,w.frozen? ⟨s,i,none⟩=false :=
 ⟨cell_of H 0,cell_of H 1,cell_of H 2,cell_of H 3,cell_of H 4,cell_of H 5,cell_of H 6,cell_of H 7,fun i=>aF H i⟩
theorem Sys.grow {Y:Nat→Prop} {w w':World} {s k c b:Nat} {m:aG} {q:Cache} {S:aA} {H:Nat→Prop} (h:Sys X w s k c b m q S H) (t:Touch X w w') (d : ∀ i,X i → ¬ bO s H i) (hh:0<m.ar.busy.length → ¬ X m.ar.home) (hY : ∀ i,Y i→X i∨(w.heap.size≤i∧i<w'.heap.size)):Sys Y w' s k c b m q S H:=by
 obtain ⟨a,cp,h1,h2⟩:=h.st
 refine ⟨h.both.grow t (fun i hx hH=>d i hx (.inl hH)) hh hY,⟨a,cp,t.at h1 (fun hx=>d s hx (.inr rfl)),?_⟩,h.fx,h.home⟩
 have h3:=h2.step (F:=BA X s H) (G:=BA X s H) (Step.dE (t.mono fun i hi=>.inr hi))
 exact ⟨h3.at_,fun x o f e h0 hy=>hy.elim (fun hm=>h2.fx x o f e h0 (.inl hm)) (fun hy=>(hY x hy).elim (fun hx=>h2.fx x o f e h0 (.inr hx)) (fun hl=>by have:=h2.lt x o f e h0;omega))⟩
def Lg (w:World) (s:Nat) (c d e f g h:Value):World:=(((((w.setCell ⟨s,2,none⟩ c).setCell ⟨s,3,none⟩ d).setCell ⟨s,4,none⟩ e).setCell ⟨s,5,none⟩ f).setCell ⟨s,6,none⟩ g).setCell ⟨s,7,none⟩ h
theorem EK (w:World) (s:Nat) (c d e f g h:Value):Touch (aN s) w (Lg w s c d e f g h) :=
 ((((((Touch.refl (aN s) w).set s 2 c rfl).set s 3 d rfl).set s 4 e rfl).set s 5 f rfl).set s 6 g rfl).set s 7 h rfl
theorem Lh {w:World} {s:Nat} {a b c0 d0 e0 f0 g0 h0:Value} {t:TypeId} (hh:w.heap[s]? = some (.cells #[a,b,c0,d0,e0,f0,g0,h0] t (0,0))) (c d e f g h:Value):(Lg w s c d e f g h).heap[s]? = some (.cells #[a,b,c,d,e,f,g,h] t (0,0)) :=
 az (i:=7) (v:=h) (az (i:=6) (v:=g) (az (i:=5) (v:=f) (az (i:=4) (v:=e) (az (i:=3) (v:=d) (az (i:=2) (v:=c) hh)))))
theorem Sys.store {w:World} {s k c b:Nat} {m:aG} {q:Cache} {S:aA} {H:Nat→Prop} (h:Sys X w s k c b m q S H) (S':aA) (a:Option Addr) (cp:Nat) (hr:dV w a cp S'.view.aB (BA X s H)):Sys X (Lg w s (.bool S'.opened) (.int .i64 S'.au) (.bool S'.view.bI) (.int .i64 S'.view.ak) (.slice a S'.view.aB.length cp) (.int .i64 S'.view.free)) s k c b m q S' H∧Step (bO s H) (bO s H) w (Lg w s (.bool S'.opened) (.int .i64 S'.au) (.bool S'.view.bI) (.int .i64 S'.view.ak) (.slice a S'.view.aB.length cp) (.int .i64 S'.view.free)):=by
 obtain ⟨a0,cp0,h1,_⟩:=h.st
 exact h.put (EK _ _ _ _ _ _ _ _) (Lh h1 _ _ _ _ _ _) hr
def Av (X:Nat→Prop) (v:Value) (s k c b:Nat) (m:aG) (q:Cache) (S:aA) (H:Nat→Prop) (w:World) (e:Ending) (w':World):Prop:=e=.returned v ∧ ∃ H',Sys X w' s k c b m q S H'∧Step (bO s H) (bO s H') w w'
theorem nm (s k c b:Nat) (m:aG) (q:Cache) (S:aA) (H:Nat→Prop) (er:Int) (w:World) (h:Sys X w s k c b m q S H):Calls prog 88 #[.pointer (some ⟨s,0,none⟩),.int .i64 er] w (Av X (.int .i64 er) s k c b m q shut H w):=by
 obtain ⟨a,cp,h1,h2⟩:=h.st
 have H0:=zH (zA h h1)
 obtain ⟨c0,c1,c2,c3,c4,c5,c6,c7,cf⟩:=tx h1
 clear h h1 h2
 go_enter func88,ntmps88
 go_wp2
 go_ret
 obtain ⟨h1,h2⟩:=H0.out.1.store shut none 0 (dV.nil _ _)
 exact ⟨rfl,H,h1,h2⟩
theorem oS (s k c b:Nat) (m:aG) (q:Cache) (S:aA) (H:Nat→Prop) (sec:Int) (V:bj) (va:Option Addr) (vc:Nat) (w:World) (h:Sys X w s k c b m q S H) (hv:dV w va vc V.aB (BA X s H)):Calls prog 92 #[.pointer (some ⟨s,0,none⟩),.int .i64 sec,.agg #[.bool V.bI,.int .i64 V.ak,.slice va V.aB.length vc,.int .i64 V.free]] w (Av X (.tuple #[]) s k c b m q ⟨true,sec,V⟩ H w):=by
 obtain ⟨a,cp,h1,h2⟩:=h.st
 have H0:=zH (zA h (zA h1 hv))
 obtain ⟨c0,c1,c2,c3,c4,c5,c6,c7,cf⟩:=tx h1
 have hs:s<w.heap.size:=aO h1
 clear h h1 h2 hv
 go_enter func92,ntmps92
 go_upto_region 1 with fail
 have e0:=af w (.cells #[.bool V.bI,.int .i64 V.ak,.slice va V.aB.length vc,.int .i64 V.free] 52)
 obtain ⟨b0,b1,b2,b3,bf⟩:=ck e0
 have HN:=zH (ae (Below.refl w.heap.size w) (.cells #[.bool V.bI,.int .i64 V.ak,.slice va V.aB.length vc,.int .i64 V.free] 52))
 have d2:=(HN.out.cell (p:=⟨s,2,none⟩) hs).trans c2
 have d3:=(HN.out.cell (p:=⟨s,3,none⟩) hs).trans c3
 have d4:=(HN.out.cell (p:=⟨s,4,none⟩) hs).trans c4
 have d5:=(HN.out.cell (p:=⟨s,5,none⟩) hs).trans c5
 have d6:=(HN.out.cell (p:=⟨s,6,none⟩) hs).trans c6
 have d7:=(HN.out.cell (p:=⟨s,7,none⟩) hs).trans c7
 have df:=fun i=>aF (aa HN.out H0.out.2.1) i
 have hgs:w.heap.size≠s:=by omega
 have hsg:s≠w.heap.size:=by omega
 clear c0 c1 c2 c3 c4 c5 c6 c7 cf e0 hs
 have H1:=zH (zA (H0.out.1.aj HN.out) (zA (H0.out.2.2.step (F:=BA X s H) (G:=BA X s H) (Step.ah HN.out)) (show Step (bO s H) (bO s H) w _ from Step.ah HN.out)))
 clear H0 HN
 generalize w.heap.size=g at *
 generalize w.alloc (.cells #[.bool V.bI,.int .i64 V.ak,.slice va V.aB.length vc,.int .i64 V.free] 52)=w2 at *
 go_region_held3 (fun w'=>w'.cell? ⟨g,0,none⟩=some (.bool V.bI)∧w'.cell? ⟨g,1,none⟩=some (.int .i64 V.ak)∧w'.cell? ⟨g,2,none⟩=some (.slice va V.aB.length vc)∧w'.cell? ⟨g,3,none⟩=some (.int .i64 V.free)) (go_keep) (fail)
 go_end0
 obtain ⟨h1,h2⟩:=H1.out.1.store ⟨true,sec,V⟩ va vc H1.out.2.1
 exact ⟨rfl,H,h1.aj (av zR),H1.out.2.2.trans (h2.trans (Step.ah (av zR)))⟩
theorem xN (k c b:Nat) (m:aG) (q:Cache) (H:Nat→Prop) (w:World) (h:fz X w k c b m q H) (hh:0<m.ar.busy.length→m.ar.home<w.heap.size):Calls prog 69 #[.pointer (some ⟨k,0,none⟩),.pointer (some ⟨b,0,none⟩)] w fun e w' => ∃ s,e=.returned (.tuple #[.pointer (some ⟨s,0,none⟩),.int .i64 0])∧Sys X w' s k c b m q shut H∧Below w.heap.size w w'∧w.heap.size≤s:=by
 have H0:=zH (zA h hh)
 clear h hh
 go_enter func69,ntmps69
 go_wp2
 go_ret2
 exact ⟨w.heap.size,rfl,⟨H0.out.1.aj (ae zR _),⟨none,0,af _ _,dV.nil _ _⟩,fun hH=>by have:=H0.out.1.lt _ hH;omega,fun hl=>by have:=H0.out.2 hl;omega⟩,ae zR _,Nat.le_refl _⟩
def cR (S:aA) (key:ByteArray):Int:=if S.opened=false then 2302 else if 1≤key.size∧key.size≤6 then 0 else 2300
theorem oy (s k c b:Nat) (m:aG) (q:Cache) (S:aA) (H:Nat→Prop) (key:ByteArray) (w:World) (h:Sys X w s k c b m q S H):Calls prog 93 #[.pointer (some ⟨s,0,none⟩),.string key] w fun e w'=>e=.returned (.int .i64 (cR S key))∧w=w':=by
 obtain ⟨a,cp,h1,h2⟩:=h.st
 obtain ⟨c0,c1,c2,c3,c4,c5,c6,c7,cf⟩:=tx h1
 have HK:=zH (fun w=>r7 key w)
 clear h h1 h2 c0 c1 c3 c4 c5 c6 c7 cf
 unfold cR
 cases ho:S.opened with
 | false =>
  rw [ho] at c2
  rw [if_pos rfl]
  go_enter func93,ntmps93
  go_wp2
  go_ret
  exact ⟨rfl,rfl⟩
 | true =>
  rw [ho] at c2
  rw [if_neg (by decide)]
  by_cases hk:1≤key.size∧key.size≤6
  ·
   rw [if_pos hk]
   rw [show (decide (1≤key.size)&&decide (key.size≤6))=true by simp [hk.1,hk.2]] at HK
   clear hk
   go_enter func93,ntmps93
   go_wp2_with fail
   refine (HK.out _).mono ?_
   rintro e w1 ⟨rfl,rfl⟩
   go_wp2
   go_ret
   exact ⟨rfl,rfl⟩
  ·
   rw [if_neg hk]
   rw [show (decide (1≤key.size)&&decide (key.size≤6))=false by rw [Bool.and_eq_false_iff];simp only [decide_eq_false_iff_not];omega] at HK
   clear hk
   go_enter func93,ntmps93
   go_wp2_with fail
   refine (HK.out _).mono ?_
   rintro e w1 ⟨rfl,rfl⟩
   go_wp2
   go_ret
   exact ⟨rfl,rfl⟩
end
section
open Go.RowKit
variable {X:Nat→Prop}
theorem oW (m:aG):bH m m.dW.1:=by
 unfold aG.dW
 split
 ·
  exact (cP _ _ _ _ _).trans (cP _ _ _ _ _)
 ·
  exact cP _ _ _ _ _
theorem oJ (m:aG) (p n:Int):bH m (m.cS p n).1:=by
 unfold aG.cS
 split <;> exact cP _ _ _ _ _
theorem xX : ∀ (k:Nat) (n:Int) (m:aG),bH m (aG.gM k n m).1
 | 0,n,m=>bH.refl m
 | k+1,n,m=>by
  unfold aG.gM
  split
  ·
   exact kT m
  ·
   split
   ·
    exact kT m
   ·
    exact (kT m).trans (xX k _ _)
theorem qF (m:aG) (p:Int) (s:ByteArray):bH m (m.gV p s).1:=by
 unfold aG.gV
 split
 ·
  exact cP _ _ _ _ _
 ·
  split
  ·
   exact (cP _ _ _ _ _).trans (cP _ _ _ _ _)
  ·
   exact ((cP _ _ _ _ _).trans (cP _ _ _ _ _)).trans (xX _ _ _)
theorem ng (m:aG) (p:Int) (s:ByteArray):bH m (m.ef p s).1:=by
 unfold aG.ef
 split
 ·
  exact qF _ _ _
 ·
  exact (qF _ _ _).trans (qF _ _ _)
theorem D7 (m:aG) (p:Int) (n:Nat) (h:(m.cS p n).2.2=0):(m.cS p n).2.1.size=n:=by
 unfold aG.cS at h ⊢
 split at h
 ·
  rename_i he
  rw [if_pos he,fe,nH (by omega) he];omega
 ·
  rename_i he
  exact absurd h he
theorem Sys.wm {w:World} {s k c b:Nat} {m:aG} {q:Cache} {S:aA} {H:Nat→Prop} (h:Sys X w s k c b m q S H) : ∃ G,bS X w k c m G ∧ ∀ w' m' G',bS X w' k c m' G'→Step G G' w w'→bH m m' → ∃ H',Sys X w' s k c b m' q S H'∧Step H H' w w':=by
 obtain ⟨G,hc,hw,hH,hh⟩:=h.both.ex
 refine ⟨G,hc,fun w' m' G' hc' st hm => ?_⟩
 have stH:=Step.both st hH (fun i=>Iff.rfl)
 exact ⟨_,h.step (fz.wm hw hh hm hc' st) stH hm,stH⟩
def qZ (X:Nat→Prop) (s k c b:Nat) (m:aG) (q:Cache) (S:aA) (H:Nat→Prop) (w w':World):Prop := ∃ H',Sys X w' s k c b m q S H'∧Step H H' w w'
theorem Ia (s k c b:Nat) (m:aG) (q:Cache) (S:aA) (H:Nat→Prop) (w:World) (h:Sys X w s k c b m q S H) (ok:m.Ok) (kn:m.kM):Calls prog 123 #[.pointer (some ⟨k,0,none⟩)] w fun e w'=>(∃ x y z,e=.returned (.tuple #[.int .i64 x,.int .i64 y,.int .i64 z,.int .i64 m.dW.2]))∧qZ X s k c b m.dW.1 q S H w w':=by
 obtain ⟨G,hc,hk⟩:=h.wm
 refine (CT k c m G w hc ok kn).mono ?_
 rintro e w' ⟨he,G',hc',st⟩
 exact ⟨he,hk _ _ _ hc' st (oW m)⟩
theorem HU (s k c b:Nat) (m:aG) (q:Cache) (S:aA) (H:Nat→Prop) (p:Int) (n:Nat) (w:World) (h:Sys X w s k c b m q S H) (ok:m.Ok) (h0:1≤n) (h1:n≤512) (h2:0≤p) (h3:p≤4096 - n):Calls prog 124 #[.pointer (some ⟨k,0,none⟩),.int .i64 p,.int .i64 n] w fun e w'=>e=.returned (.tuple #[.string (m.cS p n).2.1,.int .i64 (m.cS p n).2.2])∧qZ X s k c b (m.cS p n).1 q S H w w':=by
 obtain ⟨G,hc,hk⟩:=h.wm
 refine (B0 k c m G p n w hc ok h0 h1 h2 h3).mono ?_
 rintro e w' ⟨he,G',hc',st⟩
 exact ⟨he,hk _ _ _ hc' st (oJ m p n)⟩
theorem JX (s k c b:Nat) (m:aG) (q:Cache) (S:aA) (H:Nat→Prop) (p:Int) (t:ByteArray) (w:World) (h:Sys X w s k c b m q S H) (ok:m.Ok) (h0:2048≤p) (h1:p≤4032) (hp:p % 32=0) (hs:t.size=64):Calls prog 132 #[.pointer (some ⟨k,0,none⟩),.int .i64 p,.string t] w fun e w'=>e=.returned (.int .i64 (m.ef p t).2)∧qZ X s k c b (m.ef p t).1 q S H w w':=by
 obtain ⟨G,hc,hk⟩:=h.wm
 refine (DP k c m G p t w hc ok h0 h1 hp hs).mono ?_
 rintro e w' ⟨he,G',hc',st⟩
 exact ⟨he,hk _ _ _ hc' st (ng m p t)⟩
def Au (s k c b:Nat) (m:aG) (q:Cache) (S:aA) (out:List Int) (er:Int) (H:Nat→Prop) (w:World) (e:Ending) (w':World):Prop :=
 ∃ v,e=.returned (.tuple #[v,.int .i64 er])∧(er≠0→v=.slice none 0 0) ∧ ∃ H',Sys (fun _=>False) w' s k c b m q S H'∧Step H H' w w'∧(er=0→w'.ownsRow w.heap.size 3 1 v out.length (aD out) ∧ ∀ g,v.ownBlock=some g → ¬ H' g)
theorem J2 (s k c b cap:Nat) (m:aG) (q:Cache) (S:aA) (H:Nat→Prop) (sec:Int) (a:Option Addr) (reads:List Int) (w:World) (h:Sys (fun _=>False) w s k c b m q S H) (ok:m.Ok) (hi:aP w a reads H) (hcap:reads.length≤cap) (hh:0<m.ar.busy.length→m.ar.home<w.heap.size) (hr:dd reads=true) (s0:4≤sec) (s1:sec<8):Calls prog 90 #[.pointer (some ⟨k,0,none⟩),.pointer (some ⟨b,0,none⟩),.int .i64 sec,.slice a reads.length cap] w (Au s k c b (gN m (sec * 512) reads).1 (gN m (sec * 512) reads).2.1 S (gN m (sec * 512) reads).2.2.1 (gN m (sec * 512) reads).2.2.2 H w):=by
 refine (Fa k c b cap m q sec a reads H w h.both ok hi hcap hh hr s0 s1).mono ?_
 rintro e w' ⟨v,he,H',hb,st,h1,h2⟩
 exact ⟨v,he,h1,H',h.step hb st (sJ ok _ (by omega) (by omega) reads (fun x hx=>by have:=(ja hr).2 x hx;omega)).2.2,st,h2⟩
theorem Lr (s k c b cap:Nat) (m:aG) (q:Cache) (S:aA) (H:Nat→Prop) (a:Option Addr) (reads:List Int) (w:World) (h:Sys (fun _=>False) w s k c b m q S H) (ok:m.Ok) (g:q.Good) (hi:aP w a reads H) (hcap:reads.length≤cap) (hh:0<m.ar.busy.length→m.ar.home<w.heap.size) (hr:dd reads=true):Calls prog 174 #[.pointer (some ⟨b,0,none⟩),.slice a reads.length cap] w (Au s k c b (dG reads [] m q).1 (dG reads [] m q).2.1 S (dG reads [] m q).2.2.1 (dG reads [] m q).2.2.2 H w):=by
 refine (yz k c b cap m q a reads H w h.both ok g hi hcap hh (fun x hx=>by have:=(ja hr).2 x hx;omega) (ja hr).1).mono ?_
 rintro e w' ⟨v,he,H',hb,st,h1,h2⟩
 exact ⟨v,he,h1,H',h.step hb st (se reads [] m q ok g (fun x hx=>((ja hr).2 x hx).1)).2.2,st,h2⟩
end
section
open Go.RowKit
variable {X:Nat→Prop}
def cj (sec slot:Int):Int:=sec * 512+slot * 64
theorem tP (s k c b:Nat) (m:aG) (q:Cache) (S:aA) (H:Nat→Prop) (sec slot:Int) (r:aT) (w:World) (h:Sys X w s k c b m q S H) (ok:m.Ok) (s0:4≤sec) (s1:sec<8) (l0:0≤slot) (l1:slot<8) (hr:bF r=true):Calls prog 91 #[.pointer (some ⟨s,0,none⟩),.int .i64 sec,.int .i64 slot,.agg r.cells] w fun e w'=>e=.returned (.int .i64 (m.ef (cj sec slot) (aL r)).2)∧qZ X s k c b (m.ef (cj sec slot) (aL r)).1 q S H w w':=by
 have HP:=zH (fun w=>r9 r w)
 rw [show ix r=some (aL r) from if_pos hr] at HP
 have hsz:(aL r).size=64:=by
  unfold aL
  rw [fb,dp _ _ (gk hr)]
 have HB:=zH (fun w (h:Sys X w s k c b m q S H)=>JX s k c b m q S H (cj sec slot) (aL r) w h ok (by unfold cj;omega) (by unfold cj;omega) (by unfold cj;omega) hsz)
 have e1:wrap64 (sec * 512)=sec * 512:=by unfold wrap64;omega
 have e2:wrap64 (slot * 64)=slot * 64:=by unfold wrap64;omega
 have e3:wrap64 (sec * 512+slot * 64)=sec * 512+slot * 64:=by unfold wrap64;omega
 have H0:=zH h
 generalize hX:m.ef (cj sec slot) (aL r)=br at *
 generalize hT:aL r=t at *
 unfold cj at HB
 rw [show pL (some t) 1900=.tuple #[.string t,.int .i64 0] from rfl] at HP
 clear h hr hX hT ok
 unfold aT.cells at HP ⊢
 go_enter func91,ntmps91
 go_wp2_with fail
 refine (HP.out _).mono ?_
 rintro e w1 ⟨rfl,hb⟩
 have H1:=zH (gtr (ae (Below.refl _ w) (.cells #[.int .i64 r.kind,.int .i64 r.ak,.string r.key,.string r.value] 74)) hb)
 have H2:=zH (H0.out.aj H1.out)
 obtain ⟨a,cp,h1,h2⟩:=H2.out.st
 obtain ⟨c0,c1,c2,c3,c4,c5,c6,c7,cf⟩:=tx h1
 clear h1 h2 hb c1 c2 c3 c4 c5 c6 c7
 go_wp2_with fail
 refine (HB.out _ H2.out).mono ?_
 rintro e w2 ⟨rfl,H',hs,st⟩
 have H3:=zH (zA hs ((Step.ah H1.out).trans st))
 clear hs st
 go_wp2
 go_ret
 exact ⟨rfl,H',H3.out⟩
end
end Go.Proofs.YtcfdenckiigdaaaGreat

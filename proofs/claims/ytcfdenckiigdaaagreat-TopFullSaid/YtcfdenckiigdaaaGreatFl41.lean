/- Part 41 of the contracts. -/
import Derived.Test.YtcfdenckiigdaaaGreatFl37
import Derived.Test.YtcfdenckiigdaaaGreatFl40
set_option linter.unusedVariables false
set_option maxRecDepth 100000
set_option maxHeartbeats 4000000
namespace Go.Proofs.YtcfdenckiigdaaaGreat
open Tryz
section
open Go.RowKit
def rJ (x:cd):Bool:=cJ 0 7 [x.kind]&&qN x&&qc x&&cJ 0 4095 [x.at_]&&cJ 0 8 [x.width]&&cJ 0 65535 [x.cm]&&cJ 1 400 x.busy&&cJ 0 4095 x.reads
theorem Ml {w:World} {g:Nat} {x:Int} (h:w.cell? ⟨g,0,none⟩=some (.int .i64 x)):aU w (some ⟨g,0,none⟩) [x]:=aU.of fun i hi=>by
 have hi:i<1:=hi
 obtain rfl:i=0:=by omega
 exact h
theorem lS (l u:Int) (g:Nat) (x:Int) (w:World) (h:w.cell? ⟨g,0,none⟩=some (.int .i64 x)):Calls prog 51 #[.int .i64 l,.int .i64 u,.slice (some ⟨g,0,none⟩) 1 1] w fun e w'=>e=.returned (.bool (cJ l u [x]))∧w=w' :=
 l6 l u _ _ [x] w (Ml h) (by show 1≤_;decide)
theorem Hg (x:cd) (ba:Option Addr) (bc:Nat) (ra:Option Addr) (rc:Nat) (w:World) (hb:aU w ba x.busy) (hr:aU w ra x.reads) (lb:x.busy.length≤4611686018427387904) (lr:x.reads.length≤4611686018427387904):Calls prog 29 #[.agg (x.row ba bc ra rc)] w fun e w'=>e=.returned (.bool (rJ x))∧Below w.heap.size w w':=by
 have hbW:=ae (Below.refl w.heap.size w) (.cells (x.row ba bc ra rc) 31)
 have e0:fV (w.alloc (.cells (x.row ba bc ra rc) 31)) w.heap.size x ba bc ra rc:=af _ _
 have HD:=zH (fun w' (h:Below (w.alloc (.cells (x.row ba bc ra rc) 31)).heap.size (w.alloc (.cells (x.row ba bc ra rc) 31)) w')=>(show fV w' w.heap.size x ba bc ra rc from aa h e0))
 have HI:=zH (fun w' (h:Below w.heap.size w w')=>zA (hb.aj h) (hr.aj h))
 have HL:=zH (zA lb lr)
 have HBW:=zH hbW
 have hrow:x.row ba bc ra rc = #[.int .i64 x.kind,.string x.key,.string x.value,.int .i64 x.at_,.int .i64 x.width,.int .i64 x.cm,.string x.mask,.slice ba x.busy.length bc,.slice ra x.reads.length rc]:=rfl
 clear e0 hbW hb hr lb lr
 rw [hrow] at HD HBW ⊢
 clear hrow
 have HM:=zH (show rJ x=(cJ 0 7 [x.kind]&&qN x&&qc x&&cJ 0 4095 [x.at_]&&cJ 0 8 [x.width]&&cJ 0 65535 [x.cm]&&cJ 1 400 x.busy&&cJ 0 4095 x.reads) from rfl)
 have H1:=zH (fun g w h=>lS 0 7 g x.kind w h)
 have H2:=zH (fun w' (h:fV w' w.heap.size x ba bc ra rc)=>Dh w.heap.size x ba bc ra rc w' h)
 have H3:=zH (fun w' (h:fV w' w.heap.size x ba bc ra rc)=>Et w.heap.size x ba bc ra rc w' h)
 have H4:=zH (fun g w h=>lS 0 4095 g x.at_ w h)
 have H5:=zH (fun g w h=>lS 0 8 g x.width w h)
 have H6:=zH (fun g w h=>lS 0 65535 g x.cm w h)
 generalize hW:w.alloc (.cells #[.int .i64 x.kind,.string x.key,.string x.value,.int .i64 x.at_,.int .i64 x.width,.int .i64 x.cm,.string x.mask,.slice ba x.busy.length bc,.slice ra x.reads.length rc] 31)=W at HD HBW
 have H7:=zH (fun w' (hb:Below W.heap.size W w')=>l6 1 400 ba bc x.busy w' (HI.out w' (gtr HBW.out hb)).1 HL.out.1)
 have H8:=zH (fun w' (hb:Below W.heap.size W w')=>l6 0 4095 ra rc x.reads w' (HI.out w' (gtr HBW.out hb)).2 HL.out.2)
 replace HD:=zH (fun w' (h:Below W.heap.size W w')=>have e:=HD.out w' h;zA e (zA (show w'.cell? ⟨w.heap.size,3,none⟩=some (.int .i64 x.at_) from cell_of e 3) (zA (show w'.cell? ⟨w.heap.size,4,none⟩=some (.int .i64 x.width) from cell_of e 4) (zA (show w'.cell? ⟨w.heap.size,5,none⟩=some (.int .i64 x.cm) from cell_of e 5) (zA (show w'.cell? ⟨w.heap.size,7,none⟩=some (.slice ba x.busy.length bc) from cell_of e 7) (show w'.cell? ⟨w.heap.size,8,none⟩=some (.slice ra x.reads.length rc) from cell_of e 8))))))
 have c0:W.cell? ⟨w.heap.size,0,none⟩=some (.int .i64 x.kind):=cell_of (HD.out W zR).1 0
 generalize cJ 0 7 [x.kind]=b1 at *
 generalize qN x=b2 at *
 generalize qc x=b3 at *
 generalize cJ 0 4095 [x.at_]=b4 at *
 generalize cJ 0 8 [x.width]=b5 at *
 generalize cJ 0 65535 [x.cm]=b6 at *
 generalize cJ 1 400 x.busy=b7 at *
 generalize cJ 0 4095 x.reads=b8 at *
 go_enter func29,ntmps29
 go_upto_region 1 with fail
 try rw [hW]
 clear hW
 cases b1 with
 | false =>
  go_wp2_with (first
   | (go_at_call 51;(with_reducible refine Calls.mono (H1.out _ _ ?_) ?_);exact cell_of (af W _) 0;rintro e w1 ⟨rfl,he⟩;have hb1:Below W.heap.size W w1:=(by rw [← he];exact ae zR _);clear he))
  go_ret
  rw [HM.out]
  exact ⟨by simp,gtr HBW.out hb1⟩
 | true =>
  cases b2 with
  | false =>
   go_wp2_with (first
    | (go_at_call 51;(with_reducible refine Calls.mono (H1.out _ _ ?_) ?_);exact cell_of (af W _) 0;rintro e w1 ⟨rfl,he⟩;have hb1:Below W.heap.size W w1:=(by rw [← he];exact ae zR _);clear he)
    | (go_at_call 52;refine (H2.out w1 (HD.out w1 hb1).1).mono ?_;rintro e wx ⟨rfl,rfl⟩))
   go_ret
   rw [HM.out]
   exact ⟨by simp,gtr HBW.out hb1⟩
  | true =>
   cases b3 with
   | false =>
    go_wp2_with (first
     | (go_at_call 51;(with_reducible refine Calls.mono (H1.out _ _ ?_) ?_);exact cell_of (af W _) 0;rintro e w1 ⟨rfl,he⟩;have hb1:Below W.heap.size W w1:=(by rw [← he];exact ae zR _);clear he)
     | (go_at_call 52;refine (H2.out w1 (HD.out w1 hb1).1).mono ?_;rintro e wx ⟨rfl,rfl⟩)
     | (go_at_call 53;refine (H3.out w1 (HD.out w1 hb1).1).mono ?_;rintro e w3 ⟨rfl,hb⟩;have hb3:=gtr hb1 hb;have c3:=(HD.out w3 hb3).2.1;clear hb))
    go_ret
    rw [HM.out]
    exact ⟨by simp,gtr HBW.out hb3⟩
   | true =>
    cases b4 with
    | false =>
     go_wp2_with (first
      | (go_at_call 51;(with_reducible refine Calls.mono (H1.out _ _ ?_) ?_);exact cell_of (af W _) 0;rintro e w1 ⟨rfl,he⟩;have hb1:Below W.heap.size W w1:=(by rw [← he];exact ae zR _);clear he)
      | (go_at_call 52;refine (H2.out w1 (HD.out w1 hb1).1).mono ?_;rintro e wx ⟨rfl,rfl⟩)
      | (go_at_call 53;refine (H3.out w1 (HD.out w1 hb1).1).mono ?_;rintro e w3 ⟨rfl,hb⟩;have hb3:=gtr hb1 hb;have c3:=(HD.out w3 hb3).2.1;clear hb)
      | (go_at_call 51;(with_reducible refine Calls.mono (H4.out _ _ ?_) ?_);exact cell_of (af w3 _) 0;rintro e w4 ⟨rfl,he⟩;have hb4:Below W.heap.size W w4:=(by rw [← he];exact ae hb3 _);have c4:=(HD.out w4 hb4).2.2.1;clear he))
     go_ret
     rw [HM.out]
     exact ⟨by simp,gtr HBW.out hb4⟩
    | true =>
     cases b5 with
     | false =>
      go_wp2_with (first
       | (go_at_call 51;(with_reducible refine Calls.mono (H1.out _ _ ?_) ?_);exact cell_of (af W _) 0;rintro e w1 ⟨rfl,he⟩;have hb1:Below W.heap.size W w1:=(by rw [← he];exact ae zR _);clear he)
       | (go_at_call 52;refine (H2.out w1 (HD.out w1 hb1).1).mono ?_;rintro e wx ⟨rfl,rfl⟩)
       | (go_at_call 53;refine (H3.out w1 (HD.out w1 hb1).1).mono ?_;rintro e w3 ⟨rfl,hb⟩;have hb3:=gtr hb1 hb;have c3:=(HD.out w3 hb3).2.1;clear hb)
       | (go_at_call 51;(with_reducible refine Calls.mono (H4.out _ _ ?_) ?_);exact cell_of (af w3 _) 0;rintro e w4 ⟨rfl,he⟩;have hb4:Below W.heap.size W w4:=(by rw [← he];exact ae hb3 _);have c4:=(HD.out w4 hb4).2.2.1;clear he)
       | (go_at_call 51;(with_reducible refine Calls.mono (H5.out _ _ ?_) ?_);exact cell_of (af w4 _) 0;rintro e w5 ⟨rfl,he⟩;have hb5:Below W.heap.size W w5:=(by rw [← he];exact ae hb4 _);have c5:=(HD.out w5 hb5).2.2.2.1;clear he))
      go_ret
      rw [HM.out]
      exact ⟨by simp,gtr HBW.out hb5⟩
     | true =>
      cases b6 with
      | false =>
       go_wp2_with (first
        | (go_at_call 51;(with_reducible refine Calls.mono (H1.out _ _ ?_) ?_);exact cell_of (af W _) 0;rintro e w1 ⟨rfl,he⟩;have hb1:Below W.heap.size W w1:=(by rw [← he];exact ae zR _);clear he)
        | (go_at_call 52;refine (H2.out w1 (HD.out w1 hb1).1).mono ?_;rintro e wx ⟨rfl,rfl⟩)
        | (go_at_call 53;refine (H3.out w1 (HD.out w1 hb1).1).mono ?_;rintro e w3 ⟨rfl,hb⟩;have hb3:=gtr hb1 hb;have c3:=(HD.out w3 hb3).2.1;clear hb)
        | (go_at_call 51;(with_reducible refine Calls.mono (H4.out _ _ ?_) ?_);exact cell_of (af w3 _) 0;rintro e w4 ⟨rfl,he⟩;have hb4:Below W.heap.size W w4:=(by rw [← he];exact ae hb3 _);have c4:=(HD.out w4 hb4).2.2.1;clear he)
        | (go_at_call 51;(with_reducible refine Calls.mono (H5.out _ _ ?_) ?_);exact cell_of (af w4 _) 0;rintro e w5 ⟨rfl,he⟩;have hb5:Below W.heap.size W w5:=(by rw [← he];exact ae hb4 _);have c5:=(HD.out w5 hb5).2.2.2.1;clear he)
        | (go_at_call 51;(with_reducible refine Calls.mono (H6.out _ _ ?_) ?_);exact cell_of (af w5 _) 0;rintro e w6 ⟨rfl,he⟩;have hb6:Below W.heap.size W w6:=(by rw [← he];exact ae hb5 _);have c7:=(HD.out w6 hb6).2.2.2.2.1;have c8:=(HD.out w6 hb6).2.2.2.2.2;clear he))
       go_ret
       rw [HM.out]
       exact ⟨by simp,gtr HBW.out hb6⟩
      | true =>
       cases b7 with
       | false =>
        go_wp2_with (first
         | (go_at_call 51;(with_reducible refine Calls.mono (H1.out _ _ ?_) ?_);exact cell_of (af W _) 0;rintro e w1 ⟨rfl,he⟩;have hb1:Below W.heap.size W w1:=(by rw [← he];exact ae zR _);clear he)
         | (go_at_call 52;refine (H2.out w1 (HD.out w1 hb1).1).mono ?_;rintro e wx ⟨rfl,rfl⟩)
         | (go_at_call 53;refine (H3.out w1 (HD.out w1 hb1).1).mono ?_;rintro e w3 ⟨rfl,hb⟩;have hb3:=gtr hb1 hb;have c3:=(HD.out w3 hb3).2.1;clear hb)
         | (go_at_call 51;(with_reducible refine Calls.mono (H4.out _ _ ?_) ?_);exact cell_of (af w3 _) 0;rintro e w4 ⟨rfl,he⟩;have hb4:Below W.heap.size W w4:=(by rw [← he];exact ae hb3 _);have c4:=(HD.out w4 hb4).2.2.1;clear he)
         | (go_at_call 51;(with_reducible refine Calls.mono (H5.out _ _ ?_) ?_);exact cell_of (af w4 _) 0;rintro e w5 ⟨rfl,he⟩;have hb5:Below W.heap.size W w5:=(by rw [← he];exact ae hb4 _);have c5:=(HD.out w5 hb5).2.2.2.1;clear he)
         | (go_at_call 51;(with_reducible refine Calls.mono (H6.out _ _ ?_) ?_);exact cell_of (af w5 _) 0;rintro e w6 ⟨rfl,he⟩;have hb6:Below W.heap.size W w6:=(by rw [← he];exact ae hb5 _);have c7:=(HD.out w6 hb6).2.2.2.2.1;have c8:=(HD.out w6 hb6).2.2.2.2.2;clear he)
         | (go_at_call 51;(with_reducible refine (H7.out w6 hb6).mono ?_);rintro e wx ⟨rfl,rfl⟩))
        go_ret
        rw [HM.out]
        exact ⟨by simp,gtr HBW.out hb6⟩
       | true =>
        go_wp2_with (first
         | (go_at_call 51;(with_reducible refine Calls.mono (H1.out _ _ ?_) ?_);exact cell_of (af W _) 0;rintro e w1 ⟨rfl,he⟩;have hb1:Below W.heap.size W w1:=(by rw [← he];exact ae zR _);clear he)
         | (go_at_call 52;refine (H2.out w1 (HD.out w1 hb1).1).mono ?_;rintro e wx ⟨rfl,rfl⟩)
         | (go_at_call 53;refine (H3.out w1 (HD.out w1 hb1).1).mono ?_;rintro e w3 ⟨rfl,hb⟩;have hb3:=gtr hb1 hb;have c3:=(HD.out w3 hb3).2.1;clear hb)
         | (go_at_call 51;(with_reducible refine Calls.mono (H4.out _ _ ?_) ?_);exact cell_of (af w3 _) 0;rintro e w4 ⟨rfl,he⟩;have hb4:Below W.heap.size W w4:=(by rw [← he];exact ae hb3 _);have c4:=(HD.out w4 hb4).2.2.1;clear he)
         | (go_at_call 51;(with_reducible refine Calls.mono (H5.out _ _ ?_) ?_);exact cell_of (af w4 _) 0;rintro e w5 ⟨rfl,he⟩;have hb5:Below W.heap.size W w5:=(by rw [← he];exact ae hb4 _);have c5:=(HD.out w5 hb5).2.2.2.1;clear he)
         | (go_at_call 51;(with_reducible refine Calls.mono (H6.out _ _ ?_) ?_);exact cell_of (af w5 _) 0;rintro e w6 ⟨rfl,he⟩;have hb6:Below W.heap.size W w6:=(by rw [← he];exact ae hb5 _);have c7:=(HD.out w6 hb6).2.2.2.2.1;have c8:=(HD.out w6 hb6).2.2.2.2.2;clear he)
         | (go_at_call 51;(with_reducible refine (H7.out w6 hb6).mono ?_);rintro e wx ⟨rfl,rfl⟩)
         | (go_at_call 51;(with_reducible refine (H8.out w6 hb6).mono ?_);rintro e wx ⟨rfl,rfl⟩))
        go_ret
        rw [HM.out]
        exact ⟨by simp,gtr HBW.out hb6⟩
end
section
open Go.RowKit
variable {X:Nat→Prop}
theorem bO.ar {w:World} {k c:Nat} {m:aG} {G:Nat→Prop} (h:bO X w k c m G) : ∃ F,aS w c m.ar F∧(∀ i,F i→G i) ∧ ∀ (w':World) (m':ag) (F':Nat→Prop),aS w' c m' F'→Step F F' w w'→(0<m'.busy.length→w.heap.size≤m'.home∨(m'.home=m.ar.home∧0<m.ar.busy.length))→bO X w' k c { m with ar:=m' } (fun i=>G i∨F' i)∧Step G (fun i=>G i∨F' i) w w':=by
 obtain ⟨s,F,rfl,h⟩:=h
 refine ⟨F,h.ar,h.sub,fun w' m' F' hc st hh => ?_⟩
 have hst:Step G (fun i=>G i∨F' i) w w':=⟨st.aH.mono h.sub,fun i hi=>hi.elim .inl fun hf=>(st.ik i hf).imp (h.sub i) id⟩
 refine ⟨⟨s,F',rfl,st.aH.at h.raw h.fB,h.aD,h.left,h.lost,hc,h.leave.step hst,fun hf => ?_,fun b hb=>.inr hb,.inl h.own,fun hl hg => ?_,fun b hb => ?_⟩,hst⟩
 ·
  rcases st.ik k hf with hk | hk
  ·
   exact h.fB hk
  ·
   have:=aP h.raw
   omega
 ·
  rcases hg with hg | hg
  ·
   rcases hh hl with h1 | ⟨h1,h2⟩
   ·
    have:m'.home<w.heap.size:=h.lt _ hg
    omega
   ·
    rw [h1] at hg
    exact h.home h2 hg
  ·
   exact (hc.home hl).2 hg
 ·
  rcases hb with hb | hb
  ·
   exact zV (h.lt b hb) st.aH.size
  ·
   exact hc.lt b hb
theorem Sys.ar {w:World} {s k c b:Nat} {m:aG} {q:Cache} {S:aA} {H:Nat→Prop} (h:Sys X w s k c b m q S H) : ∃ F,aS w c m.ar F∧(∀ i,F i→H i) ∧ ∀ (w':World) (m':ag) (F':Nat→Prop),aS w' c m' F'→Step F F' w w'→(0<m'.busy.length→w.heap.size≤m'.home∨(m'.home=m.ar.home∧0<m.ar.busy.length)) → ∃ H',Sys X w' s k c b { m with ar:=m' } q S H'∧Step H H' w w':=by
 obtain ⟨G,hc,hw,hH,hb⟩:=h.both.ex
 obtain ⟨F,h1,h2,h3⟩:=hc.ar
 refine ⟨F,h1,fun i hi=>(hH i).2 (.inl (h2 i hi)),fun w' m' F' k1 k2 k3 => ?_⟩
 obtain ⟨g1,g2⟩:=h3 w' m' F' k1 k2 k3
 have hlt:=h.lt
 have st:Step H (fun i=>(G i∨F' i)∨i=b) w w':=g2.both hH fun i=>Iff.rfl
 obtain ⟨a,cp,r1,r2⟩:=h.st
 have hb':b<w.heap.size:=h.both.lt b ((hH b).2 (.inr rfl))
 have hs':s<w.heap.size:=aP r1
 refine ⟨_,⟨⟨⟨_,g1,hw.step g2.Mu,fun i=>Iff.rfl,fun hl => ?_⟩⟩,⟨a,cp,st.aH.at r1 h.fB,r2.step st.off⟩,st.safe hs' h.fB,fun hl => ?_⟩,st⟩
 ·
  show m'.home≠b
  rcases k3 hl with e | ⟨e1,e2⟩
  ·
   omega
  ·
   rw [e1];exact hb e2
 ·
  show m'.home≠s
  rcases k3 hl with e | ⟨e1,e2⟩
  ·
   omega
  ·
   rw [e1];exact h.home e2
theorem Gn (p o:Nat) (z y:Int) (w:World) (hc:w.cell? ⟨p,o,none⟩=some (.int .i64 z)) (hz:w.frozen? ⟨p,o,none⟩=false):Calls prog 65 #[.pointer (some ⟨p,o,none⟩),.int .i64 y] w fun e w' => ∃ x:Int,e=.returned (.int .i64 x)∧w'=w.setCell ⟨p,o,none⟩ (.int .i64 x):=by
 have hadd:=run_call_add (P:=prog) func102 (by kernel_rfl) (by kernel_rfl) (by kernel_rfl) .i64 (by kernel_rfl) (y:=y) (s:=IntKind.i64.wrap (z+y)) hc hz (by simp [go_sem])
 generalize IntKind.i64.wrap (z+y)=x at hadd
 go_enter func65,ntmps65
 go_wp2
 go_ret
 exact ⟨x,rfl,rfl⟩
def jF (w:World) (p c:Nat) (ko bo so:Option Addr) (z:Int):Prop:=w.heap[p]? = some (.cells #[.pointer (some ⟨c,0,none⟩),.pointer ko,.pointer bo,.pointer so,.int .i64 z] 94 (0,0))
theorem jF.odd {w:World} {p c:Nat} {ko bo so:Option Addr} {z:Int} (h:jF w p c ko bo so z):L1 w p:=by
 refine ⟨⟨_,cell_of h 0⟩,fun o hf => ?_⟩
 obtain ⟨x,hx⟩:=hf 0 (by omega)
 obtain ⟨y,hy⟩:=hf 1 (by omega)
 have hlt:o+0<5:=by
  unfold World.cell? at hx
  rw [h] at hx
  exact (Array.getElem?_eq_some_iff.1 (show (#[Value.pointer (some ⟨c,0,none⟩),.pointer ko,.pointer bo,.pointer so,.int .i64 z])[o+0]? = some (.int .i64 x) by simpa using hx)).1
 match o,hlt with
 | 0,_=>rw [cell_of h 0] at hx;cases hx
 | 1,_=>rw [cell_of h 1] at hx;cases hx
 | 2,_=>rw [cell_of h 2] at hx;cases hx
 | 3,_=>rw [cell_of h 3] at hx;cases hx
 | 4,_ =>
  have:w.cell? ⟨p,4+1,none⟩=none:=by
   unfold World.cell?
   rw [h]
   rfl
  rw [this] at hy;cases hy
theorem mu {w:World} {g:Nat} {a b c d e:Value} {t:TypeId} (h:w.heap[g]? = some (.cells #[a,b,c,d,e] t (0,0))):w.cell? ⟨g,0,none⟩=some a∧w.cell? ⟨g,1,none⟩=some b∧w.cell? ⟨g,2,none⟩=some c∧w.cell? ⟨g,3,none⟩=some d∧w.cell? ⟨g,4,none⟩=some e ∧ ∀ i,w.frozen? ⟨g,i,none⟩=false :=
 ⟨cell_of h 0,cell_of h 1,cell_of h 2,cell_of h 3,cell_of h 4,fun i=>aF h i⟩
theorem mA.mono {w:World} {b k:Nat} {q:Cache} {F G:Nat→Prop} (h:mA w b k q F) (hG : ∀ i,G i→F i):mA w b k q G:=by
 obtain ⟨ab,ac,tb,tc,h⟩:=h
 exact ⟨ab,ac,tb,tc,h.raw,h.cap,h.a0,h.a1,h.t0,h.t1,⟨fun e=>h.out.1 (hG _ e),fun e=>h.out.2.1 (hG _ e),fun e=>h.out.2.2 (hG _ e)⟩,h.na,h.nt⟩
theorem Touch.qS {F:Nat→Prop} {a b c:World} (h:Touch F a b) (k:Below b.heap.size b c):Touch F a c:=h.trans (Touch.ah k)
theorem Sys.Ll {w w':World} {s k c b p:Nat} {m:aG} {q:Cache} {H:Nat→Prop} (h:Sys X w s k c b m q shut H) (t:Touch (aO p) w w') (hn : ¬ bK s H p) (o:L1 w p) (hh:0<m.ar.busy.length→m.ar.home≠p):Sys X w' s k c b m q shut H:=by
 obtain ⟨a,cp,h1,h2⟩:=h.st
 refine ⟨h.both.odd t (fun e=>hn (.inl e)) o hh,⟨a,cp,t.at h1 (fun e=>hn (.inr (show s=p from e).symm)),⟨?_,fun x o f e h0=>by simp [shut,cH] at h0⟩⟩,h.fB,h.home⟩
 refine ⟨h2.at_.len,?_⟩
 rcases h2.at_.ex with e | ⟨b',o',c',e1,e2,_⟩
 ·
  exact .inl e
 ·
  exact .inr ⟨b',o',c',e1,e2,fun i u hu=>by simp [shut,cH,bp] at hu⟩
def DK (p c:Nat) (m:ag) (F:Nat→Prop) (w:World) (e:Ending) (w':World):Prop :=
 e=.returned (.tuple #[]) ∧ ∃ s k b H z,jF w' p c (some ⟨k,0,none⟩) (some ⟨b,0,none⟩) (some ⟨s,0,none⟩) z∧Sys (fun _=>False) w' s k c b (aG.new m) Cache.new shut H ∧ ¬ bK s H p∧Touch (aO p) w w' ∧ ∀ i,bK s H i→F i∨w.heap.size≤i
theorem lX (p c:Nat) (ko bo so:Option Addr) (z:Int) (m:ag) (F:Nat→Prop) (w:World) (hr:jF w p c ko bo so z) (h:aS w c m F) (hp : ¬ F p) (hbz:m.busy=[]) (hk : ∀ w',Below w.heap.size w w'→Calls prog 66 #[.pointer ko] w' fun e w'' => ∃ x:Int,e=.returned (.int .i64 x)∧w'=w''):Calls prog 35 #[.pointer (some ⟨p,0,none⟩)] w (DK p c m F w):=by
 have hpl:p<w.heap.size:=aP hr
 have hh : ∀ (P:Nat→Prop),0<m.busy.length→P m.home:=fun P hl=>by rw [hbz] at hl;cases hl
 have HH:=zH hh
 have H0:=zH (zA hr (zA h hp))
 have HK:=zH hk
 obtain ⟨c0,c1,c2,c3,c4,cf⟩:=mu hr
 clear hr h hp hbz hk hh
 go_enter func35,ntmps35
 go_upto_region 0 with fail
 go_region_with (first
  | (go_at_call 66;refine (HK.out _ (au zR)).mono ?_;rintro e w1 ⟨x,rfl,rfl⟩)
  | (go_at_call 65;refine (Gn p 4 z _ w.drew c4 (cf 4)).mono ?_;rintro e w1 ⟨y,rfl,rfl⟩))
 have tA:Touch (aO p) w (w.setCell ⟨p,4,none⟩ (.int .i64 y)).drew:=((Touch.refl (aO p) w).set p 4 _ rfl).drew
 have rA:jF (w.setCell ⟨p,4,none⟩ (.int .i64 y)).drew p c ko bo so y:=aa (au zR) (az H0.out.1)
 have hA:=H0.out.2.1.fB tA (fun b hb e=>H0.out.2.2 (by rw [← show b=p from e];exact hb)) (HH.out (fun i => ¬ aO p i))
 have HA:=zH (zA tA (zA rA hA))
 clear c0 c1 c2 c3 c4 cf tA rA hA
 generalize (w.setCell ⟨p,4,none⟩ (.int .i64 y)).drew=wA at *
 obtain ⟨c0,c1,c2,c3,c4,cf⟩:=mu HA.out.2.1
 have HN:=zH (AG c m F wA HA.out.2.2)
 go_upto_region 2 with (go_at_call 67;refine HN.out.mono ?_;rintro e w1 ⟨k,G,rfl,hkl,hc,hG,hb1⟩;obtain ⟨d0,d1,d2,d3,d4,df⟩:=mu (aa hb1 HA.out.2.1))
 have hpA:p<wA.heap.size:=aP HA.out.2.1
 have hnG : ∀ i,aO p i → ¬ G i:=fun i e hi=>by
  rw [show i=p from e] at hi
  rcases hG p hi with h | h
  ·
   exact H0.out.2.2 h
  ·
   omega
 have tB:Touch (aO p) w1 (w1.setCell ⟨p,1,none⟩ (.pointer (some ⟨k,0,none⟩))):=(Touch.refl (aO p) w1).set p 1 _ rfl
 have rB:jF (w1.setCell ⟨p,1,none⟩ (.pointer (some ⟨k,0,none⟩))) p c (some ⟨k,0,none⟩) bo so y:=az (aa hb1 HA.out.2.1)
 have hB:=hc.fB tB hnG (HH.out (fun i => ¬ aO p i)) (fun i e _=>.inl (by rw [show i=p from e];exact jF.odd (aa hb1 HA.out.2.1)))
 have HB:=zH (zA ((HA.out.1.qS hb1).trans tB) (zA rB (zA hB (zA hG (zA hkl hnG)))))
 clear c0 c1 c2 c3 c4 cf d0 d1 d2 d3 d4 df tB rB hB hc hb1 hG hkl hnG
 generalize w1.setCell ⟨p,1,none⟩ (.pointer (some ⟨k,0,none⟩))=wB at *
 obtain ⟨c0,c1,c2,c3,c4,cf⟩:=mu HB.out.2.1
 have HNW:=zH (vm k wB)
 go_upto_region 3 with (go_at_call 68;refine HNW.out.mono ?_;rintro e w2 ⟨b,rfl,hbl,hw,hb2⟩;obtain ⟨d0,d1,d2,d3,d4,df⟩:=mu (aa hb2 HB.out.2.1))
 have hpB:p<wB.heap.size:=aP HB.out.2.1
 have tC:Touch (aO p) w2 (w2.setCell ⟨p,2,none⟩ (.pointer (some ⟨b,0,none⟩))):=(Touch.refl (aO p) w2).set p 2 _ rfl
 have rC:jF (w2.setCell ⟨p,2,none⟩ (.pointer (some ⟨b,0,none⟩))) p c (some ⟨k,0,none⟩) (some ⟨b,0,none⟩) so y:=az (aa hb2 HB.out.2.1)
 have hC0:fD (fun _=>False) w2 k c b (aG.new m) Cache.new (fun i=>G i∨i=b):=⟨⟨G,HB.out.2.2.1.aj hb2,hw.mono (fun i hi=>hi.elim (fun hg=>HB.out.2.2.1.lt i hg) (fun h=>h.elim)),fun i=>Iff.rfl,HH.out (fun i=>i≠b)⟩⟩
 have hnb : ¬ (G p∨p=b):=fun h=>h.elim (fun h=>HB.out.2.2.2.2.2 p rfl h) (fun h=>by omega)
 have hC:=hC0.odd tC hnb (jF.odd (aa hb2 HB.out.2.1)) (HH.out (fun i=>i≠p))
 have HC:=zH (zA ((HB.out.1.qS hb2).trans tC) (zA rC (zA hC (zA hnb hbl))))
 clear c0 c1 c2 c3 c4 cf d0 d1 d2 d3 d4 df tC rC hC hC0 hb2 hbl hw hnb
 generalize w2.setCell ⟨p,2,none⟩ (.pointer (some ⟨b,0,none⟩))=wC at *
 obtain ⟨c0,c1,c2,c3,c4,cf⟩:=mu HC.out.2.1
 have HS:=zH (fun w' (hb:Below wC.heap.size wC w')=>xR k c b (aG.new m) Cache.new _ w' (HC.out.2.2.1.aj hb) (HH.out (fun i=>i<w'.heap.size)))
 have HD:=zH (fun w' (hb:Below wC.heap.size wC w')=>mu (aa hb HC.out.2.1))
 go_region_with (go_at_call 69;refine (HS.out _ (au zR)).mono ?_;rintro e w3 ⟨s,rfl,hs,hb3,hsl⟩;obtain ⟨d0,d1,d2,d3,d4,df⟩:=HD.out w3 (gtr (au (Below.refl wC.heap.size wC)) hb3))
 all_goals
  go_end0
  have hb4:=gtr (au (Below.refl wC.heap.size wC)) hb3
  have hpC:p<wC.heap.size:=aP HC.out.2.1
  have hsl':wC.heap.size≤s:=hsl
  have hnM : ¬ bK s (fun i=>G i∨i=b) p:=fun h=>h.elim HC.out.2.2.2.1 (fun e=>by omega)
  have tD:Touch (aO p) w3 (w3.setCell ⟨p,3,none⟩ (.pointer (some ⟨s,0,none⟩))):=(Touch.refl (aO p) w3).set p 3 _ rfl
  refine ⟨rfl,s,k,b,_,y,az (aa hb4 HC.out.2.1),hs.Ll tD hnM (jF.odd (aa hb4 HC.out.2.1)) (HH.out (fun i=>i≠p)),hnM,(HC.out.1.qS hb4).trans tD,fun i hi => ?_⟩
  have z1:=HA.out.1.size
  have z2:=HB.out.1.size
  have z3:=HC.out.1.size
  rcases hi with (hi | hi) | hi
  ·
   rcases HB.out.2.2.2.1 i hi with h | h
   ·
    exact .inl h
   ·
    have:=HB.out.2.2.2.2.1
    omega
  ·
   have:=HC.out.2.2.2.2
   omega
  ·
   omega
end
section
open Go.RowKit
structure ia where
 m:aG
 q:Cache
 S:aA
def iV (p s:Nat) (H:Nat→Prop) (i:Nat):Prop:=bK s H i∨i=p
structure cB (w:World) (p:Nat) (W:ia) (G:Nat→Prop):Prop where
 ex : ∃ s k c b H z,jF w p c (some ⟨k,0,none⟩) (some ⟨b,0,none⟩) (some ⟨s,0,none⟩) z∧Sys (fun _=>False) w s k c b W.m W.q W.S H ∧ ¬ bK s H p∧(0<W.m.ar.busy.length→W.m.ar.home≠p) ∧ ∀ i,G i ↔ iV p s H i
theorem cB.aj {w w':World} {p:Nat} {W:ia} {G:Nat→Prop} (h:cB w p W G) (hb:Below w.heap.size w w'):cB w' p W G:=by
 obtain ⟨s,k,c,b,H,z,h1,h2,h3⟩:=h.ex
 exact ⟨s,k,c,b,H,z,aa hb h1,h2.aj hb,h3⟩
theorem cB.lt {w:World} {p:Nat} {W:ia} {G:Nat→Prop} (h:cB w p W G) : ∀ i,G i→i<w.heap.size:=fun i hi=>by
 obtain ⟨s,k,c,b,H,z,h1,h2,h3,h4,h5⟩:=h.ex
 rcases (h5 i).1 hi with h | rfl
 ·
  exact h2.lt i h
 ·
  exact aP h1
theorem Dg {m m1 m2 m3 m4:aG} {own bit other kept x y:Int} (S:Sets m m1 m2 m3 m4 own bit other kept x y) (ok:m.Ok):m4.Ok∧bG m m4:=by
 have o1:=ew ok own 0 [] 1 (by rcases S.own with e | e <;> rw [e];exact yq;exact C9)
 have e1:=cQ m own 0 [] 1
 rw [S.r1] at o1 e1
 have o2:=ew o1 other 0 [] 1 (by rcases S.other with e | e <;> rw [e];exact yq;exact C9)
 have e2:=cQ m1 other 0 [] 1
 rw [S.r2] at o2 e2
 have o3:=ew o2 6 0 [] 0 A7
 have e3:=cQ m2 6 0 [] 0
 rw [S.r3] at o3 e3
 have o4:=ew o3 1 0 (if own=53 then [bits .and .i64 y kept,bit] else [bit,bits .and .i64 y kept]) 0 (by
  split
  ·
   exact Lx _ _ S.k1 S.bit
  ·
   exact Lx _ _ S.bit S.k1)
 have e4:=cQ m3 1 0 (if own=53 then [bits .and .i64 y kept,bit] else [bit,bits .and .i64 y kept]) 0
 rw [S.r4] at o4 e4
 exact ⟨o4,e1.trans (e2.trans (e3.trans e4))⟩
theorem tP (p:Nat) (W:ia) (G:Nat→Prop) (w:World) (h:cB w p W G):Calls prog 14 #[.pointer (some ⟨p,0,none⟩)] w fun e w'=>e=.returned (.string W.m.ar.cells)∧w'=w:=by
 obtain ⟨s,k,c,b,H,z,h1,h2,h3⟩:=h.ex
 obtain ⟨F,hc,_,_⟩:=h2.ar
 obtain ⟨c0,_,_,_,_,_⟩:=mu h1
 have HC:=zH (uV c W.m.ar F w hc)
 clear h h1 h2 h3 hc
 go_enter func14,ntmps14
 go_wp2_with (go_at_call 39;refine HC.out.mono ?_;rintro e w1 ⟨rfl,rfl⟩)
 go_ret
 exact ⟨rfl,rfl⟩
def ij (img:ByteArray):ByteArray:=img++(iy 4096).extract img.size 4096
theorem qt:(iy 4096).size=4096:=by
 unfold iy
 rw [qL]
 show (List.replicate 4096 (255:UInt8)).toArray.size=4096
 rw [List.size_toArray,List.length_replicate]
theorem IZ (i:Nat) (h:i<4096):bt (iy 4096) i=255:=by
 unfold iy
 rw [qL]
 show (List.replicate 4096 (255:UInt8)).toArray.getD i 0=255
 rw [Array.getD_eq_getD_getElem?,List.getElem?_toArray,List.getElem?_replicate,if_pos h]
 rfl
theorem j5 {img:ByteArray} (h:img.size≤2048):(ij img).size=4096:=by
 unfold ij
 rw [ByteArray.size_append,ig _ _ _ (by rw [qt];omega)]
 omega
theorem GP {img:ByteArray} (h:img.size≤2048) (i:Nat) (hi:i<4096):bt (ij img) i=if i<img.size then bt img i else 255:=by
 unfold ij
 rw [qu]
 split
 ·
  rfl
 ·
  rw [fI _ _ _ _ (by omega) (by rw [qt];omega),IZ _ (by omega)]
theorem wS {img:ByteArray} (h:img.size≤2048):Iy (ij img):=by
 refine ⟨j5 h,fun j h4 h8 => ?_⟩
 have:dq (ij img) j 0=sL 64:=by
  refine fH (by rw [gN,oP]) fun k hk => ?_
  rw [gN] at hk
  rw [pw _ _ _ _ hk,GP h _ (by omega),if_neg (by omega),s9 _ _ hk]
 rw [this]
 exact D9 1
def qW (img:ByteArray) (w:World) (e:Ending) (w':World):Prop := ∃ p W G,e=.returned (.tuple #[.pointer (some ⟨p,0,none⟩),.int .i64 0])∧cB w' p W G∧Below w.heap.size w w'∧(∀ i,G i→w.heap.size≤i)∧Calm W.m (ij img)∧W.m.left<0∧W.m.Ok∧W.m.ar.busy=[]∧W.q=Cache.new∧W.S=shut
theorem JK {x:ByteArray} (hx:x.size=4096):(aG.new (kK x)).Ok:=by
 refine ⟨⟨⟨hx,?_,?_,?_,?_,?_⟩,?_⟩,fun _=>rfl,?_,?_⟩
 ·
  intro j h;cases h
 ·
  show (0:Int)≤0;decide
 ·
  show (0:Int)<4096;decide
 ·
  show Au ⟨0,0,false,0,0,false⟩;decide
 ·
  show 0≤1099511627776;decide
 ·
  intro y h;cases h
 ·
  show (-1:Int) ≤ -1;decide
 ·
  show (-1:Int)≤1099511627776;decide
theorem pD (img:ByteArray) (w:World) (hi:img.size≤2048):Calls prog 16 #[.string img] w (qW img w):=by
 have hs:=j5 hi
 have hi' : ¬ (2048:Int)<img.size:=by omega
 have HN:=zH (fun w=>p8 (ij img) w hs)
 have hbs:(iy 4096).size=4096:=qt
 have h4:(img.size:Int)≤((iy 4096).size:Int):=by rw [hbs];omega
 have HI:=zH hi
 have HX:=zH (show ij img=img++(iy 4096).extract img.size 4096 from rfl)
 clear hi hs
 go_enter func16,ntmps16
 go_upto_region 4 with (first
  | (go_at_call 40;refine (BQ _).mono ?_;rintro e w1 ⟨rfl,hb1⟩)
  | (go_at_call 28;refine (HN.out _).mono ?_;rintro e w2 ⟨c,rfl,hc,hb2,hcl⟩))
 have hb:=gtr hb1 hb2
 have hcw:w.heap.size≤c:=Nat.le_trans hb1.size hcl
 have hcl2:c<w2.heap.size:=hc.lt c rfl
 have H2:=zH (zA hc (zA hb (zA hcw hcl2)))
 clear hc hb hb1 hb2 hcw hcl2 hcl HN hbs h4 hi'
 go_upto_region 5 with fail
 have e0:=af w2 (.cells #[.pointer (some ⟨c,0,none⟩),.pointer none,.pointer none,.pointer none,.int .i64 0] 94)
 have HB:=zH (lX w2.heap.size c none none none 0 (kK (ij img)) (aO c) _ e0 (H2.out.1.aj (ae zR _)) (fun e=>by have:=H2.out.2.2.2;rw [show w2.heap.size=c from e] at this;omega) rfl (fun w' _=>(yi w').mono fun e w'' h=>⟨0,h.1,h.2⟩))
 have H3:=zH (zA (ae H2.out.2.1 (.cells #[.pointer (some ⟨c,0,none⟩),.pointer none,.pointer none,.pointer none,.int .i64 0] 94)) H2.out.2.2)
 clear e0
 generalize w2.alloc (.cells #[.pointer (some ⟨c,0,none⟩),.pointer none,.pointer none,.pointer none,.int .i64 0] 94)=w3 at *
 have hpw:w.heap.size≤w2.heap.size:=H2.out.2.1.size
 have HP:=zH hpw
 clear H2 hpw
 generalize w2.heap.size=p at *
 obtain ⟨m1,m2,m3,m4,S1,R1,l1⟩:=Ig (m:=aG.new (kK (ij img))) (x:=ij img) (b:=[]) ⟨rfl,rfl,rfl,rfl⟩ (show (-1:Int)<0 by decide)
 obtain ⟨n1,n2,n3,n4,S2,R2,l2⟩:=Ie R1 l1
 obtain ⟨o1,hm1⟩:=Dg S1 (JK (j5 HI.out))
 obtain ⟨o2,hm2⟩:=Dg S2 o1
 have HQ:=zH (zA S1 (zA S2 (zA o1 (zA hm1 hm2))))
 have HE:=zH (zA R2 (zA l2 o2))
 clear S1 S2 o1 o2 hm1 hm2 R1 R2 l1 l2
 go_upto_region 6 with (go_at_call 35;refine HB.out.mono ?_;rintro e w4 ⟨rfl,s,k,b,H,z,hr,hs,hn,ht,hH⟩)
 obtain ⟨r0,r1,r2,r3,r4,rf⟩:=mu hr
 obtain ⟨G,hc,hl⟩:=hs.wK
 have H4:=zH (zA hr (zA hn (zA ht (zA hH hl))))
 have HQ1:=zH (EU k c _ m1 m2 m3 m4 G 0 0 w4 hc (JK (j5 HI.out)) HQ.out.1)
 clear hr hs hn ht hH hc hl HB
 go_upto_region 7 with (go_at_call 41;refine HQ1.out.mono ?_;rintro e w5 ⟨rfl,G5,hc5,st5⟩)
 obtain ⟨H5,hs5,st6⟩:=H4.out.2.2.2.2 w5 m4 G5 hc5 st5 HQ.out.2.2.2.1
 have hr5:jF w5 p c _ _ _ z:=st6.aH.at H4.out.1 (fun e=>H4.out.2.1 (.inl e))
 have hn5 : ¬ bK s H5 p:=(st6.lp (s:=s)).safe (aP H4.out.1) H4.out.2.1
 clear r0 r1 r2 r3 r4 rf
 obtain ⟨r0,r1,r2,r3,r4,rf⟩:=mu hr5
 obtain ⟨G6,hc6,hl6⟩:=hs5.wK
 have HQ2:=zH (yp k c _ n1 n2 n3 n4 G6 0 2 w5 hc6 HQ.out.2.2.1 HQ.out.2.1)
 have H5':=zH (zA hr5 (zA hn5 (zA (st6.lp (s:=s)) hl6)))
 clear hr5 hn5 hc5 st5 hs5 st6 hc6 hl6
 go_wp2_with (go_at_call 42;refine HQ2.out.mono ?_;rintro e w6 ⟨rfl,G7,hc7,st7⟩)
 obtain ⟨H7,hs7,st8⟩:=H5'.out.2.2.2 w6 n4 G7 hc7 st7 HQ.out.2.2.2.2
 have hr7:jF w6 p c _ _ _ z:=st8.aH.at H5'.out.1 (fun e=>H5'.out.2.1 (.inl e))
 have hn7 : ¬ bK s H7 p:=(st8.lp (s:=s)).safe (aP H5'.out.1) H5'.out.2.1
 have st9:=H5'.out.2.2.1.trans (st8.lp (s:=s))
 have F:=zH (zA hs7 (zA hr7 (zA hn7 st9)))
 clear hs7 hr7 hn7 st9 hc7 st7 st8
 go_ret2
 have z3:=H3.out.1.size
 have hp:=HP.out
 have hcw:=H3.out.2.1
 have hM : ∀ i,bK s H i→w.heap.size≤i:=fun i hi=>by
  rcases H4.out.2.2.2.1 i hi with h | h
  ·
   rw [show i=c from h];exact hcw
  ·
   omega
 have z4:=H4.out.2.2.1.size
 have b4:Below w.heap.size w3 w4:=H4.out.2.2.1.below z3 (fun i hi e=>by rw [show i=p from e] at hi;omega)
 have b6:Below w.heap.size w4 w6:=F.out.2.2.2.aH.below (Nat.le_trans z3 z4) (fun i hi hm=>by have:=hM i hm;omega)
 obtain ⟨hR,hl,hok⟩:=HE.out
 have hbusy:n4.ar.busy=[]:=congrArg Core.busy hR.core
 have hh:0<n4.ar.busy.length→n4.ar.home≠p:=fun hl=>by rw [hbusy] at hl;cases hl
 refine ⟨p,⟨n4,Cache.new,shut⟩,iV p s H7,rfl,⟨⟨s,k,c,b,H7,z,F.out.2.1,F.out.1,F.out.2.2.1,hh,fun i=>Iff.rfl⟩⟩,(H3.out.1.trans b4).trans b6,fun i hi => ?_,?_,hl,hok,hbusy,rfl,rfl⟩
 ·
  rcases hi with hi | hi
  ·
   rcases F.out.2.2.2.ik i hi with h | h
   ·
    exact hM i h
   ·
    omega
  ·
   omega
 ·
  exact Calm.of hR rfl rfl rfl rfl (fun y hy=>by cases hy)
end
section
open Go.RowKit
variable {X:Nat→Prop}
structure Plain (w:World) (o:Nat):Prop where
 ints : ∀ i x,w.cell? ⟨o,i,none⟩≠some (.int .i64 x)
 text : ∀ t,w.cell? ⟨o,1,none⟩≠some (.string t)
theorem Plain.off {w:World} {o:Nat} (h:Plain w o) {a:Option Addr} {xs:List Int} (hi:aU w a xs) {b f:Nat} (ha:a=some ⟨b,f,none⟩) (hl:0<xs.length):b≠o:=fun e=>by
 obtain ⟨b2,o2,g1,g2⟩:=hi 0 hl
 rw [ha] at g1
 obtain ⟨rfl,rfl⟩:b=b2∧f=o2:=by simpa using g1
 rw [e] at g2
 exact h.ints _ _ g2
theorem aS.KU {w:World} {c:Nat} {m:ag} {F:Nat→Prop} (h:aS w c m F) {o:Nat} (p:Plain w o) (hb:0<m.busy.length):m.home≠o:=by
 obtain ⟨s,h1,h2,h3,h4,_⟩:=h.ex
 obtain ⟨a,cc,e,hi,_,hn,_,hh⟩:=h4.ex
 obtain ⟨b,f,ha,_⟩:=hi.at hb
 rw [← hh b f ha hb]
 exact p.off hi ha hb
theorem bO.plain {w w':World} {k c o:Nat} {m:aG} {G:Nat→Prop} (h:bO X w k c m G) (t:Touch (aO o) w w') (d : ¬ G o) (p:Plain w o):bO X w' k c m G:=by
 obtain ⟨s,f,e,h⟩:=h
 have hlt:k<w.heap.size:=h.lt k h.own
 refine ⟨s,f,e,⟨?_,h.aD,h.left,h.lost,h.ar.fB t (fun b hb hf=>d (by rw [← show b=o from hf];exact h.sub b hb)) (fun hl e=>h.ar.KU p hl e),?_,h.fB,h.sub,h.own,h.home,fun b hb=>zV (h.lt b hb) t.size⟩⟩
 ·
  exact (t.block k hlt (fun hf=>d (by rw [← show k=o from hf];exact h.own))).trans h.raw
 ·
  refine ⟨fun i hi=>zV (h.leave.1 i hi) t.size,?_⟩
  rcases h.leave.2 with hl | ⟨h0,h1,h2,b,e,hp⟩
  ·
   exact .inl hl
  ·
   refine .inr ⟨h0,h1,h2,b,e,?_⟩
   obtain ⟨a,cc,hc,hn⟩:=hp.ph 0 (by simp)
   have hc:qo w b 0 bX a cc:=hc
   have nb : ¬ aO o b:=fun hf=>by
    have:=hc.c0
    rw [show b=o from hf] at this
    exact p.ints _ _ this
   have ni : ∀ b' o',a=some ⟨b',o',Option.none⟩→0<bX.bytes.length → ¬ aO o b':=fun b' o' ea hl hf=>p.off hc.ints ea hl hf
   refine ⟨hp.fB,fun i hi => ?_⟩
   have hi:i<1:=hi
   obtain rfl:i=0:=by omega
   exact ⟨a,cc,⟨t.cell _ _ hc.c0 nb,t.cell _ _ hc.c1 nb,t.cell _ _ hc.c2 nb,t.cell _ _ hc.c3 nb,dM hc.ints t (fun b o e hl=>ni b o e hl)⟩,hn⟩
theorem Sys.plain {w w':World} {s k c b o:Nat} {m:aG} {q:Cache} {S:aA} {H:Nat→Prop} (h:Sys X w s k c b m q S H) (t:Touch (aO o) w w') (hn : ¬ bK s H o) (p:Plain w o):Sys X w' s k c b m q S H:=by
 obtain ⟨G,hc,⟨ab,ac,tb,tc,hw⟩,hH,hb⟩:=h.both.ex
 obtain ⟨a,cp,h1,h2⟩:=h.st
 have nG : ¬ G o:=fun hg=>hn (.inl ((hH o).2 (.inl hg)))
 have nb : ¬ aO o b:=fun e=>hn (.inl ((hH o).2 (.inr (show b=o from e).symm)))
 have na : ¬ aO o ab:=fun e=>by
  have:=hw.a0
  rw [show ab=o from e] at this
  exact p.ints _ _ this
 have nt : ¬ aO o tb:=fun e=>by
  have:=hw.t1
  rw [show tb=o from e] at this
  exact p.text _ this
 refine ⟨⟨⟨G,hc.plain t nG p,⟨ab,ac,tb,tc,t.at hw.raw nb,hw.cap,t.cell _ _ hw.a0 na,t.cell _ _ hw.a1 na,t.cell _ _ hw.t0 nt,t.cell _ _ hw.t1 nt,hw.out,hw.na,hw.nt⟩,hH,hb⟩⟩,⟨a,cp,t.at h1 (fun e=>hn (.inr (show s=o from e).symm)),⟨⟨h2.at_.len,?_⟩,h2.fB⟩⟩,h.fB,h.home⟩
 rcases h2.at_.ex with e | ⟨b',o',c',e1,e2,e3⟩
 ·
  exact .inl e
 ·
  refine .inr ⟨b',o',c',e1,e2,fun i u hu=>t.cell _ _ (e3 i u hu) (fun e => ?_)⟩
  have hl:0<S.view.aB.length:=by
   have h5:=(List.getElem?_eq_some_iff.1 hu).1
   rw [lT] at h5
   omega
  have:=e3 0 _ (nK S.view.aB 0 hl).1
  rw [show b'=o from e] at this
  exact p.ints _ _ this
theorem cB.plain {w w':World} {p o:Nat} {W:ia} {G:Nat→Prop} (h:cB w p W G) (t:Touch (aO o) w w') (hn : ¬ G o) (pl:Plain w o):cB w' p W G:=by
 obtain ⟨s,k,c,b,H,z,h1,h2,h3,h4,h5⟩:=h.ex
 exact ⟨s,k,c,b,H,z,t.at h1 (fun e=>hn ((h5 o).2 (.inr (show p=o from e).symm))),h2.plain t (fun hm=>hn ((h5 o).2 (.inl hm))) pl,h3,h4,h5⟩
end
end Go.Proofs.YtcfdenckiigdaaaGreat

/- Part 12 of the contracts. -/
import Derived.Deep.Onto
import Derived.Test.YtcfdenckiigdaaaGreatRd11
set_option linter.unusedSimpArgs false
set_option linter.unusedVariables false
set_option maxRecDepth 100000
set_option maxHeartbeats 4000000
namespace Go.Proofs.YtcfdenckiigdaaaGreat
open Tryz Go.RowKit
section
open Go.RowKit
variable {X:Nat→Prop}
def cK:Nat→aG→Cache→List Int→List Int→I1
 | 0,m,q,left,out=>(m,q,left,out,1400)
 | n+1,m,q,left,out =>
  if m.di.2.2≠0 then (m.di.1,q,left,out,m.di.2.2)
  else if m.di.2.1=false then (m.di.1,q,left,out,0)
  else match left with
   | []=>cK n m.di.1 q [] out
   | x::l=>if (ef m.di.1 q x l out).2.2.2.2≠0 then ef m.di.1 q x l out else cK n (ef m.di.1 q x l out).1 (ef m.di.1 q x l out).2.1 (ef m.di.1 q x l out).2.2.1 (ef m.di.1 q x l out).2.2.2.1
theorem kX (m:aG):bH m m.di.1:=cO m 5 0 [] 1
theorem J3 (m:aG) (q:Cache) (x:Int) (left out:List Int):((eP m q x left out).2.2.1=left∨(eP m q x left out).2.2.1=x::left)∧(eP m q x left out).2.2.2.1.length+(eP m q x left out).2.2.1.length=out.length+left.length+1:=by
 unfold eP
 split
 ·
  exact ⟨.inr rfl,by simp;omega⟩
 ·
  exact ⟨.inl rfl,by simp;omega⟩
theorem Ax (m:aG) (q:Cache) (x:Int) (left out:List Int):((ef m q x left out).2.2.1=left∨(ef m q x left out).2.2.1=x::left)∧(ef m q x left out).2.2.2.1.length+(ef m q x left out).2.2.1.length=out.length+left.length+1:=by
 have h:=J3 (m.run 117 0 [] 0).1 q x left out
 unfold ef
 split
 ·
  exact ⟨.inr rfl,by simp;omega⟩
 split <;> exact h
theorem xU (N sv k c b:Nat) (m:aG) (q:Cache) (left out:List Int) (H:Nat→Prop) (w:World) (h:dw X w N sv k c b m q left out H) (ok:m.Ok):Calls prog 167 #[.pointer (some ⟨k,0,none⟩)] w fun e w'=>e=.returned (.tuple #[.bool m.di.2.1,.int .i64 m.di.2.2]) ∧ ∃ H',dw X w' N sv k c b m.di.1 q left out H'∧Step H H' w w':=by
 obtain ⟨a,cap,v,hB,hS,hN⟩:=h
 obtain ⟨G,hc,hw,hH,hh⟩:=hB.ex
 refine (wv k c m G w hc ok).mono ?_
 rintro e w' ⟨rfl,G',hc',st⟩
 exact ⟨rfl,_,dw.wQ hw hH hh hS hN (kX m) hc' st⟩
def ki (w:World) (sv k:Nat):World :=
 ((((((w.alloc (.cells #[.pointer (some ⟨k,0,none⟩)] 85)).alloc (.cells #[.int .i64 117] 3)).alloc (.cells #[.int .i64 0] 3)).alloc (.cells #[.pointer (some ⟨k,0,none⟩)] 85)).alloc (.cells #[.int .i64 122] 3)).alloc (.cells #[.int .i64 0] 3)).alloc (.cells #[.func (.func 169) #[] #[.pointer (some ⟨w.heap.size,0,none⟩),.pointer (some ⟨w.heap.size+1,0,none⟩),.pointer (some ⟨w.heap.size+2,0,none⟩)],.func (.func 168) #[.pointer (some ⟨sv,0,none⟩)] #[],.func (.func 169) #[] #[.pointer (some ⟨w.heap.size+3,0,none⟩),.pointer (some ⟨w.heap.size+4,0,none⟩),.pointer (some ⟨w.heap.size+5,0,none⟩)]] 144)
theorem yh (w:World) (sv k:Nat):(ki w sv k).heap=((((((w.heap.push (.cells #[.pointer (some ⟨k,0,none⟩)] 85)).push (.cells #[.int .i64 117] 3)).push (.cells #[.int .i64 0] 3)).push (.cells #[.pointer (some ⟨k,0,none⟩)] 85)).push (.cells #[.int .i64 122] 3)).push (.cells #[.int .i64 0] 3)).push (.cells #[.func (.func 169) #[] #[.pointer (some ⟨w.heap.size,0,none⟩),.pointer (some ⟨w.heap.size+1,0,none⟩),.pointer (some ⟨w.heap.size+2,0,none⟩)],.func (.func 168) #[.pointer (some ⟨sv,0,none⟩)] #[],.func (.func 169) #[] #[.pointer (some ⟨w.heap.size+3,0,none⟩),.pointer (some ⟨w.heap.size+4,0,none⟩),.pointer (some ⟨w.heap.size+5,0,none⟩)]] 144):=rfl
theorem Mk (A:Array Obj) (o0 o1 o2 o3 o4 o5 o6:Obj):let B:=((((((A.push o0).push o1).push o2).push o3).push o4).push o5).push o6;B[A.size]? = some o0∧B[A.size+1]? = some o1∧B[A.size+2]? = some o2∧B[A.size+3]? = some o3∧B[A.size+4]? = some o4∧B[A.size+5]? = some o5∧B[A.size+6]? = some o6:=by
 intro B
 refine ⟨?_,?_,?_,?_,?_,?_,?_⟩
 all_goals
  simp only [B,Array.getElem?_push,Array.size_push]
  repeat (first | rw [if_pos trivial] | rw [if_pos (by omega)] | rw [if_neg (by omega)])
theorem uM (w:World) (sv k:Nat):Below w.heap.size w (ki w sv k):=ae (ae (ae (ae (ae (ae (ae zR _) _) _) _) _) _) _
theorem L3 (w:World) (sv k:Nat):vW (ki w sv k) w.heap.size sv k:=by
 obtain ⟨h0,h1,h2,h3,h4,h5,h6⟩:=Mk w.heap (.cells #[.pointer (some ⟨k,0,none⟩)] 85) (.cells #[.int .i64 117] 3) (.cells #[.int .i64 0] 3) (.cells #[.pointer (some ⟨k,0,none⟩)] 85) (.cells #[.int .i64 122] 3) (.cells #[.int .i64 0] 3) (.cells #[.func (.func 169) #[] #[.pointer (some ⟨w.heap.size,0,none⟩),.pointer (some ⟨w.heap.size+1,0,none⟩),.pointer (some ⟨w.heap.size+2,0,none⟩)],.func (.func 168) #[.pointer (some ⟨sv,0,none⟩)] #[],.func (.func 169) #[] #[.pointer (some ⟨w.heap.size+3,0,none⟩),.pointer (some ⟨w.heap.size+4,0,none⟩),.pointer (some ⟨w.heap.size+5,0,none⟩)]] 144)
 exact ⟨cell_of (show (ki w sv k).heap[w.heap.size]? = _ from h0) 0,cell_of (show (ki w sv k).heap[w.heap.size+1]? = _ from h1) 0,cell_of (show (ki w sv k).heap[w.heap.size+2]? = _ from h2) 0,cell_of (show (ki w sv k).heap[w.heap.size+3]? = _ from h3) 0,cell_of (show (ki w sv k).heap[w.heap.size+4]? = _ from h4) 0,cell_of (show (ki w sv k).heap[w.heap.size+5]? = _ from h5) 0,cell_of (show (ki w sv k).heap[w.heap.size+6]? = _ from h6) 0,cell_of (show (ki w sv k).heap[w.heap.size+6]? = _ from h6) 1,cell_of (show (ki w sv k).heap[w.heap.size+6]? = _ from h6) 2⟩
theorem ID (w:World) (N sv k c b:Nat) (m:aG) (q:Cache) (left out:List Int) (H:Nat→Prop) (h:dw X w N sv k c b m q left out H):AK (ki w sv k) w.heap.size sv H:=by
 have hs:(ki w sv k).heap.size=w.heap.size+7:=by rw [yh];simp
 refine ⟨by omega,fun i h1 h2 hy => ?_⟩
 obtain ⟨a,cap,v,hB,hS,hN⟩:=h
 rcases hy with hy | hy | ⟨v',hv,hv2⟩
 ·
  obtain ⟨G,hc,⟨_,_,_,_,hw⟩,hH,_⟩:=hB.ex
  rcases (hH i).1 hy with hg | hg
  ·
   have:=hc.lt i hg;omega
  ·
   have:=(Array.getElem?_eq_some_iff.1 hw.raw).1;omega
 ·
  have:=(Array.getElem?_eq_some_iff.1 hS.raw).1;omega
 ·
  have e1:w.cell? ⟨sv,2,none⟩=some v:=cell_of hS.raw 2
  have e2:=((uM w sv k).cell (p:=⟨sv,2,none⟩) (zL w _ e1)).trans e1
  rw [hv] at e2
  obtain rfl:v'=v:=by simpa using e2
  have:=(hS.own.lt i hv2).2
  omega
theorem DI (N sv k c b n:Nat) (m:aG) (q:Cache) (left out:List Int) (H:Nat→Prop) (w:World) (h:dw X w N sv k c b m q left out H) (ok:m.Ok) (g:q.Good) (hx : ∀ x ∈ left,0≤x∧x<4096) (ho:out.length+left.length≤1000) (hn:n=256):Calls prog 127 #[.pointer (some ⟨sv,0,none⟩),.pointer (some ⟨k,0,none⟩)] w fun e w'=>e=.returned (.int .i64 (cK n m q left out).2.2.2.2) ∧ ∃ H',dw X w' N sv k c b (cK n m q left out).1 (cK n m q left out).2.1 (cK n m q left out).2.2.1 (cK n m q left out).2.2.2.1 H'∧cB N sv H H' w w':=by
 have H0:=zH (zA h (zA ok (zA g (zA hx ho))))
 obtain ⟨rr,hrr⟩ : ∃ rr,rr=cK n m q left out:=⟨_,rfl⟩
 rw [← hrr]
 have HV:=zH hrr
 have hNw:N≤w.heap.size:=by
  obtain ⟨a,cap,v,hB,hS,hN⟩:=h
  have:=(Array.getElem?_eq_some_iff.1 hS.raw).1
  have:=hS.lo;omega
 have HNW:=zH hNw
 have HN:=zH hn
 clear h ok g hx ho hrr hNw hn
 go_enter func127,ntmps127
 go_wp2
 go_loopw [8] (fun i wr => ∃ (j:Nat) (lj oj:List Int) (mj:aG) (qj:Cache) (Hj:Nat→Prop),j≤n∧i=.int .i64 j∧dw X wr N sv k c b mj qj lj oj Hj∧mj.Ok∧qj.Good∧(∀ x ∈ lj,0≤x∧x<4096)∧oj.length+lj.length≤1000∧cB N sv H Hj w wr∧rr=cK (n - j) mj qj lj oj) (fun i _=>n - (intOf i).toNat)
 case atStart=>exact ⟨0,left,out,m,q,H,Nat.zero_le _,rfl,H0.out.1,H0.out.2.1,H0.out.2.2.1,H0.out.2.2.2.1,H0.out.2.2.2.2,cB.refl _ _ _ _,HV.out⟩
 case round =>
  obtain ⟨j,lj,oj,mj,qj,Hj,hj,rfl,hS,hok,hg,hxs,hol,hov,hr⟩:=hrel
  by_cases hlt:j<n
  ·
   have g1:(j:Int)<256:=by have:=HN.out;omega
   have HSJ:=zH hS
   have HB:=zH (xU N sv k c b mj qj lj oj Hj wr hS hok)
   have HBO:=zH (mC hok)
   rw [show n - j=(n - (j+1))+1 by omega] at hr
   unfold cK at hr
   have HR:=zH hr
   have HX:=zH (zA hg (zA hxs (zA hol hov)))
   clear hS hok hg hxs hol hov hr
   generalize mj.di=br at *
   obtain ⟨mn,y,er⟩:=br
   simp only at HB HBO HR
   by_cases he:er=0
   ·
    subst he
    cases y with
    | false =>
     go_wp2_with fail
     refine HB.out.mono ?_
     rintro e w2 ⟨rfl,H2,hS2,st2⟩
     have H2':=zH (zA hS2 (HX.out.2.2.2.trans HNW.out (cB.fX HSJ.out st2)))
     clear hS2 st2
     go_wp2
     go_ret
     rw [show rr=(mn,qj,lj,oj,0) from HR.out.trans (by simp)]
     exact ⟨rfl,H2,H2'.out⟩
    | true =>
     cases lj with
     | nil =>
      go_wp2_with fail
      refine HB.out.mono ?_
      rintro e w2 ⟨rfl,H2,hS2,st2⟩
      have H2':=zH (zA hS2 (HX.out.2.2.2.trans HNW.out (cB.fX HSJ.out st2)))
      obtain ⟨a2,cap2,v2,hB2,hSv2,hN2⟩:=hS2
      have c1:w2.cell? ⟨sv,1,none⟩=some (.slice a2 0 cap2):=cell_of hSv2.raw 1
      clear st2 hB2 hSv2 hN2
      go_wp2
      go_roundw
      case rel=>exact ⟨j+1,[],oj,mn,qj,H2,by omega,by go_num,H2'.out.1,HBO.out,HX.out.1,HX.out.2.1,HX.out.2.2.1,H2'.out.2,HR.out.trans (by simp)⟩
      case measure=>simp [intOf];omega
     | cons x l =>
      have hx0:=HX.out.2.1 x (by simp)
      have hlen:=Ax mn qj x l oj
      have HSO:=zH (zA (Dv HBO.out HX.out.1 x l oj hx0.1) hlen)
      have hl0:((l.length+1:Nat) == 0)=false:=rfl
      go_wp2_with fail
      refine HB.out.mono ?_
      rintro e w2 ⟨rfl,H2,hS2,st2⟩
      have hN2:N≤w2.heap.size:=Nat.le_trans HNW.out (Nat.le_trans HX.out.2.2.2.1.1.size st2.aH.size)
      have hov2:=HX.out.2.2.2.trans HNW.out (cB.fX HSJ.out st2)
      have hbw:=uM w2 sv k
      have hov3:=hov2.trans HNW.out (cB.fX hS2 (Step.ah (F:=H2) hbw))
      have HSU:=zH (Fg N sv k c b w2.heap.size mn qj x l oj H2 (ki w2 sv k) (hS2.aj hbw) HBO.out HX.out.1 hx0.1 hx0.2 (by have:=HX.out.2.2.1;simp at this;omega) (L3 w2 sv k) (ID w2 N sv k c b mn qj (x::l) oj H2 hS2) (Nat.le_trans hN2 hbw.size))
      have HOV:=zH hov3
      have HWS:=zH (show (ki w2 sv k).heap.size=w2.heap.size+7 by rw [yh];simp)
      obtain ⟨a2,cap2,v2,hB2,hSv2,hNN2⟩:=hS2
      have c1:w2.cell? ⟨sv,1,none⟩=some (.slice a2 (l.length+1) cap2):=cell_of hSv2.raw 1
      have H2x:=zH (zA hN2 hbw.size)
      clear st2 hB2 hSv2 hNN2 hov2 hov3 hbw hN2
      go_wp2_with ((go_at_call 130;refine (qO k _ _ _).mono ?_;rintro e wq ⟨rfl,rfl⟩))
      refine HSU.out.mono ?_
      rintro e w3 ⟨er,rfl,hcase⟩
      have hN3:N≤(ki w2 sv k).heap.size:=Nat.le_trans H2x.out.1 H2x.out.2
      rcases hcase with ⟨rfl,he3,H3,hS3,hO3⟩ | ⟨hne,hee,H3,hS3,hO3⟩
      ·
       have H3':=zH (zA he3 (zA hS3 (HOV.out.trans HNW.out hO3)))
       clear he3 hS3 hO3 hN3
       go_wp2
       go_roundw
       case rel =>
        obtain ⟨he3,hS3,hov⟩:=H3'.out
        refine ⟨j+1,_,_,_,_,H3,by omega,by go_num,hS3,HSO.out.1.1,HSO.out.1.2.1,fun y hy => ?_,?_,hov,HR.out.trans ?_⟩
        ·
         rcases HSO.out.2.1 with e | e
         ·
          rw [e] at hy;exact HX.out.2.1 y (by simp [hy])
         ·
          rw [e] at hy;exact HX.out.2.1 y hy
        ·
         have:=HSO.out.2.2;have h9:=HX.out.2.2.1;simp at h9;omega
        ·
         rw [if_neg (by decide),if_neg (by decide)]
         exact if_neg (by simpa using he3)
       case measure=>simp [intOf];omega
      ·
       have he':(er != 0)=true:=bne_iff_ne.2 hne
       have H3':=zH (zA hne (zA hee (zA hS3 (HOV.out.trans HNW.out hO3))))
       clear hne hee hS3 hO3 hN3
       go_wp2
       go_ret
       obtain ⟨hne,hee,hS3,hov⟩:=H3'.out
       rw [show rr=ef mn qj x l oj from HR.out.trans (by rw [if_neg (by decide),if_neg (by decide)];exact if_pos (by rw [← hee];exact hne))]
       exact ⟨by rw [hee];rfl,H3,hS3,hov⟩
   ·
    have he':(er != 0)=true:=bne_iff_ne.2 he
    have HE:=zH he
    clear he
    go_wp2_with fail
    refine HB.out.mono ?_
    rintro e w2 ⟨rfl,H2,hS2,st2⟩
    have H2':=zH (zA hS2 (HX.out.2.2.2.trans HNW.out (cB.fX HSJ.out st2)))
    clear hS2 st2
    go_wp2
    go_ret
    rw [show rr=(mn,qj,lj,oj,er) from HR.out.trans (if_pos HE.out)]
    exact ⟨rfl,H2,H2'.out⟩
  ·
   obtain rfl:n=j:=by omega
   have g1 : ¬ ((n:Int)<256):=by have:=HN.out;omega
   rw [Nat.sub_self] at hr
   have HR:=zH (show rr=(mj,qj,lj,oj,1400) from hr)
   have HS:=zH (zA hS hov)
   clear hS hok hg hxs hol hov hr
   go_wp2
   go_ret
   rw [HR.out]
   exact ⟨rfl,Hj,HS.out⟩
end
section
open Go.RowKit
variable {X:Nat→Prop}
theorem Kh (p:Int) (h0:0≤p) (h1:p<4096):gX 32 p [] 0:=⟨by decide,h0,h1,fun e=>absurd e (by decide),by decide,by decide,by decide,by decide,by decide⟩
theorem tG (N sv k c b:Nat) (m:aG) (q:Cache) (left out:List Int) (H:Nat→Prop) (w:World) (h:dw X w N sv k c b m q left out H):Calls prog 129 #[.pointer (some ⟨b,0,none⟩)] w fun e w'=>e=.returned (.int .i64 0) ∧ ∃ H',dw X w' N sv k c b m Cache.new left out H'∧Step H H' w w':=by
 obtain ⟨a,cap,v,hB,hS,hN⟩:=h
 refine (AX k c b m q H w hB).mono ?_
 rintro e w' ⟨rfl,H',hB',st⟩
 exact ⟨rfl,H',⟨a,cap,v,hB',hS.step st,hN⟩,st⟩
def dq (m:aG) (p:Int) (reads:List Int):I1 :=
 if (m.run 6 0 [] 0).2.2≠0 then ((m.run 6 0 [] 0).1,Cache.new,reads,[],(m.run 6 0 [] 0).2.2)
 else if ((m.run 6 0 [] 0).1.run 32 p [] 0).2.2≠0 then (((m.run 6 0 [] 0).1.run 32 p [] 0).1,Cache.new,reads,[],((m.run 6 0 [] 0).1.run 32 p [] 0).2.2)
 else cK 256 ((m.run 6 0 [] 0).1.run 32 p [] 0).1 Cache.new reads []
structure tN (w:World) (n x y sv k b:Nat) (p:Int):Prop where
 cx:w.cell? ⟨x,0,none⟩=some (.pointer (some ⟨k,0,none⟩))
 cy:w.cell? ⟨y,0,none⟩=some (.pointer (some ⟨sv,0,none⟩))
 x1:w.cell? ⟨n,0,none⟩=some (.pointer (some ⟨k,0,none⟩))
 y1:w.cell? ⟨n+1,0,none⟩=some (.int .i64 6)
 z1:w.cell? ⟨n+2,0,none⟩=some (.int .i64 0)
 x3:w.cell? ⟨n+3,0,none⟩=some (.pointer (some ⟨k,0,none⟩))
 y3:w.cell? ⟨n+4,0,none⟩=some (.int .i64 32)
 z3:w.cell? ⟨n+5,0,none⟩=some (.int .i64 p)
 f0:w.cell? ⟨n+6,0,none⟩=some (.func (.func 129) #[.pointer (some ⟨b,0,none⟩)] #[])
 f1:w.cell? ⟨n+6,1,none⟩=some (.func (.func 169) #[] #[.pointer (some ⟨n,0,none⟩),.pointer (some ⟨n+1,0,none⟩),.pointer (some ⟨n+2,0,none⟩)])
 f2:w.cell? ⟨n+6,2,none⟩=some (.func (.func 169) #[] #[.pointer (some ⟨n+3,0,none⟩),.pointer (some ⟨n+4,0,none⟩),.pointer (some ⟨n+5,0,none⟩)])
 f3:w.cell? ⟨n+6,3,none⟩=some (.func (.func 126) #[] #[.pointer (some ⟨y,0,none⟩),.pointer (some ⟨x,0,none⟩)])
def pD (w:World) (n x y:Nat) (H:Nat→Prop):Prop:=n+7≤w.heap.size∧x<w.heap.size∧y<w.heap.size ∧ ∀ i,(i=x∨i=y∨(n≤i∧i<n+7)) → ¬ H i
theorem tN.step {w w':World} {n x y sv k b:Nat} {p:Int} {H H':Nat→Prop} (h:tN w n x y sv k b p) (o:pD w n x y H) (st:Step H H' w w'):tN w' n x y sv k b p∧pD w' n x y H':=by
 obtain ⟨o1,o2,o3,d⟩:=o
 have t:=st.aH
 refine ⟨⟨t.cell _ _ h.cx (d _ (by omega)),t.cell _ _ h.cy (d _ (by omega)),t.cell _ _ h.x1 (d _ (by omega)),t.cell _ _ h.y1 (d _ (by omega)),t.cell _ _ h.z1 (d _ (by omega)),t.cell _ _ h.x3 (d _ (by omega)),t.cell _ _ h.y3 (d _ (by omega)),t.cell _ _ h.z3 (d _ (by omega)),t.cell _ _ h.f0 (d _ (by omega)),t.cell _ _ h.f1 (d _ (by omega)),t.cell _ _ h.f2 (d _ (by omega)),t.cell _ _ h.f3 (d _ (by omega))⟩,Nat.le_trans o1 t.size,zV o2 t.size,zV o3 t.size,fun i hi=>st.safe (by rcases hi with rfl | rfl | ⟨h1,h2⟩ <;> omega) (d i hi)⟩
def NA (n x y b:Nat):Nat→MO
 | 0=>⟨129,#[.pointer (some ⟨b,0,none⟩)],#[]⟩
 | 1=>⟨169,#[],#[.pointer (some ⟨n,0,none⟩),.pointer (some ⟨n+1,0,none⟩),.pointer (some ⟨n+2,0,none⟩)]⟩
 | 2=>⟨169,#[],#[.pointer (some ⟨n+3,0,none⟩),.pointer (some ⟨n+4,0,none⟩),.pointer (some ⟨n+5,0,none⟩)]⟩
 | _=>⟨126,#[],#[.pointer (some ⟨y,0,none⟩),.pointer (some ⟨x,0,none⟩)]⟩
theorem MK (args:Array Value) (w:World):(callFunc 129 args).run prog w=.ok (.enter 129 args) w:=by kernel_rfl
theorem MJ (args:Array Value) (w:World):(callFunc 126 args).run prog w=.ok (.enter 126 args) w:=by kernel_rfl
attribute [local irreducible] aG.run bI cK
theorem vt (N sv k c b x y:Nat) (m:aG) (q:Cache) (left out:List Int) (H:Nat→Prop) (w:World) (h:dw X w N sv k c b m q left out H) (ok:m.Ok) (g:q.Good) (hx : ∀ x ∈ left,0≤x∧x<4096) (ho:out.length+left.length≤1000) (cx:w.cell? ⟨x,0,none⟩=some (.pointer (some ⟨k,0,none⟩))) (cy:w.cell? ⟨y,0,none⟩=some (.pointer (some ⟨sv,0,none⟩))):Calls prog 126 #[.pointer (some ⟨y,0,none⟩),.pointer (some ⟨x,0,none⟩)] w fun e w'=>e=.returned (.int .i64 (cK 256 m q left out).2.2.2.2) ∧ ∃ H',dw X w' N sv k c b (cK 256 m q left out).1 (cK 256 m q left out).2.1 (cK 256 m q left out).2.2.1 (cK 256 m q left out).2.2.2.1 H'∧cB N sv H H' w w':=by
 have HW:=zH (DI N sv k c b 256 m q left out H w h ok g hx ho rfl)
 clear h ok g hx ho
 generalize cK 256 m q left out=rr at *
 go_enter func126,ntmps126
 go_wp2_with fail
 refine HW.out.mono ?_
 rintro e w2 ⟨rfl,H2,h2⟩
 have H2':=zH h2
 clear h2
 go_wp2
 go_ret
 exact ⟨rfl,H2,H2'.out⟩
def MV (X:Nat→Prop) (w0:World) (N sv k c b n x y:Nat) (m:aG) (p:Int) (reads:List Int) (H:Nat→Prop):Nat→World→Prop
 | 0,w=>w=w0
 | 1,w=>tN w n x y sv k b p ∧ ∃ H',dw X w N sv k c b m Cache.new reads [] H'∧cB N sv H H' w0 w∧pD w n x y H'
 | 2,w=>tN w n x y sv k b p∧(m.run 6 0 [] 0).2.2=0 ∧ ∃ H',dw X w N sv k c b (m.run 6 0 [] 0).1 Cache.new reads [] H'∧cB N sv H H' w0 w∧pD w n x y H'
 | 3,w=>tN w n x y sv k b p∧(m.run 6 0 [] 0).2.2=0∧((m.run 6 0 [] 0).1.run 32 p [] 0).2.2=0 ∧ ∃ H',dw X w N sv k c b ((m.run 6 0 [] 0).1.run 32 p [] 0).1 Cache.new reads [] H'∧cB N sv H H' w0 w∧pD w n x y H'
 | _,w=>(dq m p reads).2.2.2.2=0 ∧ ∃ H',dw X w N sv k c b (dq m p reads).1 (dq m p reads).2.1 (dq m p reads).2.2.1 (dq m p reads).2.2.2.1 H'∧cB N sv H H' w0 w
def MU (X:Nat→Prop) (w0:World) (N sv k c b:Nat) (m:aG) (p:Int) (reads:List Int) (H:Nat→Prop) (er:Int) (w:World):Prop :=
 er=(dq m p reads).2.2.2.2 ∧ ∃ H',dw X w N sv k c b (dq m p reads).1 (dq m p reads).2.1 (dq m p reads).2.2.1 (dq m p reads).2.2.2.1 H'∧cB N sv H H' w0 w
theorem yo (N sv k c b n x y:Nat) (m:aG) (q:Cache) (p:Int) (reads:List Int) (H:Nat→Prop) (w0:World) (h:dw X w0 N sv k c b m q reads [] H) (ok:m.Ok) (hr : ∀ x ∈ reads,0≤x∧x<4096) (hl:reads.length≤16) (p0:0≤p) (p1:p<4096) (hF:tN w0 n x y sv k b p) (hO:pD w0 n x y H) (hNw:N≤w0.heap.size):Calls prog 128 #[.slice (some ⟨n+6,0,none⟩) 4 4] w0 (pC 4 (MV X w0 N sv k c b n x y m p reads H) (MU X w0 N sv k c b m p reads H)):=by
 have o1:=eu ok 6 0 [] 0 Bi
 have o2:=eu o1 32 p [] 0 (Kh p p0 p1)
 refine nV (n+6) 4 4 (NA n x y b) _ _ w0 rfl (by decide) ?_ ?_ ?_
 ·
  intro j w hj hS
  obtain rfl | rfl | rfl | rfl:j=0∨j=1∨j=2∨j=3:=by omega
  ·
   rw [show w=w0 from hS];exact hF.f0
  ·
   exact hS.1.f1
  ·
   exact hS.1.f2
  ·
   exact hS.1.f3
 ·
  intro j hj args w
  obtain rfl | rfl | rfl | rfl:j=0∨j=1∨j=2∨j=3:=by omega
  ·
   exact MK args w
  ·
   exact Bk args w
  ·
   exact Bk args w
  ·
   exact MJ args w
 ·
  intro j w hj hS
  obtain rfl | rfl | rfl | rfl:j=0∨j=1∨j=2∨j=3:=by omega
  ·
   obtain rfl:w=w0:=hS
   refine (tG N sv k c b m q reads [] H w h).mono ?_
   rintro e w' ⟨rfl,H',hS',st⟩
   obtain ⟨hF',hO'⟩:=hF.step hO st
   exact ⟨_,rfl,.inl ⟨rfl,hF',H',hS',cB.fX h st,hO'⟩⟩
  ·
   obtain ⟨hF1,H1,hS1,hV1,hO1⟩:=hS
   refine (jT N sv k c b n (n+1) (n+2) m Cache.new reads [] H1 6 0 w hS1 ok Bi hF1.x1 hF1.y1 hF1.z1).mono ?_
   rintro e w' ⟨rfl,H',hS',st⟩
   obtain ⟨hF',hO'⟩:=hF1.step hO1 st
   have hV:=hV1.trans hNw (cB.fX hS1 st)
   by_cases he:(m.run 6 0 [] 0).2.2=0
   ·
    exact ⟨_,rfl,.inl ⟨he,hF',he,H',hS',hV,hO'⟩⟩
   ·
    have e:dq m p reads=((m.run 6 0 [] 0).1,Cache.new,reads,[],(m.run 6 0 [] 0).2.2):=if_pos he
    exact ⟨_,rfl,.inr ⟨he,by rw [e],H',by rw [e];exact hS',hV⟩⟩
  ·
   obtain ⟨hF1,he1,H1,hS1,hV1,hO1⟩:=hS
   refine (jT N sv k c b (n+3) (n+4) (n+5) _ Cache.new reads [] H1 32 p w hS1 o1 (Kh p p0 p1) hF1.x3 hF1.y3 hF1.z3).mono ?_
   rintro e w' ⟨rfl,H',hS',st⟩
   obtain ⟨hF',hO'⟩:=hF1.step hO1 st
   have hV:=hV1.trans hNw (cB.fX hS1 st)
   by_cases he:((m.run 6 0 [] 0).1.run 32 p [] 0).2.2=0
   ·
    exact ⟨_,rfl,.inl ⟨he,hF',he1,he,H',hS',hV,hO'⟩⟩
   ·
    have e:dq m p reads=(((m.run 6 0 [] 0).1.run 32 p [] 0).1,Cache.new,reads,[],((m.run 6 0 [] 0).1.run 32 p [] 0).2.2):=(if_neg (by simpa using he1)).trans (if_pos he)
    exact ⟨_,rfl,.inr ⟨he,by rw [e],H',by rw [e];exact hS',hV⟩⟩
  ·
   obtain ⟨hF1,he1,he2,H1,hS1,hV1,hO1⟩:=hS
   refine (vt N sv k c b x y _ Cache.new reads [] H1 w hS1 o2 Cache.mG hr (by simp;omega) hF1.cx hF1.cy).mono ?_
   rintro e w' ⟨rfl,H',hS',hV'⟩
   have hV:=hV1.trans hNw hV'
   have e:dq m p reads=cK 256 ((m.run 6 0 [] 0).1.run 32 p [] 0).1 Cache.new reads []:=(if_neg (by simpa using he1)).trans (if_neg (by simpa using he2))
   by_cases he:(cK 256 ((m.run 6 0 [] 0).1.run 32 p [] 0).1 Cache.new reads []).2.2.2.2=0
   ·
    exact ⟨_,rfl,.inl ⟨he,by rw [e];exact he,H',by rw [e];exact hS',hV⟩⟩
   ·
    exact ⟨_,rfl,.inr ⟨he,by rw [e],H',by rw [e];exact hS',hV⟩⟩
end
section
open Go.RowKit
variable {X:Nat→Prop}
theorem tJ : ∀ (n:Nat) (m:aG) (q:Cache) (left out:List Int),m.Ok→q.Good→(∀ x ∈ left,0≤x∧x<4096)→(cK n m q left out).1.Ok∧(cK n m q left out).2.1.Good∧bH m (cK n m q left out).1∧(∀ x ∈ (cK n m q left out).2.2.1,0≤x∧x<4096)∧(cK n m q left out).2.2.2.1.length+(cK n m q left out).2.2.1.length=out.length+left.length
 | 0,m,q,left,out,ok,g,h=>⟨ok,g,bH.refl m,h,rfl⟩
 | n+1,m,q,left,out,ok,g,h=>by
  have o1:=mC ok
  have h1:=kX m
  unfold cK
  split
  ·
   exact ⟨o1,g,h1,h,rfl⟩
  split
  ·
   exact ⟨o1,g,h1,h,rfl⟩
  cases left with
  | nil =>
   obtain ⟨a1,a2,a3,a4,a5⟩:=tJ n m.di.1 q [] out o1 g h
   exact ⟨a1,a2,h1.trans a3,a4,a5⟩
  | cons x l =>
   have hx:=h x (by simp)
   obtain ⟨s1,s2,s3⟩:=Dv o1 g x l out hx.1
   obtain ⟨l1,l2⟩:=Ax m.di.1 q x l out
   have hl : ∀ y ∈ (ef m.di.1 q x l out).2.2.1,0≤y∧y<4096:=fun y hy=>by
    rcases l1 with e | e
    ·
     rw [e] at hy;exact h y (by simp [hy])
    ·
     rw [e] at hy;exact h y hy
   dsimp only
   split
   ·
    exact ⟨s1,s2,h1.trans s3,hl,by simp;omega⟩
   ·
    obtain ⟨a1,a2,a3,a4,a5⟩:=tJ n _ _ _ (ef m.di.1 q x l out).2.2.2.1 s1 s2 hl
    exact ⟨a1,a2,h1.trans (s3.trans a3),a4,by simp at a5 ⊢;omega⟩
theorem DM {m:aG} (ok:m.Ok) (p:Int) (p0:0≤p) (p1:p<4096) (reads:List Int) (h : ∀ x ∈ reads,0≤x∧x<4096):(dq m p reads).1.Ok∧(dq m p reads).2.1.Good∧bH m (dq m p reads).1∧(∀ x ∈ (dq m p reads).2.2.1,0≤x∧x<4096)∧(dq m p reads).2.2.2.1.length+(dq m p reads).2.2.1.length=reads.length:=by
 have o1:=eu ok 6 0 [] 0 Bi
 have h1:=cO m 6 0 [] 0
 have o2:=eu o1 32 p [] 0 (Kh p p0 p1)
 have h2:=h1.trans (cO (m.run 6 0 [] 0).1 32 p [] 0)
 unfold dq
 split
 ·
  exact ⟨o1,Cache.mG,h1,h,by simp⟩
 split
 ·
  exact ⟨o2,Cache.mG,h2,h,by simp⟩
 ·
  obtain ⟨a1,a2,a3,a4,a5⟩:=tJ 256 _ Cache.new reads [] o2 Cache.mG h
  exact ⟨a1,a2,h2.trans a3,a4,by simpa using a5⟩
def gS (m:aG) (p:Int) (reads:List Int):aG×Cache×List Int×Int :=
 if (dq m p reads).2.2.2.2≠0 then ((dq m p reads).1,(dq m p reads).2.1,[],(dq m p reads).2.2.2.2) else dF (dq m p reads).2.2.1 (dq m p reads).2.2.2.1 (dq m p reads).1 (dq m p reads).2.1
theorem sM {m:aG} (ok:m.Ok) (p:Int) (p0:0≤p) (p1:p<4096) (reads:List Int) (h : ∀ x ∈ reads,0≤x∧x<4096):(gS m p reads).1.Ok∧(gS m p reads).2.1.Good∧bH m (gS m p reads).1:=by
 obtain ⟨a1,a2,a3,a4,a5⟩:=DM ok p p0 p1 reads h
 unfold gS
 split
 ·
  exact ⟨a1,a2,a3⟩
 ·
  obtain ⟨b1,b2,b3⟩:=sm (dq m p reads).2.2.1 (dq m p reads).2.2.2.1 _ _ a1 a2 (fun x hx=>(a4 x hx).1)
  exact ⟨b1,b2,a3.trans b3⟩
theorem ja {xs:List Int} (h:cH xs=true):xs.length≤16 ∧ ∀ x ∈ xs,0≤x∧x<2048:=by
 unfold cH at h
 simp only [Bool.and_eq_true,decide_eq_true_eq,List.all_eq_true] at h
 exact ⟨h.1,fun x hx=>by have:=h.2 x hx;unfold l8 at this;simpa using this⟩
def jB (w:World) (x y k b:Nat) (p:Int):World :=
 ((((((w.alloc (.cells #[.pointer (some ⟨k,0,none⟩)] 85)).alloc (.cells #[.int .i64 6] 3)).alloc (.cells #[.int .i64 0] 3)).alloc (.cells #[.pointer (some ⟨k,0,none⟩)] 85)).alloc (.cells #[.int .i64 32] 3)).alloc (.cells #[.int .i64 p] 3)).alloc (.cells #[.func (.func 129) #[.pointer (some ⟨b,0,none⟩)] #[],.func (.func 169) #[] #[.pointer (some ⟨w.heap.size,0,none⟩),.pointer (some ⟨w.heap.size+1,0,none⟩),.pointer (some ⟨w.heap.size+2,0,none⟩)],.func (.func 169) #[] #[.pointer (some ⟨w.heap.size+3,0,none⟩),.pointer (some ⟨w.heap.size+4,0,none⟩),.pointer (some ⟨w.heap.size+5,0,none⟩)],.func (.func 126) #[] #[.pointer (some ⟨y,0,none⟩),.pointer (some ⟨x,0,none⟩)]] 144)
theorem Fq (w:World) (x y k b:Nat) (p:Int):(jB w x y k b p).heap.size=w.heap.size+7:=by
 show (((((((w.heap.push _).push _).push _).push _).push _).push _).push _).size=_
 simp
theorem uU (w:World) (x y k b:Nat) (p:Int):Below w.heap.size w (jB w x y k b p):=ae (ae (ae (ae (ae (ae (ae zR _) _) _) _) _) _) _
theorem Ma (w:World) (x y sv k b:Nat) (p:Int) (hx:w.cell? ⟨x,0,none⟩=some (.pointer (some ⟨k,0,none⟩))) (hy:w.cell? ⟨y,0,none⟩=some (.pointer (some ⟨sv,0,none⟩))):tN (jB w x y k b p) w.heap.size x y sv k b p:=by
 have hb:=uU w x y k b p
 obtain ⟨h0,h1,h2,h3,h4,h5,h6⟩:=Mk w.heap (.cells #[.pointer (some ⟨k,0,none⟩)] 85) (.cells #[.int .i64 6] 3) (.cells #[.int .i64 0] 3) (.cells #[.pointer (some ⟨k,0,none⟩)] 85) (.cells #[.int .i64 32] 3) (.cells #[.int .i64 p] 3) (.cells #[.func (.func 129) #[.pointer (some ⟨b,0,none⟩)] #[],.func (.func 169) #[] #[.pointer (some ⟨w.heap.size,0,none⟩),.pointer (some ⟨w.heap.size+1,0,none⟩),.pointer (some ⟨w.heap.size+2,0,none⟩)],.func (.func 169) #[] #[.pointer (some ⟨w.heap.size+3,0,none⟩),.pointer (some ⟨w.heap.size+4,0,none⟩),.pointer (some ⟨w.heap.size+5,0,none⟩)],.func (.func 126) #[] #[.pointer (some ⟨y,0,none⟩),.pointer (some ⟨x,0,none⟩)]] 144)
 exact ⟨(hb.cell (p:=⟨x,0,none⟩) (zL w _ hx)).trans hx,(hb.cell (p:=⟨y,0,none⟩) (zL w _ hy)).trans hy,cell_of (show (jB w x y k b p).heap[w.heap.size]? = _ from h0) 0,cell_of (show (jB w x y k b p).heap[w.heap.size+1]? = _ from h1) 0,cell_of (show (jB w x y k b p).heap[w.heap.size+2]? = _ from h2) 0,cell_of (show (jB w x y k b p).heap[w.heap.size+3]? = _ from h3) 0,cell_of (show (jB w x y k b p).heap[w.heap.size+4]? = _ from h4) 0,cell_of (show (jB w x y k b p).heap[w.heap.size+5]? = _ from h5) 0,cell_of (show (jB w x y k b p).heap[w.heap.size+6]? = _ from h6) 0,cell_of (show (jB w x y k b p).heap[w.heap.size+6]? = _ from h6) 1,cell_of (show (jB w x y k b p).heap[w.heap.size+6]? = _ from h6) 2,cell_of (show (jB w x y k b p).heap[w.heap.size+6]? = _ from h6) 3⟩
theorem Bb {w:World} {B N n:Nat} {t:TypeId} {v:Value} {xs:List Value} (h:w.ownsRow N t 1 v n xs) (hB:B≤N):w.ownsRow B t 1 v n xs:=by
 refine ⟨h.1,?_⟩
 rcases h.2 with h2 | ⟨g,cap,cur,e,hb,r⟩
 ·
  exact .inl h2
 ·
  exact .inr ⟨g,cap,cur,e,Nat.le_trans hB hb,r⟩
theorem Fs (k c b cap:Nat) (m:aG) (q:Cache) (sec:Int) (a:Option Addr) (reads:List Int) (H:Nat→Prop) (w:World) (h:fh X w k c b m q H) (ok:m.Ok) (hi:aL w a reads H) (hcap:reads.length≤cap) (hh:0<m.ar.busy.length→m.ar.home<w.heap.size) (hr:cH reads=true) (s0:4≤sec) (s1:sec<8):Calls prog 90 #[.pointer (some ⟨k,0,none⟩),.pointer (some ⟨b,0,none⟩),.int .i64 sec,.slice a reads.length cap] w (vR X k c b (gS m (sec * 512) reads).1 (gS m (sec * 512) reads).2.1 (gS m (sec * 512) reads).2.2.1 (gS m (sec * 512) reads).2.2.2 H w):=by
 have hrl:=ja hr
 have HRD:=zH (fun w1 hw=>oY a cap reads w1 hw (by omega))
 rw [hr] at HRD
 have H0:=zH (zA h (zA ok (zA hi (zA hh hrl))))
 clear h ok hi hh hr
 go_enter func90,ntmps90
 go_upto_region 9 with ((go_at_call 125;refine (HRD.out _ (H0.out.2.2.1.1.aj (ae zR _))).mono ?_;rintro e w1 ⟨rfl,nq,rfl⟩))
 have hbB:Below w.heap.size w ((w.alloc (.cells #[.pointer (some ⟨k,0,none⟩)] 85)).drewN nq):=aY (ae zR _) nq
 have hsB:((w.alloc (.cells #[.pointer (some ⟨k,0,none⟩)] 85)).drewN nq).heap.size=w.heap.size+1:=by show (w.heap.push _).size=_;simp
 have hxB:((w.alloc (.cells #[.pointer (some ⟨k,0,none⟩)] 85)).drewN nq).cell? ⟨w.heap.size,0,none⟩=some (.pointer (some ⟨k,0,none⟩)):=cell_of (show _=_ from af w (.cells #[.pointer (some ⟨k,0,none⟩)] 85)) 0
 generalize (w.alloc (.cells #[.pointer (some ⟨k,0,none⟩)] 85)).drewN nq=wB at *
 have hS1:=Dl (H0.out.1.aj hbB) (H0.out.2.2.1.step (Step.ah hbB)) hcap (fun hl=>by have:=H0.out.2.2.2.1 hl;have:=hbB.size;omega)
 have hb1:Below wB.heap.size wB (wB.alloc (.cells #[.pointer (some ⟨b,0,none⟩),.slice a reads.length cap,.slice none 0 0] 222)):=ae zR _
 have hs1:(wB.alloc (.cells #[.pointer (some ⟨b,0,none⟩),.slice a reads.length cap,.slice none 0 0] 222)).heap.size=w.heap.size+2:=by simp [hsB]
 have hv1:(wB.alloc (.cells #[.pointer (some ⟨b,0,none⟩),.slice a reads.length cap,.slice none 0 0] 222)).heap[w.heap.size+1]? = some (.cells #[.pointer (some ⟨b,0,none⟩),.slice a reads.length cap,.slice none 0 0] 222):=by rw [← hsB];exact af wB _
 generalize wB.alloc (.cells #[.pointer (some ⟨b,0,none⟩),.slice a reads.length cap,.slice none 0 0] 222)=w1 at *
 have hb2:Below w1.heap.size w1 (w1.alloc (.cells #[.pointer (some ⟨w.heap.size+1,0,none⟩)] 220)):=ae zR _
 have hS2:=hS1.aj hb2
 have hy2:(w1.alloc (.cells #[.pointer (some ⟨w.heap.size+1,0,none⟩)] 220)).cell? ⟨w.heap.size+2,0,none⟩=some (.pointer (some ⟨w.heap.size+1,0,none⟩)):=by rw [← hs1];exact cell_of (af w1 _) 0
 have hb3:=gtr hb1 hb2
 have hx2:=(hb3.cell (p:=⟨w.heap.size,0,none⟩) (zL wB _ hxB)).trans hxB
 have hs2:(w1.alloc (.cells #[.pointer (some ⟨w.heap.size+1,0,none⟩)] 220)).heap.size=w.heap.size+3:=by simp [hs1]
 generalize w1.alloc (.cells #[.pointer (some ⟨w.heap.size+1,0,none⟩)] 220)=wA at *
 rw [hsB] at hS2
 have hHlt : ∀ i,H i→i<w.heap.size:=fun i hi=>by
  obtain ⟨G,hc,⟨_,_,_,_,hw⟩,hH,_⟩:=H0.out.1.ex
  rcases (hH i).1 hi with hg | hg
  ·
   exact hc.lt i hg
  ·
   rw [hg];exact (Array.getElem?_eq_some_iff.1 hw.raw).1
 have hXb:=uU wA.drew w.heap.size (w.heap.size+2) k b (sec * 512)
 have hXs:=Fq wA.drew w.heap.size (w.heap.size+2) k b (sec * 512)
 have hdr:wA.drew.heap.size=w.heap.size+3:=hs2
 have hSX:dw X (jB wA.drew w.heap.size (w.heap.size+2) k b (sec * 512)) (w.heap.size+1) (w.heap.size+1) k c b m q reads [] H:=(hS2.aj (au zR)).aj hXb
 have HSX:=zH hSX
 have HF4:=zH (yo (w.heap.size+1) (w.heap.size+1) k c b wA.drew.heap.size w.heap.size (w.heap.size+2) m q (sec * 512) reads H _ hSX H0.out.2.1 (fun x hx=>by have:=hrl.2 x hx;omega) hrl.1 (by omega) (by omega) (Ma wA.drew w.heap.size (w.heap.size+2) (w.heap.size+1) k b (sec * 512) hx2 hy2) ⟨by omega,by omega,by omega,fun i hi hh=>by have:=hHlt i hh;omega⟩ (by omega))
 have hvX:=cell_of (aa hXb (show wA.drew.heap[w.heap.size+1]? = _ from aa (au hb2) hv1)) 2
 have hno : ∀ i,(i=w.heap.size∨i=w.heap.size+2) → ¬ Ao (jB wA.drew w.heap.size (w.heap.size+2) k b (sec * 512)) (w.heap.size+1) H i:=fun i hi hy=>by
  rcases hy with hy | hy | ⟨v',hv,hv2⟩
  ·
   have:=hHlt i hy;omega
  ·
   omega
  ·
   rw [hvX] at hv
   obtain rfl:v'=.slice none 0 0:=by simpa using hv.symm
   simp [Value.ownBlock] at hv2
 have HNO:=zH hno
 have hXx:=(hXb.cell (p:=⟨w.heap.size,0,none⟩) (zL wA.drew _ hx2)).trans hx2
 have hXy:=(hXb.cell (p:=⟨w.heap.size+2,0,none⟩) (zL wA.drew _ hy2)).trans hy2
 have HXC:=zH (zA hXx hXy)
 have HKf:=zH (fun (v:World) (hv:Below wA.heap.size wA v)=>(show v.cell? ⟨w.heap.size,0,none⟩=some (.pointer (some ⟨k,0,none⟩)) from (hv.cell (p:=⟨w.heap.size,0,none⟩) (zL wA _ hx2)).trans hx2))
 have hmul:IntKind.i64.wrap (sec * 512)=sec * 512:=cX (by omega) (by omega)
 have HBB:=zH (zA hbB (zA (gtr hb3 (au zR)) (zA hXb (zA hsB (zA hXs hdr)))))
 have HWO:=zH (DM H0.out.2.1 (sec * 512) (by omega) (by omega) reads (fun x hx=>by have:=hrl.2 x hx;omega))
 have HV:=zH (show gS m (sec * 512) reads=if (dq m (sec * 512) reads).2.2.2.2≠0 then ((dq m (sec * 512) reads).1,(dq m (sec * 512) reads).2.1,[],(dq m (sec * 512) reads).2.2.2.2) else dF (dq m (sec * 512) reads).2.2.1 (dq m (sec * 512) reads).2.2.2.1 (dq m (sec * 512) reads).1 (dq m (sec * 512) reads).2.1 from rfl)
 generalize gS m (sec * 512) reads=rr at *
 generalize hWW:dq m (sec * 512) reads=W at *
 have p1:(w.heap.size+1+1:Nat)=w.heap.size+2:=rfl
 clear hdr hno hvX hv1 hSX hS2 hb3 hb2 hs1 hs2 hx2 hy2 hXx hXy hS1 hb1 hxB hsB hbB hXb hXs hHlt
 refine wp_region_noPanic ?_
 refine wp_region_held_drew (S:=(fun (v:World)=>v.cell? ⟨w.heap.size,0,none⟩=some (.pointer (some ⟨k,0,none⟩)))) (by kernel_rfl) (by (try dsimp only);exact HKf.out _ (au zR)) fun hHeld => ?_
 refine tk 0 ?_
 refine tk 1 ?_
 refine tk 2 ?_
 refine tk 4 ?_
 refine tk 5 ?_
 refine tk 6 ?_
 refine tk 8 ?_
 refine tr 3 fun K hK => ?_
 go_simp
 refine (qO k _ _ _).mono ?_
 rintro e wq ⟨rfl,rfl⟩
 go_wp2_with fail
 refine hK.out _ _ (by (try dsimp only);exact HKf.out _ (au (ae (ae (ae zR _) _) _))) fun hHeld => ?_
 clear hK K
 try simp only [Act.put,zS,zT,zU]
 refine tr 7 fun K hK => ?_
 go_simp
 refine (qO k _ _ _).mono ?_
 rintro e wq ⟨rfl,rfl⟩
 go_wp2_with fail
 refine hK.out _ _ (by (try dsimp only);exact HKf.out _ (au (ae (ae (ae (ae (ae (ae zR _) _) _) _) _) _))) fun hHeld => ?_
 clear hK K
 try simp only [Act.put,zS,zT,zU]
 refine tr 9 fun K hK => ?_
 go_simp
 refine hK.out _ _ (by (try dsimp only);exact HKf.out _ (au (ae (ae (ae (ae (ae (ae (ae zR _) _) _) _) _) _) _))) fun hHeld => ?_
 clear hK K
 try simp only [Act.put,zS,zT,zU]
 refine tr 10 fun K hK => ?_
 go_simp
 refine HF4.out.mono ?_
 rintro e w5 ⟨er,rfl,hcase⟩
 have HC:=zH (show ∃ H',dw X w5 (w.heap.size+1) (w.heap.size+1) k c b W.1 W.2.1 W.2.2.1 W.2.2.2.1 H'∧cB (w.heap.size+1) (w.heap.size+1) H H' (jB wA.drew w.heap.size (w.heap.size+2) k b (sec * 512)) w5∧er=W.2.2.2.2 from (by
  rw [← hWW]
  rcases hcase with ⟨e0,e1,H',h1,h2⟩ | ⟨_,e1,H',h1,h2⟩
  ·
   exact ⟨H',h1,h2,e0.trans e1.symm⟩
  ·
   exact ⟨H',h1,h2,e1⟩))
 have hk5:w5.cell? ⟨w.heap.size,0,none⟩=some (.pointer (some ⟨k,0,none⟩)):=(by
  obtain ⟨H5,hS5,hV5,he5⟩:=HC.out
  exact hV5.2.aH.cell _ _ HXC.out.1 (HNO.out _ (.inl rfl)))
 clear hcase
 go_wp2_with fail
 refine hK.out _ _ (by (try dsimp only);exact hk5) fun hHeld => ?_
 clear hK K
 try simp only [Act.put,zS,zT,zU]
 refine tk 11 ?_
 refine wpAnyH_done (by kernel_rfl) ?_ _
 refine NoPanic.normal ?_
 obtain ⟨H5,hS5,hV5,he5⟩:=HC.out
 have hy5:w5.cell? ⟨w.heap.size+2,0,none⟩=some (.pointer (some ⟨w.heap.size+1,0,none⟩)):=hV5.2.aH.cell _ _ HXC.out.2 (HNO.out _ (.inr rfl))
 have hN0:w.heap.size+1≤(jB wA.drew w.heap.size (w.heap.size+2) k b (sec * 512)).heap.size:=by have:=HBB.out.2.2.2.2.1;have:=HBB.out.2.2.2.2.2;omega
 have hstB:Step H H5 wB w5:=by
  have e1:=HBB.out.2.2.2.1
  have hb:=HBB.out.2.1
  have hbX:Below wB.heap.size wB (jB wA.drew w.heap.size (w.heap.size+2) k b (sec * 512)):=gtr hb HBB.out.2.2.1
  exact lG.step (Step.ah hbX) (by rw [e1];exact hV5.1)
 have hst5:Step H H5 w w5:=(Step.ah HBB.out.1).trans hstB
 by_cases he:er=0
 ·
  have HRS:=zH (xJ (w.heap.size+1) (w.heap.size+1) k c b W.1 W.2.1 W.2.2.1 W.2.2.2.1 H5 w5 hS5 HWO.out.1 HWO.out.2.1 HWO.out.2.2.2.1 (by have:=HWO.out.2.2.2.2;omega))
  have HRR:=zH (show rr=dF W.2.2.1 W.2.2.2.1 W.1 W.2.1 from HV.out.trans (if_neg (by rw [← he5,he];decide)))
  have HST:=zH (zA hstB hst5)
  subst he
  clear hS5 hV5 he5 hN0 hstB hst5
  go_wp2_with fail
  refine HRS.out.mono ?_
  rintro e w6 ⟨v,rfl,H6,hB6,hO6,hn6,ho6⟩
  have H6x:=zH (zA hB6 (zA hO6 (zA hn6 ho6)))
  clear hB6 hO6 hn6 ho6
  go_wp2
  go_ret2
  rw [HRR.out]
  obtain ⟨hB6,hO6,hn6,ho6⟩:=H6x.out
  have hstB6:Step H H6 wB w6:=lG.step HST.out.1 (by rw [HBB.out.2.2.2.1];exact hO6)
  exact ⟨v,rfl,H6,hB6,(Step.ah HBB.out.1).trans hstB6,hn6,fun e0=>⟨Bb (ho6 e0).1 (by omega),(ho6 e0).2⟩⟩
 ·
  have he':(er != 0)=true:=bne_iff_ne.2 he
  have HRR:=zH (show rr=(W.1,W.2.1,[],W.2.2.2.2) from HV.out.trans (if_pos (by rw [← he5];exact he)))
  have HE:=zH (zA he he5)
  have HST:=zH (zA hS5 hst5)
  clear hS5 hV5 he5 hN0 hstB hst5 he
  go_wp2
  go_ret2
  rw [HRR.out]
  obtain ⟨⟨a5,cap5,v5,hB5,hS5,hN5⟩,hst5⟩:=HST.out
  exact ⟨.slice none 0 0,by rw [HE.out.2];rfl,H5,dw.bare hB5 hS5 hN5,hst5,fun _=>rfl,fun e0=>absurd (HE.out.2.trans e0) HE.out.1⟩
end
theorem KE (k b cap:Nat) (sec:Int) (a:Option Addr) (reads:List Int) (w:World) (hi:aP w a reads) (hm:reads.length≤1000000) (hr:cH reads=false) (s0:4≤sec) (s1:sec<8):Calls prog 90 #[.pointer (some ⟨k,0,none⟩),.pointer (some ⟨b,0,none⟩),.int .i64 sec,.slice a reads.length cap] w fun e w'=>e=.returned (.tuple #[.slice none 0 0,.int .i64 1800])∧Below w.heap.size w w':=by
 have HRD:=zH (fun w1 hw=>oY a cap reads w1 hw hm)
 rw [hr] at HRD
 have H0:=zH hi
 clear hi hr
 go_enter func90,ntmps90
 go_wp2_with ((go_at_call 125;refine (HRD.out _ (H0.out.aj (ae zR _))).mono ?_;rintro e w1 ⟨rfl,nq,rfl⟩))
 go_ret2
 exact ⟨rfl,aY (ae zR _) nq⟩
theorem se (s:ByteArray) (w:World):Calls prog 115 #[.string s] w fun e w'=>e=.returned (.bool (decide (1≤s.size)&&decide (s.size≤6)))∧w=w':=by
 by_cases h1:1≤s.size
 ·
  have h1':(1:Int)≤(s.size:Int):=by omega
  by_cases h2:s.size≤6
  ·
   have h2':(s.size:Int)≤6:=by omega
   go_enter func115,ntmps115
   go_wp2
   go_ret
   exact ⟨by simp [h1,h2],rfl⟩
  ·
   have h2' : ¬ (s.size:Int)≤6:=by omega
   go_enter func115,ntmps115
   go_wp2
   go_ret
   exact ⟨by simp [h1,h2],rfl⟩
 ·
  have h1' : ¬ (1:Int)≤(s.size:Int):=by omega
  go_enter func115,ntmps115
  go_wp2
  go_ret
  exact ⟨by simp [h1],rfl⟩
theorem o7 (n:Int) (w:World):Calls prog 114 #[.int .i64 n] w fun e w'=>e=.returned (.bool (decide (1≤n)&&decide (n≤1048576)))∧w=w':=by
 by_cases h1:1≤n
 ·
  by_cases h2:n≤1048576
  ·
   go_enter func114,ntmps114
   go_wp2
   go_ret
   exact ⟨by simp [h1,h2],rfl⟩
  ·
   go_enter func114,ntmps114
   go_wp2
   go_ret
   exact ⟨by simp [h1,h2],rfl⟩
 ·
  have h1':n<1:=by omega
  go_enter func114,ntmps114
  go_wp2
  go_ret
  exact ⟨by simp;omega,rfl⟩
def iw (n:Nat):ByteArray:=⟨(Lib.repeatL [255] n).toArray⟩
theorem B0 (w:World):Calls prog 40 #[] w (jj (iw 4096) w):=by
 have HR:=zH (Tryz.strings_Repeat_main ⟨#[255]⟩ 4096 w (by decide) (by decide) (by decide) (by decide))
 go_enter func40,ntmps40
 go_wp2_with fail
 refine HR.out.mono ?_
 rintro e w1 ⟨rfl,hb⟩
 have HB:=zH hb
 clear hb
 go_wp2
 go_ret
 exact ⟨rfl,HB.out⟩
def dy (s:ByteArray):ByteArray:=⟨(s.data.toList++s.data.toList.map fun x => ~~~x).toArray⟩
theorem ES (s:ByteArray) (w:World) (hs:s.size≠32):Calls prog 46 #[.string s] w fun e w'=>e=.returned (.tuple #[.string ByteArray.empty,.int .i64 200])∧w=w':=by
 have h32:((s.size:Int) != 32)=true:=bne_iff_ne.2 (by omega)
 go_enter func46,ntmps46
 go_wp2
 go_ret2
 exact ⟨rfl,rfl⟩
def dL (l:List UInt8):List Value:=l.map fun x=>.int .u8 (x.toNat:Int)
theorem AR (s:ByteArray) (cap:Nat) (h:s.size≤cap):(bytesRow s cap).size=cap:=by
 unfold bytesRow
 simp only [Array.size_append,Array.size_map,Array.size_replicate]
 have:s.data.size=s.size:=rfl
 omega
theorem Ea (s:ByteArray) (w:World) (cap:Nat) (h:s.size≤cap):Came (w.drew.alloc (.cells (bytesRow s cap) 5 ((bytesRow s cap).size,(bytesRow s cap).size+1))) 1 (some ⟨w.heap.size,0,none⟩) w.heap.size 0 s.size cap (dL s.data.toList):=by
 have hn:=af w.drew (.cells (bytesRow s cap) 5 ((bytesRow s cap).size,(bytesRow s cap).size+1))
 have hn:(w.drew.alloc (.cells (bytesRow s cap) 5 ((bytesRow s cap).size,(bytesRow s cap).size+1))).heap[w.heap.size]? = _:=hn
 refine ⟨h,fun _=>rfl,fun _=>(by show w.heap.size<(w.heap.push _).size;simp),?_,fun j u hu => ?_,fun j hj => ?_⟩
 ·
  simp only [dL,List.length_map,Array.length_toList,Nat.mul_one];rfl
 ·
  have hj:j<s.data.size:=by
   have:=(List.getElem?_eq_some_iff.1 hu).1
   simpa [dL] using this
  rw [Nat.zero_add,cell_of hn j,bytesRow_at s cap j hj]
  have h2:(dL s.data.toList)[j]? = some (.int .u8 (s.data[j].toNat:Int)):=by
   simp only [dL,List.getElem?_map,Array.getElem?_toList,Array.getElem?_eq_getElem hj,Option.map_some]
  rw [← h2];exact hu
 ·
  have hsz:=AR s cap h
  refine ⟨?_,?_⟩
  ·
   rw [cell_of hn]
   rw [Array.getElem?_eq_getElem (by omega)]
   rfl
  ·
   unfold World.frozen?
   rw [hn]
   simp
   omega
theorem LH : ∀ n:Fin 256,((~~~(UInt8.ofNat n.1)).toNat:Int)=bits .xor .u8 IntKind.u8.max (n.1:Int):=by decide
theorem J2 (x:UInt8):((~~~x).toNat:Int)=bits .xor .u8 IntKind.u8.max (x.toNat:Int):=by
 have:=LH ⟨x.toNat,x.toNat_lt⟩
 simpa using this
structure sV (w wr:World) (g cap:Nat) (l:List UInt8):Prop where
 below:Below w.heap.size w wr
 lo:w.heap.size≤g
 le:l.length≤cap
 cells : ∀ j u,(dL l)[j]? = some u→wr.cell? ⟨g,0+j,none⟩=some u
 spare : ∀ j,j<cap - l.length→(wr.cell? ⟨g,0+l.length * 1+j,none⟩).isSome=true∧wr.frozen? ⟨g,0+l.length * 1+j,none⟩=false
theorem sV.start (s:ByteArray) (w:World) (cap:Nat) (h:s.size≤cap):sV w (w.drew.alloc (.cells (bytesRow s cap) 5 ((bytesRow s cap).size,(bytesRow s cap).size+1))) w.heap.size cap s.data.toList:=by
 have hc:=Ea s w cap h
 have hl:s.data.toList.length=s.size:=by rw [Array.length_toList];rfl
 exact ⟨ae (au zR) _,Nat.le_refl _,by rw [hl];exact h,hc.olds,fun j hj=>by rw [hl] at hj ⊢;exact hc.spare j (by omega)⟩
theorem sV.aj {w wr w2:World} {g cap:Nat} {l:List UInt8} (h:sV w wr g cap l) (hg:g<wr.heap.size) (hb:Below wr.heap.size wr w2):sV w w2 g cap l :=
 ⟨gtr h.below hb,h.lo,h.le,fun j u hu=>(hb.cell (p:=⟨g,0+j,none⟩) hg).trans (h.cells j u hu),fun j hj=>by
  obtain ⟨a,b⟩:=h.spare j hj
  rw [hb.cell (p:=⟨g,0+l.length * 1+j,none⟩) hg]
  exact ⟨a,(World.frozen?_of_block (a:=⟨g,0+l.length * 1+j,none⟩) (hb.block g hg)).trans b⟩⟩
theorem sV.room {w wr:World} {g cap:Nat} {l:List UInt8} (h:sV w wr g cap l) (x:UInt8) (hr:l.length+1≤cap):sV w (wr.setCell ⟨g,0+l.length * 1,none⟩ (.int .u8 (x.toNat:Int))) g cap (l++[x]):=by
 obtain ⟨hs,_⟩:=h.spare 0 (by omega)
 obtain ⟨y,hy⟩:=Option.isSome_iff_exists.1 hs
 refine ⟨lg h.below h.lo _,h.lo,by simpa using hr,fun j u hu => ?_,fun j hj => ?_⟩
 ·
  by_cases hj:j=l.length
  ·
   subst hj
   have e:(dL (l++[x]))[l.length]? = some (.int .u8 (x.toNat:Int)):=by simp [dL]
   rw [e] at hu
   rw [show 0+l.length=0+l.length * 1 by omega,← hu]
   exact World.cell?_setCell_same wr _ _ (by simpa using hy)
  ·
   rw [World.cell?_setCell_other _ _ _ _ (by intro e;have:=congrArg Addr.off e;simp at this;omega)]
   refine h.cells j u ?_
   have hlt:j<l.length:=by
    have:=(List.getElem?_eq_some_iff.1 hu).1
    simp [dL] at this;omega
   rw [← hu]
   simp [dL,List.getElem?_append,hlt]
 ·
  simp only [List.length_append,List.length_singleton] at hj ⊢
  obtain ⟨a,b⟩:=h.spare (j+1) (by omega)
  rw [World.cell?_setCell_other _ _ _ _ (by intro e;have:=congrArg Addr.off e;simp at this;omega),show 0+(l.length+1) * 1+j=0+l.length * 1+(j+1) by omega]
  exact ⟨a,(World.frozen?_setCell _ _ _ _).trans b⟩
theorem sV.grow {w wr w2:World} {g cap:Nat} {l:List UInt8} (h:sV w wr g cap l) (l2:List UInt8) (v:Value) (n:Nat) (hn:n=l2.length) (ho:w2.ownsRow wr.heap.size 5 1 v n (dL l2)) (hp:0<l2.length) (hg:wr.grownBy w2 none) : ∃ g2 cap2,v=.slice (some ⟨g2,0,none⟩) n cap2∧sV w w2 g2 cap2 l2:=by
 rcases ho.2 with ⟨_,e⟩ | ⟨g2,cap2,cur,e,hb,hh,hle,_,hcs,ht⟩
 ·
  omega
 ·
  have hbl:Below wr.heap.size wr w2:=⟨hg.os,hg.tape,hg.output,hg.size,fun k hk=>hg.block k hk (by simp)⟩
  refine ⟨g2,cap2,e,gtr h.below hbl,Nat.le_trans h.below.size hb,by omega,fun j u hu => ?_,fun j hj => ?_⟩
  ·
   have hj:j<l2.length:=by
    have:=(List.getElem?_eq_some_iff.1 hu).1
    simpa [dL] using this
   rw [Nat.zero_add,cell_of hh j,← hu,← ht,List.getElem?_take,if_pos (by omega)]
   simp
  ·
   rw [cell_of hh,aF hh]
   refine ⟨?_,rfl⟩
   rw [Array.getElem?_eq_getElem (by omega)]
   rfl
def iE (s:ByteArray) (k:Nat):List UInt8:=s.data.toList++(s.data.toList.take k).map fun x => ~~~x
theorem ET (s:ByteArray) (k:Nat) (h:k≤s.size):(iE s k).length=s.size+k:=by
 have:s.data.size=s.size:=rfl
 simp only [iE,List.length_append,List.length_map,List.length_take,Array.length_toList]
 omega
theorem C3 (s:ByteArray) (k:Nat) (h:k<s.size):iE s (k+1)=iE s k++[~~~(bt s k)]:=by
 have hd:k<s.data.size:=h
 have hk:k<s.data.toList.length:=by rw [Array.length_toList];exact hd
 have hb:bt s k=s.data[k]:=by
  unfold bt
  rw [Array.getD_eq_getD_getElem?,Array.getElem?_eq_getElem hd];rfl
 unfold iE
 rw [List.take_succ_eq_append_getElem hk,hb]
 simp only [List.map_append,List.map_cons,List.map_nil,Array.getElem_toList,List.append_assoc]
theorem me (s:ByteArray) (w:World) (hs:s.size=32):Calls prog 46 #[.string s] w fun e w'=>e=.returned (.tuple #[.string (dy s),.int .i64 0])∧Below w.heap.size w w':=by
 have h32:(s.size:Int)=32:=by omega
 have hconv:=run_bytes_of_string (P:=prog) w 9 29 5 s underlying9 underlying29 underlying5
 have hR:=sV.start s w (grownCap w s.size 0 5) (grownCap_ge w s.size 0 5)
 have HT:=zH (fun k hk=>C3 s k hk)
 have HN:=zH (fun k hk=>ET s k hk)
 have HG:=zH (fun k (hk:k<s.size)=>gT s k hk)
 have HS:=zH hs
 generalize grownCap w s.size 0 5=cap at *
 have hlt0:w.heap.size<(w.drew.alloc (.cells (bytesRow s cap) 5 ((bytesRow s cap).size,(bytesRow s cap).size+1))).heap.size:=by show w.heap.size<(w.heap.push _).size;simp
 generalize w.drew.alloc (.cells (bytesRow s cap) 5 ((bytesRow s cap).size,(bytesRow s cap).size+1))=W at *
 have HR:=zH (zA hR hlt0)
 obtain ⟨i0,hi,hz0,hz1,hz2⟩:=info_parts (show (prog.info? 5).map (fun i=>(i.zero,i.size,i.bytes))=some (some (.int .u8 0),1,1) from mF)
 clear hs hR hlt0
 go_enter func46,ntmps46
 go_wp2
 go_loopw [4,13] (fun v i wr => ∃ (j g c:Nat),j≤32∧i=.int .i64 j∧v=.slice (some ⟨g,0,none⟩) (s.size+j) c∧sV w wr g c (iE s j)∧g<wr.heap.size) (fun _ i _=>32 - (intOf i).toNat)
 case atStart=>exact ⟨0,w.heap.size,cap,Nat.zero_le _,rfl,rfl,by simpa [iE] using HR.out.1,HR.out.2⟩
 case round =>
  obtain ⟨j,g,c,hj,rfl,rfl,hB,hgl⟩:=hrel
  by_cases hlt:j<32
  ·
   have hlt':(j:Int)<32:=by omega
   have hg:=HG.out j (by rw [HS.out];exact hlt)
   have hjs:(j:Int)<(s.size:Int):=by omega
   have hn:(iE s j).length=s.size+j:=HN.out j (by rw [HS.out];omega)
   have HB:=zH (hB.aj hgl (ae zR (.cells #[.int .u8 (bits .xor .u8 IntKind.u8.max ((bt s j).toNat:Int))] 5)))
   have HH:=zH (zA hn hgl)
   have HT2:=zH (HT.out j (by rw [HS.out];exact hlt))
   have hNB:=J2 (bt s j)
   have HNB:=zH hNB
   clear hB hgl hn hNB
   go_wp2_with (at_builtin;refine wpList_append_arg _ rfl (.tmp 16) (.tmp 21) 29 (by rfl) 5 i0 (.int .u8 0) 1 1 underlying29 hi hz0 hz1 hz2 rfl (by decide) g 0 (s.size+j) c (dL (iE s j)) (by rfl) ?lo ?ho ⟨wr.heap.size,0,none⟩ 1 1 [.int .u8 (bits .xor .u8 IntKind.u8.max ((bt s j).toNat:Int))] (by rfl) rfl ?nw ?on ?sp ?b1 ?b2 ?room ?grow)
   case lo=>simp [dL,HH.out.1]
   case ho=>simpa using HB.out.cells
   case on=>simp [Value.oneCell']
   case sp =>
    intro hr
    have h2:=HB.out.spare 0 (by rw [HH.out.1];omega)
    rw [HH.out.1] at h2
    simpa using h2
   case b1=>unfold maxLen;have:=HS.out;omega
   case b2=>have:=HS.out;omega
   case room =>
    intro hr
    have h2:=HB.out.room (~~~(bt s j)) (by rw [HH.out.1];omega)
    rw [HH.out.1,HNB.out,← HT2.out] at h2
    have H2:=zH h2
    clear h2 hr
    go_wp2
    go_roundw
    case rel=>exact ⟨j+1,g,c,by omega,by go_num,by rw [Nat.add_assoc],by simpa [World.setCells] using H2.out,by have:=HH.out.2;simp [World.setCells];omega⟩
    case measure=>simp [intOf];omega
   case grow =>
    intro hr v' w' ho hgr
    have e2:dL (iE s j)++[.int .u8 (bits .xor .u8 IntKind.u8.max ((bt s j).toNat:Int))]=dL (iE s (j+1)):=by rw [HT2.out,← HNB.out];simp [dL]
    rw [e2] at ho
    have hl2:(iE s (j+1)).length=s.size+j+1:=by rw [HT2.out];simp [HH.out.1]
    obtain ⟨g2,c2,rfl,h2⟩:=HB.out.grow (iE s (j+1)) v' (s.size+j+1) hl2.symm (by simpa using ho) (by omega) hgr
    have hgl2:g2<w'.heap.size:=zL w' _ (h2.cells 0 _ (List.getElem?_eq_getElem (by simp [dL];omega)))
    have H2:=zH (zA h2 hgl2)
    clear h2 hr ho hgr e2 hl2 hgl2
    go_wp2
    go_roundw
    case rel=>exact ⟨j+1,g2,c2,by omega,by go_num,by rw [Nat.add_assoc],H2.out.1,H2.out.2⟩
    case measure=>simp [intOf];omega
  ·
   obtain rfl:j=32:=by omega
   have hback:=run_convert_bytes_back (P:=prog) wr 29 9 5 ⟨g,0,none⟩ c (iE s 32) underlying29 underlying5 underlying9 (fun i hi=>by
    rw [dh]
    exact hB.cells i _ (by simp [dL,List.getElem?_eq_getElem hi]))
   rw [HN.out 32 (by rw [HS.out];exact Nat.le_refl _)] at hback
   have HBB:=zH hB.below
   clear hB
   go_wp2
   go_ret2
   refine ⟨?_,HBB.out⟩
   have e:(iE s 32)=s.data.toList++s.data.toList.map fun x => ~~~x:=by
    unfold iE
    rw [List.take_of_length_le (by rw [Array.length_toList];exact Nat.le_of_eq HS.out)]
   simp [dy,e]
theorem fb (s:ByteArray):(dy s).size=2 * s.size:=by
 have:s.data.size=s.size:=rfl
 unfold dy
 simp only [ByteArray.size,List.size_toArray,List.length_append,List.length_map,Array.length_toList]
 omega
theorem jx (a b:ByteArray):(a.toList == b.toList)=decide (a=b):=by
 by_cases h:a=b
 ·
  subst h;simp
 ·
  rw [decide_eq_false h,beq_eq_false_iff_ne]
  intro e
  rw [ByteArray.toList_eq,ByteArray.toList_eq] at e
  exact h (by obtain ⟨a⟩:=a;obtain ⟨b⟩:=b;congr 1;exact Array.toList_inj.1 e)
def fx (t:ByteArray):Option ByteArray:=if t.size=64∧dy (t.extract 0 32)=t then some (t.extract 0 32) else none
def pO (r:Option ByteArray) (er:Int):Value:=match r with | some s=>.tuple #[.string s,.int .i64 0] | none=>.tuple #[.string ByteArray.empty,.int .i64 er]
theorem qd (t:ByteArray) (w:World):Calls prog 25 #[.string t] w fun e w'=>e=.returned (pO (fx t) 200)∧Below w.heap.size w w':=by
 by_cases h32:32≤t.size
 ·
  have e1:(min 32 (t.size:Int)).toNat=32:=by omega
  have hs:(t.extract 0 32).size=32:=by simp;omega
  by_cases he:dy (t.extract 0 32)=t
  ·
   have er:fx t=some (t.extract 0 32):=by
    unfold fx
    rw [if_pos ⟨by have:=fb (t.extract 0 32);rw [he,hs] at this;omega,he⟩]
   rw [er]
   have HE:=zH he
   clear he er
   go_enter func25,ntmps25
   go_wp2_with fail
   refine (me _ w hs).mono ?_
   rintro e w1 ⟨rfl,hb⟩
   rw [HE.out]
   go_wp2
   go_ret2
   exact ⟨rfl,hb⟩
  ·
   have er:fx t=none:=by
    unfold fx
    rw [if_neg (fun h=>he h.2)]
   rw [er]
   clear er
   have hne:(!(dy (t.extract 0 32)).toList == t.toList)=true:=by rw [jx,decide_eq_false he];rfl
   go_enter func25,ntmps25
   go_wp2_with fail
   refine (me _ w hs).mono ?_
   rintro e w1 ⟨rfl,hb⟩
   go_wp2
   go_ret2
   exact ⟨rfl,hb⟩
 ·
  have er:fx t=none:=by
   unfold fx
   rw [if_neg (fun h=>h32 (by omega))]
  rw [er]
  clear er
  have hs:(t.extract 0 (min 32 (t.size:Int)).toNat).size≠32:=by
   have e1:(min 32 (t.size:Int)).toNat=t.size:=by omega
   rw [e1]
   simp;omega
  go_enter func25,ntmps25
  go_wp2_with fail
  refine (ES _ w hs).mono ?_
  rintro e w1 ⟨rfl,rfl⟩
  go_wp2
  go_ret2
  exact ⟨rfl,Below.refl _ _⟩
structure aX where
 kind:Int
 an:Int
 key:ByteArray
 value:ByteArray
def aX.cells (r:aX):Array Value := #[.int .i64 r.kind,.int .i64 r.an,.string r.key,.string r.value]
def A1 (s:ByteArray):Bool:=decide (1≤s.size)&&decide (s.size≤6)
def oF (n:Int):Bool:=decide (1≤n)&&decide (n≤1048576)
def lu (s:ByteArray):Bool:=s.toList.isEmpty
def bD (r:aX):Bool :=
 if r.kind=0 then oF r.an&&lu r.key&&lu r.value
 else if r.kind=1 then decide (r.an=0)&&A1 r.key&&decide (r.value.size≤20)
 else if r.kind=2 then decide (r.an=0)&&A1 r.key&&lu r.value else false
theorem sj (r:aX) (w:World):Calls prog 76 #[.agg r.cells] w (vx (bD r) w):=by
 unfold aX.cells
 go_enter func76,ntmps76
 go_wp2_with (first
  | (go_at_call 114;refine (o7 _ _).mono ?_;rintro e w' ⟨rfl,rfl⟩)
  | (go_at_call 115;refine (se _ _).mono ?_;rintro e w' ⟨rfl,rfl⟩))
 all_goals
  go_ret
  refine ⟨?_,ae zR _⟩
  simp_all [bD,lu,A1,oF]
  try omega
  try (intros;omega)
def dW (s:ByteArray) (n:Nat):ByteArray:=s++⟨Array.replicate (n - s.size) 0⟩
theorem dg (s:ByteArray) (n:Nat) (h:s.size≤n):(dW s n).size=n:=by
 unfold dW
 rw [ByteArray.size_append]
 show s.size+(Array.replicate (n - s.size) 0).size=n
 rw [Array.size_replicate]
 omega
theorem qN (b:UInt8) (n:Nat):Lib.repeatL [b] n=List.replicate n b:=by
 induction n with
 | zero=>rfl
 | succ n ih=>simp [Lib.repeatL,ih,List.replicate_succ]
theorem qe (b:UInt8) (n:Nat) (w:World) (hn:n≤100000):Calls prog 72 #[.string ⟨#[b]⟩,.int .i64 n] w (jj ⟨(List.replicate n b).toArray⟩ w):=by
 match n with
 | 0=>exact (Tryz.strings_Repeat_zero ⟨#[b]⟩ w).mono fun e w' h=>⟨h.1,by rw [h.2];exact Below.refl _ _⟩
 | 1=>exact (Tryz.strings_Repeat_one ⟨#[b]⟩ w).mono fun e w' h=>⟨h.1,by rw [h.2];exact Below.refl _ _⟩
 | n+2 =>
  refine (Tryz.strings_Repeat_main ⟨#[b]⟩ (n+2) w (by omega) (by omega) (by simp [ByteArray.size];omega) (by simp [ByteArray.size])).mono fun e w' h=>⟨?_,h.2⟩
  rw [h.1,qN]
theorem rS (s:ByteArray) (n:Nat) (w:World) (hs:s.size≤n) (hn:n≤4096):Calls prog 77 #[.string s,.int .i64 n] w (jj (dW s n) w):=by
 have hz:(n:Int) - (s.size:Int)=((n - s.size:Nat):Int):=by omega
 have HZ:=zH (show wrap64 ((n:Int) - (s.size:Int))=((n - s.size:Nat):Int) by unfold wrap64;omega)
 go_enter func77,ntmps77
 go_wp2_with fail
 refine (qe 0 (n - s.size) w (by omega)).mono ?_
 rintro e w1 ⟨rfl,hb⟩
 go_wp2
 go_ret
 refine ⟨?_,hb⟩
 simp [dW]
def headText (r:aX):ByteArray:=⟨#[UInt8.ofNat r.key.size,UInt8.ofNat r.value.size,0]⟩++r.key
def bY (r:aX):ByteArray :=
 if r.kind=0 then ⟨#[72]⟩++lO r.an.toNat else if r.kind=1 then dW (⟨#[82]⟩++headText r) 10++r.value else ⟨#[84]⟩++headText r
def qo (w:World) (b:Nat) (r:aX):Prop := ∃ t f,w.heap[b]? = some (.cells r.cells t f)
theorem qo.cell {w:World} {b:Nat} {r:aX} (h:qo w b r):w.cell? ⟨b,0,none⟩=some (.int .i64 r.kind)∧w.cell? ⟨b,1,none⟩=some (.int .i64 r.an)∧w.cell? ⟨b,2,none⟩=some (.string r.key)∧w.cell? ⟨b,3,none⟩=some (.string r.value):=by
 obtain ⟨t,f,h⟩:=h
 exact ⟨cell_of h 0,cell_of h 1,cell_of h 2,cell_of h 3⟩
theorem qo.aj {w w':World} {b:Nat} {r:aX} (h:qo w b r) (hb:Below w.heap.size w w'):qo w' b r:=by
 obtain ⟨t,f,h⟩:=h
 exact ⟨t,f,aa hb h⟩
theorem j9 {s:ByteArray} (h:lu s=true):s.size=0:=by
 unfold lu at h
 rw [ByteArray.toList_eq] at h
 have:s.data.toList=[]:=by simpa using h
 have:s.data.size=0:=by rw [← Array.length_toList,this];rfl
 exact this
theorem tm {r:aX} (h:bD r=true):r.key.size≤6∧r.value.size≤20:=by
 unfold bD at h
 split at h
 ·
  simp only [Bool.and_eq_true] at h
  rw [j9 h.1.2,j9 h.2];decide
 ·
  split at h
  ·
   simp [A1] at h;omega
  ·
   split at h
   ·
    simp only [Bool.and_eq_true,A1,decide_eq_true_eq] at h
    rw [j9 h.2];omega
   ·
    cases h
theorem Ev (r:aX) (b:Nat) (w:World) (h:qo w b r) (hm:bD r=true):Calls prog 78 #[.pointer (some ⟨b,0,none⟩)] w (jj (bY r) w):=by
 obtain ⟨c0,c1,c2,c3⟩:=h.cell
 obtain ⟨hk,hv⟩:=tm hm
 have hbl:b<w.heap.size:=zL w _ c0
 have hconv:=run_convert_bytes_back (P:=prog) (w.alloc (.cells #[.int .u8 (r.key.size:Int),.int .u8 (r.value.size:Int),.int .u8 0] 5)).drew 29 9 5 ⟨w.heap.size,0,none⟩ 3 [UInt8.ofNat r.key.size,UInt8.ofNat r.value.size,0] underlying29 underlying5 underlying9 (fun i hi=>by
  rw [dh]
  show (w.alloc _).cell? _=_
  rw [cell_of (af w _)]
  match i,hi with
  | 0,_=>simp;omega
  | 1,_=>simp;omega
  | 2,_=>simp)
 simp only [List.length_cons,List.length_nil] at hconv
 go_enter func78,ntmps78
 go_wp2_with fail
 go_region
 have hb1:Below w.heap.size w (w.alloc (.cells #[.int .u8 (r.key.size:Int),.int .u8 (r.value.size:Int),.int .u8 0] 5)).drew:=au (ae zR _)
 generalize (w.alloc (.cells #[.int .u8 (r.key.size:Int),.int .u8 (r.value.size:Int),.int .u8 0] 5)).drew=W at *
 have h2:=h.aj hb1
 clear hconv c0 c1 c2 c3
 obtain ⟨c0,c1,c2,c3⟩:=h2.cell
 have HT:=zH (show headText r=⟨#[UInt8.ofNat r.key.size,UInt8.ofNat r.value.size,0]⟩++r.key from rfl)
 have hhs:(headText r).size≤9:=by
  unfold headText
  rw [ByteArray.size_append]
  show 3+r.key.size≤9
  omega
 have H0:=zH (show r.kind=0→(∃ n:Nat,n<4294967296∧r.an=n)∧bY r=⟨#[72]⟩++lO r.an.toNat from fun e=>⟨by
  have:=hm
  unfold bD at this
  rw [if_pos e] at this
  simp [oF] at this
  exact ⟨r.an.toNat,by omega,by omega⟩,by unfold bY;rw [if_pos e]⟩)
 have H1:=zH (show r.kind=1→bY r=dW (⟨#[82]⟩++headText r) 10++r.value from fun e=>by unfold bY;rw [if_neg (by rw [e];decide),if_pos e])
 have H2:=zH (show r.kind≠0→r.kind≠1→bY r=⟨#[84]⟩++headText r from fun e e'=>by unfold bY;rw [if_neg e,if_neg e'])
 generalize bY r=hft at *
 generalize headText r=ht at *
 rw [← HT.out]
 have HB:=zH hb1
 clear HT hm h h2 hb1
 obtain ⟨kd,ep,key,val⟩:=r
 simp only at *
 by_cases k0:kd=0
 ·
  obtain ⟨⟨n,hn,rfl⟩,rfl⟩:=H0.out k0
  subst k0
  have HL:=zH (fun w=>pM n w hn)
  clear H0 H1 H2 hn
  rw [Int.toNat_natCast]
  go_wp2_with fail
  refine (HL.out _).mono ?_
  rintro e w1 ⟨rfl,hb⟩
  have HB2:=zH hb
  clear hb
  go_wp2
  go_ret
  exact ⟨rfl,gtr HB.out HB2.out⟩
 ·
  by_cases k1:kd=1
  ·
   obtain rfl:=H1.out k1
   subst k1
   have HP:=zH (fun w=>rS (⟨#[82]⟩++ht) 10 w (by rw [ByteArray.size_append];show 1+ht.size≤10;omega) (by decide))
   have hps:=dg (⟨#[82]⟩++ht) 10 (by rw [ByteArray.size_append];show 1+ht.size≤10;omega)
   generalize dW (⟨#[82]⟩++ht) 10=pt at *
   clear H0 H1 H2 k0
   have hbW:b<W.heap.size:=zL W _ c0
   go_wp2_with fail
   go_region_with (go_at_call 77;refine (HP.out _).mono ?_;rintro e w3 ⟨rfl,hb3⟩;have c3':w3.cell? ⟨b,3,none⟩=some (.string val):=(hb3.cell (p:=⟨b,3,none⟩) hbW).trans c3;have HB3:=zH hb3;clear hb3)
   all_goals
    go_wp2
    go_ret
    exact ⟨rfl,gtr (au HB.out) HB3.out⟩
  ·
   obtain rfl:=H2.out k0 k1
   clear H0 H1 H2
   go_wp2
   go_ret
   exact ⟨rfl,HB.out⟩
end Go.Proofs.YtcfdenckiigdaaaGreat

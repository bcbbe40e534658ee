/- Part 22 of the contracts. -/
import Derived.Test.YtcfdenckiigdaaaGreatKp21
set_option linter.unusedVariables false
set_option maxRecDepth 100000
set_option maxHeartbeats 4000000
namespace Go.Proofs.YtcfdenckiigdaaaGreat
section
open Go.RowKit
theorem qsy:qcR 117 0 [] 0:=⟨by decide,by decide,by decide,fun _=>rfl,by decide,by decide,by decide,by decide,by decide⟩
theorem quO:qcR 122 0 [] 0:=⟨by decide,by decide,by decide,fun _=>rfl,by decide,by decide,by decide,by decide,by decide⟩
abbrev quV:=Ctl×Cache×List Int×List Int×Int
def suspR (m:Ctl) (q:Cache) (x:Int) (left out:List Int):quV :=
 if (m.run 117 0 [] 0).2.2≠0 then ((m.run 117 0 [] 0).1,q,x::left,out,(m.run 117 0 [] 0).2.2)
 else if (oneR (m.run 117 0 [] 0).1 q x left out).2.2.2.2≠0 then oneR (m.run 117 0 [] 0).1 q x left out
 else (((oneR (m.run 117 0 [] 0).1 q x left out).1.run 122 0 [] 0).1,(oneR (m.run 117 0 [] 0).1 q x left out).2.1,(oneR (m.run 117 0 [] 0).1 q x left out).2.2.1,(oneR (m.run 117 0 [] 0).1 q x left out).2.2.2.1,((oneR (m.run 117 0 [] 0).1 q x left out).1.run 122 0 [] 0).2.2)
theorem qsg {m:Ctl} (ok:m.Ok) {q:Cache} (g:q.Good) (x:Int) (left out:List Int) (x0:0≤x):(oneR m q x left out).1.Ok∧(oneR m q x left out).2.1.Good∧qaF m (oneR m q x left out).1:=by
 have h:=qd5 ok g x 1 x0
 unfold oneR
 split <;> exact h
theorem qpq {m:Ctl} (ok:m.Ok) {q:Cache} (g:q.Good) (x:Int) (left out:List Int) (x0:0≤x):(suspR m q x left out).1.Ok∧(suspR m q x left out).2.1.Good∧qaF m (suspR m q x left out).1:=by
 have o1:=qbu ok 117 0 [] 0 qsy
 have h1:=qaI m 117 0 [] 0
 obtain ⟨o2,g2,h2⟩:=qsg o1 g x left out x0
 unfold suspR
 split
 ·
  exact ⟨o1,g,h1⟩
 split
 ·
  exact ⟨o2,g2,h1.trans h2⟩
 ·
  exact ⟨qbu o2 _ _ _ _ quO,g2,(h1.trans h2).trans (qaI _ _ _ _ _)⟩
theorem qbi.ctl {w w':World} {N sv k c b:Nat} {m m':Ctl} {q:Cache} {left out:List Int} {H:Nat→Prop} {a:Option Addr} {cap:Nat} {v:Value} {G G':Nat→Prop} (hw:qgI w b k q (fun i=>G i∨qlp sv v i)) (hH : ∀ i,H i ↔ (G i∨i=b)) (hh:0<m.chip.busy.length→m.chip.home≠b) (hS:qhd w N sv b a cap v left out H) (hN:0<m.chip.busy.length→m.chip.home<N) (hm:qaF m m') (hc:qaL (qlp sv v) w' k c m' G') (st:Step G G' w w'):qbi w' N sv k c b m' q left out (fun i=>G' i∨i=b)∧Step H (fun i=>G' i∨i=b) w w':=by
 have stH:Step H (fun i=>G' i∨i=b) w w':=st.both hH (fun _=>Iff.rfl)
 exact ⟨⟨a,cap,v,Both.ctl hw hh hm hc st,hS.step stH,fun hl=>by rw [hm.1];exact hN (Nat.lt_of_lt_of_le hl hm.2)⟩,stH⟩
theorem qbi.later {w w':World} {N sv k c b:Nat} {m:Ctl} {q:Cache} {left out:List Int} {H:Nat→Prop} (h:qbi w N sv k c b m q left out H) (hb:Below w.heap.size w w'):qbi w' N sv k c b m q left out H:=by
 obtain ⟨a,cap,v,hB,hS,hN⟩:=h
 exact ⟨a,cap,v,hB.later hb,hS.step (Step.of_below hb),hN⟩
theorem qcX (N sv k c b x y z:Nat) (m:Ctl) (q:Cache) (left out:List Int) (H:Nat→Prop) (op p:Int) (w:World) (h:qbi w N sv k c b m q left out H) (ok:m.Ok) (rok:qcR op p [] 0) (hx:w.cell? ⟨x,0,none⟩=some (.pointer (some ⟨k,0,none⟩))) (hy:w.cell? ⟨y,0,none⟩=some (.int .i64 op)) (hz:w.cell? ⟨z,0,none⟩=some (.int .i64 p)):Calls Tryz.prog 169 #[.pointer (some ⟨x,0,none⟩),.pointer (some ⟨y,0,none⟩),.pointer (some ⟨z,0,none⟩)] w fun e w'=>e=.returned (.int .i64 (m.run op p [] 0).2.2) ∧ ∃ H',qbi w' N sv k c b (m.run op p [] 0).1 q left out H'∧Step H H' w w':=by
 obtain ⟨a,cap,v,hB,hS,hN⟩:=h
 obtain ⟨G,hc,hw,hH,hh⟩:=hB.ex
 refine (qmT k c x y z m G op p w hx hy hz hc ok rok).mono ?_
 rintro e w' ⟨rfl,G',hc',st⟩
 exact ⟨rfl,_,qbi.ctl hw hH hh hS hN (qaI m op p [] 0) hc' st⟩
structure qnh (w:World) (n sv k:Nat):Prop where
 x1:w.cell? ⟨n,0,none⟩=some (.pointer (some ⟨k,0,none⟩))
 y1:w.cell? ⟨n+1,0,none⟩=some (.int .i64 117)
 z1:w.cell? ⟨n+2,0,none⟩=some (.int .i64 0)
 x3:w.cell? ⟨n+3,0,none⟩=some (.pointer (some ⟨k,0,none⟩))
 y3:w.cell? ⟨n+4,0,none⟩=some (.int .i64 122)
 z3:w.cell? ⟨n+5,0,none⟩=some (.int .i64 0)
 f1:w.cell? ⟨n+6,0,none⟩=some (.func (.func 169) #[] #[.pointer (some ⟨n,0,none⟩),.pointer (some ⟨n+1,0,none⟩),.pointer (some ⟨n+2,0,none⟩)])
 f2:w.cell? ⟨n+6,1,none⟩=some (.func (.func 168) #[.pointer (some ⟨sv,0,none⟩)] #[])
 f3:w.cell? ⟨n+6,2,none⟩=some (.func (.func 169) #[] #[.pointer (some ⟨n+3,0,none⟩),.pointer (some ⟨n+4,0,none⟩),.pointer (some ⟨n+5,0,none⟩)])
theorem qnh.touch {w w':World} {n sv k:Nat} {F:Nat→Prop} (h:qnh w n sv k) (t:Touch F w w') (d : ∀ i,n≤i→i<n+7 → ¬ F i):qnh w' n sv k :=
 ⟨t.cell _ _ h.x1 (d _ (by omega) (by omega)),t.cell _ _ h.y1 (d _ (by omega) (by omega)),t.cell _ _ h.z1 (d _ (by omega) (by omega)),t.cell _ _ h.x3 (d _ (by omega) (by omega)),t.cell _ _ h.y3 (d _ (by omega) (by omega)),t.cell _ _ h.z3 (d _ (by omega) (by omega)),t.cell _ _ h.f1 (d _ (by omega) (by omega)),t.cell _ _ h.f2 (d _ (by omega) (by omega)),t.cell _ _ h.f3 (d _ (by omega) (by omega))⟩
def qw8 (n sv:Nat):Nat→FnV
 | 0=>⟨169,#[],#[.pointer (some ⟨n,0,none⟩),.pointer (some ⟨n+1,0,none⟩),.pointer (some ⟨n+2,0,none⟩)]⟩
 | 1=>⟨168,#[.pointer (some ⟨sv,0,none⟩)],#[]⟩
 | _=>⟨169,#[],#[.pointer (some ⟨n+3,0,none⟩),.pointer (some ⟨n+4,0,none⟩),.pointer (some ⟨n+5,0,none⟩)]⟩
def qni (w:World) (n sv:Nat) (H:Nat→Prop):Prop:=n+7≤w.heap.size ∧ ∀ i,n≤i→i<n+7 → ¬ qqJ w sv H i
attribute [local irreducible] Ctl.run readR
def qwF (w0:World) (N sv k c b n:Nat) (m:Ctl) (q:Cache) (x:Int) (left out:List Int) (H:Nat→Prop):Nat→World→Prop
 | 0,w=>w=w0
 | 1,w=>qnh w n sv k∧(m.run 117 0 [] 0).2.2=0 ∧ ∃ H',qbi w N sv k c b (m.run 117 0 [] 0).1 q (x::left) out H'∧qaG N sv H H' w0 w∧qni w n sv H'
 | 2,w=>qnh w n sv k∧(m.run 117 0 [] 0).2.2=0∧(oneR (m.run 117 0 [] 0).1 q x left out).2.2.2.2=0 ∧ ∃ H',qbi w N sv k c b (oneR (m.run 117 0 [] 0).1 q x left out).1 (oneR (m.run 117 0 [] 0).1 q x left out).2.1 (oneR (m.run 117 0 [] 0).1 q x left out).2.2.1 (oneR (m.run 117 0 [] 0).1 q x left out).2.2.2.1 H'∧qaG N sv H H' w0 w
 | _,w=>(suspR m q x left out).2.2.2.2=0 ∧ ∃ H',qbi w N sv k c b (suspR m q x left out).1 (suspR m q x left out).2.1 (suspR m q x left out).2.2.1 (suspR m q x left out).2.2.2.1 H'∧qaG N sv H H' w0 w
def qwE (w0:World) (N sv k c b:Nat) (m:Ctl) (q:Cache) (x:Int) (left out:List Int) (H:Nat→Prop) (er:Int) (w:World):Prop :=
 er=(suspR m q x left out).2.2.2.2 ∧ ∃ H',qbi w N sv k c b (suspR m q x left out).1 (suspR m q x left out).2.1 (suspR m q x left out).2.2.1 (suspR m q x left out).2.2.2.1 H'∧qaG N sv H H' w0 w
theorem qww (args:Array Value) (w:World):(callFunc 168 args).run Tryz.prog w=.ok (.enter 168 args) w:=by kernel_rfl
theorem qqN (N sv k c b n:Nat) (m:Ctl) (q:Cache) (x:Int) (left out:List Int) (H:Nat→Prop) (w0:World) (h:qbi w0 N sv k c b m q (x::left) out H) (ok:m.Ok) (g:q.Good) (x0:0≤x) (x1:x<4096) (ho:out.length≤1000) (hF:qnh w0 n sv k) (hO:qni w0 n sv H) (hNw:N≤w0.heap.size):Calls Tryz.prog 128 #[.slice (some ⟨n+6,0,none⟩) 3 3] w0 (qfX 3 (qwF w0 N sv k c b n m q x left out H) (qwE w0 N sv k c b m q x left out H)):=by
 have o1:=qbu ok 117 0 [] 0 qsy
 obtain ⟨o2,g2,h2⟩:=qsg o1 g x left out x0
 refine qeU (n+6) 3 3 (qw8 n sv) _ _ w0 rfl (by decide) ?_ ?_ ?_
 ·
  intro j w hj hS
  obtain rfl | rfl | rfl:j=0∨j=1∨j=2:=by omega
  ·
   rw [show w=w0 from hS];exact hF.f1
  ·
   exact hS.1.f2
  ·
   exact hS.1.f3
 ·
  intro j hj args w
  obtain rfl | rfl | rfl:j=0∨j=1∨j=2:=by omega
  ·
   exact qpl args w
  ·
   exact qww args w
  ·
   exact qpl args w
 ·
  intro j w hj hS
  obtain rfl | rfl | rfl:j=0∨j=1∨j=2:=by omega
  ·
   obtain rfl:w=w0:=hS
   refine (qcX N sv k c b n (n+1) (n+2) m q (x::left) out H 117 0 w h ok qsy hF.x1 hF.y1 hF.z1).mono ?_
   rintro e w' ⟨rfl,H',hS',st⟩
   by_cases he:(m.run 117 0 [] 0).2.2=0
   ·
    refine ⟨_,rfl,.inl ⟨he,hF.touch st.touch (fun i h1 h2 hh=>hO.2 i h1 h2 (.inl hh)),he,H',hS',qaG.of_step h st,Nat.le_trans hO.1 st.touch.size,fun i h1 h2 hy => ?_⟩⟩
    have hil:i<w.heap.size:=by have:=hO.1;omega
    rcases hy with hy | hy | ⟨v,hv,hv2⟩
    ·
     exact (st.foot i hy).elim (fun hh=>hO.2 i h1 h2 (.inl hh)) (fun hl=>by omega)
    ·
     exact hO.2 i h1 h2 (.inr (.inl hy))
    ·
     obtain ⟨a,cap,v',hB,hSv,hN⟩:=h
     have e1:w.cell? ⟨sv,2,none⟩=some v':=qaa hSv.raw 2
     have e2:=st.touch.cell _ _ e1 hSv.far
     rw [hv] at e2
     obtain rfl:v=v':=by simpa using e2
     exact hO.2 i h1 h2 (.inr (.inr ⟨v,e1,hv2⟩))
   ·
    have e:suspR m q x left out=((m.run 117 0 [] 0).1,q,x::left,out,(m.run 117 0 [] 0).2.2):=if_pos he
    exact ⟨_,rfl,.inr ⟨he,by rw [e],H',by rw [e];exact hS',qaG.of_step h st⟩⟩
  ·
   obtain ⟨hF1,he1,H1,hS1,hO1,hf1⟩:=hS
   refine (qmy N sv k c b (m.run 117 0 [] 0).1 q x left out H1 w hS1 o1 g x0 x1 ho).mono ?_
   rintro e w' ⟨rfl,H',hS',hOv⟩
   have hov:=hO1.trans hNw hOv
   by_cases he:(oneR (m.run 117 0 [] 0).1 q x left out).2.2.2.2=0
   ·
    exact ⟨_,rfl,.inl ⟨he,hF1.touch hOv.2.touch hf1.2,he1,he,H',hS',hov⟩⟩
   ·
    have e:suspR m q x left out=oneR (m.run 117 0 [] 0).1 q x left out:=(if_neg (by simpa using he1)).trans (if_pos he)
    exact ⟨_,rfl,.inr ⟨he,by rw [e],H',by rw [e];exact hS',hov⟩⟩
  ·
   obtain ⟨hF1,he1,he2,H1,hS1,hO1⟩:=hS
   refine (qcX N sv k c b (n+3) (n+4) (n+5) _ _ _ _ H1 122 0 w hS1 o2 quO hF1.x3 hF1.y3 hF1.z3).mono ?_
   rintro e w' ⟨rfl,H',hS',st⟩
   have hov:=hO1.trans hNw (qaG.of_step hS1 st)
   have e:suspR m q x left out=(((oneR (m.run 117 0 [] 0).1 q x left out).1.run 122 0 [] 0).1,(oneR (m.run 117 0 [] 0).1 q x left out).2.1,(oneR (m.run 117 0 [] 0).1 q x left out).2.2.1,(oneR (m.run 117 0 [] 0).1 q x left out).2.2.2.1,((oneR (m.run 117 0 [] 0).1 q x left out).1.run 122 0 [] 0).2.2) :=
    (if_neg (by simpa using he1)).trans (if_neg (by simpa using he2))
   by_cases he:((oneR (m.run 117 0 [] 0).1 q x left out).1.run 122 0 [] 0).2.2=0
   ·
    exact ⟨_,rfl,.inl ⟨he,by rw [e];exact he,H',by rw [e];exact hS',hov⟩⟩
   ·
    exact ⟨_,rfl,.inr ⟨he,by rw [e],H',by rw [e];exact hS',hov⟩⟩
end
section
open Go.RowKit
def waitsR:Nat→Ctl→Cache→List Int→List Int→quV
 | 0,m,q,left,out=>(m,q,left,out,1400)
 | n+1,m,q,left,out =>
  if m.busyR.2.2≠0 then (m.busyR.1,q,left,out,m.busyR.2.2)
  else if m.busyR.2.1=false then (m.busyR.1,q,left,out,0)
  else match left with
   | []=>waitsR n m.busyR.1 q [] out
   | x::l=>if (suspR m.busyR.1 q x l out).2.2.2.2≠0 then suspR m.busyR.1 q x l out else waitsR n (suspR m.busyR.1 q x l out).1 (suspR m.busyR.1 q x l out).2.1 (suspR m.busyR.1 q x l out).2.2.1 (suspR m.busyR.1 q x l out).2.2.2.1
theorem qdG (m:Ctl):qaF m m.busyR.1:=qaI m 5 0 [] 1
theorem qt6 (m:Ctl) (q:Cache) (x:Int) (left out:List Int):((oneR m q x left out).2.2.1=left∨(oneR m q x left out).2.2.1=x::left)∧(oneR m q x left out).2.2.2.1.length+(oneR m q x left out).2.2.1.length=out.length+left.length+1:=by
 unfold oneR
 split
 ·
  exact ⟨.inr rfl,by simp;omega⟩
 ·
  exact ⟨.inl rfl,by simp;omega⟩
theorem qm0 (m:Ctl) (q:Cache) (x:Int) (left out:List Int):((suspR m q x left out).2.2.1=left∨(suspR m q x left out).2.2.1=x::left)∧(suspR m q x left out).2.2.2.1.length+(suspR m q x left out).2.2.1.length=out.length+left.length+1:=by
 have h:=qt6 (m.run 117 0 [] 0).1 q x left out
 unfold suspR
 split
 ·
  exact ⟨.inr rfl,by simp;omega⟩
 split <;> exact h
theorem qjM (N sv k c b:Nat) (m:Ctl) (q:Cache) (left out:List Int) (H:Nat→Prop) (w:World) (h:qbi w N sv k c b m q left out H) (ok:m.Ok):Calls Tryz.prog 167 #[.pointer (some ⟨k,0,none⟩)] w fun e w'=>e=.returned (.tuple #[.bool m.busyR.2.1,.int .i64 m.busyR.2.2]) ∧ ∃ H',qbi w' N sv k c b m.busyR.1 q left out H'∧Step H H' w w':=by
 obtain ⟨a,cap,v,hB,hS,hN⟩:=h
 obtain ⟨G,hc,hw,hH,hh⟩:=hB.ex
 refine (qj7 k c m G w hc ok).mono ?_
 rintro e w' ⟨rfl,G',hc',st⟩
 exact ⟨rfl,_,qbi.ctl hw hH hh hS hN (qdG m) hc' st⟩
def qeR (w:World) (sv k:Nat):World :=
 ((((((w.alloc (.cells #[.pointer (some ⟨k,0,none⟩)] 85)).alloc (.cells #[.int .i64 117] 3)).alloc (.cells #[.int .i64 0] 3)).alloc (.cells #[.pointer (some ⟨k,0,none⟩)] 85)).alloc (.cells #[.int .i64 122] 3)).alloc (.cells #[.int .i64 0] 3)).alloc (.cells #[.func (.func 169) #[] #[.pointer (some ⟨w.heap.size,0,none⟩),.pointer (some ⟨w.heap.size+1,0,none⟩),.pointer (some ⟨w.heap.size+2,0,none⟩)],.func (.func 168) #[.pointer (some ⟨sv,0,none⟩)] #[],.func (.func 169) #[] #[.pointer (some ⟨w.heap.size+3,0,none⟩),.pointer (some ⟨w.heap.size+4,0,none⟩),.pointer (some ⟨w.heap.size+5,0,none⟩)]] 144)
theorem qkE (w:World) (sv k:Nat):(qeR w sv k).heap=((((((w.heap.push (.cells #[.pointer (some ⟨k,0,none⟩)] 85)).push (.cells #[.int .i64 117] 3)).push (.cells #[.int .i64 0] 3)).push (.cells #[.pointer (some ⟨k,0,none⟩)] 85)).push (.cells #[.int .i64 122] 3)).push (.cells #[.int .i64 0] 3)).push (.cells #[.func (.func 169) #[] #[.pointer (some ⟨w.heap.size,0,none⟩),.pointer (some ⟨w.heap.size+1,0,none⟩),.pointer (some ⟨w.heap.size+2,0,none⟩)],.func (.func 168) #[.pointer (some ⟨sv,0,none⟩)] #[],.func (.func 169) #[] #[.pointer (some ⟨w.heap.size+3,0,none⟩),.pointer (some ⟨w.heap.size+4,0,none⟩),.pointer (some ⟨w.heap.size+5,0,none⟩)]] 144):=rfl
theorem qwq (A:Array Obj) (o0 o1 o2 o3 o4 o5 o6:Obj):let B:=((((((A.push o0).push o1).push o2).push o3).push o4).push o5).push o6;B[A.size]? = some o0∧B[A.size+1]? = some o1∧B[A.size+2]? = some o2∧B[A.size+3]? = some o3∧B[A.size+4]? = some o4∧B[A.size+5]? = some o5∧B[A.size+6]? = some o6:=by
 intro B
 refine ⟨?_,?_,?_,?_,?_,?_,?_⟩
 all_goals
  simp only [B,Array.getElem?_push,Array.size_push]
  repeat (first | rw [if_pos trivial] | rw [if_pos (by omega)] | rw [if_neg (by omega)])
theorem qjl (w:World) (sv k:Nat):Below w.heap.size w (qeR w sv k):=qac (qac (qac (qac (qac (qac (qac (Below.refl _ _) _) _) _) _) _) _) _
theorem qvN (w:World) (sv k:Nat):qnh (qeR w sv k) w.heap.size sv k:=by
 obtain ⟨h0,h1,h2,h3,h4,h5,h6⟩:=qwq w.heap (.cells #[.pointer (some ⟨k,0,none⟩)] 85) (.cells #[.int .i64 117] 3) (.cells #[.int .i64 0] 3) (.cells #[.pointer (some ⟨k,0,none⟩)] 85) (.cells #[.int .i64 122] 3) (.cells #[.int .i64 0] 3) (.cells #[.func (.func 169) #[] #[.pointer (some ⟨w.heap.size,0,none⟩),.pointer (some ⟨w.heap.size+1,0,none⟩),.pointer (some ⟨w.heap.size+2,0,none⟩)],.func (.func 168) #[.pointer (some ⟨sv,0,none⟩)] #[],.func (.func 169) #[] #[.pointer (some ⟨w.heap.size+3,0,none⟩),.pointer (some ⟨w.heap.size+4,0,none⟩),.pointer (some ⟨w.heap.size+5,0,none⟩)]] 144)
 exact ⟨qaa (show (qeR w sv k).heap[w.heap.size]? = _ from h0) 0,qaa (show (qeR w sv k).heap[w.heap.size+1]? = _ from h1) 0,qaa (show (qeR w sv k).heap[w.heap.size+2]? = _ from h2) 0,qaa (show (qeR w sv k).heap[w.heap.size+3]? = _ from h3) 0,qaa (show (qeR w sv k).heap[w.heap.size+4]? = _ from h4) 0,qaa (show (qeR w sv k).heap[w.heap.size+5]? = _ from h5) 0,qaa (show (qeR w sv k).heap[w.heap.size+6]? = _ from h6) 0,qaa (show (qeR w sv k).heap[w.heap.size+6]? = _ from h6) 1,qaa (show (qeR w sv k).heap[w.heap.size+6]? = _ from h6) 2⟩
theorem qsO (w:World) (N sv k c b:Nat) (m:Ctl) (q:Cache) (left out:List Int) (H:Nat→Prop) (h:qbi w N sv k c b m q left out H):qni (qeR w sv k) w.heap.size sv H:=by
 have hs:(qeR w sv k).heap.size=w.heap.size+7:=by rw [qkE];simp
 refine ⟨by omega,fun i h1 h2 hy => ?_⟩
 obtain ⟨a,cap,v,hB,hS,hN⟩:=h
 rcases hy with hy | hy | ⟨v',hv,hv2⟩
 ·
  obtain ⟨G,hc,⟨_,_,_,_,hw⟩,hH,_⟩:=hB.ex
  rcases (hH i).1 hy with hg | hg
  ·
   have:=hc.lt i hg;omega
  ·
   have:=(Array.getElem?_eq_some_iff.1 hw.raw).1;omega
 ·
  have:=(Array.getElem?_eq_some_iff.1 hS.raw).1;omega
 ·
  have e1:w.cell? ⟨sv,2,none⟩=some v:=qaa hS.raw 2
  have e2:=((qjl w sv k).cell (p:=⟨sv,2,none⟩) (World.block_lt_of_cell? w _ e1)).trans e1
  rw [hv] at e2
  obtain rfl:v'=v:=by simpa using e2
  have:=(hS.own.lt i hv2).2
  omega
theorem qop (N sv k c b n:Nat) (m:Ctl) (q:Cache) (left out:List Int) (H:Nat→Prop) (w:World) (h:qbi w N sv k c b m q left out H) (ok:m.Ok) (g:q.Good) (hx : ∀ x ∈ left,0≤x∧x<4096) (ho:out.length+left.length≤1000) (hn:n=256):Calls Tryz.prog 127 #[.pointer (some ⟨sv,0,none⟩),.pointer (some ⟨k,0,none⟩)] w fun e w'=>e=.returned (.int .i64 (waitsR n m q left out).2.2.2.2) ∧ ∃ H',qbi w' N sv k c b (waitsR n m q left out).1 (waitsR n m q left out).2.1 (waitsR n m q left out).2.2.1 (waitsR n m q left out).2.2.2.1 H'∧qaG N sv H H' w w':=by
 have H0:=zH (zA h (zA ok (zA g (zA hx ho))))
 obtain ⟨rr,hrr⟩ : ∃ rr,rr=waitsR n m q left out:=⟨_,rfl⟩
 rw [← hrr]
 have HV:=zH hrr
 have hNw:N≤w.heap.size:=by
  obtain ⟨a,cap,v,hB,hS,hN⟩:=h
  have:=(Array.getElem?_eq_some_iff.1 hS.raw).1
  have:=hS.lo;omega
 have HNW:=zH hNw
 have HN:=zH hn
 clear h ok g hx ho hrr hNw hn
 go_enter Tryz.func127,Tryz.ntmps127
 go_wp2_with fail
 go_loopw [8] (fun i wr => ∃ (j:Nat) (lj oj:List Int) (mj:Ctl) (qj:Cache) (Hj:Nat→Prop),j≤n∧i=.int .i64 j∧qbi wr N sv k c b mj qj lj oj Hj∧mj.Ok∧qj.Good∧(∀ x ∈ lj,0≤x∧x<4096)∧oj.length+lj.length≤1000∧qaG N sv H Hj w wr∧rr=waitsR (n - j) mj qj lj oj) (fun i _=>n - (intOf i).toNat)
 case atStart=>exact ⟨0,left,out,m,q,H,Nat.zero_le _,rfl,H0.out.1,H0.out.2.1,H0.out.2.2.1,H0.out.2.2.2.1,H0.out.2.2.2.2,qaG.refl _ _ _ _,HV.out⟩
 case round =>
  obtain ⟨j,lj,oj,mj,qj,Hj,hj,rfl,hS,hok,hg,hxs,hol,hov,hr⟩:=hrel
  by_cases hlt:j<n
  ·
   have g1:(j:Int)<256:=by have:=HN.out;omega
   have HSJ:=zH hS
   have HB:=zH (qjM N sv k c b mj qj lj oj Hj wr hS hok)
   have HBO:=zH (qe0 hok)
   rw [show n - j=(n - (j+1))+1 by omega] at hr
   unfold waitsR at hr
   have HR:=zH hr
   have HX:=zH (zA hg (zA hxs (zA hol hov)))
   clear hS hok hg hxs hol hov hr
   generalize mj.busyR=br at *
   obtain ⟨mn,y,er⟩:=br
   simp only at HB HBO HR
   by_cases he:er=0
   ·
    subst he
    cases y with
    | false =>
     go_wp2_with fail
     refine HB.out.mono ?_
     rintro e w2 ⟨rfl,H2,hS2,st2⟩
     have H2':=zH (zA hS2 (HX.out.2.2.2.trans HNW.out (qaG.of_step HSJ.out st2)))
     clear hS2 st2
     go_wp2_with fail
     go_ret
     rw [show rr=(mn,qj,lj,oj,0) from HR.out.trans (by simp)]
     exact ⟨rfl,H2,H2'.out⟩
    | true =>
     cases lj with
     | nil =>
      go_wp2_with fail
      refine HB.out.mono ?_
      rintro e w2 ⟨rfl,H2,hS2,st2⟩
      have H2':=zH (zA hS2 (HX.out.2.2.2.trans HNW.out (qaG.of_step HSJ.out st2)))
      obtain ⟨a2,cap2,v2,hB2,hSv2,hN2⟩:=hS2
      have c1:w2.cell? ⟨sv,1,none⟩=some (.slice a2 0 cap2):=qaa hSv2.raw 1
      clear st2 hB2 hSv2 hN2
      go_wp2_with fail
      go_roundw
      case rel=>exact ⟨j+1,[],oj,mn,qj,H2,by omega,by go_num,H2'.out.1,HBO.out,HX.out.1,HX.out.2.1,HX.out.2.2.1,H2'.out.2,HR.out.trans (by simp)⟩
      case measure=>simp [intOf];omega
     | cons x l =>
      have hx0:=HX.out.2.1 x (by simp)
      have hlen:=qm0 mn qj x l oj
      have HSO:=zH (zA (qpq HBO.out HX.out.1 x l oj hx0.1) hlen)
      have hl0:((l.length+1:Nat) == 0)=false:=rfl
      go_wp2_with fail
      refine HB.out.mono ?_
      rintro e w2 ⟨rfl,H2,hS2,st2⟩
      have hN2:N≤w2.heap.size:=Nat.le_trans HNW.out (Nat.le_trans HX.out.2.2.2.1.1.size st2.touch.size)
      have hov2:=HX.out.2.2.2.trans HNW.out (qaG.of_step HSJ.out st2)
      have hbw:=qjl w2 sv k
      have hov3:=hov2.trans HNW.out (qaG.of_step hS2 (Step.of_below (F:=H2) hbw))
      have HSU:=zH (qqN N sv k c b w2.heap.size mn qj x l oj H2 (qeR w2 sv k) (hS2.later hbw) HBO.out HX.out.1 hx0.1 hx0.2 (by have:=HX.out.2.2.1;simp at this;omega) (qvN w2 sv k) (qsO w2 N sv k c b mn qj (x::l) oj H2 hS2) (Nat.le_trans hN2 hbw.size))
      have HOV:=zH hov3
      have HWS:=zH (show (qeR w2 sv k).heap.size=w2.heap.size+7 by rw [qkE];simp)
      obtain ⟨a2,cap2,v2,hB2,hSv2,hNN2⟩:=hS2
      have c1:w2.cell? ⟨sv,1,none⟩=some (.slice a2 (l.length+1) cap2):=qaa hSv2.raw 1
      have H2x:=zH (zA hN2 hbw.size)
      clear st2 hB2 hSv2 hNN2 hov2 hov3 hbw hN2
      go_wp2_with ((go_at_call 130;refine (qg5 k _ _ _).mono ?_;rintro e wq ⟨rfl,rfl⟩))
      refine HSU.out.mono ?_
      rintro e w3 ⟨er,rfl,hcase⟩
      have hN3:N≤(qeR w2 sv k).heap.size:=Nat.le_trans H2x.out.1 H2x.out.2
      rcases hcase with ⟨rfl,he3,H3,hS3,hO3⟩ | ⟨hne,hee,H3,hS3,hO3⟩
      ·
       have H3':=zH (zA he3 (zA hS3 (HOV.out.trans HNW.out hO3)))
       clear he3 hS3 hO3 hN3
       go_wp2_with fail
       go_roundw
       case rel =>
        obtain ⟨he3,hS3,hov⟩:=H3'.out
        refine ⟨j+1,_,_,_,_,H3,by omega,by go_num,hS3,HSO.out.1.1,HSO.out.1.2.1,fun y hy => ?_,?_,hov,HR.out.trans ?_⟩
        ·
         rcases HSO.out.2.1 with e | e
         ·
          rw [e] at hy;exact HX.out.2.1 y (by simp [hy])
         ·
          rw [e] at hy;exact HX.out.2.1 y hy
        ·
         have:=HSO.out.2.2;have h9:=HX.out.2.2.1;simp at h9;omega
        ·
         rw [if_neg (by decide),if_neg (by decide)]
         exact if_neg (by simpa using he3)
       case measure=>simp [intOf];omega
      ·
       have he':(er != 0)=true:=bne_iff_ne.2 hne
       have H3':=zH (zA hne (zA hee (zA hS3 (HOV.out.trans HNW.out hO3))))
       clear hne hee hS3 hO3 hN3
       go_wp2_with fail
       go_ret
       obtain ⟨hne,hee,hS3,hov⟩:=H3'.out
       rw [show rr=suspR mn qj x l oj from HR.out.trans (by rw [if_neg (by decide),if_neg (by decide)];exact if_pos (by rw [← hee];exact hne))]
       exact ⟨by rw [hee];rfl,H3,hS3,hov⟩
   ·
    have he':(er != 0)=true:=bne_iff_ne.2 he
    have HE:=zH he
    clear he
    go_wp2_with fail
    refine HB.out.mono ?_
    rintro e w2 ⟨rfl,H2,hS2,st2⟩
    have H2':=zH (zA hS2 (HX.out.2.2.2.trans HNW.out (qaG.of_step HSJ.out st2)))
    clear hS2 st2
    go_wp2_with fail
    go_ret
    rw [show rr=(mn,qj,lj,oj,er) from HR.out.trans (if_pos HE.out)]
    exact ⟨rfl,H2,H2'.out⟩
  ·
   obtain rfl:n=j:=by omega
   have g1 : ¬ ((n:Int)<256):=by have:=HN.out;omega
   rw [Nat.sub_self] at hr
   have HR:=zH (show rr=(mj,qj,lj,oj,1400) from hr)
   have HS:=zH (zA hS hov)
   clear hS hok hg hxs hol hov hr
   go_wp2_with fail
   go_ret
   rw [HR.out]
   exact ⟨rfl,Hj,HS.out⟩
end
section
open Go.RowKit
theorem qvL (p:Int) (h0:0≤p) (h1:p<4096):qcR 32 p [] 0:=⟨by decide,h0,h1,fun e=>absurd e (by decide),by decide,by decide,by decide,by decide,by decide⟩
theorem qhB (N sv k c b:Nat) (m:Ctl) (q:Cache) (left out:List Int) (H:Nat→Prop) (w:World) (h:qbi w N sv k c b m q left out H):Calls Tryz.prog 129 #[.pointer (some ⟨b,0,none⟩)] w fun e w'=>e=.returned (.int .i64 0) ∧ ∃ H',qbi w' N sv k c b m Cache.new left out H'∧Step H H' w w':=by
 obtain ⟨a,cap,v,hB,hS,hN⟩:=h
 refine (qmd k c b m q H w hB).mono ?_
 rintro e w' ⟨rfl,H',hB',st⟩
 exact ⟨rfl,H',⟨a,cap,v,hB',hS.step st,hN⟩,st⟩
def wipeW (m:Ctl) (p:Int) (reads:List Int):quV :=
 if (m.run 6 0 [] 0).2.2≠0 then ((m.run 6 0 [] 0).1,Cache.new,reads,[],(m.run 6 0 [] 0).2.2)
 else if ((m.run 6 0 [] 0).1.run 32 p [] 0).2.2≠0 then (((m.run 6 0 [] 0).1.run 32 p [] 0).1,Cache.new,reads,[],((m.run 6 0 [] 0).1.run 32 p [] 0).2.2)
 else waitsR 256 ((m.run 6 0 [] 0).1.run 32 p [] 0).1 Cache.new reads []
structure qlI (w:World) (n x y sv k b:Nat) (p:Int):Prop where
 cx:w.cell? ⟨x,0,none⟩=some (.pointer (some ⟨k,0,none⟩))
 cy:w.cell? ⟨y,0,none⟩=some (.pointer (some ⟨sv,0,none⟩))
 x1:w.cell? ⟨n,0,none⟩=some (.pointer (some ⟨k,0,none⟩))
 y1:w.cell? ⟨n+1,0,none⟩=some (.int .i64 6)
 z1:w.cell? ⟨n+2,0,none⟩=some (.int .i64 0)
 x3:w.cell? ⟨n+3,0,none⟩=some (.pointer (some ⟨k,0,none⟩))
 y3:w.cell? ⟨n+4,0,none⟩=some (.int .i64 32)
 z3:w.cell? ⟨n+5,0,none⟩=some (.int .i64 p)
 f0:w.cell? ⟨n+6,0,none⟩=some (.func (.func 129) #[.pointer (some ⟨b,0,none⟩)] #[])
 f1:w.cell? ⟨n+6,1,none⟩=some (.func (.func 169) #[] #[.pointer (some ⟨n,0,none⟩),.pointer (some ⟨n+1,0,none⟩),.pointer (some ⟨n+2,0,none⟩)])
 f2:w.cell? ⟨n+6,2,none⟩=some (.func (.func 169) #[] #[.pointer (some ⟨n+3,0,none⟩),.pointer (some ⟨n+4,0,none⟩),.pointer (some ⟨n+5,0,none⟩)])
 f3:w.cell? ⟨n+6,3,none⟩=some (.func (.func 126) #[] #[.pointer (some ⟨y,0,none⟩),.pointer (some ⟨x,0,none⟩)])
def qgJ (w:World) (n x y:Nat) (H:Nat→Prop):Prop:=n+7≤w.heap.size∧x<w.heap.size∧y<w.heap.size ∧ ∀ i,(i=x∨i=y∨(n≤i∧i<n+7)) → ¬ H i
theorem qlI.step {w w':World} {n x y sv k b:Nat} {p:Int} {H H':Nat→Prop} (h:qlI w n x y sv k b p) (o:qgJ w n x y H) (st:Step H H' w w'):qlI w' n x y sv k b p∧qgJ w' n x y H':=by
 obtain ⟨o1,o2,o3,d⟩:=o
 have t:=st.touch
 refine ⟨⟨t.cell _ _ h.cx (d _ (by omega)),t.cell _ _ h.cy (d _ (by omega)),t.cell _ _ h.x1 (d _ (by omega)),t.cell _ _ h.y1 (d _ (by omega)),t.cell _ _ h.z1 (d _ (by omega)),t.cell _ _ h.x3 (d _ (by omega)),t.cell _ _ h.y3 (d _ (by omega)),t.cell _ _ h.z3 (d _ (by omega)),t.cell _ _ h.f0 (d _ (by omega)),t.cell _ _ h.f1 (d _ (by omega)),t.cell _ _ h.f2 (d _ (by omega)),t.cell _ _ h.f3 (d _ (by omega))⟩,Nat.le_trans o1 t.size,Nat.lt_of_lt_of_le o2 t.size,Nat.lt_of_lt_of_le o3 t.size,fun i hi=>st.safe (by rcases hi with rfl | rfl | ⟨h1,h2⟩ <;> omega) (d i hi)⟩
def qw9 (n x y b:Nat):Nat→FnV
 | 0=>⟨129,#[.pointer (some ⟨b,0,none⟩)],#[]⟩
 | 1=>⟨169,#[],#[.pointer (some ⟨n,0,none⟩),.pointer (some ⟨n+1,0,none⟩),.pointer (some ⟨n+2,0,none⟩)]⟩
 | 2=>⟨169,#[],#[.pointer (some ⟨n+3,0,none⟩),.pointer (some ⟨n+4,0,none⟩),.pointer (some ⟨n+5,0,none⟩)]⟩
 | _=>⟨126,#[],#[.pointer (some ⟨y,0,none⟩),.pointer (some ⟨x,0,none⟩)]⟩
theorem qwv (args:Array Value) (w:World):(callFunc 129 args).run Tryz.prog w=.ok (.enter 129 args) w:=by kernel_rfl
theorem qwu (args:Array Value) (w:World):(callFunc 126 args).run Tryz.prog w=.ok (.enter 126 args) w:=by kernel_rfl
attribute [local irreducible] Ctl.run readR waitsR
theorem qjx (N sv k c b x y:Nat) (m:Ctl) (q:Cache) (left out:List Int) (H:Nat→Prop) (w:World) (h:qbi w N sv k c b m q left out H) (ok:m.Ok) (g:q.Good) (hx : ∀ x ∈ left,0≤x∧x<4096) (ho:out.length+left.length≤1000) (cx:w.cell? ⟨x,0,none⟩=some (.pointer (some ⟨k,0,none⟩))) (cy:w.cell? ⟨y,0,none⟩=some (.pointer (some ⟨sv,0,none⟩))):Calls Tryz.prog 126 #[.pointer (some ⟨y,0,none⟩),.pointer (some ⟨x,0,none⟩)] w fun e w'=>e=.returned (.int .i64 (waitsR 256 m q left out).2.2.2.2) ∧ ∃ H',qbi w' N sv k c b (waitsR 256 m q left out).1 (waitsR 256 m q left out).2.1 (waitsR 256 m q left out).2.2.1 (waitsR 256 m q left out).2.2.2.1 H'∧qaG N sv H H' w w':=by
 have HW:=zH (qop N sv k c b 256 m q left out H w h ok g hx ho rfl)
 clear h ok g hx ho
 generalize waitsR 256 m q left out=rr at *
 go_enter Tryz.func126,Tryz.ntmps126
 go_wp2_with fail
 refine HW.out.mono ?_
 rintro e w2 ⟨rfl,H2,h2⟩
 have H2':=zH h2
 clear h2
 go_wp2_with fail
 go_ret
 exact ⟨rfl,H2,H2'.out⟩
def qwH (w0:World) (N sv k c b n x y:Nat) (m:Ctl) (p:Int) (reads:List Int) (H:Nat→Prop):Nat→World→Prop
 | 0,w=>w=w0
 | 1,w=>qlI w n x y sv k b p ∧ ∃ H',qbi w N sv k c b m Cache.new reads [] H'∧qaG N sv H H' w0 w∧qgJ w n x y H'
 | 2,w=>qlI w n x y sv k b p∧(m.run 6 0 [] 0).2.2=0 ∧ ∃ H',qbi w N sv k c b (m.run 6 0 [] 0).1 Cache.new reads [] H'∧qaG N sv H H' w0 w∧qgJ w n x y H'
 | 3,w=>qlI w n x y sv k b p∧(m.run 6 0 [] 0).2.2=0∧((m.run 6 0 [] 0).1.run 32 p [] 0).2.2=0 ∧ ∃ H',qbi w N sv k c b ((m.run 6 0 [] 0).1.run 32 p [] 0).1 Cache.new reads [] H'∧qaG N sv H H' w0 w∧qgJ w n x y H'
 | _,w=>(wipeW m p reads).2.2.2.2=0 ∧ ∃ H',qbi w N sv k c b (wipeW m p reads).1 (wipeW m p reads).2.1 (wipeW m p reads).2.2.1 (wipeW m p reads).2.2.2.1 H'∧qaG N sv H H' w0 w
def qwG (w0:World) (N sv k c b:Nat) (m:Ctl) (p:Int) (reads:List Int) (H:Nat→Prop) (er:Int) (w:World):Prop :=
 er=(wipeW m p reads).2.2.2.2 ∧ ∃ H',qbi w N sv k c b (wipeW m p reads).1 (wipeW m p reads).2.1 (wipeW m p reads).2.2.1 (wipeW m p reads).2.2.2.1 H'∧qaG N sv H H' w0 w
theorem qjV (N sv k c b n x y:Nat) (m:Ctl) (q:Cache) (p:Int) (reads:List Int) (H:Nat→Prop) (w0:World) (h:qbi w0 N sv k c b m q reads [] H) (ok:m.Ok) (hr : ∀ x ∈ reads,0≤x∧x<4096) (hl:reads.length≤16) (p0:0≤p) (p1:p<4096) (hF:qlI w0 n x y sv k b p) (hO:qgJ w0 n x y H) (hNw:N≤w0.heap.size):Calls Tryz.prog 128 #[.slice (some ⟨n+6,0,none⟩) 4 4] w0 (qfX 4 (qwH w0 N sv k c b n x y m p reads H) (qwG w0 N sv k c b m p reads H)):=by
 have o1:=qbu ok 6 0 [] 0 quf
 have o2:=qbu o1 32 p [] 0 (qvL p p0 p1)
 refine qeU (n+6) 4 4 (qw9 n x y b) _ _ w0 rfl (by decide) ?_ ?_ ?_
 ·
  intro j w hj hS
  obtain rfl | rfl | rfl | rfl:j=0∨j=1∨j=2∨j=3:=by omega
  ·
   rw [show w=w0 from hS];exact hF.f0
  ·
   exact hS.1.f1
  ·
   exact hS.1.f2
  ·
   exact hS.1.f3
 ·
  intro j hj args w
  obtain rfl | rfl | rfl | rfl:j=0∨j=1∨j=2∨j=3:=by omega
  ·
   exact qwv args w
  ·
   exact qpl args w
  ·
   exact qpl args w
  ·
   exact qwu args w
 ·
  intro j w hj hS
  obtain rfl | rfl | rfl | rfl:j=0∨j=1∨j=2∨j=3:=by omega
  ·
   obtain rfl:w=w0:=hS
   refine (qhB N sv k c b m q reads [] H w h).mono ?_
   rintro e w' ⟨rfl,H',hS',st⟩
   obtain ⟨hF',hO'⟩:=hF.step hO st
   exact ⟨_,rfl,.inl ⟨rfl,hF',H',hS',qaG.of_step h st,hO'⟩⟩
  ·
   obtain ⟨hF1,H1,hS1,hV1,hO1⟩:=hS
   refine (qcX N sv k c b n (n+1) (n+2) m Cache.new reads [] H1 6 0 w hS1 ok quf hF1.x1 hF1.y1 hF1.z1).mono ?_
   rintro e w' ⟨rfl,H',hS',st⟩
   obtain ⟨hF',hO'⟩:=hF1.step hO1 st
   have hV:=hV1.trans hNw (qaG.of_step hS1 st)
   by_cases he:(m.run 6 0 [] 0).2.2=0
   ·
    exact ⟨_,rfl,.inl ⟨he,hF',he,H',hS',hV,hO'⟩⟩
   ·
    have e:wipeW m p reads=((m.run 6 0 [] 0).1,Cache.new,reads,[],(m.run 6 0 [] 0).2.2):=if_pos he
    exact ⟨_,rfl,.inr ⟨he,by rw [e],H',by rw [e];exact hS',hV⟩⟩
  ·
   obtain ⟨hF1,he1,H1,hS1,hV1,hO1⟩:=hS
   refine (qcX N sv k c b (n+3) (n+4) (n+5) _ Cache.new reads [] H1 32 p w hS1 o1 (qvL p p0 p1) hF1.x3 hF1.y3 hF1.z3).mono ?_
   rintro e w' ⟨rfl,H',hS',st⟩
   obtain ⟨hF',hO'⟩:=hF1.step hO1 st
   have hV:=hV1.trans hNw (qaG.of_step hS1 st)
   by_cases he:((m.run 6 0 [] 0).1.run 32 p [] 0).2.2=0
   ·
    exact ⟨_,rfl,.inl ⟨he,hF',he1,he,H',hS',hV,hO'⟩⟩
   ·
    have e:wipeW m p reads=(((m.run 6 0 [] 0).1.run 32 p [] 0).1,Cache.new,reads,[],((m.run 6 0 [] 0).1.run 32 p [] 0).2.2):=(if_neg (by simpa using he1)).trans (if_pos he)
    exact ⟨_,rfl,.inr ⟨he,by rw [e],H',by rw [e];exact hS',hV⟩⟩
  ·
   obtain ⟨hF1,he1,he2,H1,hS1,hV1,hO1⟩:=hS
   refine (qjx N sv k c b x y _ Cache.new reads [] H1 w hS1 o2 Cache.new_good hr (by simp;omega) hF1.cx hF1.cy).mono ?_
   rintro e w' ⟨rfl,H',hS',hV'⟩
   have hV:=hV1.trans hNw hV'
   have e:wipeW m p reads=waitsR 256 ((m.run 6 0 [] 0).1.run 32 p [] 0).1 Cache.new reads []:=(if_neg (by simpa using he1)).trans (if_neg (by simpa using he2))
   by_cases he:(waitsR 256 ((m.run 6 0 [] 0).1.run 32 p [] 0).1 Cache.new reads []).2.2.2.2=0
   ·
    exact ⟨_,rfl,.inl ⟨he,by rw [e];exact he,H',by rw [e];exact hS',hV⟩⟩
   ·
    exact ⟨_,rfl,.inr ⟨he,by rw [e],H',by rw [e];exact hS',hV⟩⟩
end
end Go.Proofs.YtcfdenckiigdaaaGreat

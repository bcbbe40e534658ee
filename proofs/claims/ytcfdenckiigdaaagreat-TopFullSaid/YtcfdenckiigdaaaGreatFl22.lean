/- Part 22 of the contracts. -/
import Derived.Test.YtcfdenckiigdaaaGreatFl21
set_option linter.unusedVariables false
set_option maxRecDepth 100000
set_option maxHeartbeats 4000000
namespace Go.Proofs.YtcfdenckiigdaaaGreat
open Tryz
section
open Go.RowKit
theorem EV:gX 117 0 [] 0:=⟨by decide,by decide,by decide,fun _=>rfl,by decide,by decide,by decide,by decide,by decide⟩
theorem JY:gX 122 0 [] 0:=⟨by decide,by decide,by decide,fun _=>rfl,by decide,by decide,by decide,by decide,by decide⟩
abbrev IK:=aG×Cache×List Int×List Int×Int
def eg (m:aG) (q:Cache) (x:Int) (left out:List Int):IK :=
 if (m.run 117 0 [] 0).2.2≠0 then ((m.run 117 0 [] 0).1,q,x::left,out,(m.run 117 0 [] 0).2.2)
 else if (eQ (m.run 117 0 [] 0).1 q x left out).2.2.2.2≠0 then eQ (m.run 117 0 [] 0).1 q x left out
 else (((eQ (m.run 117 0 [] 0).1 q x left out).1.run 122 0 [] 0).1,(eQ (m.run 117 0 [] 0).1 q x left out).2.1,(eQ (m.run 117 0 [] 0).1 q x left out).2.2.1,(eQ (m.run 117 0 [] 0).1 q x left out).2.2.2.1,((eQ (m.run 117 0 [] 0).1 q x left out).1.run 122 0 [] 0).2.2)
theorem FT {m:aG} (ok:m.Ok) {q:Cache} (g:q.Good) (x:Int) (left out:List Int) (x0:0≤x):(eQ m q x left out).1.Ok∧(eQ m q x left out).2.1.Good∧bG m (eQ m q x left out).1:=by
 have h:=lC ok g x 1 x0
 unfold eQ
 split <;> exact h
theorem Dn {m:aG} (ok:m.Ok) {q:Cache} (g:q.Good) (x:Int) (left out:List Int) (x0:0≤x):(eg m q x left out).1.Ok∧(eg m q x left out).2.1.Good∧bG m (eg m q x left out).1:=by
 have o1:=ew ok 117 0 [] 0 EV
 have h1:=cQ m 117 0 [] 0
 obtain ⟨o2,g2,h2⟩:=FT o1 g x left out x0
 unfold eg
 split
 ·
  exact ⟨o1,g,h1⟩
 split
 ·
  exact ⟨o2,g2,h1.trans h2⟩
 ·
  exact ⟨ew o2 _ _ _ _ JY,g2,(h1.trans h2).trans (cQ _ _ _ _ _)⟩
theorem dw.wK {w w':World} {N sv k c b:Nat} {m m':aG} {q:Cache} {left out:List Int} {H:Nat→Prop} {a:Option Addr} {cap:Nat} {v:Value} {G G':Nat→Prop} (hw:mA w b k q (fun i=>G i∨ss sv v i)) (hH : ∀ i,H i ↔ (G i∨i=b)) (hh:0<m.ar.busy.length→m.ar.home≠b) (hS:oz w N sv b a cap v left out H) (hN:0<m.ar.busy.length→m.ar.home<N) (hm:bG m m') (hc:bO (ss sv v) w' k c m' G') (st:Step G G' w w'):dw w' N sv k c b m' q left out (fun i=>G' i∨i=b)∧Step H (fun i=>G' i∨i=b) w w':=by
 have stH:Step H (fun i=>G' i∨i=b) w w':=st.both hH (fun _=>Iff.rfl)
 exact ⟨⟨a,cap,v,fD.wK hw hh hm hc st,hS.step stH,fun hl=>by rw [hm.1];exact hN (zV hl hm.2)⟩,stH⟩
theorem dw.aj {w w':World} {N sv k c b:Nat} {m:aG} {q:Cache} {left out:List Int} {H:Nat→Prop} (h:dw w N sv k c b m q left out H) (hb:Below w.heap.size w w'):dw w' N sv k c b m q left out H:=by
 obtain ⟨a,cap,v,hB,hS,hN⟩:=h
 exact ⟨a,cap,v,hB.aj hb,hS.step (Step.ah hb),hN⟩
theorem jT (N sv k c b x y z:Nat) (m:aG) (q:Cache) (left out:List Int) (H:Nat→Prop) (op p:Int) (w:World) (h:dw w N sv k c b m q left out H) (ok:m.Ok) (rok:gX op p [] 0) (hx:w.cell? ⟨x,0,none⟩=some (.pointer (some ⟨k,0,none⟩))) (hy:w.cell? ⟨y,0,none⟩=some (.int .i64 op)) (hz:w.cell? ⟨z,0,none⟩=some (.int .i64 p)):Calls prog 169 #[.pointer (some ⟨x,0,none⟩),.pointer (some ⟨y,0,none⟩),.pointer (some ⟨z,0,none⟩)] w fun e w'=>e=.returned (.int .i64 (m.run op p [] 0).2.2) ∧ ∃ H',dw w' N sv k c b (m.run op p [] 0).1 q left out H'∧Step H H' w w':=by
 obtain ⟨a,cap,v,hB,hS,hN⟩:=h
 obtain ⟨G,hc,hw,hH,hh⟩:=hB.ex
 refine (Bb k c x y z m G op p w hx hy hz hc ok rok).mono ?_
 rintro e w' ⟨rfl,G',hc',st⟩
 exact ⟨rfl,_,dw.wK hw hH hh hS hN (cQ m op p [] 0) hc' st⟩
structure vQ (w:World) (n sv k:Nat):Prop where
 x1:w.cell? ⟨n,0,none⟩=some (.pointer (some ⟨k,0,none⟩))
 y1:w.cell? ⟨n+1,0,none⟩=some (.int .i64 117)
 z1:w.cell? ⟨n+2,0,none⟩=some (.int .i64 0)
 x3:w.cell? ⟨n+3,0,none⟩=some (.pointer (some ⟨k,0,none⟩))
 y3:w.cell? ⟨n+4,0,none⟩=some (.int .i64 122)
 z3:w.cell? ⟨n+5,0,none⟩=some (.int .i64 0)
 f1:w.cell? ⟨n+6,0,none⟩=some (.func (.func 169) #[] #[.pointer (some ⟨n,0,none⟩),.pointer (some ⟨n+1,0,none⟩),.pointer (some ⟨n+2,0,none⟩)])
 f2:w.cell? ⟨n+6,1,none⟩=some (.func (.func 168) #[.pointer (some ⟨sv,0,none⟩)] #[])
 f3:w.cell? ⟨n+6,2,none⟩=some (.func (.func 169) #[] #[.pointer (some ⟨n+3,0,none⟩),.pointer (some ⟨n+4,0,none⟩),.pointer (some ⟨n+5,0,none⟩)])
theorem vQ.aH {w w':World} {n sv k:Nat} {F:Nat→Prop} (h:vQ w n sv k) (t:Touch F w w') (d : ∀ i,n≤i→i<n+7 → ¬ F i):vQ w' n sv k :=
 ⟨t.cell _ _ h.x1 (d _ (by omega) (by omega)),t.cell _ _ h.y1 (d _ (by omega) (by omega)),t.cell _ _ h.z1 (d _ (by omega) (by omega)),t.cell _ _ h.x3 (d _ (by omega) (by omega)),t.cell _ _ h.y3 (d _ (by omega) (by omega)),t.cell _ _ h.z3 (d _ (by omega) (by omega)),t.cell _ _ h.f1 (d _ (by omega) (by omega)),t.cell _ _ h.f2 (d _ (by omega) (by omega)),t.cell _ _ h.f3 (d _ (by omega) (by omega))⟩
def M7 (n sv:Nat):Nat→Mt
 | 0=>⟨169,#[],#[.pointer (some ⟨n,0,none⟩),.pointer (some ⟨n+1,0,none⟩),.pointer (some ⟨n+2,0,none⟩)]⟩
 | 1=>⟨168,#[.pointer (some ⟨sv,0,none⟩)],#[]⟩
 | _=>⟨169,#[],#[.pointer (some ⟨n+3,0,none⟩),.pointer (some ⟨n+4,0,none⟩),.pointer (some ⟨n+5,0,none⟩)]⟩
def Aw (w:World) (n sv:Nat) (H:Nat→Prop):Prop:=n+7≤w.heap.size ∧ ∀ i,n≤i→i<n+7 → ¬ Ab w sv H i
attribute [local irreducible] aG.run bH
def My (w0:World) (N sv k c b n:Nat) (m:aG) (q:Cache) (x:Int) (left out:List Int) (H:Nat→Prop):Nat→World→Prop
 | 0,w=>w=w0
 | 1,w=>vQ w n sv k∧(m.run 117 0 [] 0).2.2=0 ∧ ∃ H',dw w N sv k c b (m.run 117 0 [] 0).1 q (x::left) out H'∧cE N sv H H' w0 w∧Aw w n sv H'
 | 2,w=>vQ w n sv k∧(m.run 117 0 [] 0).2.2=0∧(eQ (m.run 117 0 [] 0).1 q x left out).2.2.2.2=0 ∧ ∃ H',dw w N sv k c b (eQ (m.run 117 0 [] 0).1 q x left out).1 (eQ (m.run 117 0 [] 0).1 q x left out).2.1 (eQ (m.run 117 0 [] 0).1 q x left out).2.2.1 (eQ (m.run 117 0 [] 0).1 q x left out).2.2.2.1 H'∧cE N sv H H' w0 w
 | _,w=>(eg m q x left out).2.2.2.2=0 ∧ ∃ H',dw w N sv k c b (eg m q x left out).1 (eg m q x left out).2.1 (eg m q x left out).2.2.1 (eg m q x left out).2.2.2.1 H'∧cE N sv H H' w0 w
def Mx (w0:World) (N sv k c b:Nat) (m:aG) (q:Cache) (x:Int) (left out:List Int) (H:Nat→Prop) (er:Int) (w:World):Prop :=
 er=(eg m q x left out).2.2.2.2 ∧ ∃ H',dw w N sv k c b (eg m q x left out).1 (eg m q x left out).2.1 (eg m q x left out).2.2.1 (eg m q x left out).2.2.2.1 H'∧cE N sv H H' w0 w
theorem Mq (args:Array Value) (w:World):(callFunc 168 args).run prog w=.ok (.enter 168 args) w:=by kernel_rfl
theorem E5 (N sv k c b n:Nat) (m:aG) (q:Cache) (x:Int) (left out:List Int) (H:Nat→Prop) (w0:World) (h:dw w0 N sv k c b m q (x::left) out H) (ok:m.Ok) (g:q.Good) (x0:0≤x) (x1:x<4096) (ho:out.length≤1000) (hF:vQ w0 n sv k) (hO:Aw w0 n sv H) (hNw:N≤w0.heap.size):Calls prog 128 #[.slice (some ⟨n+6,0,none⟩) 3 3] w0 (pE 3 (My w0 N sv k c b n m q x left out H) (Mx w0 N sv k c b m q x left out H)):=by
 have o1:=ew ok 117 0 [] 0 EV
 obtain ⟨o2,g2,h2⟩:=FT o1 g x left out x0
 refine om (n+6) 3 3 (M7 n sv) _ _ w0 rfl (by decide) ?_ ?_ ?_
 ·
  intro j w hj hS
  obtain rfl | rfl | rfl:j=0∨j=1∨j=2:=by omega
  ·
   rw [show w=w0 from hS];exact hF.f1
  ·
   exact hS.1.f2
  ·
   exact hS.1.f3
 ·
  intro j hj args w
  obtain rfl | rfl | rfl:j=0∨j=1∨j=2:=by omega
  ·
   exact A9 args w
  ·
   exact Mq args w
  ·
   exact A9 args w
 ·
  intro j w hj hS
  obtain rfl | rfl | rfl:j=0∨j=1∨j=2:=by omega
  ·
   obtain rfl:w=w0:=hS
   refine (jT N sv k c b n (n+1) (n+2) m q (x::left) out H 117 0 w h ok EV hF.x1 hF.y1 hF.z1).mono ?_
   rintro e w' ⟨rfl,H',hS',st⟩
   by_cases he:(m.run 117 0 [] 0).2.2=0
   ·
    refine ⟨_,rfl,.inl ⟨he,hF.aH st.aH (fun i h1 h2 hh=>hO.2 i h1 h2 (.inl hh)),he,H',hS',cE.gd h st,Nat.le_trans hO.1 st.aH.size,fun i h1 h2 hy => ?_⟩⟩
    have hil:i<w.heap.size:=by have:=hO.1;omega
    rcases hy with hy | hy | ⟨v,hv,hv2⟩
    ·
     exact (st.ik i hy).elim (fun hh=>hO.2 i h1 h2 (.inl hh)) (fun hl=>by omega)
    ·
     exact hO.2 i h1 h2 (.inr (.inl hy))
    ·
     obtain ⟨a,cap,v',hB,hSv,hN⟩:=h
     have e1:w.cell? ⟨sv,2,none⟩=some v':=cell_of hSv.raw 2
     have e2:=st.aH.cell _ _ e1 hSv.fB
     rw [hv] at e2
     obtain rfl:v=v':=by simpa using e2
     exact hO.2 i h1 h2 (.inr (.inr ⟨v,e1,hv2⟩))
   ·
    have e:eg m q x left out=((m.run 117 0 [] 0).1,q,x::left,out,(m.run 117 0 [] 0).2.2):=if_pos he
    exact ⟨_,rfl,.inr ⟨he,by rw [e],H',by rw [e];exact hS',cE.gd h st⟩⟩
  ·
   obtain ⟨hF1,he1,H1,hS1,hO1,hf1⟩:=hS
   refine (zB N sv k c b (m.run 117 0 [] 0).1 q x left out H1 w hS1 o1 g x0 x1 ho).mono ?_
   rintro e w' ⟨rfl,H',hS',hOv⟩
   have hov:=hO1.trans hNw hOv
   by_cases he:(eQ (m.run 117 0 [] 0).1 q x left out).2.2.2.2=0
   ·
    exact ⟨_,rfl,.inl ⟨he,hF1.aH hOv.2.aH hf1.2,he1,he,H',hS',hov⟩⟩
   ·
    have e:eg m q x left out=eQ (m.run 117 0 [] 0).1 q x left out:=(if_neg (by simpa using he1)).trans (if_pos he)
    exact ⟨_,rfl,.inr ⟨he,by rw [e],H',by rw [e];exact hS',hov⟩⟩
  ·
   obtain ⟨hF1,he1,he2,H1,hS1,hO1⟩:=hS
   refine (jT N sv k c b (n+3) (n+4) (n+5) _ _ _ _ H1 122 0 w hS1 o2 JY hF1.x3 hF1.y3 hF1.z3).mono ?_
   rintro e w' ⟨rfl,H',hS',st⟩
   have hov:=hO1.trans hNw (cE.gd hS1 st)
   have e:eg m q x left out=(((eQ (m.run 117 0 [] 0).1 q x left out).1.run 122 0 [] 0).1,(eQ (m.run 117 0 [] 0).1 q x left out).2.1,(eQ (m.run 117 0 [] 0).1 q x left out).2.2.1,(eQ (m.run 117 0 [] 0).1 q x left out).2.2.2.1,((eQ (m.run 117 0 [] 0).1 q x left out).1.run 122 0 [] 0).2.2) :=
    (if_neg (by simpa using he1)).trans (if_neg (by simpa using he2))
   by_cases he:((eQ (m.run 117 0 [] 0).1 q x left out).1.run 122 0 [] 0).2.2=0
   ·
    exact ⟨_,rfl,.inl ⟨he,by rw [e];exact he,H',by rw [e];exact hS',hov⟩⟩
   ·
    exact ⟨_,rfl,.inr ⟨he,by rw [e],H',by rw [e];exact hS',hov⟩⟩
end
section
open Go.RowKit
def cM:Nat→aG→Cache→List Int→List Int→IK
 | 0,m,q,left,out=>(m,q,left,out,1400)
 | n+1,m,q,left,out =>
  if m.dp.2.2≠0 then (m.dp.1,q,left,out,m.dp.2.2)
  else if m.dp.2.1=false then (m.dp.1,q,left,out,0)
  else match left with
   | []=>cM n m.dp.1 q [] out
   | x::l=>if (eg m.dp.1 q x l out).2.2.2.2≠0 then eg m.dp.1 q x l out else cM n (eg m.dp.1 q x l out).1 (eg m.dp.1 q x l out).2.1 (eg m.dp.1 q x l out).2.2.1 (eg m.dp.1 q x l out).2.2.2.1
theorem kY (m:aG):bG m m.dp.1:=cQ m 5 0 [] 1
theorem JO (m:aG) (q:Cache) (x:Int) (left out:List Int):((eQ m q x left out).2.2.1=left∨(eQ m q x left out).2.2.1=x::left)∧(eQ m q x left out).2.2.2.1.length+(eQ m q x left out).2.2.1.length=out.length+left.length+1:=by
 unfold eQ
 split
 ·
  exact ⟨.inr rfl,by simp;omega⟩
 ·
  exact ⟨.inl rfl,by simp;omega⟩
theorem Aj (m:aG) (q:Cache) (x:Int) (left out:List Int):((eg m q x left out).2.2.1=left∨(eg m q x left out).2.2.1=x::left)∧(eg m q x left out).2.2.2.1.length+(eg m q x left out).2.2.1.length=out.length+left.length+1:=by
 have h:=JO (m.run 117 0 [] 0).1 q x left out
 unfold eg
 split
 ·
  exact ⟨.inr rfl,by simp;omega⟩
 split <;> exact h
theorem xL (N sv k c b:Nat) (m:aG) (q:Cache) (left out:List Int) (H:Nat→Prop) (w:World) (h:dw w N sv k c b m q left out H) (ok:m.Ok):Calls prog 167 #[.pointer (some ⟨k,0,none⟩)] w fun e w'=>e=.returned (.tuple #[.bool m.dp.2.1,.int .i64 m.dp.2.2]) ∧ ∃ H',dw w' N sv k c b m.dp.1 q left out H'∧Step H H' w w':=by
 obtain ⟨a,cap,v,hB,hS,hN⟩:=h
 obtain ⟨G,hc,hw,hH,hh⟩:=hB.ex
 refine (wg k c m G w hc ok).mono ?_
 rintro e w' ⟨rfl,G',hc',st⟩
 exact ⟨rfl,_,dw.wK hw hH hh hS hN (kY m) hc' st⟩
def ki (w:World) (sv k:Nat):World :=
 ((((((w.alloc (.cells #[.pointer (some ⟨k,0,none⟩)] 85)).alloc (.cells #[.int .i64 117] 3)).alloc (.cells #[.int .i64 0] 3)).alloc (.cells #[.pointer (some ⟨k,0,none⟩)] 85)).alloc (.cells #[.int .i64 122] 3)).alloc (.cells #[.int .i64 0] 3)).alloc (.cells #[.func (.func 169) #[] #[.pointer (some ⟨w.heap.size,0,none⟩),.pointer (some ⟨w.heap.size+1,0,none⟩),.pointer (some ⟨w.heap.size+2,0,none⟩)],.func (.func 168) #[.pointer (some ⟨sv,0,none⟩)] #[],.func (.func 169) #[] #[.pointer (some ⟨w.heap.size+3,0,none⟩),.pointer (some ⟨w.heap.size+4,0,none⟩),.pointer (some ⟨w.heap.size+5,0,none⟩)]] 144)
theorem xV (w:World) (sv k:Nat):(ki w sv k).heap=((((((w.heap.push (.cells #[.pointer (some ⟨k,0,none⟩)] 85)).push (.cells #[.int .i64 117] 3)).push (.cells #[.int .i64 0] 3)).push (.cells #[.pointer (some ⟨k,0,none⟩)] 85)).push (.cells #[.int .i64 122] 3)).push (.cells #[.int .i64 0] 3)).push (.cells #[.func (.func 169) #[] #[.pointer (some ⟨w.heap.size,0,none⟩),.pointer (some ⟨w.heap.size+1,0,none⟩),.pointer (some ⟨w.heap.size+2,0,none⟩)],.func (.func 168) #[.pointer (some ⟨sv,0,none⟩)] #[],.func (.func 169) #[] #[.pointer (some ⟨w.heap.size+3,0,none⟩),.pointer (some ⟨w.heap.size+4,0,none⟩),.pointer (some ⟨w.heap.size+5,0,none⟩)]] 144):=rfl
theorem LV (A:Array Obj) (o0 o1 o2 o3 o4 o5 o6:Obj):let B:=((((((A.push o0).push o1).push o2).push o3).push o4).push o5).push o6;B[A.size]? = some o0∧B[A.size+1]? = some o1∧B[A.size+2]? = some o2∧B[A.size+3]? = some o3∧B[A.size+4]? = some o4∧B[A.size+5]? = some o5∧B[A.size+6]? = some o6:=by
 intro B
 refine ⟨?_,?_,?_,?_,?_,?_,?_⟩
 all_goals
  simp only [B,Array.getElem?_push,Array.size_push]
  repeat (first | rw [if_pos trivial] | rw [if_pos (by omega)] | rw [if_neg (by omega)])
theorem uL (w:World) (sv k:Nat):Below w.heap.size w (ki w sv k):=ae (ae (ae (ae (ae (ae (ae zR _) _) _) _) _) _) _
theorem LD (w:World) (sv k:Nat):vQ (ki w sv k) w.heap.size sv k:=by
 obtain ⟨h0,h1,h2,h3,h4,h5,h6⟩:=LV w.heap (.cells #[.pointer (some ⟨k,0,none⟩)] 85) (.cells #[.int .i64 117] 3) (.cells #[.int .i64 0] 3) (.cells #[.pointer (some ⟨k,0,none⟩)] 85) (.cells #[.int .i64 122] 3) (.cells #[.int .i64 0] 3) (.cells #[.func (.func 169) #[] #[.pointer (some ⟨w.heap.size,0,none⟩),.pointer (some ⟨w.heap.size+1,0,none⟩),.pointer (some ⟨w.heap.size+2,0,none⟩)],.func (.func 168) #[.pointer (some ⟨sv,0,none⟩)] #[],.func (.func 169) #[] #[.pointer (some ⟨w.heap.size+3,0,none⟩),.pointer (some ⟨w.heap.size+4,0,none⟩),.pointer (some ⟨w.heap.size+5,0,none⟩)]] 144)
 exact ⟨cell_of (show (ki w sv k).heap[w.heap.size]? = _ from h0) 0,cell_of (show (ki w sv k).heap[w.heap.size+1]? = _ from h1) 0,cell_of (show (ki w sv k).heap[w.heap.size+2]? = _ from h2) 0,cell_of (show (ki w sv k).heap[w.heap.size+3]? = _ from h3) 0,cell_of (show (ki w sv k).heap[w.heap.size+4]? = _ from h4) 0,cell_of (show (ki w sv k).heap[w.heap.size+5]? = _ from h5) 0,cell_of (show (ki w sv k).heap[w.heap.size+6]? = _ from h6) 0,cell_of (show (ki w sv k).heap[w.heap.size+6]? = _ from h6) 1,cell_of (show (ki w sv k).heap[w.heap.size+6]? = _ from h6) 2⟩
theorem Io (w:World) (N sv k c b:Nat) (m:aG) (q:Cache) (left out:List Int) (H:Nat→Prop) (h:dw w N sv k c b m q left out H):Aw (ki w sv k) w.heap.size sv H:=by
 have hs:(ki w sv k).heap.size=w.heap.size+7:=by rw [xV];simp
 refine ⟨by omega,fun i h1 h2 hy => ?_⟩
 obtain ⟨a,cap,v,hB,hS,hN⟩:=h
 rcases hy with hy | hy | ⟨v',hv,hv2⟩
 ·
  obtain ⟨G,hc,⟨_,_,_,_,hw⟩,hH,_⟩:=hB.ex
  rcases (hH i).1 hy with hg | hg
  ·
   have:=hc.lt i hg;omega
  ·
   have:=(Array.getElem?_eq_some_iff.1 hw.raw).1;omega
 ·
  have:=(Array.getElem?_eq_some_iff.1 hS.raw).1;omega
 ·
  have e1:w.cell? ⟨sv,2,none⟩=some v:=cell_of hS.raw 2
  have e2:=((uL w sv k).cell (p:=⟨sv,2,none⟩) (zL w _ e1)).trans e1
  rw [hv] at e2
  obtain rfl:v'=v:=by simpa using e2
  have:=(hS.own.lt i hv2).2
  omega
theorem DB (N sv k c b n:Nat) (m:aG) (q:Cache) (left out:List Int) (H:Nat→Prop) (w:World) (h:dw w N sv k c b m q left out H) (ok:m.Ok) (g:q.Good) (hx : ∀ x ∈ left,0≤x∧x<4096) (ho:out.length+left.length≤1000) (hn:n=256):Calls prog 127 #[.pointer (some ⟨sv,0,none⟩),.pointer (some ⟨k,0,none⟩)] w fun e w'=>e=.returned (.int .i64 (cM n m q left out).2.2.2.2) ∧ ∃ H',dw w' N sv k c b (cM n m q left out).1 (cM n m q left out).2.1 (cM n m q left out).2.2.1 (cM n m q left out).2.2.2.1 H'∧cE N sv H H' w w':=by
 have H0:=zH (zA h (zA ok (zA g (zA hx ho))))
 obtain ⟨rr,hrr⟩ : ∃ rr,rr=cM n m q left out:=⟨_,rfl⟩
 rw [← hrr]
 have HV:=zH hrr
 have hNw:N≤w.heap.size:=by
  obtain ⟨a,cap,v,hB,hS,hN⟩:=h
  have:=(Array.getElem?_eq_some_iff.1 hS.raw).1
  have:=hS.lo;omega
 have HNW:=zH hNw
 have HN:=zH hn
 clear h ok g hx ho hrr hNw hn
 go_enter func127,ntmps127
 go_wp2
 go_loopw [8] (fun i wr => ∃ (j:Nat) (lj oj:List Int) (mj:aG) (qj:Cache) (Hj:Nat→Prop),j≤n∧i=.int .i64 j∧dw wr N sv k c b mj qj lj oj Hj∧mj.Ok∧qj.Good∧(∀ x ∈ lj,0≤x∧x<4096)∧oj.length+lj.length≤1000∧cE N sv H Hj w wr∧rr=cM (n - j) mj qj lj oj) (fun i _=>n - (intOf i).toNat)
 case atStart=>exact ⟨0,left,out,m,q,H,Nat.zero_le _,rfl,H0.out.1,H0.out.2.1,H0.out.2.2.1,H0.out.2.2.2.1,H0.out.2.2.2.2,cE.refl _ _ _ _,HV.out⟩
 case round =>
  obtain ⟨j,lj,oj,mj,qj,Hj,hj,rfl,hS,hok,hg,hxs,hol,hov,hr⟩:=hrel
  by_cases hlt:j<n
  ·
   have g1:(j:Int)<256:=by have:=HN.out;omega
   have HSJ:=zH hS
   have HB:=zH (xL N sv k c b mj qj lj oj Hj wr hS hok)
   have HBO:=zH (mD hok)
   rw [show n - j=(n - (j+1))+1 by omega] at hr
   unfold cM at hr
   have HR:=zH hr
   have HX:=zH (zA hg (zA hxs (zA hol hov)))
   clear hS hok hg hxs hol hov hr
   generalize mj.dp=br at *
   obtain ⟨mn,y,er⟩:=br
   simp only at HB HBO HR
   by_cases he:er=0
   ·
    subst he
    cases y with
    | false =>
     go_wp2_with fail
     refine HB.out.mono ?_
     rintro e w2 ⟨rfl,H2,hS2,st2⟩
     have H2':=zH (zA hS2 (HX.out.2.2.2.trans HNW.out (cE.gd HSJ.out st2)))
     clear hS2 st2
     go_wp2
     go_ret
     rw [show rr=(mn,qj,lj,oj,0) from HR.out.trans (by simp)]
     exact ⟨rfl,H2,H2'.out⟩
    | true =>
     cases lj with
     | nil =>
      go_wp2_with fail
      refine HB.out.mono ?_
      rintro e w2 ⟨rfl,H2,hS2,st2⟩
      have H2':=zH (zA hS2 (HX.out.2.2.2.trans HNW.out (cE.gd HSJ.out st2)))
      obtain ⟨a2,cap2,v2,hB2,hSv2,hN2⟩:=hS2
      have c1:w2.cell? ⟨sv,1,none⟩=some (.slice a2 0 cap2):=cell_of hSv2.raw 1
      clear st2 hB2 hSv2 hN2
      go_wp2
      go_roundw
      case rel=>exact ⟨j+1,[],oj,mn,qj,H2,by omega,by go_num,H2'.out.1,HBO.out,HX.out.1,HX.out.2.1,HX.out.2.2.1,H2'.out.2,HR.out.trans (by simp)⟩
      case measure=>simp [intOf];omega
     | cons x l =>
      have hx0:=HX.out.2.1 x (by simp)
      have hlen:=Aj mn qj x l oj
      have HSO:=zH (zA (Dn HBO.out HX.out.1 x l oj hx0.1) hlen)
      have hl0:((l.length+1:Nat) == 0)=false:=rfl
      go_wp2_with fail
      refine HB.out.mono ?_
      rintro e w2 ⟨rfl,H2,hS2,st2⟩
      have hN2:N≤w2.heap.size:=Nat.le_trans HNW.out (Nat.le_trans HX.out.2.2.2.1.1.size st2.aH.size)
      have hov2:=HX.out.2.2.2.trans HNW.out (cE.gd HSJ.out st2)
      have hbw:=uL w2 sv k
      have hov3:=hov2.trans HNW.out (cE.gd hS2 (Step.ah (F:=H2) hbw))
      have HSU:=zH (E5 N sv k c b w2.heap.size mn qj x l oj H2 (ki w2 sv k) (hS2.aj hbw) HBO.out HX.out.1 hx0.1 hx0.2 (by have:=HX.out.2.2.1;simp at this;omega) (LD w2 sv k) (Io w2 N sv k c b mn qj (x::l) oj H2 hS2) (Nat.le_trans hN2 hbw.size))
      have HOV:=zH hov3
      have HWS:=zH (show (ki w2 sv k).heap.size=w2.heap.size+7 by rw [xV];simp)
      obtain ⟨a2,cap2,v2,hB2,hSv2,hNN2⟩:=hS2
      have c1:w2.cell? ⟨sv,1,none⟩=some (.slice a2 (l.length+1) cap2):=cell_of hSv2.raw 1
      have H2x:=zH (zA hN2 hbw.size)
      clear st2 hB2 hSv2 hNN2 hov2 hov3 hbw hN2
      go_wp2_with ((go_at_call 130;refine (qM k _ _ _).mono ?_;rintro e wq ⟨rfl,rfl⟩))
      refine HSU.out.mono ?_
      rintro e w3 ⟨er,rfl,hcase⟩
      have hN3:N≤(ki w2 sv k).heap.size:=Nat.le_trans H2x.out.1 H2x.out.2
      rcases hcase with ⟨rfl,he3,H3,hS3,hO3⟩ | ⟨hne,hee,H3,hS3,hO3⟩
      ·
       have H3':=zH (zA he3 (zA hS3 (HOV.out.trans HNW.out hO3)))
       clear he3 hS3 hO3 hN3
       go_wp2
       go_roundw
       case rel =>
        obtain ⟨he3,hS3,hov⟩:=H3'.out
        refine ⟨j+1,_,_,_,_,H3,by omega,by go_num,hS3,HSO.out.1.1,HSO.out.1.2.1,fun y hy => ?_,?_,hov,HR.out.trans ?_⟩
        ·
         rcases HSO.out.2.1 with e | e
         ·
          rw [e] at hy;exact HX.out.2.1 y (by simp [hy])
         ·
          rw [e] at hy;exact HX.out.2.1 y hy
        ·
         have:=HSO.out.2.2;have h9:=HX.out.2.2.1;simp at h9;omega
        ·
         rw [if_neg (by decide),if_neg (by decide)]
         exact if_neg (by simpa using he3)
       case measure=>simp [intOf];omega
      ·
       have he':(er != 0)=true:=bne_iff_ne.2 hne
       have H3':=zH (zA hne (zA hee (zA hS3 (HOV.out.trans HNW.out hO3))))
       clear hne hee hS3 hO3 hN3
       go_wp2
       go_ret
       obtain ⟨hne,hee,hS3,hov⟩:=H3'.out
       rw [show rr=eg mn qj x l oj from HR.out.trans (by rw [if_neg (by decide),if_neg (by decide)];exact if_pos (by rw [← hee];exact hne))]
       exact ⟨by rw [hee];rfl,H3,hS3,hov⟩
   ·
    have he':(er != 0)=true:=bne_iff_ne.2 he
    have HE:=zH he
    clear he
    go_wp2_with fail
    refine HB.out.mono ?_
    rintro e w2 ⟨rfl,H2,hS2,st2⟩
    have H2':=zH (zA hS2 (HX.out.2.2.2.trans HNW.out (cE.gd HSJ.out st2)))
    clear hS2 st2
    go_wp2
    go_ret
    rw [show rr=(mn,qj,lj,oj,er) from HR.out.trans (if_pos HE.out)]
    exact ⟨rfl,H2,H2'.out⟩
  ·
   obtain rfl:n=j:=by omega
   have g1 : ¬ ((n:Int)<256):=by have:=HN.out;omega
   rw [Nat.sub_self] at hr
   have HR:=zH (show rr=(mj,qj,lj,oj,1400) from hr)
   have HS:=zH (zA hS hov)
   clear hS hok hg hxs hol hov hr
   go_wp2
   go_ret
   rw [HR.out]
   exact ⟨rfl,Hj,HS.out⟩
end
section
open Go.RowKit
theorem J0 (p:Int) (h0:0≤p) (h1:p<4096):gX 32 p [] 0:=⟨by decide,h0,h1,fun e=>absurd e (by decide),by decide,by decide,by decide,by decide,by decide⟩
theorem tI (N sv k c b:Nat) (m:aG) (q:Cache) (left out:List Int) (H:Nat→Prop) (w:World) (h:dw w N sv k c b m q left out H):Calls prog 129 #[.pointer (some ⟨b,0,none⟩)] w fun e w'=>e=.returned (.int .i64 0) ∧ ∃ H',dw w' N sv k c b m Cache.new left out H'∧Step H H' w w':=by
 obtain ⟨a,cap,v,hB,hS,hN⟩:=h
 refine (AM k c b m q H w hB).mono ?_
 rintro e w' ⟨rfl,H',hB',st⟩
 exact ⟨rfl,H',⟨a,cap,v,hB',hS.step st,hN⟩,st⟩
def dr (m:aG) (p:Int) (reads:List Int):IK :=
 if (m.run 6 0 [] 0).2.2≠0 then ((m.run 6 0 [] 0).1,Cache.new,reads,[],(m.run 6 0 [] 0).2.2)
 else if ((m.run 6 0 [] 0).1.run 32 p [] 0).2.2≠0 then (((m.run 6 0 [] 0).1.run 32 p [] 0).1,Cache.new,reads,[],((m.run 6 0 [] 0).1.run 32 p [] 0).2.2)
 else cM 256 ((m.run 6 0 [] 0).1.run 32 p [] 0).1 Cache.new reads []
structure tR (w:World) (n x y sv k b:Nat) (p:Int):Prop where
 cx:w.cell? ⟨x,0,none⟩=some (.pointer (some ⟨k,0,none⟩))
 cy:w.cell? ⟨y,0,none⟩=some (.pointer (some ⟨sv,0,none⟩))
 x1:w.cell? ⟨n,0,none⟩=some (.pointer (some ⟨k,0,none⟩))
 y1:w.cell? ⟨n+1,0,none⟩=some (.int .i64 6)
 z1:w.cell? ⟨n+2,0,none⟩=some (.int .i64 0)
 x3:w.cell? ⟨n+3,0,none⟩=some (.pointer (some ⟨k,0,none⟩))
 y3:w.cell? ⟨n+4,0,none⟩=some (.int .i64 32)
 z3:w.cell? ⟨n+5,0,none⟩=some (.int .i64 p)
 f0:w.cell? ⟨n+6,0,none⟩=some (.func (.func 129) #[.pointer (some ⟨b,0,none⟩)] #[])
 f1:w.cell? ⟨n+6,1,none⟩=some (.func (.func 169) #[] #[.pointer (some ⟨n,0,none⟩),.pointer (some ⟨n+1,0,none⟩),.pointer (some ⟨n+2,0,none⟩)])
 f2:w.cell? ⟨n+6,2,none⟩=some (.func (.func 169) #[] #[.pointer (some ⟨n+3,0,none⟩),.pointer (some ⟨n+4,0,none⟩),.pointer (some ⟨n+5,0,none⟩)])
 f3:w.cell? ⟨n+6,3,none⟩=some (.func (.func 126) #[] #[.pointer (some ⟨y,0,none⟩),.pointer (some ⟨x,0,none⟩)])
def pF (w:World) (n x y:Nat) (H:Nat→Prop):Prop:=n+7≤w.heap.size∧x<w.heap.size∧y<w.heap.size ∧ ∀ i,(i=x∨i=y∨(n≤i∧i<n+7)) → ¬ H i
theorem tR.step {w w':World} {n x y sv k b:Nat} {p:Int} {H H':Nat→Prop} (h:tR w n x y sv k b p) (o:pF w n x y H) (st:Step H H' w w'):tR w' n x y sv k b p∧pF w' n x y H':=by
 obtain ⟨o1,o2,o3,d⟩:=o
 have t:=st.aH
 refine ⟨⟨t.cell _ _ h.cx (d _ (by omega)),t.cell _ _ h.cy (d _ (by omega)),t.cell _ _ h.x1 (d _ (by omega)),t.cell _ _ h.y1 (d _ (by omega)),t.cell _ _ h.z1 (d _ (by omega)),t.cell _ _ h.x3 (d _ (by omega)),t.cell _ _ h.y3 (d _ (by omega)),t.cell _ _ h.z3 (d _ (by omega)),t.cell _ _ h.f0 (d _ (by omega)),t.cell _ _ h.f1 (d _ (by omega)),t.cell _ _ h.f2 (d _ (by omega)),t.cell _ _ h.f3 (d _ (by omega))⟩,Nat.le_trans o1 t.size,zV o2 t.size,zV o3 t.size,fun i hi=>st.safe (by rcases hi with rfl | rfl | ⟨h1,h2⟩ <;> omega) (d i hi)⟩
def M9 (n x y b:Nat):Nat→Mt
 | 0=>⟨129,#[.pointer (some ⟨b,0,none⟩)],#[]⟩
 | 1=>⟨169,#[],#[.pointer (some ⟨n,0,none⟩),.pointer (some ⟨n+1,0,none⟩),.pointer (some ⟨n+2,0,none⟩)]⟩
 | 2=>⟨169,#[],#[.pointer (some ⟨n+3,0,none⟩),.pointer (some ⟨n+4,0,none⟩),.pointer (some ⟨n+5,0,none⟩)]⟩
 | _=>⟨126,#[],#[.pointer (some ⟨y,0,none⟩),.pointer (some ⟨x,0,none⟩)]⟩
theorem Mp (args:Array Value) (w:World):(callFunc 129 args).run prog w=.ok (.enter 129 args) w:=by kernel_rfl
theorem Mo (args:Array Value) (w:World):(callFunc 126 args).run prog w=.ok (.enter 126 args) w:=by kernel_rfl
attribute [local irreducible] aG.run bH cM
theorem vn (N sv k c b x y:Nat) (m:aG) (q:Cache) (left out:List Int) (H:Nat→Prop) (w:World) (h:dw w N sv k c b m q left out H) (ok:m.Ok) (g:q.Good) (hx : ∀ x ∈ left,0≤x∧x<4096) (ho:out.length+left.length≤1000) (cx:w.cell? ⟨x,0,none⟩=some (.pointer (some ⟨k,0,none⟩))) (cy:w.cell? ⟨y,0,none⟩=some (.pointer (some ⟨sv,0,none⟩))):Calls prog 126 #[.pointer (some ⟨y,0,none⟩),.pointer (some ⟨x,0,none⟩)] w fun e w'=>e=.returned (.int .i64 (cM 256 m q left out).2.2.2.2) ∧ ∃ H',dw w' N sv k c b (cM 256 m q left out).1 (cM 256 m q left out).2.1 (cM 256 m q left out).2.2.1 (cM 256 m q left out).2.2.2.1 H'∧cE N sv H H' w w':=by
 have HW:=zH (DB N sv k c b 256 m q left out H w h ok g hx ho rfl)
 clear h ok g hx ho
 generalize cM 256 m q left out=rr at *
 go_enter func126,ntmps126
 go_wp2_with fail
 refine HW.out.mono ?_
 rintro e w2 ⟨rfl,H2,h2⟩
 have H2':=zH h2
 clear h2
 go_wp2
 go_ret
 exact ⟨rfl,H2,H2'.out⟩
def MA (w0:World) (N sv k c b n x y:Nat) (m:aG) (p:Int) (reads:List Int) (H:Nat→Prop):Nat→World→Prop
 | 0,w=>w=w0
 | 1,w=>tR w n x y sv k b p ∧ ∃ H',dw w N sv k c b m Cache.new reads [] H'∧cE N sv H H' w0 w∧pF w n x y H'
 | 2,w=>tR w n x y sv k b p∧(m.run 6 0 [] 0).2.2=0 ∧ ∃ H',dw w N sv k c b (m.run 6 0 [] 0).1 Cache.new reads [] H'∧cE N sv H H' w0 w∧pF w n x y H'
 | 3,w=>tR w n x y sv k b p∧(m.run 6 0 [] 0).2.2=0∧((m.run 6 0 [] 0).1.run 32 p [] 0).2.2=0 ∧ ∃ H',dw w N sv k c b ((m.run 6 0 [] 0).1.run 32 p [] 0).1 Cache.new reads [] H'∧cE N sv H H' w0 w∧pF w n x y H'
 | _,w=>(dr m p reads).2.2.2.2=0 ∧ ∃ H',dw w N sv k c b (dr m p reads).1 (dr m p reads).2.1 (dr m p reads).2.2.1 (dr m p reads).2.2.2.1 H'∧cE N sv H H' w0 w
def Mz (w0:World) (N sv k c b:Nat) (m:aG) (p:Int) (reads:List Int) (H:Nat→Prop) (er:Int) (w:World):Prop :=
 er=(dr m p reads).2.2.2.2 ∧ ∃ H',dw w N sv k c b (dr m p reads).1 (dr m p reads).2.1 (dr m p reads).2.2.1 (dr m p reads).2.2.2.1 H'∧cE N sv H H' w0 w
theorem yb (N sv k c b n x y:Nat) (m:aG) (q:Cache) (p:Int) (reads:List Int) (H:Nat→Prop) (w0:World) (h:dw w0 N sv k c b m q reads [] H) (ok:m.Ok) (hr : ∀ x ∈ reads,0≤x∧x<4096) (hl:reads.length≤16) (p0:0≤p) (p1:p<4096) (hF:tR w0 n x y sv k b p) (hO:pF w0 n x y H) (hNw:N≤w0.heap.size):Calls prog 128 #[.slice (some ⟨n+6,0,none⟩) 4 4] w0 (pE 4 (MA w0 N sv k c b n x y m p reads H) (Mz w0 N sv k c b m p reads H)):=by
 have o1:=ew ok 6 0 [] 0 A7
 have o2:=ew o1 32 p [] 0 (J0 p p0 p1)
 refine om (n+6) 4 4 (M9 n x y b) _ _ w0 rfl (by decide) ?_ ?_ ?_
 ·
  intro j w hj hS
  obtain rfl | rfl | rfl | rfl:j=0∨j=1∨j=2∨j=3:=by omega
  ·
   rw [show w=w0 from hS];exact hF.f0
  ·
   exact hS.1.f1
  ·
   exact hS.1.f2
  ·
   exact hS.1.f3
 ·
  intro j hj args w
  obtain rfl | rfl | rfl | rfl:j=0∨j=1∨j=2∨j=3:=by omega
  ·
   exact Mp args w
  ·
   exact A9 args w
  ·
   exact A9 args w
  ·
   exact Mo args w
 ·
  intro j w hj hS
  obtain rfl | rfl | rfl | rfl:j=0∨j=1∨j=2∨j=3:=by omega
  ·
   obtain rfl:w=w0:=hS
   refine (tI N sv k c b m q reads [] H w h).mono ?_
   rintro e w' ⟨rfl,H',hS',st⟩
   obtain ⟨hF',hO'⟩:=hF.step hO st
   exact ⟨_,rfl,.inl ⟨rfl,hF',H',hS',cE.gd h st,hO'⟩⟩
  ·
   obtain ⟨hF1,H1,hS1,hV1,hO1⟩:=hS
   refine (jT N sv k c b n (n+1) (n+2) m Cache.new reads [] H1 6 0 w hS1 ok A7 hF1.x1 hF1.y1 hF1.z1).mono ?_
   rintro e w' ⟨rfl,H',hS',st⟩
   obtain ⟨hF',hO'⟩:=hF1.step hO1 st
   have hV:=hV1.trans hNw (cE.gd hS1 st)
   by_cases he:(m.run 6 0 [] 0).2.2=0
   ·
    exact ⟨_,rfl,.inl ⟨he,hF',he,H',hS',hV,hO'⟩⟩
   ·
    have e:dr m p reads=((m.run 6 0 [] 0).1,Cache.new,reads,[],(m.run 6 0 [] 0).2.2):=if_pos he
    exact ⟨_,rfl,.inr ⟨he,by rw [e],H',by rw [e];exact hS',hV⟩⟩
  ·
   obtain ⟨hF1,he1,H1,hS1,hV1,hO1⟩:=hS
   refine (jT N sv k c b (n+3) (n+4) (n+5) _ Cache.new reads [] H1 32 p w hS1 o1 (J0 p p0 p1) hF1.x3 hF1.y3 hF1.z3).mono ?_
   rintro e w' ⟨rfl,H',hS',st⟩
   obtain ⟨hF',hO'⟩:=hF1.step hO1 st
   have hV:=hV1.trans hNw (cE.gd hS1 st)
   by_cases he:((m.run 6 0 [] 0).1.run 32 p [] 0).2.2=0
   ·
    exact ⟨_,rfl,.inl ⟨he,hF',he1,he,H',hS',hV,hO'⟩⟩
   ·
    have e:dr m p reads=(((m.run 6 0 [] 0).1.run 32 p [] 0).1,Cache.new,reads,[],((m.run 6 0 [] 0).1.run 32 p [] 0).2.2):=(if_neg (by simpa using he1)).trans (if_pos he)
    exact ⟨_,rfl,.inr ⟨he,by rw [e],H',by rw [e];exact hS',hV⟩⟩
  ·
   obtain ⟨hF1,he1,he2,H1,hS1,hV1,hO1⟩:=hS
   refine (vn N sv k c b x y _ Cache.new reads [] H1 w hS1 o2 Cache.mH hr (by simp;omega) hF1.cx hF1.cy).mono ?_
   rintro e w' ⟨rfl,H',hS',hV'⟩
   have hV:=hV1.trans hNw hV'
   have e:dr m p reads=cM 256 ((m.run 6 0 [] 0).1.run 32 p [] 0).1 Cache.new reads []:=(if_neg (by simpa using he1)).trans (if_neg (by simpa using he2))
   by_cases he:(cM 256 ((m.run 6 0 [] 0).1.run 32 p [] 0).1 Cache.new reads []).2.2.2.2=0
   ·
    exact ⟨_,rfl,.inl ⟨he,by rw [e];exact he,H',by rw [e];exact hS',hV⟩⟩
   ·
    exact ⟨_,rfl,.inr ⟨he,by rw [e],H',by rw [e];exact hS',hV⟩⟩
end
end Go.Proofs.YtcfdenckiigdaaaGreat

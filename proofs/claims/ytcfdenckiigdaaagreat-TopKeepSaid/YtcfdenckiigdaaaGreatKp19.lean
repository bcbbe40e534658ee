/- Part 19 of the contracts. -/
import Derived.Test.YtcfdenckiigdaaaGreatKp18
set_option linter.unusedVariables false
set_option maxRecDepth 100000
set_option maxHeartbeats 4000000
namespace Go.Proofs.YtcfdenckiigdaaaGreat
section
open Go.RowKit
def Cache.put (q:Cache) (i:Nat) (f:Int) (s:ByteArray) (next:Int):Cache:=if i=0 then ⟨f,q.a1,s,q.t1,next⟩ else ⟨q.a0,f,q.t0,s,next⟩
def Cache.keep (q:Cache) (f:Int) (s:ByteArray):Cache:=if q.a0=f then q.put 0 f s q.next else if q.a1=f then q.put 1 f s q.next else if q.next=0 then q.put 0 f s 1 else q.put 1 f s 0
theorem qmp {q:Cache} (g:q.Good) (f:Int) (s:ByteArray) (h0:0≤f) (h1:f<4096) (h2:f % 16=0) (hs:s.size=16):(q.keep f s).Good:=by
 have L:qq4 f s:=.inr ⟨h0,h1,h2,hs⟩
 unfold Cache.keep Cache.put
 split
 ·
  rename_i h;rw [if_pos rfl];exact ⟨L,g.l1,fun hn=>by have:=g.ne hn;rw [h] at this;exact this,g.next⟩
 ·
  rename_i hn0
  split
  ·
   rename_i h;rw [if_neg (by decide)];exact ⟨g.l0,L,fun _ e=>hn0 e.symm,g.next⟩
  ·
   rename_i hn1
   split
   ·
    rw [if_pos rfl];exact ⟨L,g.l1,fun _ e=>hn1 e,.inr rfl⟩
   ·
    rw [if_neg (by decide)];exact ⟨g.l0,L,fun _ e=>hn0 e.symm,.inl rfl⟩
theorem ql1 {w':World} {B:Nat} {t:TypeId} {v:Value} {a b:Value} (h:w'.ownsRow B t 1 v 2 [a,b]) (hn:v≠.slice none 0 0) : ∃ g cap cur,v=.slice (some ⟨g,0,none⟩) 2 cap∧B≤g∧2≤cap∧w'.heap[g]? = some (.cells cur t (0,0))∧cur[0]? = some a∧cur[1]? = some b:=by
 rcases h.2 with ⟨h',_⟩ | ⟨g,cap,cur,rfl,hb,hg,hn2,_,hs,ht⟩
 ·
  exact absurd h' hn
 ·
  refine ⟨g,cap,cur,rfl,hb,hn2,hg,?_,?_⟩
  ·
   have:=congrArg (fun l:List Value=>l[0]?) ht
   simpa [List.getElem?_take] using this
  ·
   have:=congrArg (fun l:List Value=>l[1]?) ht
   simpa [List.getElem?_take] using this
theorem qaZ.cloneA {w:World} {ab ac tb tc:Nat} {q:Cache} (h:qaZ w ab ac tb tc q):Calls Tryz.prog 56 #[.slice (some ⟨ab,0,none⟩) 2 ac] w fun e w' =>
  ∃ g cap cur,e=.returned (.slice (some ⟨g,0,none⟩) 2 cap)∧w.heap.size≤g∧2≤cap∧w'.heap[g]? = some (.cells cur 3 (0,0))∧cur[0]? = some (.int .i64 q.a0)∧cur[1]? = some (.int .i64 q.a1)∧Below w.heap.size w w':=by
 refine (Tryz.slices_Clone_int ab 0 2 ac [q.a0,q.a1] w (by simp) (by decide) (fun j hj=>by
  have hj:j<2:=hj
  match j,hj with
  | 0,_=>exact h.a0
  | 1,_=>exact h.a1)).mono ?_
 rintro e w' ⟨v',rfl,ho,hn,hb⟩
 obtain ⟨g,cap,cur,rfl,h1,h2,h3,h4,h5⟩:=ql1 (a:=.int .i64 q.a0) (b:=.int .i64 q.a1) ho hn
 exact ⟨g,cap,cur,rfl,h1,h2,h3,h4,h5,hb⟩
theorem qaZ.cloneT {w:World} {ab ac tb tc:Nat} {q:Cache} (h:qaZ w ab ac tb tc q):Calls Tryz.prog 177 #[.slice (some ⟨tb,0,none⟩) 2 tc] w fun e w' =>
  ∃ g cap cur,e=.returned (.slice (some ⟨g,0,none⟩) 2 cap)∧w.heap.size≤g∧2≤cap∧w'.heap[g]? = some (.cells cur 9 (0,0))∧cur[0]? = some (.string q.t0)∧cur[1]? = some (.string q.t1)∧Below w.heap.size w w':=by
 refine (Tryz.slices_Clone_string tb 0 2 tc [q.t0,q.t1] w (by simp) (by decide) (fun j hj=>by
  have hj:j<2:=hj
  match j,hj with
  | 0,_=>exact h.t0
  | 1,_=>exact h.t1)).mono ?_
 rintro e w' ⟨v',rfl,ho,hn,hb⟩
 obtain ⟨g,cap,cur,rfl,h1,h2,h3,h4,h5⟩:=ql1 (a:=.string q.t0) (b:=.string q.t1) ho hn
 exact ⟨g,cap,cur,rfl,h1,h2,h3,h4,h5,hb⟩
structure qpD (w wx:World) (o a t ca ct:Nat) (q:Cache):Prop where
 hz:wx.heap[o]? = some (.cells #[.slice (some ⟨a,0,none⟩) 2 ca,.slice (some ⟨t,0,none⟩) 2 ct,.int .i64 q.next] 188 (0,0))
 cap:2≤ca∧2≤ct
 ra : ∃ cur,wx.heap[a]? = some (.cells cur 3 (0,0))∧cur[0]? = some (.int .i64 q.a0)∧cur[1]? = some (.int .i64 q.a1)
 rt : ∃ cur,wx.heap[t]? = some (.cells cur 9 (0,0))∧cur[0]? = some (.string q.t0)∧cur[1]? = some (.string q.t1)
 lo:w.heap.size≤o∧w.heap.size≤a∧w.heap.size≤t
 ne:a≠o∧t≠o∧a≠t
 below:Below w.heap.size w wx
theorem qpD.next {w wx:World} {o a t ca ct:Nat} {q:Cache} (h:qpD w wx o a t ca ct q) (n:Int):qpD w (wx.setCell ⟨o,2,none⟩ (.int .i64 n)) o a t ca ct { q with next:=n }:=by
 rw [setCell_eq_setRow wx o 2 _ 188 (0,0) _ h.hz]
 refine ⟨setRow_heap _ _ _ _ _ _ h.hz,h.cap,?_,?_,h.lo,h.ne,qaW h.below _ _ h.lo.1⟩
 ·
  obtain ⟨cur,h1,h2⟩:=h.ra
  exact ⟨cur,(qam _ _ _ _ h.ne.1).trans h1,h2⟩
 ·
  obtain ⟨cur,h1,h2⟩:=h.rt
  exact ⟨cur,(qam _ _ _ _ h.ne.2.1).trans h1,h2⟩
theorem qpD.laid {w wx:World} {o a t ca ct:Nat} {q:Cache} (h:qpD w wx o a t ca ct q) (i:Nat) (hi:i<2) (x:Int) (s:ByteArray):let w8:=(wx.setCell ⟨a,i,none⟩ (.int .i64 x)).setCell ⟨t,i,none⟩ (.string s);w8.heap[o]? = some (.cells #[.slice (some ⟨a,0,none⟩) 2 ca,.slice (some ⟨t,0,none⟩) 2 ct,.int .i64 q.next] 188 (0,0))∧qaZ w8 a ca t ct (q.put i x s q.next)∧Below w.heap.size w w8:=by
 obtain ⟨cura,a1,a2,a3⟩:=h.ra
 obtain ⟨curt,t1,t2,t3⟩:=h.rt
 have e1:=setCell_eq_setRow wx a i cura 3 (0,0) (.int .i64 x) a1
 have t1':(wx.setCell ⟨a,i,none⟩ (.int .i64 x)).heap[t]? = some (.cells curt 9 (0,0)):=by rw [e1];exact (qam _ _ _ _ h.ne.2.2.symm).trans t1
 have e2:=setCell_eq_setRow (wx.setCell ⟨a,i,none⟩ (.int .i64 x)) t i curt 9 (0,0) (.string s) t1'
 intro w8
 have ha:w8.heap[a]? = some (.cells (cura.setIfInBounds i (.int .i64 x)) 3 (0,0)):=by
  show ((wx.setCell ⟨a,i,none⟩ (.int .i64 x)).setCell ⟨t,i,none⟩ (.string s)).heap[a]? = _
  rw [e2,qam _ _ _ _ h.ne.2.2,e1]
  exact setRow_heap _ _ _ _ _ _ a1
 have ht:w8.heap[t]? = some (.cells (curt.setIfInBounds i (.string s)) 9 (0,0)):=by
  show ((wx.setCell ⟨a,i,none⟩ (.int .i64 x)).setCell ⟨t,i,none⟩ (.string s)).heap[t]? = _
  rw [e2]
  exact setRow_heap _ _ _ _ _ _ t1'
 have g0:=(Array.getElem?_eq_some_iff.1 a2).1
 have g1:=(Array.getElem?_eq_some_iff.1 a3).1
 have k0:=(Array.getElem?_eq_some_iff.1 t2).1
 have k1:=(Array.getElem?_eq_some_iff.1 t3).1
 refine ⟨?_,?_,?_⟩
 ·
  show ((wx.setCell ⟨a,i,none⟩ (.int .i64 x)).setCell ⟨t,i,none⟩ (.string s)).heap[o]? = _
  rw [e2,qam _ _ _ _ h.ne.2.1.symm,e1,qam _ _ _ _ h.ne.1.symm]
  exact h.hz
 ·
  match i,hi with
  | 0,_=>exact ⟨h.cap,(qaa ha 0).trans (by simp [Cache.put,g0]),(qaa ha 1).trans (by simpa [Cache.put] using a3),(qaa ht 0).trans (by simp [Cache.put,k0]),(qaa ht 1).trans (by simpa [Cache.put] using t3)⟩
  | 1,_=>exact ⟨h.cap,(qaa ha 0).trans (by simpa [Cache.put] using a2),(qaa ha 1).trans (by simp [Cache.put,g1]),(qaa ht 0).trans (by simpa [Cache.put] using t2),(qaa ht 1).trans (by simp [Cache.put,k1])⟩
 ·
  show Below _ _ ((wx.setCell ⟨a,i,none⟩ (.int .i64 x)).setCell ⟨t,i,none⟩ (.string s))
  rw [e2,e1]
  exact qaW (qaW h.below _ _ h.lo.2.1) _ _ h.lo.2.2
def qoy (q:Cache) (w:World) (e:Ending) (w':World):Prop :=
 ∃ a t ca ct,e=.returned (.tuple #[.agg #[.slice (some ⟨a,0,none⟩) 2 ca,.slice (some ⟨t,0,none⟩) 2 ct,.int .i64 q.next],.int .i64 0])∧qaZ w' a ca t ct q∧w.heap.size≤a∧w.heap.size≤t∧Below w.heap.size w w'
theorem qhF {w w1 w8:World} {a t ca ct:Nat} {q:Cache} (h1:Below w.heap.size w w1) (h8:Below w1.heap.size w1 w8) (y:w.heap.size+1<w1.heap.size) (la:w1.heap.size≤a) (lt:w1.heap.size≤t) (hc:qaZ w8 a ca t ct q) (r:Array Value):qoy q w (.returned (.tuple #[.agg #[.slice (some ⟨a,0,none⟩) 2 ca,.slice (some ⟨t,0,none⟩) 2 ct,.int .i64 q.next],.int .i64 0])) (w8.setRow (w.heap.size+1) r):=by
 have ec : ∀ x i v,x≠w.heap.size+1→w8.cell? ⟨x,i,none⟩=some v→(w8.setRow (w.heap.size+1) r).cell? ⟨x,i,none⟩=some v:=fun x i v hx hv=>by
  unfold World.cell? at hv ⊢
  rw [qam _ _ _ _ hx];exact hv
 exact ⟨a,t,ca,ct,rfl,⟨hc.cap,ec _ _ _ (by omega) hc.a0,ec _ _ _ (by omega) hc.a1,ec _ _ _ (by omega) hc.t0,ec _ _ _ (by omega) hc.t1⟩,by omega,by omega,qaW (gtr h1 h8) _ _ (by omega)⟩
theorem qcm {fn:Func} {p u:Tmp} {ty:TypeId} (h:fn.results = #[.cell p ty,.tmp u]) (tmps:Array Value) (w:World) (g:Nat) (cs:Array Value) (hp:tmps.getD p undef=.pointer (some ⟨g,0,none⟩)) (hl:(loadVar ty ⟨g,0,none⟩).run Tryz.prog w=.ok (.agg cs) w):(results fn tmps).run Tryz.prog w=.ok (.tuple #[.agg cs,tmps.getD u undef]) w:=by
 have hp':tmps[p]?.getD undef=.pointer (some ⟨g,0,none⟩):=by simpa using hp
 rw [results_cell_tmp h]
 simp [hp',asAddr,hl,Result.andThen]
abbrev qv4 (ab ac tb tc:Nat) (n:Int):Obj:=.cells #[.slice (some ⟨ab,0,none⟩) 2 ac,.slice (some ⟨tb,0,none⟩) 2 tc,.int .i64 n] 188
abbrev qfn:Obj:=.cells #[.slice none 0 0,.slice none 0 0,.int .i64 0] 188
theorem qjJ (ab ac tb tc:Nat) (q:Cache) (x:Int) (s:ByteArray) (w:World) (h:qaZ w ab ac tb tc q) (g:q.Good) (x0:0≤x) (x1:x<4096) (x2:x % 16=0) (hs:s.size=16):Calls Tryz.prog 141 #[.agg #[.slice (some ⟨ab,0,none⟩) 2 ac,.slice (some ⟨tb,0,none⟩) 2 tc,.int .i64 q.next],.int .i64 x,.string s] w (qoy (q.keep x s) w):=by
 have hb:Below w.heap.size w ((w.alloc (qv4 ab ac tb tc q.next)).alloc qfn):=qac (qac (Below.refl _ _) _) _
 have HB:=zH hb
 have HM:=zH (qcW ab ac tb tc q _ (h.later hb) g)
 have H2:=zH (h.later hb)
 have HG:=zH g
 have hz0:((w.alloc (qv4 ab ac tb tc q.next)).alloc qfn).heap[w.heap.size]? = some (qv4 ab ac tb tc q.next):=qab (qac (Below.refl _ _) _) (qad w _)
 have hy0:((w.alloc (qv4 ab ac tb tc q.next)).alloc qfn).heap[w.heap.size+1]? = some qfn:=by simpa using qad (w.alloc (qv4 ab ac tb tc q.next)) qfn
 clear h g
 go_enter Tryz.func141,Tryz.ntmps141
 go_upto_region 3 with (first | (go_at_call 138;refine HM.out.mono ?_;rintro e w1 ⟨rfl,hb1⟩) | (go_at_call 176;refine (qbC x _ x0 x1 x2).mono ?_;rintro e w2 ⟨rfl,rfl⟩))
 have hz1:=qab hb1 hz0
 have hy1:=qab hb1 hy0
 have HB1:=zH (gtr HB.out hb1)
 have HCf:=zH (fun (v:World) (hv:Below w1.heap.size w1 v)=>(H2.out.later hb1).later hv)
 have HKf:=zH (fun (v:World) (hv:Below w1.heap.size w1 v)=>(show v.cell? ⟨w.heap.size,0,none⟩=some (.slice (some ⟨ab,0,none⟩) 2 ac)∧v.cell? ⟨w.heap.size,1,none⟩=some (.slice (some ⟨tb,0,none⟩) 2 tc)∧v.cell? ⟨w.heap.size,2,none⟩=some (.int .i64 q.next) from ⟨qaa (qab hv hz1) 0,qaa (qab hv hz1) 1,qaa (qab hv hz1) 2⟩))
 have HZ1:=zH hz1
 have HY1:=zH hy1
 clear hb hb1 hz0 hy0 hz1 hy1 HM H2 HB
 go_cut [8] from 24 to 32 (fun v wx => ∃ o a t ca ct,v=.pointer (some ⟨o,0,none⟩)∧qpD w1 wx o a t ca ct q)
 case first =>
  refine wp_region_noPanic ?_
  refine wp_region_held_drew (S:=(fun (v:World)=>v.cell? ⟨w.heap.size,0,none⟩=some (.slice (some ⟨ab,0,none⟩) 2 ac)∧v.cell? ⟨w.heap.size,1,none⟩=some (.slice (some ⟨tb,0,none⟩) 2 tc)∧v.cell? ⟨w.heap.size,2,none⟩=some (.int .i64 q.next))) (by kernel_rfl) ?hS3000 (fun hHeld => ?_)
  case hS3000=>(try dsimp only);exact HKf.out _ (qai (Below.refl _ _))
  refine tk 0 ?_
  refine tk 1 ?_
  refine tk 3 ?_
  refine tk 4 ?_
  refine tk 6 ?_
  refine tk 7 ?_
  refine wpAnyH_ready (rs:=[2,9]) (by kernel_rfl) (by simp) ?_
  refine (AllReadyH.cons (o:=⟨some 26,.call ⟨.value (.func 56),#[.tmp 25],#[22]⟩,22, "line.go:59",#[⟨1,.data⟩],none⟩) rfl (fun K hK => ?_) (AllReadyH.cons (o:=⟨some 8,.alloc 188,0, "line.go:59",#[],none⟩) rfl (fun K hK => ?_) AllReadyH.nil))
  ·
   skip
   go_simp
   refine (HCf.out (w1.drew) (qai (Below.refl _ _))).cloneA.mono ?_
   rintro e wa ⟨ga,ca,cura,rfl,hga,hca,hra,hua,hva,hbwa⟩
   go_wp2_with fail
   refine hK.out _ _ ?hB3007 (fun hHeld => ?_)
   case hB3007=>(try dsimp only);exact HKf.out _ (gtr (qai (Below.refl _ _)) hbwa)
   clear hK K
   try simp only [Act.put,zS,zT,zU]
   refine wpAnyH_ready (rs:=[5,9]) (by kernel_rfl) (by simp) ?_
   refine (AllReadyH.cons (o:=⟨some 29,.call ⟨.value (.func 177),#[.tmp 28],#[65]⟩,65, "line.go:59",#[⟨4,.data⟩,⟨2,.chain⟩],none⟩) rfl (fun K hK => ?_) (AllReadyH.cons (o:=⟨some 8,.alloc 188,0, "line.go:59",#[],none⟩) rfl (fun K hK => ?_) AllReadyH.nil))
   ·
    skip
    go_simp
    refine (HCf.out (wa) (gtr (qai (Below.refl _ _)) hbwa)).cloneT.mono ?_
    rintro e wt ⟨gt,ct,curt,rfl,hgt,hct,hrt,hut,hvt,hbwt⟩
    go_wp2_with fail
    refine hK.out _ _ ?hB3008 (fun hHeld => ?_)
    case hB3008=>(try dsimp only);exact HKf.out _ (gtr (gtr (qai (Below.refl _ _)) hbwa) hbwt)
    clear hK K
    try simp only [Act.put,zS,zT,zU]
    refine tk 8 ?_
    refine tr 9 fun K hK => ?_
    go_simp
    refine hK.out _ _ ?hB3010 (fun hHeld => ?_)
    case hB3010=>(try dsimp only);exact HKf.out _ (qac (gtr (gtr (qai (Below.refl _ _)) hbwa) hbwt) qfn)
    clear hK K
    try simp only [Act.put,zS,zT,zU]
    refine tr 10 fun K hK => ?_
    have hzo:=qad wt qfn
    refine qbh rfl 188 (.tmp 8) (.tmp 32) rfl rfl (wt.heap.size) 0 #[.slice (some ⟨ga,0,none⟩) 2 ca,.slice (some ⟨gt,0,none⟩) 2 ct,.int .i64 q.next] (by kernel_rfl) (by kernel_rfl) 188 #[.slice none 0 0,.slice none 0 0,.int .i64 0] hzo rfl (Nat.le_of_ble_eq_true rfl) (by kernel_rfl) (fun w9 hw9 hz9 => ?_)
    refine hK.out _ _ ?hB3011 (fun hHeld => ?_)
    case hB3011=>(try dsimp only);exact HKf.out _ (by rw [hw9.out];exact qaW (qac (gtr (gtr (qai (Below.refl _ _)) hbwa) hbwt) qfn) _ _ (Nat.le_trans hbwa.size hbwt.size))
    clear hK K
    try simp only [Act.put,zS,zT,zU]
    refine wpAnyH_done (by kernel_rfl) ?_ _
    refine NoPanic.normal ?_
    go_wp2_with fail
    go_meet
    case rel =>
     have s1:=hbwa.size
     have s2:=hbwt.size
     have l1:=(Array.getElem?_eq_some_iff.1 hra).1
     have l2:=(Array.getElem?_eq_some_iff.1 hrt).1
     have l3:=(Array.getElem?_eq_some_iff.1 hzo).1
     have ho:=hw9.out
     have hza:=qab (qac (Below.refl _ _) qfn) (qab hbwt (hra))
     have hzt:=qab (qac (Below.refl _ _) qfn) (hrt)
     simp at hga hgt s1 s2 l1 l2 l3
     have na:ga≠wt.heap.size:=by omega
     have nt:gt≠wt.heap.size:=by omega
     rw [ho]
     exact ⟨_,ga,gt,ca,ct,rfl,by rw [← ho];exact hz9.out,⟨hca,hct⟩,⟨cura,(qam _ _ _ _ na).trans hza,hua,hva⟩,⟨curt,(qam _ _ _ _ nt).trans hzt,hut,hvt⟩,⟨by omega,by omega,by omega⟩,⟨na,nt,by omega⟩,qaW (qac (gtr (gtr (qai (Below.refl _ _)) hbwa) hbwt) qfn) _ _ (by omega)⟩
   ·
    skip
    go_simp
    refine hK.out _ _ ?hB3012 (fun hHeld => ?_)
    case hB3012=>(try dsimp only);exact HKf.out _ (qac (gtr (qai (Below.refl _ _)) hbwa) qfn)
    clear hK K
    try simp only [Act.put,zS,zT,zU]
    refine tr 5 fun K hK => ?_
    go_simp
    refine (HCf.out ((wa.alloc qfn)) (qac (gtr (qai (Below.refl _ _)) hbwa) qfn)).cloneT.mono ?_
    rintro e wt ⟨gt,ct,curt,rfl,hgt,hct,hrt,hut,hvt,hbwt⟩
    go_wp2_with fail
    refine hK.out _ _ ?hB3013 (fun hHeld => ?_)
    case hB3013=>(try dsimp only);exact HKf.out _ (gtr (qac (gtr (qai (Below.refl _ _)) hbwa) qfn) hbwt)
    clear hK K
    try simp only [Act.put,zS,zT,zU]
    refine tk 8 ?_
    refine tr 10 fun K hK => ?_
    have hzo:=qab hbwt (qad wa qfn)
    refine qbh rfl 188 (.tmp 8) (.tmp 32) rfl rfl (wa.heap.size) 0 #[.slice (some ⟨ga,0,none⟩) 2 ca,.slice (some ⟨gt,0,none⟩) 2 ct,.int .i64 q.next] (by kernel_rfl) (by kernel_rfl) 188 #[.slice none 0 0,.slice none 0 0,.int .i64 0] hzo rfl (Nat.le_of_ble_eq_true rfl) (by kernel_rfl) (fun w9 hw9 hz9 => ?_)
    refine hK.out _ _ ?hB3015 (fun hHeld => ?_)
    case hB3015=>(try dsimp only);exact HKf.out _ (by rw [hw9.out];exact qaW (gtr (qac (gtr (qai (Below.refl _ _)) hbwa) qfn) hbwt) _ _ hbwa.size)
    clear hK K
    try simp only [Act.put,zS,zT,zU]
    refine wpAnyH_done (by kernel_rfl) ?_ _
    refine NoPanic.normal ?_
    go_wp2_with fail
    go_meet
    case rel =>
     have s1:=hbwa.size
     have s2:=hbwt.size
     have l1:=(Array.getElem?_eq_some_iff.1 hra).1
     have l2:=(Array.getElem?_eq_some_iff.1 hrt).1
     have l3:=(Array.getElem?_eq_some_iff.1 hzo).1
     have ho:=hw9.out
     have hza:=qab hbwt (qab (qac (Below.refl _ _) qfn) (hra))
     have hzt:=hrt
     simp at hga hgt s1 s2 l1 l2 l3
     have na:ga≠wa.heap.size:=by omega
     have nt:gt≠wa.heap.size:=by omega
     rw [ho]
     exact ⟨_,ga,gt,ca,ct,rfl,by rw [← ho];exact hz9.out,⟨hca,hct⟩,⟨cura,(qam _ _ _ _ na).trans hza,hua,hva⟩,⟨curt,(qam _ _ _ _ nt).trans hzt,hut,hvt⟩,⟨by omega,by omega,by omega⟩,⟨na,nt,by omega⟩,qaW (gtr (qac (gtr (qai (Below.refl _ _)) hbwa) qfn) hbwt) _ _ (by omega)⟩
  ·
   skip
   go_simp
   refine hK.out _ _ ?hB3016 (fun hHeld => ?_)
   case hB3016=>(try dsimp only);exact HKf.out _ (qai (qac (Below.refl _ _) qfn))
   clear hK K
   try simp only [Act.put,zS,zT,zU]
   refine tr 2 fun K hK => ?_
   go_simp
   refine (HCf.out ((w1.alloc qfn).drew) (qai (qac (Below.refl _ _) qfn))).cloneA.mono ?_
   rintro e wa ⟨ga,ca,cura,rfl,hga,hca,hra,hua,hva,hbwa⟩
   go_wp2_with fail
   refine hK.out _ _ ?hB3017 (fun hHeld => ?_)
   case hB3017=>(try dsimp only);exact HKf.out _ (gtr (qai (qac (Below.refl _ _) qfn)) hbwa)
   clear hK K
   try simp only [Act.put,zS,zT,zU]
   refine tr 5 fun K hK => ?_
   go_simp
   refine (HCf.out (wa) (gtr (qai (qac (Below.refl _ _) qfn)) hbwa)).cloneT.mono ?_
   rintro e wt ⟨gt,ct,curt,rfl,hgt,hct,hrt,hut,hvt,hbwt⟩
   go_wp2_with fail
   refine hK.out _ _ ?hB3018 (fun hHeld => ?_)
   case hB3018=>(try dsimp only);exact HKf.out _ (gtr (gtr (qai (qac (Below.refl _ _) qfn)) hbwa) hbwt)
   clear hK K
   try simp only [Act.put,zS,zT,zU]
   refine tk 8 ?_
   refine tr 10 fun K hK => ?_
   have hzo:=qab hbwt (qab hbwa (qad w1 qfn))
   refine qbh rfl 188 (.tmp 8) (.tmp 32) rfl rfl (w1.heap.size) 0 #[.slice (some ⟨ga,0,none⟩) 2 ca,.slice (some ⟨gt,0,none⟩) 2 ct,.int .i64 q.next] (by kernel_rfl) (by kernel_rfl) 188 #[.slice none 0 0,.slice none 0 0,.int .i64 0] hzo rfl (Nat.le_of_ble_eq_true rfl) (by kernel_rfl) (fun w9 hw9 hz9 => ?_)
   refine hK.out _ _ ?hB3020 (fun hHeld => ?_)
   case hB3020=>(try dsimp only);exact HKf.out _ (by rw [hw9.out];exact qaW (gtr (gtr (qai (qac (Below.refl _ _) qfn)) hbwa) hbwt) _ _ (Nat.le_refl _))
   clear hK K
   try simp only [Act.put,zS,zT,zU]
   refine wpAnyH_done (by kernel_rfl) ?_ _
   refine NoPanic.normal ?_
   go_wp2_with fail
   go_meet
   case rel =>
    have s1:=hbwa.size
    have s2:=hbwt.size
    have l1:=(Array.getElem?_eq_some_iff.1 hra).1
    have l2:=(Array.getElem?_eq_some_iff.1 hrt).1
    have l3:=(Array.getElem?_eq_some_iff.1 hzo).1
    have ho:=hw9.out
    have hza:=qab hbwt (hra)
    have hzt:=hrt
    simp at hga hgt s1 s2 l1 l2 l3
    have na:ga≠w1.heap.size:=by omega
    have nt:gt≠w1.heap.size:=by omega
    rw [ho]
    exact ⟨_,ga,gt,ca,ct,rfl,by rw [← ho];exact hz9.out,⟨hca,hct⟩,⟨cura,(qam _ _ _ _ na).trans hza,hua,hva⟩,⟨curt,(qam _ _ _ _ nt).trans hzt,hut,hvt⟩,⟨by omega,by omega,by omega⟩,⟨na,nt,by omega⟩,qaW (gtr (gtr (qai (qac (Below.refl _ _) qfn)) hbwa) hbwt) _ _ (by omega)⟩
 case rest =>
  obtain ⟨o,a,t,ca,ct,rfl,hS⟩:=hcut
  have HS:=zH hS
  have HX:=zH (HKf.out wc hS.below)
  clear hS
  have HI:=zH ((HCf.out wc HS.out.below).index x)
  have hx0:=HX.out.1
  have hx2:=HX.out.2.2
  have hz:=HS.out.hz
  have o2:wc.cell? ⟨o,2,none⟩=some (.int .i64 q.next):=qaa hz 2
  have of2:wc.frozen? ⟨o,2,none⟩=false:=qah hz 2
  clear hz
  rcases qjv q x with ⟨e,h0⟩ | ⟨e,h0,h1⟩ | ⟨e,h0,h1⟩
  ·
   have HE:=zH e
   have HQ:=zH (show q.keep x s=q.put 0 x s q.next from if_pos h0)
   clear e h0
   have HS2:=HS
   obtain ⟨cura,a1,a2,a3⟩:=HS2.out.ra
   obtain ⟨curt,t1,t2,t3⟩:=HS2.out.rt
   have ca0:wc.cell? ⟨a,0,none⟩=some _:=(qaa a1 0).trans a2
   have fa0:wc.frozen? ⟨a,0,none⟩=false:=qah a1 0
   have hl:=HS2.out.laid 0 (by decide) x s
   have t1':(wc.setCell ⟨a,0,none⟩ (.int .i64 x)).heap[t]? = some (.cells curt 9 (0,0)):=(by rw [setCell_eq_setRow _ a 0 cura 3 (0,0) _ a1];exact (qam _ _ _ _ HS2.out.ne.2.2.symm).trans t1)
   have ct0:(wc.setCell ⟨a,0,none⟩ (.int .i64 x)).cell? ⟨t,0,none⟩=some _:=(qaa t1' 0).trans t2
   have ft0:(wc.setCell ⟨a,0,none⟩ (.int .i64 x)).frozen? ⟨t,0,none⟩=false:=qah t1' 0
   have HL:=zH hl
   have hz:=HS2.out.hz
   have HSO:=zH (show wc.cell? ⟨o,0,none⟩=some (.slice (some ⟨a,0,none⟩) 2 ca)∧wc.cell? ⟨o,1,none⟩=some (.slice (some ⟨t,0,none⟩) 2 ct) from ⟨qaa hz 0,qaa hz 1⟩)
   have z1:=HL.out.1
   have HSA:=zH (show (wc.setCell ⟨a,0,none⟩ (.int .i64 x)).cell? ⟨o,0,none⟩=some (.slice (some ⟨a,0,none⟩) 2 ca)∧(wc.setCell ⟨a,0,none⟩ (.int .i64 x)).cell? ⟨o,1,none⟩=some (.slice (some ⟨t,0,none⟩) 2 ct) from (by rw [setCell_eq_setRow _ a 0 cura 3 (0,0) _ a1];exact ⟨qaa ((qam _ _ _ _ HS2.out.ne.1.symm).trans hz) 0,qaa ((qam _ _ _ _ HS2.out.ne.1.symm).trans hz) 1⟩))
   clear hl hz z1 a1 a2 a3 t1 t2 t3 t1'
   have l1:=HS.out.cap
   have i0:(0:Int)<2:=by decide
   have i1:(1:Int)<2:=by decide
   go_wp2_with (go_at_call 139;refine HI.out.mono ?_;rintro e wc ⟨rfl,rfl⟩;rw [show Lib.idxOf [q.a0,q.a1] x=_ from HE.out])
   refine wp_region_noPanic ?_
   refine wp_region_held_drew (S:=(fun (v:World)=>v.cell? ⟨o,0,none⟩=some (.slice (some ⟨a,0,none⟩) 2 ca)∧v.cell? ⟨o,1,none⟩=some (.slice (some ⟨t,0,none⟩) 2 ct))) (by kernel_rfl) ?hS96000 (fun hHeld => ?_)
   case hS96000=>(try dsimp only);exact HSO.out
   refine tk 0 ?_
   refine tk 1 ?_
   refine tk 2 ?_
   refine tk 3 ?_
   refine tk 4 ?_
   refine tk 5 ?_
   refine tk 6 ?_
   refine tk 7 ?_
   refine tk 8 ?_
   refine tr 9 fun K hK => ?_
   go_simp
   refine hK.out _ _ ?hS96009 (fun hHeld => ?_)
   case hS96009=>(try dsimp only);exact HSA.out
   clear hK K
   try simp only [Act.put,zS,zT,zU]
   refine tk 10 ?_
   refine tr 11 fun K hK => ?_
   go_simp
   refine hK.out _ _ ?hS96011 (fun hHeld => ?_)
   case hS96011=>(try dsimp only);exact ⟨qaa HL.out.1 0,qaa HL.out.1 1⟩
   clear hK K
   try simp only [Act.put,zS,zT,zU]
   refine wpAnyH_done (by kernel_rfl) ?_ _
   refine NoPanic.normal ?_
   have HY8:=zH (show ((wc.setCell ⟨a,0,none⟩ (.int .i64 x)).setCell ⟨t,0,none⟩ (.string s)).drew.heap[w.heap.size+1]? = some qfn from qab (qai HL.out.2.2) HY1.out)
   have HZ8:=zH (show ((wc.setCell ⟨a,0,none⟩ (.int .i64 x)).setCell ⟨t,0,none⟩ (.string s)).drew.heap[o]? = _ from HL.out.1)
   go_wp2_with (first | (refine wpList_load_row rfl 188 (.tmp 8) rfl o rfl 188 #[.slice (some ⟨a,0,none⟩) 2 ca,.slice (some ⟨t,0,none⟩) 2 ct,.int .i64 (q.next)] (0,0) _ HZ8.out Tryz.underlying188 rfl rfl ?_) | (refine qaX rfl 188 (.tmp 6) (.tmp 56) rfl (w.heap.size+1) 0 #[.slice (some ⟨a,0,none⟩) 2 ca,.slice (some ⟨t,0,none⟩) 2 ct,.int .i64 (q.next)] (by kernel_rfl) (by kernel_rfl) 188 #[.slice none 0 0,.slice none 0 0,.int .i64 0] HY8.out rfl (Nat.le_of_ble_eq_true rfl) (by kernel_rfl) ?_))
   refine bodyPost_ret (qcm rfl _ _ (w.heap.size+1) _ rfl (run_loadVar_row _ _ 188 188 _ (0,0) _ (setRow_heap _ _ _ _ _ _ HY8.out) Tryz.underlying188 rfl rfl)) rfl ?_
   rw [HQ.out]
   exact qhF HB1.out (qai HL.out.2.2) (Array.getElem?_eq_some_iff.1 HY1.out).1 HS.out.lo.2.1 HS.out.lo.2.2 (HL.out.2.1.later (qai (Below.refl _ _))) _
  ·
   have HE:=zH e
   have HQ:=zH (show q.keep x s=q.put 1 x s q.next from (if_neg h0).trans (if_pos h1))
   clear e h0 h1
   have HS2:=HS
   obtain ⟨cura,a1,a2,a3⟩:=HS2.out.ra
   obtain ⟨curt,t1,t2,t3⟩:=HS2.out.rt
   have ca1:wc.cell? ⟨a,1,none⟩=some _:=(qaa a1 1).trans a3
   have fa1:wc.frozen? ⟨a,1,none⟩=false:=qah a1 1
   have hl:=HS2.out.laid 1 (by decide) x s
   have t1':(wc.setCell ⟨a,1,none⟩ (.int .i64 x)).heap[t]? = some (.cells curt 9 (0,0)):=(by rw [setCell_eq_setRow _ a 1 cura 3 (0,0) _ a1];exact (qam _ _ _ _ HS2.out.ne.2.2.symm).trans t1)
   have ct1:(wc.setCell ⟨a,1,none⟩ (.int .i64 x)).cell? ⟨t,1,none⟩=some _:=(qaa t1' 1).trans t3
   have ft1:(wc.setCell ⟨a,1,none⟩ (.int .i64 x)).frozen? ⟨t,1,none⟩=false:=qah t1' 1
   have HL:=zH hl
   have hz:=HS2.out.hz
   have HSO:=zH (show wc.cell? ⟨o,0,none⟩=some (.slice (some ⟨a,0,none⟩) 2 ca)∧wc.cell? ⟨o,1,none⟩=some (.slice (some ⟨t,0,none⟩) 2 ct) from ⟨qaa hz 0,qaa hz 1⟩)
   have z1:=HL.out.1
   have HSA:=zH (show (wc.setCell ⟨a,1,none⟩ (.int .i64 x)).cell? ⟨o,0,none⟩=some (.slice (some ⟨a,0,none⟩) 2 ca)∧(wc.setCell ⟨a,1,none⟩ (.int .i64 x)).cell? ⟨o,1,none⟩=some (.slice (some ⟨t,0,none⟩) 2 ct) from (by rw [setCell_eq_setRow _ a 1 cura 3 (0,0) _ a1];exact ⟨qaa ((qam _ _ _ _ HS2.out.ne.1.symm).trans hz) 0,qaa ((qam _ _ _ _ HS2.out.ne.1.symm).trans hz) 1⟩))
   clear hl hz z1 a1 a2 a3 t1 t2 t3 t1'
   have l1:=HS.out.cap
   have i0:(0:Int)<2:=by decide
   have i1:(1:Int)<2:=by decide
   go_wp2_with (go_at_call 139;refine HI.out.mono ?_;rintro e wc ⟨rfl,rfl⟩;rw [show Lib.idxOf [q.a0,q.a1] x=_ from HE.out])
   refine wp_region_noPanic ?_
   refine wp_region_held_drew (S:=(fun (v:World)=>v.cell? ⟨o,0,none⟩=some (.slice (some ⟨a,0,none⟩) 2 ca)∧v.cell? ⟨o,1,none⟩=some (.slice (some ⟨t,0,none⟩) 2 ct))) (by kernel_rfl) ?hS97000 (fun hHeld => ?_)
   case hS97000=>(try dsimp only);exact HSO.out
   refine tk 0 ?_
   refine tk 1 ?_
   refine tk 2 ?_
   refine tk 3 ?_
   refine tk 4 ?_
   refine tk 5 ?_
   refine tk 6 ?_
   refine tk 7 ?_
   refine tk 8 ?_
   refine tr 9 fun K hK => ?_
   go_simp
   refine hK.out _ _ ?hS97009 (fun hHeld => ?_)
   case hS97009=>(try dsimp only);exact HSA.out
   clear hK K
   try simp only [Act.put,zS,zT,zU]
   refine tk 10 ?_
   refine tr 11 fun K hK => ?_
   go_simp
   refine hK.out _ _ ?hS97011 (fun hHeld => ?_)
   case hS97011=>(try dsimp only);exact ⟨qaa HL.out.1 0,qaa HL.out.1 1⟩
   clear hK K
   try simp only [Act.put,zS,zT,zU]
   refine wpAnyH_done (by kernel_rfl) ?_ _
   refine NoPanic.normal ?_
   have HY8:=zH (show ((wc.setCell ⟨a,1,none⟩ (.int .i64 x)).setCell ⟨t,1,none⟩ (.string s)).drew.heap[w.heap.size+1]? = some qfn from qab (qai HL.out.2.2) HY1.out)
   have HZ8:=zH (show ((wc.setCell ⟨a,1,none⟩ (.int .i64 x)).setCell ⟨t,1,none⟩ (.string s)).drew.heap[o]? = _ from HL.out.1)
   go_wp2_with (first | (refine wpList_load_row rfl 188 (.tmp 8) rfl o rfl 188 #[.slice (some ⟨a,0,none⟩) 2 ca,.slice (some ⟨t,0,none⟩) 2 ct,.int .i64 (q.next)] (0,0) _ HZ8.out Tryz.underlying188 rfl rfl ?_) | (refine qaX rfl 188 (.tmp 6) (.tmp 56) rfl (w.heap.size+1) 0 #[.slice (some ⟨a,0,none⟩) 2 ca,.slice (some ⟨t,0,none⟩) 2 ct,.int .i64 (q.next)] (by kernel_rfl) (by kernel_rfl) 188 #[.slice none 0 0,.slice none 0 0,.int .i64 0] HY8.out rfl (Nat.le_of_ble_eq_true rfl) (by kernel_rfl) ?_))
   refine bodyPost_ret (qcm rfl _ _ (w.heap.size+1) _ rfl (run_loadVar_row _ _ 188 188 _ (0,0) _ (setRow_heap _ _ _ _ _ _ HY8.out) Tryz.underlying188 rfl rfl)) rfl ?_
   rw [HQ.out]
   exact qhF HB1.out (qai HL.out.2.2) (Array.getElem?_eq_some_iff.1 HY1.out).1 HS.out.lo.2.1 HS.out.lo.2.2 (HL.out.2.1.later (qai (Below.refl _ _))) _
  ·
   have HE:=zH e
   rcases HG.out.next with hn | hn
   ·
    have HQ:=zH (show q.keep x s=q.put 0 x s 1 from (if_neg h0).trans ((if_neg h1).trans (if_pos hn)))
    clear e h0 h1
    rw [hn] at hx2 o2
    have HS2:=zH (HS.out.next 1)
    have hw:IntKind.i64.wrap ((0:Int)+1)=1:=by decide
    have htm:(1:Int).tmod 2=1:=by decide
    obtain ⟨cura,a1,a2,a3⟩:=HS2.out.ra
    obtain ⟨curt,t1,t2,t3⟩:=HS2.out.rt
    have ca0:(wc.setCell ⟨o,2,none⟩ (.int .i64 1)).cell? ⟨a,0,none⟩=some _:=(qaa a1 0).trans a2
    have fa0:(wc.setCell ⟨o,2,none⟩ (.int .i64 1)).frozen? ⟨a,0,none⟩=false:=qah a1 0
    have hl:=HS2.out.laid 0 (by decide) x s
    have t1':((wc.setCell ⟨o,2,none⟩ (.int .i64 1)).setCell ⟨a,0,none⟩ (.int .i64 x)).heap[t]? = some (.cells curt 9 (0,0)):=(by rw [setCell_eq_setRow _ a 0 cura 3 (0,0) _ a1];exact (qam _ _ _ _ HS2.out.ne.2.2.symm).trans t1)
    have ct0:((wc.setCell ⟨o,2,none⟩ (.int .i64 1)).setCell ⟨a,0,none⟩ (.int .i64 x)).cell? ⟨t,0,none⟩=some _:=(qaa t1' 0).trans t2
    have ft0:((wc.setCell ⟨o,2,none⟩ (.int .i64 1)).setCell ⟨a,0,none⟩ (.int .i64 x)).frozen? ⟨t,0,none⟩=false:=qah t1' 0
    have HL:=zH hl
    have hz:=HS2.out.hz
    have HSO:=zH (show (wc.setCell ⟨o,2,none⟩ (.int .i64 1)).cell? ⟨o,0,none⟩=some (.slice (some ⟨a,0,none⟩) 2 ca)∧(wc.setCell ⟨o,2,none⟩ (.int .i64 1)).cell? ⟨o,1,none⟩=some (.slice (some ⟨t,0,none⟩) 2 ct) from ⟨qaa hz 0,qaa hz 1⟩)
    have z1:=HL.out.1
    have HSA:=zH (show ((wc.setCell ⟨o,2,none⟩ (.int .i64 1)).setCell ⟨a,0,none⟩ (.int .i64 x)).cell? ⟨o,0,none⟩=some (.slice (some ⟨a,0,none⟩) 2 ca)∧((wc.setCell ⟨o,2,none⟩ (.int .i64 1)).setCell ⟨a,0,none⟩ (.int .i64 x)).cell? ⟨o,1,none⟩=some (.slice (some ⟨t,0,none⟩) 2 ct) from (by rw [setCell_eq_setRow _ a 0 cura 3 (0,0) _ a1];exact ⟨qaa ((qam _ _ _ _ HS2.out.ne.1.symm).trans hz) 0,qaa ((qam _ _ _ _ HS2.out.ne.1.symm).trans hz) 1⟩))
    clear hl hz z1 a1 a2 a3 t1 t2 t3 t1'
    have l1:=HS.out.cap
    have i0:(0:Int)<2:=by decide
    have i1:(1:Int)<2:=by decide
    go_wp2_with (go_at_call 139;refine HI.out.mono ?_;rintro e wc ⟨rfl,rfl⟩;rw [show Lib.idxOf [q.a0,q.a1] x=_ from HE.out])
    refine wp_region_noPanic ?_
    refine wp_region_held_drew (S:=(fun (v:World)=>v.cell? ⟨o,0,none⟩=some (.slice (some ⟨a,0,none⟩) 2 ca)∧v.cell? ⟨o,1,none⟩=some (.slice (some ⟨t,0,none⟩) 2 ct))) (by kernel_rfl) ?hS98000 (fun hHeld => ?_)
    case hS98000=>(try dsimp only);exact HSO.out
    refine tk 0 ?_
    refine tk 1 ?_
    refine tk 2 ?_
    refine tk 3 ?_
    refine tk 4 ?_
    refine tk 5 ?_
    refine tk 6 ?_
    refine tk 7 ?_
    refine tk 8 ?_
    refine tr 9 fun K hK => ?_
    go_simp
    refine hK.out _ _ ?hS98009 (fun hHeld => ?_)
    case hS98009=>(try dsimp only);exact HSA.out
    clear hK K
    try simp only [Act.put,zS,zT,zU]
    refine tk 10 ?_
    refine tr 11 fun K hK => ?_
    go_simp
    refine hK.out _ _ ?hS98011 (fun hHeld => ?_)
    case hS98011=>(try dsimp only);exact ⟨qaa HL.out.1 0,qaa HL.out.1 1⟩
    clear hK K
    try simp only [Act.put,zS,zT,zU]
    refine wpAnyH_done (by kernel_rfl) ?_ _
    refine NoPanic.normal ?_
    have HY8:=zH (show (((wc.setCell ⟨o,2,none⟩ (.int .i64 1)).setCell ⟨a,0,none⟩ (.int .i64 x)).setCell ⟨t,0,none⟩ (.string s)).drew.heap[w.heap.size+1]? = some qfn from qab (qai HL.out.2.2) HY1.out)
    have HZ8:=zH (show (((wc.setCell ⟨o,2,none⟩ (.int .i64 1)).setCell ⟨a,0,none⟩ (.int .i64 x)).setCell ⟨t,0,none⟩ (.string s)).drew.heap[o]? = _ from HL.out.1)
    go_wp2_with (first | (refine wpList_load_row rfl 188 (.tmp 8) rfl o rfl 188 #[.slice (some ⟨a,0,none⟩) 2 ca,.slice (some ⟨t,0,none⟩) 2 ct,.int .i64 (1)] (0,0) _ HZ8.out Tryz.underlying188 rfl rfl ?_) | (refine qaX rfl 188 (.tmp 6) (.tmp 56) rfl (w.heap.size+1) 0 #[.slice (some ⟨a,0,none⟩) 2 ca,.slice (some ⟨t,0,none⟩) 2 ct,.int .i64 (1)] (by kernel_rfl) (by kernel_rfl) 188 #[.slice none 0 0,.slice none 0 0,.int .i64 0] HY8.out rfl (Nat.le_of_ble_eq_true rfl) (by kernel_rfl) ?_))
    refine bodyPost_ret (qcm rfl _ _ (w.heap.size+1) _ rfl (run_loadVar_row _ _ 188 188 _ (0,0) _ (setRow_heap _ _ _ _ _ _ HY8.out) Tryz.underlying188 rfl rfl)) rfl ?_
    rw [HQ.out]
    exact qhF HB1.out (qai HL.out.2.2) (Array.getElem?_eq_some_iff.1 HY1.out).1 HS.out.lo.2.1 HS.out.lo.2.2 (HL.out.2.1.later (qai (Below.refl _ _))) _
   ·
    have HQ:=zH (show q.keep x s=q.put 1 x s 0 from (if_neg h0).trans ((if_neg h1).trans (if_neg (by omega))))
    clear e h0 h1
    rw [hn] at hx2 o2
    have HS2:=zH (HS.out.next 0)
    have hw:IntKind.i64.wrap ((1:Int)+1)=2:=by decide
    have htm:(2:Int).tmod 2=0:=by decide
    obtain ⟨cura,a1,a2,a3⟩:=HS2.out.ra
    obtain ⟨curt,t1,t2,t3⟩:=HS2.out.rt
    have ca1:(wc.setCell ⟨o,2,none⟩ (.int .i64 0)).cell? ⟨a,1,none⟩=some _:=(qaa a1 1).trans a3
    have fa1:(wc.setCell ⟨o,2,none⟩ (.int .i64 0)).frozen? ⟨a,1,none⟩=false:=qah a1 1
    have hl:=HS2.out.laid 1 (by decide) x s
    have t1':((wc.setCell ⟨o,2,none⟩ (.int .i64 0)).setCell ⟨a,1,none⟩ (.int .i64 x)).heap[t]? = some (.cells curt 9 (0,0)):=(by rw [setCell_eq_setRow _ a 1 cura 3 (0,0) _ a1];exact (qam _ _ _ _ HS2.out.ne.2.2.symm).trans t1)
    have ct1:((wc.setCell ⟨o,2,none⟩ (.int .i64 0)).setCell ⟨a,1,none⟩ (.int .i64 x)).cell? ⟨t,1,none⟩=some _:=(qaa t1' 1).trans t3
    have ft1:((wc.setCell ⟨o,2,none⟩ (.int .i64 0)).setCell ⟨a,1,none⟩ (.int .i64 x)).frozen? ⟨t,1,none⟩=false:=qah t1' 1
    have HL:=zH hl
    have hz:=HS2.out.hz
    have HSO:=zH (show (wc.setCell ⟨o,2,none⟩ (.int .i64 0)).cell? ⟨o,0,none⟩=some (.slice (some ⟨a,0,none⟩) 2 ca)∧(wc.setCell ⟨o,2,none⟩ (.int .i64 0)).cell? ⟨o,1,none⟩=some (.slice (some ⟨t,0,none⟩) 2 ct) from ⟨qaa hz 0,qaa hz 1⟩)
    have z1:=HL.out.1
    have HSA:=zH (show ((wc.setCell ⟨o,2,none⟩ (.int .i64 0)).setCell ⟨a,1,none⟩ (.int .i64 x)).cell? ⟨o,0,none⟩=some (.slice (some ⟨a,0,none⟩) 2 ca)∧((wc.setCell ⟨o,2,none⟩ (.int .i64 0)).setCell ⟨a,1,none⟩ (.int .i64 x)).cell? ⟨o,1,none⟩=some (.slice (some ⟨t,0,none⟩) 2 ct) from (by rw [setCell_eq_setRow _ a 1 cura 3 (0,0) _ a1];exact ⟨qaa ((qam _ _ _ _ HS2.out.ne.1.symm).trans hz) 0,qaa ((qam _ _ _ _ HS2.out.ne.1.symm).trans hz) 1⟩))
    clear hl hz z1 a1 a2 a3 t1 t2 t3 t1'
    have l1:=HS.out.cap
    have i0:(0:Int)<2:=by decide
    have i1:(1:Int)<2:=by decide
    go_wp2_with (go_at_call 139;refine HI.out.mono ?_;rintro e wc ⟨rfl,rfl⟩;rw [show Lib.idxOf [q.a0,q.a1] x=_ from HE.out])
    refine wp_region_noPanic ?_
    refine wp_region_held_drew (S:=(fun (v:World)=>v.cell? ⟨o,0,none⟩=some (.slice (some ⟨a,0,none⟩) 2 ca)∧v.cell? ⟨o,1,none⟩=some (.slice (some ⟨t,0,none⟩) 2 ct))) (by kernel_rfl) ?hS99000 (fun hHeld => ?_)
    case hS99000=>(try dsimp only);exact HSO.out
    refine tk 0 ?_
    refine tk 1 ?_
    refine tk 2 ?_
    refine tk 3 ?_
    refine tk 4 ?_
    refine tk 5 ?_
    refine tk 6 ?_
    refine tk 7 ?_
    refine tk 8 ?_
    refine tr 9 fun K hK => ?_
    go_simp
    refine hK.out _ _ ?hS99009 (fun hHeld => ?_)
    case hS99009=>(try dsimp only);exact HSA.out
    clear hK K
    try simp only [Act.put,zS,zT,zU]
    refine tk 10 ?_
    refine tr 11 fun K hK => ?_
    go_simp
    refine hK.out _ _ ?hS99011 (fun hHeld => ?_)
    case hS99011=>(try dsimp only);exact ⟨qaa HL.out.1 0,qaa HL.out.1 1⟩
    clear hK K
    try simp only [Act.put,zS,zT,zU]
    refine wpAnyH_done (by kernel_rfl) ?_ _
    refine NoPanic.normal ?_
    have HY8:=zH (show (((wc.setCell ⟨o,2,none⟩ (.int .i64 0)).setCell ⟨a,1,none⟩ (.int .i64 x)).setCell ⟨t,1,none⟩ (.string s)).drew.heap[w.heap.size+1]? = some qfn from qab (qai HL.out.2.2) HY1.out)
    have HZ8:=zH (show (((wc.setCell ⟨o,2,none⟩ (.int .i64 0)).setCell ⟨a,1,none⟩ (.int .i64 x)).setCell ⟨t,1,none⟩ (.string s)).drew.heap[o]? = _ from HL.out.1)
    go_wp2_with (first | (refine wpList_load_row rfl 188 (.tmp 8) rfl o rfl 188 #[.slice (some ⟨a,0,none⟩) 2 ca,.slice (some ⟨t,0,none⟩) 2 ct,.int .i64 (0)] (0,0) _ HZ8.out Tryz.underlying188 rfl rfl ?_) | (refine qaX rfl 188 (.tmp 6) (.tmp 56) rfl (w.heap.size+1) 0 #[.slice (some ⟨a,0,none⟩) 2 ca,.slice (some ⟨t,0,none⟩) 2 ct,.int .i64 (0)] (by kernel_rfl) (by kernel_rfl) 188 #[.slice none 0 0,.slice none 0 0,.int .i64 0] HY8.out rfl (Nat.le_of_ble_eq_true rfl) (by kernel_rfl) ?_))
    refine bodyPost_ret (qcm rfl _ _ (w.heap.size+1) _ rfl (run_loadVar_row _ _ 188 188 _ (0,0) _ (setRow_heap _ _ _ _ _ _ HY8.out) Tryz.underlying188 rfl rfl)) rfl ?_
    rw [HQ.out]
    exact qhF HB1.out (qai HL.out.2.2) (Array.getElem?_eq_some_iff.1 HY1.out).1 HS.out.lo.2.1 HS.out.lo.2.2 (HL.out.2.1.later (qai (Below.refl _ _))) _
end
end Go.Proofs.YtcfdenckiigdaaaGreat

/- Part 19 of the contracts. -/
import Derived.Test.YtcfdenckiigdaaaGreatFl18
set_option linter.unusedVariables false
set_option maxRecDepth 100000
set_option maxHeartbeats 4000000
namespace Go.Proofs.YtcfdenckiigdaaaGreat
open Tryz
section
open Go.RowKit
def Cache.put (q:Cache) (i:Nat) (f:Int) (s:ByteArray) (next:Int):Cache:=if i=0 then ⟨f,q.a1,s,q.t1,next⟩ else ⟨q.a0,f,q.t0,s,next⟩
def Cache.keep (q:Cache) (f:Int) (s:ByteArray):Cache:=if q.a0=f then q.put 0 f s q.next else if q.a1=f then q.put 1 f s q.next else if q.next=0 then q.put 0 f s 1 else q.put 1 f s 0
theorem zv {q:Cache} (g:q.Good) (f:Int) (s:ByteArray) (h0:0≤f) (h1:f<4096) (h2:f % 16=0) (hs:s.size=16):(q.keep f s).Good:=by
 have L:DP f s:=.inr ⟨h0,h1,h2,hs⟩
 unfold Cache.keep Cache.put
 split
 ·
  rename_i h;rw [if_pos rfl];exact ⟨L,g.l1,fun hn=>by have:=g.ne hn;rw [h] at this;exact this,g.next⟩
 ·
  rename_i hn0
  split
  ·
   rename_i h;rw [if_neg (by decide)];exact ⟨g.l0,L,fun _ e=>hn0 e.symm,g.next⟩
  ·
   rename_i hn1
   split
   ·
    rw [if_pos rfl];exact ⟨L,g.l1,fun _ e=>hn1 e,.inr rfl⟩
   ·
    rw [if_neg (by decide)];exact ⟨g.l0,L,fun _ e=>hn0 e.symm,.inl rfl⟩
theorem zb {w':World} {B:Nat} {t:TypeId} {v:Value} {a b:Value} (h:w'.ownsRow B t 1 v 2 [a,b]) (hn:v≠.slice none 0 0) : ∃ g cap cur,v=.slice (some ⟨g,0,none⟩) 2 cap∧B≤g∧2≤cap∧w'.heap[g]? = some (.cells cur t (0,0))∧cur[0]? = some a∧cur[1]? = some b:=by
 rcases h.2 with ⟨h',_⟩ | ⟨g,cap,cur,rfl,hb,hg,hn2,_,hs,ht⟩
 ·
  exact absurd h' hn
 ·
  refine ⟨g,cap,cur,rfl,hb,hn2,hg,?_,?_⟩
  ·
   have:=congrArg (fun l:List Value=>l[0]?) ht
   simpa [List.getElem?_take] using this
  ·
   have:=congrArg (fun l:List Value=>l[1]?) ht
   simpa [List.getElem?_take] using this
theorem dz.I8 {w:World} {ab ac tb tc:Nat} {q:Cache} (h:dz w ab ac tb tc q):Calls prog 56 #[.slice (some ⟨ab,0,none⟩) 2 ac] w fun e w' =>
  ∃ g cap cur,e=.returned (.slice (some ⟨g,0,none⟩) 2 cap)∧w.heap.size≤g∧2≤cap∧w'.heap[g]? = some (.cells cur 3 (0,0))∧cur[0]? = some (.int .i64 q.a0)∧cur[1]? = some (.int .i64 q.a1)∧Below w.heap.size w w':=by
 refine (Tryz.slices_Clone_int ab 0 2 ac [q.a0,q.a1] w (by simp) (by decide) (fun j hj=>by
  have hj:j<2:=hj
  match j,hj with
  | 0,_=>exact h.a0
  | 1,_=>exact h.a1)).mono ?_
 rintro e w' ⟨v',rfl,ho,hn,hb⟩
 obtain ⟨g,cap,cur,rfl,h1,h2,h3,h4,h5⟩:=zb (a:=.int .i64 q.a0) (b:=.int .i64 q.a1) ho hn
 exact ⟨g,cap,cur,rfl,h1,h2,h3,h4,h5,hb⟩
theorem dz.D7 {w:World} {ab ac tb tc:Nat} {q:Cache} (h:dz w ab ac tb tc q):Calls prog 177 #[.slice (some ⟨tb,0,none⟩) 2 tc] w fun e w' =>
  ∃ g cap cur,e=.returned (.slice (some ⟨g,0,none⟩) 2 cap)∧w.heap.size≤g∧2≤cap∧w'.heap[g]? = some (.cells cur 9 (0,0))∧cur[0]? = some (.string q.t0)∧cur[1]? = some (.string q.t1)∧Below w.heap.size w w':=by
 refine (Tryz.slices_Clone_string tb 0 2 tc [q.t0,q.t1] w (by simp) (by decide) (fun j hj=>by
  have hj:j<2:=hj
  match j,hj with
  | 0,_=>exact h.t0
  | 1,_=>exact h.t1)).mono ?_
 rintro e w' ⟨v',rfl,ho,hn,hb⟩
 obtain ⟨g,cap,cur,rfl,h1,h2,h3,h4,h5⟩:=zb (a:=.string q.t0) (b:=.string q.t1) ho hn
 exact ⟨g,cap,cur,rfl,h1,h2,h3,h4,h5,hb⟩
structure yF (w wx:World) (o a t ca ct:Nat) (q:Cache):Prop where
 hz:wx.heap[o]? = some (.cells #[.slice (some ⟨a,0,none⟩) 2 ca,.slice (some ⟨t,0,none⟩) 2 ct,.int .i64 q.next] 188 (0,0))
 cap:2≤ca∧2≤ct
 ra : ∃ cur,wx.heap[a]? = some (.cells cur 3 (0,0))∧cur[0]? = some (.int .i64 q.a0)∧cur[1]? = some (.int .i64 q.a1)
 rt : ∃ cur,wx.heap[t]? = some (.cells cur 9 (0,0))∧cur[0]? = some (.string q.t0)∧cur[1]? = some (.string q.t1)
 lo:w.heap.size≤o∧w.heap.size≤a∧w.heap.size≤t
 ne:a≠o∧t≠o∧a≠t
 below:Below w.heap.size w wx
theorem yF.next {w wx:World} {o a t ca ct:Nat} {q:Cache} (h:yF w wx o a t ca ct q) (n:Int):yF w (wx.setCell ⟨o,2,none⟩ (.int .i64 n)) o a t ca ct { q with next:=n }:=by
 rw [setCell_eq_setRow wx o 2 _ 188 (0,0) _ h.hz]
 refine ⟨setRow_heap _ _ _ _ _ _ h.hz,h.cap,?_,?_,h.lo,h.ne,dN h.below _ _ h.lo.1⟩
 ·
  obtain ⟨cur,h1,h2⟩:=h.ra
  exact ⟨cur,(bj _ _ _ _ h.ne.1).trans h1,h2⟩
 ·
  obtain ⟨cur,h1,h2⟩:=h.rt
  exact ⟨cur,(bj _ _ _ _ h.ne.2.1).trans h1,h2⟩
theorem yF.laid {w wx:World} {o a t ca ct:Nat} {q:Cache} (h:yF w wx o a t ca ct q) (i:Nat) (hi:i<2) (x:Int) (s:ByteArray):let w8:=(wx.setCell ⟨a,i,none⟩ (.int .i64 x)).setCell ⟨t,i,none⟩ (.string s);w8.heap[o]? = some (.cells #[.slice (some ⟨a,0,none⟩) 2 ca,.slice (some ⟨t,0,none⟩) 2 ct,.int .i64 q.next] 188 (0,0))∧dz w8 a ca t ct (q.put i x s q.next)∧Below w.heap.size w w8:=by
 obtain ⟨cura,a1,a2,a3⟩:=h.ra
 obtain ⟨curt,t1,t2,t3⟩:=h.rt
 have e1:=setCell_eq_setRow wx a i cura 3 (0,0) (.int .i64 x) a1
 have t1':(wx.setCell ⟨a,i,none⟩ (.int .i64 x)).heap[t]? = some (.cells curt 9 (0,0)):=by rw [e1];exact (bj _ _ _ _ h.ne.2.2.symm).trans t1
 have e2:=setCell_eq_setRow (wx.setCell ⟨a,i,none⟩ (.int .i64 x)) t i curt 9 (0,0) (.string s) t1'
 intro w8
 have ha:w8.heap[a]? = some (.cells (cura.setIfInBounds i (.int .i64 x)) 3 (0,0)):=by
  show ((wx.setCell ⟨a,i,none⟩ (.int .i64 x)).setCell ⟨t,i,none⟩ (.string s)).heap[a]? = _
  rw [e2,bj _ _ _ _ h.ne.2.2,e1]
  exact setRow_heap _ _ _ _ _ _ a1
 have ht:w8.heap[t]? = some (.cells (curt.setIfInBounds i (.string s)) 9 (0,0)):=by
  show ((wx.setCell ⟨a,i,none⟩ (.int .i64 x)).setCell ⟨t,i,none⟩ (.string s)).heap[t]? = _
  rw [e2]
  exact setRow_heap _ _ _ _ _ _ t1'
 have g0:=(Array.getElem?_eq_some_iff.1 a2).1
 have g1:=(Array.getElem?_eq_some_iff.1 a3).1
 have k0:=(Array.getElem?_eq_some_iff.1 t2).1
 have k1:=(Array.getElem?_eq_some_iff.1 t3).1
 refine ⟨?_,?_,?_⟩
 ·
  show ((wx.setCell ⟨a,i,none⟩ (.int .i64 x)).setCell ⟨t,i,none⟩ (.string s)).heap[o]? = _
  rw [e2,bj _ _ _ _ h.ne.2.1.symm,e1,bj _ _ _ _ h.ne.1.symm]
  exact h.hz
 ·
  match i,hi with
  | 0,_=>exact ⟨h.cap,(cell_of ha 0).trans (by simp [Cache.put,g0]),(cell_of ha 1).trans (by simpa [Cache.put] using a3),(cell_of ht 0).trans (by simp [Cache.put,k0]),(cell_of ht 1).trans (by simpa [Cache.put] using t3)⟩
  | 1,_=>exact ⟨h.cap,(cell_of ha 0).trans (by simpa [Cache.put] using a2),(cell_of ha 1).trans (by simp [Cache.put,g1]),(cell_of ht 0).trans (by simpa [Cache.put] using t2),(cell_of ht 1).trans (by simp [Cache.put,k1])⟩
 ·
  show Below _ _ ((wx.setCell ⟨a,i,none⟩ (.int .i64 x)).setCell ⟨t,i,none⟩ (.string s))
  rw [e2,e1]
  exact dN (dN h.below _ _ h.lo.2.1) _ _ h.lo.2.2
def Bu (q:Cache) (w:World) (e:Ending) (w':World):Prop :=
 ∃ a t ca ct,e=.returned (.tuple #[.agg #[.slice (some ⟨a,0,none⟩) 2 ca,.slice (some ⟨t,0,none⟩) 2 ct,.int .i64 q.next],.int .i64 0])∧dz w' a ca t ct q∧w.heap.size≤a∧w.heap.size≤t∧Below w.heap.size w w'
theorem rD {w w1 w8:World} {a t ca ct:Nat} {q:Cache} (h1:Below w.heap.size w w1) (h8:Below w1.heap.size w1 w8) (y:w.heap.size+1<w1.heap.size) (la:w1.heap.size≤a) (lt:w1.heap.size≤t) (hc:dz w8 a ca t ct q) (r:Array Value):Bu q w (.returned (.tuple #[.agg #[.slice (some ⟨a,0,none⟩) 2 ca,.slice (some ⟨t,0,none⟩) 2 ct,.int .i64 q.next],.int .i64 0])) (w8.setRow (w.heap.size+1) r):=by
 have ec : ∀ x i v,x≠w.heap.size+1→w8.cell? ⟨x,i,none⟩=some v→(w8.setRow (w.heap.size+1) r).cell? ⟨x,i,none⟩=some v:=fun x i v hx hv=>by
  unfold World.cell? at hv ⊢
  rw [bj _ _ _ _ hx];exact hv
 exact ⟨a,t,ca,ct,rfl,⟨hc.cap,ec _ _ _ (by omega) hc.a0,ec _ _ _ (by omega) hc.a1,ec _ _ _ (by omega) hc.t0,ec _ _ _ (by omega) hc.t1⟩,by omega,by omega,dN (gtr h1 h8) _ _ (by omega)⟩
theorem iQ {fn:Func} {p u:Tmp} {ty:TypeId} (h:fn.results = #[.cell p ty,.tmp u]) (tmps:Array Value) (w:World) (g:Nat) (cs:Array Value) (hp:tmps.getD p undef=.pointer (some ⟨g,0,none⟩)) (hl:(loadVar ty ⟨g,0,none⟩).run prog w=.ok (.agg cs) w):(results fn tmps).run prog w=.ok (.tuple #[.agg cs,tmps.getD u undef]) w:=by
 have hp':tmps[p]?.getD undef=.pointer (some ⟨g,0,none⟩):=by simpa using hp
 rw [results_cell_tmp h]
 simp [hp',asAddr,hl,Result.andThen]
abbrev I2 (ab ac tb tc:Nat) (n:Int):Obj:=.cells #[.slice (some ⟨ab,0,none⟩) 2 ac,.slice (some ⟨tb,0,none⟩) 2 tc,.int .i64 n] 188
abbrev iJ:Obj:=.cells #[.slice none 0 0,.slice none 0 0,.int .i64 0] 188
theorem xe (ab ac tb tc:Nat) (q:Cache) (x:Int) (s:ByteArray) (w:World) (h:dz w ab ac tb tc q) (g:q.Good) (x0:0≤x) (x1:x<4096) (x2:x % 16=0) (hs:s.size=16):Calls prog 141 #[.agg #[.slice (some ⟨ab,0,none⟩) 2 ac,.slice (some ⟨tb,0,none⟩) 2 tc,.int .i64 q.next],.int .i64 x,.string s] w (Bu (q.keep x s) w):=by
 have hb:Below w.heap.size w ((w.alloc (I2 ab ac tb tc q.next)).alloc iJ):=ae (ae zR _) _
 have HB:=zH hb
 have HM:=zH (jP ab ac tb tc q _ (h.aj hb) g)
 have H2:=zH (h.aj hb)
 have HG:=zH g
 have hz0:((w.alloc (I2 ab ac tb tc q.next)).alloc iJ).heap[w.heap.size]? = some (I2 ab ac tb tc q.next):=aa (ae zR _) (af w _)
 have hy0:((w.alloc (I2 ab ac tb tc q.next)).alloc iJ).heap[w.heap.size+1]? = some iJ:=by simpa using af (w.alloc (I2 ab ac tb tc q.next)) iJ
 clear h g
 go_enter func141,ntmps141
 go_upto_region 3 with (first | (go_at_call 138;refine HM.out.mono ?_;rintro e w1 ⟨rfl,hb1⟩) | (go_at_call 176;refine (gw x _ x0 x1 x2).mono ?_;rintro e w2 ⟨rfl,rfl⟩))
 have hz1:=aa hb1 hz0
 have hy1:=aa hb1 hy0
 have HB1:=zH (gtr HB.out hb1)
 have HCf:=zH (fun (v:World) (hv:Below w1.heap.size w1 v)=>(H2.out.aj hb1).aj hv)
 have HKf:=zH (fun (v:World) (hv:Below w1.heap.size w1 v)=>(show v.cell? ⟨w.heap.size,0,none⟩=some (.slice (some ⟨ab,0,none⟩) 2 ac)∧v.cell? ⟨w.heap.size,1,none⟩=some (.slice (some ⟨tb,0,none⟩) 2 tc)∧v.cell? ⟨w.heap.size,2,none⟩=some (.int .i64 q.next) from ⟨cell_of (aa hv hz1) 0,cell_of (aa hv hz1) 1,cell_of (aa hv hz1) 2⟩))
 have HZ1:=zH hz1
 have HY1:=zH hy1
 clear hb hb1 hz0 hy0 hz1 hy1 HM H2 HB
 go_cut [8] from 24 to 32 (fun v wx => ∃ o a t ca ct,v=.pointer (some ⟨o,0,none⟩)∧yF w1 wx o a t ca ct q)
 case first =>
  refine wp_region_noPanic ?_
  refine wp_region_held_drew (S:=(fun (v:World)=>v.cell? ⟨w.heap.size,0,none⟩=some (.slice (some ⟨ab,0,none⟩) 2 ac)∧v.cell? ⟨w.heap.size,1,none⟩=some (.slice (some ⟨tb,0,none⟩) 2 tc)∧v.cell? ⟨w.heap.size,2,none⟩=some (.int .i64 q.next))) (by kernel_rfl) (by (try dsimp only);exact HKf.out _ (au zR)) fun hHeld => ?_
  refine tk 0 ?_
  refine tk 1 ?_
  refine tk 3 ?_
  refine tk 4 ?_
  refine tk 6 ?_
  refine tk 7 ?_
  refine wpAnyH_ready (rs:=[2,9]) (by kernel_rfl) (by simp) ?_
  refine (AllReadyH.cons (o:=⟨some 26,.call ⟨.value (.func 56),#[.tmp 25],#[22]⟩,22, "line.go:59",#[⟨1,.data⟩],none⟩) rfl (fun K hK => ?_) (AllReadyH.cons (o:=⟨some 8,.alloc 188,0, "line.go:59",#[],none⟩) rfl (fun K hK => ?_) AllReadyH.nil))
  ·
   skip
   go_simp
   refine (HCf.out (w1.drew) (au zR)).I8.mono ?_
   rintro e wa ⟨ga,ca,cura,rfl,hga,hca,hra,hua,hva,hbwa⟩
   go_wp2_with fail
   refine hK.out _ _ (by (try dsimp only);exact HKf.out _ (gtr (au zR) hbwa)) fun hHeld => ?_
   clear hK K
   try simp only [Act.put,zS,zT,zU]
   refine wpAnyH_ready (rs:=[5,9]) (by kernel_rfl) (by simp) ?_
   refine (AllReadyH.cons (o:=⟨some 29,.call ⟨.value (.func 177),#[.tmp 28],#[65]⟩,65, "line.go:59",#[⟨4,.data⟩,⟨2,.chain⟩],none⟩) rfl (fun K hK => ?_) (AllReadyH.cons (o:=⟨some 8,.alloc 188,0, "line.go:59",#[],none⟩) rfl (fun K hK => ?_) AllReadyH.nil))
   ·
    skip
    go_simp
    refine (HCf.out (wa) (gtr (au zR) hbwa)).D7.mono ?_
    rintro e wt ⟨gt,ct,curt,rfl,hgt,hct,hrt,hut,hvt,hbwt⟩
    go_wp2_with fail
    refine hK.out _ _ (by (try dsimp only);exact HKf.out _ (gtr (gtr (au zR) hbwa) hbwt)) fun hHeld => ?_
    clear hK K
    try simp only [Act.put,zS,zT,zU]
    refine tk 8 ?_
    refine tr 9 fun K hK => ?_
    go_simp
    refine hK.out _ _ (by (try dsimp only);exact HKf.out _ (ae (gtr (gtr (au zR) hbwa) hbwt) iJ)) fun hHeld => ?_
    clear hK K
    try simp only [Act.put,zS,zT,zU]
    refine tr 10 fun K hK => ?_
    have hzo:=af wt iJ
    refine fg rfl 188 (.tmp 8) (.tmp 32) rfl rfl (wt.heap.size) 0 #[.slice (some ⟨ga,0,none⟩) 2 ca,.slice (some ⟨gt,0,none⟩) 2 ct,.int .i64 q.next] (by kernel_rfl) (by kernel_rfl) 188 #[.slice none 0 0,.slice none 0 0,.int .i64 0] hzo rfl (Nat.le_of_ble_eq_true rfl) (by kernel_rfl) (fun w9 hw9 hz9 => ?_)
    refine hK.out _ _ (by (try dsimp only);exact HKf.out _ (by rw [hw9.out];exact dN (ae (gtr (gtr (au zR) hbwa) hbwt) iJ) _ _ (Nat.le_trans hbwa.size hbwt.size))) fun hHeld => ?_
    clear hK K
    try simp only [Act.put,zS,zT,zU]
    refine wpAnyH_done (by kernel_rfl) ?_ _
    refine NoPanic.normal ?_
    go_wp2
    go_meet
    case rel =>
     have s1:=hbwa.size
     have s2:=hbwt.size
     have l1:=(Array.getElem?_eq_some_iff.1 hra).1
     have l2:=(Array.getElem?_eq_some_iff.1 hrt).1
     have l3:=(Array.getElem?_eq_some_iff.1 hzo).1
     have ho:=hw9.out
     have hza:=aa (ae zR iJ) (aa hbwt (hra))
     have hzt:=aa (ae zR iJ) (hrt)
     simp at hga hgt s1 s2 l1 l2 l3
     have na:ga≠wt.heap.size:=by omega
     have nt:gt≠wt.heap.size:=by omega
     rw [ho]
     exact ⟨_,ga,gt,ca,ct,rfl,by rw [← ho];exact hz9.out,⟨hca,hct⟩,⟨cura,(bj _ _ _ _ na).trans hza,hua,hva⟩,⟨curt,(bj _ _ _ _ nt).trans hzt,hut,hvt⟩,⟨by omega,by omega,by omega⟩,⟨na,nt,by omega⟩,dN (ae (gtr (gtr (au zR) hbwa) hbwt) iJ) _ _ (by omega)⟩
   ·
    skip
    go_simp
    refine hK.out _ _ (by (try dsimp only);exact HKf.out _ (ae (gtr (au zR) hbwa) iJ)) fun hHeld => ?_
    clear hK K
    try simp only [Act.put,zS,zT,zU]
    refine tr 5 fun K hK => ?_
    go_simp
    refine (HCf.out ((wa.alloc iJ)) (ae (gtr (au zR) hbwa) iJ)).D7.mono ?_
    rintro e wt ⟨gt,ct,curt,rfl,hgt,hct,hrt,hut,hvt,hbwt⟩
    go_wp2_with fail
    refine hK.out _ _ (by (try dsimp only);exact HKf.out _ (gtr (ae (gtr (au zR) hbwa) iJ) hbwt)) fun hHeld => ?_
    clear hK K
    try simp only [Act.put,zS,zT,zU]
    refine tk 8 ?_
    refine tr 10 fun K hK => ?_
    have hzo:=aa hbwt (af wa iJ)
    refine fg rfl 188 (.tmp 8) (.tmp 32) rfl rfl (wa.heap.size) 0 #[.slice (some ⟨ga,0,none⟩) 2 ca,.slice (some ⟨gt,0,none⟩) 2 ct,.int .i64 q.next] (by kernel_rfl) (by kernel_rfl) 188 #[.slice none 0 0,.slice none 0 0,.int .i64 0] hzo rfl (Nat.le_of_ble_eq_true rfl) (by kernel_rfl) (fun w9 hw9 hz9 => ?_)
    refine hK.out _ _ (by (try dsimp only);exact HKf.out _ (by rw [hw9.out];exact dN (gtr (ae (gtr (au zR) hbwa) iJ) hbwt) _ _ hbwa.size)) fun hHeld => ?_
    clear hK K
    try simp only [Act.put,zS,zT,zU]
    refine wpAnyH_done (by kernel_rfl) ?_ _
    refine NoPanic.normal ?_
    go_wp2
    go_meet
    case rel =>
     have s1:=hbwa.size
     have s2:=hbwt.size
     have l1:=(Array.getElem?_eq_some_iff.1 hra).1
     have l2:=(Array.getElem?_eq_some_iff.1 hrt).1
     have l3:=(Array.getElem?_eq_some_iff.1 hzo).1
     have ho:=hw9.out
     have hza:=aa hbwt (aa (ae zR iJ) (hra))
     have hzt:=hrt
     simp at hga hgt s1 s2 l1 l2 l3
     have na:ga≠wa.heap.size:=by omega
     have nt:gt≠wa.heap.size:=by omega
     rw [ho]
     exact ⟨_,ga,gt,ca,ct,rfl,by rw [← ho];exact hz9.out,⟨hca,hct⟩,⟨cura,(bj _ _ _ _ na).trans hza,hua,hva⟩,⟨curt,(bj _ _ _ _ nt).trans hzt,hut,hvt⟩,⟨by omega,by omega,by omega⟩,⟨na,nt,by omega⟩,dN (gtr (ae (gtr (au zR) hbwa) iJ) hbwt) _ _ (by omega)⟩
  ·
   skip
   go_simp
   refine hK.out _ _ (by (try dsimp only);exact HKf.out _ (au (ae zR iJ))) fun hHeld => ?_
   clear hK K
   try simp only [Act.put,zS,zT,zU]
   refine tr 2 fun K hK => ?_
   go_simp
   refine (HCf.out ((w1.alloc iJ).drew) (au (ae zR iJ))).I8.mono ?_
   rintro e wa ⟨ga,ca,cura,rfl,hga,hca,hra,hua,hva,hbwa⟩
   go_wp2_with fail
   refine hK.out _ _ (by (try dsimp only);exact HKf.out _ (gtr (au (ae zR iJ)) hbwa)) fun hHeld => ?_
   clear hK K
   try simp only [Act.put,zS,zT,zU]
   refine tr 5 fun K hK => ?_
   go_simp
   refine (HCf.out (wa) (gtr (au (ae zR iJ)) hbwa)).D7.mono ?_
   rintro e wt ⟨gt,ct,curt,rfl,hgt,hct,hrt,hut,hvt,hbwt⟩
   go_wp2_with fail
   refine hK.out _ _ (by (try dsimp only);exact HKf.out _ (gtr (gtr (au (ae zR iJ)) hbwa) hbwt)) fun hHeld => ?_
   clear hK K
   try simp only [Act.put,zS,zT,zU]
   refine tk 8 ?_
   refine tr 10 fun K hK => ?_
   have hzo:=aa hbwt (aa hbwa (af w1 iJ))
   refine fg rfl 188 (.tmp 8) (.tmp 32) rfl rfl (w1.heap.size) 0 #[.slice (some ⟨ga,0,none⟩) 2 ca,.slice (some ⟨gt,0,none⟩) 2 ct,.int .i64 q.next] (by kernel_rfl) (by kernel_rfl) 188 #[.slice none 0 0,.slice none 0 0,.int .i64 0] hzo rfl (Nat.le_of_ble_eq_true rfl) (by kernel_rfl) (fun w9 hw9 hz9 => ?_)
   refine hK.out _ _ (by (try dsimp only);exact HKf.out _ (by rw [hw9.out];exact dN (gtr (gtr (au (ae zR iJ)) hbwa) hbwt) _ _ zY)) fun hHeld => ?_
   clear hK K
   try simp only [Act.put,zS,zT,zU]
   refine wpAnyH_done (by kernel_rfl) ?_ _
   refine NoPanic.normal ?_
   go_wp2
   go_meet
   case rel =>
    have s1:=hbwa.size
    have s2:=hbwt.size
    have l1:=(Array.getElem?_eq_some_iff.1 hra).1
    have l2:=(Array.getElem?_eq_some_iff.1 hrt).1
    have l3:=(Array.getElem?_eq_some_iff.1 hzo).1
    have ho:=hw9.out
    have hza:=aa hbwt (hra)
    have hzt:=hrt
    simp at hga hgt s1 s2 l1 l2 l3
    have na:ga≠w1.heap.size:=by omega
    have nt:gt≠w1.heap.size:=by omega
    rw [ho]
    exact ⟨_,ga,gt,ca,ct,rfl,by rw [← ho];exact hz9.out,⟨hca,hct⟩,⟨cura,(bj _ _ _ _ na).trans hza,hua,hva⟩,⟨curt,(bj _ _ _ _ nt).trans hzt,hut,hvt⟩,⟨by omega,by omega,by omega⟩,⟨na,nt,by omega⟩,dN (gtr (gtr (au (ae zR iJ)) hbwa) hbwt) _ _ (by omega)⟩
 case rest =>
  obtain ⟨o,a,t,ca,ct,rfl,hS⟩:=hcut
  have HS:=zH hS
  have HX:=zH (HKf.out wc hS.below)
  clear hS
  have HI:=zH ((HCf.out wc HS.out.below).index x)
  have hx0:=HX.out.1
  have hx2:=HX.out.2.2
  have hz:=HS.out.hz
  have o2:wc.cell? ⟨o,2,none⟩=some (.int .i64 q.next):=cell_of hz 2
  have of2:wc.frozen? ⟨o,2,none⟩=false:=aF hz 2
  clear hz
  rcases uR q x with ⟨e,h0⟩ | ⟨e,h0,h1⟩ | ⟨e,h0,h1⟩
  ·
   have HE:=zH e
   have HQ:=zH (show q.keep x s=q.put 0 x s q.next from if_pos h0)
   clear e h0
   have HS2:=HS
   obtain ⟨cura,a1,a2,a3⟩:=HS2.out.ra
   obtain ⟨curt,t1,t2,t3⟩:=HS2.out.rt
   have ca0:wc.cell? ⟨a,0,none⟩=some _:=(cell_of a1 0).trans a2
   have fa0:wc.frozen? ⟨a,0,none⟩=false:=aF a1 0
   have hl:=HS2.out.laid 0 (by decide) x s
   have t1':(wc.setCell ⟨a,0,none⟩ (.int .i64 x)).heap[t]? = some (.cells curt 9 (0,0)):=(by rw [setCell_eq_setRow _ a 0 cura 3 (0,0) _ a1];exact (bj _ _ _ _ HS2.out.ne.2.2.symm).trans t1)
   have ct0:(wc.setCell ⟨a,0,none⟩ (.int .i64 x)).cell? ⟨t,0,none⟩=some _:=(cell_of t1' 0).trans t2
   have ft0:(wc.setCell ⟨a,0,none⟩ (.int .i64 x)).frozen? ⟨t,0,none⟩=false:=aF t1' 0
   have HL:=zH hl
   have hz:=HS2.out.hz
   have HSO:=zH (show wc.cell? ⟨o,0,none⟩=some (.slice (some ⟨a,0,none⟩) 2 ca)∧wc.cell? ⟨o,1,none⟩=some (.slice (some ⟨t,0,none⟩) 2 ct) from ⟨cell_of hz 0,cell_of hz 1⟩)
   have z1:=HL.out.1
   have HSA:=zH (show (wc.setCell ⟨a,0,none⟩ (.int .i64 x)).cell? ⟨o,0,none⟩=some (.slice (some ⟨a,0,none⟩) 2 ca)∧(wc.setCell ⟨a,0,none⟩ (.int .i64 x)).cell? ⟨o,1,none⟩=some (.slice (some ⟨t,0,none⟩) 2 ct) from (by rw [setCell_eq_setRow _ a 0 cura 3 (0,0) _ a1];exact ⟨cell_of ((bj _ _ _ _ HS2.out.ne.1.symm).trans hz) 0,cell_of ((bj _ _ _ _ HS2.out.ne.1.symm).trans hz) 1⟩))
   clear hl hz z1 a1 a2 a3 t1 t2 t3 t1'
   have l1:=HS.out.cap
   have i0:(0:Int)<2:=by decide
   have i1:(1:Int)<2:=by decide
   go_wp2_with (go_at_call 139;refine HI.out.mono ?_;rintro e wc ⟨rfl,rfl⟩;rw [show Lib.idxOf [q.a0,q.a1] x=_ from HE.out])
   refine wp_region_noPanic ?_
   refine wp_region_held_drew (S:=(fun (v:World)=>v.cell? ⟨o,0,none⟩=some (.slice (some ⟨a,0,none⟩) 2 ca)∧v.cell? ⟨o,1,none⟩=some (.slice (some ⟨t,0,none⟩) 2 ct))) (by kernel_rfl) (by (try dsimp only);exact HSO.out) fun hHeld => ?_
   refine tk 0 ?_
   refine tk 1 ?_
   refine tk 2 ?_
   refine tk 3 ?_
   refine tk 4 ?_
   refine tk 5 ?_
   refine tk 6 ?_
   refine tk 7 ?_
   refine tk 8 ?_
   refine tr 9 fun K hK => ?_
   go_simp
   refine hK.out _ _ (by (try dsimp only);exact HSA.out) fun hHeld => ?_
   clear hK K
   try simp only [Act.put,zS,zT,zU]
   refine tk 10 ?_
   refine tr 11 fun K hK => ?_
   go_simp
   refine hK.out _ _ (by (try dsimp only);exact ⟨cell_of HL.out.1 0,cell_of HL.out.1 1⟩) fun hHeld => ?_
   clear hK K
   try simp only [Act.put,zS,zT,zU]
   refine wpAnyH_done (by kernel_rfl) ?_ _
   refine NoPanic.normal ?_
   have HY8:=zH (show ((wc.setCell ⟨a,0,none⟩ (.int .i64 x)).setCell ⟨t,0,none⟩ (.string s)).drew.heap[w.heap.size+1]? = some iJ from aa (au HL.out.2.2) HY1.out)
   have HZ8:=zH (show ((wc.setCell ⟨a,0,none⟩ (.int .i64 x)).setCell ⟨t,0,none⟩ (.string s)).drew.heap[o]? = _ from HL.out.1)
   go_wp2_with (first | (refine wpList_load_row rfl 188 (.tmp 8) rfl o rfl 188 #[.slice (some ⟨a,0,none⟩) 2 ca,.slice (some ⟨t,0,none⟩) 2 ct,.int .i64 (q.next)] (0,0) _ HZ8.out underlying188 rfl rfl ?_) | (refine dS rfl 188 (.tmp 6) (.tmp 56) rfl (w.heap.size+1) 0 #[.slice (some ⟨a,0,none⟩) 2 ca,.slice (some ⟨t,0,none⟩) 2 ct,.int .i64 (q.next)] (by kernel_rfl) (by kernel_rfl) 188 #[.slice none 0 0,.slice none 0 0,.int .i64 0] HY8.out rfl (Nat.le_of_ble_eq_true rfl) (by kernel_rfl) ?_))
   refine bodyPost_ret (iQ rfl _ _ (w.heap.size+1) _ rfl (run_loadVar_row _ _ 188 188 _ (0,0) _ (setRow_heap _ _ _ _ _ _ HY8.out) underlying188 rfl rfl)) rfl ?_
   rw [HQ.out]
   exact rD HB1.out (au HL.out.2.2) (Array.getElem?_eq_some_iff.1 HY1.out).1 HS.out.lo.2.1 HS.out.lo.2.2 (HL.out.2.1.aj (au zR)) _
  ·
   have HE:=zH e
   have HQ:=zH (show q.keep x s=q.put 1 x s q.next from (if_neg h0).trans (if_pos h1))
   clear e h0 h1
   have HS2:=HS
   obtain ⟨cura,a1,a2,a3⟩:=HS2.out.ra
   obtain ⟨curt,t1,t2,t3⟩:=HS2.out.rt
   have ca1:wc.cell? ⟨a,1,none⟩=some _:=(cell_of a1 1).trans a3
   have fa1:wc.frozen? ⟨a,1,none⟩=false:=aF a1 1
   have hl:=HS2.out.laid 1 (by decide) x s
   have t1':(wc.setCell ⟨a,1,none⟩ (.int .i64 x)).heap[t]? = some (.cells curt 9 (0,0)):=(by rw [setCell_eq_setRow _ a 1 cura 3 (0,0) _ a1];exact (bj _ _ _ _ HS2.out.ne.2.2.symm).trans t1)
   have ct1:(wc.setCell ⟨a,1,none⟩ (.int .i64 x)).cell? ⟨t,1,none⟩=some _:=(cell_of t1' 1).trans t3
   have ft1:(wc.setCell ⟨a,1,none⟩ (.int .i64 x)).frozen? ⟨t,1,none⟩=false:=aF t1' 1
   have HL:=zH hl
   have hz:=HS2.out.hz
   have HSO:=zH (show wc.cell? ⟨o,0,none⟩=some (.slice (some ⟨a,0,none⟩) 2 ca)∧wc.cell? ⟨o,1,none⟩=some (.slice (some ⟨t,0,none⟩) 2 ct) from ⟨cell_of hz 0,cell_of hz 1⟩)
   have z1:=HL.out.1
   have HSA:=zH (show (wc.setCell ⟨a,1,none⟩ (.int .i64 x)).cell? ⟨o,0,none⟩=some (.slice (some ⟨a,0,none⟩) 2 ca)∧(wc.setCell ⟨a,1,none⟩ (.int .i64 x)).cell? ⟨o,1,none⟩=some (.slice (some ⟨t,0,none⟩) 2 ct) from (by rw [setCell_eq_setRow _ a 1 cura 3 (0,0) _ a1];exact ⟨cell_of ((bj _ _ _ _ HS2.out.ne.1.symm).trans hz) 0,cell_of ((bj _ _ _ _ HS2.out.ne.1.symm).trans hz) 1⟩))
   clear hl hz z1 a1 a2 a3 t1 t2 t3 t1'
   have l1:=HS.out.cap
   have i0:(0:Int)<2:=by decide
   have i1:(1:Int)<2:=by decide
   go_wp2_with (go_at_call 139;refine HI.out.mono ?_;rintro e wc ⟨rfl,rfl⟩;rw [show Lib.idxOf [q.a0,q.a1] x=_ from HE.out])
   refine wp_region_noPanic ?_
   refine wp_region_held_drew (S:=(fun (v:World)=>v.cell? ⟨o,0,none⟩=some (.slice (some ⟨a,0,none⟩) 2 ca)∧v.cell? ⟨o,1,none⟩=some (.slice (some ⟨t,0,none⟩) 2 ct))) (by kernel_rfl) (by (try dsimp only);exact HSO.out) fun hHeld => ?_
   refine tk 0 ?_
   refine tk 1 ?_
   refine tk 2 ?_
   refine tk 3 ?_
   refine tk 4 ?_
   refine tk 5 ?_
   refine tk 6 ?_
   refine tk 7 ?_
   refine tk 8 ?_
   refine tr 9 fun K hK => ?_
   go_simp
   refine hK.out _ _ (by (try dsimp only);exact HSA.out) fun hHeld => ?_
   clear hK K
   try simp only [Act.put,zS,zT,zU]
   refine tk 10 ?_
   refine tr 11 fun K hK => ?_
   go_simp
   refine hK.out _ _ (by (try dsimp only);exact ⟨cell_of HL.out.1 0,cell_of HL.out.1 1⟩) fun hHeld => ?_
   clear hK K
   try simp only [Act.put,zS,zT,zU]
   refine wpAnyH_done (by kernel_rfl) ?_ _
   refine NoPanic.normal ?_
   have HY8:=zH (show ((wc.setCell ⟨a,1,none⟩ (.int .i64 x)).setCell ⟨t,1,none⟩ (.string s)).drew.heap[w.heap.size+1]? = some iJ from aa (au HL.out.2.2) HY1.out)
   have HZ8:=zH (show ((wc.setCell ⟨a,1,none⟩ (.int .i64 x)).setCell ⟨t,1,none⟩ (.string s)).drew.heap[o]? = _ from HL.out.1)
   go_wp2_with (first | (refine wpList_load_row rfl 188 (.tmp 8) rfl o rfl 188 #[.slice (some ⟨a,0,none⟩) 2 ca,.slice (some ⟨t,0,none⟩) 2 ct,.int .i64 (q.next)] (0,0) _ HZ8.out underlying188 rfl rfl ?_) | (refine dS rfl 188 (.tmp 6) (.tmp 56) rfl (w.heap.size+1) 0 #[.slice (some ⟨a,0,none⟩) 2 ca,.slice (some ⟨t,0,none⟩) 2 ct,.int .i64 (q.next)] (by kernel_rfl) (by kernel_rfl) 188 #[.slice none 0 0,.slice none 0 0,.int .i64 0] HY8.out rfl (Nat.le_of_ble_eq_true rfl) (by kernel_rfl) ?_))
   refine bodyPost_ret (iQ rfl _ _ (w.heap.size+1) _ rfl (run_loadVar_row _ _ 188 188 _ (0,0) _ (setRow_heap _ _ _ _ _ _ HY8.out) underlying188 rfl rfl)) rfl ?_
   rw [HQ.out]
   exact rD HB1.out (au HL.out.2.2) (Array.getElem?_eq_some_iff.1 HY1.out).1 HS.out.lo.2.1 HS.out.lo.2.2 (HL.out.2.1.aj (au zR)) _
  ·
   have HE:=zH e
   rcases HG.out.next with hn | hn
   ·
    have HQ:=zH (show q.keep x s=q.put 0 x s 1 from (if_neg h0).trans ((if_neg h1).trans (if_pos hn)))
    clear e h0 h1
    rw [hn] at hx2 o2
    have HS2:=zH (HS.out.next 1)
    have hw:IntKind.i64.wrap ((0:Int)+1)=1:=by decide
    have htm:(1:Int).tmod 2=1:=by decide
    obtain ⟨cura,a1,a2,a3⟩:=HS2.out.ra
    obtain ⟨curt,t1,t2,t3⟩:=HS2.out.rt
    have ca0:(wc.setCell ⟨o,2,none⟩ (.int .i64 1)).cell? ⟨a,0,none⟩=some _:=(cell_of a1 0).trans a2
    have fa0:(wc.setCell ⟨o,2,none⟩ (.int .i64 1)).frozen? ⟨a,0,none⟩=false:=aF a1 0
    have hl:=HS2.out.laid 0 (by decide) x s
    have t1':((wc.setCell ⟨o,2,none⟩ (.int .i64 1)).setCell ⟨a,0,none⟩ (.int .i64 x)).heap[t]? = some (.cells curt 9 (0,0)):=(by rw [setCell_eq_setRow _ a 0 cura 3 (0,0) _ a1];exact (bj _ _ _ _ HS2.out.ne.2.2.symm).trans t1)
    have ct0:((wc.setCell ⟨o,2,none⟩ (.int .i64 1)).setCell ⟨a,0,none⟩ (.int .i64 x)).cell? ⟨t,0,none⟩=some _:=(cell_of t1' 0).trans t2
    have ft0:((wc.setCell ⟨o,2,none⟩ (.int .i64 1)).setCell ⟨a,0,none⟩ (.int .i64 x)).frozen? ⟨t,0,none⟩=false:=aF t1' 0
    have HL:=zH hl
    have hz:=HS2.out.hz
    have HSO:=zH (show (wc.setCell ⟨o,2,none⟩ (.int .i64 1)).cell? ⟨o,0,none⟩=some (.slice (some ⟨a,0,none⟩) 2 ca)∧(wc.setCell ⟨o,2,none⟩ (.int .i64 1)).cell? ⟨o,1,none⟩=some (.slice (some ⟨t,0,none⟩) 2 ct) from ⟨cell_of hz 0,cell_of hz 1⟩)
    have z1:=HL.out.1
    have HSA:=zH (show ((wc.setCell ⟨o,2,none⟩ (.int .i64 1)).setCell ⟨a,0,none⟩ (.int .i64 x)).cell? ⟨o,0,none⟩=some (.slice (some ⟨a,0,none⟩) 2 ca)∧((wc.setCell ⟨o,2,none⟩ (.int .i64 1)).setCell ⟨a,0,none⟩ (.int .i64 x)).cell? ⟨o,1,none⟩=some (.slice (some ⟨t,0,none⟩) 2 ct) from (by rw [setCell_eq_setRow _ a 0 cura 3 (0,0) _ a1];exact ⟨cell_of ((bj _ _ _ _ HS2.out.ne.1.symm).trans hz) 0,cell_of ((bj _ _ _ _ HS2.out.ne.1.symm).trans hz) 1⟩))
    clear hl hz z1 a1 a2 a3 t1 t2 t3 t1'
    have l1:=HS.out.cap
    have i0:(0:Int)<2:=by decide
    have i1:(1:Int)<2:=by decide
    go_wp2_with (go_at_call 139;refine HI.out.mono ?_;rintro e wc ⟨rfl,rfl⟩;rw [show Lib.idxOf [q.a0,q.a1] x=_ from HE.out])
    refine wp_region_noPanic ?_
    refine wp_region_held_drew (S:=(fun (v:World)=>v.cell? ⟨o,0,none⟩=some (.slice (some ⟨a,0,none⟩) 2 ca)∧v.cell? ⟨o,1,none⟩=some (.slice (some ⟨t,0,none⟩) 2 ct))) (by kernel_rfl) (by (try dsimp only);exact HSO.out) fun hHeld => ?_
    refine tk 0 ?_
    refine tk 1 ?_
    refine tk 2 ?_
    refine tk 3 ?_
    refine tk 4 ?_
    refine tk 5 ?_
    refine tk 6 ?_
    refine tk 7 ?_
    refine tk 8 ?_
    refine tr 9 fun K hK => ?_
    go_simp
    refine hK.out _ _ (by (try dsimp only);exact HSA.out) fun hHeld => ?_
    clear hK K
    try simp only [Act.put,zS,zT,zU]
    refine tk 10 ?_
    refine tr 11 fun K hK => ?_
    go_simp
    refine hK.out _ _ (by (try dsimp only);exact ⟨cell_of HL.out.1 0,cell_of HL.out.1 1⟩) fun hHeld => ?_
    clear hK K
    try simp only [Act.put,zS,zT,zU]
    refine wpAnyH_done (by kernel_rfl) ?_ _
    refine NoPanic.normal ?_
    have HY8:=zH (show (((wc.setCell ⟨o,2,none⟩ (.int .i64 1)).setCell ⟨a,0,none⟩ (.int .i64 x)).setCell ⟨t,0,none⟩ (.string s)).drew.heap[w.heap.size+1]? = some iJ from aa (au HL.out.2.2) HY1.out)
    have HZ8:=zH (show (((wc.setCell ⟨o,2,none⟩ (.int .i64 1)).setCell ⟨a,0,none⟩ (.int .i64 x)).setCell ⟨t,0,none⟩ (.string s)).drew.heap[o]? = _ from HL.out.1)
    go_wp2_with (first | (refine wpList_load_row rfl 188 (.tmp 8) rfl o rfl 188 #[.slice (some ⟨a,0,none⟩) 2 ca,.slice (some ⟨t,0,none⟩) 2 ct,.int .i64 (1)] (0,0) _ HZ8.out underlying188 rfl rfl ?_) | (refine dS rfl 188 (.tmp 6) (.tmp 56) rfl (w.heap.size+1) 0 #[.slice (some ⟨a,0,none⟩) 2 ca,.slice (some ⟨t,0,none⟩) 2 ct,.int .i64 (1)] (by kernel_rfl) (by kernel_rfl) 188 #[.slice none 0 0,.slice none 0 0,.int .i64 0] HY8.out rfl (Nat.le_of_ble_eq_true rfl) (by kernel_rfl) ?_))
    refine bodyPost_ret (iQ rfl _ _ (w.heap.size+1) _ rfl (run_loadVar_row _ _ 188 188 _ (0,0) _ (setRow_heap _ _ _ _ _ _ HY8.out) underlying188 rfl rfl)) rfl ?_
    rw [HQ.out]
    exact rD HB1.out (au HL.out.2.2) (Array.getElem?_eq_some_iff.1 HY1.out).1 HS.out.lo.2.1 HS.out.lo.2.2 (HL.out.2.1.aj (au zR)) _
   ·
    have HQ:=zH (show q.keep x s=q.put 1 x s 0 from (if_neg h0).trans ((if_neg h1).trans (if_neg (by omega))))
    clear e h0 h1
    rw [hn] at hx2 o2
    have HS2:=zH (HS.out.next 0)
    have hw:IntKind.i64.wrap ((1:Int)+1)=2:=by decide
    have htm:(2:Int).tmod 2=0:=by decide
    obtain ⟨cura,a1,a2,a3⟩:=HS2.out.ra
    obtain ⟨curt,t1,t2,t3⟩:=HS2.out.rt
    have ca1:(wc.setCell ⟨o,2,none⟩ (.int .i64 0)).cell? ⟨a,1,none⟩=some _:=(cell_of a1 1).trans a3
    have fa1:(wc.setCell ⟨o,2,none⟩ (.int .i64 0)).frozen? ⟨a,1,none⟩=false:=aF a1 1
    have hl:=HS2.out.laid 1 (by decide) x s
    have t1':((wc.setCell ⟨o,2,none⟩ (.int .i64 0)).setCell ⟨a,1,none⟩ (.int .i64 x)).heap[t]? = some (.cells curt 9 (0,0)):=(by rw [setCell_eq_setRow _ a 1 cura 3 (0,0) _ a1];exact (bj _ _ _ _ HS2.out.ne.2.2.symm).trans t1)
    have ct1:((wc.setCell ⟨o,2,none⟩ (.int .i64 0)).setCell ⟨a,1,none⟩ (.int .i64 x)).cell? ⟨t,1,none⟩=some _:=(cell_of t1' 1).trans t3
    have ft1:((wc.setCell ⟨o,2,none⟩ (.int .i64 0)).setCell ⟨a,1,none⟩ (.int .i64 x)).frozen? ⟨t,1,none⟩=false:=aF t1' 1
    have HL:=zH hl
    have hz:=HS2.out.hz
    have HSO:=zH (show (wc.setCell ⟨o,2,none⟩ (.int .i64 0)).cell? ⟨o,0,none⟩=some (.slice (some ⟨a,0,none⟩) 2 ca)∧(wc.setCell ⟨o,2,none⟩ (.int .i64 0)).cell? ⟨o,1,none⟩=some (.slice (some ⟨t,0,none⟩) 2 ct) from ⟨cell_of hz 0,cell_of hz 1⟩)
    have z1:=HL.out.1
    have HSA:=zH (show ((wc.setCell ⟨o,2,none⟩ (.int .i64 0)).setCell ⟨a,1,none⟩ (.int .i64 x)).cell? ⟨o,0,none⟩=some (.slice (some ⟨a,0,none⟩) 2 ca)∧((wc.setCell ⟨o,2,none⟩ (.int .i64 0)).setCell ⟨a,1,none⟩ (.int .i64 x)).cell? ⟨o,1,none⟩=some (.slice (some ⟨t,0,none⟩) 2 ct) from (by rw [setCell_eq_setRow _ a 1 cura 3 (0,0) _ a1];exact ⟨cell_of ((bj _ _ _ _ HS2.out.ne.1.symm).trans hz) 0,cell_of ((bj _ _ _ _ HS2.out.ne.1.symm).trans hz) 1⟩))
    clear hl hz z1 a1 a2 a3 t1 t2 t3 t1'
    have l1:=HS.out.cap
    have i0:(0:Int)<2:=by decide
    have i1:(1:Int)<2:=by decide
    go_wp2_with (go_at_call 139;refine HI.out.mono ?_;rintro e wc ⟨rfl,rfl⟩;rw [show Lib.idxOf [q.a0,q.a1] x=_ from HE.out])
    refine wp_region_noPanic ?_
    refine wp_region_held_drew (S:=(fun (v:World)=>v.cell? ⟨o,0,none⟩=some (.slice (some ⟨a,0,none⟩) 2 ca)∧v.cell? ⟨o,1,none⟩=some (.slice (some ⟨t,0,none⟩) 2 ct))) (by kernel_rfl) (by (try dsimp only);exact HSO.out) fun hHeld => ?_
    refine tk 0 ?_
    refine tk 1 ?_
    refine tk 2 ?_
    refine tk 3 ?_
    refine tk 4 ?_
    refine tk 5 ?_
    refine tk 6 ?_
    refine tk 7 ?_
    refine tk 8 ?_
    refine tr 9 fun K hK => ?_
    go_simp
    refine hK.out _ _ (by (try dsimp only);exact HSA.out) fun hHeld => ?_
    clear hK K
    try simp only [Act.put,zS,zT,zU]
    refine tk 10 ?_
    refine tr 11 fun K hK => ?_
    go_simp
    refine hK.out _ _ (by (try dsimp only);exact ⟨cell_of HL.out.1 0,cell_of HL.out.1 1⟩) fun hHeld => ?_
    clear hK K
    try simp only [Act.put,zS,zT,zU]
    refine wpAnyH_done (by kernel_rfl) ?_ _
    refine NoPanic.normal ?_
    have HY8:=zH (show (((wc.setCell ⟨o,2,none⟩ (.int .i64 0)).setCell ⟨a,1,none⟩ (.int .i64 x)).setCell ⟨t,1,none⟩ (.string s)).drew.heap[w.heap.size+1]? = some iJ from aa (au HL.out.2.2) HY1.out)
    have HZ8:=zH (show (((wc.setCell ⟨o,2,none⟩ (.int .i64 0)).setCell ⟨a,1,none⟩ (.int .i64 x)).setCell ⟨t,1,none⟩ (.string s)).drew.heap[o]? = _ from HL.out.1)
    go_wp2_with (first | (refine wpList_load_row rfl 188 (.tmp 8) rfl o rfl 188 #[.slice (some ⟨a,0,none⟩) 2 ca,.slice (some ⟨t,0,none⟩) 2 ct,.int .i64 (0)] (0,0) _ HZ8.out underlying188 rfl rfl ?_) | (refine dS rfl 188 (.tmp 6) (.tmp 56) rfl (w.heap.size+1) 0 #[.slice (some ⟨a,0,none⟩) 2 ca,.slice (some ⟨t,0,none⟩) 2 ct,.int .i64 (0)] (by kernel_rfl) (by kernel_rfl) 188 #[.slice none 0 0,.slice none 0 0,.int .i64 0] HY8.out rfl (Nat.le_of_ble_eq_true rfl) (by kernel_rfl) ?_))
    refine bodyPost_ret (iQ rfl _ _ (w.heap.size+1) _ rfl (run_loadVar_row _ _ 188 188 _ (0,0) _ (setRow_heap _ _ _ _ _ _ HY8.out) underlying188 rfl rfl)) rfl ?_
    rw [HQ.out]
    exact rD HB1.out (au HL.out.2.2) (Array.getElem?_eq_some_iff.1 HY1.out).1 HS.out.lo.2.1 HS.out.lo.2.2 (HL.out.2.1.aj (au zR)) _
end
end Go.Proofs.YtcfdenckiigdaaaGreat

/- Part 10 of the contracts. -/
import Derived.Test.YtcfdenckiigdaaaGreatRd09
set_option linter.unusedVariables false
set_option maxRecDepth 100000
set_option maxHeartbeats 4000000
namespace Go.Proofs.YtcfdenckiigdaaaGreat
open Tryz Go.RowKit
def Cache.put (q:Cache) (i:Nat) (f:Int) (s:ByteArray) (next:Int):Cache:=if i=0 then ⟨f,q.a1,s,q.t1,next⟩ else ⟨q.a0,f,q.t0,s,next⟩
def Cache.keep (q:Cache) (f:Int) (s:ByteArray):Cache:=if q.a0=f then q.put 0 f s q.next else if q.a1=f then q.put 1 f s q.next else if q.next=0 then q.put 0 f s 1 else q.put 1 f s 0
theorem zI {q:Cache} (g:q.Good) (f:Int) (s:ByteArray) (h0:0≤f) (h1:f<4096) (h2:f % 16=0) (hs:s.size=16):(q.keep f s).Good:=by
 have L:DX f s:=.inr ⟨h0,h1,h2,hs⟩
 unfold Cache.keep Cache.put
 split
 ·
  rename_i h;rw [if_pos rfl];exact ⟨L,g.l1,fun hn=>by have:=g.ne hn;rw [h] at this;exact this,g.next⟩
 ·
  rename_i hn0
  split
  ·
   rename_i h;rw [if_neg (by decide)];exact ⟨g.l0,L,fun _ e=>hn0 e.symm,g.next⟩
  ·
   rename_i hn1
   split
   ·
    rw [if_pos rfl];exact ⟨L,g.l1,fun _ e=>hn1 e,.inr rfl⟩
   ·
    rw [if_neg (by decide)];exact ⟨g.l0,L,fun _ e=>hn0 e.symm,.inl rfl⟩
theorem zm {w':World} {B:Nat} {t:TypeId} {v:Value} {a b:Value} (h:w'.ownsRow B t 1 v 2 [a,b]) (hn:v≠.slice none 0 0) : ∃ g cap cur,v=.slice (some ⟨g,0,none⟩) 2 cap∧B≤g∧2≤cap∧w'.heap[g]? = some (.cells cur t (0,0))∧cur[0]? = some a∧cur[1]? = some b:=by
 rcases h.2 with ⟨h',_⟩ | ⟨g,cap,cur,rfl,hb,hg,hn2,_,hs,ht⟩
 ·
  exact absurd h' hn
 ·
  refine ⟨g,cap,cur,rfl,hb,hn2,hg,?_,?_⟩
  ·
   have:=congrArg (fun l:List Value=>l[0]?) ht
   simpa [List.getElem?_take] using this
  ·
   have:=congrArg (fun l:List Value=>l[1]?) ht
   simpa [List.getElem?_take] using this
theorem dz.Jn {w:World} {ab ac tb tc:Nat} {q:Cache} (h:dz w ab ac tb tc q):Calls prog 56 #[.slice (some ⟨ab,0,none⟩) 2 ac] w fun e w' =>
  ∃ g cap cur,e=.returned (.slice (some ⟨g,0,none⟩) 2 cap)∧w.heap.size≤g∧2≤cap∧w'.heap[g]? = some (.cells cur 3 (0,0))∧cur[0]? = some (.int .i64 q.a0)∧cur[1]? = some (.int .i64 q.a1)∧Below w.heap.size w w':=by
 refine (Tryz.slices_Clone_int ab 0 2 ac [q.a0,q.a1] w (by simp) (by decide) (fun j hj=>by
  have hj:j<2:=hj
  match j,hj with
  | 0,_=>exact h.a0
  | 1,_=>exact h.a1)).mono ?_
 rintro e w' ⟨v',rfl,ho,hn,hb⟩
 obtain ⟨g,cap,cur,rfl,h1,h2,h3,h4,h5⟩:=zm (a:=.int .i64 q.a0) (b:=.int .i64 q.a1) ho hn
 exact ⟨g,cap,cur,rfl,h1,h2,h3,h4,h5,hb⟩
theorem dz.Ef {w:World} {ab ac tb tc:Nat} {q:Cache} (h:dz w ab ac tb tc q):Calls prog 177 #[.slice (some ⟨tb,0,none⟩) 2 tc] w fun e w' =>
  ∃ g cap cur,e=.returned (.slice (some ⟨g,0,none⟩) 2 cap)∧w.heap.size≤g∧2≤cap∧w'.heap[g]? = some (.cells cur 9 (0,0))∧cur[0]? = some (.string q.t0)∧cur[1]? = some (.string q.t1)∧Below w.heap.size w w':=by
 refine (Tryz.slices_Clone_string tb 0 2 tc [q.t0,q.t1] w (by simp) (by decide) (fun j hj=>by
  have hj:j<2:=hj
  match j,hj with
  | 0,_=>exact h.t0
  | 1,_=>exact h.t1)).mono ?_
 rintro e w' ⟨v',rfl,ho,hn,hb⟩
 obtain ⟨g,cap,cur,rfl,h1,h2,h3,h4,h5⟩:=zm (a:=.string q.t0) (b:=.string q.t1) ho hn
 exact ⟨g,cap,cur,rfl,h1,h2,h3,h4,h5,hb⟩
structure yP (w wx:World) (o a t ca ct:Nat) (q:Cache):Prop where
 hz:wx.heap[o]? = some (.cells #[.slice (some ⟨a,0,none⟩) 2 ca,.slice (some ⟨t,0,none⟩) 2 ct,.int .i64 q.next] 188 (0,0))
 cap:2≤ca∧2≤ct
 ra : ∃ cur,wx.heap[a]? = some (.cells cur 3 (0,0))∧cur[0]? = some (.int .i64 q.a0)∧cur[1]? = some (.int .i64 q.a1)
 rt : ∃ cur,wx.heap[t]? = some (.cells cur 9 (0,0))∧cur[0]? = some (.string q.t0)∧cur[1]? = some (.string q.t1)
 lo:w.heap.size≤o∧w.heap.size≤a∧w.heap.size≤t
 ne:a≠o∧t≠o∧a≠t
 below:Below w.heap.size w wx
theorem yP.next {w wx:World} {o a t ca ct:Nat} {q:Cache} (h:yP w wx o a t ca ct q) (n:Int):yP w (wx.setCell ⟨o,2,none⟩ (.int .i64 n)) o a t ca ct { q with next:=n }:=by
 rw [setCell_eq_setRow wx o 2 _ 188 (0,0) _ h.hz]
 refine ⟨setRow_heap _ _ _ _ _ _ h.hz,h.cap,?_,?_,h.lo,h.ne,dM h.below _ _ h.lo.1⟩
 ·
  obtain ⟨cur,h1,h2⟩:=h.ra
  exact ⟨cur,(bj _ _ _ _ h.ne.1).trans h1,h2⟩
 ·
  obtain ⟨cur,h1,h2⟩:=h.rt
  exact ⟨cur,(bj _ _ _ _ h.ne.2.1).trans h1,h2⟩
theorem yP.laid {w wx:World} {o a t ca ct:Nat} {q:Cache} (h:yP w wx o a t ca ct q) (i:Nat) (hi:i<2) (x:Int) (s:ByteArray):let w8:=(wx.setCell ⟨a,i,none⟩ (.int .i64 x)).setCell ⟨t,i,none⟩ (.string s);w8.heap[o]? = some (.cells #[.slice (some ⟨a,0,none⟩) 2 ca,.slice (some ⟨t,0,none⟩) 2 ct,.int .i64 q.next] 188 (0,0))∧dz w8 a ca t ct (q.put i x s q.next)∧Below w.heap.size w w8:=by
 obtain ⟨cura,a1,a2,a3⟩:=h.ra
 obtain ⟨curt,t1,t2,t3⟩:=h.rt
 have e1:=setCell_eq_setRow wx a i cura 3 (0,0) (.int .i64 x) a1
 have t1':(wx.setCell ⟨a,i,none⟩ (.int .i64 x)).heap[t]? = some (.cells curt 9 (0,0)):=by rw [e1];exact (bj _ _ _ _ h.ne.2.2.symm).trans t1
 have e2:=setCell_eq_setRow (wx.setCell ⟨a,i,none⟩ (.int .i64 x)) t i curt 9 (0,0) (.string s) t1'
 intro w8
 have ha:w8.heap[a]? = some (.cells (cura.setIfInBounds i (.int .i64 x)) 3 (0,0)):=by
  show ((wx.setCell ⟨a,i,none⟩ (.int .i64 x)).setCell ⟨t,i,none⟩ (.string s)).heap[a]? = _
  rw [e2,bj _ _ _ _ h.ne.2.2,e1]
  exact setRow_heap _ _ _ _ _ _ a1
 have ht:w8.heap[t]? = some (.cells (curt.setIfInBounds i (.string s)) 9 (0,0)):=by
  show ((wx.setCell ⟨a,i,none⟩ (.int .i64 x)).setCell ⟨t,i,none⟩ (.string s)).heap[t]? = _
  rw [e2]
  exact setRow_heap _ _ _ _ _ _ t1'
 have g0:=(Array.getElem?_eq_some_iff.1 a2).1
 have g1:=(Array.getElem?_eq_some_iff.1 a3).1
 have k0:=(Array.getElem?_eq_some_iff.1 t2).1
 have k1:=(Array.getElem?_eq_some_iff.1 t3).1
 refine ⟨?_,?_,?_⟩
 ·
  show ((wx.setCell ⟨a,i,none⟩ (.int .i64 x)).setCell ⟨t,i,none⟩ (.string s)).heap[o]? = _
  rw [e2,bj _ _ _ _ h.ne.2.1.symm,e1,bj _ _ _ _ h.ne.1.symm]
  exact h.hz
 ·
  match i,hi with
  | 0,_=>exact ⟨h.cap,(cell_of ha 0).trans (by simp [Cache.put,g0]),(cell_of ha 1).trans (by simpa [Cache.put] using a3),(cell_of ht 0).trans (by simp [Cache.put,k0]),(cell_of ht 1).trans (by simpa [Cache.put] using t3)⟩
  | 1,_=>exact ⟨h.cap,(cell_of ha 0).trans (by simpa [Cache.put] using a2),(cell_of ha 1).trans (by simp [Cache.put,g1]),(cell_of ht 0).trans (by simpa [Cache.put] using t2),(cell_of ht 1).trans (by simp [Cache.put,k1])⟩
 ·
  show Below _ _ ((wx.setCell ⟨a,i,none⟩ (.int .i64 x)).setCell ⟨t,i,none⟩ (.string s))
  rw [e2,e1]
  exact dM (dM h.below _ _ h.lo.2.1) _ _ h.lo.2.2
def BG (q:Cache) (w:World) (e:Ending) (w':World):Prop :=
 ∃ a t ca ct,e=.returned (.tuple #[.agg #[.slice (some ⟨a,0,none⟩) 2 ca,.slice (some ⟨t,0,none⟩) 2 ct,.int .i64 q.next],.int .i64 0])∧dz w' a ca t ct q∧w.heap.size≤a∧w.heap.size≤t∧Below w.heap.size w w'
theorem rG {w w1 w8:World} {a t ca ct:Nat} {q:Cache} (h1:Below w.heap.size w w1) (h8:Below w1.heap.size w1 w8) (y:w.heap.size+1<w1.heap.size) (la:w1.heap.size≤a) (lt:w1.heap.size≤t) (hc:dz w8 a ca t ct q) (r:Array Value):BG q w (.returned (.tuple #[.agg #[.slice (some ⟨a,0,none⟩) 2 ca,.slice (some ⟨t,0,none⟩) 2 ct,.int .i64 q.next],.int .i64 0])) (w8.setRow (w.heap.size+1) r):=by
 have ec : ∀ x i v,x≠w.heap.size+1→w8.cell? ⟨x,i,none⟩=some v→(w8.setRow (w.heap.size+1) r).cell? ⟨x,i,none⟩=some v:=fun x i v hx hv=>by
  unfold World.cell? at hv ⊢
  rw [bj _ _ _ _ hx];exact hv
 exact ⟨a,t,ca,ct,rfl,⟨hc.cap,ec _ _ _ (by omega) hc.a0,ec _ _ _ (by omega) hc.a1,ec _ _ _ (by omega) hc.t0,ec _ _ _ (by omega) hc.t1⟩,by omega,by omega,dM (gtr h1 h8) _ _ (by omega)⟩
theorem iO {fn:Func} {p u:Tmp} {ty:TypeId} (h:fn.results = #[.cell p ty,.tmp u]) (tmps:Array Value) (w:World) (g:Nat) (cs:Array Value) (hp:tmps.getD p undef=.pointer (some ⟨g,0,none⟩)) (hl:(loadVar ty ⟨g,0,none⟩).run prog w=.ok (.agg cs) w):(results fn tmps).run prog w=.ok (.tuple #[.agg cs,tmps.getD u undef]) w:=by
 have hp':tmps[p]?.getD undef=.pointer (some ⟨g,0,none⟩):=by simpa using hp
 rw [results_cell_tmp h]
 simp [hp',asAddr,hl,Result.andThen]
abbrev Jh (ab ac tb tc:Nat) (n:Int):Obj:=.cells #[.slice (some ⟨ab,0,none⟩) 2 ac,.slice (some ⟨tb,0,none⟩) 2 tc,.int .i64 n] 188
abbrev iH:Obj:=.cells #[.slice none 0 0,.slice none 0 0,.int .i64 0] 188
theorem xl (ab ac tb tc:Nat) (q:Cache) (x:Int) (s:ByteArray) (w:World) (h:dz w ab ac tb tc q) (g:q.Good) (x0:0≤x) (x1:x<4096) (x2:x % 16=0) (hs:s.size=16):Calls prog 141 #[.agg #[.slice (some ⟨ab,0,none⟩) 2 ac,.slice (some ⟨tb,0,none⟩) 2 tc,.int .i64 q.next],.int .i64 x,.string s] w (BG (q.keep x s) w):=by
 have hb:Below w.heap.size w ((w.alloc (Jh ab ac tb tc q.next)).alloc iH):=ae (ae zR _) _
 have HB:=zH hb
 have HM:=zH (jP ab ac tb tc q _ (h.aj hb) g)
 have H2:=zH (h.aj hb)
 have HG:=zH g
 have hz0:((w.alloc (Jh ab ac tb tc q.next)).alloc iH).heap[w.heap.size]? = some (Jh ab ac tb tc q.next):=aa (ae zR _) (af w _)
 have hy0:((w.alloc (Jh ab ac tb tc q.next)).alloc iH).heap[w.heap.size+1]? = some iH:=by simpa using af (w.alloc (Jh ab ac tb tc q.next)) iH
 clear h g
 go_enter func141,ntmps141
 go_upto_region 3 with (first | (go_at_call 138;refine HM.out.mono ?_;rintro e w1 ⟨rfl,hb1⟩) | (go_at_call 176;refine (gq x _ x0 x1 x2).mono ?_;rintro e w2 ⟨rfl,rfl⟩))
 have hz1:=aa hb1 hz0
 have hy1:=aa hb1 hy0
 have HB1:=zH (gtr HB.out hb1)
 have HCf:=zH (fun (v:World) (hv:Below w1.heap.size w1 v)=>(H2.out.aj hb1).aj hv)
 have HKf:=zH (fun (v:World) (hv:Below w1.heap.size w1 v)=>(show v.cell? ⟨w.heap.size,0,none⟩=some (.slice (some ⟨ab,0,none⟩) 2 ac)∧v.cell? ⟨w.heap.size,1,none⟩=some (.slice (some ⟨tb,0,none⟩) 2 tc)∧v.cell? ⟨w.heap.size,2,none⟩=some (.int .i64 q.next) from ⟨cell_of (aa hv hz1) 0,cell_of (aa hv hz1) 1,cell_of (aa hv hz1) 2⟩))
 have HZ1:=zH hz1
 have HY1:=zH hy1
 clear hb hb1 hz0 hy0 hz1 hy1 HM H2 HB
 go_cut [8] from 24 to 32 (fun v wx => ∃ o a t ca ct,v=.pointer (some ⟨o,0,none⟩)∧yP w1 wx o a t ca ct q)
 case first =>
  refine wp_region_noPanic ?_
  refine wp_region_held_drew (S:=(fun (v:World)=>v.cell? ⟨w.heap.size,0,none⟩=some (.slice (some ⟨ab,0,none⟩) 2 ac)∧v.cell? ⟨w.heap.size,1,none⟩=some (.slice (some ⟨tb,0,none⟩) 2 tc)∧v.cell? ⟨w.heap.size,2,none⟩=some (.int .i64 q.next))) (by kernel_rfl) (by (try dsimp only);exact HKf.out _ (au zR)) fun hHeld => ?_
  refine tk 0 ?_
  refine tk 1 ?_
  refine tk 3 ?_
  refine tk 4 ?_
  refine tk 6 ?_
  refine tk 7 ?_
  refine wpAnyH_ready (rs:=[2,9]) (by kernel_rfl) (by simp) ?_
  refine (AllReadyH.cons (o:=⟨some 26,.call ⟨.value (.func 56),#[.tmp 25],#[22]⟩,22, "line.go:59",#[⟨1,.data⟩],none⟩) rfl (fun K hK => ?_) (AllReadyH.cons (o:=⟨some 8,.alloc 188,0, "line.go:59",#[],none⟩) rfl (fun K hK => ?_) AllReadyH.nil))
  ·
   skip
   go_simp
   refine (HCf.out (w1.drew) (au zR)).Jn.mono ?_
   rintro e wa ⟨ga,ca,cura,rfl,hga,hca,hra,hua,hva,hbwa⟩
   go_wp2_with fail
   refine hK.out _ _ (by (try dsimp only);exact HKf.out _ (gtr (au zR) hbwa)) fun hHeld => ?_
   clear hK K
   try simp only [Act.put,zS,zT,zU]
   refine wpAnyH_ready (rs:=[5,9]) (by kernel_rfl) (by simp) ?_
   refine (AllReadyH.cons (o:=⟨some 29,.call ⟨.value (.func 177),#[.tmp 28],#[65]⟩,65, "line.go:59",#[⟨4,.data⟩,⟨2,.chain⟩],none⟩) rfl (fun K hK => ?_) (AllReadyH.cons (o:=⟨some 8,.alloc 188,0, "line.go:59",#[],none⟩) rfl (fun K hK => ?_) AllReadyH.nil))
   ·
    skip
    go_simp
    refine (HCf.out (wa) (gtr (au zR) hbwa)).Ef.mono ?_
    rintro e wt ⟨gt,ct,curt,rfl,hgt,hct,hrt,hut,hvt,hbwt⟩
    go_wp2_with fail
    refine hK.out _ _ (by (try dsimp only);exact HKf.out _ (gtr (gtr (au zR) hbwa) hbwt)) fun hHeld => ?_
    clear hK K
    try simp only [Act.put,zS,zT,zU]
    refine tk 8 ?_
    refine tr 9 fun K hK => ?_
    go_simp
    refine hK.out _ _ (by (try dsimp only);exact HKf.out _ (ae (gtr (gtr (au zR) hbwa) hbwt) iH)) fun hHeld => ?_
    clear hK K
    try simp only [Act.put,zS,zT,zU]
    refine tr 10 fun K hK => ?_
    have hzo:=af wt iH
    refine fc rfl 188 (.tmp 8) (.tmp 32) rfl rfl (wt.heap.size) 0 #[.slice (some ⟨ga,0,none⟩) 2 ca,.slice (some ⟨gt,0,none⟩) 2 ct,.int .i64 q.next] (by kernel_rfl) (by kernel_rfl) 188 #[.slice none 0 0,.slice none 0 0,.int .i64 0] hzo rfl (Nat.le_of_ble_eq_true rfl) (by kernel_rfl) (fun w9 hw9 hz9 => ?_)
    refine hK.out _ _ (by (try dsimp only);exact HKf.out _ (by rw [hw9.out];exact dM (ae (gtr (gtr (au zR) hbwa) hbwt) iH) _ _ (Nat.le_trans hbwa.size hbwt.size))) fun hHeld => ?_
    clear hK K
    try simp only [Act.put,zS,zT,zU]
    refine wpAnyH_done (by kernel_rfl) ?_ _
    refine NoPanic.normal ?_
    go_wp2
    go_meet
    case rel =>
     have s1:=hbwa.size
     have s2:=hbwt.size
     have l1:=(Array.getElem?_eq_some_iff.1 hra).1
     have l2:=(Array.getElem?_eq_some_iff.1 hrt).1
     have l3:=(Array.getElem?_eq_some_iff.1 hzo).1
     have ho:=hw9.out
     have hza:=aa (ae zR iH) (aa hbwt (hra))
     have hzt:=aa (ae zR iH) (hrt)
     simp at hga hgt s1 s2 l1 l2 l3
     have na:ga≠wt.heap.size:=by omega
     have nt:gt≠wt.heap.size:=by omega
     rw [ho]
     exact ⟨_,ga,gt,ca,ct,rfl,by rw [← ho];exact hz9.out,⟨hca,hct⟩,⟨cura,(bj _ _ _ _ na).trans hza,hua,hva⟩,⟨curt,(bj _ _ _ _ nt).trans hzt,hut,hvt⟩,⟨by omega,by omega,by omega⟩,⟨na,nt,by omega⟩,dM (ae (gtr (gtr (au zR) hbwa) hbwt) iH) _ _ (by omega)⟩
   ·
    skip
    go_simp
    refine hK.out _ _ (by (try dsimp only);exact HKf.out _ (ae (gtr (au zR) hbwa) iH)) fun hHeld => ?_
    clear hK K
    try simp only [Act.put,zS,zT,zU]
    refine tr 5 fun K hK => ?_
    go_simp
    refine (HCf.out ((wa.alloc iH)) (ae (gtr (au zR) hbwa) iH)).Ef.mono ?_
    rintro e wt ⟨gt,ct,curt,rfl,hgt,hct,hrt,hut,hvt,hbwt⟩
    go_wp2_with fail
    refine hK.out _ _ (by (try dsimp only);exact HKf.out _ (gtr (ae (gtr (au zR) hbwa) iH) hbwt)) fun hHeld => ?_
    clear hK K
    try simp only [Act.put,zS,zT,zU]
    refine tk 8 ?_
    refine tr 10 fun K hK => ?_
    have hzo:=aa hbwt (af wa iH)
    refine fc rfl 188 (.tmp 8) (.tmp 32) rfl rfl (wa.heap.size) 0 #[.slice (some ⟨ga,0,none⟩) 2 ca,.slice (some ⟨gt,0,none⟩) 2 ct,.int .i64 q.next] (by kernel_rfl) (by kernel_rfl) 188 #[.slice none 0 0,.slice none 0 0,.int .i64 0] hzo rfl (Nat.le_of_ble_eq_true rfl) (by kernel_rfl) (fun w9 hw9 hz9 => ?_)
    refine hK.out _ _ (by (try dsimp only);exact HKf.out _ (by rw [hw9.out];exact dM (gtr (ae (gtr (au zR) hbwa) iH) hbwt) _ _ hbwa.size)) fun hHeld => ?_
    clear hK K
    try simp only [Act.put,zS,zT,zU]
    refine wpAnyH_done (by kernel_rfl) ?_ _
    refine NoPanic.normal ?_
    go_wp2
    go_meet
    case rel =>
     have s1:=hbwa.size
     have s2:=hbwt.size
     have l1:=(Array.getElem?_eq_some_iff.1 hra).1
     have l2:=(Array.getElem?_eq_some_iff.1 hrt).1
     have l3:=(Array.getElem?_eq_some_iff.1 hzo).1
     have ho:=hw9.out
     have hza:=aa hbwt (aa (ae zR iH) (hra))
     have hzt:=hrt
     simp at hga hgt s1 s2 l1 l2 l3
     have na:ga≠wa.heap.size:=by omega
     have nt:gt≠wa.heap.size:=by omega
     rw [ho]
     exact ⟨_,ga,gt,ca,ct,rfl,by rw [← ho];exact hz9.out,⟨hca,hct⟩,⟨cura,(bj _ _ _ _ na).trans hza,hua,hva⟩,⟨curt,(bj _ _ _ _ nt).trans hzt,hut,hvt⟩,⟨by omega,by omega,by omega⟩,⟨na,nt,by omega⟩,dM (gtr (ae (gtr (au zR) hbwa) iH) hbwt) _ _ (by omega)⟩
  ·
   skip
   go_simp
   refine hK.out _ _ (by (try dsimp only);exact HKf.out _ (au (ae zR iH))) fun hHeld => ?_
   clear hK K
   try simp only [Act.put,zS,zT,zU]
   refine tr 2 fun K hK => ?_
   go_simp
   refine (HCf.out ((w1.alloc iH).drew) (au (ae zR iH))).Jn.mono ?_
   rintro e wa ⟨ga,ca,cura,rfl,hga,hca,hra,hua,hva,hbwa⟩
   go_wp2_with fail
   refine hK.out _ _ (by (try dsimp only);exact HKf.out _ (gtr (au (ae zR iH)) hbwa)) fun hHeld => ?_
   clear hK K
   try simp only [Act.put,zS,zT,zU]
   refine tr 5 fun K hK => ?_
   go_simp
   refine (HCf.out (wa) (gtr (au (ae zR iH)) hbwa)).Ef.mono ?_
   rintro e wt ⟨gt,ct,curt,rfl,hgt,hct,hrt,hut,hvt,hbwt⟩
   go_wp2_with fail
   refine hK.out _ _ (by (try dsimp only);exact HKf.out _ (gtr (gtr (au (ae zR iH)) hbwa) hbwt)) fun hHeld => ?_
   clear hK K
   try simp only [Act.put,zS,zT,zU]
   refine tk 8 ?_
   refine tr 10 fun K hK => ?_
   have hzo:=aa hbwt (aa hbwa (af w1 iH))
   refine fc rfl 188 (.tmp 8) (.tmp 32) rfl rfl (w1.heap.size) 0 #[.slice (some ⟨ga,0,none⟩) 2 ca,.slice (some ⟨gt,0,none⟩) 2 ct,.int .i64 q.next] (by kernel_rfl) (by kernel_rfl) 188 #[.slice none 0 0,.slice none 0 0,.int .i64 0] hzo rfl (Nat.le_of_ble_eq_true rfl) (by kernel_rfl) (fun w9 hw9 hz9 => ?_)
   refine hK.out _ _ (by (try dsimp only);exact HKf.out _ (by rw [hw9.out];exact dM (gtr (gtr (au (ae zR iH)) hbwa) hbwt) _ _ zY)) fun hHeld => ?_
   clear hK K
   try simp only [Act.put,zS,zT,zU]
   refine wpAnyH_done (by kernel_rfl) ?_ _
   refine NoPanic.normal ?_
   go_wp2
   go_meet
   case rel =>
    have s1:=hbwa.size
    have s2:=hbwt.size
    have l1:=(Array.getElem?_eq_some_iff.1 hra).1
    have l2:=(Array.getElem?_eq_some_iff.1 hrt).1
    have l3:=(Array.getElem?_eq_some_iff.1 hzo).1
    have ho:=hw9.out
    have hza:=aa hbwt (hra)
    have hzt:=hrt
    simp at hga hgt s1 s2 l1 l2 l3
    have na:ga≠w1.heap.size:=by omega
    have nt:gt≠w1.heap.size:=by omega
    rw [ho]
    exact ⟨_,ga,gt,ca,ct,rfl,by rw [← ho];exact hz9.out,⟨hca,hct⟩,⟨cura,(bj _ _ _ _ na).trans hza,hua,hva⟩,⟨curt,(bj _ _ _ _ nt).trans hzt,hut,hvt⟩,⟨by omega,by omega,by omega⟩,⟨na,nt,by omega⟩,dM (gtr (gtr (au (ae zR iH)) hbwa) hbwt) _ _ (by omega)⟩
 case rest =>
  obtain ⟨o,a,t,ca,ct,rfl,hS⟩:=hcut
  have HS:=zH hS
  have HX:=zH (HKf.out wc hS.below)
  clear hS
  have HI:=zH ((HCf.out wc HS.out.below).index x)
  have hx0:=HX.out.1
  have hx2:=HX.out.2.2
  have hz:=HS.out.hz
  have o2:wc.cell? ⟨o,2,none⟩=some (.int .i64 q.next):=cell_of hz 2
  have of2:wc.frozen? ⟨o,2,none⟩=false:=aF hz 2
  clear hz
  rcases uT q x with ⟨e,h0⟩ | ⟨e,h0,h1⟩ | ⟨e,h0,h1⟩
  ·
   have HE:=zH e
   have HQ:=zH (show q.keep x s=q.put 0 x s q.next from if_pos h0)
   clear e h0
   have HS2:=HS
   obtain ⟨cura,a1,a2,a3⟩:=HS2.out.ra
   obtain ⟨curt,t1,t2,t3⟩:=HS2.out.rt
   have ca0:wc.cell? ⟨a,0,none⟩=some _:=(cell_of a1 0).trans a2
   have fa0:wc.frozen? ⟨a,0,none⟩=false:=aF a1 0
   have hl:=HS2.out.laid 0 (by decide) x s
   have t1':(wc.setCell ⟨a,0,none⟩ (.int .i64 x)).heap[t]? = some (.cells curt 9 (0,0)):=(by rw [setCell_eq_setRow _ a 0 cura 3 (0,0) _ a1];exact (bj _ _ _ _ HS2.out.ne.2.2.symm).trans t1)
   have ct0:(wc.setCell ⟨a,0,none⟩ (.int .i64 x)).cell? ⟨t,0,none⟩=some _:=(cell_of t1' 0).trans t2
   have ft0:(wc.setCell ⟨a,0,none⟩ (.int .i64 x)).frozen? ⟨t,0,none⟩=false:=aF t1' 0
   have HL:=zH hl
   have hz:=HS2.out.hz
   have HSO:=zH (show wc.cell? ⟨o,0,none⟩=some (.slice (some ⟨a,0,none⟩) 2 ca)∧wc.cell? ⟨o,1,none⟩=some (.slice (some ⟨t,0,none⟩) 2 ct) from ⟨cell_of hz 0,cell_of hz 1⟩)
   have z1:=HL.out.1
   have HSA:=zH (show (wc.setCell ⟨a,0,none⟩ (.int .i64 x)).cell? ⟨o,0,none⟩=some (.slice (some ⟨a,0,none⟩) 2 ca)∧(wc.setCell ⟨a,0,none⟩ (.int .i64 x)).cell? ⟨o,1,none⟩=some (.slice (some ⟨t,0,none⟩) 2 ct) from (by rw [setCell_eq_setRow _ a 0 cura 3 (0,0) _ a1];exact ⟨cell_of ((bj _ _ _ _ HS2.out.ne.1.symm).trans hz) 0,cell_of ((bj _ _ _ _ HS2.out.ne.1.symm).trans hz) 1⟩))
   clear hl hz z1 a1 a2 a3 t1 t2 t3 t1'
   have l1:=HS.out.cap
   have i0:(0:Int)<2:=by decide
   have i1:(1:Int)<2:=by decide
   go_wp2_with (go_at_call 139;refine HI.out.mono ?_;rintro e wc ⟨rfl,rfl⟩;rw [show Lib.idxOf [q.a0,q.a1] x=_ from HE.out])
   refine wp_region_noPanic ?_
   refine wp_region_held_drew (S:=(fun (v:World)=>v.cell? ⟨o,0,none⟩=some (.slice (some ⟨a,0,none⟩) 2 ca)∧v.cell? ⟨o,1,none⟩=some (.slice (some ⟨t,0,none⟩) 2 ct))) (by kernel_rfl) (by (try dsimp only);exact HSO.out) fun hHeld => ?_
   refine tk 0 ?_
   refine tk 1 ?_
   refine tk 2 ?_
   refine tk 3 ?_
   refine tk 4 ?_
   refine tk 5 ?_
   refine tk 6 ?_
   refine tk 7 ?_
   refine tk 8 ?_
   refine tr 9 fun K hK => ?_
   go_simp
   refine hK.out _ _ (by (try dsimp only);exact HSA.out) fun hHeld => ?_
   clear hK K
   try simp only [Act.put,zS,zT,zU]
   refine tk 10 ?_
   refine tr 11 fun K hK => ?_
   go_simp
   refine hK.out _ _ (by (try dsimp only);exact ⟨cell_of HL.out.1 0,cell_of HL.out.1 1⟩) fun hHeld => ?_
   clear hK K
   try simp only [Act.put,zS,zT,zU]
   refine wpAnyH_done (by kernel_rfl) ?_ _
   refine NoPanic.normal ?_
   have HY8:=zH (show ((wc.setCell ⟨a,0,none⟩ (.int .i64 x)).setCell ⟨t,0,none⟩ (.string s)).drew.heap[w.heap.size+1]? = some iH from aa (au HL.out.2.2) HY1.out)
   have HZ8:=zH (show ((wc.setCell ⟨a,0,none⟩ (.int .i64 x)).setCell ⟨t,0,none⟩ (.string s)).drew.heap[o]? = _ from HL.out.1)
   go_wp2_with (first | (refine wpList_load_row rfl 188 (.tmp 8) rfl o rfl 188 #[.slice (some ⟨a,0,none⟩) 2 ca,.slice (some ⟨t,0,none⟩) 2 ct,.int .i64 (q.next)] (0,0) _ HZ8.out underlying188 rfl rfl ?_) | (refine dR rfl 188 (.tmp 6) (.tmp 56) rfl (w.heap.size+1) 0 #[.slice (some ⟨a,0,none⟩) 2 ca,.slice (some ⟨t,0,none⟩) 2 ct,.int .i64 (q.next)] (by kernel_rfl) (by kernel_rfl) 188 #[.slice none 0 0,.slice none 0 0,.int .i64 0] HY8.out rfl (Nat.le_of_ble_eq_true rfl) (by kernel_rfl) ?_))
   refine bodyPost_ret (iO rfl _ _ (w.heap.size+1) _ rfl (run_loadVar_row _ _ 188 188 _ (0,0) _ (setRow_heap _ _ _ _ _ _ HY8.out) underlying188 rfl rfl)) rfl ?_
   rw [HQ.out]
   exact rG HB1.out (au HL.out.2.2) (Array.getElem?_eq_some_iff.1 HY1.out).1 HS.out.lo.2.1 HS.out.lo.2.2 (HL.out.2.1.aj (au zR)) _
  ·
   have HE:=zH e
   have HQ:=zH (show q.keep x s=q.put 1 x s q.next from (if_neg h0).trans (if_pos h1))
   clear e h0 h1
   have HS2:=HS
   obtain ⟨cura,a1,a2,a3⟩:=HS2.out.ra
   obtain ⟨curt,t1,t2,t3⟩:=HS2.out.rt
   have ca1:wc.cell? ⟨a,1,none⟩=some _:=(cell_of a1 1).trans a3
   have fa1:wc.frozen? ⟨a,1,none⟩=false:=aF a1 1
   have hl:=HS2.out.laid 1 (by decide) x s
   have t1':(wc.setCell ⟨a,1,none⟩ (.int .i64 x)).heap[t]? = some (.cells curt 9 (0,0)):=(by rw [setCell_eq_setRow _ a 1 cura 3 (0,0) _ a1];exact (bj _ _ _ _ HS2.out.ne.2.2.symm).trans t1)
   have ct1:(wc.setCell ⟨a,1,none⟩ (.int .i64 x)).cell? ⟨t,1,none⟩=some _:=(cell_of t1' 1).trans t3
   have ft1:(wc.setCell ⟨a,1,none⟩ (.int .i64 x)).frozen? ⟨t,1,none⟩=false:=aF t1' 1
   have HL:=zH hl
   have hz:=HS2.out.hz
   have HSO:=zH (show wc.cell? ⟨o,0,none⟩=some (.slice (some ⟨a,0,none⟩) 2 ca)∧wc.cell? ⟨o,1,none⟩=some (.slice (some ⟨t,0,none⟩) 2 ct) from ⟨cell_of hz 0,cell_of hz 1⟩)
   have z1:=HL.out.1
   have HSA:=zH (show (wc.setCell ⟨a,1,none⟩ (.int .i64 x)).cell? ⟨o,0,none⟩=some (.slice (some ⟨a,0,none⟩) 2 ca)∧(wc.setCell ⟨a,1,none⟩ (.int .i64 x)).cell? ⟨o,1,none⟩=some (.slice (some ⟨t,0,none⟩) 2 ct) from (by rw [setCell_eq_setRow _ a 1 cura 3 (0,0) _ a1];exact ⟨cell_of ((bj _ _ _ _ HS2.out.ne.1.symm).trans hz) 0,cell_of ((bj _ _ _ _ HS2.out.ne.1.symm).trans hz) 1⟩))
   clear hl hz z1 a1 a2 a3 t1 t2 t3 t1'
   have l1:=HS.out.cap
   have i0:(0:Int)<2:=by decide
   have i1:(1:Int)<2:=by decide
   go_wp2_with (go_at_call 139;refine HI.out.mono ?_;rintro e wc ⟨rfl,rfl⟩;rw [show Lib.idxOf [q.a0,q.a1] x=_ from HE.out])
   refine wp_region_noPanic ?_
   refine wp_region_held_drew (S:=(fun (v:World)=>v.cell? ⟨o,0,none⟩=some (.slice (some ⟨a,0,none⟩) 2 ca)∧v.cell? ⟨o,1,none⟩=some (.slice (some ⟨t,0,none⟩) 2 ct))) (by kernel_rfl) (by (try dsimp only);exact HSO.out) fun hHeld => ?_
   refine tk 0 ?_
   refine tk 1 ?_
   refine tk 2 ?_
   refine tk 3 ?_
   refine tk 4 ?_
   refine tk 5 ?_
   refine tk 6 ?_
   refine tk 7 ?_
   refine tk 8 ?_
   refine tr 9 fun K hK => ?_
   go_simp
   refine hK.out _ _ (by (try dsimp only);exact HSA.out) fun hHeld => ?_
   clear hK K
   try simp only [Act.put,zS,zT,zU]
   refine tk 10 ?_
   refine tr 11 fun K hK => ?_
   go_simp
   refine hK.out _ _ (by (try dsimp only);exact ⟨cell_of HL.out.1 0,cell_of HL.out.1 1⟩) fun hHeld => ?_
   clear hK K
   try simp only [Act.put,zS,zT,zU]
   refine wpAnyH_done (by kernel_rfl) ?_ _
   refine NoPanic.normal ?_
   have HY8:=zH (show ((wc.setCell ⟨a,1,none⟩ (.int .i64 x)).setCell ⟨t,1,none⟩ (.string s)).drew.heap[w.heap.size+1]? = some iH from aa (au HL.out.2.2) HY1.out)
   have HZ8:=zH (show ((wc.setCell ⟨a,1,none⟩ (.int .i64 x)).setCell ⟨t,1,none⟩ (.string s)).drew.heap[o]? = _ from HL.out.1)
   go_wp2_with (first | (refine wpList_load_row rfl 188 (.tmp 8) rfl o rfl 188 #[.slice (some ⟨a,0,none⟩) 2 ca,.slice (some ⟨t,0,none⟩) 2 ct,.int .i64 (q.next)] (0,0) _ HZ8.out underlying188 rfl rfl ?_) | (refine dR rfl 188 (.tmp 6) (.tmp 56) rfl (w.heap.size+1) 0 #[.slice (some ⟨a,0,none⟩) 2 ca,.slice (some ⟨t,0,none⟩) 2 ct,.int .i64 (q.next)] (by kernel_rfl) (by kernel_rfl) 188 #[.slice none 0 0,.slice none 0 0,.int .i64 0] HY8.out rfl (Nat.le_of_ble_eq_true rfl) (by kernel_rfl) ?_))
   refine bodyPost_ret (iO rfl _ _ (w.heap.size+1) _ rfl (run_loadVar_row _ _ 188 188 _ (0,0) _ (setRow_heap _ _ _ _ _ _ HY8.out) underlying188 rfl rfl)) rfl ?_
   rw [HQ.out]
   exact rG HB1.out (au HL.out.2.2) (Array.getElem?_eq_some_iff.1 HY1.out).1 HS.out.lo.2.1 HS.out.lo.2.2 (HL.out.2.1.aj (au zR)) _
  ·
   have HE:=zH e
   rcases HG.out.next with hn | hn
   ·
    have HQ:=zH (show q.keep x s=q.put 0 x s 1 from (if_neg h0).trans ((if_neg h1).trans (if_pos hn)))
    clear e h0 h1
    rw [hn] at hx2 o2
    have HS2:=zH (HS.out.next 1)
    have hw:IntKind.i64.wrap ((0:Int)+1)=1:=by decide
    have htm:(1:Int).tmod 2=1:=by decide
    obtain ⟨cura,a1,a2,a3⟩:=HS2.out.ra
    obtain ⟨curt,t1,t2,t3⟩:=HS2.out.rt
    have ca0:(wc.setCell ⟨o,2,none⟩ (.int .i64 1)).cell? ⟨a,0,none⟩=some _:=(cell_of a1 0).trans a2
    have fa0:(wc.setCell ⟨o,2,none⟩ (.int .i64 1)).frozen? ⟨a,0,none⟩=false:=aF a1 0
    have hl:=HS2.out.laid 0 (by decide) x s
    have t1':((wc.setCell ⟨o,2,none⟩ (.int .i64 1)).setCell ⟨a,0,none⟩ (.int .i64 x)).heap[t]? = some (.cells curt 9 (0,0)):=(by rw [setCell_eq_setRow _ a 0 cura 3 (0,0) _ a1];exact (bj _ _ _ _ HS2.out.ne.2.2.symm).trans t1)
    have ct0:((wc.setCell ⟨o,2,none⟩ (.int .i64 1)).setCell ⟨a,0,none⟩ (.int .i64 x)).cell? ⟨t,0,none⟩=some _:=(cell_of t1' 0).trans t2
    have ft0:((wc.setCell ⟨o,2,none⟩ (.int .i64 1)).setCell ⟨a,0,none⟩ (.int .i64 x)).frozen? ⟨t,0,none⟩=false:=aF t1' 0
    have HL:=zH hl
    have hz:=HS2.out.hz
    have HSO:=zH (show (wc.setCell ⟨o,2,none⟩ (.int .i64 1)).cell? ⟨o,0,none⟩=some (.slice (some ⟨a,0,none⟩) 2 ca)∧(wc.setCell ⟨o,2,none⟩ (.int .i64 1)).cell? ⟨o,1,none⟩=some (.slice (some ⟨t,0,none⟩) 2 ct) from ⟨cell_of hz 0,cell_of hz 1⟩)
    have z1:=HL.out.1
    have HSA:=zH (show ((wc.setCell ⟨o,2,none⟩ (.int .i64 1)).setCell ⟨a,0,none⟩ (.int .i64 x)).cell? ⟨o,0,none⟩=some (.slice (some ⟨a,0,none⟩) 2 ca)∧((wc.setCell ⟨o,2,none⟩ (.int .i64 1)).setCell ⟨a,0,none⟩ (.int .i64 x)).cell? ⟨o,1,none⟩=some (.slice (some ⟨t,0,none⟩) 2 ct) from (by rw [setCell_eq_setRow _ a 0 cura 3 (0,0) _ a1];exact ⟨cell_of ((bj _ _ _ _ HS2.out.ne.1.symm).trans hz) 0,cell_of ((bj _ _ _ _ HS2.out.ne.1.symm).trans hz) 1⟩))
    clear hl hz z1 a1 a2 a3 t1 t2 t3 t1'
    have l1:=HS.out.cap
    have i0:(0:Int)<2:=by decide
    have i1:(1:Int)<2:=by decide
    go_wp2_with (go_at_call 139;refine HI.out.mono ?_;rintro e wc ⟨rfl,rfl⟩;rw [show Lib.idxOf [q.a0,q.a1] x=_ from HE.out])
    refine wp_region_noPanic ?_
    refine wp_region_held_drew (S:=(fun (v:World)=>v.cell? ⟨o,0,none⟩=some (.slice (some ⟨a,0,none⟩) 2 ca)∧v.cell? ⟨o,1,none⟩=some (.slice (some ⟨t,0,none⟩) 2 ct))) (by kernel_rfl) (by (try dsimp only);exact HSO.out) fun hHeld => ?_
    refine tk 0 ?_
    refine tk 1 ?_
    refine tk 2 ?_
    refine tk 3 ?_
    refine tk 4 ?_
    refine tk 5 ?_
    refine tk 6 ?_
    refine tk 7 ?_
    refine tk 8 ?_
    refine tr 9 fun K hK => ?_
    go_simp
    refine hK.out _ _ (by (try dsimp only);exact HSA.out) fun hHeld => ?_
    clear hK K
    try simp only [Act.put,zS,zT,zU]
    refine tk 10 ?_
    refine tr 11 fun K hK => ?_
    go_simp
    refine hK.out _ _ (by (try dsimp only);exact ⟨cell_of HL.out.1 0,cell_of HL.out.1 1⟩) fun hHeld => ?_
    clear hK K
    try simp only [Act.put,zS,zT,zU]
    refine wpAnyH_done (by kernel_rfl) ?_ _
    refine NoPanic.normal ?_
    have HY8:=zH (show (((wc.setCell ⟨o,2,none⟩ (.int .i64 1)).setCell ⟨a,0,none⟩ (.int .i64 x)).setCell ⟨t,0,none⟩ (.string s)).drew.heap[w.heap.size+1]? = some iH from aa (au HL.out.2.2) HY1.out)
    have HZ8:=zH (show (((wc.setCell ⟨o,2,none⟩ (.int .i64 1)).setCell ⟨a,0,none⟩ (.int .i64 x)).setCell ⟨t,0,none⟩ (.string s)).drew.heap[o]? = _ from HL.out.1)
    go_wp2_with (first | (refine wpList_load_row rfl 188 (.tmp 8) rfl o rfl 188 #[.slice (some ⟨a,0,none⟩) 2 ca,.slice (some ⟨t,0,none⟩) 2 ct,.int .i64 (1)] (0,0) _ HZ8.out underlying188 rfl rfl ?_) | (refine dR rfl 188 (.tmp 6) (.tmp 56) rfl (w.heap.size+1) 0 #[.slice (some ⟨a,0,none⟩) 2 ca,.slice (some ⟨t,0,none⟩) 2 ct,.int .i64 (1)] (by kernel_rfl) (by kernel_rfl) 188 #[.slice none 0 0,.slice none 0 0,.int .i64 0] HY8.out rfl (Nat.le_of_ble_eq_true rfl) (by kernel_rfl) ?_))
    refine bodyPost_ret (iO rfl _ _ (w.heap.size+1) _ rfl (run_loadVar_row _ _ 188 188 _ (0,0) _ (setRow_heap _ _ _ _ _ _ HY8.out) underlying188 rfl rfl)) rfl ?_
    rw [HQ.out]
    exact rG HB1.out (au HL.out.2.2) (Array.getElem?_eq_some_iff.1 HY1.out).1 HS.out.lo.2.1 HS.out.lo.2.2 (HL.out.2.1.aj (au zR)) _
   ·
    have HQ:=zH (show q.keep x s=q.put 1 x s 0 from (if_neg h0).trans ((if_neg h1).trans (if_neg (by omega))))
    clear e h0 h1
    rw [hn] at hx2 o2
    have HS2:=zH (HS.out.next 0)
    have hw:IntKind.i64.wrap ((1:Int)+1)=2:=by decide
    have htm:(2:Int).tmod 2=0:=by decide
    obtain ⟨cura,a1,a2,a3⟩:=HS2.out.ra
    obtain ⟨curt,t1,t2,t3⟩:=HS2.out.rt
    have ca1:(wc.setCell ⟨o,2,none⟩ (.int .i64 0)).cell? ⟨a,1,none⟩=some _:=(cell_of a1 1).trans a3
    have fa1:(wc.setCell ⟨o,2,none⟩ (.int .i64 0)).frozen? ⟨a,1,none⟩=false:=aF a1 1
    have hl:=HS2.out.laid 1 (by decide) x s
    have t1':((wc.setCell ⟨o,2,none⟩ (.int .i64 0)).setCell ⟨a,1,none⟩ (.int .i64 x)).heap[t]? = some (.cells curt 9 (0,0)):=(by rw [setCell_eq_setRow _ a 1 cura 3 (0,0) _ a1];exact (bj _ _ _ _ HS2.out.ne.2.2.symm).trans t1)
    have ct1:((wc.setCell ⟨o,2,none⟩ (.int .i64 0)).setCell ⟨a,1,none⟩ (.int .i64 x)).cell? ⟨t,1,none⟩=some _:=(cell_of t1' 1).trans t3
    have ft1:((wc.setCell ⟨o,2,none⟩ (.int .i64 0)).setCell ⟨a,1,none⟩ (.int .i64 x)).frozen? ⟨t,1,none⟩=false:=aF t1' 1
    have HL:=zH hl
    have hz:=HS2.out.hz
    have HSO:=zH (show (wc.setCell ⟨o,2,none⟩ (.int .i64 0)).cell? ⟨o,0,none⟩=some (.slice (some ⟨a,0,none⟩) 2 ca)∧(wc.setCell ⟨o,2,none⟩ (.int .i64 0)).cell? ⟨o,1,none⟩=some (.slice (some ⟨t,0,none⟩) 2 ct) from ⟨cell_of hz 0,cell_of hz 1⟩)
    have z1:=HL.out.1
    have HSA:=zH (show ((wc.setCell ⟨o,2,none⟩ (.int .i64 0)).setCell ⟨a,1,none⟩ (.int .i64 x)).cell? ⟨o,0,none⟩=some (.slice (some ⟨a,0,none⟩) 2 ca)∧((wc.setCell ⟨o,2,none⟩ (.int .i64 0)).setCell ⟨a,1,none⟩ (.int .i64 x)).cell? ⟨o,1,none⟩=some (.slice (some ⟨t,0,none⟩) 2 ct) from (by rw [setCell_eq_setRow _ a 1 cura 3 (0,0) _ a1];exact ⟨cell_of ((bj _ _ _ _ HS2.out.ne.1.symm).trans hz) 0,cell_of ((bj _ _ _ _ HS2.out.ne.1.symm).trans hz) 1⟩))
    clear hl hz z1 a1 a2 a3 t1 t2 t3 t1'
    have l1:=HS.out.cap
    have i0:(0:Int)<2:=by decide
    have i1:(1:Int)<2:=by decide
    go_wp2_with (go_at_call 139;refine HI.out.mono ?_;rintro e wc ⟨rfl,rfl⟩;rw [show Lib.idxOf [q.a0,q.a1] x=_ from HE.out])
    refine wp_region_noPanic ?_
    refine wp_region_held_drew (S:=(fun (v:World)=>v.cell? ⟨o,0,none⟩=some (.slice (some ⟨a,0,none⟩) 2 ca)∧v.cell? ⟨o,1,none⟩=some (.slice (some ⟨t,0,none⟩) 2 ct))) (by kernel_rfl) (by (try dsimp only);exact HSO.out) fun hHeld => ?_
    refine tk 0 ?_
    refine tk 1 ?_
    refine tk 2 ?_
    refine tk 3 ?_
    refine tk 4 ?_
    refine tk 5 ?_
    refine tk 6 ?_
    refine tk 7 ?_
    refine tk 8 ?_
    refine tr 9 fun K hK => ?_
    go_simp
    refine hK.out _ _ (by (try dsimp only);exact HSA.out) fun hHeld => ?_
    clear hK K
    try simp only [Act.put,zS,zT,zU]
    refine tk 10 ?_
    refine tr 11 fun K hK => ?_
    go_simp
    refine hK.out _ _ (by (try dsimp only);exact ⟨cell_of HL.out.1 0,cell_of HL.out.1 1⟩) fun hHeld => ?_
    clear hK K
    try simp only [Act.put,zS,zT,zU]
    refine wpAnyH_done (by kernel_rfl) ?_ _
    refine NoPanic.normal ?_
    have HY8:=zH (show (((wc.setCell ⟨o,2,none⟩ (.int .i64 0)).setCell ⟨a,1,none⟩ (.int .i64 x)).setCell ⟨t,1,none⟩ (.string s)).drew.heap[w.heap.size+1]? = some iH from aa (au HL.out.2.2) HY1.out)
    have HZ8:=zH (show (((wc.setCell ⟨o,2,none⟩ (.int .i64 0)).setCell ⟨a,1,none⟩ (.int .i64 x)).setCell ⟨t,1,none⟩ (.string s)).drew.heap[o]? = _ from HL.out.1)
    go_wp2_with (first | (refine wpList_load_row rfl 188 (.tmp 8) rfl o rfl 188 #[.slice (some ⟨a,0,none⟩) 2 ca,.slice (some ⟨t,0,none⟩) 2 ct,.int .i64 (0)] (0,0) _ HZ8.out underlying188 rfl rfl ?_) | (refine dR rfl 188 (.tmp 6) (.tmp 56) rfl (w.heap.size+1) 0 #[.slice (some ⟨a,0,none⟩) 2 ca,.slice (some ⟨t,0,none⟩) 2 ct,.int .i64 (0)] (by kernel_rfl) (by kernel_rfl) 188 #[.slice none 0 0,.slice none 0 0,.int .i64 0] HY8.out rfl (Nat.le_of_ble_eq_true rfl) (by kernel_rfl) ?_))
    refine bodyPost_ret (iO rfl _ _ (w.heap.size+1) _ rfl (run_loadVar_row _ _ 188 188 _ (0,0) _ (setRow_heap _ _ _ _ _ _ HY8.out) underlying188 rfl rfl)) rfl ?_
    rw [HQ.out]
    exact rG HB1.out (au HL.out.2.2) (Array.getElem?_eq_some_iff.1 HY1.out).1 HS.out.lo.2.1 HS.out.lo.2.2 (HL.out.2.1.aj (au zR)) _
section
open Go.RowKit
variable {X:Nat→Prop}
theorem D7 {v wr:World} {nb:Nat} {w:World} {xs:List Int} (h:fI w wr nb xs.length xs.length xs) (e : ∀ j x,wr.cell? ⟨nb,j,none⟩=some x→v.cell? ⟨nb,j,none⟩=some x):(convert 29 9 (.slice (some ⟨nb,0,none⟩) xs.length xs.length)).run prog v=.ok (.string (eH xs)) v:=by
 have:=run_convert_bytes_back (P:=prog) v 29 9 5 ⟨nb,0,none⟩ xs.length (bytesOf xs) underlying29 underlying5 underlying9 (fun j hj=>by
  have hj':j<xs.length:=by simpa [bytesOf] using hj
  obtain ⟨x,hx,hx2⟩:=h.cell j hj'
  rw [dh,Nat.zero_add,e _ _ hx,hx2 hj']
  simp [bytesOf,List.getD,List.getElem?_eq_getElem hj'])
 rw [show (bytesOf xs).length=xs.length by simp [bytesOf]] at this
 exact this
theorem Kg (p:Int) (h0:0≤p) (h1:p<4096):gX 235 p [160] 16:=⟨by decide,h0,h1,fun e=>absurd e (by decide),by decide,by decide,by decide,by decide,by decide⟩
theorem MG (w:World) (x:Int) (G:Nat→Prop) (hG : ∀ b,G b→b<w.heap.size):aL (w.alloc (.cells #[.int .i64 x] 3)) (some ⟨w.heap.size,0,none⟩) [x] G :=
 ⟨aP.of fun i hi=>by
  have hi:i<1:=hi
  obtain rfl:i=0:=by omega
  exact cell_of (af w _) 0,fun b o e _ hg=>by
  obtain ⟨rfl,rfl⟩:w.heap.size=b∧0=o:=by simpa using e
  exact absurd (hG _ hg) (by omega)⟩
def fa (m:aG) (q:Cache) (x:Int):aG×Cache×Int :=
 if (m.run 5 0 [] 1).2.2≠0 then ((m.run 5 0 [] 1).1,q,(m.run 5 0 [] 1).2.2)
 else if (m.run 5 0 [] 1).2.1.headD 0 % 2≠0 then ((m.run 5 0 [] 1).1,q,1301)
 else if ((m.run 5 0 [] 1).1.run 235 (aM x) [160] 16).2.2≠0 then (((m.run 5 0 [] 1).1.run 235 (aM x) [160] 16).1,q,((m.run 5 0 [] 1).1.run 235 (aM x) [160] 16).2.2)
 else (((m.run 5 0 [] 1).1.run 235 (aM x) [160] 16).1,q.keep (aM x) (eH ((m.run 5 0 [] 1).1.run 235 (aM x) [160] 16).2.1),0)
theorem CL {m:aG} (ok:m.Ok) {q:Cache} (g:q.Good) (x:Int) (x0:0≤x) (x1:x<4096):(fa m q x).1.Ok∧(fa m q x).2.1.Good∧bH m (fa m q x).1:=by
 have o1:=eu ok 5 0 [] 1 yC
 have hf:0≤aM x∧aM x<4096∧aM x % 16=0:=by unfold aM;omega
 have o2:=eu o1 235 (aM x) [160] 16 (Kg _ hf.1 hf.2.1)
 have h1:=cO m 5 0 [] 1
 have h2:=h1.trans (cO (m.run 5 0 [] 1).1 235 (aM x) [160] 16)
 unfold fa
 split
 ·
  exact ⟨o1,g,h1⟩
 split
 ·
  exact ⟨o1,g,h1⟩
 split
 ·
  exact ⟨o2,g,h2⟩
 ·
  rename_i hh
  refine ⟨o2,zI g _ _ hf.1 hf.2.1 hf.2.2 ?_,h2⟩
  rw [fe]
  exact nH (by decide) (by simpa using hh)
theorem Az {w w2:World} {k c b ab0 ac0 tb0 tc0 ab ac tb tc:Nat} {m:aG} {q0 q:Cache} {G:Nat→Prop} (hc:bO X w k c m G) (hw:I6 w b k ab0 ac0 tb0 tc0 q0 (fun i=>G i∨X i)) (hh:0<m.ar.busy.length→m.ar.home≠b) (hb:Below w.heap.size w w2) (hC:dz w2 ab ac tb tc q) (la:w.heap.size≤ab) (lt:w.heap.size≤tb) {H:Nat→Prop} (hH : ∀ i,H i ↔ (G i∨i=b)) (w3:World) (e3:w3=w2.setRow b (ks k ab ac tb tc q.next)):fh X w3 k c b m q H∧Step H H w w3:=by
 subst e3
 have hG:=hc.lt
 have hbl:b<w.heap.size:=(Array.getElem?_eq_some_iff.1 hw.raw).1
 have t:Touch (aN b) w (w2.setRow b (ks k ab ac tb tc q.next)):=jw (Touch.ah hb) b _ rfl
 have hr2:=aa hb hw.raw
 have ec : ∀ x i v,x≠b→w2.cell? ⟨x,i,none⟩=some v→(w2.setRow b (ks k ab ac tb tc q.next)).cell? ⟨x,i,none⟩=some v:=fun x i v hx hv=>by
  unfold World.cell? at hv ⊢
  rw [bj _ _ _ _ hx];exact hv
 have hodd:Mq w b:=my.odd ⟨ab0,ac0,tb0,tc0,hw⟩
 exact ⟨⟨⟨G,hc.fA t (fun x hx hg=>by rw [show x=b from hx] at hg;exact hw.out.1 (.inl hg)) (fun hl hx=>hh hl hx) (fun x hx _=>by rw [show x=b from hx];exact .inl hodd),⟨ab,ac,tb,tc,setRow_heap _ _ _ _ _ _ hr2,hC.cap,ec _ _ _ (by omega) hC.a0,ec _ _ _ (by omega) hC.a1,ec _ _ _ (by omega) hC.t0,ec _ _ _ (by omega) hC.t1,⟨hw.out.1,fun hg=>by have:=hg.elim (hG _) (hc.Gt _);omega,fun hg=>by have:=hg.elim (hG _) (hc.Gt _);omega⟩,by omega,by omega⟩,hH,hh⟩⟩,Step.dD (t.mono fun x hx=>(hH x).2 (.inr hx))⟩
theorem ED (k c b:Nat) (m:aG) (q:Cache) (H:Nat→Prop) (x:Int) (w:World) (h:fh X w k c b m q H) (ok:m.Ok) (g:q.Good) (x0:0≤x) (x1:x<4096):Calls prog 99 #[.pointer (some ⟨b,0,none⟩),.int .i64 x] w (BC X (fa m q x).2.2 k c b (fa m q x).1 (fa m q x).2.1 H w):=by
 obtain ⟨G,hc,hw,hH,hh⟩:=h.ex
 have hf:0≤aM x∧aM x<4096∧aM x % 16=0:=by unfold aM;omega
 have HF:=zH hf
 have o1:=eu ok 5 0 [] 1 yC
 have HR:=zH (fj k c m G 5 0 none [] 0 1 w hc ok yC (nA w G) (fun _=>rfl) (by simp))
 have HR2:=zH (fun G1 w1 a cap (h:bO X w1 k c (m.run 5 0 [] 1).1 G1) hs hn hcap=>fj k c (m.run 5 0 [] 1).1 G1 235 (aM x) a [160] cap 16 w1 h o1 (Kg _ hf.1 hf.2.1) hs hn hcap)
 have HL:=zH (fun h=>nH (m:=m) (b:=5) (at_:=0) (xs:=[]) (read:=1) (by decide) h)
 have HL2:=zH (fun h=>nH (m:=(m.run 5 0 [] 1).1) (b:=235) (at_:=aM x) (xs:=[160]) (read:=16) (by decide) h)
 have HE:=zH (lS m 5 0 [] 1)
 have HE2:=zH (lS (m.run 5 0 [] 1).1 235 (aM x) [160] 16)
 have HO1:=zH (cO m 5 0 [] 1)
 have HO2:=zH (cO (m.run 5 0 [] 1).1 235 (aM x) [160] 16)
 have HV:=zH (show fa m q x=if (m.run 5 0 [] 1).2.2≠0 then ((m.run 5 0 [] 1).1,q,(m.run 5 0 [] 1).2.2) else if (m.run 5 0 [] 1).2.1.headD 0 % 2≠0 then ((m.run 5 0 [] 1).1,q,1301) else if ((m.run 5 0 [] 1).1.run 235 (aM x) [160] 16).2.2≠0 then (((m.run 5 0 [] 1).1.run 235 (aM x) [160] 16).1,q,((m.run 5 0 [] 1).1.run 235 (aM x) [160] 16).2.2) else (((m.run 5 0 [] 1).1.run 235 (aM x) [160] 16).1,q.keep (aM x) (eH ((m.run 5 0 [] 1).1.run 235 (aM x) [160] 16).2.1),0) from rfl)
 have HX:=zH (zA hw (zA hH hh))
 have hg:=zH g
 have c0:w.cell? ⟨b,0,none⟩=some (.pointer (some ⟨k,0,none⟩)):=by obtain ⟨_,_,_,_,hw⟩:=hw;exact cell_of hw.raw 0
 clear h hc hw hH hh ok g o1 hf
 generalize fa m q x=rr at *
 generalize m.run 5 0 [] 1=r at *
 obtain ⟨m1,xs,er⟩:=r
 simp only at HR HR2 HL HL2 HE HE2 HO1 HO2 HV
 generalize m1.run 235 (aM x) [160] 16=r2 at *
 obtain ⟨m2,ys,er2⟩:=r2
 simp only at HR2 HL2 HE2 HO2 HV
 simp only [List.length_nil] at HR
 rcases HE.out with he | ⟨he,hx⟩
 ·
  subst he
  have hl:xs.length=1:=HL.out (by trivial)
  obtain ⟨y,rfl⟩ : ∃ y,xs=[y]:=List.length_eq_one_iff.1 hl
  have ha:bits .and .i64 y 1=y % 2:=GG y
  clear hl
  go_enter func99,ntmps99
  go_wp2_with fail
  refine HR.out.mono ?_
  rintro e w1 ⟨a,cp,G1,rfl,hc,hs,st⟩
  obtain ⟨d,o,rfl,hcell⟩:=hs.1 0 (by simp)
  rw [Nat.add_zero] at hcell
  have hcell:w1.cell? ⟨d,o,none⟩=some (.int .i64 y):=hcell
  have hw1:=HX.out.1.step (Step.Jo (Y:=X) st)
  have c1:w1.cell? ⟨b,0,none⟩=some (.pointer (some ⟨k,0,none⟩)):=by obtain ⟨_,_,_,_,hw⟩:=hw1;exact cell_of hw.raw 0
  have H1:=zH (zA hc (zA hw1 st))
  have i0:(0:Int)<1:=by decide
  clear hc hs st hw1 HR c0
  simp only [List.length_singleton]
  by_cases hy:y % 2=0
  ·
   have HB1:=zH (ae (Below.refl w1.heap.size w1) (.cells #[.int .i64 160] 3))
   have HT:=zH (MG w1 160 G1 H1.out.1.lt)
   have HY:=zH hy
   go_wp2_with (first | (go_at_call 140;refine (iN x _ x0 x1).mono ?_;rintro e w1 ⟨rfl,rfl⟩))
   refine (HR2.out G1 _ _ 1 (H1.out.1.aj HB1.out) HT.out (fun e=>by cases e) (by simp)).mono ?_
   rintro e w2 ⟨a2,cp2,G2,rfl,hc,hs,st⟩
   have st2:=H1.out.2.2.trans ((Step.ah HB1.out).trans st)
   have hw2:=HX.out.1.step (Step.Jo (Y:=X) st2)
   have c2:w2.cell? ⟨b,0,none⟩=some (.pointer (some ⟨k,0,none⟩)):=by obtain ⟨_,_,_,_,hw⟩:=hw2;exact cell_of hw.raw 0
   have H2:=zH (zA hc (zA hw2 st2))
   have HI2:=zH hs
   clear hc hs st st2 hw2 c1
   rcases HE2.out with he | ⟨he,hx⟩
   ·
    subst he
    have hl:ys.length=16:=HL2.out (by trivial)
    have HLEN:=zH hl
    have hmk:=fun w=>run_make_row' (P:=prog) 29 5 (.int .u8 0) 1 underlying29 mF rfl .i64 .i64 ys.length (by omega) (by omega) w
    have hlq:(ys.length:Int)<100000:=by omega
    clear hl
    go_wp2_with fail
    have hs:=fI.start (w:=w2) ys.length ys
    have HS:=zH hs
    generalize hW:w2.alloc (.cells (madeCells #[.int .u8 0] ys.length) 5)=w3 at *
    clear hmk hs hW
    go_loopw [47] (fun i wr => ∃ k:Nat,i=.int .i64 k∧k≤ys.length∧fI w2 wr w2.heap.size ys.length k ys) (fun i _=>ys.length - (intOf i).toNat)
    case atStart=>exact ⟨0,rfl,Nat.zero_le _,HS.out⟩
    case round =>
     obtain ⟨j,rfl,hk,hB⟩:=hrel
     by_cases hlt:j<ys.length
     ·
      obtain ⟨d2,o2,rfl,hc⟩:=(HI2.out.1.aj hB.below) j hlt
      obtain ⟨z,hz,_⟩:=hB.cell j hlt
      have hf:=hB.free j
      have hconv:=oB (ys.getD j 0)
      have HN:=zH (hB.next zY hlt)
      rw [hconv] at HN
      clear hB hconv
      generalize hx:ys.getD j 0=x' at *
      clear hx
      go_wp2
      go_roundw
      case rel=>exact ⟨j+1,by go_num,by omega,HN.out⟩
      case measure=>simp [intOf];omega
     ·
      obtain rfl:j=ys.length:=by omega
      have HD:=zH hB
      have HBB:=zH hB.below
      obtain ⟨ab0,ac0,tb0,tc0,hwr⟩:=H2.out.2.1
      have hraw:=aa hB.below hwr.raw
      have HRAW:=zH hraw
      have HW0:=zH hwr
      have k1:wr.cell? ⟨b,1,none⟩=some (.slice (some ⟨ab0,0,none⟩) 2 ac0):=cell_of hraw 1
      have k2:wr.cell? ⟨b,2,none⟩=some (.slice (some ⟨tb0,0,none⟩) 2 tc0):=cell_of hraw 2
      have k3:wr.cell? ⟨b,3,none⟩=some (.int .i64 q.next):=cell_of hraw 3
      have hback:=D7 (v:=wr.drew) hB (fun j x h=>h)
      have HCI:=zH ((show dz w2 ab0 ac0 tb0 tc0 q from ⟨hwr.cap,hwr.a0,hwr.a1,hwr.t0,hwr.t1⟩).aj hB.below)
      have hts:(eH ys).size=16:=(fe ys).trans HLEN.out
      have HKP:=zH (xl ab0 ac0 tb0 tc0 q (aM x) (eH ys) wr.drew (HCI.out.aj (au zR)) hg.out HF.out.1 HF.out.2.1 HF.out.2.2 hts)
      clear hB hwr hraw hts
      go_wp2_with fail
      refine wp_region_noPanic ?_
      refine wp_region_held_drew (S:=(fun _=>True)) (by kernel_rfl) (by (try dsimp only);first | done | exact trivial) fun hHeld => ?_
      refine tk 0 ?_
      refine tk 1 ?_
      refine tk 2 ?_
      refine tk 3 ?_
      refine tk 5 ?_
      refine tk 6 ?_
      refine wpAnyH_ready (rs:=[4,7]) (by kernel_rfl) (by simp) ?_
      refine (AllReadyH.cons (o:=⟨some 63,.load 188 (.tmp 62),188, "window.go:55",#[⟨3,.data⟩],none⟩) rfl (fun K hK => ?_) (AllReadyH.cons (o:=⟨some 66,.convert 29 9 (.tmp 65),9, "window.go:55",#[⟨6,.data⟩],none⟩) rfl (fun K hK => ?_) AllReadyH.nil))
      ·
       skip
       go_simp
       refine hK.out _ _ (by (try dsimp only);first | done | exact trivial) fun hHeld => ?_
       clear hK K
       try simp only [Act.put,zS,zT,zU]
       refine tr 7 fun K hK => ?_
       go_simp
       refine hK.out _ _ (by (try dsimp only);first | done | exact trivial) fun hHeld => ?_
       clear hK K
       try simp only [Act.put,zS,zT,zU]
       refine tr 8 fun K hK => ?_
       go_simp
       refine HKP.out.mono ?_
       rintro e w5 ⟨a5,t5,ca5,ct5,rfl,hC5,la5,lt5,hb5⟩
       have hraw5:=aa hb5 HRAW.out
       go_wp2_with fail
       refine hK.out _ _ (by (try dsimp only);first | done | exact trivial) fun hHeld => ?_
       clear hK K
       try simp only [Act.put,zS,zT,zU]
       refine tk 9 ?_
       refine tk 10 ?_
       refine tk 11 ?_
       refine tk 12 ?_
       refine tk 13 ?_
       refine tr 14 fun K hK => ?_
       refine fc rfl 188 (.tmp 71) (.tmp 68) rfl rfl b 1 #[.slice (some ⟨a5,0,none⟩) 2 ca5,.slice (some ⟨t5,0,none⟩) 2 ct5,.int .i64 (q.keep (aM x) (eH ys)).next] (by kernel_rfl) (by kernel_rfl) 190 (ks k ab0 ac0 tb0 tc0 q.next) hraw5 rfl (Nat.le_of_ble_eq_true rfl) (by kernel_rfl) (fun w9 hw9 hz9 => ?_)
       refine hK.out _ _ (by (try dsimp only);first | done | exact trivial) fun hHeld => ?_
       clear hK K
       try simp only [Act.put,zS,zT,zU]
       refine wpAnyH_done (by kernel_rfl) ?_ _
       refine NoPanic.normal ?_
       go_wp2
       go_ret
       rw [show rr=(m2,q.keep (aM x) (eH ys),0) from HV.out.trans ((if_neg (by decide)).trans ((if_neg (by simpa using HY.out)).trans (if_neg (by decide))))]
       have hbx:=gtr (au HBB.out) hb5
       have hs2:=HBB.out.size
       have la5:wr.heap.size≤a5:=la5
       have lt5:wr.heap.size≤t5:=lt5
       obtain ⟨hB9,hS9⟩:=Az (H:=fun i=>G2 i∨i=b) H2.out.1 HW0.out (fun hl=>by rw [HO2.out.1,HO1.out.1];exact HX.out.2.2 (zV hl (HO1.out.trans HO2.out).2)) hbx hC5 (by omega) (by omega) (fun _=>Iff.rfl) w9 hw9.out
       exact ⟨rfl,_,hB9,(H2.out.2.2.both HX.out.2.1 (fun _=>Iff.rfl)).trans hS9⟩
      ·
       skip
       go_simp
       refine hK.out _ _ (by (try dsimp only);first | done | exact trivial) fun hHeld => ?_
       clear hK K
       try simp only [Act.put,zS,zT,zU]
       refine tr 4 fun K hK => ?_
       go_simp
       refine hK.out _ _ (by (try dsimp only);first | done | exact trivial) fun hHeld => ?_
       clear hK K
       try simp only [Act.put,zS,zT,zU]
       refine tr 8 fun K hK => ?_
       go_simp
       refine HKP.out.mono ?_
       rintro e w5 ⟨a5,t5,ca5,ct5,rfl,hC5,la5,lt5,hb5⟩
       have hraw5:=aa hb5 HRAW.out
       go_wp2_with fail
       refine hK.out _ _ (by (try dsimp only);first | done | exact trivial) fun hHeld => ?_
       clear hK K
       try simp only [Act.put,zS,zT,zU]
       refine tk 9 ?_
       refine tk 10 ?_
       refine tk 11 ?_
       refine tk 12 ?_
       refine tk 13 ?_
       refine tr 14 fun K hK => ?_
       refine fc rfl 188 (.tmp 71) (.tmp 68) rfl rfl b 1 #[.slice (some ⟨a5,0,none⟩) 2 ca5,.slice (some ⟨t5,0,none⟩) 2 ct5,.int .i64 (q.keep (aM x) (eH ys)).next] (by kernel_rfl) (by kernel_rfl) 190 (ks k ab0 ac0 tb0 tc0 q.next) hraw5 rfl (Nat.le_of_ble_eq_true rfl) (by kernel_rfl) (fun w9 hw9 hz9 => ?_)
       refine hK.out _ _ (by (try dsimp only);first | done | exact trivial) fun hHeld => ?_
       clear hK K
       try simp only [Act.put,zS,zT,zU]
       refine wpAnyH_done (by kernel_rfl) ?_ _
       refine NoPanic.normal ?_
       go_wp2
       go_ret
       rw [show rr=(m2,q.keep (aM x) (eH ys),0) from HV.out.trans ((if_neg (by decide)).trans ((if_neg (by simpa using HY.out)).trans (if_neg (by decide))))]
       have hbx:=gtr (au HBB.out) hb5
       have hs2:=HBB.out.size
       have la5:wr.heap.size≤a5:=la5
       have lt5:wr.heap.size≤t5:=lt5
       obtain ⟨hB9,hS9⟩:=Az (H:=fun i=>G2 i∨i=b) H2.out.1 HW0.out (fun hl=>by rw [HO2.out.1,HO1.out.1];exact HX.out.2.2 (zV hl (HO1.out.trans HO2.out).2)) hbx hC5 (by omega) (by omega) (fun _=>Iff.rfl) w9 hw9.out
       exact ⟨rfl,_,hB9,(H2.out.2.2.both HX.out.2.1 (fun _=>Iff.rfl)).trans hS9⟩
   ·
    subst he
    subst hx
    go_wp2
    go_ret
    rw [show rr=(m2,q,1101) from HV.out.trans ((if_neg (by decide)).trans ((if_neg (by simpa using HY.out)).trans (if_pos (by decide))))]
    exact ⟨rfl,_,fh.wQ HX.out.1 HX.out.2.2 (HO1.out.trans HO2.out) H2.out.1 H2.out.2.2,H2.out.2.2.both HX.out.2.1 (fun _=>Iff.rfl)⟩
  ·
   have HY:=zH hy
   go_wp2
   go_ret
   rw [show rr=(m1,q,1301) from HV.out.trans ((if_neg (by decide)).trans (if_pos HY.out))]
   exact ⟨rfl,_,fh.wQ HX.out.1 HX.out.2.2 HO1.out H1.out.1 H1.out.2.2,H1.out.2.2.both HX.out.2.1 (fun _=>Iff.rfl)⟩
 ·
  subst he
  subst hx
  go_enter func99,ntmps99
  go_wp2_with fail
  refine HR.out.mono ?_
  rintro e w1 ⟨a,cp,G1,rfl,hc,hs,st⟩
  have H1:=zH (zA hc st)
  clear hc hs st HR c0
  go_wp2
  go_ret
  rw [show rr=(m1,q,1101) from HV.out.trans (if_pos (by decide))]
  exact ⟨rfl,_,fh.wQ HX.out.1 HX.out.2.2 HO1.out H1.out.1 H1.out.2,H1.out.2.both HX.out.2.1 (fun _=>Iff.rfl)⟩
end
end Go.Proofs.YtcfdenckiigdaaaGreat

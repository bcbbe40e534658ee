/- Part 1 of the contracts. -/
import Derived.Deep.RegionLaw
import Derived.Test.YtcfdenckiigdaaaGreatKp00
set_option linter.unusedVariables false
set_option maxRecDepth 100000
set_option maxHeartbeats 4000000
namespace Go.Proofs.YtcfdenckiigdaaaGreat
section
open Go.RowKit
structure Ph where
 lanes:Int
 bytes:List Int
 clocks:Int
 read:Int
 deriving DecidableEq
def cmdPhases (r:OpR) (i:Int) (data:List Int) (read:Int):List Ph :=
 [⟨1,[r.byte],0,0⟩]++(if 0<r.addr then [⟨r.addr,[0,i / 256,i % 256],0,0⟩] else [])++(if r.mode then [⟨r.addr,data,0,0⟩] else [])++(if 0<r.dummy then [⟨0,[],r.dummy,0⟩] else [])++(if r.inn=true∧0<data.length then [⟨r.data,data,0,0⟩] else [])++(if 0<read then [⟨r.data,[],0,read⟩] else [])
structure qvZ (r:OpR) (i:Int) (data:List Int) (read:Int):Prop where
 err:opErr r.byte=0
 row:opRow r.byte=r
 lo:0≤i
 hi:i<4096
 noAddr:r.addr=0→i=0
 len:data.length≤512
 bytes:data.all isByte=true
 rlo:0≤read
 rhi:read≤512
 fits:qfj r data.length read=true
def qbs (l:List (Ph×Value)):List Value:=l.flatMap fun x=>[.int .i64 x.1.lanes,x.2,.int .i64 x.1.clocks,.int .i64 x.1.read]
def qbL (w:World) (B:Nat) (v:Value) (ps:List Ph):Prop :=
 ∃ l:List (Ph×Value),l.map (·.1)=ps∧(∀ x ∈ l,qar w B x.2 x.1.bytes)∧w.ownsRow B 281 4 v l.length (qbs l)
theorem qqy:(Tryz.prog.info? 281).map (fun i=>(i.zero,i.size,i.bytes))=some (some (.agg #[.int .i64 0,.slice none 0 0,.int .i64 0,.int .i64 0]),4,48):=by kernel_rfl
theorem qi2 {w:World} {B B':Nat} {t:TypeId} {size:Nat} {v:Value} {n:Nat} {xs:List Value} (h:w.ownsRow B t size v n xs) (hB:B'≤B):w.ownsRow B' t size v n xs:=by
 refine ⟨h.1,?_⟩
 rcases h.2 with h2 | ⟨g,cap,cur,hv,hb,r⟩
 ·
  exact .inl h2
 ·
  exact .inr ⟨g,cap,cur,hv,Nat.le_trans hB hb,r⟩
theorem qbL.mono {w:World} {B B':Nat} {v:Value} {ps:List Ph} (h:qbL w B v ps) (hB:B'≤B):qbL w B' v ps:=by
 obtain ⟨l,hl,hN,ho⟩:=h
 exact ⟨l,hl,fun x hx=>(hN x hx).mono hB,qi2 ho hB⟩
theorem qqz (w:World) (B:Nat) (hB:B≤w.heap.size) (p:Ph) (bv:Value) (hN:qar w B bv p.bytes):qbL (w.alloc (.cells #[.int .i64 p.lanes,bv,.int .i64 p.clocks,.int .i64 p.read] 281)) B (.slice (some ⟨w.heap.size,0,none⟩) 1 1) [p] :=
 ⟨[(p,bv)],rfl,fun x hx=>by
  obtain rfl:x=(p,bv):=by simpa using hx
  exact hN.later (qac (Below.refl _ _) _),World.ownsRow_lit w _ 1 hB (by decide) rfl⟩
theorem qiR (w:World) (B:Nat) (hB:B≤w.heap.size) (xs:List Int) (cur:Array Value) (h:cur=(intVals xs).toArray) (n:Nat) (hn:n=xs.length):qar (w.alloc (.cells cur 3)) B (.slice (some ⟨w.heap.size,0,none⟩) n n) xs:=by
 subst hn
 refine ⟨some ⟨w.heap.size,0,none⟩,xs.length,rfl,fun i hi=>⟨w.heap.size,0,cur,rfl,hB,qad _ _,?_⟩⟩
 subst h
 simp [intVals,List.getD,List.getElem?_eq_getElem hi]
theorem qde {wx W w':World} {B:Nat} {v v' bv:Value} {l:List (Ph×Value)} {p:Ph} (hN : ∀ x ∈ l,qar wx B x.2 x.1.bytes) (hown:wx.ownsRow B 281 4 v l.length (qbs l)) (hb:Below wx.heap.size wx W) (hnew:qar W B bv p.bytes) (hg:W.grownBy w' v.ownBlock) (hown':w'.ownsRow B 281 4 v' (l.length+1) (qbs l++[.int .i64 p.lanes,bv,.int .i64 p.clocks,.int .i64 p.read])):qbL w' B v' (l.map (·.1)++[p]):=by
 have hne : ∀ (b:Nat) (cur:Array Value),W.heap[b]? = some (.cells cur 3 (0,0))→w'.heap[b]? = some (.cells cur 3 (0,0)):=by
  intro b cur hc
  have hlt:b<W.heap.size:=qat hc
  refine (hg.block b hlt fun e => ?_).trans hc
  rcases hown.2 with ⟨rfl,_⟩ | ⟨g,cap,cu,rfl,_,hgg,_⟩
  ·
   simp [Value.ownBlock] at e
  ·
   simp [Value.ownBlock] at e
   subst e
   have:=qab hb hgg
   rw [hc] at this
   simp at this
 have go : ∀ x:Ph×Value,qar W B x.2 x.1.bytes→qar w' B x.2 x.1.bytes:=by
  intro x hx
  obtain ⟨a,c,hv,hc⟩:=hx
  refine ⟨a,c,hv,fun i hi => ?_⟩
  obtain ⟨b,off,cur,ha,hB',hh,hx⟩:=hc i hi
  exact ⟨b,off,cur,ha,hB',hne b cur hh,hx⟩
 refine ⟨l++[(p,bv)],by simp,fun x hx => ?_,by simpa [qbs] using hown'⟩
 rcases List.mem_append.1 hx with h | h
 ·
  exact go x ((hN x h).later hb)
 ·
  obtain rfl:x=(p,bv):=by simpa using h
  exact go _ hnew
theorem qhG {n:Nat} {w:World} (o:Obj) (h:n≤w.heap.size):n≤(w.alloc o).heap.size:=by simp;omega
theorem qfY.lt {w:World} {b:Nat} {r:OpR} (h:qfY w b r):b<w.heap.size:=by obtain ⟨t,f,h⟩:=h;exact qat h
theorem qo8 (a b c:Int) (v:Value) (h:v.oneCell'=true) : ∀ u ∈ [Value.int .i64 a,v,.int .i64 b,.int .i64 c],u.oneCell'=true:=by
 intro u hu;simp only [List.mem_cons,List.not_mem_nil,or_false] at hu;rcases hu with rfl | rfl | rfl | rfl <;> first | rfl | exact h
theorem qar.one {w:World} {B:Nat} {v:Value} {xs:List Int} (h:qar w B v xs):v.oneCell'=true:=by obtain ⟨a,c,rfl,_⟩:=h;rfl
theorem qmW {n:Nat} (h:n≤6):n+1≤maxLen∧(n+1) * 48≤140737488355328:=by simp only [maxLen];omega
theorem qck {w:World} {B:Nat} {t:TypeId} {size:Nat} {v:Value} {n:Nat} {xs:List Value} (h:w.ownsRow B t size v n xs) : ∀ k,v.ownBlock=some k→B≤k:=fun k hk=>(h.lt k hk).1
theorem _root_.Go.World.ownsRow.later {w w':World} {B:Nat} {t:TypeId} {size:Nat} {v:Value} {n:Nat} {xs:List Value} (h:w.ownsRow B t size v n xs) (hb:Below w.heap.size w w'):w'.ownsRow B t size v n xs:=by
 refine ⟨h.1,?_⟩
 rcases h.2 with h2 | ⟨g,cap,cur,hv,hB,hg,r⟩
 ·
  exact .inl h2
 ·
  exact .inr ⟨g,cap,cur,hv,hB,qab hb hg,r⟩
theorem qal.later {w w':World} {a:Option Addr} {xs:List Int} (h:qal w a xs) (hb:Below w.heap.size w w'):qal w' a xs:=by
 intro i hi
 obtain ⟨b,off,ha,hc⟩:=h i hi
 exact ⟨b,off,ha,(hb.cell (p:=⟨b,off+i,none⟩) (World.block_lt_of_cell? w _ hc)).trans hc⟩
theorem qvX (r:OpR):r.cells = #[.int .i64 r.byte,.int .i64 r.addr,.bool r.mode,.int .i64 r.dummy,.int .i64 r.data,.bool r.inn]:=rfl
def quR (ps:List Ph) (w:World) (e:Ending) (w':World):Prop := ∃ v,e=.returned (.tuple #[v,.int .i64 0])∧qbL w' w.heap.size v ps∧Below w.heap.size w w'
theorem qe2 (r:OpR) (i:Int) (a:Option Addr) (c:Nat) (xs:List Int) (read:Int) (w:World) (ok:qvZ r i xs read) (h1:qal w a xs) (hn:a=none→c=0):Calls Tryz.prog 155 #[.agg r.cells,.int .i64 i,.slice a xs.length c,.int .i64 read] w (quR (cmdPhases r i xs read) w):=by
 rw [qvX r]
 go_enter Tryz.func155,Tryz.ntmps155
 go_wp2_with fail
 refine (qhJ _ _).mono ?_
 rintro e w1 ⟨rfl,hb1⟩
 rw [ok.err,ok.row,qvX r]
 go_upto_region 3 with (fail)
 generalize hW:w1.alloc _=w2
 have q2:Below w.heap.size w w2:=by rw [← hW];exact qac (gtr (qac (Below.refl _ _) _) hb1) _
 have x4:qfY w2 w.heap.size r:=by
  rw [← hW];exact qfY.later ⟨_,_,qab hb1 (qad _ _)⟩ (qac (Below.refl _ _) _)
 have x10:qfY w2 w1.heap.size r:=by rw [← hW];exact ⟨_,_,qad _ _⟩
 generalize w1.heap.size=b10 at *
 clear hW hb1 w1
 have h2:qal w2 a xs:=h1.later q2
 have hl:xs.length≤512:=ok.len
 have hx8:xs.length * 8≤140737488355328:=by omega
 go_cut [68] from 20 to 68 (fun s wx=>s=.bool false ∧ ∃ n,wx=w2.drewN n)
 case first =>
  obtain ⟨c0,c1,c2,c3,c4,c5⟩:=x4.cell
  obtain ⟨d0,d1,d2,d3,d4,d5⟩:=x10.cell
  have g1 : ¬ i<0:=by have:=ok.lo;omega
  have g2 : ¬ 4096≤i:=by have:=ok.hi;omega
  have g3:(r.addr == 0)=true→(i != 0)=false:=fun h=>by
   have:=ok.noAddr (by simpa using h);simp [this]
  have g4 : ¬ (512:Int)<(xs.length:Int):=by omega
  have g5 : ¬ read<0:=by have:=ok.rlo;omega
  have g6 : ¬ 512<read:=by have:=ok.rhi;omega
  have HB:=zH ok.bytes
  have HFt:=zH ok.fits
  clear ok
  have hany:xs.any (fun b => !isByte b)=false:=by rw [qhf,HB.out];rfl
  have HA:=zH hany
  clear hany HB
  cases ha:(r.addr == 0) with
  | true =>
   have i0:=g3 ha
   clear g3
   go_wp2_with fail
   refine (qbf _ _ qlJ a c xs _ h2 (by omega)).mono ?_
   rintro e w' ⟨rfl,n,rfl⟩
   rw [HA.out]
   go_wp2_with fail
   refine (qkf _ r _ _ _ ?_).mono ?_
   ·
    exact x4.later (qao (Below.refl _ _) _)
   rintro e w' ⟨rfl,rfl⟩
   rw [HFt.out]
   go_wp2_with fail
   go_meet
   exact ⟨by rw [decide_eq_false (by omega),decide_eq_false (by omega)];rfl,n,rfl⟩
  | false =>
   clear g3
   go_wp2_with fail
   refine (qbf _ _ qlJ a c xs _ h2 (by omega)).mono ?_
   rintro e w' ⟨rfl,n,rfl⟩
   rw [HA.out]
   go_wp2_with fail
   refine (qkf _ r _ _ _ ?_).mono ?_
   ·
    exact x4.later (qao (Below.refl _ _) _)
   rintro e w' ⟨rfl,rfl⟩
   rw [HFt.out]
   go_wp2_with fail
   go_meet
   exact ⟨by rw [decide_eq_false (by omega),decide_eq_false (by omega)];rfl,n,rfl⟩
 case rest =>
  obtain ⟨rfl,n,rfl⟩:=hcut
  have q3:Below w.heap.size w (w2.drewN n):=qao q2 n
  have x3:qfY (w2.drewN n) w.heap.size r:=x4.later (qao (Below.refl _ _) n)
  have h3:qal (w2.drewN n) a xs:=h2.later (qao (Below.refl _ _) n)
  generalize w2.drewN n=w3 at *
  clear h2 h1 x4 x10 q2 w2
  have hi0:=ok.lo
  have hi1:=ok.hi
  have hr0:=ok.rlo
  have hr1:=ok.rhi
  have e1:i / 65536=0:=by omega
  have e2:bits .and .i64 (i / 256) 255=i / 256:=by rw [quE];omega
  have e3:bits .and .i64 i 255=i % 256:=quE i
  clear ok
  generalize Value.agg #[.int .i64 r.byte,.int .i64 r.addr,.bool r.mode,.int .i64 r.dummy,.int .i64 r.data,.bool r.inn]=vagg
  obtain ⟨i0,hi,hz0,hz1,hz2⟩:=info_parts qqy
  obtain ⟨c0,c1,c2,c3,c4,c5⟩:=x3.cell
  clear c1 c2 c3 c4 c5
  go_upto_region 6 with (fail)
  have hN4:=qqz (w3.alloc (.cells #[.int .i64 r.byte] 3)) w3.heap.size (by simp) ⟨1,[r.byte],0,0⟩ _ (qiR w3 w3.heap.size (Nat.le_refl _) [r.byte] _ rfl 1 rfl)
  have hb4:Below w3.heap.size w3 ((w3.alloc (.cells #[.int .i64 r.byte] 3)).alloc (.cells #[.int .i64 1,.slice (some ⟨w3.heap.size,0,none⟩) 1 1,.int .i64 0,.int .i64 0] 281)):=qac (qac (Below.refl _ _) _) _
  simp only [World.size_alloc] at hN4
  generalize (w3.alloc _).alloc _=w4 at *
  generalize Value.slice (some ⟨w3.heap.size+1,0,none⟩) 1 1=v4 at *
  have x4:=x3.later hb4
  obtain ⟨c0,c1,c2,c3,c4,c5⟩:=x4.cell
  go_upto_if 76 with (fail)
  go_cut [13] from 14 (fun v wx=>qbL wx w3.heap.size v ([⟨1,[r.byte],0,0⟩]++(if 0<r.addr then [⟨r.addr,[0,i / 256,i % 256],0,0⟩] else []))∧Below w3.heap.size w3 wx)
  case first =>
   by_cases ha:0<r.addr
   ·
    obtain ⟨l,hll,hN,hown⟩:=hN4
    have hlen:l.length≤6:=by have:=congrArg List.length hll;simp at this;omega
    have hN:=zH hN
    have hll:=zH hll
    clear c0 c2 c3 c4 c5
    go_wp2_with (at_builtin;refine wpList_append_own _ rfl _ _ 139 rfl w3.heap.size 281 i0 (.agg #[.int .i64 0,.slice none 0 0,.int .i64 0,.int .i64 0]) 4 48 Tryz.underlying139 hi hz0 hz1 hz2 rfl (by decide) v4 l.length (qbs l) ?a1 ((hown.alloc _).alloc _) ⟨w4.heap.size+1,0,none⟩ 1 1 [.int .i64 r.addr,.slice (some ⟨w4.heap.size,0,none⟩) 3 3,.int .i64 0,.int .i64 0] ?a2 rfl ?a3 ?a4 ?a5 ?a6 ?a7 ?_)
    case a1=>rfl
    case a2=>rfl
    case a3=>exact World.news_of_block (cs := #[.int .i64 r.addr,.slice (some ⟨w4.heap.size,0,none⟩) 3 3,.int .i64 0,.int .i64 0]) (t:=281) (fr:=(0,0)) (by simpa using qad (w4.alloc _) _)
    case a4=>intro u hu;simp only [List.mem_cons,List.not_mem_nil,or_false] at hu;rcases hu with rfl | rfl | rfl | rfl <;> rfl
    case a5=>simp only [maxLen];omega
    case a6=>omega
    case a7=>have:=hb4.size;simp;omega
    intro v' w' hown' hg _
    have hpush:=qde (p:=⟨r.addr,[0,i / 256,i % 256],0,0⟩) hN.out hown (qac (qac (Below.refl _ _) _) _) ((qiR w4 _ hb4.size [0,i / 256,i % 256] _ rfl 3 rfl).later (qac (Below.refl _ _) _)) hg hown'
    have hbel:Below w3.heap.size w3 w':=qa0 (gtr hb4 (qac (qac (Below.refl _ _) _) _)) hg (qck hown)
    rw [hll.out] at hpush
    clear hown' hg
    go_wp2_with fail
    go_meet
    exact ⟨by rw [if_pos ha];exact hpush,hbel⟩
   ·
    go_wp2_with fail
    go_meet
    exact ⟨by rw [if_neg (by omega),List.append_nil];exact hN4,hb4⟩
  case rest =>
   obtain ⟨hN5,hb5⟩:=hcut
   generalize hps:([⟨1,[r.byte],0,0⟩]++(if 0<r.addr then [⟨r.addr,[0,i / 256,i % 256],0,0⟩] else []):List Ph)=ps5 at *
   have hlen5:ps5.length≤2:=by rw [← hps];simp;split <;> simp
   have HPS:=zH hps
   clear hps c0 c1 c2 c3 c4 c5 hN4 hb4 x4 e1 e2 e3
   have x5:=x3.later hb5
   have h5:=h3.later hb5
   obtain ⟨c0,c1,c2,c3,c4,c5⟩:=x5.cell
   clear c0 c3 c4 c5
   go_upto_if 92 with (fail)
   go_cut [13] from 14 (fun v wx=>qbL wx w3.heap.size v (ps5++(if r.mode then [⟨r.addr,xs,0,0⟩] else []))∧Below w3.heap.size w3 wx)
   case first =>
    cases hmode:r.mode with
    | false =>
     go_wp2_with fail
     go_meet
     exact ⟨by rw [if_neg (by rw [hmode];decide),List.append_nil];exact hN5,hb5⟩
    | true =>
     obtain ⟨l,hll,hN,hown⟩:=hN5
     have hlen:l.length≤6:=by have:=congrArg List.length hll;simp at this;omega
     have hN:=zH hN
     have hll:=zH hll
     clear c2
     go_wp2_with fail
     have hs5:=hb5.size
     have hownd:wc.drew.ownsRow _ _ _ _ _ _:=hown
     have hne:u13.ownBlock≠some w.heap.size:=fun e=>by have:=qck hown _ e;have:=x3.lt;omega
     have h5d:qal wc.drew a xs:=h5
     have hlt5:=x5.lt
     obtain ⟨m1,m2⟩:=qmW hlen
     go_region_held3 (fun w'=>w'.cell? ⟨w.heap.size,1,none⟩=some (.int .i64 r.addr)) (first | go_keep | exact (hbx.cell (p:=⟨w.heap.size,1,none⟩) hlt5).trans c1 | exact (hgrow.cell_far ⟨w.heap.size,1,none⟩ (qhG _ hltx) (Ne.symm hne)).trans ((World.cell?_alloc_lt _ _ _ hltx).trans ((hbx.cell (p:=⟨w.heap.size,1,none⟩) hlt5).trans c1))) (first
       | (go_at_call 56;refine (qeu a c xs _ h5d hn hx8).mono ?_;rintro e wx ⟨ax,cx,rfl,hvx,hbx⟩;have hsx:=hbx.size;have hltx:=Nat.lt_of_lt_of_le hlt5 hsx)
       | (refine step_append_lies _ rfl _ _ _ rfl w3.heap.size 281 i0 (.agg #[.int .i64 0,.slice none 0 0,.int .i64 0,.int .i64 0]) 4 48 Tryz.underlying139 hi hz0 hz1 hz2 rfl (Nat.lt_of_sub_eq_succ rfl) u13 l.length (qbs l) rfl ((hownd.later hbx).alloc _) ⟨wx.heap.size,0,none⟩ 1 1 [.int .i64 r.addr,.slice ax xs.length cx,.int .i64 0,.int .i64 0] rfl rfl (World.news_of_block (cs := #[.int .i64 r.addr,.slice ax xs.length cx,.int .i64 0,.int .i64 0]) (t:=281) (fr:=(0,0)) (heap_alloc_new wx _)) (qo8 _ _ _ _ hvx.one) Nat.one_pos m1 m2 (qhG _ (Nat.le_trans hs5 hsx)) (wx.heap.size+1) (World.size_alloc _ _) ?_;intro gg cap w7 hown7 hgrow hat hlt))
     all_goals
      have hpush:=qde (p:=⟨r.addr,xs,0,0⟩) hN.out hown (gtr (qai (Below.refl _ _)) (gtr hbx (qac (Below.refl _ _) _))) ((hvx.mono hs5).later (qac (Below.refl _ _) _)) hgrow hown7
      have hbel:=qa0 (gtr hb5 (gtr (qai (Below.refl _ _)) (gtr hbx (qac (Below.refl _ _) _)))) hgrow (qck hown)
      rw [hll.out] at hpush
      clear hown7 hgrow hat hlt
      go_wp2_with fail
      go_meet
      exact ⟨by rw [if_pos hmode];exact hpush,hbel⟩
   case rest =>
    obtain ⟨hN6,hb6⟩:=hcut
    generalize hps6:(ps5++(if r.mode then [⟨r.addr,xs,0,0⟩] else []):List Ph)=ps6 at *
    have hlen6:ps6.length≤3:=by rw [← hps6];simp;split <;> simp <;> omega
    have HPS6:=zH hps6
    clear hps6 hN5 hb5 x5 h5 c1 c2
    have x6:=x3.later hb6
    have h6:=h3.later hb6
    obtain ⟨c0,c1,c2,c3,c4,c5⟩:=x6.cell
    clear c0 c1 c2 c4 c5
    go_upto_if 103 with (fail)
    go_cut [13] from 14 (fun v wx=>qbL wx w3.heap.size v (ps6++(if 0<r.dummy then [⟨0,[],r.dummy,0⟩] else []))∧Below w3.heap.size w3 wx)
    case first =>
     by_cases ha:0<r.dummy
     ·
      obtain ⟨l,hll,hN,hown⟩:=hN6
      have hlen:l.length≤6:=by have:=congrArg List.length hll;simp at this;omega
      have hN:=zH hN
      have hll:=zH hll
      go_wp2_with (at_builtin;refine wpList_append_own _ rfl _ _ 139 rfl w3.heap.size 281 i0 (.agg #[.int .i64 0,.slice none 0 0,.int .i64 0,.int .i64 0]) 4 48 Tryz.underlying139 hi hz0 hz1 hz2 rfl (by decide) _ l.length (qbs l) ?b1 (hown.alloc _) ⟨wc.heap.size,0,none⟩ 1 1 [.int .i64 0,.slice none 0 0,.int .i64 r.dummy,.int .i64 0] ?b2 rfl ?b3 ?b4 ?b5 ?b6 ?b7 ?_)
      case b1=>rfl
      case b2=>rfl
      case b3=>exact World.news_of_block (cs := #[.int .i64 0,.slice none 0 0,.int .i64 r.dummy,.int .i64 0]) (t:=281) (fr:=(0,0)) (qad wc _)
      case b4=>intro u hu;simp only [List.mem_cons,List.not_mem_nil,or_false] at hu;rcases hu with rfl | rfl | rfl | rfl <;> rfl
      case b5=>simp only [maxLen];omega
      case b6=>omega
      case b7=>have:=hb6.size;simp;omega
      intro v' w' hown' hg _
      have hpush:=qde (p:=⟨0,[],r.dummy,0⟩) hN.out hown (qac (Below.refl _ _) _) (qar.nil _ _) hg hown'
      have hbel:Below w3.heap.size w3 w':=qa0 (gtr hb6 (qac (Below.refl _ _) _)) hg (qck hown)
      rw [hll.out] at hpush
      clear hown' hg
      go_wp2_with fail
      go_meet
      exact ⟨by rw [if_pos ha];exact hpush,hbel⟩
     ·
      go_wp2_with fail
      go_meet
      exact ⟨by rw [if_neg (by omega),List.append_nil];exact hN6,hb6⟩
    case rest =>
     obtain ⟨hN7,hb7⟩:=hcut
     generalize hps7:(ps6++(if 0<r.dummy then [⟨0,[],r.dummy,0⟩] else []):List Ph)=ps7 at *
     have hlen7:ps7.length≤4:=by rw [← hps7];simp;split <;> simp <;> omega
     have HPS7:=zH hps7
     clear hps7 hN6 hb6 x6 h6 c3
     have x7:=x3.later hb7
     have h7:=h3.later hb7
     obtain ⟨c0,c1,c2,c3,c4,c5⟩:=x7.cell
     clear c0 c1 c2 c3
     go_upto_region 12 with (fail)
     go_cut [116] from 14 (fun v wx=>v=.bool (r.inn&&decide (0<(xs.length:Int)))∧wx=wc)
     case first =>
      cases hinn:r.inn with
      | true=>rw [hinn] at c5;go_wp2_with fail;go_meet;exact ⟨by simp [hinn],rfl⟩
      | false=>rw [hinn] at c5;go_wp2_with fail;go_meet;exact ⟨by simp [hinn],rfl⟩
     case rest =>
      obtain ⟨rfl,rfl⟩:=hcut
      go_upto_if 116 with (fail)
      go_cut [13] from 14 (fun v wx=>qbL wx w3.heap.size v (ps7++(if r.inn=true∧0<xs.length then [⟨r.data,xs,0,0⟩] else []))∧Below w3.heap.size w3 wx)
      case first =>
       cases hcond:(r.inn&&decide (0<(xs.length:Int))) with
       | false =>
        have hno : ¬ (r.inn=true∧0<xs.length):=by
         intro ⟨k1,k2⟩;rw [k1,decide_eq_true (by omega)] at hcond;cases hcond
        clear c4 c5 hcond
        go_wp2_with fail
        go_meet
        exact ⟨by rw [if_neg hno,List.append_nil];exact hN7,hb7⟩
       | true =>
        have hyes:r.inn=true∧0<xs.length:=by
         simp at hcond;exact ⟨hcond.1,by omega⟩
        have HY:=zH hyes
        clear hyes hcond c5
        obtain ⟨l,hll,hN,hown⟩:=hN7
        have hlen:l.length≤6:=by have:=congrArg List.length hll;simp at this;omega
        have hN:=zH hN
        have hll:=zH hll
        go_wp2_with fail
        have hs5:=hb7.size
        have hownd:wc.drew.ownsRow _ _ _ _ _ _:=hown
        have hne:u13.ownBlock≠some w.heap.size:=fun e=>by have:=qck hown _ e;have:=x3.lt;omega
        have h7d:qal wc.drew a xs:=h7
        have hlt5:=x7.lt
        obtain ⟨m1,m2⟩:=qmW hlen
        go_region_held3 (fun w'=>w'.cell? ⟨w.heap.size,4,none⟩=some (.int .i64 r.data)) (first | go_keep | exact (hbx.cell (p:=⟨w.heap.size,4,none⟩) hlt5).trans c4 | exact (hgrow.cell_far ⟨w.heap.size,4,none⟩ (qhG _ hltx) (Ne.symm hne)).trans ((World.cell?_alloc_lt _ _ _ hltx).trans ((hbx.cell (p:=⟨w.heap.size,4,none⟩) hlt5).trans c4))) (first
          | (go_at_call 56;refine (qeu a c xs _ h7d hn hx8).mono ?_;rintro e wx ⟨ax,cx,rfl,hvx,hbx⟩;have hsx:=hbx.size;have hltx:=Nat.lt_of_lt_of_le hlt5 hsx)
          | (refine step_append_lies _ rfl _ _ _ rfl w3.heap.size 281 i0 (.agg #[.int .i64 0,.slice none 0 0,.int .i64 0,.int .i64 0]) 4 48 Tryz.underlying139 hi hz0 hz1 hz2 rfl (Nat.lt_of_sub_eq_succ rfl) u13 l.length (qbs l) rfl ((hownd.later hbx).alloc _) ⟨wx.heap.size,0,none⟩ 1 1 [.int .i64 r.data,.slice ax xs.length cx,.int .i64 0,.int .i64 0] rfl rfl (World.news_of_block (cs := #[.int .i64 r.data,.slice ax xs.length cx,.int .i64 0,.int .i64 0]) (t:=281) (fr:=(0,0)) (heap_alloc_new wx _)) (qo8 _ _ _ _ hvx.one) Nat.one_pos m1 m2 (qhG _ (Nat.le_trans hs5 hsx)) (wx.heap.size+1) (World.size_alloc _ _) ?_;intro gg cap w7 hown7 hgrow hat hlt))
        all_goals
         have hpush:=qde (p:=⟨r.data,xs,0,0⟩) hN.out hown (gtr (qai (Below.refl _ _)) (gtr hbx (qac (Below.refl _ _) _))) ((hvx.mono hs5).later (qac (Below.refl _ _) _)) hgrow hown7
         have hbel:=qa0 (gtr hb7 (gtr (qai (Below.refl _ _)) (gtr hbx (qac (Below.refl _ _) _)))) hgrow (qck hown)
         rw [hll.out] at hpush
         clear hown7 hgrow hat hlt
         go_wp2_with fail
         go_meet
         exact ⟨by rw [if_pos HY.out];exact hpush,hbel⟩
      case rest =>
       obtain ⟨hN8,hb8⟩:=hcut
       generalize hps8:(ps7++(if r.inn=true∧0<xs.length then [⟨r.data,xs,0,0⟩] else []):List Ph)=ps8 at *
       have hlen8:ps8.length≤5:=by rw [← hps8];simp;split <;> simp <;> omega
       have HPS8:=zH hps8
       clear hps8 hN7 hb7 x7 h7 c4 c5
       have x8:=x3.later hb8
       obtain ⟨c0,c1,c2,c3,c4,c5⟩:=x8.cell
       clear c0 c1 c2 c3 c5
       have hfin:cmdPhases r i xs read=ps8++(if 0<read then [⟨r.data,[],0,read⟩] else []):=by
        unfold cmdPhases;rw [HPS.out,HPS6.out,HPS7.out,HPS8.out]
       have HFIN:=zH hfin
       clear hfin HPS HPS6 HPS7 HPS8
       by_cases ha:0<read
       ·
        obtain ⟨l,hll,hN,hown⟩:=hN8
        have hlen:l.length≤6:=by have:=congrArg List.length hll;simp at this;omega
        have hN:=zH hN
        have hll:=zH hll
        go_wp2_with (at_builtin;refine wpList_append_own _ rfl _ _ 139 rfl w3.heap.size 281 i0 (.agg #[.int .i64 0,.slice none 0 0,.int .i64 0,.int .i64 0]) 4 48 Tryz.underlying139 hi hz0 hz1 hz2 rfl (by decide) _ l.length (qbs l) ?d1 (hown.alloc _) ⟨wc.heap.size,0,none⟩ 1 1 [.int .i64 r.data,.slice none 0 0,.int .i64 0,.int .i64 read] ?d2 rfl ?d3 ?d4 ?d5 ?d6 ?d7 ?_)
        case d1=>rfl
        case d2=>rfl
        case d3=>exact World.news_of_block (cs := #[.int .i64 r.data,.slice none 0 0,.int .i64 0,.int .i64 read]) (t:=281) (fr:=(0,0)) (qad wc _)
        case d4=>intro u hu;simp only [List.mem_cons,List.not_mem_nil,or_false] at hu;rcases hu with rfl | rfl | rfl | rfl <;> rfl
        case d5=>simp only [maxLen];omega
        case d6=>omega
        case d7=>have:=hb8.size;simp;omega
        intro v' w' hown' hg _
        have hpush:=qde (p:=⟨r.data,[],0,read⟩) hN.out hown (qac (Below.refl _ _) _) (qar.nil _ _) hg hown'
        have hbel:Below w3.heap.size w3 w':=qa0 (gtr hb8 (qac (Below.refl _ _) _)) hg (qck hown)
        rw [hll.out] at hpush
        clear hown' hg
        go_wp2_with fail
        go_ret2
        exact ⟨v',rfl,by rw [HFIN.out,if_pos ha];exact hpush.mono q3.size,gtr q3 hbel⟩
       ·
        go_wp2_with fail
        go_ret2
        exact ⟨_,rfl,by rw [HFIN.out,if_neg (by omega),List.append_nil];exact hN8.mono q3.size,gtr q3 hb8⟩
end
section
open Go.RowKit
def bt (s:ByteArray) (i:Nat):UInt8:=s.data.getD i 0
def mk (n:Nat) (f:Nat→UInt8):ByteArray:=⟨Array.ofFn (n:=n) fun i=>f i⟩
theorem qbr (n:Nat) (f:Nat→UInt8):(mk n f).size=n:=by simp [mk,ByteArray.size]
theorem qgj (n:Nat) (f:Nat→UInt8) (i:Nat) (h:i<n):bt (mk n f) i=f i:=by simp [bt,mk,h]
theorem qgL (s:ByteArray) (i:Nat) (h:i<s.data.size):s.data[i]'h=bt s i:=by
 unfold bt
 rw [Array.getD_eq_getD_getElem?,Array.getElem?_eq_getElem h]
 rfl
theorem qcp (s:ByteArray) (i:Nat) (h:i<s.size):s[i]'h=bt s i:=qgL s i h
theorem qbN {s t:ByteArray} (h:s.size=t.size) (hb : ∀ i,i<s.size→bt s i=bt t i):s=t:=by
 obtain ⟨a⟩:=s
 obtain ⟨b⟩:=t
 congr 1
 refine Array.ext h fun i h1 h2 => ?_
 have:=hb i h1
 rw [← qgL ⟨a⟩ i h1,← qgL ⟨b⟩ i h2] at this
 exact this
theorem qo6 {n:Nat} {f g:Nat→UInt8} (h : ∀ i,i<n→f i=g i):mk n f=mk n g :=
 qbN (by rw [qbr,qbr]) fun i hi=>by rw [qbr] at hi;rw [qgj _ _ _ hi,qgj _ _ _ hi,h i hi]
theorem qnm (l:List UInt8) (f:Nat→UInt8) (n:Nat) (hn:l.length=n) (h : ∀ i (hi:i<l.length),l[i]=f i):(⟨l.toArray⟩:ByteArray)=mk n f:=by
 subst hn
 refine qbN (by rw [qbr];simp [ByteArray.size]) fun i hi => ?_
 have hi':i<l.length:=by simpa [ByteArray.size] using hi
 rw [qgj _ _ _ hi',← h i hi']
 simp [bt,hi']
theorem qgx (x y:UInt8):bits .andNot .u8 (x.toNat:Int) (y.toNat:Int)=((x &&& ~~~y).toNat:Int):=by
 rw [u8_andNot_nat _ _ x.toNat_lt y.toNat_lt]
 simp [UInt8.toNat_and,UInt8.toNat_not]
theorem qsY (x y:UInt8):bits .or .u8 (x.toNat:Int) (y.toNat:Int)=((x ||| y).toNat:Int):=by
 rw [u8_or_nat _ _ x.toNat_lt y.toNat_lt]
 simp [UInt8.toNat_or]
def maskAt (m:ByteArray) (i:Nat):UInt8:=if m.size=0 then 0 else bt m (i % m.size)
def progAt (m d:ByteArray) (i:Nat) (old:UInt8):UInt8:=old &&& ~~~(maskAt m i &&& ~~~(bt d i))
def wipeAt (m:ByteArray) (i:Nat) (old:UInt8):UInt8:=old ||| maskAt m i
def turn (s:ByteArray) (p n:Nat) (f:Nat→UInt8→UInt8):ByteArray:=mk s.size fun j=>if p≤j∧j<p+n then f (j - p) (bt s j) else bt s j
end
end Go.Proofs.YtcfdenckiigdaaaGreat

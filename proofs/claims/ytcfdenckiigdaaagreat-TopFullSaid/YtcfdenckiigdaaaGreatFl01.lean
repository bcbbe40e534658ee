/- Part 1 of the contracts. -/
import Derived.Deep.RegionLaw
import Derived.Test.YtcfdenckiigdaaaGreatFl00
set_option linter.unusedVariables false
set_option maxRecDepth 100000
set_option maxHeartbeats 4000000
namespace Go.Proofs.YtcfdenckiigdaaaGreat
open Tryz
section
open Go.RowKit
structure Ph where
 bW:Int
 bytes:List Int
 eN:Int
 read:Int
 deriving DecidableEq
def aQ (r:gF) (i:Int) (data:List Int) (read:Int):List Ph :=
 [⟨1,[r.byte],0,0⟩]++(if 0<r.addr then [⟨r.addr,[0,i / 256,i % 256],0,0⟩] else [])++(if r.mode then [⟨r.addr,data,0,0⟩] else [])++(if 0<r.dummy then [⟨0,[],r.dummy,0⟩] else [])++(if r.jB=true∧0<data.length then [⟨r.data,data,0,0⟩] else [])++(if 0<read then [⟨r.data,[],0,read⟩] else [])
structure LN (r:gF) (i:Int) (data:List Int) (read:Int):Prop where
 err:gH r.byte=0
 row:ak r.byte=r
 lo:0≤i
 hi:i<4096
 Ez:r.addr=0→i=0
 len:data.length≤512
 bytes:data.all isByte=true
 M3:0≤read
 M1:read≤512
 fits:kv r data.length read=true
def eK (l:List (Ph×Value)):List Value:=l.flatMap fun x=>[.int .i64 x.1.bW,x.2,.int .i64 x.1.eN,.int .i64 x.1.read]
def gk (w:World) (B:Nat) (v:Value) (ps:List Ph):Prop :=
 ∃ l:List (Ph×Value),l.map (·.1)=ps∧(∀ x ∈ l,bz w B x.2 x.1.bytes)∧w.ownsRow B 281 4 v l.length (eK l)
theorem EM:(prog.info? 281).map (fun i=>(i.zero,i.size,i.bytes))=some (some (.agg #[.int .i64 0,.slice none 0 0,.int .i64 0,.int .i64 0]),4,48):=by kernel_rfl
theorem tv {w:World} {B B':Nat} {t:TypeId} {size:Nat} {v:Value} {n:Nat} {xs:List Value} (h:w.ownsRow B t size v n xs) (hB:B'≤B):w.ownsRow B' t size v n xs:=by
 refine ⟨h.1,?_⟩
 rcases h.2 with h2 | ⟨g,cap,cur,hv,hb,r⟩
 ·
  exact .inl h2
 ·
  exact .inr ⟨g,cap,cur,hv,Nat.le_trans hB hb,r⟩
theorem gk.mono {w:World} {B B':Nat} {v:Value} {ps:List Ph} (h:gk w B v ps) (hB:B'≤B):gk w B' v ps:=by
 obtain ⟨l,hl,hN,ho⟩:=h
 exact ⟨l,hl,fun x hx=>(hN x hx).mono hB,tv ho hB⟩
theorem EN (w:World) (B:Nat) (hB:B≤w.heap.size) (p:Ph) (bv:Value) (hN:bz w B bv p.bytes):gk (w.alloc (.cells #[.int .i64 p.bW,bv,.int .i64 p.eN,.int .i64 p.read] 281)) B (.slice (some ⟨w.heap.size,0,none⟩) 1 1) [p] :=
 ⟨[(p,bv)],rfl,fun x hx=>by
  obtain rfl:x=(p,bv):=by simpa using hx
  exact hN.aj (ae zR _),World.ownsRow_lit w _ 1 hB (by decide) rfl⟩
theorem uu (w:World) (B:Nat) (hB:B≤w.heap.size) (xs:List Int) (cur:Array Value) (h:cur=(aC xs).toArray) (n:Nat) (hn:n=xs.length):bz (w.alloc (.cells cur 3)) B (.slice (some ⟨w.heap.size,0,none⟩) n n) xs:=by
 subst hn
 refine ⟨some ⟨w.heap.size,0,none⟩,xs.length,rfl,fun i hi=>⟨w.heap.size,0,cur,rfl,hB,af _ _,?_⟩⟩
 subst h
 simp [aC,List.getD,List.getElem?_eq_getElem hi]
theorem j9 {wx W w':World} {B:Nat} {v v' bv:Value} {l:List (Ph×Value)} {p:Ph} (hN : ∀ x ∈ l,bz wx B x.2 x.1.bytes) (hown:wx.ownsRow B 281 4 v l.length (eK l)) (hb:Below wx.heap.size wx W) (hnew:bz W B bv p.bytes) (hg:W.grownBy w' v.ownBlock) (hown':w'.ownsRow B 281 4 v' (l.length+1) (eK l++[.int .i64 p.bW,bv,.int .i64 p.eN,.int .i64 p.read])):gk w' B v' (l.map (·.1)++[p]):=by
 have hne : ∀ (b:Nat) (cur:Array Value),W.heap[b]? = some (.cells cur 3 (0,0))→w'.heap[b]? = some (.cells cur 3 (0,0)):=by
  intro b cur hc
  have hlt:b<W.heap.size:=aP hc
  refine (hg.block b hlt fun e => ?_).trans hc
  rcases hown.2 with ⟨rfl,_⟩ | ⟨g,cap,cu,rfl,_,hgg,_⟩
  ·
   simp [Value.ownBlock] at e
  ·
   simp [Value.ownBlock] at e
   subst e
   have:=aa hb hgg
   rw [hc] at this
   simp at this
 have go : ∀ x:Ph×Value,bz W B x.2 x.1.bytes→bz w' B x.2 x.1.bytes:=by
  intro x hx
  obtain ⟨a,c,hv,hc⟩:=hx
  refine ⟨a,c,hv,fun i hi => ?_⟩
  obtain ⟨b,off,cur,ha,hB',hh,hx⟩:=hc i hi
  exact ⟨b,off,cur,ha,hB',hne b cur hh,hx⟩
 refine ⟨l++[(p,bv)],by simp,fun x hx => ?_,by simpa [eK] using hown'⟩
 rcases List.mem_append.1 hx with h | h
 ·
  exact go x ((hN x h).aj hb)
 ·
  obtain rfl:x=(p,bv):=by simpa using h
  exact go _ hnew
theorem rF {n:Nat} {w:World} (o:Obj) (h:n≤w.heap.size):n≤(w.alloc o).heap.size:=by simp;omega
theorem lL.lt {w:World} {b:Nat} {r:gF} (h:lL w b r):b<w.heap.size:=by obtain ⟨t,f,h⟩:=h;exact aP h
theorem CQ (a b c:Int) (v:Value) (h:v.oneCell'=true) : ∀ u ∈ [Value.int .i64 a,v,.int .i64 b,.int .i64 c],u.oneCell'=true:=by
 intro u hu;simp only [List.mem_cons,List.not_mem_nil,or_false] at hu;rcases hu with rfl | rfl | rfl | rfl <;> first | rfl | exact h
theorem bz.one {w:World} {B:Nat} {v:Value} {xs:List Int} (h:bz w B v xs):v.oneCell'=true:=by obtain ⟨a,c,rfl,_⟩:=h;rfl
theorem Ag {n:Nat} (h:n≤6):n+1≤maxLen∧(n+1) * 48≤140737488355328:=by simp only [maxLen];omega
theorem gL {w:World} {B:Nat} {t:TypeId} {size:Nat} {v:Value} {n:Nat} {xs:List Value} (h:w.ownsRow B t size v n xs) : ∀ k,v.ownBlock=some k→B≤k:=fun k hk=>(h.lt k hk).1
theorem _root_.Go.World.ownsRow.aj {w w':World} {B:Nat} {t:TypeId} {size:Nat} {v:Value} {n:Nat} {xs:List Value} (h:w.ownsRow B t size v n xs) (hb:Below w.heap.size w w'):w'.ownsRow B t size v n xs:=by
 refine ⟨h.1,?_⟩
 rcases h.2 with h2 | ⟨g,cap,cur,hv,hB,hg,r⟩
 ·
  exact .inl h2
 ·
  exact .inr ⟨g,cap,cur,hv,hB,aa hb hg,r⟩
theorem aU.aj {w w':World} {a:Option Addr} {xs:List Int} (h:aU w a xs) (hb:Below w.heap.size w w'):aU w' a xs:=by
 intro i hi
 obtain ⟨b,off,ha,hc⟩:=h i hi
 exact ⟨b,off,ha,(hb.cell (p:=⟨b,off+i,none⟩) (zL w _ hc)).trans hc⟩
theorem Gt (r:gF):r.cells = #[.int .i64 r.byte,.int .i64 r.addr,.bool r.mode,.int .i64 r.dummy,.int .i64 r.data,.bool r.jB]:=rfl
def Kq (ps:List Ph) (w:World) (e:Ending) (w':World):Prop := ∃ v,e=.returned (.tuple #[v,.int .i64 0])∧gk w' w.heap.size v ps∧Below w.heap.size w w'
theorem nv (r:gF) (i:Int) (a:Option Addr) (c:Nat) (xs:List Int) (read:Int) (w:World) (ok:LN r i xs read) (h1:aU w a xs) (hn:a=none→c=0):Calls prog 155 #[.agg r.cells,.int .i64 i,.slice a xs.length c,.int .i64 read] w (Kq (aQ r i xs read) w):=by
 rw [Gt r]
 go_enter func155,ntmps155
 go_wp2_with fail
 refine (rL _ _).mono ?_
 rintro e w1 ⟨rfl,hb1⟩
 rw [ok.err,ok.row,Gt r]
 go_upto_region 3 with (fail)
 generalize hW:w1.alloc _=w2
 have q2:Below w.heap.size w w2:=by rw [← hW];exact ae (gtr (ae zR _) hb1) _
 have x4:lL w2 w.heap.size r:=by
  rw [← hW];exact lL.aj ⟨_,_,aa hb1 (af _ _)⟩ (ae zR _)
 have x10:lL w2 w1.heap.size r:=by rw [← hW];exact ⟨_,_,af _ _⟩
 generalize w1.heap.size=b10 at *
 clear hW hb1 w1
 have h2:aU w2 a xs:=h1.aj q2
 have hl:xs.length≤512:=ok.len
 have hx8:xs.length * 8≤140737488355328:=by omega
 go_cut [68] from 20 to 68 (fun s wx=>s=.bool false ∧ ∃ n,wx=w2.drewN n)
 case first =>
  obtain ⟨c0,c1,c2,c3,c4,c5⟩:=x4.cell
  obtain ⟨d0,d1,d2,d3,d4,d5⟩:=x10.cell
  have g1 : ¬ i<0:=by have:=ok.lo;omega
  have g2 : ¬ 4096≤i:=by have:=ok.hi;omega
  have g3:(r.addr == 0)=true→(i != 0)=false:=fun h=>by
   have:=ok.Ez (by simpa using h);simp [this]
  have g4 : ¬ (512:Int)<(xs.length:Int):=by omega
  have g5 : ¬ read<0:=by have:=ok.M3;omega
  have g6 : ¬ 512<read:=by have:=ok.M1;omega
  have HB:=zH ok.bytes
  have HFt:=zH ok.fits
  clear ok
  have hany:xs.any (fun b => !isByte b)=false:=by rw [q8,HB.out];rfl
  have HA:=zH hany
  clear hany HB
  cases ha:(r.addr == 0) with
  | true =>
   have i0:=g3 ha
   clear g3
   go_wp2_with fail
   refine (fq _ _ yJ a c xs _ h2 (by omega)).mono ?_
   rintro e w' ⟨rfl,n,rfl⟩
   rw [HA.out]
   go_wp2_with fail
   refine (wT _ r _ _ _ ?_).mono ?_
   ·
    exact x4.aj (aY zR _)
   rintro e w' ⟨rfl,rfl⟩
   rw [HFt.out]
   go_wp2
   go_meet
   exact ⟨by rw [decide_eq_false (by omega),decide_eq_false (by omega)];rfl,n,rfl⟩
  | false =>
   clear g3
   go_wp2_with fail
   refine (fq _ _ yJ a c xs _ h2 (by omega)).mono ?_
   rintro e w' ⟨rfl,n,rfl⟩
   rw [HA.out]
   go_wp2_with fail
   refine (wT _ r _ _ _ ?_).mono ?_
   ·
    exact x4.aj (aY zR _)
   rintro e w' ⟨rfl,rfl⟩
   rw [HFt.out]
   go_wp2
   go_meet
   exact ⟨by rw [decide_eq_false (by omega),decide_eq_false (by omega)];rfl,n,rfl⟩
 case rest =>
  obtain ⟨rfl,n,rfl⟩:=hcut
  have q3:Below w.heap.size w (w2.drewN n):=aY q2 n
  have x3:lL (w2.drewN n) w.heap.size r:=x4.aj (aY zR n)
  have h3:aU (w2.drewN n) a xs:=h2.aj (aY zR n)
  generalize w2.drewN n=w3 at *
  clear h2 h1 x4 x10 q2 w2
  have hi0:=ok.lo
  have hi1:=ok.hi
  have hr0:=ok.M3
  have hr1:=ok.M1
  have e1:i / 65536=0:=by omega
  have e2:bits .and .i64 (i / 256) 255=i / 256:=by rw [IT];omega
  have e3:bits .and .i64 i 255=i % 256:=IT i
  clear ok
  generalize Value.agg #[.int .i64 r.byte,.int .i64 r.addr,.bool r.mode,.int .i64 r.dummy,.int .i64 r.data,.bool r.jB]=vagg
  obtain ⟨i0,hi,hz0,hz1,hz2⟩:=info_parts EM
  obtain ⟨c0,c1,c2,c3,c4,c5⟩:=x3.cell
  clear c1 c2 c3 c4 c5
  go_upto_region 6 with (fail)
  have hN4:=EN (w3.alloc (.cells #[.int .i64 r.byte] 3)) w3.heap.size (by simp) ⟨1,[r.byte],0,0⟩ _ (uu w3 w3.heap.size zY [r.byte] _ rfl 1 rfl)
  have hb4:Below w3.heap.size w3 ((w3.alloc (.cells #[.int .i64 r.byte] 3)).alloc (.cells #[.int .i64 1,.slice (some ⟨w3.heap.size,0,none⟩) 1 1,.int .i64 0,.int .i64 0] 281)):=ae (ae zR _) _
  simp only [World.size_alloc] at hN4
  generalize (w3.alloc _).alloc _=w4 at *
  generalize Value.slice (some ⟨w3.heap.size+1,0,none⟩) 1 1=v4 at *
  have x4:=x3.aj hb4
  obtain ⟨c0,c1,c2,c3,c4,c5⟩:=x4.cell
  go_upto_if 76 with (fail)
  go_cut [13] from 14 (fun v wx=>gk wx w3.heap.size v ([⟨1,[r.byte],0,0⟩]++(if 0<r.addr then [⟨r.addr,[0,i / 256,i % 256],0,0⟩] else []))∧Below w3.heap.size w3 wx)
  case first =>
   by_cases ha:0<r.addr
   ·
    obtain ⟨l,hll,hN,hown⟩:=hN4
    have hlen:l.length≤6:=by have:=congrArg List.length hll;simp at this;omega
    have hN:=zH hN
    have hll:=zH hll
    clear c0 c2 c3 c4 c5
    go_wp2_with (at_builtin;refine wpList_append_own _ rfl _ _ 139 rfl w3.heap.size 281 i0 (.agg #[.int .i64 0,.slice none 0 0,.int .i64 0,.int .i64 0]) 4 48 underlying139 hi hz0 hz1 hz2 rfl (by decide) v4 l.length (eK l) ?a1 ((hown.alloc _).alloc _) ⟨w4.heap.size+1,0,none⟩ 1 1 [.int .i64 r.addr,.slice (some ⟨w4.heap.size,0,none⟩) 3 3,.int .i64 0,.int .i64 0] ?a2 rfl ?a3 ?a4 ?a5 ?a6 ?a7 ?_)
    case a1=>rfl
    case a2=>rfl
    case a3=>exact World.news_of_block (cs := #[.int .i64 r.addr,.slice (some ⟨w4.heap.size,0,none⟩) 3 3,.int .i64 0,.int .i64 0]) (t:=281) (fr:=(0,0)) (by simpa using af (w4.alloc _) _)
    case a4=>intro u hu;simp only [List.mem_cons,List.not_mem_nil,or_false] at hu;rcases hu with rfl | rfl | rfl | rfl <;> rfl
    case a5=>simp only [maxLen];omega
    case a6=>omega
    case a7=>have:=hb4.size;simp;omega
    intro v' w' hown' hg _
    have hpush:=j9 (p:=⟨r.addr,[0,i / 256,i % 256],0,0⟩) hN.out hown (ae (ae zR _) _) ((uu w4 _ hb4.size [0,i / 256,i % 256] _ rfl 3 rfl).aj (ae zR _)) hg hown'
    have hbel:Below w3.heap.size w3 w':=dP (gtr hb4 (ae (ae zR _) _)) hg (gL hown)
    rw [hll.out] at hpush
    clear hown' hg
    go_wp2
    go_meet
    exact ⟨by rw [if_pos ha];exact hpush,hbel⟩
   ·
    go_wp2
    go_meet
    exact ⟨by rw [if_neg (by omega),List.append_nil];exact hN4,hb4⟩
  case rest =>
   obtain ⟨hN5,hb5⟩:=hcut
   generalize hps:([⟨1,[r.byte],0,0⟩]++(if 0<r.addr then [⟨r.addr,[0,i / 256,i % 256],0,0⟩] else []):List Ph)=ps5 at *
   have hlen5:ps5.length≤2:=by rw [← hps];simp;split <;> simp
   have HPS:=zH hps
   clear hps c0 c1 c2 c3 c4 c5 hN4 hb4 x4 e1 e2 e3
   have x5:=x3.aj hb5
   have h5:=h3.aj hb5
   obtain ⟨c0,c1,c2,c3,c4,c5⟩:=x5.cell
   clear c0 c3 c4 c5
   go_upto_if 92 with (fail)
   go_cut [13] from 14 (fun v wx=>gk wx w3.heap.size v (ps5++(if r.mode then [⟨r.addr,xs,0,0⟩] else []))∧Below w3.heap.size w3 wx)
   case first =>
    cases hmode:r.mode with
    | false =>
     go_wp2
     go_meet
     exact ⟨by rw [if_neg (by rw [hmode];decide),List.append_nil];exact hN5,hb5⟩
    | true =>
     obtain ⟨l,hll,hN,hown⟩:=hN5
     have hlen:l.length≤6:=by have:=congrArg List.length hll;simp at this;omega
     have hN:=zH hN
     have hll:=zH hll
     clear c2
     go_wp2_with fail
     have hs5:=hb5.size
     have hownd:wc.drew.ownsRow _ _ _ _ _ _:=hown
     have hne:u13.ownBlock≠some w.heap.size:=fun e=>by have:=gL hown _ e;have:=x3.lt;omega
     have h5d:aU wc.drew a xs:=h5
     have hlt5:=x5.lt
     obtain ⟨m1,m2⟩:=Ag hlen
     go_region_held3 (fun w'=>w'.cell? ⟨w.heap.size,1,none⟩=some (.int .i64 r.addr)) (first | go_keep | exact (hbx.cell (p:=⟨w.heap.size,1,none⟩) hlt5).trans c1 | exact (hgrow.cell_far ⟨w.heap.size,1,none⟩ (rF _ hltx) (Ne.symm hne)).trans ((World.cell?_alloc_lt _ _ _ hltx).trans ((hbx.cell (p:=⟨w.heap.size,1,none⟩) hlt5).trans c1))) (first
       | (go_at_call 56;refine (nZ a c xs _ h5d hn hx8).mono ?_;rintro e wx ⟨ax,cx,rfl,hvx,hbx⟩;have hsx:=hbx.size;have hltx:=zV hlt5 hsx)
       | (refine step_append_lies _ rfl _ _ _ rfl w3.heap.size 281 i0 (.agg #[.int .i64 0,.slice none 0 0,.int .i64 0,.int .i64 0]) 4 48 underlying139 hi hz0 hz1 hz2 rfl (Nat.lt_of_sub_eq_succ rfl) u13 l.length (eK l) rfl ((hownd.aj hbx).alloc _) ⟨wx.heap.size,0,none⟩ 1 1 [.int .i64 r.addr,.slice ax xs.length cx,.int .i64 0,.int .i64 0] rfl rfl (World.news_of_block (cs := #[.int .i64 r.addr,.slice ax xs.length cx,.int .i64 0,.int .i64 0]) (t:=281) (fr:=(0,0)) (heap_alloc_new wx _)) (CQ _ _ _ _ hvx.one) Nat.one_pos m1 m2 (rF _ (Nat.le_trans hs5 hsx)) (wx.heap.size+1) (World.size_alloc _ _) ?_;intro gg cap w7 hown7 hgrow hat hlt))
     all_goals
      have hpush:=j9 (p:=⟨r.addr,xs,0,0⟩) hN.out hown (gtr (au zR) (gtr hbx (ae zR _))) ((hvx.mono hs5).aj (ae zR _)) hgrow hown7
      have hbel:=dP (gtr hb5 (gtr (au zR) (gtr hbx (ae zR _)))) hgrow (gL hown)
      rw [hll.out] at hpush
      clear hown7 hgrow hat hlt
      go_wp2
      go_meet
      exact ⟨by rw [if_pos hmode];exact hpush,hbel⟩
   case rest =>
    obtain ⟨hN6,hb6⟩:=hcut
    generalize hps6:(ps5++(if r.mode then [⟨r.addr,xs,0,0⟩] else []):List Ph)=ps6 at *
    have hlen6:ps6.length≤3:=by rw [← hps6];simp;split <;> simp <;> omega
    have HPS6:=zH hps6
    clear hps6 hN5 hb5 x5 h5 c1 c2
    have x6:=x3.aj hb6
    have h6:=h3.aj hb6
    obtain ⟨c0,c1,c2,c3,c4,c5⟩:=x6.cell
    clear c0 c1 c2 c4 c5
    go_upto_if 103 with (fail)
    go_cut [13] from 14 (fun v wx=>gk wx w3.heap.size v (ps6++(if 0<r.dummy then [⟨0,[],r.dummy,0⟩] else []))∧Below w3.heap.size w3 wx)
    case first =>
     by_cases ha:0<r.dummy
     ·
      obtain ⟨l,hll,hN,hown⟩:=hN6
      have hlen:l.length≤6:=by have:=congrArg List.length hll;simp at this;omega
      have hN:=zH hN
      have hll:=zH hll
      go_wp2_with (at_builtin;refine wpList_append_own _ rfl _ _ 139 rfl w3.heap.size 281 i0 (.agg #[.int .i64 0,.slice none 0 0,.int .i64 0,.int .i64 0]) 4 48 underlying139 hi hz0 hz1 hz2 rfl (by decide) _ l.length (eK l) ?b1 (hown.alloc _) ⟨wc.heap.size,0,none⟩ 1 1 [.int .i64 0,.slice none 0 0,.int .i64 r.dummy,.int .i64 0] ?b2 rfl ?b3 ?b4 ?b5 ?b6 ?b7 ?_)
      case b1=>rfl
      case b2=>rfl
      case b3=>exact World.news_of_block (cs := #[.int .i64 0,.slice none 0 0,.int .i64 r.dummy,.int .i64 0]) (t:=281) (fr:=(0,0)) (af wc _)
      case b4=>intro u hu;simp only [List.mem_cons,List.not_mem_nil,or_false] at hu;rcases hu with rfl | rfl | rfl | rfl <;> rfl
      case b5=>simp only [maxLen];omega
      case b6=>omega
      case b7=>have:=hb6.size;simp;omega
      intro v' w' hown' hg _
      have hpush:=j9 (p:=⟨0,[],r.dummy,0⟩) hN.out hown (ae zR _) (bz.nil _ _) hg hown'
      have hbel:Below w3.heap.size w3 w':=dP (gtr hb6 (ae zR _)) hg (gL hown)
      rw [hll.out] at hpush
      clear hown' hg
      go_wp2
      go_meet
      exact ⟨by rw [if_pos ha];exact hpush,hbel⟩
     ·
      go_wp2
      go_meet
      exact ⟨by rw [if_neg (by omega),List.append_nil];exact hN6,hb6⟩
    case rest =>
     obtain ⟨hN7,hb7⟩:=hcut
     generalize hps7:(ps6++(if 0<r.dummy then [⟨0,[],r.dummy,0⟩] else []):List Ph)=ps7 at *
     have hlen7:ps7.length≤4:=by rw [← hps7];simp;split <;> simp <;> omega
     have HPS7:=zH hps7
     clear hps7 hN6 hb6 x6 h6 c3
     have x7:=x3.aj hb7
     have h7:=h3.aj hb7
     obtain ⟨c0,c1,c2,c3,c4,c5⟩:=x7.cell
     clear c0 c1 c2 c3
     go_upto_region 12 with (fail)
     go_cut [116] from 14 (fun v wx=>v=.bool (r.jB&&decide (0<(xs.length:Int)))∧wx=wc)
     case first =>
      cases hinn:r.jB with
      | true=>rw [hinn] at c5;go_wp2_with fail;go_meet;exact ⟨by simp [hinn],rfl⟩
      | false=>rw [hinn] at c5;go_wp2_with fail;go_meet;exact ⟨by simp [hinn],rfl⟩
     case rest =>
      obtain ⟨rfl,rfl⟩:=hcut
      go_upto_if 116 with (fail)
      go_cut [13] from 14 (fun v wx=>gk wx w3.heap.size v (ps7++(if r.jB=true∧0<xs.length then [⟨r.data,xs,0,0⟩] else []))∧Below w3.heap.size w3 wx)
      case first =>
       cases hcond:(r.jB&&decide (0<(xs.length:Int))) with
       | false =>
        have hno : ¬ (r.jB=true∧0<xs.length):=by
         intro ⟨k1,k2⟩;rw [k1,decide_eq_true (by omega)] at hcond;cases hcond
        clear c4 c5 hcond
        go_wp2
        go_meet
        exact ⟨by rw [if_neg hno,List.append_nil];exact hN7,hb7⟩
       | true =>
        have hyes:r.jB=true∧0<xs.length:=by
         simp at hcond;exact ⟨hcond.1,by omega⟩
        have HY:=zH hyes
        clear hyes hcond c5
        obtain ⟨l,hll,hN,hown⟩:=hN7
        have hlen:l.length≤6:=by have:=congrArg List.length hll;simp at this;omega
        have hN:=zH hN
        have hll:=zH hll
        go_wp2_with fail
        have hs5:=hb7.size
        have hownd:wc.drew.ownsRow _ _ _ _ _ _:=hown
        have hne:u13.ownBlock≠some w.heap.size:=fun e=>by have:=gL hown _ e;have:=x3.lt;omega
        have h7d:aU wc.drew a xs:=h7
        have hlt5:=x7.lt
        obtain ⟨m1,m2⟩:=Ag hlen
        go_region_held3 (fun w'=>w'.cell? ⟨w.heap.size,4,none⟩=some (.int .i64 r.data)) (first | go_keep | exact (hbx.cell (p:=⟨w.heap.size,4,none⟩) hlt5).trans c4 | exact (hgrow.cell_far ⟨w.heap.size,4,none⟩ (rF _ hltx) (Ne.symm hne)).trans ((World.cell?_alloc_lt _ _ _ hltx).trans ((hbx.cell (p:=⟨w.heap.size,4,none⟩) hlt5).trans c4))) (first
          | (go_at_call 56;refine (nZ a c xs _ h7d hn hx8).mono ?_;rintro e wx ⟨ax,cx,rfl,hvx,hbx⟩;have hsx:=hbx.size;have hltx:=zV hlt5 hsx)
          | (refine step_append_lies _ rfl _ _ _ rfl w3.heap.size 281 i0 (.agg #[.int .i64 0,.slice none 0 0,.int .i64 0,.int .i64 0]) 4 48 underlying139 hi hz0 hz1 hz2 rfl (Nat.lt_of_sub_eq_succ rfl) u13 l.length (eK l) rfl ((hownd.aj hbx).alloc _) ⟨wx.heap.size,0,none⟩ 1 1 [.int .i64 r.data,.slice ax xs.length cx,.int .i64 0,.int .i64 0] rfl rfl (World.news_of_block (cs := #[.int .i64 r.data,.slice ax xs.length cx,.int .i64 0,.int .i64 0]) (t:=281) (fr:=(0,0)) (heap_alloc_new wx _)) (CQ _ _ _ _ hvx.one) Nat.one_pos m1 m2 (rF _ (Nat.le_trans hs5 hsx)) (wx.heap.size+1) (World.size_alloc _ _) ?_;intro gg cap w7 hown7 hgrow hat hlt))
        all_goals
         have hpush:=j9 (p:=⟨r.data,xs,0,0⟩) hN.out hown (gtr (au zR) (gtr hbx (ae zR _))) ((hvx.mono hs5).aj (ae zR _)) hgrow hown7
         have hbel:=dP (gtr hb7 (gtr (au zR) (gtr hbx (ae zR _)))) hgrow (gL hown)
         rw [hll.out] at hpush
         clear hown7 hgrow hat hlt
         go_wp2
         go_meet
         exact ⟨by rw [if_pos HY.out];exact hpush,hbel⟩
      case rest =>
       obtain ⟨hN8,hb8⟩:=hcut
       generalize hps8:(ps7++(if r.jB=true∧0<xs.length then [⟨r.data,xs,0,0⟩] else []):List Ph)=ps8 at *
       have hlen8:ps8.length≤5:=by rw [← hps8];simp;split <;> simp <;> omega
       have HPS8:=zH hps8
       clear hps8 hN7 hb7 x7 h7 c4 c5
       have x8:=x3.aj hb8
       obtain ⟨c0,c1,c2,c3,c4,c5⟩:=x8.cell
       clear c0 c1 c2 c3 c5
       have hfin:aQ r i xs read=ps8++(if 0<read then [⟨r.data,[],0,read⟩] else []):=by
        unfold aQ;rw [HPS.out,HPS6.out,HPS7.out,HPS8.out]
       have HFIN:=zH hfin
       clear hfin HPS HPS6 HPS7 HPS8
       by_cases ha:0<read
       ·
        obtain ⟨l,hll,hN,hown⟩:=hN8
        have hlen:l.length≤6:=by have:=congrArg List.length hll;simp at this;omega
        have hN:=zH hN
        have hll:=zH hll
        go_wp2_with (at_builtin;refine wpList_append_own _ rfl _ _ 139 rfl w3.heap.size 281 i0 (.agg #[.int .i64 0,.slice none 0 0,.int .i64 0,.int .i64 0]) 4 48 underlying139 hi hz0 hz1 hz2 rfl (by decide) _ l.length (eK l) ?d1 (hown.alloc _) ⟨wc.heap.size,0,none⟩ 1 1 [.int .i64 r.data,.slice none 0 0,.int .i64 0,.int .i64 read] ?d2 rfl ?d3 ?d4 ?d5 ?d6 ?d7 ?_)
        case d1=>rfl
        case d2=>rfl
        case d3=>exact World.news_of_block (cs := #[.int .i64 r.data,.slice none 0 0,.int .i64 0,.int .i64 read]) (t:=281) (fr:=(0,0)) (af wc _)
        case d4=>intro u hu;simp only [List.mem_cons,List.not_mem_nil,or_false] at hu;rcases hu with rfl | rfl | rfl | rfl <;> rfl
        case d5=>simp only [maxLen];omega
        case d6=>omega
        case d7=>have:=hb8.size;simp;omega
        intro v' w' hown' hg _
        have hpush:=j9 (p:=⟨r.data,[],0,read⟩) hN.out hown (ae zR _) (bz.nil _ _) hg hown'
        have hbel:Below w3.heap.size w3 w':=dP (gtr hb8 (ae zR _)) hg (gL hown)
        rw [hll.out] at hpush
        clear hown' hg
        go_wp2
        go_ret2
        exact ⟨v',rfl,by rw [HFIN.out,if_pos ha];exact hpush.mono q3.size,gtr q3 hbel⟩
       ·
        go_wp2
        go_ret2
        exact ⟨_,rfl,by rw [HFIN.out,if_neg (by omega),List.append_nil];exact hN8.mono q3.size,gtr q3 hb8⟩
end
section
open Go.RowKit
def bt (s:ByteArray) (i:Nat):UInt8:=s.data.getD i 0
def mk (n:Nat) (f:Nat→UInt8):ByteArray:=⟨Array.ofFn (n:=n) fun i=>f i⟩
theorem eJ (n:Nat) (f:Nat→UInt8):(mk n f).size=n:=by simp [mk,ByteArray.size]
theorem lR (n:Nat) (f:Nat→UInt8) (i:Nat) (h:i<n):bt (mk n f) i=f i:=by simp [bt,mk,h]
theorem pG (s:ByteArray) (i:Nat) (h:i<s.data.size):s.data[i]'h=bt s i:=by
 unfold bt
 rw [Array.getD_eq_getD_getElem?,Array.getElem?_eq_getElem h]
 rfl
theorem gT (s:ByteArray) (i:Nat) (h:i<s.size):s[i]'h=bt s i:=pG s i h
theorem fH {s t:ByteArray} (h:s.size=t.size) (hb : ∀ i,i<s.size→bt s i=bt t i):s=t:=by
 obtain ⟨a⟩:=s
 obtain ⟨b⟩:=t
 congr 1
 refine Array.ext h fun i h1 h2 => ?_
 have:=hb i h1
 rw [← pG ⟨a⟩ i h1,← pG ⟨b⟩ i h2] at this
 exact this
theorem mk_congr {n:Nat} {f g:Nat→UInt8} (h : ∀ i,i<n→f i=g i):mk n f=mk n g :=
 fH (by rw [eJ,eJ]) fun i hi=>by rw [eJ] at hi;rw [lR _ _ _ hi,lR _ _ _ hi,h i hi]
theorem back_mk (l:List UInt8) (f:Nat→UInt8) (n:Nat) (hn:l.length=n) (h : ∀ i (hi:i<l.length),l[i]=f i):(⟨l.toArray⟩:ByteArray)=mk n f:=by
 subst hn
 refine fH (by rw [eJ];simp [ByteArray.size]) fun i hi => ?_
 have hi':i<l.length:=by simpa [ByteArray.size] using hi
 rw [lR _ _ _ hi',← h i hi']
 simp [bt,hi']
theorem qn (x y:UInt8):bits .andNot .u8 (x.toNat:Int) (y.toNat:Int)=((x &&& ~~~y).toNat:Int):=by
 rw [u8_andNot_nat _ _ x.toNat_lt y.toNat_lt]
 simp [UInt8.toNat_and,UInt8.toNat_not]
theorem Iu (x y:UInt8):bits .or .u8 (x.toNat:Int) (y.toNat:Int)=((x ||| y).toNat:Int):=by
 rw [u8_or_nat _ _ x.toNat_lt y.toNat_lt]
 simp [UInt8.toNat_or]
def eD (m:ByteArray) (i:Nat):UInt8:=if m.size=0 then 0 else bt m (i % m.size)
def iH (m d:ByteArray) (i:Nat) (old:UInt8):UInt8:=old &&& ~~~(eD m i &&& ~~~(bt d i))
def iU (m:ByteArray) (i:Nat) (old:UInt8):UInt8:=old ||| eD m i
def lF (s:ByteArray) (p n:Nat) (f:Nat→UInt8→UInt8):ByteArray:=mk s.size fun j=>if p≤j∧j<p+n then f (j - p) (bt s j) else bt s j
end
end Go.Proofs.YtcfdenckiigdaaaGreat

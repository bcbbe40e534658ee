/- Part 49 of the contracts. -/
import Derived.Test.YtcfdenckiigdaaaGreatFl48
set_option linter.unusedVariables false
set_option maxRecDepth 100000
set_option maxHeartbeats 4000000
namespace Go.Proofs.YtcfdenckiigdaaaGreat
open Tryz
section
open Go.RowKit
theorem Jw:(prog.info? 31).map (fun i=>(i.zero,i.size,i.bytes))=some (some (.agg #[.int .i64 0,.string ⟨#[]⟩,.string ⟨#[]⟩,.int .i64 0,.int .i64 0,.int .i64 0,.string ⟨#[]⟩,.slice none 0 0,.slice none 0 0]),9,128):=by kernel_rfl
structure sS (w3 wr:World) (v:Value) (l:List cd) (sh:List (Int×ByteArray)):Prop where
 below:Below w3.heap.size w3 wr
 own:wr.ownsRow w3.heap.size 31 9 v l.length (eW l)
 shape:(l.map fun x=>(x.kind,x.key))=sh
 plain : ∀ a ∈ l,mX a
theorem sS.grow {w3 wr w1 w2:World} {v v':Value} {l:List cd} {sh:List (Int×ByteArray)} (h:sS w3 wr v l sh) (hb:Below wr.heap.size wr w1) (hg:w1.grownBy w2 v.ownBlock) (xs:List cd) (ho:w2.ownsRow w3.heap.size 31 9 v' (l++xs).length (eW (l++xs))) (hp : ∀ a ∈ xs,mX a):sS w3 w2 v' (l++xs) (sh++xs.map fun x=>(x.kind,x.key)) :=
 ⟨ja h.below (bQ h.own) (eO hb hg),ho,by rw [List.map_append,h.shape],fun a ha=>(List.mem_append.1 ha).elim (h.plain a) (hp a)⟩
theorem pM (i:Nat):(gv i).size=1:=by
 unfold gv
 by_cases h:i<8
 ·
  have key : ∀ j:Fin 8,(k8.getD j.1 rE).size=1:=by decide +kernel
  exact key ⟨i,h⟩
 ·
  have:k8.getD i rE=rE:=by rw [List.getD_eq_getElem?_getD,List.getElem?_eq_none (by show 8≤i;omega)];rfl
  rw [this];decide
theorem mL {k v:ByteArray} (h1:k.size=1) (h2:v.size≤20):mX (fL 2 k v):=⟨.inl rfl,by show 1≤k.size;omega,by show k.size≤6;omega,h2,fun h=>(by cases h),rfl,rfl,rfl,rfl,rfl,rfl⟩
theorem Hs {k:ByteArray} (h1:k.size=1):mX (fL 4 k ⟨#[]⟩):=⟨.inr rfl,by show 1≤k.size;omega,by show k.size≤6;omega,by show (⟨#[]⟩:ByteArray).size≤20;decide,fun _=>rfl,rfl,rfl,rfl,rfl,rfl,rfl⟩
theorem vT (kind:Int) (k v:ByteArray) (l:List cd):eW (l++[fL kind k v])=eW l++[.int .i64 kind,.string k,.string v,.int .i64 0,.int .i64 0,.int .i64 0,.string ⟨#[]⟩,.slice none 0 0,.slice none 0 0]:=AA l _
theorem FQ (w:World) (o1 o2:Obj):((w.alloc o1).alloc o2).heap[w.heap.size+1]? = some o2:=by simpa using af (w.alloc o1) o2
theorem BG (a b:List cd):eW (a++b)=eW a++eW b:=List.flatMap_append
def As (w:World) (b:Nat):Prop := ∀ j,j<8→w.cell? ⟨b,j,none⟩=some (.string (gv j))
theorem K4 {w:World} {b:Nat} (h:w.heap[b]? = some (.cells #[.string ⟨#[97]⟩,.string ⟨#[98]⟩,.string ⟨#[99]⟩,.string ⟨#[100]⟩,.string ⟨#[101]⟩,.string ⟨#[102]⟩,.string ⟨#[103]⟩,.string ⟨#[104]⟩] 9 (0,0))):As w b:=by
 intro j hj
 rw [cell_of h]
 match j,hj with
 | 0,_=>rfl
 | 1,_=>rfl
 | 2,_=>rfl
 | 3,_=>rfl
 | 4,_=>rfl
 | 5,_=>rfl
 | 6,_=>rfl
 | 7,_=>rfl
theorem As.aj {w w':World} {b:Nat} (h:As w b) (hb:Below w.heap.size w w'):As w' b:=fun j hj=>(hb.cell (p:=⟨b,j,none⟩) (zL w _ (h j hj))).trans (h j hj)
theorem CK (q0 q q1:Bool) (a0 a3:Option Addr) (n0 c0 n3 c3:Nat) (x:Int) : ∀ j:Nat,(#[.bool q0,.slice a0 n0 c0,.bool q,.slice a3 n3 c3,.bool q1]:Array Value)[j]? ≠ some (.int .i64 x)
 | 0=>by simp
 | 1=>by simp
 | 2=>by simp
 | 3=>by simp
 | 4=>by simp
 | j+5=>by simp
theorem CM {w:World} {g:Nat} {G:Nat→Prop} {ps:List aK} (h:iw w g G ps):Plain w g:=by
 obtain ⟨_,a,c,q,a3,n3,c3,m2,_⟩:=h
 refine ⟨fun i x => ?_,fun t => ?_⟩
 ·
  rw [cell_of m2]
  exact CK _ _ _ _ _ _ _ _ _ x i
 ·
  rw [cell_of m2]
  simp
def kA (w:World) (ab:Nat) (l:List cd):Prop := ∀ i q,(eW l)[i]? = some q→w.cell? ⟨ab,i,none⟩=some q
theorem kA.aH {w w':World} {ab:Nat} {l:List cd} {F:Nat→Prop} (h:kA w ab l) (t:Touch F w w') (hn : ¬ F ab):kA w' ab l:=fun i q hq=>t.cell ab i (h i q hq) hn
theorem IS {w:World} {B n:Nat} {a:Option Addr} {c:Nat} {l:List cd} (h:w.ownsRow B 31 9 (.slice a n c) n (eW l)) (hn:0<n) : ∃ ab,a=some ⟨ab,0,none⟩∧B≤ab∧ab<w.heap.size∧kA w ab l:=by
 obtain ⟨b,o,e,_,hx⟩:=(aT.dd h).some hn
 rcases h.2 with ⟨e2,h0⟩ | ⟨k,cap,cur,e2,hb,hh,_⟩
 ·
  omega
 ·
  rw [e] at e2
  have e3:b=k∧o=0:=by simpa using (Value.slice.inj e2).1
  obtain ⟨rfl,rfl⟩:=e3
  exact ⟨b,e,hb,aP hh,fun i q hq=>by rw [← Nat.zero_add i];exact hx i q hq⟩
theorem kA.row {w:World} {ab:Nat} {l:List cd} (h:kA w ab l) (i:Nat) (hi:i<l.length) (j:Nat) (q:Value) (hj:j<9) (hq:(kT l[i])[j]? = some q):w.cell? ⟨ab,i * 9+j,none⟩=some q:=by
 rw [show i * 9+j=9 * i+j by omega]
 exact h _ _ ((vS l i hi j hj).trans hq)
theorem Ff (l:List cd) (j:Nat) (h:j<l.length):mw [] (l.take (j+1))=(fA (mw [] (l.take j)) l[j]).2:=by
 unfold mw
 rw [List.take_succ_eq_append_getElem h,List.foldl_append]
 rfl
theorem Hu {x:cd} (h:mX x):x.row none 0 none 0 = #[.int .i64 x.kind,.string x.key,.string x.value,.int .i64 0,.int .i64 0,.int .i64 0,.string ⟨#[]⟩,.slice none 0 0,.slice none 0 0]:=by
 unfold cd.row
 rw [h.at_,h.width,h.cm,h.mask,h.busy,h.reads]
 rfl
theorem yA (m gone again:Int) (w:World):Calls prog 6 #[.int .i64 m,.int .i64 gone,.int .i64 again] w fun e w'=>e=.returned (.bool true)∧Below w.heap.size w w':=by
 have HA:=zH (BI w)
 have HBG:=zH (fun w=>BL ⟨#[116]⟩ w (by decide))
 have HM:=zH vC
 obtain ⟨i0,hi,hz0,hz1,hz2⟩:=info_parts Jw
 generalize km ⟨#[116]⟩=img at *
 go_enter func6,ntmps6
 go_upto_region 3 with (go_at_call 9;refine HA.out.mono ?_;rintro e w1 ⟨rfl,hb1⟩)
 go_upto_region 4 with (go_at_call 10;refine (HBG.out _).mono ?_;rintro e w2 ⟨p,W0,G0,x0,g,rfl,ho,hn0,hs,hl,hg,hgl,hng⟩)
 have HO:=zH (zA (show Own w w2 p W0 G0 from ⟨ho.at_,gtr hb1 ho.below,fun i hi=>Nat.le_trans hb1.size (ho.new i hi)⟩) (zA hn0 (zA (show fG x0 W0.S [] 1 from ⟨4,V0,hl,rfl,by decide,hs⟩) (zA (show iw w2 g G0 [] from ⟨hng,none,0,false,none,0,0,hg,aT.nil _ _,fun b o e=>by cases e⟩) (Nat.le_trans hb1.size hgl)))))
 clear ho hn0 hs hl hg hgl hng hb1 HA HBG
 go_upto_region 8 with fail
 have HK:=zH (K4 (af w2 (.cells #[.string ⟨#[97]⟩,.string ⟨#[98]⟩,.string ⟨#[99]⟩,.string ⟨#[100]⟩,.string ⟨#[101]⟩,.string ⟨#[102]⟩,.string ⟨#[103]⟩,.string ⟨#[104]⟩] 9)))
 have hb3:=ae (Below.refl w2.heap.size w2) (.cells #[.string ⟨#[97]⟩,.string ⟨#[98]⟩,.string ⟨#[99]⟩,.string ⟨#[100]⟩,.string ⟨#[101]⟩,.string ⟨#[102]⟩,.string ⟨#[103]⟩,.string ⟨#[104]⟩] 9)
 have HO3:=zH (zA (HO.out.1.aj hb3) (zA HO.out.2.1 (zA HO.out.2.2.1 (zA (HO.out.2.2.2.1.aj hb3) HO.out.2.2.2.2))))
 clear hb3 HO
 generalize w2.alloc (.cells #[.string ⟨#[97]⟩,.string ⟨#[98]⟩,.string ⟨#[99]⟩,.string ⟨#[100]⟩,.string ⟨#[101]⟩,.string ⟨#[102]⟩,.string ⟨#[103]⟩,.string ⟨#[104]⟩] 9)=w3 at *
 generalize w2.heap.size=kb at *
 go_wp2
 go_loopg [10,11] 8 (fun n v i wr => ∃ (j:Nat) (l:List cd) (xa:Option Addr) (xc:Nat),n=8 - j∧i=.int .i64 j∧j≤8∧v=.slice xa j xc∧sS w3 wr (.slice xa j xc) l (gC j))
 case atStart=>exact ⟨0,[],none,0,rfl,rfl,Nat.zero_le _,rfl,Below.refl _ _,zN,rfl,fun a h=>by cases h⟩
 case round =>
  obtain ⟨j,l,xa,xc,hgn,rfl,hj,rfl,hmd⟩:=hrel
  have hll:l.length=j:=by have:=congrArg List.length hmd.shape;simpa [gC] using this
  have how0:=hmd.own
  rw [hll] at how0
  have HB:=zH (zA hgn (zA hmd how0))
  clear hgn hmd how0
  by_cases hlt:j<8
  ·
   have hlt':(j:Int)<8:=by omega
   have ck:wr.cell? ⟨kb,j,none⟩=some (.string (gv j)):=(HK.out.aj HB.out.2.1.below) j hlt
   go_wp2_with (at_builtin;refine wpList_append_lies _ rfl _ _ 43 rfl w3.heap.size 31 i0 (.agg #[.int .i64 0,.string ⟨#[]⟩,.string ⟨#[]⟩,.int .i64 0,.int .i64 0,.int .i64 0,.string ⟨#[]⟩,.slice none 0 0,.slice none 0 0]) 9 128 underlying43 hi hz0 hz1 hz2 rfl (by decide) (.slice xa j xc) j (eW l) ?a1 (World.ownsRow.aj HB.out.2.2 (ae zR _)) ⟨wr.heap.size,0,none⟩ 1 1 [.int .i64 2,.string (gv j),.string ⟨#[49]⟩,.int .i64 0,.int .i64 0,.int .i64 0,.string ⟨#[]⟩,.slice none 0 0,.slice none 0 0] ?a2 rfl ?a3 ?a4 (by decide) ?a5 ?a6 ?a7 _ rfl ?_)
   case a1=>rfl
   case a2=>rfl
   case a3=>exact World.news_of_block (cs := #[.int .i64 2,.string (gv j),.string ⟨#[49]⟩,.int .i64 0,.int .i64 0,.int .i64 0,.string ⟨#[]⟩,.slice none 0 0,.slice none 0 0]) (t:=31) (fr:=(0,0)) (af wr _)
   case a4=>intro u hu;simp only [List.mem_cons,List.not_mem_nil,or_false] at hu;rcases hu with rfl | rfl | rfl | rfl | rfl | rfl | rfl | rfl | rfl <;> rfl
   case a5=>simp only [maxLen];omega
   case a6=>omega
   case a7=>(have:=HB.out.2.1.below.size;simp only [World.size_alloc];omega)
   intro g4 cap4 w2 how hgr _ _
   have HN:=zH (HB.out.2.1.grow (ae zR _) hgr [fL 2 (gv j) ⟨#[49]⟩] (by rw [vT,List.length_append,hll];exact how) (fun a ha=>by rw [List.mem_singleton.1 ha];exact mL (pM j) (by decide)))
   clear how hgr ck
   go_wp2
   go_roundg (8 - (j+1))
   case measure=>have:=HB.out.1;omega
   case rel=>exact ⟨j+1,_,some ⟨g4,0,none⟩,cap4,rfl,by go_num,by omega,rfl,by have h:=HN.out;rw [show gC j++List.map (fun x=>(x.kind,x.key)) [fL 2 (gv j) ⟨#[49]⟩]=gC (j+1) from by unfold gC;rw [List.range_succ,List.map_append];rfl] at h;exact h⟩
  ·
   obtain rfl:j=8:=by omega
   obtain ⟨mm,hmm,hmm2⟩ : ∃ mm:Nat,bits .and .i64 m 15=(mm:Int)∧mm<16:=⟨(m % 16).toNat,by rw [BH];omega,by omega⟩
   clear hlt hj
   go_wp2
   go_loopg [10,12] mm (fun n v i wq => ∃ (k:Nat) (l2:List cd) (ya:Option Addr) (yc:Nat),n=mm - k∧i=.int .i64 k∧k≤mm∧v=.slice ya (8+k) yc∧sS w3 wq (.slice ya (8+k) yc) l2 (gC 8++iv k))
   case atStart=>exact ⟨0,l,xa,xc,rfl,rfl,Nat.zero_le _,rfl,by have h:=HB.out.2.1;rw [show gC 8++iv 0=gC 8 from rfl];exact h⟩
   case round =>
    obtain ⟨k,l2,ya,yc,hgn2,rfl,hk,rfl,hmd2⟩:=hrel
    obtain ⟨wq,hwq⟩ : ∃ q,q=wr:=⟨_,rfl⟩
    subst hwq
    have hll2:l2.length=8+k:=by have:=congrArg List.length hmd2.shape;simpa [gC,iv] using this
    have how2:=hmd2.own
    rw [hll2] at how2
    have HB2:=zH (zA hgn2 (zA hmd2 how2))
    have HL2:=zH hll2
    clear hgn2 hmd2 how2 hll2
    by_cases hlt:k<mm
    ·
     have hlt':(k:Int)<(mm:Int):=by omega
     obtain ⟨r,hr⟩ : ∃ r:Nat,r=k % 7:=⟨_,rfl⟩
     have hk7:r<8:=by omega
     have hrem:Int.tmod (k:Int) 7=(r:Int):=by rw [Int.tmod_eq_emod_of_nonneg (by omega)];omega
     have hrem2:(k:Int) % 7=(r:Int):=by omega
     have hb7:(r:Int)<8:=by omega
     have HR7:=zH hr
     clear hr
     have hw8:IntKind.u8.wrap (k:Int)=(k:Int):=by unfold IntKind.wrap;simp [IntKind.bits,IntKind.signed];omega
     go_upto_region 15 with fail
     refine wp_region_noPanic ?_
     refine wp_region_held_drew (S:=(fun w':World=>w'.cell? ⟨kb,r,none⟩=some (.string (gv r)))) (by kernel_rfl) (by (try dsimp only);exact (HK.out.aj (au HB2.out.2.1.below)) r hk7) fun hHeld => ?_
     refine tk 0 ?_
     refine tk 1 ?_
     refine tk 2 ?_
     refine tk 3 ?_
     refine tk 4 ?_
     refine tk 5 ?_
     refine tk 6 ?_
     refine tk 7 ?_
     refine tr 8 fun K hK => ?_
     go_simp
     have hbA:=au (ae (Below.refl wq.heap.size wq) (.cells #[.int .u8 (k:Int)] 5))
     refine hK.out _ _ (by (try dsimp only);exact (HK.out.aj (HB2.out.2.1.below.trans (hbA.mono HB2.out.2.1.below.size))) r hk7) fun hHeld => ?_
     clear hK K
     try simp only [Act.put,zS,zT,zU]
     refine tr 9 fun K hK => ?_
     have hback:=run_convert_bytes_back (P:=prog) (wq.alloc (.cells #[.int .u8 (k:Int)] 5)).drew 29 9 5 ⟨wq.heap.size,0,none⟩ 1 [UInt8.ofNat k] underlying29 underlying5 underlying9 (fun i hi=>by
      rw [di]
      rw [cell_of (show (wq.alloc (.cells #[.int .u8 (k:Int)] 5)).drew.heap[wq.heap.size]? = _ from af wq (.cells #[.int .u8 (k:Int)] 5))]
      match i,hi with
      | 0,_=>simp;omega)
     simp only [List.length_cons,List.length_nil] at hback
     go_simp
     refine hK.out _ _ (by (try dsimp only);exact (HK.out.aj (HB2.out.2.1.below.trans (hbA.mono HB2.out.2.1.below.size))) r hk7) fun hHeld => ?_
     clear hK K
     try simp only [Act.put,zS,zT,zU]
     refine tk 10 ?_
     refine tr 11 fun K hK => ?_
     go_simp
     have hbB:=au (ae (ae (Below.refl wq.heap.size wq) (.cells #[.int .u8 (k:Int)] 5)) (.cells #[.int .i64 2,.string (gv r),.string ⟨#[UInt8.ofNat k]⟩,.int .i64 0,.int .i64 0,.int .i64 0,.string ⟨#[]⟩,.slice none 0 0,.slice none 0 0] 31))
     refine hK.out _ _ (by (try dsimp only);exact (HK.out.aj (HB2.out.2.1.below.trans (hbB.mono HB2.out.2.1.below.size))) r hk7) fun hHeld => ?_
     clear hK K
     try simp only [Act.put,zS,zT,zU]
     refine tr 12 fun K hK => ?_
     refine step_append_lies _ rfl (.tmp 44) (.tmp 55) 43 rfl w3.heap.size 31 i0 (.agg #[.int .i64 0,.string ⟨#[]⟩,.string ⟨#[]⟩,.int .i64 0,.int .i64 0,.int .i64 0,.string ⟨#[]⟩,.slice none 0 0,.slice none 0 0]) 9 128 underlying43 hi hz0 hz1 hz2 rfl (by decide) (.slice ya (8+k) yc) (8+k) (eW l2) rfl (World.ownsRow.aj HB2.out.2.2 hbB) ⟨wq.heap.size+1,0,none⟩ 1 1 [.int .i64 2,.string (gv r),.string ⟨#[UInt8.ofNat k]⟩,.int .i64 0,.int .i64 0,.int .i64 0,.string ⟨#[]⟩,.slice none 0 0,.slice none 0 0] rfl rfl (World.news_of_block (cs := #[.int .i64 2,.string (gv r),.string ⟨#[UInt8.ofNat k]⟩,.int .i64 0,.int .i64 0,.int .i64 0,.string ⟨#[]⟩,.slice none 0 0,.slice none 0 0]) (t:=31) (fr:=(0,0)) (show ((wq.alloc (.cells #[.int .u8 (k:Int)] 5)).alloc (.cells #[.int .i64 2,.string (gv r),.string ⟨#[UInt8.ofNat k]⟩,.int .i64 0,.int .i64 0,.int .i64 0,.string ⟨#[]⟩,.slice none 0 0,.slice none 0 0] 31)).drew.heap[wq.heap.size+1]? = _ from FQ wq (.cells #[.int .u8 (k:Int)] 5) (.cells #[.int .i64 2,.string (gv r),.string ⟨#[UInt8.ofNat k]⟩,.int .i64 0,.int .i64 0,.int .i64 0,.string ⟨#[]⟩,.slice none 0 0,.slice none 0 0] 31))) (by intro u hu;simp only [List.mem_cons,List.not_mem_nil,or_false] at hu;rcases hu with rfl | rfl | rfl | rfl | rfl | rfl | rfl | rfl | rfl <;> rfl) (by decide) (by simp only [maxLen];omega) (by omega) (Nat.le_trans HB2.out.2.1.below.size hbB.size) _ rfl ?_
     intro g4 cap4 w5 how hgr _ _
     refine hK.out _ _ (by (try dsimp only);exact (HK.out.aj (ja HB2.out.2.1.below (bQ HB2.out.2.1.own) (eO hbB hgr))) r hk7) fun hHeld => ?_
     clear hK K
     try simp only [Act.put,zS,zT,zU]
     refine tk 13 ?_
     refine wpAnyH_done (by kernel_rfl) ?_ _
     refine NoPanic.normal ?_
     have HN2:=zH (HB2.out.2.1.grow hbB hgr [fL 2 (gv r) ⟨#[UInt8.ofNat k]⟩] (by rw [vT,List.length_append,HL2.out];exact how) (fun a ha=>by rw [List.mem_singleton.1 ha];exact mL (pM r) (show 1≤20 by decide)))
     clear how hgr hbA hbB hback hHeld
     go_wp2
     go_roundg (mm - (k+1))
     case measure=>have:=HB2.out.1;omega
     case rel=>exact ⟨k+1,_,some ⟨g4,0,none⟩,cap4,rfl,by go_num,by omega,rfl,by have h:=HN2.out;rw [show gC 8++iv k++List.map (fun x=>(x.kind,x.key)) [fL 2 (gv r) ⟨#[UInt8.ofNat k]⟩]=gC 8++iv (k+1) from by unfold iv;rw [List.range_succ,List.map_append,List.append_assoc,HR7.out];rfl] at h;exact h⟩
    ·
     obtain rfl:k=mm:=by omega
     obtain ⟨U,hU1⟩ : ∃ U:Nat,IntKind.u64.wrap gone=(U:Int):=⟨(IntKind.u64.wrap gone).toNat,by rw [IntKind.wrap_u64];omega⟩
     have hU2:gone % 18446744073709551616=(U:Int):=by rw [← IntKind.wrap_u64];exact hU1
     obtain ⟨q,hq⟩ : ∃ q:Nat,q=U % 7:=⟨_,rfl⟩
     have hq1:Int.tmod (U:Int) 7=(q:Int):=by rw [Int.tmod_eq_emod_of_nonneg (by omega)];omega
     have hq2:(U:Int) % 7=(q:Int):=by omega
     have hq7:q<7:=by omega
     have hq8:q<8:=by omega
     have hqb:(q:Int)<8:=by omega
     have hqw:IntKind.i64.wrap (q:Int)=(q:Int):=du (by omega) (by omega)
     have HQ7:=zH hq7
     clear hq hq7
     go_upto_region 16 with fail
     refine wp_region_noPanic ?_
     refine wp_region_held_drew (S:=(fun w':World=>w'.cell? ⟨kb,q,none⟩=some (.string (gv q)))) (by kernel_rfl) (by (try dsimp only);exact (HK.out.aj (au HB2.out.2.1.below)) q hq8) fun hHeld => ?_
     refine tk 0 ?_
     refine tk 1 ?_
     refine tk 2 ?_
     refine tk 3 ?_
     refine tk 4 ?_
     refine tk 5 ?_
     refine tk 6 ?_
     refine tk 7 ?_
     refine tk 8 ?_
     refine tk 9 ?_
     refine tk 10 ?_
     refine tk 11 ?_
     refine tk 12 ?_
     refine tk 13 ?_
     refine tk 14 ?_
     refine tk 15 ?_
     refine tk 16 ?_
     refine tk 17 ?_
     refine tr 18 fun K hK => ?_
     go_simp
     have hbB:=au (ae (Below.refl wq.heap.size wq) (.cells #[.int .i64 4,.string (gv q),.string ⟨#[]⟩,.int .i64 0,.int .i64 0,.int .i64 0,.string ⟨#[]⟩,.slice none 0 0,.slice none 0 0,.int .i64 2,.string ⟨#[104]⟩,.string ⟨#[50]⟩,.int .i64 0,.int .i64 0,.int .i64 0,.string ⟨#[]⟩,.slice none 0 0,.slice none 0 0,.int .i64 2,.string (gv q),.string ⟨#[51]⟩,.int .i64 0,.int .i64 0,.int .i64 0,.string ⟨#[]⟩,.slice none 0 0,.slice none 0 0] 31))
     refine hK.out _ _ (by (try dsimp only);exact (HK.out.aj (HB2.out.2.1.below.trans (hbB.mono HB2.out.2.1.below.size))) q hq8) fun hHeld => ?_
     clear hK K
     try simp only [Act.put,zS,zT,zU]
     refine tr 19 fun K hK => ?_
     refine step_append_lies _ rfl (.tmp 57) (.tmp 75) 43 rfl w3.heap.size 31 i0 (.agg #[.int .i64 0,.string ⟨#[]⟩,.string ⟨#[]⟩,.int .i64 0,.int .i64 0,.int .i64 0,.string ⟨#[]⟩,.slice none 0 0,.slice none 0 0]) 9 128 underlying43 hi hz0 hz1 hz2 rfl (by decide) (.slice ya (8+k) yc) (8+k) (eW l2) rfl (World.ownsRow.aj HB2.out.2.2 hbB) ⟨wq.heap.size,0,none⟩ 3 3 [.int .i64 4,.string (gv q),.string ⟨#[]⟩,.int .i64 0,.int .i64 0,.int .i64 0,.string ⟨#[]⟩,.slice none 0 0,.slice none 0 0,.int .i64 2,.string ⟨#[104]⟩,.string ⟨#[50]⟩,.int .i64 0,.int .i64 0,.int .i64 0,.string ⟨#[]⟩,.slice none 0 0,.slice none 0 0,.int .i64 2,.string (gv q),.string ⟨#[51]⟩,.int .i64 0,.int .i64 0,.int .i64 0,.string ⟨#[]⟩,.slice none 0 0,.slice none 0 0] rfl rfl (World.news_of_block (cs := #[.int .i64 4,.string (gv q),.string ⟨#[]⟩,.int .i64 0,.int .i64 0,.int .i64 0,.string ⟨#[]⟩,.slice none 0 0,.slice none 0 0,.int .i64 2,.string ⟨#[104]⟩,.string ⟨#[50]⟩,.int .i64 0,.int .i64 0,.int .i64 0,.string ⟨#[]⟩,.slice none 0 0,.slice none 0 0,.int .i64 2,.string (gv q),.string ⟨#[51]⟩,.int .i64 0,.int .i64 0,.int .i64 0,.string ⟨#[]⟩,.slice none 0 0,.slice none 0 0]) (t:=31) (fr:=(0,0)) (show (wq.alloc (.cells #[.int .i64 4,.string (gv q),.string ⟨#[]⟩,.int .i64 0,.int .i64 0,.int .i64 0,.string ⟨#[]⟩,.slice none 0 0,.slice none 0 0,.int .i64 2,.string ⟨#[104]⟩,.string ⟨#[50]⟩,.int .i64 0,.int .i64 0,.int .i64 0,.string ⟨#[]⟩,.slice none 0 0,.slice none 0 0,.int .i64 2,.string (gv q),.string ⟨#[51]⟩,.int .i64 0,.int .i64 0,.int .i64 0,.string ⟨#[]⟩,.slice none 0 0,.slice none 0 0] 31)).drew.heap[wq.heap.size]? = _ from af wq (.cells #[.int .i64 4,.string (gv q),.string ⟨#[]⟩,.int .i64 0,.int .i64 0,.int .i64 0,.string ⟨#[]⟩,.slice none 0 0,.slice none 0 0,.int .i64 2,.string ⟨#[104]⟩,.string ⟨#[50]⟩,.int .i64 0,.int .i64 0,.int .i64 0,.string ⟨#[]⟩,.slice none 0 0,.slice none 0 0,.int .i64 2,.string (gv q),.string ⟨#[51]⟩,.int .i64 0,.int .i64 0,.int .i64 0,.string ⟨#[]⟩,.slice none 0 0,.slice none 0 0] 31))) (by intro u hu;simp only [List.mem_cons,List.not_mem_nil,or_false] at hu;rcases hu with rfl | rfl | rfl | rfl | rfl | rfl | rfl | rfl | rfl | rfl | rfl | rfl | rfl | rfl | rfl | rfl | rfl | rfl | rfl | rfl | rfl | rfl | rfl | rfl | rfl | rfl | rfl <;> rfl) (by decide) (by simp only [maxLen];omega) (by omega) (Nat.le_trans HB2.out.2.1.below.size hbB.size) _ rfl ?_
     intro g4 cap4 w5 how hgr _ _
     refine hK.out _ _ (by (try dsimp only);exact (HK.out.aj (ja HB2.out.2.1.below (bQ HB2.out.2.1.own) (eO hbB hgr))) q hq8) fun hHeld => ?_
     clear hK K
     try simp only [Act.put,zS,zT,zU]
     refine tk 20 ?_
     refine wpAnyH_done (by kernel_rfl) ?_ _
     refine NoPanic.normal ?_
     have HN3:=zH (HB2.out.2.1.grow hbB hgr [fL 4 (gv q) ⟨#[]⟩,fL 2 rE ⟨#[50]⟩,fL 2 (gv q) ⟨#[51]⟩] (by rw [BG,List.length_append,HL2.out];exact how) (fun a ha=>by
      simp only [List.mem_cons,List.not_mem_nil,or_false] at ha
      rcases ha with rfl | rfl | rfl
      ·
       exact Hs (pM q)
      ·
       exact mL (by decide) (by decide)
      ·
       exact mL (pM q) (by decide)))
     have HL3:=zH (show (l2++[fL 4 (gv q) ⟨#[]⟩,fL 2 rE ⟨#[50]⟩,fL 2 (gv q) ⟨#[51]⟩]).length=11+k from by rw [List.length_append,HL2.out];show 8+k+3=_;omega)
     generalize l2++[fL 4 (gv q) ⟨#[]⟩,fL 2 rE ⟨#[50]⟩,fL 2 (gv q) ⟨#[51]⟩]=l3 at *
     clear how hgr hbB hHeld hU1 hU2 hq1 hq2 hqb hqw
     obtain ⟨nn,hnn,hnn2⟩ : ∃ nn:Nat,bits .and .i64 again 15=(nn:Int)∧nn<16:=⟨(again % 16).toNat,by rw [BH];omega,by omega⟩
     go_wp2
     go_loopg [10,13] nn (fun n v i wz => ∃ (j3:Nat) (lz:List cd) (za:Option Addr) (zc:Nat),n=nn - j3∧i=.int .i64 j3∧j3≤nn∧v=.slice za (8+k+3+j3) zc∧sS w3 wz (.slice za (8+k+3+j3) zc) lz (gC 8++iv k++nQ q++lD j3))
     case atStart=>exact ⟨0,l3,some ⟨g4,0,none⟩,cap4,rfl,rfl,Nat.zero_le _,rfl,by have h:=HN3.out;rw [show gC 8++iv k++List.map (fun x=>(x.kind,x.key)) [fL 4 (gv q) ⟨#[]⟩,fL 2 rE ⟨#[50]⟩,fL 2 (gv q) ⟨#[51]⟩]=gC 8++iv k++nQ q++lD 0 from (List.append_nil _).symm] at h;exact h⟩
     case round =>
      obtain ⟨j3,lz,za,zc,hgn3,rfl,hj3,rfl,hmd3⟩:=hrel
      obtain ⟨wz,hwz⟩ : ∃ q,q=wr:=⟨_,rfl⟩
      subst hwz
      have hll3:lz.length=8+k+3+j3:=by have:=congrArg List.length hmd3.shape;simp [gC,iv,nQ,lD] at this;omega
      have how3:=hmd3.own
      rw [hll3] at how3
      have HB3:=zH (zA hgn3 (zA hmd3 how3))
      have HLZ:=zH hll3
      clear hgn3 hmd3 how3 hll3
      by_cases hlt3:j3<nn
      ·
       have hlt3':(j3:Int)<(nn:Int):=by omega
       have hw8:IntKind.u8.wrap (j3:Int)=(j3:Int):=IntWalk.u8_in _ (by omega)
       have hback:=run_convert_bytes_back (P:=prog) (wz.alloc (.cells #[.int .u8 (j3:Int)] 5)) 29 9 5 ⟨wz.heap.size,0,none⟩ 1 [UInt8.ofNat j3] underlying29 underlying5 underlying9 (fun i hi=>by
        rw [di]
        rw [cell_of (af wz (.cells #[.int .u8 (j3:Int)] 5))]
        match i,hi with
        | 0,_=>simp;omega)
       simp only [List.length_cons,List.length_nil] at hback
       go_wp2_with (at_builtin;refine wpList_append_lies _ rfl _ _ 43 rfl w3.heap.size 31 i0 (.agg #[.int .i64 0,.string ⟨#[]⟩,.string ⟨#[]⟩,.int .i64 0,.int .i64 0,.int .i64 0,.string ⟨#[]⟩,.slice none 0 0,.slice none 0 0]) 9 128 underlying43 hi hz0 hz1 hz2 rfl (by decide) (.slice za (8+k+3+j3) zc) (8+k+3+j3) (eW lz) ?c1 (World.ownsRow.aj HB3.out.2.2 (ae (ae zR _) _)) ⟨(wz.heap.size+1),0,none⟩ 1 1 [.int .i64 2,.string ⟨#[104]⟩,.string ⟨#[UInt8.ofNat j3]⟩,.int .i64 0,.int .i64 0,.int .i64 0,.string ⟨#[]⟩,.slice none 0 0,.slice none 0 0] ?c2 rfl ?c3 ?c4 (by decide) ?c5 ?c6 ?c7 _ rfl ?_)
       case c1=>rfl
       case c2=>rfl
       case c3=>exact World.news_of_block (cs := #[.int .i64 2,.string ⟨#[104]⟩,.string ⟨#[UInt8.ofNat j3]⟩,.int .i64 0,.int .i64 0,.int .i64 0,.string ⟨#[]⟩,.slice none 0 0,.slice none 0 0]) (t:=31) (fr:=(0,0)) (FQ wz _ _)
       case c4=>intro u hu;simp only [List.mem_cons,List.not_mem_nil,or_false] at hu;rcases hu with rfl | rfl | rfl | rfl | rfl | rfl | rfl | rfl | rfl <;> rfl
       case c5=>simp only [maxLen];omega
       case c6=>omega
       case c7=>(have:=HB3.out.2.1.below.size;simp only [World.size_alloc];omega)
       intro g4 cap4 w2 how hgr _ _
       have HN4:=zH (HB3.out.2.1.grow (ae (ae zR _) _) hgr [fL 2 rE ⟨#[UInt8.ofNat j3]⟩] (by rw [vT,List.length_append,HLZ.out];exact how) (fun a ha=>by rw [List.mem_singleton.1 ha];exact mL (by decide) (show 1≤20 by decide)))
       clear how hgr hback
       go_wp2
       go_roundg (nn - (j3+1))
       case measure=>have:=HB3.out.1;omega
       case rel=>exact ⟨j3+1,_,some ⟨g4,0,none⟩,cap4,rfl,by go_num,by omega,rfl,by have h:=HN4.out;rw [show gC 8++iv k++nQ q++lD j3++List.map (fun x=>(x.kind,x.key)) [fL 2 rE ⟨#[UInt8.ofNat j3]⟩]=gC 8++iv k++nQ q++lD (j3+1) from by unfold lD;rw [List.range_succ,List.map_append,List.append_assoc];rfl] at h;exact h⟩
      ·
       obtain rfl:j3=nn:=by omega
       obtain ⟨ab,rfl,hab,habl,hblk⟩:=IS HB3.out.2.2 (by omega)
       have HZ:=zH (zA (show kA wz ab lz from hblk) (zA HB3.out.2.1.shape HB3.out.2.1.plain))
       have hW:=HB3.out.2.1.below
       have hG0:=HO3.out.1.at_.lt
       have hgl3:g<w3.heap.size:=by obtain ⟨_,a,c,q,a3,n3,c3,m2,_⟩:=HO3.out.2.2.2.1;exact aP m2
       have HST:=zH (zA (HO3.out.1.aj hW) (zA HO3.out.2.1 (zA HO3.out.2.2.1 (zA (HO3.out.2.2.2.1.aj hW) (zA (show ¬ G0 ab from fun h=>by have:=hG0 _ h;omega) (zA (show ab≠g by omega) HO3.out.2.2.2.2))))))
       have HNL:=zH (zA HLZ.out (zA hnn2 (zA hmm2 HQ7.out)))
       clear hblk hab habl hW hG0 hgl3
       generalize hN:8+k+3+j3=N at *
       have hN60:N≤60:=by omega
       clear hN
       go_wp2
       go_loopg [14] N (fun n i wr => ∃ (jj:Nat) (W:ia) (G:Nat→Prop) (y:ByteArray),n=N - jj∧i=.int .i64 jj∧jj≤N∧Own w wr p W G∧ye W y img∧fG y W.S (mw [] (lz.take jj)) (1+jj)∧iw wr g G (mw [] (lz.take jj))∧kA wr ab lz ∧ ¬ G ab)
       case atStart=>exact ⟨0,W0,G0,x0,rfl,rfl,Nat.zero_le _,HST.out.1,HST.out.2.1,HST.out.2.2.1,HST.out.2.2.2.1,HZ.out.1,HST.out.2.2.2.2.1⟩
       case round =>
        obtain ⟨jj,W,G,y,hgn4,rfl,hjj,ho,hnow,hop,hmo,hblk,hnG⟩:=hrel
        have HR:=zH (zA hgn4 (zA ho (zA hnow (zA hop (zA hmo (zA hblk hnG))))))
        clear hgn4 ho hnow hop hmo hblk hnG
        by_cases hlt4:jj<N
        ·
         have hlt4':(jj:Int)<(N:Int):=by omega
         have hjl:jj<lz.length:=by have:=HNL.out.1;omega
         have HWS:=zH (Ff lz jj hjl)
         have HPL:=zH (HZ.out.2.2 lz[jj] (List.getElem_mem hjl))
         have HRW:=zH (fun (w':World) (hb:kA w' ab lz) (j:Nat) (q:Value) (hj:j<9) (hq:(kT lz[jj])[j]? = some q)=>hb.row jj hjl j q hj hq)
         generalize hps:mw [] (lz.take jj)=ps at *
         generalize lz[jj]=x at *
         clear hps hjl
         have c0:wr.cell? ⟨ab,jj * 9,none⟩=some (.int .i64 x.kind):=HRW.out wr HR.out.2.2.2.2.2.1 0 _ (by decide) rfl
         have c1:wr.cell? ⟨ab,jj * 9+1,none⟩=some (.string x.key):=HRW.out wr HR.out.2.2.2.2.2.1 1 _ (by decide) rfl
         have c2:wr.cell? ⟨ab,jj * 9+2,none⟩=some (.string x.value):=HRW.out wr HR.out.2.2.2.2.2.1 2 _ (by decide) rfl
         have c3:wr.cell? ⟨ab,jj * 9+3,none⟩=some (.int .i64 0):=HRW.out wr HR.out.2.2.2.2.2.1 3 _ (by decide) rfl
         have c4:wr.cell? ⟨ab,jj * 9+4,none⟩=some (.int .i64 0):=HRW.out wr HR.out.2.2.2.2.2.1 4 _ (by decide) rfl
         have c5:wr.cell? ⟨ab,jj * 9+5,none⟩=some (.int .i64 0):=HRW.out wr HR.out.2.2.2.2.2.1 5 _ (by decide) rfl
         have c6:wr.cell? ⟨ab,jj * 9+6,none⟩=some (.string ⟨#[]⟩):=HRW.out wr HR.out.2.2.2.2.2.1 6 _ (by decide) rfl
         have c7:wr.cell? ⟨ab,jj * 9+7,none⟩=some (.slice none 0 0):=HRW.out wr HR.out.2.2.2.2.2.1 7 _ (by decide) rfl
         have c8:wr.cell? ⟨ab,jj * 9+8,none⟩=some (.slice none 0 0):=HRW.out wr HR.out.2.2.2.2.2.1 8 _ (by decide) rfl
         have hablt:ab<wr.heap.size:=zL wr _ c0
         have HD:=zH (JI p W G x y img wr HR.out.2.1.at_ HR.out.2.2.1 HR.out.2.2.2.1 (by omega) HPL.out)
         go_upto_region 25 with (go_at_call 11;refine HD.out.mono ?_;rintro e w5 ⟨W1,y1,n1,k1,va,vc,vb,vd,rfl,o1,o2,G1,hw1,st1,m1,m2⟩)
         rw [show bg.value=⟨#[]⟩ from rfl,show bg.bS.length=0 from rfl,show bg.reads.length=0 from rfl,show bg.lost=false from rfl] at *
         have hb6:=ae (Below.refl w5.heap.size w5) (.cells #[.string ⟨#[]⟩,.slice va 0 vc,.slice vb 0 vd,.bool false] 34)
         have HR6:=zH (zA ((HR.out.2.1.step hw1 st1).aj hb6) (zA n1 (zA k1 (zA ((HR.out.2.2.2.2.1.step st1).aj hb6) (zA ((HR.out.2.2.2.2.2.1.aH st1.aH HR.out.2.2.2.2.2.2).aH (Touch.ah (F:=fun _=>False) hb6) id) (zA (st1.safe hablt HR.out.2.2.2.2.2.2) (zA (af w5 (.cells #[.string ⟨#[]⟩,.slice va 0 vc,.slice vb 0 vd,.bool false] 34)) (zA (show g≠w5.heap.size from fun e=>by obtain ⟨_,a,c,q,a3,n3,c3,mm2,_⟩:=HR.out.2.2.2.2.1.step st1;have:=aP mm2;omega) (fun i hi=>zV (hw1.lt i hi) hb6.size)))))))))
         generalize Value.agg #[.string ⟨#[]⟩,.slice va 0 vc,.slice vb 0 vd,.bool false]=vagz at *
         generalize hw6:w5.alloc (.cells #[.string ⟨#[]⟩,.slice va 0 vc,.slice vb 0 vd,.bool false] 34)=w6 at *
         generalize w5.heap.size=bA at *
         clear hw6 hb6 n1 k1 o1 o2 hw1 st1 m1 m2 HD c0 c1 c2 c3 c4 c5 c6 c7 c8 hablt
         have HS25:=zH (fun (w':World) (t:Touch (aO g) w6 w')=>(show w'.cell? ⟨ab,jj * 9,none⟩=some (.int .i64 x.kind)∧w'.cell? ⟨ab,jj * 9+1,none⟩=some (.string x.key)∧w'.cell? ⟨ab,jj * 9+2,none⟩=some (.string x.value)∧w'.cell? ⟨ab,jj * 9+3,none⟩=some (.int .i64 0)∧w'.cell? ⟨ab,jj * 9+4,none⟩=some (.int .i64 0)∧w'.cell? ⟨ab,jj * 9+5,none⟩=some (.int .i64 0)∧w'.cell? ⟨ab,jj * 9+6,none⟩=some (.string ⟨#[]⟩)∧w'.cell? ⟨ab,jj * 9+7,none⟩=some (.slice none 0 0)∧w'.cell? ⟨ab,jj * 9+8,none⟩=some (.slice none 0 0)∧w'.cell? ⟨bA,0,none⟩=some (.string ⟨#[]⟩)∧w'.cell? ⟨bA,1,none⟩=some (.slice va 0 vc)∧w'.cell? ⟨bA,2,none⟩=some (.slice vb 0 vd)∧w'.cell? ⟨bA,3,none⟩=some (.bool false) from by
          have hB:=HR6.out.2.2.2.2.1.aH t (show ¬ ab=g from HST.out.2.2.2.2.2.1)
          have hA:=t.at HR6.out.2.2.2.2.2.2.1 (show ¬ bA=g from fun e=>HR6.out.2.2.2.2.2.2.2.1 e.symm)
          exact ⟨HRW.out w' hB 0 _ (by decide) rfl,HRW.out w' hB 1 _ (by decide) rfl,HRW.out w' hB 2 _ (by decide) rfl,HRW.out w' hB 3 _ (by decide) rfl,HRW.out w' hB 4 _ (by decide) rfl,HRW.out w' hB 5 _ (by decide) rfl,HRW.out w' hB 6 _ (by decide) rfl,HRW.out w' hB 7 _ (by decide) rfl,HRW.out w' hB 8 _ (by decide) rfl,cell_of hA 0,cell_of hA 1,cell_of hA 2,cell_of hA 3⟩))
         have HTOLD:=zH (fun (w':World) (hb:Below w6.heap.size w6 w')=>(show Calls prog 12 #[.pointer (some ⟨g,0,none⟩),.agg #[.int .i64 x.kind,.string x.key,.string x.value,.int .i64 0,.int .i64 0,.int .i64 0,.string ⟨#[]⟩,.slice none 0 0,.slice none 0 0],.agg #[.string ⟨#[]⟩,.slice va 0 vc,.slice vb 0 vd,.bool false],.int .i64 (fA ps x).1] w' (BE g G1 (fA ps x).2 w') from by
          rw [← Hu HPL.out]
          exact Fa g G1 ps (fA ps x).2 x none 0 none 0 ⟨#[]⟩ va 0 vc vb 0 vd (fA ps x).1 w' rfl (fun _=>⟨rfl,rfl,rfl⟩) (HR6.out.2.2.2.1.aj hb) (fun i hi=>zV (HR6.out.2.2.2.2.2.2.2.2 i hi) hb.size) HPL.out.kind HPL.out.k1 HPL.out.k6 HPL.out.v20 (by rw [HPL.out.reads];exact aU.nil _ _) (by rw [HPL.out.reads];exact fun i hi=>absurd hi (Nat.not_lt_zero _)) HR.out.2.2.2.1.kept.sorted.1 HR.out.2.2.2.1.kept.sorted.2 (by rw [HPL.out.reads];exact Nat.zero_le _)))
         obtain ⟨s0,s1,s2,s3,s4,s5,s6,s7,s8,a0,a1,a2,a3⟩:=HS25.out w6 (Touch.refl _ _)
         clear s0 s1 s2 s3 s4 s5 s6 s7 s8 a0 a1 a2 a3
         refine wp_region_noPanic ?_
         refine wp_region_held_drew (S:=(fun w':World=>w'.cell? ⟨ab,jj * 9,none⟩=some (.int .i64 x.kind)∧w'.cell? ⟨ab,jj * 9+1,none⟩=some (.string x.key)∧w'.cell? ⟨ab,jj * 9+2,none⟩=some (.string x.value)∧w'.cell? ⟨ab,jj * 9+3,none⟩=some (.int .i64 0)∧w'.cell? ⟨ab,jj * 9+4,none⟩=some (.int .i64 0)∧w'.cell? ⟨ab,jj * 9+5,none⟩=some (.int .i64 0)∧w'.cell? ⟨ab,jj * 9+6,none⟩=some (.string ⟨#[]⟩)∧w'.cell? ⟨ab,jj * 9+7,none⟩=some (.slice none 0 0)∧w'.cell? ⟨ab,jj * 9+8,none⟩=some (.slice none 0 0)∧w'.cell? ⟨bA,0,none⟩=some (.string ⟨#[]⟩)∧w'.cell? ⟨bA,1,none⟩=some (.slice va 0 vc)∧w'.cell? ⟨bA,2,none⟩=some (.slice vb 0 vd)∧w'.cell? ⟨bA,3,none⟩=some (.bool false))) (by kernel_rfl) (by (try dsimp only);exact HS25.out _ (Touch.ah (au zR))) fun hHeld => ?_
         refine tk 0 ?_
         refine tk 1 ?_
         refine tk 2 ?_
         refine tk 3 ?_
         refine tk 4 ?_
         refine tk 5 ?_
         refine tk 6 ?_
         refine tr 7 fun K hK => ?_
         go_simp
         go_at_call 13
         refine (HM.out _ _).mono ?_
         rintro e wx ⟨rfl,rfl⟩
         go_wp2_with fail
         refine hK.out _ _ (by (try dsimp only);exact HS25.out _ (Touch.ah (au zR))) fun hHeld => ?_
         clear hK K
         try simp only [Act.put,zS,zT,zU]
         refine tr 8 fun K hK => ?_
         go_simp
         go_at_call 12
         refine (HTOLD.out _ (au zR)).mono ?_
         rintro e w7 ⟨rfl,hm7,ht7⟩
         have ht67:=(Touch.ah (F:=aO g) (au (Below.refl w6.heap.size w6))).trans ht7
         go_wp2_with fail
         refine hK.out _ _ (by (try dsimp only);exact HS25.out _ ht67) fun hHeld => ?_
         clear hK K
         try simp only [Act.put,zS,zT,zU]
         refine tk 9 ?_
         refine wpAnyH_done (by kernel_rfl) ?_ _
         refine NoPanic.normal ?_
         have HEND:=zH (zA (show Own w w7 p W1 G1 from ⟨HR6.out.1.at_.plain ht67 HR6.out.2.2.2.1.1 (CM HR6.out.2.2.2.1),HR6.out.1.below.trans (ht67.below HR6.out.1.below.size (fun i hi e=>by have e:i=g:=e;have:=HST.out.2.2.2.2.2.2;omega)),HR6.out.1.new⟩) (zA hm7 (zA (HR6.out.2.2.2.2.1.aH ht67 (show ¬ ab=g from HST.out.2.2.2.2.2.1)) HWS.out)))
         clear hm7 ht7 ht67 hHeld
         go_wp2
         go_roundg (N - (jj+1))
         case measure=>have:=HR.out.1;omega
         case rel=>exact ⟨jj+1,W1,G1,y1,rfl,by go_num,by omega,HEND.out.1,HR6.out.2.1,by rw [HEND.out.2.2.2];have h:=HR6.out.2.2.1;rw [show (1:Int)+((jj+1:Nat):Int)=1+(jj:Int)+1 by omega];exact h,by rw [HEND.out.2.2.2];exact HEND.out.2.1,HEND.out.2.2.1,HR6.out.2.2.2.2.2.1⟩
        ·
         obtain rfl:jj=N:=by omega
         have htk:lz.take jj=lz:=List.take_of_length_le (by have:=HNL.out.1;omega)
         rw [htk] at HR
         have hseven:=Jo HNL.out.2.2.2 HZ.out.2.1
         generalize mw [] lz=ps at *
         have HLI:=zH (CC p g W G y img wr HR.out.2.1.at_ HR.out.2.2.1 HR.out.2.2.2.1 HR.out.2.2.2.2.1)
         have HSEV:=zH hseven
         clear htk hseven hlt4
         go_wp2_with (go_at_call 15;refine HLI.out.mono ?_;rintro e w9 ⟨rfl,W9,G9,n9,o9,h9,st9⟩;obtain ⟨mg,a,c,q,a3,n3,c3,mrow,ms,mf⟩:=HR.out.2.2.2.2.1.step st9;have cg:=cell_of mrow 1;rw [HSEV.out] at cg;have cg:w9.cell? ⟨g,1,none⟩=some (.slice a 7 c):=cg)
         go_ret
         exact ⟨rfl,HR.out.2.1.below.trans (st9.aH.below HR.out.2.1.below.size (fun i hi hg=>by have:=HR.out.2.1.new i hg;omega))⟩
end
end Go.Proofs.YtcfdenckiigdaaaGreat

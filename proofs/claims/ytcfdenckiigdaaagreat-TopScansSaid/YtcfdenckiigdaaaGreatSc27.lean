/- Part 27 of the contracts. -/
import Derived.Deep.Slices
import Derived.OpenShut
import Derived.ShutString
import Derived.Test.YtcfdenckiigdaaaGreatSc26
set_option linter.unusedVariables false
set_option maxRecDepth 100000
set_option maxHeartbeats 4000000
namespace Go.Proofs.YtcfdenckiigdaaaGreat
open Tryz Go.RowKit
theorem xR (a b:ByteArray) : ∀ u ∈ ([.string a,.string b]:List Value),u.oneCell'=true:=by
 intro u hu
 simp only [List.mem_cons,List.not_mem_nil,or_false] at hu
 rcases hu with rfl | rfl <;> rfl
theorem GF {r:aT} (h:fQ r):r.ak=0∧1≤r.key.size∧r.key.size≤6∧((r.kind=1∧r.value.size≤20)∨(r.kind=2∧r.value=⟨#[]⟩)):=by
 obtain ⟨h,h0⟩:=h
 unfold bF at h
 rw [if_neg h0] at h
 split at h
 ·
  rename_i h1
  simp only [Bool.and_eq_true,wV,decide_eq_true_eq] at h
  exact ⟨h.1.1,h.1.2.1,h.1.2.2,.inl ⟨h1,h.2⟩⟩
 ·
  split at h
  ·
   rename_i h2
   simp only [Bool.and_eq_true,wV,decide_eq_true_eq] at h
   refine ⟨h.1.1,h.1.2.1,h.1.2.2,.inr ⟨h2,?_⟩⟩
   have hz:=iY h.2
   generalize r.value=q at hz ⊢
   obtain ⟨a⟩:=q
   congr 1
   exact Array.eq_empty_of_size_eq_zero hz
  ·
   cases h
theorem A1 (s:ByteArray) (w:World) (h1:1≤s.size) (h2:s.size≤6):Calls prog 113 #[.string s] w fun e w'=>e=.returned (.bool true)∧w'=w:=by
 have g1:(1:Int)≤(s.size:Int):=by omega
 have g2:(s.size:Int)≤6:=by omega
 go_enter func113,ntmps113
 go_wp2
 go_ret
 exact ⟨rfl,rfl⟩
theorem A3 (r:aT) (w:World) (h:fQ r):Calls prog 74 #[.agg r.cells] w fun e w'=>e=.returned (.bool true)∧Below w.heap.size w w':=by
 obtain ⟨f1,f2,f3,f4⟩:=GF h
 have HK:=zH (fun w=>A1 r.key w f2 f3)
 unfold aT.cells
 clear h
 obtain ⟨z0,z1,z2,z3,zf⟩:=ck (af w (.cells #[.int .i64 r.kind,.int .i64 r.ak,.string r.key,.string r.value] 74))
 have HB:=zH (ae (Below.refl w.heap.size w) (.cells #[.int .i64 r.kind,.int .i64 r.ak,.string r.key,.string r.value] 74))
 rcases f4 with ⟨hk,hv⟩ | ⟨hk,hv⟩
 ·
  have e0:(r.kind == 0)=false:=by rw [hk];rfl
  have e1:(r.kind == 1)=true:=by rw [hk];rfl
  have e2:(r.ak == 0)=true:=by rw [f1];rfl
  have l2:(r.value.size:Int)≤20:=by omega
  clear hk hv
  go_enter func74,ntmps74
  go_wp2_with (go_at_call 113;refine (HK.out _).mono ?_;rintro e wx ⟨rfl,rfl⟩)
  go_ret
  exact ⟨rfl,ae zR _⟩
 ·
  have e0:(r.kind == 0)=false:=by rw [hk];rfl
  have e1:(r.kind == 1)=false:=by rw [hk];rfl
  have e3:(r.kind == 2)=true:=by rw [hk];rfl
  have e2:(r.ak == 0)=true:=by rw [f1];rfl
  rw [hv] at z3 ⊢
  rw [hv] at HB
  clear hk
  go_enter func74,ntmps74
  go_wp2_with (go_at_call 113;refine (HK.out _).mono ?_;rintro e wx ⟨rfl,rfl⟩)
  go_ret
  exact ⟨rfl,ae zR _⟩
structure nQ (w wr:World) (r:aT) (x:Value) (o:List aK):Prop where
 below:Below w.heap.size w wr
 k0:wr.heap[w.heap.size]? = some (.cells #[.int .i64 r.kind,.int .i64 r.ak,.string r.key,.string r.value] 74 (0,0))
 own:wr.ownsRow w.heap.size 83 2 x o.length (aC o)
theorem nQ.drew {w wr:World} {r:aT} {x:Value} {o:List aK} (h:nQ w wr r x o):nQ w wr.drew r x o:=⟨av h.below,h.k0,World.ownsRow.aj h.own (av zR)⟩
theorem Du (k v:ByteArray) : ∀ ps:List aK,qi k v true ps=fo k ps
 | []=>rfl
 | p::ps=>by
  unfold qi
  rw [if_neg (by simp),Bool.true_or,Du k v ps]
  unfold fo
  rw [List.filter_cons]
  by_cases e:p.key=k
  ·
   rw [if_pos e,if_neg (by simp [e])];rfl
  ·
   rw [if_neg e,if_pos (by simp [e])];rfl
theorem J6 {ps:List aK} (hs:eK ps) {r:aT} (h:r.kind=1∨r.kind=2):qi r.key r.value (r.kind == 2) ps=eu ps r:=by
 obtain ⟨kind,ak,key,value⟩:=r
 rcases h with rfl | rfl
 ·
  exact (Bm key value ps hs).trans (mQ key value ak ps hs).symm
 ·
  exact (Du key value ps).trans (pR key value ak ps hs).symm
def Fj (o:List aK) (w:World) (e:Ending) (w':World):Prop := ∃ v,e=.returned (.tuple #[v,.int .i64 0])∧w'.ownsRow w.heap.size 83 2 v o.length (aC o)∧Below w.heap.size w w'
theorem yn (u:Value) (ps:List aK) (r:aT) (w:World) (h:aQ w u ps.length 2 (aC ps)) (hs:eK ps) (hr:fQ r) (hn:ps.length≤1000):Calls prog 45 #[u,.agg r.cells] w (Fj (eu ps r) w):=by
 have hkind:=wT hr
 rw [← J6 hs hkind]
 have HMAY:=zH (fun w=>A3 r w hr)
 have H:=zH h
 have HSO:=zH hs
 have HX:=zH (fun i (hi:i<ps.length)=>dw ps i hi)
 have HT:=zH (fun b j (hj:j<ps.length)=>Dt r.key r.value b ps j hj)
 have HLF:=zH (Bl r.key r.value ps)
 obtain ⟨i0,hi,hz0,hz1,hz2⟩:=info_parts iW
 obtain ⟨a,c,rfl⟩:=h.slice
 have HG:=zH (show nQ w (w.alloc (.cells #[.int .i64 r.kind,.int .i64 r.ak,.string r.key,.string r.value] 74)) r (.slice none 0 0) [] from ⟨ae zR _,af w _,zN⟩)
 have e0:(r.kind == 0)=false:=zQ (by omega)
 clear h hs hr hkind
 unfold aT.cells at HMAY ⊢
 go_enter func45,ntmps45
 go_wp2_with fail
 generalize w.alloc (.cells #[.int .i64 r.kind,.int .i64 r.ak,.string r.key,.string r.value] 74)=w1 at *
 go_loopg [6] ps.length (fun n i wr => ∃ j:Nat,n=ps.length+1 - j∧i=.int .i64 j∧1≤j∧nQ w wr r (.slice none 0 0) [])
 case atStart=>exact ⟨1,rfl,rfl,Nat.le_refl _,HG.out⟩
 case round =>
  obtain ⟨j,hgn,rfl,hj,hw⟩:=hrel
  have HB:=zH (zA hgn hw)
  obtain ⟨x0,x1,x2,x3,xf⟩:=ck hw.k0
  clear hgn hw
  by_cases hlt:j<ps.length
  ·
   have hlt':(j:Int)<(ps.length:Int):=by omega
   obtain ⟨b,off,rfl,hc,hx⟩:=H.out.some (by omega)
   have cc : ∀ i (hi:i<ps.length),wr.cell? ⟨b,off+i * 2,none⟩=some (.string ps[i].key):=fun i hi=>by
    have e:=hx _ _ (HX.out i hi).1
    rw [show off+i * 2=off+2 * i by omega]
    exact (HB.out.2.below.cell (p:=⟨b,off+2 * i,none⟩) (zL w _ e)).trans e
   have d0:=cc j hlt
   have d1:=cc (j - 1) (by omega)
   have hl:bZ ps[j - 1].key ps[j].key=true:=List.pairwise_iff_getElem.1 HSO.out (j - 1) j (by omega) hlt (by omega)
   have l1:Op.bytesLess ps[j].key.toList ps[j - 1].key.toList=false:=Cv hl
   have l2:(ps[j].key.toList == ps[j - 1].key.toList)=false:=by rw [gT,decide_eq_false (lk hl).symm]
   have hw1:IntKind.i64.wrap ((j:Int) - 1)=((j - 1:Nat):Int):=by rw [cU (by omega) (by omega)];omega
   have hb0:((j - 1:Nat):Int)<(ps.length:Int):=by omega
   clear cc hx hl
   generalize ps[j - 1].key=kp at *
   generalize ps[j].key=kj at *
   generalize j - 1=jj at *
   go_upto_region 4 with fail
   refine wp_region_noPanic ?_
   refine wp_region_held_drew (S:=(fun w':World=>w'.cell? ⟨b,off+j * 2,none⟩=some (.string kj)∧w'.cell? ⟨b,off+jj * 2,none⟩=some (.string kp))) (by kernel_rfl) (by (try dsimp only);exact ⟨d0,d1⟩) fun hHeld => ?_
   refine tk 0 ?_
   refine tk 1 ?_
   refine tk 2 ?_
   refine tk 3 ?_
   refine tk 4 ?_
   refine tk 5 ?_
   refine tk 6 ?_
   refine tk 7 ?_
   refine tk 8 ?_
   refine tk 9 ?_
   refine tk 10 ?_
   refine tk 11 ?_
   refine wpAnyH_done (by kernel_rfl) ?_ _
   refine NoPanic.normal ?_
   go_wp2
   go_roundg (ps.length+1 - (j+1))
   case measure=>have:=HB.out.1;omega
   case rel=>exact ⟨j+1,rfl,by go_num,by omega,HB.out.2.drew⟩
  ·
   have hlt' : ¬ (j:Int)<(ps.length:Int):=by omega
   clear hlt
   go_upto_region 8 with (go_at_call 74;refine (HMAY.out _).mono ?_;rintro e w2 ⟨rfl,hb2⟩;obtain ⟨y0,y1,y2,y3,yf⟩:=ck (aa hb2 HB.out.2.k0))
   have HA2:=zH (show nQ w w2 r (.slice none 0 0) [] from ⟨gtr HB.out.2.below hb2,aa hb2 HB.out.2.k0,zN⟩)
   clear hb2 x0 x1 x2 x3 xf HMAY
   obtain ⟨bk,hbk⟩ : ∃ q,(r.kind == 2)=q:=⟨_,rfl⟩
   rw [hbk]
   have HBK:=zH hbk
   go_wp2_with fail
   clear y0 y1 y2 y3 yf hbk
   go_loopg [7,8,9] ps.length (fun n x y i wr => ∃ (j:Nat) (b:Bool) (o:List aK) (xa:Option Addr) (xc:Nat),n=ps.length - j∧x=.slice xa o.length xc∧y=.bool b∧i=.int .i64 j∧j≤ps.length∧nQ w wr r (.slice xa o.length xc) o∧o++qi r.key r.value b (ps.drop j)=qi r.key r.value bk ps)
   case atStart=>exact ⟨0,bk,[],none,0,rfl,rfl,rfl,rfl,Nat.zero_le _,HA2.out,rfl⟩
   case round =>
    obtain ⟨j,bo,o,xa,xc,hgn,rfl,rfl,rfl,hj,hw,heq⟩:=hrel
    have HB:=zH (zA hgn (zA hw heq))
    have hol:o.length+(qi r.key r.value bo (ps.drop j)).length≤ps.length+1:=by rw [← List.length_append,heq];exact HLF.out bk
    obtain ⟨x0,x1,x2,x3,xf⟩:=ck hw.k0
    clear hgn hw heq
    by_cases hlt:j<ps.length
    ·
     have hlt':(j:Int)<(ps.length:Int):=by omega
     obtain ⟨b,off,rfl,hc,hx⟩:=H.out.some (by omega)
     obtain ⟨p0,p1⟩:=HX.out j hlt
     have hcw : ∀ w',Below w.heap.size w w'→w'.cell? ⟨b,off+j * 2,none⟩=some (.string ps[j].key)∧w'.cell? ⟨b,off+j * 2+1,none⟩=some (.string ps[j].value):=fun w' hb'=>by
      have e0:=hx _ _ p0
      have e1:=hx _ _ p1
      rw [show off+j * 2=off+(2 * j) by omega,show off+2 * j+1=off+(2 * j+1) by omega]
      exact ⟨(hb'.cell (p:=⟨b,off+2 * j,none⟩) (zL w _ e0)).trans e0,(hb'.cell (p:=⟨b,off+(2 * j+1),none⟩) (zL w _ e1)).trans e1⟩
     have HCW:=zH hcw
     have d0:=(hcw wr HB.out.2.1.below).1
     have hT:=HT.out bo j hlt
     have HOL:=zH hol
     clear p0 p1 hx hcw hol
     go_upto_region 13 with fail
     go_cut [56] from 39 to 79 (fun v wx=>v=.bool (!bo && !bZ ps[j].key r.key)∧wr.drew=wx)
     case first =>
      cases bo with
      | true =>
       refine wp_region_noPanic ?_
       refine wp_region_held_drew (S:=(fun w':World=>w'.cell? ⟨b,off+j * 2,none⟩=some (.string ps[j].key)∧w'.cell? ⟨w.heap.size,2,none⟩=some (.string r.key))) (by kernel_rfl) (by (try dsimp only);exact ⟨d0,x2⟩) fun hHeld => ?_
       refine tk 0 ?_
       refine tk 1 ?_
       refine tk 2 ?_
       refine tn 3 ?_
       refine tn 4 ?_
       refine tn 5 ?_
       refine tn 6 ?_
       refine tn 7 ?_
       refine tn 8 ?_
       refine tn 9 ?_
       refine tn 10 ?_
       refine tk 11 ?_
       refine wpAnyH_done (by kernel_rfl) ?_ _
       refine NoPanic.normal ?_
       go_wp2
       go_meet
       exact ⟨rfl,rfl⟩
      | false =>
       obtain ⟨q,hq⟩ : ∃ q,Op.bytesLess ps[j].key.toList r.key.toList=q:=⟨_,rfl⟩
       have hq2:bZ ps[j].key r.key=q:=hq
       have HQ:=zH hq2
       clear hq2
       refine wp_region_noPanic ?_
       refine wp_region_held_drew (S:=(fun w':World=>w'.cell? ⟨b,off+j * 2,none⟩=some (.string ps[j].key)∧w'.cell? ⟨w.heap.size,2,none⟩=some (.string r.key))) (by kernel_rfl) (by (try dsimp only);exact ⟨d0,x2⟩) fun hHeld => ?_
       refine tk 0 ?_
       refine tk 1 ?_
       refine tk 2 ?_
       refine tk 3 ?_
       refine tk 4 ?_
       refine tk 5 ?_
       refine tk 6 ?_
       refine tk 7 ?_
       refine tk 8 ?_
       refine tk 9 ?_
       refine tk 10 ?_
       refine tk 11 ?_
       refine wpAnyH_done (by kernel_rfl) ?_ _
       refine NoPanic.normal ?_
       go_wp2
       go_meet
       exact ⟨by rw [HQ.out];rfl,rfl⟩
     case rest =>
     obtain ⟨rfl,rfl⟩:=hcut
     have HD:=zH HB.out.2.1.drew
     go_upto_if 56 with fail
     go_cut [7,8] from 39 to 79 (fun x' y' wx => ∃ o' xa' xc',x'=.slice xa' o'.length xc'∧nQ w wx r (.slice xa' o'.length xc') o'∧y'=.bool (bo || !bZ ps[j].key r.key)∧o'=o++(if bo=false∧bZ ps[j].key r.key=false then [⟨r.key,r.value⟩] else []))
     case first =>
      cases hc:(!bo && !bZ ps[j].key r.key) with
      | false =>
       go_wp2
       go_meet
       refine ⟨o,xa,xc,rfl,HD.out,?_,?_⟩
       ·
        cases bo with
        | true=>rfl
        | false=>cases hl:bZ ps[j].key r.key with
         | true=>rfl
         | false=>rw [hl] at hc;cases hc
       ·
        rw [if_neg (by rintro ⟨rfl,hl⟩;rw [hl] at hc;cases hc)];simp
      | true =>
       obtain ⟨rfl,hl⟩:bo=false∧bZ ps[j].key r.key=false:=by simpa using hc
       clear hc
       have hob:o.length≤ps.length+1:=by have:=HOL.out;omega
       obtain ⟨wd,hwd⟩ : ∃ q,wr.drew=q:=⟨_,rfl⟩
       rw [hwd] at HD ⊢
       obtain ⟨x0,x1,x2,x3,xf⟩:=ck HD.out.k0
       go_wp2_with (at_builtin;refine wpList_append_lies _ rfl _ _ 32 rfl w.heap.size 83 i0 (.agg #[.string ⟨#[]⟩,.string ⟨#[]⟩]) 2 32 underlying32 hi hz0 hz1 hz2 rfl (by decide) (.slice xa o.length xc) o.length (aC o) rfl (World.ownsRow.aj HD.out.own (ae zR _)) ⟨wd.heap.size,0,none⟩ 1 1 [.string r.key,.string r.value] rfl rfl (World.news_of_block (cs := #[.string r.key,.string r.value]) (t:=83) (fr:=(0,0)) (af wd _)) (xR _ _) (by decide) (by simp only [maxLen];omega) (by omega) (Nat.le_trans HD.out.below.size (by simp)) _ rfl ?_)
       intro g4 cap4 w2 how hgr _ _
       have hgr2:=dM (ae (Below.refl wd.heap.size wd) (.cells #[.string r.key,.string r.value] 83)) hgr
       have hown2:w2.ownsRow w.heap.size 83 2 (.slice (some ⟨g4,0,none⟩) (o.length+1) cap4) (o++[(⟨r.key,r.value⟩:aK)]).length (aC (o++[⟨r.key,r.value⟩])):=by
        rw [List.length_append,fM];exact how
       have k0':=(hgr2.block _ (aO HD.out.k0) (cE HD.out.own HD.out.k0 (by decide))).trans HD.out.k0
       have HN:=zH (show nQ w w2 r (.slice (some ⟨g4,0,none⟩) (o++[(⟨r.key,r.value⟩:aK)]).length cap4) (o++[⟨r.key,r.value⟩]) from by rw [List.length_append];exact ⟨gO HD.out.below (bK HD.out.own) hgr2,k0',hown2⟩)
       clear how hgr hgr2 hown2 k0'
       go_wp2
       go_meet
       refine ⟨o++[⟨r.key,r.value⟩],some ⟨g4,0,none⟩,cap4,?_,HN.out,?_,?_⟩
       ·
        rw [List.length_append];rfl
       ·
        first | trivial | (rw [hl];rfl)
       ·
        rw [if_pos (show _∧_ from ⟨by first | trivial | rfl,hl⟩)]
     case rest =>
     obtain ⟨o',xa',xc',rfl,hw',rfl,ho'⟩:=hcut
     obtain ⟨wd,hwd⟩ : ∃ q,q=wc:=⟨_,rfl⟩
     subst hwd
     have HB2:=zH (zA hw' ho')
     obtain ⟨d0',d1'⟩:=HCW.out wd hw'.below
     obtain ⟨x0',x1',x2',x3',xf'⟩:=ck hw'.k0
     clear hw' ho' d0 x0 x1 x2 x3 xf
     go_upto_region 16 with fail
     by_cases hk:ps[j].key=r.key
     ·
      have ek:(ps[j].key.toList == r.key.toList)=true:=by rw [gT,decide_eq_true hk]
      rw [if_pos hk] at hT
      have HTT:=zH hT
      clear hk hT
      refine wp_region_noPanic ?_
      refine wp_region_held_drew (S:=(fun w':World=>w'.cell? ⟨b,off+j * 2,none⟩=some (.string ps[j].key)∧w'.cell? ⟨w.heap.size,2,none⟩=some (.string r.key))) (by kernel_rfl) (by (try dsimp only);exact ⟨d0',x2'⟩) fun hHeld => ?_
      refine tk 0 ?_
      refine tk 1 ?_
      refine tk 2 ?_
      refine tk 3 ?_
      refine tk 4 ?_
      refine tk 5 ?_
      refine tk 6 ?_
      refine tk 7 ?_
      refine wpAnyH_done (by kernel_rfl) ?_ _
      refine NoPanic.normal ?_
      go_wp2
      go_roundg (ps.length - (j+1))
      case measure=>have:=HB.out.1;omega
      case rel=>exact ⟨j+1,_,o',xa',xc',rfl,rfl,rfl,by go_num,by omega,HB2.out.1.drew,by rw [← HB.out.2.2,HTT.out,HB2.out.2];simp⟩
     ·
      have ek:(ps[j].key.toList == r.key.toList)=false:=by rw [gT,decide_eq_false hk]
      rw [if_neg hk] at hT
      have HTT:=zH hT
      have hob:o'.length≤ps.length+1:=by have:=HOL.out;rw [HTT.out] at this;rw [HB2.out.2];simp only [List.length_append] at this ⊢;omega
      clear hk hT
      refine wp_region_noPanic ?_
      refine wp_region_held_drew (S:=(fun w':World=>w'.cell? ⟨b,off+j * 2,none⟩=some (.string ps[j].key)∧w'.cell? ⟨w.heap.size,2,none⟩=some (.string r.key))) (by kernel_rfl) (by (try dsimp only);exact ⟨d0',x2'⟩) fun hHeld => ?_
      refine tk 0 ?_
      refine tk 1 ?_
      refine tk 2 ?_
      refine tk 3 ?_
      refine tk 4 ?_
      refine tk 5 ?_
      refine tk 6 ?_
      refine tk 7 ?_
      refine wpAnyH_done (by kernel_rfl) ?_ _
      refine NoPanic.normal ?_
      obtain ⟨we,hwe⟩ : ∃ q,wd.drew=q:=⟨_,rfl⟩
      have HB3:=zH (show nQ w we r (.slice xa' o'.length xc') o' from hwe ▸ HB2.out.1.drew)
      obtain ⟨f0,f1⟩:=HCW.out we HB3.out.below
      rw [hwe]
      clear d0' d1' x0' x1' x2' x3' xf'
      go_wp2_with (at_builtin;refine wpList_append_lies _ rfl _ _ 32 rfl w.heap.size 83 i0 (.agg #[.string ⟨#[]⟩,.string ⟨#[]⟩]) 2 32 underlying32 hi hz0 hz1 hz2 rfl (by decide) (.slice xa' o'.length xc') o'.length (aC o') rfl (World.ownsRow.aj HB3.out.own (ae zR _)) ⟨we.heap.size,0,none⟩ 1 1 [.string ps[j].key,.string ps[j].value] rfl rfl (World.news_of_block (cs := #[.string ps[j].key,.string ps[j].value]) (t:=83) (fr:=(0,0)) (af we _)) (xR _ _) (by decide) (by simp only [maxLen];omega) (by omega) (Nat.le_trans HB3.out.below.size (by simp)) _ rfl ?_)
      intro g4 cap4 w2 how hgr _ _
      have hgr2:=dM (ae (Below.refl we.heap.size we) (.cells #[.string ps[j].key,.string ps[j].value] 83)) hgr
      have hown2:w2.ownsRow w.heap.size 83 2 (.slice (some ⟨g4,0,none⟩) (o'.length+1) cap4) (o'++[(⟨ps[j].key,ps[j].value⟩:aK)]).length (aC (o'++[⟨ps[j].key,ps[j].value⟩])):=by
       rw [List.length_append,fM];exact how
      have k0':=(hgr2.block _ (aO HB3.out.k0) (cE HB3.out.own HB3.out.k0 (by decide))).trans HB3.out.k0
      have HN:=zH (show nQ w w2 r (.slice (some ⟨g4,0,none⟩) (o'++[(⟨ps[j].key,ps[j].value⟩:aK)]).length cap4) (o'++[⟨ps[j].key,ps[j].value⟩]) from by rw [List.length_append];exact ⟨gO HB3.out.below (bK HB3.out.own) hgr2,k0',hown2⟩)
      clear how hgr hgr2 hown2 k0'
      go_wp2
      go_roundg (ps.length - (j+1))
      case measure=>have:=HB.out.1;omega
      case rel=>exact ⟨j+1,_,o'++[⟨ps[j].key,ps[j].value⟩],some ⟨g4,0,none⟩,cap4,rfl,by rw [List.length_append];rfl,rfl,by go_num,by omega,HN.out,by rw [← HB.out.2.2,HTT.out,HB2.out.2];simp⟩
    ·
     obtain rfl:j=ps.length:=by omega
     rw [List.drop_length] at HB
     cases bo with
     | true =>
      go_wp2
      go_ret2
      have e:=HB.out.2.2
      rw [show qi r.key r.value true []=[] from rfl,List.append_nil] at e
      rw [HBK.out,← e]
      exact ⟨_,rfl,HB.out.2.1.own,HB.out.2.1.below⟩
     | false =>
      have hob:o.length≤ps.length+1:=by omega
      go_wp2_with (at_builtin;refine wpList_append_lies _ rfl _ _ 32 rfl w.heap.size 83 i0 (.agg #[.string ⟨#[]⟩,.string ⟨#[]⟩]) 2 32 underlying32 hi hz0 hz1 hz2 rfl (by decide) (.slice xa o.length xc) o.length (aC o) rfl (World.ownsRow.aj HB.out.2.1.own (ae zR _)) ⟨wr.heap.size,0,none⟩ 1 1 [.string r.key,.string r.value] rfl rfl (World.news_of_block (cs := #[.string r.key,.string r.value]) (t:=83) (fr:=(0,0)) (af wr _)) (xR _ _) (by decide) (by simp only [maxLen];omega) (by omega) (Nat.le_trans HB.out.2.1.below.size (by simp)) _ rfl ?_)
      intro g4 cap4 w2 how hgr _ _
      have hgr2:=dM (ae (Below.refl wr.heap.size wr) (.cells #[.string r.key,.string r.value] 83)) hgr
      have hown2:w2.ownsRow w.heap.size 83 2 (.slice (some ⟨g4,0,none⟩) (o.length+1) cap4) (o++[(⟨r.key,r.value⟩:aK)]).length (aC (o++[⟨r.key,r.value⟩])):=by
       rw [List.length_append,fM];exact how
      have k0':=(hgr2.block _ (aO HB.out.2.1.k0) (cE HB.out.2.1.own HB.out.2.1.k0 (by decide))).trans HB.out.2.1.k0
      have HN:=zH (show nQ w w2 r (.slice (some ⟨g4,0,none⟩) (o++[(⟨r.key,r.value⟩:aK)]).length cap4) (o++[⟨r.key,r.value⟩]) from by rw [List.length_append];exact ⟨gO HB.out.2.1.below (bK HB.out.2.1.own) hgr2,k0',hown2⟩)
      clear how hgr hgr2 hown2 k0'
      have HEQ:=zH (show o++[⟨r.key,r.value⟩]=qi r.key r.value bk ps from HB.out.2.2)
      go_wp2
      go_ret2
      rw [HBK.out,← HEQ.out]
      refine ⟨.slice (some ⟨g4,0,none⟩) (o++[(⟨r.key,r.value⟩:aK)]).length cap4,?_,HN.out.own,HN.out.below⟩
      rw [List.length_append]
      rfl
theorem xv (v:Value) (rs:List aT) (w:World) (h:aQ w v rs.length 4 (bh rs)) (hn:rs.length≤200) (hr : ∀ r ∈ rs,fQ r):Calls prog 21 #[v] w (Fj (bU rs) w):=by
 have HW:=zH (fun u ps r w h1 h2 h3 h4=>yn u ps r w h1 h2 h3 h4)
 have HI:=zH hr
 have HS:=zH (fun j=>dh _ (rs.take j) rfl (fun r h=>hr r (List.mem_of_mem_take h)))
 have H:=zH h
 have HX:=zH (fun i (hi:i<rs.length)=>lz rs i hi)
 have HT:=zH (fun j (hj:j<rs.length)=>List.take_succ_eq_append_getElem hj)
 obtain ⟨a,c,rfl⟩:=h.slice
 unfold aT.cells at HW
 clear h hr
 go_enter func21,ntmps21
 go_wp2
 go_loopg [4,5] rs.length (fun n x i wr => ∃ j:Nat,n=rs.length - j∧i=.int .i64 j∧j≤rs.length∧Below w.heap.size w wr∧wr.ownsRow w.heap.size 83 2 x (bU (rs.take j)).length (aC (bU (rs.take j))))
 case atStart=>exact ⟨0,rfl,rfl,Nat.zero_le _,Below.refl _ _,zN⟩
 case round =>
  obtain ⟨j,hgn,rfl,hj,hb,ho⟩:=hrel
  have HB:=zH (zA hgn (zA hb ho))
  clear hgn hb ho
  by_cases hlt:j<rs.length
  ·
   have hlt':(j:Int)<(rs.length:Int):=by omega
   obtain ⟨b,o,rfl,hc,hx⟩:=H.out.some (by omega)
   obtain ⟨p0,p1,p2,p3⟩:=HX.out j hlt
   have cc : ∀ i u,(bh rs)[4 * j+i]? = some u→wr.cell? ⟨b,o+j * 4+i,none⟩=some u:=fun i u hu=>by
    have e:=hx _ _ hu
    rw [show o+j * 4+i=o+(4 * j+i) by omega]
    exact (HB.out.2.1.cell (p:=⟨b,o+(4 * j+i),none⟩) (zL w _ e)).trans e
   have c0:wr.cell? ⟨b,o+j * 4,none⟩=some (.int .i64 rs[j].kind):=cc 0 _ p0
   have c1:wr.cell? ⟨b,o+j * 4+1,none⟩=some (.int .i64 rs[j].ak):=cc 1 _ p1
   have c2:wr.cell? ⟨b,o+j * 4+2,none⟩=some (.string rs[j].key):=cc 2 _ p2
   have c3:wr.cell? ⟨b,o+j * 4+3,none⟩=some (.string rs[j].value):=cc 3 _ p3
   clear p0 p1 p2 p3 cc hx
   obtain ⟨xa,xc,rfl⟩:=bz HB.out.2.2
   have HCL:=zH (HW.out (.slice xa (bU (rs.take j)).length xc) (bU (rs.take j)) rs[j] wr (aQ.cX HB.out.2.2) (HS.out j).1 (HI.out _ (List.getElem_mem hlt)) (by have:=(HS.out j).2;have:=List.length_take_le j rs;omega))
   go_wp2_with (go_at_call 45;refine HCL.out.mono ?_;rintro e w2 ⟨v',rfl,ho2,hb2⟩)
   have HB2:=zH (zA (gtr HB.out.2.1 hb2) (eC ho2 HB.out.2.1.size))
   clear ho2 hb2 c0 c1 c2 c3
   go_roundg (rs.length - (j+1))
   case measure=>have:=HB.out.1;omega
   case rel=>exact ⟨j+1,rfl,by go_num,by omega,HB2.out.1,by rw [HT.out j hlt,lK];exact HB2.out.2⟩
  ·
   obtain rfl:j=rs.length:=by omega
   rw [List.take_length] at HB
   go_wp2
   go_ret2
   exact ⟨_,rfl,HB.out.2.2,HB.out.2.1⟩
theorem Jk {x:ByteArray} {sec:Nat} {V:bj} (h:Lay x sec V):iF (views x) 4=some (sec - 4)∧(views x)[sec - 4]? = some V ∧ ∀ (j:Nat) (U:bj),(views x)[j]? = some U→j≠sec - 4→U.bI=true→U.ak<V.ak:=by
 have h0:=h.s0
 have h1:=h.s1
 have hk:(views x)[sec - 4]? = some V:=by rw [pn,if_pos (by omega),show 4+(sec - 4)=sec by omega,h.view]
 have ho : ∀ (j:Nat) (U:bj),(views x)[j]? = some U→j≠sec - 4→U.bI=true→U.ak<V.ak:=fun j U hj hne hg=>by
  rw [pn] at hj
  split at hj
  ·
   rename_i hl
   obtain rfl:cZ x (4+j)=U:=by simpa using hj
   exact zb (h.dead (4+j) (by omega) (by omega) (by omega)) hg
  ·
   cases hj
 exact ⟨yK hk h.bI ho 4 (by omega) (by show 4≤4;omega),hk,ho⟩
theorem Ig (a:Bool) (b:Int) (c:Option Addr) (n d:Nat) (e:Int) : ∀ u ∈ ([.bool a,.int .i64 b,.slice c n d,.int .i64 e]:List Value),u.oneCell'=true:=by
 intro u hu
 simp only [List.mem_cons,List.not_mem_nil,or_false] at hu
 rcases hu with rfl | rfl | rfl | rfl <;> rfl
def Ml (w3 wr:World) (v:Value) (vs:List (bj×(Option Addr×Nat))):Prop :=
 Below w3.heap.size w3 wr∧wr.ownsRow w3.heap.size 52 4 v vs.length (du vs) ∧ ∀ p ∈ vs,wr.ownsRow w3.heap.size 74 4 (.slice p.2.1 p.1.aB.length p.2.2) p.1.aB.length (bh p.1.aB)
theorem xW (t:ByteArray) (a:Option Addr) (c:Nat) (rs:List Int) (w:World) (ht:t.size<140737488355328) (hr:aS w a rs) (hn:rs.length≤9223372036854775807):Calls prog 5 #[.string t,.slice a rs.length c] w fun e w'=>e=.returned (.bool true)∧Below w.heap.size w w':=by
 have HA:=zH (BI w)
 have HBG:=zH (fun w' (hb:Below w.heap.size w w')=>(show Calls prog 10 #[.string t,.slice a rs.length c,.int .i64 25] w' (Il w' (jE t)) from Ay t a c rs 25 w' ht (hr.aj hb) hn (by decide)))
 have HM:=zH AQ
 obtain ⟨j0,ji,jz0,jz1,jz2⟩:=info_parts zr
 clear hr
 generalize jE t=img at *
 go_enter func5,ntmps5
 go_upto_region 3 with (go_at_call 9;refine HA.out.mono ?_;rintro e w1 ⟨rfl,hb1⟩)
 go_upto_region 4 with (go_at_call 10;refine (HBG.out _ hb1).mono ?_;rintro e w2 ⟨p,W,G,y,g,ps,E,rfl,ho,hn0,hop,hmo,hg,hE⟩)
 have HO:=zH (zA (gtr hb1 ho.below) (zA hop hmo))
 have HC:=zH (mR p W G w2 ho.at_)
 rw [show W.m.ar.cells=y from hn0.calm.cells] at HC
 clear ho hn0 hg hb1 HA HBG
 obtain ⟨sec,V,hlay,hbl,hep,hS⟩:=hop
 obtain ⟨l1,l2,l3⟩:=Jk hlay
 have HL:=zH (zA l1 (zA l2 (zA l3 (zA hlay hbl))))
 have hy:y.size=4096:=hlay.size
 have hsk:=hlay.s1
 clear l1 l2 l3 hlay hbl hep hS hmo
 go_upto_region 9 with (go_at_call 14;refine HC.out.mono ?_;rintro e w3 ⟨rfl,rfl⟩)
 clear HC
 go_wp2
 go_loopg [8,9] 4 (fun n v i wr => ∃ (j:Nat) (vs:List (bj×(Option Addr×Nat))) (xa:Option Addr) (xc:Nat),n=4 - j∧i=.int .i64 (4+(j:Int))∧j≤4∧v=.slice xa j xc∧vs.length=j∧Ml w3 wr (.slice xa j xc) vs∧vs.map Prod.fst=(views y).take j)
 case atStart=>exact ⟨0,[],none,0,rfl,rfl,Nat.zero_le _,rfl,rfl,⟨Below.refl _ _,zN,fun p hp=>by cases hp⟩,rfl⟩
 case round =>
  obtain ⟨j,vs,xa,xc,hgn,rfl,hj,rfl,hvl,hva,hmap⟩:=hrel
  have HB:=zH (zA hgn (zA hva (zA hmap hvl)))
  clear hgn hva hmap
  by_cases hlt:j<4
  ·
   have hlt':4+(j:Int)<8:=by omega
   obtain ⟨lo,hlo⟩ : ∃ lo:Nat,lo=(4+j) * 512:=⟨_,rfl⟩
   have hw1:IntKind.i64.wrap (512 * (4+(j:Int)))=(lo:Int):=by rw [cU (by omega) (by omega)];omega
   have hw2:IntKind.i64.wrap ((lo:Int)+512)=((lo+512:Nat):Int):=by rw [cU (by omega) (by omega)];omega
   have hlo2:lo+512≤4096:=by omega
   have hex:y.extract lo (lo+512)=iD y (4+j):=by rw [hlo];exact extract_mk y ((4+j) * 512) 512 (by omega)
   have hvj:(views y)[j]? = some (cZ y (4+j)):=by rw [pn,if_pos hlt]
   have HSC:=zH (fun w'=>(show Calls prog 19 #[.string (y.extract lo (lo+512))] w' (Fm (cZ y (4+j)) 0 w') from by rw [hex];exact qL (iD y (4+j)) w' (eB _ _)))
   have HVJ:=zH (zA hvj hlo)
   clear hex hvj hlo
   generalize cZ y (4+j)=Vj at *
   obtain ⟨hi,hhi⟩ : ∃ hi:Nat,hi=lo+512:=⟨_,rfl⟩
   rw [← hhi] at HSC hw2 hlo2
   have hlh:lo≤hi:=by omega
   clear hhi
   go_upto_region 14 with (go_at_call 19;refine (HSC.out _).mono ?_;rintro e w4 ⟨vr,rfl,ow,hbw⟩;obtain ⟨ra,rc,rfl⟩:=bz ow)
   have hb5:=gtr hbw (ae (Below.refl w4.heap.size w4) (.cells #[.bool Vj.bI,.int .i64 Vj.ak,.slice ra Vj.aB.length rc,.int .i64 Vj.free] 52))
   have hva:=HB.out.2.1
   rw [← hvl] at hva
   have HA:=zH (zA (hva.1.trans (hb5.mono hva.1.size)) (zA (World.ownsRow.aj HB.out.2.1.2.1 hb5) (zA (fun q hq=>World.ownsRow.aj (HB.out.2.1.2.2 q hq) hb5) (eC (ow.alloc (.cells #[.bool Vj.bI,.int .i64 Vj.ak,.slice ra Vj.aB.length rc,.int .i64 Vj.free] 52)) hva.1.size))))
   have hz:=af w4 (.cells #[.bool Vj.bI,.int .i64 Vj.ak,.slice ra Vj.aB.length rc,.int .i64 Vj.free] 52)
   rw [hvl] at HA
   clear hb5 hva ow hbw HSC
   generalize w4.alloc (.cells #[.bool Vj.bI,.int .i64 Vj.ak,.slice ra Vj.aB.length rc,.int .i64 Vj.free] 52)=w5 at *
   obtain ⟨z0,z1,z2,z3,zf⟩:=ck hz
   clear hz
   go_upto_region 16 with (go_at_call 13;refine (HM.out _ _).mono ?_;rintro e w' ⟨rfl,rfl⟩)
   obtain ⟨w5,hw5⟩ : ∃ q,q=w':=⟨_,rfl⟩
   subst hw5
   go_wp2_with (at_builtin;refine wpList_append_lies _ rfl _ _ 49 rfl w3.heap.size 52 j0 (.agg #[.bool false,.int .i64 0,.slice none 0 0,.int .i64 0]) 4 48 underlying49 ji jz0 jz1 jz2 rfl (by decide) (.slice xa j xc) j (du vs) rfl (World.ownsRow.aj HA.out.2.1 (ae zR _)) ⟨w5.heap.size,0,none⟩ 1 1 [.bool Vj.bI,.int .i64 Vj.ak,.slice ra Vj.aB.length rc,.int .i64 Vj.free] rfl rfl (World.news_of_block (cs := #[.bool Vj.bI,.int .i64 Vj.ak,.slice ra Vj.aB.length rc,.int .i64 Vj.free]) (t:=52) (fr:=(0,0)) (af w5 _)) (Ig _ _ _ _ _ _) (by decide) (by simp only [maxLen];omega) (by omega) (Nat.le_trans HA.out.1.size (by simp)) _ rfl ?_)
   intro g4 cap4 w7 how hgr _ _
   have hgr2:=dM (ae (Below.refl w5.heap.size w5) (.cells #[.bool Vj.bI,.int .i64 Vj.ak,.slice ra Vj.aB.length rc,.int .i64 Vj.free] 52)) hgr
   have HN:=zH (show Ml w3 w7 (.slice (some ⟨g4,0,none⟩) (j+1) cap4) (vs++[(Vj,ra,rc)]) from ⟨gO HA.out.1 (bK HA.out.2.1) hgr2,by rw [qh,List.length_append,hvl];exact how,fun q hq=>by
    rcases List.mem_append.1 hq with hq | hq
    ·
     exact mI (HA.out.2.2.1 q hq) HA.out.2.1 (by decide) hgr2
    ·
     obtain rfl:=List.mem_singleton.1 hq
     exact mI HA.out.2.2.2 HA.out.2.1 (by decide) hgr2⟩)
   clear how hgr hgr2 z0 z1 z2 z3 zf
   go_wp2
   go_roundg (4 - (j+1))
   case measure=>have:=HB.out.1;omega
   case rel=>exact ⟨j+1,_,some ⟨g4,0,none⟩,cap4,rfl,by go_num,by omega,rfl,by rw [List.length_append,hvl];rfl,HN.out,by rw [List.map_append,HB.out.2.2.1,List.take_add_one,HVJ.out.1];rfl⟩
  ·
   obtain rfl:j=4:=by omega
   have hmap:vs.map Prod.fst=views y:=HB.out.2.2.1
   have hsl:=aQ.cX HB.out.2.1.2.1
   rw [hvl] at hsl
   have HBC:=zH (fun (h:aQ wr (.slice xa 4 xc) vs.length 4 (du vs))=>vP (.slice xa 4 xc) vs wr h (by omega))
   have HBC:=HBC.out (aQ.cX HB.out.2.1.2.1)
   obtain ⟨kk,hkk⟩ : ∃ kk,kk=sec - 4:=⟨_,rfl⟩
   rw [vN,hvl,hmap,HL.out.1,← hkk] at HBC
   have HBC:=zH (show Calls prog 20 #[.slice xa 4 xc] wr (fun e w'=>e=.returned (.tuple #[.int .i64 kk,.int .i64 0])∧Below wr.heap.size wr w') from HBC)
   obtain ⟨vb,off,rfl,hxc,hx⟩:=hsl.some (by decide)
   have hk4:kk<4:=by omega
   have hget : ∀ i,i<4 → ∃ q,vs[i]? = some q∧(views y)[i]? = some q.1:=fun i hi=>by
    have e:vs[i]? = some vs[i]:=List.getElem?_eq_getElem (by omega)
    refine ⟨_,e,?_⟩
    rw [← hmap,List.getElem?_map,e]
    rfl
   have HG:=zH hget
   have HX:=zH hx
   have HV:=zH hvl
   have HK:=zH hkk
   clear hx hsl hget hmap hvl hkk hlt
   go_upto_region 18 with (go_at_call 20;refine HBC.out.mono ?_;rintro e w8 ⟨rfl,hb8⟩)
   have hk4':(kk:Int)<4:=by omega
   have HW8:=zH (zA (HB.out.2.1.1.trans (hb8.mono HB.out.2.1.1.size)) hb8)
   have HX8:=zH (fun u v hu=>(hb8.cell (p:=⟨vb,off+u,none⟩) (zL wr _ (HX.out u v hu))).trans (HX.out u v hu))
   clear hb8 HBC
   go_upto_region 20 with (go_at_call 13;refine (HM.out _ _).mono ?_;rintro e w' ⟨rfl,rfl⟩)
   obtain ⟨w8,hw8⟩ : ∃ q,q=w':=⟨_,rfl⟩
   subst hw8
   go_wp2
   go_loopg [14] 4 (fun n v wq => ∃ i:Nat,n=4 - i∧v=.int .i64 i∧i≤4∧Below w8.heap.size w8 wq)
   case atStart=>exact ⟨0,rfl,rfl,Nat.zero_le _,Below.refl _ _⟩
   case round =>
    obtain ⟨i,hgn,rfl,hi,hbq⟩:=hrel
    obtain ⟨wq,hwq⟩ : ∃ q,q=wr:=⟨_,rfl⟩
    subst hwq
    have HQ:=zH (zA hgn hbq)
    obtain ⟨qk,hk1,hk2⟩:=HG.out kk hk4
    have hqV:qk.1=V:=by
     have e:=hk2.symm.trans ((by rw [HK.out]:(views y)[kk]? = (views y)[sec - 4]?).trans HL.out.2.1)
     exact Option.some.inj e
    have hcell : ∀ u v,(du vs)[u]? = some v→wq.cell? ⟨vb,off+u,none⟩=some v:=fun u v hu=>(hbq.cell (p:=⟨vb,off+u,none⟩) (zL w8 _ (HX8.out u v hu))).trans (HX8.out u v hu)
    obtain ⟨_,v1,v2,_⟩:=ka vs kk qk hk1
    rw [hqV] at v1 v2
    have u2:wq.cell? ⟨vb,off+kk * 4+1,none⟩=some (.int .i64 V.ak):=by rw [show off+kk * 4+1=off+(4 * kk+1) by omega];exact hcell _ _ v1
    have u3:wq.cell? ⟨vb,off+kk * 4+2,none⟩=some (.slice qk.2.1 V.aB.length qk.2.2):=by rw [show off+kk * 4+2=off+(4 * kk+2) by omega];exact hcell _ _ v2
    have HCE:=zH hcell
    have HQK:=zH (zA hk1 hqV)
    clear hk1 hk2 hqV hcell v1 v2 hgn hbq
    by_cases hlt:i<4
    ·
     have hlt':(i:Int)<4:=by omega
     obtain ⟨q,hq1,hq2⟩:=HG.out i hlt
     obtain ⟨v0,v1,_,_⟩:=ka vs i q hq1
     generalize q.1=U at *
     have u0:wq.cell? ⟨vb,off+i * 4,none⟩=some (.bool U.bI):=by rw [show off+i * 4=off+4 * i by omega];exact HCE.out _ _ v0
     have u1:wq.cell? ⟨vb,off+i * 4+1,none⟩=some (.int .i64 U.ak):=by rw [show off+i * 4+1=off+(4 * i+1) by omega];exact HCE.out _ _ v1
     have HQ2:=zH (zA hq2 HQ.out.2)
     clear hq1 hq2 v0 v1
     go_upto_region 23 with fail
     by_cases hik:i=kk
     ·
      have en:((i:Int) != (kk:Int))=false:=by rw [hik];simp
      clear hik u3
      refine wp_region_noPanic ?_
      refine wp_region_held_drew (S:=(fun w':World=>w'.cell? ⟨vb,off+i * 4,none⟩=some (.bool U.bI)∧w'.cell? ⟨vb,off+i * 4+1,none⟩=some (.int .i64 U.ak)∧w'.cell? ⟨vb,off+kk * 4+1,none⟩=some (.int .i64 V.ak))) (by kernel_rfl) (by (try dsimp only);exact ⟨u0,u1,u2⟩) fun hHeld => ?_
      refine tk 0 ?_
      refine tk 1 ?_
      refine tk 2 ?_
      refine tk 3 ?_
      refine tn 4 ?_
      refine tn 5 ?_
      refine tn 6 ?_
      refine tn 7 ?_
      refine tn 8 ?_
      refine tk 9 ?_
      refine tk 10 ?_
      refine tn 11 ?_
      refine tn 12 ?_
      refine tn 13 ?_
      refine tn 14 ?_
      refine tn 15 ?_
      refine tn 16 ?_
      refine tn 17 ?_
      refine tn 18 ?_
      refine tn 19 ?_
      refine tn 20 ?_
      refine tn 21 ?_
      refine tk 22 ?_
      refine wpAnyH_done (by kernel_rfl) ?_ _
      refine NoPanic.normal ?_
      go_wp2
      go_roundg (4 - (i+1))
      case measure=>have:=HQ.out.1;omega
      case rel=>exact ⟨i+1,rfl,by go_num,by omega,av HQ.out.2⟩
     ·
      have en:((i:Int) != (kk:Int))=true:=bne_iff_ne.2 (by omega)
      have HI:=zH hik
      clear hik u3
      cases hg:U.bI with
      | false =>
       rw [hg] at u0
       have HGG:=zH hg
       clear hg
       refine wp_region_noPanic ?_
       refine wp_region_held_drew (S:=(fun w':World=>w'.cell? ⟨vb,off+i * 4,none⟩=some (.bool false)∧w'.cell? ⟨vb,off+i * 4+1,none⟩=some (.int .i64 U.ak)∧w'.cell? ⟨vb,off+kk * 4+1,none⟩=some (.int .i64 V.ak))) (by kernel_rfl) (by (try dsimp only);exact ⟨u0,u1,u2⟩) fun hHeld => ?_
       refine tk 0 ?_
       refine tk 1 ?_
       refine tk 2 ?_
       refine tk 3 ?_
       refine tk 4 ?_
       refine tk 5 ?_
       refine tk 6 ?_
       refine tk 7 ?_
       refine tk 8 ?_
       refine tk 9 ?_
       refine tk 10 ?_
       refine tn 11 ?_
       refine tn 12 ?_
       refine tn 13 ?_
       refine tn 14 ?_
       refine tn 15 ?_
       refine tn 16 ?_
       refine tn 17 ?_
       refine tn 18 ?_
       refine tn 19 ?_
       refine tn 20 ?_
       refine tn 21 ?_
       refine tk 22 ?_
       refine wpAnyH_done (by kernel_rfl) ?_ _
       refine NoPanic.normal ?_
       go_wp2
       go_roundg (4 - (i+1))
       case measure=>have:=HQ.out.1;omega
       case rel=>exact ⟨i+1,rfl,by go_num,by omega,av HQ.out.2⟩
      | true =>
       have hep:U.ak<V.ak:=HL.out.2.2.1 i U HQ2.out.1 (by have:=HI.out;have:=HK.out;omega) hg
       have hge : ¬ V.ak≤U.ak:=by omega
       rw [hg] at u0
       clear hg hep
       refine wp_region_noPanic ?_
       refine wp_region_held_drew (S:=(fun w':World=>w'.cell? ⟨vb,off+i * 4,none⟩=some (.bool true)∧w'.cell? ⟨vb,off+i * 4+1,none⟩=some (.int .i64 U.ak)∧w'.cell? ⟨vb,off+kk * 4+1,none⟩=some (.int .i64 V.ak))) (by kernel_rfl) (by (try dsimp only);exact ⟨u0,u1,u2⟩) fun hHeld => ?_
       refine tk 0 ?_
       refine tk 1 ?_
       refine tk 2 ?_
       refine tk 3 ?_
       refine tk 4 ?_
       refine tk 5 ?_
       refine tk 6 ?_
       refine tk 7 ?_
       refine tk 8 ?_
       refine tk 9 ?_
       refine tk 10 ?_
       refine tk 11 ?_
       refine tk 12 ?_
       refine tk 13 ?_
       refine tk 14 ?_
       refine tk 15 ?_
       refine tk 16 ?_
       refine tk 17 ?_
       refine tk 18 ?_
       refine tk 19 ?_
       refine tk 20 ?_
       refine tk 21 ?_
       refine tk 22 ?_
       refine wpAnyH_done (by kernel_rfl) ?_ _
       refine NoPanic.normal ?_
       go_wp2
       go_roundg (4 - (i+1))
       case measure=>have:=HQ.out.1;omega
       case rel=>exact ⟨i+1,rfl,by go_num,by omega,av HQ.out.2⟩
    ·
     have hlt' : ¬ (i:Int)<4:=by omega
     have hvok:=HL.out.2.2.2.1.LL
     have hmem:qk ∈ vs:=List.mem_of_getElem? HQK.out.1
     have hrec:=World.ownsRow.aj (World.ownsRow.aj (HB.out.2.1.2.2 qk hmem) HW8.out.2) HQ.out.2
     rw [HQK.out.2] at hrec
     have HBU:=zH (xv _ V.aB wq (aQ.cX hrec) (by have:=hvok.len;omega) hvok.aB)
     rw [HL.out.2.2.2.2] at HBU
     have HW9:=zH (HW8.out.1.trans (HQ.out.2.mono HW8.out.1.size))
     have hlen:=(HO.out.2.1.kept.sorted).2
     have HLN:=zH hlen
     clear hvok hmem hrec hlen u2 hlt
     go_upto_region 26 with (go_at_call 21;refine HBU.out.mono ?_;rintro e w9 ⟨vp,rfl,o9,hb9⟩;obtain ⟨pa,pc,rfl⟩:=bz o9)
     have hmo:=(HO.out.2.2.aj HW9.out).aj hb9
     obtain ⟨mg,ma,mc,mq,ma3,mn3,mc3,mrow,ms,mf⟩:=hmo
     obtain ⟨g0,g1,g2,g3,g4,gf⟩:=lF mrow
     have HP:=zH (kh _ _ ps ps w9 (aQ.cX o9) ms (by have:=HLN.out;omega))
     rw [show decide (ps=ps)=true from decide_eq_true rfl] at HP
     have HB9:=zH (HO.out.1.trans ((HW9.out.trans (hb9.mono HW9.out.size)).mono HO.out.1.size))
     clear o9 hb9 mrow ms mf mg HBU u3
     go_wp2_with (go_at_call 22;refine HP.out.mono ?_;rintro e wx ⟨rfl,hbx⟩)
     go_ret
     exact ⟨rfl,gtr HB9.out hbx⟩
section
open Go.ChangeShapes Go.WideShapes Go.ChangeAt Go.RowKit Go.Deep
section
variable {H:Type} {enc:TypeId×Value→H} {W:World}
theorem Nk:prog.cellsOf 3=1:=by kernel_rfl
theorem Nj:prog.bytesOf 3=8:=by kernel_rfl
theorem GX {fuel:Nat} {v:Value} {x:DataW H×List MemPlace} (h:DataW.trod enc prog W 0 (fun _=>true) true fuel 22 [v]=some x) (hw:(x.1.weights prog 22).all (· ≤ reachBytes)=true) : ∃ (a:Option Addr) (c:Nat) (zs:List Int),v=.slice a zs.length c∧aS W a zs∧(a=none→c=0)∧zs.length * 8≤140737488355328∧zs.length≤c:=by
 rcases open_ints underlying22 underlying3 Nk h with ⟨hcs,_⟩ | ⟨a,l,c,zs,hcs,_,hl,hm,hz,hx,hcell,hwz⟩
 ·
  obtain rfl:v=.slice none 0 0:=by simpa using hcs
  exact ⟨none,0,[],rfl,aS.nil _ _,fun _=>rfl,by simp,Nat.le_refl _⟩
 ·
  obtain rfl:v=.slice (some a) l c:=by simpa using hcs
  subst hx
  simp only [if_true] at hz
  have e:(zs.take l).length=l:=by simp;omega
  have hr:c * 8≤reachBytes:=by
   have:=List.all_eq_true.1 hw ((lits IntKind.i64 (zs.take l)).length * 8+(lits IntKind.i64 (zs.drop l)).length * 8) (by
    unfold DataW.weights
    rw [underlying22]
    simp only [Nj,List.mem_cons]
    left
    omega)
   simp only [lits,List.length_map,List.length_take,List.length_drop,decide_eq_true_eq] at this
   omega
  simp only [reachBytes] at hr
  refine ⟨some a,c,zs.take l,by rw [e],fun i hi => ?_,(fun h=>by cases h),(by rw [e];omega),(by rw [e];exact hl)⟩
  rw [e] at hi
  obtain ⟨b,off,spot⟩:=a
  have hi':i<zs.length:=by omega
  have hc:=hcell i hi'
  have hspot:spot=none:=by simpa [Addr.add] using World.cell?_spot (hcell 0 (by omega))
  subst hspot
  refine ⟨b,off,rfl,?_⟩
  rw [dq] at hc
  rw [hc]
  simp [List.getD,hi]
end
end
end Go.Proofs.YtcfdenckiigdaaaGreat

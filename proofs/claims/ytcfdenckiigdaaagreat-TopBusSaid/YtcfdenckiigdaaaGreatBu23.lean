/- Part 23 of the contracts. -/
import Derived.Test.YtcfdenckiigdaaaGreatBu22
set_option linter.unusedVariables false
set_option maxRecDepth 100000
set_option maxHeartbeats 4000000
namespace Go.Proofs.YtcfdenckiigdaaaGreat
open Tryz Go.RowKit
section
open Go.RowKit
variable {X:Nat→Prop}
theorem Bm {S:au} (f:S.Fit):S.view.Je:=by
 rcases f with rfl | f
 ·
  exact ⟨Nat.zero_le _,fun r hr=>by cases hr⟩
 ·
  exact ⟨f.2.2.2.len,f.2.2.2.ay⟩
theorem IZ {X:Nat→Prop} (s k c b:Nat) (m:aB) (q:Cache) (S:au) (H:Nat→Prop) (x z:Int) (w:World) (h:Sys X w s k c b m q S H) (ok:m.Ok) (g:q.Good) (x0:0≤x) (x1:x<4096) (z0:0≤z) (z1:z≤8):Calls prog 63 #[.pointer (some ⟨b,0,none⟩),.int .i64 x,.int .i64 z] w fun e w'=>e=.returned (.tuple #[.int .i64 (bF m q x z).2.2.1,.int .i64 (bF m q x z).2.2.2])∧qw X s k c b (bF m q x z).1 (bF m q x z).2.1 S H w w' :=
 (wv k c b m q H x z w h.both ok g x0 x1 z0 z1).mono fun e w' ⟨he,H',hb,st⟩=>⟨he,H',h.step hb st (kJ ok g x z x0).2.2,st⟩
theorem Lp (p pa:Nat) (W:gz) (G:Nat→Prop) (x:cW) (ba:Option Addr) (bc:Nat) (ra:Option Addr) (rc:Nat) (w:World) (h:bI X w p W G) (hx:fG w pa x ba bc ra rc) (hpa : ¬ G pa) (ok:W.m.Ok) (kn:W.m.kh) (g:W.q.Good) (fit:W.S.Fit) (hh:0<W.m.an.busy.length→W.m.an.home<w.heap.size) (hi:aJ w ra x.reads G) (hcap:x.reads.length≤rc) (hm:x.reads.length≤1000000) (hv:x.value.size<140737488355328) (hat:0≤x.at_∧x.at_<4096) (hwi:0≤x.width∧x.width≤8) (hk:x.kind=1):Calls prog 32 #[.pointer (some ⟨p,0,none⟩),.pointer (some ⟨pa,0,none⟩)] w (eL X p ⟨(fX W.m).1,W.q,(fX W.m).2.1⟩ ⟨⟨#[]⟩,[],[],false⟩ (fX W.m).2.2 G w):=by
 obtain ⟨s,k,c,b,H,z,I⟩:=nz h hx hpa hh hi
 have c0:w.cell? ⟨pa,0,none⟩=some (.int .i64 1):=by rw [← hk];exact cell_of hx 0
 have hpl:=aV hx
 have HI:=zH I
 have HC:=zH (BS s k c b W.m W.q W.S H _ I.sys ok kn I.home)
 have HF:=zH (pY ok).2
 generalize fX W.m=t at *
 clear h I hx hpa hh hi hcap hm kn ok g fit hv hat hwi
 go_enter func32,ntmps32
 go_upto_region 7 with fail
 have eZ:(w.alloc (.cells #[.string ⟨#[]⟩,.slice none 0 0,.slice none 0 0,.bool false] 34)).alloc (.cells #[.string ⟨#[]⟩,.slice none 0 0,.slice none 0 0,.bool false] 34)=(w.alloc ZA).alloc ZA:=rfl
 rw [eZ]
 clear eZ c0 hpl
 generalize (w.alloc ZA).alloc ZA=w2 at *
 have HGE:=zH HI.out.ge
 generalize hR:w.heap.size=R at HI HGE ⊢
 generalize hO:R+1=O at HI HGE ⊢
 have HN:=zH (zA HI.out.np (zA HI.out.KF (zA HI.out.ne.1 HI.out.ne.2.1)))
 have HO:=zH (zA HI.out.rO HI.out.nO)
 have HS:=zH (fun w' (F:Nat→Prop) (t:Touch F w2 w') n1 n2=>HI.out.reads F t n1 n2)
 clear hR hO
 obtain ⟨r0,r1,r2,r3,r4,rf⟩:=oz HI.out.row
 go_upto_region 21 with (go_at_call 58;refine HC.out.mono ?_;rintro e w1 ⟨rfl,H1,hs1,st1⟩)
 have hr1:=zH (zA hs1 st1)
 clear hs1 st1 r0 r1 r2 r3 r4 rf
 have HA:=zH (zA (hr1.out.2.aD.at HO.out.1 HO.out.2) (zA (hr1.out.2.aD.at HI.out.rR HI.out.nR) (Touch.refl (aM O) w1)))
 generalize hwa:w1=wa at HA ⊢
 obtain ⟨z0,z1,z2,z3,zf⟩:=cw (show wa.heap[O]? = some (.cells #[.string ⟨#[]⟩,.slice none 0 0,.slice none 0 0,.bool false] 34 (0,0)) from HA.out.1)
 obtain ⟨y0,y1,y2,y3,yf⟩:=cw HA.out.2.1
 go_wp2_with fail
 obtain ⟨q0,q1,q2,q3,qf⟩:=cw (eO HA.out.2.1 (.string ⟨#[]⟩) (.slice none 0 0) (.slice none 0 0) (.bool false))
 refine bodyPost_ret (v:=.tuple #[.agg #[.string ⟨#[]⟩,.slice none 0 0,.slice none 0 0,.bool false],.int .i64 t.2.2]) ?_ rfl ?_
 ·
  change (results _ _).run _ (lL _ _ _ _ _ _)=_
  simp [results,results32,go_sem,q0,q1,q2,q3]
  rfl
 ·
  exact iV HI.out hr1.out.1 hr1.out.2 HF.out ⟨⟨#[]⟩,[],[],false⟩ t.2.2 none 0 none 0 zN zN (fun g hg=>by simp [Value.ownBlock] at hg) (fun g hg=>by simp [Value.ownBlock] at hg) (show Touch (aM O) w1 wa by rw [hwa];exact Touch.refl _ _) (cN wa R _ _ _ _)
theorem Lr (p pa:Nat) (W:gz) (G:Nat→Prop) (x:cW) (ba:Option Addr) (bc:Nat) (ra:Option Addr) (rc:Nat) (w:World) (h:bI X w p W G) (hx:fG w pa x ba bc ra rc) (hpa : ¬ G pa) (ok:W.m.Ok) (kn:W.m.kh) (g:W.q.Good) (fit:W.S.Fit) (hh:0<W.m.an.busy.length→W.m.an.home<w.heap.size) (hi:aJ w ra x.reads G) (hcap:x.reads.length≤rc) (hm:x.reads.length≤1000000) (hv:x.value.size<140737488355328) (hat:0≤x.at_∧x.at_<4096) (hwi:0≤x.width∧x.width≤8) (hk:x.kind=3):Calls prog 32 #[.pointer (some ⟨p,0,none⟩),.pointer (some ⟨pa,0,none⟩)] w (eL X p W ⟨(vJ W.S x.key).1,[],[],false⟩ (vJ W.S x.key).2 G w):=by
 obtain ⟨s,k,c,b,H,z,I⟩:=nz h hx hpa hh hi
 have c0:w.cell? ⟨pa,0,none⟩=some (.int .i64 3):=by rw [← hk];exact cell_of hx 0
 have hpl:=aV hx
 have HI:=zH I
 have HC:=zH (fun w' (hb:Below ((w.alloc ZA).alloc ZA).heap.size ((w.alloc ZA).alloc ZA) w')=>wZ s k c b W.m W.q W.S H x.key w' (I.sys.aj hb) (Bm fit))
 generalize vJ W.S x.key=t at *
 clear h I hx hpa hh hi hcap hm kn ok g fit hv hat hwi
 go_enter func32,ntmps32
 go_upto_region 11 with fail
 have eZ:(w.alloc (.cells #[.string ⟨#[]⟩,.slice none 0 0,.slice none 0 0,.bool false] 34)).alloc (.cells #[.string ⟨#[]⟩,.slice none 0 0,.slice none 0 0,.bool false] 34)=(w.alloc ZA).alloc ZA:=rfl
 rw [eZ]
 clear eZ c0 hpl
 generalize (w.alloc ZA).alloc ZA=w2 at *
 have HGE:=zH HI.out.ge
 generalize hR:w.heap.size=R at HI HGE ⊢
 generalize hO:R+1=O at HI HGE ⊢
 have HN:=zH (zA HI.out.np (zA HI.out.KF (zA HI.out.ne.1 HI.out.ne.2.1)))
 have HO:=zH (zA HI.out.rO HI.out.nO)
 have HS:=zH (fun w' (F:Nat→Prop) (t:Touch F w2 w') n1 n2=>HI.out.reads F t n1 n2)
 clear hR hO
 refine wp_region_noPanic ?_
 refine wp_region_held_drew (S:=(cn s b p pa x ra rc)) (by kernel_rfl) (by (try dsimp only);exact HS.out _ (fun _=>False) (Touch.ah (aw zR)) id id) fun hHeld => ?_
 refine tk 0 ?_ (hy:=by intro w h;unfold cn at h;go_simp;try with_reducible rfl)
 refine tk 1 ?_ (hy:=by intro w h;unfold cn at h;go_simp;try with_reducible rfl)
 refine tk 2 ?_ (hy:=by intro w h;unfold cn at h;go_simp;try with_reducible rfl)
 refine tk 3 ?_ (hy:=by intro w h;unfold cn at h;go_simp;try with_reducible rfl)
 refine tk 4 ?_ (hy:=by intro w h;unfold cn at h;go_simp;try with_reducible rfl)
 refine tk 5 ?_ (hy:=by intro w h;unfold cn at h;go_simp;try with_reducible rfl)
 refine tk 6 ?_ (hy:=by intro w h;unfold cn at h;go_simp;try with_reducible rfl)
 refine tk 7 ?_ (hy:=by intro w h;unfold cn at h;go_simp;try with_reducible rfl)
 refine tr 8 fun K hK => ?_
 go_simp
 go_at_call 60
 refine (HC.out _ (aw zR)).mono ?_
 rintro e w1 ⟨rfl,hb1⟩
 have hb2:=gtr (aw (Below.refl w2.heap.size w2)) hb1
 have ht1:Touch (bP s H) w2 w1:=Touch.ah hb2
 obtain ⟨z0,z1,z2,z3,zf⟩:=cw (ht1.at HO.out.1 HO.out.2)
 have hr1:=zH (zA (HI.out.sys.aj hb2) (zA (show Step (bP s H) (bP s H) w2 w1 from Step.ah hb2) (zA ht1 (zA ht1 ht1))))
 clear hb1 hb2 ht1
 go_wp2_with fail
 refine hK.out _ _ (by (try dsimp only);exact HS.out _ _ hr1.out.2.2.1 HN.out.1 HN.out.2.1) fun hHeld => ?_
 clear hK K
 try simp only [Act.put,zS,zT,zU]
 refine tk 9 ?_ (hy:=by intro w h;unfold cn at h;go_simp;try with_reducible rfl)
 refine tk 10 ?_ (hy:=by intro w h;unfold cn at h;go_simp;try with_reducible rfl)
 refine tk 11 ?_ (hy:=by intro w h;unfold cn at h;go_simp;try with_reducible rfl)
 refine tk 12 ?_ (hy:=by intro w h;unfold cn at h;go_simp;try with_reducible rfl)
 refine tr 13 fun K hK => ?_
 go_simp
 refine hK.out _ _ (by (try dsimp only);exact HS.out _ (fun i=>bP s H i∨i=O) ((hr1.out.2.2.1.mono fun i h=>.inl h).set _ _ _ (.inr rfl)) (fun h=>h.elim HN.out.1 HN.out.2.2.1) (fun h=>h.elim HN.out.2.1 HN.out.2.2.2)) fun hHeld => ?_
 clear hK K
 try simp only [Act.put,zS,zT,zU]
 refine tk 14 ?_ (hy:=by intro w h;unfold cn at h;go_simp;try with_reducible rfl)
 refine wpAnyH_done (by kernel_rfl) ?_ _
 refine NoPanic.normal ?_
 have ho:=zH (zA (hr1.out.2.2.1.at HO.out.1 HO.out.2) (hr1.out.2.2.1.at HI.out.rR HI.out.nR))
 have rOa:(w1.setCell ⟨O,0,none⟩ (.string t.1)).heap[O]? = _:=av ho.out.1
 have ta:Touch (aM O) w1 (w1.setCell ⟨O,0,none⟩ (.string t.1)):=(Touch.refl (aM O) w1).set O 0 _ rfl
 have HA:=zH (zA rOa (zA (ta.at ho.out.2 (fun e=>HI.out.ne.2.2.2.2 (show R=O from e).symm)) ta))
 clear z0 z1 z2 z3 zf rOa ta HC HS ho
 generalize w1.setCell ⟨O,0,none⟩ (.string t.1)=wa at *
 obtain ⟨z0,z1,z2,z3,zf⟩:=cw (show wa.heap[O]? = some (.cells #[.string t.1,.slice none 0 0,.slice none 0 0,.bool false] 34 (0,0)) from HA.out.1)
 obtain ⟨y0,y1,y2,y3,yf⟩:=cw HA.out.2.1
 go_wp2_with fail
 obtain ⟨q0,q1,q2,q3,qf⟩:=cw (eO HA.out.2.1 (.string t.1) (.slice none 0 0) (.slice none 0 0) (.bool false))
 refine bodyPost_ret (v:=.tuple #[.agg #[.string t.1,.slice none 0 0,.slice none 0 0,.bool false],.int .i64 t.2]) ?_ rfl ?_
 ·
  change (results _ _).run _ (lL _ _ _ _ _ _)=_
  simp [results,results32,go_sem,q0,q1,q2,q3]
  rfl
 ·
  exact iV HI.out hr1.out.1 hr1.out.2.1 (bD.refl _) ⟨t.1,[],[],false⟩ t.2 none 0 none 0 zN zN (fun g hg=>by simp [Value.ownBlock] at hg) (fun g hg=>by simp [Value.ownBlock] at hg) HA.out.2.2 (cN wa R _ _ _ _)
theorem Lt (p pa:Nat) (W:gz) (G:Nat→Prop) (x:cW) (ba:Option Addr) (bc:Nat) (ra:Option Addr) (rc:Nat) (w:World) (h:bI X w p W G) (hx:fG w pa x ba bc ra rc) (hpa : ¬ G pa) (ok:W.m.Ok) (kn:W.m.kh) (g:W.q.Good) (fit:W.S.Fit) (hh:0<W.m.an.busy.length→W.m.an.home<w.heap.size) (hi:aJ w ra x.reads G) (hcap:x.reads.length≤rc) (hm:x.reads.length≤1000000) (hv:x.value.size<140737488355328) (hat:0≤x.at_∧x.at_<4096) (hwi:0≤x.width∧x.width≤8) (hk:x.kind=5):Calls prog 32 #[.pointer (some ⟨p,0,none⟩),.pointer (some ⟨pa,0,none⟩)] w (eL X p W ⟨⟨#[]⟩,(kA W.S).1,[],false⟩ (kA W.S).2 G w):=by
 obtain ⟨s,k,c,b,H,z,I⟩:=nz h hx hpa hh hi
 have c0:w.cell? ⟨pa,0,none⟩=some (.int .i64 5):=by rw [← hk];exact cell_of hx 0
 have hpl:=aV hx
 have HI:=zH I
 have HC:=zH (uD s k c b W.m W.q W.S H _ I.sys (Bm fit))
 generalize kA W.S=t at *
 clear h I hx hpa hh hi hcap hm kn ok g fit hv hat hwi
 go_enter func32,ntmps32
 go_upto_region 15 with fail
 have eZ:(w.alloc (.cells #[.string ⟨#[]⟩,.slice none 0 0,.slice none 0 0,.bool false] 34)).alloc (.cells #[.string ⟨#[]⟩,.slice none 0 0,.slice none 0 0,.bool false] 34)=(w.alloc ZA).alloc ZA:=rfl
 rw [eZ]
 clear eZ c0 hpl
 generalize (w.alloc ZA).alloc ZA=w2 at *
 have HGE:=zH HI.out.ge
 generalize hR:w.heap.size=R at HI HGE ⊢
 generalize hO:R+1=O at HI HGE ⊢
 have HN:=zH (zA HI.out.np (zA HI.out.KF (zA HI.out.ne.1 HI.out.ne.2.1)))
 have HO:=zH (zA HI.out.rO HI.out.nO)
 have HS:=zH (fun w' (F:Nat→Prop) (t:Touch F w2 w') n1 n2=>HI.out.reads F t n1 n2)
 clear hR hO
 obtain ⟨r0,r1,r2,r3,r4,rf⟩:=oz HI.out.row
 have HLT:=zH HI.out.sys.lt
 go_upto_region 21 with (go_at_call 62;refine HC.out.mono ?_;rintro e w1 ⟨v,rfl,ho1,hb1⟩;obtain ⟨va,vc,rfl⟩:=cA ho1;obtain ⟨z0,z1,z2,z3,zf⟩:=cw (aa hb1 HO.out.1))
 have hr1:=zH (zA (HI.out.sys.aj hb1) (zA (show Step (bP s H) (bP s H) w2 w1 from Step.ah hb1) (zA ho1 (show ∀ g,(Value.slice va t.1.length vc).ownBlock=some g → ¬ bP s H g from fun g hg hm=>by have:=cH ho1 g hg;have:=HLT.out g hm;omega))))
 clear ho1 hb1 r0 r1 r2 r3 r4 rf z0 z1 z2 z3 zf
 have ho:=zH (zA (hr1.out.2.1.aD.at HO.out.1 HO.out.2) (hr1.out.2.1.aD.at HI.out.rR HI.out.nR))
 have rOa:(w1.setCell ⟨O,1,none⟩ (.slice va t.1.length vc)).heap[O]? = _:=av ho.out.1
 have ta:Touch (aM O) w1 (w1.setCell ⟨O,1,none⟩ (.slice va t.1.length vc)):=(Touch.refl (aM O) w1).set O 1 _ rfl
 have HA:=zH (zA rOa (zA (ta.at ho.out.2 (fun e=>HI.out.ne.2.2.2.2 (show R=O from e).symm)) ta))
 clear rOa ta HC HS ho
 generalize w1.setCell ⟨O,1,none⟩ (.slice va t.1.length vc)=wa at *
 obtain ⟨z0,z1,z2,z3,zf⟩:=cw (show wa.heap[O]? = some (.cells #[.string ⟨#[]⟩,.slice va t.1.length vc,.slice none 0 0,.bool false] 34 (0,0)) from HA.out.1)
 obtain ⟨y0,y1,y2,y3,yf⟩:=cw HA.out.2.1
 go_wp2_with fail
 obtain ⟨q0,q1,q2,q3,qf⟩:=cw (eO HA.out.2.1 (.string ⟨#[]⟩) (.slice va t.1.length vc) (.slice none 0 0) (.bool false))
 refine bodyPost_ret (v:=.tuple #[.agg #[.string ⟨#[]⟩,.slice va t.1.length vc,.slice none 0 0,.bool false],.int .i64 t.2]) ?_ rfl ?_
 ·
  change (results _ _).run _ (lL _ _ _ _ _ _)=_
  simp [results,results32,go_sem,q0,q1,q2,q3]
  rfl
 ·
  exact iV HI.out hr1.out.1 hr1.out.2.1 (bD.refl _) ⟨⟨#[]⟩,t.1,[],false⟩ t.2 va vc none 0 hr1.out.2.2.1 zN hr1.out.2.2.2 (fun g hg=>by simp [Value.ownBlock] at hg) HA.out.2.2 (cN wa R _ _ _ _)
theorem Lv (p pa:Nat) (W:gz) (G:Nat→Prop) (x:cW) (ba:Option Addr) (bc:Nat) (ra:Option Addr) (rc:Nat) (w:World) (h:bI X w p W G) (hx:fG w pa x ba bc ra rc) (hpa : ¬ G pa) (ok:W.m.Ok) (kn:W.m.kh) (g:W.q.Good) (fit:W.S.Fit) (hh:0<W.m.an.busy.length→W.m.an.home<w.heap.size) (hi:aJ w ra x.reads G) (hcap:x.reads.length≤rc) (hm:x.reads.length≤1000000) (hv:x.value.size<140737488355328) (hat:0≤x.at_∧x.at_<4096) (hwi:0≤x.width∧x.width≤8) (hk:x.kind=7):Calls prog 32 #[.pointer (some ⟨p,0,none⟩),.pointer (some ⟨pa,0,none⟩)] w (eL X p W ⟨⟨#[]⟩,[],[],false⟩ 0 G w):=by
 obtain ⟨s,k,c,b,H,z,I⟩:=nz h hx hpa hh hi
 have c0:w.cell? ⟨pa,0,none⟩=some (.int .i64 7):=by rw [← hk];exact cell_of hx 0
 have hpl:=aV hx
 have HI:=zH I
 clear h I hx hpa hh hi hcap hm kn ok g fit hv hat hwi
 go_enter func32,ntmps32
 go_upto_region 21 with fail
 have eZ:(w.alloc (.cells #[.string ⟨#[]⟩,.slice none 0 0,.slice none 0 0,.bool false] 34)).alloc (.cells #[.string ⟨#[]⟩,.slice none 0 0,.slice none 0 0,.bool false] 34)=(w.alloc ZA).alloc ZA:=rfl
 rw [eZ]
 clear eZ c0 hpl
 generalize (w.alloc ZA).alloc ZA=w2 at *
 have HGE:=zH HI.out.ge
 generalize hR:w.heap.size=R at HI HGE ⊢
 generalize hO:R+1=O at HI HGE ⊢
 have HN:=zH (zA HI.out.np (zA HI.out.KF (zA HI.out.ne.1 HI.out.ne.2.1)))
 have HO:=zH (zA HI.out.rO HI.out.nO)
 have HS:=zH (fun w' (F:Nat→Prop) (t:Touch F w2 w') n1 n2=>HI.out.reads F t n1 n2)
 clear hR hO
 have HA:=zH (zA HO.out.1 (zA HI.out.rR (Touch.refl (aM O) w2)))
 generalize hwa:w2=wa at HA ⊢
 obtain ⟨z0,z1,z2,z3,zf⟩:=cw (show wa.heap[O]? = some (.cells #[.string ⟨#[]⟩,.slice none 0 0,.slice none 0 0,.bool false] 34 (0,0)) from HA.out.1)
 obtain ⟨y0,y1,y2,y3,yf⟩:=cw HA.out.2.1
 go_wp2_with fail
 obtain ⟨q0,q1,q2,q3,qf⟩:=cw (eO HA.out.2.1 (.string ⟨#[]⟩) (.slice none 0 0) (.slice none 0 0) (.bool false))
 refine bodyPost_ret (v:=.tuple #[.agg #[.string ⟨#[]⟩,.slice none 0 0,.slice none 0 0,.bool false],.int .i64 0]) ?_ rfl ?_
 ·
  change (results _ _).run _ (lL _ _ _ _ _ _)=_
  simp [results,results32,go_sem,q0,q1,q2,q3]
  rfl
 ·
  exact iV HI.out HI.out.sys (Step.refl _ _) (bD.refl _) ⟨⟨#[]⟩,[],[],false⟩ 0 none 0 none 0 zN zN (fun g hg=>by simp [Value.ownBlock] at hg) (fun g hg=>by simp [Value.ownBlock] at hg) (show Touch (aM O) w2 wa by rw [hwa];exact Touch.refl _ _) (cN wa R _ _ _ _)
end
section
open Go.RowKit
variable {X:Nat→Prop}
def C1 (er y:Int):List Int:=if er=0 then [y] else []
theorem Lu (p pa:Nat) (W:gz) (G:Nat→Prop) (x:cW) (ba:Option Addr) (bc:Nat) (ra:Option Addr) (rc:Nat) (w:World) (h:bI X w p W G) (hx:fG w pa x ba bc ra rc) (hpa : ¬ G pa) (ok:W.m.Ok) (kn:W.m.kh) (g:W.q.Good) (fit:W.S.Fit) (hh:0<W.m.an.busy.length→W.m.an.home<w.heap.size) (hi:aJ w ra x.reads G) (hcap:x.reads.length≤rc) (hm:x.reads.length≤1000000) (hv:x.value.size<140737488355328) (hat:0≤x.at_∧x.at_<4096) (hwi:0≤x.width∧x.width≤8) (hk:x.kind=6):Calls prog 32 #[.pointer (some ⟨p,0,none⟩),.pointer (some ⟨pa,0,none⟩)] w (eL X p ⟨(bF W.m W.q x.at_ x.width).1,(bF W.m W.q x.at_ x.width).2.1,W.S⟩ ⟨⟨#[]⟩,[],C1 (bF W.m W.q x.at_ x.width).2.2.2 (bF W.m W.q x.at_ x.width).2.2.1,false⟩ (bF W.m W.q x.at_ x.width).2.2.2 G w):=by
 obtain ⟨s,k,c,b,H,z,I⟩:=nz h hx hpa hh hi
 have c0:w.cell? ⟨pa,0,none⟩=some (.int .i64 6):=by rw [← hk];exact cell_of hx 0
 have hpl:=aV hx
 have HI:=zH I
 have HC:=zH (fun w' (hb:Below ((w.alloc ZA).alloc ZA).heap.size ((w.alloc ZA).alloc ZA) w')=>IZ s k c b W.m W.q W.S H x.at_ x.width w' (I.sys.aj hb) ok g hat.1 hat.2 hwi.1 hwi.2)
 have HF:=zH (kJ ok g x.at_ x.width hat.1).2.2
 generalize bF W.m W.q x.at_ x.width=t at *
 obtain ⟨m1,q1,y,er⟩:=t
 simp only at HC HF ⊢
 clear h I hx hpa hh hi hcap hm kn ok g fit hv hat hwi
 go_enter func32,ntmps32
 go_upto_region 18 with fail
 have eZ:(w.alloc (.cells #[.string ⟨#[]⟩,.slice none 0 0,.slice none 0 0,.bool false] 34)).alloc (.cells #[.string ⟨#[]⟩,.slice none 0 0,.slice none 0 0,.bool false] 34)=(w.alloc ZA).alloc ZA:=rfl
 rw [eZ]
 clear eZ c0 hpl
 generalize (w.alloc ZA).alloc ZA=w2 at *
 have HGE:=zH HI.out.ge
 generalize hR:w.heap.size=R at HI HGE ⊢
 generalize hO:R+1=O at HI HGE ⊢
 have HN:=zH (zA HI.out.np (zA HI.out.KF (zA HI.out.ne.1 HI.out.ne.2.1)))
 have HO:=zH (zA HI.out.rO HI.out.nO)
 have HS:=zH (fun w' (F:Nat→Prop) (t:Touch F w2 w') n1 n2=>HI.out.reads F t n1 n2)
 clear hR hO
 go_cut [7,8] from 13 to 121 (fun v7 v8 wx=>v7=.int .i64 er∧v8=.int .i64 y ∧ ∃ H1,Sys X wx s k c b m1 q1 W.S H1∧Step (bP s H) (bP s H1) w2 wx)
 case first =>
  refine wp_region_noPanic ?_
  refine wp_region_held_drew (S:=(cn s b p pa x ra rc)) (by kernel_rfl) (by (try dsimp only);exact HS.out _ (fun _=>False) (Touch.ah (aw zR)) id id) fun hHeld => ?_
  refine tk 0 ?_ (hy:=by intro w h;unfold cn at h;go_simp;try with_reducible rfl)
  refine tk 1 ?_ (hy:=by intro w h;unfold cn at h;go_simp;try with_reducible rfl)
  refine tk 2 ?_ (hy:=by intro w h;unfold cn at h;go_simp;try with_reducible rfl)
  refine tk 3 ?_ (hy:=by intro w h;unfold cn at h;go_simp;try with_reducible rfl)
  refine tk 4 ?_ (hy:=by intro w h;unfold cn at h;go_simp;try with_reducible rfl)
  refine tk 5 ?_ (hy:=by intro w h;unfold cn at h;go_simp;try with_reducible rfl)
  refine tk 6 ?_ (hy:=by intro w h;unfold cn at h;go_simp;try with_reducible rfl)
  refine tk 7 ?_ (hy:=by intro w h;unfold cn at h;go_simp;try with_reducible rfl)
  refine tk 8 ?_ (hy:=by intro w h;unfold cn at h;go_simp;try with_reducible rfl)
  refine tk 9 ?_ (hy:=by intro w h;unfold cn at h;go_simp;try with_reducible rfl)
  refine tk 10 ?_ (hy:=by intro w h;unfold cn at h;go_simp;try with_reducible rfl)
  refine tk 11 ?_ (hy:=by intro w h;unfold cn at h;go_simp;try with_reducible rfl)
  refine tr 12 fun K hK => ?_
  go_simp
  go_at_call 63
  refine (HC.out _ (aw zR)).mono ?_
  rintro e w1 ⟨rfl,H1,hs1,st1⟩
  have hr1:=zH (show ∃ H1,Sys X w1 s k c b m1 q1 W.S H1∧Step (bP s H) (bP s H1) w2 w1 from ⟨H1,hs1,(Step.ah (aw (Below.refl w2.heap.size w2))).trans st1.kC⟩)
  have hq1:Touch (bP s H) w2 w1:=(Touch.ah (F:=bP s H) (aw (Below.refl w2.heap.size w2))).trans st1.kC.aD
  clear hs1 st1
  go_wp2_with fail
  refine hK.out _ _ (by (try dsimp only);exact HS.out _ _ hq1 HN.out.1 HN.out.2.1) fun hHeld => ?_
  clear hK K
  try simp only [Act.put,zS,zT,zU]
  refine tk 13 ?_ (hy:=by intro w h;unfold cn at h;go_simp;try with_reducible rfl)
  refine tk 14 ?_ (hy:=by intro w h;unfold cn at h;go_simp;try with_reducible rfl)
  refine tk 15 ?_ (hy:=by intro w h;unfold cn at h;go_simp;try with_reducible rfl)
  refine tk 16 ?_ (hy:=by intro w h;unfold cn at h;go_simp;try with_reducible rfl)
  refine tk 17 ?_ (hy:=by intro w h;unfold cn at h;go_simp;try with_reducible rfl)
  refine wpAnyH_done (by kernel_rfl) ?_ _
  refine NoPanic.normal ?_
  go_wp2
  go_meet
  exact ⟨rfl,rfl,hr1.out⟩
 case rest =>
  obtain ⟨rfl,rfl,H1,hs1,st1⟩:=hcut
  have hr1:=zH (zA hs1 st1)
  clear hs1 st1
  by_cases he:er=0
  ·
   subst he
   have ho1:=hr1.out.2.aD.at HO.out.1 HO.out.2
   have e0:=ag wc (.cells #[.int .i64 y] 3)
   have hb1:=ae (Below.refl wc.heap.size wc) (.cells #[.int .i64 y] 3)
   have HL:=zH (show O<wc.heap.size from aV ho1)
   have z9:=hr1.out.2.aD.size
   have hr2:=zH (zA (hr1.out.1.aj hb1) (zA (hr1.out.2.trans (Step.ah hb1)) (zA (uQ e0 z9 (show (1:Nat)=1 * 1 from rfl) (show 1≤1000 by decide)) (show ∀ g,(Value.slice (some ⟨wc.heap.size,0,none⟩) 1 1).ownBlock=some g → ¬ bP s H1 g from fun g hg hm=>by
    obtain rfl:wc.heap.size=g:=by simpa [Value.ownBlock] using hg
    exact Nat.lt_irrefl _ (hr1.out.1.lt _ hm)))))
   obtain ⟨z0,z1,z2,z3,zf⟩:=cw (aa hb1 ho1)
   clear ho1 e0 hb1 z9
   go_upto_region 21 with fail
   generalize hw1:wc.alloc (.cells #[.int .i64 y] 3)=w1 at *
   generalize wc.heap.size=gb at *
   have ho:=zH (zA (hr2.out.2.1.aD.at HO.out.1 HO.out.2) (hr2.out.2.1.aD.at HI.out.rR HI.out.nR))
   have rOa:(w1.setCell ⟨O,2,none⟩ (.slice (some ⟨gb,0,none⟩) 1 1)).heap[O]? = _:=av ho.out.1
   have ta:Touch (aM O) w1 (w1.setCell ⟨O,2,none⟩ (.slice (some ⟨gb,0,none⟩) 1 1)):=(Touch.refl (aM O) w1).set O 2 _ rfl
   have HA:=zH (zA rOa (zA (ta.at ho.out.2 (fun e=>HI.out.ne.2.2.2.2 (show R=O from e).symm)) ta))
   clear z0 z1 z2 z3 zf rOa ta HC HS ho
   generalize w1.setCell ⟨O,2,none⟩ (.slice (some ⟨gb,0,none⟩) 1 1)=wa at *
   obtain ⟨z0,z1,z2,z3,zf⟩:=cw (show wa.heap[O]? = some (.cells #[.string ⟨#[]⟩,.slice none 0 0,.slice (some ⟨gb,0,none⟩) 1 1,.bool false] 34 (0,0)) from HA.out.1)
   obtain ⟨y0,y1,y2,y3,yf⟩:=cw HA.out.2.1
   go_wp2_with fail
   obtain ⟨q0,q1,q2,q3,qf⟩:=cw (eO HA.out.2.1 (.string ⟨#[]⟩) (.slice none 0 0) (.slice (some ⟨gb,0,none⟩) 1 1) (.bool false))
   refine bodyPost_ret (v:=.tuple #[.agg #[.string ⟨#[]⟩,.slice none 0 0,.slice (some ⟨gb,0,none⟩) 1 1,.bool false],.int .i64 0]) ?_ rfl ?_
   ·
    change (results _ _).run _ (lL _ _ _ _ _ _)=_
    simp [results,results32,go_sem,q0,q1,q2,q3]
    rfl
   ·
    exact iV HI.out hr2.out.1 hr2.out.2.1 HF.out ⟨⟨#[]⟩,[],[y],false⟩ 0 none 0 (some ⟨gb,0,none⟩) 1 zN hr2.out.2.2.1 (fun g hg=>by simp [Value.ownBlock] at hg) hr2.out.2.2.2 HA.out.2.2 (cN wa R _ _ _ _)
  ·
   have hne:(er == 0)=false:=zQ he
   have HE:=zH (show C1 er y=[] from if_neg he)
   clear he
   go_upto_region 21 with fail
   have HA:=zH (zA (hr1.out.2.aD.at HO.out.1 HO.out.2) (zA (hr1.out.2.aD.at HI.out.rR HI.out.nR) (Touch.refl (aM O) wc)))
   generalize hwa:wc=wa at HA ⊢
   obtain ⟨z0,z1,z2,z3,zf⟩:=cw (show wa.heap[O]? = some (.cells #[.string ⟨#[]⟩,.slice none 0 0,.slice none 0 0,.bool false] 34 (0,0)) from HA.out.1)
   obtain ⟨y0,y1,y2,y3,yf⟩:=cw HA.out.2.1
   go_wp2_with fail
   obtain ⟨q0,q1,q2,q3,qf⟩:=cw (eO HA.out.2.1 (.string ⟨#[]⟩) (.slice none 0 0) (.slice none 0 0) (.bool false))
   refine bodyPost_ret (v:=.tuple #[.agg #[.string ⟨#[]⟩,.slice none 0 0,.slice none 0 0,.bool false],.int .i64 er]) ?_ rfl ?_
   ·
    change (results _ _).run _ (lL _ _ _ _ _ _)=_
    simp [results,results32,go_sem,q0,q1,q2,q3]
    rfl
   ·
    exact (by rw [HE.out];exact iV HI.out hr1.out.1 hr1.out.2 HF.out ⟨⟨#[]⟩,[],[],false⟩ er none 0 none 0 zN zN (fun g hg=>by simp [Value.ownBlock] at hg) (fun g hg=>by simp [Value.ownBlock] at hg) (show Touch (aM O) wc wa by rw [hwa];exact Touch.refl _ _) (cN wa R _ _ _ _))
end
section
open Go.RowKit
variable {X:Nat→Prop}
def kP (W:gz) (x:cW):gz×jA×Int :=
 if x.kind=0 then (⟨(cO W.m W.q x.reads).1,(cO W.m W.q x.reads).2.1,(cO W.m W.q x.reads).2.2.1⟩,⟨⟨#[]⟩,[],outs (cO W.m W.q x.reads).2.2.2.2 (cO W.m W.q x.reads).2.2.2.1,false⟩,(cO W.m W.q x.reads).2.2.2.2)
 else if x.kind=1 then (⟨(fX W.m).1,W.q,(fX W.m).2.1⟩,⟨⟨#[]⟩,[],[],false⟩,(fX W.m).2.2)
 else if x.kind=2 then (⟨(iR W.m W.q W.S x.key x.value x.reads).1,(iR W.m W.q W.S x.key x.value x.reads).2.1,(iR W.m W.q W.S x.key x.value x.reads).2.2.1⟩,⟨⟨#[]⟩,[],outs (iR W.m W.q W.S x.key x.value x.reads).2.2.2.2 (iR W.m W.q W.S x.key x.value x.reads).2.2.2.1,false⟩,(iR W.m W.q W.S x.key x.value x.reads).2.2.2.2)
 else if x.kind=3 then (W,⟨(vJ W.S x.key).1,[],[],false⟩,(vJ W.S x.key).2)
 else if x.kind=4 then (⟨(iP W.m W.q W.S x.key x.reads).1,(iP W.m W.q W.S x.key x.reads).2.1,(iP W.m W.q W.S x.key x.reads).2.2.1⟩,⟨⟨#[]⟩,[],outs (iP W.m W.q W.S x.key x.reads).2.2.2.2 (iP W.m W.q W.S x.key x.reads).2.2.2.1,false⟩,(iP W.m W.q W.S x.key x.reads).2.2.2.2)
 else if x.kind=5 then (W,⟨⟨#[]⟩,(kA W.S).1,[],false⟩,(kA W.S).2)
 else if x.kind=6 then (⟨(bF W.m W.q x.at_ x.width).1,(bF W.m W.q x.at_ x.width).2.1,W.S⟩,⟨⟨#[]⟩,[],C1 (bF W.m W.q x.at_ x.width).2.2.2 (bF W.m W.q x.at_ x.width).2.2.1,false⟩,(bF W.m W.q x.at_ x.width).2.2.2)
 else (W,⟨⟨#[]⟩,[],[],false⟩,0)
structure cW.Gz (x:cW):Prop where
 kind:0≤x.kind∧x.kind≤7
 at_:0≤x.at_∧x.at_<4096
 width:0≤x.width∧x.width≤8
 cD:0≤x.cD∧x.cD≤65535
 mask:x.mask.size≤16
 value:x.value.size≤40
 key:x.key.size≤12
 busy:x.busy.length≤16 ∧ ∀ y ∈ x.busy,1≤y∧y≤400
 reads:x.reads.length≤16 ∧ ∀ y ∈ x.reads,0≤y∧y≤4095
theorem jD {l u x:Int} (h:bG l u [x]=true):l≤x∧x≤u:=by
 unfold bG at h
 simpa using h
theorem sY {l u:Int} {xs:List Int} (h:bG l u xs=true):xs.length≤16 ∧ ∀ y ∈ xs,l≤y∧y≤u:=by
 unfold bG at h
 simp only [Bool.and_eq_true,List.all_eq_true,decide_eq_true_eq] at h
 exact ⟨h.2,h.1⟩
theorem BR {x:cW} (h:qQ x=true):x.Gz:=by
 unfold qQ at h
 simp only [Bool.and_eq_true] at h
 obtain ⟨⟨⟨⟨⟨⟨⟨h1,h2⟩,h3⟩,h4⟩,h5⟩,h6⟩,h7⟩,h8⟩:=h
 unfold qd at h2
 simp only [Bool.and_eq_true,decide_eq_true_eq] at h2
 exact ⟨jD h1,⟨(jD h4).1,by have:=(jD h4).2;omega⟩,jD h5,jD h6,h2.2,h2.1.2,h2.1.1,sY h7,sY h8⟩
theorem EZ (p pa:Nat) (W:gz) (G:Nat→Prop) (x:cW) (ba:Option Addr) (bc:Nat) (ra:Option Addr) (rc:Nat) (w:World) (h:bI X w p W G) (hx:fG w pa x ba bc ra rc) (hpa : ¬ G pa) (ok:W.m.Ok) (kn:W.m.kh) (g:W.q.Good) (fit:W.S.Fit) (hh:0<W.m.an.busy.length→W.m.an.home<w.heap.size) (hi:aJ w ra x.reads G) (hcap:x.reads.length≤rc) (f:x.Gz):Calls prog 32 #[.pointer (some ⟨p,0,none⟩),.pointer (some ⟨pa,0,none⟩)] w (eL X p (kP W x).1 (kP W x).2.1 (kP W x).2.2 G w):=by
 have hm:x.reads.length≤1000000:=Nat.le_trans f.reads.1 (by decide)
 have hv:x.value.size<140737488355328:=Nat.lt_of_le_of_lt f.value (by decide)
 obtain ⟨k0,k1⟩:=f.kind
 have hk:x.kind=0∨x.kind=1∨x.kind=2∨x.kind=3∨x.kind=4∨x.kind=5∨x.kind=6∨x.kind=7:=by omega
 unfold kP
 rcases hk with e | e | e | e | e | e | e | e
 ·
  rw [if_pos e];exact Lo p pa W G x ba bc ra rc w h hx hpa ok kn g fit hh hi hcap hm hv f.at_ f.width e
 ·
  rw [if_neg (by omega),if_pos e];exact Lp p pa W G x ba bc ra rc w h hx hpa ok kn g fit hh hi hcap hm hv f.at_ f.width e
 ·
  rw [if_neg (by omega),if_neg (by omega),if_pos e];exact Lq p pa W G x ba bc ra rc w h hx hpa ok kn g fit hh hi hcap hm hv f.at_ f.width e
 ·
  rw [if_neg (by omega),if_neg (by omega),if_neg (by omega),if_pos e];exact Lr p pa W G x ba bc ra rc w h hx hpa ok kn g fit hh hi hcap hm hv f.at_ f.width e
 ·
  rw [if_neg (by omega),if_neg (by omega),if_neg (by omega),if_neg (by omega),if_pos e];exact Ls p pa W G x ba bc ra rc w h hx hpa ok kn g fit hh hi hcap hm hv f.at_ f.width e
 ·
  rw [if_neg (by omega),if_neg (by omega),if_neg (by omega),if_neg (by omega),if_neg (by omega),if_pos e];exact Lt p pa W G x ba bc ra rc w h hx hpa ok kn g fit hh hi hcap hm hv f.at_ f.width e
 ·
  rw [if_neg (by omega),if_neg (by omega),if_neg (by omega),if_neg (by omega),if_neg (by omega),if_neg (by omega),if_pos e];exact Lu p pa W G x ba bc ra rc w h hx hpa ok kn g fit hh hi hcap hm hv f.at_ f.width e
 ·
  rw [if_neg (by omega),if_neg (by omega),if_neg (by omega),if_neg (by omega),if_neg (by omega),if_neg (by omega),if_neg (by omega)];exact Lv p pa W G x ba bc ra rc w h hx hpa ok kn g fit hh hi hcap hm hv f.at_ f.width e
theorem AV {W:gz} (ok:W.m.Ok) (g:W.q.Good) (fit:W.S.Fit) {x:cW} (f:x.Gz):(kP W x).1.m.Ok∧(kP W x).1.q.Good∧bD W.m (kP W x).1.m:=by
 unfold kP
 split
 ·
  exact tv ok g x.reads
 ·
  split
  ·
   exact ⟨(pY ok).1,g,(pY ok).2⟩
  ·
   split
   ·
    exact B9 ok g fit x.key x.value x.reads
   ·
    split
    ·
     exact ⟨ok,g,bD.refl _⟩
    ·
     split
     ·
      exact Be ok g fit x.key x.reads
     ·
      split
      ·
       exact ⟨ok,g,bD.refl _⟩
      ·
       split
       ·
        exact kJ ok g x.at_ x.width f.at_.1
       ·
        exact ⟨ok,g,bD.refl _⟩
def aB.next (m:aB) (xs:List Int) (hm:Nat):aB:={ m with an:={ m.an with busy:=xs,home:=hm } }
theorem IY (s k c b:Nat) (m:aB) (q:Cache) (S:au) (H:Nat→Prop) (a:Option Addr) (cap:Nat) (xs:List Int) (w:World) (h:Sys X w s k c b m q S H) (hi:aK w a xs) (hn:a=none→cap=0) (hl:xs.length≤16) (hx : ∀ y ∈ xs,1≤y∧y≤400):Calls prog 30 #[.pointer (some ⟨c,0,none⟩),.slice a xs.length cap] w fun e w'=>e=.returned (.int .i64 0) ∧ ∃ hm H',(0<xs.length→w.heap.size≤hm)∧Sys X w' s k c b (m.next xs hm) q S H'∧Step H H' w w':=by
 obtain ⟨F,hc,hF,hl2⟩:=h.an
 refine (vw c m.an F a cap xs w hc hi hn hl hx).mono ?_
 rintro e w' ⟨rfl,hm,F',h1,h2,h3⟩
 obtain ⟨H',hs,st⟩:=hl2 w' _ F' h2 h3 (fun hl=>.inl (h1 hl))
 exact ⟨rfl,hm,H',h1,hs,st⟩
theorem Kp (s k c b:Nat) (m:aB) (q:Cache) (S:au) (H:Nat→Prop) (n:Int) (w:World) (h:Sys X w s k c b m q S H) (hn:0≤n):Calls prog 31 #[.pointer (some ⟨k,0,none⟩),.int .i64 n] w fun e w'=>e=.returned (.int .i64 0)∧qw X s k c b { m with left:=n } q S H w w':=by
 obtain ⟨G,hc,hl⟩:=h.vz
 refine (Fk k c m G n w hc hn).mono ?_
 rintro e w' ⟨rfl,G',h1,h2⟩
 exact ⟨rfl,hl w' _ G' h1 h2 ⟨rfl,Nat.le_refl _⟩⟩
theorem IX (s k c b:Nat) (m:aB) (q:Cache) (S:au) (H:Nat→Prop) (w:World) (h:Sys X w s k c b m q S H):Calls prog 33 #[.pointer (some ⟨k,0,none⟩)] w fun e w'=>e=.returned (.bool m.lost)∧w=w':=by
 obtain ⟨G,hc,hl⟩:=h.vz
 exact xr k c m G w hc
theorem IW (s k c b:Nat) (m:aB) (q:Cache) (S:au) (H:Nat→Prop) (mask:ByteArray) (w:World) (h:Sys X w s k c b m q S H) (ok:m.Ok) (hm:mask.size≤4096):Calls prog 34 #[.pointer (some ⟨c,0,none⟩),.string mask] w fun e w'=>e=.returned (.int .i64 0)∧qw X s k c b { m with an:=m.an.cD mask } q S H w w':=by
 obtain ⟨F,hc,hF,hl2⟩:=h.an
 refine (vv c m.an F w hc ok.bX.ok mask hm).mono ?_
 rintro e w' ⟨rfl,F',h2,h3⟩
 exact ⟨rfl,hl2 w' _ F' h2 h3 (fun hl=>by cases hl)⟩
theorem D2 (p s k c b:Nat) (m:aB) (q:Cache) (S:au) (H:Nat→Prop) (z:Int) (w:World) (h:Sys X w s k c b m q S H) (hr:jm w p c (some ⟨k,0,none⟩) (some ⟨b,0,none⟩) (some ⟨s,0,none⟩) z) (hp : ¬ H p) (hb:m.an.busy=[]):Calls prog 35 #[.pointer (some ⟨p,0,none⟩)] w fun e w'=>e=.returned (.tuple #[]) ∧ ∃ s' k' b' H' z',jm w' p c (some ⟨k',0,none⟩) (some ⟨b',0,none⟩) (some ⟨s',0,none⟩) z'∧Sys X w' s' k' c b' (aB.new m.an) Cache.new shut H' ∧ ¬ bP s' H' p∧Touch (aM p) w w' ∧ ∀ i,bP s' H' i→H i∨w.heap.size≤i:=by
 obtain ⟨F,hc,hF,hl2⟩:=h.an
 obtain ⟨G,hk,_⟩:=h.vz
 refine (lq p c (some ⟨k,0,none⟩) (some ⟨b,0,none⟩) (some ⟨s,0,none⟩) z m.an F w hr hc (fun hf=>hp (hF p hf)) hb h.both.Ja (fun w' hb=>uv k c m G w' (hk.aj hb))).mono ?_
 rintro e w' ⟨rfl,s',k',b',H',z',h1,h2,h3,h4,h5⟩
 exact ⟨rfl,s',k',b',H',z',h1,h2,h3,h4,fun i hi=>(h5 i hi).imp (hF i) id⟩
end
end Go.Proofs.YtcfdenckiigdaaaGreat

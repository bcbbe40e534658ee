/- Part 44 of the contracts. -/
import Derived.Test.YtcfdenckiigdaaaGreatKp43
set_option linter.unusedVariables false
set_option maxRecDepth 100000
set_option maxHeartbeats 4000000
namespace Go.Proofs.YtcfdenckiigdaaaGreat
section
open Go.RowKit
theorem qoM {S:qaf} (f:S.Fit):S.view.Recs:=by
 rcases f with rfl | f
 ·
  exact ⟨Nat.zero_le _,fun r hr=>by cases hr⟩
 ·
  exact ⟨f.2.2.2.len,f.2.2.2.recs⟩
theorem qut {X:Nat→Prop} (s k c b:Nat) (m:Ctl) (q:Cache) (S:qaf) (H:Nat→Prop) (x z:Int) (w:World) (h:Sys X w s k c b m q S H) (ok:m.Ok) (g:q.Good) (x0:0≤x) (x1:x<4096) (z0:0≤z) (z1:z≤8):Calls Tryz.prog 63 #[.pointer (some ⟨b,0,none⟩),.int .i64 x,.int .i64 z] w fun e w'=>e=.returned (.tuple #[.int .i64 (readR m q x z).2.2.1,.int .i64 (readR m q x z).2.2.2])∧qkR X s k c b (readR m q x z).1 (readR m q x z).2.1 S H w w' :=
 (qkt k c b m q H x z w h.both ok g x0 x1 z0 z1).mono fun e w' ⟨he,H',hb,st⟩=>⟨he,H',h.step hb st (qd5 ok g x z x0).2.2,st⟩
theorem qwJ (p pa:Nat) (W:Wld) (G:Nat→Prop) (x:qbV) (ba:Option Addr) (bc:Nat) (ra:Option Addr) (rc:Nat) (w:World) (h:qaz w p W G) (hx:qco w pa x ba bc ra rc) (hpa : ¬ G pa) (ok:W.m.Ok) (kn:W.m.Known) (g:W.q.Good) (fit:W.S.Fit) (hh:0<W.m.chip.busy.length→W.m.chip.home<w.heap.size) (hi:qak w ra x.reads G) (hcap:x.reads.length≤rc) (hm:x.reads.length≤1000000) (hv:x.value.size<140737488355328) (hat:0≤x.at_∧x.at_<4096) (hwi:0≤x.width∧x.width≤8) (hk:x.kind=1):Calls Tryz.prog 32 #[.pointer (some ⟨p,0,none⟩),.pointer (some ⟨pa,0,none⟩)] w (qa2 p ⟨(mountR W.m).1,W.q,(mountR W.m).2.1⟩ ⟨⟨#[]⟩,[],[],false⟩ (mountR W.m).2.2 G w):=by
 obtain ⟨s,k,c,b,H,z,I⟩:=qhe h hx hpa hh hi
 have c0:w.cell? ⟨pa,0,none⟩=some (.int .i64 1):=by rw [← hk];exact qaa hx 0
 have hpl:=qat hx
 have HI:=zH I
 have HC:=zH (qnR s k c b W.m W.q W.S H _ I.sys ok kn I.home)
 have HF:=zH (qgW ok).2
 generalize mountR W.m=t at *
 clear h I hx hpa hh hi hcap hm kn ok g fit hv hat hwi
 go_enter Tryz.func32,Tryz.ntmps32
 go_upto_region 7 with fail
 have eZ:(w.alloc (.cells #[.string ⟨#[]⟩,.slice none 0 0,.slice none 0 0,.bool false] 34)).alloc (.cells #[.string ⟨#[]⟩,.slice none 0 0,.slice none 0 0,.bool false] 34)=(w.alloc ZA).alloc ZA:=rfl
 rw [eZ]
 clear eZ c0 hpl
 generalize (w.alloc ZA).alloc ZA=w2 at *
 have HGE:=zH HI.out.ge
 generalize hR:w.heap.size=R at HI HGE ⊢
 generalize hO:R+1=O at HI HGE ⊢
 have HN:=zH (zA HI.out.np (zA HI.out.npa (zA HI.out.ne.1 HI.out.ne.2.1)))
 have HO:=zH (zA HI.out.rO HI.out.nO)
 have HS:=zH (fun w' (F:Nat→Prop) (t:Touch F w2 w') n1 n2=>HI.out.reads F t n1 n2)
 clear hR hO
 obtain ⟨r0,r1,r2,r3,r4,rf⟩:=row5 HI.out.row
 go_upto_region 21 with (go_at_call 58;refine HC.out.mono ?_;rintro e w1 ⟨rfl,H1,hs1,st1⟩)
 have hr1:=zH (zA hs1 st1)
 clear hs1 st1 r0 r1 r2 r3 r4 rf
 have HA:=zH (zA (hr1.out.2.touch.at HO.out.1 HO.out.2) (zA (hr1.out.2.touch.at HI.out.rR HI.out.nR) (Touch.refl (Only O) w1)))
 generalize hwa:w1=wa at HA ⊢
 obtain ⟨z0,z1,z2,z3,zf⟩:=row4 (show wa.heap[O]? = some (.cells #[.string ⟨#[]⟩,.slice none 0 0,.slice none 0 0,.bool false] 34 (0,0)) from HA.out.1)
 obtain ⟨y0,y1,y2,y3,yf⟩:=row4 HA.out.2.1
 go_wp2_with fail
 obtain ⟨q0,q1,q2,q3,qf⟩:=row4 (qbA HA.out.2.1 (.string ⟨#[]⟩) (.slice none 0 0) (.slice none 0 0) (.bool false))
 refine bodyPost_ret (v:=.tuple #[.agg #[.string ⟨#[]⟩,.slice none 0 0,.slice none 0 0,.bool false],.int .i64 t.2.2]) ?_ rfl ?_
 ·
  change (results _ _).run _ (put4 _ _ _ _ _ _)=_
  simp [results,Tryz.results32,go_sem,q0,q1,q2,q3]
  rfl
 ·
  exact qcT HI.out hr1.out.1 hr1.out.2 HF.out ⟨⟨#[]⟩,[],[],false⟩ t.2.2 none 0 none 0 (World.ownsRow_nil _ _ _ _) (World.ownsRow_nil _ _ _ _) (fun g hg=>by simp [Value.ownBlock] at hg) (fun g hg=>by simp [Value.ownBlock] at hg) (show Touch (Only O) w1 wa by rw [hwa];exact Touch.refl _ _) (qaK wa R _ _ _ _)
theorem qwL (p pa:Nat) (W:Wld) (G:Nat→Prop) (x:qbV) (ba:Option Addr) (bc:Nat) (ra:Option Addr) (rc:Nat) (w:World) (h:qaz w p W G) (hx:qco w pa x ba bc ra rc) (hpa : ¬ G pa) (ok:W.m.Ok) (kn:W.m.Known) (g:W.q.Good) (fit:W.S.Fit) (hh:0<W.m.chip.busy.length→W.m.chip.home<w.heap.size) (hi:qak w ra x.reads G) (hcap:x.reads.length≤rc) (hm:x.reads.length≤1000000) (hv:x.value.size<140737488355328) (hat:0≤x.at_∧x.at_<4096) (hwi:0≤x.width∧x.width≤8) (hk:x.kind=3):Calls Tryz.prog 32 #[.pointer (some ⟨p,0,none⟩),.pointer (some ⟨pa,0,none⟩)] w (qa2 p W ⟨(getR W.S x.key).1,[],[],false⟩ (getR W.S x.key).2 G w):=by
 obtain ⟨s,k,c,b,H,z,I⟩:=qhe h hx hpa hh hi
 have c0:w.cell? ⟨pa,0,none⟩=some (.int .i64 3):=by rw [← hk];exact qaa hx 0
 have hpl:=qat hx
 have HI:=zH I
 have HC:=zH (fun w' (hb:Below ((w.alloc ZA).alloc ZA).heap.size ((w.alloc ZA).alloc ZA) w')=>qjO s k c b W.m W.q W.S H x.key w' (I.sys.later hb) (qoM fit))
 generalize getR W.S x.key=t at *
 clear h I hx hpa hh hi hcap hm kn ok g fit hv hat hwi
 go_enter Tryz.func32,Tryz.ntmps32
 go_upto_region 11 with fail
 have eZ:(w.alloc (.cells #[.string ⟨#[]⟩,.slice none 0 0,.slice none 0 0,.bool false] 34)).alloc (.cells #[.string ⟨#[]⟩,.slice none 0 0,.slice none 0 0,.bool false] 34)=(w.alloc ZA).alloc ZA:=rfl
 rw [eZ]
 clear eZ c0 hpl
 generalize (w.alloc ZA).alloc ZA=w2 at *
 have HGE:=zH HI.out.ge
 generalize hR:w.heap.size=R at HI HGE ⊢
 generalize hO:R+1=O at HI HGE ⊢
 have HN:=zH (zA HI.out.np (zA HI.out.npa (zA HI.out.ne.1 HI.out.ne.2.1)))
 have HO:=zH (zA HI.out.rO HI.out.nO)
 have HS:=zH (fun w' (F:Nat→Prop) (t:Touch F w2 w') n1 n2=>HI.out.reads F t n1 n2)
 clear hR hO
 refine wp_region_noPanic ?_
 refine wp_region_held_drew (S:=(qbd s b p pa x ra rc)) (by kernel_rfl) ?hS11000 (fun hHeld => ?_)
 case hS11000=>(try dsimp only);exact HS.out _ (fun _=>False) (Touch.of_below (qai (Below.refl _ _))) id id
 refine tk 0 ?_ (hy:=by (intro w hSw;unfold qbd at hSw;go_simp;try with_reducible rfl))
 refine tk 1 ?_ (hy:=by (intro w hSw;unfold qbd at hSw;go_simp;try with_reducible rfl))
 refine tk 2 ?_ (hy:=by (intro w hSw;unfold qbd at hSw;go_simp;try with_reducible rfl))
 refine tk 3 ?_ (hy:=by (intro w hSw;unfold qbd at hSw;go_simp;try with_reducible rfl))
 refine tk 4 ?_ (hy:=by (intro w hSw;unfold qbd at hSw;go_simp;try with_reducible rfl))
 refine tk 5 ?_ (hy:=by (intro w hSw;unfold qbd at hSw;go_simp;try with_reducible rfl))
 refine tk 6 ?_ (hy:=by (intro w hSw;unfold qbd at hSw;go_simp;try with_reducible rfl))
 refine tk 7 ?_ (hy:=by (intro w hSw;unfold qbd at hSw;go_simp;try with_reducible rfl))
 refine tr 8 fun K hK => ?_
 go_simp
 go_at_call 60
 refine (HC.out _ (qai (Below.refl _ _))).mono ?_
 rintro e w1 ⟨rfl,hb1⟩
 have hb2:=gtr (qai (Below.refl w2.heap.size w2)) hb1
 have ht1:Touch (Mine s H) w2 w1:=Touch.of_below hb2
 obtain ⟨z0,z1,z2,z3,zf⟩:=row4 (ht1.at HO.out.1 HO.out.2)
 have hr1:=zH (zA (HI.out.sys.later hb2) (zA (show Step (Mine s H) (Mine s H) w2 w1 from Step.of_below hb2) (zA ht1 (zA ht1 ht1))))
 clear hb1 hb2 ht1
 go_wp2_with fail
 refine hK.out _ _ ?hS11008 (fun hHeld => ?_)
 case hS11008=>(try dsimp only);exact HS.out _ _ hr1.out.2.2.1 HN.out.1 HN.out.2.1
 clear hK K
 try simp only [Act.put,zS,zT,zU]
 refine tk 9 ?_ (hy:=by (intro w hSw;unfold qbd at hSw;go_simp;try with_reducible rfl))
 refine tk 10 ?_ (hy:=by (intro w hSw;unfold qbd at hSw;go_simp;try with_reducible rfl))
 refine tk 11 ?_ (hy:=by (intro w hSw;unfold qbd at hSw;go_simp;try with_reducible rfl))
 refine tk 12 ?_ (hy:=by (intro w hSw;unfold qbd at hSw;go_simp;try with_reducible rfl))
 refine tr 13 fun K hK => ?_
 go_simp
 refine hK.out _ _ ?hS11013 (fun hHeld => ?_)
 case hS11013=>(try dsimp only);exact HS.out _ (fun i=>Mine s H i∨i=O) ((hr1.out.2.2.1.mono fun i h=>.inl h).set _ _ _ (.inr rfl)) (fun h=>h.elim HN.out.1 HN.out.2.2.1) (fun h=>h.elim HN.out.2.1 HN.out.2.2.2)
 clear hK K
 try simp only [Act.put,zS,zT,zU]
 refine tk 14 ?_ (hy:=by (intro w hSw;unfold qbd at hSw;go_simp;try with_reducible rfl))
 refine wpAnyH_done (by kernel_rfl) ?_ _
 refine NoPanic.normal ?_
 have ho:=zH (zA (hr1.out.2.2.1.at HO.out.1 HO.out.2) (hr1.out.2.2.1.at HI.out.rR HI.out.nR))
 have rOa:(w1.setCell ⟨O,0,none⟩ (.string t.1)).heap[O]? = _:=qag ho.out.1
 have ta:Touch (Only O) w1 (w1.setCell ⟨O,0,none⟩ (.string t.1)):=(Touch.refl (Only O) w1).set O 0 _ rfl
 have HA:=zH (zA rOa (zA (ta.at ho.out.2 (fun e=>HI.out.ne.2.2.2.2 (show R=O from e).symm)) ta))
 clear z0 z1 z2 z3 zf rOa ta HC HS ho
 generalize w1.setCell ⟨O,0,none⟩ (.string t.1)=wa at *
 obtain ⟨z0,z1,z2,z3,zf⟩:=row4 (show wa.heap[O]? = some (.cells #[.string t.1,.slice none 0 0,.slice none 0 0,.bool false] 34 (0,0)) from HA.out.1)
 obtain ⟨y0,y1,y2,y3,yf⟩:=row4 HA.out.2.1
 go_wp2_with fail
 obtain ⟨q0,q1,q2,q3,qf⟩:=row4 (qbA HA.out.2.1 (.string t.1) (.slice none 0 0) (.slice none 0 0) (.bool false))
 refine bodyPost_ret (v:=.tuple #[.agg #[.string t.1,.slice none 0 0,.slice none 0 0,.bool false],.int .i64 t.2]) ?_ rfl ?_
 ·
  change (results _ _).run _ (put4 _ _ _ _ _ _)=_
  simp [results,Tryz.results32,go_sem,q0,q1,q2,q3]
  rfl
 ·
  exact qcT HI.out hr1.out.1 hr1.out.2.1 (qaF.refl _) ⟨t.1,[],[],false⟩ t.2 none 0 none 0 (World.ownsRow_nil _ _ _ _) (World.ownsRow_nil _ _ _ _) (fun g hg=>by simp [Value.ownBlock] at hg) (fun g hg=>by simp [Value.ownBlock] at hg) HA.out.2.2 (qaK wa R _ _ _ _)
theorem qwN (p pa:Nat) (W:Wld) (G:Nat→Prop) (x:qbV) (ba:Option Addr) (bc:Nat) (ra:Option Addr) (rc:Nat) (w:World) (h:qaz w p W G) (hx:qco w pa x ba bc ra rc) (hpa : ¬ G pa) (ok:W.m.Ok) (kn:W.m.Known) (g:W.q.Good) (fit:W.S.Fit) (hh:0<W.m.chip.busy.length→W.m.chip.home<w.heap.size) (hi:qak w ra x.reads G) (hcap:x.reads.length≤rc) (hm:x.reads.length≤1000000) (hv:x.value.size<140737488355328) (hat:0≤x.at_∧x.at_<4096) (hwi:0≤x.width∧x.width≤8) (hk:x.kind=5):Calls Tryz.prog 32 #[.pointer (some ⟨p,0,none⟩),.pointer (some ⟨pa,0,none⟩)] w (qa2 p W ⟨⟨#[]⟩,(listR W.S).1,[],false⟩ (listR W.S).2 G w):=by
 obtain ⟨s,k,c,b,H,z,I⟩:=qhe h hx hpa hh hi
 have c0:w.cell? ⟨pa,0,none⟩=some (.int .i64 5):=by rw [← hk];exact qaa hx 0
 have hpl:=qat hx
 have HI:=zH I
 have HC:=zH (qjk s k c b W.m W.q W.S H _ I.sys (qoM fit))
 generalize listR W.S=t at *
 clear h I hx hpa hh hi hcap hm kn ok g fit hv hat hwi
 go_enter Tryz.func32,Tryz.ntmps32
 go_upto_region 15 with fail
 have eZ:(w.alloc (.cells #[.string ⟨#[]⟩,.slice none 0 0,.slice none 0 0,.bool false] 34)).alloc (.cells #[.string ⟨#[]⟩,.slice none 0 0,.slice none 0 0,.bool false] 34)=(w.alloc ZA).alloc ZA:=rfl
 rw [eZ]
 clear eZ c0 hpl
 generalize (w.alloc ZA).alloc ZA=w2 at *
 have HGE:=zH HI.out.ge
 generalize hR:w.heap.size=R at HI HGE ⊢
 generalize hO:R+1=O at HI HGE ⊢
 have HN:=zH (zA HI.out.np (zA HI.out.npa (zA HI.out.ne.1 HI.out.ne.2.1)))
 have HO:=zH (zA HI.out.rO HI.out.nO)
 have HS:=zH (fun w' (F:Nat→Prop) (t:Touch F w2 w') n1 n2=>HI.out.reads F t n1 n2)
 clear hR hO
 obtain ⟨r0,r1,r2,r3,r4,rf⟩:=row5 HI.out.row
 have HLT:=zH HI.out.sys.lt
 go_upto_region 21 with (go_at_call 62;refine HC.out.mono ?_;rintro e w1 ⟨v,rfl,ho1,hb1⟩;obtain ⟨va,vc,rfl⟩:=qaD ho1;obtain ⟨z0,z1,z2,z3,zf⟩:=row4 (qab hb1 HO.out.1))
 have hr1:=zH (zA (HI.out.sys.later hb1) (zA (show Step (Mine s H) (Mine s H) w2 w1 from Step.of_below hb1) (zA ho1 (show ∀ g,(Value.slice va t.1.length vc).ownBlock=some g → ¬ Mine s H g from fun g hg hm=>by have:=qaN ho1 g hg;have:=HLT.out g hm;omega))))
 clear ho1 hb1 r0 r1 r2 r3 r4 rf z0 z1 z2 z3 zf
 have ho:=zH (zA (hr1.out.2.1.touch.at HO.out.1 HO.out.2) (hr1.out.2.1.touch.at HI.out.rR HI.out.nR))
 have rOa:(w1.setCell ⟨O,1,none⟩ (.slice va t.1.length vc)).heap[O]? = _:=qag ho.out.1
 have ta:Touch (Only O) w1 (w1.setCell ⟨O,1,none⟩ (.slice va t.1.length vc)):=(Touch.refl (Only O) w1).set O 1 _ rfl
 have HA:=zH (zA rOa (zA (ta.at ho.out.2 (fun e=>HI.out.ne.2.2.2.2 (show R=O from e).symm)) ta))
 clear rOa ta HC HS ho
 generalize w1.setCell ⟨O,1,none⟩ (.slice va t.1.length vc)=wa at *
 obtain ⟨z0,z1,z2,z3,zf⟩:=row4 (show wa.heap[O]? = some (.cells #[.string ⟨#[]⟩,.slice va t.1.length vc,.slice none 0 0,.bool false] 34 (0,0)) from HA.out.1)
 obtain ⟨y0,y1,y2,y3,yf⟩:=row4 HA.out.2.1
 go_wp2_with fail
 obtain ⟨q0,q1,q2,q3,qf⟩:=row4 (qbA HA.out.2.1 (.string ⟨#[]⟩) (.slice va t.1.length vc) (.slice none 0 0) (.bool false))
 refine bodyPost_ret (v:=.tuple #[.agg #[.string ⟨#[]⟩,.slice va t.1.length vc,.slice none 0 0,.bool false],.int .i64 t.2]) ?_ rfl ?_
 ·
  change (results _ _).run _ (put4 _ _ _ _ _ _)=_
  simp [results,Tryz.results32,go_sem,q0,q1,q2,q3]
  rfl
 ·
  exact qcT HI.out hr1.out.1 hr1.out.2.1 (qaF.refl _) ⟨⟨#[]⟩,t.1,[],false⟩ t.2 va vc none 0 hr1.out.2.2.1 (World.ownsRow_nil _ _ _ _) hr1.out.2.2.2 (fun g hg=>by simp [Value.ownBlock] at hg) HA.out.2.2 (qaK wa R _ _ _ _)
theorem qwP (p pa:Nat) (W:Wld) (G:Nat→Prop) (x:qbV) (ba:Option Addr) (bc:Nat) (ra:Option Addr) (rc:Nat) (w:World) (h:qaz w p W G) (hx:qco w pa x ba bc ra rc) (hpa : ¬ G pa) (ok:W.m.Ok) (kn:W.m.Known) (g:W.q.Good) (fit:W.S.Fit) (hh:0<W.m.chip.busy.length→W.m.chip.home<w.heap.size) (hi:qak w ra x.reads G) (hcap:x.reads.length≤rc) (hm:x.reads.length≤1000000) (hv:x.value.size<140737488355328) (hat:0≤x.at_∧x.at_<4096) (hwi:0≤x.width∧x.width≤8) (hk:x.kind=7):Calls Tryz.prog 32 #[.pointer (some ⟨p,0,none⟩),.pointer (some ⟨pa,0,none⟩)] w (qa2 p W ⟨⟨#[]⟩,[],[],false⟩ 0 G w):=by
 obtain ⟨s,k,c,b,H,z,I⟩:=qhe h hx hpa hh hi
 have c0:w.cell? ⟨pa,0,none⟩=some (.int .i64 7):=by rw [← hk];exact qaa hx 0
 have hpl:=qat hx
 have HI:=zH I
 clear h I hx hpa hh hi hcap hm kn ok g fit hv hat hwi
 go_enter Tryz.func32,Tryz.ntmps32
 go_upto_region 21 with fail
 have eZ:(w.alloc (.cells #[.string ⟨#[]⟩,.slice none 0 0,.slice none 0 0,.bool false] 34)).alloc (.cells #[.string ⟨#[]⟩,.slice none 0 0,.slice none 0 0,.bool false] 34)=(w.alloc ZA).alloc ZA:=rfl
 rw [eZ]
 clear eZ c0 hpl
 generalize (w.alloc ZA).alloc ZA=w2 at *
 have HGE:=zH HI.out.ge
 generalize hR:w.heap.size=R at HI HGE ⊢
 generalize hO:R+1=O at HI HGE ⊢
 have HN:=zH (zA HI.out.np (zA HI.out.npa (zA HI.out.ne.1 HI.out.ne.2.1)))
 have HO:=zH (zA HI.out.rO HI.out.nO)
 have HS:=zH (fun w' (F:Nat→Prop) (t:Touch F w2 w') n1 n2=>HI.out.reads F t n1 n2)
 clear hR hO
 have HA:=zH (zA HO.out.1 (zA HI.out.rR (Touch.refl (Only O) w2)))
 generalize hwa:w2=wa at HA ⊢
 obtain ⟨z0,z1,z2,z3,zf⟩:=row4 (show wa.heap[O]? = some (.cells #[.string ⟨#[]⟩,.slice none 0 0,.slice none 0 0,.bool false] 34 (0,0)) from HA.out.1)
 obtain ⟨y0,y1,y2,y3,yf⟩:=row4 HA.out.2.1
 go_wp2_with fail
 obtain ⟨q0,q1,q2,q3,qf⟩:=row4 (qbA HA.out.2.1 (.string ⟨#[]⟩) (.slice none 0 0) (.slice none 0 0) (.bool false))
 refine bodyPost_ret (v:=.tuple #[.agg #[.string ⟨#[]⟩,.slice none 0 0,.slice none 0 0,.bool false],.int .i64 0]) ?_ rfl ?_
 ·
  change (results _ _).run _ (put4 _ _ _ _ _ _)=_
  simp [results,Tryz.results32,go_sem,q0,q1,q2,q3]
  rfl
 ·
  exact qcT HI.out HI.out.sys (Step.refl _ _) (qaF.refl _) ⟨⟨#[]⟩,[],[],false⟩ 0 none 0 none 0 (World.ownsRow_nil _ _ _ _) (World.ownsRow_nil _ _ _ _) (fun g hg=>by simp [Value.ownBlock] at hg) (fun g hg=>by simp [Value.ownBlock] at hg) (show Touch (Only O) w2 wa by rw [hwa];exact Touch.refl _ _) (qaK wa R _ _ _ _)
end
section
open Go.RowKit
def qri (er y:Int):List Int:=if er=0 then [y] else []
theorem qwO (p pa:Nat) (W:Wld) (G:Nat→Prop) (x:qbV) (ba:Option Addr) (bc:Nat) (ra:Option Addr) (rc:Nat) (w:World) (h:qaz w p W G) (hx:qco w pa x ba bc ra rc) (hpa : ¬ G pa) (ok:W.m.Ok) (kn:W.m.Known) (g:W.q.Good) (fit:W.S.Fit) (hh:0<W.m.chip.busy.length→W.m.chip.home<w.heap.size) (hi:qak w ra x.reads G) (hcap:x.reads.length≤rc) (hm:x.reads.length≤1000000) (hv:x.value.size<140737488355328) (hat:0≤x.at_∧x.at_<4096) (hwi:0≤x.width∧x.width≤8) (hk:x.kind=6):Calls Tryz.prog 32 #[.pointer (some ⟨p,0,none⟩),.pointer (some ⟨pa,0,none⟩)] w (qa2 p ⟨(readR W.m W.q x.at_ x.width).1,(readR W.m W.q x.at_ x.width).2.1,W.S⟩ ⟨⟨#[]⟩,[],qri (readR W.m W.q x.at_ x.width).2.2.2 (readR W.m W.q x.at_ x.width).2.2.1,false⟩ (readR W.m W.q x.at_ x.width).2.2.2 G w):=by
 obtain ⟨s,k,c,b,H,z,I⟩:=qhe h hx hpa hh hi
 have c0:w.cell? ⟨pa,0,none⟩=some (.int .i64 6):=by rw [← hk];exact qaa hx 0
 have hpl:=qat hx
 have HI:=zH I
 have HC:=zH (fun w' (hb:Below ((w.alloc ZA).alloc ZA).heap.size ((w.alloc ZA).alloc ZA) w')=>qut s k c b W.m W.q W.S H x.at_ x.width w' (I.sys.later hb) ok g hat.1 hat.2 hwi.1 hwi.2)
 have HF:=zH (qd5 ok g x.at_ x.width hat.1).2.2
 generalize readR W.m W.q x.at_ x.width=t at *
 obtain ⟨m1,q1,y,er⟩:=t
 simp only at HC HF ⊢
 clear h I hx hpa hh hi hcap hm kn ok g fit hv hat hwi
 go_enter Tryz.func32,Tryz.ntmps32
 go_upto_region 18 with fail
 have eZ:(w.alloc (.cells #[.string ⟨#[]⟩,.slice none 0 0,.slice none 0 0,.bool false] 34)).alloc (.cells #[.string ⟨#[]⟩,.slice none 0 0,.slice none 0 0,.bool false] 34)=(w.alloc ZA).alloc ZA:=rfl
 rw [eZ]
 clear eZ c0 hpl
 generalize (w.alloc ZA).alloc ZA=w2 at *
 have HGE:=zH HI.out.ge
 generalize hR:w.heap.size=R at HI HGE ⊢
 generalize hO:R+1=O at HI HGE ⊢
 have HN:=zH (zA HI.out.np (zA HI.out.npa (zA HI.out.ne.1 HI.out.ne.2.1)))
 have HO:=zH (zA HI.out.rO HI.out.nO)
 have HS:=zH (fun w' (F:Nat→Prop) (t:Touch F w2 w') n1 n2=>HI.out.reads F t n1 n2)
 clear hR hO
 go_cut [7,8] from 13 to 121 (fun v7 v8 wx=>v7=.int .i64 er∧v8=.int .i64 y ∧ ∃ H1,Sys (fun _=>False) wx s k c b m1 q1 W.S H1∧Step (Mine s H) (Mine s H1) w2 wx)
 case first =>
  refine wp_region_noPanic ?_
  refine wp_region_held_drew (S:=(qbd s b p pa x ra rc)) (by kernel_rfl) ?hS18000 (fun hHeld => ?_)
  case hS18000=>(try dsimp only);exact HS.out _ (fun _=>False) (Touch.of_below (qai (Below.refl _ _))) id id
  refine tk 0 ?_ (hy:=by (intro w hSw;unfold qbd at hSw;go_simp;try with_reducible rfl))
  refine tk 1 ?_ (hy:=by (intro w hSw;unfold qbd at hSw;go_simp;try with_reducible rfl))
  refine tk 2 ?_ (hy:=by (intro w hSw;unfold qbd at hSw;go_simp;try with_reducible rfl))
  refine tk 3 ?_ (hy:=by (intro w hSw;unfold qbd at hSw;go_simp;try with_reducible rfl))
  refine tk 4 ?_ (hy:=by (intro w hSw;unfold qbd at hSw;go_simp;try with_reducible rfl))
  refine tk 5 ?_ (hy:=by (intro w hSw;unfold qbd at hSw;go_simp;try with_reducible rfl))
  refine tk 6 ?_ (hy:=by (intro w hSw;unfold qbd at hSw;go_simp;try with_reducible rfl))
  refine tk 7 ?_ (hy:=by (intro w hSw;unfold qbd at hSw;go_simp;try with_reducible rfl))
  refine tk 8 ?_ (hy:=by (intro w hSw;unfold qbd at hSw;go_simp;try with_reducible rfl))
  refine tk 9 ?_ (hy:=by (intro w hSw;unfold qbd at hSw;go_simp;try with_reducible rfl))
  refine tk 10 ?_ (hy:=by (intro w hSw;unfold qbd at hSw;go_simp;try with_reducible rfl))
  refine tk 11 ?_ (hy:=by (intro w hSw;unfold qbd at hSw;go_simp;try with_reducible rfl))
  refine tr 12 fun K hK => ?_
  go_simp
  go_at_call 63
  refine (HC.out _ (qai (Below.refl _ _))).mono ?_
  rintro e w1 ⟨rfl,H1,hs1,st1⟩
  have hr1:=zH (show ∃ H1,Sys (fun _=>False) w1 s k c b m1 q1 W.S H1∧Step (Mine s H) (Mine s H1) w2 w1 from ⟨H1,hs1,(Step.of_below (qai (Below.refl w2.heap.size w2))).trans st1.mine⟩)
  have hq1:Touch (Mine s H) w2 w1:=(Touch.of_below (F:=Mine s H) (qai (Below.refl w2.heap.size w2))).trans st1.mine.touch
  clear hs1 st1
  go_wp2_with fail
  refine hK.out _ _ ?hS18012 (fun hHeld => ?_)
  case hS18012=>(try dsimp only);exact HS.out _ _ hq1 HN.out.1 HN.out.2.1
  clear hK K
  try simp only [Act.put,zS,zT,zU]
  refine tk 13 ?_ (hy:=by (intro w hSw;unfold qbd at hSw;go_simp;try with_reducible rfl))
  refine tk 14 ?_ (hy:=by (intro w hSw;unfold qbd at hSw;go_simp;try with_reducible rfl))
  refine tk 15 ?_ (hy:=by (intro w hSw;unfold qbd at hSw;go_simp;try with_reducible rfl))
  refine tk 16 ?_ (hy:=by (intro w hSw;unfold qbd at hSw;go_simp;try with_reducible rfl))
  refine tk 17 ?_ (hy:=by (intro w hSw;unfold qbd at hSw;go_simp;try with_reducible rfl))
  refine wpAnyH_done (by kernel_rfl) ?_ _
  refine NoPanic.normal ?_
  go_wp2_with fail
  go_meet
  exact ⟨rfl,rfl,hr1.out⟩
 case rest =>
  obtain ⟨rfl,rfl,H1,hs1,st1⟩:=hcut
  have hr1:=zH (zA hs1 st1)
  clear hs1 st1
  by_cases he:er=0
  ·
   subst he
   have ho1:=hr1.out.2.touch.at HO.out.1 HO.out.2
   have e0:=qad wc (.cells #[.int .i64 y] 3)
   have hb1:=qac (Below.refl wc.heap.size wc) (.cells #[.int .i64 y] 3)
   have HL:=zH (show O<wc.heap.size from qat ho1)
   have z9:=hr1.out.2.touch.size
   have hr2:=zH (zA (hr1.out.1.later hb1) (zA (hr1.out.2.trans (Step.of_below hb1)) (zA (qld e0 z9 (show (1:Nat)=1 * 1 from rfl) (show 1≤1000 by decide)) (show ∀ g,(Value.slice (some ⟨wc.heap.size,0,none⟩) 1 1).ownBlock=some g → ¬ Mine s H1 g from fun g hg hm=>by
    obtain rfl:wc.heap.size=g:=by simpa [Value.ownBlock] using hg
    exact Nat.lt_irrefl _ (hr1.out.1.lt _ hm)))))
   obtain ⟨z0,z1,z2,z3,zf⟩:=row4 (qab hb1 ho1)
   clear ho1 e0 hb1 z9
   go_upto_region 21 with fail
   generalize hw1:wc.alloc (.cells #[.int .i64 y] 3)=w1 at *
   generalize wc.heap.size=gb at *
   have ho:=zH (zA (hr2.out.2.1.touch.at HO.out.1 HO.out.2) (hr2.out.2.1.touch.at HI.out.rR HI.out.nR))
   have rOa:(w1.setCell ⟨O,2,none⟩ (.slice (some ⟨gb,0,none⟩) 1 1)).heap[O]? = _:=qag ho.out.1
   have ta:Touch (Only O) w1 (w1.setCell ⟨O,2,none⟩ (.slice (some ⟨gb,0,none⟩) 1 1)):=(Touch.refl (Only O) w1).set O 2 _ rfl
   have HA:=zH (zA rOa (zA (ta.at ho.out.2 (fun e=>HI.out.ne.2.2.2.2 (show R=O from e).symm)) ta))
   clear z0 z1 z2 z3 zf rOa ta HC HS ho
   generalize w1.setCell ⟨O,2,none⟩ (.slice (some ⟨gb,0,none⟩) 1 1)=wa at *
   obtain ⟨z0,z1,z2,z3,zf⟩:=row4 (show wa.heap[O]? = some (.cells #[.string ⟨#[]⟩,.slice none 0 0,.slice (some ⟨gb,0,none⟩) 1 1,.bool false] 34 (0,0)) from HA.out.1)
   obtain ⟨y0,y1,y2,y3,yf⟩:=row4 HA.out.2.1
   go_wp2_with fail
   obtain ⟨q0,q1,q2,q3,qf⟩:=row4 (qbA HA.out.2.1 (.string ⟨#[]⟩) (.slice none 0 0) (.slice (some ⟨gb,0,none⟩) 1 1) (.bool false))
   refine bodyPost_ret (v:=.tuple #[.agg #[.string ⟨#[]⟩,.slice none 0 0,.slice (some ⟨gb,0,none⟩) 1 1,.bool false],.int .i64 0]) ?_ rfl ?_
   ·
    change (results _ _).run _ (put4 _ _ _ _ _ _)=_
    simp [results,Tryz.results32,go_sem,q0,q1,q2,q3]
    rfl
   ·
    exact qcT HI.out hr2.out.1 hr2.out.2.1 HF.out ⟨⟨#[]⟩,[],[y],false⟩ 0 none 0 (some ⟨gb,0,none⟩) 1 (World.ownsRow_nil _ _ _ _) hr2.out.2.2.1 (fun g hg=>by simp [Value.ownBlock] at hg) hr2.out.2.2.2 HA.out.2.2 (qaK wa R _ _ _ _)
  ·
   have hne:(er == 0)=false:=beq_eq_false_iff_ne.2 he
   have HE:=zH (show qri er y=[] from if_neg he)
   clear he
   go_upto_region 21 with fail
   have HA:=zH (zA (hr1.out.2.touch.at HO.out.1 HO.out.2) (zA (hr1.out.2.touch.at HI.out.rR HI.out.nR) (Touch.refl (Only O) wc)))
   generalize hwa:wc=wa at HA ⊢
   obtain ⟨z0,z1,z2,z3,zf⟩:=row4 (show wa.heap[O]? = some (.cells #[.string ⟨#[]⟩,.slice none 0 0,.slice none 0 0,.bool false] 34 (0,0)) from HA.out.1)
   obtain ⟨y0,y1,y2,y3,yf⟩:=row4 HA.out.2.1
   go_wp2_with fail
   obtain ⟨q0,q1,q2,q3,qf⟩:=row4 (qbA HA.out.2.1 (.string ⟨#[]⟩) (.slice none 0 0) (.slice none 0 0) (.bool false))
   refine bodyPost_ret (v:=.tuple #[.agg #[.string ⟨#[]⟩,.slice none 0 0,.slice none 0 0,.bool false],.int .i64 er]) ?_ rfl ?_
   ·
    change (results _ _).run _ (put4 _ _ _ _ _ _)=_
    simp [results,Tryz.results32,go_sem,q0,q1,q2,q3]
    rfl
   ·
    exact (by rw [HE.out];exact qcT HI.out hr1.out.1 hr1.out.2 HF.out ⟨⟨#[]⟩,[],[],false⟩ er none 0 none 0 (World.ownsRow_nil _ _ _ _) (World.ownsRow_nil _ _ _ _) (fun g hg=>by simp [Value.ownBlock] at hg) (fun g hg=>by simp [Value.ownBlock] at hg) (show Touch (Only O) wc wa by rw [hwa];exact Touch.refl _ _) (qaK wa R _ _ _ _))
end
section
open Go.RowKit
variable {X:Nat→Prop}
def actR (W:Wld) (x:qbV):Wld×qcq×Int :=
 if x.kind=0 then (⟨(formatR W.m W.q x.reads).1,(formatR W.m W.q x.reads).2.1,(formatR W.m W.q x.reads).2.2.1⟩,⟨⟨#[]⟩,[],outs (formatR W.m W.q x.reads).2.2.2.2 (formatR W.m W.q x.reads).2.2.2.1,false⟩,(formatR W.m W.q x.reads).2.2.2.2)
 else if x.kind=1 then (⟨(mountR W.m).1,W.q,(mountR W.m).2.1⟩,⟨⟨#[]⟩,[],[],false⟩,(mountR W.m).2.2)
 else if x.kind=2 then (⟨(putR W.m W.q W.S x.key x.value x.reads).1,(putR W.m W.q W.S x.key x.value x.reads).2.1,(putR W.m W.q W.S x.key x.value x.reads).2.2.1⟩,⟨⟨#[]⟩,[],outs (putR W.m W.q W.S x.key x.value x.reads).2.2.2.2 (putR W.m W.q W.S x.key x.value x.reads).2.2.2.1,false⟩,(putR W.m W.q W.S x.key x.value x.reads).2.2.2.2)
 else if x.kind=3 then (W,⟨(getR W.S x.key).1,[],[],false⟩,(getR W.S x.key).2)
 else if x.kind=4 then (⟨(delR W.m W.q W.S x.key x.reads).1,(delR W.m W.q W.S x.key x.reads).2.1,(delR W.m W.q W.S x.key x.reads).2.2.1⟩,⟨⟨#[]⟩,[],outs (delR W.m W.q W.S x.key x.reads).2.2.2.2 (delR W.m W.q W.S x.key x.reads).2.2.2.1,false⟩,(delR W.m W.q W.S x.key x.reads).2.2.2.2)
 else if x.kind=5 then (W,⟨⟨#[]⟩,(listR W.S).1,[],false⟩,(listR W.S).2)
 else if x.kind=6 then (⟨(readR W.m W.q x.at_ x.width).1,(readR W.m W.q x.at_ x.width).2.1,W.S⟩,⟨⟨#[]⟩,[],qri (readR W.m W.q x.at_ x.width).2.2.2 (readR W.m W.q x.at_ x.width).2.2.1,false⟩,(readR W.m W.q x.at_ x.width).2.2.2)
 else (W,⟨⟨#[]⟩,[],[],false⟩,0)
structure qbV.Fine (x:qbV):Prop where
 kind:0≤x.kind∧x.kind≤7
 at_:0≤x.at_∧x.at_<4096
 width:0≤x.width∧x.width≤8
 loss:0≤x.loss∧x.loss≤65535
 mask:x.mask.size≤16
 value:x.value.size≤40
 key:x.key.size≤12
 busy:x.busy.length≤16 ∧ ∀ y ∈ x.busy,1≤y∧y≤400
 reads:x.reads.length≤16 ∧ ∀ y ∈ x.reads,0≤y∧y≤4095
theorem qda {l u x:Int} (h:betweenB l u [x]=true):l≤x∧x≤u:=by
 unfold betweenB at h
 simpa using h
theorem qh9 {l u:Int} {xs:List Int} (h:betweenB l u xs=true):xs.length≤16 ∧ ∀ y ∈ xs,l≤y∧y≤u:=by
 unfold betweenB at h
 simp only [Bool.and_eq_true,List.all_eq_true,decide_eq_true_eq] at h
 exact ⟨h.2,h.1⟩
theorem qlc {x:qbV} (h:mayB x=true):x.Fine:=by
 unfold mayB at h
 simp only [Bool.and_eq_true] at h
 obtain ⟨⟨⟨⟨⟨⟨⟨h1,h2⟩,h3⟩,h4⟩,h5⟩,h6⟩,h7⟩,h8⟩:=h
 unfold shortB at h2
 simp only [Bool.and_eq_true,decide_eq_true_eq] at h2
 exact ⟨qda h1,⟨(qda h4).1,by have:=(qda h4).2;omega⟩,qda h5,qda h6,h2.2,h2.1.2,h2.1.1,qh9 h7,qh9 h8⟩
theorem qrc (p pa:Nat) (W:Wld) (G:Nat→Prop) (x:qbV) (ba:Option Addr) (bc:Nat) (ra:Option Addr) (rc:Nat) (w:World) (h:qaz w p W G) (hx:qco w pa x ba bc ra rc) (hpa : ¬ G pa) (ok:W.m.Ok) (kn:W.m.Known) (g:W.q.Good) (fit:W.S.Fit) (hh:0<W.m.chip.busy.length→W.m.chip.home<w.heap.size) (hi:qak w ra x.reads G) (hcap:x.reads.length≤rc) (f:x.Fine):Calls Tryz.prog 32 #[.pointer (some ⟨p,0,none⟩),.pointer (some ⟨pa,0,none⟩)] w (qa2 p (actR W x).1 (actR W x).2.1 (actR W x).2.2 G w):=by
 have hm:x.reads.length≤1000000:=Nat.le_trans f.reads.1 (by decide)
 have hv:x.value.size<140737488355328:=Nat.lt_of_le_of_lt f.value (by decide)
 obtain ⟨k0,k1⟩:=f.kind
 have hk:x.kind=0∨x.kind=1∨x.kind=2∨x.kind=3∨x.kind=4∨x.kind=5∨x.kind=6∨x.kind=7:=by omega
 unfold actR
 rcases hk with e | e | e | e | e | e | e | e
 ·
  rw [if_pos e];exact qwI p pa W G x ba bc ra rc w h hx hpa ok kn g fit hh hi hcap hm hv f.at_ f.width e
 ·
  rw [if_neg (by omega),if_pos e];exact qwJ p pa W G x ba bc ra rc w h hx hpa ok kn g fit hh hi hcap hm hv f.at_ f.width e
 ·
  rw [if_neg (by omega),if_neg (by omega),if_pos e];exact qwK p pa W G x ba bc ra rc w h hx hpa ok kn g fit hh hi hcap hm hv f.at_ f.width e
 ·
  rw [if_neg (by omega),if_neg (by omega),if_neg (by omega),if_pos e];exact qwL p pa W G x ba bc ra rc w h hx hpa ok kn g fit hh hi hcap hm hv f.at_ f.width e
 ·
  rw [if_neg (by omega),if_neg (by omega),if_neg (by omega),if_neg (by omega),if_pos e];exact qwM p pa W G x ba bc ra rc w h hx hpa ok kn g fit hh hi hcap hm hv f.at_ f.width e
 ·
  rw [if_neg (by omega),if_neg (by omega),if_neg (by omega),if_neg (by omega),if_neg (by omega),if_pos e];exact qwN p pa W G x ba bc ra rc w h hx hpa ok kn g fit hh hi hcap hm hv f.at_ f.width e
 ·
  rw [if_neg (by omega),if_neg (by omega),if_neg (by omega),if_neg (by omega),if_neg (by omega),if_neg (by omega),if_pos e];exact qwO p pa W G x ba bc ra rc w h hx hpa ok kn g fit hh hi hcap hm hv f.at_ f.width e
 ·
  rw [if_neg (by omega),if_neg (by omega),if_neg (by omega),if_neg (by omega),if_neg (by omega),if_neg (by omega),if_neg (by omega)];exact qwP p pa W G x ba bc ra rc w h hx hpa ok kn g fit hh hi hcap hm hv f.at_ f.width e
theorem qoC {W:Wld} (ok:W.m.Ok) (g:W.q.Good) (fit:W.S.Fit) {x:qbV} (f:x.Fine):(actR W x).1.m.Ok∧(actR W x).1.q.Good∧qaF W.m (actR W x).1.m:=by
 unfold actR
 split
 ·
  exact qiH ok g x.reads
 ·
  split
  ·
   exact ⟨(qgW ok).1,g,(qgW ok).2⟩
  ·
   split
   ·
    exact qpe ok g fit x.key x.value x.reads
   ·
    split
    ·
     exact ⟨ok,g,qaF.refl _⟩
    ·
     split
     ·
      exact qoI ok g fit x.key x.reads
     ·
      split
      ·
       exact ⟨ok,g,qaF.refl _⟩
      ·
       split
       ·
        exact qd5 ok g x.at_ x.width f.at_.1
       ·
        exact ⟨ok,g,qaF.refl _⟩
def Ctl.next (m:Ctl) (xs:List Int) (hm:Nat):Ctl:={ m with chip:={ m.chip with busy:=xs,home:=hm } }
theorem qus (s k c b:Nat) (m:Ctl) (q:Cache) (S:qaf) (H:Nat→Prop) (a:Option Addr) (cap:Nat) (xs:List Int) (w:World) (h:Sys X w s k c b m q S H) (hi:qal w a xs) (hn:a=none→cap=0) (hl:xs.length≤16) (hx : ∀ y ∈ xs,1≤y∧y≤400):Calls Tryz.prog 30 #[.pointer (some ⟨c,0,none⟩),.slice a xs.length cap] w fun e w'=>e=.returned (.int .i64 0) ∧ ∃ hm H',(0<xs.length→w.heap.size≤hm)∧Sys X w' s k c b (m.next xs hm) q S H'∧Step H H' w w':=by
 obtain ⟨F,hc,hF,hl2⟩:=h.chip
 refine (qjE c m.chip F a cap xs w hc hi hn hl hx).mono ?_
 rintro e w' ⟨rfl,hm,F',h1,h2,h3⟩
 obtain ⟨H',hs,st⟩:=hl2 w' _ F' h2 h3 (fun hl=>.inl (h1 hl))
 exact ⟨rfl,hm,H',h1,hs,st⟩
theorem qvP (s k c b:Nat) (m:Ctl) (q:Cache) (S:qaf) (H:Nat→Prop) (n:Int) (w:World) (h:Sys X w s k c b m q S H) (hn:0≤n):Calls Tryz.prog 31 #[.pointer (some ⟨k,0,none⟩),.int .i64 n] w fun e w'=>e=.returned (.int .i64 0)∧qkR X s k c b { m with left:=n } q S H w w':=by
 obtain ⟨G,hc,hl⟩:=h.ctl
 refine (qrs k c m G n w hc hn).mono ?_
 rintro e w' ⟨rfl,G',h1,h2⟩
 exact ⟨rfl,hl w' _ G' h1 h2 ⟨rfl,Nat.le_refl _⟩⟩
theorem qur (s k c b:Nat) (m:Ctl) (q:Cache) (S:qaf) (H:Nat→Prop) (w:World) (h:Sys X w s k c b m q S H):Calls Tryz.prog 33 #[.pointer (some ⟨k,0,none⟩)] w fun e w'=>e=.returned (.bool m.lost)∧w=w':=by
 obtain ⟨G,hc,hl⟩:=h.ctl
 exact qkW k c m G w hc
theorem quq (s k c b:Nat) (m:Ctl) (q:Cache) (S:qaf) (H:Nat→Prop) (mask:ByteArray) (w:World) (h:Sys X w s k c b m q S H) (ok:m.Ok) (hm:mask.size≤4096):Calls Tryz.prog 34 #[.pointer (some ⟨c,0,none⟩),.string mask] w fun e w'=>e=.returned (.int .i64 0)∧qkR X s k c b { m with chip:=m.chip.loss mask } q S H w w':=by
 obtain ⟨F,hc,hF,hl2⟩:=h.chip
 refine (qjD c m.chip F w hc ok.good.ok mask hm).mono ?_
 rintro e w' ⟨rfl,F',h2,h3⟩
 exact ⟨rfl,hl2 w' _ F' h2 h3 (fun hl=>by cases hl)⟩
theorem qqP (p s k c b:Nat) (m:Ctl) (q:Cache) (S:qaf) (H:Nat→Prop) (z:Int) (w:World) (h:Sys X w s k c b m q S H) (hr:qgH w p c (some ⟨k,0,none⟩) (some ⟨b,0,none⟩) (some ⟨s,0,none⟩) z) (hp : ¬ H p) (hb:m.chip.busy=[]):Calls Tryz.prog 35 #[.pointer (some ⟨p,0,none⟩)] w fun e w'=>e=.returned (.tuple #[]) ∧ ∃ s' k' b' H' z',qgH w' p c (some ⟨k',0,none⟩) (some ⟨b',0,none⟩) (some ⟨s',0,none⟩) z'∧Sys (fun _=>False) w' s' k' c b' (Ctl.new m.chip) Cache.new shut H' ∧ ¬ Mine s' H' p∧Touch (Only p) w w' ∧ ∀ i,Mine s' H' i→H i∨w.heap.size≤i:=by
 obtain ⟨F,hc,hF,hl2⟩:=h.chip
 obtain ⟨G,hk,_⟩:=h.ctl
 refine (qdP p c (some ⟨k,0,none⟩) (some ⟨b,0,none⟩) (some ⟨s,0,none⟩) z m.chip F w hr hc (fun hf=>hp (hF p hf)) hb (fun w' hb=>qis k c m G w' (hk.later hb))).mono ?_
 rintro e w' ⟨rfl,s',k',b',H',z',h1,h2,h3,h4,h5⟩
 exact ⟨rfl,s',k',b',H',z',h1,h2,h3,h4,fun i hi=>(h5 i hi).imp (hF i) id⟩
end
end Go.Proofs.YtcfdenckiigdaaaGreat

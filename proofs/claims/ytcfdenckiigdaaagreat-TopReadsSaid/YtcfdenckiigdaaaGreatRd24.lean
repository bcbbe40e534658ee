/- Part 24 of the contracts. -/
import Derived.Test.YtcfdenckiigdaaaGreatRd23
set_option linter.unusedVariables false
set_option maxRecDepth 100000
set_option maxHeartbeats 4000000
namespace Go.Proofs.YtcfdenckiigdaaaGreat
open Tryz Go.RowKit
section
open Go.RowKit
variable {X:Nat→Prop}
def D5 (er y:Int):List Int:=if er=0 then [y] else []
theorem M3 (p pa:Nat) (W:fT) (G:Nat→Prop) (x:cG) (ba:Option Addr) (bc:Nat) (ra:Option Addr) (rc:Nat) (w:World) (h:bg X w p W G) (hx:fS w pa x ba bc ra rc) (hpa : ¬ G pa) (ok:W.m.Ok) (kn:W.m.kQ) (g:W.q.Good) (fit:W.S.Fit) (hh:0<W.m.ar.busy.length→W.m.ar.home<w.heap.size) (hi:aL w ra x.reads G) (hcap:x.reads.length≤rc) (hm:x.reads.length≤1000000) (hv:x.value.size<140737488355328) (hat:0≤x.at_∧x.at_<4096) (hwi:0≤x.width∧x.width≤8) (hk:x.kind=6):Calls prog 32 #[.pointer (some ⟨p,0,none⟩),.pointer (some ⟨pa,0,none⟩)] w (ew X p ⟨(bI W.m W.q x.at_ x.width).1,(bI W.m W.q x.at_ x.width).2.1,W.S⟩ ⟨⟨#[]⟩,[],D5 (bI W.m W.q x.at_ x.width).2.2.2 (bI W.m W.q x.at_ x.width).2.2.1,false⟩ (bI W.m W.q x.at_ x.width).2.2.2 G w):=by
 obtain ⟨s,k,c,b,H,z,I⟩:=oq h hx hpa hh hi
 have c0:w.cell? ⟨pa,0,none⟩=some (.int .i64 6):=by rw [← hk];exact cell_of hx 0
 have hpl:=aO hx
 have HI:=zH I
 have HC:=zH (fun w' (hb:Below ((w.alloc ZA).alloc ZA).heap.size ((w.alloc ZA).alloc ZA) w')=>Kx s k c b W.m W.q W.S H x.at_ x.width w' (I.sys.aj hb) ok g hat.1 hat.2 hwi.1 hwi.2)
 have HF:=zH (lB ok g x.at_ x.width hat.1).2.2
 generalize bI W.m W.q x.at_ x.width=t at *
 obtain ⟨m1,q1,y,er⟩:=t
 simp only at HC HF ⊢
 clear h I hx hpa hh hi hcap hm kn ok g fit hv hat hwi
 go_enter func32,ntmps32
 go_upto_region 18 with fail
 have eZ:(w.alloc (.cells #[.string ⟨#[]⟩,.slice none 0 0,.slice none 0 0,.bool false] 34)).alloc (.cells #[.string ⟨#[]⟩,.slice none 0 0,.slice none 0 0,.bool false] 34)=(w.alloc ZA).alloc ZA:=rfl
 rw [eZ]
 clear eZ c0 hpl
 generalize (w.alloc ZA).alloc ZA=w2 at *
 have HGE:=zH HI.out.ge
 generalize hR:w.heap.size=R at HI HGE ⊢
 generalize hO:R+1=O at HI HGE ⊢
 have HN:=zH (zA HI.out.np (zA HI.out.Mj (zA HI.out.ne.1 HI.out.ne.2.1)))
 have HO:=zH (zA HI.out.rO HI.out.nO)
 have HS:=zH (fun w' (F:Nat→Prop) (t:Touch F w2 w') n1 n2=>HI.out.reads F t n1 n2)
 clear hR hO
 go_cut [7,8] from 13 to 121 (fun v7 v8 wx=>v7=.int .i64 er∧v8=.int .i64 y ∧ ∃ H1,Sys X wx s k c b m1 q1 W.S H1∧Step (bS s H) (bS s H1) w2 wx)
 case first =>
  refine wp_region_noPanic ?_
  refine wp_region_held_drew (S:=(AF s b p pa x ra rc)) (by kernel_rfl) (by (try dsimp only);exact HS.out _ (fun _=>False) (Touch.ah (au zR)) id id) fun hHeld => ?_
  refine tk 0 ?_
  refine tk 1 ?_
  refine tk 2 ?_
  refine tk 3 ?_
  refine tk 4 ?_
  refine tk 5 ?_
  refine tk 6 ?_
  refine tk 7 ?_
  refine tk 8 ?_
  refine tk 9 ?_
  refine tk 10 ?_
  refine tk 11 ?_
  refine tr 12 fun K hK => ?_
  go_simp
  go_at_call 63
  refine (HC.out _ (au zR)).mono ?_
  rintro e w1 ⟨rfl,H1,hs1,st1⟩
  have hr1:=zH (show ∃ H1,Sys X w1 s k c b m1 q1 W.S H1∧Step (bS s H) (bS s H1) w2 w1 from ⟨H1,hs1,(Step.ah (au (Below.refl w2.heap.size w2))).trans st1.ln⟩)
  have hq1:Touch (bS s H) w2 w1:=(Touch.ah (F:=bS s H) (au (Below.refl w2.heap.size w2))).trans st1.ln.aH
  clear hs1 st1
  go_wp2_with fail
  refine hK.out _ _ (by (try dsimp only);exact HS.out _ _ hq1 HN.out.1 HN.out.2.1) fun hHeld => ?_
  clear hK K
  try simp only [Act.put,zS,zT,zU]
  refine tk 13 ?_
  refine tk 14 ?_
  refine tk 15 ?_
  refine tk 16 ?_
  refine tk 17 ?_
  refine wpAnyH_done (by kernel_rfl) ?_ _
  refine NoPanic.normal ?_
  go_wp2
  go_meet
  exact ⟨rfl,rfl,hr1.out⟩
 case rest =>
  obtain ⟨rfl,rfl,H1,hs1,st1⟩:=hcut
  have hr1:=zH (zA hs1 st1)
  clear hs1 st1
  by_cases he:er=0
  ·
   subst he
   have ho1:=hr1.out.2.aH.at HO.out.1 HO.out.2
   have e0:=af wc (.cells #[.int .i64 y] 3)
   have hb1:=ae (Below.refl wc.heap.size wc) (.cells #[.int .i64 y] 3)
   have HL:=zH (show O<wc.heap.size from aO ho1)
   have z9:=hr1.out.2.aH.size
   have hr2:=zH (zA (hr1.out.1.aj hb1) (zA (hr1.out.2.trans (Step.ah hb1)) (zA (vI e0 z9 (show (1:Nat)=1 * 1 from rfl) (show 1≤1000 by decide)) (show ∀ g,(Value.slice (some ⟨wc.heap.size,0,none⟩) 1 1).ownBlock=some g → ¬ bS s H1 g from fun g hg hm=>by
    obtain rfl:wc.heap.size=g:=by simpa [Value.ownBlock] using hg
    exact Nat.lt_irrefl _ (hr1.out.1.lt _ hm)))))
   obtain ⟨z0,z1,z2,z3,zf⟩:=cC (aa hb1 ho1)
   clear ho1 e0 hb1 z9
   go_upto_region 21 with fail
   generalize hw1:wc.alloc (.cells #[.int .i64 y] 3)=w1 at *
   generalize wc.heap.size=gb at *
   have ho:=zH (zA (hr2.out.2.1.aH.at HO.out.1 HO.out.2) (hr2.out.2.1.aH.at HI.out.rR HI.out.nR))
   have rOa:(w1.setCell ⟨O,2,none⟩ (.slice (some ⟨gb,0,none⟩) 1 1)).heap[O]? = _:=az ho.out.1
   have ta:Touch (aN O) w1 (w1.setCell ⟨O,2,none⟩ (.slice (some ⟨gb,0,none⟩) 1 1)):=(Touch.refl (aN O) w1).set O 2 _ rfl
   have HA:=zH (zA rOa (zA (ta.at ho.out.2 (fun e=>HI.out.ne.2.2.2.2 (show R=O from e).symm)) ta))
   clear z0 z1 z2 z3 zf rOa ta HC HS ho
   generalize w1.setCell ⟨O,2,none⟩ (.slice (some ⟨gb,0,none⟩) 1 1)=wa at *
   obtain ⟨z0,z1,z2,z3,zf⟩:=cC (show wa.heap[O]? = some (.cells #[.string ⟨#[]⟩,.slice none 0 0,.slice (some ⟨gb,0,none⟩) 1 1,.bool false] 34 (0,0)) from HA.out.1)
   obtain ⟨y0,y1,y2,y3,yf⟩:=cC HA.out.2.1
   go_wp2_with fail
   obtain ⟨q0,q1,q2,q3,qf⟩:=cC (eY HA.out.2.1 (.string ⟨#[]⟩) (.slice none 0 0) (.slice (some ⟨gb,0,none⟩) 1 1) (.bool false))
   refine bodyPost_ret (v:=.tuple #[.agg #[.string ⟨#[]⟩,.slice none 0 0,.slice (some ⟨gb,0,none⟩) 1 1,.bool false],.int .i64 0]) ?_ rfl ?_
   ·
    change (results _ _).run _ (mi _ _ _ _ _ _)=_
    simp [results,results32,go_sem,q0,q1,q2,q3]
    rfl
   ·
    exact jl HI.out hr2.out.1 hr2.out.2.1 HF.out ⟨⟨#[]⟩,[],[y],false⟩ 0 none 0 (some ⟨gb,0,none⟩) 1 zN hr2.out.2.2.1 (fun g hg=>by simp [Value.ownBlock] at hg) hr2.out.2.2.2 HA.out.2.2 (cU wa R _ _ _ _)
  ·
   have hne:(er == 0)=false:=zQ he
   have HE:=zH (show D5 er y=[] from if_neg he)
   clear he
   go_upto_region 21 with fail
   have HA:=zH (zA (hr1.out.2.aH.at HO.out.1 HO.out.2) (zA (hr1.out.2.aH.at HI.out.rR HI.out.nR) (Touch.refl (aN O) wc)))
   generalize hwa:wc=wa at HA ⊢
   obtain ⟨z0,z1,z2,z3,zf⟩:=cC (show wa.heap[O]? = some (.cells #[.string ⟨#[]⟩,.slice none 0 0,.slice none 0 0,.bool false] 34 (0,0)) from HA.out.1)
   obtain ⟨y0,y1,y2,y3,yf⟩:=cC HA.out.2.1
   go_wp2_with fail
   obtain ⟨q0,q1,q2,q3,qf⟩:=cC (eY HA.out.2.1 (.string ⟨#[]⟩) (.slice none 0 0) (.slice none 0 0) (.bool false))
   refine bodyPost_ret (v:=.tuple #[.agg #[.string ⟨#[]⟩,.slice none 0 0,.slice none 0 0,.bool false],.int .i64 er]) ?_ rfl ?_
   ·
    change (results _ _).run _ (mi _ _ _ _ _ _)=_
    simp [results,results32,go_sem,q0,q1,q2,q3]
    rfl
   ·
    exact (by rw [HE.out];exact jl HI.out hr1.out.1 hr1.out.2 HF.out ⟨⟨#[]⟩,[],[],false⟩ er none 0 none 0 zN zN (fun g hg=>by simp [Value.ownBlock] at hg) (fun g hg=>by simp [Value.ownBlock] at hg) (show Touch (aN O) wc wa by rw [hwa];exact Touch.refl _ _) (cU wa R _ _ _ _))
end
section
open Go.RowKit
variable {X:Nat→Prop}
def lH (W:fT) (x:cG):fT×ey×Int :=
 if x.kind=0 then (⟨(cW W.m W.q x.reads).1,(cW W.m W.q x.reads).2.1,(cW W.m W.q x.reads).2.2.1⟩,⟨⟨#[]⟩,[],outs (cW W.m W.q x.reads).2.2.2.2 (cW W.m W.q x.reads).2.2.2.1,false⟩,(cW W.m W.q x.reads).2.2.2.2)
 else if x.kind=1 then (⟨(gv W.m).1,W.q,(gv W.m).2.1⟩,⟨⟨#[]⟩,[],[],false⟩,(gv W.m).2.2)
 else if x.kind=2 then (⟨(jg W.m W.q W.S x.key x.value x.reads).1,(jg W.m W.q W.S x.key x.value x.reads).2.1,(jg W.m W.q W.S x.key x.value x.reads).2.2.1⟩,⟨⟨#[]⟩,[],outs (jg W.m W.q W.S x.key x.value x.reads).2.2.2.2 (jg W.m W.q W.S x.key x.value x.reads).2.2.2.1,false⟩,(jg W.m W.q W.S x.key x.value x.reads).2.2.2.2)
 else if x.kind=3 then (W,⟨(xe W.S x.key).1,[],[],false⟩,(xe W.S x.key).2)
 else if x.kind=4 then (⟨(je W.m W.q W.S x.key x.reads).1,(je W.m W.q W.S x.key x.reads).2.1,(je W.m W.q W.S x.key x.reads).2.2.1⟩,⟨⟨#[]⟩,[],outs (je W.m W.q W.S x.key x.reads).2.2.2.2 (je W.m W.q W.S x.key x.reads).2.2.2.1,false⟩,(je W.m W.q W.S x.key x.reads).2.2.2.2)
 else if x.kind=5 then (W,⟨⟨#[]⟩,(lN W.S).1,[],false⟩,(lN W.S).2)
 else if x.kind=6 then (⟨(bI W.m W.q x.at_ x.width).1,(bI W.m W.q x.at_ x.width).2.1,W.S⟩,⟨⟨#[]⟩,[],D5 (bI W.m W.q x.at_ x.width).2.2.2 (bI W.m W.q x.at_ x.width).2.2.1,false⟩,(bI W.m W.q x.at_ x.width).2.2.2)
 else (W,⟨⟨#[]⟩,[],[],false⟩,0)
structure cG.IT (x:cG):Prop where
 kind:0≤x.kind∧x.kind≤7
 at_:0≤x.at_∧x.at_<4096
 width:0≤x.width∧x.width≤8
 cj:0≤x.cj∧x.cj≤65535
 mask:x.mask.size≤16
 value:x.value.size≤40
 key:x.key.size≤12
 busy:x.busy.length≤16 ∧ ∀ y ∈ x.busy,1≤y∧y≤400
 reads:x.reads.length≤16 ∧ ∀ y ∈ x.reads,0≤y∧y≤4095
theorem jZ {l u x:Int} (h:cv l u [x]=true):l≤x∧x≤u:=by
 unfold cv at h
 simpa using h
theorem tR {l u:Int} {xs:List Int} (h:cv l u xs=true):xs.length≤16 ∧ ∀ y ∈ xs,l≤y∧y≤u:=by
 unfold cv at h
 simp only [Bool.and_eq_true,List.all_eq_true,decide_eq_true_eq] at h
 exact ⟨h.2,h.1⟩
theorem CO {x:cG} (h:pY x=true):x.IT:=by
 unfold pY at h
 simp only [Bool.and_eq_true] at h
 obtain ⟨⟨⟨⟨⟨⟨⟨h1,h2⟩,h3⟩,h4⟩,h5⟩,h6⟩,h7⟩,h8⟩:=h
 unfold pe at h2
 simp only [Bool.and_eq_true,decide_eq_true_eq] at h2
 exact ⟨jZ h1,⟨(jZ h4).1,by have:=(jZ h4).2;omega⟩,jZ h5,jZ h6,h2.2,h2.1.2,h2.1.1,tR h7,tR h8⟩
theorem GD (p pa:Nat) (W:fT) (G:Nat→Prop) (x:cG) (ba:Option Addr) (bc:Nat) (ra:Option Addr) (rc:Nat) (w:World) (h:bg X w p W G) (hx:fS w pa x ba bc ra rc) (hpa : ¬ G pa) (ok:W.m.Ok) (kn:W.m.kQ) (g:W.q.Good) (fit:W.S.Fit) (hh:0<W.m.ar.busy.length→W.m.ar.home<w.heap.size) (hi:aL w ra x.reads G) (hcap:x.reads.length≤rc) (f:x.IT):Calls prog 32 #[.pointer (some ⟨p,0,none⟩),.pointer (some ⟨pa,0,none⟩)] w (ew X p (lH W x).1 (lH W x).2.1 (lH W x).2.2 G w):=by
 have hm:x.reads.length≤1000000:=Nat.le_trans f.reads.1 (by decide)
 have hv:x.value.size<140737488355328:=Nat.lt_of_le_of_lt f.value (by decide)
 obtain ⟨k0,k1⟩:=f.kind
 have hk:x.kind=0∨x.kind=1∨x.kind=2∨x.kind=3∨x.kind=4∨x.kind=5∨x.kind=6∨x.kind=7:=by omega
 unfold lH
 rcases hk with e | e | e | e | e | e | e | e
 ·
  rw [if_pos e];exact MW p pa W G x ba bc ra rc w h hx hpa ok kn g fit hh hi hcap hm hv f.at_ f.width e
 ·
  rw [if_neg (by omega),if_pos e];exact MX p pa W G x ba bc ra rc w h hx hpa ok kn g fit hh hi hcap hm hv f.at_ f.width e
 ·
  rw [if_neg (by omega),if_neg (by omega),if_pos e];exact MY p pa W G x ba bc ra rc w h hx hpa ok kn g fit hh hi hcap hm hv f.at_ f.width e
 ·
  rw [if_neg (by omega),if_neg (by omega),if_neg (by omega),if_pos e];exact MZ p pa W G x ba bc ra rc w h hx hpa ok kn g fit hh hi hcap hm hv f.at_ f.width e
 ·
  rw [if_neg (by omega),if_neg (by omega),if_neg (by omega),if_neg (by omega),if_pos e];exact M0 p pa W G x ba bc ra rc w h hx hpa ok kn g fit hh hi hcap hm hv f.at_ f.width e
 ·
  rw [if_neg (by omega),if_neg (by omega),if_neg (by omega),if_neg (by omega),if_neg (by omega),if_pos e];exact M1 p pa W G x ba bc ra rc w h hx hpa ok kn g fit hh hi hcap hm hv f.at_ f.width e
 ·
  rw [if_neg (by omega),if_neg (by omega),if_neg (by omega),if_neg (by omega),if_neg (by omega),if_neg (by omega),if_pos e];exact M3 p pa W G x ba bc ra rc w h hx hpa ok kn g fit hh hi hcap hm hv f.at_ f.width e
 ·
  rw [if_neg (by omega),if_neg (by omega),if_neg (by omega),if_neg (by omega),if_neg (by omega),if_neg (by omega),if_neg (by omega)];exact M4 p pa W G x ba bc ra rc w h hx hpa ok kn g fit hh hi hcap hm hv f.at_ f.width e
theorem BS {W:fT} (ok:W.m.Ok) (g:W.q.Good) (fit:W.S.Fit) {x:cG} (f:x.IT):(lH W x).1.m.Ok∧(lH W x).1.q.Good∧bH W.m (lH W x).1.m:=by
 unfold lH
 split
 ·
  exact ui ok g x.reads
 ·
  split
  ·
   exact ⟨(qE ok).1,g,(qE ok).2⟩
  ·
   split
   ·
    exact C9 ok g fit x.key x.value x.reads
   ·
    split
    ·
     exact ⟨ok,g,bH.refl _⟩
    ·
     split
     ·
      exact B9 ok g fit x.key x.reads
     ·
      split
      ·
       exact ⟨ok,g,bH.refl _⟩
      ·
       split
       ·
        exact lB ok g x.at_ x.width f.at_.1
       ·
        exact ⟨ok,g,bH.refl _⟩
def aG.next (m:aG) (xs:List Int) (hm:Nat):aG:={ m with ar:={ m.ar with busy:=xs,home:=hm } }
theorem Kw (s k c b:Nat) (m:aG) (q:Cache) (S:aA) (H:Nat→Prop) (a:Option Addr) (cap:Nat) (xs:List Int) (w:World) (h:Sys X w s k c b m q S H) (hi:aP w a xs) (hn:a=none→cap=0) (hl:xs.length≤16) (hx : ∀ y ∈ xs,1≤y∧y≤400):Calls prog 30 #[.pointer (some ⟨c,0,none⟩),.slice a xs.length cap] w fun e w'=>e=.returned (.int .i64 0) ∧ ∃ hm H',(0<xs.length→w.heap.size≤hm)∧Sys X w' s k c b (m.next xs hm) q S H'∧Step H H' w w':=by
 obtain ⟨F,hc,hF,hl2⟩:=h.ar
 refine (wN c m.ar F a cap xs w hc hi hn hl hx).mono ?_
 rintro e w' ⟨rfl,hm,F',h1,h2,h3⟩
 obtain ⟨H',hs,st⟩:=hl2 w' _ F' h2 h3 (fun hl=>.inl (h1 hl))
 exact ⟨rfl,hm,H',h1,hs,st⟩
theorem L5 (s k c b:Nat) (m:aG) (q:Cache) (S:aA) (H:Nat→Prop) (n:Int) (w:World) (h:Sys X w s k c b m q S H) (hn:0≤n):Calls prog 31 #[.pointer (some ⟨k,0,none⟩),.int .i64 n] w fun e w'=>e=.returned (.int .i64 0)∧q9 X s k c b { m with left:=n } q S H w w':=by
 obtain ⟨G,hc,hl⟩:=h.wQ
 refine (GW k c m G n w hc hn).mono ?_
 rintro e w' ⟨rfl,G',h1,h2⟩
 exact ⟨rfl,hl w' _ G' h1 h2 ⟨rfl,Nat.le_refl _⟩⟩
theorem Kv (s k c b:Nat) (m:aG) (q:Cache) (S:aA) (H:Nat→Prop) (w:World) (h:Sys X w s k c b m q S H):Calls prog 33 #[.pointer (some ⟨k,0,none⟩)] w fun e w'=>e=.returned (.bool m.lost)∧w=w':=by
 obtain ⟨G,hc,hl⟩:=h.wQ
 exact yu k c m G w hc
theorem Ku (s k c b:Nat) (m:aG) (q:Cache) (S:aA) (H:Nat→Prop) (mask:ByteArray) (w:World) (h:Sys X w s k c b m q S H) (ok:m.Ok) (hm:mask.size≤4096):Calls prog 34 #[.pointer (some ⟨c,0,none⟩),.string mask] w fun e w'=>e=.returned (.int .i64 0)∧q9 X s k c b { m with ar:=m.ar.cj mask } q S H w w':=by
 obtain ⟨F,hc,hF,hl2⟩:=h.ar
 refine (wM c m.ar F w hc ok.ck.ok mask hm).mono ?_
 rintro e w' ⟨rfl,F',h2,h3⟩
 exact ⟨rfl,hl2 w' _ F' h2 h3 (fun hl=>by cases hl)⟩
theorem Fi (p s k c b:Nat) (m:aG) (q:Cache) (S:aA) (H:Nat→Prop) (z:Int) (w:World) (h:Sys X w s k c b m q S H) (hr:jD w p c (some ⟨k,0,none⟩) (some ⟨b,0,none⟩) (some ⟨s,0,none⟩) z) (hp : ¬ H p) (hb:m.ar.busy=[]):Calls prog 35 #[.pointer (some ⟨p,0,none⟩)] w fun e w'=>e=.returned (.tuple #[]) ∧ ∃ s' k' b' H' z',jD w' p c (some ⟨k',0,none⟩) (some ⟨b',0,none⟩) (some ⟨s',0,none⟩) z'∧Sys X w' s' k' c b' (aG.new m.ar) Cache.new shut H' ∧ ¬ bS s' H' p∧Touch (aN p) w w' ∧ ∀ i,bS s' H' i→H i∨w.heap.size≤i:=by
 obtain ⟨F,hc,hF,hl2⟩:=h.ar
 obtain ⟨G,hk,_⟩:=h.wQ
 refine (lV p c (some ⟨k,0,none⟩) (some ⟨b,0,none⟩) (some ⟨s,0,none⟩) z m.ar F w hr hc (fun hf=>hp (hF p hf)) hb h.both.Gt (fun w' hb=>u6 k c m G w' (hk.aj hb))).mono ?_
 rintro e w' ⟨rfl,s',k',b',H',z',h1,h2,h3,h4,h5⟩
 exact ⟨rfl,s',k',b',H',z',h1,h2,h3,h4,fun i hi=>(h5 i hi).imp (hF i) id⟩
end
section
open Go.RowKit
variable {X:Nat→Prop}
def fT.next (W:fT) (xs:List Int) (hm:Nat):fT:=⟨W.m.next xs hm,W.q,W.S⟩
def fT.cut (W:fT) (n:Int):fT:=if 0<n then ⟨{ W.m with left:=n - 1 },W.q,W.S⟩ else W
def fT.cj (W:fT) (mask:ByteArray):fT:=⟨aG.new (W.m.ar.cj mask),Cache.new,shut⟩
def ey.Hv (A:ey):ey:=⟨A.value,A.bP,A.reads,true⟩
def F7 (r:fT×ey×Int):ey:=if r.1.m.lost=true then aR.Hv else r.2.1.Hv
def JV (r:fT×ey×Int):Int:=if r.1.m.lost=true then 0 else r.2.2
def jy (W:fT) (x:cG) (hm:Nat):fT×ey×Int:=lH ((W.next x.busy hm).cut x.cj) x
def KH (W:fT) (x:cG) (hm:Nat):fT×ey×Int :=
 if pY x=false then (W,aR,2500) else if x.cj=0∧x.kind≠7 then jy W x hm else ((jy W x hm).1.cj x.mask,F7 (jy W x hm),JV (jy W x hm))
abbrev Md (k c p pa:Nat) (x:cG) (ba:Option Addr) (bc:Nat) (w':World):Prop:=w'.cell? ⟨p,0,none⟩=some (.pointer (some ⟨c,0,none⟩))∧w'.cell? ⟨p,1,none⟩=some (.pointer (some ⟨k,0,none⟩))∧w'.cell? ⟨pa,5,none⟩=some (.int .i64 x.cj)∧w'.cell? ⟨pa,6,none⟩=some (.string x.mask)∧w'.cell? ⟨pa,7,none⟩=some (.slice ba x.busy.length bc)
theorem Md.of {w w':World} {s b p pa k c:Nat} {z:Int} {x:cG} {ba:Option Addr} {bc:Nat} {ra:Option Addr} {rc:Nat} (h1:jD w p c (some ⟨k,0,none⟩) (some ⟨b,0,none⟩) (some ⟨s,0,none⟩) z) (h2:fS w pa x ba bc ra rc) {F:Nat→Prop} (t:Touch F w w') (n1 : ¬ F p) (n2 : ¬ F pa):Md k c p pa x ba bc w':=by
 have k1:=t.at h1 n1
 have k2:fS w' pa x ba bc ra rc:=t.at h2 n2
 exact ⟨cell_of k1 0,cell_of k1 1,cell_of k2 5,cell_of k2 6,cell_of k2 7⟩
theorem GO {m:aG} {y:ByteArray} (h:Calm m y) {xs:List Int} (hx : ∀ z ∈ xs,1≤z∧z≤400) (hm:Nat):Calm (m.next xs hm) y:=⟨h.lost,h.dP,h.aD,h.cells,h.bq,h.bk,h.aZ,hx⟩
theorem GN {m:aG} {y:ByteArray} (h:Calm m y) (n:Int):Calm { m with left:=n } y:=⟨h.lost,h.dP,h.aD,h.cells,h.bq,h.bk,h.aZ,h.busy⟩
theorem LG {m:aG} (h:m.Ok) {xs:List Int} (hx : ∀ z ∈ xs,1≤z∧z≤400) (hm:Nat):(m.next xs hm).Ok:=⟨⟨⟨h.ck.ok.size,h.ck.ok.aZ,h.ck.ok.fU,h.ck.ok.gE,h.ck.ok.op,h.ck.ok.data⟩,hx⟩,h.dP,h.kv,h.ll⟩
theorem Lw {m:aG} (h:m.Ok) {n:Int} (h0 : -1≤n) (h1:n≤1099511627776):({ m with left:=n }:aG).Ok:=⟨h.ck,h.dP,h0,h1⟩
theorem Ek {w w1 w3:World} {p R:Nat} {W1:fT} {G G1:Nat→Prop} (h1:bg X w1 p W1 G1) (st:Step G G1 w w1) (A:ey) (er:Int) (pv:Option Addr) (pc:Nat) (rv:Option Addr) (cc:Nat) (o1:w1.ownsRow w.heap.size 83 2 (.slice pv A.bP.length pc) A.bP.length (aE A.bP)) (o2:w1.ownsRow w.heap.size 3 1 (.slice rv A.reads.length cc) A.reads.length (aB A.reads)) (n1 : ∀ g,(Value.slice pv A.bP.length pc).ownBlock=some g → ¬ G1 g∧g≠R) (n2 : ∀ g,(Value.slice rv A.reads.length cc).ownBlock=some g → ¬ G1 g∧g≠R) (hR:Plain w1 R) (hnR : ¬ G1 R) (hge:w.heap.size≤R) (t:Touch (aN R) w1 w3):ew X p W1 A er G w (.returned (.tuple #[.agg #[.string A.value,.slice pv A.bP.length pc,.slice rv A.reads.length cc,.bool A.lost],.int .i64 er])) w3 :=
 ⟨pv,pc,rv,cc,rfl,dE o1 t (fun g hg e=>(n1 g hg).2 e),dE o2 t (fun g hg e=>(n2 g hg).2 e),G1,h1.plain t hnR hR,⟨st.aH.then t (fun i hi=>.inr (by rw [show i=R from hi];exact hge)),st.gP⟩,fun g hg=>(n1 g hg).1,fun g hg=>(n2 g hg).1⟩
theorem JT {w wE wG wF wH:World} {p R O s4 c4 s5 k5 b5 B:Nat} {z5:Int} {G G3 H4 H5 H6:Nat→Prop} {W3:fT} {A2:ey} {mask:ByteArray} {pv:Option Addr} {pc:Nat} {rv:Option Addr} {cc:Nat} (hE:Step G G3 w wE) (hOG:w.heap.size≤O) (hRG:w.heap.size≤R) (hG : ∀ i,G3 i ↔ iT p s4 H4 i) (nR : ¬ G3 R) (nO : ¬ G3 O) (hRO:R≠O) (tO:Touch (aN O) wE wG) (hO:wG.heap[O]? = some (.cells #[.string A2.value,.slice pv A2.bP.length pc,.slice rv A2.reads.length cc,.bool A2.lost] 34 (0,0))) (hR:wG.heap[R]? = some ZA) (o1:wG.ownsRow w.heap.size 83 2 (.slice pv A2.bP.length pc) A2.bP.length (aE A2.bP)) (o2:wG.ownsRow w.heap.size 3 1 (.slice rv A2.reads.length cc) A2.reads.length (aB A2.reads)) (n1 : ∀ g,(Value.slice pv A2.bP.length pc).ownBlock=some g → ¬ G3 g∧g≠R∧g≠O∧B≤g) (n2 : ∀ g,(Value.slice rv A2.reads.length cc).ownBlock=some g → ¬ G3 g∧g≠R∧g≠O∧B≤g) (hp:p<wG.heap.size) (st:Step (bS s4 H4) (bS s4 H5) wG wF) (hrow:jD wH p c4 (some ⟨k5,0,none⟩) (some ⟨b5,0,none⟩) (some ⟨s5,0,none⟩) z5) (hs:Sys X wH s5 k5 c4 b5 (aG.new (W3.m.ar.cj mask)) Cache.new shut H6) (np : ¬ bS s5 H6 p) (tp:Touch (aN p) wF wH) (ft : ∀ i,bS s5 H6 i→H5 i∨wF.heap.size≤i) (er:Int) (x1 x2 x3 x4:Value):ew X p (W3.cj mask) A2.Hv er G w (.returned (.tuple #[.agg #[.string A2.value,.slice pv A2.bP.length pc,.slice rv A2.reads.length cc,.bool true],.int .i64 er])) (mi (wH.setCell ⟨O,3,none⟩ (.bool true)) R x1 x2 x3 x4):=by
 have g3p:G3 p:=(hG p).2 (.inr rfl)
 have hpO:p≠O:=fun e=>nO (e ▸ g3p)
 have m3 : ∀ i,bS s4 H4 i→G3 i:=fun i h=>(hG i).2 (.inl h)
 have t2:Touch (aN O) wH (wH.setCell ⟨O,3,none⟩ (.bool true)):=(Touch.refl (aN O) wH).set O 3 _ rfl
 have inF : ∀ i,i<wG.heap.size → ¬ G3 i → ¬ bS s5 H6 i:=fun i hi hn h=>by
  rcases ft i h with h | h
  ·
   rcases st.gP i (.inl h) with h | h
   ·
    exact hn (m3 i h)
   ·
    omega
  ·
   have:=st.aH.size
   omega
 have row : ∀ i v,i<wG.heap.size → ¬ G3 i→wG.heap[i]? = some v→wH.heap[i]? = some v:=fun i v hi hn e=>tp.at (st.aH.at e (fun h=>hn (m3 i h))) (fun h=>hn (by rw [show i=p from h];exact g3p))
 have hOl:=aO hO
 have hRl:=aO hR
 have kO:=row O _ hOl nO hO
 have kR:(wH.setCell ⟨O,3,none⟩ (.bool true)).heap[R]? = some ZA:=t2.at (row R _ hRl nR hR) (fun h=>hRO h)
 have own : ∀ {t sz v n xs},wG.ownsRow w.heap.size t sz v n xs→(∀ g,v.ownBlock=some g → ¬ G3 g∧g≠R∧g≠O∧B≤g)→(wH.setCell ⟨O,3,none⟩ (.bool true)).ownsRow w.heap.size t sz v n xs:=fun h n=>dE (dE (dE h st.aH (fun g hg h=>(n g hg).1 (m3 g h))) tp (fun g hg h=>(n g hg).1 (by rw [show g=p from h];exact g3p))) t2 (fun g hg h=>(n g hg).2.2.1 h)
 have low : ∀ i,G3 i→G i∨w.heap.size≤i:=hE.gP
 have wG0:w.heap.size≤wG.heap.size:=Nat.le_trans hE.aH.size tO.size
 have T:Touch G w (wH.setCell ⟨O,3,none⟩ (.bool true)):=(((hE.aH.then tO (fun i hi=>.inr (by rw [show i=O from hi];exact hOG))).then st.aH (fun i hi=>low i (m3 i hi))).then tp (fun i hi=>low i (by rw [show i=p from hi];exact g3p))).then t2 (fun i hi=>.inr (by rw [show i=O from hi];exact hOG))
 refine Ek (W1:=W3.cj mask) (G1:=iT p s5 H6) (R:=R) ⟨s5,k5,c4,b5,H6,z5,t2.at hrow (fun h=>hpO h),hs.plain t2 (inF O hOl nO) (jN kO),np,fun h=>(by cases h),fun i=>Iff.rfl⟩ ⟨T,fun i hi => ?_⟩ A2.Hv er pv pc rv cc (own o1 n1) (own o2 n2) (fun g hg=>⟨fun h => ?_,(n1 g hg).2.1⟩) (fun g hg=>⟨fun h => ?_,(n2 g hg).2.1⟩) (jN kR) (fun h => ?_) hRG (cU _ _ _ _ _ _)
 ·
  rcases hi with hi | hi
  ·
   rcases ft i hi with h | h
   ·
    rcases st.gP i (.inl h) with h | h
    ·
     exact low i (m3 i h)
    ·
     exact .inr (Nat.le_trans wG0 h)
   ·
    exact .inr (Nat.le_trans wG0 (Nat.le_trans st.aH.size h))
  ·
   rw [hi]
   exact low p g3p
 ·
  rcases h with h | h
  ·
   exact inF g (lx o1 g hg) (n1 g hg).1 h
  ·
   exact (n1 g hg).1 (by rw [h];exact g3p)
 ·
  rcases h with h | h
  ·
   exact inF g (lx o2 g hg) (n2 g hg).1 h
  ·
   exact (n2 g hg).1 (by rw [h];exact g3p)
 ·
  rcases h with h | h
  ·
   exact inF R hRl nR h
  ·
   exact nR (by rw [h];exact g3p)
theorem JU (W:fT) (A:ey) (er:Int):F7 (W,A,er)=(if W.m.lost=true then aR else A).Hv:=by unfold F7;split <;> rfl
theorem JW (W:fT) (A:ey) (er:Int):JV (W,A,er)=if W.m.lost=true then 0 else er:=rfl
theorem B7 (W:fT) (n:Int):(W.cut n).m.ar=W.m.ar:=by unfold fT.cut;split <;> rfl
theorem zo (W:fT) (xs:List Int) (hm:Nat) (n:Int):((W.next xs hm).cut n).q=W.q:=by unfold fT.cut;split <;> rfl
theorem zn (W:fT) (xs:List Int) (hm:Nat) (n:Int):((W.next xs hm).cut n).S=W.S:=by unfold fT.cut;split <;> rfl
theorem Bv {W:fT} {cx:ByteArray} (h:Calm W.m cx) (ok:W.m.Ok) {x:cG} (f:x.IT) (hm:Nat):Calm ((W.next x.busy hm).cut x.cj).m cx∧((W.next x.busy hm).cut x.cj).m.Ok∧(x.cj=0→((W.next x.busy hm).cut x.cj).m.left=W.m.left):=by
 have h1:=GO h f.busy.2 hm
 have o1:=LG ok f.busy.2 hm
 unfold fT.cut
 by_cases hl:0<x.cj
 ·
  rw [if_pos hl]
  have:=f.cj
  exact ⟨GN h1 _,Lw o1 (by omega) (by omega),fun e=>by omega⟩
 ·
  rw [if_neg hl]
  exact ⟨h1,o1,fun _=>rfl⟩
theorem Jr (p:Nat) (W:fT) (G:Nat→Prop) (x:cG) (ba:Option Addr) (bc:Nat) (ra:Option Addr) (rc:Nat) (cx:ByteArray) (w:World) (h:bg X w p W G) (calm:Calm W.m cx) (ok:W.m.Ok) (g:W.q.Good) (fit:W.S.Fit) (hb:aP w ba x.busy) (hbn:ba=none→bc=0) (hi:aL w ra x.reads G) (hcap:x.reads.length≤rc) (lb:x.busy.length≤4611686018427387904) (lr:x.reads.length≤4611686018427387904):Calls prog 11 #[.pointer (some ⟨p,0,none⟩),.agg (x.row ba bc ra rc)] w fun e w' => ∃ hm,ew X p (KH W x hm).1 (KH W x hm).2.1 (KH W x hm).2.2 G w e w':=by
 obtain ⟨s,k,c,b,H,z,h1,h2,h3,h4,h5⟩:=h.ex
 have hpp:=aO h1
 have hlt : ∀ i,bS s H i→i<w.heap.size:=h2.lt
 have hb0:=ae (ae (Below.refl w.heap.size w) (.cells (x.row ba bc ra rc) 31)) ZA
 have hact:fS ((w.alloc (.cells (x.row ba bc ra rc) 31)).alloc ZA) w.heap.size x ba bc ra rc:=aa (ae zR ZA) (af w _)
 have hsz:((w.alloc (.cells (x.row ba bc ra rc) 31)).alloc ZA).heap.size=w.heap.size+2:=by simp
 have hR:((w.alloc (.cells (x.row ba bc ra rc) 31)).alloc ZA).heap[w.heap.size+1]? = some ZA:=by simpa using af (w.alloc (.cells (x.row ba bc ra rc) 31)) ZA
 have HM:=zH (Hw x ba bc ra rc ((w.alloc (.cells (x.row ba bc ra rc) 31)).alloc ZA) (hb.aj hb0) (hi.1.aj hb0) lb lr)
 have H0:=zH (zA (h2.aj hb0) (zA (show jD _ p c _ _ _ z from aa hb0 h1) (zA hact (zA hR (zA hb0 (zA hsz (zA (hb.aj hb0) (zA (hi.step (G':=G) (Step.ah hb0)) (zA h3 (zA h4 (zA h5 (zA hlt hpp))))))))))))
 have HC:=zH (zA calm (zA ok (zA g (zA fit (zA hbn hcap)))))
 have HD:=zH (fun hm=>(show KH W x hm=if pY x=false then (W,aR,2500) else if x.cj=0∧x.kind≠7 then jy W x hm else ((jy W x hm).1.cj x.mask,F7 (jy W x hm),JV (jy W x hm)) from rfl))
 have hrow:x.row ba bc ra rc = #[.int .i64 x.kind,.string x.key,.string x.value,.int .i64 x.at_,.int .i64 x.width,.int .i64 x.cj,.string x.mask,.slice ba x.busy.length bc,.slice ra x.reads.length rc]:=rfl
 have HMF:=zH (fun h=>CO (x:=x) h)
 clear h h1 h2 h3 h4 h5 hact hR hb0 hsz hlt hpp hb hi hbn hcap lb lr calm ok g fit
 rw [hrow] at H0 HM ⊢
 clear hrow
 generalize pY x=mb at HM HD HMF
 go_enter func11,ntmps11
 go_upto_region 3 with fail
 have eZ:(w.alloc (.cells #[.int .i64 x.kind,.string x.key,.string x.value,.int .i64 x.at_,.int .i64 x.width,.int .i64 x.cj,.string x.mask,.slice ba x.busy.length bc,.slice ra x.reads.length rc] 31)).alloc (.cells #[.string ⟨#[]⟩,.slice none 0 0,.slice none 0 0,.bool false] 34)=(w.alloc (.cells #[.int .i64 x.kind,.string x.key,.string x.value,.int .i64 x.at_,.int .i64 x.width,.int .i64 x.cj,.string x.mask,.slice ba x.busy.length bc,.slice ra x.reads.length rc] 31)).alloc ZA:=rfl
 rw [eZ]
 clear eZ
 generalize (w.alloc (.cells #[.int .i64 x.kind,.string x.key,.string x.value,.int .i64 x.at_,.int .i64 x.width,.int .i64 x.cj,.string x.mask,.slice ba x.busy.length bc,.slice ra x.reads.length rc] 31)).alloc ZA=w0 at *
 have a0:w0.cell? ⟨w.heap.size,0,none⟩=some (.int .i64 x.kind):=cell_of H0.out.2.2.1 0
 have a1:w0.cell? ⟨w.heap.size,1,none⟩=some (.string x.key):=cell_of H0.out.2.2.1 1
 have a2:w0.cell? ⟨w.heap.size,2,none⟩=some (.string x.value):=cell_of H0.out.2.2.1 2
 have a3:w0.cell? ⟨w.heap.size,3,none⟩=some (.int .i64 x.at_):=cell_of H0.out.2.2.1 3
 have a4:w0.cell? ⟨w.heap.size,4,none⟩=some (.int .i64 x.width):=cell_of H0.out.2.2.1 4
 have a5:w0.cell? ⟨w.heap.size,5,none⟩=some (.int .i64 x.cj):=cell_of H0.out.2.2.1 5
 have a6:w0.cell? ⟨w.heap.size,6,none⟩=some (.string x.mask):=cell_of H0.out.2.2.1 6
 have a7:w0.cell? ⟨w.heap.size,7,none⟩=some (.slice ba x.busy.length bc):=cell_of H0.out.2.2.1 7
 have a8:w0.cell? ⟨w.heap.size,8,none⟩=some (.slice ra x.reads.length rc):=cell_of H0.out.2.2.1 8
 have HWA:=zH (fun w' (hb:Below w0.heap.size w0 w')=>(show bg X w' p W (iT p s H) from ⟨s,k,c,b,H,z,aa hb H0.out.2.1,H0.out.1.aj hb,H0.out.2.2.2.2.2.2.2.2.1,H0.out.2.2.2.2.2.2.2.2.2.1,fun i=>Iff.rfl⟩))
 have HGW:=zH (show ∀ i,G i ↔ iT p s H i from H0.out.2.2.2.2.2.2.2.2.2.2.1)
 have HLT:=zH (zA (show ∀ i,iT p s H i→i<w.heap.size from fun i hi=>hi.elim (H0.out.2.2.2.2.2.2.2.2.2.2.2.1 i) (fun e=>by rw [e];exact H0.out.2.2.2.2.2.2.2.2.2.2.2.2)) (zA H0.out.2.2.2.2.1 H0.out.2.2.2.2.2.1))
 have HRR:=zH H0.out.2.2.2.1
 have HST:=zH (show Step G (iT p s H) w w0 from ⟨Touch.ah HLT.out.2.1,fun i hi=>.inl ((HGW.out i).2 hi)⟩)
 have HNP:=zH (show ¬ bS s H p from H0.out.2.2.2.2.2.2.2.2.1)
 have hpa : ¬ iT p s H w.heap.size:=fun hm=>Nat.lt_irrefl _ (HLT.out.1 _ hm)
 have hnR : ¬ iT p s H (w.heap.size+1):=fun hm=>by have:=HLT.out.1 _ hm;omega
 have HPA:=zH (zA hpa hnR)
 clear hpa hnR
 generalize hpaE:w.heap.size=pa at *
 generalize hRE:pa+1=R at *
 cases mb with
 | false =>
  have HF:=zH (fun hm=>(HD.out hm).trans (if_pos rfl))
  clear HD HMF
  go_wp2_with (go_at_call 29;refine HM.out.mono ?_;rintro e wA ⟨rfl,hbA⟩;obtain ⟨z0,z1,z2,z3,zf⟩:=cC (aa hbA HRR.out))
  have rA:=aa hbA HRR.out
  obtain ⟨q0,q1,q2,q3,qf⟩:=cC (eY rA (.string ⟨#[]⟩) (.slice none 0 0) (.slice none 0 0) (.bool false))
  refine bodyPost_ret (v:=.tuple #[.agg #[.string ⟨#[]⟩,.slice none 0 0,.slice none 0 0,.bool false],.int .i64 2500]) ?_ rfl ?_
  ·
   change (results _ _).run _ (mi _ _ _ _ _ _)=_
   simp [results,results11,go_sem,q0,q1,q2,q3]
   rfl
  ·
   refine ⟨0,?_⟩
   rw [HF.out 0]
   exact Ek (HWA.out wA hbA) (HST.out.trans (Step.ah hbA)) aR 2500 none 0 none 0 zN zN (fun g hg=>by simp [Value.ownBlock] at hg) (fun g hg=>by simp [Value.ownBlock] at hg) (jN rA) HPA.out.2 (by omega) (cU wA R _ _ _ _)
 | true =>
  have HFN:=zH (HMF.out rfl)
  replace HD:=zH (fun hm=>(HD.out hm).trans (if_neg (by decide)))
  clear HMF
  go_upto_region 5 with (go_at_call 29;refine HM.out.mono ?_;rintro e wA ⟨rfl,hbA⟩)
  have HA:=zH (zA (H0.out.1.aj hbA) (zA (show jD wA p c _ _ _ z from aa hbA H0.out.2.1) (zA (show fS wA pa x ba bc ra rc from aa hbA H0.out.2.2.1) (zA (aa hbA HRR.out) (zA (HST.out.trans (Step.ah hbA)) (zA (H0.out.2.2.2.2.2.2.1.aj hbA) (H0.out.2.2.2.2.2.2.2.1.step (G':=iT p s H) ⟨(Touch.ah hbA),fun i hi=>.inl ((HGW.out i).2 hi)⟩)))))))
  have hsA:pa+2≤wA.heap.size:=by have:=hbA.size;have:=HLT.out.2.2;omega
  have HSZ:=zH hsA
  have HN0:=zH HNP.out
  replace HNP:=zH (zA HN0.out (show ¬ bS s H pa from fun hm=>HPA.out.1 (.inl hm)))
  have HNX:=zH (fun w' (hb:Below wA.heap.size wA w')=>Kw s k c b W.m W.q W.S H ba bc x.busy w' (HA.out.1.aj hb) (HA.out.2.2.2.2.2.1.aj hb) HC.out.2.2.2.2.1 HFN.out.busy.1 HFN.out.busy.2)
  have HS:=zH (fun w' (F:Nat→Prop) (t:Touch F wA w') n1 n2=>Md.of HA.out.2.1 HA.out.2.2.1 t n1 n2)
  clear hbA hsA HM H0 HWA HST HRR a0 a1 a2 a3 a4 a5 a6 a7 a8 HN0
  refine wp_region_noPanic ?_
  refine wp_region_held_drew (S:=(Md k c p pa x ba bc)) (by kernel_rfl) (by (try dsimp only);exact HS.out _ (fun _=>False) (Touch.ah (au zR)) id id) fun hHeld => ?_
  refine tk 0 ?_
  refine tk 1 ?_
  refine tk 2 ?_
  refine tk 3 ?_
  refine tk 4 ?_
  refine tk 5 ?_
  refine tr 6 fun K hK => ?_
  go_simp
  go_at_call 30
  refine (HNX.out _ (au zR)).mono ?_
  rintro e wB ⟨rfl,hm,H1,hhm,hs1,st1⟩
  have hr1:=zH (zA hs1 (zA ((Step.ah (F:=bS s H) (au (Below.refl wA.heap.size wA))).trans st1.ln) (fun hl=>Nat.le_trans (show wA.heap.size≤wA.drew.heap.size from Nat.le_refl _) (hhm hl))))
  clear hs1 st1 hhm
  go_wp2_with fail
  refine hK.out _ _ (by (try dsimp only);exact HS.out _ _ hr1.out.2.1.aH HNP.out.1 HNP.out.2) fun hHeld => ?_
  clear hK K
  try simp only [Act.put,zS,zT,zU]
  refine wpAnyH_done (by kernel_rfl) ?_ _
  refine NoPanic.normal ?_
  have HB:=zH (zA (show jD wB p c _ _ _ z from hr1.out.2.1.aH.at HA.out.2.1 HNP.out.1) (zA (show fS wB pa x ba bc ra rc from hr1.out.2.1.aH.at HA.out.2.2.1 HNP.out.2) (zA ((hr1.out.2.1).safe (aO HA.out.2.1) HNP.out.1) ((hr1.out.2.1).safe (aO HA.out.2.2.1) HNP.out.2))))
  have b5:wB.cell? ⟨pa,5,none⟩=some (.int .i64 x.cj):=cell_of HB.out.2.1 5
  have HNP2:=zH HB.out.2.2
  have HS2:=zH (fun w' (F:Nat→Prop) (t:Touch F wB w') n1 n2=>Md.of HB.out.1 HB.out.2.1 t n1 n2)
  clear HNX HS
  go_upto_if 26 with fail
  go_cut [26] from 27 to 34 (fun v26 wx => ∃ H2,Sys X wx s k c b ((W.next x.busy hm).cut x.cj).m W.q W.S H2∧Step (bS s H1) (bS s H2) wB wx)
  case first =>
   by_cases hl:0<x.cj
   ·
    have HL:=zH hl
    have hle:=HFN.out.cj.2
    have hge:=HFN.out.cj.1
    have hwr:IntKind.i64.wrap (x.cj - 1)=x.cj - 1:=cX (by omega) (by omega)
    have HCU:=zH (fun w' (hb:Below wB.heap.size wB w')=>L5 s k c b _ W.q W.S H1 (x.cj - 1) w' (hr1.out.1.aj hb) (by omega))
    rw [← hwr] at HCU
    have HWR:=zH hwr
    clear hwr
    go_upto_region 7 with fail
    refine wp_region_noPanic ?_
    refine wp_region_held_drew (S:=(Md k c p pa x ba bc)) (by kernel_rfl) (by (try dsimp only);exact HS2.out _ (fun _=>False) (Touch.ah (au zR)) id id) fun hHeld => ?_
    refine tk 0 ?_
    refine tk 1 ?_
    refine tk 2 ?_
    refine tk 3 ?_
    refine tk 4 ?_
    refine tk 5 ?_
    refine tk 6 ?_
    refine tr 7 fun K hK => ?_
    go_simp
    go_at_call 31
    refine (HCU.out _ (au zR)).mono ?_
    rintro e wC ⟨rfl,H2,hs2,st2⟩
    have hr2:=zH (zA hs2 ((Step.ah (F:=bS s H1) (au (Below.refl wB.heap.size wB))).trans st2.ln))
    clear hs2 st2
    go_wp2_with fail
    refine hK.out _ _ (by (try dsimp only);exact HS2.out _ _ hr2.out.2.aH HNP2.out.1 HNP2.out.2) fun hHeld => ?_
    clear hK K
    try simp only [Act.put,zS,zT,zU]
    refine wpAnyH_done (by kernel_rfl) ?_ _
    refine NoPanic.normal ?_
    go_wp2
    go_meet
    exact ⟨H2,by (have h9:=hr2.out.1;rw [HWR.out] at h9;unfold fT.cut;rw [if_pos HL.out];exact h9),hr2.out.2⟩
   ·
    have HL:=zH hl
    go_wp2
    go_meet
    exact ⟨H1,by (unfold fT.cut;rw [if_neg (by have:=HL.out;omega)];exact hr1.out.1),Step.refl _ _⟩
  case rest =>
   obtain ⟨H2,hs2,st2⟩:=hcut
   have hst2:=hr1.out.2.1.trans st2
   have HWC:=zH (show bg X wc p ((W.next x.busy hm).cut x.cj) (iT p s H2) from ⟨s,k,c,b,H2,z,st2.aH.at HB.out.1 HNP2.out.1,(by rw [zo,zn];exact hs2),st2.safe (aO HB.out.1) HNP2.out.1,fun hl=>⟨fun e=>(by
    rw [B7] at hl e
    have h1:=hr1.out.2.2 hl
    have h2:=aO HA.out.2.1
    have e:hm=p:=e
    omega),fun hx=>(by
    rw [B7] at hl hx
    have h1:=hr1.out.2.2 hl
    have h2:=HA.out.1.both.Gt _ hx
    have h2:hm<wA.heap.size:=h2
    omega)⟩,fun i=>Iff.rfl⟩)
   have hgen:=Bv HC.out.1 HC.out.2.1 HFN.out hm
   have hhm:0<((W.next x.busy hm).cut x.cj).m.ar.busy.length→((W.next x.busy hm).cut x.cj).m.ar.home<wc.heap.size:=fun hl=>by
    obtain ⟨F,hc,_,_⟩:=hs2.ar
    exact (hc.home hl).1
   have hnpa : ¬ iT p s H2 pa:=fun hm=>hm.elim (fun h=>st2.safe (aO HB.out.2.1) HNP2.out.2 h) (fun e=>by
    have:=HA.out.2.2.1
    have h0:=HA.out.2.1
    rw [e] at this
    unfold fS at this
    unfold jD at h0
    rw [this] at h0
    simp [cG.row] at h0)
   have HAC:=zH (GD p pa ((W.next x.busy hm).cut x.cj) (iT p s H2) x ba bc ra rc wc HWC.out (st2.aH.at HB.out.2.1 HNP2.out.2) hnpa hgen.2.1 (wI hgen.1).1 (by rw [zo];exact HC.out.2.2.1) (by rw [zn];exact HC.out.2.2.2.1) hhm (HA.out.2.2.2.2.2.2.step (G':=iT p s H2) ⟨hst2.aH.mono fun i h=>.inl h,fun i hi=>hi.elim (fun h=>(hst2.gP i h).imp .inl id) (fun h=>.inl (.inr h))⟩) HC.out.2.2.2.2.2 HFN.out)
   have HC2:=zH (zA (show Step (iT p s H) (iT p s H2) wA wc from ⟨hst2.aH.mono fun i h=>.inl h,fun i hi=>hi.elim (fun h=>(hst2.gP i h).imp .inl id) (fun h=>.inl (.inr h))⟩) (zA (show fS wc pa x ba bc ra rc from st2.aH.at HB.out.2.1 HNP2.out.2) hnpa))
   have HDR:=zH (show jy W x hm=lH ((W.next x.busy hm).cut x.cj) x from rfl)
   have HRN:=zH (show ¬ iT p s H2 R∧wc.heap[R]? = some ZA∧R<wA.heap.size from ⟨fun h9=>(by
    have e1:=HPA.out.2
    rcases h9 with h9 | h9
    ·
     rcases hst2.gP R h9 with h8 | h8
     ·
      exact e1 (.inl h8)
     ·
      have:=HSZ.out;omega
    ·
     exact e1 (.inr h9)),hst2.aH.at HA.out.2.2.2.1 (fun h9=>HPA.out.2 (.inl h9)),by have:=HSZ.out;omega⟩)
   have HOK:=zH (BS (W:=(W.next x.busy hm).cut x.cj) (x:=x) hgen.2.1 (by rw [zo];exact HC.out.2.2.1) (by rw [zn];exact HC.out.2.2.2.1) HFN.out)
   clear hs2 st2 hst2 hgen hhm hnpa b5 HWC HGW
   generalize lH ((W.next x.busy hm).cut x.cj) x=r at HAC HDR HOK
   obtain ⟨W3,A,er⟩:=r
   simp only at HAC
   go_upto_region 9 with (go_at_call 32;refine HAC.out.mono ?_;rintro e w3 ⟨va,vc,vb,vd,rfl,o1,o2,G3,hw3,st3,n1,n2⟩)
   have rO:=af w3 (.cells #[.string A.value,.slice va A.bP.length vc,.slice vb A.reads.length vd,.bool A.lost] 34)
   have bE:=ae (Below.refl w3.heap.size w3) (.cells #[.string A.value,.slice va A.bP.length vc,.slice vb A.reads.length vd,.bool A.lost] 34)
   have hwz:w.heap.size≤wc.heap.size:=Nat.le_trans HA.out.2.2.2.2.1.aH.size HC2.out.1.aH.size
   have HE:=zH (zA (hw3.aj bE) (zA (HA.out.2.2.2.2.1.trans (HC2.out.1.trans (st3.trans (Step.ah bE)))) (zA (eV (o1.alloc (.cells #[.string A.value,.slice va A.bP.length vc,.slice vb A.reads.length vd,.bool A.lost] 34)) hwz) (eV (o2.alloc (.cells #[.string A.value,.slice va A.bP.length vc,.slice vb A.reads.length vd,.bool A.lost] 34)) hwz))))
   have hRc:R<wc.heap.size:=zV HRN.out.2.2 HC2.out.1.aH.size
   have HEO:=zH (zA (show ∀ g,(Value.slice va A.bP.length vc).ownBlock=some g → ¬ G3 g∧g≠R∧g≠w3.heap.size∧wc.heap.size≤g from fun g hg=>⟨n1 g hg,by have:=bZ o1 g hg;omega,by have:=lx o1 g hg;omega,bZ o1 g hg⟩) (show ∀ g,(Value.slice vb A.reads.length vd).ownBlock=some g → ¬ G3 g∧g≠R∧g≠w3.heap.size∧wc.heap.size≤g from fun g hg=>⟨n2 g hg,by have:=bZ o2 g hg;omega,by have:=lx o2 g hg;omega,bZ o2 g hg⟩))
   have rRE:(w3.alloc (.cells #[.string A.value,.slice va A.bP.length vc,.slice vb A.reads.length vd,.bool A.lost] 34)).heap[R]? = some ZA:=aa bE (st3.aH.at HRN.out.2.1 HRN.out.1)
   have hact:fS (w3.alloc (.cells #[.string A.value,.slice va A.bP.length vc,.slice vb A.reads.length vd,.bool A.lost] 34)) pa x ba bc ra rc:=aa bE (st3.aH.at HC2.out.2.1 HC2.out.2.2)
   have HEN:=zH (zA (st3.safe hRc HRN.out.1) (zA (st3.safe (aO HC2.out.2.1) HC2.out.2.2) (zA (show ¬ G3 w3.heap.size from fun h9=>Nat.lt_irrefl _ (hw3.lt _ h9)) (zA (show R≠w3.heap.size by have:=st3.aH.size;omega) (show pa≠w3.heap.size by have:=aO HC2.out.2.1;have:=st3.aH.size;omega)))))
   have HRG:=zH (show w.heap.size≤R by omega)
   have HOG:=zH (show w.heap.size≤w3.heap.size from Nat.le_trans hwz st3.aH.size)
   clear o1 o2 n1 n2 hw3 st3 bE hRc hwz HAC
   generalize w3.alloc (.cells #[.string A.value,.slice va A.bP.length vc,.slice vb A.reads.length vd,.bool A.lost] 34)=wE at *
   generalize w3.heap.size=O at *
   have HRO:=zH (zA rO (zA rRE hact))
   have e5:wE.cell? ⟨pa,5,none⟩=some (.int .i64 x.cj):=cell_of hact 5
   have e0:wE.cell? ⟨pa,0,none⟩=some (.int .i64 x.kind):=cell_of hact 0
   obtain ⟨z0,z1,z2,z3,zf⟩:=cC rO
   obtain ⟨y0,y1,y2,y3,yf⟩:=cC (show wE.heap[R]? = some (.cells #[.string ⟨#[]⟩,.slice none 0 0,.slice none 0 0,.bool false] 34 (0,0)) from rRE)
   clear rO rRE hact
   by_cases hpl:x.cj=0∧x.kind≠7
   ·
    have HDP:=zH ((HD.out hm).trans (if_pos hpl))
    have k1:(x.cj == 0)=true:=beq_iff_eq.2 hpl.1
    have k2:(x.kind != 7)=true:=bne_iff_ne.2 hpl.2
    clear hpl
    go_wp2_with fail
    obtain ⟨q0,q1,q2,q3,qf⟩:=cC (eY HRO.out.2.1 (.string A.value) (.slice va A.bP.length vc) (.slice vb A.reads.length vd) (.bool A.lost))
    refine bodyPost_ret (v:=.tuple #[.agg #[.string A.value,.slice va A.bP.length vc,.slice vb A.reads.length vd,.bool A.lost],.int .i64 er]) ?_ rfl ?_
    ·
     change (results _ _).run _ (mi _ _ _ _ _ _)=_
     simp [results,results11,go_sem,q0,q1,q2,q3]
     rfl
    ·
     refine ⟨hm,?_⟩
     rw [HDP.out,HDR.out]
     exact Ek HE.out.1 HE.out.2.1 A er va vc vb vd HE.out.2.2.1 HE.out.2.2.2 (fun g hg=>⟨(HEO.out.1 g hg).1,(HEO.out.1 g hg).2.1⟩) (fun g hg=>⟨(HEO.out.2 g hg).1,(HEO.out.2 g hg).2.1⟩) (jN HRO.out.2.1) HEN.out.1 HRG.out (cU wE R _ _ _ _)
   ·
    have HDP:=zH ((HD.out hm).trans (if_neg hpl))
    have hcz:p<wc.heap.size:=zV (aO HA.out.2.1) HC2.out.1.aH.size
    obtain ⟨wc1,hwc1⟩ : ∃ wc1,wc1=wc:=⟨_,rfl⟩
    subst hwc1
    go_cut [47] from 40 to 46 (fun v47 wx=>v47=.bool false∧wx=wE)
    case first =>
     by_cases k0:x.cj=0
     ·
      have k1:(x.cj == 0)=true:=beq_iff_eq.2 k0
      have k2:(x.kind != 7)=false:=by
       by_cases k9:x.kind=7
       ·
        simp [k9]
       ·
        exact absurd ⟨k0,k9⟩ hpl
      clear hpl k0
      go_wp2
      go_meet
      exact ⟨rfl,rfl⟩
     ·
      have k1:(x.cj == 0)=false:=zQ k0
      clear hpl k0
      go_wp2
      go_meet
      exact ⟨rfl,rfl⟩
    case rest =>
    obtain ⟨rfl,rfl⟩:=hcut
    clear hpl
    obtain ⟨s4,k4,c4,b4,H4,z4,r4,hs4,hn4,hh4,hG4⟩:=HE.out.1.ex
    have p1:wc.cell? ⟨p,1,none⟩=some (.pointer (some ⟨k4,0,none⟩)):=cell_of r4 1
    have HLS:=zH (Kv s4 k4 c4 b4 W3.m W3.q W3.S H4 wc hs4)
    have HW4:=zH (zA r4 (zA hs4 (zA hn4 hG4)))
    clear r4 hs4 hn4 hh4 hG4
    obtain ⟨wE,hwE⟩ : ∃ wE,wE=wc:=⟨_,rfl⟩
    subst hwE
    go_upto_if 54 with (go_at_call 33;refine HLS.out.mono ?_;rintro e wx ⟨rfl,rfl⟩)
    go_cut [7,54] from 55 to 55 (fun v7 v54 wx=>v7=.int .i64 (if W3.m.lost=true then 0 else er) ∧ ∃ pv pc rv cc,wx.heap[O]? = some (.cells #[.string (if W3.m.lost=true then aR else A).value,.slice pv (if W3.m.lost=true then aR else A).bP.length pc,.slice rv (if W3.m.lost=true then aR else A).reads.length cc,.bool (if W3.m.lost=true then aR else A).lost] 34 (0,0))∧Touch (aN O) wE wx∧wx.ownsRow w.heap.size 83 2 (.slice pv (if W3.m.lost=true then aR else A).bP.length pc) (if W3.m.lost=true then aR else A).bP.length (aE (if W3.m.lost=true then aR else A).bP)∧wx.ownsRow w.heap.size 3 1 (.slice rv (if W3.m.lost=true then aR else A).reads.length cc) (if W3.m.lost=true then aR else A).reads.length (aB (if W3.m.lost=true then aR else A).reads)∧(∀ g,(Value.slice pv (if W3.m.lost=true then aR else A).bP.length pc).ownBlock=some g → ¬ G3 g∧g≠R∧g≠O∧wc1.heap.size≤g) ∧ ∀ g,(Value.slice rv (if W3.m.lost=true then aR else A).reads.length cc).ownBlock=some g → ¬ G3 g∧g≠R∧g≠O∧wc1.heap.size≤g)
    case first =>
     cases hlo:W3.m.lost with
     | true =>
      go_wp2
      go_meet
      rw [hlo,if_pos rfl,if_pos rfl]
      exact ⟨rfl,none,0,none,0,eY HRO.out.1 _ _ _ _,cU _ _ _ _ _ _,zN,zN,fun g hg=>by simp [Value.ownBlock] at hg,fun g hg=>by simp [Value.ownBlock] at hg⟩
     | false =>
      go_wp2
      go_meet
      rw [hlo,if_neg (by decide),if_neg (by decide)]
      exact ⟨rfl,va,vc,vb,vd,HRO.out.1,Touch.refl _ _,HE.out.2.2.1,HE.out.2.2.2,HEO.out.1,HEO.out.2⟩
    case rest =>
    obtain ⟨rfl,pv,pc,rv,cc,hO,tO,o1,o2,n1,n2⟩:=hcut
    obtain ⟨A2,hA2⟩ : ∃ A2,A2=(if W3.m.lost=true then aR else A):=⟨_,rfl⟩
    obtain ⟨e2,he2⟩ : ∃ e2,e2=(if W3.m.lost=true then 0 else er):=⟨_,rfl⟩
    rw [← hA2] at hO o1 o2 n1 n2
    rw [← he2]
    have HAE:=zH (show KH W x hm=(W3.cj x.mask,A2.Hv,e2) from by rw [HDP.out,HDR.out,JU,JW,hA2,he2])
    clear hA2 he2
    have hpO:p≠O:=fun e=>HEN.out.2.2.1 (e ▸ (HW4.out.2.2.2 p).2 (.inr rfl))
    have HG:=zH (zA (show jD wc p c4 _ _ _ z4 from tO.at HW4.out.1 (fun h=>hpO h)) (zA (show Sys X wc s4 k4 c4 b4 W3.m W3.q W3.S H4 from HW4.out.2.1.plain tO (fun hm=>HEN.out.2.2.1 ((HW4.out.2.2.2 O).2 (.inl hm))) (jN HRO.out.1)) (zA (show fS wc pa x ba bc ra rc from tO.at HRO.out.2.2 (fun h=>HEN.out.2.2.2.2 h)) (show wc.heap[R]? = some ZA from tO.at HRO.out.2.1 (fun h=>HEN.out.2.2.2.1 h)))))
    have HOO:=zH (zA hO (zA tO (zA o1 (zA o2 (zA n1 n2)))))
    have HS4:=zH (fun w' (F:Nat→Prop) (t:Touch F wc w') n1 n2=>Md.of HG.out.1 HG.out.2.2.1 t n1 n2)
    have HNP4:=zH (show ¬ bS s4 H4 p ∧ ¬ bS s4 H4 pa from ⟨HW4.out.2.2.1,fun h=>HEN.out.2.1 ((HW4.out.2.2.2 pa).2 (.inl h))⟩)
    have HLO:=zH (fun w' (hb:Below wc.heap.size wc w')=>Ku s4 k4 c4 b4 W3.m W3.q W3.S H4 x.mask w' (HG.out.2.1.aj hb) HOK.out.1 (Nat.le_trans HFN.out.mask (by decide)))
    obtain ⟨wG,hwG⟩ : ∃ wG,wG=wc:=⟨_,rfl⟩
    subst hwG
    clear hO tO o1 o2 n1 n2 HLS e5 e0 z0 z1 z2 z3 zf y0 y1 y2 y3 yf p1
    go_upto_region 13 with fail
    refine wp_region_noPanic ?_
    refine wp_region_held_drew (S:=(Md k4 c4 p pa x ba bc)) (by kernel_rfl) (by (try dsimp only);exact HS4.out _ (fun _=>False) (Touch.ah (au zR)) id id) fun hHeld => ?_
    refine tk 0 ?_
    refine tk 1 ?_
    refine tk 2 ?_
    refine tk 3 ?_
    refine tk 4 ?_
    refine tk 5 ?_
    refine tr 6 fun K hK => ?_
    go_simp
    go_at_call 34
    refine (HLO.out _ (au zR)).mono ?_
    rintro e wF ⟨rfl,H5,hs5,st5⟩
    have hr4:=zH (zA hs5 ((Step.ah (F:=bS s4 H4) (au (Below.refl wG.heap.size wG))).trans st5.ln))
    clear hs5 st5
    go_wp2_with fail
    refine hK.out _ _ (by (try dsimp only);exact HS4.out _ _ hr4.out.2.aH HNP4.out.1 HNP4.out.2) fun hHeld => ?_
    clear hK K
    try simp only [Act.put,zS,zT,zU]
    refine wpAnyH_done (by kernel_rfl) ?_ _
    refine NoPanic.normal ?_
    have hp5 : ¬ H5 p:=fun h=>by
     have h8:=aO HG.out.1
     rcases hr4.out.2.gP p (.inl h) with h | h
     ·
      exact HNP4.out.1 h
     ·
      omega
    have HBG:=zH (Fi p s4 k4 c4 b4 _ W3.q W3.S H5 z4 wF hr4.out.1 (hr4.out.2.aH.at HG.out.1 HNP4.out.1) hp5 rfl)
    go_upto_region 15 with (go_at_call 35;refine HBG.out.mono ?_;rintro e wH ⟨rfl,s5,k5,b5,H6,z5,hrow,hs5,np5,tp5,ft5⟩)
    have hpO:p≠O:=fun e=>HEN.out.2.2.1 (e ▸ (HW4.out.2.2.2 p).2 (.inr rfl))
    have kO:wH.heap[O]? = some (.cells #[.string A2.value,.slice pv A2.bP.length pc,.slice rv A2.reads.length cc,.bool A2.lost] 34 (0,0)):=tp5.at (hr4.out.2.aH.at HOO.out.1 (fun h=>HEN.out.2.2.1 ((HW4.out.2.2.2 O).2 (.inl h)))) (fun h=>hpO (show O=p from h).symm)
    have kR:wH.heap[R]? = some ZA:=tp5.at (hr4.out.2.aH.at HG.out.2.2.2 (fun h=>HEN.out.1 ((HW4.out.2.2.2 R).2 (.inl h)))) (fun h=>HEN.out.1 (by rw [show R=p from h];exact (HW4.out.2.2.2 p).2 (.inr rfl)))
    have kO2:=az (i:=3) (v:=Value.bool true) kO
    have kR2:(wH.setCell ⟨O,3,none⟩ (.bool true)).heap[R]? = some ZA:=((Touch.refl (aN O) wH).set O 3 (.bool true) rfl).at kR (fun h=>HEN.out.2.2.2.1 h)
    obtain ⟨z0,z1,z2,z3,zf⟩:=cC kO
    obtain ⟨x0,x1,x2,x3,xf⟩:=cC (show (wH.setCell ⟨O,3,none⟩ (.bool true)).heap[O]? = some (.cells #[.string A2.value,.slice pv A2.bP.length pc,.slice rv A2.reads.length cc,.bool true] 34 (0,0)) from kO2)
    obtain ⟨y0,y1,y2,y3,yf⟩:=cC (show (wH.setCell ⟨O,3,none⟩ (.bool true)).heap[R]? = some (.cells #[.string ⟨#[]⟩,.slice none 0 0,.slice none 0 0,.bool false] 34 (0,0)) from kR2)
    obtain ⟨q0,q1,q2,q3,qf⟩:=cC (eY kR2 (.string A2.value) (.slice pv A2.bP.length pc) (.slice rv A2.reads.length cc) (.bool true))
    have HFIN:=zH (fun x1 x2 x3 x4=>JT (mask:=x.mask) HE.out.2.1 HOG.out HRG.out HW4.out.2.2.2 HEN.out.1 HEN.out.2.2.1 HEN.out.2.2.2.1 HOO.out.2.1 HOO.out.1 HG.out.2.2.2 HOO.out.2.2.1 HOO.out.2.2.2.1 HOO.out.2.2.2.2.1 HOO.out.2.2.2.2.2 (aO HG.out.1) hr4.out.2 hrow hs5 np5 tp5 ft5 e2 x1 x2 x3 x4)
    go_wp2
    refine bodyPost_ret (v:=.tuple #[.agg #[.string A2.value,.slice pv A2.bP.length pc,.slice rv A2.reads.length cc,.bool true],.int .i64 e2]) ?_ rfl ?_
    ·
     change (results _ _).run _ (mi _ _ _ _ _ _)=_
     simp [results,results11,go_sem,q0,q1,q2,q3]
     rfl
    ·
     refine ⟨hm,?_⟩
     rw [HAE.out]
     exact HFIN.out _ _ _ _
end
def oW (c:Int×fJ) (x img:ByteArray) (S:aA) (reads:List Int):ByteArray×aA×List Int×Int :=
 if c.1=2202 then (x,S,[],2303) else if c.1≠0 then (x,S,[],2304) else if cH reads=true then (hZ x c.2,⟨true,c.2.av,iL S c.2⟩,reads.map (j7 img),0) else (x,S,[],1800)
def jn (x img:ByteArray) (S:aA) (r:aX) (reads:List Int):ByteArray×aA×List Int×Int:=oW (cA S.view S.av r) x img S reads
def mP (x:ByteArray) (S:aA) (r:aX) (y:ByteArray):Prop:=y=x∨((cA S.view S.av r).1=0∧vY x (cA S.view S.av r).2 y)
theorem tT {m:aG} {x img:ByteArray} {q:Cache} (h:Calm m x) (hx:Has x img) (g:q.Good) (hq:q.de img) {S:aA} (vk:S.view.Ok) (s0:4≤S.av) (s1:S.av<8) {r:aX} (hr:gW r) (reads:List Int):jh m (dV m q S r reads).2.2.2.2 (dV m q S r reads).1 (Calm (dV m q S r reads).1 (jn x img S r reads).1∧(dV m q S r reads).2.1.Good∧(dV m q S r reads).2.1.de img∧(dV m q S r reads).2.2=(jn x img S r reads).2) (mP x S r):=by
 have hp:(cA S.view S.av r).1=0→(cA S.view S.av r).2.Ok:=pG vk s0 s1 hr
 unfold dV jn mP
 generalize cA S.view S.av r=c at hp
 unfold vy oW
 by_cases h1:c.1=2202
 ·
  rw [if_pos h1,if_pos h1]
  exact .inl ⟨⟨h,g,hq,rfl⟩,gd.refl _⟩
 ·
  rw [if_neg h1,if_neg h1]
  by_cases h2:c.1≠0
  ·
   rw [if_pos h2,if_pos h2]
   exact .inl ⟨⟨h,g,hq,rfl⟩,gd.refl _⟩
  ·
   rw [if_neg h2,if_neg h2]
   by_cases h3:cH reads=true
   ·
    rw [if_pos h3,if_pos h3]
    have hw:=B2 h hx g hq (hp (by omega)) h3
    generalize dX m q c.2 reads=t at hw
    unfold rj
    rcases hw with ⟨k0,⟨k1,k2,k3,k4⟩,k5⟩ | ⟨k0,k1,k2⟩
    ·
     rw [if_neg (by rw [k0];decide)]
     exact .inl ⟨⟨k1,k2,k3,by rw [k4]⟩,k5⟩
    ·
     rw [if_pos (by rw [k0];decide)]
     exact .inr ⟨k0,k1.mono fun y hy=>.inr ⟨by omega,hy⟩,k2⟩
   ·
    rw [if_neg h3,if_neg h3]
    exact .inl ⟨⟨h,g,hq,rfl⟩,gd.refl _⟩
def kF (x img:ByteArray) (S:aA) (key value:ByteArray) (reads:List Int):ByteArray×aA×List Int×Int :=
 if cQ S key≠0 then (x,S,[],cQ S key) else if 20<value.size then (x,S,[],2301) else jn x img S ⟨1,0,key,value⟩ reads
def wR (x img:ByteArray) (S:aA) (key:ByteArray) (reads:List Int):ByteArray×aA×List Int×Int :=
 if cQ S key≠0 then (x,S,[],cQ S key) else jn x img S ⟨2,0,key,⟨#[]⟩⟩ reads
def Fz (x:ByteArray) (S:aA) (key value y:ByteArray):Prop:=y=x∨(cQ S key=0∧value.size≤20∧mP x S ⟨1,0,key,value⟩ y)
def Fy (x:ByteArray) (S:aA) (key y:ByteArray):Prop:=y=x∨(cQ S key=0∧mP x S ⟨2,0,key,⟨#[]⟩⟩ y)
theorem Jm {m:aG} {x img:ByteArray} {q:Cache} (h:Calm m x) (hx:Has x img) (g:q.Good) (hq:q.de img) {S:aA} (fit:S.Fit) (key value:ByteArray) (reads:List Int):jh m (jg m q S key value reads).2.2.2.2 (jg m q S key value reads).1 (Calm (jg m q S key value reads).1 (kF x img S key value reads).1∧(jg m q S key value reads).2.1.Good∧(jg m q S key value reads).2.1.de img∧(jg m q S key value reads).2.2=(kF x img S key value reads).2) (Fz x S key value):=by
 unfold jg kF
 by_cases h1:cQ S key≠0
 ·
  rw [if_pos h1,if_pos h1]
  exact .inl ⟨⟨h,g,hq,rfl⟩,gd.refl _⟩
 ·
  rw [if_neg h1,if_neg h1]
  obtain ⟨o1,o2,o3⟩:=ic (by omega:cQ S key=0)
  obtain ⟨f1,f2,f3⟩:=j6 fit o1
  by_cases h2:20<value.size
  ·
   rw [if_pos h2,if_pos h2]
   exact .inl ⟨⟨h,g,hq,rfl⟩,gd.refl _⟩
  ·
   rw [if_neg h2,if_neg h2]
   exact (tT h hx g hq f3 f1 f2 (qM o2 o3 (by omega)) reads).mono id fun y hy=>.inr ⟨by omega,by omega,hy⟩
theorem Jl {m:aG} {x img:ByteArray} {q:Cache} (h:Calm m x) (hx:Has x img) (g:q.Good) (hq:q.de img) {S:aA} (fit:S.Fit) (key:ByteArray) (reads:List Int):jh m (je m q S key reads).2.2.2.2 (je m q S key reads).1 (Calm (je m q S key reads).1 (wR x img S key reads).1∧(je m q S key reads).2.1.Good∧(je m q S key reads).2.1.de img∧(je m q S key reads).2.2=(wR x img S key reads).2) (Fy x S key):=by
 unfold je wR
 by_cases h1:cQ S key≠0
 ·
  rw [if_pos h1,if_pos h1]
  exact .inl ⟨⟨h,g,hq,rfl⟩,gd.refl _⟩
 ·
  rw [if_neg h1,if_neg h1]
  obtain ⟨o1,o2,o3⟩:=ic (by omega:cQ S key=0)
  obtain ⟨f1,f2,f3⟩:=j6 fit o1
  exact (tT h hx g hq f3 f1 f2 (wS o2 o3) reads).mono id fun y hy=>.inr ⟨by omega,hy⟩
def mu (r:ByteArray×aA×List Int×Int):ByteArray×aA×ey×Int:=(r.1,r.2.1,⟨⟨#[]⟩,[],outs r.2.2.2 r.2.2.1,false⟩,r.2.2.2)
def KU (img:ByteArray) (at_ width:Int):List Int×Int:=if fM at_ width=true then ([oA img at_ width.toNat 0 0],0) else ([],1300)
def mz (x img:ByteArray) (S:aA) (a:cG):ByteArray×aA×ey×Int :=
 if a.kind=0 then mu (iM x img a.reads)
 else if a.kind=1 then (x,(xr x).1,⟨⟨#[]⟩,[],[],false⟩,(xr x).2)
 else if a.kind=2 then mu (kF x img S a.key a.value a.reads)
 else if a.kind=3 then (x,S,⟨(xe S a.key).1,[],[],false⟩,(xe S a.key).2)
 else if a.kind=4 then mu (wR x img S a.key a.reads)
 else if a.kind=5 then (x,S,⟨⟨#[]⟩,(lN S).1,[],false⟩,(lN S).2)
 else if a.kind=6 then (x,S,⟨⟨#[]⟩,[],(KU img a.at_ a.width).1,false⟩,(KU img a.at_ a.width).2)
 else (x,S,⟨⟨#[]⟩,[],[],false⟩,0)
theorem IA (r:aG×Cache×aA×List Int×Int) (t:ByteArray×aA×List Int×Int) (h:r.2.2=t.2):r.2.2.1=(mu t).2.1∧((⟨⟨#[]⟩,[],outs r.2.2.2.2 r.2.2.2.1,false⟩,r.2.2.2.2):ey×Int)=(mu t).2.2:=by
 obtain ⟨r1,r2,r3⟩:=r
 obtain ⟨t1,t2⟩:=t
 simp only at h
 subst h
 exact ⟨rfl,rfl⟩
def Fx (x:ByteArray) (S:aA) (a:cG) (y:ByteArray):Prop:=y=x∨(a.kind=0∧FormatPart x y)∨(a.kind=2∧Fz x S a.key a.value y)∨(a.kind=4∧Fy x S a.key y)
theorem yg {W:fT} {img:ByteArray} {r:aG×Cache×aA×List Int×Int} {t:ByteArray×aA×List Int×Int} {P:ByteArray→Prop} (h:jh W.m r.2.2.2.2 r.1 (Calm r.1 t.1∧r.2.1.Good∧r.2.1.de img∧r.2.2=t.2) P) {o:fT×ey×Int} (e:o=(⟨r.1,r.2.1,r.2.2.1⟩,⟨⟨#[]⟩,[],outs r.2.2.2.2 r.2.2.2.1,false⟩,r.2.2.2.2)) {z:ByteArray×aA×ey×Int} (ez:z=mu t):jh W.m o.2.2 o.1.m (Calm o.1.m z.1∧o.1.q.Good∧o.1.q.de img∧o.1.S=z.2.1∧o.2=z.2.2) P:=by
 subst e ez
 exact h.mono (fun ⟨h1,h2,h3,h4⟩=>⟨h1,h2,h3,IA r t h4⟩) fun y hy=>hy
theorem Jk {W:fT} {x img:ByteArray} (h:Calm W.m x) (hx:Has x img) (g:W.q.Good) (hq:W.q.de img) (fit:W.S.Fit) (a:cG):jh W.m (lH W a).2.2 (lH W a).1.m (Calm (lH W a).1.m (mz x img W.S a).1∧(lH W a).1.q.Good∧(lH W a).1.q.de img∧(lH W a).1.S=(mz x img W.S a).2.1∧(lH W a).2=(mz x img W.S a).2.2) (Fx x W.S a):=by
 by_cases k0:a.kind=0
 ·
  exact (yg (B1 h hx g hq a.reads) (by unfold lH;rw [if_pos k0]) (by unfold mz;rw [if_pos k0])).mono id fun y hy=>.inr (.inl ⟨k0,hy⟩)
 by_cases k2:a.kind=2
 ·
  exact (yg (Jm h hx g hq fit a.key a.value a.reads) (by unfold lH;rw [if_neg k0,if_neg (by omega),if_pos k2]) (by unfold mz;rw [if_neg k0,if_neg (by omega),if_pos k2])).mono id fun y hy=>.inr (.inr (.inl ⟨k2,hy⟩))
 by_cases k4:a.kind=4
 ·
  exact (yg (Jl h hx g hq fit a.key a.reads) (by unfold lH;rw [if_neg k0,if_neg (by omega),if_neg k2,if_neg (by omega),if_pos k4]) (by unfold mz;rw [if_neg k0,if_neg (by omega),if_neg k2,if_neg (by omega),if_pos k4])).mono id fun y hy=>.inr (.inr (.inr ⟨k4,hy⟩))
 unfold lH mz
 rw [if_neg k0,if_neg k0]
 by_cases k1:a.kind=1
 ·
  rw [if_pos k1,if_pos k1]
  have hm:=D9 h
  generalize gv W.m=r at hm
  generalize xr x=t at hm
  refine hm.mono ?_ fun y hy=>.inl hy
  rintro ⟨h1,h2⟩
  obtain ⟨r1,r2⟩:=r
  simp only at h2
  subst h2
  exact ⟨h1,g,hq,rfl,rfl⟩
 rw [if_neg k1,if_neg k1,if_neg k2,if_neg k2]
 by_cases k3:a.kind=3
 ·
  rw [if_pos k3,if_pos k3]
  exact .inl ⟨⟨h,g,hq,rfl,rfl⟩,gd.refl _⟩
 rw [if_neg k3,if_neg k3,if_neg k4,if_neg k4]
 by_cases k5:a.kind=5
 ·
  rw [if_pos k5,if_pos k5]
  exact .inl ⟨⟨h,g,hq,rfl,rfl⟩,gd.refl _⟩
 rw [if_neg k5,if_neg k5]
 by_cases k6:a.kind=6
 ·
  rw [if_pos k6,if_pos k6]
  by_cases hr:fM a.at_ a.width=true
  ·
   rw [show KU img a.at_ a.width=([oA img a.at_ a.width.toNat 0 0],0) from if_pos hr]
   have hm:=GP h hx g hq hr
   generalize bI W.m W.q a.at_ a.width=r at hm
   generalize oA img a.at_ a.width.toNat 0 0=t at hm
   refine jh.mono (eU.act hm) ?_ fun y hy=>.inl hy
   rintro ⟨h0,h1,h2,h3,h4⟩
   obtain ⟨r1,r2,r3,r4⟩:=r
   simp only at h0 h4
   subst h0 h4
   exact ⟨h1,h2,h3,rfl,rfl⟩
  ·
   rw [show KU img a.at_ a.width=([],1300) from if_neg hr,show bI W.m W.q a.at_ a.width=(W.m,W.q,0,1300) from if_neg hr]
   exact .inl ⟨⟨h,g,hq,rfl,rfl⟩,gd.refl _⟩
 rw [if_neg k6,if_neg k6]
 exact .inl ⟨⟨h,g,hq,rfl,rfl⟩,gd.refl _⟩
end Go.Proofs.YtcfdenckiigdaaaGreat

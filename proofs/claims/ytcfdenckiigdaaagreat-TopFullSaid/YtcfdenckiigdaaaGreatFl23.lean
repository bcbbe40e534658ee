/- Part 23 of the contracts. -/
import Derived.Deep.Onto
import Derived.Test.YtcfdenckiigdaaaGreatFl22
set_option linter.unusedSimpArgs false
set_option linter.unusedVariables false
set_option maxRecDepth 100000
set_option maxHeartbeats 4000000
namespace Go.Proofs.YtcfdenckiigdaaaGreat
open Tryz
section
open Go.RowKit
theorem tL : ∀ (n:Nat) (m:aG) (q:Cache) (left out:List Int),m.Ok→q.Good→(∀ x ∈ left,0≤x∧x<4096)→(cM n m q left out).1.Ok∧(cM n m q left out).2.1.Good∧bG m (cM n m q left out).1∧(∀ x ∈ (cM n m q left out).2.2.1,0≤x∧x<4096)∧(cM n m q left out).2.2.2.1.length+(cM n m q left out).2.2.1.length=out.length+left.length
 | 0,m,q,left,out,ok,g,h=>⟨ok,g,bG.refl m,h,rfl⟩
 | n+1,m,q,left,out,ok,g,h=>by
  have o1:=mD ok
  have h1:=kY m
  unfold cM
  split
  ·
   exact ⟨o1,g,h1,h,rfl⟩
  split
  ·
   exact ⟨o1,g,h1,h,rfl⟩
  cases left with
  | nil =>
   obtain ⟨a1,a2,a3,a4,a5⟩:=tL n m.dp.1 q [] out o1 g h
   exact ⟨a1,a2,h1.trans a3,a4,a5⟩
  | cons x l =>
   have hx:=h x (by simp)
   obtain ⟨s1,s2,s3⟩:=Dn o1 g x l out hx.1
   obtain ⟨l1,l2⟩:=Aj m.dp.1 q x l out
   have hl : ∀ y ∈ (eg m.dp.1 q x l out).2.2.1,0≤y∧y<4096:=fun y hy=>by
    rcases l1 with e | e
    ·
     rw [e] at hy;exact h y (by simp [hy])
    ·
     rw [e] at hy;exact h y hy
   dsimp only
   split
   ·
    exact ⟨s1,s2,h1.trans s3,hl,by simp;omega⟩
   ·
    obtain ⟨a1,a2,a3,a4,a5⟩:=tL n _ _ _ (eg m.dp.1 q x l out).2.2.2.1 s1 s2 hl
    exact ⟨a1,a2,h1.trans (s3.trans a3),a4,by simp at a5 ⊢;omega⟩
theorem DF {m:aG} (ok:m.Ok) (p:Int) (p0:0≤p) (p1:p<4096) (reads:List Int) (h : ∀ x ∈ reads,0≤x∧x<4096):(dr m p reads).1.Ok∧(dr m p reads).2.1.Good∧bG m (dr m p reads).1∧(∀ x ∈ (dr m p reads).2.2.1,0≤x∧x<4096)∧(dr m p reads).2.2.2.1.length+(dr m p reads).2.2.1.length=reads.length:=by
 have o1:=ew ok 6 0 [] 0 A7
 have h1:=cQ m 6 0 [] 0
 have o2:=ew o1 32 p [] 0 (J0 p p0 p1)
 have h2:=h1.trans (cQ (m.run 6 0 [] 0).1 32 p [] 0)
 unfold dr
 split
 ·
  exact ⟨o1,Cache.mH,h1,h,by simp⟩
 split
 ·
  exact ⟨o2,Cache.mH,h2,h,by simp⟩
 ·
  obtain ⟨a1,a2,a3,a4,a5⟩:=tL 256 _ Cache.new reads [] o2 Cache.mH h
  exact ⟨a1,a2,h2.trans a3,a4,by simpa using a5⟩
def gS (m:aG) (p:Int) (reads:List Int):aG×Cache×List Int×Int :=
 if (dr m p reads).2.2.2.2≠0 then ((dr m p reads).1,(dr m p reads).2.1,[],(dr m p reads).2.2.2.2) else dG (dr m p reads).2.2.1 (dr m p reads).2.2.2.1 (dr m p reads).1 (dr m p reads).2.1
theorem sK {m:aG} (ok:m.Ok) (p:Int) (p0:0≤p) (p1:p<4096) (reads:List Int) (h : ∀ x ∈ reads,0≤x∧x<4096):(gS m p reads).1.Ok∧(gS m p reads).2.1.Good∧bG m (gS m p reads).1:=by
 obtain ⟨a1,a2,a3,a4,a5⟩:=DF ok p p0 p1 reads h
 unfold gS
 split
 ·
  exact ⟨a1,a2,a3⟩
 ·
  obtain ⟨b1,b2,b3⟩:=sj (dr m p reads).2.2.1 (dr m p reads).2.2.2.1 _ _ a1 a2 (fun x hx=>(a4 x hx).1)
  exact ⟨b1,b2,a3.trans b3⟩
theorem jd {xs:List Int} (h:cY xs=true):xs.length≤16 ∧ ∀ x ∈ xs,0≤x∧x<2048:=by
 unfold cY at h
 simp only [Bool.and_eq_true,decide_eq_true_eq,List.all_eq_true] at h
 exact ⟨h.1,fun x hx=>by have:=h.2 x hx;unfold nB at this;simpa using this⟩
def jD (w:World) (x y k b:Nat) (p:Int):World :=
 ((((((w.alloc (.cells #[.pointer (some ⟨k,0,none⟩)] 85)).alloc (.cells #[.int .i64 6] 3)).alloc (.cells #[.int .i64 0] 3)).alloc (.cells #[.pointer (some ⟨k,0,none⟩)] 85)).alloc (.cells #[.int .i64 32] 3)).alloc (.cells #[.int .i64 p] 3)).alloc (.cells #[.func (.func 129) #[.pointer (some ⟨b,0,none⟩)] #[],.func (.func 169) #[] #[.pointer (some ⟨w.heap.size,0,none⟩),.pointer (some ⟨w.heap.size+1,0,none⟩),.pointer (some ⟨w.heap.size+2,0,none⟩)],.func (.func 169) #[] #[.pointer (some ⟨w.heap.size+3,0,none⟩),.pointer (some ⟨w.heap.size+4,0,none⟩),.pointer (some ⟨w.heap.size+5,0,none⟩)],.func (.func 126) #[] #[.pointer (some ⟨y,0,none⟩),.pointer (some ⟨x,0,none⟩)]] 144)
theorem Fh (w:World) (x y k b:Nat) (p:Int):(jD w x y k b p).heap.size=w.heap.size+7:=by
 show (((((((w.heap.push _).push _).push _).push _).push _).push _).push _).size=_
 simp
theorem uS (w:World) (x y k b:Nat) (p:Int):Below w.heap.size w (jD w x y k b p):=ae (ae (ae (ae (ae (ae (ae zR _) _) _) _) _) _) _
theorem LL (w:World) (x y sv k b:Nat) (p:Int) (hx:w.cell? ⟨x,0,none⟩=some (.pointer (some ⟨k,0,none⟩))) (hy:w.cell? ⟨y,0,none⟩=some (.pointer (some ⟨sv,0,none⟩))):tR (jD w x y k b p) w.heap.size x y sv k b p:=by
 have hb:=uS w x y k b p
 obtain ⟨h0,h1,h2,h3,h4,h5,h6⟩:=LV w.heap (.cells #[.pointer (some ⟨k,0,none⟩)] 85) (.cells #[.int .i64 6] 3) (.cells #[.int .i64 0] 3) (.cells #[.pointer (some ⟨k,0,none⟩)] 85) (.cells #[.int .i64 32] 3) (.cells #[.int .i64 p] 3) (.cells #[.func (.func 129) #[.pointer (some ⟨b,0,none⟩)] #[],.func (.func 169) #[] #[.pointer (some ⟨w.heap.size,0,none⟩),.pointer (some ⟨w.heap.size+1,0,none⟩),.pointer (some ⟨w.heap.size+2,0,none⟩)],.func (.func 169) #[] #[.pointer (some ⟨w.heap.size+3,0,none⟩),.pointer (some ⟨w.heap.size+4,0,none⟩),.pointer (some ⟨w.heap.size+5,0,none⟩)],.func (.func 126) #[] #[.pointer (some ⟨y,0,none⟩),.pointer (some ⟨x,0,none⟩)]] 144)
 exact ⟨(hb.cell (p:=⟨x,0,none⟩) (zL w _ hx)).trans hx,(hb.cell (p:=⟨y,0,none⟩) (zL w _ hy)).trans hy,cell_of (show (jD w x y k b p).heap[w.heap.size]? = _ from h0) 0,cell_of (show (jD w x y k b p).heap[w.heap.size+1]? = _ from h1) 0,cell_of (show (jD w x y k b p).heap[w.heap.size+2]? = _ from h2) 0,cell_of (show (jD w x y k b p).heap[w.heap.size+3]? = _ from h3) 0,cell_of (show (jD w x y k b p).heap[w.heap.size+4]? = _ from h4) 0,cell_of (show (jD w x y k b p).heap[w.heap.size+5]? = _ from h5) 0,cell_of (show (jD w x y k b p).heap[w.heap.size+6]? = _ from h6) 0,cell_of (show (jD w x y k b p).heap[w.heap.size+6]? = _ from h6) 1,cell_of (show (jD w x y k b p).heap[w.heap.size+6]? = _ from h6) 2,cell_of (show (jD w x y k b p).heap[w.heap.size+6]? = _ from h6) 3⟩
theorem AZ {w:World} {B N n:Nat} {t:TypeId} {v:Value} {xs:List Value} (h:w.ownsRow N t 1 v n xs) (hB:B≤N):w.ownsRow B t 1 v n xs:=by
 refine ⟨h.1,?_⟩
 rcases h.2 with h2 | ⟨g,cap,cur,e,hb,r⟩
 ·
  exact .inl h2
 ·
  exact .inr ⟨g,cap,cur,e,Nat.le_trans hB hb,r⟩
theorem Fi (k c b cap:Nat) (m:aG) (q:Cache) (sec:Int) (a:Option Addr) (reads:List Int) (H:Nat→Prop) (w:World) (h:fD (fun _=>False) w k c b m q H) (ok:m.Ok) (hi:aN w a reads H) (hcap:reads.length≤cap) (hh:0<m.ar.busy.length→m.ar.home<w.heap.size) (hr:cY reads=true) (s0:4≤sec) (s1:sec<8):Calls prog 90 #[.pointer (some ⟨k,0,none⟩),.pointer (some ⟨b,0,none⟩),.int .i64 sec,.slice a reads.length cap] w (vL k c b (gS m (sec * 512) reads).1 (gS m (sec * 512) reads).2.1 (gS m (sec * 512) reads).2.2.1 (gS m (sec * 512) reads).2.2.2 H w):=by
 have hrl:=jd hr
 have HRD:=zH (fun w1 hw=>pd a cap reads w1 hw (by omega))
 rw [hr] at HRD
 have H0:=zH (zA h (zA ok (zA hi (zA hh hrl))))
 clear h ok hi hh hr
 go_enter func90,ntmps90
 go_upto_region 9 with ((go_at_call 125;refine (HRD.out _ (H0.out.2.2.1.1.aj (ae zR _))).mono ?_;rintro e w1 ⟨rfl,nq,rfl⟩))
 have hbB:Below w.heap.size w ((w.alloc (.cells #[.pointer (some ⟨k,0,none⟩)] 85)).drewN nq):=aY (ae zR _) nq
 have hsB:((w.alloc (.cells #[.pointer (some ⟨k,0,none⟩)] 85)).drewN nq).heap.size=w.heap.size+1:=by show (w.heap.push _).size=_;simp
 have hxB:((w.alloc (.cells #[.pointer (some ⟨k,0,none⟩)] 85)).drewN nq).cell? ⟨w.heap.size,0,none⟩=some (.pointer (some ⟨k,0,none⟩)):=cell_of (show _=_ from af w (.cells #[.pointer (some ⟨k,0,none⟩)] 85)) 0
 generalize (w.alloc (.cells #[.pointer (some ⟨k,0,none⟩)] 85)).drewN nq=wB at *
 have hS1:=De (H0.out.1.aj hbB) (H0.out.2.2.1.step (Step.ah hbB)) hcap (fun hl=>by have:=H0.out.2.2.2.1 hl;have:=hbB.size;omega)
 have hb1:Below wB.heap.size wB (wB.alloc (.cells #[.pointer (some ⟨b,0,none⟩),.slice a reads.length cap,.slice none 0 0] 222)):=ae zR _
 have hs1:(wB.alloc (.cells #[.pointer (some ⟨b,0,none⟩),.slice a reads.length cap,.slice none 0 0] 222)).heap.size=w.heap.size+2:=by simp [hsB]
 have hv1:(wB.alloc (.cells #[.pointer (some ⟨b,0,none⟩),.slice a reads.length cap,.slice none 0 0] 222)).heap[w.heap.size+1]? = some (.cells #[.pointer (some ⟨b,0,none⟩),.slice a reads.length cap,.slice none 0 0] 222):=by rw [← hsB];exact af wB _
 generalize wB.alloc (.cells #[.pointer (some ⟨b,0,none⟩),.slice a reads.length cap,.slice none 0 0] 222)=w1 at *
 have hb2:Below w1.heap.size w1 (w1.alloc (.cells #[.pointer (some ⟨w.heap.size+1,0,none⟩)] 220)):=ae zR _
 have hS2:=hS1.aj hb2
 have hy2:(w1.alloc (.cells #[.pointer (some ⟨w.heap.size+1,0,none⟩)] 220)).cell? ⟨w.heap.size+2,0,none⟩=some (.pointer (some ⟨w.heap.size+1,0,none⟩)):=by rw [← hs1];exact cell_of (af w1 _) 0
 have hb3:=gtr hb1 hb2
 have hx2:=(hb3.cell (p:=⟨w.heap.size,0,none⟩) (zL wB _ hxB)).trans hxB
 have hs2:(w1.alloc (.cells #[.pointer (some ⟨w.heap.size+1,0,none⟩)] 220)).heap.size=w.heap.size+3:=by simp [hs1]
 generalize w1.alloc (.cells #[.pointer (some ⟨w.heap.size+1,0,none⟩)] 220)=wA at *
 rw [hsB] at hS2
 have hHlt : ∀ i,H i→i<w.heap.size:=fun i hi=>by
  obtain ⟨G,hc,⟨_,_,_,_,hw⟩,hH,_⟩:=H0.out.1.ex
  rcases (hH i).1 hi with hg | hg
  ·
   exact hc.lt i hg
  ·
   rw [hg];exact (Array.getElem?_eq_some_iff.1 hw.raw).1
 have hXb:=uS wA.drew w.heap.size (w.heap.size+2) k b (sec * 512)
 have hXs:=Fh wA.drew w.heap.size (w.heap.size+2) k b (sec * 512)
 have hdr:wA.drew.heap.size=w.heap.size+3:=hs2
 have hSX:dw (jD wA.drew w.heap.size (w.heap.size+2) k b (sec * 512)) (w.heap.size+1) (w.heap.size+1) k c b m q reads [] H:=(hS2.aj (au zR)).aj hXb
 have HSX:=zH hSX
 have HF4:=zH (yb (w.heap.size+1) (w.heap.size+1) k c b wA.drew.heap.size w.heap.size (w.heap.size+2) m q (sec * 512) reads H _ hSX H0.out.2.1 (fun x hx=>by have:=hrl.2 x hx;omega) hrl.1 (by omega) (by omega) (LL wA.drew w.heap.size (w.heap.size+2) (w.heap.size+1) k b (sec * 512) hx2 hy2) ⟨by omega,by omega,by omega,fun i hi hh=>by have:=hHlt i hh;omega⟩ (by omega))
 have hvX:=cell_of (aa hXb (show wA.drew.heap[w.heap.size+1]? = _ from aa (au hb2) hv1)) 2
 have hno : ∀ i,(i=w.heap.size∨i=w.heap.size+2) → ¬ Ab (jD wA.drew w.heap.size (w.heap.size+2) k b (sec * 512)) (w.heap.size+1) H i:=fun i hi hy=>by
  rcases hy with hy | hy | ⟨v',hv,hv2⟩
  ·
   have:=hHlt i hy;omega
  ·
   omega
  ·
   rw [hvX] at hv
   obtain rfl:v'=.slice none 0 0:=by simpa using hv.symm
   simp [Value.ownBlock] at hv2
 have HNO:=zH hno
 have hXx:=(hXb.cell (p:=⟨w.heap.size,0,none⟩) (zL wA.drew _ hx2)).trans hx2
 have hXy:=(hXb.cell (p:=⟨w.heap.size+2,0,none⟩) (zL wA.drew _ hy2)).trans hy2
 have HXC:=zH (zA hXx hXy)
 have HKf:=zH (fun (v:World) (hv:Below wA.heap.size wA v)=>(show v.cell? ⟨w.heap.size,0,none⟩=some (.pointer (some ⟨k,0,none⟩)) from (hv.cell (p:=⟨w.heap.size,0,none⟩) (zL wA _ hx2)).trans hx2))
 have hmul:IntKind.i64.wrap (sec * 512)=sec * 512:=du (by omega) (by omega)
 have HBB:=zH (zA hbB (zA (gtr hb3 (au zR)) (zA hXb (zA hsB (zA hXs hdr)))))
 have HWO:=zH (DF H0.out.2.1 (sec * 512) (by omega) (by omega) reads (fun x hx=>by have:=hrl.2 x hx;omega))
 have HV:=zH (show gS m (sec * 512) reads=if (dr m (sec * 512) reads).2.2.2.2≠0 then ((dr m (sec * 512) reads).1,(dr m (sec * 512) reads).2.1,[],(dr m (sec * 512) reads).2.2.2.2) else dG (dr m (sec * 512) reads).2.2.1 (dr m (sec * 512) reads).2.2.2.1 (dr m (sec * 512) reads).1 (dr m (sec * 512) reads).2.1 from rfl)
 generalize gS m (sec * 512) reads=rr at *
 generalize hWW:dr m (sec * 512) reads=W at *
 have p1:(w.heap.size+1+1:Nat)=w.heap.size+2:=rfl
 clear hdr hno hvX hv1 hSX hS2 hb3 hb2 hs1 hs2 hx2 hy2 hXx hXy hS1 hb1 hxB hsB hbB hXb hXs hHlt
 refine wp_region_noPanic ?_
 refine wp_region_held_drew (S:=(fun (v:World)=>v.cell? ⟨w.heap.size,0,none⟩=some (.pointer (some ⟨k,0,none⟩)))) (by kernel_rfl) (by (try dsimp only);exact HKf.out _ (au zR)) fun hHeld => ?_
 refine tk 0 ?_
 refine tk 1 ?_
 refine tk 2 ?_
 refine tk 4 ?_
 refine tk 5 ?_
 refine tk 6 ?_
 refine tk 8 ?_
 refine tr 3 fun K hK => ?_
 go_simp
 refine (qM k _ _ _).mono ?_
 rintro e wq ⟨rfl,rfl⟩
 go_wp2_with fail
 refine hK.out _ _ (by (try dsimp only);exact HKf.out _ (au (ae (ae (ae zR _) _) _))) fun hHeld => ?_
 clear hK K
 try simp only [Act.put,zS,zT,zU]
 refine tr 7 fun K hK => ?_
 go_simp
 refine (qM k _ _ _).mono ?_
 rintro e wq ⟨rfl,rfl⟩
 go_wp2_with fail
 refine hK.out _ _ (by (try dsimp only);exact HKf.out _ (au (ae (ae (ae (ae (ae (ae zR _) _) _) _) _) _))) fun hHeld => ?_
 clear hK K
 try simp only [Act.put,zS,zT,zU]
 refine tr 9 fun K hK => ?_
 go_simp
 refine hK.out _ _ (by (try dsimp only);exact HKf.out _ (au (ae (ae (ae (ae (ae (ae (ae zR _) _) _) _) _) _) _))) fun hHeld => ?_
 clear hK K
 try simp only [Act.put,zS,zT,zU]
 refine tr 10 fun K hK => ?_
 go_simp
 refine HF4.out.mono ?_
 rintro e w5 ⟨er,rfl,hcase⟩
 have HC:=zH (show ∃ H',dw w5 (w.heap.size+1) (w.heap.size+1) k c b W.1 W.2.1 W.2.2.1 W.2.2.2.1 H'∧cE (w.heap.size+1) (w.heap.size+1) H H' (jD wA.drew w.heap.size (w.heap.size+2) k b (sec * 512)) w5∧er=W.2.2.2.2 from (by
  rw [← hWW]
  rcases hcase with ⟨e0,e1,H',h1,h2⟩ | ⟨_,e1,H',h1,h2⟩
  ·
   exact ⟨H',h1,h2,e0.trans e1.symm⟩
  ·
   exact ⟨H',h1,h2,e1⟩))
 have hk5:w5.cell? ⟨w.heap.size,0,none⟩=some (.pointer (some ⟨k,0,none⟩)):=(by
  obtain ⟨H5,hS5,hV5,he5⟩:=HC.out
  exact hV5.2.aH.cell _ _ HXC.out.1 (HNO.out _ (.inl rfl)))
 clear hcase
 go_wp2_with fail
 refine hK.out _ _ (by (try dsimp only);exact hk5) fun hHeld => ?_
 clear hK K
 try simp only [Act.put,zS,zT,zU]
 refine tk 11 ?_
 refine wpAnyH_done (by kernel_rfl) ?_ _
 refine NoPanic.normal ?_
 obtain ⟨H5,hS5,hV5,he5⟩:=HC.out
 have hy5:w5.cell? ⟨w.heap.size+2,0,none⟩=some (.pointer (some ⟨w.heap.size+1,0,none⟩)):=hV5.2.aH.cell _ _ HXC.out.2 (HNO.out _ (.inr rfl))
 have hN0:w.heap.size+1≤(jD wA.drew w.heap.size (w.heap.size+2) k b (sec * 512)).heap.size:=by have:=HBB.out.2.2.2.2.1;have:=HBB.out.2.2.2.2.2;omega
 have hstB:Step H H5 wB w5:=by
  have e1:=HBB.out.2.2.2.1
  have hb:=HBB.out.2.1
  have hbX:Below wB.heap.size wB (jD wA.drew w.heap.size (w.heap.size+2) k b (sec * 512)):=gtr hb HBB.out.2.2.1
  exact lH.step (Step.ah hbX) (by rw [e1];exact hV5.1)
 have hst5:Step H H5 w w5:=(Step.ah HBB.out.1).trans hstB
 by_cases he:er=0
 ·
  have HRS:=zH (xA (w.heap.size+1) (w.heap.size+1) k c b W.1 W.2.1 W.2.2.1 W.2.2.2.1 H5 w5 hS5 HWO.out.1 HWO.out.2.1 HWO.out.2.2.2.1 (by have:=HWO.out.2.2.2.2;omega))
  have HRR:=zH (show rr=dG W.2.2.1 W.2.2.2.1 W.1 W.2.1 from HV.out.trans (if_neg (by rw [← he5,he];decide)))
  have HST:=zH (zA hstB hst5)
  subst he
  clear hS5 hV5 he5 hN0 hstB hst5
  go_wp2_with fail
  refine HRS.out.mono ?_
  rintro e w6 ⟨v,rfl,H6,hB6,hO6,hn6,ho6⟩
  have H6x:=zH (zA hB6 (zA hO6 (zA hn6 ho6)))
  clear hB6 hO6 hn6 ho6
  go_wp2
  go_ret2
  rw [HRR.out]
  obtain ⟨hB6,hO6,hn6,ho6⟩:=H6x.out
  have hstB6:Step H H6 wB w6:=lH.step HST.out.1 (by rw [HBB.out.2.2.2.1];exact hO6)
  exact ⟨v,rfl,H6,hB6,(Step.ah HBB.out.1).trans hstB6,hn6,fun e0=>⟨AZ (ho6 e0).1 (by omega),(ho6 e0).2⟩⟩
 ·
  have he':(er != 0)=true:=bne_iff_ne.2 he
  have HRR:=zH (show rr=(W.1,W.2.1,[],W.2.2.2.2) from HV.out.trans (if_pos (by rw [← he5];exact he)))
  have HE:=zH (zA he he5)
  have HST:=zH (zA hS5 hst5)
  clear hS5 hV5 he5 hN0 hstB hst5 he
  go_wp2
  go_ret2
  rw [HRR.out]
  obtain ⟨⟨a5,cap5,v5,hB5,hS5,hN5⟩,hst5⟩:=HST.out
  exact ⟨.slice none 0 0,by rw [HE.out.2];rfl,H5,dw.bare hB5 hS5 hN5,hst5,fun _=>rfl,fun e0=>absurd (HE.out.2.trans e0) HE.out.1⟩
end
section
open Go.RowKit
theorem Kl (k b cap:Nat) (sec:Int) (a:Option Addr) (reads:List Int) (w:World) (hi:aU w a reads) (hm:reads.length≤1000000) (hr:cY reads=false) (s0:4≤sec) (s1:sec<8):Calls prog 90 #[.pointer (some ⟨k,0,none⟩),.pointer (some ⟨b,0,none⟩),.int .i64 sec,.slice a reads.length cap] w fun e w'=>e=.returned (.tuple #[.slice none 0 0,.int .i64 1800])∧Below w.heap.size w w':=by
 have HRD:=zH (fun w1 hw=>pd a cap reads w1 hw hm)
 rw [hr] at HRD
 have H0:=zH hi
 clear hi hr
 go_enter func90,ntmps90
 go_wp2_with ((go_at_call 125;refine (HRD.out _ (H0.out.aj (ae zR _))).mono ?_;rintro e w1 ⟨rfl,nq,rfl⟩))
 go_ret2
 exact ⟨rfl,aY (ae zR _) nq⟩
theorem r8 (s:ByteArray) (w:World):Calls prog 115 #[.string s] w fun e w'=>e=.returned (.bool (decide (1≤s.size)&&decide (s.size≤6)))∧w=w':=by
 by_cases h1:1≤s.size
 ·
  have h1':(1:Int)≤(s.size:Int):=by omega
  by_cases h2:s.size≤6
  ·
   have h2':(s.size:Int)≤6:=by omega
   go_enter func115,ntmps115
   go_wp2
   go_ret
   exact ⟨by simp [h1,h2],rfl⟩
  ·
   have h2' : ¬ (s.size:Int)≤6:=by omega
   go_enter func115,ntmps115
   go_wp2
   go_ret
   exact ⟨by simp [h1,h2],rfl⟩
 ·
  have h1' : ¬ (1:Int)≤(s.size:Int):=by omega
  go_enter func115,ntmps115
  go_wp2
  go_ret
  exact ⟨by simp [h1],rfl⟩
theorem pj (n:Int) (w:World):Calls prog 114 #[.int .i64 n] w fun e w'=>e=.returned (.bool (decide (1≤n)&&decide (n≤1048576)))∧w=w':=by
 by_cases h1:1≤n
 ·
  by_cases h2:n≤1048576
  ·
   go_enter func114,ntmps114
   go_wp2
   go_ret
   exact ⟨by simp [h1,h2],rfl⟩
  ·
   go_enter func114,ntmps114
   go_wp2
   go_ret
   exact ⟨by simp [h1,h2],rfl⟩
 ·
  have h1':n<1:=by omega
  go_enter func114,ntmps114
  go_wp2
  go_ret
  exact ⟨by simp;omega,rfl⟩
end
section
open Go.RowKit
def iy (n:Nat):ByteArray:=⟨(Lib.repeatL [255] n).toArray⟩
theorem BQ (w:World):Calls prog 40 #[] w (jm (iy 4096) w):=by
 have HR:=zH (Tryz.strings_Repeat_main ⟨#[255]⟩ 4096 w (by decide) (by decide) (by decide) (by decide))
 go_enter func40,ntmps40
 go_wp2_with fail
 refine HR.out.mono ?_
 rintro e w1 ⟨rfl,hb⟩
 have HB:=zH hb
 clear hb
 go_wp2
 go_ret
 exact ⟨rfl,HB.out⟩
def dy (s:ByteArray):ByteArray:=⟨(s.data.toList++s.data.toList.map fun x => ~~~x).toArray⟩
theorem EI (s:ByteArray) (w:World) (hs:s.size≠32):Calls prog 46 #[.string s] w fun e w'=>e=.returned (.tuple #[.string ByteArray.empty,.int .i64 200])∧w=w':=by
 have h32:((s.size:Int) != 32)=true:=bne_iff_ne.2 (by omega)
 go_enter func46,ntmps46
 go_wp2
 go_ret2
 exact ⟨rfl,rfl⟩
end
section
open Go.RowKit
def dL (l:List UInt8):List Value:=l.map fun x=>.int .u8 (x.toNat:Int)
theorem AE (s:ByteArray) (cap:Nat) (h:s.size≤cap):(bytesRow s cap).size=cap:=by
 unfold bytesRow
 simp only [Array.size_append,Array.size_map,Array.size_replicate]
 have:s.data.size=s.size:=rfl
 omega
theorem D2 (s:ByteArray) (w:World) (cap:Nat) (h:s.size≤cap):Came (w.drew.alloc (.cells (bytesRow s cap) 5 ((bytesRow s cap).size,(bytesRow s cap).size+1))) 1 (some ⟨w.heap.size,0,none⟩) w.heap.size 0 s.size cap (dL s.data.toList):=by
 have hn:=af w.drew (.cells (bytesRow s cap) 5 ((bytesRow s cap).size,(bytesRow s cap).size+1))
 have hn:(w.drew.alloc (.cells (bytesRow s cap) 5 ((bytesRow s cap).size,(bytesRow s cap).size+1))).heap[w.heap.size]? = _:=hn
 refine ⟨h,fun _=>rfl,fun _=>(by show w.heap.size<(w.heap.push _).size;simp),?_,fun j u hu => ?_,fun j hj => ?_⟩
 ·
  simp only [dL,List.length_map,Array.length_toList,Nat.mul_one];rfl
 ·
  have hj:j<s.data.size:=by
   have:=(List.getElem?_eq_some_iff.1 hu).1
   simpa [dL] using this
  rw [Nat.zero_add,cell_of hn j,bytesRow_at s cap j hj]
  have h2:(dL s.data.toList)[j]? = some (.int .u8 (s.data[j].toNat:Int)):=by
   simp only [dL,List.getElem?_map,Array.getElem?_toList,Array.getElem?_eq_getElem hj,Option.map_some]
  rw [← h2];exact hu
 ·
  have hsz:=AE s cap h
  refine ⟨?_,?_⟩
  ·
   rw [cell_of hn]
   rw [Array.getElem?_eq_getElem (by omega)]
   rfl
  ·
   unfold World.frozen?
   rw [hn]
   simp
   omega
theorem Li : ∀ n:Fin 256,((~~~(UInt8.ofNat n.1)).toNat:Int)=bits .xor .u8 IntKind.u8.max (n.1:Int):=by decide
theorem JN (x:UInt8):((~~~x).toNat:Int)=bits .xor .u8 IntKind.u8.max (x.toNat:Int):=by
 have:=Li ⟨x.toNat,x.toNat_lt⟩
 simpa using this
structure sU (w wr:World) (g cap:Nat) (l:List UInt8):Prop where
 below:Below w.heap.size w wr
 lo:w.heap.size≤g
 le:l.length≤cap
 cells : ∀ j u,(dL l)[j]? = some u→wr.cell? ⟨g,0+j,none⟩=some u
 spare : ∀ j,j<cap - l.length→(wr.cell? ⟨g,0+l.length * 1+j,none⟩).isSome=true∧wr.frozen? ⟨g,0+l.length * 1+j,none⟩=false
theorem sU.start (s:ByteArray) (w:World) (cap:Nat) (h:s.size≤cap):sU w (w.drew.alloc (.cells (bytesRow s cap) 5 ((bytesRow s cap).size,(bytesRow s cap).size+1))) w.heap.size cap s.data.toList:=by
 have hc:=D2 s w cap h
 have hl:s.data.toList.length=s.size:=by rw [Array.length_toList];rfl
 exact ⟨ae (au zR) _,Nat.le_refl _,by rw [hl];exact h,hc.olds,fun j hj=>by rw [hl] at hj ⊢;exact hc.spare j (by omega)⟩
theorem sU.aj {w wr w2:World} {g cap:Nat} {l:List UInt8} (h:sU w wr g cap l) (hg:g<wr.heap.size) (hb:Below wr.heap.size wr w2):sU w w2 g cap l :=
 ⟨gtr h.below hb,h.lo,h.le,fun j u hu=>(hb.cell (p:=⟨g,0+j,none⟩) hg).trans (h.cells j u hu),fun j hj=>by
  obtain ⟨a,b⟩:=h.spare j hj
  rw [hb.cell (p:=⟨g,0+l.length * 1+j,none⟩) hg]
  exact ⟨a,(World.frozen?_of_block (a:=⟨g,0+l.length * 1+j,none⟩) (hb.block g hg)).trans b⟩⟩
theorem sU.room {w wr:World} {g cap:Nat} {l:List UInt8} (h:sU w wr g cap l) (x:UInt8) (hr:l.length+1≤cap):sU w (wr.setCell ⟨g,0+l.length * 1,none⟩ (.int .u8 (x.toNat:Int))) g cap (l++[x]):=by
 obtain ⟨hs,_⟩:=h.spare 0 (by omega)
 obtain ⟨y,hy⟩:=Option.isSome_iff_exists.1 hs
 refine ⟨lh h.below h.lo _,h.lo,by simpa using hr,fun j u hu => ?_,fun j hj => ?_⟩
 ·
  by_cases hj:j=l.length
  ·
   subst hj
   have e:(dL (l++[x]))[l.length]? = some (.int .u8 (x.toNat:Int)):=by simp [dL]
   rw [e] at hu
   rw [show 0+l.length=0+l.length * 1 by omega,← hu]
   exact World.cell?_setCell_same wr _ _ (by simpa using hy)
  ·
   rw [World.cell?_setCell_other _ _ _ _ (by intro e;have:=congrArg Addr.off e;simp at this;omega)]
   refine h.cells j u ?_
   have hlt:j<l.length:=by
    have:=(List.getElem?_eq_some_iff.1 hu).1
    simp [dL] at this;omega
   rw [← hu]
   simp [dL,List.getElem?_append,hlt]
 ·
  simp only [List.length_append,List.length_singleton] at hj ⊢
  obtain ⟨a,b⟩:=h.spare (j+1) (by omega)
  rw [World.cell?_setCell_other _ _ _ _ (by intro e;have:=congrArg Addr.off e;simp at this;omega),show 0+(l.length+1) * 1+j=0+l.length * 1+(j+1) by omega]
  exact ⟨a,(World.frozen?_setCell _ _ _ _).trans b⟩
end
section
open Go.RowKit
theorem sU.grow {w wr w2:World} {g cap:Nat} {l:List UInt8} (h:sU w wr g cap l) (l2:List UInt8) (v:Value) (n:Nat) (hn:n=l2.length) (ho:w2.ownsRow wr.heap.size 5 1 v n (dL l2)) (hp:0<l2.length) (hg:wr.grownBy w2 none) : ∃ g2 cap2,v=.slice (some ⟨g2,0,none⟩) n cap2∧sU w w2 g2 cap2 l2:=by
 rcases ho.2 with ⟨_,e⟩ | ⟨g2,cap2,cur,e,hb,hh,hle,_,hcs,ht⟩
 ·
  omega
 ·
  have hbl:Below wr.heap.size wr w2:=⟨hg.os,hg.tape,hg.output,hg.size,fun k hk=>hg.block k hk (by simp)⟩
  refine ⟨g2,cap2,e,gtr h.below hbl,Nat.le_trans h.below.size hb,by omega,fun j u hu => ?_,fun j hj => ?_⟩
  ·
   have hj:j<l2.length:=by
    have:=(List.getElem?_eq_some_iff.1 hu).1
    simpa [dL] using this
   rw [Nat.zero_add,cell_of hh j,← hu,← ht,List.getElem?_take,if_pos (by omega)]
   simp
  ·
   rw [cell_of hh,aF hh]
   refine ⟨?_,rfl⟩
   rw [Array.getElem?_eq_getElem (by omega)]
   rfl
def iG (s:ByteArray) (k:Nat):List UInt8:=s.data.toList++(s.data.toList.take k).map fun x => ~~~x
theorem EJ (s:ByteArray) (k:Nat) (h:k≤s.size):(iG s k).length=s.size+k:=by
 have:s.data.size=s.size:=rfl
 simp only [iG,List.length_append,List.length_map,List.length_take,Array.length_toList]
 omega
theorem CX (s:ByteArray) (k:Nat) (h:k<s.size):iG s (k+1)=iG s k++[~~~(bt s k)]:=by
 have hd:k<s.data.size:=h
 have hk:k<s.data.toList.length:=by rw [Array.length_toList];exact hd
 have hb:bt s k=s.data[k]:=by
  unfold bt
  rw [Array.getD_eq_getD_getElem?,Array.getElem?_eq_getElem hd];rfl
 unfold iG
 rw [List.take_succ_eq_append_getElem hk,hb]
 simp only [List.map_append,List.map_cons,List.map_nil,Array.getElem_toList,List.append_assoc]
theorem mh (s:ByteArray) (w:World) (hs:s.size=32):Calls prog 46 #[.string s] w fun e w'=>e=.returned (.tuple #[.string (dy s),.int .i64 0])∧Below w.heap.size w w':=by
 have h32:(s.size:Int)=32:=by omega
 have hconv:=run_bytes_of_string (P:=prog) w 9 29 5 s underlying9 underlying29 underlying5
 have hR:=sU.start s w (grownCap w s.size 0 5) (grownCap_ge w s.size 0 5)
 have HT:=zH (fun k hk=>CX s k hk)
 have HN:=zH (fun k hk=>EJ s k hk)
 have HG:=zH (fun k (hk:k<s.size)=>gT s k hk)
 have HS:=zH hs
 generalize grownCap w s.size 0 5=cap at *
 have hlt0:w.heap.size<(w.drew.alloc (.cells (bytesRow s cap) 5 ((bytesRow s cap).size,(bytesRow s cap).size+1))).heap.size:=by show w.heap.size<(w.heap.push _).size;simp
 generalize w.drew.alloc (.cells (bytesRow s cap) 5 ((bytesRow s cap).size,(bytesRow s cap).size+1))=W at *
 have HR:=zH (zA hR hlt0)
 obtain ⟨i0,hi,hz0,hz1,hz2⟩:=info_parts (show (prog.info? 5).map (fun i=>(i.zero,i.size,i.bytes))=some (some (.int .u8 0),1,1) from mG)
 clear hs hR hlt0
 go_enter func46,ntmps46
 go_wp2
 go_loopw [4,13] (fun v i wr => ∃ (j g c:Nat),j≤32∧i=.int .i64 j∧v=.slice (some ⟨g,0,none⟩) (s.size+j) c∧sU w wr g c (iG s j)∧g<wr.heap.size) (fun _ i _=>32 - (intOf i).toNat)
 case atStart=>exact ⟨0,w.heap.size,cap,Nat.zero_le _,rfl,rfl,by simpa [iG] using HR.out.1,HR.out.2⟩
 case round =>
  obtain ⟨j,g,c,hj,rfl,rfl,hB,hgl⟩:=hrel
  by_cases hlt:j<32
  ·
   have hlt':(j:Int)<32:=by omega
   have hg:=HG.out j (by rw [HS.out];exact hlt)
   have hjs:(j:Int)<(s.size:Int):=by omega
   have hn:(iG s j).length=s.size+j:=HN.out j (by rw [HS.out];omega)
   have HB:=zH (hB.aj hgl (ae zR (.cells #[.int .u8 (bits .xor .u8 IntKind.u8.max ((bt s j).toNat:Int))] 5)))
   have HH:=zH (zA hn hgl)
   have HT2:=zH (HT.out j (by rw [HS.out];exact hlt))
   have hNB:=JN (bt s j)
   have HNB:=zH hNB
   clear hB hgl hn hNB
   go_wp2_with (at_builtin;refine wpList_append_arg _ rfl (.tmp 16) (.tmp 21) 29 (by rfl) 5 i0 (.int .u8 0) 1 1 underlying29 hi hz0 hz1 hz2 rfl (by decide) g 0 (s.size+j) c (dL (iG s j)) (by rfl) ?lo ?ho ⟨wr.heap.size,0,none⟩ 1 1 [.int .u8 (bits .xor .u8 IntKind.u8.max ((bt s j).toNat:Int))] (by rfl) rfl ?nw ?on ?sp ?b1 ?b2 ?room ?grow)
   case lo=>simp [dL,HH.out.1]
   case ho=>simpa using HB.out.cells
   case on=>simp [Value.oneCell']
   case sp =>
    intro hr
    have h2:=HB.out.spare 0 (by rw [HH.out.1];omega)
    rw [HH.out.1] at h2
    simpa using h2
   case b1=>unfold maxLen;have:=HS.out;omega
   case b2=>have:=HS.out;omega
   case room =>
    intro hr
    have h2:=HB.out.room (~~~(bt s j)) (by rw [HH.out.1];omega)
    rw [HH.out.1,HNB.out,← HT2.out] at h2
    have H2:=zH h2
    clear h2 hr
    go_wp2
    go_roundw
    case rel=>exact ⟨j+1,g,c,by omega,by go_num,by rw [Nat.add_assoc],by simpa [World.setCells] using H2.out,by have:=HH.out.2;simp [World.setCells];omega⟩
    case measure=>simp [intOf];omega
   case grow =>
    intro hr v' w' ho hgr
    have e2:dL (iG s j)++[.int .u8 (bits .xor .u8 IntKind.u8.max ((bt s j).toNat:Int))]=dL (iG s (j+1)):=by rw [HT2.out,← HNB.out];simp [dL]
    rw [e2] at ho
    have hl2:(iG s (j+1)).length=s.size+j+1:=by rw [HT2.out];simp [HH.out.1]
    obtain ⟨g2,c2,rfl,h2⟩:=HB.out.grow (iG s (j+1)) v' (s.size+j+1) hl2.symm (by simpa using ho) (by omega) hgr
    have hgl2:g2<w'.heap.size:=zL w' _ (h2.cells 0 _ (List.getElem?_eq_getElem (by simp [dL];omega)))
    have H2:=zH (zA h2 hgl2)
    clear h2 hr ho hgr e2 hl2 hgl2
    go_wp2
    go_roundw
    case rel=>exact ⟨j+1,g2,c2,by omega,by go_num,by rw [Nat.add_assoc],H2.out.1,H2.out.2⟩
    case measure=>simp [intOf];omega
  ·
   obtain rfl:j=32:=by omega
   have hback:=run_convert_bytes_back (P:=prog) wr 29 9 5 ⟨g,0,none⟩ c (iG s 32) underlying29 underlying5 underlying9 (fun i hi=>by
    rw [di]
    exact hB.cells i _ (by simp [dL,List.getElem?_eq_getElem hi]))
   rw [HN.out 32 (by rw [HS.out];exact Nat.le_refl _)] at hback
   have HBB:=zH hB.below
   clear hB
   go_wp2
   go_ret2
   refine ⟨?_,HBB.out⟩
   have e:(iG s 32)=s.data.toList++s.data.toList.map fun x => ~~~x:=by
    unfold iG
    rw [List.take_of_length_le (by rw [Array.length_toList];exact Nat.le_of_eq HS.out)]
   simp [dy,e]
end
section
open Go.RowKit
theorem fe (s:ByteArray):(dy s).size=2 * s.size:=by
 have:s.data.size=s.size:=rfl
 unfold dy
 simp only [ByteArray.size,List.size_toArray,List.length_append,List.length_map,Array.length_toList]
 omega
theorem jz (a b:ByteArray):(a.toList == b.toList)=decide (a=b):=by
 by_cases h:a=b
 ·
  subst h;simp
 ·
  rw [decide_eq_false h,beq_eq_false_iff_ne]
  intro e
  rw [ByteArray.toList_eq,ByteArray.toList_eq] at e
  exact h (by obtain ⟨a⟩:=a;obtain ⟨b⟩:=b;congr 1;exact Array.toList_inj.1 e)
def fx (t:ByteArray):Option ByteArray:=if t.size=64∧dy (t.extract 0 32)=t then some (t.extract 0 32) else none
def pQ (r:Option ByteArray) (er:Int):Value:=match r with | some s=>.tuple #[.string s,.int .i64 0] | none=>.tuple #[.string ByteArray.empty,.int .i64 er]
theorem qg (t:ByteArray) (w:World):Calls prog 25 #[.string t] w fun e w'=>e=.returned (pQ (fx t) 200)∧Below w.heap.size w w':=by
 by_cases h32:32≤t.size
 ·
  have e1:(min 32 (t.size:Int)).toNat=32:=by omega
  have hs:(t.extract 0 32).size=32:=by simp;omega
  by_cases he:dy (t.extract 0 32)=t
  ·
   have er:fx t=some (t.extract 0 32):=by
    unfold fx
    rw [if_pos ⟨by have:=fe (t.extract 0 32);rw [he,hs] at this;omega,he⟩]
   rw [er]
   have HE:=zH he
   clear he er
   go_enter func25,ntmps25
   go_wp2_with fail
   refine (mh _ w hs).mono ?_
   rintro e w1 ⟨rfl,hb⟩
   rw [HE.out]
   go_wp2
   go_ret2
   exact ⟨rfl,hb⟩
  ·
   have er:fx t=none:=by
    unfold fx
    rw [if_neg (fun h=>he h.2)]
   rw [er]
   clear er
   have hne:(!(dy (t.extract 0 32)).toList == t.toList)=true:=by rw [jz,decide_eq_false he];rfl
   go_enter func25,ntmps25
   go_wp2_with fail
   refine (mh _ w hs).mono ?_
   rintro e w1 ⟨rfl,hb⟩
   go_wp2
   go_ret2
   exact ⟨rfl,hb⟩
 ·
  have er:fx t=none:=by
   unfold fx
   rw [if_neg (fun h=>h32 (by omega))]
  rw [er]
  clear er
  have hs:(t.extract 0 (min 32 (t.size:Int)).toNat).size≠32:=by
   have e1:(min 32 (t.size:Int)).toNat=t.size:=by omega
   rw [e1]
   simp;omega
  go_enter func25,ntmps25
  go_wp2_with fail
  refine (EI _ w hs).mono ?_
  rintro e w1 ⟨rfl,rfl⟩
  go_wp2
  go_ret2
  exact ⟨rfl,Below.refl _ _⟩
end
end Go.Proofs.YtcfdenckiigdaaaGreat

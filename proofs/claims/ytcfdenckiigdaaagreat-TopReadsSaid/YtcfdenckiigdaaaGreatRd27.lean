/- Part 27 of the contracts. -/
import Derived.Deep.Slices
import Derived.OpenShut
import Derived.ShutString
import Derived.Test.YtcfdenckiigdaaaGreatRd26
set_option linter.unusedVariables false
set_option maxRecDepth 100000
set_option maxHeartbeats 4000000
namespace Go.Proofs.YtcfdenckiigdaaaGreat
open Tryz Go.RowKit
section
open Go.RowKit
variable {X:Nat→Prop}
theorem bg.Gt {w:World} {p:Nat} {W:fT} {G:Nat→Prop} (h:bg X w p W G) : ∀ i,X i→i<w.heap.size:=by
 obtain ⟨s,k,c,b,H,z,h1,h2,_⟩:=h.ex
 exact h2.both.Gt
theorem Hd (p:Nat) (W:fT) (G:Nat→Prop) (x0 x1 img:ByteArray) (w:World) (h:bg X w p W G) (n:sU W x0 img) (hs:W.S=shut) (hx:od x0 img shut (ib 0 ⟨#[]⟩ ⟨#[]⟩)=(x1,⟨true,4,V0⟩,aR,0)):Calls prog 11 #[.pointer (some ⟨p,0,none⟩),.agg #[.int .i64 0,.string ⟨#[]⟩,.string ⟨#[]⟩,.int .i64 0,.int .i64 0,.int .i64 0,.string ⟨#[]⟩,.slice none 0 0,.slice none 0 0]] w fun e w' => ∃ W',sU W' x1 img∧W'.S=⟨true,4,V0⟩∧ew X p W' aR 0 G w e w':=by
 have:=iZ p W G (ib 0 ⟨#[]⟩ ⟨#[]⟩) x0 img w h n (.inl hs) rfl (by decide) rfl rfl
 rw [hs,hx] at this
 exact this
theorem Hy (p:Nat) (W:fT) (G:Nat→Prop) (x:cG) (cx img:ByteArray) (w:World) (h:bg X w p W G) (n:sU W cx img) {ps:List aJ} {E:Int} (ho:dJ cx W.S ps E) (hE:E<1048576) (hx:kS x):Calls prog 11 #[.pointer (some ⟨p,0,none⟩),.agg #[.int .i64 x.kind,.string x.key,.string x.value,.int .i64 0,.int .i64 0,.int .i64 0,.string ⟨#[]⟩,.slice none 0 0,.slice none 0 0]] w fun e w' => ∃ W' y,y=(od cx img W.S x).1∧W'.S=(od cx img W.S x).2.1∧sU W' y img∧dJ y W'.S (fD ps x).2 (E+1)∧ew X p W' aR (fD ps x).1 G w e w':=by
 have:=iZ p W G x cx img w h n ho.fit hx.cj (by rcases hx.kind with h | h <;> omega) hx.busy hx.reads
 rw [hx.at_,hx.width,hx.cj,hx.mask] at this
 obtain ⟨d1,d2⟩:=J9 (img:=img) ho hE hx
 refine this.mono ?_
 rintro e w' ⟨W',k1,k2,k3⟩
 rw [d2] at k3
 rw [← k2] at d1
 exact ⟨W',_,rfl,k2,k1,d1,k3⟩
def IN (X:Nat→Prop) (w:World) (img:ByteArray) (f:Nat→Int) (n:Nat) (e:Ending) (w':World):Prop :=
 ∃ p W G g ps,e=.returned (.tuple #[.pointer (some ⟨p,0,none⟩),.pointer (some ⟨g,0,none⟩)])∧Own X w w' p W G∧sU W (lC img f n).1 img∧W.S=(lC img f n).2∧dJ (lC img f n).1 W.S ps (1+n)∧cV w' g (fun i=>G i∨X i) ps∧w.heap.size≤g∧By ps
theorem AP (t:ByteArray) (a:Option Addr) (c:Nat) (rs:List Int) (mx:Nat) (w:World) (ht:t.size<140737488355328) (hr:aP w a rs) (hn:rs.length≤9223372036854775807) (hmx:mx≤25) (hX : ∀ i,X i→i<w.heap.size):Calls prog 10 #[.string t,.slice a rs.length c,.int .i64 mx] w (IN X w (jF t) (fun i=>rs.getD i 0) (min rs.length mx)):=by
 obtain ⟨f,hf⟩ : ∃ f:Nat→Int,f=fun i=>rs.getD i 0:=⟨_,rfl⟩
 rw [← hf]
 have HF:=zH hf
 clear hf
 have HI:=zH (fun w=>yl t w ht)
 have hsz:(jF t).size=2048:=eJ _ _
 have HN:=zH (fun w h=>pB (X:=X) (jF t) w (by rw [hsz];exact Nat.le_refl _) h)
 have HXL:=zH hX
 clear hX
 have HX:=zH (zA (Ln (img:=jF t) hsz) (wZ (img:=jF t) (Nat.le_of_eq hsz)))
 have HM:=zH vG
 have HRI:=zH hr
 clear hsz hr
 generalize jF t=img at *
 have HFM:=zH (show JB img=od (gL img) img shut (ib 0 ⟨#[]⟩ ⟨#[]⟩) from rfl)
 go_enter func10,ntmps10
 go_upto_region 2 with (first
  | (go_at_call 17;refine (HI.out _).mono ?_;rintro e w1 ⟨rfl,hb1⟩)
  | (go_at_call 16;refine (HN.out _ (fun i hi=>zV (HXL.out i hi) hb1.size)).mono ?_;rintro e w2 ⟨p,W0,G0,rfl,hw,hb,hg,hc,hl,ok,hbusy,hq,hs⟩))
 have HO:=zH (zA (show Own X w w2 p W0 G0 from ⟨hw,gtr hb1 hb,fun i hi=>Nat.le_trans hb1.size (hg i hi)⟩) (zA (F9 hc hl ok hq HX.out.1) hs))
 have HB:=zH HX.out.2
 clear hw hb hg hc hl ok hbusy hq hs hb1 HI HN HX
 generalize gL img=x0 at *
 go_upto_region 4 with (go_at_call 13;refine (HM.out _ _).mono ?_;rintro e w' ⟨rfl,rfl⟩)
 obtain ⟨x1,lay1,hx1⟩:=ry (img:=img) HB.out
 have HX1:=zH hx1
 have HD:=zH (Hd p W0 G0 x0 x1 img w' HO.out.1.at_ HO.out.2.1 HO.out.2.2 hx1)
 clear hx1
 go_upto_region 5 with (go_at_call 11;refine HD.out.mono ?_;rintro e w3 ⟨W1,n1,hs1,va,vc,vb,vd,rfl,o1,o2,G1,hw1,st1,m1,m2⟩)
 rw [show aR.value=⟨#[]⟩ from rfl,show aR.bP.length=0 from rfl,show aR.reads.length=0 from rfl,show aR.lost=false from rfl] at *
 have HO1:=zH (zA ((HO.out.1.step hw1 st1).aj (ae zR (.cells pN 63))) (zA n1 (zA (show dJ x1 W1.S [] 1 from ⟨4,V0,lay1,rfl,by decide,hs1⟩) (zA (show cV (w3.alloc (.cells pN 63)) w3.heap.size (fun i=>G1 i∨X i) [] from ⟨fun h=>Nat.lt_irrefl _ (h.elim (hw1.lt _) (hw1.Gt _)),none,0,false,none,0,0,af w3 (.cells pN 63),aU.nil _ _,fun b o e=>by cases e⟩) (zA (HO.out.1.step hw1 st1).below.size (show (x1,W1.S)=lC img f 0 from by rw [show lC img f 0=((JB img).1,(JB img).2.1) from rfl,HFM.out,HX1.out,hs1]))))))
 unfold pN at HO1
 clear n1 hs1 lay1 o1 o2 hw1 st1 m1 m2 HD HO HB
 go_upto_region 6 with fail
 generalize w3.alloc (.cells #[.bool false,.slice none 0 0,.bool false,.slice none 0 0,.bool true] 63)=w4 at *
 generalize w3.heap.size=g at *
 go_wp2
 go_loopw [11] (fun i wr => ∃ k:Nat,i=.int .i64 k∧k≤rs.length∧k≤mx ∧ ∃ W G y ps,Own X w wr p W G∧sU W y img∧dJ y W.S ps (1+k)∧cV wr g (fun i=>G i∨X i) ps∧(y,W.S)=lC img f k∧By ps) (fun i _=>rs.length - (intOf i).toNat)
 case atStart=>exact ⟨0,rfl,Nat.zero_le _,Nat.zero_le _,W1,G1,x1,[],HO1.out.1,HO1.out.2.1,HO1.out.2.2.1,HO1.out.2.2.2.1,HO1.out.2.2.2.2.2,Lg⟩
 case round =>
  obtain ⟨k,rfl,hk1,hk2,W,G,y,ps,ho,hnow,hop,hmo,hst,hfew⟩:=hrel
  have HR:=zH (zA ho (zA hnow (zA hop (zA hmo (zA hst hfew)))))
  clear ho hnow hop hmo hst hfew
  by_cases hlt:k<rs.length∧k<mx
  ·
   obtain ⟨hl1,hl2⟩:=hlt
   have hi1:(k:Int)<(rs.length:Int):=by omega
   have hi2:(k:Int)<(mx:Int):=by omega
   obtain ⟨b,off,rfl,hcell⟩:=(HRI.out.aj HR.out.1.below) k hl1
   rw [show rs.getD k 0=rs[k] from by simp [List.getD,hl1]] at hcell
   have HFK:=zH (show f k=rs[k] from by rw [HF.out];simp [List.getD,hl1])
   generalize rs[k]=z at *
   have hblt:b<wr.heap.size:=zL wr _ hcell
   have hbn0:b≠wr.heap.size:=Nat.ne_of_lt hblt
   have hbn1:b≠wr.heap.size+1:=by omega
   have hbn2:b≠wr.heap.size+2:=by omega
   obtain ⟨K,hK,hKd⟩ : ∃ K:UInt8,IntKind.u8.wrap (97+bits .and .i64 z 3)=(K.toNat:Int)∧K=UInt8.ofNat (97+(z % 4).toNat):=⟨UInt8.ofNat (97+(z % 4).toNat),by
    rw [KS,IntWalk.u8_in _ (by omega)]
    simp
    omega,rfl⟩
   have HKD:=zH hKd
   clear hKd
   have hKw:IntKind.i64.wrap (97+bits .and .i64 z 3)=97+bits .and .i64 z 3:=by rw [KS];exact cX (by omega) (by omega)
   have hIw:IntKind.u8.wrap (k:Int)=(k:Int):=IntWalk.u8_in _ (by omega)
   have hcv1:=byte_back K (K.toNat:Int) rfl
   have hcv2:=byte_back (UInt8.ofNat k) (k:Int) (by simp;omega)
   obtain ⟨V,hV⟩ : ∃ V:UInt8,V=UInt8.ofNat k:=⟨_,rfl⟩
   rw [← hV] at hcv2
   have HVD:=zH hV
   clear hV
   have hca:=FE wr
   have hcb:=FF wr
   have hcc:=FG wr
   have hcd:=FH wr
   have hce:=FI wr
   go_upto_region 9 with fail
   go_cut [12] from 33 to 79 (fun v wx => ∃ gA,v=.pointer (some ⟨gA,0,none⟩)∧Below wr.heap.size wr wx∧wr.heap.size≤gA∧wx.heap[gA]? = some (.cells #[.int .i64 2,.string ⟨#[K]⟩,.string ⟨#[V]⟩,.int .i64 0,.int .i64 0,.int .i64 0,.string ⟨#[]⟩,.slice none 0 0,.slice none 0 0] 31 (0,0)))
   case first =>
    go_region
    all_goals
     go_wp2
     go_meet
     refine ⟨_,rfl,au (ae (ae (ae zR _) _) _),by omega,?_⟩
     rw [show ∀ q:World,q.drew.heap=q.heap from fun _=>rfl]
     first
      | exact aa (ae (ae zR _) _) (af wr _)
      | exact aa (ae zR _) (rL wr _ _)
      | exact ts wr _ _ _
   case rest =>
    obtain ⟨gA,rfl,hbc,hgA,hza⟩:=hcut
    obtain ⟨w5,hw5⟩ : ∃ q,q=wc:=⟨_,rfl⟩
    subst hw5
    have HR5:=zH (zA hza (zA hbc (zA hgA (show ¬ G gA from fun h=>by have:=HR.out.1.at_.lt _ h;omega))))
    have hcell5:=(hbc.cell (p:=⟨b,off+k,none⟩) hblt).trans hcell
    have hgg:g<wr.heap.size:=by obtain ⟨_,a',c',q,a3,n3,c3,m2',_⟩:=HR.out.2.2.2.1;exact aO m2'
    have HGG:=zH (show g≠gA by omega)
    obtain ⟨z0,z1,z2,z3,z4,z5,z6,z7,z8,zf⟩:=vm hza
    obtain ⟨q12,h12⟩ : ∃ q,(bits .and .i64 z 12 == 12)=q:=⟨_,rfl⟩
    clear hcv1 hcv2 hca hcb hcc hcd hce hcell hbc hza hgg hbn0 hbn1 hbn2 hblt hgA hKw hIw hK
    go_upto_if 63 with fail
    go_cut [] from 33 to 79 (fun wx => ∃ x:cG,(x=kp z k∧x.key ∈ gY)∧kS x∧wx.heap[gA]? = some (.cells #[.int .i64 x.kind,.string x.key,.string x.value,.int .i64 0,.int .i64 0,.int .i64 0,.string ⟨#[]⟩,.slice none 0 0,.slice none 0 0] 31 (0,0))∧Touch (aN gA) w5 wx)
    case first =>
     have H12:=zH h12
     cases q12 with
     | true =>
      go_wp2
      go_meet
      refine ⟨ib 4 ⟨#[K]⟩ ⟨#[]⟩,(by have e:kp z k=ib 4 ⟨#[K]⟩ ⟨#[]⟩:=(by unfold kp;rw [if_pos H12.out,HKD.out];rfl);exact ⟨e.symm,by rw [← e];exact (Ki z k).2⟩),Ah rfl,?_,?_⟩
      ·
       exact L1 HR5.out.1 (.int .i64 4) (.string ⟨#[K]⟩) (.string ⟨#[]⟩) (.int .i64 0) (.int .i64 0) (.int .i64 0) (.string ⟨#[]⟩) (.slice none 0 0) (.slice none 0 0)
      ·
       exact Fb w5 gA (.int .i64 4) (.string ⟨#[K]⟩) (.string ⟨#[]⟩) (.int .i64 0) (.int .i64 0) (.int .i64 0) (.string ⟨#[]⟩) (.slice none 0 0) (.slice none 0 0)
     | false =>
      go_wp2
      go_meet
      exact ⟨ib 2 ⟨#[K]⟩ ⟨#[V]⟩,(by have e:kp z k=ib 2 ⟨#[K]⟩ ⟨#[V]⟩:=(by unfold kp;rw [if_neg (by rw [H12.out];decide),HKD.out,HVD.out];rfl);exact ⟨e.symm,by rw [← e];exact (Ki z k).2⟩),Ai rfl (show 1≤20 by decide),HR5.out.1,Touch.refl _ _⟩
    case rest =>
     obtain ⟨x,hxe,hpx,hza,htA⟩:=hcut
     have HXE:=zH hxe
     clear hxe
     obtain ⟨wz,hwz⟩ : ∃ q,q=wc:=⟨_,rfl⟩
     subst hwz
     have hbz:Below wr.heap.size wr wz:=HR5.out.2.1.trans (htA.below HR5.out.2.1.size (fun i hi e=>by have e:i=gA:=e;have:=HR5.out.2.2.1;omega))
     have HPL:=zH hpx
     have HRZ:=zH (zA (HR.out.1.aj hbz) (zA HR.out.2.1 (zA HR.out.2.2.1 (zA (HR.out.2.2.2.1.aj hbz) (zA hza HR5.out.2.2.2)))))
     clear z0 z1 z2 z3 z4 z5 z6 z7 z8 zf hcell5 hpx htA hbz h12
     obtain ⟨z0,z1,z2,z3,z4,z5,z6,z7,z8,zf⟩:=vm hza
     have hgAl:gA<wz.heap.size:=aO hza
     clear hza zf
     have HD:=zH (Hy p W G x y img wz HRZ.out.1.at_ HRZ.out.2.1 HRZ.out.2.2.1 (by omega) HPL.out)
     go_upto_region 13 with (go_at_call 11;refine HD.out.mono ?_;rintro e w5 ⟨W1,y1,hy1,hS1,n1,k1,va,vc,vb,vd,rfl,o1,o2,G1,hw1,st1,m1,m2⟩)
     rw [show aR.value=⟨#[]⟩ from rfl,show aR.bP.length=0 from rfl,show aR.reads.length=0 from rfl,show aR.lost=false from rfl] at *
     have hb6:=ae (Below.refl w5.heap.size w5) (.cells #[.string ⟨#[]⟩,.slice va 0 vc,.slice vb 0 vd,.bool false] 34)
     have HR6:=zH (zA ((HRZ.out.1.step hw1 st1).aj hb6) (zA n1 (zA k1 (zA ((HRZ.out.2.2.2.1.step (st1.Jo (Y:=X))).aj hb6) (zA (aa hb6 (st1.aH.at HRZ.out.2.2.2.2.1 HRZ.out.2.2.2.2.2)) (zA (st1.safe hgAl HRZ.out.2.2.2.2.2) (zA (af w5 (.cells #[.string ⟨#[]⟩,.slice va 0 vc,.slice vb 0 vd,.bool false] 34)) (zA (show g≠w5.heap.size from fun e=>by obtain ⟨_,a,c,q,a3,n3,c3,mm2,_⟩:=HRZ.out.2.2.2.1.step (st1.Jo (Y:=X));have:=aO mm2;omega) (show ∀ i,(G1 i∨X i)→i<_ from fun i hi=>zV (hi.elim (hw1.lt i) (hw1.Gt i)) hb6.size)))))))))
     generalize Value.agg #[.string ⟨#[]⟩,.slice va 0 vc,.slice vb 0 vd,.bool false]=vagz at *
     generalize hw6:w5.alloc (.cells #[.string ⟨#[]⟩,.slice va 0 vc,.slice vb 0 vd,.bool false] 34)=w6 at *
     generalize w5.heap.size=bA at *
     have HY:=zH (zA hy1 hS1)
     clear hy1 hS1 hw6 hb6 n1 k1 o1 o2 hw1 st1 m1 m2 HD z0 z1 z2 z3 z4 z5 z6 z7 z8 hgAl
     have HS13:=zH (fun (w':World) (t:Touch (aN g) w6 w')=>(show w'.cell? ⟨gA,0,none⟩=some (.int .i64 x.kind)∧w'.cell? ⟨gA,1,none⟩=some (.string x.key)∧w'.cell? ⟨gA,2,none⟩=some (.string x.value)∧w'.cell? ⟨gA,3,none⟩=some (.int .i64 0)∧w'.cell? ⟨gA,4,none⟩=some (.int .i64 0)∧w'.cell? ⟨gA,5,none⟩=some (.int .i64 0)∧w'.cell? ⟨gA,6,none⟩=some (.string ⟨#[]⟩)∧w'.cell? ⟨gA,7,none⟩=some (.slice none 0 0)∧w'.cell? ⟨gA,8,none⟩=some (.slice none 0 0)∧w'.cell? ⟨bA,0,none⟩=some (.string ⟨#[]⟩)∧w'.cell? ⟨bA,1,none⟩=some (.slice va 0 vc)∧w'.cell? ⟨bA,2,none⟩=some (.slice vb 0 vd)∧w'.cell? ⟨bA,3,none⟩=some (.bool false) from by
      have hB:=t.at HR6.out.2.2.2.2.1 (show ¬ gA=g from fun e=>HGG.out e.symm)
      have hA:=t.at HR6.out.2.2.2.2.2.2.1 (show ¬ bA=g from fun e=>HR6.out.2.2.2.2.2.2.2.1 e.symm)
      exact ⟨cell_of hB 0,cell_of hB 1,cell_of hB 2,cell_of hB 3,cell_of hB 4,cell_of hB 5,cell_of hB 6,cell_of hB 7,cell_of hB 8,cell_of hA 0,cell_of hA 1,cell_of hA 2,cell_of hA 3⟩))
     have HTOLD:=zH (fun (w':World) (hb:Below w6.heap.size w6 w')=>(show Calls prog 12 #[.pointer (some ⟨g,0,none⟩),.agg #[.int .i64 x.kind,.string x.key,.string x.value,.int .i64 0,.int .i64 0,.int .i64 0,.string ⟨#[]⟩,.slice none 0 0,.slice none 0 0],.agg #[.string ⟨#[]⟩,.slice va 0 vc,.slice vb 0 vd,.bool false],.int .i64 (fD ps x).1] w' (vX g (fun i=>G1 i∨X i) (fD ps x).2 w') from by
      rw [← Ik HPL.out]
      exact yj g (fun i=>G1 i∨X i) ps (fD ps x).2 x none 0 none 0 ⟨#[]⟩ va 0 vc vb 0 vd (fD ps x).1 w' rfl (fun _=>⟨rfl,rfl,rfl⟩) (HR6.out.2.2.2.1.aj hb) (fun i hi=>zV (HR6.out.2.2.2.2.2.2.2.2 i hi) hb.size) HPL.out.kind HPL.out.k1 HPL.out.k6 HPL.out.v20 (by rw [HPL.out.reads];exact aP.nil _ _) (by rw [HPL.out.reads];exact fun i hi=>absurd hi (Nat.not_lt_zero _)) HRZ.out.2.2.1.kept.sorted.1 HRZ.out.2.2.1.kept.sorted.2 (by rw [HPL.out.reads];exact Nat.zero_le _)))
     refine wp_region_noPanic ?_
     refine wp_region_held_drew (S:=(fun w':World=>w'.cell? ⟨gA,0,none⟩=some (.int .i64 x.kind)∧w'.cell? ⟨gA,1,none⟩=some (.string x.key)∧w'.cell? ⟨gA,2,none⟩=some (.string x.value)∧w'.cell? ⟨gA,3,none⟩=some (.int .i64 0)∧w'.cell? ⟨gA,4,none⟩=some (.int .i64 0)∧w'.cell? ⟨gA,5,none⟩=some (.int .i64 0)∧w'.cell? ⟨gA,6,none⟩=some (.string ⟨#[]⟩)∧w'.cell? ⟨gA,7,none⟩=some (.slice none 0 0)∧w'.cell? ⟨gA,8,none⟩=some (.slice none 0 0)∧w'.cell? ⟨bA,0,none⟩=some (.string ⟨#[]⟩)∧w'.cell? ⟨bA,1,none⟩=some (.slice va 0 vc)∧w'.cell? ⟨bA,2,none⟩=some (.slice vb 0 vd)∧w'.cell? ⟨bA,3,none⟩=some (.bool false))) (by kernel_rfl) (by (try dsimp only);exact HS13.out _ (Touch.ah (au zR))) fun hHeld => ?_
     refine tk 0 ?_
     refine tk 1 ?_
     refine tk 2 ?_
     refine tk 3 ?_
     refine tr 4 fun K hK => ?_
     go_simp
     go_at_call 13
     refine (HM.out _ _).mono ?_
     rintro e wx ⟨rfl,rfl⟩
     go_wp2_with fail
     refine hK.out _ _ (by (try dsimp only);exact HS13.out _ (Touch.ah (au zR))) fun hHeld => ?_
     clear hK K
     try simp only [Act.put,zS,zT,zU]
     refine tr 5 fun K hK => ?_
     go_simp
     go_at_call 12
     refine (HTOLD.out _ (au zR)).mono ?_
     rintro e w7 ⟨rfl,hm7,ht7⟩
     have ht67:=(Touch.ah (F:=aN g) (au (Below.refl w6.heap.size w6))).trans ht7
     go_wp2_with fail
     refine hK.out _ _ (by (try dsimp only);exact HS13.out _ ht67) fun hHeld => ?_
     clear hK K
     try simp only [Act.put,zS,zT,zU]
     refine tk 6 ?_
     refine wpAnyH_done (by kernel_rfl) ?_ _
     refine NoPanic.normal ?_
     have HEND:=zH (zA (show Own X w w7 p W1 G1 from ⟨HR6.out.1.at_.plain ht67 (fun h=>HR6.out.2.2.2.1.1 (.inl h)) (uz HR6.out.2.2.2.1),HR6.out.1.below.trans (ht67.below HR6.out.1.below.size (fun i hi e=>by have e:i=g:=e;have:=HO1.out.2.2.2.2.1;omega)),HR6.out.1.new⟩) hm7)
     clear hm7 ht7 ht67 hHeld
     go_wp2
     go_roundw
     case rel=>exact ⟨k+1,by go_num,by omega,by omega,W1,G1,y1,_,HEND.out.1,HR6.out.2.1,by have h:=HR6.out.2.2.1;rw [show (1:Int)+((k+1:Nat):Int)=1+(k:Int)+1 by omega];exact h,HEND.out.2,(by
      show _=((od (lC img f k).1 img (lC img f k).2 (kp (f k) k)).1,(od (lC img f k).1 img (lC img f k).2 (kp (f k) k)).2.1)
      rw [← HR.out.2.2.2.2.1,HFK.out,← HXE.out.1,HY.out.1,HY.out.2]),Jy HR.out.2.2.2.2.2 HXE.out.2⟩
     case measure=>simp [intOf];omega
  ·
   by_cases hlu:k<rs.length
   ·
    have hi1:(k:Int)<(rs.length:Int):=by omega
    have hi2 : ¬ (k:Int)<(mx:Int):=by omega
    clear hlt
    go_wp2
    go_ret2
    have e:min rs.length mx=k:=by omega
    refine ⟨p,W,G,g,ps,rfl,HR.out.1,?_,?_,?_,HR.out.2.2.2.1,HO1.out.2.2.2.2.1,HR.out.2.2.2.2.2⟩ <;> rw [e,← HR.out.2.2.2.2.1]
    ·
     exact HR.out.2.1
    ·
     exact HR.out.2.2.1
   ·
    have hi1 : ¬ (k:Int)<(rs.length:Int):=by omega
    clear hlt
    go_wp2
    go_ret2
    have e:min rs.length mx=k:=by omega
    refine ⟨p,W,G,g,ps,rfl,HR.out.1,?_,?_,?_,HR.out.2.2.2.1,HO1.out.2.2.2.2.1,HR.out.2.2.2.2.2⟩ <;> rw [e,← HR.out.2.2.2.2.1]
    ·
     exact HR.out.2.1
    ·
     exact HR.out.2.2.1
end
theorem bg.other {X Y F:Nat→Prop} {w w':World} {p:Nat} {W:fT} {G:Nat→Prop} (h:bg X w p W G) (t:Touch F w w') (hF : ∀ i,F i→X i) (d : ∀ i,F i → ¬ G i) (hY : ∀ i,Y i→X i∨(w.heap.size≤i∧i<w'.heap.size)):bg Y w' p W G:=by
 obtain ⟨s,k,c,b,H,z,h1,h2,h3,h4,h5⟩:=h.ex
 refine ⟨s,k,c,b,H,z,t.at h1 (fun hp=>d p hp ((h5 p).2 (.inr rfl))),h2.grow t hF (fun i hi hm=>d i hi ((h5 i).2 (.inl hm))) (fun hl hx=>(h4 hl).2 (hF _ hx)) hY,h3,fun hl=>⟨(h4 hl).1,fun hy => ?_⟩,h5⟩
 rcases hY _ hy with hx | hx
 ·
  exact (h4 hl).2 hx
 ·
  obtain ⟨F2,hc,_,_⟩:=h2.ar
  have:=(hc.home hl).1
  omega
structure Twin (w0 w:World) (pa:Nat) (Wa:fT) (Ga:Nat→Prop) (pb:Nat) (Wb:fT) (Gb:Nat→Prop):Prop where
 a:bg Gb w pa Wa Ga
 b:bg Ga w pb Wb Gb
 off : ∀ i,Ga i → ¬ Gb i
 below:Below w0.heap.size w0 w
 na : ∀ i,Ga i→w0.heap.size≤i
 nb : ∀ i,Gb i→w0.heap.size≤i
theorem Twin.aj {w0 w w':World} {pa pb:Nat} {Wa Wb:fT} {Ga Gb:Nat→Prop} (h:Twin w0 w pa Wa Ga pb Wb Gb) (hb:Below w.heap.size w w'):Twin w0 w' pa Wa Ga pb Wb Gb :=
 ⟨h.a.aj hb,h.b.aj hb,h.off,gtr h.below hb,h.na,h.nb⟩
theorem Twin.swap {w0 w:World} {pa pb:Nat} {Wa Wb:fT} {Ga Gb:Nat→Prop} (h:Twin w0 w pa Wa Ga pb Wb Gb):Twin w0 w pb Wb Gb pa Wa Ga:=⟨h.b,h.a,fun i hi hg=>h.off i hg hi,h.below,h.nb,h.na⟩
theorem Twin.left {w0 w w':World} {pa pb:Nat} {Wa Wa' Wb:fT} {Ga Ga' Gb:Nat→Prop} (h:Twin w0 w pa Wa Ga pb Wb Gb) (ha:bg Gb w' pa Wa' Ga') (st:Step Ga Ga' w w'):Twin w0 w' pa Wa' Ga' pb Wb Gb :=
 ⟨ha,h.b.other st.aH (fun _ h=>h) h.off (fun i hi=>(st.gP i hi).imp id (fun hl=>⟨hl,ha.lt i hi⟩)),fun i hi hg=>(st.gP i hi).elim (fun h1=>h.off i h1 hg) (fun hl=>by have:=h.b.lt i hg;omega),h.below.trans (st.aH.below h.below.size fun i hi hg=>by have:=h.na i hg;omega),fun i hi=>(st.gP i hi).elim (h.na i) (fun hl=>Nat.le_trans h.below.size hl),h.nb⟩
theorem Twin.right {w0 w w':World} {pa pb:Nat} {Wa Wb Wb':fT} {Ga Gb Gb':Nat→Prop} (h:Twin w0 w pa Wa Ga pb Wb Gb) (hb:bg Ga w' pb Wb' Gb') (st:Step Gb Gb' w w'):Twin w0 w' pa Wa Ga pb Wb' Gb':=(h.swap.left hb st).swap
theorem Twin.make {w0 w w':World} {pa pb:Nat} {Wa Wb:fT} {Ga Gb:Nat→Prop} (ha:bg (fun _=>False) w pa Wa Ga) (h0:Below w0.heap.size w0 w) (na : ∀ i,Ga i→w0.heap.size≤i) (hb:bg Ga w' pb Wb Gb) (h1:Below w.heap.size w w') (nb : ∀ i,Gb i→w.heap.size≤i):Twin w0 w' pa Wa Ga pb Wb Gb :=
 ⟨ha.other (Touch.ah (F:=fun _=>False) h1) (fun _ h=>h) (fun _ h=>h.elim) (fun i hi=>.inr ⟨nb i hi,hb.lt i hi⟩),hb,fun i hi hg=>by have:=ha.lt i hi;have:=nb i hg;omega,gtr h0 h1,na,fun i hi=>Nat.le_trans h0.size (nb i hi)⟩
section
open Go.RowKit
theorem cV.less {w:World} {g:Nat} {F G:Nat→Prop} {ps:List aJ} (h:cV w g F ps) (hG : ∀ i,G i→i<w.heap.size→F i):cV w g G ps:=by
 obtain ⟨m1,a,c,q,a3,n3,c3,m2,m3,m4⟩:=h
 refine ⟨fun hg=>m1 (hG g hg (aO m2)),a,c,q,a3,n3,c3,m2,m3,fun b o e h0 hg=>m4 b o e h0 (hG b hg ?_)⟩
 obtain ⟨b',o',e',_,hx⟩:=m3.some h0
 rw [e] at e'
 cases e'
 obtain ⟨p0,_⟩:=dt ps 0 h0
 exact zL w _ (hx _ _ p0)
theorem cV.M5 {w:World} {g:Nat} {G:Nat→Prop} {ps:List aJ} (h:cV w g G ps):g<w.heap.size:=by
 obtain ⟨m1,a,c,q,a3,n3,c3,m2,m3,m4⟩:=h
 exact aO m2
theorem cV.beside {w w':World} {g k:Nat} {F G:Nat→Prop} {ps qs:List aJ} (h:cV w g G ps) (hk:cV w k F qs) (ne:g≠k) (ht:Touch (aN k) w w'):cV w' g G ps:=by
 obtain ⟨m1,a,c,q,a3,n3,c3,m2,m3,m4⟩:=h
 obtain ⟨k1,b,d,q',b3,l3,d3,k2,k3,k4⟩:=hk
 exact ⟨m1,a,c,q,a3,n3,c3,ht.at m2 ne,uy k2 m3 ht,m4⟩
structure qm (w0 w:World) (pa:Nat) (Wa:fT) (Ga:Nat→Prop) (pb:Nat) (Wb:fT) (Gb:Nat→Prop) (ga gb:Nat) (ps qs:List aJ):Prop where
 t:Twin w0 w pa Wa Ga pb Wb Gb
 a:cV w ga (fun i=>Ga i∨Gb i) ps
 b:cV w gb (fun i=>Ga i∨Gb i) qs
 ne:ga≠gb
 la:w0.heap.size≤ga
 lb:w0.heap.size≤gb
theorem vH (F G:Nat→Prop):(fun i=>F i∨G i)=fun i=>G i∨F i:=funext fun i=>propext ⟨Or.symm,Or.symm⟩
variable {w0 w w':World} {pa pb ga gb:Nat} {Wa Wb Wa' Wb':fT} {Ga Gb Ga' Gb':Nat→Prop} {ps qs ps' qs':List aJ}
theorem qm.swap (h:qm w0 w pa Wa Ga pb Wb Gb ga gb ps qs):qm w0 w pb Wb Gb pa Wa Ga gb ga qs ps :=
 ⟨h.t.swap,by rw [vH];exact h.b,by rw [vH];exact h.a,fun e=>h.ne e.symm,h.lb,h.la⟩
theorem qm.aj (h:qm w0 w pa Wa Ga pb Wb Gb ga gb ps qs) (hb:Below w.heap.size w w'):qm w0 w' pa Wa Ga pb Wb Gb ga gb ps qs :=
 ⟨h.t.aj hb,h.a.aj hb,h.b.aj hb,h.ne,h.la,h.lb⟩
theorem qm.left (h:qm w0 w pa Wa Ga pb Wb Gb ga gb ps qs) (ha:bg Gb w' pa Wa' Ga') (st:Step Ga Ga' w w'):qm w0 w' pa Wa' Ga' pb Wb Gb ga gb ps qs :=
 ⟨h.t.left ha st,h.a.step (st.Jo (Y:=Gb)),h.b.step (st.Jo (Y:=Gb)),h.ne,h.la,h.lb⟩
theorem qm.right (h:qm w0 w pa Wa Ga pb Wb Gb ga gb ps qs) (hb:bg Ga w' pb Wb' Gb') (st:Step Gb Gb' w w'):qm w0 w' pa Wa Ga pb Wb' Gb' ga gb ps qs:=(h.swap.left hb st).swap
theorem qm.Mm (h:qm w0 w pa Wa Ga pb Wb Gb ga gb ps qs) (hm:cV w' ga (fun i=>Ga i∨Gb i) ps') (ht:Touch (aN ga) w w'):qm w0 w' pa Wa Ga pb Wb Gb ga gb ps' qs :=
 have hp:=uz h.a
 ⟨⟨h.t.a.plain ht (fun hg=>h.a.1 (.inl hg)) hp,h.t.b.plain ht (fun hg=>h.a.1 (.inr hg)) hp,h.t.off,h.t.below.trans (ht.below h.t.below.size fun i hi e=>by have e:i=ga:=e;have:=h.la;omega),h.t.na,h.t.nb⟩,hm,h.b.beside h.a (fun e=>h.ne e.symm) ht,h.ne,h.la,h.lb⟩
theorem qm.Ny (h:qm w0 w pa Wa Ga pb Wb Gb ga gb ps qs) (hm:cV w' gb (fun i=>Ga i∨Gb i) qs') (ht:Touch (aN gb) w w'):qm w0 w' pa Wa Ga pb Wb Gb ga gb ps qs' :=
 (h.swap.Mm (by rw [vH];exact hm) ht).swap
theorem qm.make {w1 w2:World} (ha:Own (fun _=>False) w0 w1 pa Wa Ga) (ma:cV w1 ga (fun i=>Ga i∨False) ps) (la:w0.heap.size≤ga) (hb:Own Ga w1 w2 pb Wb Gb) (mb:cV w2 gb (fun i=>Gb i∨Ga i) qs) (lb:w1.heap.size≤gb):qm w0 w2 pa Wa Ga pb Wb Gb ga gb ps qs :=
 ⟨Twin.make ha.at_ ha.below ha.new hb.at_ hb.below hb.new,(((ma.less (G:=fun i=>Ga i∨Gb i) fun i hi hl=>hi.elim .inl fun hg=>by have:=hb.new i hg;omega)).aj hb.below),by rw [vH];exact mb,fun e=>by have:=ma.M5;omega,la,Nat.le_trans ha.below.size lb⟩
theorem zF {w w':World} {a:Option Addr} {xs:List Int} {G G':Nat→Prop} {g k:Nat} {H:Nat→Prop} (h:aL w a xs fun i=>G i∨H i∨i=g∨i=k) (st:Step G G' w w'):aL w' a xs fun i=>G' i∨H i∨i=g∨i=k :=
 h.step (st.Jo (Y:=fun i=>H i∨i=g∨i=k))
theorem zG {w:World} {a:Option Addr} {xs:List Int} {F G H:Nat→Prop} (h:aL w a xs fun i=>F i∨G i∨H i):aL w a xs fun i=>G i∨F i∨H i :=
 ⟨h.1,fun b o e h0 hg=>h.2 b o e h0 (hg.elim (fun k=>.inr (.inl k)) (fun k=>k.elim .inl (fun k=>.inr (.inr k))))⟩
theorem nx {w w':World} {a:Option Addr} {xs:List Int} {G:Nat→Prop} (h:aL w a xs G) (hb:Below w.heap.size w w'):aL w' a xs G :=
 h.new (Touch.ah (F:=fun _=>False) hb) (fun _ h=>h.elim)
structure uW (w:World) (F G:Nat→Prop) (g h k:Nat) (o:Obj):Prop where
 at_:w.heap[k]? = some o
 nf : ¬ F k
 ng : ¬ G k
 n1:k≠g
 n2:k≠h
theorem uW.aj {w w':World} {F G:Nat→Prop} {g h k:Nat} {o:Obj} (l:uW w F G g h k o) (hb:Below w.heap.size w w'):uW w' F G g h k o:=⟨aa hb l.at_,l.nf,l.ng,l.n1,l.n2⟩
theorem uW.left {w w':World} {F F' G:Nat→Prop} {g h k:Nat} {o:Obj} (l:uW w F G g h k o) (st:Step F F' w w'):uW w' F' G g h k o:=⟨st.aH.at l.at_ l.nf,st.safe (aO l.at_) l.nf,l.ng,l.n1,l.n2⟩
theorem uW.right {w w':World} {F G G':Nat→Prop} {g h k:Nat} {o:Obj} (l:uW w F G g h k o) (st:Step G G' w w'):uW w' F G' g h k o:=⟨st.aH.at l.at_ l.ng,l.nf,st.safe (aO l.at_) l.ng,l.n1,l.n2⟩
theorem uW.told {w w':World} {F G:Nat→Prop} {g h k:Nat} {o:Obj} (l:uW w F G g h k o) (t:Touch (fun i=>i=g∨i=h) w w'):w'.heap[k]? = some o:=t.at l.at_ (fun e=>e.elim l.n1 l.n2)
theorem qm.Hp (h:qm w0 w pa Wa Ga pb Wb Gb ga gb ps qs) {w1:World} {k:Nat} {o:Obj} (hk:w1.heap[k]? = some o) (hl:w.heap.size≤k):uW w1 Ga Gb ga gb k o :=
 ⟨hk,fun hg=>by have:=h.t.a.lt k hg;omega,fun hg=>by have:=h.t.b.lt k hg;omega,fun e=>by have:=h.a.M5;omega,fun e=>by have:=h.b.M5;omega⟩
theorem qm.lt (h:qm w0 w pa Wa Ga pb Wb Gb ga gb ps qs) : ∀ i,(Ga i∨Gb i)→i<w.heap.size:=fun i hi=>hi.elim (h.t.a.lt i) (h.t.b.lt i)
end
section
open Go.RowKit
variable {X:Nat→Prop}
def NX (X:Nat→Prop) (p n:Nat) (x1 img:ByteArray) (S1:aA) (G:Nat→Prop) (w:World) (e:Ending) (w':World):Prop :=
 ∃ W' va vc vb vd,e=.returned (.tuple #[.agg #[.string ⟨#[]⟩,.slice va 0 vc,.slice vb n vd,.bool false],.int .i64 0])∧sU W' x1 img∧W'.S=S1 ∧ ∃ G',bg X w' p W' G'∧Step G G' w w'
theorem xC (p:Nat) (W:fT) (G:Nat→Prop) (k:ByteArray) (rs:List Int) (ba:Option Addr) (bc:Nat) (ra:Option Addr) (rc:Nat) (y img:ByteArray) (w:World) (h:bg X w p W G) (n:sU W y img) {ps:List aJ} {E:Int} (ho:dJ y W.S ps E) (hE:E<1048576) (hf:By ps) (hk:k ∈ gY) (hl:rs.length≤16) (hr : ∀ x ∈ rs,0≤x∧x<2048) (hb:aP w ba [150]) (hbn:ba=none→bc=0) (hi:aL w ra rs G) (hcap:rs.length≤rc):Calls prog 11 #[.pointer (some ⟨p,0,none⟩),.agg #[.int .i64 2,.string k,.string pw,.int .i64 0,.int .i64 0,.int .i64 0,.string ⟨#[]⟩,.slice ba 1 bc,.slice ra rs.length rc]] w (NX X p rs.length (kF y img W.S k pw []).1 img (kF y img W.S k pw []).2.1 G w):=by
 have:=zO p W G (qL k rs) ba bc ra rc y img w h n ho.fit rfl (show (2:Int)≠7 by decide) hb hbn hi hcap (show 1≤4611686018427387904 by decide) (show rs.length≤4611686018427387904 by omega)
 rw [(vJ (img:=img) ho hE hf hk hl hr).1] at this
 refine this.mono ?_
 rintro e w' ⟨W',k1,k2,va,vc,vb,vd,rfl,_,_,G',h1,h2,_⟩
 exact ⟨W',va,vc,vb,vd,by rw [show (⟨⟨#[]⟩,[],rs.map (j7 img),false⟩:ey).reads.length=rs.length from List.length_map _];rfl,k1,k2,G',h1,h2⟩
theorem uP (g:Nat) (G:Nat→Prop) (ps:List aJ) (k:ByteArray) (rs:List Int) (ba:Option Addr) (bc:Nat) (ra:Option Addr) (rc:Nat) (va:Option Addr) (vc:Nat) (vb:Option Addr) (vd:Nat) (w:World) (hm:cV w g G ps) (hG : ∀ i,G i→i<w.heap.size) {y img:ByteArray} {S:aA} {E:Int} (ho:dJ y S ps E) (hE:E<1048576) (hf:By ps) (hk:k ∈ gY) (hl:rs.length≤16) (hr : ∀ x ∈ rs,0≤x∧x<2048) (hi:aP w ra rs):Calls prog 12 #[.pointer (some ⟨g,0,none⟩),.agg #[.int .i64 2,.string k,.string pw,.int .i64 0,.int .i64 0,.int .i64 0,.string ⟨#[]⟩,.slice ba 1 bc,.slice ra rs.length rc],.agg #[.string ⟨#[]⟩,.slice va 0 vc,.slice vb rs.length vd,.bool false],.int .i64 0] w (vX g G (eB k pw ps) w) :=
 yj g G ps (eB k pw ps) (qL k rs) ba bc ra rc ⟨#[]⟩ va 0 vc vb rs.length vd 0 w (vJ (img:=img) ho hE hf hk hl hr).2.2 (fun h=>absurd rfl h) hm hG (.inl rfl) (by show 1≤k.size;rw [oM hk];decide) (by show k.size≤6;rw [oM hk];decide) (show pw.size≤20 by decide) hi (fun i h=>(hr _ (List.getElem_mem h)).2) ho.kept.sorted.1 ho.kept.sorted.2 (show rs.length≤1000000 by omega)
theorem ym (t:ByteArray) (a:Option Addr) (c:Nat) (rows:List Int) (b:Option Addr) (d:Nat) (reads:List Int) (w:World) (ht:t.size<140737488355328) (hr:aP w a rows) (hn:rows.length≤9223372036854775807) (hs:aP w b reads) (hsn:reads.length≤9223372036854775807):Calls prog 3 #[.string t,.slice a rows.length c,.slice b reads.length d] w fun e w'=>e=.returned (.bool true)∧Below w.heap.size w w':=by
 have HA:=zH (BT w)
 have HBG:=zH (fun (X:Nat→Prop) w' (hb:Below w.heap.size w w') (hX : ∀ i,X i→i<w'.heap.size)=>(show Calls prog 10 #[.string t,.slice a rows.length c,.int .i64 6] w' (IN X w' (jF t) (fun i=>rows.getD i 0) (min rows.length 6)) from AP t a c rows 6 w' ht (hr.aj hb) hn (by decide) hX))
 have HM:=zH vG
 obtain ⟨i0,hi,hz0,hz1,hz2⟩:=info_parts iq
 have HRD:=zH hs
 have hmn:min rows.length 6≤6:=Nat.min_le_right _ _
 clear hr hs
 generalize jF t=img at *
 generalize (fun i=>rows.getD i 0)=f at *
 generalize min rows.length 6=nr at *
 go_enter func3,ntmps3
 go_upto_region 3 with (go_at_call 9;refine HA.out.mono ?_;rintro e w1 ⟨rfl,hb1⟩)
 go_upto_region 4 with (go_at_call 10;refine (HBG.out (fun _=>False) _ hb1 (fun _ h=>h.elim)).mono ?_;rintro e w2 ⟨pa,Wa,Ga,ga,ps,rfl,ho,hn0,hs0,hop,hmo,hg,hf⟩)
 have HO:=zH (zA (show Own (fun _=>False) w w2 pa Wa Ga from ⟨ho.at_,gtr hb1 ho.below,fun i hi=>Nat.le_trans hb1.size (ho.new i hi)⟩) (zA hn0 (zA hs0 (zA hop (zA hmo (zA (Nat.le_trans hb1.size hg) hf))))))
 clear ho hn0 hs0 hop hmo hg hf hb1 HA
 go_upto_region 5 with (go_at_call 10;refine (HBG.out Ga _ HO.out.1.below (HO.out.1.at_.lt)).mono ?_;rintro e w3 ⟨pb,Wb,Gb,gb,qs,rfl,ho,hn0,hs0,hop,hmo,hg,hf⟩)
 have HD:=zH (zA (qm.make HO.out.1 HO.out.2.2.2.2.1 HO.out.2.2.2.2.2.1 ho hmo hg) (zA HO.out.2.1 (zA hn0 (zA HO.out.2.2.1 (zA hs0 (zA (HO.out.2.2.2.1.more (show (1:Int)+nr≤10 by omega)) (zA (hop.more (show (1:Int)+nr≤10 by omega)) (zA HO.out.2.2.2.2.2.2 hf))))))))
 clear ho hn0 hs0 hop hmo hg hf HO HBG
 generalize lC img f nr=r0 at *
 obtain ⟨y0,S0⟩:=r0
 simp only at HD
 go_upto_block 0 with fail
 go_cut [11,12] from 40 to 59 (fun v i wx => ∃ (l:List Int) (xa:Option Addr) (xc:Nat),v=.slice xa l.length xc∧Below w3.heap.size w3 wx∧wx.ownsRow w3.heap.size 3 1 (.slice xa l.length xc) l.length (aB l)∧l.length≤16 ∧ ∀ x ∈ l,0≤x∧x<2048)
 case first =>
  go_wp2
  go_loopw [11,12] (fun v i wr => ∃ (j:Nat) (l:List Int) (xa:Option Addr) (xc:Nat),i=.int .i64 j∧j≤reads.length∧j≤16∧v=.slice xa j xc∧l.length=j∧Below w3.heap.size w3 wr∧wr.ownsRow w3.heap.size 3 1 (.slice xa j xc) j (aB l) ∧ ∀ x ∈ l,0≤x∧x<2048) (fun _ i _=>16 - (intOf i).toNat)
  case atStart=>exact ⟨0,[],none,0,rfl,Nat.zero_le _,Nat.zero_le _,rfl,rfl,Below.refl _ _,zN,fun x h=>by cases h⟩
  case round =>
   obtain ⟨j,l,xa,xc,rfl,hj1,hj2,rfl,hll,hbl,hol,hrl⟩:=hrel
   have HL:=zH (zA hll (zA hbl (zA hol hrl)))
   clear hll hbl hol hrl
   by_cases hlt:j<reads.length∧j<16
   ·
    obtain ⟨hl1,hl2⟩:=hlt
    have hi1:(j:Int)<(reads.length:Int):=by omega
    have hi2:(j:Int)<16:=by omega
    obtain ⟨bb,off,rfl,hcell⟩:=(HRD.out.aj (HD.out.1.t.below.trans (HL.out.2.1.mono HD.out.1.t.below.size))) j hl1
    generalize reads.getD j 0=z at *
    obtain ⟨U,hU1⟩ : ∃ U:Nat,IntKind.u64.wrap z=(U:Int):=⟨(IntKind.u64.wrap z).toNat,by rw [IntKind.wrap_u64];omega⟩
    have hU2:z % 18446744073709551616=(U:Int):=by rw [← IntKind.wrap_u64];exact hU1
    obtain ⟨q,hq⟩ : ∃ q:Nat,q=U % 2048:=⟨_,rfl⟩
    have hq1:Int.tmod (U:Int) 2048=(q:Int):=by rw [Int.tmod_eq_emod_of_nonneg (by omega)];omega
    have hq2:(U:Int) % 2048=(q:Int):=by omega
    have hq7:q<2048:=by omega
    have hqw:IntKind.i64.wrap (q:Int)=(q:Int):=cX (by omega) (by omega)
    have hqv:IntKind.u64.wrap (q:Int)=(q:Int):=by rw [IntKind.wrap_u64];omega
    have HQ7:=zH hq7
    clear hq hq7
    go_wp2_with (at_builtin;refine wpList_append_lies _ rfl _ _ 22 rfl w3.heap.size 3 i0 (.int .i64 0) 1 8 underlying22 hi hz0 hz1 hz2 rfl (by decide) (.slice xa j xc) j (aB l) rfl (World.ownsRow.aj HL.out.2.2.1 (ae zR _)) ⟨wr.heap.size,0,none⟩ 1 1 [.int .i64 q] rfl rfl (World.news_of_block (cs := #[.int .i64 q]) (t:=3) (fr:=(0,0)) (af wr _)) (fun u hu=>by simp only [List.mem_cons,List.not_mem_nil,or_false] at hu;rcases hu with rfl;rfl) (by decide) (by simp only [maxLen];omega) (by omega) (Nat.le_trans HL.out.2.1.size (by simp)) _ rfl ?_)
    intro g4 cap4 w7 how hgr _ _
    have hgr2:=fw (ae (Below.refl wr.heap.size wr) (.cells #[.int .i64 q] 3)) hgr
    have HN:=zH (zA (jJ HL.out.2.1 (bZ HL.out.2.2.1) hgr2) (show w7.ownsRow w3.heap.size 3 1 (.slice (some ⟨g4,0,none⟩) (j+1) cap4) (j+1) (aB (l++[(q:Int)])) from by unfold aB at how ⊢;rw [List.map_append];exact how))
    clear how hgr hgr2 hcell
    go_wp2
    go_roundw
    case rel=>exact ⟨j+1,l++[(q:Int)],some ⟨g4,0,none⟩,cap4,by go_num,by omega,by omega,rfl,by rw [List.length_append,HL.out.1];rfl,HN.out.1,HN.out.2,fun x hx=>by
     rcases List.mem_append.1 hx with hx | hx
     ·
      exact HL.out.2.2.2 x hx
     ·
      rw [List.mem_singleton.1 hx];have:=HQ7.out;omega⟩
    case measure=>simp [intOf];omega
   ·
    have hmeet : ∃ (l':List Int) (xa':Option Addr) (xc':Nat),(Value.slice xa j xc)=.slice xa' l'.length xc'∧Below w3.heap.size w3 wr∧wr.ownsRow w3.heap.size 3 1 (.slice xa' l'.length xc') l'.length (aB l')∧l'.length≤16 ∧ ∀ x ∈ l',0≤x∧x<2048:=⟨l,xa,xc,by rw [HL.out.1],HL.out.2.1,by rw [HL.out.1];exact HL.out.2.2.1,by rw [HL.out.1];exact hj2,HL.out.2.2.2⟩
    have HME:=zH hmeet
    clear hmeet
    by_cases hlu:j<reads.length
    ·
     have hi1:(j:Int)<(reads.length:Int):=by omega
     have hi2 : ¬ (j:Int)<16:=by omega
     clear hlt
     go_wp2
     go_meet
     exact HME.out
    ·
     have hi1 : ¬ (j:Int)<(reads.length:Int):=by omega
     clear hlt
     go_wp2
     go_meet
     exact HME.out
 case rest =>
  obtain ⟨rs,xa,xc,rfl,hbl,hol,hrl,hrv⟩:=hcut
  obtain ⟨w4,hw4⟩ : ∃ q,q=wc:=⟨_,rfl⟩
  subst hw4
  have hri:=J7 hol
  have HS:=zH (show aL w4 xa rs (fun i=>Ga i∨Gb i∨i=ga∨i=gb) from ⟨hri.1,fun b o e h0 hg=>by
   have h1:=hri.2.2.2 b o e
   rcases hg with hg | hg | hg | hg
   ·
    have:=HD.out.1.t.a.lt b hg;omega
   ·
    have:=HD.out.1.t.b.lt b hg;omega
   ·
    have:=HD.out.1.a.M5;omega
   ·
    have:=HD.out.1.b.M5;omega⟩)
  have HC:=zH (zA hrl (zA hrv hri.2.2.1))
  have HD4:=zH (zA (HD.out.1.aj hbl) HD.out.2)
  clear hri hbl hol hrl hrv HD HRD
  go_wp2
  go_loopw [13] (fun i wr => ∃ k:Nat,i=.int .i64 k∧k≤9 ∧ ∃ Wa Ga Wb Gb y ps qs,qm w wr pa Wa Ga pb Wb Gb ga gb ps qs∧sU Wa y img∧sU Wb y img∧Wb.S=Wa.S∧dJ y Wa.S ps (10+k)∧dJ y Wa.S qs (10+k)∧By ps∧By qs∧aL wr xa rs (fun i=>Ga i∨Gb i∨i=ga∨i=gb)) (fun i _=>9 - (intOf i).toNat)
  case atStart=>exact ⟨0,rfl,Nat.zero_le _,Wa,Ga,Wb,Gb,y0,ps,qs,HD4.out.1,HD4.out.2.1,HD4.out.2.2.1,HD4.out.2.2.2.2.1.trans HD4.out.2.2.2.1.symm,HD4.out.2.2.2.2.2.1,by have h:=HD4.out.2.2.2.2.2.2.1;rw [HD4.out.2.2.2.2.1,← HD4.out.2.2.2.1] at h;exact h,HD4.out.2.2.2.2.2.2.2.1,HD4.out.2.2.2.2.2.2.2.2,HS.out⟩
  case round =>
   obtain ⟨k,rfl,hk,Wa,Ga,Wb,Gb,y,ps,qs,hdu,hna,hnb,hse,hop,hoq,hfp,hfq,hrs⟩:=hrel
   have HR:=zH (zA hdu (zA hna (zA hnb (zA hse (zA hop (zA hoq (zA hfp (zA hfq hrs))))))))
   clear hdu hna hnb hse hop hoq hfp hfq hrs HD4 HS
   by_cases hlt:k<9
   ·
    have hi1:(k:Int)<9:=by omega
    obtain ⟨K,hK,hkk⟩ : ∃ K:UInt8,IntKind.u8.wrap (97+bits .and .i64 (k:Int) 3)=(K.toNat:Int)∧(⟨#[K]⟩:ByteArray) ∈ gY:=⟨UInt8.ofNat (97+k % 4),by
     rw [KS,IntWalk.u8_in _ (by omega)]
     simp
     omega,JN _ (by omega)⟩
    have hKw:IntKind.i64.wrap (97+bits .and .i64 (k:Int) 3)=97+bits .and .i64 (k:Int) 3:=by rw [KS];exact cX (by omega) (by omega)
    have hcv1:=byte_back K (K.toNat:Int) rfl
    have hca:=FE wr
    have hcb:=FF wr
    have hcc:=FG wr
    have hcd:=FH wr
    have hce:=FI wr
    have HKK:=zH hkk
    clear hkk hlt
    go_upto_region 15 with fail
    go_cut [14] from 60 to 119 (fun v wx => ∃ gA gI,wx.heap[gA]? = some (.cells #[.int .i64 2,.string ⟨#[K]⟩,.string ⟨#[118]⟩,.int .i64 0,.int .i64 0,.int .i64 0,.string ⟨#[]⟩,.slice (some ⟨gI,0,none⟩) 1 1,.slice xa rs.length xc] 31 (0,0))∧wx.heap[gI]? = some (.cells #[.int .i64 150] 3 (0,0))∧v=.pointer (some ⟨gA,0,none⟩)∧Below wr.heap.size wr wx∧wr.heap.size≤gA∧wr.heap.size≤gI)
    case first =>
     go_wp2
     go_meet
     exact ⟨wr.heap.size+1+1,wr.heap.size+1,ts wr _ _ _,aa (ae zR _) (rL wr _ _),rfl,ae (ae (ae zR _) _) _,by omega,by omega⟩
    case rest =>
     obtain ⟨gA,gI,hza,hzi,rfl,hb5,hgA,hgI⟩:=hcut
     obtain ⟨w5,hw5⟩ : ∃ q,q=wc:=⟨_,rfl⟩
     subst hw5
     have HR5:=zH (zA (HR.out.1.aj hb5) (zA (nx HR.out.2.2.2.2.2.2.2.2 hb5) (zA (HR.out.1.Hp hza hgA) (HR.out.1.Hp hzi hgI))))
     have z1:w5.cell? ⟨gA,1,none⟩=some (.string ⟨#[K]⟩):=cell_of hza 1
     have hgl:=aO hza
     have hn0:gA≠w5.heap.size:=by omega
     have hn1:gA≠w5.heap.size+1:=by omega
     clear hcv1 hca hcb hcc hcd hce hK hKw hza hzi hb5 hgA hgI hgl
     go_upto_region 16 with fail
     go_cut [15] from 60 to 119 (fun v wx => ∃ gB gJ,wx.heap[gB]? = some (.cells #[.int .i64 2,.string ⟨#[K]⟩,.string ⟨#[118]⟩,.int .i64 0,.int .i64 0,.int .i64 0,.string ⟨#[]⟩,.slice (some ⟨gJ,0,none⟩) 1 1,.slice none 0 0] 31 (0,0))∧wx.heap[gJ]? = some (.cells #[.int .i64 150] 3 (0,0))∧v=.pointer (some ⟨gB,0,none⟩)∧Below w5.heap.size w5 wx∧w5.heap.size≤gB∧w5.heap.size≤gJ)
     case first =>
      go_wp2
      go_meet
      exact ⟨w5.heap.size+1,w5.heap.size,rL w5 _ _,aa (ae zR _) (af w5 _),rfl,ae (ae zR _) _,by omega,by omega⟩
     case rest =>
      obtain ⟨gB,gJ,hzb,hzj,rfl,hb6,hgB,hgJ⟩:=hcut
      obtain ⟨w6,hw6⟩ : ∃ q,q=wc:=⟨_,rfl⟩
      subst hw6
      generalize hkd:(⟨#[K]⟩:ByteArray)=kk at *
      clear hkd z1 hn0 hn1
      have HR6:=zH (zA (HR5.out.1.aj hb6) (zA (nx HR5.out.2.1 hb6) (zA (HR5.out.2.2.1.aj hb6) (zA (HR5.out.2.2.2.aj hb6) (zA (HR5.out.1.Hp hzb hgB) (HR5.out.1.Hp hzj hgJ))))))
      clear hzb hzj hb6 hgB hgJ HR5
      have HD1:=zH (xC pa Wa Ga kk rs (some ⟨gI,0,none⟩) 1 xa xc y img w6 HR6.out.1.t.a HR.out.2.1 HR.out.2.2.2.2.1 (show (10:Int)+k<1048576 by omega) HR.out.2.2.2.2.2.2.1 HKK.out HC.out.1 HC.out.2.1 (EK (cell_of HR6.out.2.2.2.1.at_ 0)) (fun h=>by cases h) (HR6.out.2.1.mono fun i h=>.inl h) HC.out.2.2)
      have HDB:=zH (fun (W':fT) (G':Nat→Prop) (w':World) (hT:qm w w' pa W' G' pb Wb Gb ga gb ps qs) (hJ:w'.heap[gJ]? = some (.cells #[.int .i64 150] 3 (0,0)))=>xC pb Wb Gb kk [] (some ⟨gJ,0,none⟩) 1 none 0 y img w' hT.t.b HR.out.2.2.1 (by rw [HR.out.2.2.2.1];exact HR.out.2.2.2.2.2.1) (show (10:Int)+k<1048576 by omega) HR.out.2.2.2.2.2.2.2.1 HKK.out zX (fun x h=>by cases h) (EK (cell_of hJ 0)) (fun h=>by cases h) ⟨aP.nil _ _,fun b o e=>by cases e⟩ zY)
      rw [HR.out.2.2.2.1] at HDB
      have HPD:=zH (zA (vJ (img:=img) HR.out.2.2.2.2.1 (show (10:Int)+k<1048576 by omega) HR.out.2.2.2.2.2.2.1 HKK.out HC.out.1 HC.out.2.1).2.1 (vJ (img:=img) HR.out.2.2.2.2.2.1 (show (10:Int)+k<1048576 by omega) HR.out.2.2.2.2.2.2.2.1 HKK.out HC.out.1 HC.out.2.1).2.1)
      generalize kF y img Wa.S kk pw []=px at *
      obtain ⟨y1,S1,ro,er⟩:=px
      simp only at HD1 HDB HPD
      rw [show (⟨#[118]⟩:ByteArray)=pw from rfl] at *
      obtain ⟨z0,z1,z2,z3,z4,z5,z6,z7,z8,zf⟩:=vm HR6.out.2.2.1.at_
      go_upto_region 18 with (go_at_call 11;refine HD1.out.mono ?_;rintro e w7 ⟨W2,va,vc,vb,vd,rfl,n2,hs2,G2,hw2,st2⟩)
      have hD7:=HR6.out.1.left hw2 st2
      have hb8:=ae (Below.refl w7.heap.size w7) (.cells #[.string ⟨#[]⟩,.slice va 0 vc,.slice vb rs.length vd,.bool false] 34)
      have HR8:=zH (zA (hD7.aj hb8) (zA (nx (zF HR6.out.2.1 st2) hb8) (zA ((HR6.out.2.2.1.left st2).aj hb8) (zA ((HR6.out.2.2.2.1.left st2).aj hb8) (zA ((HR6.out.2.2.2.2.1.left st2).aj hb8) (zA ((HR6.out.2.2.2.2.2.left st2).aj hb8) (zA (hD7.Hp (af w7 (.cells #[.string ⟨#[]⟩,.slice va 0 vc,.slice vb rs.length vd,.bool false] 34)) zY) (zA n2 hs2))))))))
      generalize Value.agg #[.string ⟨#[]⟩,.slice va 0 vc,.slice vb rs.length vd,.bool false]=vag at *
      generalize hw8:w7.alloc (.cells #[.string ⟨#[]⟩,.slice va 0 vc,.slice vb rs.length vd,.bool false] 34)=w8 at *
      generalize w7.heap.size=bA at *
      clear hw8 hb8 hD7 n2 hs2 hw2 st2 HD1 z0 z1 z2 z3 z4 z5 z6 z7 z8 zf HR6
      obtain ⟨z0,z1,z2,z3,z4,z5,z6,z7,z8,zf⟩:=vm HR8.out.2.2.2.2.1.at_
      have HD2:=zH (HDB.out W2 G2 w8 HR8.out.1 HR8.out.2.2.2.2.2.1.at_)
      rw [show ([]:List Int).length=0 from rfl] at HD2
      go_upto_region 19 with (go_at_call 11;refine HD2.out.mono ?_;rintro e w9 ⟨W3,va2,vc2,vb2,vd2,rfl,n3,hs3,G3,hw3,st3⟩)
      have hD9:=HR8.out.1.right hw3 st3
      have hb10:=ae (Below.refl w9.heap.size w9) (.cells #[.string ⟨#[]⟩,.slice va2 0 vc2,.slice vb2 0 vd2,.bool false] 34)
      have HDU:=zH (hD9.aj hb10)
      have HRS:=zH (nx (zG (zF (zG HR8.out.2.1) st3)) hb10)
      have HLS:=zH (zA ((HR8.out.2.2.1.right st3).aj hb10) (zA ((HR8.out.2.2.2.2.1.right st3).aj hb10) (zA ((HR8.out.2.2.2.2.2.2.1.right st3).aj hb10) (hD9.Hp (af w9 (.cells #[.string ⟨#[]⟩,.slice va2 0 vc2,.slice vb2 0 vd2,.bool false] 34)) zY))))
      have HNN:=zH (zA HR8.out.2.2.2.2.2.2.2.1 (zA n3 (hs3.trans HR8.out.2.2.2.2.2.2.2.2.symm)))
      have HS2:=zH HR8.out.2.2.2.2.2.2.2.2
      generalize Value.agg #[.string ⟨#[]⟩,.slice va2 0 vc2,.slice vb2 0 vd2,.bool false]=vag2 at *
      generalize hw10:w9.alloc (.cells #[.string ⟨#[]⟩,.slice va2 0 vc2,.slice vb2 0 vd2,.bool false] 34)=w10 at *
      generalize w9.heap.size=bB at *
      clear hw10 hb10 hD9 n3 hs3 hw3 st3 HD2 HDB z0 z1 z2 z3 z4 z5 z6 z7 z8 zf HR8
      have HS19:=zH (fun (w':World) (t:Touch (fun i=>i=ga∨i=gb) w10 w')=>(show w'.cell? ⟨gA,0,none⟩=some (.int .i64 2)∧w'.cell? ⟨gA,1,none⟩=some (.string kk)∧w'.cell? ⟨gA,2,none⟩=some (.string pw)∧w'.cell? ⟨gA,3,none⟩=some (.int .i64 0)∧w'.cell? ⟨gA,4,none⟩=some (.int .i64 0)∧w'.cell? ⟨gA,5,none⟩=some (.int .i64 0)∧w'.cell? ⟨gA,6,none⟩=some (.string ⟨#[]⟩)∧w'.cell? ⟨gA,7,none⟩=some (.slice (some ⟨gI,0,none⟩) 1 1)∧w'.cell? ⟨gA,8,none⟩=some (.slice xa rs.length xc)∧w'.cell? ⟨gB,0,none⟩=some (.int .i64 2)∧w'.cell? ⟨gB,1,none⟩=some (.string kk)∧w'.cell? ⟨gB,2,none⟩=some (.string pw)∧w'.cell? ⟨gB,3,none⟩=some (.int .i64 0)∧w'.cell? ⟨gB,4,none⟩=some (.int .i64 0)∧w'.cell? ⟨gB,5,none⟩=some (.int .i64 0)∧w'.cell? ⟨gB,6,none⟩=some (.string ⟨#[]⟩)∧w'.cell? ⟨gB,7,none⟩=some (.slice (some ⟨gJ,0,none⟩) 1 1)∧w'.cell? ⟨gB,8,none⟩=some (.slice none 0 0)∧w'.cell? ⟨bA,0,none⟩=some (.string ⟨#[]⟩)∧w'.cell? ⟨bA,1,none⟩=some (.slice va 0 vc)∧w'.cell? ⟨bA,2,none⟩=some (.slice vb rs.length vd)∧w'.cell? ⟨bA,3,none⟩=some (.bool false)∧w'.cell? ⟨bB,0,none⟩=some (.string ⟨#[]⟩)∧w'.cell? ⟨bB,1,none⟩=some (.slice va2 0 vc2)∧w'.cell? ⟨bB,2,none⟩=some (.slice vb2 0 vd2)∧w'.cell? ⟨bB,3,none⟩=some (.bool false) from by
       have hA:=HLS.out.1.told t
       have hB:=HLS.out.2.1.told t
       have hx:=HLS.out.2.2.1.told t
       have hy:=HLS.out.2.2.2.told t
       exact ⟨cell_of hA 0,cell_of hA 1,cell_of hA 2,cell_of hA 3,cell_of hA 4,cell_of hA 5,cell_of hA 6,cell_of hA 7,cell_of hA 8,cell_of hB 0,cell_of hB 1,cell_of hB 2,cell_of hB 3,cell_of hB 4,cell_of hB 5,cell_of hB 6,cell_of hB 7,cell_of hB 8,cell_of hx 0,cell_of hx 1,cell_of hx 2,cell_of hx 3,cell_of hy 0,cell_of hy 1,cell_of hy 2,cell_of hy 3⟩))
      have HT1:=zH (fun (w':World) (hb:Below w10.heap.size w10 w')=>uP ga (fun i=>G2 i∨G3 i) ps kk rs (some ⟨gI,0,none⟩) 1 xa xc va vc vb vd w' (HDU.out.a.aj hb) (HDU.out.aj hb).lt (img:=img) HR.out.2.2.2.2.1 (show (10:Int)+k<1048576 by omega) HR.out.2.2.2.2.2.2.1 HKK.out HC.out.1 HC.out.2.1 (HRS.out.1.aj hb))
      have HT20:=zH (fun (w':World) (h:qm w w' pa W2 G2 pb W3 G3 ga gb (eB kk pw ps) qs)=>uP gb (fun i=>G2 i∨G3 i) qs kk [] (some ⟨gJ,0,none⟩) 1 none 0 va2 vc2 vb2 vd2 w' h.b h.lt (img:=img) HR.out.2.2.2.2.2.1 (show (10:Int)+k<1048576 by omega) HR.out.2.2.2.2.2.2.2.1 HKK.out zX (fun x h=>by cases h) (aP.nil _ _))
      rw [show ([]:List Int).length=0 from rfl] at HT20
      have HCA:=zH (fun (w':World) (h:qm w w' pa W2 G2 pb W3 G3 ga gb (eB kk pw ps) (eB kk pw qs))=>jO pa W2 G2 w' h.t.a)
      have HCB:=zH (fun (w':World) (h:qm w w' pa W2 G2 pb W3 G3 ga gb (eB kk pw ps) (eB kk pw qs))=>jO pb W3 G3 w' h.t.b)
      rw [HNN.out.1.calm.cells] at HCA
      rw [HNN.out.2.1.calm.cells] at HCB
      have hse:(y1.toList != y1.toList)=false:=by rw [bne_self_eq_false]
      refine wp_region_noPanic ?_
      refine wp_region_held_drew (S:=(fun w':World=>w'.cell? ⟨gA,0,none⟩=some (.int .i64 2)∧w'.cell? ⟨gA,1,none⟩=some (.string kk)∧w'.cell? ⟨gA,2,none⟩=some (.string pw)∧w'.cell? ⟨gA,3,none⟩=some (.int .i64 0)∧w'.cell? ⟨gA,4,none⟩=some (.int .i64 0)∧w'.cell? ⟨gA,5,none⟩=some (.int .i64 0)∧w'.cell? ⟨gA,6,none⟩=some (.string ⟨#[]⟩)∧w'.cell? ⟨gA,7,none⟩=some (.slice (some ⟨gI,0,none⟩) 1 1)∧w'.cell? ⟨gA,8,none⟩=some (.slice xa rs.length xc)∧w'.cell? ⟨gB,0,none⟩=some (.int .i64 2)∧w'.cell? ⟨gB,1,none⟩=some (.string kk)∧w'.cell? ⟨gB,2,none⟩=some (.string pw)∧w'.cell? ⟨gB,3,none⟩=some (.int .i64 0)∧w'.cell? ⟨gB,4,none⟩=some (.int .i64 0)∧w'.cell? ⟨gB,5,none⟩=some (.int .i64 0)∧w'.cell? ⟨gB,6,none⟩=some (.string ⟨#[]⟩)∧w'.cell? ⟨gB,7,none⟩=some (.slice (some ⟨gJ,0,none⟩) 1 1)∧w'.cell? ⟨gB,8,none⟩=some (.slice none 0 0)∧w'.cell? ⟨bA,0,none⟩=some (.string ⟨#[]⟩)∧w'.cell? ⟨bA,1,none⟩=some (.slice va 0 vc)∧w'.cell? ⟨bA,2,none⟩=some (.slice vb rs.length vd)∧w'.cell? ⟨bA,3,none⟩=some (.bool false)∧w'.cell? ⟨bB,0,none⟩=some (.string ⟨#[]⟩)∧w'.cell? ⟨bB,1,none⟩=some (.slice va2 0 vc2)∧w'.cell? ⟨bB,2,none⟩=some (.slice vb2 0 vd2)∧w'.cell? ⟨bB,3,none⟩=some (.bool false))) (by kernel_rfl) (by (try dsimp only);exact HS19.out _ (Touch.ah (au zR))) fun hHeld => ?_
      refine tk 0 ?_
      refine tk 1 ?_
      refine tk 2 ?_
      refine tk 3 ?_
      refine tr 4 fun K hK => ?_
      go_simp
      go_at_call 13
      refine (HM.out _ _).mono ?_
      rintro e wx ⟨rfl,rfl⟩
      go_wp2_with fail
      refine hK.out _ _ (by (try dsimp only);exact HS19.out _ (Touch.ah (au zR))) fun hHeld => ?_
      clear hK K
      try simp only [Act.put,zS,zT,zU]
      refine tr 5 fun K hK => ?_
      go_simp
      go_at_call 12
      refine (HT1.out _ (au zR)).mono ?_
      rintro e w11 ⟨rfl,hm11,ht11⟩
      have HD1:=zH ((HDU.out.aj (au zR)).Mm hm11 ht11)
      have HT2:=zH (HT20.out _ HD1.out)
      have t11:=(Touch.ah (F:=fun i=>i=ga∨i=gb) (au (Below.refl w10.heap.size w10))).trans (ht11.mono fun i hi=>.inl hi)
      have HI11:=zH (dr (HRS.out.1.aj (au zR)) ht11 (fun b o e h0 hi=>HRS.out.2 b o e h0 (.inr (.inr (.inl hi)))))
      clear hm11 ht11
      go_wp2_with fail
      refine hK.out _ _ (by (try dsimp only);exact HS19.out _ t11) fun hHeld => ?_
      clear hK K
      try simp only [Act.put,zS,zT,zU]
      refine tk 6 ?_
      refine tk 7 ?_
      refine tk 8 ?_
      refine tk 9 ?_
      refine tk 10 ?_
      refine tk 11 ?_
      refine tr 12 fun K hK => ?_
      go_simp
      go_at_call 13
      refine (HM.out _ _).mono ?_
      rintro e wx ⟨rfl,rfl⟩
      go_wp2_with fail
      refine hK.out _ _ (by (try dsimp only);exact HS19.out _ t11) fun hHeld => ?_
      clear hK K
      try simp only [Act.put,zS,zT,zU]
      refine tr 13 fun K hK => ?_
      go_simp
      go_at_call 12
      refine HT2.out.mono ?_
      rintro e w12 ⟨rfl,hm12,ht12⟩
      have HD2:=zH (HD1.out.Ny hm12 ht12)
      have t12:=t11.trans (ht12.mono fun i hi=>.inr hi)
      have HI12:=zH (dr HI11.out ht12 (fun b o e h0 hi=>HRS.out.2 b o e h0 (.inr (.inr (.inr hi)))))
      clear hm12 ht12
      go_wp2_with fail
      refine hK.out _ _ (by (try dsimp only);exact HS19.out _ t12) fun hHeld => ?_
      clear hK K
      try simp only [Act.put,zS,zT,zU]
      refine tk 14 ?_
      refine tk 15 ?_
      refine tk 16 ?_
      refine tk 17 ?_
      refine tk 18 ?_
      refine tk 19 ?_
      refine tk 20 ?_
      refine tk 21 ?_
      refine tk 22 ?_
      refine tk 23 ?_
      refine tk 24 ?_
      refine tk 25 ?_
      refine tk 27 ?_
      refine tr 26 fun K hK => ?_
      go_simp
      go_at_call 14
      refine (HCA.out _ HD2.out).mono ?_
      rintro e wx ⟨rfl,rfl⟩
      go_wp2_with fail
      refine hK.out _ _ (by (try dsimp only);exact HS19.out _ t12) fun hHeld => ?_
      clear hK K
      try simp only [Act.put,zS,zT,zU]
      refine tr 28 fun K hK => ?_
      go_simp
      go_at_call 14
      refine (HCB.out _ HD2.out).mono ?_
      rintro e wx ⟨rfl,rfl⟩
      go_wp2_with fail
      refine hK.out _ _ (by (try dsimp only);exact HS19.out _ t12) fun hHeld => ?_
      clear hK K
      try simp only [Act.put,zS,zT,zU]
      refine tk 29 ?_
      refine tk 30 ?_
      refine wpAnyH_done (by kernel_rfl) ?_ _
      refine NoPanic.normal ?_
      have HEND:=zH (zA HD2.out (show aL _ xa rs (fun i=>G2 i∨G3 i∨i=ga∨i=gb) from ⟨HI12.out,HRS.out.2⟩))
      clear t11 t12 hHeld
      go_wp2
      go_roundw
      case rel=>exact ⟨k+1,by go_num,by omega,W2,G2,W3,G3,y1,_,_,HEND.out.1,HNN.out.1,HNN.out.2.1,HNN.out.2.2,by rw [HS2.out,show (10:Int)+((k+1:Nat):Int)=10+(k:Int)+1 by omega];exact HPD.out.1,by rw [HS2.out,show (10:Int)+((k+1:Nat):Int)=10+(k:Int)+1 by omega];exact HPD.out.2,vz HR.out.2.2.2.2.2.2.1 HKK.out _,vz HR.out.2.2.2.2.2.2.2.1 HKK.out _,HEND.out.2⟩
      case measure=>simp [intOf];omega
   ·
    have hi1 : ¬ (k:Int)<9:=by omega
    have HL1:=zH (uu (X:=Gb) pa ga Wa Ga y img wr HR.out.1.t.a HR.out.2.1 HR.out.2.2.2.2.1 (HR.out.1.a.less fun i h _=>.inl h))
    have HL2:=zH (fun (W':fT) (G':Nat→Prop) (w':World) (h:qm w w' pa W' G' pb Wb Gb ga gb ps qs)=>uu (X:=G') pb gb Wb Gb y img w' h.t.b HR.out.2.2.1 (by rw [HR.out.2.2.2.1];exact HR.out.2.2.2.2.2.1) (h.b.less fun i h _=>.inr h))
    clear hlt
    go_wp2_with (first
     | (go_at_call 15;(with_reducible refine HL1.out.mono ?_);rintro e w9 ⟨rfl,W9,G9,n9,o9,h9,st9⟩;have HX:=zH (HR.out.1.left h9 st9))
     | (go_at_call 15;(with_reducible refine (HL2.out _ _ _ HX.out).mono ?_);rintro e w10 ⟨rfl,W10,G10,n10,o10,h10,st10⟩))
    go_ret
    exact ⟨rfl,(HX.out.right h10 st10).t.below⟩
end
section
open Go.ChangeShapes Go.WideShapes Go.ChangeAt Go.RowKit Go.Deep
section
variable {H:Type} {enc:TypeId×Value→H} {W:World}
theorem NW:prog.cellsOf 3=1:=by kernel_rfl
theorem NV:prog.bytesOf 3=8:=by kernel_rfl
theorem zZ {fuel:Nat} {v:Value} {x:DataW H×List MemPlace} (h:DataW.trod enc prog W 0 (fun _=>true) true fuel 22 [v]=some x) (hw:(x.1.weights prog 22).all (· ≤ reachBytes)=true) : ∃ (a:Option Addr) (c:Nat) (zs:List Int),v=.slice a zs.length c∧aP W a zs∧(a=none→c=0)∧zs.length * 8≤140737488355328∧zs.length≤c:=by
 rcases open_ints underlying22 underlying3 NW h with ⟨hcs,_⟩ | ⟨a,l,c,zs,hcs,_,hl,hm,hz,hx,hcell,hwz⟩
 ·
  obtain rfl:v=.slice none 0 0:=by simpa using hcs
  exact ⟨none,0,[],rfl,aP.nil _ _,fun _=>rfl,by simp,Nat.le_refl _⟩
 ·
  obtain rfl:v=.slice (some a) l c:=by simpa using hcs
  subst hx
  simp only [if_true] at hz
  have e:(zs.take l).length=l:=by simp;omega
  have hr:c * 8≤reachBytes:=by
   have:=List.all_eq_true.1 hw ((lits IntKind.i64 (zs.take l)).length * 8+(lits IntKind.i64 (zs.drop l)).length * 8) (by
    unfold DataW.weights
    rw [underlying22]
    simp only [NV,List.mem_cons]
    left
    omega)
   simp only [lits,List.length_map,List.length_take,List.length_drop,decide_eq_true_eq] at this
   omega
  simp only [reachBytes] at hr
  refine ⟨some a,c,zs.take l,by rw [e],fun i hi => ?_,(fun h=>by cases h),(by rw [e];omega),(by rw [e];exact hl)⟩
  rw [e] at hi
  obtain ⟨b,off,spot⟩:=a
  have hi':i<zs.length:=by omega
  have hc:=hcell i hi'
  have hspot:spot=none:=by simpa [Addr.add] using World.cell?_spot (hcell 0 (by omega))
  subst hspot
  refine ⟨b,off,rfl,?_⟩
  rw [dh] at hc
  rw [hc]
  simp [List.getD,hi]
end
end
end Go.Proofs.YtcfdenckiigdaaaGreat

/- Part 48 of the contracts. -/
import Derived.Test.YtcfdenckiigdaaaGreatFl47
set_option linter.unusedVariables false
set_option maxRecDepth 100000
set_option maxHeartbeats 4000000
namespace Go.Proofs.YtcfdenckiigdaaaGreat
open Tryz
section
open Go.RowKit
theorem iw.aj {w w':World} {g:Nat} {G:Nat→Prop} {ps:List aK} (h:iw w g G ps) (hb:Below w.heap.size w w'):iw w' g G ps:=by
 obtain ⟨m1,a,c,q,a3,n3,c3,m2,m3,m4⟩:=h
 exact ⟨m1,a,c,q,a3,n3,c3,aa hb m2,m3.aj hb,m4⟩
theorem iw.step {w w':World} {g:Nat} {G G':Nat→Prop} {ps:List aK} (h:iw w g G ps) (st:Step G G' w w'):iw w' g G' ps:=by
 obtain ⟨m1,a,c,q,a3,n3,c3,m2,m3,m4⟩:=h
 have key : ∀ b o,a=some ⟨b,o,none⟩→0<ps.length→b<w.heap.size ∧ ¬ G b:=fun b o e h0=>by
  refine ⟨?_,m4 b o e h0⟩
  obtain ⟨b',o',e',_,hx⟩:=m3.some h0
  rw [e] at e'
  cases e'
  obtain ⟨p0,_⟩:=dF ps 0 h0
  exact zL w _ (hx _ _ p0)
 refine ⟨st.safe (aP m2) m1,a,c,q,a3,n3,c3,st.aH.at m2 m1,⟨m3.len,m3.ex.imp id ?_⟩,fun b o e h0=>st.safe (key b o e h0).1 (key b o e h0).2⟩
 rintro ⟨b,o,c',hv,hc,hx⟩
 refine ⟨b,o,c',hv,hc,fun i u hu => ?_⟩
 have h0:0<ps.length:=by
  have:=(List.getElem?_eq_some_iff.1 hu).1
  rw [kG] at this
  omega
 simp only [Value.slice.injEq,true_and] at hv
 exact st.aH.cell b (o+i) (hx i u hu) (m4 b o hv.1 h0)
structure mX (x:cd):Prop where
 kind:x.kind=2∨x.kind=4
 k1:1≤x.key.size
 k6:x.key.size≤6
 v20:x.value.size≤20
 del:x.kind=4→x.value=⟨#[]⟩
 at_:x.at_=0
 width:x.width=0
 cm:x.cm=0
 mask:x.mask=⟨#[]⟩
 busy:x.busy=[]
 reads:x.reads=[]
theorem Ht {x:cd} (h:mX x):rJ x=true:=by
 obtain ⟨kind,key,value,at_,width,cm,mask,busy,reads⟩:=x
 obtain ⟨h1,h2,h3,h4,h5,h6,h7,h8,h9,h10,h11⟩:=h
 simp only at h1 h2 h3 h4 h5 h6 h7 h8 h9 h10 h11
 subst h6 h7 h8 h9 h10 h11
 have e0:(⟨#[]⟩:ByteArray).toList=[]:=by rw [ByteArray.toList_eq]
 have hs:qN ⟨kind,key,value,0,0,0,⟨#[]⟩,[],[]⟩=true:=by
  show (decide (key.size≤12)&&decide (value.size≤40)&&decide ((⟨#[]⟩:ByteArray).size≤16))=true
  rw [decide_eq_true (show key.size≤12 by omega),decide_eq_true (show value.size≤40 by omega)]
  rfl
 have hl:qc ⟨kind,key,value,0,0,0,⟨#[]⟩,[],[]⟩=true:=by
  have key2 : ∀ b1 b2:Bool,([(107,b1),(118,b2),(114,false),(98,false),(108,false)]:List (UInt8×Bool)).all (fun p => !p.2 || hasB (ma 2) p.1)=true:=by decide +kernel
  have key4 : ∀ b1:Bool,([(107,b1),(118,false),(114,false),(98,false),(108,false)]:List (UInt8×Bool)).all (fun p => !p.2 || hasB (ma 4) p.1)=true:=by decide +kernel
  unfold qc qP
  rcases h1 with rfl | rfl
  ·
   exact key2 _ _
  ·
   rw [h5 rfl]
   show ([(107,!key.toList.isEmpty),(118,!(⟨#[]⟩:ByteArray).toList.isEmpty),(114,false),(98,false),(108,false)]:List (UInt8×Bool)).all _=true
   rw [e0]
   exact key4 _
 unfold rJ
 rw [hs,hl]
 rcases h1 with rfl | rfl <;> rfl
theorem EO {ps:List aK} {x:cd} (h:mX x):(x.kind=2→ES ps x.key x.value x.reads=(fA ps x).1)∧(x.kind=4→Ea ps x.key x.reads=(fA ps x).1):=by
 refine ⟨fun hk => ?_,fun hk => ?_⟩
 ·
  unfold ES fA
  rw [if_neg (not_not_intro ⟨h.k1,h.k6⟩),if_neg (by have:=h.v20;omega),if_pos hk,h.reads,if_pos (show cY []=true by decide)]
  split <;> rfl
 ·
  unfold Ea fA
  rw [if_neg (not_not_intro ⟨h.k1,h.k6⟩),if_neg (show ¬ x.kind=2 by omega),h.reads,if_pos (show cY []=true by decide)]
  split <;> rfl
theorem JT {cx img:ByteArray} {S:aA} {ps:List aK} {E:Int} (ho:fG cx S ps E) (hE:E<1048576) {x:cd} (h:mX x):fG (u4 cx img S x).1 (u4 cx img S x).2.1 (fA ps x).2 (E+1)∧(u4 cx img S x).2.2=(bg,(fA ps x).1):=by
 have e:u4 cx img S x=mZ cx img S x:=by unfold u4;rw [Ht h,if_neg (by decide)]
 rw [e]
 have hm:=ho.more (show E≤E+1 by omega)
 obtain ⟨w1,w2⟩:=EO (ps:=ps) h
 unfold mZ
 rcases h.kind with hk | hk
 ·
  have hw:=w1 hk
  rw [hk,if_neg (by decide),if_neg (by decide),if_pos rfl]
  obtain ⟨o1,o2⟩:=EE (img:=img) ho hE x.key x.value x.reads
  unfold nU
  by_cases h0:ES ps x.key x.value x.reads=0
  ·
   obtain ⟨p1,p2⟩:=o2 h0
   rw [hw] at h0
   have hs:(fA ps x).2=fS x.key x.value ps:=by
    unfold fA at h0 ⊢
    rw [if_pos hk] at h0 ⊢
    split at h0
    ·
     cases h0
    ·
     rename_i h7;rw [if_neg h7]
   refine ⟨by rw [hs];exact p1,?_⟩
   dsimp only
   rw [p2,h0,h.reads]
   rfl
  ·
   rw [o1 h0]
   have h1:=h0
   rw [hw] at h1
   have hs:(fA ps x).2=ps:=by
    unfold fA at h1 ⊢
    rw [if_pos hk] at h1 ⊢
    split at h1
    ·
     rename_i h7;rw [if_pos h7]
    ·
     exact absurd rfl h1
   refine ⟨by rw [hs];exact hm,?_⟩
   dsimp only
   rw [hw]
   unfold outs
   rw [if_neg h1]
   rfl
 ·
  have hw:=w2 hk
  rw [hk,if_neg (by decide),if_neg (by decide),if_neg (by decide),if_neg (by decide),if_pos rfl]
  obtain ⟨o1,o2⟩:=ED (img:=img) ho hE x.key x.reads
  unfold nU
  by_cases h0:Ea ps x.key x.reads=0
  ·
   obtain ⟨p1,p2⟩:=o2 h0
   rw [hw] at h0
   have hs:(fA ps x).2=fu x.key ps:=by
    unfold fA at h0 ⊢
    rw [if_neg (show ¬ x.kind=2 by omega)] at h0 ⊢
    split at h0
    ·
     cases h0
    ·
     rename_i h7;rw [if_neg h7]
   refine ⟨by rw [hs];exact p1,?_⟩
   dsimp only
   rw [p2,h0,h.reads]
   rfl
  ·
   rw [o1 h0]
   have h1:=h0
   rw [hw] at h1
   have hs:(fA ps x).2=ps:=by
    unfold fA at h1 ⊢
    rw [if_neg (show ¬ x.kind=2 by omega)] at h1 ⊢
    split at h1
    ·
     rename_i h7;rw [if_pos h7]
    ·
     exact absurd rfl h1
   refine ⟨by rw [hs];exact hm,?_⟩
   dsimp only
   rw [hw]
   unfold outs
   rw [if_neg h1]
   rfl
theorem JI (p:Nat) (W:ia) (G:Nat→Prop) (x:cd) (cx img:ByteArray) (w:World) (h:cB w p W G) (n:ye W cx img) {ps:List aK} {E:Int} (ho:fG cx W.S ps E) (hE:E<1048576) (hx:mX x):Calls prog 11 #[.pointer (some ⟨p,0,none⟩),.agg #[.int .i64 x.kind,.string x.key,.string x.value,.int .i64 0,.int .i64 0,.int .i64 0,.string ⟨#[]⟩,.slice none 0 0,.slice none 0 0]] w fun e w' => ∃ W' y,ye W' y img∧fG y W'.S (fA ps x).2 (E+1)∧eI p W' bg (fA ps x).1 G w e w':=by
 have:=ka p W G x cx img w h n ho.fit hx.cm (by rcases hx.kind with h | h <;> omega) hx.busy hx.reads
 rw [hx.at_,hx.width,hx.cm,hx.mask] at this
 obtain ⟨d1,d2⟩:=JT (img:=img) ho hE hx
 refine this.mono ?_
 rintro e w' ⟨W',k1,k2,k3⟩
 rw [d2] at k3
 rw [← k2] at d1
 exact ⟨W',_,k1,d1,k3⟩
theorem Lb (p:Nat) (W:ia) (G:Nat→Prop) (cx img:ByteArray) (w:World) (h:cB w p W G) (n:ye W cx img) {ps:List aK} {E:Int} (ho:fG cx W.S ps E):Calls prog 11 #[.pointer (some ⟨p,0,none⟩),.agg #[.int .i64 5,.string ⟨#[]⟩,.string ⟨#[]⟩,.int .i64 0,.int .i64 0,.int .i64 0,.string ⟨#[]⟩,.slice none 0 0,.slice none 0 0]] w fun e w' => ∃ W',ye W' cx img∧fG cx W'.S ps E∧eI p W' ⟨⟨#[]⟩,ps,[],false⟩ 0 G w e w':=by
 have:=ka p W G (fL 5 ⟨#[]⟩ ⟨#[]⟩) cx img w h n ho.fit rfl (show (5:Int)≠7 by decide) rfl rfl
 have g:=CR ho
 have e:u4 cx img W.S (fL 5 ⟨#[]⟩ ⟨#[]⟩)=(cx,W.S,⟨⟨#[]⟩,ps,[],false⟩,0):=by
  unfold u4
  rw [CH,if_neg (by decide)]
  unfold mZ
  rw [show (fL 5 ⟨#[]⟩ ⟨#[]⟩).kind=5 from rfl,if_neg (by decide),if_neg (by decide),if_neg (by decide),if_neg (by decide),if_neg (by decide),if_pos rfl,g]
 rw [e] at this
 refine this.mono ?_
 rintro e w' ⟨W',k1,k2,k3⟩
 dsimp only at k2
 rw [← k2] at ho
 exact ⟨W',k1,ho,k3⟩
end
section
open Go.RowKit
def Ge (p g:Nat) (G:Nat→Prop) (cx img:ByteArray) (ps:List aK) (E:Int) (w:World) (e:Ending) (w':World):Prop:=e=.returned (.bool true) ∧ ∃ W' G',ye W' cx img∧fG cx W'.S ps E∧cB w' p W' G'∧Step G G' w w'
theorem CC (p g:Nat) (W:ia) (G:Nat→Prop) (cx img:ByteArray) (w:World) (h:cB w p W G) (n:ye W cx img) {ps:List aK} {E:Int} (ho:fG cx W.S ps E) (hm:iw w g G ps):Calls prog 15 #[.pointer (some ⟨p,0,none⟩),.pointer (some ⟨g,0,none⟩)] w (Ge p g G cx img ps E w):=by
 have HD:=zH (Lb p W G cx img w h n ho)
 have HM:=zH vC
 have HL:=zH ho.kept.sorted.2
 have HMO:=zH hm
 clear h n ho hm
 go_enter func15,ntmps15
 go_upto_region 2 with (go_at_call 11;refine HD.out.mono ?_;rintro e w1 ⟨W1,n1,k1,va,vc,vb,vd,rfl,o1,o2,G1,hw1,st1,m1,m2⟩)
 have hm1:=(HMO.out.step st1).aj (ae zR (.cells #[.string (⟨⟨#[]⟩,ps,[],false⟩:eH).value,.slice va (⟨⟨#[]⟩,ps,[],false⟩:eH).bS.length vc,.slice vb (⟨⟨#[]⟩,ps,[],false⟩:eH).reads.length vd,.bool (⟨⟨#[]⟩,ps,[],false⟩:eH).lost] 34))
 obtain ⟨mg,a,c,q,a3,n3,c3,m2',m3,m4⟩:=hm1
 have HK:=zH (zA (af w1 (.cells #[.string (⟨⟨#[]⟩,ps,[],false⟩:eH).value,.slice va (⟨⟨#[]⟩,ps,[],false⟩:eH).bS.length vc,.slice vb (⟨⟨#[]⟩,ps,[],false⟩:eH).reads.length vd,.bool (⟨⟨#[]⟩,ps,[],false⟩:eH).lost] 34)) (zA m2' (zA m3 (aT.dd (o1.alloc (.cells #[.string (⟨⟨#[]⟩,ps,[],false⟩:eH).value,.slice va (⟨⟨#[]⟩,ps,[],false⟩:eH).bS.length vc,.slice vb (⟨⟨#[]⟩,ps,[],false⟩:eH).reads.length vd,.bool (⟨⟨#[]⟩,ps,[],false⟩:eH).lost] 34))))))
 have HW:=zH (zA n1 (zA k1 (zA (hw1.aj (ae zR (.cells #[.string (⟨⟨#[]⟩,ps,[],false⟩:eH).value,.slice va (⟨⟨#[]⟩,ps,[],false⟩:eH).bS.length vc,.slice vb (⟨⟨#[]⟩,ps,[],false⟩:eH).reads.length vd,.bool (⟨⟨#[]⟩,ps,[],false⟩:eH).lost] 34))) (st1.trans (Step.ah (ae zR (.cells #[.string (⟨⟨#[]⟩,ps,[],false⟩:eH).value,.slice va (⟨⟨#[]⟩,ps,[],false⟩:eH).bS.length vc,.slice vb (⟨⟨#[]⟩,ps,[],false⟩:eH).reads.length vd,.bool (⟨⟨#[]⟩,ps,[],false⟩:eH).lost] 34)))))))
 rw [show (⟨⟨#[]⟩,ps,[],false⟩:eH).bS=ps from rfl] at HK
 generalize Value.agg #[.string (⟨⟨#[]⟩,ps,[],false⟩:eH).value,.slice va (⟨⟨#[]⟩,ps,[],false⟩:eH).bS.length vc,.slice vb (⟨⟨#[]⟩,ps,[],false⟩:eH).reads.length vd,.bool (⟨⟨#[]⟩,ps,[],false⟩:eH).lost]=vag at *
 generalize hwA:w1.alloc (.cells #[.string (⟨⟨#[]⟩,ps,[],false⟩:eH).value,.slice va (⟨⟨#[]⟩,ps,[],false⟩:eH).bS.length vc,.slice vb (⟨⟨#[]⟩,ps,[],false⟩:eH).reads.length vd,.bool (⟨⟨#[]⟩,ps,[],false⟩:eH).lost] 34)=wA at *
 generalize w1.heap.size=bA at *
 clear hwA n1 k1 o1 o2 hw1 st1 m1 m2 m2' m3 m4 mg HD HMO
 have HP:=zH (fun (w':World) (hb:Below wA.heap.size wA w')=>(show Calls prog 22 #[.slice va ps.length vc,.slice a ps.length c] w' (Fs true w') from by
  have:=kq _ _ ps ps w' (HK.out.2.2.2.aj hb) (HK.out.2.2.1.aj hb) (by have:=HL.out;omega)
  rw [show decide (ps=ps)=true from decide_eq_true rfl] at this
  exact this))
 refine wp_region_noPanic ?_
 refine wp_region_held_drew (S:=(fun w':World=>w'.cell? ⟨bA,1,none⟩=some (.slice va ps.length vc)∧w'.cell? ⟨g,1,none⟩=some (.slice a ps.length c)∧Below wA.heap.size wA w')) (by kernel_rfl) (by (try dsimp only);exact ⟨cell_of (aa (au zR) HK.out.1) 1,cell_of (aa (au zR) HK.out.2.1) 1,(au zR)⟩) fun hHeld => ?_
 refine tk 0 ?_
 refine tr 1 fun K hK => ?_
 go_simp
 go_at_call 13
 refine (HM.out _ _).mono ?_
 rintro e wx ⟨rfl,rfl⟩
 go_wp2_with fail
 refine hK.out _ _ (by (try dsimp only);exact ⟨cell_of (aa (au zR) HK.out.1) 1,cell_of (aa (au zR) HK.out.2.1) 1,(au zR)⟩) fun hHeld => ?_
 clear hK K
 try simp only [Act.put,zS,zT,zU]
 refine tk 2 ?_
 refine tk 3 ?_
 refine tk 4 ?_
 refine tk 5 ?_
 refine tk 6 ?_
 refine tk 7 ?_
 refine tk 8 ?_
 refine tk 9 ?_
 refine tk 10 ?_
 refine tr 11 fun K hK => ?_
 go_simp
 go_at_call 22
 refine (HP.out _ (au zR)).mono ?_
 rintro e wx ⟨rfl,hbx⟩
 have hby:=gtr (au (Below.refl wA.heap.size wA)) hbx
 go_wp2_with fail
 refine hK.out _ _ (by (try dsimp only);exact ⟨cell_of (aa hby HK.out.1) 1,cell_of (aa hby HK.out.2.1) 1,hby⟩) fun hHeld => ?_
 clear hK K
 try simp only [Act.put,zS,zT,zU]
 refine tk 12 ?_
 refine tk 13 ?_
 refine wpAnyH_done (by kernel_rfl) ?_ _
 refine NoPanic.normal ?_
 go_wp2
 go_ret
 have hb:=hby
 exact ⟨rfl,W1,G1,HW.out.1,HW.out.2.1,HW.out.2.2.1.aj hb,HW.out.2.2.2.trans (Step.ah hb)⟩
end
section
open Go.RowKit
def gV (ps:List aK):List ByteArray:=ps.map fun p=>p.key
def Jx (k:ByteArray):List ByteArray→List ByteArray
 | []=>[k]
 | p::r=>if cI p k=true then p::Jx k r else if p=k then k::r else k::p::r
theorem Cu (k v:ByteArray) : ∀ ps:List aK,gV (fS k v ps)=Jx k (gV ps)
 | []=>rfl
 | p::ps=>by
  show gV (if cI p.key k=true then p::fS k v ps else if p.key=k then ⟨k,v⟩::ps else ⟨k,v⟩::p::ps)=(if cI p.key k=true then p.key::Jx k (gV ps) else if p.key=k then k::gV ps else k::p.key::gV ps)
  split
  ·
   rw [← Cu k v ps];rfl
  ·
   split <;> rfl
theorem Cs (k:ByteArray) : ∀ ps:List aK,gV (fu k ps)=(gV ps).filter fun x=>decide (x≠k)
 | []=>rfl
 | p::ps=>by
  have ih:=Cs k ps
  unfold fu gV at ih ⊢
  rw [List.filter_cons,List.map_cons,List.filter_cons]
  split
  ·
   rw [List.map_cons,ih]
  ·
   exact ih
def Mc (k:ByteArray) (ks:List ByteArray):Bool:=ks.any fun x=>decide (x=k)
theorem zw (k:ByteArray) : ∀ ps:List aK,(gP ps k).isSome=Mc k (gV ps)
 | []=>rfl
 | p::ps=>by
  show _=(decide (p.key=k) || Mc k (gV ps))
  rw [GO]
  by_cases e:p.key=k
  ·
   rw [if_pos e,decide_eq_true e];rfl
  ·
   rw [if_neg e,decide_eq_false e,zw k ps];rfl
theorem Ct (ps:List aK):(gV ps).length=ps.length:=List.length_map ..
def kz (ks:List ByteArray) (a:Int×ByteArray):List ByteArray :=
 if a.1=2 then if 7<(Jx a.2 ks).length then ks else Jx a.2 ks else if Mc a.2 ks=false then ks else ks.filter fun x=>decide (x≠a.2)
theorem GW (ps:List aK) (x:cd):gV (fA ps x).2=kz (gV ps) (x.kind,x.key):=by
 unfold fA kz
 dsimp only
 split
 ·
  rw [← Cu x.key x.value ps,Ct]
  split <;> rfl
 ·
  rw [← zw x.key ps]
  split
  ·
   rfl
  ·
   exact Cs x.key ps
def mw (ps:List aK) (l:List cd):List aK:=l.foldl (fun ps x=>(fA ps x).2) ps
theorem wZ : ∀ (l:List cd) (ps:List aK),gV (mw ps l)=(l.map fun x=>(x.kind,x.key)).foldl kz (gV ps)
 | [],ps=>rfl
 | x::l,ps=>by
  show gV (mw (fA ps x).2 l)=(l.map fun x=>(x.kind,x.key)).foldl kz (kz (gV ps) (x.kind,x.key))
  rw [wZ l,GW]
def k8:List ByteArray:=[⟨#[97]⟩,⟨#[98]⟩,⟨#[99]⟩,⟨#[100]⟩,⟨#[101]⟩,⟨#[102]⟩,⟨#[103]⟩,⟨#[104]⟩]
def k7:List ByteArray:=[⟨#[97]⟩,⟨#[98]⟩,⟨#[99]⟩,⟨#[100]⟩,⟨#[101]⟩,⟨#[102]⟩,⟨#[103]⟩]
def rE:ByteArray:=⟨#[104]⟩
def gv (i:Nat):ByteArray:=k8.getD i rE
def gC (i:Nat):List (Int×ByteArray):=(List.range i).map fun j=>(2,gv j)
def iv (i:Nat):List (Int×ByteArray):=(List.range i).map fun j=>(2,gv (j % 7))
def nQ (q:Nat):List (Int×ByteArray):=[(4,gv q),(2,rE),(2,gv q)]
def lD (r:Nat):List (Int×ByteArray):=(List.range r).map fun _=>(2,rE)
def oB (q:Nat):List ByteArray:=(k7.filter fun x=>decide (x≠gv q))++[rE]
theorem Ma:(gC 8).foldl kz []=k7:=by decide +kernel
theorem Jk : ∀ m,(iv m).foldl kz k7=k7
 | 0=>rfl
 | m+1=>by
  unfold iv
  rw [List.range_succ,List.map_append,List.foldl_append]
  have ih:=Jk m
  unfold iv at ih
  rw [ih]
  have key : ∀ j:Fin 7,kz k7 (2,gv j.1)=k7:=by decide +kernel
  exact key ⟨m % 7,Nat.mod_lt _ (by decide)⟩
theorem Mb {q:Nat} (h:q<7):(nQ q).foldl kz k7=oB q:=by
 have key : ∀ j:Fin 7,(nQ j.1).foldl kz k7=oB j.1:=by decide +kernel
 exact key ⟨q,h⟩
theorem Jl {q:Nat} (h:q<7) : ∀ r,(lD r).foldl kz (oB q)=oB q
 | 0=>rfl
 | r+1=>by
  unfold lD
  rw [List.range_succ,List.map_append,List.foldl_append]
  have ih:=Jl h r
  unfold lD at ih
  rw [ih]
  have key : ∀ j:Fin 7,kz (oB j.1) (2,rE)=oB j.1:=by decide +kernel
  exact key ⟨q,h⟩
theorem Gp {q:Nat} (h:q<7):(oB q).length=7:=by
 have key : ∀ j:Fin 7,(oB j.1).length=7:=by decide +kernel
 exact key ⟨q,h⟩
theorem Jo {l:List cd} {m q r:Nat} (hq:q<7) (h:(l.map fun x=>(x.kind,x.key))=gC 8++iv m++nQ q++lD r):(mw [] l).length=7:=by
 rw [← Ct,wZ,h,List.foldl_append,List.foldl_append,List.foldl_append]
 show (List.foldl kz (List.foldl kz (List.foldl kz (List.foldl kz [] (gC 8)) (iv m)) (nQ q)) (lD r)).length=7
 rw [Ma,Jk,Mb hq,Jl hq,Gp hq]
def kT (x:cd):List Value:=[.int .i64 x.kind,.string x.key,.string x.value,.int .i64 0,.int .i64 0,.int .i64 0,.string ⟨#[]⟩,.slice none 0 0,.slice none 0 0]
def eW (l:List cd):List Value:=l.flatMap kT
theorem AA (l:List cd) (x:cd):eW (l++[x])=eW l++kT x:=by
 unfold eW
 rw [List.flatMap_append,List.flatMap_cons,List.flatMap_nil,List.append_nil]
theorem vS : ∀ (l:List cd) (i:Nat) (h:i<l.length) (j:Nat) (hj:j<9),(eW l)[9 * i+j]? = (kT l[i])[j]?
 | x::l,0,h,j,hj=>by
  show (kT x++eW l)[9 * 0+j]? = _
  rw [Nat.mul_zero,Nat.zero_add,List.getElem?_append_left (by simp [kT];omega)]
  rfl
 | x::l,i+1,h,j,hj=>by
  show (kT x++eW l)[9 * (i+1)+j]? = _
  rw [List.getElem?_append_right (by simp [kT];omega)]
  have e:9 * (i+1)+j - (kT x).length=9 * i+j:=by simp [kT];omega
  rw [e,vS l i (Nat.lt_of_succ_lt_succ h) j hj]
  rfl
end
section
open Go.RowKit
theorem KX {img:ByteArray} (h:img.size=2048):Has (ij img) img:=by
 refine ⟨j5 (by omega),fun i hi => ?_⟩
 unfold ij
 rw [qu,if_pos (by omega)]
def pP:Array Value := #[.bool false,.slice none 0 0,.bool false,.slice none 0 0,.bool true]
def Ga (w:World) (img:ByteArray) (e:Ending) (w':World):Prop :=
 ∃ p W G x1 g,e=.returned (.tuple #[.pointer (some ⟨p,0,none⟩),.pointer (some ⟨g,0,none⟩)])∧Own w w' p W G∧ye W x1 img∧W.S=⟨true,4,V0⟩∧Lay x1 4 V0∧w'.heap[g]? = some (.cells pP 63 (0,0))∧w.heap.size≤g ∧ ¬ G g
theorem BL (t:ByteArray) (w:World) (ht:t.size<140737488355328):Calls prog 10 #[.string t,.slice none 0 0,.int .i64 0] w (Ga w (km t)):=by
 have HI:=zH (fun w=>xY t w ht)
 have hsz:(km t).size=2048:=eJ _ _
 have HN:=zH (fun w=>pD (km t) w (by rw [hsz];exact Nat.le_refl _))
 have HX:=zH (zA (KX (img:=km t) hsz) (wS (img:=km t) (Nat.le_of_eq hsz)))
 have HM:=zH vC
 clear hsz
 generalize km t=img at *
 go_enter func10,ntmps10
 go_upto_region 2 with (first
  | (go_at_call 17;refine (HI.out _).mono ?_;rintro e w1 ⟨rfl,hb1⟩)
  | (go_at_call 16;refine (HN.out _).mono ?_;rintro e w2 ⟨p,W0,G0,rfl,hw,hb,hg,hc,hl,ok,hbusy,hq,hs⟩))
 have HO:=zH (zA (show Own w w2 p W0 G0 from ⟨hw,gtr hb1 hb,fun i hi=>Nat.le_trans hb1.size (hg i hi)⟩) (zA (FR hc hl ok hq HX.out.1) hs))
 have HB:=zH HX.out.2
 clear hw hb hg hc hl ok hbusy hq hs hb1 HI HN HX
 generalize ij img=x0 at *
 go_upto_region 4 with (go_at_call 13;refine (HM.out _ _).mono ?_;rintro e w' ⟨rfl,rfl⟩)
 have HD:=zH (B6 p W0 G0 x0 img w' HO.out.1.at_ HO.out.2.1 HO.out.2.2 HB.out)
 go_upto_region 5 with (go_at_call 11;refine HD.out.mono ?_;rintro e w3 ⟨W1,x1,n1,hs1,lay1,va,vc,vb,vd,rfl,o1,o2,G1,hw1,st1,m1,m2⟩)
 have HO1:=zH (zA ((HO.out.1.step hw1 st1).aj (ae zR (.cells pP 63))) (zA n1 (zA hs1 (zA lay1 (zA (af w3 (.cells pP 63)) (zA (HO.out.1.step hw1 st1).below.size (show ¬ G1 w3.heap.size from fun h=>Nat.lt_irrefl _ (hw1.lt _ h))))))))
 unfold pP at HO1
 clear n1 hs1 lay1 o1 o2 hw1 st1 m1 m2 HD HO HB
 go_wp2
 go_loopw [11] (fun i wr=>i=.int .i64 0∧wr=w3.alloc (.cells #[.bool false,.slice none 0 0,.bool false,.slice none 0 0,.bool true] 63)) (fun _ _=>0)
 case atStart=>exact ⟨rfl,rfl⟩
 case round =>
  obtain ⟨rfl,rfl⟩:=hrel
  go_wp2
  go_ret2
  exact ⟨p,W1,G1,x1,w3.heap.size,rfl,HO1.out⟩
end
end Go.Proofs.YtcfdenckiigdaaaGreat

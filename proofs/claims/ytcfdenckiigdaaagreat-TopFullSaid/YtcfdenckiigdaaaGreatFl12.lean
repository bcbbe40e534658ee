/- Part 12 of the contracts. -/
import Derived.Test.YtcfdenckiigdaaaGreatFl11
set_option linter.unusedVariables false
set_option maxRecDepth 100000
set_option maxHeartbeats 4000000
namespace Go.Proofs.YtcfdenckiigdaaaGreat
open Tryz
section
open Go.RowKit
def aN (w:World) (a:Option Addr) (xs:List Int) (G:Nat→Prop):Prop:=aU w a xs ∧ ∀ b o,a=some ⟨b,o,none⟩→0<xs.length → ¬ G b
theorem aN.step {G G':Nat→Prop} {w w':World} {a:Option Addr} {xs:List Int} (h:aN w a xs G) (st:Step G G' w w'):aN w' a xs G':=by
 refine ⟨dM h.1 st.aH h.2,fun b o e hl => ?_⟩
 obtain ⟨b2,o2,g1,g2⟩:=h.1 0 hl
 rw [e] at g1
 obtain ⟨rfl,rfl⟩:b=b2∧o=o2:=by simpa using g1
 exact st.safe (zL w _ g2) (h.2 _ _ e hl)
theorem bz.safe {w:World} {B:Nat} {a:Option Addr} {c:Nat} {xs:List Int} (h:bz w B (.slice a xs.length c) xs) (G:Nat→Prop) (hG : ∀ b,G b→b<B):aN w a xs G:=by
 obtain ⟨a',c',e,hc⟩:=h
 obtain ⟨rfl,rfl⟩:a=a'∧c=c':=by simpa using e
 refine ⟨fun i hi => ?_,fun b o e hl hf => ?_⟩
 ·
  obtain ⟨b,off,cur,ha,_,hb,hx⟩:=hc i hi
  exact ⟨b,off,ha,(cell_of hb _).trans hx⟩
 ·
  obtain ⟨b',off,cur,ha,hB,_,_⟩:=hc 0 hl
  rw [e] at ha
  obtain ⟨rfl,rfl⟩:b=b'∧o=off:=by simpa using ha
  exact Nat.lt_irrefl _ (zV (hG _ hf) hB)
theorem Fy (xs:List Int) (f:Int→Int) (k:Nat) (hk:k<xs.length):(xs.drop k).map f=f (xs.getD k 0)::(xs.drop (k+1)).map f:=by
 rw [List.drop_eq_getElem_cons hk,List.map_cons,show xs.getD k 0=xs[k] by simp [List.getD,List.getElem?_eq_getElem hk]]
theorem sn (x:Int) (r:List Int) (d:aI) (h:d.stop=true):aI.row (x::r) d=(false,d):=by
 show (if d.stop=true then (false,d) else aI.row r (d.tick x))=_
 rw [if_pos h]
theorem xD (x:Int) (r:List Int) (d:aI) (h:d.stop=false):aI.row (x::r) d=aI.row r (d.tick x):=by
 show (if d.stop=true then (false,d) else aI.row r (d.tick x))=_
 rw [if_neg (by rw [h];decide)]
theorem qb (b L:Int) (k:Nat):0≤(bM b L).getD k 0∧(bM b L).getD k 0≤15∧(L=1→(bM b L).getD k 0≤1):=by
 unfold bM
 by_cases hk:k<8
 ·
  have:k=0∨k=1∨k=2∨k=3∨k=4∨k=5∨k=6∨k=7:=by omega
  split
  ·
   rcases this with rfl | rfl | rfl | rfl | rfl | rfl | rfl | rfl <;> simp [List.getD] <;> omega
  ·
   rcases this with rfl | rfl | rfl | rfl | rfl | rfl | rfl | rfl <;> simp [List.getD, *] <;> omega
 ·
  have:(if L=1 then List.map (fun a:Nat=>b / 2 ^ a % 2) [7,6,5,4,3,2,1,0] else List.map (fun a:Nat=>b / 2 ^ a % 16) [4,0])[k]? = none:=by
   rw [List.getElem?_eq_none]
   split <;> simp <;> omega
  rw [List.getD_eq_getElem?_getD,this]
  exact ⟨by decide,by decide,fun _=>by decide⟩
theorem No (x:Int) (h0:0≤x) (h1:x≤1):bits .or .i64 x 14=14+x:=by
 have:x=0∨x=1:=by omega
 rcases this with rfl | rfl <;> rfl
theorem MY (p c:Nat) (d:aI) (G:Nat→Prop) (k:Nat) (b:Int) (w:World) (h:fm w p c d G) (fit:d.Fit (8+k)) (h0:0≤b) (h1:b<256):Calls prog 206 #[.pointer (some ⟨p,0,none⟩),.int .i64 b,.int .i64 1] w (mU (aI.put b 1 d).1 p c (aI.put b 1 d).2 G w):=by
 have HO:=zH (MU b w h0 h1)
 have HH:=zH h
 have HR:=zH (qb b 1)
 have HF:=zH (cA fit (show 8+k≤8+k by omega))
 have HP:=zH (show aI.put b 1 d=aI.row (((bM b 1).drop 0).map (fU 1)) d from rfl)
 have hlen:(bM b 1).length=8:=rfl
 have HLT:=zH h.lt
 clear h fit
 generalize aI.put b 1 d=r at *
 generalize bM b 1=xs at *
 have HL:=zH hlen
 clear hlen
 go_enter func206,ntmps206
 go_wp2_with fail
 refine HO.out.mono ?_
 rintro e w1 ⟨a,cp,rfl,hN,hb⟩
 have hs:=hN.safe G HLT.out
 have HS:=zH hs
 have HD:=zH (HH.out.aj hb)
 have ST:=zH (Step.ah (F:=G) hb)
 rw [HL.out]
 clear hs hN hb HO HH
 go_wp2
 go_loopw [21] (fun i wr => ∃ (j:Nat) (dk:aI) (Gk:Nat→Prop),j≤8∧i=.int .i64 j∧fm wr p c dk Gk∧Step G Gk w wr∧dk.Fit (8 - j+k)∧r=aI.row ((xs.drop j).map (fU 1)) dk∧aN wr a xs Gk) (fun i _=>8 - (intOf i).toNat)
 case atStart=>exact ⟨0,d,G,Nat.zero_le _,rfl,HD.out,ST.out,HF.out,HP.out,HS.out⟩
 case round =>
  obtain ⟨j,dk,Gk,hj,rfl,hD,hst,hf,hr,hs⟩:=hrel
  by_cases hlt:j<8
  ·
   have hlx:j<xs.length:=by rw [HL.out];exact hlt
   obtain ⟨bb,off,rfl,hcell⟩:=hs.1 j hlx
   have hra:=HR.out j
   have hdr:=Fy xs (fU 1) j hlx
   rw [hdr] at hr
   have HD':=zH hD
   have HST:=zH hst
   have HF':=zH (show dk.Fit (8 - (j+1)+k+1) from cA hf (by omega))
   have HRR:=zH hr
   have HS':=zH hs
   clear hdr hD hst hf hr hs hlx
   generalize xs.getD j 0=x at *
   obtain ⟨x0,x1,x2⟩:=hra
   have hor:bits .or .i64 x 14=14+x:=No x x0 (x2 (by simp))
   have x3:x≤1:=x2 (by simp)
   clear x2
   cases hstop:dk.stop with
   | true =>
    have HT:=zH (mO p c dk Gk (14+x) wr HD'.out hstop)
    have HE:=zH (sn (fU 1 x) ((xs.drop (j+1)).map (fU 1)) dk hstop)
    clear hstop
    go_wp2_with fail
    refine HT.out.mono ?_
    rintro e w2 ⟨rfl,G2,hD2,st2⟩
    have H2:=zH (zA hD2 st2)
    clear hD2 st2
    go_wp2
    go_ret
    rw [HRR.out,HE.out]
    exact ⟨rfl,G2,H2.out.1,HST.out.trans H2.out.2⟩
   | false =>
    have HT:=zH (sH p c dk Gk _ (14+x) wr HD'.out HF'.out hstop (by omega) (by omega))
    have HE:=zH (xD (fU 1 x) ((xs.drop (j+1)).map (fU 1)) dk hstop)
    clear hstop
    go_wp2_with fail
    refine HT.out.mono ?_
    rintro e w2 ⟨rfl,G2,hD2,st2⟩
    have H2:=zH (zA hD2 st2)
    clear hD2 st2
    go_wp2
    go_roundw
    case rel=>exact ⟨j+1,dk.tick (14+x),G2,by omega,by go_num,H2.out.1,HST.out.trans H2.out.2,lE HF'.out _,HRR.out.trans HE.out,HS'.out.step H2.out.2⟩
    case measure=>simp [intOf];omega
  ·
   obtain rfl:j=8:=by omega
   have e:(xs.drop 8).map (fU 1)=[]:=by rw [List.drop_of_length_le (by rw [HL.out];decide)];rfl
   rw [e] at hr
   have HX:=zH (zA hD hst)
   have HRR:=zH (show r=(true,dk) from hr)
   clear hD hst hf hr hs e
   go_wp2
   go_ret
   rw [HRR.out]
   exact ⟨rfl,Gk,HX.out⟩
theorem MZ (p c:Nat) (d:aI) (G:Nat→Prop) (k:Nat) (b:Int) (w:World) (h:fm w p c d G) (fit:d.Fit (8+k)) (h0:0≤b) (h1:b<256):Calls prog 206 #[.pointer (some ⟨p,0,none⟩),.int .i64 b,.int .i64 4] w (mU (aI.put b 4 d).1 p c (aI.put b 4 d).2 G w):=by
 have HO:=zH (MV b w h0 h1)
 have HH:=zH h
 have HR:=zH (qb b 4)
 have HF:=zH (cA fit (show 2+k≤8+k by omega))
 have HP:=zH (show aI.put b 4 d=aI.row (((bM b 4).drop 0).map (fU 4)) d from rfl)
 have hlen:(bM b 4).length=2:=rfl
 have HLT:=zH h.lt
 clear h fit
 generalize aI.put b 4 d=r at *
 generalize bM b 4=xs at *
 have HL:=zH hlen
 clear hlen
 go_enter func206,ntmps206
 go_wp2_with fail
 refine HO.out.mono ?_
 rintro e w1 ⟨a,cp,rfl,hN,hb⟩
 have hs:=hN.safe G HLT.out
 have HS:=zH hs
 have HD:=zH (HH.out.aj hb)
 have ST:=zH (Step.ah (F:=G) hb)
 rw [HL.out]
 clear hs hN hb HO HH
 go_wp2
 go_loopw [21] (fun i wr => ∃ (j:Nat) (dk:aI) (Gk:Nat→Prop),j≤2∧i=.int .i64 j∧fm wr p c dk Gk∧Step G Gk w wr∧dk.Fit (2 - j+k)∧r=aI.row ((xs.drop j).map (fU 4)) dk∧aN wr a xs Gk) (fun i _=>2 - (intOf i).toNat)
 case atStart=>exact ⟨0,d,G,Nat.zero_le _,rfl,HD.out,ST.out,HF.out,HP.out,HS.out⟩
 case round =>
  obtain ⟨j,dk,Gk,hj,rfl,hD,hst,hf,hr,hs⟩:=hrel
  by_cases hlt:j<2
  ·
   have hlx:j<xs.length:=by rw [HL.out];exact hlt
   obtain ⟨bb,off,rfl,hcell⟩:=hs.1 j hlx
   have hra:=HR.out j
   have hdr:=Fy xs (fU 4) j hlx
   rw [hdr] at hr
   have HD':=zH hD
   have HST:=zH hst
   have HF':=zH (show dk.Fit (2 - (j+1)+k+1) from cA hf (by omega))
   have HRR:=zH hr
   have HS':=zH hs
   clear hdr hD hst hf hr hs hlx
   generalize xs.getD j 0=x at *
   obtain ⟨x0,x1,x2⟩:=hra
   clear x2
   cases hstop:dk.stop with
   | true =>
    have HT:=zH (mO p c dk Gk (x) wr HD'.out hstop)
    have HE:=zH (sn (fU 4 x) ((xs.drop (j+1)).map (fU 4)) dk hstop)
    clear hstop
    go_wp2_with fail
    refine HT.out.mono ?_
    rintro e w2 ⟨rfl,G2,hD2,st2⟩
    have H2:=zH (zA hD2 st2)
    clear hD2 st2
    go_wp2
    go_ret
    rw [HRR.out,HE.out]
    exact ⟨rfl,G2,H2.out.1,HST.out.trans H2.out.2⟩
   | false =>
    have HT:=zH (sH p c dk Gk _ (x) wr HD'.out HF'.out hstop (by omega) (by omega))
    have HE:=zH (xD (fU 4 x) ((xs.drop (j+1)).map (fU 4)) dk hstop)
    clear hstop
    go_wp2_with fail
    refine HT.out.mono ?_
    rintro e w2 ⟨rfl,G2,hD2,st2⟩
    have H2:=zH (zA hD2 st2)
    clear hD2 st2
    go_wp2
    go_roundw
    case rel=>exact ⟨j+1,dk.tick (x),G2,by omega,by go_num,H2.out.1,HST.out.trans H2.out.2,lE HF'.out _,HRR.out.trans HE.out,HS'.out.step H2.out.2⟩
    case measure=>simp [intOf];omega
  ·
   obtain rfl:j=2:=by omega
   have e:(xs.drop 2).map (fU 4)=[]:=by rw [List.drop_of_length_le (by rw [HL.out];decide)];rfl
   rw [e] at hr
   have HX:=zH (zA hD hst)
   have HRR:=zH (show r=(true,dk) from hr)
   clear hD hst hf hr hs e
   go_wp2
   go_ret
   rw [HRR.out]
   exact ⟨rfl,Gk,HX.out⟩
theorem Hw (p c:Nat) (d:aI) (G:Nat→Prop) (k:Nat) (b L:Int) (w:World) (h:fm w p c d G) (fit:d.Fit (8+k)) (hL:L=1∨L=4) (h0:0≤b) (h1:b<256):Calls prog 206 #[.pointer (some ⟨p,0,none⟩),.int .i64 b,.int .i64 L] w (mU (aI.put b L d).1 p c (aI.put b L d).2 G w):=by
 rcases hL with rfl | rfl
 ·
  exact MY p c d G k b w h fit h0 h1
 ·
  exact MZ p c d G k b w h fit h0 h1
theorem fm.fB {w w':World} {p c:Nat} {d:aI} {G H:Nat→Prop} (h:fm w p c d G) (t:Touch H w w') (hG : ∀ b,G b → ¬ H b) (hh:0<d.ar.busy.length → ¬ H d.ar.home):fm w' p c d G:=by
 obtain ⟨F,ov,hp,hch,ho,hFp,hFo,hFG,hGp,hGo,hhm⟩:=h.ex
 exact ⟨⟨F,ov,t.at hp (hG p hGp),hch.fB t (fun b hb=>hG b (hFG b hb)) hh,gB ho t (fun g hg=>hG g (hGo g hg).1),hFp,hFo,hFG,hGp,hGo,hhm⟩,fun b hb=>zV (h.lt b hb) t.size⟩
theorem jK {F:Nat→Prop} {w w':World} {B n:Nat} {v:Value} {xs:List Value} (h:w.ownsRow B 3 1 v n xs) (t:Touch F w w') (hn : ∀ g,v.ownBlock=some g → ¬ F g):w'.ownsRow B 3 1 v n xs:=by
 refine ⟨h.1,?_⟩
 rcases h.2 with h2 | ⟨g,cap,cur,hv,hb,hg,r⟩
 ·
  exact .inl h2
 ·
  exact .inr ⟨g,cap,cur,hv,hb,t.at hg (hn g (by rw [hv];rfl)),r⟩
theorem oR {w w':World} {v:Value} (h:w.grownBy w' v.ownBlock):Touch (fun b=>v.ownBlock=some b) w w':=⟨h.os,h.tape,h.output,h.size,fun k hk hn=>h.block k hk (fun e=>hn e.symm)⟩
theorem wN {w w1 w2:World} {p c g cap:Nat} {d:aI} {G F:Nat→Prop} {ov:Value} {x:Int} (hG:fm w p c d G) (hp:w.heap[p]? = some (.cells #[.pointer (some ⟨c,0,none⟩),ov,.int .i64 (d.n:Int),.int .i64 d.bh] 291 (0,0))) (hch:aS w c d.ar F) (ho:w.ownsRow 0 3 1 ov d.out.length (aC d.out)) (hFp : ¬ F p) (hFo : ∀ g,ov.ownBlock=some g → ¬ F g) (hFG : ∀ b,F b→G b) (hGp:G p) (hGo : ∀ g,ov.ownBlock=some g→G g∧p≤g) (hh:0<d.ar.busy.length → ¬ G d.ar.home) (hb:Below w.heap.size w w1) (hgrow:w1.grownBy w2 ov.ownBlock) (hown:w2.ownsRow 0 3 1 (.slice (some ⟨g,0,none⟩) (d.out.length+1) cap) (d.out.length+1) (aC d.out++[.int .i64 x])) (hat:ov.ownBlock=some g∨g=w1.heap.size) (hlt:g<w2.heap.size):w2.heap[p]? = some (.cells #[.pointer (some ⟨c,0,none⟩),ov,.int .i64 (d.n:Int),.int .i64 d.bh] 291 (0,0)) ∧ ∃ G',fm (w2.setCell ⟨p,1,none⟩ (.slice (some ⟨g,0,none⟩) (d.out.length+1) cap)) p c { d with out:=d.out++[x] } G'∧Step G G' w (w2.setCell ⟨p,1,none⟩ (.slice (some ⟨g,0,none⟩) (d.out.length+1) cap)):=by
 have hpo : ∀ k,ov.ownBlock=some k→k≠p:=by
  rintro k hk rfl
  obtain ⟨cur,hc⟩:=gA ho hk
  have:=hc.symm.trans hp;simp at this
 have T1:Touch (fun b=>ov.ownBlock=some b) w w2:=(Touch.ah hb).trans (oR hgrow)
 have hp2:=T1.at hp (fun e=>hpo p e rfl)
 have hgp:g≠p:=by
  rcases hat with e | e
  ·
   exact hpo g e
  ·
   have:=aP hp;have:=hb.size;omega
 have hgG:G g∨w.heap.size≤g:=by
  rcases hat with e | e
  ·
   exact .inl (hGo g e).1
  ·
   right;have:=hb.size;omega
 have hgF : ¬ F g:=by
  rcases hat with e | e
  ·
   exact hFo g e
  ·
   intro hf;have:=hch.lt g hf;have:=hb.size;omega
 have T2:Touch (aO p) w2 (w2.setCell ⟨p,1,none⟩ (.slice (some ⟨g,0,none⟩) (d.out.length+1) cap)):=(Touch.refl _ _).set p 1 _ rfl
 have hc2:aS w2 c d.ar F:=hch.fB T1 (fun b hb' e=>hFo b e hb') (fun hl e=>hh hl (hGo _ e).1)
 have hc3:=hc2.fB T2 (fun b hb' e=>hFp (by rw [← show b=p from e];exact hb')) (fun hl e=>hh hl (by rw [show d.ar.home=p from e];exact hGp))
 refine ⟨hp2,fun b=>G b∨b=g,⟨⟨F,.slice (some ⟨g,0,none⟩) (d.out.length+1) cap,az (i:=1) (v:=.slice (some ⟨g,0,none⟩) (d.out.length+1) cap) hp2,hc3,?_,hFp,?_,fun b hb'=>.inl (hFG b hb'),.inl hGp,?_,?_⟩,?_⟩,?_,?_⟩
 ·
  have e:(d.out++[x]).length=d.out.length+1:=by simp
  have e2:aC (d.out++[x])=aC d.out++[.int .i64 x]:=by simp [aC]
  show World.ownsRow _ 0 3 1 _ (d.out++[x]).length (aC (d.out++[x]))
  rw [e,e2]
  refine gB hown T2 (fun k hk e => ?_)
  obtain rfl:g=k:=by simpa [Value.ownBlock] using hk
  exact hgp e
 ·
  intro k hk
  obtain rfl:g=k:=by simpa [Value.ownBlock] using hk
  exact hgF
 ·
  intro k hk
  obtain rfl:g=k:=by simpa [Value.ownBlock] using hk
  refine ⟨.inr rfl,?_⟩
  rcases hat with e | e
  ·
   exact (hGo g e).2
  ·
   have:=aP hp;have:=hb.size;omega
 ·
  intro hl hf
  rcases hf with hf | hf
  ·
   exact hh hl hf
  ·
   obtain ⟨h1,h2⟩:=hch.home hl
   rcases hat with e | e
   ·
    exact hh hl (by rw [show d.ar.home=g from hf];exact (hGo g e).1)
   ·
    have e':d.ar.home=g:=hf
    have:=hb.size;omega
 ·
  intro b hb'
  rw [World.size_setCell]
  rcases hb' with hb' | rfl
  ·
   exact zV (hG.lt b hb') T1.size
  ·
   exact hlt
 ·
  exact (T1.mono (fun b e=>(hGo b e).1)).set p 1 _ hGp
 ·
  intro b hb'
  rcases hb' with hb' | rfl
  ·
   exact .inl hb'
  ·
   exact hgG
theorem pK (L:Int) (j:Nat) (xs:List Int) (d:aI) (h:d.stop=true):aI.im L (j+1) xs d=(false,xs,d):=by
 show (if d.stop=true then (false,xs,d) else _)=_
 rw [if_pos h]
theorem rz (L:Int) (j:Nat) (xs:List Int) (d:aI) (h:d.stop=false):aI.im L (j+1) xs d=aI.im L j (xs++[heard L (d.said 15)]) (d.tick 15):=by
 show (if d.stop=true then (false,xs,d) else _)=_
 rw [if_neg (by rw [h];decide)]
theorem xO {ys:List Int} {m y:Int} (h : ∀ i,i<ys.length→0≤ys.getD i 0∧ys.getD i 0<m) (hy:0≤y∧y<m) : ∀ i,i<(ys++[y]).length→0≤(ys++[y]).getD i 0∧(ys++[y]).getD i 0<m:=by
 intro i hi
 by_cases hlt:i<ys.length
 ·
  have:(ys++[y]).getD i 0=ys.getD i 0:=by simp [List.getD,List.getElem?_append_left hlt]
  rw [this];exact h i hlt
 ·
  obtain rfl:i=ys.length:=by simp at hi;omega
  have:(ys++[y]).getD ys.length 0=y:=by simp [List.getD]
  rw [this];exact hy
theorem MO (p c:Nat) (d:aI) (G:Nat→Prop) (k:Nat) (w:World) (h:fm w p c d G) (fit:d.Fit (8+k)) (hout:d.out.length≤100000):Calls prog 208 #[.pointer (some ⟨p,0,none⟩),.int .i64 1] w (mU (aI.get 1 d).1 p c (aI.get 1 d).2 G w):=by
 have HH:=zH h
 have HF:=zH (cA fit (show 8+k≤8+k by omega))
 have HP:=zH (show aI.get 1 d=d.cO 1 (aI.im 1 8 [] d) from rfl)
 have HHM:=zH (fun hl=>(h.ex.choose_spec.choose_spec.2.1.home hl).1)
 have HLT:=zH h.lt
 obtain ⟨i0,hi,hz0,hz1,hz2⟩:=info_parts iK
 have HO:=zH hout
 clear h fit hout
 generalize hr0:aI.im 1 8 [] d=hr at *
 have HR0:=zH hr0.symm
 clear hr0
 go_enter func208,ntmps208
 go_wp2_with (go_at_call 204;refine (fR 1 _ (by decide)).mono ?_;rintro e w ⟨rfl,rfl⟩;simp only [show many 1=8 from rfl])
 go_loopw [5,12] (fun v i wr => ∃ (j:Nat) (ys:List Int) (dk:aI) (Gk:Nat→Prop),j≤8∧i=.int .i64 j∧ys.length=j∧fm wr p c dk Gk∧Step G Gk w wr∧dk.Fit (8 - j+k)∧hr=aI.im 1 (8 - j) ys dk∧dk.out=d.out∧dk.ar.home=d.ar.home∧dk.ar.busy=d.ar.busy∧wr.ownsRow w.heap.size 3 1 v j (aC ys)∧(∀ g,v.ownBlock=some g → ¬ Gk g)∧(∀ i,i<ys.length→0≤ys.getD i 0∧ys.getD i 0<2)) (fun _ i _=>8 - (intOf i).toNat)
 case atStart=>exact ⟨0,[],d,G,Nat.zero_le _,rfl,rfl,HH.out,Step.refl _ _,HF.out,HR0.out,rfl,rfl,rfl,zN,(fun g e=>by cases e),(fun i hi=>absurd hi (Nat.not_lt_zero _))⟩
 case round =>
  obtain ⟨j,ys,dk,Gk,hj,rfl,hys,hD,hst,hf,hrr,ho,hhm,hbs,hown,hog,hrg⟩:=hrel
  by_cases hlt:j<8
  ·
   have e1:8 - j=(8 - (j+1))+1:=by omega
   rw [e1] at hrr
   have HD:=zH hD
   have HST:=zH hst
   have HF':=zH (show dk.Fit (8 - (j+1)+k+1) from cA hf (by omega))
   have HRR:=zH hrr
   have HOH:=zH (zA ho (zA hhm hbs))
   have HOWN:=zH (zA hown (zA hog (zA hrg hys)))
   clear e1 hD hst hf hrr ho hhm hbs hown hog hrg hys
   cases hstop:dk.stop with
   | true =>
    have HT:=zH (mO p c dk Gk 15 wr HD.out hstop)
    have HE:=zH (pK 1 (8 - (j+1)) ys dk hstop)
    clear hstop
    go_wp2_with fail
    refine HT.out.mono ?_
    rintro e w2 ⟨rfl,G2,hD2,st2⟩
    have H2:=zH (zA hD2 st2)
    clear hD2 st2
    go_wp2
    go_ret
    rw [HP.out,HRR.out,HE.out]
    exact ⟨rfl,G2,H2.out.1,HST.out.trans H2.out.2⟩
   | false =>
    have HT:=zH (sH p c dk Gk _ 15 wr HD.out HF'.out hstop (by decide) (by decide))
    have HE:=zH (rz 1 (8 - (j+1)) ys dk hstop)
    have hsr:=xG HF'.out 15
    clear hstop
    obtain ⟨sd,hsd⟩ : ∃ sd,dk.said 15=sd:=⟨_,rfl⟩
    rw [hsd] at HT HE hsr
    clear hsd
    obtain ⟨s0,s1⟩:=hsr
    have hand:bits .and .i64 (sd / 2) 1=sd / 2 % 2:=Gq _
    go_wp2_with fail
    refine HT.out.mono ?_
    rintro e w2 ⟨rfl,G2,hD2,st2⟩
    obtain ⟨hown,hog,hrg,hys⟩:=HOWN.out
    have hown2:=jK hown st2.aH hog
    have hog2 : ∀ g,Value.ownBlock _=some g → ¬ G2 g:=fun g hg=>by
     obtain ⟨cur,hc⟩:=gA (tv hown zX) hg
     exact st2.safe (aP hc) (hog g hg)
    have H2:=zH (zA hD2 (zA st2 (zA hown2 (zA hog2 (zA hrg hys)))))
    have hsz:w.heap.size≤w2.heap.size:=(HST.out.trans st2).aH.size
    have hz63:j+1≤maxLen:=by unfold maxLen;omega
    have hz47:(j+1) * 8≤140737488355328:=by omega
    clear hD2 st2 hown hog hrg hys hown2 hog2
    go_wp2_with (at_builtin;refine wpList_append_lies _ rfl (.tmp 26) (.tmp 28) 22 (by rfl) w.heap.size 3 i0 (.int .i64 0) 1 8 underlying22 hi hz0 hz1 hz2 rfl (by decide) _ j _ (by rfl) (World.ownsRow.aj H2.out.2.2.1 (ae zR _)) ⟨w2.heap.size,0,none⟩ 1 1 [.int .i64 (sd / 2 % 2)] (by rfl) rfl ?nw ?on (by decide) hz63 hz47 ?bs (w2.heap.size+1) ?sz ?_)
    case nw=>exact World.news_of_block (cs := #[.int .i64 (sd / 2 % 2)]) (t:=3) (fr:=(0,0)) (af w2 _)
    case on=>simp [Value.oneCell']
    case bs=>simp;omega
    case sz=>simp
    intro g cap w3 hown3 hgrow hat hlt3
    obtain ⟨hD2,st2,hown2,hog2,hrg,hys⟩:=H2.out
    have hb3:Below w2.heap.size w2 (w2.alloc (.cells #[.int .i64 (sd / 2 % 2)] 3)):=ae zR _
    have T3:=(Touch.ah hb3).trans (oR hgrow)
    have hD3:=hD2.fB T3 (fun b hb e=>hog2 b e hb) (fun hl e=>by
     have e2:=gL hown2 _ e
     have hl0:0<d.ar.busy.length:=by
      have e3:(dk.tick 15).ar.busy=d.ar.busy:=(fp dk.ar 15).1.trans HOH.out.2.2
      rw [← e3];exact hl
     have e4:(dk.tick 15).ar.home=d.ar.home:=(fp dk.ar 15).2.trans HOH.out.2.1
     have:=HHM.out hl0
     rw [e4] at e2
     omega)
    have st02:=HST.out.trans st2
    have st3:Step G G2 w w3:=⟨st02.aH.then T3 (fun b hb=>.inr (gL hown2 b hb)),st02.ik⟩
    have hg3 : ¬ G2 g:=by
     rcases hat with e | e
     ·
      exact hog2 g e
     ·
      intro hg;have:=hD2.lt g hg;omega
    have hown4:w3.ownsRow w.heap.size 3 1 (.slice (some ⟨g,0,none⟩) (j+1) cap) (j+1) (aC (ys++[(sd / 2 % 2)])):=by simpa [aC] using hown3
    have hrg4:=xO hrg (y:=(sd / 2 % 2)) (by omega)
    have hhr:hr=aI.im 1 (8 - (j+1)) (ys++[(sd / 2 % 2)]) (dk.tick 15):=by rw [HRR.out,HE.out];rfl
    have H3:=zH (zA hD3 (zA st3 (zA hg3 (zA hown4 (zA hrg4 (zA hhr hys))))))
    clear hD2 st2 hown2 hog2 hrg hys hD3 st02 st3 hg3 hown4 hrg4 hhr hown3 hgrow hat hb3 T3
    go_wp2
    go_roundw
    case rel=>exact ⟨j+1,ys++[(sd / 2 % 2)],dk.tick 15,G2,by omega,by go_num,by simp [H3.out.2.2.2.2.2.2],H3.out.1,H3.out.2.1,lE HF'.out 15,H3.out.2.2.2.2.2.1,HOH.out.1,(fp dk.ar 15).2.trans HOH.out.2.1,(fp dk.ar 15).1.trans HOH.out.2.2,H3.out.2.2.2.1,(fun k hk=>by
     obtain rfl:g=k:=by simpa [Value.ownBlock] using hk
     exact H3.out.2.2.1),H3.out.2.2.2.2.1⟩
    case measure=>simp [intOf];omega
  ·
   obtain rfl:j=8:=by omega
   obtain ⟨a',c',hv,hints⟩:=(bz.dd (show wr.ownsRow w.heap.size 3 1 _ ys.length (aC ys) by rw [hys];exact hown)).ints
   rw [hys] at hv
   subst hv
   have HIN:=zH (in_1 a' c' ys wr hints hys hrg)
   have hrr2:hr=(true,ys,dk):=hrr
   have HV:=zH (show d.cO 1 hr=(true,{ dk with out:=dk.out++[cZ ys 1] }) by rw [hrr2];rfl)
   have hlen:dk.out.length≤100000:=by rw [ho];exact HO.out
   generalize cZ ys 1=y at *
   obtain ⟨F,ov,hp,hch,hoo,hFp,hFo,hFG,hGp,hGo,hhh⟩:=hD.ex
   have c1:wr.cell? ⟨p,1,none⟩=some ov:=cell_of hp 1
   obtain ⟨da,dc,hda⟩ : ∃ da dc,ov=.slice da dk.out.length dc:=by
    rcases CS hoo with ⟨e,e2⟩ | ⟨g,cap,e,_⟩
    ·
     exact ⟨none,0,by rw [e2];exact e⟩
    ·
     exact ⟨_,_,e⟩
   subst hda
   have hb3:Below wr.heap.size wr (wr.alloc (.cells #[.int .i64 y] 3)):=ae zR _
   have HDP:=zH (fun (g cap:Nat) (w2:World) (h1:(wr.alloc (.cells #[.int .i64 y] 3)).grownBy w2 (Value.slice da dk.out.length dc).ownBlock) (h2:_) (h3:_) (h4:_)=>wN (g:=g) (cap:=cap) (w2:=w2) (x:=y) hD hp hch hoo hFp hFo hFG hGp hGo hhh hb3 h1 h2 h3 h4)
   have HOO:=zH (World.ownsRow.aj hoo hb3)
   have hz63:dk.out.length+1≤maxLen:=by unfold maxLen;omega
   have hz47:(dk.out.length+1) * 8≤140737488355328:=by omega
   have HST:=zH hst
   have hpl:p<wr.heap.size:=aP hp
   have c1b:(wr.alloc (.cells #[.int .i64 y] 3)).cell? ⟨p,1,none⟩=some (.slice da dk.out.length dc):=by rw [World.cell?_alloc_lt _ _ _ hpl];exact c1
   clear hD hst hf hrr ho hhm hbs hown hog hrg hints hrr2 hp hch hoo hFp hFo hFG hGp hGo hhh hb3
   go_wp2_with fail
   refine HIN.out.mono ?_
   rintro e wr ⟨rfl,rfl⟩
   go_wp2_with (at_builtin;refine wpList_append_lies _ rfl (.tmp 41) (.tmp 43) 22 (by rfl) 0 3 i0 (.int .i64 0) 1 8 underlying22 hi hz0 hz1 hz2 rfl (by decide) _ dk.out.length (aC dk.out) (by rfl) HOO.out ⟨wr.heap.size,0,none⟩ 1 1 [.int .i64 y] (by rfl) rfl ?nw2 ?on2 (by decide) hz63 hz47 zX (wr.heap.size+1) ?sz2 ?_)
   case nw2=>exact World.news_of_block (cs := #[.int .i64 y]) (t:=3) (fr:=(0,0)) (af wr _)
   case on2=>simp [Value.oneCell']
   case sz2=>simp
   intro g cap w2 hown hgrow hat hlt2
   obtain ⟨hp2,G',hD2,st2⟩:=HDP.out g cap w2 hgrow hown (by simpa using hat) hlt2
   have d1:w2.cell? ⟨p,1,none⟩=some (.slice da dk.out.length dc):=cell_of hp2 1
   have f1:w2.frozen? ⟨p,1,none⟩=false:=aF hp2 1
   have H2:=zH (zA hD2 (HST.out.trans st2))
   clear hp2 hD2 st2 hown hgrow hat hlt2
   go_wp2
   go_ret
   rw [HP.out,HV.out]
   exact ⟨rfl,G',H2.out⟩
theorem MP (p c:Nat) (d:aI) (G:Nat→Prop) (k:Nat) (w:World) (h:fm w p c d G) (fit:d.Fit (8+k)) (hout:d.out.length≤100000):Calls prog 208 #[.pointer (some ⟨p,0,none⟩),.int .i64 4] w (mU (aI.get 4 d).1 p c (aI.get 4 d).2 G w):=by
 have HH:=zH h
 have HF:=zH (cA fit (show 2+k≤8+k by omega))
 have HP:=zH (show aI.get 4 d=d.cO 4 (aI.im 4 2 [] d) from rfl)
 have HHM:=zH (fun hl=>(h.ex.choose_spec.choose_spec.2.1.home hl).1)
 have HLT:=zH h.lt
 obtain ⟨i0,hi,hz0,hz1,hz2⟩:=info_parts iK
 have HO:=zH hout
 clear h fit hout
 generalize hr0:aI.im 4 2 [] d=hr at *
 have HR0:=zH hr0.symm
 clear hr0
 go_enter func208,ntmps208
 go_wp2_with (go_at_call 204;refine (fR 4 _ (by decide)).mono ?_;rintro e w ⟨rfl,rfl⟩;simp only [show many 4=2 from rfl])
 go_loopw [5,12] (fun v i wr => ∃ (j:Nat) (ys:List Int) (dk:aI) (Gk:Nat→Prop),j≤2∧i=.int .i64 j∧ys.length=j∧fm wr p c dk Gk∧Step G Gk w wr∧dk.Fit (2 - j+k)∧hr=aI.im 4 (2 - j) ys dk∧dk.out=d.out∧dk.ar.home=d.ar.home∧dk.ar.busy=d.ar.busy∧wr.ownsRow w.heap.size 3 1 v j (aC ys)∧(∀ g,v.ownBlock=some g → ¬ Gk g)∧(∀ i,i<ys.length→0≤ys.getD i 0∧ys.getD i 0<16)) (fun _ i _=>2 - (intOf i).toNat)
 case atStart=>exact ⟨0,[],d,G,Nat.zero_le _,rfl,rfl,HH.out,Step.refl _ _,HF.out,HR0.out,rfl,rfl,rfl,zN,(fun g e=>by cases e),(fun i hi=>absurd hi (Nat.not_lt_zero _))⟩
 case round =>
  obtain ⟨j,ys,dk,Gk,hj,rfl,hys,hD,hst,hf,hrr,ho,hhm,hbs,hown,hog,hrg⟩:=hrel
  by_cases hlt:j<2
  ·
   have e1:2 - j=(2 - (j+1))+1:=by omega
   rw [e1] at hrr
   have HD:=zH hD
   have HST:=zH hst
   have HF':=zH (show dk.Fit (2 - (j+1)+k+1) from cA hf (by omega))
   have HRR:=zH hrr
   have HOH:=zH (zA ho (zA hhm hbs))
   have HOWN:=zH (zA hown (zA hog (zA hrg hys)))
   clear e1 hD hst hf hrr ho hhm hbs hown hog hrg hys
   cases hstop:dk.stop with
   | true =>
    have HT:=zH (mO p c dk Gk 15 wr HD.out hstop)
    have HE:=zH (pK 4 (2 - (j+1)) ys dk hstop)
    clear hstop
    go_wp2_with fail
    refine HT.out.mono ?_
    rintro e w2 ⟨rfl,G2,hD2,st2⟩
    have H2:=zH (zA hD2 st2)
    clear hD2 st2
    go_wp2
    go_ret
    rw [HP.out,HRR.out,HE.out]
    exact ⟨rfl,G2,H2.out.1,HST.out.trans H2.out.2⟩
   | false =>
    have HT:=zH (sH p c dk Gk _ 15 wr HD.out HF'.out hstop (by decide) (by decide))
    have HE:=zH (rz 4 (2 - (j+1)) ys dk hstop)
    have hsr:=xG HF'.out 15
    clear hstop
    obtain ⟨sd,hsd⟩ : ∃ sd,dk.said 15=sd:=⟨_,rfl⟩
    rw [hsd] at HT HE hsr
    clear hsd
    obtain ⟨s0,s1⟩:=hsr
    go_wp2_with fail
    refine HT.out.mono ?_
    rintro e w2 ⟨rfl,G2,hD2,st2⟩
    obtain ⟨hown,hog,hrg,hys⟩:=HOWN.out
    have hown2:=jK hown st2.aH hog
    have hog2 : ∀ g,Value.ownBlock _=some g → ¬ G2 g:=fun g hg=>by
     obtain ⟨cur,hc⟩:=gA (tv hown zX) hg
     exact st2.safe (aP hc) (hog g hg)
    have H2:=zH (zA hD2 (zA st2 (zA hown2 (zA hog2 (zA hrg hys)))))
    have hsz:w.heap.size≤w2.heap.size:=(HST.out.trans st2).aH.size
    have hz63:j+1≤maxLen:=by unfold maxLen;omega
    have hz47:(j+1) * 8≤140737488355328:=by omega
    clear hD2 st2 hown hog hrg hys hown2 hog2
    go_wp2_with (at_builtin;refine wpList_append_lies _ rfl (.tmp 26) (.tmp 28) 22 (by rfl) w.heap.size 3 i0 (.int .i64 0) 1 8 underlying22 hi hz0 hz1 hz2 rfl (by decide) _ j _ (by rfl) (World.ownsRow.aj H2.out.2.2.1 (ae zR _)) ⟨w2.heap.size,0,none⟩ 1 1 [.int .i64 sd] (by rfl) rfl ?nw ?on (by decide) hz63 hz47 ?bs (w2.heap.size+1) ?sz ?_)
    case nw=>exact World.news_of_block (cs := #[.int .i64 sd]) (t:=3) (fr:=(0,0)) (af w2 _)
    case on=>simp [Value.oneCell']
    case bs=>simp;omega
    case sz=>simp
    intro g cap w3 hown3 hgrow hat hlt3
    obtain ⟨hD2,st2,hown2,hog2,hrg,hys⟩:=H2.out
    have hb3:Below w2.heap.size w2 (w2.alloc (.cells #[.int .i64 sd] 3)):=ae zR _
    have T3:=(Touch.ah hb3).trans (oR hgrow)
    have hD3:=hD2.fB T3 (fun b hb e=>hog2 b e hb) (fun hl e=>by
     have e2:=gL hown2 _ e
     have hl0:0<d.ar.busy.length:=by
      have e3:(dk.tick 15).ar.busy=d.ar.busy:=(fp dk.ar 15).1.trans HOH.out.2.2
      rw [← e3];exact hl
     have e4:(dk.tick 15).ar.home=d.ar.home:=(fp dk.ar 15).2.trans HOH.out.2.1
     have:=HHM.out hl0
     rw [e4] at e2
     omega)
    have st02:=HST.out.trans st2
    have st3:Step G G2 w w3:=⟨st02.aH.then T3 (fun b hb=>.inr (gL hown2 b hb)),st02.ik⟩
    have hg3 : ¬ G2 g:=by
     rcases hat with e | e
     ·
      exact hog2 g e
     ·
      intro hg;have:=hD2.lt g hg;omega
    have hown4:w3.ownsRow w.heap.size 3 1 (.slice (some ⟨g,0,none⟩) (j+1) cap) (j+1) (aC (ys++[sd])):=by simpa [aC] using hown3
    have hrg4:=xO hrg (y:=sd) (by omega)
    have hhr:hr=aI.im 4 (2 - (j+1)) (ys++[sd]) (dk.tick 15):=by rw [HRR.out,HE.out];rfl
    have H3:=zH (zA hD3 (zA st3 (zA hg3 (zA hown4 (zA hrg4 (zA hhr hys))))))
    clear hD2 st2 hown2 hog2 hrg hys hD3 st02 st3 hg3 hown4 hrg4 hhr hown3 hgrow hat hb3 T3
    go_wp2
    go_roundw
    case rel=>exact ⟨j+1,ys++[sd],dk.tick 15,G2,by omega,by go_num,by simp [H3.out.2.2.2.2.2.2],H3.out.1,H3.out.2.1,lE HF'.out 15,H3.out.2.2.2.2.2.1,HOH.out.1,(fp dk.ar 15).2.trans HOH.out.2.1,(fp dk.ar 15).1.trans HOH.out.2.2,H3.out.2.2.2.1,(fun k hk=>by
     obtain rfl:g=k:=by simpa [Value.ownBlock] using hk
     exact H3.out.2.2.1),H3.out.2.2.2.2.1⟩
    case measure=>simp [intOf];omega
  ·
   obtain rfl:j=2:=by omega
   obtain ⟨a',c',hv,hints⟩:=(bz.dd (show wr.ownsRow w.heap.size 3 1 _ ys.length (aC ys) by rw [hys];exact hown)).ints
   rw [hys] at hv
   subst hv
   have HIN:=zH (Nd a' c' ys wr hints hys hrg)
   have hrr2:hr=(true,ys,dk):=hrr
   have HV:=zH (show d.cO 4 hr=(true,{ dk with out:=dk.out++[cZ ys 4] }) by rw [hrr2];rfl)
   have hlen:dk.out.length≤100000:=by rw [ho];exact HO.out
   generalize cZ ys 4=y at *
   obtain ⟨F,ov,hp,hch,hoo,hFp,hFo,hFG,hGp,hGo,hhh⟩:=hD.ex
   have c1:wr.cell? ⟨p,1,none⟩=some ov:=cell_of hp 1
   obtain ⟨da,dc,hda⟩ : ∃ da dc,ov=.slice da dk.out.length dc:=by
    rcases CS hoo with ⟨e,e2⟩ | ⟨g,cap,e,_⟩
    ·
     exact ⟨none,0,by rw [e2];exact e⟩
    ·
     exact ⟨_,_,e⟩
   subst hda
   have hb3:Below wr.heap.size wr (wr.alloc (.cells #[.int .i64 y] 3)):=ae zR _
   have HDP:=zH (fun (g cap:Nat) (w2:World) (h1:(wr.alloc (.cells #[.int .i64 y] 3)).grownBy w2 (Value.slice da dk.out.length dc).ownBlock) (h2:_) (h3:_) (h4:_)=>wN (g:=g) (cap:=cap) (w2:=w2) (x:=y) hD hp hch hoo hFp hFo hFG hGp hGo hhh hb3 h1 h2 h3 h4)
   have HOO:=zH (World.ownsRow.aj hoo hb3)
   have hz63:dk.out.length+1≤maxLen:=by unfold maxLen;omega
   have hz47:(dk.out.length+1) * 8≤140737488355328:=by omega
   have HST:=zH hst
   have hpl:p<wr.heap.size:=aP hp
   have c1b:(wr.alloc (.cells #[.int .i64 y] 3)).cell? ⟨p,1,none⟩=some (.slice da dk.out.length dc):=by rw [World.cell?_alloc_lt _ _ _ hpl];exact c1
   clear hD hst hf hrr ho hhm hbs hown hog hrg hints hrr2 hp hch hoo hFp hFo hFG hGp hGo hhh hb3
   go_wp2_with fail
   refine HIN.out.mono ?_
   rintro e wr ⟨rfl,rfl⟩
   go_wp2_with (at_builtin;refine wpList_append_lies _ rfl (.tmp 41) (.tmp 43) 22 (by rfl) 0 3 i0 (.int .i64 0) 1 8 underlying22 hi hz0 hz1 hz2 rfl (by decide) _ dk.out.length (aC dk.out) (by rfl) HOO.out ⟨wr.heap.size,0,none⟩ 1 1 [.int .i64 y] (by rfl) rfl ?nw2 ?on2 (by decide) hz63 hz47 zX (wr.heap.size+1) ?sz2 ?_)
   case nw2=>exact World.news_of_block (cs := #[.int .i64 y]) (t:=3) (fr:=(0,0)) (af wr _)
   case on2=>simp [Value.oneCell']
   case sz2=>simp
   intro g cap w2 hown hgrow hat hlt2
   obtain ⟨hp2,G',hD2,st2⟩:=HDP.out g cap w2 hgrow hown (by simpa using hat) hlt2
   have d1:w2.cell? ⟨p,1,none⟩=some (.slice da dk.out.length dc):=cell_of hp2 1
   have f1:w2.frozen? ⟨p,1,none⟩=false:=aF hp2 1
   have H2:=zH (zA hD2 (HST.out.trans st2))
   clear hp2 hD2 st2 hown hgrow hat hlt2
   go_wp2
   go_ret
   rw [HP.out,HV.out]
   exact ⟨rfl,G',H2.out⟩
theorem GR (p c:Nat) (d:aI) (G:Nat→Prop) (k:Nat) (L:Int) (w:World) (h:fm w p c d G) (fit:d.Fit (8+k)) (hL:L=1∨L=4) (hout:d.out.length≤100000):Calls prog 208 #[.pointer (some ⟨p,0,none⟩),.int .i64 L] w (mU (aI.get L d).1 p c (aI.get L d).2 G w):=by
 rcases hL with rfl | rfl
 ·
  exact MO p c d G k w h fit hout
 ·
  exact MP p c d G k w h fit hout
end
end Go.Proofs.YtcfdenckiigdaaaGreat

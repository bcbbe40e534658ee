/- Part 10 of the contracts. -/
import Derived.Test.YtcfdenckiigdaaaGreatFl09
set_option linter.unusedVariables false
set_option maxRecDepth 100000
set_option maxHeartbeats 4000000
namespace Go.Proofs.YtcfdenckiigdaaaGreat
open Tryz
section
open Go.RowKit
def Mw (c:Nat) (m:ag) (F:Nat→Prop) (w wx:World):Prop := ∃ s',bJ wx c s' m.next F∧Step F F w wx
theorem JL {m:ag} {n:Nat} (h:m.Fit n) (hs:m.ay=6):(m.op.data=1∨m.op.data=4)∧1≤m.next.left∧m.op.data * m.next.left≤8∧0≤m.next.now∧m.next.now<256∧m.next.op=m.op∧m.next.told≤n+1:=by
 obtain ⟨hd,hm⟩:=h.part.kp hs
 have h0:=h.part.kx
 have ht:=h.base.lV
 have hbr:=nm m m.told
 unfold ag.next
 split
 ·
  refine ⟨hd,?_,?_,hbr.1,hbr.2,rfl,by show m.told+1≤_;omega⟩
  ·
   show 1≤many m.op.data;rcases hd with e | e <;> rw [e] <;> decide
  ·
   show m.op.data * many m.op.data≤8;rcases hd with e | e <;> rw [e] <;> decide
 ·
  exact ⟨hd,by omega,hm,h.base.u9,h.base.ve,rfl,by omega⟩
theorem Nn (x:Int):bits .or .i64 13 (x % 2 * 2)=13+2 * (x % 2):=by
 have:x % 2=0∨x % 2=1:=by omega
 rcases this with e | e <;> rw [e] <;> rfl
theorem MW (l:Int) (h:0≤l):(2:Int) ^ (l * 4).toNat=16 ^ l.toNat:=by
 have e:(l * 4).toNat=4 * l.toNat:=by omega
 rw [e,Int.pow_mul];rfl
theorem EX (c:Nat) (m:ag) (F:Nat→Prop) (n:Nat) (w:World) (h:aS w c m F) (fit:m.Fit n) (hn:n<1099511627776) (hs6:m.ay=6):Calls prog 244 #[.pointer (some ⟨c,0,none⟩)] w (Bs m.bU.1 c m.bU.2 F w):=by
 have nf:=JL fit hs6
 have HA:=zH h
 obtain ⟨s,h⟩:=h.open
 have hs:=h.bU
 obtain ⟨T,hT⟩:=Int.eq_ofNat_of_zero_le fit.base.mP
 have hT1:T<1099511627776:=by have:=fit.base.lV;omega
 have c27:w.cell? ⟨c,27,none⟩=some (.int .i64 m.left):=by rw [← hs.left];exact cell_of h.raw 27
 have HF:=zH fit
 have HT:=zH hT
 have HR:=zH h
 have NF:=zH nf
 clear h hs fit hT nf hs6
 go_enter func244,ntmps244
 go_upto_if 13 with (fail)
 go_cut [] from 12 to 38 (fun wx=>Mw c m F w wx)
 case first =>
  by_cases hl:m.left=0
  ·
   have E:m.next={ m with now:=m.eM (T:Int),left:=many m.op.data,told:=(T:Int)+1 }:=by unfold ag.next;rw [if_pos hl,HT.out]
   have HE:=zH E
   have hd:m.op.data=1∨m.op.data=4:=NF.out.1
   have HD:=zH hd
   have hlb:(m.left == 0)=true:=by rw [hl];rfl
   clear E hl hd c27
   have hr:aS w.drew c m F:=HA.out.aj (au zR)
   obtain ⟨s0,hr⟩:=hr.open
   have c33:w.drew.cell? ⟨c,33,none⟩=some (.int .i64 (T:Int)):=by rw [← HT.out,← hr.bU.told];exact cell_of hr.raw 33
   have c24:w.drew.cell? ⟨c,24,none⟩=some (.int .i64 m.op.data):=by rw [← hr.bU.op];exact cell_of hr.raw 24
   have HB:=zH (AD c m F T w.drew hr.shut HF.out.base.ok (by omega))
   generalize m.eM (T:Int)=bx at *
   have HM:=zH (fun (w':World)=>fR m.op.data w' HD.out)
   generalize many m.op.data=mx at *
   clear hr
   go_wp2_with fail
   refine wp_region_noPanic ?_
   refine wp_region_held_drew (S:=(fun w'=>w'.cell? ⟨c,33,none⟩=some (.int .i64 (T:Int))∧w'.cell? ⟨c,24,none⟩=some (.int .i64 m.op.data))) (by kernel_rfl) (by (try dsimp only);exact ⟨c33,c24⟩) fun hHeld => ?_
   refine tk 0 ?_
   refine tk 1 ?_
   refine tk 2 ?_
   refine tk 3 ?_
   refine tk 4 ?_
   refine tk 5 ?_
   refine tk 6 ?_
   refine tk 8 ?_
   refine tk 9 ?_
   refine tk 10 ?_
   refine tk 11 ?_
   refine tk 12 ?_
   refine tr 7 fun K hK => ?_
   go_simp
   go_at_call 252
   refine HB.out.mono ?_
   rintro e w2 ⟨rfl,h2,st2⟩
   obtain ⟨s2,h2⟩:=h2.open
   have d33:w2.cell? ⟨c,33,none⟩=some (.int .i64 (T:Int)):=by rw [← HT.out,← h2.bU.told];exact cell_of h2.raw 33
   have d24:w2.cell? ⟨c,24,none⟩=some (.int .i64 m.op.data):=by rw [← h2.bU.op];exact cell_of h2.raw 24
   have d34:w2.cell? ⟨c,34,none⟩=some (.int .i64 s2.now):=cell_of h2.raw 34
   have f34:w2.frozen? ⟨c,34,none⟩=false:=aF h2.raw 34
   go_wp2_with fail
   refine hK.out _ _ (by (try dsimp only);exact ⟨d33,d24⟩) fun hHeld => ?_
   clear hK K
   try simp only [Act.put,zS,zT,zU]
   refine tr 13 fun K hK => ?_
   go_simp
   go_at_call 204
   refine (HM.out _).mono ?_
   rintro e w2 ⟨rfl,rfl⟩
   go_wp2_with fail
   refine hK.out _ _ (by (try dsimp only);exact ⟨d33,d24⟩) fun hHeld => ?_
   clear hK K
   try simp only [Act.put,zS,zT,zU]
   refine tk 14 ?_
   refine tk 15 ?_
   refine tr 16 fun K hK => ?_
   go_simp
   have r1:aV (w2.setCell ⟨c,34,none⟩ (.int .i64 bx)) c { s2 with now:=bx }:=az (i:=34) (v:=.int .i64 bx) h2.raw
   have e27:(w2.setCell ⟨c,34,none⟩ (.int .i64 bx)).cell? ⟨c,27,none⟩=some (.int .i64 s2.left):=cell_of r1 27
   have g27:(w2.setCell ⟨c,34,none⟩ (.int .i64 bx)).frozen? ⟨c,27,none⟩=false:=aF r1 27
   have e33:(w2.setCell ⟨c,34,none⟩ (.int .i64 bx)).cell? ⟨c,33,none⟩=some (.int .i64 (T:Int)):=by rw [← HT.out,← h2.bU.told];exact cell_of r1 33
   have e24:(w2.setCell ⟨c,34,none⟩ (.int .i64 bx)).cell? ⟨c,24,none⟩=some (.int .i64 m.op.data):=by rw [← h2.bU.op];exact cell_of r1 24
   refine hK.out _ _ (by (try dsimp only);exact ⟨e33,e24⟩) fun hHeld => ?_
   clear hK K
   try simp only [Act.put,zS,zT,zU]
   refine tk 17 ?_
   refine tk 18 ?_
   refine tr 19 fun K hK => ?_
   go_simp
   have r2:aV ((w2.setCell ⟨c,34,none⟩ (.int .i64 bx)).setCell ⟨c,27,none⟩ (.int .i64 mx)) c { s2 with now:=bx,left:=mx }:=az (i:=27) (v:=.int .i64 mx) r1
   have g33:((w2.setCell ⟨c,34,none⟩ (.int .i64 bx)).setCell ⟨c,27,none⟩ (.int .i64 mx)).cell? ⟨c,33,none⟩=some (.int .i64 (T:Int)):=by rw [← HT.out,← h2.bU.told];exact cell_of r2 33
   have g24:((w2.setCell ⟨c,34,none⟩ (.int .i64 bx)).setCell ⟨c,27,none⟩ (.int .i64 mx)).cell? ⟨c,24,none⟩=some (.int .i64 m.op.data):=by rw [← h2.bU.op];exact cell_of r2 24
   refine hK.out _ _ (by (try dsimp only);exact ⟨g33,g24⟩) fun hHeld => ?_
   clear hK K
   try simp only [Act.put,zS,zT,zU]
   refine wpAnyH_done (by kernel_rfl) ?_ _
   refine NoPanic.normal ?_
   have d33:(((w2.setCell ⟨c,34,none⟩ (.int .i64 bx)).setCell ⟨c,27,none⟩ (.int .i64 mx))).cell? ⟨c,33,none⟩=some (.int .i64 (T:Int)):=by rw [← HT.out,← h2.bU.told];exact cell_of r2 33
   have f33:(((w2.setCell ⟨c,34,none⟩ (.int .i64 bx)).setCell ⟨c,27,none⟩ (.int .i64 mx))).frozen? ⟨c,33,none⟩=false:=aF r2 33
   have hr3:aV ((((w2.setCell ⟨c,34,none⟩ (.int .i64 bx)).setCell ⟨c,27,none⟩ (.int .i64 mx))).setCell ⟨c,33,none⟩ (.int .i64 ((T:Int)+1))) c { s2 with now:=bx,left:=mx,told:=(T:Int)+1 }:=az (i:=33) (v:=.int .i64 ((T:Int)+1)) r2
   have t3:=((((Touch.refl (aO c) w2).set c 34 (.int .i64 bx) rfl).set c 27 (.int .i64 mx) rfl).set c 33 (.int .i64 ((T:Int)+1)) rfl)
   have hs:=h2.bU
   have h3:=h2.block (m':=m.next) hr3 (by rw [HE.out];exact ⟨hs.cells,hs.bq,hs.bk,hs.dQ,hs.en,hs.aD,hs.op,hs.ay,rfl,hs.cO,hs.addr,hs.mode,hs.cL,rfl,rfl,hs.beyond,hs.once⟩) t3 rfl (by rw [HE.out]) rfl (by rw [HE.out]) rfl (by rw [HE.out]) (by rw [HE.out])
   have H3:=zH (zA h3 ((Step.ah (F:=F) (au (Below.refl _ w))).trans (st2.trans (h2.step t3))))
   generalize (w2.setCell ⟨c,34,none⟩ (.int .i64 bx)).setCell ⟨c,27,none⟩ (.int .i64 mx)=w3 at *
   clear h3 hr3 t3 hs h2 st2 r2 r1
   go_wp2
   go_meet
   exact ⟨_,H3.out⟩
  ·
   have E:m.next=m:=by unfold ag.next;rw [if_neg hl]
   have HE:=zH E
   clear E
   go_wp2
   go_meet
   exact ⟨s,by rw [HE.out];exact HR.out,Step.refl _ _⟩
 case rest =>
  obtain ⟨s3,h3,st3⟩:=hcut
  obtain ⟨hd,l1,l2,n0,n1,eo,t1⟩:=NF.out
  have c27':wc.cell? ⟨c,27,none⟩=some (.int .i64 m.next.left):=by rw [← h3.bU.left];exact cell_of h3.raw 27
  have f27:wc.frozen? ⟨c,27,none⟩=false:=aF h3.raw 27
  have hl8:m.next.left≤8:=by rcases hd with e | e <;> rw [e] at l2 <;> omega
  have hr4:aV (wc.setCell ⟨c,27,none⟩ (.int .i64 (m.next.left - 1))) c { s3 with left:=m.next.left - 1 }:=az (i:=27) (v:=.int .i64 (m.next.left - 1)) h3.raw
  have t4:=(Touch.refl (aO c) wc).set c 27 (.int .i64 (m.next.left - 1)) rfl
  have hs:=h3.bU
  have h4:=h3.block (m':=m.bU.2) hr4 ⟨hs.cells,hs.bq,hs.bk,hs.dQ,hs.en,hs.aD,hs.op,hs.ay,rfl,hs.cO,hs.addr,hs.mode,hs.cL,hs.told,hs.now,hs.beyond,hs.once⟩ t4 rfl rfl rfl rfl rfl rfl
  have k34:(wc.setCell ⟨c,27,none⟩ (.int .i64 (m.next.left - 1))).cell? ⟨c,34,none⟩=some (.int .i64 m.next.now):=by rw [← h3.bU.now];exact cell_of hr4 34
  have k24:(wc.setCell ⟨c,27,none⟩ (.int .i64 (m.next.left - 1))).cell? ⟨c,24,none⟩=some (.int .i64 m.op.data):=by rw [← eo,← h3.bU.op];exact cell_of hr4 24
  have k27:(wc.setCell ⟨c,27,none⟩ (.int .i64 (m.next.left - 1))).cell? ⟨c,27,none⟩=some (.int .i64 (m.next.left - 1)):=cell_of hr4 27
  have H4:=zH (zA h4.shut (st3.trans (h3.step t4)))
  have HV:=zH (show m.bU.1=bitsOf m.next.now m.op.data (m.next.left - 1) from rfl)
  have hL0:0≤m.next.left - 1:=by omega
  have hL1:m.next.left - 1≤7:=by omega
  clear hr4 t4 hs h4 h3 st3 c27 NF HF HR HA HT hT1 eo t1
  go_wp2_with fail
  generalize wc.setCell ⟨c,27,none⟩ (.int .i64 (m.next.left - 1))=w4 at *
  generalize m.bU=sy at *
  generalize m.next.left - 1=L at *
  generalize m.next.now=nw at *
  clear c27' f27
  have hq0 : ∀ k:Nat,0≤nw / 2 ^ k:=fun k=>Int.ediv_nonneg n0 (Int.le_of_lt (Int.pow_pos (by decide)))
  rcases hd with hd | hd
  ·
   rw [hd] at k24 HV
   have z1:IntKind.i64.wrap (L * 1)=L:=by rw [Int.mul_one];exact du (by omega) (by omega)
   have z2:IntKind.i64.wrap L=L:=du (by omega) (by omega)
   have z3:bits .and .i64 (nw / 2 ^ L.toNat) 1=nw / 2 ^ L.toNat % 2:=Gq _
   have z4:=Nn (nw / 2 ^ L.toNat)
   have HZ:=zH (show bitsOf nw 1 L=13+2 * (nw / 2 ^ L.toNat % 2) from if_pos rfl)
   have z5:0≤nw / 2 ^ L.toNat % 2:=by omega
   have z6:nw / 2 ^ L.toNat % 2≤1:=by omega
   clear hd l2
   go_quiet (fail)
   have k24':(w4.drewN nq).cell? ⟨c,24,none⟩=some (.int .i64 1):=k24
   go_wp2
   go_ret
   exact ⟨by rw [HV.out,HZ.out];rfl,H4.out.1.aj (aY zR _),H4.out.2.trans (Step.ah (aY zR _))⟩
  ·
   rw [hd] at k24 HV
   have z1:IntKind.i64.wrap (L * 4)=L * 4:=du (by omega) (by omega)
   have z7:0≤L * 4:=by omega
   have z8:L * 4≤64:=by omega
   have z3:bits .and .i64 (nw / 2 ^ (L * 4).toNat) 15=nw / 16 ^ L.toNat % 16:=by rw [MW L hL0];exact BH _
   have HZ:=zH (show bitsOf nw 4 L=nw / 16 ^ L.toNat % 16 from if_neg (by decide))
   clear hd l2
   go_quiet (fail)
   have k24':(w4.drewN nq).cell? ⟨c,24,none⟩=some (.int .i64 4):=k24
   go_wp2
   go_ret
   exact ⟨by rw [HV.out,HZ.out];rfl,H4.out.1.aj (aY zR _),H4.out.2.trans (Step.ah (aY zR _))⟩
end
section
open Go.RowKit
def iI (x:Int) (c:Nat) (m:ag) (F:Nat→Prop) (w:World) (e:Ending) (w':World):Prop:=e=.returned (.int .i64 x) ∧ ∃ F',aS w' c m F'∧Step F F' w w'
theorem LK {w w1:World} {c:Nat} {s:Raw} {m:ag} {F:Nat→Prop} {x l:Int} (h:bJ w c s m F) (g:aV w1 c { s with cO:=aR s.cO x l,left:=s.left - 1 }) (t:Touch (aO c) w w1):bJ w1 c { s with cO:=aR s.cO x l,left:=s.left - 1 } (m.de x l) F:=by
 have hs:=h.bU
 exact h.block (m':=m.de x l) g ⟨hs.cells,hs.bq,hs.bk,hs.dQ,hs.en,hs.aD,hs.op,hs.ay,by show s.left - 1=m.left - 1;rw [hs.left],by show aR s.cO x l=aR m.cO x l;rw [hs.cO],hs.addr,hs.mode,hs.cL,hs.told,hs.now,hs.beyond,hs.once⟩ t rfl rfl rfl rfl rfl rfl
theorem iz (c:Nat) (s:Raw) (m:ag) (F:Nat→Prop) (w:World) (h:bJ w c s m F) (ho:Au m.op):Calls prog 219 #[.pointer (some ⟨c,20,none⟩)] w fun e w'=>e=.returned (.tuple #[])∧bJ w' c s.behind m.behind F∧Touch (aO c) w w':=by
 refine (q9 c s w h.raw (by rw [h.bU.op];exact ho)).mono ?_
 rintro e w' ⟨rfl,g,t⟩
 obtain ⟨e1,e2,e3⟩:=tT s
 obtain ⟨f1,f2,f3⟩:=ix m
 exact ⟨rfl,h.block g h.bU.behind t e1 f1 e2 f2 e3 f3 (iW m),t⟩
theorem jv {x:Int} {c:Nat} {m:ag} {F:Nat→Prop} {w w':World} {s:Raw} (h:bJ w' c s m F) (t:Step F F w w'):iI x c m F w (.returned (.int .i64 x)) w':=⟨rfl,F,h.shut,t⟩
theorem BT {w w1 w2:World} {c g cap:Nat} {s:Raw} {m:ag} {F:Nat→Prop} {x:Int} (h:bJ w c s m F) (hb:Below w.heap.size w w1) (hgrow:w1.grownBy w2 s.data.ownBlock) (hown:w2.ownsRow 0 3 1 (.slice (some ⟨g,0,none⟩) (m.data.length+1) cap) (m.data.length+1) (aC m.data++[.int .i64 x])) (hat:s.data.ownBlock=some g∨g=w1.heap.size) (hlt:g<w2.heap.size):aV w2 c s ∧ ∃ F',bJ (w2.setCell ⟨c,32,none⟩ (.slice (some ⟨g,0,none⟩) (m.data.length+1) cap)) c { s with data:=.slice (some ⟨g,0,none⟩) (m.data.length+1) cap } { m with data:=m.data++[x] } F'∧Step F F' w (w2.setCell ⟨c,32,none⟩ (.slice (some ⟨g,0,none⟩) (m.data.length+1) cap)):=by
 have fB:=BX h.raw h.aZ h.data
 have hblk : ∀ k,k<w.heap.size→some k≠s.data.ownBlock→w2.heap[k]? = w.heap[k]? := fun k hk hn=>(hgrow.block k (zV hk hb.size) hn).trans (hb.block k hk)
 have hc:c<w.heap.size:=h.raw.lt
 have hcn:some c≠s.data.ownBlock:=fun e=>fB c e.symm (.inl rfl)
 have r2:aV w2 c s:=(hblk c hc hcn).trans h.raw
 have r3:aV (w2.setCell ⟨c,32,none⟩ (.slice (some ⟨g,0,none⟩) (m.data.length+1) cap)) c { s with data:=.slice (some ⟨g,0,none⟩) (m.data.length+1) cap }:=az (i:=32) (v:=.slice (some ⟨g,0,none⟩) (m.data.length+1) cap) r2
 have hgc:g≠c:=by
  rintro rfl
  rcases hat with e | e
  ·
   exact hcn e.symm
  ·
   have:=hb.size;omega
 have hsz:w.heap.size≤w2.heap.size:=Nat.le_trans hb.size hgrow.size
 have T:Touch F w (w2.setCell ⟨c,32,none⟩ (.slice (some ⟨g,0,none⟩) (m.data.length+1) cap)):=by
  refine Touch.set ?_ c 32 _ h.own
  exact ⟨hgrow.os.trans hb.os,hgrow.tape.trans hb.tape,hgrow.output.trans hb.output,hsz,fun k hk hn=>hblk k hk fun e=>hn (h.jQ k e.symm)⟩
 have hgF:F g∨w.heap.size≤g:=by
  rcases hat with e | e
  ·
   exact .inl (h.jQ g e)
  ·
   right;have:=hb.size;omega
 have hs:=h.bU
 refine ⟨r2,fun b=>F b∨b=g,⟨r3,⟨hs.cells,hs.bq,hs.bk,hs.dQ,hs.en,hs.aD,hs.op,hs.ay,hs.left,hs.cO,hs.addr,hs.mode,hs.cL,hs.told,hs.now,hs.beyond,hs.once⟩,?_,?_,?_,.inl h.own,fun b hb'=>.inl (h.me b hb'),?_,?_⟩,T,?_⟩
 ·
  have hj:=h.aZ
  show jW _ s.aZ m.aZ
  cases hm:m.aZ with
  | none=>rw [hm] at hj;exact hj
  | some j =>
   rw [hm] at hj
   obtain ⟨b,e1,e2⟩:=hj
   refine ⟨b,e1,?_⟩
   have hbl:b<w.heap.size:=aP e2
   rw [heap_setCell_other _ _ _ _ (fun e=>by
    have e':b=c:=e
    rw [e'] at e2
    have:=e2.symm.trans h.raw;simp at this)]
   exact (hblk b hbl (fun e=>fB b e.symm (.inr e1))).trans e2
 ·
  obtain ⟨a,cc,h1,h2,h3,h4,h5⟩:=h.busy
  refine ⟨a,cc,h1,dM h2 T (fun b o e hl hf=>h3 b o e hl hf),fun b o e hl hf => ?_,h4,h5⟩
  rcases hf with hf | rfl
  ·
   exact h3 b o e hl hf
  ·
   rcases hgF with hf | hf
   ·
    exact h3 b o e hl hf
   ·
    obtain ⟨b',o',g1,g2⟩:=h2 0 hl
    rw [e] at g1
    obtain ⟨rfl,rfl⟩:b=b'∧o=o':=by simpa using g1
    have:=zL w _ g2
    simp at this
    omega
 ·
  have e:(m.data++[x]).length=m.data.length+1:=by simp
  have e2:aC (m.data++[x])=aC m.data++[.int .i64 x]:=by simp [aC]
  show World.ownsRow _ 0 3 1 _ (m.data++[x]).length (aC (m.data++[x]))
  rw [e,e2]
  refine gB (F:=aO c) hown ((Touch.refl _ _).set c 32 _ rfl) (fun k hk => ?_)
  obtain rfl:g=k:=by simpa [Value.ownBlock] using hk
  exact hgc
 ·
  intro k hk
  obtain rfl:g=k:=by simpa [Value.ownBlock] using hk
  exact .inr rfl
 ·
  intro b hb'
  rw [World.size_setCell]
  rcases hb' with hb' | rfl
  ·
   exact zV (h.lt b hb') hsz
  ·
   exact hlt
 ·
  intro b hb'
  rcases hb' with hb' | rfl
  ·
   exact .inl hb'
  ·
   exact hgF
theorem KD (c:Nat) (m:ag) (F:Nat→Prop) (n:Nat) (x:Int) (w:World) (h:aS w c m F) (fit:m.Fit n) (hn:n<1099511627776) (hx0:0≤x) (hx1:x≤15) (k:m.ay=0):Calls prog 232 #[.pointer (some ⟨c,0,none⟩),.int .i64 x] w (iI 15 c (m.sB x) F w):=by
 obtain ⟨s,h⟩:=h.open
 have hs:=h.bU
 have c26:w.cell? ⟨c,26,none⟩=some (.int .i64 0):=by rw [← k,← hs.ay];exact cell_of h.raw 26
 have t:=fit.part.Ly k
 have HT:=zH (jV c s x 1 w h.raw t.1 (by rw [hs.cO];exact t.2.2.1) (by rw [hs.cO];have:=vG t;omega) hx0 hx1 (by rw [hs.left];exact fit.part.kx) (by rw [hs.left];have:=fit.part.ln;omega))
 have HH:=zH h
 have HL:=zH hs.left
 have hg0:=kj (x:=x) t
 have HO:=zH fit.base
 clear h hs fit t k
 go_enter func232,ntmps232
 go_wp2_with fail
 refine HT.out.mono ?_
 rintro e w1 ⟨rfl,g1,t1⟩
 have h1:=LK HH.out g1 t1
 have c28:w1.cell? ⟨c,28,none⟩=some (.int .i64 (aR m.cO x 1)):=by rw [← HH.out.bU.cO];exact cell_of g1 28
 have st1:=zH (HH.out.step t1)
 have H1:=zH h1
 by_cases hl:m.left - 1=0
 ·
  have hd:decide (s.left - 1=0)=true:=by rw [HL.out];simp [hl]
  have HLL:=zH hl
  clear g1 t1 h1 hl
  have HB:=zH (mE c _ _ F (aR m.cO x 1) w1 H1.out)
  go_wp2_with fail
  refine HB.out.mono ?_
  rintro e w2 ⟨rfl,h2,t2⟩
  go_wp2
  go_ret
  rw [show m.sB x=(m.de x 1).cV (aR m.cO x 1) from if_pos HLL.out]
  exact jv h2 (st1.out.trans (H1.out.step t2))
 ·
  have hd:decide (s.left - 1=0)=false:=by rw [HL.out];simp [hl]
  have HLL:=zH hl
  clear g1 t1 h1 hl
  go_wp2
  go_ret
  rw [show m.sB x=m.de x 1 from if_neg HLL.out]
  exact jv H1.out st1.out
theorem KE (c:Nat) (m:ag) (F:Nat→Prop) (n:Nat) (x:Int) (w:World) (h:aS w c m F) (fit:m.Fit n) (hn:n<1099511627776) (hx0:0≤x) (hx1:x≤15) (k:m.ay=2):Calls prog 232 #[.pointer (some ⟨c,0,none⟩),.int .i64 x] w (iI 15 c (m.sC x) F w):=by
 obtain ⟨s,h⟩:=h.open
 have hs:=h.bU
 have c26:w.cell? ⟨c,26,none⟩=some (.int .i64 2):=by rw [← k,← hs.ay];exact cell_of h.raw 26
 have c21:w.cell? ⟨c,21,none⟩=some (.int .i64 m.op.addr):=by rw [← hs.op];exact cell_of h.raw 21
 have t:=fit.part.jM k
 have HT:=zH (jV c s x m.op.addr w h.raw t.1 (by rw [hs.cO];exact t.2.2.1) (by rw [hs.cO];have:=vG t;omega) hx0 hx1 (by rw [hs.left];exact fit.part.kx) (by rw [hs.left];have:=fit.part.ln;omega))
 have HH:=zH h
 have HL:=zH hs.left
 have hg0:=kj (x:=x) t
 have HO:=zH fit.base
 clear h hs fit t k
 go_enter func232,ntmps232
 go_wp2_with fail
 refine HT.out.mono ?_
 rintro e w1 ⟨rfl,g1,t1⟩
 have h1:=LK HH.out g1 t1
 have c28:w1.cell? ⟨c,28,none⟩=some (.int .i64 (aR m.cO x m.op.addr)):=by rw [← HH.out.bU.cO];exact cell_of g1 28
 have st1:=zH (HH.out.step t1)
 have H1:=zH h1
 by_cases hl:m.left - 1=0
 ·
  have hd:decide (s.left - 1=0)=true:=by rw [HL.out];simp [hl]
  have HLL:=zH hl
  clear g1 t1 h1 hl
  have c29:w1.cell? ⟨c,29,none⟩=some (.int .i64 s.addr):=cell_of H1.out.raw 29
  have f29:w1.frozen? ⟨c,29,none⟩=false:=aF H1.out.raw 29
  have r2:aV (w1.setCell ⟨c,29,none⟩ (.int .i64 (aR m.cO x m.op.addr % 4096))) c { s with cO:=aR s.cO x m.op.addr,left:=s.left - 1,addr:=aR m.cO x m.op.addr % 4096 }:=az (i:=29) (v:=.int .i64 (aR m.cO x m.op.addr % 4096)) H1.out.raw
  have t2:=(Touch.refl (aO c) w1).set c 29 (.int .i64 (aR m.cO x m.op.addr % 4096)) rfl
  have hs:=H1.out.bU
  have h2:=H1.out.block (m':={ m.de x m.op.addr with addr:=aR m.cO x m.op.addr % 4096 }) r2 ⟨hs.cells,hs.bq,hs.bk,hs.dQ,hs.en,hs.aD,hs.op,hs.ay,hs.left,hs.cO,rfl,hs.mode,hs.cL,hs.told,hs.now,hs.beyond,hs.once⟩ t2 rfl rfl rfl rfl rfl rfl
  have HB:=zH (iz c _ _ F _ h2 HO.out.ok.op)
  have st2:=zH (st1.out.trans (H1.out.step t2))
  have H2:=zH h2
  clear r2 t2 hs h2
  go_wp2_with fail
  refine HB.out.mono ?_
  rintro e w2 ⟨rfl,h3,t3⟩
  go_wp2
  go_ret
  rw [show m.sC x=ag.behind { m.de x m.op.addr with addr:=aR m.cO x m.op.addr % 4096 } from if_pos HLL.out]
  exact jv h3 (st2.out.trans (H2.out.step t3))
 ·
  have hd:decide (s.left - 1=0)=false:=by rw [HL.out];simp [hl]
  have HLL:=zH hl
  clear g1 t1 h1 hl
  go_wp2
  go_ret
  rw [show m.sC x=m.de x m.op.addr from if_neg HLL.out]
  exact jv H1.out st1.out
theorem KF (c:Nat) (m:ag) (F:Nat→Prop) (n:Nat) (x:Int) (w:World) (h:aS w c m F) (fit:m.Fit n) (hn:n<1099511627776) (hx0:0≤x) (hx1:x≤15) (k:m.ay=3):Calls prog 232 #[.pointer (some ⟨c,0,none⟩),.int .i64 x] w (iI 15 c (m.sD x) F w):=by
 obtain ⟨s,h⟩:=h.open
 have hs:=h.bU
 have c26:w.cell? ⟨c,26,none⟩=some (.int .i64 3):=by rw [← k,← hs.ay];exact cell_of h.raw 26
 have c21:w.cell? ⟨c,21,none⟩=some (.int .i64 m.op.addr):=by rw [← hs.op];exact cell_of h.raw 21
 have t:=fit.part.LB k
 have HT:=zH (jV c s x m.op.addr w h.raw t.1 (by rw [hs.cO];exact t.2.2.1) (by rw [hs.cO];have:=vG t;omega) hx0 hx1 (by rw [hs.left];exact fit.part.kx) (by rw [hs.left];have:=fit.part.ln;omega))
 have HH:=zH h
 have HL:=zH hs.left
 have hg0:=kj (x:=x) t
 have HO:=zH fit.base
 clear h hs fit t k
 go_enter func232,ntmps232
 go_wp2_with fail
 refine HT.out.mono ?_
 rintro e w1 ⟨rfl,g1,t1⟩
 have h1:=LK HH.out g1 t1
 have c28:w1.cell? ⟨c,28,none⟩=some (.int .i64 (aR m.cO x m.op.addr)):=by rw [← HH.out.bU.cO];exact cell_of g1 28
 have st1:=zH (HH.out.step t1)
 have H1:=zH h1
 by_cases hl:m.left - 1=0
 ·
  have hd:decide (s.left - 1=0)=true:=by rw [HL.out];simp [hl]
  have HLL:=zH hl
  clear g1 t1 h1 hl
  have c30:w1.cell? ⟨c,30,none⟩=some (.int .i64 s.mode):=cell_of H1.out.raw 30
  have f30:w1.frozen? ⟨c,30,none⟩=false:=aF H1.out.raw 30
  have r2:aV (w1.setCell ⟨c,30,none⟩ (.int .i64 (aR m.cO x m.op.addr))) c { s with cO:=aR s.cO x m.op.addr,left:=s.left - 1,mode:=aR m.cO x m.op.addr }:=az (i:=30) (v:=.int .i64 (aR m.cO x m.op.addr)) H1.out.raw
  have c31:(w1.setCell ⟨c,30,none⟩ (.int .i64 (aR m.cO x m.op.addr))).cell? ⟨c,31,none⟩=some (.bool s.cL):=cell_of r2 31
  have f31:(w1.setCell ⟨c,30,none⟩ (.int .i64 (aR m.cO x m.op.addr))).frozen? ⟨c,31,none⟩=false:=aF r2 31
  have r3:aV ((w1.setCell ⟨c,30,none⟩ (.int .i64 (aR m.cO x m.op.addr))).setCell ⟨c,31,none⟩ (.bool true)) c { s with cO:=aR s.cO x m.op.addr,left:=s.left - 1,mode:=aR m.cO x m.op.addr,cL:=true }:=az (i:=31) (v:=.bool true) r2
  have t3:=((Touch.refl (aO c) w1).set c 30 (.int .i64 (aR m.cO x m.op.addr)) rfl).set c 31 (.bool true) rfl
  have hs:=H1.out.bU
  have h3:=H1.out.block (m':={ m.de x m.op.addr with mode:=aR m.cO x m.op.addr,cL:=true }) r3 ⟨hs.cells,hs.bq,hs.bk,hs.dQ,hs.en,hs.aD,hs.op,hs.ay,hs.left,hs.cO,hs.addr,rfl,rfl,hs.told,hs.now,hs.beyond,hs.once⟩ t3 rfl rfl rfl rfl rfl rfl
  have HB:=zH (iz c _ _ F _ h3 HO.out.ok.op)
  have st2:=zH (st1.out.trans (H1.out.step t3))
  have H2:=zH h3
  clear r2 r3 t3 hs h3
  go_wp2_with fail
  refine HB.out.mono ?_
  rintro e w2 ⟨rfl,h4,t4⟩
  go_wp2
  go_ret
  rw [show m.sD x=ag.behind { m.de x m.op.addr with mode:=aR m.cO x m.op.addr,cL:=true } from if_pos HLL.out]
  exact jv h4 (st2.out.trans (H2.out.step t4))
 ·
  have hd:decide (s.left - 1=0)=false:=by rw [HL.out];simp [hl]
  have HLL:=zH hl
  clear g1 t1 h1 hl
  go_wp2
  go_ret
  rw [show m.sD x=m.de x m.op.addr from if_neg HLL.out]
  exact jv H1.out st1.out
theorem KG (c:Nat) (m:ag) (F:Nat→Prop) (n:Nat) (x:Int) (w:World) (h:aS w c m F) (fit:m.Fit n) (hn:n<1099511627776) (hx0:0≤x) (hx1:x≤15) (k:m.ay=4):Calls prog 232 #[.pointer (some ⟨c,0,none⟩),.int .i64 x] w (iI 15 c m.uK F w):=by
 obtain ⟨s,h⟩:=h.open
 have hs:=h.bU
 have c26:w.cell? ⟨c,26,none⟩=some (.int .i64 4):=by rw [← k,← hs.ay];exact cell_of h.raw 26
 have c27:w.cell? ⟨c,27,none⟩=some (.int .i64 m.left):=by rw [← hs.left];exact cell_of h.raw 27
 have f27:w.frozen? ⟨c,27,none⟩=false:=aF h.raw 27
 have l1:=fit.part.ln
 have l0:=fit.part.kx
 have r1:aV (w.setCell ⟨c,27,none⟩ (.int .i64 (m.left - 1))) c { s with left:=m.left - 1 }:=az (i:=27) (v:=.int .i64 (m.left - 1)) h.raw
 have t1:=(Touch.refl (aO c) w).set c 27 (.int .i64 (m.left - 1)) rfl
 have k27:(w.setCell ⟨c,27,none⟩ (.int .i64 (m.left - 1))).cell? ⟨c,27,none⟩=some (.int .i64 (m.left - 1)):=cell_of r1 27
 have h1:=h.block (m':={ m with left:=m.left - 1 }) r1 ⟨hs.cells,hs.bq,hs.bk,hs.dQ,hs.en,hs.aD,hs.op,hs.ay,rfl,hs.cO,hs.addr,hs.mode,hs.cL,hs.told,hs.now,hs.beyond,hs.once⟩ t1 rfl rfl rfl rfl rfl rfl
 have HB:=zH (iz c _ _ F _ h1 fit.base.ok.op)
 have st1:=zH (h.step t1)
 have H1:=zH h1
 clear h hs fit r1 t1 h1 k
 by_cases hl:m.left - 1=0
 ·
  have hlb:(m.left - 1 == 0)=true:=by rw [hl];rfl
  have HLL:=zH hl
  clear hl
  go_enter func232,ntmps232
  go_wp2_with fail
  refine HB.out.mono ?_
  rintro e w2 ⟨rfl,h3,t3⟩
  go_wp2
  go_ret
  rw [show m.uK=ag.behind { m with left:=m.left - 1 } from if_pos HLL.out]
  exact jv h3 (st1.out.trans (H1.out.step t3))
 ·
  have hlb:(m.left - 1 == 0)=false:=zQ hl
  have HLL:=zH hl
  clear hl
  go_enter func232,ntmps232
  go_wp2
  go_ret
  rw [show m.uK={ m with left:=m.left - 1 } from if_neg HLL.out]
  exact jv H1.out st1.out
theorem KH (c:Nat) (m:ag) (F:Nat→Prop) (n:Nat) (x:Int) (w:World) (h:aS w c m F) (fit:m.Fit n) (hn:n<1099511627776) (hx0:0≤x) (hx1:x≤15) (k:m.ay=5):Calls prog 232 #[.pointer (some ⟨c,0,none⟩),.int .i64 x] w (iI 15 c (m.sE x) F w):=by
 obtain ⟨s,h⟩:=h.open
 have hs:=h.bU
 have c26:w.cell? ⟨c,26,none⟩=some (.int .i64 5):=by rw [← k,← hs.ay];exact cell_of h.raw 26
 have c24:w.cell? ⟨c,24,none⟩=some (.int .i64 m.op.data):=by rw [← hs.op];exact cell_of h.raw 24
 have t:=fit.part.mu k
 have HT:=zH (jV c s x m.op.data w h.raw t.1 (by rw [hs.cO];exact t.2.2.1) (by rw [hs.cO];have:=vG t;omega) hx0 hx1 (by rw [hs.left];exact fit.part.kx) (by rw [hs.left];have:=fit.part.ln;omega))
 have HH:=zH h
 have HL:=zH hs.left
 have hg0:=kj (x:=x) t
 have HO:=zH fit.base
 clear h hs fit t k
 go_enter func232,ntmps232
 go_wp2_with fail
 refine HT.out.mono ?_
 rintro e w1 ⟨rfl,g1,t1⟩
 have h1:=LK HH.out g1 t1
 have c28:w1.cell? ⟨c,28,none⟩=some (.int .i64 (aR m.cO x m.op.data)):=by rw [← HH.out.bU.cO];exact cell_of g1 28
 have st1:=zH (HH.out.step t1)
 have H1:=zH h1
 by_cases hl:m.left - 1=0
 ·
  have hd:decide (s.left - 1=0)=true:=by rw [HL.out];simp [hl]
  have HLL:=zH hl
  clear g1 t1 h1 hl
  obtain ⟨i0,hi,hz0,hz1,hz2⟩:=info_parts iK
  have c32:w1.cell? ⟨c,32,none⟩=some s.data:=cell_of H1.out.raw 32
  have hb2:Below w1.heap.size w1 ((w1.alloc (.cells #[.int .i64 (aR m.cO x m.op.data)] 3)).drew):=au (ae zR _)
  have hown:=World.ownsRow.aj H1.out.data hb2
  have hlen:=HO.out.data
  have hnews:=World.news_of_block (w:=(w1.alloc (.cells #[.int .i64 (aR m.cO x m.op.data)] 3)).drew) (cs := #[.int .i64 (aR m.cO x m.op.data)]) (t:=3) (fr:=(0,0)) (af w1 _)
  have HP:=zH (fun (g cap:Nat) (w2:World) (h1:((w1.alloc (.cells #[.int .i64 (aR m.cO x m.op.data)] 3)).drew).grownBy w2 s.data.ownBlock) (h2:_) (h3:_) (h4:_)=>BT (g:=g) (cap:=cap) (w2:=w2) (x:=(aR m.cO x m.op.data)) H1.out hb2 h1 h2 h3 h4)
  have HN:=zH hnews
  have HW:=zH hown
  have HB:=zH (fun (s':Raw) (F':Nat→Prop) (w':World) (h':bJ w' c s' { m.de x m.op.data with data:=m.data++[(aR m.cO x m.op.data)] } F')=>iz c s' _ F' w' h' HO.out.ok.op)
  have hz63:m.data.length+1≤maxLen:=by unfold maxLen;omega
  have hz47:(m.data.length+1) * 8≤140737488355328:=by omega
  obtain ⟨gx,hgx⟩ : ∃ gx,aR m.cO x m.op.data=gx:=⟨_,rfl⟩
  have HGX:=zH hgx
  rw [hgx] at c28 HP HN HW HB
  clear hgx -- at *
  clear hb2 hown hnews hlen
  obtain ⟨da,dc,hda⟩ : ∃ da dc,s.data=.slice da m.data.length dc:=by
   rcases H1.out.data.2 with ⟨e,e2⟩ | ⟨g,cap,cur,e,_⟩
   ·
    refine ⟨none,0,?_⟩
    have e2':m.data.length=0:=e2
    rw [e2'];exact e
   ·
    exact ⟨_,_,e⟩
  rw [hda] at c32 HW HP
  clear hda
  have hcl:c<w1.heap.size:=H1.out.raw.lt
  have c32b:(w1.alloc (.cells #[.int .i64 gx] 3)).cell? ⟨c,32,none⟩=some (.slice da m.data.length dc):=by rw [World.cell?_alloc_lt _ _ _ hcl];exact c32
  have c28b:(w1.alloc (.cells #[.int .i64 gx] 3)).cell? ⟨c,28,none⟩=some (.int .i64 gx):=by rw [World.cell?_alloc_lt _ _ _ hcl];exact c28
  go_wp2_with fail
  go_region_law ((refine step_append_lies _ (by rfl) (.tmp 97) (.tmp 102) 22 (by rfl) 0 3 i0 (.int .i64 0) 1 8 underlying22 hi hz0 hz1 hz2 rfl (by decide) (.slice da m.data.length dc) m.data.length (aC m.data) (by rfl) HW.out ⟨w1.heap.size,0,none⟩ 1 1 [.int .i64 gx] (by rfl) rfl HN.out (by simp [Value.oneCell']) (by decide) hz63 hz47 zX (w1.heap.size+1) (by simp) ?_;intro g cap w2 hown hgrow hat hlt;obtain ⟨r2,F',h2,st2⟩:=HP.out g cap w2 hgrow hown (by simpa using hat) hlt;have d32:w2.cell? ⟨c,32,none⟩=some (.slice da m.data.length dc):=cell_of r2 32;have f32:w2.frozen? ⟨c,32,none⟩=false:=aF r2 32;clear r2))
  all_goals
   have HB2:=zH (HB.out _ _ _ h2)
   have H2:=zH (zA h2 st2)
   clear h2 st2
   go_wp2_with fail
   refine HB2.out.mono ?_
   rintro e w3 ⟨rfl,h4,t4⟩
   go_wp2
   go_ret
   rw [show m.sE x=ag.behind { m.de x m.op.data with data:=m.data++[gx] } by rw [← HGX.out];exact if_pos HLL.out]
   exact ⟨rfl,_,h4.shut,(st1.out.trans H2.out.2).trans (H2.out.1.step t4)⟩
 ·
  have hd:decide (s.left - 1=0)=false:=by rw [HL.out];simp [hl]
  have HLL:=zH hl
  clear g1 t1 h1 hl
  go_wp2
  go_ret
  rw [show m.sE x=m.de x m.op.data from if_neg HLL.out]
  exact jv H1.out st1.out
theorem KI (c:Nat) (m:ag) (F:Nat→Prop) (n:Nat) (x:Int) (w:World) (h:aS w c m F) (fit:m.Fit n) (hn:n<1099511627776) (hx0:0≤x) (hx1:x≤15) (k:m.ay=6):Calls prog 232 #[.pointer (some ⟨c,0,none⟩),.int .i64 x] w (iI m.bU.1 c m.bU.2 F w):=by
 obtain ⟨s,h⟩:=h.open
 have hs:=h.bU
 have c26:w.cell? ⟨c,26,none⟩=some (.int .i64 6):=by rw [← k,← hs.ay];exact cell_of h.raw 26
 have HS:=zH (EX c m F n w h.shut fit hn k)
 clear h hs fit k
 go_enter func232,ntmps232
 go_wp2_with fail
 refine HS.out.mono ?_
 rintro e w2 ⟨rfl,h2,st2⟩
 go_wp2
 go_ret
 exact ⟨rfl,F,h2,st2⟩
theorem KJ (c:Nat) (m:ag) (F:Nat→Prop) (n:Nat) (x:Int) (w:World) (h:aS w c m F) (fit:m.Fit n) (hn:n<1099511627776) (hx0:0≤x) (hx1:x≤15) (k:m.ay=7):Calls prog 232 #[.pointer (some ⟨c,0,none⟩),.int .i64 x] w (iI 15 c { m with beyond:=true } F w):=by
 obtain ⟨s,h⟩:=h.open
 have hs:=h.bU
 have c26:w.cell? ⟨c,26,none⟩=some (.int .i64 7):=by rw [← k,← hs.ay];exact cell_of h.raw 26
 have c35:w.cell? ⟨c,35,none⟩=some (.bool s.beyond):=cell_of h.raw 35
 have f35:w.frozen? ⟨c,35,none⟩=false:=aF h.raw 35
 have r1:aV (w.setCell ⟨c,35,none⟩ (.bool true)) c { s with beyond:=true }:=az (i:=35) (v:=.bool true) h.raw
 have t1:=(Touch.refl (aO c) w).set c 35 (.bool true) rfl
 have h1:=h.block (m':={ m with beyond:=true }) r1 ⟨hs.cells,hs.bq,hs.bk,hs.dQ,hs.en,hs.aD,hs.op,hs.ay,hs.left,hs.cO,hs.addr,hs.mode,hs.cL,hs.told,hs.now,rfl,hs.once⟩ t1 rfl rfl rfl rfl rfl rfl
 have H1:=zH (zA h1 (h.step t1))
 clear h hs fit r1 t1 h1 k
 go_enter func232,ntmps232
 go_wp2
 go_ret
 exact jv H1.out.1 H1.out.2
theorem BV (c:Nat) (m:ag) (F:Nat→Prop) (n:Nat) (x:Int) (w:World) (h:aS w c m F) (fit:m.Fit n) (hn:n<1099511627776) (hx0:0≤x) (hx1:x≤15) (n0:m.ay≠0) (n2:m.ay≠2) (n3:m.ay≠3) (n4:m.ay≠4) (n5:m.ay≠5) (n6:m.ay≠6) (n7:m.ay≠7):Calls prog 232 #[.pointer (some ⟨c,0,none⟩),.int .i64 x] w (iI 15 c m F w):=by
 obtain ⟨s,h⟩:=h.open
 have hs:=h.bU
 have c26:w.cell? ⟨c,26,none⟩=some (.int .i64 m.ay):=by rw [← hs.ay];exact cell_of h.raw 26
 have H1:=zH h
 clear h hs fit
 have z0:=zQ n0
 have z2:=zQ n2
 have z3:=zQ n3
 have z4:=zQ n4
 have z5:=zQ n5
 have z6:=zQ n6
 have z7:=zQ n7
 clear n0 n2 n3 n4 n5 n6 n7
 go_enter func232,ntmps232
 go_wp2
 go_ret
 exact jv H1.out (Step.refl _ _)
theorem uY (c:Nat) (m:ag) (F:Nat→Prop) (n:Nat) (x:Int) (w:World) (h:aS w c m F) (fit:m.Fit n) (hn:n<1099511627776) (hx0:0≤x) (hx1:x≤15):Calls prog 232 #[.pointer (some ⟨c,0,none⟩),.int .i64 x] w (iI (m.step x).1 c (m.step x).2 F w):=by
 unfold ag.step
 split
 ·
  exact KD c m F n x w h fit hn hx0 hx1 ‹_›
 split
 ·
  exact KE c m F n x w h fit hn hx0 hx1 ‹_›
 split
 ·
  exact KF c m F n x w h fit hn hx0 hx1 ‹_›
 split
 ·
  exact KG c m F n x w h fit hn hx0 hx1 ‹_›
 split
 ·
  exact KH c m F n x w h fit hn hx0 hx1 ‹_›
 split
 ·
  exact KI c m F n x w h fit hn hx0 hx1 ‹_›
 split
 ·
  exact KJ c m F n x w h fit hn hx0 hx1 ‹_›
 ·
  exact BV c m F n x w h fit hn hx0 hx1 ‹_› ‹_› ‹_› ‹_› ‹_› ‹_› ‹_›
def Gg (x:Int) (c:Nat) (m:ag) (F:Nat→Prop) (w:World) (e:Ending) (w':World):Prop:=e=.returned (.tuple #[.int .i64 x,.int .i64 0]) ∧ ∃ F',aS w' c m F'∧Step F F' w w'
theorem uW (c:Nat) (m:ag) (F:Nat→Prop) (n:Nat) (x:Int) (w:World) (h:aS w c m F) (fit:m.Fit n) (hn:n<1099511627776) (hx0:0≤x) (hx1:x≤15):Calls prog 221 #[.pointer (some ⟨c,0,none⟩),.int .i64 x] w (Gg (m.clock x).1 c (m.clock x).2 F w):=by
 have HP:=zH (wI c m F w h fit.base.ok)
 have HC:=zH (fun (F':Nat→Prop) (w':World) (h':aS w' c m.pass F')=>uY c m.pass F' n x w' h' (rT fit) hn hx0 hx1)
 have hlt : ¬ x<0:=by omega
 have hgt : ¬ 15<x:=by omega
 clear h fit
 go_enter func221,ntmps221
 go_wp2_with fail
 refine HP.out.mono ?_
 rintro e w1 ⟨rfl,F1,h1,st1⟩
 have HC1:=zH (HC.out F1 w1 h1)
 have H1:=zH (zA h1 st1)
 obtain ⟨s,h1⟩:=h1.open
 have c15:w1.cell? ⟨c,15,none⟩=some (.bool m.pass.dQ):=by rw [← h1.bU.dQ];exact cell_of h1.raw 15
 clear h1 st1 HC HP
 cases hsel:m.pass.dQ with
 | false =>
  rw [hsel] at c15
  have HS:=zH (show m.clock x=(15,m.pass) by unfold ag.clock;rw [hsel];rfl)
  clear hsel
  go_wp2
  go_ret2
  rw [HS.out]
  exact ⟨rfl,F1,H1.out⟩
 | true =>
  rw [hsel] at c15
  have HS:=zH (show m.clock x=m.pass.step x by unfold ag.clock;rw [hsel];rfl)
  clear hsel
  go_wp2_with fail
  refine HC1.out.mono ?_
  rintro e w2 ⟨rfl,F2,h2,st2⟩
  go_wp2
  go_ret2
  rw [HS.out]
  exact ⟨rfl,F2,h2,H1.out.2.trans st2⟩
end
end Go.Proofs.YtcfdenckiigdaaaGreat

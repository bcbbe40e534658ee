/- Part 5 of the contracts. -/
import Derived.Test.YtcfdenckiigdaaaGreatRd04
set_option linter.unusedVariables false
set_option maxRecDepth 100000
set_option maxHeartbeats 4000000
namespace Go.Proofs.YtcfdenckiigdaaaGreat
open Tryz Go.RowKit
def MR (c:Nat) (m:ag) (F:Nat→Prop) (w wx:World):Prop := ∃ s',bK wx c s' m.next F∧Step F F w wx
theorem J0 {m:ag} {n:Nat} (h:m.Fit n) (hs:m.ay=6):(m.op.data=1∨m.op.data=4)∧1≤m.next.left∧m.op.data * m.next.left≤8∧0≤m.next.now∧m.next.now<256∧m.next.op=m.op∧m.next.told≤n+1:=by
 obtain ⟨hd,hm⟩:=h.part.km hs
 have h0:=h.part.kv
 have ht:=h.base.lT
 have hbr:=nd m m.told
 unfold ag.next
 split
 ·
  refine ⟨hd,?_,?_,hbr.1,hbr.2,rfl,by show m.told+1≤_;omega⟩
  ·
   show 1≤many m.op.data;rcases hd with e | e <;> rw [e] <;> decide
  ·
   show m.op.data * many m.op.data≤8;rcases hd with e | e <;> rw [e] <;> decide
 ·
  exact ⟨hd,by omega,hm,h.base.vg,h.base.vh,rfl,by omega⟩
theorem NP (x:Int):bits .or .i64 13 (x % 2 * 2)=13+2 * (x % 2):=by
 have:x % 2=0∨x % 2=1:=by omega
 rcases this with e | e <;> rw [e] <;> rfl
theorem Nn (l:Int) (h:0≤l):(2:Int) ^ (l * 4).toNat=16 ^ l.toNat:=by
 have e:(l * 4).toNat=4 * l.toNat:=by omega
 rw [e,Int.pow_mul];rfl
theorem E9 (c:Nat) (m:ag) (F:Nat→Prop) (n:Nat) (w:World) (h:aT w c m F) (fit:m.Fit n) (hn:n<1099511627776) (hs6:m.ay=6):Calls prog 244 #[.pointer (some ⟨c,0,none⟩)] w (BE m.bU.1 c m.bU.2 F w):=by
 have nf:=J0 fit hs6
 have HA:=zH h
 obtain ⟨s,h⟩:=h.open
 have hs:=h.bU
 obtain ⟨T,hT⟩:=Int.eq_ofNat_of_zero_le fit.base.mN
 have hT1:T<1099511627776:=by have:=fit.base.lT;omega
 have c27:w.cell? ⟨c,27,none⟩=some (.int .i64 m.left):=by rw [← hs.left];exact cell_of h.raw 27
 have HF:=zH fit
 have HT:=zH hT
 have HR:=zH h
 have NF:=zH nf
 clear h hs fit hT nf hs6
 go_enter func244,ntmps244
 go_upto_if 13 with (fail)
 go_cut [] from 12 to 38 (fun wx=>MR c m F w wx)
 case first =>
  by_cases hl:m.left=0
  ·
   have E:m.next={ m with now:=m.eM (T:Int),left:=many m.op.data,told:=(T:Int)+1 }:=by unfold ag.next;rw [if_pos hl,HT.out]
   have HE:=zH E
   have hd:m.op.data=1∨m.op.data=4:=NF.out.1
   have HD:=zH hd
   have hlb:(m.left == 0)=true:=by rw [hl];rfl
   clear E hl hd c27
   have hr:aT w.drew c m F:=HA.out.aj (au zR)
   obtain ⟨s0,hr⟩:=hr.open
   have c33:w.drew.cell? ⟨c,33,none⟩=some (.int .i64 (T:Int)):=by rw [← HT.out,← hr.bU.told];exact cell_of hr.raw 33
   have c24:w.drew.cell? ⟨c,24,none⟩=some (.int .i64 m.op.data):=by rw [← hr.bU.op];exact cell_of hr.raw 24
   have HB:=zH (AQ c m F T w.drew hr.shut HF.out.base.ok (by omega))
   generalize m.eM (T:Int)=bx at *
   have HM:=zH (fun (w':World)=>fP m.op.data w' HD.out)
   generalize many m.op.data=mx at *
   clear hr
   go_wp2_with fail
   refine wp_region_noPanic ?_
   refine wp_region_held_drew (S:=(fun w'=>w'.cell? ⟨c,33,none⟩=some (.int .i64 (T:Int))∧w'.cell? ⟨c,24,none⟩=some (.int .i64 m.op.data))) (by kernel_rfl) (by (try dsimp only);exact ⟨c33,c24⟩) fun hHeld => ?_
   refine tk 0 ?_
   refine tk 1 ?_
   refine tk 2 ?_
   refine tk 3 ?_
   refine tk 4 ?_
   refine tk 5 ?_
   refine tk 6 ?_
   refine tk 8 ?_
   refine tk 9 ?_
   refine tk 10 ?_
   refine tk 11 ?_
   refine tk 12 ?_
   refine tr 7 fun K hK => ?_
   go_simp
   go_at_call 252
   refine HB.out.mono ?_
   rintro e w2 ⟨rfl,h2,st2⟩
   obtain ⟨s2,h2⟩:=h2.open
   have d33:w2.cell? ⟨c,33,none⟩=some (.int .i64 (T:Int)):=by rw [← HT.out,← h2.bU.told];exact cell_of h2.raw 33
   have d24:w2.cell? ⟨c,24,none⟩=some (.int .i64 m.op.data):=by rw [← h2.bU.op];exact cell_of h2.raw 24
   have d34:w2.cell? ⟨c,34,none⟩=some (.int .i64 s2.now):=cell_of h2.raw 34
   have f34:w2.frozen? ⟨c,34,none⟩=false:=aF h2.raw 34
   go_wp2_with fail
   refine hK.out _ _ (by (try dsimp only);exact ⟨d33,d24⟩) fun hHeld => ?_
   clear hK K
   try simp only [Act.put,zS,zT,zU]
   refine tr 13 fun K hK => ?_
   go_simp
   go_at_call 204
   refine (HM.out _).mono ?_
   rintro e w2 ⟨rfl,rfl⟩
   go_wp2_with fail
   refine hK.out _ _ (by (try dsimp only);exact ⟨d33,d24⟩) fun hHeld => ?_
   clear hK K
   try simp only [Act.put,zS,zT,zU]
   refine tk 14 ?_
   refine tk 15 ?_
   refine tr 16 fun K hK => ?_
   go_simp
   have r1:aV (w2.setCell ⟨c,34,none⟩ (.int .i64 bx)) c { s2 with now:=bx }:=az (i:=34) (v:=.int .i64 bx) h2.raw
   have e27:(w2.setCell ⟨c,34,none⟩ (.int .i64 bx)).cell? ⟨c,27,none⟩=some (.int .i64 s2.left):=cell_of r1 27
   have g27:(w2.setCell ⟨c,34,none⟩ (.int .i64 bx)).frozen? ⟨c,27,none⟩=false:=aF r1 27
   have e33:(w2.setCell ⟨c,34,none⟩ (.int .i64 bx)).cell? ⟨c,33,none⟩=some (.int .i64 (T:Int)):=by rw [← HT.out,← h2.bU.told];exact cell_of r1 33
   have e24:(w2.setCell ⟨c,34,none⟩ (.int .i64 bx)).cell? ⟨c,24,none⟩=some (.int .i64 m.op.data):=by rw [← h2.bU.op];exact cell_of r1 24
   refine hK.out _ _ (by (try dsimp only);exact ⟨e33,e24⟩) fun hHeld => ?_
   clear hK K
   try simp only [Act.put,zS,zT,zU]
   refine tk 17 ?_
   refine tk 18 ?_
   refine tr 19 fun K hK => ?_
   go_simp
   have r2:aV ((w2.setCell ⟨c,34,none⟩ (.int .i64 bx)).setCell ⟨c,27,none⟩ (.int .i64 mx)) c { s2 with now:=bx,left:=mx }:=az (i:=27) (v:=.int .i64 mx) r1
   have g33:((w2.setCell ⟨c,34,none⟩ (.int .i64 bx)).setCell ⟨c,27,none⟩ (.int .i64 mx)).cell? ⟨c,33,none⟩=some (.int .i64 (T:Int)):=by rw [← HT.out,← h2.bU.told];exact cell_of r2 33
   have g24:((w2.setCell ⟨c,34,none⟩ (.int .i64 bx)).setCell ⟨c,27,none⟩ (.int .i64 mx)).cell? ⟨c,24,none⟩=some (.int .i64 m.op.data):=by rw [← h2.bU.op];exact cell_of r2 24
   refine hK.out _ _ (by (try dsimp only);exact ⟨g33,g24⟩) fun hHeld => ?_
   clear hK K
   try simp only [Act.put,zS,zT,zU]
   refine wpAnyH_done (by kernel_rfl) ?_ _
   refine NoPanic.normal ?_
   have d33:(((w2.setCell ⟨c,34,none⟩ (.int .i64 bx)).setCell ⟨c,27,none⟩ (.int .i64 mx))).cell? ⟨c,33,none⟩=some (.int .i64 (T:Int)):=by rw [← HT.out,← h2.bU.told];exact cell_of r2 33
   have f33:(((w2.setCell ⟨c,34,none⟩ (.int .i64 bx)).setCell ⟨c,27,none⟩ (.int .i64 mx))).frozen? ⟨c,33,none⟩=false:=aF r2 33
   have hr3:aV ((((w2.setCell ⟨c,34,none⟩ (.int .i64 bx)).setCell ⟨c,27,none⟩ (.int .i64 mx))).setCell ⟨c,33,none⟩ (.int .i64 ((T:Int)+1))) c { s2 with now:=bx,left:=mx,told:=(T:Int)+1 }:=az (i:=33) (v:=.int .i64 ((T:Int)+1)) r2
   have t3:=((((Touch.refl (aN c) w2).set c 34 (.int .i64 bx) rfl).set c 27 (.int .i64 mx) rfl).set c 33 (.int .i64 ((T:Int)+1)) rfl)
   have hs:=h2.bU
   have h3:=h2.block (m':=m.next) hr3 (by rw [HE.out];exact ⟨hs.cells,hs.bq,hs.bk,hs.dP,hs.en,hs.aD,hs.op,hs.ay,rfl,hs.cM,hs.addr,hs.mode,hs.cJ,rfl,rfl,hs.beyond,hs.once⟩) t3 rfl (by rw [HE.out]) rfl (by rw [HE.out]) rfl (by rw [HE.out]) (by rw [HE.out])
   have H3:=zH (zA h3 ((Step.ah (F:=F) (au (Below.refl _ w))).trans (st2.trans (h2.step t3))))
   generalize (w2.setCell ⟨c,34,none⟩ (.int .i64 bx)).setCell ⟨c,27,none⟩ (.int .i64 mx)=w3 at *
   clear h3 hr3 t3 hs h2 st2 r2 r1
   go_wp2
   go_meet
   exact ⟨_,H3.out⟩
  ·
   have E:m.next=m:=by unfold ag.next;rw [if_neg hl]
   have HE:=zH E
   clear E
   go_wp2
   go_meet
   exact ⟨s,by rw [HE.out];exact HR.out,Step.refl _ _⟩
 case rest =>
  obtain ⟨s3,h3,st3⟩:=hcut
  obtain ⟨hd,l1,l2,n0,n1,eo,t1⟩:=NF.out
  have c27':wc.cell? ⟨c,27,none⟩=some (.int .i64 m.next.left):=by rw [← h3.bU.left];exact cell_of h3.raw 27
  have f27:wc.frozen? ⟨c,27,none⟩=false:=aF h3.raw 27
  have hl8:m.next.left≤8:=by rcases hd with e | e <;> rw [e] at l2 <;> omega
  have hr4:aV (wc.setCell ⟨c,27,none⟩ (.int .i64 (m.next.left - 1))) c { s3 with left:=m.next.left - 1 }:=az (i:=27) (v:=.int .i64 (m.next.left - 1)) h3.raw
  have t4:=(Touch.refl (aN c) wc).set c 27 (.int .i64 (m.next.left - 1)) rfl
  have hs:=h3.bU
  have h4:=h3.block (m':=m.bU.2) hr4 ⟨hs.cells,hs.bq,hs.bk,hs.dP,hs.en,hs.aD,hs.op,hs.ay,rfl,hs.cM,hs.addr,hs.mode,hs.cJ,hs.told,hs.now,hs.beyond,hs.once⟩ t4 rfl rfl rfl rfl rfl rfl
  have k34:(wc.setCell ⟨c,27,none⟩ (.int .i64 (m.next.left - 1))).cell? ⟨c,34,none⟩=some (.int .i64 m.next.now):=by rw [← h3.bU.now];exact cell_of hr4 34
  have k24:(wc.setCell ⟨c,27,none⟩ (.int .i64 (m.next.left - 1))).cell? ⟨c,24,none⟩=some (.int .i64 m.op.data):=by rw [← eo,← h3.bU.op];exact cell_of hr4 24
  have k27:(wc.setCell ⟨c,27,none⟩ (.int .i64 (m.next.left - 1))).cell? ⟨c,27,none⟩=some (.int .i64 (m.next.left - 1)):=cell_of hr4 27
  have H4:=zH (zA h4.shut (st3.trans (h3.step t4)))
  have HV:=zH (show m.bU.1=bitsOf m.next.now m.op.data (m.next.left - 1) from rfl)
  have hL0:0≤m.next.left - 1:=by omega
  have hL1:m.next.left - 1≤7:=by omega
  clear hr4 t4 hs h4 h3 st3 c27 NF HF HR HA HT hT1 eo t1
  go_wp2_with fail
  generalize wc.setCell ⟨c,27,none⟩ (.int .i64 (m.next.left - 1))=w4 at *
  generalize m.bU=sy at *
  generalize m.next.left - 1=L at *
  generalize m.next.now=nw at *
  clear c27' f27
  have hq0 : ∀ k:Nat,0≤nw / 2 ^ k:=fun k=>Int.ediv_nonneg n0 (Int.le_of_lt (Int.pow_pos (by decide)))
  rcases hd with hd | hd
  ·
   rw [hd] at k24 HV
   have z1:IntKind.i64.wrap (L * 1)=L:=by rw [Int.mul_one];exact cX (by omega) (by omega)
   have z2:IntKind.i64.wrap L=L:=cX (by omega) (by omega)
   have z3:bits .and .i64 (nw / 2 ^ L.toNat) 1=nw / 2 ^ L.toNat % 2:=GG _
   have z4:=NP (nw / 2 ^ L.toNat)
   have HZ:=zH (show bitsOf nw 1 L=13+2 * (nw / 2 ^ L.toNat % 2) from if_pos rfl)
   have z5:0≤nw / 2 ^ L.toNat % 2:=by omega
   have z6:nw / 2 ^ L.toNat % 2≤1:=by omega
   clear hd l2
   go_quiet (fail)
   have k24':(w4.drewN nq).cell? ⟨c,24,none⟩=some (.int .i64 1):=k24
   go_wp2
   go_ret
   exact ⟨by rw [HV.out,HZ.out];rfl,H4.out.1.aj (aY zR _),H4.out.2.trans (Step.ah (aY zR _))⟩
  ·
   rw [hd] at k24 HV
   have z1:IntKind.i64.wrap (L * 4)=L * 4:=cX (by omega) (by omega)
   have z7:0≤L * 4:=by omega
   have z8:L * 4≤64:=by omega
   have z3:bits .and .i64 (nw / 2 ^ (L * 4).toNat) 15=nw / 16 ^ L.toNat % 16:=by rw [Nn L hL0];exact I7 _
   have HZ:=zH (show bitsOf nw 4 L=nw / 16 ^ L.toNat % 16 from if_neg (by decide))
   clear hd l2
   go_quiet (fail)
   have k24':(w4.drewN nq).cell? ⟨c,24,none⟩=some (.int .i64 4):=k24
   go_wp2
   go_ret
   exact ⟨by rw [HV.out,HZ.out];rfl,H4.out.1.aj (aY zR _),H4.out.2.trans (Step.ah (aY zR _))⟩
def iG (x:Int) (c:Nat) (m:ag) (F:Nat→Prop) (w:World) (e:Ending) (w':World):Prop:=e=.returned (.int .i64 x) ∧ ∃ F',aT w' c m F'∧Step F F' w w'
theorem L9 {w w1:World} {c:Nat} {s:Raw} {m:ag} {F:Nat→Prop} {x l:Int} (h:bK w c s m F) (g:aV w1 c { s with cM:=aS s.cM x l,left:=s.left - 1 }) (t:Touch (aN c) w w1):bK w1 c { s with cM:=aS s.cM x l,left:=s.left - 1 } (m.dd x l) F:=by
 have hs:=h.bU
 exact h.block (m':=m.dd x l) g ⟨hs.cells,hs.bq,hs.bk,hs.dP,hs.en,hs.aD,hs.op,hs.ay,by show s.left - 1=m.left - 1;rw [hs.left],by show aS s.cM x l=aS m.cM x l;rw [hs.cM],hs.addr,hs.mode,hs.cJ,hs.told,hs.now,hs.beyond,hs.once⟩ t rfl rfl rfl rfl rfl rfl
theorem ix (c:Nat) (s:Raw) (m:ag) (F:Nat→Prop) (w:World) (h:bK w c s m F) (ho:AI m.op):Calls prog 219 #[.pointer (some ⟨c,20,none⟩)] w fun e w'=>e=.returned (.tuple #[])∧bK w' c s.behind m.behind F∧Touch (aN c) w w':=by
 refine (rh c s w h.raw (by rw [h.bU.op];exact ho)).mono ?_
 rintro e w' ⟨rfl,g,t⟩
 obtain ⟨e1,e2,e3⟩:=tQ s
 obtain ⟨f1,f2,f3⟩:=iv m
 exact ⟨rfl,h.block g h.bU.behind t e1 f1 e2 f2 e3 f3 (iU m),t⟩
theorem jt {x:Int} {c:Nat} {m:ag} {F:Nat→Prop} {w w':World} {s:Raw} (h:bK w' c s m F) (t:Step F F w w'):iG x c m F w (.returned (.int .i64 x)) w':=⟨rfl,F,h.shut,t⟩
theorem B3 {w w1 w2:World} {c g cap:Nat} {s:Raw} {m:ag} {F:Nat→Prop} {x:Int} (h:bK w c s m F) (hb:Below w.heap.size w w1) (hgrow:w1.grownBy w2 s.data.ownBlock) (hown:w2.ownsRow 0 3 1 (.slice (some ⟨g,0,none⟩) (m.data.length+1) cap) (m.data.length+1) (aB m.data++[.int .i64 x])) (hat:s.data.ownBlock=some g∨g=w1.heap.size) (hlt:g<w2.heap.size):aV w2 c s ∧ ∃ F',bK (w2.setCell ⟨c,32,none⟩ (.slice (some ⟨g,0,none⟩) (m.data.length+1) cap)) c { s with data:=.slice (some ⟨g,0,none⟩) (m.data.length+1) cap } { m with data:=m.data++[x] } F'∧Step F F' w (w2.setCell ⟨c,32,none⟩ (.slice (some ⟨g,0,none⟩) (m.data.length+1) cap)):=by
 have fA:=B8 h.raw h.aZ h.data
 have hblk : ∀ k,k<w.heap.size→some k≠s.data.ownBlock→w2.heap[k]? = w.heap[k]? := fun k hk hn=>(hgrow.block k (zV hk hb.size) hn).trans (hb.block k hk)
 have hc:c<w.heap.size:=h.raw.lt
 have hcn:some c≠s.data.ownBlock:=fun e=>fA c e.symm (.inl rfl)
 have r2:aV w2 c s:=(hblk c hc hcn).trans h.raw
 have r3:aV (w2.setCell ⟨c,32,none⟩ (.slice (some ⟨g,0,none⟩) (m.data.length+1) cap)) c { s with data:=.slice (some ⟨g,0,none⟩) (m.data.length+1) cap }:=az (i:=32) (v:=.slice (some ⟨g,0,none⟩) (m.data.length+1) cap) r2
 have hgc:g≠c:=by
  rintro rfl
  rcases hat with e | e
  ·
   exact hcn e.symm
  ·
   have:=hb.size;omega
 have hsz:w.heap.size≤w2.heap.size:=Nat.le_trans hb.size hgrow.size
 have T:Touch F w (w2.setCell ⟨c,32,none⟩ (.slice (some ⟨g,0,none⟩) (m.data.length+1) cap)):=by
  refine Touch.set ?_ c 32 _ h.own
  exact ⟨hgrow.os.trans hb.os,hgrow.tape.trans hb.tape,hgrow.output.trans hb.output,hsz,fun k hk hn=>hblk k hk fun e=>hn (h.jQ k e.symm)⟩
 have hgF:F g∨w.heap.size≤g:=by
  rcases hat with e | e
  ·
   exact .inl (h.jQ g e)
  ·
   right;have:=hb.size;omega
 have hs:=h.bU
 refine ⟨r2,fun b=>F b∨b=g,⟨r3,⟨hs.cells,hs.bq,hs.bk,hs.dP,hs.en,hs.aD,hs.op,hs.ay,hs.left,hs.cM,hs.addr,hs.mode,hs.cJ,hs.told,hs.now,hs.beyond,hs.once⟩,?_,?_,?_,.inl h.own,fun b hb'=>.inl (h.mc b hb'),?_,?_⟩,T,?_⟩
 ·
  have hj:=h.aZ
  show jW _ s.aZ m.aZ
  cases hm:m.aZ with
  | none=>rw [hm] at hj;exact hj
  | some j =>
   rw [hm] at hj
   obtain ⟨b,e1,e2⟩:=hj
   refine ⟨b,e1,?_⟩
   have hbl:b<w.heap.size:=aO e2
   rw [heap_setCell_other _ _ _ _ (fun e=>by
    have e':b=c:=e
    rw [e'] at e2
    have:=e2.symm.trans h.raw;simp at this)]
   exact (hblk b hbl (fun e=>fA b e.symm (.inr e1))).trans e2
 ·
  obtain ⟨a,cc,h1,h2,h3,h4,h5⟩:=h.busy
  refine ⟨a,cc,h1,dr h2 T (fun b o e hl hf=>h3 b o e hl hf),fun b o e hl hf => ?_,h4,h5⟩
  rcases hf with hf | rfl
  ·
   exact h3 b o e hl hf
  ·
   rcases hgF with hf | hf
   ·
    exact h3 b o e hl hf
   ·
    obtain ⟨b',o',g1,g2⟩:=h2 0 hl
    rw [e] at g1
    obtain ⟨rfl,rfl⟩:b=b'∧o=o':=by simpa using g1
    have:=zL w _ g2
    simp at this
    omega
 ·
  have e:(m.data++[x]).length=m.data.length+1:=by simp
  have e2:aB (m.data++[x])=aB m.data++[.int .i64 x]:=by simp [aB]
  show World.ownsRow _ 0 3 1 _ (m.data++[x]).length (aB (m.data++[x]))
  rw [e,e2]
  refine gy (F:=aN c) hown ((Touch.refl _ _).set c 32 _ rfl) (fun k hk => ?_)
  obtain rfl:g=k:=by simpa [Value.ownBlock] using hk
  exact hgc
 ·
  intro k hk
  obtain rfl:g=k:=by simpa [Value.ownBlock] using hk
  exact .inr rfl
 ·
  intro b hb'
  rw [World.size_setCell]
  rcases hb' with hb' | rfl
  ·
   exact zV (h.lt b hb') hsz
  ·
   exact hlt
 ·
  intro b hb'
  rcases hb' with hb' | rfl
  ·
   exact .inl hb'
  ·
   exact hgF
theorem KW (c:Nat) (m:ag) (F:Nat→Prop) (n:Nat) (x:Int) (w:World) (h:aT w c m F) (fit:m.Fit n) (hn:n<1099511627776) (hx0:0≤x) (hx1:x≤15) (k:m.ay=0):Calls prog 232 #[.pointer (some ⟨c,0,none⟩),.int .i64 x] w (iG 15 c (m.sC x) F w):=by
 obtain ⟨s,h⟩:=h.open
 have hs:=h.bU
 have c26:w.cell? ⟨c,26,none⟩=some (.int .i64 0):=by rw [← k,← hs.ay];exact cell_of h.raw 26
 have t:=fit.part.LY k
 have HT:=zH (jV c s x 1 w h.raw t.1 (by rw [hs.cM];exact t.2.2.1) (by rw [hs.cM];have:=vM t;omega) hx0 hx1 (by rw [hs.left];exact fit.part.kv) (by rw [hs.left];have:=fit.part.ll;omega))
 have HH:=zH h
 have HL:=zH hs.left
 have hg0:=kj (x:=x) t
 have HO:=zH fit.base
 clear h hs fit t k
 go_enter func232,ntmps232
 go_wp2_with fail
 refine HT.out.mono ?_
 rintro e w1 ⟨rfl,g1,t1⟩
 have h1:=L9 HH.out g1 t1
 have c28:w1.cell? ⟨c,28,none⟩=some (.int .i64 (aS m.cM x 1)):=by rw [← HH.out.bU.cM];exact cell_of g1 28
 have st1:=zH (HH.out.step t1)
 have H1:=zH h1
 by_cases hl:m.left - 1=0
 ·
  have hd:decide (s.left - 1=0)=true:=by rw [HL.out];simp [hl]
  have HLL:=zH hl
  clear g1 t1 h1 hl
  have HB:=zH (mD c _ _ F (aS m.cM x 1) w1 H1.out)
  go_wp2_with fail
  refine HB.out.mono ?_
  rintro e w2 ⟨rfl,h2,t2⟩
  go_wp2
  go_ret
  rw [show m.sC x=(m.dd x 1).cT (aS m.cM x 1) from if_pos HLL.out]
  exact jt h2 (st1.out.trans (H1.out.step t2))
 ·
  have hd:decide (s.left - 1=0)=false:=by rw [HL.out];simp [hl]
  have HLL:=zH hl
  clear g1 t1 h1 hl
  go_wp2
  go_ret
  rw [show m.sC x=m.dd x 1 from if_neg HLL.out]
  exact jt H1.out st1.out
theorem KX (c:Nat) (m:ag) (F:Nat→Prop) (n:Nat) (x:Int) (w:World) (h:aT w c m F) (fit:m.Fit n) (hn:n<1099511627776) (hx0:0≤x) (hx1:x≤15) (k:m.ay=2):Calls prog 232 #[.pointer (some ⟨c,0,none⟩),.int .i64 x] w (iG 15 c (m.sD x) F w):=by
 obtain ⟨s,h⟩:=h.open
 have hs:=h.bU
 have c26:w.cell? ⟨c,26,none⟩=some (.int .i64 2):=by rw [← k,← hs.ay];exact cell_of h.raw 26
 have c21:w.cell? ⟨c,21,none⟩=some (.int .i64 m.op.addr):=by rw [← hs.op];exact cell_of h.raw 21
 have t:=fit.part.jM k
 have HT:=zH (jV c s x m.op.addr w h.raw t.1 (by rw [hs.cM];exact t.2.2.1) (by rw [hs.cM];have:=vM t;omega) hx0 hx1 (by rw [hs.left];exact fit.part.kv) (by rw [hs.left];have:=fit.part.ll;omega))
 have HH:=zH h
 have HL:=zH hs.left
 have hg0:=kj (x:=x) t
 have HO:=zH fit.base
 clear h hs fit t k
 go_enter func232,ntmps232
 go_wp2_with fail
 refine HT.out.mono ?_
 rintro e w1 ⟨rfl,g1,t1⟩
 have h1:=L9 HH.out g1 t1
 have c28:w1.cell? ⟨c,28,none⟩=some (.int .i64 (aS m.cM x m.op.addr)):=by rw [← HH.out.bU.cM];exact cell_of g1 28
 have st1:=zH (HH.out.step t1)
 have H1:=zH h1
 by_cases hl:m.left - 1=0
 ·
  have hd:decide (s.left - 1=0)=true:=by rw [HL.out];simp [hl]
  have HLL:=zH hl
  clear g1 t1 h1 hl
  have c29:w1.cell? ⟨c,29,none⟩=some (.int .i64 s.addr):=cell_of H1.out.raw 29
  have f29:w1.frozen? ⟨c,29,none⟩=false:=aF H1.out.raw 29
  have r2:aV (w1.setCell ⟨c,29,none⟩ (.int .i64 (aS m.cM x m.op.addr % 4096))) c { s with cM:=aS s.cM x m.op.addr,left:=s.left - 1,addr:=aS m.cM x m.op.addr % 4096 }:=az (i:=29) (v:=.int .i64 (aS m.cM x m.op.addr % 4096)) H1.out.raw
  have t2:=(Touch.refl (aN c) w1).set c 29 (.int .i64 (aS m.cM x m.op.addr % 4096)) rfl
  have hs:=H1.out.bU
  have h2:=H1.out.block (m':={ m.dd x m.op.addr with addr:=aS m.cM x m.op.addr % 4096 }) r2 ⟨hs.cells,hs.bq,hs.bk,hs.dP,hs.en,hs.aD,hs.op,hs.ay,hs.left,hs.cM,rfl,hs.mode,hs.cJ,hs.told,hs.now,hs.beyond,hs.once⟩ t2 rfl rfl rfl rfl rfl rfl
  have HB:=zH (ix c _ _ F _ h2 HO.out.ok.op)
  have st2:=zH (st1.out.trans (H1.out.step t2))
  have H2:=zH h2
  clear r2 t2 hs h2
  go_wp2_with fail
  refine HB.out.mono ?_
  rintro e w2 ⟨rfl,h3,t3⟩
  go_wp2
  go_ret
  rw [show m.sD x=ag.behind { m.dd x m.op.addr with addr:=aS m.cM x m.op.addr % 4096 } from if_pos HLL.out]
  exact jt h3 (st2.out.trans (H2.out.step t3))
 ·
  have hd:decide (s.left - 1=0)=false:=by rw [HL.out];simp [hl]
  have HLL:=zH hl
  clear g1 t1 h1 hl
  go_wp2
  go_ret
  rw [show m.sD x=m.dd x m.op.addr from if_neg HLL.out]
  exact jt H1.out st1.out
theorem KY (c:Nat) (m:ag) (F:Nat→Prop) (n:Nat) (x:Int) (w:World) (h:aT w c m F) (fit:m.Fit n) (hn:n<1099511627776) (hx0:0≤x) (hx1:x≤15) (k:m.ay=3):Calls prog 232 #[.pointer (some ⟨c,0,none⟩),.int .i64 x] w (iG 15 c (m.sE x) F w):=by
 obtain ⟨s,h⟩:=h.open
 have hs:=h.bU
 have c26:w.cell? ⟨c,26,none⟩=some (.int .i64 3):=by rw [← k,← hs.ay];exact cell_of h.raw 26
 have c21:w.cell? ⟨c,21,none⟩=some (.int .i64 m.op.addr):=by rw [← hs.op];exact cell_of h.raw 21
 have t:=fit.part.LZ k
 have HT:=zH (jV c s x m.op.addr w h.raw t.1 (by rw [hs.cM];exact t.2.2.1) (by rw [hs.cM];have:=vM t;omega) hx0 hx1 (by rw [hs.left];exact fit.part.kv) (by rw [hs.left];have:=fit.part.ll;omega))
 have HH:=zH h
 have HL:=zH hs.left
 have hg0:=kj (x:=x) t
 have HO:=zH fit.base
 clear h hs fit t k
 go_enter func232,ntmps232
 go_wp2_with fail
 refine HT.out.mono ?_
 rintro e w1 ⟨rfl,g1,t1⟩
 have h1:=L9 HH.out g1 t1
 have c28:w1.cell? ⟨c,28,none⟩=some (.int .i64 (aS m.cM x m.op.addr)):=by rw [← HH.out.bU.cM];exact cell_of g1 28
 have st1:=zH (HH.out.step t1)
 have H1:=zH h1
 by_cases hl:m.left - 1=0
 ·
  have hd:decide (s.left - 1=0)=true:=by rw [HL.out];simp [hl]
  have HLL:=zH hl
  clear g1 t1 h1 hl
  have c30:w1.cell? ⟨c,30,none⟩=some (.int .i64 s.mode):=cell_of H1.out.raw 30
  have f30:w1.frozen? ⟨c,30,none⟩=false:=aF H1.out.raw 30
  have r2:aV (w1.setCell ⟨c,30,none⟩ (.int .i64 (aS m.cM x m.op.addr))) c { s with cM:=aS s.cM x m.op.addr,left:=s.left - 1,mode:=aS m.cM x m.op.addr }:=az (i:=30) (v:=.int .i64 (aS m.cM x m.op.addr)) H1.out.raw
  have c31:(w1.setCell ⟨c,30,none⟩ (.int .i64 (aS m.cM x m.op.addr))).cell? ⟨c,31,none⟩=some (.bool s.cJ):=cell_of r2 31
  have f31:(w1.setCell ⟨c,30,none⟩ (.int .i64 (aS m.cM x m.op.addr))).frozen? ⟨c,31,none⟩=false:=aF r2 31
  have r3:aV ((w1.setCell ⟨c,30,none⟩ (.int .i64 (aS m.cM x m.op.addr))).setCell ⟨c,31,none⟩ (.bool true)) c { s with cM:=aS s.cM x m.op.addr,left:=s.left - 1,mode:=aS m.cM x m.op.addr,cJ:=true }:=az (i:=31) (v:=.bool true) r2
  have t3:=((Touch.refl (aN c) w1).set c 30 (.int .i64 (aS m.cM x m.op.addr)) rfl).set c 31 (.bool true) rfl
  have hs:=H1.out.bU
  have h3:=H1.out.block (m':={ m.dd x m.op.addr with mode:=aS m.cM x m.op.addr,cJ:=true }) r3 ⟨hs.cells,hs.bq,hs.bk,hs.dP,hs.en,hs.aD,hs.op,hs.ay,hs.left,hs.cM,hs.addr,rfl,rfl,hs.told,hs.now,hs.beyond,hs.once⟩ t3 rfl rfl rfl rfl rfl rfl
  have HB:=zH (ix c _ _ F _ h3 HO.out.ok.op)
  have st2:=zH (st1.out.trans (H1.out.step t3))
  have H2:=zH h3
  clear r2 r3 t3 hs h3
  go_wp2_with fail
  refine HB.out.mono ?_
  rintro e w2 ⟨rfl,h4,t4⟩
  go_wp2
  go_ret
  rw [show m.sE x=ag.behind { m.dd x m.op.addr with mode:=aS m.cM x m.op.addr,cJ:=true } from if_pos HLL.out]
  exact jt h4 (st2.out.trans (H2.out.step t4))
 ·
  have hd:decide (s.left - 1=0)=false:=by rw [HL.out];simp [hl]
  have HLL:=zH hl
  clear g1 t1 h1 hl
  go_wp2
  go_ret
  rw [show m.sE x=m.dd x m.op.addr from if_neg HLL.out]
  exact jt H1.out st1.out
theorem KZ (c:Nat) (m:ag) (F:Nat→Prop) (n:Nat) (x:Int) (w:World) (h:aT w c m F) (fit:m.Fit n) (hn:n<1099511627776) (hx0:0≤x) (hx1:x≤15) (k:m.ay=4):Calls prog 232 #[.pointer (some ⟨c,0,none⟩),.int .i64 x] w (iG 15 c m.uL F w):=by
 obtain ⟨s,h⟩:=h.open
 have hs:=h.bU
 have c26:w.cell? ⟨c,26,none⟩=some (.int .i64 4):=by rw [← k,← hs.ay];exact cell_of h.raw 26
 have c27:w.cell? ⟨c,27,none⟩=some (.int .i64 m.left):=by rw [← hs.left];exact cell_of h.raw 27
 have f27:w.frozen? ⟨c,27,none⟩=false:=aF h.raw 27
 have l1:=fit.part.ll
 have l0:=fit.part.kv
 have r1:aV (w.setCell ⟨c,27,none⟩ (.int .i64 (m.left - 1))) c { s with left:=m.left - 1 }:=az (i:=27) (v:=.int .i64 (m.left - 1)) h.raw
 have t1:=(Touch.refl (aN c) w).set c 27 (.int .i64 (m.left - 1)) rfl
 have k27:(w.setCell ⟨c,27,none⟩ (.int .i64 (m.left - 1))).cell? ⟨c,27,none⟩=some (.int .i64 (m.left - 1)):=cell_of r1 27
 have h1:=h.block (m':={ m with left:=m.left - 1 }) r1 ⟨hs.cells,hs.bq,hs.bk,hs.dP,hs.en,hs.aD,hs.op,hs.ay,rfl,hs.cM,hs.addr,hs.mode,hs.cJ,hs.told,hs.now,hs.beyond,hs.once⟩ t1 rfl rfl rfl rfl rfl rfl
 have HB:=zH (ix c _ _ F _ h1 fit.base.ok.op)
 have st1:=zH (h.step t1)
 have H1:=zH h1
 clear h hs fit r1 t1 h1 k
 by_cases hl:m.left - 1=0
 ·
  have hlb:(m.left - 1 == 0)=true:=by rw [hl];rfl
  have HLL:=zH hl
  clear hl
  go_enter func232,ntmps232
  go_wp2_with fail
  refine HB.out.mono ?_
  rintro e w2 ⟨rfl,h3,t3⟩
  go_wp2
  go_ret
  rw [show m.uL=ag.behind { m with left:=m.left - 1 } from if_pos HLL.out]
  exact jt h3 (st1.out.trans (H1.out.step t3))
 ·
  have hlb:(m.left - 1 == 0)=false:=zQ hl
  have HLL:=zH hl
  clear hl
  go_enter func232,ntmps232
  go_wp2
  go_ret
  rw [show m.uL={ m with left:=m.left - 1 } from if_neg HLL.out]
  exact jt H1.out st1.out
theorem K4 (c:Nat) (m:ag) (F:Nat→Prop) (n:Nat) (x:Int) (w:World) (h:aT w c m F) (fit:m.Fit n) (hn:n<1099511627776) (hx0:0≤x) (hx1:x≤15) (k:m.ay=5):Calls prog 232 #[.pointer (some ⟨c,0,none⟩),.int .i64 x] w (iG 15 c (m.sF x) F w):=by
 obtain ⟨s,h⟩:=h.open
 have hs:=h.bU
 have c26:w.cell? ⟨c,26,none⟩=some (.int .i64 5):=by rw [← k,← hs.ay];exact cell_of h.raw 26
 have c24:w.cell? ⟨c,24,none⟩=some (.int .i64 m.op.data):=by rw [← hs.op];exact cell_of h.raw 24
 have t:=fit.part.mq k
 have HT:=zH (jV c s x m.op.data w h.raw t.1 (by rw [hs.cM];exact t.2.2.1) (by rw [hs.cM];have:=vM t;omega) hx0 hx1 (by rw [hs.left];exact fit.part.kv) (by rw [hs.left];have:=fit.part.ll;omega))
 have HH:=zH h
 have HL:=zH hs.left
 have hg0:=kj (x:=x) t
 have HO:=zH fit.base
 clear h hs fit t k
 go_enter func232,ntmps232
 go_wp2_with fail
 refine HT.out.mono ?_
 rintro e w1 ⟨rfl,g1,t1⟩
 have h1:=L9 HH.out g1 t1
 have c28:w1.cell? ⟨c,28,none⟩=some (.int .i64 (aS m.cM x m.op.data)):=by rw [← HH.out.bU.cM];exact cell_of g1 28
 have st1:=zH (HH.out.step t1)
 have H1:=zH h1
 by_cases hl:m.left - 1=0
 ·
  have hd:decide (s.left - 1=0)=true:=by rw [HL.out];simp [hl]
  have HLL:=zH hl
  clear g1 t1 h1 hl
  obtain ⟨i0,hi,hz0,hz1,hz2⟩:=info_parts iq
  have c32:w1.cell? ⟨c,32,none⟩=some s.data:=cell_of H1.out.raw 32
  have hb2:Below w1.heap.size w1 ((w1.alloc (.cells #[.int .i64 (aS m.cM x m.op.data)] 3)).drew):=au (ae zR _)
  have hown:=World.ownsRow.aj H1.out.data hb2
  have hlen:=HO.out.data
  have hnews:=World.news_of_block (w:=(w1.alloc (.cells #[.int .i64 (aS m.cM x m.op.data)] 3)).drew) (cs := #[.int .i64 (aS m.cM x m.op.data)]) (t:=3) (fr:=(0,0)) (af w1 _)
  have HP:=zH (fun (g cap:Nat) (w2:World) (h1:((w1.alloc (.cells #[.int .i64 (aS m.cM x m.op.data)] 3)).drew).grownBy w2 s.data.ownBlock) (h2:_) (h3:_) (h4:_)=>B3 (g:=g) (cap:=cap) (w2:=w2) (x:=(aS m.cM x m.op.data)) H1.out hb2 h1 h2 h3 h4)
  have HN:=zH hnews
  have HW:=zH hown
  have HB:=zH (fun (s':Raw) (F':Nat→Prop) (w':World) (h':bK w' c s' { m.dd x m.op.data with data:=m.data++[(aS m.cM x m.op.data)] } F')=>ix c s' _ F' w' h' HO.out.ok.op)
  have hz63:m.data.length+1≤maxLen:=by unfold maxLen;omega
  have hz47:(m.data.length+1) * 8≤140737488355328:=by omega
  obtain ⟨gx,hgx⟩ : ∃ gx,aS m.cM x m.op.data=gx:=⟨_,rfl⟩
  have HGX:=zH hgx
  rw [hgx] at c28 HP HN HW HB
  clear hgx -- at *
  clear hb2 hown hnews hlen
  obtain ⟨da,dc,hda⟩ : ∃ da dc,s.data=.slice da m.data.length dc:=by
   rcases H1.out.data.2 with ⟨e,e2⟩ | ⟨g,cap,cur,e,_⟩
   ·
    refine ⟨none,0,?_⟩
    have e2':m.data.length=0:=e2
    rw [e2'];exact e
   ·
    exact ⟨_,_,e⟩
  rw [hda] at c32 HW HP
  clear hda
  have hcl:c<w1.heap.size:=H1.out.raw.lt
  have c32b:(w1.alloc (.cells #[.int .i64 gx] 3)).cell? ⟨c,32,none⟩=some (.slice da m.data.length dc):=by rw [World.cell?_alloc_lt _ _ _ hcl];exact c32
  have c28b:(w1.alloc (.cells #[.int .i64 gx] 3)).cell? ⟨c,28,none⟩=some (.int .i64 gx):=by rw [World.cell?_alloc_lt _ _ _ hcl];exact c28
  go_wp2_with fail
  go_region_law ((refine step_append_lies _ (by rfl) (.tmp 97) (.tmp 102) 22 (by rfl) 0 3 i0 (.int .i64 0) 1 8 underlying22 hi hz0 hz1 hz2 rfl (by decide) (.slice da m.data.length dc) m.data.length (aB m.data) (by rfl) HW.out ⟨w1.heap.size,0,none⟩ 1 1 [.int .i64 gx] (by rfl) rfl HN.out (by simp [Value.oneCell']) (by decide) hz63 hz47 zX (w1.heap.size+1) (by simp) ?_;intro g cap w2 hown hgrow hat hlt;obtain ⟨r2,F',h2,st2⟩:=HP.out g cap w2 hgrow hown (by simpa using hat) hlt;have d32:w2.cell? ⟨c,32,none⟩=some (.slice da m.data.length dc):=cell_of r2 32;have f32:w2.frozen? ⟨c,32,none⟩=false:=aF r2 32;clear r2))
  all_goals
   have HB2:=zH (HB.out _ _ _ h2)
   have H2:=zH (zA h2 st2)
   clear h2 st2
   go_wp2_with fail
   refine HB2.out.mono ?_
   rintro e w3 ⟨rfl,h4,t4⟩
   go_wp2
   go_ret
   rw [show m.sF x=ag.behind { m.dd x m.op.data with data:=m.data++[gx] } by rw [← HGX.out];exact if_pos HLL.out]
   exact ⟨rfl,_,h4.shut,(st1.out.trans H2.out.2).trans (H2.out.1.step t4)⟩
 ·
  have hd:decide (s.left - 1=0)=false:=by rw [HL.out];simp [hl]
  have HLL:=zH hl
  clear g1 t1 h1 hl
  go_wp2
  go_ret
  rw [show m.sF x=m.dd x m.op.data from if_neg HLL.out]
  exact jt H1.out st1.out
theorem K5 (c:Nat) (m:ag) (F:Nat→Prop) (n:Nat) (x:Int) (w:World) (h:aT w c m F) (fit:m.Fit n) (hn:n<1099511627776) (hx0:0≤x) (hx1:x≤15) (k:m.ay=6):Calls prog 232 #[.pointer (some ⟨c,0,none⟩),.int .i64 x] w (iG m.bU.1 c m.bU.2 F w):=by
 obtain ⟨s,h⟩:=h.open
 have hs:=h.bU
 have c26:w.cell? ⟨c,26,none⟩=some (.int .i64 6):=by rw [← k,← hs.ay];exact cell_of h.raw 26
 have HS:=zH (E9 c m F n w h.shut fit hn k)
 clear h hs fit k
 go_enter func232,ntmps232
 go_wp2_with fail
 refine HS.out.mono ?_
 rintro e w2 ⟨rfl,h2,st2⟩
 go_wp2
 go_ret
 exact ⟨rfl,F,h2,st2⟩
theorem K6 (c:Nat) (m:ag) (F:Nat→Prop) (n:Nat) (x:Int) (w:World) (h:aT w c m F) (fit:m.Fit n) (hn:n<1099511627776) (hx0:0≤x) (hx1:x≤15) (k:m.ay=7):Calls prog 232 #[.pointer (some ⟨c,0,none⟩),.int .i64 x] w (iG 15 c { m with beyond:=true } F w):=by
 obtain ⟨s,h⟩:=h.open
 have hs:=h.bU
 have c26:w.cell? ⟨c,26,none⟩=some (.int .i64 7):=by rw [← k,← hs.ay];exact cell_of h.raw 26
 have c35:w.cell? ⟨c,35,none⟩=some (.bool s.beyond):=cell_of h.raw 35
 have f35:w.frozen? ⟨c,35,none⟩=false:=aF h.raw 35
 have r1:aV (w.setCell ⟨c,35,none⟩ (.bool true)) c { s with beyond:=true }:=az (i:=35) (v:=.bool true) h.raw
 have t1:=(Touch.refl (aN c) w).set c 35 (.bool true) rfl
 have h1:=h.block (m':={ m with beyond:=true }) r1 ⟨hs.cells,hs.bq,hs.bk,hs.dP,hs.en,hs.aD,hs.op,hs.ay,hs.left,hs.cM,hs.addr,hs.mode,hs.cJ,hs.told,hs.now,rfl,hs.once⟩ t1 rfl rfl rfl rfl rfl rfl
 have H1:=zH (zA h1 (h.step t1))
 clear h hs fit r1 t1 h1 k
 go_enter func232,ntmps232
 go_wp2
 go_ret
 exact jt H1.out.1 H1.out.2
theorem B5 (c:Nat) (m:ag) (F:Nat→Prop) (n:Nat) (x:Int) (w:World) (h:aT w c m F) (fit:m.Fit n) (hn:n<1099511627776) (hx0:0≤x) (hx1:x≤15) (n0:m.ay≠0) (n2:m.ay≠2) (n3:m.ay≠3) (n4:m.ay≠4) (n5:m.ay≠5) (n6:m.ay≠6) (n7:m.ay≠7):Calls prog 232 #[.pointer (some ⟨c,0,none⟩),.int .i64 x] w (iG 15 c m F w):=by
 obtain ⟨s,h⟩:=h.open
 have hs:=h.bU
 have c26:w.cell? ⟨c,26,none⟩=some (.int .i64 m.ay):=by rw [← hs.ay];exact cell_of h.raw 26
 have H1:=zH h
 clear h hs fit
 have z0:=zQ n0
 have z2:=zQ n2
 have z3:=zQ n3
 have z4:=zQ n4
 have z5:=zQ n5
 have z6:=zQ n6
 have z7:=zQ n7
 clear n0 n2 n3 n4 n5 n6 n7
 go_enter func232,ntmps232
 go_wp2
 go_ret
 exact jt H1.out (Step.refl _ _)
theorem u4 (c:Nat) (m:ag) (F:Nat→Prop) (n:Nat) (x:Int) (w:World) (h:aT w c m F) (fit:m.Fit n) (hn:n<1099511627776) (hx0:0≤x) (hx1:x≤15):Calls prog 232 #[.pointer (some ⟨c,0,none⟩),.int .i64 x] w (iG (m.step x).1 c (m.step x).2 F w):=by
 unfold ag.step
 split
 ·
  exact KW c m F n x w h fit hn hx0 hx1 ‹_›
 split
 ·
  exact KX c m F n x w h fit hn hx0 hx1 ‹_›
 split
 ·
  exact KY c m F n x w h fit hn hx0 hx1 ‹_›
 split
 ·
  exact KZ c m F n x w h fit hn hx0 hx1 ‹_›
 split
 ·
  exact K4 c m F n x w h fit hn hx0 hx1 ‹_›
 split
 ·
  exact K5 c m F n x w h fit hn hx0 hx1 ‹_›
 split
 ·
  exact K6 c m F n x w h fit hn hx0 hx1 ‹_›
 ·
  exact B5 c m F n x w h fit hn hx0 hx1 ‹_› ‹_› ‹_› ‹_› ‹_› ‹_› ‹_›
def GA (x:Int) (c:Nat) (m:ag) (F:Nat→Prop) (w:World) (e:Ending) (w':World):Prop:=e=.returned (.tuple #[.int .i64 x,.int .i64 0]) ∧ ∃ F',aT w' c m F'∧Step F F' w w'
theorem uZ (c:Nat) (m:ag) (F:Nat→Prop) (n:Nat) (x:Int) (w:World) (h:aT w c m F) (fit:m.Fit n) (hn:n<1099511627776) (hx0:0≤x) (hx1:x≤15):Calls prog 221 #[.pointer (some ⟨c,0,none⟩),.int .i64 x] w (GA (m.clock x).1 c (m.clock x).2 F w):=by
 have HP:=zH (wO c m F w h fit.base.ok)
 have HC:=zH (fun (F':Nat→Prop) (w':World) (h':aT w' c m.pass F')=>u4 c m.pass F' n x w' h' (rV fit) hn hx0 hx1)
 have hlt : ¬ x<0:=by omega
 have hgt : ¬ 15<x:=by omega
 clear h fit
 go_enter func221,ntmps221
 go_wp2_with fail
 refine HP.out.mono ?_
 rintro e w1 ⟨rfl,F1,h1,st1⟩
 have HC1:=zH (HC.out F1 w1 h1)
 have H1:=zH (zA h1 st1)
 obtain ⟨s,h1⟩:=h1.open
 have c15:w1.cell? ⟨c,15,none⟩=some (.bool m.pass.dP):=by rw [← h1.bU.dP];exact cell_of h1.raw 15
 clear h1 st1 HC HP
 cases hsel:m.pass.dP with
 | false =>
  rw [hsel] at c15
  have HS:=zH (show m.clock x=(15,m.pass) by unfold ag.clock;rw [hsel];rfl)
  clear hsel
  go_wp2
  go_ret2
  rw [HS.out]
  exact ⟨rfl,F1,H1.out⟩
 | true =>
  rw [hsel] at c15
  have HS:=zH (show m.clock x=m.pass.step x by unfold ag.clock;rw [hsel];rfl)
  clear hsel
  go_wp2_with fail
  refine HC1.out.mono ?_
  rintro e w2 ⟨rfl,F2,h2,st2⟩
  go_wp2
  go_ret2
  rw [HS.out]
  exact ⟨rfl,F2,h2,H1.out.2.trans st2⟩
def mT (p:Ph):Prop :=
 ((p.bW=1∨p.bW=4)∧1≤p.bytes.length∧p.bytes.length≤512∧p.bytes.all isByte=true∧p.eN=0∧p.read=0) ∨
 ((p.bW=1∨p.bW=4)∧p.bytes=[]∧1≤p.read∧p.read≤512∧p.eN=0) ∨
 (p.bW=0∧p.bytes=[]∧p.read=0∧1≤p.eN∧p.eN≤400)
def Ph.none:Ph:=⟨0,[],0,0⟩
structure qn (w:World) (b o:Nat) (p:Ph) (a:Option Addr) (c:Nat):Prop where
 c0:w.cell? ⟨b,o,none⟩=some (.int .i64 p.bW)
 c1:w.cell? ⟨b,o+1,none⟩=some (.slice a p.bytes.length c)
 c2:w.cell? ⟨b,o+2,none⟩=some (.int .i64 p.eN)
 c3:w.cell? ⟨b,o+3,none⟩=some (.int .i64 p.read)
 ints:aP w a p.bytes
structure eD (w:World) (b o:Nat) (ps:List Ph) (G:Nat→Prop):Prop where
 fA:0<ps.length → ¬ G b
 ph : ∀ i,i<ps.length → ∃ a c,qn w b (o+i * 4) (ps.getD i Ph.none) a c ∧ ∀ b' o',a=some ⟨b',o',Option.none⟩→0<(ps.getD i Ph.none).bytes.length → ¬ G b'
theorem Step.safe {G G':Nat→Prop} {w w':World} (st:Step G G' w w') {b:Nat} (hb:b<w.heap.size) (hn : ¬ G b) : ¬ G' b:=fun h=>(st.gP b h).elim hn (fun hl=>Nat.lt_irrefl _ (zV hb hl))
theorem qn.step {G G':Nat→Prop} {w w':World} {b o:Nat} {p:Ph} {a:Option Addr} {c:Nat} (h:qn w b o p a c) (st:Step G G' w w') (hn : ¬ G b) (hi : ∀ b' o',a=some ⟨b',o',none⟩→0<p.bytes.length → ¬ G b'):qn w' b o p a c :=
 ⟨st.aH.cell _ _ h.c0 hn,st.aH.cell _ _ h.c1 hn,st.aH.cell _ _ h.c2 hn,st.aH.cell _ _ h.c3 hn,dr h.ints st.aH hi⟩
theorem eD.step {G G':Nat→Prop} {w w':World} {b o:Nat} {ps:List Ph} (h:eD w b o ps G) (st:Step G G' w w'):eD w' b o ps G':=by
 refine ⟨fun hp => ?_,fun i hi => ?_⟩
 ·
  obtain ⟨a,c,hc,_⟩:=h.ph 0 hp
  exact st.safe (zL w _ hc.c0) (h.fA hp)
 ·
  obtain ⟨a,c,hc,hn⟩:=h.ph i hi
  have hp:0<ps.length:=Nat.lt_of_le_of_lt zX hi
  refine ⟨a,c,hc.step st (h.fA hp) hn,fun b' o' e hl => ?_⟩
  obtain ⟨b2,o2,g1,g2⟩:=hc.ints 0 hl
  rw [e] at g1
  obtain ⟨rfl,rfl⟩:b'=b2∧o'=o2:=by simpa using g1
  exact st.safe (zL w _ g2) (hn _ _ e hl)
theorem eD.tail {G:Nat→Prop} {w:World} {b o:Nat} {p:Ph} {ps:List Ph} (h:eD w b o (p::ps) G):eD w b (o+4) ps G:=by
 refine ⟨fun hp=>h.fA (by simp),fun i hi => ?_⟩
 obtain ⟨a,c,hc,hn⟩:=h.ph (i+1) (by simp;omega)
 have e:o+(i+1) * 4=o+4+i * 4:=by omega
 rw [e] at hc
 exact ⟨a,c,hc,hn⟩
theorem uD : ∀ (l:List (Ph×Value)) (i:Nat) (hi:i<l.length),(eK l)[i * 4]? = some (.int .i64 l[i].1.bW)∧(eK l)[i * 4+1]? = some l[i].2∧(eK l)[i * 4+2]? = some (.int .i64 l[i].1.eN)∧(eK l)[i * 4+3]? = some (.int .i64 l[i].1.read)
 | [],i,hi=>by simp at hi
 | x::r,0,hi=>by simp [eK]
 | x::r,i+1,hi=>by
  have ih:=uD r i (by simpa using hi)
  have e : ∀ j,(eK (x::r))[(i+1) * 4+j]? = (eK r)[i * 4+j]? := by
   intro j
   have e1:eK (x::r)=[.int .i64 x.1.bW,x.2,.int .i64 x.1.eN,.int .i64 x.1.read]++eK r:=by simp [eK]
   rw [e1,List.getElem?_append_right (by simp;omega)]
   congr 1
   simp;omega
  have e0:=e 0
  have e1:=e 1
  have e2:=e 2
  have e3:=e 3
  simp only [Nat.add_zero] at e0
  exact ⟨e0.trans ih.1,e1.trans ih.2.1,e2.trans ih.2.2.1,e3.trans ih.2.2.2⟩
theorem eD.A6 {w:World} {B:Nat} {v:Value} {ps:List Ph} (h:gh w B v ps) (hp:0<ps.length) (G:Nat→Prop) (hG : ∀ b,G b→b<B) : ∃ b cap,v=.slice (some ⟨b,0,none⟩) ps.length cap∧ps.length≤cap∧cap≤maxLen∧eD w b 0 ps G:=by
 obtain ⟨l,rfl,hN,hown⟩:=h
 have hl:(l.map (·.1)).length=l.length:=by simp
 rcases hown.2 with ⟨_,h0⟩ | ⟨g,cap,cur,rfl,hB,hg,hn,hm,hsz,htake⟩
 ·
  rw [hl] at hp;omega
 ·
  refine ⟨g,cap,by rw [hl],by rw [hl];exact hn,hm,fun _ hf=>Nat.lt_irrefl _ (zV (hG g hf) hB),fun i hi => ?_⟩
  rw [hl] at hi
  obtain ⟨q0,q1,q2,q3⟩:=uD l i hi
  obtain ⟨a,c,hv,hints⟩:=hN l[i] (List.getElem_mem hi)
  have ep:(l.map (·.1)).getD i Ph.none=l[i].1:=by simp [List.getD,List.getElem?_eq_getElem hi]
  rw [ep]
  have hcell : ∀ j,j<4 → ∀ v,(eK l)[i * 4+j]? = some v→w.cell? ⟨g,0+i * 4+j,none⟩=some v:=by
   intro j hj v hv
   rw [cell_of hg,Nat.zero_add]
   rw [← htake] at hv
   rw [List.getElem?_take] at hv
   split at hv
   ·
    simpa using hv
   ·
    cases hv
  refine ⟨a,c,⟨hcell 0 (by decide) _ q0,(hcell 1 (by decide) _ q1).trans (by rw [hv]),hcell 2 (by decide) _ q2,hcell 3 (by decide) _ q3,?_⟩,?_⟩
  ·
   intro j hj
   obtain ⟨b,off,cu,ha,_,hb,hx⟩:=hints j hj
   exact ⟨b,off,ha,(cell_of hb _).trans hx⟩
  ·
   intro b' o' ha hlen hf
   obtain ⟨b,off,cu,ha',hB',_,_⟩:=hints 0 hlen
   rw [ha] at ha'
   obtain ⟨rfl,rfl⟩:b'=b∧o'=off:=by simpa using ha'
   exact Nat.lt_irrefl _ (zV (hG _ hf) hB')
theorem qP (n m:Int) (w:World):Calls prog 214 #[.int .i64 n,.int .i64 m] w fun e w'=>e=.returned (.bool (decide (1≤n)&&decide (n≤m)))∧w=w':=by
 by_cases h:1≤n
 ·
  go_enter func214,ntmps214
  go_wp2
  go_ret
  exact ⟨by simp [h],rfl⟩
 ·
  have hd:=zH (decide_eq_false h)
  go_enter func214,ntmps214
  go_wp2
  go_ret
  exact ⟨by rw [hd.out];rfl,rfl⟩
theorem Mb:de 215 (fun b => !isByte b) where
 calls b w:=by
  go_enter func215,ntmps215
  go_wp2_with (go_at_call 182;refine (nh b w).mono ?_;rintro e w ⟨rfl,rfl⟩)
  go_ret
  exact ⟨rfl,rfl⟩
 run args w:=by go_simp
theorem yN (p:Ph) (a:Option Addr) (c:Nat) (w:World) (ok:mT p) (h:aP w a p.bytes):Calls prog 203 #[.agg #[.int .i64 p.bW,.slice a p.bytes.length c,.int .i64 p.eN,.int .i64 p.read]] w (vx true w):=by
 obtain ⟨L,bs,cl,rd⟩:=p
 rcases ok with ⟨hl,h2,h3,h4,h5,h6⟩ | ⟨hl,h2,h3,h4,h5⟩ | ⟨hl,h2,h3,h4,h5⟩
 ·
  obtain rfl:cl=0:=h5
  obtain rfl:rd=0:=h6
  have HC:=zH (fun w' (hi:aP w' a bs)=>fq 215 _ Mb a c bs w' hi (by have:bs.length≤512:=h3;omega))
  have hany:bs.any (fun b => !isByte b)=false:=by rw [re];show (!bs.all isByte)=false;rw [show bs.all isByte=true from h4];rfl
  rw [hany] at HC
  have g0:1≤bs.length:=h2
  have g1:(0:Int)<(bs.length:Int):=by omega
  have g2:(1:Int)≤(bs.length:Int):=by omega
  have g3:(bs.length:Int)≤512:=by have:bs.length≤512:=h3;omega
  have HL:=zH hl
  have H:=zH h
  clear h hany h4 hl h2 h3
  go_enter func203,ntmps203
  go_wp2_with fail
  refine (iX _ _ HL.out).mono ?_
  rintro e w1 ⟨rfl,rfl⟩
  go_wp2_with fail
  refine (qP _ _ _).mono ?_
  rintro e w1 ⟨rfl,rfl⟩
  simp only [g2,g3,decide_true,Bool.and_true]
  go_wp2_with fail
  refine (HC.out _ (H.out.aj (ae zR _))).mono ?_
  rintro e w' ⟨rfl,n,rfl⟩
  go_wp2
  go_ret
  exact ⟨rfl,aY (ae zR _) _⟩
 ·
  obtain rfl:bs=[]:=h2
  obtain rfl:cl=0:=h5
  have g2:1≤rd:=h3
  have g3:rd≤512:=h4
  have g4:(rd != 0)=true:=bne_iff_ne.2 (by omega)
  have HL:=zH hl
  clear h hl h3 h4
  go_enter func203,ntmps203
  go_wp2_with fail
  refine (iX _ _ HL.out).mono ?_
  rintro e w1 ⟨rfl,rfl⟩
  go_wp2_with fail
  refine (qP _ _ _).mono ?_
  rintro e w1 ⟨rfl,rfl⟩
  simp only [g2,g3,decide_true,Bool.and_true]
  go_wp2
  go_ret
  exact ⟨rfl,ae zR _⟩
 ·
  obtain rfl:L=0:=hl
  obtain rfl:bs=[]:=h2
  obtain rfl:rd=0:=h3
  have g2:1≤cl:=h4
  have g3:cl≤400:=h5
  clear h h4 h5
  go_enter func203,ntmps203
  go_wp2_with fail
  refine (qP _ _ _).mono ?_
  rintro e w1 ⟨rfl,rfl⟩
  simp only [g2,g3,decide_true,Bool.and_true]
  go_wp2
  go_ret
  exact ⟨rfl,ae zR _⟩
def DT (w:World) (e:Ending) (w':World):Prop := ∃ z:Int,e=.returned (.tuple #[.int .i64 z,.int .i64 0])∧Below w.heap.size w w'
theorem tK (b o cap:Nat) (ps:List Ph) (w:World) (h:eD w b o ps (fun _=>False)) (ok : ∀ i,i<ps.length→mT (ps.getD i Ph.none)) (hl:ps.length≤100):Calls prog 194 #[.slice (some ⟨b,o,none⟩) ps.length cap] w (DT w):=by
 have HM:=zH (fun (w':World) (p:Ph) (a:Option Addr) (c:Nat) (h1:mT p) (h2:aP w' a p.bytes)=>yN p a c w' h1 h2)
 have HO:=zH ok
 have HH:=zH h
 clear ok h
 go_enter func194,ntmps194
 go_wp2
 go_loopw [4,9] (fun z i wr => ∃ (k:Nat) (y:Int),k≤ps.length∧i=.int .i64 k∧z=.int .i64 y∧Below w.heap.size w wr) (fun _ i _=>ps.length - (intOf i).toNat)
 case atStart=>exact ⟨0,0,Nat.zero_le _,rfl,rfl,Below.refl _ _⟩
 case round =>
  obtain ⟨k,y,hk,rfl,rfl,hb⟩:=hrel
  by_cases hlt:k<ps.length
  ·
   obtain ⟨a,c,hc,hn⟩:=(HH.out.step (Step.ah (F:=fun _=>False) hb)).ph k hlt
   have hok:=zH (HO.out k hlt)
   obtain ⟨c0,c1,c2,c3,hi⟩:=hc
   have HI:=zH hi
   have HB:=zH hb
   clear hi hb hn
   generalize ps.getD k Ph.none=p at *
   have HMc:=zH (HM.out (wr.alloc (.cells #[.int .i64 p.bW,.slice a p.bytes.length c,.int .i64 p.eN,.int .i64 p.read] 281)) p a c hok.out (HI.out.aj (ae zR _)))
   have hnb:=af wr (.cells #[.int .i64 p.bW,.slice a p.bytes.length c,.int .i64 p.eN,.int .i64 p.read] 281)
   have HN:=zH hnb
   have HBB:=zH (gtr HB.out (ae (Below.refl wr.heap.size wr) (.cells #[.int .i64 p.bW,.slice a p.bytes.length c,.int .i64 p.eN,.int .i64 p.read] 281)))
   clear hnb
   go_wp2_with fail
   refine HMc.out.mono ?_
   rintro e w2 ⟨rfl,hb2⟩
   have hN2:=aa hb2 HN.out
   have d0:w2.cell? ⟨wr.heap.size,0,none⟩=some (.int .i64 p.bW):=cell_of hN2 0
   have d1:w2.cell? ⟨wr.heap.size,1,none⟩=some (.slice a p.bytes.length c):=cell_of hN2 1
   have d2:w2.cell? ⟨wr.heap.size,2,none⟩=some (.int .i64 p.eN):=cell_of hN2 2
   have d3:w2.cell? ⟨wr.heap.size,3,none⟩=some (.int .i64 p.read):=cell_of hN2 3
   have HB2:=zH (gtr HBB.out hb2)
   clear hN2 hb2 c0 c1 c2 c3 HMc HN HBB
   rcases hok.out with ⟨hL,_⟩ | ⟨hL,_⟩ | ⟨hL,_⟩
   case inr.inr =>
    rw [hL] at d0
    clear hL
    go_wp2
    go_roundw
    case rel=>exact ⟨k+1,_,by omega,by go_num,rfl,HB2.out⟩
    case measure=>simp [intOf];omega
   all_goals
    have hL0:0<p.bW:=by omega
    have HML:=zH (fun w'=>(fP p.bW w' hL).mono (fun e w'' hx=>(⟨hx.1,hx.2⟩:e=.returned (.int .i64 (many p.bW))∧w''=w')))
    clear hL
    go_wp2_with fail
    go_quiet ((go_at_call 204;exact Calls.quiet_of_same (HML.out _)))
    go_wp2
    go_roundw
    case rel=>exact ⟨k+1,_,by omega,by go_num,rfl,aY HB2.out _⟩
    case measure=>simp [intOf];omega
  ·
   obtain rfl:k=ps.length:=by omega
   have HB:=zH hb
   clear hb
   go_wp2
   go_ret2
   exact ⟨_,rfl,HB.out⟩
theorem Mv (c:Nat) (m:ag) (F:Nat→Prop) (w:World) (h:aT w c m F) (ok:m.Ok) (k0:m.ay≠0) (k1:m.ay≠1) (hw:m.whole=true) (b1:m.op.byte=1):Calls prog 209 #[.pointer (some ⟨c,0,none⟩)] w (fk c m.gl F w):=by
 obtain ⟨s,h⟩:=h.open
 have hs:=h.bU
 have c26:w.cell? ⟨c,26,none⟩=some (.int .i64 m.ay):=by rw [← hs.ay];exact cell_of h.raw 26
 have hlt:=h.raw.lt
 have g0:(m.ay == 0)=false:=zQ k0
 have g1:(m.ay == 1)=false:=zQ k1
 have hwh:=fg c s w h.raw (by rw [hs.op];exact ok.op)
 rw [hs.op,hs.ay,hs.left,hs.beyond,show (if m.op.jz=true then decide (m.ay=5)&&decide (m.left=8) else if m.op.data=0 then decide (m.ay=7) && !m.beyond else true)=m.whole from rfl,hw] at hwh
 have HW:=zH hwh
 have HH:=zH h
 have HOK:=zH ok
 clear hwh hw k0 k1 h ok hs
 go_enter func209,ntmps209
 go_upto_region 2 with (go_at_call 223;refine HW.out.mono ?_;rintro e w1 ⟨rfl,n1,rfl⟩)
 have h:=HH.out.aj (aY zR n1)
 have st:Step F F w (w.drewN n1):=Step.ah (aY zR n1)
 generalize w.drewN n1=w1 at *
 clear HH HW c26 g0 g1 hlt
 have hs:=h.bU
 have c20:w1.cell? ⟨c,20,none⟩=some (.int .i64 m.op.byte):=by rw [← hs.op];exact cell_of h.raw 20
 have c16:w1.cell? ⟨c,16,none⟩=some (.bool m.en):=by rw [← hs.en];exact cell_of h.raw 16
 have E:=zH (show m.gl=m.dB by unfold ag.gl;rw [b1];rfl)
 rw [b1] at c20
 obtain ⟨da,dc,hda,hints⟩:=(bw.cZ h.data).ints
 have hdc:m.data.length≤dc:=by
  rcases h.data.2 with ⟨e,e2⟩ | ⟨g,cap,cur,e,_,_,e4,_⟩
  ·
   have e2':m.data.length=0:=e2
   omega
  ·
   rw [hda] at e
   obtain ⟨_,rfl⟩:da=some ⟨g,0,none⟩∧dc=cap:=by simpa using e
   exact e4
 have c32:w1.cell? ⟨c,32,none⟩=some (.slice da m.data.length dc):=by rw [← hda];exact cell_of h.raw 32
 have H1:=zH h
 have ST:=zH st
 have HDA:=zH hda
 have HI:=zH hints
 clear h hs st b1 HOK hda hints
 cases hen:m.en with
 | false =>
  rw [hen] at c16
  have EP:=zH (show m.dB=m by unfold ag.dB;rw [hen];rfl)
  clear hen
  go_wp2_with fail
  go_end0
  rw [E.out,EP.out]
  exact cS H1.out ST.out
 | true =>
  rw [hen] at c16
  by_cases hl:m.data.length=2
  ·
   have EP:=zH (show m.dB={ m with bq:=bits .and .i64 (m.data.getD 0 0) 4 != 0,bk:=bits .and .i64 (m.data.getD 1 0) 2 != 0,en:=false } by unfold ag.dB;rw [if_pos ⟨hen,hl⟩])
   obtain ⟨b,off,hb,hc0⟩:=HI.out 0 (by omega)
   obtain ⟨b',off',hb',hc1⟩:=HI.out 1 (by omega)
   rw [hb] at hb'
   obtain ⟨rfl,rfl⟩:b=b'∧off=off':=by simpa using hb'
   rw [Nat.add_zero] at hc0
   rw [hb,hl] at c32
   rw [hl] at hdc
   have hbc:b≠c:=by
    rintro rfl
    obtain ⟨cur,hcur⟩:=gw H1.out.data (g:=b) (by rw [HDA.out,hb];rfl)
    have:=hcur.symm.trans H1.out.raw;simp at this
   have d32:=c32
   clear c32
   have d0:w1.cell? ⟨b,off,none⟩=some (.int .i64 (m.data.getD 0 0)):=hc0
   have d1:w1.cell? ⟨b,off+1,none⟩=some (.int .i64 (m.data.getD 1 0)):=hc1
   have r0:aV w1 c s:=H1.out.raw
   clear hc0 hc1 HI hen hl
   generalize m.data.getD 0 0=v0 at *
   generalize m.data.getD 1 0=v1 at *
   obtain ⟨p,hp⟩ : ∃ p,(bits .and .i64 v0 4 != 0)=p:=⟨_,rfl⟩
   obtain ⟨q,hq⟩ : ∃ q,(bits .and .i64 v1 2 != 0)=q:=⟨_,rfl⟩
   rw [hp,hq] at EP
   have x1:w1.cell? ⟨c,1,none⟩=some (.bool s.bq):=cell_of r0 1
   have y1:w1.frozen? ⟨c,1,none⟩=false:=aF r0 1
   have r1:aV (w1.setCell ⟨c,1,none⟩ (.bool p)) c { s with bq:=p }:=az (i:=1) (v:=.bool p) r0
   have x2:(w1.setCell ⟨c,1,none⟩ (.bool p)).cell? ⟨c,2,none⟩=some (.bool s.bk):=cell_of r1 2
   have y2:(w1.setCell ⟨c,1,none⟩ (.bool p)).frozen? ⟨c,2,none⟩=false:=aF r1 2
   have r2:aV ((w1.setCell ⟨c,1,none⟩ (.bool p)).setCell ⟨c,2,none⟩ (.bool q)) c { s with bq:=p,bk:=q }:=az (i:=2) (v:=.bool q) r1
   have x3:((w1.setCell ⟨c,1,none⟩ (.bool p)).setCell ⟨c,2,none⟩ (.bool q)).cell? ⟨c,16,none⟩=some (.bool s.en):=cell_of r2 16
   have y3:((w1.setCell ⟨c,1,none⟩ (.bool p)).setCell ⟨c,2,none⟩ (.bool q)).frozen? ⟨c,16,none⟩=false:=aF r2 16
   have r3:aV (((w1.setCell ⟨c,1,none⟩ (.bool p)).setCell ⟨c,2,none⟩ (.bool q)).setCell ⟨c,16,none⟩ (.bool false)) c { s with bq:=p,bk:=q,en:=false }:=az (i:=16) (v:=.bool false) r2
   have u1:=World.cell?_setCell_other w1 ⟨c,1,none⟩ ⟨b,off,none⟩ (.bool p) (by intro e;exact hbc (congrArg Addr.block e).symm)
   have u2:=World.cell?_setCell_other w1 ⟨c,1,none⟩ ⟨b,off+1,none⟩ (.bool p) (by intro e;exact hbc (congrArg Addr.block e).symm)
   have k1:(w1.setCell ⟨c,1,none⟩ (.bool p)).cell? ⟨c,32,none⟩=some (.slice (some ⟨b,off,none⟩) 2 dc):=(World.cell?_setCell_other _ ⟨c,1,none⟩ ⟨c,32,none⟩ _ (by simp)).trans d32
   have k2:((w1.setCell ⟨c,1,none⟩ (.bool p)).setCell ⟨c,2,none⟩ (.bool q)).cell? ⟨c,32,none⟩=some (.slice (some ⟨b,off,none⟩) 2 dc):=(World.cell?_setCell_other _ ⟨c,2,none⟩ ⟨c,32,none⟩ _ (by simp)).trans k1
   have k3:(((w1.setCell ⟨c,1,none⟩ (.bool p)).setCell ⟨c,2,none⟩ (.bool q)).setCell ⟨c,16,none⟩ (.bool false)).cell? ⟨c,32,none⟩=some (.slice (some ⟨b,off,none⟩) 2 dc):=(World.cell?_setCell_other _ ⟨c,16,none⟩ ⟨c,32,none⟩ _ (by simp)).trans k2
   have fA : ∀ (wx:World) (i j:Nat) (v x:Value),wx.cell? ⟨b,j,none⟩=some v→(wx.setCell ⟨c,i,none⟩ x).cell? ⟨b,j,none⟩=some v:=fun wx i j v x hv=>(World.cell?_setCell_other _ _ _ _ (by intro e;exact hbc (congrArg Addr.block e).symm)).trans hv
   have t:=(((Touch.refl (aN c) w1).set c 1 (.bool p) rfl).set c 2 (.bool q) rfl).set c 16 (.bool false) rfl
   have hs:=H1.out.bU
   have h2:=H1.out.block (m':={ m with bq:=p,bk:=q,en:=false }) r3 ⟨hs.cells,rfl,rfl,hs.dP,rfl,hs.aD,hs.op,hs.ay,hs.left,hs.cM,hs.addr,hs.mode,hs.cJ,hs.told,hs.now,hs.beyond,hs.once⟩ t rfl rfl rfl rfl rfl rfl
   have H2:=zH (zA (h2.aj (au zR)) ((ST.out.trans (H1.out.step t)).trans (Step.ah (au zR))))
   have FAR:=zH fA
   have K1:=zH (zA k1 (zA (fA _ 1 _ _ (.bool p) d0) (fA _ 1 _ _ (.bool p) d1)))
   have K2:=zH (zA k2 (zA (fA _ 2 _ _ (.bool q) K1.out.2.1) (fA _ 2 _ _ (.bool q) K1.out.2.2)))
   have K3:=zH (zA k3 (zA (fA _ 16 _ _ (.bool false) K2.out.2.1) (fA _ 16 _ _ (.bool false) K2.out.2.2)))
   clear fA t hs h2 r0 r1 r2 r3 k1 k2 k3 u1 u2 hb hb' hbc
   have i0:(0:Int)<2:=by decide
   go_wp2_with fail
   refine wp_region_noPanic ?_
   refine wp_region_held_drew (S:=(fun w'=>w'.cell? ⟨c,32,none⟩=some (.slice (some ⟨b,off,none⟩) 2 dc)∧w'.cell? ⟨b,off,none⟩=some (.int .i64 v0)∧w'.cell? ⟨b,off+1,none⟩=some (.int .i64 v1))) (by kernel_rfl) (by (try dsimp only);exact ⟨d32,d0,d1⟩) fun hHeld => ?_
   refine tk 0 ?_
   refine tk 1 ?_
   refine tk 2 ?_
   refine tk 3 ?_
   refine tk 4 ?_
   refine tk 5 ?_
   refine tk 6 ?_
   refine tk 7 ?_
   refine tk 8 ?_
   refine tk 9 ?_
   refine tk 10 ?_
   refine tk 11 ?_
   refine tk 12 ?_
   refine tk 13 ?_
   refine tk 14 ?_
   refine tk 15 ?_
   refine tk 16 ?_
   refine tk 17 ?_
   refine tk 18 ?_
   refine tk 19 ?_
   refine tk 20 ?_
   refine tr 21 fun K hK => ?_
   go_simp
   refine hK.out _ _ (by (try dsimp only);exact K1.out) fun hHeld => ?_
   clear hK K
   try simp only [Act.put,zS,zT,zU]
   refine tk 22 ?_
   refine tk 23 ?_
   refine tr 24 fun K hK => ?_
   go_simp
   refine hK.out _ _ (by (try dsimp only);exact K2.out) fun hHeld => ?_
   clear hK K
   try simp only [Act.put,zS,zT,zU]
   refine tk 25 ?_
   refine tk 26 ?_
   refine tk 27 ?_
   refine tr 28 fun K hK => ?_
   go_simp
   refine hK.out _ _ (by (try dsimp only);exact K3.out) fun hHeld => ?_
   clear hK K
   try simp only [Act.put,zS,zT,zU]
   refine wpAnyH_done (by kernel_rfl) ?_ _
   refine NoPanic.normal ?_
   go_wp2_with fail
   go_end0
   rw [E.out,EP.out]
   exact cS H2.out.1 H2.out.2
  ·
   have hlb:((m.data.length:Int) == 2)=false:=zQ (by omega)
   have EP:=zH (show m.dB=m by unfold ag.dB;rw [if_neg (fun e=>hl e.2)])
   clear hen hl
   go_wp2_with fail
   go_end0
   rw [E.out,EP.out]
   exact cS H1.out ST.out
theorem DD {m:ag} (ok:m.Ok):m.uS.Ok:=⟨ok.size,ok.aZ,ok.fU,ok.gE,ok.op,ok.data⟩
theorem u3 (c:Nat) (m:ag) (F:Nat→Prop) (w:World) (h:aT w c m F) (ok:m.Ok) (hsel:m.dP=true):Calls prog 197 #[.pointer (some ⟨c,0,none⟩)] w (vv 0 c m.fu F w) :=
 qx c m F w h ok hsel fun b k0 k1 hw w' h'=>Mv c m.uS F w' h' (DD ok) k0 k1 hw b
end Go.Proofs.YtcfdenckiigdaaaGreat

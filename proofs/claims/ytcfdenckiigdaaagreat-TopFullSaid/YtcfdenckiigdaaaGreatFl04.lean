/- Part 4 of the contracts. -/
import Derived.Test.YtcfdenckiigdaaaGreatFl03
set_option linter.unusedVariables false
set_option maxRecDepth 100000
set_option maxHeartbeats 4000000
namespace Go.Proofs.YtcfdenckiigdaaaGreat
open Tryz
section
open Go.RowKit
theorem CU (A:Nat) (data:List Int) (n i:Nat):ly A data (n+1) i=if (A+n) % 32=i then UInt8.ofNat ((data.getD n 0) % 256).toNat else ly A data n i:=by
 show (if ((A:Int)+n) % 32=(i:Int) then _ else _)=_
 by_cases h:(A+n) % 32=i
 ·
  rw [if_pos h,if_pos (by omega)]
 ·
  rw [if_neg h,if_neg (by omega)]
theorem F6 (x:Int):((UInt8.ofNat (x % 256).toNat).toNat:Int)=x % 256:=by
 have h1:=Int.emod_nonneg x (show (256:Int)≠0 by decide)
 have h2:=Int.emod_lt_of_pos x (show (0:Int)<256 by decide)
 have h3:(x % 256).toNat<256:=by omega
 simp only [UInt8.toNat_ofNat']
 omega
theorem EG (c:Nat) (s:Raw) (A:Nat) (da:Option Addr) (dc:Nat) (data:List Int) (w:World) (h:aV w c s) (hA:s.addr=A) (hA2:A<4096) (hd:s.data=.slice da data.length dc) (hi:aU w da data) (hn:data.length≤1099511627776):Calls prog 225 #[.pointer (some ⟨c,20,none⟩)] w (jm (lA A data) w):=by
 have c29:w.cell? ⟨c,29,none⟩=some (.int .i64 A):=by rw [← hA];exact cell_of h 29
 have c32:w.cell? ⟨c,32,none⟩=some (.slice da data.length dc):=by rw [← hd];exact cell_of h 32
 have hlt:=h.lt
 have kback:=fun (w':World) (l:List UInt8) (hl:l.length=32) (hc : ∀ j (hj:j<l.length),w'.cell? ((⟨w.heap.size,0,none⟩:Addr).add j)=some (.int .u8 (l[j].toNat:Int))) =>
  run_convert_bytes_back (P:=prog) w' 29 9 5 ⟨w.heap.size,0,none⟩ 32 l underlying29 underlying5 underlying9 hc
 have KB:=zH kback
 clear kback h hA hd
 have hmk : ∀ w,(Instr.makeSlice 29 (.int .i64 32) (.int .i64 32)).run prog w=.ok (.slice (some ⟨w.heap.size,0,none⟩) 32 32) (w.alloc (.cells (Array.replicate 32 (.int .u8 0)) 5)):=fun _=>by kernel_rfl
 go_enter func225,ntmps225
 go_wp2_with fail
 generalize hW:w.alloc _=w2
 have hb2:Below w.heap.size w w2:=by rw [← hW];exact ae zR _
 have hc2 : ∀ j,j<32 → ∃ x:Int,w2.cell? ⟨w.heap.size,j,none⟩=some (.int .u8 x):=fun j hj=>by
  rw [← hW]
  exact ⟨0,(cell_of (af w _) j).trans (by simp [hj])⟩
 have hf2 : ∀ j,w2.frozen? ⟨w.heap.size,j,none⟩=false:=fun j=>by rw [← hW];exact aF (af w _) j
 have k32:w2.cell? ⟨c,32,none⟩=some (.slice da data.length dc):=(hb2.cell (p:=⟨c,32,none⟩) hlt).trans c32
 clear hW hmk
 go_loopw [10] (fun i wr => ∃ k:Nat,i=.int .i64 k∧k≤32∧Below w.heap.size w wr∧(∀ j,j<32 → ∃ x:Int,wr.cell? ⟨w.heap.size,j,none⟩=some (.int .u8 x)∧(j<k→x=255)) ∧ ∀ j,wr.frozen? ⟨w.heap.size,j,none⟩=false) (fun i _=>32 - (intOf i).toNat)
 case atStart=>exact ⟨0,rfl,Nat.zero_le _,hb2,fun j hj=>by obtain ⟨x,hx⟩:=hc2 j hj;exact ⟨x,hx,fun h=>by omega⟩,hf2⟩
 case round =>
  obtain ⟨k,rfl,hk,hb,hc,hf⟩:=hrel
  have HC:=zH hc
  clear hc hc2 hf2 hb2 k32
  by_cases hlt32:k<32
  ·
   have hlt':(k:Int)<32:=by omega
   obtain ⟨x,d0,-⟩:=HC.out k hlt32
   have HB:=zH hb
   have HF:=zH hf
   clear hb
   go_wp2
   go_roundw
   case rel =>
    refine ⟨k+1,by go_num,by omega,lh HB.out zY _,fun j hj => ?_,fun j=>(World.frozen?_setCell _ _ _ _).trans (HF.out j)⟩
    by_cases hjk:j=k
    ·
     subst hjk
     exact ⟨255,World.cell?_setCell_same wr _ _ d0,fun _=>rfl⟩
    ·
     obtain ⟨y,hy,hy2⟩:=HC.out j hj
     exact ⟨y,(World.cell?_setCell_other _ _ _ _ (by simp;first | done | omega)).trans hy,fun h=>hy2 (by omega)⟩
   case measure=>simp [intOf];omega
  ·
   obtain rfl:k=32:=by omega
   have hc : ∀ j,j<32→wr.cell? ⟨w.heap.size,j,none⟩=some (.int .u8 (((ly A data 0 j).toNat:Nat):Int)):=fun j hj=>by
    obtain ⟨x,hx,hx2⟩:=HC.out j hj
    rw [hx,hx2 hj];rfl
   have k32:wr.cell? ⟨c,32,none⟩=some (.slice da data.length dc):=(hb.cell (p:=⟨c,32,none⟩) hlt).trans c32
   have HB:=zH hb
   have HF:=zH hf
   have HC0:=zH hc
   clear HC hb hf hc
   go_wp2
   go_loopw [22] (fun i wr => ∃ k:Nat,i=.int .i64 k∧k≤data.length∧Below w.heap.size w wr∧(∀ j,j<32→wr.cell? ⟨w.heap.size,j,none⟩=some (.int .u8 (((ly A data k j).toNat:Nat):Int))) ∧ ∀ j,wr.frozen? ⟨w.heap.size,j,none⟩=false) (fun i _=>data.length - (intOf i).toNat)
   case atStart=>exact ⟨0,rfl,Nat.zero_le _,HB.out,HC0.out,HF.out⟩
   case round =>
    obtain ⟨k,rfl,hk2,hb,hc,hf⟩:=hrel
    have HC:=zH hc
    clear hc k32 HB HF HC0
    by_cases hltk:k<data.length
    ·
     have hlt':(k:Int)<(data.length:Int):=by omega
     obtain ⟨b1,o1,rfl,g1⟩:=(hi.aj hb).at (by omega)
     have q1:=g1 k hltk
     have q29:_:=(hb.cell (p:=⟨c,29,none⟩) hlt).trans c29
     have hm:((A:Int)+(k:Int)) % 32=(((A+k) % 32:Nat):Int):=by omega
     have hm2:((A:Int)+(k:Int)).tmod 32=(((A+k) % 32:Nat):Int):=by rw [Int.tmod_eq_emod_of_nonneg (by omega)];exact hm
     have hm3:(A+k) % 32<32:=Nat.mod_lt _ (by decide)
     have d0:=HC.out ((A+k) % 32) hm3
     have HM:=zH hm
     have HB:=zH hb
     have HF:=zH hf
     have HS:=zH (fun j=>CU A data k j)
     have hm4:(((A+k) % 32:Nat):Int)<32:=by omega
     clear g1 hb hm
     generalize data.getD k 0=x at *
     generalize hrr:(A+k) % 32=rr at *
     go_wp2
     go_roundw
     case rel =>
      refine ⟨k+1,by go_num,by omega,lh HB.out zY _,fun j hj => ?_,fun j=>(World.frozen?_setCell _ _ _ _).trans (HF.out j)⟩
      rw [HS.out j]
      by_cases hjk:rr=j
      ·
       subst hjk
       rw [if_pos rfl,F6]
       exact World.cell?_setCell_same wr _ _ d0
      ·
       rw [if_neg hjk]
       exact (World.cell?_setCell_other _ _ _ _ (by simp;first | done | omega)).trans (HC.out j hj)
     case measure=>simp [intOf];omega
    ·
     obtain rfl:k=data.length:=by omega
     have hback:=KB.out wr ((List.range 32).map fun j=>ly A data data.length j) (by simp) (fun j hj=>by
      have hj':j<32:=by simpa using hj
      rw [di,Nat.zero_add,HC.out j hj']
      simp)
     rw [show ((List.range 32).map fun j=>ly A data data.length j).length=32 by simp] at hback
     have hres:(⟨((List.range 32).map fun j=>ly A data data.length j).toArray⟩:ByteArray)=lA A data :=
      back_mk _ _ _ (by simp) (fun i hi=>by simp)
     rw [hres] at hback
     clear hres HC KB
     go_wp2
     go_ret
     exact ⟨rfl,hb⟩
def Raw.EB (s:Raw):Raw:={ s with w0:=0,w1:=0,w2:=0,w3:=0,w4:=0,w5:=0,w6:=0,w7:=0 }
theorem An (s:Raw) : ∀ k,k<8 → ∃ x:Int,s.row[3+k]? = some (.int .i64 x)
 | 0,_=>⟨s.w0,rfl⟩ | 1,_=>⟨s.w1,rfl⟩ | 2,_=>⟨s.w2,rfl⟩ | 3,_=>⟨s.w3,rfl⟩ | 4,_=>⟨s.w4,rfl⟩ | 5,_=>⟨s.w5,rfl⟩ | 6,_=>⟨s.w6,rfl⟩ | 7,_=>⟨s.w7,rfl⟩
theorem DG (s:Raw) (v:Int) : ∀ k,k<8 → ∃ s':Raw,s.row.setIfInBounds (3+k) (.int .i64 v)=s'.row∧s'.EB=s.EB
 | 0,_=>⟨{ s with w0:=v },rfl,rfl⟩ | 1,_=>⟨{ s with w1:=v },rfl,rfl⟩ | 2,_=>⟨{ s with w2:=v },rfl,rfl⟩ | 3,_=>⟨{ s with w3:=v },rfl,rfl⟩
 | 4,_=>⟨{ s with w4:=v },rfl,rfl⟩ | 5,_=>⟨{ s with w5:=v },rfl,rfl⟩ | 6,_=>⟨{ s with w6:=v },rfl,rfl⟩ | 7,_=>⟨{ s with w7:=v },rfl,rfl⟩
def Bn (c d:Nat):Nat→Prop:=fun b=>b=c∨b=d
theorem E3 (c jb:Nat) (s:Raw) (w:World) (h:aV w c s) (he:s.en=false):Calls prog 224 #[.pointer (some ⟨c,0,none⟩),.pointer (some ⟨jb,0,none⟩)] w (qY c s w):=by
 have c16:w.cell? ⟨c,16,none⟩=some (.bool false):=by rw [← he];exact cell_of h 16
 have HH:=zH h
 clear h he
 go_enter func224,ntmps224
 go_wp2
 go_end0
 exact ⟨rfl,HH.out,Touch.refl _ _⟩
theorem Dk (c jb:Nat) (s:Raw) (w:World) (h:aV w c s) (he:s.en=true) (ha0:0≤s.addr) (ha1:s.addr<4096) (hp:(s.bq&&decide (s.addr<2048))=true):Calls prog 224 #[.pointer (some ⟨c,0,none⟩),.pointer (some ⟨jb,0,none⟩)] w (qY c { s with en:=false } w):=by
 have c16:w.cell? ⟨c,16,none⟩=some (.bool true):=by rw [← he];exact cell_of h 16
 have c1:w.cell? ⟨c,1,none⟩=some (.bool s.bq):=cell_of h 1
 have c29:w.cell? ⟨c,29,none⟩=some (.int .i64 s.addr):=cell_of h 29
 have HP:=zH (fun w'=>oe s.bq s.addr w' ha0 ha1)
 rw [hp] at HP
 have hf:=fun i=>aF h i
 have hfin:aV (w.setCell ⟨c,16,none⟩ (.bool false)) c { s with en:=false }:=az (i:=16) (v:=.bool false) h
 have H:=zH hfin
 clear h he hp hfin
 go_enter func224,ntmps224
 go_wp2_with fail
 go_quiet ((go_at_call 233;exact Calls.quiet_of_same (HP.out _)))
 go_wp2
 go_end0
 exact ⟨rfl,H.out,by first | exact ((Touch.refl _ w).set c 16 _ rfl).drewN _ | exact ((Touch.refl _ w).drewN _).set c 16 _ rfl⟩
theorem dM {F:Nat→Prop} {w w':World} {a:Option Addr} {xs:List Int} (h:aU w a xs) (t:Touch F w w') (hn : ∀ b o,a=some ⟨b,o,none⟩→0<xs.length → ¬ F b):aU w' a xs:=by
 intro i hi
 obtain ⟨b,off,ha,hc⟩:=h i hi
 exact ⟨b,off,ha,t.cell b (off+i) hc (hn b off ha (by omega))⟩
def Gh (c jb:Nat) (s:Raw) (j:iE) (ba0:Option Addr) (busy:List Int) (w:World) (e:Ending) (w':World):Prop :=
 e=.returned (.tuple #[]) ∧ ∃ (s':Raw) (ba:Option Addr) (bc:Nat),aV w' c s'∧s'.EB={ s with aZ:=some ⟨jb,0,none⟩,busy:=.slice ba (busy.drop 1).length bc }.EB∧aU w' ba (busy.drop 1)∧(∀ b o,ba=some ⟨b,o,none⟩→0<(busy.drop 1).length → ∃ o',ba0=some ⟨b,o',none⟩)∧(busy.drop 1).length≤bc∧(ba=none→bc=0)∧w'.heap[jb]? = some (.cells ({ j with left:=busy.headD 8 }:iE).row 192 (0,0))∧Touch (Bn c jb) w w'
theorem Ii (c jb:Nat) (s:Raw) (j:iE) (ba:Option Addr) (bc:Nat) (busy:List Int) (w:World) (h:aV w c s) (hj:w.heap[jb]? = some (.cells j.row 192 (0,0))) (he:s.en=true) (ha0:0≤s.addr) (ha1:s.addr<4096) (hp:(s.bq&&decide (s.addr<2048))=false) (hb:s.busy=.slice ba busy.length bc) (hbi:aU w ba busy) (hbn : ∀ b o,ba=some ⟨b,o,none⟩→0<busy.length→b≠c∧b≠jb) (hbc:busy.length≤bc) (hnil:ba=none→bc=0) (hsec:j.av = -1 ∨ ∃ k:Nat,j.av=k∧k<8):Calls prog 224 #[.pointer (some ⟨c,0,none⟩),.pointer (some ⟨jb,0,none⟩)] w (Gh c jb s j ba busy w):=by
 have c16:w.cell? ⟨c,16,none⟩=some (.bool true):=by rw [← he];exact cell_of h 16
 have c1:w.cell? ⟨c,1,none⟩=some (.bool s.bq):=cell_of h 1
 have c19:w.cell? ⟨c,19,none⟩=some (.slice ba busy.length bc):=by rw [← hb];exact cell_of h 19
 have c29:w.cell? ⟨c,29,none⟩=some (.int .i64 s.addr):=cell_of h 29
 have d0:w.cell? ⟨jb,0,none⟩=some (.int .i64 j.av):=cell_of hj 0
 have d3:w.cell? ⟨jb,3,none⟩=some (.int .i64 j.left):=cell_of hj 3
 have hne:jb≠c:=by
  intro e;subst e
  have:=hj.symm.trans h
  simp at this
 have hne':c≠jb:=Ne.symm hne
 have hf : ∀ i,w.frozen? ⟨c,i,none⟩=false:=fun i=>aF h i
 have hfj : ∀ i,w.frozen? ⟨jb,i,none⟩=false:=fun i=>aF hj i
 have HP:=zH (fun w'=>oe s.bq s.addr w' ha0 ha1)
 rw [hp] at HP
 clear he hp
 go_enter func224,ntmps224
 go_wp2_with fail
 go_quiet ((go_at_call 233;exact Calls.quiet_of_same (HP.out _)))
 go_upto_region 5 with (fail)
 generalize hW:World.setCell _ _ _=w2
 have h2:aV w2 c s:=by rw [← hW];exact (heap_setCell_other _ _ _ _ hne').trans h
 have hj2:w2.heap[jb]? = some (.cells ({ j with left:=8 }:iE).row 192 (0,0)):=by rw [← hW];exact az (i:=3) (v:=.int .i64 8) hj
 have t2:Touch (Bn c jb) w w2:=by rw [← hW];exact ((Touch.refl _ w).drewN _).set jb 3 _ (.inr rfl)
 clear hW c16 c1 c19 c29 d0 d3 hf hfj
 have hbn2 : ∀ b o,ba=some ⟨b,o,none⟩→0<busy.length → ¬ Bn c jb b:=fun b o e hl h=>h.elim (hbn b o e hl).1 (hbn b o e hl).2
 have hbi2:aU w2 ba busy:=dM hbi t2 hbn2
 have c19:w2.cell? ⟨c,19,none⟩=some (.slice ba busy.length bc):=by rw [← hb];exact cell_of h2 19
 cases busy with
 | nil =>
  have c19':w2.cell? ⟨c,19,none⟩=some (.slice ba 0 bc):=c19
  clear c19
  go_upto_region 8 with (fail)
  generalize hw3:w2=w3 at *
  clear hw3 c19'
  have h3:=h2
  have hj3:=hj2
  have t3:=t2
  have hbi3:aU w3 ba []:=hbi2
  have hbn3 : ∀ b o,ba=some ⟨b,o,none⟩→0<([]:List Int).length → ¬ Bn c jb b:=fun b o e hl=>by simp at hl
  have hnil3:=hnil
  have hbq:=zH hb
  have hor3 : ∀ b o,ba=some ⟨b,o,none⟩→0<(([]:List Int).drop 1).length → ∃ o',ba=some ⟨b,o',none⟩:=fun b o e hl=>⟨o,e⟩
  have hcp3:(([]:List Int).drop 1).length≤bc:=Nat.zero_le _
  clear h2 hj2 t2 hbi2 hbn2 hnil hbn hb
  have d0':w3.cell? ⟨jb,0,none⟩=some (.int .i64 j.av):=cell_of hj3 0
  have k18:w3.cell? ⟨c,18,none⟩=some (.pointer s.aZ):=cell_of h3 18
  have hf3 : ∀ i,w3.frozen? ⟨c,i,none⟩=false:=fun i=>aF h3 i
  rcases hsec with hs | ⟨k,hs,hk⟩
  ·
   rw [hs] at d0'
   have H1:aV (w3.setCell ⟨c,18,none⟩ (.pointer (some ⟨jb,0,none⟩))) c { s with aZ:=some ⟨jb,0,none⟩ }:=az (i:=18) (v:=.pointer (some ⟨jb,0,none⟩)) h3
   have T:Touch (Bn c jb) w (w3.setCell ⟨c,18,none⟩ (.pointer (some ⟨jb,0,none⟩))):=t3.set c 18 _ (.inl rfl)
   have J:(w3.setCell ⟨c,18,none⟩ (.pointer (some ⟨jb,0,none⟩))).heap[jb]? = some (.cells ({ j with left:=8 }:iE).row 192 (0,0)):=(heap_setCell_other _ _ _ _ hne).trans hj3
   have B:=dM hbi3 (Touch.set (Touch.refl (Bn c jb) w3) c 18 (.pointer (some ⟨jb,0,none⟩)) (.inl rfl)) hbn3
   have H:=zH (zA H1 (zA T (zA J B)))
   clear H1 T J B hj3 hbi3 h3 h hj hbi
   go_wp2_with fail
   go_end0
   exact ⟨rfl,_,_,_,H.out.1,by simp [Raw.EB,hbq.out],H.out.2.2.2,hor3,hcp3,hnil3,H.out.2.2.1,H.out.2.1⟩
  ·
   rw [hs] at d0'
   obtain ⟨x,hx⟩:=An s k hk
   have hk1:((k:Int) == -1)=false:=by rw [beq_eq_false_iff_ne];omega
   have hk8:(k:Int)<8:=by omega
   have ck3:w3.cell? ⟨c,3+k,none⟩=some (.int .i64 x):=(cell_of h3 (3+k)).trans hx
   have HV : ∀ v:Int,(∃ s':Raw,aV ((w3.setCell ⟨c,3+k,none⟩ (.int .i64 v)).setCell ⟨c,18,none⟩ (.pointer (some ⟨jb,0,none⟩))) c s'∧s'.EB={ s with aZ:=some ⟨jb,0,none⟩ }.EB)∧Touch (Bn c jb) w ((w3.setCell ⟨c,3+k,none⟩ (.int .i64 v)).setCell ⟨c,18,none⟩ (.pointer (some ⟨jb,0,none⟩)))∧((w3.setCell ⟨c,3+k,none⟩ (.int .i64 v)).setCell ⟨c,18,none⟩ (.pointer (some ⟨jb,0,none⟩))).heap[jb]? = some (.cells ({ j with left:=8 }:iE).row 192 (0,0))∧aU ((w3.setCell ⟨c,3+k,none⟩ (.int .i64 v)).setCell ⟨c,18,none⟩ (.pointer (some ⟨jb,0,none⟩))) (ba) _:=fun v=>by
    refine ⟨?_,(t3.set c (3+k) _ (.inl rfl)).set c 18 _ (.inl rfl),(heap_setCell_other _ _ _ _ hne).trans ((heap_setCell_other _ _ _ _ hne).trans hj3),dM hbi3 (Touch.set (Touch.set (Touch.refl (Bn c jb) w3) c (3+k) (.int .i64 v) (.inl rfl)) c 18 (.pointer (some ⟨jb,0,none⟩)) (.inl rfl)) hbn3⟩
    obtain ⟨s',e1,e2⟩:=DG s v k hk
    have r1:aV (w3.setCell ⟨c,3+k,none⟩ (.int .i64 v)) c s':=by
     have:=az (i:=3+k) (v:=.int .i64 v) h3
     rw [e1] at this
     exact this
    exact ⟨{ s' with aZ:=some ⟨jb,0,none⟩ },az (i:=18) (v:=.pointer (some ⟨jb,0,none⟩)) r1,congrArg (fun q:Raw=>{ q with aZ:=some ⟨jb,0,none⟩ }) e2⟩
   have H:=zH HV
   clear HV h3 hj3 hbi3 t3 h hj hbi hx
   go_upto_region 9 with (fail)
   go_region
   all_goals
    go_wp2_with fail
    go_end0
    refine ⟨rfl,?_⟩
    obtain ⟨⟨s',r1,r2⟩,r3,r4,r5⟩:=H.out (wrap64 (x+1))
    first
     | exact ⟨s',_,_,r1,r2.trans (by simp [Raw.EB,hbq.out]),r5,hor3,hcp3,hnil3,r4,r3⟩
     | exact ⟨s',_,_,r1,r2.trans (by simp [Raw.EB,hbq.out]),r5,hor3,hcp3,hnil3,r4,r3.drew⟩
     | exact ⟨s',_,_,r1,r2.trans (by simp [Raw.EB,hbq.out]),r5,hor3,hcp3,hnil3,r4,r3.drewN _⟩
 | cons x0 r =>
  obtain ⟨b,o,rfl,g⟩:=hbi2.at (by simp)
  have q0:w2.cell? ⟨b,o,none⟩=some (.int .i64 x0):=g 0 (by simp)
  obtain ⟨hbc1,hbj1⟩:=hbn b o rfl (by simp)
  have hlen:(x0::r).length=r.length+1:=rfl
  rw [hlen] at c19
  have hcap:r.length+1≤bc:=hbc
  have d3:w2.cell? ⟨jb,3,none⟩=some (.int .i64 8):=cell_of hj2 3
  have hfj : ∀ i,w2.frozen? ⟨jb,i,none⟩=false:=fun i=>aF hj2 i
  have hpos:(0:Int)<(r.length:Int)+1:=by omega
  go_upto_region 7 with (fail)
  generalize hW:World.setCell _ _ _=w5
  have h5:aV w5 c s:=by rw [← hW];exact (heap_setCell_other _ _ _ _ hne').trans h2
  have hj5:w5.heap[jb]? = some (.cells ({ j with left:=x0 }:iE).row 192 (0,0)):=by rw [← hW];exact az (i:=3) (v:=.int .i64 x0) hj2
  have t5:Touch (Bn c jb) w w5:=by rw [← hW];exact t2.set jb 3 _ (.inr rfl)
  have hbi5:aU w5 (some ⟨b,o,none⟩) (x0::r):=by rw [← hW];exact dM hbi2 ((Touch.refl (Bn c jb) w2).set jb 3 _ (.inr rfl)) hbn2
  clear hW c19 q0 d3 hfj h2 hj2 t2 hbi2 g
  have c19:w5.cell? ⟨c,19,none⟩=some (.slice (some ⟨b,o,none⟩) (r.length+1) bc):=by rw [← hlen,← hb];exact cell_of h5 19
  have hf5 : ∀ i,w5.frozen? ⟨c,i,none⟩=false:=fun i=>aF h5 i
  go_upto_region 8 with (fail)
  generalize hba:(if bc=1 then some (⟨b,o,none⟩:Addr) else some ⟨b,o+1,none⟩)=ba3 at *
  generalize hW:World.setCell _ _ _=w3
  have h3:aV w3 c { s with busy:=.slice ba3 r.length (bc - 1) }:=by rw [← hW];exact az (i:=19) (v:=.slice ba3 r.length (bc - 1)) h5
  have hj3:w3.heap[jb]? = some (.cells ({ j with left:=x0 }:iE).row 192 (0,0)):=by rw [← hW];exact (heap_setCell_other _ _ _ _ hne).trans hj5
  have t3:Touch (Bn c jb) w w3:=by rw [← hW];exact t5.set c 19 _ (.inl rfl)
  have hbi6:aU w3 (some ⟨b,o,none⟩) (x0::r):=by rw [← hW];exact dM hbi5 ((Touch.refl (Bn c jb) w5).set c 19 _ (.inl rfl)) hbn2
  have hba2:0<r.length→ba3=some ⟨b,o+1,none⟩:=fun hl=>by rw [← hba,if_neg (by omega)]
  have hbi3:aU w3 ba3 r:=fun i hi=>by
   obtain ⟨b',o',e1,e2⟩:=hbi6 (i+1) (by simp;omega)
   obtain ⟨rfl,rfl⟩:b=b'∧o=o':=by simpa using e1
   exact ⟨b,o+1,hba2 (by omega),by rw [show o+1+i=o+(i+1) by omega];exact e2⟩
  have hbn3 : ∀ b' o',ba3=some ⟨b',o',none⟩→0<r.length → ¬ Bn c jb b':=fun b' o' e hl h=>by
   rw [hba2 hl] at e
   obtain ⟨rfl,rfl⟩:b=b'∧o+1=o':=by simpa using e
   exact h.elim hbc1 hbj1
  have hor3 : ∀ b' o',ba3=some ⟨b',o',none⟩→0<((x0::r).drop 1).length → ∃ o2,some (⟨b,o,none⟩:Addr)=some ⟨b',o2,none⟩:=fun b' o' e hl=>by
   rw [hba2 hl] at e
   obtain ⟨rfl,rfl⟩:b=b'∧o+1=o':=by simpa using e
   exact ⟨o,rfl⟩
  have hcp3:((x0::r).drop 1).length≤bc - 1:=by simp;omega
  have hnil3:ba3=none→bc - 1=0:=fun e=>by rw [← hba] at e;split at e <;> cases e
  clear hW h5 hj5 t5 hbi5 hbi6 hba hba2 c19 hf5 hbn2 hnil hbn hb hbc1 hbj1
  have d0':w3.cell? ⟨jb,0,none⟩=some (.int .i64 j.av):=cell_of hj3 0
  have k18:w3.cell? ⟨c,18,none⟩=some (.pointer s.aZ):=cell_of h3 18
  have hf3 : ∀ i,w3.frozen? ⟨c,i,none⟩=false:=fun i=>aF h3 i
  rcases hsec with hs | ⟨k,hs,hk⟩
  ·
   rw [hs] at d0'
   have H1:aV (w3.setCell ⟨c,18,none⟩ (.pointer (some ⟨jb,0,none⟩))) c { { s with busy:=.slice ba3 r.length (bc - 1) } with aZ:=some ⟨jb,0,none⟩ }:=az (i:=18) (v:=.pointer (some ⟨jb,0,none⟩)) h3
   have T:Touch (Bn c jb) w (w3.setCell ⟨c,18,none⟩ (.pointer (some ⟨jb,0,none⟩))):=t3.set c 18 _ (.inl rfl)
   have J:(w3.setCell ⟨c,18,none⟩ (.pointer (some ⟨jb,0,none⟩))).heap[jb]? = some (.cells ({ j with left:=x0 }:iE).row 192 (0,0)):=(heap_setCell_other _ _ _ _ hne).trans hj3
   have B:=dM hbi3 (Touch.set (Touch.refl (Bn c jb) w3) c 18 (.pointer (some ⟨jb,0,none⟩)) (.inl rfl)) hbn3
   have H:=zH (zA H1 (zA T (zA J B)))
   clear H1 T J B hj3 hbi3 h3 h hj hbi
   go_wp2_with fail
   go_end0
   exact ⟨rfl,_,_,_,H.out.1,rfl,H.out.2.2.2,hor3,hcp3,hnil3,H.out.2.2.1,H.out.2.1⟩
  ·
   rw [hs] at d0'
   obtain ⟨x,hx⟩:=An { s with busy:=.slice ba3 r.length (bc - 1) } k hk
   have hk1:((k:Int) == -1)=false:=by rw [beq_eq_false_iff_ne];omega
   have hk8:(k:Int)<8:=by omega
   have ck3:w3.cell? ⟨c,3+k,none⟩=some (.int .i64 x):=(cell_of h3 (3+k)).trans hx
   have HV : ∀ v:Int,(∃ s':Raw,aV ((w3.setCell ⟨c,3+k,none⟩ (.int .i64 v)).setCell ⟨c,18,none⟩ (.pointer (some ⟨jb,0,none⟩))) c s'∧s'.EB={ { s with busy:=.slice ba3 r.length (bc - 1) } with aZ:=some ⟨jb,0,none⟩ }.EB)∧Touch (Bn c jb) w ((w3.setCell ⟨c,3+k,none⟩ (.int .i64 v)).setCell ⟨c,18,none⟩ (.pointer (some ⟨jb,0,none⟩)))∧((w3.setCell ⟨c,3+k,none⟩ (.int .i64 v)).setCell ⟨c,18,none⟩ (.pointer (some ⟨jb,0,none⟩))).heap[jb]? = some (.cells ({ j with left:=x0 }:iE).row 192 (0,0))∧aU ((w3.setCell ⟨c,3+k,none⟩ (.int .i64 v)).setCell ⟨c,18,none⟩ (.pointer (some ⟨jb,0,none⟩))) (ba3) _:=fun v=>by
    refine ⟨?_,(t3.set c (3+k) _ (.inl rfl)).set c 18 _ (.inl rfl),(heap_setCell_other _ _ _ _ hne).trans ((heap_setCell_other _ _ _ _ hne).trans hj3),dM hbi3 (Touch.set (Touch.set (Touch.refl (Bn c jb) w3) c (3+k) (.int .i64 v) (.inl rfl)) c 18 (.pointer (some ⟨jb,0,none⟩)) (.inl rfl)) hbn3⟩
    obtain ⟨s',e1,e2⟩:=DG { s with busy:=.slice ba3 r.length (bc - 1) } v k hk
    have r1:aV (w3.setCell ⟨c,3+k,none⟩ (.int .i64 v)) c s':=by
     have:=az (i:=3+k) (v:=.int .i64 v) h3
     rw [e1] at this
     exact this
    exact ⟨{ s' with aZ:=some ⟨jb,0,none⟩ },az (i:=18) (v:=.pointer (some ⟨jb,0,none⟩)) r1,congrArg (fun q:Raw=>{ q with aZ:=some ⟨jb,0,none⟩ }) e2⟩
   have H:=zH HV
   clear HV h3 hj3 hbi3 t3 h hj hbi hx
   go_upto_region 9 with (fail)
   go_region
   all_goals
    go_wp2_with fail
    go_end0
    refine ⟨rfl,?_⟩
    obtain ⟨⟨s',r1,r2⟩,r3,r4,r5⟩:=H.out (wrap64 (x+1))
    first
     | exact ⟨s',_,_,r1,r2.trans (rfl),r5,hor3,hcp3,hnil3,r4,r3⟩
     | exact ⟨s',_,_,r1,r2.trans (rfl),r5,hor3,hcp3,hnil3,r4,r3.drew⟩
     | exact ⟨s',_,_,r1,r2.trans (rfl),r5,hor3,hcp3,hnil3,r4,r3.drewN _⟩
end
end Go.Proofs.YtcfdenckiigdaaaGreat

/- Part 4 of the contracts. -/
import Derived.Test.YtcfdenckiigdaaaGreatKp03
set_option linter.unusedVariables false
set_option maxRecDepth 100000
set_option maxHeartbeats 4000000
namespace Go.Proofs.YtcfdenckiigdaaaGreat
section
open Go.RowKit
def qkO (j:Job):Prop:=(j.sector = -1 ∧ ∃ p:Nat,j.page=p∧p+32≤4096∧j.data.size=32) ∨ ∃ k:Nat,j.sector=k∧k<8
def qv1 (j:Job):Prop:=qkO j∧1≤j.left∧j.left≤4096
def jobCells (j:Job) (a m:ByteArray):ByteArray:=if j.sector = -1 then turn a j.page.toNat j.data.size (progAt m j.data) else turn a (j.sector.toNat * 512) 512 (wipeAt m)
theorem qgc (j:Job) (a m:ByteArray):(jobCells j a m).size=a.size:=by unfold jobCells turn;split <;> rw [qbr]
def qcS (s:ByteArray) (w:World) (e:Ending) (w':World):Prop:=e=.returned (.string s)∧Below w.heap.size w w'
theorem qfq (b:Nat) (j:Job) (a m:ByteArray) (w:World) (h:w.heap[b]? = some (.cells j.row 192 (0,0))) (ok:qkO j) (ha:a.size=4096) (hm:m.size≤4096):Calls Tryz.prog 64 #[.pointer (some ⟨b,0,none⟩),.string a,.string m] w (qcS (jobCells j a m) w):=by
 have d0:w.cell? ⟨b,0,none⟩=some (.int .i64 j.sector):=qaa h 0
 have d1:w.cell? ⟨b,1,none⟩=some (.int .i64 j.page):=qaa h 1
 have d2:w.cell? ⟨b,2,none⟩=some (.string j.data):=qaa h 2
 rcases ok with ⟨hs,p,hp,hp2,hd⟩ | ⟨k,hs,hk⟩
 ·
  have hr:jobCells j a m=turn a p j.data.size (progAt m j.data):=by unfold jobCells;rw [if_pos hs,hp];rfl
  rw [hr]
  rw [hs] at d0
  rw [hp] at d1
  have HP:=zH (qhA a p j.data m w.drew ha (by omega) hm)
  clear h hs hp hr hd hp2
  go_enter Tryz.func64,Tryz.ntmps64
  go_wp2_with fail
  go_region_held3 (fun w'=>w'.cell? ⟨b,1,none⟩=some (.int .i64 p)∧w'.cell? ⟨b,2,none⟩=some (.string j.data)) (first | go_keep | exact ⟨(hb3.cell (p:=⟨b,1,none⟩) (World.block_lt_of_cell? w _ d1)).trans d1,(hb3.cell (p:=⟨b,2,none⟩) (World.block_lt_of_cell? w _ d2)).trans d2⟩) (first | (go_at_call 100;(with_reducible refine HP.out.mono ?_);rintro e w3 ⟨rfl,hb3⟩))
  all_goals
   go_wp2_with fail
   go_ret
   exact ⟨rfl,gtr (qai (Below.refl _ _)) hb3⟩
 ·
  have hr:jobCells j a m=turn a (k * 512) 512 (wipeAt m):=by unfold jobCells;rw [if_neg (by omega),hs];rfl
  rw [hr]
  rw [hs] at d0
  have hne:((k:Int) == -1)=false:=by rw [beq_eq_false_iff_ne];omega
  have HP:=zH (qjH a k m w ha hk hm)
  clear h hs hr d1 d2
  go_enter Tryz.func64,Tryz.ntmps64
  go_wp2_with fail
  refine HP.out.mono ?_
  rintro e w3 ⟨rfl,hb3⟩
  go_wp2_with fail
  go_ret
  exact ⟨rfl,hb3⟩
def qds (s:Raw) (j:Option Job):Option Job:=match j with
 | none=>none
 | some j=>if j.susp then some j else if j.left - 1≤0 then none else some { j with left:=j.left - 1 }
def qbz (s:Raw) (j:Option Job):Raw:=match j with
 | none=>s
 | some j=>if j.susp then s else if j.left - 1≤0 then { s with cells:=jobCells j s.cells ⟨#[255]⟩,job:=none,en:=false } else s
def qv0 (c:Nat) (a:Option Addr):Nat→Prop:=fun b=>b=c∨a=some ⟨b,0,none⟩
def qte (c:Nat) (a:Option Addr) (s:Raw) (j:Option Job) (w:World) (e:Ending) (w':World):Prop:=e=.returned (.tuple #[])∧qas w' c s∧qel w' s.job j∧Touch (qv0 c a) w w'
theorem qqx (c:Nat) (s:Raw) (j:Option Job) (w:World) (h:qas w c s) (hj:qel w s.job j) (ok : ∀ x,j=some x→qv1 x) (hs:s.cells.size=4096):Calls Tryz.prog 231 #[.pointer (some ⟨c,0,none⟩)] w (qte c s.job (qbz s j) (qds s j) w):=by
 have HW:=zH (qec c s j w h hj)
 cases j with
 | none =>
  have e1:qbz s none=s:=rfl
  have e2:qds s none=none:=rfl
  rw [e1,e2]
  rw [show worksB none=false from rfl] at HW
  go_enter Tryz.func231,Tryz.ntmps231
  go_wp2_with (go_at_call 242;refine HW.out.mono ?_;rintro e w1 ⟨rfl,rfl⟩)
  go_end0
  exact ⟨rfl,h,hj,Touch.refl _ _⟩
 | some j =>
  cases hsu:j.susp with
  | true =>
   have e1:qbz s (some j)=s:=by simp [qbz,hsu]
   have e2:qds s (some j)=some j:=by simp [qds,hsu]
   rw [e1,e2]
   rw [show worksB (some j)=false by simp [worksB,hsu]] at HW
   go_enter Tryz.func231,Tryz.ntmps231
   go_wp2_with (go_at_call 242;refine HW.out.mono ?_;rintro e w1 ⟨rfl,rfl⟩)
   go_end0
   exact ⟨rfl,h,hj,Touch.refl _ _⟩
  | false =>
   rw [show worksB (some j)=true by simp [worksB,hsu]] at HW
   obtain ⟨jb,hjb,hb⟩:=hj
   have okj:=ok j rfl
   have hne:jb≠c:=by
    intro e;subst e
    have:=hb.symm.trans h
    simp at this
   have hne':c≠jb:=Ne.symm hne
   have c18:w.cell? ⟨c,18,none⟩=some (.pointer (some ⟨jb,0,none⟩)):=by rw [← hjb];exact qaa h 18
   have d3:w.cell? ⟨jb,3,none⟩=some (.int .i64 j.left):=qaa hb 3
   have hfj:=fun i=>qah hb i
   have hl0:=okj.2.1
   have hl1:=okj.2.2
   go_enter Tryz.func231,Tryz.ntmps231
   go_upto_region 2 with (go_at_call 242;refine HW.out.mono ?_;rintro e w1 ⟨rfl,rfl⟩)
   generalize hW:World.setCell _ _ _=w2
   have h2:qas w2 c s:=by rw [← hW];exact (heap_setCell_other _ _ _ _ hne').trans h
   have hb2:w2.heap[jb]? = some (.cells ({ j with left:=j.left - 1 }:Job).row 192 (0,0)):=by rw [← hW];exact qag (i:=3) (v:=.int .i64 (j.left - 1)) hb
   have t2:Touch (qv0 c s.job) w1 w2:=by rw [← hW];exact (Touch.refl _ _).set jb 3 _ (.inr hjb)
   clear hW h HW hb c18 d3
   have c18:w2.cell? ⟨c,18,none⟩=some (.pointer (some ⟨jb,0,none⟩)):=by rw [← hjb];exact qaa h2 18
   have d3:w2.cell? ⟨jb,3,none⟩=some (.int .i64 (j.left - 1)):=qaa hb2 3
   by_cases hle:j.left - 1≤0
   ·
    have e1:qbz s (some j)={ s with cells:=jobCells j s.cells ⟨#[255]⟩,job:=none,en:=false }:=by simp [qbz,hsu,hle]
    have e2:qds s (some j)=none:=by simp [qds,hsu,hle]
    have E1:=zH e1
    have E2:=zH e2
    have HJ:=zH (qfq jb { j with left:=j.left - 1 } s.cells ⟨#[255]⟩ w2.drew hb2 okj.1 hs (by decide))
    rw [show jobCells { j with left:=j.left - 1 } s.cells ⟨#[255]⟩=jobCells j s.cells ⟨#[255]⟩ from rfl] at HJ
    generalize jobCells j s.cells ⟨#[255]⟩=r at *
    clear e1 e2
    have c0:w2.cell? ⟨c,0,none⟩=some (.string s.cells):=qaa h2 0
    have hlt:=h2.lt
    have hf : ∀ i,w2.frozen? ⟨c,i,none⟩=false:=fun i=>qah h2 i
    go_upto_region 3 with (fail)
    go_region_with (go_at_call 64;(with_reducible refine HJ.out.mono ?_);rintro e w3 ⟨rfl,hb3⟩;have h3:=h2.later (gtr (qai (Below.refl _ _)) hb3);have c0':w3.cell? ⟨c,0,none⟩=some (.string s.cells):=qaa h3 0;have hf3 : ∀ i,w3.frozen? ⟨c,i,none⟩=false:=fun i=>qah h3 i)
    all_goals
     have H1:qas (w3.setCell ⟨c,0,none⟩ (.string r)) c { s with cells:=r }:=qag (i:=0) (v:=.string r) h3
     have H2:qas ((w3.setCell ⟨c,0,none⟩ (.string r)).setCell ⟨c,18,none⟩ (.pointer none)) c { s with cells:=r,job:=none }:=qag (i:=18) (v:=.pointer none) H1
     have H3:qas (((w3.setCell ⟨c,0,none⟩ (.string r)).setCell ⟨c,18,none⟩ (.pointer none)).setCell ⟨c,16,none⟩ (.bool false)) c { s with cells:=r,job:=none,en:=false }:=qag (i:=16) (v:=.bool false) H2
     have k18:w3.cell? ⟨c,18,none⟩=some (.pointer s.job):=qaa h3 18
     have k16:w3.cell? ⟨c,16,none⟩=some (.bool s.en):=qaa h3 16
     have T:=t2.trans ((((Touch.of_below (F:=qv0 c s.job) (gtr (qai (Below.refl _ _)) hb3)).set c 0 (.string r) (.inl rfl)).set c 18 (.pointer none) (.inl rfl)).set c 16 (.bool false) (.inl rfl))
     have H:=zH H3
     clear H1 H2 H3 c18 d3 c0 h2 hb2 t2
     go_wp2_with fail
     go_end0
     exact ⟨rfl,by rw [E1.out];exact H.out,by rw [E1.out,E2.out];exact rfl,T⟩
   ·
    have e1:qbz s (some j)=s:=by simp [qbz,hsu,hle]
    have e2:qds s (some j)=some { j with left:=j.left - 1 }:=by simp [qds,hsu,hle]
    have E1:=zH e1
    have E2:=zH e2
    have hle' : ¬ j.left - 1≤0:=hle
    clear e1 e2
    go_wp2_with fail
    go_end0
    exact ⟨rfl,by rw [E1.out];exact h2,by rw [E1.out,E2.out];exact ⟨jb,hjb,hb2⟩,by first | exact t2 | (rw [← hjb];exact t2)⟩
theorem qb8 (n:Int) (w:World):Calls Tryz.prog 97 #[.int .i64 n] w (qdR (decide (0≤n)&&decide (n<2048)) w):=by
 go_enter Tryz.func97,Tryz.ntmps97
 go_wp2
 all_goals
  go_ret
  refine ⟨?_,rfl⟩
  simp_all
  try omega
theorem qeJ (p:Bool) (n:Int) (w:World) (h0:0≤n) (h1:n<4096):Calls Tryz.prog 233 #[.bool p,.int .i64 n] w fun e w'=>e=.returned (.tuple #[.bool (p&&decide (n<2048)),.int .i64 0])∧w'=w:=by
 have HI:=zH (qb8 n w)
 rw [decide_eq_true h0] at HI
 go_enter Tryz.func233,Tryz.ntmps233
 cases p with
 | true =>
  go_wp2_with (go_at_call 97;refine HI.out.mono ?_;rintro e w1 ⟨rfl,rfl⟩)
  all_goals
   go_ret2
   exact ⟨by simp_all,rfl⟩
 | false =>
  go_wp2_with (go_at_call 97;refine HI.out.mono ?_;rintro e w1 ⟨rfl,rfl⟩)
  all_goals
   go_ret2
   exact ⟨by simp_all,rfl⟩
theorem qbm (c:Nat) (s:Raw) (w:World) (h:qas w c s) (ok:qs4 s.op):Calls Tryz.prog 223 #[.pointer (some ⟨c,20,none⟩)] w fun e w'=>e=.returned (.bool (if s.op.inn=true then decide (s.stage=5)&&decide (s.left=8) else if s.op.data=0 then decide (s.stage=7) && !s.beyond else true)) ∧ ∃ n,w'=w.drewN n:=by
 have c24:w.cell? ⟨c,24,none⟩=some (.int .i64 s.op.data):=qaa h 24
 have c25:w.cell? ⟨c,25,none⟩=some (.bool s.op.inn):=qaa h 25
 have c26:w.cell? ⟨c,26,none⟩=some (.int .i64 s.stage):=qaa h 26
 have c27:w.cell? ⟨c,27,none⟩=some (.int .i64 s.left):=qaa h 27
 have c35:w.cell? ⟨c,35,none⟩=some (.bool s.beyond):=qaa h 35
 have hd:=ok.2.2.2
 clear h ok
 cases hi:s.op.inn with
 | false =>
  clear hd
  rw [hi] at c25
  simp only [if_false,Bool.false_eq_true]
  go_enter Tryz.func223,Tryz.ntmps223
  go_wp2
  all_goals
   go_ret
   exact ⟨by simp_all,0,rfl⟩
 | true =>
  rw [hi] at c25
  have hd1:=hd hi
  rw [hd1] at c24
  have HM:=zH (fun w'=>qbH 1 w' (.inl rfl))
  rw [show many 1=8 from rfl] at HM
  simp only [if_true]
  clear hd hd1
  by_cases hst:s.stage=5
  ·
   have g:(s.stage == 5)=true:=by simp [hst]
   have HS:=zH hst
   clear hst
   go_enter Tryz.func223,Tryz.ntmps223
   go_wp2_with fail
   go_quiet ((go_at_call 204;exact Calls.quiet_of_same (HM.out _)))
   go_wp2
   go_ret
   exact ⟨by have:=HS.out;simp_all;first | done | rfl,_,rfl⟩
  ·
   have g:(s.stage == 5)=false:=beq_eq_false_iff_ne.2 hst
   have HS:=zH hst
   clear hst
   go_enter Tryz.func223,Tryz.ntmps223
   go_wp2_with fail
   go_quiet (fail)
   go_wp2
   go_ret
   exact ⟨by have:=HS.out;simp_all,_,rfl⟩
def qeD (addr:Int) (data:List Int) (n:Nat) (i:Nat):UInt8:=match n with
 | 0=>255
 | n+1=>if (addr+n) % 32=i then UInt8.ofNat ((data.getD n 0) % 256).toNat else qeD addr data n i
def pageOf (addr:Int) (data:List Int):ByteArray:=mk 32 (qeD addr data data.length)
theorem qfP (addr:Int) (data:List Int):(pageOf addr data).size=32:=qbr _ _
end
section
open Go.RowKit
theorem qnX (A:Nat) (data:List Int) (n i:Nat):qeD A data (n+1) i=if (A+n) % 32=i then UInt8.ofNat ((data.getD n 0) % 256).toNat else qeD A data n i:=by
 show (if ((A:Int)+n) % 32=(i:Int) then _ else _)=_
 by_cases h:(A+n) % 32=i
 ·
  rw [if_pos h,if_pos (by omega)]
 ·
  rw [if_neg h,if_neg (by omega)]
theorem qsW (x:Int):((UInt8.ofNat (x % 256).toNat).toNat:Int)=x % 256:=by
 have h1:=Int.emod_nonneg x (show (256:Int)≠0 by decide)
 have h2:=Int.emod_lt_of_pos x (show (0:Int)<256 by decide)
 have h3:(x % 256).toNat<256:=by omega
 simp only [UInt8.toNat_ofNat']
 omega
theorem qqt (c:Nat) (s:Raw) (A:Nat) (da:Option Addr) (dc:Nat) (data:List Int) (w:World) (h:qas w c s) (hA:s.addr=A) (hA2:A<4096) (hd:s.data=.slice da data.length dc) (hi:qal w da data) (hn:data.length≤1099511627776):Calls Tryz.prog 225 #[.pointer (some ⟨c,20,none⟩)] w (qcS (pageOf A data) w):=by
 have c29:w.cell? ⟨c,29,none⟩=some (.int .i64 A):=by rw [← hA];exact qaa h 29
 have c32:w.cell? ⟨c,32,none⟩=some (.slice da data.length dc):=by rw [← hd];exact qaa h 32
 have hlt:=h.lt
 have kback:=fun (w':World) (l:List UInt8) (hl:l.length=32) (hc : ∀ j (hj:j<l.length),w'.cell? ((⟨w.heap.size,0,none⟩:Addr).add j)=some (.int .u8 (l[j].toNat:Int))) =>
  run_convert_bytes_back (P:=Tryz.prog) w' 29 9 5 ⟨w.heap.size,0,none⟩ 32 l Tryz.underlying29 Tryz.underlying5 Tryz.underlying9 hc
 have KB:=zH kback
 clear kback h hA hd
 have hmk : ∀ w,(Instr.makeSlice 29 (.int .i64 32) (.int .i64 32)).run Tryz.prog w=.ok (.slice (some ⟨w.heap.size,0,none⟩) 32 32) (w.alloc (.cells (Array.replicate 32 (.int .u8 0)) 5)):=fun _=>by kernel_rfl
 go_enter Tryz.func225,Tryz.ntmps225
 go_wp2_with fail
 generalize hW:w.alloc _=w2
 have hb2:Below w.heap.size w w2:=by rw [← hW];exact qac (Below.refl _ _) _
 have hc2 : ∀ j,j<32 → ∃ x:Int,w2.cell? ⟨w.heap.size,j,none⟩=some (.int .u8 x):=fun j hj=>by
  rw [← hW]
  exact ⟨0,(qaa (qad w _) j).trans (by simp [hj])⟩
 have hf2 : ∀ j,w2.frozen? ⟨w.heap.size,j,none⟩=false:=fun j=>by rw [← hW];exact qah (qad w _) j
 have k32:w2.cell? ⟨c,32,none⟩=some (.slice da data.length dc):=(hb2.cell (p:=⟨c,32,none⟩) hlt).trans c32
 clear hW hmk
 go_loopw [10] (fun i wr => ∃ k:Nat,i=.int .i64 k∧k≤32∧Below w.heap.size w wr∧(∀ j,j<32 → ∃ x:Int,wr.cell? ⟨w.heap.size,j,none⟩=some (.int .u8 x)∧(j<k→x=255)) ∧ ∀ j,wr.frozen? ⟨w.heap.size,j,none⟩=false) (fun i _=>32 - (intOf i).toNat)
 case atStart=>exact ⟨0,rfl,Nat.zero_le _,hb2,fun j hj=>by obtain ⟨x,hx⟩:=hc2 j hj;exact ⟨x,hx,fun h=>by omega⟩,hf2⟩
 case round =>
  obtain ⟨k,rfl,hk,hb,hc,hf⟩:=hrel
  have HC:=zH hc
  clear hc hc2 hf2 hb2 k32
  by_cases hlt32:k<32
  ·
   have hlt':(k:Int)<32:=by omega
   obtain ⟨x,d0,-⟩:=HC.out k hlt32
   have HB:=zH hb
   have HF:=zH hf
   clear hb
   go_wp2_with fail
   go_roundw
   case rel =>
    refine ⟨k+1,by go_num,by omega,gset HB.out (Nat.le_refl _) _,fun j hj => ?_,fun j=>(World.frozen?_setCell _ _ _ _).trans (HF.out j)⟩
    by_cases hjk:j=k
    ·
     subst hjk
     exact ⟨255,World.cell?_setCell_same wr _ _ d0,fun _=>rfl⟩
    ·
     obtain ⟨y,hy,hy2⟩:=HC.out j hj
     exact ⟨y,(World.cell?_setCell_other _ _ _ _ (by simp;first | done | omega)).trans hy,fun h=>hy2 (by omega)⟩
   case measure=>simp [intOf];omega
  ·
   obtain rfl:k=32:=by omega
   have hc : ∀ j,j<32→wr.cell? ⟨w.heap.size,j,none⟩=some (.int .u8 (((qeD A data 0 j).toNat:Nat):Int)):=fun j hj=>by
    obtain ⟨x,hx,hx2⟩:=HC.out j hj
    rw [hx,hx2 hj];rfl
   have k32:wr.cell? ⟨c,32,none⟩=some (.slice da data.length dc):=(hb.cell (p:=⟨c,32,none⟩) hlt).trans c32
   have HB:=zH hb
   have HF:=zH hf
   have HC0:=zH hc
   clear HC hb hf hc
   go_wp2_with fail
   go_loopw [22] (fun i wr => ∃ k:Nat,i=.int .i64 k∧k≤data.length∧Below w.heap.size w wr∧(∀ j,j<32→wr.cell? ⟨w.heap.size,j,none⟩=some (.int .u8 (((qeD A data k j).toNat:Nat):Int))) ∧ ∀ j,wr.frozen? ⟨w.heap.size,j,none⟩=false) (fun i _=>data.length - (intOf i).toNat)
   case atStart=>exact ⟨0,rfl,Nat.zero_le _,HB.out,HC0.out,HF.out⟩
   case round =>
    obtain ⟨k,rfl,hk2,hb,hc,hf⟩:=hrel
    have HC:=zH hc
    clear hc k32 HB HF HC0
    by_cases hltk:k<data.length
    ·
     have hlt':(k:Int)<(data.length:Int):=by omega
     obtain ⟨b1,o1,rfl,g1⟩:=(hi.later hb).at (by omega)
     have q1:=g1 k hltk
     have q29:_:=(hb.cell (p:=⟨c,29,none⟩) hlt).trans c29
     have hm:((A:Int)+(k:Int)) % 32=(((A+k) % 32:Nat):Int):=by omega
     have hm2:((A:Int)+(k:Int)).tmod 32=(((A+k) % 32:Nat):Int):=by rw [Int.tmod_eq_emod_of_nonneg (by omega)];exact hm
     have hm3:(A+k) % 32<32:=Nat.mod_lt _ (by decide)
     have d0:=HC.out ((A+k) % 32) hm3
     have HM:=zH hm
     have HB:=zH hb
     have HF:=zH hf
     have HS:=zH (fun j=>qnX A data k j)
     have hm4:(((A+k) % 32:Nat):Int)<32:=by omega
     clear g1 hb hm
     generalize data.getD k 0=x at *
     generalize hrr:(A+k) % 32=rr at *
     go_wp2_with fail
     go_roundw
     case rel =>
      refine ⟨k+1,by go_num,by omega,gset HB.out (Nat.le_refl _) _,fun j hj => ?_,fun j=>(World.frozen?_setCell _ _ _ _).trans (HF.out j)⟩
      rw [HS.out j]
      by_cases hjk:rr=j
      ·
       subst hjk
       rw [if_pos rfl,qsW]
       exact World.cell?_setCell_same wr _ _ d0
      ·
       rw [if_neg hjk]
       exact (World.cell?_setCell_other _ _ _ _ (by simp;first | done | omega)).trans (HC.out j hj)
     case measure=>simp [intOf];omega
    ·
     obtain rfl:k=data.length:=by omega
     have hback:=KB.out wr ((List.range 32).map fun j=>qeD A data data.length j) (by simp) (fun j hj=>by
      have hj':j<32:=by simpa using hj
      rw [qaP,Nat.zero_add,HC.out j hj']
      simp)
     rw [show ((List.range 32).map fun j=>qeD A data data.length j).length=32 by simp] at hback
     have hres:(⟨((List.range 32).map fun j=>qeD A data data.length j).toArray⟩:ByteArray)=pageOf A data :=
      qnm _ _ _ (by simp) (fun i hi=>by simp)
     rw [hres] at hback
     clear hres HC KB
     go_wp2_with fail
     go_ret
     exact ⟨rfl,hb⟩
def Raw.noW (s:Raw):Raw:={ s with w0:=0,w1:=0,w2:=0,w3:=0,w4:=0,w5:=0,w6:=0,w7:=0 }
theorem qm6 (s:Raw) : ∀ k,k<8 → ∃ x:Int,s.row[3+k]? = some (.int .i64 x)
 | 0,_=>⟨s.w0,rfl⟩ | 1,_=>⟨s.w1,rfl⟩ | 2,_=>⟨s.w2,rfl⟩ | 3,_=>⟨s.w3,rfl⟩ | 4,_=>⟨s.w4,rfl⟩ | 5,_=>⟨s.w5,rfl⟩ | 6,_=>⟨s.w6,rfl⟩ | 7,_=>⟨s.w7,rfl⟩
theorem qpx (s:Raw) (v:Int) : ∀ k,k<8 → ∃ s':Raw,s.row.setIfInBounds (3+k) (.int .i64 v)=s'.row∧s'.noW=s.noW
 | 0,_=>⟨{ s with w0:=v },rfl,rfl⟩ | 1,_=>⟨{ s with w1:=v },rfl,rfl⟩ | 2,_=>⟨{ s with w2:=v },rfl,rfl⟩ | 3,_=>⟨{ s with w3:=v },rfl,rfl⟩
 | 4,_=>⟨{ s with w4:=v },rfl,rfl⟩ | 5,_=>⟨{ s with w5:=v },rfl,rfl⟩ | 6,_=>⟨{ s with w6:=v },rfl,rfl⟩ | 7,_=>⟨{ s with w7:=v },rfl,rfl⟩
def Two (c d:Nat):Nat→Prop:=fun b=>b=c∨b=d
theorem qqL (c jb:Nat) (s:Raw) (w:World) (h:qas w c s) (he:s.en=false):Calls Tryz.prog 224 #[.pointer (some ⟨c,0,none⟩),.pointer (some ⟨jb,0,none⟩)] w (qh5 c s w):=by
 have c16:w.cell? ⟨c,16,none⟩=some (.bool false):=by rw [← he];exact qaa h 16
 have HH:=zH h
 clear h he
 go_enter Tryz.func224,Tryz.ntmps224
 go_wp2
 go_end0
 exact ⟨rfl,HH.out,Touch.refl _ _⟩
theorem qoh (c jb:Nat) (s:Raw) (w:World) (h:qas w c s) (he:s.en=true) (ha0:0≤s.addr) (ha1:s.addr<4096) (hp:(s.prot&&decide (s.addr<2048))=true):Calls Tryz.prog 224 #[.pointer (some ⟨c,0,none⟩),.pointer (some ⟨jb,0,none⟩)] w (qh5 c { s with en:=false } w):=by
 have c16:w.cell? ⟨c,16,none⟩=some (.bool true):=by rw [← he];exact qaa h 16
 have c1:w.cell? ⟨c,1,none⟩=some (.bool s.prot):=qaa h 1
 have c29:w.cell? ⟨c,29,none⟩=some (.int .i64 s.addr):=qaa h 29
 have HP:=zH (fun w'=>qeJ s.prot s.addr w' ha0 ha1)
 rw [hp] at HP
 have hf:=fun i=>qah h i
 have hfin:qas (w.setCell ⟨c,16,none⟩ (.bool false)) c { s with en:=false }:=qag (i:=16) (v:=.bool false) h
 have H:=zH hfin
 clear h he hp hfin
 go_enter Tryz.func224,Tryz.ntmps224
 go_wp2_with fail
 go_quiet ((go_at_call 233;exact Calls.quiet_of_same (HP.out _)))
 go_wp2
 go_end0
 exact ⟨rfl,H.out,by first | exact ((Touch.refl _ w).set c 16 _ rfl).drewN _ | exact ((Touch.refl _ w).drewN _).set c 16 _ rfl⟩
theorem qaY {F:Nat→Prop} {w w':World} {a:Option Addr} {xs:List Int} (h:qal w a xs) (t:Touch F w w') (hn : ∀ b o,a=some ⟨b,o,none⟩→0<xs.length → ¬ F b):qal w' a xs:=by
 intro i hi
 obtain ⟨b,off,ha,hc⟩:=h i hi
 exact ⟨b,off,ha,t.cell b (off+i) hc (hn b off ha (by omega))⟩
def qq9 (c jb:Nat) (s:Raw) (j:Job) (ba0:Option Addr) (busy:List Int) (w:World) (e:Ending) (w':World):Prop :=
 e=.returned (.tuple #[]) ∧ ∃ (s':Raw) (ba:Option Addr) (bc:Nat),qas w' c s'∧s'.noW={ s with job:=some ⟨jb,0,none⟩,busy:=.slice ba (busy.drop 1).length bc }.noW∧qal w' ba (busy.drop 1)∧(∀ b o,ba=some ⟨b,o,none⟩→0<(busy.drop 1).length → ∃ o',ba0=some ⟨b,o',none⟩)∧(busy.drop 1).length≤bc∧(ba=none→bc=0)∧w'.heap[jb]? = some (.cells ({ j with left:=busy.headD 8 }:Job).row 192 (0,0))∧Touch (Two c jb) w w'
theorem qsJ (c jb:Nat) (s:Raw) (j:Job) (ba:Option Addr) (bc:Nat) (busy:List Int) (w:World) (h:qas w c s) (hj:w.heap[jb]? = some (.cells j.row 192 (0,0))) (he:s.en=true) (ha0:0≤s.addr) (ha1:s.addr<4096) (hp:(s.prot&&decide (s.addr<2048))=false) (hb:s.busy=.slice ba busy.length bc) (hbi:qal w ba busy) (hbn : ∀ b o,ba=some ⟨b,o,none⟩→0<busy.length→b≠c∧b≠jb) (hbc:busy.length≤bc) (hnil:ba=none→bc=0) (hsec:j.sector = -1 ∨ ∃ k:Nat,j.sector=k∧k<8):Calls Tryz.prog 224 #[.pointer (some ⟨c,0,none⟩),.pointer (some ⟨jb,0,none⟩)] w (qq9 c jb s j ba busy w):=by
 have c16:w.cell? ⟨c,16,none⟩=some (.bool true):=by rw [← he];exact qaa h 16
 have c1:w.cell? ⟨c,1,none⟩=some (.bool s.prot):=qaa h 1
 have c19:w.cell? ⟨c,19,none⟩=some (.slice ba busy.length bc):=by rw [← hb];exact qaa h 19
 have c29:w.cell? ⟨c,29,none⟩=some (.int .i64 s.addr):=qaa h 29
 have d0:w.cell? ⟨jb,0,none⟩=some (.int .i64 j.sector):=qaa hj 0
 have d3:w.cell? ⟨jb,3,none⟩=some (.int .i64 j.left):=qaa hj 3
 have hne:jb≠c:=by
  intro e;subst e
  have:=hj.symm.trans h
  simp at this
 have hne':c≠jb:=Ne.symm hne
 have hf : ∀ i,w.frozen? ⟨c,i,none⟩=false:=fun i=>qah h i
 have hfj : ∀ i,w.frozen? ⟨jb,i,none⟩=false:=fun i=>qah hj i
 have HP:=zH (fun w'=>qeJ s.prot s.addr w' ha0 ha1)
 rw [hp] at HP
 clear he hp
 go_enter Tryz.func224,Tryz.ntmps224
 go_wp2_with fail
 go_quiet ((go_at_call 233;exact Calls.quiet_of_same (HP.out _)))
 go_upto_region 5 with (fail)
 generalize hW:World.setCell _ _ _=w2
 have h2:qas w2 c s:=by rw [← hW];exact (heap_setCell_other _ _ _ _ hne').trans h
 have hj2:w2.heap[jb]? = some (.cells ({ j with left:=8 }:Job).row 192 (0,0)):=by rw [← hW];exact qag (i:=3) (v:=.int .i64 8) hj
 have t2:Touch (Two c jb) w w2:=by rw [← hW];exact ((Touch.refl _ w).drewN _).set jb 3 _ (.inr rfl)
 clear hW c16 c1 c19 c29 d0 d3 hf hfj
 have hbn2 : ∀ b o,ba=some ⟨b,o,none⟩→0<busy.length → ¬ Two c jb b:=fun b o e hl h=>h.elim (hbn b o e hl).1 (hbn b o e hl).2
 have hbi2:qal w2 ba busy:=qaY hbi t2 hbn2
 have c19:w2.cell? ⟨c,19,none⟩=some (.slice ba busy.length bc):=by rw [← hb];exact qaa h2 19
 cases busy with
 | nil =>
  have c19':w2.cell? ⟨c,19,none⟩=some (.slice ba 0 bc):=c19
  clear c19
  go_upto_region 8 with (fail)
  generalize hw3:w2=w3 at *
  clear hw3 c19'
  have h3:=h2
  have hj3:=hj2
  have t3:=t2
  have hbi3:qal w3 ba []:=hbi2
  have hbn3 : ∀ b o,ba=some ⟨b,o,none⟩→0<([]:List Int).length → ¬ Two c jb b:=fun b o e hl=>by simp at hl
  have hnil3:=hnil
  have hbq:=zH hb
  have hor3 : ∀ b o,ba=some ⟨b,o,none⟩→0<(([]:List Int).drop 1).length → ∃ o',ba=some ⟨b,o',none⟩:=fun b o e hl=>⟨o,e⟩
  have hcp3:(([]:List Int).drop 1).length≤bc:=Nat.zero_le _
  clear h2 hj2 t2 hbi2 hbn2 hnil hbn hb
  have d0':w3.cell? ⟨jb,0,none⟩=some (.int .i64 j.sector):=qaa hj3 0
  have k18:w3.cell? ⟨c,18,none⟩=some (.pointer s.job):=qaa h3 18
  have hf3 : ∀ i,w3.frozen? ⟨c,i,none⟩=false:=fun i=>qah h3 i
  rcases hsec with hs | ⟨k,hs,hk⟩
  ·
   rw [hs] at d0'
   have H1:qas (w3.setCell ⟨c,18,none⟩ (.pointer (some ⟨jb,0,none⟩))) c { s with job:=some ⟨jb,0,none⟩ }:=qag (i:=18) (v:=.pointer (some ⟨jb,0,none⟩)) h3
   have T:Touch (Two c jb) w (w3.setCell ⟨c,18,none⟩ (.pointer (some ⟨jb,0,none⟩))):=t3.set c 18 _ (.inl rfl)
   have J:(w3.setCell ⟨c,18,none⟩ (.pointer (some ⟨jb,0,none⟩))).heap[jb]? = some (.cells ({ j with left:=8 }:Job).row 192 (0,0)):=(heap_setCell_other _ _ _ _ hne).trans hj3
   have B:=qaY hbi3 (Touch.set (Touch.refl (Two c jb) w3) c 18 (.pointer (some ⟨jb,0,none⟩)) (.inl rfl)) hbn3
   have H:=zH (zA H1 (zA T (zA J B)))
   clear H1 T J B hj3 hbi3 h3 h hj hbi
   go_wp2_with fail
   go_end0
   exact ⟨rfl,_,_,_,H.out.1,by simp [Raw.noW,hbq.out],H.out.2.2.2,hor3,hcp3,hnil3,H.out.2.2.1,H.out.2.1⟩
  ·
   rw [hs] at d0'
   obtain ⟨x,hx⟩:=qm6 s k hk
   have hk1:((k:Int) == -1)=false:=by rw [beq_eq_false_iff_ne];omega
   have hk8:(k:Int)<8:=by omega
   have ck3:w3.cell? ⟨c,3+k,none⟩=some (.int .i64 x):=(qaa h3 (3+k)).trans hx
   have HV : ∀ v:Int,(∃ s':Raw,qas ((w3.setCell ⟨c,3+k,none⟩ (.int .i64 v)).setCell ⟨c,18,none⟩ (.pointer (some ⟨jb,0,none⟩))) c s'∧s'.noW={ s with job:=some ⟨jb,0,none⟩ }.noW)∧Touch (Two c jb) w ((w3.setCell ⟨c,3+k,none⟩ (.int .i64 v)).setCell ⟨c,18,none⟩ (.pointer (some ⟨jb,0,none⟩)))∧((w3.setCell ⟨c,3+k,none⟩ (.int .i64 v)).setCell ⟨c,18,none⟩ (.pointer (some ⟨jb,0,none⟩))).heap[jb]? = some (.cells ({ j with left:=8 }:Job).row 192 (0,0))∧qal ((w3.setCell ⟨c,3+k,none⟩ (.int .i64 v)).setCell ⟨c,18,none⟩ (.pointer (some ⟨jb,0,none⟩))) (ba) _:=fun v=>by
    refine ⟨?_,(t3.set c (3+k) _ (.inl rfl)).set c 18 _ (.inl rfl),(heap_setCell_other _ _ _ _ hne).trans ((heap_setCell_other _ _ _ _ hne).trans hj3),qaY hbi3 (Touch.set (Touch.set (Touch.refl (Two c jb) w3) c (3+k) (.int .i64 v) (.inl rfl)) c 18 (.pointer (some ⟨jb,0,none⟩)) (.inl rfl)) hbn3⟩
    obtain ⟨s',e1,e2⟩:=qpx s v k hk
    have r1:qas (w3.setCell ⟨c,3+k,none⟩ (.int .i64 v)) c s':=by
     have:=qag (i:=3+k) (v:=.int .i64 v) h3
     rw [e1] at this
     exact this
    exact ⟨{ s' with job:=some ⟨jb,0,none⟩ },qag (i:=18) (v:=.pointer (some ⟨jb,0,none⟩)) r1,congrArg (fun q:Raw=>{ q with job:=some ⟨jb,0,none⟩ }) e2⟩
   have H:=zH HV
   clear HV h3 hj3 hbi3 t3 h hj hbi hx
   go_upto_region 9 with (fail)
   go_region
   all_goals
    go_wp2_with fail
    go_end0
    refine ⟨rfl,?_⟩
    obtain ⟨⟨s',r1,r2⟩,r3,r4,r5⟩:=H.out (wrap64 (x+1))
    first
     | exact ⟨s',_,_,r1,r2.trans (by simp [Raw.noW,hbq.out]),r5,hor3,hcp3,hnil3,r4,r3⟩
     | exact ⟨s',_,_,r1,r2.trans (by simp [Raw.noW,hbq.out]),r5,hor3,hcp3,hnil3,r4,r3.drew⟩
     | exact ⟨s',_,_,r1,r2.trans (by simp [Raw.noW,hbq.out]),r5,hor3,hcp3,hnil3,r4,r3.drewN _⟩
 | cons x0 r =>
  obtain ⟨b,o,rfl,g⟩:=hbi2.at (by simp)
  have q0:w2.cell? ⟨b,o,none⟩=some (.int .i64 x0):=g 0 (by simp)
  obtain ⟨hbc1,hbj1⟩:=hbn b o rfl (by simp)
  have hlen:(x0::r).length=r.length+1:=rfl
  rw [hlen] at c19
  have hcap:r.length+1≤bc:=hbc
  have d3:w2.cell? ⟨jb,3,none⟩=some (.int .i64 8):=qaa hj2 3
  have hfj : ∀ i,w2.frozen? ⟨jb,i,none⟩=false:=fun i=>qah hj2 i
  have hpos:(0:Int)<(r.length:Int)+1:=by omega
  go_upto_region 7 with (fail)
  generalize hW:World.setCell _ _ _=w5
  have h5:qas w5 c s:=by rw [← hW];exact (heap_setCell_other _ _ _ _ hne').trans h2
  have hj5:w5.heap[jb]? = some (.cells ({ j with left:=x0 }:Job).row 192 (0,0)):=by rw [← hW];exact qag (i:=3) (v:=.int .i64 x0) hj2
  have t5:Touch (Two c jb) w w5:=by rw [← hW];exact t2.set jb 3 _ (.inr rfl)
  have hbi5:qal w5 (some ⟨b,o,none⟩) (x0::r):=by rw [← hW];exact qaY hbi2 ((Touch.refl (Two c jb) w2).set jb 3 _ (.inr rfl)) hbn2
  clear hW c19 q0 d3 hfj h2 hj2 t2 hbi2 g
  have c19:w5.cell? ⟨c,19,none⟩=some (.slice (some ⟨b,o,none⟩) (r.length+1) bc):=by rw [← hlen,← hb];exact qaa h5 19
  have hf5 : ∀ i,w5.frozen? ⟨c,i,none⟩=false:=fun i=>qah h5 i
  go_upto_region 8 with (fail)
  generalize hba:(if bc=1 then some (⟨b,o,none⟩:Addr) else some ⟨b,o+1,none⟩)=ba3 at *
  generalize hW:World.setCell _ _ _=w3
  have h3:qas w3 c { s with busy:=.slice ba3 r.length (bc - 1) }:=by rw [← hW];exact qag (i:=19) (v:=.slice ba3 r.length (bc - 1)) h5
  have hj3:w3.heap[jb]? = some (.cells ({ j with left:=x0 }:Job).row 192 (0,0)):=by rw [← hW];exact (heap_setCell_other _ _ _ _ hne).trans hj5
  have t3:Touch (Two c jb) w w3:=by rw [← hW];exact t5.set c 19 _ (.inl rfl)
  have hbi6:qal w3 (some ⟨b,o,none⟩) (x0::r):=by rw [← hW];exact qaY hbi5 ((Touch.refl (Two c jb) w5).set c 19 _ (.inl rfl)) hbn2
  have hba2:0<r.length→ba3=some ⟨b,o+1,none⟩:=fun hl=>by rw [← hba,if_neg (by omega)]
  have hbi3:qal w3 ba3 r:=fun i hi=>by
   obtain ⟨b',o',e1,e2⟩:=hbi6 (i+1) (by simp;omega)
   obtain ⟨rfl,rfl⟩:b=b'∧o=o':=by simpa using e1
   exact ⟨b,o+1,hba2 (by omega),by rw [show o+1+i=o+(i+1) by omega];exact e2⟩
  have hbn3 : ∀ b' o',ba3=some ⟨b',o',none⟩→0<r.length → ¬ Two c jb b':=fun b' o' e hl h=>by
   rw [hba2 hl] at e
   obtain ⟨rfl,rfl⟩:b=b'∧o+1=o':=by simpa using e
   exact h.elim hbc1 hbj1
  have hor3 : ∀ b' o',ba3=some ⟨b',o',none⟩→0<((x0::r).drop 1).length → ∃ o2,some (⟨b,o,none⟩:Addr)=some ⟨b',o2,none⟩:=fun b' o' e hl=>by
   rw [hba2 hl] at e
   obtain ⟨rfl,rfl⟩:b=b'∧o+1=o':=by simpa using e
   exact ⟨o,rfl⟩
  have hcp3:((x0::r).drop 1).length≤bc - 1:=by simp;omega
  have hnil3:ba3=none→bc - 1=0:=fun e=>by rw [← hba] at e;split at e <;> cases e
  clear hW h5 hj5 t5 hbi5 hbi6 hba hba2 c19 hf5 hbn2 hnil hbn hb hbc1 hbj1
  have d0':w3.cell? ⟨jb,0,none⟩=some (.int .i64 j.sector):=qaa hj3 0
  have k18:w3.cell? ⟨c,18,none⟩=some (.pointer s.job):=qaa h3 18
  have hf3 : ∀ i,w3.frozen? ⟨c,i,none⟩=false:=fun i=>qah h3 i
  rcases hsec with hs | ⟨k,hs,hk⟩
  ·
   rw [hs] at d0'
   have H1:qas (w3.setCell ⟨c,18,none⟩ (.pointer (some ⟨jb,0,none⟩))) c { { s with busy:=.slice ba3 r.length (bc - 1) } with job:=some ⟨jb,0,none⟩ }:=qag (i:=18) (v:=.pointer (some ⟨jb,0,none⟩)) h3
   have T:Touch (Two c jb) w (w3.setCell ⟨c,18,none⟩ (.pointer (some ⟨jb,0,none⟩))):=t3.set c 18 _ (.inl rfl)
   have J:(w3.setCell ⟨c,18,none⟩ (.pointer (some ⟨jb,0,none⟩))).heap[jb]? = some (.cells ({ j with left:=x0 }:Job).row 192 (0,0)):=(heap_setCell_other _ _ _ _ hne).trans hj3
   have B:=qaY hbi3 (Touch.set (Touch.refl (Two c jb) w3) c 18 (.pointer (some ⟨jb,0,none⟩)) (.inl rfl)) hbn3
   have H:=zH (zA H1 (zA T (zA J B)))
   clear H1 T J B hj3 hbi3 h3 h hj hbi
   go_wp2_with fail
   go_end0
   exact ⟨rfl,_,_,_,H.out.1,rfl,H.out.2.2.2,hor3,hcp3,hnil3,H.out.2.2.1,H.out.2.1⟩
  ·
   rw [hs] at d0'
   obtain ⟨x,hx⟩:=qm6 { s with busy:=.slice ba3 r.length (bc - 1) } k hk
   have hk1:((k:Int) == -1)=false:=by rw [beq_eq_false_iff_ne];omega
   have hk8:(k:Int)<8:=by omega
   have ck3:w3.cell? ⟨c,3+k,none⟩=some (.int .i64 x):=(qaa h3 (3+k)).trans hx
   have HV : ∀ v:Int,(∃ s':Raw,qas ((w3.setCell ⟨c,3+k,none⟩ (.int .i64 v)).setCell ⟨c,18,none⟩ (.pointer (some ⟨jb,0,none⟩))) c s'∧s'.noW={ { s with busy:=.slice ba3 r.length (bc - 1) } with job:=some ⟨jb,0,none⟩ }.noW)∧Touch (Two c jb) w ((w3.setCell ⟨c,3+k,none⟩ (.int .i64 v)).setCell ⟨c,18,none⟩ (.pointer (some ⟨jb,0,none⟩)))∧((w3.setCell ⟨c,3+k,none⟩ (.int .i64 v)).setCell ⟨c,18,none⟩ (.pointer (some ⟨jb,0,none⟩))).heap[jb]? = some (.cells ({ j with left:=x0 }:Job).row 192 (0,0))∧qal ((w3.setCell ⟨c,3+k,none⟩ (.int .i64 v)).setCell ⟨c,18,none⟩ (.pointer (some ⟨jb,0,none⟩))) (ba3) _:=fun v=>by
    refine ⟨?_,(t3.set c (3+k) _ (.inl rfl)).set c 18 _ (.inl rfl),(heap_setCell_other _ _ _ _ hne).trans ((heap_setCell_other _ _ _ _ hne).trans hj3),qaY hbi3 (Touch.set (Touch.set (Touch.refl (Two c jb) w3) c (3+k) (.int .i64 v) (.inl rfl)) c 18 (.pointer (some ⟨jb,0,none⟩)) (.inl rfl)) hbn3⟩
    obtain ⟨s',e1,e2⟩:=qpx { s with busy:=.slice ba3 r.length (bc - 1) } v k hk
    have r1:qas (w3.setCell ⟨c,3+k,none⟩ (.int .i64 v)) c s':=by
     have:=qag (i:=3+k) (v:=.int .i64 v) h3
     rw [e1] at this
     exact this
    exact ⟨{ s' with job:=some ⟨jb,0,none⟩ },qag (i:=18) (v:=.pointer (some ⟨jb,0,none⟩)) r1,congrArg (fun q:Raw=>{ q with job:=some ⟨jb,0,none⟩ }) e2⟩
   have H:=zH HV
   clear HV h3 hj3 hbi3 t3 h hj hbi hx
   go_upto_region 9 with (fail)
   go_region
   all_goals
    go_wp2_with fail
    go_end0
    refine ⟨rfl,?_⟩
    obtain ⟨⟨s',r1,r2⟩,r3,r4,r5⟩:=H.out (wrap64 (x+1))
    first
     | exact ⟨s',_,_,r1,r2.trans (rfl),r5,hor3,hcp3,hnil3,r4,r3⟩
     | exact ⟨s',_,_,r1,r2.trans (rfl),r5,hor3,hcp3,hnil3,r4,r3.drew⟩
     | exact ⟨s',_,_,r1,r2.trans (rfl),r5,hor3,hcp3,hnil3,r4,r3.drewN _⟩
end
end Go.Proofs.YtcfdenckiigdaaaGreat

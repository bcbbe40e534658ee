/- Part 2 of the contracts. -/
import Derived.Test.YtcfdenckiigdaaaGreatRd01
set_option linter.unusedVariables false
set_option maxRecDepth 100000
set_option maxHeartbeats 4000000
namespace Go.Proofs.YtcfdenckiigdaaaGreat
open Tryz Go.RowKit
def vQ (j:iC):Prop:=(j.av = -1 ∧ ∃ p:Nat,j.LP=p∧p+32≤4096∧j.data.size=32) ∨ ∃ k:Nat,j.av=k∧k<8
def Me (j:iC):Prop:=vQ j∧1≤j.left∧j.left≤4096
def cI (j:iC) (a m:ByteArray):ByteArray:=if j.av = -1 then lE a j.LP.toNat j.data.size (iF m j.data) else lE a (j.av.toNat * 512) 512 (iS m)
theorem yx (j:iC) (a m:ByteArray):(cI j a m).size=a.size:=by unfold cI lE;split <;> rw [eJ]
def jj (s:ByteArray) (w:World) (e:Ending) (w':World):Prop:=e=.returned (.string s)∧Below w.heap.size w w'
theorem oL (b:Nat) (j:iC) (a m:ByteArray) (w:World) (h:w.heap[b]? = some (.cells j.row 192 (0,0))) (ok:vQ j) (ha:a.size=4096) (hm:m.size≤4096):Calls prog 64 #[.pointer (some ⟨b,0,none⟩),.string a,.string m] w (jj (cI j a m) w):=by
 have d0:w.cell? ⟨b,0,none⟩=some (.int .i64 j.av):=cell_of h 0
 have d1:w.cell? ⟨b,1,none⟩=some (.int .i64 j.LP):=cell_of h 1
 have d2:w.cell? ⟨b,2,none⟩=some (.string j.data):=cell_of h 2
 rcases ok with ⟨hs,p,hp,hp2,hd⟩ | ⟨k,hs,hk⟩
 ·
  have hr:cI j a m=lE a p j.data.size (iF m j.data):=by unfold cI;rw [if_pos hs,hp];rfl
  rw [hr]
  rw [hs] at d0
  rw [hp] at d1
  have HP:=zH (tv a p j.data m w.drew ha (by omega) hm)
  clear h hs hp hr hd hp2
  go_enter func64,ntmps64
  go_wp2_with fail
  go_region_held3 (fun w'=>w'.cell? ⟨b,1,none⟩=some (.int .i64 p)∧w'.cell? ⟨b,2,none⟩=some (.string j.data)) (first | go_keep | exact ⟨(hb3.cell (p:=⟨b,1,none⟩) (zL w _ d1)).trans d1,(hb3.cell (p:=⟨b,2,none⟩) (zL w _ d2)).trans d2⟩) (first | (go_at_call 100;(with_reducible refine HP.out.mono ?_);rintro e w3 ⟨rfl,hb3⟩))
  all_goals
   go_wp2
   go_ret
   exact ⟨rfl,gtr (au zR) hb3⟩
 ·
  have hr:cI j a m=lE a (k * 512) 512 (iS m):=by unfold cI;rw [if_neg (by omega),hs];rfl
  rw [hr]
  rw [hs] at d0
  have hne:((k:Int) == -1)=false:=by rw [beq_eq_false_iff_ne];omega
  have HP:=zH (wU a k m w ha hk hm)
  clear h hs hr d1 d2
  go_enter func64,ntmps64
  go_wp2_with fail
  refine HP.out.mono ?_
  rintro e w3 ⟨rfl,hb3⟩
  go_wp2
  go_ret
  exact ⟨rfl,hb3⟩
def jS (s:Raw) (j:Option iC):Option iC:=match j with
 | none=>none
 | some j=>if j.ia then some j else if j.left - 1≤0 then none else some { j with left:=j.left - 1 }
def eX (s:Raw) (j:Option iC):Raw:=match j with
 | none=>s
 | some j=>if j.ia then s else if j.left - 1≤0 then { s with cells:=cI j s.cells ⟨#[255]⟩,aZ:=none,en:=false } else s
def IU (c:Nat) (a:Option Addr):Nat→Prop:=fun b=>b=c∨a=some ⟨b,0,none⟩
def IZ (c:Nat) (a:Option Addr) (s:Raw) (j:Option iC) (w:World) (e:Ending) (w':World):Prop:=e=.returned (.tuple #[])∧aV w' c s∧jW w' s.aZ j∧Touch (IU c a) w w'
theorem EV (c:Nat) (s:Raw) (j:Option iC) (w:World) (h:aV w c s) (hj:jW w s.aZ j) (ok : ∀ x,j=some x→Me x) (hs:s.cells.size=4096):Calls prog 231 #[.pointer (some ⟨c,0,none⟩)] w (IZ c s.aZ (eX s j) (jS s j) w):=by
 have HW:=zH (lU c s j w h hj)
 cases j with
 | none =>
  have e1:eX s none=s:=rfl
  have e2:jS s none=none:=rfl
  rw [e1,e2]
  rw [show eS none=false from rfl] at HW
  go_enter func231,ntmps231
  go_wp2_with (go_at_call 242;refine HW.out.mono ?_;rintro e w1 ⟨rfl,rfl⟩)
  go_end0
  exact ⟨rfl,h,hj,Touch.refl _ _⟩
 | some j =>
  cases hsu:j.ia with
  | true =>
   have e1:eX s (some j)=s:=by simp [eX,hsu]
   have e2:jS s (some j)=some j:=by simp [jS,hsu]
   rw [e1,e2]
   rw [show eS (some j)=false by simp [eS,hsu]] at HW
   go_enter func231,ntmps231
   go_wp2_with (go_at_call 242;refine HW.out.mono ?_;rintro e w1 ⟨rfl,rfl⟩)
   go_end0
   exact ⟨rfl,h,hj,Touch.refl _ _⟩
  | false =>
   rw [show eS (some j)=true by simp [eS,hsu]] at HW
   obtain ⟨jb,hjb,hb⟩:=hj
   have okj:=ok j rfl
   have hne:jb≠c:=by
    intro e;subst e
    have:=hb.symm.trans h
    simp at this
   have hne':c≠jb:=Ne.symm hne
   have c18:w.cell? ⟨c,18,none⟩=some (.pointer (some ⟨jb,0,none⟩)):=by rw [← hjb];exact cell_of h 18
   have d3:w.cell? ⟨jb,3,none⟩=some (.int .i64 j.left):=cell_of hb 3
   have hfj:=fun i=>aF hb i
   have hl0:=okj.2.1
   have hl1:=okj.2.2
   go_enter func231,ntmps231
   go_upto_region 2 with (go_at_call 242;refine HW.out.mono ?_;rintro e w1 ⟨rfl,rfl⟩)
   generalize hW:World.setCell _ _ _=w2
   have h2:aV w2 c s:=by rw [← hW];exact (heap_setCell_other _ _ _ _ hne').trans h
   have hb2:w2.heap[jb]? = some (.cells ({ j with left:=j.left - 1 }:iC).row 192 (0,0)):=by rw [← hW];exact az (i:=3) (v:=.int .i64 (j.left - 1)) hb
   have t2:Touch (IU c s.aZ) w1 w2:=by rw [← hW];exact (Touch.refl _ _).set jb 3 _ (.inr hjb)
   clear hW h HW hb c18 d3
   have c18:w2.cell? ⟨c,18,none⟩=some (.pointer (some ⟨jb,0,none⟩)):=by rw [← hjb];exact cell_of h2 18
   have d3:w2.cell? ⟨jb,3,none⟩=some (.int .i64 (j.left - 1)):=cell_of hb2 3
   by_cases hle:j.left - 1≤0
   ·
    have e1:eX s (some j)={ s with cells:=cI j s.cells ⟨#[255]⟩,aZ:=none,en:=false }:=by simp [eX,hsu,hle]
    have e2:jS s (some j)=none:=by simp [jS,hsu,hle]
    have E1:=zH e1
    have E2:=zH e2
    have HJ:=zH (oL jb { j with left:=j.left - 1 } s.cells ⟨#[255]⟩ w2.drew hb2 okj.1 hs (by decide))
    rw [show cI { j with left:=j.left - 1 } s.cells ⟨#[255]⟩=cI j s.cells ⟨#[255]⟩ from rfl] at HJ
    generalize cI j s.cells ⟨#[255]⟩=r at *
    clear e1 e2
    have c0:w2.cell? ⟨c,0,none⟩=some (.string s.cells):=cell_of h2 0
    have hlt:=h2.lt
    have hf : ∀ i,w2.frozen? ⟨c,i,none⟩=false:=fun i=>aF h2 i
    go_upto_region 3 with (fail)
    go_region_with (go_at_call 64;(with_reducible refine HJ.out.mono ?_);rintro e w3 ⟨rfl,hb3⟩;have h3:=h2.aj (gtr (au zR) hb3);have c0':w3.cell? ⟨c,0,none⟩=some (.string s.cells):=cell_of h3 0;have hf3 : ∀ i,w3.frozen? ⟨c,i,none⟩=false:=fun i=>aF h3 i)
    all_goals
     have H1:aV (w3.setCell ⟨c,0,none⟩ (.string r)) c { s with cells:=r }:=az (i:=0) (v:=.string r) h3
     have H2:aV ((w3.setCell ⟨c,0,none⟩ (.string r)).setCell ⟨c,18,none⟩ (.pointer none)) c { s with cells:=r,aZ:=none }:=az (i:=18) (v:=.pointer none) H1
     have H3:aV (((w3.setCell ⟨c,0,none⟩ (.string r)).setCell ⟨c,18,none⟩ (.pointer none)).setCell ⟨c,16,none⟩ (.bool false)) c { s with cells:=r,aZ:=none,en:=false }:=az (i:=16) (v:=.bool false) H2
     have k18:w3.cell? ⟨c,18,none⟩=some (.pointer s.aZ):=cell_of h3 18
     have k16:w3.cell? ⟨c,16,none⟩=some (.bool s.en):=cell_of h3 16
     have T:=t2.trans ((((Touch.ah (F:=IU c s.aZ) (gtr (au zR) hb3)).set c 0 (.string r) (.inl rfl)).set c 18 (.pointer none) (.inl rfl)).set c 16 (.bool false) (.inl rfl))
     have H:=zH H3
     clear H1 H2 H3 c18 d3 c0 h2 hb2 t2
     go_wp2_with fail
     go_end0
     exact ⟨rfl,by rw [E1.out];exact H.out,by rw [E1.out,E2.out];exact rfl,T⟩
   ·
    have e1:eX s (some j)=s:=by simp [eX,hsu,hle]
    have e2:jS s (some j)=some { j with left:=j.left - 1 }:=by simp [jS,hsu,hle]
    have E1:=zH e1
    have E2:=zH e2
    have hle' : ¬ j.left - 1≤0:=hle
    clear e1 e2
    go_wp2_with fail
    go_end0
    exact ⟨rfl,by rw [E1.out];exact h2,by rw [E1.out,E2.out];exact ⟨jb,hjb,hb2⟩,by first | exact t2 | (rw [← hjb];exact t2)⟩
theorem im (n:Int) (w:World):Calls prog 97 #[.int .i64 n] w (kN (decide (0≤n)&&decide (n<2048)) w):=by
 go_enter func97,ntmps97
 go_wp2
 all_goals
  go_ret
  refine ⟨?_,rfl⟩
  simp_all
  try omega
theorem nS (p:Bool) (n:Int) (w:World) (h0:0≤n) (h1:n<4096):Calls prog 233 #[.bool p,.int .i64 n] w fun e w'=>e=.returned (.tuple #[.bool (p&&decide (n<2048)),.int .i64 0])∧w'=w:=by
 have HI:=zH (im n w)
 rw [decide_eq_true h0] at HI
 go_enter func233,ntmps233
 cases p with
 | true =>
  go_wp2_with (go_at_call 97;refine HI.out.mono ?_;rintro e w1 ⟨rfl,rfl⟩)
  all_goals
   go_ret2
   exact ⟨by simp_all,rfl⟩
 | false =>
  go_wp2_with (go_at_call 97;refine HI.out.mono ?_;rintro e w1 ⟨rfl,rfl⟩)
  all_goals
   go_ret2
   exact ⟨by simp_all,rfl⟩
theorem fg (c:Nat) (s:Raw) (w:World) (h:aV w c s) (ok:AI s.op):Calls prog 223 #[.pointer (some ⟨c,20,none⟩)] w fun e w'=>e=.returned (.bool (if s.op.jz=true then decide (s.ay=5)&&decide (s.left=8) else if s.op.data=0 then decide (s.ay=7) && !s.beyond else true)) ∧ ∃ n,w'=w.drewN n:=by
 have c24:w.cell? ⟨c,24,none⟩=some (.int .i64 s.op.data):=cell_of h 24
 have c25:w.cell? ⟨c,25,none⟩=some (.bool s.op.jz):=cell_of h 25
 have c26:w.cell? ⟨c,26,none⟩=some (.int .i64 s.ay):=cell_of h 26
 have c27:w.cell? ⟨c,27,none⟩=some (.int .i64 s.left):=cell_of h 27
 have c35:w.cell? ⟨c,35,none⟩=some (.bool s.beyond):=cell_of h 35
 have hd:=ok.2.2.2
 clear h ok
 cases hi:s.op.jz with
 | false =>
  clear hd
  rw [hi] at c25
  simp only [if_false,Bool.false_eq_true]
  go_enter func223,ntmps223
  go_wp2
  all_goals
   go_ret
   exact ⟨by simp_all,0,rfl⟩
 | true =>
  rw [hi] at c25
  have hd1:=hd hi
  rw [hd1] at c24
  have HM:=zH (fun w'=>fP 1 w' (.inl rfl))
  rw [show many 1=8 from rfl] at HM
  simp only [if_true]
  clear hd hd1
  by_cases hst:s.ay=5
  ·
   have g:(s.ay == 5)=true:=by simp [hst]
   have HS:=zH hst
   clear hst
   go_enter func223,ntmps223
   go_wp2_with fail
   go_quiet ((go_at_call 204;exact Calls.quiet_of_same (HM.out _)))
   go_wp2
   go_ret
   exact ⟨by have:=HS.out;simp_all;first | done | rfl,_,rfl⟩
  ·
   have g:(s.ay == 5)=false:=zQ hst
   have HS:=zH hst
   clear hst
   go_enter func223,ntmps223
   go_wp2_with fail
   go_quiet (fail)
   go_wp2
   go_ret
   exact ⟨by have:=HS.out;simp_all,_,rfl⟩
def ly (addr:Int) (data:List Int) (n:Nat) (i:Nat):UInt8:=match n with
 | 0=>255
 | n+1=>if (addr+n) % 32=i then UInt8.ofNat ((data.getD n 0) % 256).toNat else ly addr data n i
def lz (addr:Int) (data:List Int):ByteArray:=mk 32 (ly addr data data.length)
theorem oT (addr:Int) (data:List Int):(lz addr data).size=32:=eJ _ _
theorem C0 (A:Nat) (data:List Int) (n i:Nat):ly A data (n+1) i=if (A+n) % 32=i then UInt8.ofNat ((data.getD n 0) % 256).toNat else ly A data n i:=by
 show (if ((A:Int)+n) % 32=(i:Int) then _ else _)=_
 by_cases h:(A+n) % 32=i
 ·
  rw [if_pos h,if_pos (by omega)]
 ·
  rw [if_neg h,if_neg (by omega)]
theorem Gp (x:Int):((UInt8.ofNat (x % 256).toNat).toNat:Int)=x % 256:=by
 have h1:=Int.emod_nonneg x (show (256:Int)≠0 by decide)
 have h2:=Int.emod_lt_of_pos x (show (0:Int)<256 by decide)
 have h3:(x % 256).toNat<256:=by omega
 simp only [UInt8.toNat_ofNat']
 omega
theorem EO (c:Nat) (s:Raw) (A:Nat) (da:Option Addr) (dc:Nat) (data:List Int) (w:World) (h:aV w c s) (hA:s.addr=A) (hA2:A<4096) (hd:s.data=.slice da data.length dc) (hi:aP w da data) (hn:data.length≤1099511627776):Calls prog 225 #[.pointer (some ⟨c,20,none⟩)] w (jj (lz A data) w):=by
 have c29:w.cell? ⟨c,29,none⟩=some (.int .i64 A):=by rw [← hA];exact cell_of h 29
 have c32:w.cell? ⟨c,32,none⟩=some (.slice da data.length dc):=by rw [← hd];exact cell_of h 32
 have hlt:=h.lt
 have kback:=fun (w':World) (l:List UInt8) (hl:l.length=32) (hc : ∀ j (hj:j<l.length),w'.cell? ((⟨w.heap.size,0,none⟩:Addr).add j)=some (.int .u8 (l[j].toNat:Int))) =>
  run_convert_bytes_back (P:=prog) w' 29 9 5 ⟨w.heap.size,0,none⟩ 32 l underlying29 underlying5 underlying9 hc
 have KB:=zH kback
 clear kback h hA hd
 have hmk : ∀ w,(Instr.makeSlice 29 (.int .i64 32) (.int .i64 32)).run prog w=.ok (.slice (some ⟨w.heap.size,0,none⟩) 32 32) (w.alloc (.cells (Array.replicate 32 (.int .u8 0)) 5)):=fun _=>by kernel_rfl
 go_enter func225,ntmps225
 go_wp2_with fail
 generalize hW:w.alloc _=w2
 have hb2:Below w.heap.size w w2:=by rw [← hW];exact ae zR _
 have hc2 : ∀ j,j<32 → ∃ x:Int,w2.cell? ⟨w.heap.size,j,none⟩=some (.int .u8 x):=fun j hj=>by
  rw [← hW]
  exact ⟨0,(cell_of (af w _) j).trans (by simp [hj])⟩
 have hf2 : ∀ j,w2.frozen? ⟨w.heap.size,j,none⟩=false:=fun j=>by rw [← hW];exact aF (af w _) j
 have k32:w2.cell? ⟨c,32,none⟩=some (.slice da data.length dc):=(hb2.cell (p:=⟨c,32,none⟩) hlt).trans c32
 clear hW hmk
 go_loopw [10] (fun i wr => ∃ k:Nat,i=.int .i64 k∧k≤32∧Below w.heap.size w wr∧(∀ j,j<32 → ∃ x:Int,wr.cell? ⟨w.heap.size,j,none⟩=some (.int .u8 x)∧(j<k→x=255)) ∧ ∀ j,wr.frozen? ⟨w.heap.size,j,none⟩=false) (fun i _=>32 - (intOf i).toNat)
 case atStart=>exact ⟨0,rfl,Nat.zero_le _,hb2,fun j hj=>by obtain ⟨x,hx⟩:=hc2 j hj;exact ⟨x,hx,fun h=>by omega⟩,hf2⟩
 case round =>
  obtain ⟨k,rfl,hk,hb,hc,hf⟩:=hrel
  have HC:=zH hc
  clear hc hc2 hf2 hb2 k32
  by_cases hlt32:k<32
  ·
   have hlt':(k:Int)<32:=by omega
   obtain ⟨x,d0,-⟩:=HC.out k hlt32
   have HB:=zH hb
   have HF:=zH hf
   clear hb
   go_wp2
   go_roundw
   case rel =>
    refine ⟨k+1,by go_num,by omega,lg HB.out zY _,fun j hj => ?_,fun j=>(World.frozen?_setCell _ _ _ _).trans (HF.out j)⟩
    by_cases hjk:j=k
    ·
     subst hjk
     exact ⟨255,World.cell?_setCell_same wr _ _ d0,fun _=>rfl⟩
    ·
     obtain ⟨y,hy,hy2⟩:=HC.out j hj
     exact ⟨y,(World.cell?_setCell_other _ _ _ _ (by simp;first | done | omega)).trans hy,fun h=>hy2 (by omega)⟩
   case measure=>simp [intOf];omega
  ·
   obtain rfl:k=32:=by omega
   have hc : ∀ j,j<32→wr.cell? ⟨w.heap.size,j,none⟩=some (.int .u8 (((ly A data 0 j).toNat:Nat):Int)):=fun j hj=>by
    obtain ⟨x,hx,hx2⟩:=HC.out j hj
    rw [hx,hx2 hj];rfl
   have k32:wr.cell? ⟨c,32,none⟩=some (.slice da data.length dc):=(hb.cell (p:=⟨c,32,none⟩) hlt).trans c32
   have HB:=zH hb
   have HF:=zH hf
   have HC0:=zH hc
   clear HC hb hf hc
   go_wp2
   go_loopw [22] (fun i wr => ∃ k:Nat,i=.int .i64 k∧k≤data.length∧Below w.heap.size w wr∧(∀ j,j<32→wr.cell? ⟨w.heap.size,j,none⟩=some (.int .u8 (((ly A data k j).toNat:Nat):Int))) ∧ ∀ j,wr.frozen? ⟨w.heap.size,j,none⟩=false) (fun i _=>data.length - (intOf i).toNat)
   case atStart=>exact ⟨0,rfl,Nat.zero_le _,HB.out,HC0.out,HF.out⟩
   case round =>
    obtain ⟨k,rfl,hk2,hb,hc,hf⟩:=hrel
    have HC:=zH hc
    clear hc k32 HB HF HC0
    by_cases hltk:k<data.length
    ·
     have hlt':(k:Int)<(data.length:Int):=by omega
     obtain ⟨b1,o1,rfl,g1⟩:=(hi.aj hb).at (by omega)
     have q1:=g1 k hltk
     have q29:_:=(hb.cell (p:=⟨c,29,none⟩) hlt).trans c29
     have hm:((A:Int)+(k:Int)) % 32=(((A+k) % 32:Nat):Int):=by omega
     have hm2:((A:Int)+(k:Int)).tmod 32=(((A+k) % 32:Nat):Int):=by rw [Int.tmod_eq_emod_of_nonneg (by omega)];exact hm
     have hm3:(A+k) % 32<32:=Nat.mod_lt _ (by decide)
     have d0:=HC.out ((A+k) % 32) hm3
     have HM:=zH hm
     have HB:=zH hb
     have HF:=zH hf
     have HS:=zH (fun j=>C0 A data k j)
     have hm4:(((A+k) % 32:Nat):Int)<32:=by omega
     clear g1 hb hm
     generalize data.getD k 0=x at *
     generalize hrr:(A+k) % 32=rr at *
     go_wp2
     go_roundw
     case rel =>
      refine ⟨k+1,by go_num,by omega,lg HB.out zY _,fun j hj => ?_,fun j=>(World.frozen?_setCell _ _ _ _).trans (HF.out j)⟩
      rw [HS.out j]
      by_cases hjk:rr=j
      ·
       subst hjk
       rw [if_pos rfl,Gp]
       exact World.cell?_setCell_same wr _ _ d0
      ·
       rw [if_neg hjk]
       exact (World.cell?_setCell_other _ _ _ _ (by simp;first | done | omega)).trans (HC.out j hj)
     case measure=>simp [intOf];omega
    ·
     obtain rfl:k=data.length:=by omega
     have hback:=KB.out wr ((List.range 32).map fun j=>ly A data data.length j) (by simp) (fun j hj=>by
      have hj':j<32:=by simpa using hj
      rw [dh,Nat.zero_add,HC.out j hj']
      simp)
     rw [show ((List.range 32).map fun j=>ly A data data.length j).length=32 by simp] at hback
     have hres:(⟨((List.range 32).map fun j=>ly A data data.length j).toArray⟩:ByteArray)=lz A data :=
      back_mk _ _ _ (by simp) (fun i hi=>by simp)
     rw [hres] at hback
     clear hres HC KB
     go_wp2
     go_ret
     exact ⟨rfl,hb⟩
def Raw.EJ (s:Raw):Raw:={ s with w0:=0,w1:=0,w2:=0,w3:=0,w4:=0,w5:=0,w6:=0,w7:=0 }
theorem AB (s:Raw) : ∀ k,k<8 → ∃ x:Int,s.row[3+k]? = some (.int .i64 x)
 | 0,_=>⟨s.w0,rfl⟩ | 1,_=>⟨s.w1,rfl⟩ | 2,_=>⟨s.w2,rfl⟩ | 3,_=>⟨s.w3,rfl⟩ | 4,_=>⟨s.w4,rfl⟩ | 5,_=>⟨s.w5,rfl⟩ | 6,_=>⟨s.w6,rfl⟩ | 7,_=>⟨s.w7,rfl⟩
theorem DN (s:Raw) (v:Int) : ∀ k,k<8 → ∃ s':Raw,s.row.setIfInBounds (3+k) (.int .i64 v)=s'.row∧s'.EJ=s.EJ
 | 0,_=>⟨{ s with w0:=v },rfl,rfl⟩ | 1,_=>⟨{ s with w1:=v },rfl,rfl⟩ | 2,_=>⟨{ s with w2:=v },rfl,rfl⟩ | 3,_=>⟨{ s with w3:=v },rfl,rfl⟩
 | 4,_=>⟨{ s with w4:=v },rfl,rfl⟩ | 5,_=>⟨{ s with w5:=v },rfl,rfl⟩ | 6,_=>⟨{ s with w6:=v },rfl,rfl⟩ | 7,_=>⟨{ s with w7:=v },rfl,rfl⟩
def Bz (c d:Nat):Nat→Prop:=fun b=>b=c∨b=d
theorem Fe (c jb:Nat) (s:Raw) (w:World) (h:aV w c s) (he:s.en=false):Calls prog 224 #[.pointer (some ⟨c,0,none⟩),.pointer (some ⟨jb,0,none⟩)] w (q8 c s w):=by
 have c16:w.cell? ⟨c,16,none⟩=some (.bool false):=by rw [← he];exact cell_of h 16
 have HH:=zH h
 clear h he
 go_enter func224,ntmps224
 go_wp2
 go_end0
 exact ⟨rfl,HH.out,Touch.refl _ _⟩
theorem Ds (c jb:Nat) (s:Raw) (w:World) (h:aV w c s) (he:s.en=true) (ha0:0≤s.addr) (ha1:s.addr<4096) (hp:(s.bq&&decide (s.addr<2048))=true):Calls prog 224 #[.pointer (some ⟨c,0,none⟩),.pointer (some ⟨jb,0,none⟩)] w (q8 c { s with en:=false } w):=by
 have c16:w.cell? ⟨c,16,none⟩=some (.bool true):=by rw [← he];exact cell_of h 16
 have c1:w.cell? ⟨c,1,none⟩=some (.bool s.bq):=cell_of h 1
 have c29:w.cell? ⟨c,29,none⟩=some (.int .i64 s.addr):=cell_of h 29
 have HP:=zH (fun w'=>nS s.bq s.addr w' ha0 ha1)
 rw [hp] at HP
 have hf:=fun i=>aF h i
 have hfin:aV (w.setCell ⟨c,16,none⟩ (.bool false)) c { s with en:=false }:=az (i:=16) (v:=.bool false) h
 have H:=zH hfin
 clear h he hp hfin
 go_enter func224,ntmps224
 go_wp2_with fail
 go_quiet ((go_at_call 233;exact Calls.quiet_of_same (HP.out _)))
 go_wp2
 go_end0
 exact ⟨rfl,H.out,by first | exact ((Touch.refl _ w).set c 16 _ rfl).drewN _ | exact ((Touch.refl _ w).drewN _).set c 16 _ rfl⟩
theorem dr {F:Nat→Prop} {w w':World} {a:Option Addr} {xs:List Int} (h:aP w a xs) (t:Touch F w w') (hn : ∀ b o,a=some ⟨b,o,none⟩→0<xs.length → ¬ F b):aP w' a xs:=by
 intro i hi
 obtain ⟨b,off,ha,hc⟩:=h i hi
 exact ⟨b,off,ha,t.cell b (off+i) hc (hn b off ha (by omega))⟩
def GB (c jb:Nat) (s:Raw) (j:iC) (ba0:Option Addr) (busy:List Int) (w:World) (e:Ending) (w':World):Prop :=
 e=.returned (.tuple #[]) ∧ ∃ (s':Raw) (ba:Option Addr) (bc:Nat),aV w' c s'∧s'.EJ={ s with aZ:=some ⟨jb,0,none⟩,busy:=.slice ba (busy.drop 1).length bc }.EJ∧aP w' ba (busy.drop 1)∧(∀ b o,ba=some ⟨b,o,none⟩→0<(busy.drop 1).length → ∃ o',ba0=some ⟨b,o',none⟩)∧(busy.drop 1).length≤bc∧(ba=none→bc=0)∧w'.heap[jb]? = some (.cells ({ j with left:=busy.headD 8 }:iC).row 192 (0,0))∧Touch (Bz c jb) w w'
theorem Iy (c jb:Nat) (s:Raw) (j:iC) (ba:Option Addr) (bc:Nat) (busy:List Int) (w:World) (h:aV w c s) (hj:w.heap[jb]? = some (.cells j.row 192 (0,0))) (he:s.en=true) (ha0:0≤s.addr) (ha1:s.addr<4096) (hp:(s.bq&&decide (s.addr<2048))=false) (hb:s.busy=.slice ba busy.length bc) (hbi:aP w ba busy) (hbn : ∀ b o,ba=some ⟨b,o,none⟩→0<busy.length→b≠c∧b≠jb) (hbc:busy.length≤bc) (hnil:ba=none→bc=0) (hsec:j.av = -1 ∨ ∃ k:Nat,j.av=k∧k<8):Calls prog 224 #[.pointer (some ⟨c,0,none⟩),.pointer (some ⟨jb,0,none⟩)] w (GB c jb s j ba busy w):=by
 have c16:w.cell? ⟨c,16,none⟩=some (.bool true):=by rw [← he];exact cell_of h 16
 have c1:w.cell? ⟨c,1,none⟩=some (.bool s.bq):=cell_of h 1
 have c19:w.cell? ⟨c,19,none⟩=some (.slice ba busy.length bc):=by rw [← hb];exact cell_of h 19
 have c29:w.cell? ⟨c,29,none⟩=some (.int .i64 s.addr):=cell_of h 29
 have d0:w.cell? ⟨jb,0,none⟩=some (.int .i64 j.av):=cell_of hj 0
 have d3:w.cell? ⟨jb,3,none⟩=some (.int .i64 j.left):=cell_of hj 3
 have hne:jb≠c:=by
  intro e;subst e
  have:=hj.symm.trans h
  simp at this
 have hne':c≠jb:=Ne.symm hne
 have hf : ∀ i,w.frozen? ⟨c,i,none⟩=false:=fun i=>aF h i
 have hfj : ∀ i,w.frozen? ⟨jb,i,none⟩=false:=fun i=>aF hj i
 have HP:=zH (fun w'=>nS s.bq s.addr w' ha0 ha1)
 rw [hp] at HP
 clear he hp
 go_enter func224,ntmps224
 go_wp2_with fail
 go_quiet ((go_at_call 233;exact Calls.quiet_of_same (HP.out _)))
 go_upto_region 5 with (fail)
 generalize hW:World.setCell _ _ _=w2
 have h2:aV w2 c s:=by rw [← hW];exact (heap_setCell_other _ _ _ _ hne').trans h
 have hj2:w2.heap[jb]? = some (.cells ({ j with left:=8 }:iC).row 192 (0,0)):=by rw [← hW];exact az (i:=3) (v:=.int .i64 8) hj
 have t2:Touch (Bz c jb) w w2:=by rw [← hW];exact ((Touch.refl _ w).drewN _).set jb 3 _ (.inr rfl)
 clear hW c16 c1 c19 c29 d0 d3 hf hfj
 have hbn2 : ∀ b o,ba=some ⟨b,o,none⟩→0<busy.length → ¬ Bz c jb b:=fun b o e hl h=>h.elim (hbn b o e hl).1 (hbn b o e hl).2
 have hbi2:aP w2 ba busy:=dr hbi t2 hbn2
 have c19:w2.cell? ⟨c,19,none⟩=some (.slice ba busy.length bc):=by rw [← hb];exact cell_of h2 19
 cases busy with
 | nil =>
  have c19':w2.cell? ⟨c,19,none⟩=some (.slice ba 0 bc):=c19
  clear c19
  go_upto_region 8 with (fail)
  generalize hw3:w2=w3 at *
  clear hw3 c19'
  have h3:=h2
  have hj3:=hj2
  have t3:=t2
  have hbi3:aP w3 ba []:=hbi2
  have hbn3 : ∀ b o,ba=some ⟨b,o,none⟩→0<([]:List Int).length → ¬ Bz c jb b:=fun b o e hl=>by simp at hl
  have hnil3:=hnil
  have hbq:=zH hb
  have hor3 : ∀ b o,ba=some ⟨b,o,none⟩→0<(([]:List Int).drop 1).length → ∃ o',ba=some ⟨b,o',none⟩:=fun b o e hl=>⟨o,e⟩
  have hcp3:(([]:List Int).drop 1).length≤bc:=Nat.zero_le _
  clear h2 hj2 t2 hbi2 hbn2 hnil hbn hb
  have d0':w3.cell? ⟨jb,0,none⟩=some (.int .i64 j.av):=cell_of hj3 0
  have k18:w3.cell? ⟨c,18,none⟩=some (.pointer s.aZ):=cell_of h3 18
  have hf3 : ∀ i,w3.frozen? ⟨c,i,none⟩=false:=fun i=>aF h3 i
  rcases hsec with hs | ⟨k,hs,hk⟩
  ·
   rw [hs] at d0'
   have H1:aV (w3.setCell ⟨c,18,none⟩ (.pointer (some ⟨jb,0,none⟩))) c { s with aZ:=some ⟨jb,0,none⟩ }:=az (i:=18) (v:=.pointer (some ⟨jb,0,none⟩)) h3
   have T:Touch (Bz c jb) w (w3.setCell ⟨c,18,none⟩ (.pointer (some ⟨jb,0,none⟩))):=t3.set c 18 _ (.inl rfl)
   have J:(w3.setCell ⟨c,18,none⟩ (.pointer (some ⟨jb,0,none⟩))).heap[jb]? = some (.cells ({ j with left:=8 }:iC).row 192 (0,0)):=(heap_setCell_other _ _ _ _ hne).trans hj3
   have B:=dr hbi3 (Touch.set (Touch.refl (Bz c jb) w3) c 18 (.pointer (some ⟨jb,0,none⟩)) (.inl rfl)) hbn3
   have H:=zH (zA H1 (zA T (zA J B)))
   clear H1 T J B hj3 hbi3 h3 h hj hbi
   go_wp2_with fail
   go_end0
   exact ⟨rfl,_,_,_,H.out.1,by simp [Raw.EJ,hbq.out],H.out.2.2.2,hor3,hcp3,hnil3,H.out.2.2.1,H.out.2.1⟩
  ·
   rw [hs] at d0'
   obtain ⟨x,hx⟩:=AB s k hk
   have hk1:((k:Int) == -1)=false:=by rw [beq_eq_false_iff_ne];omega
   have hk8:(k:Int)<8:=by omega
   have ck3:w3.cell? ⟨c,3+k,none⟩=some (.int .i64 x):=(cell_of h3 (3+k)).trans hx
   have HV : ∀ v:Int,(∃ s':Raw,aV ((w3.setCell ⟨c,3+k,none⟩ (.int .i64 v)).setCell ⟨c,18,none⟩ (.pointer (some ⟨jb,0,none⟩))) c s'∧s'.EJ={ s with aZ:=some ⟨jb,0,none⟩ }.EJ)∧Touch (Bz c jb) w ((w3.setCell ⟨c,3+k,none⟩ (.int .i64 v)).setCell ⟨c,18,none⟩ (.pointer (some ⟨jb,0,none⟩)))∧((w3.setCell ⟨c,3+k,none⟩ (.int .i64 v)).setCell ⟨c,18,none⟩ (.pointer (some ⟨jb,0,none⟩))).heap[jb]? = some (.cells ({ j with left:=8 }:iC).row 192 (0,0))∧aP ((w3.setCell ⟨c,3+k,none⟩ (.int .i64 v)).setCell ⟨c,18,none⟩ (.pointer (some ⟨jb,0,none⟩))) (ba) _:=fun v=>by
    refine ⟨?_,(t3.set c (3+k) _ (.inl rfl)).set c 18 _ (.inl rfl),(heap_setCell_other _ _ _ _ hne).trans ((heap_setCell_other _ _ _ _ hne).trans hj3),dr hbi3 (Touch.set (Touch.set (Touch.refl (Bz c jb) w3) c (3+k) (.int .i64 v) (.inl rfl)) c 18 (.pointer (some ⟨jb,0,none⟩)) (.inl rfl)) hbn3⟩
    obtain ⟨s',e1,e2⟩:=DN s v k hk
    have r1:aV (w3.setCell ⟨c,3+k,none⟩ (.int .i64 v)) c s':=by
     have:=az (i:=3+k) (v:=.int .i64 v) h3
     rw [e1] at this
     exact this
    exact ⟨{ s' with aZ:=some ⟨jb,0,none⟩ },az (i:=18) (v:=.pointer (some ⟨jb,0,none⟩)) r1,congrArg (fun q:Raw=>{ q with aZ:=some ⟨jb,0,none⟩ }) e2⟩
   have H:=zH HV
   clear HV h3 hj3 hbi3 t3 h hj hbi hx
   go_upto_region 9 with (fail)
   go_region
   all_goals
    go_wp2_with fail
    go_end0
    refine ⟨rfl,?_⟩
    obtain ⟨⟨s',r1,r2⟩,r3,r4,r5⟩:=H.out (wrap64 (x+1))
    first
     | exact ⟨s',_,_,r1,r2.trans (by simp [Raw.EJ,hbq.out]),r5,hor3,hcp3,hnil3,r4,r3⟩
     | exact ⟨s',_,_,r1,r2.trans (by simp [Raw.EJ,hbq.out]),r5,hor3,hcp3,hnil3,r4,r3.drew⟩
     | exact ⟨s',_,_,r1,r2.trans (by simp [Raw.EJ,hbq.out]),r5,hor3,hcp3,hnil3,r4,r3.drewN _⟩
 | cons x0 r =>
  obtain ⟨b,o,rfl,g⟩:=hbi2.at (by simp)
  have q0:w2.cell? ⟨b,o,none⟩=some (.int .i64 x0):=g 0 (by simp)
  obtain ⟨hbc1,hbj1⟩:=hbn b o rfl (by simp)
  have hlen:(x0::r).length=r.length+1:=rfl
  rw [hlen] at c19
  have hcap:r.length+1≤bc:=hbc
  have d3:w2.cell? ⟨jb,3,none⟩=some (.int .i64 8):=cell_of hj2 3
  have hfj : ∀ i,w2.frozen? ⟨jb,i,none⟩=false:=fun i=>aF hj2 i
  have hpos:(0:Int)<(r.length:Int)+1:=by omega
  go_upto_region 7 with (fail)
  generalize hW:World.setCell _ _ _=w5
  have h5:aV w5 c s:=by rw [← hW];exact (heap_setCell_other _ _ _ _ hne').trans h2
  have hj5:w5.heap[jb]? = some (.cells ({ j with left:=x0 }:iC).row 192 (0,0)):=by rw [← hW];exact az (i:=3) (v:=.int .i64 x0) hj2
  have t5:Touch (Bz c jb) w w5:=by rw [← hW];exact t2.set jb 3 _ (.inr rfl)
  have hbi5:aP w5 (some ⟨b,o,none⟩) (x0::r):=by rw [← hW];exact dr hbi2 ((Touch.refl (Bz c jb) w2).set jb 3 _ (.inr rfl)) hbn2
  clear hW c19 q0 d3 hfj h2 hj2 t2 hbi2 g
  have c19:w5.cell? ⟨c,19,none⟩=some (.slice (some ⟨b,o,none⟩) (r.length+1) bc):=by rw [← hlen,← hb];exact cell_of h5 19
  have hf5 : ∀ i,w5.frozen? ⟨c,i,none⟩=false:=fun i=>aF h5 i
  go_upto_region 8 with (fail)
  generalize hba:(if bc=1 then some (⟨b,o,none⟩:Addr) else some ⟨b,o+1,none⟩)=ba3 at *
  generalize hW:World.setCell _ _ _=w3
  have h3:aV w3 c { s with busy:=.slice ba3 r.length (bc - 1) }:=by rw [← hW];exact az (i:=19) (v:=.slice ba3 r.length (bc - 1)) h5
  have hj3:w3.heap[jb]? = some (.cells ({ j with left:=x0 }:iC).row 192 (0,0)):=by rw [← hW];exact (heap_setCell_other _ _ _ _ hne).trans hj5
  have t3:Touch (Bz c jb) w w3:=by rw [← hW];exact t5.set c 19 _ (.inl rfl)
  have hbi6:aP w3 (some ⟨b,o,none⟩) (x0::r):=by rw [← hW];exact dr hbi5 ((Touch.refl (Bz c jb) w5).set c 19 _ (.inl rfl)) hbn2
  have hba2:0<r.length→ba3=some ⟨b,o+1,none⟩:=fun hl=>by rw [← hba,if_neg (by omega)]
  have hbi3:aP w3 ba3 r:=fun i hi=>by
   obtain ⟨b',o',e1,e2⟩:=hbi6 (i+1) (by simp;omega)
   obtain ⟨rfl,rfl⟩:b=b'∧o=o':=by simpa using e1
   exact ⟨b,o+1,hba2 (by omega),by rw [show o+1+i=o+(i+1) by omega];exact e2⟩
  have hbn3 : ∀ b' o',ba3=some ⟨b',o',none⟩→0<r.length → ¬ Bz c jb b':=fun b' o' e hl h=>by
   rw [hba2 hl] at e
   obtain ⟨rfl,rfl⟩:b=b'∧o+1=o':=by simpa using e
   exact h.elim hbc1 hbj1
  have hor3 : ∀ b' o',ba3=some ⟨b',o',none⟩→0<((x0::r).drop 1).length → ∃ o2,some (⟨b,o,none⟩:Addr)=some ⟨b',o2,none⟩:=fun b' o' e hl=>by
   rw [hba2 hl] at e
   obtain ⟨rfl,rfl⟩:b=b'∧o+1=o':=by simpa using e
   exact ⟨o,rfl⟩
  have hcp3:((x0::r).drop 1).length≤bc - 1:=by simp;omega
  have hnil3:ba3=none→bc - 1=0:=fun e=>by rw [← hba] at e;split at e <;> cases e
  clear hW h5 hj5 t5 hbi5 hbi6 hba hba2 c19 hf5 hbn2 hnil hbn hb hbc1 hbj1
  have d0':w3.cell? ⟨jb,0,none⟩=some (.int .i64 j.av):=cell_of hj3 0
  have k18:w3.cell? ⟨c,18,none⟩=some (.pointer s.aZ):=cell_of h3 18
  have hf3 : ∀ i,w3.frozen? ⟨c,i,none⟩=false:=fun i=>aF h3 i
  rcases hsec with hs | ⟨k,hs,hk⟩
  ·
   rw [hs] at d0'
   have H1:aV (w3.setCell ⟨c,18,none⟩ (.pointer (some ⟨jb,0,none⟩))) c { { s with busy:=.slice ba3 r.length (bc - 1) } with aZ:=some ⟨jb,0,none⟩ }:=az (i:=18) (v:=.pointer (some ⟨jb,0,none⟩)) h3
   have T:Touch (Bz c jb) w (w3.setCell ⟨c,18,none⟩ (.pointer (some ⟨jb,0,none⟩))):=t3.set c 18 _ (.inl rfl)
   have J:(w3.setCell ⟨c,18,none⟩ (.pointer (some ⟨jb,0,none⟩))).heap[jb]? = some (.cells ({ j with left:=x0 }:iC).row 192 (0,0)):=(heap_setCell_other _ _ _ _ hne).trans hj3
   have B:=dr hbi3 (Touch.set (Touch.refl (Bz c jb) w3) c 18 (.pointer (some ⟨jb,0,none⟩)) (.inl rfl)) hbn3
   have H:=zH (zA H1 (zA T (zA J B)))
   clear H1 T J B hj3 hbi3 h3 h hj hbi
   go_wp2_with fail
   go_end0
   exact ⟨rfl,_,_,_,H.out.1,rfl,H.out.2.2.2,hor3,hcp3,hnil3,H.out.2.2.1,H.out.2.1⟩
  ·
   rw [hs] at d0'
   obtain ⟨x,hx⟩:=AB { s with busy:=.slice ba3 r.length (bc - 1) } k hk
   have hk1:((k:Int) == -1)=false:=by rw [beq_eq_false_iff_ne];omega
   have hk8:(k:Int)<8:=by omega
   have ck3:w3.cell? ⟨c,3+k,none⟩=some (.int .i64 x):=(cell_of h3 (3+k)).trans hx
   have HV : ∀ v:Int,(∃ s':Raw,aV ((w3.setCell ⟨c,3+k,none⟩ (.int .i64 v)).setCell ⟨c,18,none⟩ (.pointer (some ⟨jb,0,none⟩))) c s'∧s'.EJ={ { s with busy:=.slice ba3 r.length (bc - 1) } with aZ:=some ⟨jb,0,none⟩ }.EJ)∧Touch (Bz c jb) w ((w3.setCell ⟨c,3+k,none⟩ (.int .i64 v)).setCell ⟨c,18,none⟩ (.pointer (some ⟨jb,0,none⟩)))∧((w3.setCell ⟨c,3+k,none⟩ (.int .i64 v)).setCell ⟨c,18,none⟩ (.pointer (some ⟨jb,0,none⟩))).heap[jb]? = some (.cells ({ j with left:=x0 }:iC).row 192 (0,0))∧aP ((w3.setCell ⟨c,3+k,none⟩ (.int .i64 v)).setCell ⟨c,18,none⟩ (.pointer (some ⟨jb,0,none⟩))) (ba3) _:=fun v=>by
    refine ⟨?_,(t3.set c (3+k) _ (.inl rfl)).set c 18 _ (.inl rfl),(heap_setCell_other _ _ _ _ hne).trans ((heap_setCell_other _ _ _ _ hne).trans hj3),dr hbi3 (Touch.set (Touch.set (Touch.refl (Bz c jb) w3) c (3+k) (.int .i64 v) (.inl rfl)) c 18 (.pointer (some ⟨jb,0,none⟩)) (.inl rfl)) hbn3⟩
    obtain ⟨s',e1,e2⟩:=DN { s with busy:=.slice ba3 r.length (bc - 1) } v k hk
    have r1:aV (w3.setCell ⟨c,3+k,none⟩ (.int .i64 v)) c s':=by
     have:=az (i:=3+k) (v:=.int .i64 v) h3
     rw [e1] at this
     exact this
    exact ⟨{ s' with aZ:=some ⟨jb,0,none⟩ },az (i:=18) (v:=.pointer (some ⟨jb,0,none⟩)) r1,congrArg (fun q:Raw=>{ q with aZ:=some ⟨jb,0,none⟩ }) e2⟩
   have H:=zH HV
   clear HV h3 hj3 hbi3 t3 h hj hbi hx
   go_upto_region 9 with (fail)
   go_region
   all_goals
    go_wp2_with fail
    go_end0
    refine ⟨rfl,?_⟩
    obtain ⟨⟨s',r1,r2⟩,r3,r4,r5⟩:=H.out (wrap64 (x+1))
    first
     | exact ⟨s',_,_,r1,r2.trans (rfl),r5,hor3,hcp3,hnil3,r4,r3⟩
     | exact ⟨s',_,_,r1,r2.trans (rfl),r5,hor3,hcp3,hnil3,r4,r3.drew⟩
     | exact ⟨s',_,_,r1,r2.trans (rfl),r5,hor3,hcp3,hnil3,r4,r3.drewN _⟩
structure ag where
 cells:ByteArray
 bq:Bool
 bk:Bool
 dP:Bool
 en:Bool
 aD:Bool
 aZ:Option iC
 busy:List Int
 op:gD
 ay:Int
 left:Int
 cM:Int
 addr:Int
 mode:Int
 cJ:Bool
 data:List Int
 told:Int
 now:Int
 beyond:Bool
 home:Nat
def bn:ByteArray:=⟨#[83,70,68,80,6,1,0,255,0,16,0,0,0,2,0,0,32,0,0,0,255,255,255,255,255,255,255,255,255,255,255,255]⟩
structure pW (s:Raw) (m:ag):Prop where
 cells:s.cells=m.cells
 bq:s.bq=m.bq
 bk:s.bk=m.bk
 dP:s.dP=m.dP
 en:s.en=m.en
 aD:s.aD=m.aD
 op:s.op=m.op
 ay:s.ay=m.ay
 left:s.left=m.left
 cM:s.cM=m.cM
 addr:s.addr=m.addr
 mode:s.mode=m.mode
 cJ:s.cJ=m.cJ
 told:s.told=m.told
 now:s.now=m.now
 beyond:s.beyond=m.beyond
 once:(s.o0=0∧s.o1=0∧s.o2=0)∨(s.o0=1∧s.o1=0∧s.o2=0∧s.yG=bn)
structure sQ (w:World) (v:Value) (busy:List Int) (home:Nat) (F:Nat→Prop):Prop where
 ex : ∃ a c,v=.slice a busy.length c∧aP w a busy∧(∀ b o,a=some ⟨b,o,none⟩→0<busy.length → ¬ F b)∧(a=none→c=0)∧busy.length≤c∧(∀ b o,a=some ⟨b,o,none⟩→0<busy.length→b=home)
structure aT (w:World) (c:Nat) (m:ag) (F:Nat→Prop):Prop where
 ex : ∃ s:Raw,aV w c s∧pW s m∧jW w s.aZ m.aZ∧sQ w s.busy m.busy m.home F∧w.ownsRow 0 3 1 s.data m.data.length (aB m.data)∧F c∧(∀ b,s.aZ=some ⟨b,0,none⟩→F b)∧(∀ g,s.data.ownBlock=some g→F g)
 lt : ∀ b,F b→b<w.heap.size
structure Step (F F':Nat→Prop) (w w':World):Prop where
 aH:Touch F w w'
 gP : ∀ b,F' b→F b∨w.heap.size≤b
theorem Step.refl (F:Nat→Prop) (w:World):Step F F w w:=⟨Touch.refl _ _,fun _ h=>.inl h⟩
theorem Step.trans {F F' F'':Nat→Prop} {a b c:World} (h:Step F F' a b) (k:Step F' F'' b c):Step F F'' a c :=
 ⟨h.aH.then k.aH h.gP,fun i hi=>(k.gP i hi).elim (h.gP i) (fun hl=>.inr (Nat.le_trans h.aH.size hl))⟩
theorem Step.dD {F:Nat→Prop} {a b:World} (h:Touch F a b):Step F F a b:=⟨h,fun _ h=>.inl h⟩
theorem aT.aj {w w':World} {c:Nat} {m:ag} {F:Nat→Prop} (h:aT w c m F) (hb:Below w.heap.size w w'):aT w' c m F:=by
 obtain ⟨⟨s,h1,h2,h3,⟨⟨a,cc,h4,h5,h6,h7,h7'⟩⟩,h8,h9,h10,h11⟩,hlt⟩:=h
 exact ⟨⟨s,h1.aj hb,h2,h3.aj hb,⟨a,cc,h4,h5.aj hb,h6,h7,h7'⟩,World.ownsRow.aj h8 hb,h9,h10,h11⟩,fun b hb'=>zV (hlt b hb') hb.size⟩
def ag.bQ (m:ag):Bool:=eS m.aZ
def ag.pass (m:ag):ag:=match m.aZ with
 | none=>m
 | some j=>if j.ia then m else if j.left - 1≤0 then { m with cells:=cI j m.cells ⟨#[255]⟩,aZ:=none,en:=false } else { m with aZ:=some { j with left:=j.left - 1 } }
structure ag.Ok (m:ag):Prop where
 size:m.cells.size=4096
 aZ : ∀ x,m.aZ=some x→Me x
 fU:0≤m.addr
 gE:m.addr<4096
 op:AI m.op
 data:m.data.length≤1099511627776
theorem gw {w:World} {v:Value} {n:Nat} {xs:List Value} (h:w.ownsRow 0 3 1 v n xs) {g:Nat} (hg:v.ownBlock=some g) : ∃ cur,w.heap[g]? = some (.cells cur 3 (0,0)):=by
 rcases h.2 with ⟨rfl,_⟩ | ⟨g',cap,cur,rfl,_,hgg,_⟩
 ·
  simp [Value.ownBlock] at hg
 ·
  obtain rfl:g'=g:=by simpa [Value.ownBlock] using hg
  exact ⟨cur,hgg⟩
theorem gy {F:Nat→Prop} {w w':World} {v:Value} {n:Nat} {xs:List Value} (h:w.ownsRow 0 3 1 v n xs) (t:Touch F w w') (hn : ∀ g,v.ownBlock=some g → ¬ F g):w'.ownsRow 0 3 1 v n xs:=by
 refine ⟨h.1,?_⟩
 rcases h.2 with h2 | ⟨g,cap,cur,hv,hb,hg,r⟩
 ·
  exact .inl h2
 ·
  exact .inr ⟨g,cap,cur,hv,hb,t.at hg (hn g (by rw [hv];rfl)),r⟩
theorem sQ.aH {F G:Nat→Prop} {w w':World} {v:Value} {busy:List Int} {home:Nat} (h:sQ w v busy home F) (t:Touch G w w') (hG : ∀ b,G b→F b):sQ w' v busy home F:=by
 obtain ⟨a,c,h1,h2,h3,h4,h5⟩:=h
 exact ⟨a,c,h1,dr h2 t (fun b o e hl hg=>h3 b o e hl (hG b hg)),h3,h4,h5⟩
theorem B8 {w:World} {c:Nat} {s:Raw} {j:Option iC} {n:Nat} {xs:List Value} (h1:aV w c s) (h3:jW w s.aZ j) (h8:w.ownsRow 0 3 1 s.data n xs) : ∀ g,s.data.ownBlock=some g → ¬ IU c s.aZ g:=by
 intro g hg hf
 obtain ⟨cur,hc⟩:=gw h8 hg
 rcases hf with rfl | hf
 ·
  have:=hc.symm.trans h1;simp at this
 ·
  cases j with
  | none=>rw [show s.aZ=none from h3] at hf;cases hf
  | some j =>
   obtain ⟨b,hb,hbj⟩:=h3
   rw [hb] at hf
   obtain rfl:b=g:=by simpa using hf
   have:=hc.symm.trans hbj;simp at this
def fk (c:Nat) (m:ag) (F:Nat→Prop) (w:World) (e:Ending) (w':World):Prop:=e=.returned (.tuple #[]) ∧ ∃ F',aT w' c m F'∧Step F F' w w'
theorem wO (c:Nat) (m:ag) (F:Nat→Prop) (w:World) (h:aT w c m F) (ok:m.Ok):Calls prog 231 #[.pointer (some ⟨c,0,none⟩)] w (fk c m.pass F w):=by
 obtain ⟨⟨s,h1,h2,h3,h4,h8,h9,h10,h11⟩,hlt⟩:=h
 refine (EV c s m.aZ w h1 h3 ok.aZ (by rw [h2.cells];exact ok.size)).mono ?_
 rintro e w' ⟨rfl,g1,g3,t⟩
 have hFF : ∀ b,IU c s.aZ b→F b:=fun b hb=>hb.elim (fun e=>by rw [e];exact h9) (fun e=>h10 b e)
 refine ⟨rfl,F,⟨⟨eX s m.aZ,g1,?_,?_,?_,?_,h9,?_,?_⟩,fun b hb=>zV (hlt b hb) t.size⟩,Step.dD (t.mono hFF)⟩
 ·
  unfold eX ag.pass
  cases hj:m.aZ with
  | none=>exact h2
  | some j =>
   simp only
   split
   ·
    exact h2
   ·
    split
    ·
     exact ⟨by simp only [h2.cells],h2.bq,h2.bk,h2.dP,rfl,h2.aD,h2.op,h2.ay,h2.left,h2.cM,h2.addr,h2.mode,h2.cJ,h2.told,h2.now,h2.beyond,h2.once⟩
    ·
     exact ⟨h2.cells,h2.bq,h2.bk,h2.dP,h2.en,h2.aD,h2.op,h2.ay,h2.left,h2.cM,h2.addr,h2.mode,h2.cJ,h2.told,h2.now,h2.beyond,h2.once⟩
 ·
  have e:m.pass.aZ=jS s m.aZ:=by
   unfold jS ag.pass
   cases hj:m.aZ with
   | none=>exact hj
   | some j =>
    simp only
    split
    ·
     exact hj
    ·
     split <;> rfl
  rw [e];exact g3
 ·
  have e1:m.pass.busy=m.busy:=by unfold ag.pass;cases m.aZ with | none=>rfl | some j=>simp only;split;rfl;split <;> rfl
  have e2:(eX s m.aZ).busy=s.busy:=by unfold eX;cases m.aZ with | none=>rfl | some j=>simp only;split;rfl;split <;> rfl
  have e3:m.pass.home=m.home:=by unfold ag.pass;cases m.aZ with | none=>rfl | some j=>simp only;split;rfl;split <;> rfl
  rw [e1,e2,e3]
  exact h4.aH t hFF
 ·
  have e1:m.pass.data=m.data:=by unfold ag.pass;cases m.aZ with | none=>rfl | some j=>simp only;split;rfl;split <;> rfl
  have e2:(eX s m.aZ).data=s.data:=by unfold eX;cases m.aZ with | none=>rfl | some j=>simp only;split;rfl;split <;> rfl
  rw [e1,e2]
  exact gy h8 t (B8 h1 h3 h8)
 ·
  intro b hb
  have:(eX s m.aZ).aZ=s.aZ∨(eX s m.aZ).aZ=none:=by
   unfold eX
   cases m.aZ with
   | none=>exact .inl rfl
   | some j=>simp only;split;exact .inl rfl;split;exact .inr rfl;exact .inl rfl
  rcases this with e | e
  ·
   rw [e] at hb;exact h10 b hb
  ·
   rw [e] at hb;cases hb
 ·
  have e2:(eX s m.aZ).data=s.data:=by unfold eX;cases m.aZ with | none=>rfl | some j=>simp only;split;rfl;split <;> rfl
  rw [e2];exact h11
structure bK (w:World) (c:Nat) (s:Raw) (m:ag) (F:Nat→Prop):Prop where
 raw:aV w c s
 bU:pW s m
 aZ:jW w s.aZ m.aZ
 busy:sQ w s.busy m.busy m.home F
 data:w.ownsRow 0 3 1 s.data m.data.length (aB m.data)
 own:F c
 mc : ∀ b,s.aZ=some ⟨b,0,none⟩→F b
 jQ : ∀ g,s.data.ownBlock=some g→F g
 lt : ∀ b,F b→b<w.heap.size
theorem aT.open {w:World} {c:Nat} {m:ag} {F:Nat→Prop} (h:aT w c m F) : ∃ s,bK w c s m F:=by
 obtain ⟨⟨s,h1,h2,h3,h4,h8,h9,h10,h11⟩,hlt⟩:=h
 exact ⟨s,h1,h2,h3,h4,h8,h9,h10,h11,hlt⟩
theorem bK.shut {w:World} {c:Nat} {s:Raw} {m:ag} {F:Nat→Prop} (h:bK w c s m F):aT w c m F :=
 ⟨⟨s,h.raw,h.bU,h.aZ,h.busy,h.data,h.own,h.mc,h.jQ⟩,h.lt⟩
theorem jW.only {w w':World} {c:Nat} {s:Raw} {a:Option Addr} {j:Option iC} (h:jW w a j) (h1:aV w c s) (t:Touch (aN c) w w'):jW w' a j:=by
 cases j with
 | none=>exact h
 | some j =>
  obtain ⟨b,hb,hbj⟩:=h
  refine ⟨b,hb,t.at hbj fun e => ?_⟩
  obtain rfl:b=c:=e
  have:=hbj.symm.trans h1;simp at this
theorem bK.block {w w':World} {c:Nat} {s s':Raw} {m m':ag} {F:Nat→Prop} (h:bK w c s m F) (g1:aV w' c s') (g2:pW s' m') (t:Touch (aN c) w w') (ej:s'.aZ=s.aZ) (emj:m'.aZ=m.aZ) (eb:s'.busy=s.busy) (emb:m'.busy=m.busy) (ed:s'.data=s.data) (emd:m'.data=m.data) (emh:m'.home=m.home:=by rfl):bK w' c s' m' F:=by
 have hF : ∀ b,aN c b→F b:=fun b e=>by rw [show b=c from e];exact h.own
 have hd:w'.ownsRow 0 3 1 s.data m.data.length (aB m.data):=gy h.data t (fun g hg e=>by
  obtain ⟨cur,hc⟩:=gw h.data hg
  rw [show g=c from e] at hc
  have:=hc.symm.trans h.raw;simp at this)
 exact ⟨g1,g2,by rw [ej,emj];exact h.aZ.only h.raw t,by rw [eb,emb,emh];exact h.busy.aH t hF,by rw [ed,emd];exact hd,h.own,by rw [ej];exact h.mc,by rw [ed];exact h.jQ,fun b hb=>zV (h.lt b hb) t.size⟩
theorem bK.step {w w':World} {c:Nat} {s:Raw} {m:ag} {F:Nat→Prop} (h:bK w c s m F) (t:Touch (aN c) w w'):Step F F w w':=Step.dD (t.mono fun b e=>by rw [show b=c from e];exact h.own)
def ag.dN (m:ag) (j:iC):ag :=
 if m.en=false then m else if (m.bq&&decide (m.addr<2048))=true then { m with en:=false } else { m with aZ:=some { j with left:=m.busy.headD 8 },busy:=m.busy.drop 1 }
def ag.whole (m:ag):Bool:=if m.op.jz=true then decide (m.ay=5)&&decide (m.left=8) else if m.op.data=0 then decide (m.ay=7) && !m.beyond else true
def ag.bN (m:ag):ag:=match m.aZ with | some j=>if j.av = -1 then m else { m with aZ:=some { j with ia:=true } } | none=>m
def ag.gM (m:ag):ag:=match m.aZ with | some j=>{ m with aZ:=some { j with ia:=false } } | none=>m
def ag.dB (m:ag):ag:=if m.en=true∧m.data.length=2 then { m with bq:=bits .and .i64 (m.data.getD 0 0) 4 != 0,bk:=bits .and .i64 (m.data.getD 1 0) 2 != 0,en:=false } else m
def ag.js (m:ag):ag:=if 0<m.data.length then m.dN ⟨-1,m.addr - m.addr % 32,lz m.addr m.data,0,false⟩ else m
def ag.erases (m:ag):ag:=m.dN ⟨m.addr / 512,0,ByteArray.empty,0,false⟩
def ag.gl (m:ag):ag :=
 if m.op.byte=6 then { m with en:=true } else if m.op.byte=4 then { m with en:=false } else if m.op.byte=117 then m.bN else if m.op.byte=122 then m.gM
 else if m.op.byte=1 then m.dB else if m.op.byte=2 then m.js else if m.op.byte=32 then m.erases else if m.op.byte=235 then { m with aD:=m.cJ&&decide (m.mode=160) } else m
def ag.ends (m:ag):ag:=if m.ay=0∨m.ay=1∨m.whole=false then m else m.gl
theorem J1 {s t:Raw} (h:s.EJ=t.EJ):s.cells=t.cells∧s.bq=t.bq∧s.bk=t.bk∧s.o0=t.o0∧s.o1=t.o1∧s.o2=t.o2∧s.yG=t.yG∧s.dP=t.dP∧s.en=t.en∧s.aD=t.aD∧s.aZ=t.aZ∧s.busy=t.busy∧s.op=t.op∧s.ay=t.ay∧s.left=t.left∧s.cM=t.cM∧s.addr=t.addr∧s.mode=t.mode∧s.cJ=t.cJ∧s.data=t.data∧s.told=t.told∧s.now=t.now∧s.beyond=t.beyond:=by
 unfold Raw.EJ at h
 injection h with a1 a2 a3 a4 a5 a6 a7 a8 a9 a10 a11 a12 a13 a14 a15 a16 a17 a18 a19 a20 a21 a22 a23 a24 a25 a26 a27 a28 a29 a30 a31
 exact ⟨a1,a2,a3,a12,a13,a14,a15,a16,a17,a18,a19,a20,a21,a22,a23,a24,a25,a26,a27,a28,a29,a30,a31⟩
def BP (c jb:Nat) (m:ag) (F:Nat→Prop) (w:World) (e:Ending) (w':World):Prop :=
 e=.returned (.tuple #[]) ∧ ∃ F':Nat→Prop,aT w' c m F'∧Touch (fun b=>F b∨b=jb) w w' ∧ ∀ b,F' b→F b∨b=jb
theorem sB (c jb:Nat) (s:Raw) (m:ag) (j:iC) (F:Nat→Prop) (w:World) (h:bK w c s m F) (hj:w.heap[jb]? = some (.cells j.row 192 (0,0))) (hjn : ¬ F jb) (hsec:j.av = -1 ∨ ∃ k:Nat,j.av=k∧k<8) (ha0:0≤m.addr) (ha1:m.addr<4096) (hnb : ∀ ba bc,s.busy=.slice ba m.busy.length bc → ∀ b o,ba=some ⟨b,o,none⟩→0<m.busy.length→b≠jb):Calls prog 224 #[.pointer (some ⟨c,0,none⟩),.pointer (some ⟨jb,0,none⟩)] w (BP c jb (m.dN j) F w):=by
 have hsub : ∀ {w':World},Touch (aN c) w w'→Touch (fun b=>F b∨b=jb) w w':=fun t=>t.mono fun b e=>.inl (by rw [show b=c from e];exact h.own)
 by_cases he:m.en=false
 ·
  have e:m.dN j=m:=by unfold ag.dN;rw [if_pos he]
  rw [e]
  refine (Fe c jb s w h.raw (by rw [h.bU.en];exact he)).mono ?_
  rintro e w' ⟨rfl,g,t⟩
  exact ⟨rfl,F,(h.block g h.bU t rfl rfl rfl rfl rfl rfl).shut,hsub t,fun b hb=>.inl hb⟩
 have he':m.en=true:=by cases hh:m.en with | true=>rfl | false=>exact absurd hh he
 have es:s.en=true:=by rw [h.bU.en];exact he'
 have a0:0≤s.addr:=by rw [h.bU.addr];exact ha0
 have a1:s.addr<4096:=by rw [h.bU.addr];exact ha1
 have ep:(s.bq&&decide (s.addr<2048))=(m.bq&&decide (m.addr<2048)):=by rw [h.bU.bq,h.bU.addr]
 by_cases hp:(m.bq&&decide (m.addr<2048))=true
 ·
  have e:m.dN j={ m with en:=false }:=by unfold ag.dN;rw [if_neg he,if_pos hp]
  rw [e]
  refine (Ds c jb s w h.raw es a0 a1 (ep.trans hp)).mono ?_
  rintro e w' ⟨rfl,g,t⟩
  have hs:=h.bU
  exact ⟨rfl,F,(h.block (m':={ m with en:=false }) g ⟨hs.cells,hs.bq,hs.bk,hs.dP,rfl,hs.aD,hs.op,hs.ay,hs.left,hs.cM,hs.addr,hs.mode,hs.cJ,hs.told,hs.now,hs.beyond,hs.once⟩ t rfl rfl rfl rfl rfl rfl).shut,hsub t,fun b hb=>.inl hb⟩
 ·
  have e:m.dN j={ m with aZ:=some { j with left:=m.busy.headD 8 },busy:=m.busy.drop 1 }:=by unfold ag.dN;rw [if_neg he,if_neg hp]
  rw [e]
  obtain ⟨ba,bc,hb1,hb2,hb3,hb4,hb5,hb6⟩:=h.busy.ex
  have hp':(m.bq&&decide (m.addr<2048))=false:=by cases hh:(m.bq&&decide (m.addr<2048)) with | false=>rfl | true=>exact absurd hh hp
  have hbj : ∀ b o,ba=some ⟨b,o,none⟩→0<m.busy.length→b≠c∧b≠jb:=fun b o e hl=>⟨fun e2=>hb3 b o e hl (by rw [e2];exact h.own),hnb ba bc hb1 b o e hl⟩
  refine (Iy c jb s j ba bc m.busy w h.raw hj es a0 a1 (ep.trans hp') hb1 hb2 hbj hb5 hb4 hsec).mono ?_
  rintro e w' ⟨rfl,s',ba',bc',r1,r2,r3,r4,r4',r5,r6,t⟩
  obtain ⟨n1,n2,n3,n4,n5,n6,n7,n8,n9,n10,n11,n12,n13,n14,n15,n16,n17,n18,n19,n20,n21,n22,n23⟩:=J1 r2
  have hs:=h.bU
  have tF:Touch (fun b=>F b∨b=jb) w w':=t.mono fun b e=>e.elim (fun e=>.inl (by rw [e];exact h.own)) .inr
  have hlt':jb<w.heap.size:=aO hj
  have hdj : ∀ g,s.data.ownBlock=some g → ¬ Bz c jb g:=fun g hg e=>by
   obtain ⟨cur,hc⟩:=gw h.data hg
   rcases e with rfl | rfl
   ·
    have:=hc.symm.trans h.raw;simp at this
   ·
    have:=hc.symm.trans hj;simp at this
  refine ⟨rfl,fun b=>F b∨b=jb,bK.shut (s:=s') ⟨r1,?_,?_,?_,?_,.inl h.own,?_,?_,?_⟩,tF,fun b hb=>hb⟩
  ·
   exact ⟨n1.trans hs.cells,n2.trans hs.bq,n3.trans hs.bk,n8.trans hs.dP,n9.trans hs.en,n10.trans hs.aD,n13.trans hs.op,n14.trans hs.ay,n15.trans hs.left,n16.trans hs.cM,n17.trans hs.addr,n18.trans hs.mode,n19.trans hs.cJ,n21.trans hs.told,n22.trans hs.now,n23.trans hs.beyond,by
    rw [n4,n5,n6,n7];exact hs.once⟩
  ·
   exact ⟨jb,n11,r6⟩
  ·
   refine ⟨ba',bc',n12,r3,fun b o e hl hF => ?_,r5,r4',fun b o e hl => ?_⟩
   ·
    obtain ⟨o',k1⟩:=r4 b o e hl
    have hl':0<m.busy.length:=by have:0<(m.busy.drop 1).length:=hl;simp at this;omega
    exact hF.elim (hb3 b o' k1 hl') (hbj b o' k1 hl').2
   ·
    obtain ⟨o',k1⟩:=r4 b o e hl
    have hl':0<m.busy.length:=by have:0<(m.busy.drop 1).length:=hl;simp at this;omega
    exact hb6 b o' k1 hl'
  ·
   rw [n20];exact gy h.data t hdj
  ·
   intro b hb
   rw [n11] at hb
   exact .inr (by simpa using hb.symm)
  ·
   intro g hg
   rw [n20] at hg
   exact .inl (h.jQ g hg)
  ·
   intro b hb
   exact zV (hb.elim (h.lt b) (fun e=>by rw [e];exact hlt')) t.size
def ag.pR (m:ag):Bool:=match m.aZ with | none=>false | some j=>j.ia
def ag.first (m:ag):Int:=D3 m.bQ m.en m.bq
def ag.second (m:ag):Int:=yZ m.bk m.pR
def qp (m:ag) (w:World) (e:Ending) (w':World):Prop:=e=.returned (.tuple #[.int .i64 m.first,.int .i64 m.second])∧Below w.heap.size w w'
theorem Dt (c:Nat) (m:ag) (s:Raw) (F:Nat→Prop) (w:World) (h:bK w c s m F) (hj:m.aZ=none):Calls prog 253 #[.pointer (some ⟨c,0,none⟩)] w (qp m w):=by
 have hs:=h.bU
 have hd:aV w.drew c s:=h.raw
 have c1:w.drew.cell? ⟨c,1,none⟩=some (.bool m.bq):=by rw [← hs.bq];exact cell_of hd 1
 have c2:w.drew.cell? ⟨c,2,none⟩=some (.bool m.bk):=by rw [← hs.bk];exact cell_of hd 2
 have c16:w.drew.cell? ⟨c,16,none⟩=some (.bool m.en):=by rw [← hs.en];exact cell_of hd 16
 have c18:w.drew.cell? ⟨c,18,none⟩=some (.pointer s.aZ):=cell_of hd 18
 have HW:=zH (lU c s m.aZ w.drew hd h.aZ)
 have HL:=zH (aO hd)
 have hsj:s.aZ=none:=by have:=h.aZ;rw [hj] at this;exact this
 have E:=zH (show m.first=D3 false m.en m.bq∧m.second=yZ m.bk false by unfold ag.first ag.second ag.bQ ag.pR eS;rw [hj];exact ⟨rfl,rfl⟩)
 rw [hsj] at c18
 rw [hj] at HW
 clear h hs hd hsj hj
 go_enter func253,ntmps253
 go_wp2_with fail
 refine wp_region_noPanic ?_
 refine wp_region_held_drew (S:=(fun w'=>w'.cell? ⟨c,1,none⟩=some (.bool m.bq)∧w'.cell? ⟨c,2,none⟩=some (.bool m.bk)∧w'.cell? ⟨c,16,none⟩=some (.bool m.en)∧w'.cell? ⟨c,18,none⟩=some (.pointer none))) (by kernel_rfl) (by (try dsimp only);exact ⟨c1,c2,c16,c18⟩) fun hHeld => ?_
 refine tk 0 ?_
 refine tk 2 ?_
 refine tk 3 ?_
 refine tk 4 ?_
 refine tk 5 ?_
 refine tk 6 ?_
 refine tk 7 ?_
 refine tk 8 ?_
 refine tk 9 ?_
 refine tk 10 ?_
 refine tk 12 ?_
 refine tk 13 ?_
 refine tk 14 ?_
 refine tk 15 ?_
 refine tk 16 ?_
 refine tk 17 ?_
 refine tk 18 ?_
 refine tk 19 ?_
 refine tk 20 ?_
 refine tk 21 ?_
 refine tr 1 fun K hK => ?_
 go_simp
 go_at_call 242
 refine HW.out.mono ?_
 rintro e w1 ⟨rfl,rfl⟩
 go_wp2_with fail
 refine hK.out _ _ (by (try dsimp only);exact ⟨c1,c2,c16,c18⟩) fun hHeld => ?_
 clear hK K
 try simp only [Act.put,zS,zT,zU]
 refine tr 11 fun K hK => ?_
 go_simp
 go_at_call 255
 refine (ug _ _ _ _).mono ?_
 rintro e w1 ⟨rfl,hb1⟩
 go_wp2_with fail
 refine hK.out _ _ (by (try dsimp only);exact ⟨(hb1.cell (p:=⟨c,1,none⟩) HL.out).trans c1,(hb1.cell (p:=⟨c,2,none⟩) HL.out).trans c2,(hb1.cell (p:=⟨c,16,none⟩) HL.out).trans c16,(hb1.cell (p:=⟨c,18,none⟩) HL.out).trans c18⟩) fun hHeld => ?_
 clear hK K
 try simp only [Act.put,zS,zT,zU]
 refine tk 22 ?_
 refine tn 23 ?_
 refine tn 24 ?_
 refine tn 25 ?_
 refine tn 26 ?_
 refine tn 27 ?_
 refine tn 28 ?_
 refine tn 29 ?_
 refine tn 30 ?_
 refine tk 31 ?_
 refine tr 32 fun K hK => ?_
 go_simp
 go_at_call 256
 refine (ss _ _ _).mono ?_
 rintro e w2 ⟨rfl,hb2⟩
 go_wp2_with fail
 refine hK.out _ _ (by (try dsimp only);exact ⟨((gtr hb1 hb2).cell (p:=⟨c,1,none⟩) HL.out).trans c1,((gtr hb1 hb2).cell (p:=⟨c,2,none⟩) HL.out).trans c2,((gtr hb1 hb2).cell (p:=⟨c,16,none⟩) HL.out).trans c16,((gtr hb1 hb2).cell (p:=⟨c,18,none⟩) HL.out).trans c18⟩) fun hHeld => ?_
 clear hK K
 try simp only [Act.put,zS,zT,zU]
 refine tk 33 ?_
 refine tk 34 ?_
 refine wpAnyH_done (by kernel_rfl) ?_ _
 refine NoPanic.normal ?_
 go_wp2
 go_ret2
 exact ⟨by rw [E.out.1,E.out.2];rfl,gtr (au zR) (gtr hb1 hb2)⟩
theorem Du (c b:Nat) (m:ag) (j:iC) (s:Raw) (F:Nat→Prop) (w:World) (h:bK w c s m F) (hj:m.aZ=some j):Calls prog 253 #[.pointer (some ⟨c,0,none⟩)] w (qp m w):=by
 have hs:=h.bU
 have hd:aV w.drew c s:=h.raw
 have c1:w.drew.cell? ⟨c,1,none⟩=some (.bool m.bq):=by rw [← hs.bq];exact cell_of hd 1
 have c2:w.drew.cell? ⟨c,2,none⟩=some (.bool m.bk):=by rw [← hs.bk];exact cell_of hd 2
 have c16:w.drew.cell? ⟨c,16,none⟩=some (.bool m.en):=by rw [← hs.en];exact cell_of hd 16
 have c18:w.drew.cell? ⟨c,18,none⟩=some (.pointer s.aZ):=cell_of hd 18
 have HW:=zH (lU c s m.aZ w.drew hd h.aZ)
 have HL:=zH (aO hd)
 have hJ:=h.aZ
 rw [hj] at hJ
 obtain ⟨b,hsj,hjb⟩:=hJ
 have hjd:w.drew.heap[b]? = some (.cells j.row 192 (0,0)):=hjb
 have d4:w.drew.cell? ⟨b,4,none⟩=some (.bool j.ia):=cell_of hjd 4
 have HB:=zH (aO hjd)
 have E:=zH (show m.first=D3 (!j.ia) m.en m.bq∧m.second=yZ m.bk j.ia by unfold ag.first ag.second ag.bQ ag.pR eS;rw [hj];exact ⟨rfl,rfl⟩)
 rw [hsj] at c18
 rw [hj] at HW
 clear h hs hd hsj hj hjb hjd
 go_enter func253,ntmps253
 go_wp2_with fail
 refine wp_region_noPanic ?_
 refine wp_region_held_drew (S:=(fun w'=>w'.cell? ⟨c,1,none⟩=some (.bool m.bq)∧w'.cell? ⟨c,2,none⟩=some (.bool m.bk)∧w'.cell? ⟨c,16,none⟩=some (.bool m.en)∧w'.cell? ⟨c,18,none⟩=some (.pointer (some ⟨b,0,none⟩))∧w'.cell? ⟨b,4,none⟩=some (.bool j.ia))) (by kernel_rfl) (by (try dsimp only);exact ⟨c1,c2,c16,c18,d4⟩) fun hHeld => ?_
 refine tk 0 ?_
 refine tk 2 ?_
 refine tk 3 ?_
 refine tk 4 ?_
 refine tk 5 ?_
 refine tk 6 ?_
 refine tk 7 ?_
 refine tk 8 ?_
 refine tk 9 ?_
 refine tk 10 ?_
 refine tk 12 ?_
 refine tk 13 ?_
 refine tk 14 ?_
 refine tk 15 ?_
 refine tk 16 ?_
 refine tk 17 ?_
 refine tk 18 ?_
 refine tk 19 ?_
 refine tk 20 ?_
 refine tk 21 ?_
 refine tr 1 fun K hK => ?_
 go_simp
 go_at_call 242
 refine HW.out.mono ?_
 rintro e w1 ⟨rfl,rfl⟩
 go_wp2_with fail
 refine hK.out _ _ (by (try dsimp only);exact ⟨c1,c2,c16,c18,d4⟩) fun hHeld => ?_
 clear hK K
 try simp only [Act.put,zS,zT,zU]
 refine tr 11 fun K hK => ?_
 go_simp
 go_at_call 255
 refine (ug _ _ _ _).mono ?_
 rintro e w1 ⟨rfl,hb1⟩
 go_wp2_with fail
 refine hK.out _ _ (by (try dsimp only);exact ⟨(hb1.cell (p:=⟨c,1,none⟩) HL.out).trans c1,(hb1.cell (p:=⟨c,2,none⟩) HL.out).trans c2,(hb1.cell (p:=⟨c,16,none⟩) HL.out).trans c16,(hb1.cell (p:=⟨c,18,none⟩) HL.out).trans c18,(hb1.cell (p:=⟨b,4,none⟩) HB.out).trans d4⟩) fun hHeld => ?_
 clear hK K
 try simp only [Act.put,zS,zT,zU]
 refine tk 22 ?_
 refine tk 23 ?_
 refine tk 24 ?_
 refine tk 25 ?_
 refine tk 26 ?_
 refine tk 27 ?_
 refine tk 28 ?_
 refine tk 29 ?_
 refine tk 30 ?_
 refine tk 31 ?_
 refine tr 32 fun K hK => ?_
 go_simp
 go_at_call 256
 refine (ss _ _ _).mono ?_
 rintro e w2 ⟨rfl,hb2⟩
 go_wp2_with fail
 refine hK.out _ _ (by (try dsimp only);exact ⟨((gtr hb1 hb2).cell (p:=⟨c,1,none⟩) HL.out).trans c1,((gtr hb1 hb2).cell (p:=⟨c,2,none⟩) HL.out).trans c2,((gtr hb1 hb2).cell (p:=⟨c,16,none⟩) HL.out).trans c16,((gtr hb1 hb2).cell (p:=⟨c,18,none⟩) HL.out).trans c18,((gtr hb1 hb2).cell (p:=⟨b,4,none⟩) HB.out).trans d4⟩) fun hHeld => ?_
 clear hK K
 try simp only [Act.put,zS,zT,zU]
 refine tk 33 ?_
 refine tk 34 ?_
 refine wpAnyH_done (by kernel_rfl) ?_ _
 refine NoPanic.normal ?_
 go_wp2
 go_ret2
 exact ⟨by rw [E.out.1,E.out.2];rfl,gtr (au zR) (gtr hb1 hb2)⟩
theorem Bq (c:Nat) (m:ag) (F:Nat→Prop) (w:World) (h:aT w c m F):Calls prog 253 #[.pointer (some ⟨c,0,none⟩)] w (qp m w):=by
 obtain ⟨s,h⟩:=h.open
 cases hj:m.aZ with
 | none=>exact Dt c m s F w h hj
 | some j=>exact Du c 0 m j s F w h hj
end Go.Proofs.YtcfdenckiigdaaaGreat

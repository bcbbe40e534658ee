/- Part 8 of the contracts. -/
import Derived.Shelf.Slices.Clone
import Derived.Shelf.Slices.Empties2
import Derived.Shelf.Slices.Turned
import Derived.Shelf.SlicesE.Clone
import Derived.Shelf.Strings.Builder2Cap
import Derived.Shelf.Strings.BuilderK
import Derived.Shelf.Strings.Repeat
import Derived.Shelf.Strings.Shaped
import Derived.Test.YtcfdenckiigdaaaGreatKp07
set_option linter.unusedVariables false
set_option maxRecDepth 100000
set_option maxHeartbeats 4000000
namespace Go.Proofs.YtcfdenckiigdaaaGreat
section
open Go.RowKit
def qae.byteAt (m:qae) (i:Int):Int :=
 if m.op.byte=159 then (if i % 3=0 then 239 else if i % 3=1 then 64 else 12)
 else if m.op.byte=5 then m.first
 else if m.op.byte=53 then m.second
 else if m.op.byte=90 then ((bt sfdpText ((m.addr+i) % 32).toNat).toNat:Int)
 else ((bt m.cells ((m.addr+i) % 4096).toNat).toNat:Int)
def qae.next (m:qae):qae:=if m.left=0 then { m with now:=m.byteAt m.told,left:=many m.op.data,told:=m.told+1 } else m
def bitsOf (now data left:Int):Int:=if data=1 then 13+2 * (now / 2 ^ left.toNat % 2) else now / 16 ^ left.toNat % 16
def qae.says (m:qae):Int×qae:=(bitsOf m.next.now m.op.data (m.next.left - 1),{ m.next with left:=m.next.left - 1 })
def qae.takeIn (m:qae) (x lanes:Int):qae:={ m with got:=takeGot m.got x lanes,left:=m.left - 1 }
def qae.step0 (m:qae) (x:Int):qae:=if m.left - 1=0 then (m.takeIn x 1).begins (takeGot m.got x 1) else m.takeIn x 1
def qae.step2 (m:qae) (x:Int):qae:=if m.left - 1=0 then qae.behind { m.takeIn x m.op.addr with addr:=takeGot m.got x m.op.addr % 4096 } else m.takeIn x m.op.addr
def qae.step3 (m:qae) (x:Int):qae:=if m.left - 1=0 then qae.behind { m.takeIn x m.op.addr with mode:=takeGot m.got x m.op.addr,moded:=true } else m.takeIn x m.op.addr
def qae.step4 (m:qae):qae:=if m.left - 1=0 then qae.behind { m with left:=m.left - 1 } else { m with left:=m.left - 1 }
def qae.step5 (m:qae) (x:Int):qae:=if m.left - 1=0 then qae.behind { m.takeIn x m.op.data with data:=m.data++[takeGot m.got x m.op.data] } else m.takeIn x m.op.data
def qae.step (m:qae) (x:Int):Int×qae :=
 if m.stage=0 then (15,m.step0 x) else if m.stage=2 then (15,m.step2 x) else if m.stage=3 then (15,m.step3 x) else if m.stage=4 then (15,m.step4)
 else if m.stage=5 then (15,m.step5 x) else if m.stage=6 then m.says else if m.stage=7 then (15,{ m with beyond:=true }) else (15,m)
def qae.clock (m:qae) (x:Int):Int×qae:=if m.pass.sel=true then m.pass.step x else (15,m.pass)
def qfl (got L left:Int):Prop:=(L=1∨L=4)∧1≤left∧0≤got∧L * left≤24∧got<2 ^ (24 - L * left).toNat
structure qae.Base (m:qae) (n:Nat):Prop where
 ok:m.Ok
 told0:0≤m.told
 told1:m.told≤n
 data:m.data.length≤n
 dummy0:0≤m.op.dummy
 dummy1:m.op.dummy≤8
 now0:0≤m.now
 now1:m.now<256
structure qae.Part (m:qae):Prop where
 left0:0≤m.left
 left1:m.left≤24
 row0:m.stage=0→qfl m.got 1 m.left
 row2:m.stage=2→qfl m.got m.op.addr m.left
 row3:m.stage=3→qfl m.got m.op.addr m.left
 row4:m.stage=4→1≤m.left
 row5:m.stage=5→qfl m.got m.op.data m.left
 row6:m.stage=6→(m.op.data=1∨m.op.data=4)∧m.op.data * m.left≤8
structure qae.Fit (m:qae) (n:Nat):Prop where
 base:m.Base n
 part:m.Part
theorem qfN (b:Int):0≤(opRow b).dummy∧(opRow b).dummy≤8:=by
 by_cases h : ∀ k ∈ opBytes,b≠k
 ·
  rw [show opRow b=OpR.zero by simp [opRow,qfa b h]];decide
 ·
  simp only [opBytes,List.mem_cons,List.not_mem_nil,or_false,forall_eq_or_imp,forall_eq,ne_eq] at h
  by_cases h1:b=1;· subst h1;decide
  by_cases h2:b=2;· subst h2;decide
  by_cases h3:b=3;· subst h3;decide
  by_cases h4:b=4;· subst h4;decide
  by_cases h5:b=5;· subst h5;decide
  by_cases h6:b=6;· subst h6;decide
  by_cases h7:b=32;· subst h7;decide
  by_cases h8:b=53;· subst h8;decide
  by_cases h9:b=90;· subst h9;decide
  by_cases h10:b=107;· subst h10;decide
  by_cases h11:b=117;· subst h11;decide
  by_cases h12:b=122;· subst h12;decide
  by_cases h13:b=159;· subst h13;decide
  by_cases h14:b=235;· subst h14;decide
  exact absurd ⟨h1,h2,h3,h4,h5,h6,h7,h8,h9,h10,h11,h12,h13,h14⟩ h
theorem qes (m:qae) (i:Int):0≤m.byteAt i∧m.byteAt i<256:=by
 unfold qae.byteAt
 split
 ·
  split;decide;split <;> decide
 ·
  split
  ·
   unfold qae.first qu1;cases m.works <;> cases m.en <;> cases m.prot <;> decide
  ·
   split
   ·
    unfold qae.second qpK;cases m.quad <;> cases m.suspended <;> decide
   ·
    split
    ·
     have:=(bt sfdpText ((m.addr+i) % 32).toNat).toNat_lt;omega
    ·
     have:=(bt m.cells ((m.addr+i) % 4096).toNat).toNat_lt;omega
theorem qhM (m:qae):m.pass.op=m.op∧m.pass.stage=m.stage∧m.pass.left=m.left∧m.pass.got=m.got∧m.pass.addr=m.addr∧m.pass.mode=m.mode∧m.pass.moded=m.moded∧m.pass.data=m.data∧m.pass.told=m.told∧m.pass.now=m.now∧m.pass.beyond=m.beyond∧m.pass.sel=m.sel∧m.pass.prot=m.prot∧m.pass.quad=m.quad∧m.pass.goes=m.goes∧m.pass.busy=m.busy:=by
 unfold qae.pass
 cases m.job with
 | none=>exact ⟨rfl,rfl,rfl,rfl,rfl,rfl,rfl,rfl,rfl,rfl,rfl,rfl,rfl,rfl,rfl,rfl⟩
 | some j =>
  simp only
  split
  ·
   exact ⟨rfl,rfl,rfl,rfl,rfl,rfl,rfl,rfl,rfl,rfl,rfl,rfl,rfl,rfl,rfl,rfl⟩
  ·
   split <;> exact ⟨rfl,rfl,rfl,rfl,rfl,rfl,rfl,rfl,rfl,rfl,rfl,rfl,rfl,rfl,rfl,rfl⟩
theorem qvG {m:qae} (ok:m.Ok):m.pass.Ok:=by
 obtain ⟨e1,e2,e3,e4,e5,e6,e7,e8,e9,_⟩:=qhM m
 refine ⟨?_,?_,by rw [e5];exact ok.addr0,by rw [e5];exact ok.addr1,by rw [e1];exact ok.op,by rw [e8];exact ok.data⟩
 ·
  unfold qae.pass
  cases m.job with
  | none=>exact ok.size
  | some j =>
   simp only
   split
   ·
    exact ok.size
   ·
    split
    ·
     exact (qgc _ _ _).trans ok.size
    ·
     exact ok.size
 ·
  intro x hx
  unfold qae.pass at hx
  cases hj:m.job with
  | none=>rw [hj] at hx;simp only at hx;rw [hj] at hx;cases hx
  | some j =>
   have hok:=ok.job j hj
   rw [hj] at hx
   simp only at hx
   split at hx
   ·
    rw [hj] at hx;obtain rfl:j=x:=by simpa using hx
    exact hok
   ·
    split at hx
    ·
     cases hx
    ·
     obtain rfl:({ j with left:=j.left - 1 }:Job)=x:=by simpa using hx
     exact ⟨hok.1,by show 1≤j.left - 1;omega,by show j.left - 1≤4096;have:=hok.2.2;omega⟩
theorem qhN {m:qae} {n:Nat} (h:m.Fit n):m.pass.Fit n:=by
 obtain ⟨e1,e2,e3,e4,e5,e6,e7,e8,e9,e10,_⟩:=qhM m
 have c:=h.base
 have p:=h.part
 exact ⟨⟨qvG c.ok,by rw [e9];exact c.told0,by rw [e9];exact c.told1,by rw [e8];exact c.data,by rw [e1];exact c.dummy0,by rw [e1];exact c.dummy1,by rw [e10];exact c.now0,by rw [e10];exact c.now1⟩,⟨by rw [e3];exact p.left0,by rw [e3];exact p.left1,by rw [e2,e3,e4];exact p.row0,by rw [e1,e2,e3,e4];exact p.row2,by rw [e1,e2,e3,e4];exact p.row3,by rw [e2,e3];exact p.row4,by rw [e1,e2,e3,e4];exact p.row5,by rw [e1,e2,e3];exact p.row6⟩⟩
theorem qlw {got L left x:Int} (h:qfl got L left) (hl:left - 1≠0):qfl (takeGot got x L) L (left - 1):=by
 obtain ⟨h1,h2,h3,h4,h5⟩:=h
 unfold takeGot
 rcases h1 with rfl | rfl
 ·
  rw [if_pos rfl]
  have e:(24 - 1 * (left - 1)).toNat=(24 - 1 * left).toNat+1:=by omega
  refine ⟨.inl rfl,by omega,by omega,by omega,?_⟩
  rw [e,Int.pow_succ];omega
 ·
  rw [if_neg (by decide)]
  have e:(24 - 4 * (left - 1)).toNat=(24 - 4 * left).toNat+4:=by omega
  refine ⟨.inr rfl,by omega,by omega,by omega,?_⟩
  rw [e,Int.pow_succ,Int.pow_succ,Int.pow_succ,Int.pow_succ];omega
theorem qdi {got L left x:Int} (h:qfl got L left):0≤takeGot got x L:=by
 obtain ⟨h1,h2,h3,h4,h5⟩:=h
 unfold takeGot
 split <;> omega
theorem qw2 (k:Nat) (h:k≤24):(2:Int) ^ k≤16777216:=by
 have:(2:Nat) ^ k≤2 ^ 24:=Nat.pow_le_pow_right (by decide) h
 have e:((2 ^ k:Nat):Int)=(2:Int) ^ k:=by norm_cast
 have e2:(2:Nat) ^ 24=16777216:=by decide
 rw [← e];omega
theorem qlv {got L left:Int} (h:qfl got L left):got<16777216:=by
 obtain ⟨h1,h2,h3,h4,h5⟩:=h
 have:=qw2 (24 - L * left).toNat (by rcases h1 with rfl | rfl <;> omega)
 omega
theorem qae.Ok.enter {m:qae} (h:m.Ok) (st cl:Int):(m.enter st cl).Ok:=⟨h.size,h.job,h.addr0,h.addr1,h.op,h.data⟩
theorem qcv {m:qae} {n:Nat} (h:m.Base n) (st cl:Int):(m.enter st cl).Base n:=⟨h.ok.enter st cl,h.told0,h.told1,h.data,h.dummy0,h.dummy1,h.now0,h.now1⟩
theorem qsS (L cl:Int) (hL:L=1∨L=4) (h1:1≤cl) (h:L * cl≤24):qfl 0 L cl:=⟨hL,h1,Int.le_refl _,h,by
 have:0<(2:Int) ^ (24 - L * cl).toNat:=Int.pow_pos (by decide)
 exact this⟩
theorem qdA {m:qae} {n:Nat} (h:m.Base n):m.behind.Fit n:=by
 obtain ⟨o1,o2,o3,o4⟩:=h.ok.op
 have hd:=h.dummy1
 unfold qae.behind
 split
 ·
  rename_i hm
  obtain ⟨a4,d4⟩:=o3 hm.1
  have e:many m.op.addr=2:=by rw [a4];rfl
  rw [e]
  exact ⟨qcv h _ _,⟨by show (0:Int)≤2;decide,by show (2:Int)≤24;decide,fun e=>absurd e (by show ¬ (3:Int)=0;decide),fun e=>absurd e (by show ¬ (3:Int)=2;decide),fun _=>qsS m.op.addr 2 (.inr a4) (by decide) (by rw [a4];decide),fun e=>absurd e (by show ¬ (3:Int)=4;decide),fun e=>absurd e (by show ¬ (3:Int)=5;decide),fun e=>absurd e (by show ¬ (3:Int)=6;decide)⟩⟩
 ·
  split
  ·
   rename_i hd'
   exact ⟨qcv h _ _,⟨by show 0≤m.op.dummy;omega,by show m.op.dummy≤24;omega,fun e=>absurd e (by show ¬ (4:Int)=0;decide),fun e=>absurd e (by show ¬ (4:Int)=2;decide),fun e=>absurd e (by show ¬ (4:Int)=3;decide),fun _=>(by show 1≤m.op.dummy;omega),fun e=>absurd e (by show ¬ (4:Int)=5;decide),fun e=>absurd e (by show ¬ (4:Int)=6;decide)⟩⟩
  ·
   split
   ·
    exact ⟨qcv h _ _,⟨by show (0:Int)≤0;decide,by show (0:Int)≤24;decide,fun e=>absurd e (by show ¬ (7:Int)=0;decide),fun e=>absurd e (by show ¬ (7:Int)=2;decide),fun e=>absurd e (by show ¬ (7:Int)=3;decide),fun e=>absurd e (by show ¬ (7:Int)=4;decide),fun e=>absurd e (by show ¬ (7:Int)=5;decide),fun e=>absurd e (by show ¬ (7:Int)=6;decide)⟩⟩
   ·
    rename_i hdat
    split
    ·
     rename_i hi
     have d1:=o4 hi
     have e:many m.op.data=8:=by rw [d1];rfl
     rw [e]
     exact ⟨qcv h _ _,⟨by show (0:Int)≤8;decide,by show (8:Int)≤24;decide,fun e=>absurd e (by show ¬ (5:Int)=0;decide),fun e=>absurd e (by show ¬ (5:Int)=2;decide),fun e=>absurd e (by show ¬ (5:Int)=3;decide),fun e=>absurd e (by show ¬ (5:Int)=4;decide),fun _=>qsS m.op.data 8 (.inl d1) (by decide) (by rw [d1];decide),fun e=>absurd e (by show ¬ (5:Int)=6;decide)⟩⟩
    ·
     exact ⟨qcv h _ _,⟨by show (0:Int)≤0;decide,by show (0:Int)≤24;decide,fun e=>absurd e (by show ¬ (6:Int)=0;decide),fun e=>absurd e (by show ¬ (6:Int)=2;decide),fun e=>absurd e (by show ¬ (6:Int)=3;decide),fun e=>absurd e (by show ¬ (6:Int)=4;decide),fun e=>absurd e (by show ¬ (6:Int)=5;decide),fun _=>⟨by show m.op.data=1∨m.op.data=4;omega,by show m.op.data * 0≤8;omega⟩⟩⟩
theorem qvF {m:qae} {n:Nat} (h:m.Base n) (b:Int):({ m with op:=opRow b }:qae).Base n :=
 ⟨⟨h.ok.size,h.ok.job,h.ok.addr0,h.ok.addr1,qhK b,h.ok.data⟩,h.told0,h.told1,h.data,(qfN b).1,(qfN b).2,h.now0,h.now1⟩
theorem qj2 {m:qae} {n:Nat} (h:m.Base n) (b:Int):(m.begins b).Fit n:=by
 unfold qae.begins
 have hb:=qvF h b
 split
 ·
  exact ⟨qcv hb _ _,⟨by show (0:Int)≤0;decide,by show (0:Int)≤24;decide,fun e=>absurd e (by show ¬ (1:Int)=0;decide),fun e=>absurd e (by show ¬ (1:Int)=2;decide),fun e=>absurd e (by show ¬ (1:Int)=3;decide),fun e=>absurd e (by show ¬ (1:Int)=4;decide),fun e=>absurd e (by show ¬ (1:Int)=5;decide),fun e=>absurd e (by show ¬ (1:Int)=6;decide)⟩⟩
 ·
  split
  ·
   rename_i ha
   have o1:=(qhK b).1
   refine ⟨qcv hb _ _,⟨by show (0:Int)≤if (opRow b).addr=1 then 24 else 6;split <;> decide,by show (if (opRow b).addr=1 then (24:Int) else 6)≤24;split <;> decide,fun e=>absurd e (by show ¬ (2:Int)=0;decide),fun _ => ?_,fun e=>absurd e (by show ¬ (2:Int)=3;decide),fun e=>absurd e (by show ¬ (2:Int)=4;decide),fun e=>absurd e (by show ¬ (2:Int)=5;decide),fun e=>absurd e (by show ¬ (2:Int)=6;decide)⟩⟩
   show qfl 0 (opRow b).addr (if (opRow b).addr=1 then 24 else 6)
   have:(opRow b).addr=1∨(opRow b).addr=4:=by omega
   rcases this with e | e
   ·
    rw [e,if_pos rfl];exact qsS 1 24 (.inl rfl) (by decide) (by decide)
   ·
    rw [e,if_neg (by decide)];exact qsS 4 6 (.inr rfl) (by decide) (by decide)
  ·
   exact qdA hb
theorem qlL {m:qae} {n k:Nat} (h:m.Base n) (hk:n≤k):m.Base k:=⟨h.ok,h.told0,by have:=h.told1;omega,by have:=h.data;omega,h.dummy0,h.dummy1,h.now0,h.now1⟩
theorem qbT {m:qae} {n:Nat} (h:m.Base n) (x l:Int):(m.takeIn x l).Base n:=⟨⟨h.ok.size,h.ok.job,h.ok.addr0,h.ok.addr1,h.ok.op,h.ok.data⟩,h.told0,h.told1,h.data,h.dummy0,h.dummy1,h.now0,h.now1⟩
theorem qul {m:qae} {n:Nat} (h:m.Fit n) (x:Int) (hn:n<1099511627776):(m.step x).2.Fit (n+1):=by
 have hb:=h.base
 have p:=h.part
 have B:=qlL hb (Nat.le_succ n)
 have l0:=p.left0
 have l1:=p.left1
 unfold qae.step
 split
 ·
  rename_i hs
  have t:=p.row0 hs
  unfold qae.step0
  split
  ·
   exact qj2 (qbT B x 1) _
  ·
   rename_i hl
   have t1:=qlw (x:=x) t hl
   exact ⟨qbT B x 1,⟨by show 0≤m.left - 1;have:=t1.2.1;omega,by show m.left - 1≤24;omega,fun _=>t1,fun e=>absurd (hs.symm.trans e) (by decide),fun e=>absurd (hs.symm.trans e) (by decide),fun e=>absurd (hs.symm.trans e) (by decide),fun e=>absurd (hs.symm.trans e) (by decide),fun e=>absurd (hs.symm.trans e) (by decide)⟩⟩
 split
 ·
  rename_i hs
  have t:=p.row2 hs
  unfold qae.step2
  split
  ·
   have B':=qbT B x m.op.addr
   have:=qdi (x:=x) t
   exact qdA ⟨⟨B'.ok.size,B'.ok.job,by show 0≤takeGot m.got x m.op.addr % 4096;omega,by show takeGot m.got x m.op.addr % 4096<4096;omega,B'.ok.op,B'.ok.data⟩,B'.told0,B'.told1,B'.data,B'.dummy0,B'.dummy1,B'.now0,B'.now1⟩
  ·
   rename_i hl
   have t1:=qlw (x:=x) t hl
   exact ⟨qbT B x _,⟨by show 0≤m.left - 1;have:=t1.2.1;omega,by show m.left - 1≤24;omega,fun e=>absurd (hs.symm.trans e) (by decide),fun _=>t1,fun e=>absurd (hs.symm.trans e) (by decide),fun e=>absurd (hs.symm.trans e) (by decide),fun e=>absurd (hs.symm.trans e) (by decide),fun e=>absurd (hs.symm.trans e) (by decide)⟩⟩
 split
 ·
  rename_i hs
  have t:=p.row3 hs
  unfold qae.step3
  split
  ·
   have B':=qbT B x m.op.addr
   exact qdA ⟨⟨B'.ok.size,B'.ok.job,B'.ok.addr0,B'.ok.addr1,B'.ok.op,B'.ok.data⟩,B'.told0,B'.told1,B'.data,B'.dummy0,B'.dummy1,B'.now0,B'.now1⟩
  ·
   rename_i hl
   have t1:=qlw (x:=x) t hl
   exact ⟨qbT B x _,⟨by show 0≤m.left - 1;have:=t1.2.1;omega,by show m.left - 1≤24;omega,fun e=>absurd (hs.symm.trans e) (by decide),fun e=>absurd (hs.symm.trans e) (by decide),fun _=>t1,fun e=>absurd (hs.symm.trans e) (by decide),fun e=>absurd (hs.symm.trans e) (by decide),fun e=>absurd (hs.symm.trans e) (by decide)⟩⟩
 split
 ·
  rename_i hs
  have t:=p.row4 hs
  have B':({ m with left:=m.left - 1 }:qae).Base (n+1):=⟨⟨B.ok.size,B.ok.job,B.ok.addr0,B.ok.addr1,B.ok.op,B.ok.data⟩,B.told0,B.told1,B.data,B.dummy0,B.dummy1,B.now0,B.now1⟩
  unfold qae.step4
  split
  ·
   exact qdA B'
  ·
   exact ⟨B',⟨by show 0≤m.left - 1;omega,by show m.left - 1≤24;omega,fun e=>absurd (hs.symm.trans e) (by decide),fun e=>absurd (hs.symm.trans e) (by decide),fun e=>absurd (hs.symm.trans e) (by decide),fun _=>(by show 1≤m.left - 1;omega),fun e=>absurd (hs.symm.trans e) (by decide),fun e=>absurd (hs.symm.trans e) (by decide)⟩⟩
 split
 ·
  rename_i hs
  have t:=p.row5 hs
  unfold qae.step5
  split
  ·
   have B':=qbT hb x m.op.data
   have hlen:(m.data++[takeGot m.got x m.op.data]).length≤n+1:=by have:=hb.data;simp;omega
   exact qdA ⟨⟨B'.ok.size,B'.ok.job,B'.ok.addr0,B'.ok.addr1,B'.ok.op,by show (m.data++[takeGot m.got x m.op.data]).length≤_;omega⟩,B'.told0,by have:=B'.told1;show m.told≤_;have e:m.told≤n:=this;omega,hlen,B'.dummy0,B'.dummy1,B'.now0,B'.now1⟩
  ·
   rename_i hl
   have t1:=qlw (x:=x) t hl
   exact ⟨qbT B x _,⟨by show 0≤m.left - 1;have:=t1.2.1;omega,by show m.left - 1≤24;omega,fun e=>absurd (hs.symm.trans e) (by decide),fun e=>absurd (hs.symm.trans e) (by decide),fun e=>absurd (hs.symm.trans e) (by decide),fun e=>absurd (hs.symm.trans e) (by decide),fun _=>t1,fun e=>absurd (hs.symm.trans e) (by decide)⟩⟩
 split
 ·
  rename_i hs
  obtain ⟨hd,hm⟩:=p.row6 hs
  have hbr:=qes m m.told
  unfold qae.says
  show ({ m.next with left:=m.next.left - 1 }:qae).Fit (n+1)
  unfold qae.next
  split
  ·
   rename_i hl
   have hmm:many m.op.data=8∧m.op.data=1∨many m.op.data=2∧m.op.data=4:=by rcases hd with e | e <;> rw [e] <;> decide
   refine ⟨⟨⟨B.ok.size,B.ok.job,B.ok.addr0,B.ok.addr1,B.ok.op,B.ok.data⟩,by show 0≤m.told+1;have:=hb.told0;omega,by show m.told+1≤_;have:=hb.told1;push_cast;omega,B.data,B.dummy0,B.dummy1,hbr.1,hbr.2⟩,?_⟩
   refine ⟨by show 0≤many m.op.data - 1;omega,by show many m.op.data - 1≤24;omega,fun e=>absurd (hs.symm.trans e) (by decide),fun e=>absurd (hs.symm.trans e) (by decide),fun e=>absurd (hs.symm.trans e) (by decide),fun e=>absurd (hs.symm.trans e) (by decide),fun e=>absurd (hs.symm.trans e) (by decide),fun _=>⟨hd,?_⟩⟩
   show m.op.data * (many m.op.data - 1)≤8
   rcases hmm with ⟨e1,e2⟩ | ⟨e1,e2⟩ <;> rw [e1,e2] <;> decide
  ·
   refine ⟨⟨⟨B.ok.size,B.ok.job,B.ok.addr0,B.ok.addr1,B.ok.op,B.ok.data⟩,B.told0,B.told1,B.data,B.dummy0,B.dummy1,B.now0,B.now1⟩,?_⟩
   refine ⟨by show 0≤m.left - 1;omega,by show m.left - 1≤24;omega,fun e=>absurd (hs.symm.trans e) (by decide),fun e=>absurd (hs.symm.trans e) (by decide),fun e=>absurd (hs.symm.trans e) (by decide),fun e=>absurd (hs.symm.trans e) (by decide),fun e=>absurd (hs.symm.trans e) (by decide),fun _=>⟨hd,?_⟩⟩
   show m.op.data * (m.left - 1)≤8
   rcases hd with e | e <;> rw [e] at hm ⊢ <;> omega
 split
 ·
  exact ⟨⟨⟨B.ok.size,B.ok.job,B.ok.addr0,B.ok.addr1,B.ok.op,B.ok.data⟩,B.told0,B.told1,B.data,B.dummy0,B.dummy1,B.now0,B.now1⟩,⟨p.left0,p.left1,p.row0,p.row2,p.row3,p.row4,p.row5,p.row6⟩⟩
 ·
  exact ⟨B,p⟩
theorem qtF {m:qae} {n k:Nat} (h:m.Fit n) (hk:n≤k):m.Fit k:=⟨qlL h.base hk,h.part⟩
theorem qrp {m:qae} {n:Nat} (h:m.Fit n) (x:Int) (hn:n<1099511627776):(m.clock x).2.Fit (n+1):=by
 unfold qae.clock
 split
 ·
  exact qul (qhN h) x hn
 ·
  exact qtF (qhN h) (Nat.le_succ n)
theorem qmf {m:qae} (ok:m.Ok) (n:Nat):m.fresh.Fit n :=
 ⟨⟨⟨ok.size,ok.job,by show (0:Int)≤0;decide,by show (0:Int)<4096;decide,by show qs4 OpR.zero;decide,by show ([]:List Int).length≤_;simp⟩,by show (0:Int)≤0;decide,by show (0:Int)≤n;omega,Nat.zero_le _,by show (0:Int)≤0;decide,by show (0:Int)≤8;decide,by show (0:Int)≤0;decide,by show (0:Int)<256;decide⟩,⟨by show (0:Int)≤8;decide,by show (8:Int)≤24;decide,fun _=>qsS 1 8 (.inl rfl) (by decide) (by decide),fun e=>absurd e (by show ¬ (0:Int)=2;decide),fun e=>absurd e (by show ¬ (0:Int)=3;decide),fun e=>absurd e (by show ¬ (0:Int)=4;decide),fun e=>absurd e (by show ¬ (0:Int)=5;decide),fun e=>absurd e (by show ¬ (0:Int)=6;decide)⟩⟩
theorem qkz {m:qae} (ok:m.Ok) (n:Nat):m.select.Fit n:=by
 unfold qae.select
 split
 ·
  exact qj2 (qmf ok n).base _
 ·
  exact qmf ok n
end
end Go.Proofs.YtcfdenckiigdaaaGreat
namespace Go.Proofs
open Go.Shelf
def Tryz.lays144_ren:Go.Shelf.Ren:=⟨fun | 144=>85 | 143=>122 | 219=>160 | 217=>188 | 225=>189 | 224=>190 | 267=>191 | 266=>200 | 314=>201 | n=>n,fun | 9=>9 | 4=>4 | 3=>3 | 5=>5 | 46=>28 | 146=>248 | 51=>114 | n=>n,fun | 1=>0 | n=>n⟩
theorem Tryz.lays144:Go.Proofs.Lays.n144 Tryz.prog Tryz.lays144_ren:={ mixed:=by kernel_rfl,f143:=Tryz.func122.trans (congrArg some (by kernel_rfl)),f144:=Tryz.func85.trans (congrArg some (by kernel_rfl)),f217:=Tryz.func188.trans (congrArg some (by kernel_rfl)),f219:=Tryz.func160.trans (congrArg some (by kernel_rfl)),f224:=Tryz.func190.trans (congrArg some (by kernel_rfl)),f225:=Tryz.func189.trans (congrArg some (by kernel_rfl)),f266:=Tryz.func200.trans (congrArg some (by kernel_rfl)),f267:=Tryz.func191.trans (congrArg some (by kernel_rfl)),f314:=Tryz.func201.trans (congrArg some (by kernel_rfl)),t3:=Tryz.underlying3,a3:=Tryz.isAgg3,z3:=Tryz.sizeOf3,v3:=Tryz.zeroValue3,t4:=Tryz.underlying4,a4:=Tryz.isAgg4,z4:=Tryz.sizeOf4,v4:=Tryz.zeroValue4,t5:=Tryz.underlying5,a5:=Tryz.isAgg5,z5:=Tryz.sizeOf5,v5:=Tryz.zeroValue5,t9:=Tryz.underlying9,a9:=Tryz.isAgg9,z9:=Tryz.sizeOf9,v9:=Tryz.zeroValue9,t46:=Tryz.underlying28,a46:=Tryz.isAgg28,z46:=Tryz.sizeOf28,v46:=Tryz.zeroValue28,t51:=Tryz.underlying114,a51:=Tryz.isAgg114,z51:=Tryz.sizeOf114,v51:=Tryz.zeroValue114,t146:=Tryz.underlying248,a146:=Tryz.isAgg248,z146:=Tryz.sizeOf248,v146:=Tryz.zeroValue248,g1:=by kernel_rfl }
open Go.RowKit Go.Lib in
theorem Tryz.strings_Contains_one (s:ByteArray) (c:UInt8) (w:World):Calls Tryz.prog 85 #[.string s,.string ⟨#[c]⟩] w fun e w'=>e=.returned (.bool (decide (0≤Lib.indexByte s.data.toList c)))∧w'=w:=Any.strings_Contains_one Tryz.lays144 s c w
def Tryz.lays212_ren:Go.Shelf.Ren:=⟨fun | 212=>105 | 263=>148 | 264=>149 | n=>n,fun | 46=>28 | 51=>114 | 146=>248 | 53=>250 | 148=>251 | n=>n,fun | n=>n⟩
theorem Tryz.lays212:Go.Proofs.Lays.n212 Tryz.prog Tryz.lays212_ren:={ mixed:=by kernel_rfl,f212:=Tryz.func105.trans (congrArg some (by kernel_rfl)),f263:=Tryz.func148.trans (congrArg some (by kernel_rfl)),f264:=Tryz.func149.trans (congrArg some (by kernel_rfl)),t46:=Tryz.underlying28,a46:=Tryz.isAgg28,z46:=Tryz.sizeOf28,v46:=Tryz.zeroValue28,t51:=Tryz.underlying114,a51:=Tryz.isAgg114,z51:=Tryz.sizeOf114,v51:=Tryz.zeroValue114,t53:=Tryz.underlying250,a53:=Tryz.isAgg250,z53:=Tryz.sizeOf250,v53:=Tryz.zeroValue250,t146:=Tryz.underlying248,a146:=Tryz.isAgg248,z146:=Tryz.sizeOf248,v146:=Tryz.zeroValue248,t148:=Tryz.underlying251,a148:=Tryz.isAgg251,z148:=Tryz.sizeOf251,v148:=Tryz.zeroValue251 }
open Go.RowKit Go.Lib in
theorem Tryz.bits_Mul (x y:Nat) (hx:x<18446744073709551616) (hy:y<18446744073709551616) (w:World):Calls Tryz.prog 105 #[.int .u64 x,.int .u64 y] w fun e w'=>e=.returned (.tuple #[.int .u64 ((x * y / 18446744073709551616:Nat):Int),.int .u64 ((x * y % 18446744073709551616:Nat):Int)])∧w'=w:=Any.bits_Mul Tryz.lays212 x y hx hy w
def Tryz.lays105_ren:Go.Shelf.Ren:=⟨fun | 105=>72 | 212=>105 | 99=>106 | 165=>107 | 166=>108 | 170=>109 | 169=>110 | 263=>148 | 264=>149 | 206=>150 | 240=>151 | 241=>152 | 276=>178 | 277=>179 | n=>n,fun | 9=>9 | 3=>3 | 4=>4 | 20=>20 | 0=>0 | 46=>28 | 109=>200 | 5=>5 | 72=>204 | 76=>208 | 51=>114 | 146=>248 | 53=>250 | 148=>251 | 70=>202 | 37=>29 | 75=>207 | 127=>253 | 164=>275 | 80=>40 | n=>n,fun | n=>n⟩
theorem Tryz.lays105:Go.Proofs.Lays.n105 Tryz.prog Tryz.lays105_ren:={ mixed:=by kernel_rfl,f99:=Tryz.func106.trans (congrArg some (by kernel_rfl)),f105:=Tryz.func72.trans (congrArg some (by kernel_rfl)),f165:=Tryz.func107.trans (congrArg some (by kernel_rfl)),f166:=Tryz.func108.trans (congrArg some (by kernel_rfl)),f169:=Tryz.func110.trans (congrArg some (by kernel_rfl)),f170:=Tryz.func109.trans (congrArg some (by kernel_rfl)),f206:=Tryz.func150.trans (congrArg some (by kernel_rfl)),f212:=Tryz.func105.trans (congrArg some (by kernel_rfl)),f240:=Tryz.func151.trans (congrArg some (by kernel_rfl)),f241:=Tryz.func152.trans (congrArg some (by kernel_rfl)),f263:=Tryz.func148.trans (congrArg some (by kernel_rfl)),f264:=Tryz.func149.trans (congrArg some (by kernel_rfl)),f276:=Tryz.func178.trans (congrArg some (by kernel_rfl)),f277:=Tryz.func179.trans (congrArg some (by kernel_rfl)),t0:=Tryz.underlying0,a0:=Tryz.isAgg0,z0:=Tryz.sizeOf0,v0:=Tryz.zeroValue0,t3:=Tryz.underlying3,a3:=Tryz.isAgg3,z3:=Tryz.sizeOf3,v3:=Tryz.zeroValue3,t4:=Tryz.underlying4,a4:=Tryz.isAgg4,z4:=Tryz.sizeOf4,v4:=Tryz.zeroValue4,t5:=Tryz.underlying5,a5:=Tryz.isAgg5,z5:=Tryz.sizeOf5,v5:=Tryz.zeroValue5,t9:=Tryz.underlying9,a9:=Tryz.isAgg9,z9:=Tryz.sizeOf9,v9:=Tryz.zeroValue9,t20:=Tryz.underlying20,a20:=Tryz.isAgg20,z20:=Tryz.sizeOf20,v20:=Tryz.zeroValue20,t37:=Tryz.underlying29,a37:=Tryz.isAgg29,z37:=Tryz.sizeOf29,v37:=Tryz.zeroValue29,t46:=Tryz.underlying28,a46:=Tryz.isAgg28,z46:=Tryz.sizeOf28,v46:=Tryz.zeroValue28,t51:=Tryz.underlying114,a51:=Tryz.isAgg114,z51:=Tryz.sizeOf114,v51:=Tryz.zeroValue114,t53:=Tryz.underlying250,a53:=Tryz.isAgg250,z53:=Tryz.sizeOf250,v53:=Tryz.zeroValue250,t70:=Tryz.underlying202,a70:=Tryz.isAgg202,z70:=Tryz.sizeOf202,v70:=Tryz.zeroValue202,t72:=Tryz.underlying204,a72:=Tryz.isAgg204,z72:=Tryz.sizeOf204,v72:=Tryz.zeroValue204,t75:=Tryz.underlying207,a75:=Tryz.isAgg207,z75:=Tryz.sizeOf207,v75:=Tryz.zeroValue207,t76:=Tryz.underlying208,a76:=Tryz.isAgg208,z76:=Tryz.sizeOf208,v76:=Tryz.zeroValue208,t109:=Tryz.underlying200,a109:=Tryz.isAgg200,z109:=Tryz.sizeOf200,v109:=Tryz.zeroValue200,t127:=Tryz.underlying253,a127:=Tryz.isAgg253,z127:=Tryz.sizeOf253,v127:=Tryz.zeroValue253,t146:=Tryz.underlying248,a146:=Tryz.isAgg248,z146:=Tryz.sizeOf248,v146:=Tryz.zeroValue248,t148:=Tryz.underlying251,a148:=Tryz.isAgg251,z148:=Tryz.sizeOf251,v148:=Tryz.zeroValue251,t164:=Tryz.underlying275,a164:=Tryz.isAgg275,z164:=Tryz.sizeOf275,v164:=Tryz.zeroValue275 }
theorem Tryz.Builder_Extra_105:Builder.Extra Tryz.prog Tryz.lays105_ren:={ sizeBuilder:=by kernel_rfl,liesBuilder:=by kernel_rfl,t5:=Tryz.underlying5,a5:=Tryz.isAgg5,z5:=Tryz.sizeOf5,v5:=Tryz.zeroValue5,infoByte:=by kernel_rfl,cellsByte:=by kernel_rfl,sizeByte:=by kernel_rfl,neB5:=by decide }
open Go.RowKit Go.Lib in
theorem Tryz.strings_Repeat_main (s:ByteArray) (c:Nat) (w:World) (hc2:2≤c) (hc:c≤9223372036854775807) (hlen:s.size * c≤140737488355328) (h0:0<s.size):Calls Tryz.prog 72 #[.string s,.int .i64 c] w fun e w'=>e=.returned (.string ⟨(Lib.repeatL s.data.toList c).toArray⟩)∧Below w.heap.size w w':=Any.strings_Repeat_main Tryz.lays105 Tryz.Builder_Extra_105 s c w hc2 hc hlen h0
open Go.RowKit Go.Lib in
theorem Tryz.strings_Repeat_zero (s:ByteArray) (w:World):Calls Tryz.prog 72 #[.string s,.int .i64 0] w fun e w'=>e=.returned (.string ⟨#[]⟩)∧w'=w:=Any.strings_Repeat_zero Tryz.lays105 s w
open Go.RowKit Go.Lib in
theorem Tryz.strings_Repeat_one (s:ByteArray) (w:World):Calls Tryz.prog 72 #[.string s,.int .i64 1] w fun e w'=>e=.returned (.string s)∧w'=w:=Any.strings_Repeat_one Tryz.lays105 s w
open Go.RowKit Go.Lib in
theorem Tryz.strings_Repeat (s:ByteArray) (c:Nat) (w:World) (hc:c≤9223372036854775807) (hlen:s.size * c≤140737488355328):Calls Tryz.prog 72 #[.string s,.int .i64 c] w fun e w'=>e=.returned (.string ⟨(Lib.repeatL s.data.toList c).toArray⟩)∧Below w.heap.size w w':=Any.strings_Repeat Tryz.lays105 Tryz.Builder_Extra_105 s c w hc hlen
def Tryz.lays108_ren:Go.Shelf.Ren:=⟨fun | 108=>139 | n=>n,fun | 28=>22 | 3=>3 | 0=>0 | 4=>4 | n=>n,fun | n=>n⟩
theorem Tryz.lays108:Go.Proofs.Lays.n108 Tryz.prog Tryz.lays108_ren:={ mixed:=by kernel_rfl,f108:=Tryz.func139.trans (congrArg some (by kernel_rfl)),t0:=Tryz.underlying0,a0:=Tryz.isAgg0,z0:=Tryz.sizeOf0,v0:=Tryz.zeroValue0,t3:=Tryz.underlying3,a3:=Tryz.isAgg3,z3:=Tryz.sizeOf3,v3:=Tryz.zeroValue3,t4:=Tryz.underlying4,a4:=Tryz.isAgg4,z4:=Tryz.sizeOf4,v4:=Tryz.zeroValue4,t28:=Tryz.underlying22,a28:=Tryz.isAgg22,z28:=Tryz.sizeOf22,v28:=Tryz.zeroValue22 }
open Go.Lib in
theorem Tryz.slices_Index_int (b off n c:Nat) (zs:List Int) (x:Int) (w:World) (hz:n≤zs.length) (hbig:n≤9223372036854775807) (hc : ∀ j,j<zs.length→w.cell? ⟨b,off+j,none⟩=some (.int .i64 (zs.getD j 0))):Calls Tryz.prog 139 #[.slice (some ⟨b,off,none⟩) n c,.int .i64 x] w fun e w'=>e=.returned (.int .i64 (Lib.idxOf (zs.take n) x))∧w'=w:=Any.slices_Index_int Tryz.lays108 b off n c zs x w hz hbig hc
def Tryz.lays111_ren:Go.Shelf.Ren:=⟨fun | 111=>162 | n=>n,fun | 28=>22 | 3=>3 | 4=>4 | 0=>0 | n=>n,fun | n=>n⟩
theorem Tryz.lays111:Go.Proofs.Lays.n111 Tryz.prog Tryz.lays111_ren:={ mixed:=by kernel_rfl,f111:=Tryz.func162.trans (congrArg some (by kernel_rfl)),t0:=Tryz.underlying0,a0:=Tryz.isAgg0,z0:=Tryz.sizeOf0,v0:=Tryz.zeroValue0,t3:=Tryz.underlying3,a3:=Tryz.isAgg3,z3:=Tryz.sizeOf3,v3:=Tryz.zeroValue3,t4:=Tryz.underlying4,a4:=Tryz.isAgg4,z4:=Tryz.sizeOf4,v4:=Tryz.zeroValue4,t28:=Tryz.underlying22,a28:=Tryz.isAgg22,z28:=Tryz.sizeOf22,v28:=Tryz.zeroValue22 }
open Go.RowKit Go.Lib in
theorem Tryz.slices_Equal_int (b1 o1 n c b2 o2 m d:Nat) (xs ys:List Int) (w:World) (hx:n≤xs.length) (hy:m≤ys.length) (hbig:n≤9223372036854775807) (hbig2:m≤9223372036854775807) (hc1 : ∀ j,j<xs.length→w.cell? ⟨b1,o1+j,none⟩=some (.int .i64 (xs.getD j 0))) (hc2 : ∀ j,j<ys.length→w.cell? ⟨b2,o2+j,none⟩=some (.int .i64 (ys.getD j 0))):Calls Tryz.prog 162 #[.slice (some ⟨b1,o1,none⟩) n c,.slice (some ⟨b2,o2,none⟩) m d] w fun e w'=>e=.returned (.bool (xs.take n == ys.take m)) ∧ ∃ q,w'=w.drewN q:=Any.slices_Equal_int Tryz.lays111 b1 o1 n c b2 o2 m d xs ys w hx hy hbig hbig2 hc1 hc2
def Tryz.laysNm215_ren:Go.Shelf.Ren:=⟨fun | 15=>56 | n=>n,fun | 22=>22 | 3=>3 | 4=>4 | n=>n,fun | n=>n⟩
theorem Tryz.laysNm215:Go.Proofs.Lays2.n15 Tryz.prog Tryz.laysNm215_ren:={ mixed:=by kernel_rfl,f15:=Tryz.func56.trans (congrArg some (by kernel_rfl)),t3:=Tryz.underlying3,a3:=Tryz.isAgg3,z3:=Tryz.sizeOf3,v3:=Tryz.zeroValue3,t4:=Tryz.underlying4,a4:=Tryz.isAgg4,z4:=Tryz.sizeOf4,v4:=Tryz.zeroValue4,t22:=Tryz.underlying22,a22:=Tryz.isAgg22,z22:=Tryz.sizeOf22,v22:=Tryz.zeroValue22,i3:=by kernel_rfl }
open Go.RowKit Go.Lib in
theorem Tryz.slices_Clone_int (b off n c:Nat) (zs:List Int) (w:World) (hz:n≤zs.length) (hbig:n * 8≤140737488355328) (hc : ∀ j,j<zs.length→w.cell? ⟨b,off+j,none⟩=some (.int .i64 (zs.getD j 0))):Calls Tryz.prog 56 #[.slice (some ⟨b,off,none⟩) n c] w fun e w' => ∃ v',e=.returned v'∧w'.ownsRow w.heap.size 3 1 v' n ((zs.take n).map (Value.int .i64))∧v'≠.slice none 0 0∧Below w.heap.size w w':=Any.slices_Clone_int Tryz.laysNm215 b off n c zs w hz hbig hc
def Tryz.laysNm216_ren:Go.Shelf.Ren:=⟨fun | 16=>177 | n=>n,fun | 24=>65 | 9=>9 | 4=>4 | n=>n,fun | n=>n⟩
theorem Tryz.laysNm216:Go.Proofs.Lays2.n16 Tryz.prog Tryz.laysNm216_ren:={ mixed:=by kernel_rfl,f16:=Tryz.func177.trans (congrArg some (by kernel_rfl)),t4:=Tryz.underlying4,a4:=Tryz.isAgg4,z4:=Tryz.sizeOf4,v4:=Tryz.zeroValue4,t9:=Tryz.underlying9,a9:=Tryz.isAgg9,z9:=Tryz.sizeOf9,v9:=Tryz.zeroValue9,t24:=Tryz.underlying65,a24:=Tryz.isAgg65,z24:=Tryz.sizeOf65,v24:=Tryz.zeroValue65,i9:=by kernel_rfl }
open Go.RowKit Go.Lib in
theorem Tryz.slices_Clone_string (b off n c:Nat) (zs:List ByteArray) (w:World) (hz:n≤zs.length) (hbig:n * 16≤140737488355328) (hc : ∀ j,j<zs.length→w.cell? ⟨b,off+j,none⟩=some (.string (zs.getD j ByteArray.empty))):Calls Tryz.prog 177 #[.slice (some ⟨b,off,none⟩) n c] w fun e w' => ∃ v',e=.returned v'∧w'.ownsRow w.heap.size 9 1 v' n ((zs.take n).map (Value.string))∧v'≠.slice none 0 0∧Below w.heap.size w w':=Any.slices_Clone_string Tryz.laysNm216 b off n c zs w hz hbig hc
end Go.Proofs
namespace Go.Proofs.YtcfdenckiigdaaaGreat
end Go.Proofs.YtcfdenckiigdaaaGreat

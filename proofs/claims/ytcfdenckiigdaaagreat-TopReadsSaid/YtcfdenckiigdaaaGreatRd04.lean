/- Part 4 of the contracts. -/
import Derived.Shelf.Slices.Clone
import Derived.Shelf.Slices.Empties2
import Derived.Shelf.Slices.Turned
import Derived.Shelf.SlicesE.Clone
import Derived.Shelf.Strings.Builder2Cap
import Derived.Shelf.Strings.BuilderK
import Derived.Shelf.Strings.Repeat
import Derived.Shelf.Strings.Shaped
import Derived.Test.YtcfdenckiigdaaaGreatRd03
set_option linter.unusedVariables false
set_option maxRecDepth 100000
set_option maxHeartbeats 4000000
namespace Go.Proofs.YtcfdenckiigdaaaGreat
open Tryz Go.RowKit
def ag.eM (m:ag) (i:Int):Int :=
 if m.op.byte=159 then (if i % 3=0 then 239 else if i % 3=1 then 64 else 12)
 else if m.op.byte=5 then m.first
 else if m.op.byte=53 then m.second
 else if m.op.byte=90 then ((bt bn ((m.addr+i) % 32).toNat).toNat:Int)
 else ((bt m.cells ((m.addr+i) % 4096).toNat).toNat:Int)
def ag.next (m:ag):ag:=if m.left=0 then { m with now:=m.eM m.told,left:=many m.op.data,told:=m.told+1 } else m
def bitsOf (now data left:Int):Int:=if data=1 then 13+2 * (now / 2 ^ left.toNat % 2) else now / 16 ^ left.toNat % 16
def ag.bU (m:ag):Int×ag:=(bitsOf m.next.now m.op.data (m.next.left - 1),{ m.next with left:=m.next.left - 1 })
def ag.dd (m:ag) (x bW:Int):ag:={ m with cM:=aS m.cM x bW,left:=m.left - 1 }
def ag.sC (m:ag) (x:Int):ag:=if m.left - 1=0 then (m.dd x 1).cT (aS m.cM x 1) else m.dd x 1
def ag.sD (m:ag) (x:Int):ag:=if m.left - 1=0 then ag.behind { m.dd x m.op.addr with addr:=aS m.cM x m.op.addr % 4096 } else m.dd x m.op.addr
def ag.sE (m:ag) (x:Int):ag:=if m.left - 1=0 then ag.behind { m.dd x m.op.addr with mode:=aS m.cM x m.op.addr,cJ:=true } else m.dd x m.op.addr
def ag.uL (m:ag):ag:=if m.left - 1=0 then ag.behind { m with left:=m.left - 1 } else { m with left:=m.left - 1 }
def ag.sF (m:ag) (x:Int):ag:=if m.left - 1=0 then ag.behind { m.dd x m.op.data with data:=m.data++[aS m.cM x m.op.data] } else m.dd x m.op.data
def ag.step (m:ag) (x:Int):Int×ag :=
 if m.ay=0 then (15,m.sC x) else if m.ay=2 then (15,m.sD x) else if m.ay=3 then (15,m.sE x) else if m.ay=4 then (15,m.uL)
 else if m.ay=5 then (15,m.sF x) else if m.ay=6 then m.bU else if m.ay=7 then (15,{ m with beyond:=true }) else (15,m)
def ag.clock (m:ag) (x:Int):Int×ag:=if m.pass.dP=true then m.pass.step x else (15,m.pass)
def lX (cM L left:Int):Prop:=(L=1∨L=4)∧1≤left∧0≤cM∧L * left≤24∧cM<2 ^ (24 - L * left).toNat
structure ag.uV (m:ag) (n:Nat):Prop where
 ok:m.Ok
 mN:0≤m.told
 lT:m.told≤n
 data:m.data.length≤n
 kY:0≤m.op.dummy
 kl:m.op.dummy≤8
 vg:0≤m.now
 vh:m.now<256
structure ag.Part (m:ag):Prop where
 kv:0≤m.left
 ll:m.left≤24
 LY:m.ay=0→lX m.cM 1 m.left
 jM:m.ay=2→lX m.cM m.op.addr m.left
 LZ:m.ay=3→lX m.cM m.op.addr m.left
 cC:m.ay=4→1≤m.left
 mq:m.ay=5→lX m.cM m.op.data m.left
 km:m.ay=6→(m.op.data=1∨m.op.data=4)∧m.op.data * m.left≤8
structure ag.Fit (m:ag) (n:Nat):Prop where
 base:m.uV n
 part:m.Part
theorem oR (b:Int):0≤(ak b).dummy∧(ak b).dummy≤8:=by
 by_cases h : ∀ k ∈ gZ,b≠k
 ·
  rw [show ak b=gD.zero by simp [ak,nB b h]];decide
 ·
  simp only [gZ,List.mem_cons,List.not_mem_nil,or_false,forall_eq_or_imp,forall_eq,ne_eq] at h
  by_cases h1:b=1;· subst h1;decide
  by_cases h2:b=2;· subst h2;decide
  by_cases h3:b=3;· subst h3;decide
  by_cases h4:b=4;· subst h4;decide
  by_cases h5:b=5;· subst h5;decide
  by_cases h6:b=6;· subst h6;decide
  by_cases h7:b=32;· subst h7;decide
  by_cases h8:b=53;· subst h8;decide
  by_cases h9:b=90;· subst h9;decide
  by_cases h10:b=107;· subst h10;decide
  by_cases h11:b=117;· subst h11;decide
  by_cases h12:b=122;· subst h12;decide
  by_cases h13:b=159;· subst h13;decide
  by_cases h14:b=235;· subst h14;decide
  exact absurd ⟨h1,h2,h3,h4,h5,h6,h7,h8,h9,h10,h11,h12,h13,h14⟩ h
theorem nd (m:ag) (i:Int):0≤m.eM i∧m.eM i<256:=by
 unfold ag.eM
 split
 ·
  split;decide;split <;> decide
 ·
  split
  ·
   unfold ag.first D3;cases m.bQ <;> cases m.en <;> cases m.bq <;> decide
  ·
   split
   ·
    unfold ag.second yZ;cases m.bk <;> cases m.pR <;> decide
   ·
    split
    ·
     have:=(bt bn ((m.addr+i) % 32).toNat).toNat_lt;omega
    ·
     have:=(bt m.cells ((m.addr+i) % 4096).toNat).toNat_lt;omega
theorem rU (m:ag):m.pass.op=m.op∧m.pass.ay=m.ay∧m.pass.left=m.left∧m.pass.cM=m.cM∧m.pass.addr=m.addr∧m.pass.mode=m.mode∧m.pass.cJ=m.cJ∧m.pass.data=m.data∧m.pass.told=m.told∧m.pass.now=m.now∧m.pass.beyond=m.beyond∧m.pass.dP=m.dP∧m.pass.bq=m.bq∧m.pass.bk=m.bk∧m.pass.aD=m.aD∧m.pass.busy=m.busy:=by
 unfold ag.pass
 cases m.aZ with
 | none=>exact ⟨rfl,rfl,rfl,rfl,rfl,rfl,rfl,rfl,rfl,rfl,rfl,rfl,rfl,rfl,rfl,rfl⟩
 | some j =>
  simp only
  split
  ·
   exact ⟨rfl,rfl,rfl,rfl,rfl,rfl,rfl,rfl,rfl,rfl,rfl,rfl,rfl,rfl,rfl,rfl⟩
  ·
   split <;> exact ⟨rfl,rfl,rfl,rfl,rfl,rfl,rfl,rfl,rfl,rfl,rfl,rfl,rfl,rfl,rfl,rfl⟩
theorem LQ {m:ag} (ok:m.Ok):m.pass.Ok:=by
 obtain ⟨e1,e2,e3,e4,e5,e6,e7,e8,e9,_⟩:=rU m
 refine ⟨?_,?_,by rw [e5];exact ok.fU,by rw [e5];exact ok.gE,by rw [e1];exact ok.op,by rw [e8];exact ok.data⟩
 ·
  unfold ag.pass
  cases m.aZ with
  | none=>exact ok.size
  | some j =>
   simp only
   split
   ·
    exact ok.size
   ·
    split
    ·
     exact (yx _ _ _).trans ok.size
    ·
     exact ok.size
 ·
  intro x hx
  unfold ag.pass at hx
  cases hj:m.aZ with
  | none=>rw [hj] at hx;simp only at hx;rw [hj] at hx;cases hx
  | some j =>
   have hok:=ok.aZ j hj
   rw [hj] at hx
   simp only at hx
   split at hx
   ·
    rw [hj] at hx;obtain rfl:j=x:=by simpa using hx
    exact hok
   ·
    split at hx
    ·
     cases hx
    ·
     obtain rfl:({ j with left:=j.left - 1 }:iC)=x:=by simpa using hx
     exact ⟨hok.1,by show 1≤j.left - 1;omega,by show j.left - 1≤4096;have:=hok.2.2;omega⟩
theorem rV {m:ag} {n:Nat} (h:m.Fit n):m.pass.Fit n:=by
 obtain ⟨e1,e2,e3,e4,e5,e6,e7,e8,e9,e10,_⟩:=rU m
 have c:=h.base
 have p:=h.part
 exact ⟨⟨LQ c.ok,by rw [e9];exact c.mN,by rw [e9];exact c.lT,by rw [e8];exact c.data,by rw [e1];exact c.kY,by rw [e1];exact c.kl,by rw [e10];exact c.vg,by rw [e10];exact c.vh⟩,⟨by rw [e3];exact p.kv,by rw [e3];exact p.ll,by rw [e2,e3,e4];exact p.LY,by rw [e1,e2,e3,e4];exact p.jM,by rw [e1,e2,e3,e4];exact p.LZ,by rw [e2,e3];exact p.cC,by rw [e1,e2,e3,e4];exact p.mq,by rw [e1,e2,e3];exact p.km⟩⟩
theorem vN {cM L left x:Int} (h:lX cM L left) (hl:left - 1≠0):lX (aS cM x L) L (left - 1):=by
 obtain ⟨h1,h2,h3,h4,h5⟩:=h
 unfold aS
 rcases h1 with rfl | rfl
 ·
  rw [if_pos rfl]
  have e:(24 - 1 * (left - 1)).toNat=(24 - 1 * left).toNat+1:=by omega
  refine ⟨.inl rfl,by omega,by omega,by omega,?_⟩
  rw [e,Int.pow_succ];omega
 ·
  rw [if_neg (by decide)]
  have e:(24 - 4 * (left - 1)).toNat=(24 - 4 * left).toNat+4:=by omega
  refine ⟨.inr rfl,by omega,by omega,by omega,?_⟩
  rw [e,Int.pow_succ,Int.pow_succ,Int.pow_succ,Int.pow_succ];omega
theorem kj {cM L left x:Int} (h:lX cM L left):0≤aS cM x L:=by
 obtain ⟨h1,h2,h3,h4,h5⟩:=h
 unfold aS
 split <;> omega
theorem No (k:Nat) (h:k≤24):(2:Int) ^ k≤16777216:=by
 have:(2:Nat) ^ k≤2 ^ 24:=Nat.pow_le_pow_right (by decide) h
 have e:((2 ^ k:Nat):Int)=(2:Int) ^ k:=by norm_cast
 have e2:(2:Nat) ^ 24=16777216:=by decide
 rw [← e];omega
theorem vM {cM L left:Int} (h:lX cM L left):cM<16777216:=by
 obtain ⟨h1,h2,h3,h4,h5⟩:=h
 have:=No (24 - L * left).toNat (by rcases h1 with rfl | rfl <;> omega)
 omega
theorem ag.Ok.enter {m:ag} (h:m.Ok) (st cl:Int):(m.enter st cl).Ok:=⟨h.size,h.aZ,h.fU,h.gE,h.op,h.data⟩
theorem iQ {m:ag} {n:Nat} (h:m.uV n) (st cl:Int):(m.enter st cl).uV n:=⟨h.ok.enter st cl,h.mN,h.lT,h.data,h.kY,h.kl,h.vg,h.vh⟩
theorem Dx (L cl:Int) (hL:L=1∨L=4) (h1:1≤cl) (h:L * cl≤24):lX 0 L cl:=⟨hL,h1,Int.le_refl _,h,by
 have:0<(2:Int) ^ (24 - L * cl).toNat:=Int.pow_pos (by decide)
 exact this⟩
theorem kT {m:ag} {n:Nat} (h:m.uV n):m.behind.Fit n:=by
 obtain ⟨o1,o2,o3,o4⟩:=h.ok.op
 have hd:=h.kl
 unfold ag.behind
 split
 ·
  rename_i hm
  obtain ⟨a4,d4⟩:=o3 hm.1
  have e:many m.op.addr=2:=by rw [a4];rfl
  rw [e]
  exact ⟨iQ h _ _,⟨by show (0:Int)≤2;decide,by show (2:Int)≤24;decide,fun e=>absurd e (by show ¬ (3:Int)=0;decide),fun e=>absurd e (by show ¬ (3:Int)=2;decide),fun _=>Dx m.op.addr 2 (.inr a4) (by decide) (by rw [a4];decide),fun e=>absurd e (by show ¬ (3:Int)=4;decide),fun e=>absurd e (by show ¬ (3:Int)=5;decide),fun e=>absurd e (by show ¬ (3:Int)=6;decide)⟩⟩
 ·
  split
  ·
   rename_i hd'
   exact ⟨iQ h _ _,⟨by show 0≤m.op.dummy;omega,by show m.op.dummy≤24;omega,fun e=>absurd e (by show ¬ (4:Int)=0;decide),fun e=>absurd e (by show ¬ (4:Int)=2;decide),fun e=>absurd e (by show ¬ (4:Int)=3;decide),fun _=>(by show 1≤m.op.dummy;omega),fun e=>absurd e (by show ¬ (4:Int)=5;decide),fun e=>absurd e (by show ¬ (4:Int)=6;decide)⟩⟩
  ·
   split
   ·
    exact ⟨iQ h _ _,⟨by show (0:Int)≤0;decide,by show (0:Int)≤24;decide,fun e=>absurd e (by show ¬ (7:Int)=0;decide),fun e=>absurd e (by show ¬ (7:Int)=2;decide),fun e=>absurd e (by show ¬ (7:Int)=3;decide),fun e=>absurd e (by show ¬ (7:Int)=4;decide),fun e=>absurd e (by show ¬ (7:Int)=5;decide),fun e=>absurd e (by show ¬ (7:Int)=6;decide)⟩⟩
   ·
    rename_i hdat
    split
    ·
     rename_i hi
     have d1:=o4 hi
     have e:many m.op.data=8:=by rw [d1];rfl
     rw [e]
     exact ⟨iQ h _ _,⟨by show (0:Int)≤8;decide,by show (8:Int)≤24;decide,fun e=>absurd e (by show ¬ (5:Int)=0;decide),fun e=>absurd e (by show ¬ (5:Int)=2;decide),fun e=>absurd e (by show ¬ (5:Int)=3;decide),fun e=>absurd e (by show ¬ (5:Int)=4;decide),fun _=>Dx m.op.data 8 (.inl d1) (by decide) (by rw [d1];decide),fun e=>absurd e (by show ¬ (5:Int)=6;decide)⟩⟩
    ·
     exact ⟨iQ h _ _,⟨by show (0:Int)≤0;decide,by show (0:Int)≤24;decide,fun e=>absurd e (by show ¬ (6:Int)=0;decide),fun e=>absurd e (by show ¬ (6:Int)=2;decide),fun e=>absurd e (by show ¬ (6:Int)=3;decide),fun e=>absurd e (by show ¬ (6:Int)=4;decide),fun e=>absurd e (by show ¬ (6:Int)=5;decide),fun _=>⟨by show m.op.data=1∨m.op.data=4;omega,by show m.op.data * 0≤8;omega⟩⟩⟩
theorem LO {m:ag} {n:Nat} (h:m.uV n) (b:Int):({ m with op:=ak b }:ag).uV n :=
 ⟨⟨h.ok.size,h.ok.aZ,h.ok.fU,h.ok.gE,rP b,h.ok.data⟩,h.mN,h.lT,h.data,(oR b).1,(oR b).2,h.vg,h.vh⟩
theorem we {m:ag} {n:Nat} (h:m.uV n) (b:Int):(m.cT b).Fit n:=by
 unfold ag.cT
 have hb:=LO h b
 split
 ·
  exact ⟨iQ hb _ _,⟨by show (0:Int)≤0;decide,by show (0:Int)≤24;decide,fun e=>absurd e (by show ¬ (1:Int)=0;decide),fun e=>absurd e (by show ¬ (1:Int)=2;decide),fun e=>absurd e (by show ¬ (1:Int)=3;decide),fun e=>absurd e (by show ¬ (1:Int)=4;decide),fun e=>absurd e (by show ¬ (1:Int)=5;decide),fun e=>absurd e (by show ¬ (1:Int)=6;decide)⟩⟩
 ·
  split
  ·
   rename_i ha
   have o1:=(rP b).1
   refine ⟨iQ hb _ _,⟨by show (0:Int)≤if (ak b).addr=1 then 24 else 6;split <;> decide,by show (if (ak b).addr=1 then (24:Int) else 6)≤24;split <;> decide,fun e=>absurd e (by show ¬ (2:Int)=0;decide),fun _ => ?_,fun e=>absurd e (by show ¬ (2:Int)=3;decide),fun e=>absurd e (by show ¬ (2:Int)=4;decide),fun e=>absurd e (by show ¬ (2:Int)=5;decide),fun e=>absurd e (by show ¬ (2:Int)=6;decide)⟩⟩
   show lX 0 (ak b).addr (if (ak b).addr=1 then 24 else 6)
   have:(ak b).addr=1∨(ak b).addr=4:=by omega
   rcases this with e | e
   ·
    rw [e,if_pos rfl];exact Dx 1 24 (.inl rfl) (by decide) (by decide)
   ·
    rw [e,if_neg (by decide)];exact Dx 4 6 (.inr rfl) (by decide) (by decide)
  ·
   exact kT hb
theorem yW {m:ag} {n k:Nat} (h:m.uV n) (hk:n≤k):m.uV k:=⟨h.ok,h.mN,by have:=h.lT;omega,by have:=h.data;omega,h.kY,h.kl,h.vg,h.vh⟩
theorem gG {m:ag} {n:Nat} (h:m.uV n) (x l:Int):(m.dd x l).uV n:=⟨⟨h.ok.size,h.ok.aZ,h.ok.fU,h.ok.gE,h.ok.op,h.ok.data⟩,h.mN,h.lT,h.data,h.kY,h.kl,h.vg,h.vh⟩
theorem Kq {m:ag} {n:Nat} (h:m.Fit n) (x:Int) (hn:n<1099511627776):(m.step x).2.Fit (n+1):=by
 have hb:=h.base
 have p:=h.part
 have B:=yW hb (Nat.le_succ n)
 have l0:=p.kv
 have l1:=p.ll
 unfold ag.step
 split
 ·
  rename_i hs
  have t:=p.LY hs
  unfold ag.sC
  split
  ·
   exact we (gG B x 1) _
  ·
   rename_i hl
   have t1:=vN (x:=x) t hl
   exact ⟨gG B x 1,⟨by show 0≤m.left - 1;have:=t1.2.1;omega,by show m.left - 1≤24;omega,fun _=>t1,fun e=>absurd (hs.symm.trans e) (by decide),fun e=>absurd (hs.symm.trans e) (by decide),fun e=>absurd (hs.symm.trans e) (by decide),fun e=>absurd (hs.symm.trans e) (by decide),fun e=>absurd (hs.symm.trans e) (by decide)⟩⟩
 split
 ·
  rename_i hs
  have t:=p.jM hs
  unfold ag.sD
  split
  ·
   have B':=gG B x m.op.addr
   have:=kj (x:=x) t
   exact kT ⟨⟨B'.ok.size,B'.ok.aZ,by show 0≤aS m.cM x m.op.addr % 4096;omega,by show aS m.cM x m.op.addr % 4096<4096;omega,B'.ok.op,B'.ok.data⟩,B'.mN,B'.lT,B'.data,B'.kY,B'.kl,B'.vg,B'.vh⟩
  ·
   rename_i hl
   have t1:=vN (x:=x) t hl
   exact ⟨gG B x _,⟨by show 0≤m.left - 1;have:=t1.2.1;omega,by show m.left - 1≤24;omega,fun e=>absurd (hs.symm.trans e) (by decide),fun _=>t1,fun e=>absurd (hs.symm.trans e) (by decide),fun e=>absurd (hs.symm.trans e) (by decide),fun e=>absurd (hs.symm.trans e) (by decide),fun e=>absurd (hs.symm.trans e) (by decide)⟩⟩
 split
 ·
  rename_i hs
  have t:=p.LZ hs
  unfold ag.sE
  split
  ·
   have B':=gG B x m.op.addr
   exact kT ⟨⟨B'.ok.size,B'.ok.aZ,B'.ok.fU,B'.ok.gE,B'.ok.op,B'.ok.data⟩,B'.mN,B'.lT,B'.data,B'.kY,B'.kl,B'.vg,B'.vh⟩
  ·
   rename_i hl
   have t1:=vN (x:=x) t hl
   exact ⟨gG B x _,⟨by show 0≤m.left - 1;have:=t1.2.1;omega,by show m.left - 1≤24;omega,fun e=>absurd (hs.symm.trans e) (by decide),fun e=>absurd (hs.symm.trans e) (by decide),fun _=>t1,fun e=>absurd (hs.symm.trans e) (by decide),fun e=>absurd (hs.symm.trans e) (by decide),fun e=>absurd (hs.symm.trans e) (by decide)⟩⟩
 split
 ·
  rename_i hs
  have t:=p.cC hs
  have B':({ m with left:=m.left - 1 }:ag).uV (n+1):=⟨⟨B.ok.size,B.ok.aZ,B.ok.fU,B.ok.gE,B.ok.op,B.ok.data⟩,B.mN,B.lT,B.data,B.kY,B.kl,B.vg,B.vh⟩
  unfold ag.uL
  split
  ·
   exact kT B'
  ·
   exact ⟨B',⟨by show 0≤m.left - 1;omega,by show m.left - 1≤24;omega,fun e=>absurd (hs.symm.trans e) (by decide),fun e=>absurd (hs.symm.trans e) (by decide),fun e=>absurd (hs.symm.trans e) (by decide),fun _=>(by show 1≤m.left - 1;omega),fun e=>absurd (hs.symm.trans e) (by decide),fun e=>absurd (hs.symm.trans e) (by decide)⟩⟩
 split
 ·
  rename_i hs
  have t:=p.mq hs
  unfold ag.sF
  split
  ·
   have B':=gG hb x m.op.data
   have hlen:(m.data++[aS m.cM x m.op.data]).length≤n+1:=by have:=hb.data;simp;omega
   exact kT ⟨⟨B'.ok.size,B'.ok.aZ,B'.ok.fU,B'.ok.gE,B'.ok.op,by show (m.data++[aS m.cM x m.op.data]).length≤_;omega⟩,B'.mN,by have:=B'.lT;show m.told≤_;have e:m.told≤n:=this;omega,hlen,B'.kY,B'.kl,B'.vg,B'.vh⟩
  ·
   rename_i hl
   have t1:=vN (x:=x) t hl
   exact ⟨gG B x _,⟨by show 0≤m.left - 1;have:=t1.2.1;omega,by show m.left - 1≤24;omega,fun e=>absurd (hs.symm.trans e) (by decide),fun e=>absurd (hs.symm.trans e) (by decide),fun e=>absurd (hs.symm.trans e) (by decide),fun e=>absurd (hs.symm.trans e) (by decide),fun _=>t1,fun e=>absurd (hs.symm.trans e) (by decide)⟩⟩
 split
 ·
  rename_i hs
  obtain ⟨hd,hm⟩:=p.km hs
  have hbr:=nd m m.told
  unfold ag.bU
  show ({ m.next with left:=m.next.left - 1 }:ag).Fit (n+1)
  unfold ag.next
  split
  ·
   rename_i hl
   have hmm:many m.op.data=8∧m.op.data=1∨many m.op.data=2∧m.op.data=4:=by rcases hd with e | e <;> rw [e] <;> decide
   refine ⟨⟨⟨B.ok.size,B.ok.aZ,B.ok.fU,B.ok.gE,B.ok.op,B.ok.data⟩,by show 0≤m.told+1;have:=hb.mN;omega,by show m.told+1≤_;have:=hb.lT;push_cast;omega,B.data,B.kY,B.kl,hbr.1,hbr.2⟩,?_⟩
   refine ⟨by show 0≤many m.op.data - 1;omega,by show many m.op.data - 1≤24;omega,fun e=>absurd (hs.symm.trans e) (by decide),fun e=>absurd (hs.symm.trans e) (by decide),fun e=>absurd (hs.symm.trans e) (by decide),fun e=>absurd (hs.symm.trans e) (by decide),fun e=>absurd (hs.symm.trans e) (by decide),fun _=>⟨hd,?_⟩⟩
   show m.op.data * (many m.op.data - 1)≤8
   rcases hmm with ⟨e1,e2⟩ | ⟨e1,e2⟩ <;> rw [e1,e2] <;> decide
  ·
   refine ⟨⟨⟨B.ok.size,B.ok.aZ,B.ok.fU,B.ok.gE,B.ok.op,B.ok.data⟩,B.mN,B.lT,B.data,B.kY,B.kl,B.vg,B.vh⟩,?_⟩
   refine ⟨by show 0≤m.left - 1;omega,by show m.left - 1≤24;omega,fun e=>absurd (hs.symm.trans e) (by decide),fun e=>absurd (hs.symm.trans e) (by decide),fun e=>absurd (hs.symm.trans e) (by decide),fun e=>absurd (hs.symm.trans e) (by decide),fun e=>absurd (hs.symm.trans e) (by decide),fun _=>⟨hd,?_⟩⟩
   show m.op.data * (m.left - 1)≤8
   rcases hd with e | e <;> rw [e] at hm ⊢ <;> omega
 split
 ·
  exact ⟨⟨⟨B.ok.size,B.ok.aZ,B.ok.fU,B.ok.gE,B.ok.op,B.ok.data⟩,B.mN,B.lT,B.data,B.kY,B.kl,B.vg,B.vh⟩,⟨p.kv,p.ll,p.LY,p.jM,p.LZ,p.cC,p.mq,p.km⟩⟩
 ·
  exact ⟨B,p⟩
theorem JA {m:ag} {n k:Nat} (h:m.Fit n) (hk:n≤k):m.Fit k:=⟨yW h.base hk,h.part⟩
theorem GS {m:ag} {n:Nat} (h:m.Fit n) (x:Int) (hn:n<1099511627776):(m.clock x).2.Fit (n+1):=by
 unfold ag.clock
 split
 ·
  exact Kq (rV h) x hn
 ·
  exact JA (rV h) (Nat.le_succ n)
theorem zw {m:ag} (ok:m.Ok) (n:Nat):m.fresh.Fit n :=
 ⟨⟨⟨ok.size,ok.aZ,by show (0:Int)≤0;decide,by show (0:Int)<4096;decide,by show AI gD.zero;decide,by show ([]:List Int).length≤_;simp⟩,by show (0:Int)≤0;decide,by show (0:Int)≤n;omega,Nat.zero_le _,by show (0:Int)≤0;decide,by show (0:Int)≤8;decide,by show (0:Int)≤0;decide,by show (0:Int)<256;decide⟩,⟨by show (0:Int)≤8;decide,by show (8:Int)≤24;decide,fun _=>Dx 1 8 (.inl rfl) (by decide) (by decide),fun e=>absurd e (by show ¬ (0:Int)=2;decide),fun e=>absurd e (by show ¬ (0:Int)=3;decide),fun e=>absurd e (by show ¬ (0:Int)=4;decide),fun e=>absurd e (by show ¬ (0:Int)=5;decide),fun e=>absurd e (by show ¬ (0:Int)=6;decide)⟩⟩
theorem xS {m:ag} (ok:m.Ok) (n:Nat):m.select.Fit n:=by
 unfold ag.select
 split
 ·
  exact we (zw ok n).base _
 ·
  exact zw ok n
end Go.Proofs.YtcfdenckiigdaaaGreat
namespace Go.Proofs
open Go.Shelf
def Tryz.CI:Go.Shelf.Ren:=⟨fun | 144=>85 | 143=>122 | 219=>160 | 217=>188 | 225=>189 | 224=>190 | 267=>191 | 266=>200 | 314=>201 | n=>n,fun | 9=>9 | 4=>4 | 3=>3 | 5=>5 | 46=>28 | 146=>248 | 51=>114 | n=>n,fun | 1=>0 | n=>n⟩
theorem Tryz.Lt:Go.Proofs.Lays.n144 prog Tryz.CI:={ mixed:=by kernel_rfl,f143:=func122.trans (congrArg some (by kernel_rfl)),f144:=func85.trans (congrArg some (by kernel_rfl)),f217:=func188.trans (congrArg some (by kernel_rfl)),f219:=func160.trans (congrArg some (by kernel_rfl)),f224:=func190.trans (congrArg some (by kernel_rfl)),f225:=func189.trans (congrArg some (by kernel_rfl)),f266:=func200.trans (congrArg some (by kernel_rfl)),f267:=func191.trans (congrArg some (by kernel_rfl)),f314:=func201.trans (congrArg some (by kernel_rfl)),t3:=underlying3,a3:=Tryz.isAgg3,z3:=Tryz.sizeOf3,v3:=Tryz.zeroValue3,t4:=underlying4,a4:=Tryz.isAgg4,z4:=Tryz.sizeOf4,v4:=Tryz.zeroValue4,t5:=underlying5,a5:=Tryz.isAgg5,z5:=Tryz.sizeOf5,v5:=Tryz.zeroValue5,t9:=underlying9,a9:=Tryz.isAgg9,z9:=Tryz.sizeOf9,v9:=Tryz.zeroValue9,t46:=underlying28,a46:=Tryz.isAgg28,z46:=Tryz.sizeOf28,v46:=Tryz.zeroValue28,t51:=underlying114,a51:=Tryz.isAgg114,z51:=Tryz.sizeOf114,v51:=Tryz.zeroValue114,t146:=underlying248,a146:=Tryz.isAgg248,z146:=Tryz.sizeOf248,v146:=Tryz.zeroValue248,g1:=by kernel_rfl }
open Go.RowKit Go.Lib in
theorem Tryz.strings_Contains_one (s:ByteArray) (c:UInt8) (w:World):Calls prog 85 #[.string s,.string ⟨#[c]⟩] w fun e w'=>e=.returned (.bool (decide (0≤Lib.indexByte s.data.toList c)))∧w'=w:=Any.strings_Contains_one Tryz.Lt s c w
def Tryz.CJ:Go.Shelf.Ren:=⟨fun | 212=>105 | 263=>148 | 264=>149 | n=>n,fun | 46=>28 | 51=>114 | 146=>248 | 53=>250 | 148=>251 | n=>n,fun | n=>n⟩
theorem Tryz.Lu:Go.Proofs.Lays.n212 prog Tryz.CJ:={ mixed:=by kernel_rfl,f212:=func105.trans (congrArg some (by kernel_rfl)),f263:=func148.trans (congrArg some (by kernel_rfl)),f264:=func149.trans (congrArg some (by kernel_rfl)),t46:=underlying28,a46:=Tryz.isAgg28,z46:=Tryz.sizeOf28,v46:=Tryz.zeroValue28,t51:=underlying114,a51:=Tryz.isAgg114,z51:=Tryz.sizeOf114,v51:=Tryz.zeroValue114,t53:=underlying250,a53:=Tryz.isAgg250,z53:=Tryz.sizeOf250,v53:=Tryz.zeroValue250,t146:=underlying248,a146:=Tryz.isAgg248,z146:=Tryz.sizeOf248,v146:=Tryz.zeroValue248,t148:=underlying251,a148:=Tryz.isAgg251,z148:=Tryz.sizeOf251,v148:=Tryz.zeroValue251 }
open Go.RowKit Go.Lib in
theorem Tryz.bits_Mul (x y:Nat) (hx:x<18446744073709551616) (hy:y<18446744073709551616) (w:World):Calls prog 105 #[.int .u64 x,.int .u64 y] w fun e w'=>e=.returned (.tuple #[.int .u64 ((x * y / 18446744073709551616:Nat):Int),.int .u64 ((x * y % 18446744073709551616:Nat):Int)])∧w'=w:=Any.bits_Mul Tryz.Lu x y hx hy w
def Tryz.uq:Go.Shelf.Ren:=⟨fun | 105=>72 | 212=>105 | 99=>106 | 165=>107 | 166=>108 | 170=>109 | 169=>110 | 263=>148 | 264=>149 | 206=>150 | 240=>151 | 241=>152 | 276=>178 | 277=>179 | n=>n,fun | 9=>9 | 3=>3 | 4=>4 | 20=>20 | 0=>0 | 46=>28 | 109=>200 | 5=>5 | 72=>204 | 76=>208 | 51=>114 | 146=>248 | 53=>250 | 148=>251 | 70=>202 | 37=>29 | 75=>207 | 127=>253 | 164=>275 | 80=>40 | n=>n,fun | n=>n⟩
theorem Tryz.vF:Go.Proofs.Lays.n105 prog Tryz.uq:={ mixed:=by kernel_rfl,f99:=func106.trans (congrArg some (by kernel_rfl)),f105:=func72.trans (congrArg some (by kernel_rfl)),f165:=func107.trans (congrArg some (by kernel_rfl)),f166:=func108.trans (congrArg some (by kernel_rfl)),f169:=func110.trans (congrArg some (by kernel_rfl)),f170:=func109.trans (congrArg some (by kernel_rfl)),f206:=func150.trans (congrArg some (by kernel_rfl)),f212:=func105.trans (congrArg some (by kernel_rfl)),f240:=func151.trans (congrArg some (by kernel_rfl)),f241:=func152.trans (congrArg some (by kernel_rfl)),f263:=func148.trans (congrArg some (by kernel_rfl)),f264:=func149.trans (congrArg some (by kernel_rfl)),f276:=func178.trans (congrArg some (by kernel_rfl)),f277:=func179.trans (congrArg some (by kernel_rfl)),t0:=underlying0,a0:=Tryz.isAgg0,z0:=Tryz.sizeOf0,v0:=Tryz.zeroValue0,t3:=underlying3,a3:=Tryz.isAgg3,z3:=Tryz.sizeOf3,v3:=Tryz.zeroValue3,t4:=underlying4,a4:=Tryz.isAgg4,z4:=Tryz.sizeOf4,v4:=Tryz.zeroValue4,t5:=underlying5,a5:=Tryz.isAgg5,z5:=Tryz.sizeOf5,v5:=Tryz.zeroValue5,t9:=underlying9,a9:=Tryz.isAgg9,z9:=Tryz.sizeOf9,v9:=Tryz.zeroValue9,t20:=underlying20,a20:=Tryz.isAgg20,z20:=Tryz.sizeOf20,v20:=Tryz.zeroValue20,t37:=underlying29,a37:=Tryz.isAgg29,z37:=Tryz.sizeOf29,v37:=Tryz.zeroValue29,t46:=underlying28,a46:=Tryz.isAgg28,z46:=Tryz.sizeOf28,v46:=Tryz.zeroValue28,t51:=underlying114,a51:=Tryz.isAgg114,z51:=Tryz.sizeOf114,v51:=Tryz.zeroValue114,t53:=underlying250,a53:=Tryz.isAgg250,z53:=Tryz.sizeOf250,v53:=Tryz.zeroValue250,t70:=underlying202,a70:=Tryz.isAgg202,z70:=Tryz.sizeOf202,v70:=Tryz.zeroValue202,t72:=underlying204,a72:=Tryz.isAgg204,z72:=Tryz.sizeOf204,v72:=Tryz.zeroValue204,t75:=underlying207,a75:=Tryz.isAgg207,z75:=Tryz.sizeOf207,v75:=Tryz.zeroValue207,t76:=underlying208,a76:=Tryz.isAgg208,z76:=Tryz.sizeOf208,v76:=Tryz.zeroValue208,t109:=underlying200,a109:=Tryz.isAgg200,z109:=Tryz.sizeOf200,v109:=Tryz.zeroValue200,t127:=underlying253,a127:=Tryz.isAgg253,z127:=Tryz.sizeOf253,v127:=Tryz.zeroValue253,t146:=underlying248,a146:=Tryz.isAgg248,z146:=Tryz.sizeOf248,v146:=Tryz.zeroValue248,t148:=underlying251,a148:=Tryz.isAgg251,z148:=Tryz.sizeOf251,v148:=Tryz.zeroValue251,t164:=underlying275,a164:=Tryz.isAgg275,z164:=Tryz.sizeOf275,v164:=Tryz.zeroValue275 }
theorem Tryz.lJ:Builder.Extra prog Tryz.uq:={ sizeBuilder:=by kernel_rfl,liesBuilder:=by kernel_rfl,t5:=underlying5,a5:=Tryz.isAgg5,z5:=Tryz.sizeOf5,v5:=Tryz.zeroValue5,infoByte:=by kernel_rfl,cellsByte:=by kernel_rfl,sizeByte:=by kernel_rfl,neB5:=by decide }
open Go.RowKit Go.Lib in
theorem Tryz.strings_Repeat_main (s:ByteArray) (c:Nat) (w:World) (hc2:2≤c) (hc:c≤9223372036854775807) (hlen:s.size * c≤140737488355328) (h0:0<s.size):Calls prog 72 #[.string s,.int .i64 c] w fun e w'=>e=.returned (.string ⟨(Lib.repeatL s.data.toList c).toArray⟩)∧Below w.heap.size w w':=Any.strings_Repeat_main Tryz.vF Tryz.lJ s c w hc2 hc hlen h0
open Go.RowKit Go.Lib in
theorem Tryz.strings_Repeat_zero (s:ByteArray) (w:World):Calls prog 72 #[.string s,.int .i64 0] w fun e w'=>e=.returned (.string ⟨#[]⟩)∧w'=w:=Any.strings_Repeat_zero Tryz.vF s w
open Go.RowKit Go.Lib in
theorem Tryz.strings_Repeat_one (s:ByteArray) (w:World):Calls prog 72 #[.string s,.int .i64 1] w fun e w'=>e=.returned (.string s)∧w'=w:=Any.strings_Repeat_one Tryz.vF s w
open Go.RowKit Go.Lib in
theorem Tryz.strings_Repeat (s:ByteArray) (c:Nat) (w:World) (hc:c≤9223372036854775807) (hlen:s.size * c≤140737488355328):Calls prog 72 #[.string s,.int .i64 c] w fun e w'=>e=.returned (.string ⟨(Lib.repeatL s.data.toList c).toArray⟩)∧Below w.heap.size w w':=Any.strings_Repeat Tryz.vF Tryz.lJ s c w hc hlen
def Tryz.CG:Go.Shelf.Ren:=⟨fun | 108=>139 | n=>n,fun | 28=>22 | 3=>3 | 0=>0 | 4=>4 | n=>n,fun | n=>n⟩
theorem Tryz.Lr:Go.Proofs.Lays.n108 prog Tryz.CG:={ mixed:=by kernel_rfl,f108:=func139.trans (congrArg some (by kernel_rfl)),t0:=underlying0,a0:=Tryz.isAgg0,z0:=Tryz.sizeOf0,v0:=Tryz.zeroValue0,t3:=underlying3,a3:=Tryz.isAgg3,z3:=Tryz.sizeOf3,v3:=Tryz.zeroValue3,t4:=underlying4,a4:=Tryz.isAgg4,z4:=Tryz.sizeOf4,v4:=Tryz.zeroValue4,t28:=underlying22,a28:=Tryz.isAgg22,z28:=Tryz.sizeOf22,v28:=Tryz.zeroValue22 }
open Go.Lib in
theorem Tryz.slices_Index_int (b off n c:Nat) (zs:List Int) (x:Int) (w:World) (hz:n≤zs.length) (hbig:n≤9223372036854775807) (hc : ∀ j,j<zs.length→w.cell? ⟨b,off+j,none⟩=some (.int .i64 (zs.getD j 0))):Calls prog 139 #[.slice (some ⟨b,off,none⟩) n c,.int .i64 x] w fun e w'=>e=.returned (.int .i64 (Lib.idxOf (zs.take n) x))∧w'=w:=Any.slices_Index_int Tryz.Lr b off n c zs x w hz hbig hc
def Tryz.CH:Go.Shelf.Ren:=⟨fun | 111=>162 | n=>n,fun | 28=>22 | 3=>3 | 4=>4 | 0=>0 | n=>n,fun | n=>n⟩
theorem Tryz.Ls:Go.Proofs.Lays.n111 prog Tryz.CH:={ mixed:=by kernel_rfl,f111:=func162.trans (congrArg some (by kernel_rfl)),t0:=underlying0,a0:=Tryz.isAgg0,z0:=Tryz.sizeOf0,v0:=Tryz.zeroValue0,t3:=underlying3,a3:=Tryz.isAgg3,z3:=Tryz.sizeOf3,v3:=Tryz.zeroValue3,t4:=underlying4,a4:=Tryz.isAgg4,z4:=Tryz.sizeOf4,v4:=Tryz.zeroValue4,t28:=underlying22,a28:=Tryz.isAgg22,z28:=Tryz.sizeOf22,v28:=Tryz.zeroValue22 }
open Go.RowKit Go.Lib in
theorem Tryz.slices_Equal_int (b1 o1 n c b2 o2 m d:Nat) (xs ys:List Int) (w:World) (hx:n≤xs.length) (hy:m≤ys.length) (hbig:n≤9223372036854775807) (hbig2:m≤9223372036854775807) (hc1 : ∀ j,j<xs.length→w.cell? ⟨b1,o1+j,none⟩=some (.int .i64 (xs.getD j 0))) (hc2 : ∀ j,j<ys.length→w.cell? ⟨b2,o2+j,none⟩=some (.int .i64 (ys.getD j 0))):Calls prog 162 #[.slice (some ⟨b1,o1,none⟩) n c,.slice (some ⟨b2,o2,none⟩) m d] w fun e w'=>e=.returned (.bool (xs.take n == ys.take m)) ∧ ∃ q,w'=w.drewN q:=Any.slices_Equal_int Tryz.Ls b1 o1 n c b2 o2 m d xs ys w hx hy hbig hbig2 hc1 hc2
def Tryz.yy:Go.Shelf.Ren:=⟨fun | 15=>56 | n=>n,fun | 22=>22 | 3=>3 | 4=>4 | n=>n,fun | n=>n⟩
theorem Tryz.Hm:Go.Proofs.Lays2.n15 prog Tryz.yy:={ mixed:=by kernel_rfl,f15:=func56.trans (congrArg some (by kernel_rfl)),t3:=underlying3,a3:=Tryz.isAgg3,z3:=Tryz.sizeOf3,v3:=Tryz.zeroValue3,t4:=underlying4,a4:=Tryz.isAgg4,z4:=Tryz.sizeOf4,v4:=Tryz.zeroValue4,t22:=underlying22,a22:=Tryz.isAgg22,z22:=Tryz.sizeOf22,v22:=Tryz.zeroValue22,i3:=by kernel_rfl }
open Go.RowKit Go.Lib in
theorem Tryz.slices_Clone_int (b off n c:Nat) (zs:List Int) (w:World) (hz:n≤zs.length) (hbig:n * 8≤140737488355328) (hc : ∀ j,j<zs.length→w.cell? ⟨b,off+j,none⟩=some (.int .i64 (zs.getD j 0))):Calls prog 56 #[.slice (some ⟨b,off,none⟩) n c] w fun e w' => ∃ v',e=.returned v'∧w'.ownsRow w.heap.size 3 1 v' n ((zs.take n).map (Value.int .i64))∧v'≠.slice none 0 0∧Below w.heap.size w w':=Any.slices_Clone_int Tryz.Hm b off n c zs w hz hbig hc
def Tryz.yz:Go.Shelf.Ren:=⟨fun | 16=>177 | n=>n,fun | 24=>65 | 9=>9 | 4=>4 | n=>n,fun | n=>n⟩
theorem Tryz.Hn:Go.Proofs.Lays2.n16 prog Tryz.yz:={ mixed:=by kernel_rfl,f16:=func177.trans (congrArg some (by kernel_rfl)),t4:=underlying4,a4:=Tryz.isAgg4,z4:=Tryz.sizeOf4,v4:=Tryz.zeroValue4,t9:=underlying9,a9:=Tryz.isAgg9,z9:=Tryz.sizeOf9,v9:=Tryz.zeroValue9,t24:=underlying65,a24:=Tryz.isAgg65,z24:=Tryz.sizeOf65,v24:=Tryz.zeroValue65,i9:=by kernel_rfl }
open Go.RowKit Go.Lib in
theorem Tryz.slices_Clone_string (b off n c:Nat) (zs:List ByteArray) (w:World) (hz:n≤zs.length) (hbig:n * 16≤140737488355328) (hc : ∀ j,j<zs.length→w.cell? ⟨b,off+j,none⟩=some (.string (zs.getD j ByteArray.empty))):Calls prog 177 #[.slice (some ⟨b,off,none⟩) n c] w fun e w' => ∃ v',e=.returned v'∧w'.ownsRow w.heap.size 9 1 v' n ((zs.take n).map (Value.string))∧v'≠.slice none 0 0∧Below w.heap.size w w':=Any.slices_Clone_string Tryz.Hn b off n c zs w hz hbig hc
end Go.Proofs
namespace Go.Proofs.YtcfdenckiigdaaaGreat
open Tryz Go.RowKit
def lO (x:Nat):ByteArray:=⟨#[UInt8.ofNat x,UInt8.ofNat (x / 256),UInt8.ofNat (x / 65536),UInt8.ofNat (x / 16777216)]⟩
def jr (s:ByteArray):Nat:=(bt s 0).toNat+256 * (bt s 1).toNat+65536 * (bt s 2).toNat+16777216 * (bt s 3).toNat
theorem pM (x:Nat) (w:World) (hx:x<4294967296):Calls prog 116 #[.int .i64 x] w (jj (lO x) w):=by
 have hmk : ∀ w,(Instr.makeSlice 29 (.int .i64 4) (.int .i64 4)).run prog w=.ok (.slice (some ⟨w.heap.size,0,none⟩) 4 4) (w.alloc (.cells (Array.replicate 4 (.int .u8 0)) 5)):=fun _=>by kernel_rfl
 have KB:=zH (fun (w':World) (hc : ∀ j (hj:j<[UInt8.ofNat x,UInt8.ofNat (x / 256),UInt8.ofNat (x / 65536),UInt8.ofNat (x / 16777216)].length),w'.cell? ((⟨w.heap.size,0,none⟩:Addr).add j)=some (.int .u8 ([UInt8.ofNat x,UInt8.ofNat (x / 256),UInt8.ofNat (x / 65536),UInt8.ofNat (x / 16777216)][j].toNat:Int))) =>
  run_convert_bytes_back (P:=prog) w' 29 9 5 ⟨w.heap.size,0,none⟩ 4 _ underlying29 underlying5 underlying9 hc)
 go_enter func116,ntmps116
 go_wp2_with fail
 refine wp_loop_rounds 5 ?_
 iterate 5 (rw [rounds_succ];go_wp2_with fail)
 generalize hW:w.alloc _=w2
 have hb2:Below w.heap.size w w2:=by rw [← hW];exact ae zR _
 have kb:(convert 29 9 (.slice (some ⟨w.heap.size,0,none⟩) 4 4)).run prog w2=.ok (.string (lO x)) w2:=KB.out w2 (by
  intro j hj
  rw [← hW]
  have h4:j<4:=hj
  rw [dh]
  refine (cell_of (af w _) _).trans ?_
  match j,h4 with
  | 0,_=>simp
  | 1,_=>simp
  | 2,_=>simp
  | 3,_=>simp;omega)
 clear hW hmk KB
 rw [kb]
 go_wp2
 go_ret
 exact ⟨rfl,hb2⟩
theorem A9 (a b k:Nat) (hk:k=8∨k=16∨k=24) (ha:a<2 ^ k) (hb:b<256):bits .or .i64 (a:Int) ((b:Int) * (2 ^ k:Nat))=((a+b * 2 ^ k:Nat):Int):=by
 have hp:(2:Nat) ^ k≤16777216:=by rcases hk with rfl | rfl | rfl <;> decide
 have hm:b * 2 ^ k≤255 * 16777216:=Nat.mul_le_mul (by omega) hp
 have e:a ||| b * 2 ^ k=a+b * 2 ^ k:=by
  have:=Nat.two_pow_add_eq_or_of_lt ha b
  rw [Nat.mul_comm b,Nat.or_comm,← this,Nat.add_comm]
 have:=nu a (b * 2 ^ k) (by omega) (by omega)
 rw [e] at this
 rw [← this];push_cast;rfl
theorem kC (s:ByteArray) (w:World) (h:4≤s.size):Calls prog 75 #[.string s] w fun e w'=>e=.returned (.int .i64 (jr s))∧w'=w:=by
 have hb:=fun i=>(bt s i).toNat_lt
 have g0:s[0]'(by omega)=bt s 0:=gT s 0 (by omega)
 have g1:s[1]'(by omega)=bt s 1:=gT s 1 (by omega)
 have g2:s[2]'(by omega)=bt s 2:=gT s 2 (by omega)
 have g3:s[3]'(by omega)=bt s 3:=gT s 3 (by omega)
 have i0:(0:Int)<(s.size:Int):=by omega
 have i1:(1:Int)<(s.size:Int):=by omega
 have i2:(2:Int)<(s.size:Int):=by omega
 have i3:(3:Int)<(s.size:Int):=by omega
 go_enter func75,ntmps75
 go_wp2_with fail
 refine wp_loop_rounds 5 ?_
 iterate 5 (rw [rounds_succ];go_wp2_with fail)
 go_ret
 refine ⟨?_,rfl⟩
 have h0:=hb 0
 have h1:=hb 1
 have h2:=hb 2
 have h3:=hb 3
 clear g0 g1 g2 g3 i0 i1 i2 i3 hb
 unfold jr
 generalize (bt s 0).toNat=b0 at *
 generalize (bt s 1).toNat=b1 at *
 generalize (bt s 2).toNat=b2 at *
 generalize (bt s 3).toNat=b3 at *
 have o0:bits .or .i64 0 (b0:Int)=((b0:Nat):Int):=by have:=nu 0 b0 (by omega) (by omega);simpa using this
 have o1:=A9 b0 b1 8 (by decide) (by omega) (by omega)
 have o2:=A9 (b0+b1 * 256) b2 16 (by decide) (by omega) (by omega)
 have o3:=A9 (b0+b1 * 256+b2 * 65536) b3 24 (by decide) (by omega) (by omega)
 have w0 : ∀ z:Int,0≤z→z<9223372036854775808→wrap64 z=z:=fun z a b=>by unfold wrap64;omega
 simp only [w0 b0 (by omega) (by omega),w0 b1 (by omega) (by omega),w0 b2 (by omega) (by omega),w0 b3 (by omega) (by omega),w0 ((b1:Int) * 256) (by omega) (by omega),w0 ((b2:Int) * 65536) (by omega) (by omega),w0 ((b3:Int) * 16777216) (by omega) (by omega)]
 simp only [Nat.reducePow] at o1 o2 o3
 rw [o0]
 have o1':bits .or .i64 (b0:Int) ((b1:Int) * 256)=((b0+b1 * 256:Nat):Int):=o1
 have o2':bits .or .i64 ((b0+b1 * 256:Nat):Int) ((b2:Int) * 65536)=((b0+b1 * 256+b2 * 65536:Nat):Int):=o2
 have o3':bits .or .i64 ((b0+b1 * 256+b2 * 65536:Nat):Int) ((b3:Int) * 16777216)=((b0+b1 * 256+b2 * 65536+b3 * 16777216:Nat):Int):=o3
 rw [o1',o2',o3']
 have ez:(b0+b1 * 256+b2 * 65536+b3 * 16777216:Nat)=b0+256 * b1+65536 * b2+16777216 * b3:=by clear o0 o1 o2 o3 o1' o2' o3' w0;omega
 rw [ez]
 rfl
theorem mr (x:Nat) (w:World) (h:x=4096∨x=512∨x=32):Calls prog 202 #[.int .i64 x] w (kN true w):=by
 rcases h with rfl | rfl | rfl
 all_goals
  go_enter func202,ntmps202
  go_wp2
  go_ret
  exact ⟨by first | rfl | decide,rfl⟩
theorem qh (w:World):Calls prog 192 #[.int .i64 4096,.int .i64 512,.int .i64 32] w fun e w'=>e=.returned (.tuple #[.string bn,.int .i64 0])∧Below w.heap.size w w':=by
 have HM1:=zH (fun w=>mr 4096 w (by decide))
 have HM2:=zH (fun w=>mr 512 w (by decide))
 have HM3:=zH (fun w=>mr 32 w (by decide))
 have HL1:=zH (fun w=>pM 4096 w (by decide))
 have HL2:=zH (fun w=>pM 512 w (by decide))
 have HL3:=zH (fun w=>pM 32 w (by decide))
 have HR:=zH (fun w=>Tryz.strings_Repeat ⟨#[255]⟩ 12 w (by decide) (by decide))
 go_enter func192,ntmps192
 go_wp2_with fail
 generalize hW:w.alloc _=w0
 have hb0:Below w.heap.size w w0:=by rw [← hW];exact ae zR _
 have a0:w0.cell? ⟨w.heap.size,0,none⟩=some (.int .i64 4096):=by rw [← hW];exact cell_of (af w _) 0
 have a1:w0.cell? ⟨w.heap.size,1,none⟩=some (.int .i64 512):=by rw [← hW];exact cell_of (af w _) 1
 have a2:w0.cell? ⟨w.heap.size,2,none⟩=some (.int .i64 32):=by rw [← hW];exact cell_of (af w _) 2
 have hlt:w.heap.size<w0.heap.size:=by rw [← hW];simp
 clear hW
 refine wp_loop_rounds 4 ?_
 rw [rounds_succ]
 go_wp2_with fail
 refine (HM1.out _).mono ?_
 rintro e w1 ⟨rfl,rfl⟩
 go_wp2_with fail
 refine (HL1.out _).mono ?_
 rintro e w2 ⟨rfl,hb2⟩
 have b1:=(hb2.cell (p:=⟨w.heap.size,1,none⟩) hlt).trans a1
 have b2:=(hb2.cell (p:=⟨w.heap.size,2,none⟩) hlt).trans a2
 have hlt2:=zV hlt hb2.size
 have hb02:=gtr hb0 hb2
 clear hb2 a0 a1 a2 hb0 hlt
 go_wp2_with fail
 rw [rounds_succ]
 go_wp2_with fail
 refine (HM2.out _).mono ?_
 rintro e w1 ⟨rfl,rfl⟩
 go_wp2_with fail
 refine (HL2.out _).mono ?_
 rintro e w3 ⟨rfl,hb3⟩
 have d2:=(hb3.cell (p:=⟨w.heap.size,2,none⟩) hlt2).trans b2
 have hb03:=gtr hb02 hb3
 clear hb3 hb02 b1 b2
 go_wp2_with fail
 rw [rounds_succ]
 go_wp2_with fail
 refine (HM3.out _).mono ?_
 rintro e w1 ⟨rfl,rfl⟩
 go_wp2_with fail
 refine (HL3.out _).mono ?_
 rintro e w4 ⟨rfl,hb4⟩
 have hb04:=gtr hb03 hb4
 clear hb4 hb03
 go_wp2_with fail
 rw [rounds_succ]
 go_wp2_with fail
 refine (HR.out _).mono ?_
 rintro e w5 ⟨rfl,hb5⟩
 have hb05:=gtr hb04 hb5
 clear hb04 hb5
 go_wp2
 go_ret2
 exact ⟨by first | rfl | decide,hb05⟩
theorem rY (w:World):(callFunc 234 #[]).run prog w=.ok (.value (.tuple #[])) w:=run_call_mark0 func234 (by kernel_rfl) (by kernel_rfl) (by kernel_rfl) .disable (by kernel_rfl) w
theorem uF (w:World):(callFunc 236 #[]).run prog w=.ok (.value (.tuple #[])) w:=run_call_mark0 func236 (by kernel_rfl) (by kernel_rfl) (by kernel_rfl) .enable (by kernel_rfl) w
theorem Bf (a:Addr) (w:World):(callFunc 237 #[.pointer (some a)]).run prog w=.ok (.value (.tuple #[])) w:=run_call_marked func237 (by kernel_rfl) (by kernel_rfl) (by kernel_rfl) .acquire (by kernel_rfl) a w
theorem rZ (a:Addr) (w:World):(callFunc 239 #[.pointer (some a)]).run prog w=.ok (.value (.tuple #[])) w:=run_call_marked func239 (by kernel_rfl) (by kernel_rfl) (by kernel_rfl) .releaseMerge (by kernel_rfl) a w
theorem ye (a:Addr) (x:Value) (u:FrameMode) (w:World) (hc:w.cell? a=some x) (hz:w.frozen? a=false):CallsD prog 213 #[.pointer (some a),.bool true] u w fun e u' w'=>u'=u∧(e=.returned (.tuple #[])∧w'=w.drew.setCell a (.int .u32 1)):=by
 have hc':w.drew.cell? a=some x:=by go_simp
 have hz':w.drew.frozen? a=false:=by go_simp
 have hst:=run_call_store (P:=prog) func228 (by kernel_rfl) (by kernel_rfl) (by kernel_rfl) (by kernel_rfl) (k:=.u32) (y:=1) hc' hz'
 go_enter_d func213,ntmps213
 go_wp2
 go_region_calls
 all_goals (go_end0;exact ⟨rfl,rfl⟩)
theorem vo (a:Addr) (u:FrameMode) (w:World) (hc:w.cell? a=some (.int .i32 1)) (hz:w.frozen? a=false):CallsD prog 212 #[.pointer (some a)] u w fun e u' w'=>u'=u∧(e=.returned (.tuple #[])∧w'=w.setCell a (.int .i32 0)):=by
 have hd:=rY
 have he:=uF
 have hr:=rZ
 have hadd:=run_call_add (P:=prog) func240 (by kernel_rfl) (by kernel_rfl) (by kernel_rfl) .i32 (by kernel_rfl) (y := -1) (s:=0) hc hz (by simp [go_sem];rfl)
 have hcv:=run_convert_to_unsafe (P:=prog) (src:=314) (dst:=275) underlying314 underlying275 (by kernel_rfl) hc
 go_enter_d func212,ntmps212
 go_wp2
 go_end0
 go_wp2
 go_end0
 exact ⟨rfl,rfl⟩
theorem Hu (a:Addr) (w:World) (hc:w.cell? a=some (.int .i32 0)) (hz:w.frozen? a=false):Calls prog 211 #[.pointer (some a)] w fun e w'=>e=.returned (.tuple #[])∧w'=w.setCell a (.int .i32 1):=by
 have hd:=rY
 have he:=uF
 have ha:=Bf
 have hcas:=run_call_cas_hit (P:=prog) func235 (by kernel_rfl) (by kernel_rfl) (by kernel_rfl) .i32 (by kernel_rfl) (y:=1) hc hz
 have hc':(w.setCell a (.int .i32 1)).cell? a=some (.int .i32 1):=World.cell?_setCell_same w a _ hc
 have hcv:=run_convert_to_unsafe (P:=prog) (src:=314) (dst:=275) underlying314 underlying275 (by kernel_rfl) hc'
 go_enter func211,ntmps211
 go_wp2
 first | go_end0 | (simp only [Exit.inBlock,Exit.then];refine bodyPost_ret (results_none rfl _ _ _) rfl ?_) | refine bodyPost_ret (results_none rfl _ _ _) rfl ?_
 go_wp2
 go_end0
 exact ⟨rfl,rfl⟩
structure AH (b off:Nat) (Q:World→Prop) (e:Ending) (w':World):Prop where
 ret:e=.returned (.tuple #[])
 q:Q w'
 c0:w'.cell? ⟨b,off,none⟩=some (.int .u32 0)
 c1:w'.cell? ⟨b,off+1,none⟩=some (.int .i32 1)
 f0:w'.frozen? ⟨b,off,none⟩=false
 f1:w'.frozen? ⟨b,off+1,none⟩=false
theorem Kp (b off fn:Nat) (caps:Array Value) (Q:World→Prop) (w:World) (h0:w.cell? ⟨b,off,none⟩=some (.int .u32 0)) (h1:w.cell? ⟨b,off+1,none⟩=some (.int .i32 0)) (f0:w.frozen? ⟨b,off,none⟩=false) (f1:w.frozen? ⟨b,off+1,none⟩=false) (hcf : ∀ w,(callFunc fn caps).run prog w=.ok (.enter fn caps) w) (hf:Calls prog fn caps (w.setCell ⟨b,off+1,none⟩ (.int .i32 1)) (AH b off Q)):Calls prog 199 #[.pointer (some ⟨b,off,none⟩),.func (.func fn) #[] caps] w fun e w'=>e=.returned (.tuple #[]) ∧ ∃ w2,Q w2∧w'=(w2.drew.setCell ⟨b,off,none⟩ (.int .u32 1)).setCell ⟨b,off+1,none⟩ (.int .i32 0):=by
 have hl:=run_call_load (P:=prog) func210 (by kernel_rfl) (by kernel_rfl) (by kernel_rfl) .u32 (by kernel_rfl) (w:=w.setCell ⟨b,off+1,none⟩ (.int .i32 1)) (a:=⟨b,off,none⟩) (x:=0) ((World.cell?_setCell_other _ ⟨b,off+1,none⟩ ⟨b,off,none⟩ _ (by simp)).trans h0)
 have hnot : ∀ (x:Bool) (w:World),(Op.unary .not (.bool x)).run prog w=.ok (.bool (!x)) w:=fun _ _=>rfl
 have HF:=zH hf
 clear hf
 go_enter_defers func199,ntmps199
 go_wp2_with (first | (go_at_call 211;refine (Hu ⟨b,off+1,none⟩ _ (by go_simp) (by go_simp)).mono ?_;rintro e w' ⟨rfl,rfl⟩) | (go_at_call 198;go_in))
 refine HF.out.mono ?_
 rintro e w2 ⟨rfl,q,c0,c1,z0,z1⟩
 go_wp2
 refine leaves_cons (f:=213) (args := #[.pointer (some ⟨b,off,none⟩),.bool true]) (by simp) (by simp [go_sem]) ?_
 refine (ye ⟨b,off,none⟩ (.int .u32 0) .returning _ c0 z0).mono ?_
 rintro e u' w'' ⟨rfl,rfl,rfl⟩
 refine leaves_cons (f:=212) (args := #[.pointer (some ⟨b,off+1,none⟩)]) (by simp [settle]) (by simp [go_sem]) ?_
 refine (vo ⟨b,off+1,none⟩ _ _ ?_ (by simp [z1])).mono ?_
 ·
  refine (World.cell?_setCell_other _ ⟨b,off,none⟩ ⟨b,off+1,none⟩ _ (by simp)).trans ?_
  rw [World.cell?_drew]
  exact c1
 rintro e u' w'' ⟨rfl,rfl,rfl⟩
 simp [Leaves,settle,results,results199]
 exact ⟨w2,q,rfl⟩
theorem Ca (b off fn:Nat) (caps:Array Value) (Q:World→Prop) (w:World) (h0:w.cell? ⟨b,off,none⟩=some (.int .u32 0)) (h1:w.cell? ⟨b,off+1,none⟩=some (.int .i32 0)) (f0:w.frozen? ⟨b,off,none⟩=false) (f1:w.frozen? ⟨b,off+1,none⟩=false) (hcf : ∀ w,(callFunc fn caps).run prog w=.ok (.enter fn caps) w) (hf:Calls prog fn caps (w.setCell ⟨b,off+1,none⟩ (.int .i32 1)) (AH b off Q)):Calls prog 185 #[.pointer (some ⟨b,off,none⟩),.func (.func fn) #[] caps] w fun e w'=>e=.returned (.tuple #[]) ∧ ∃ w2,Q w2∧w'=(w2.drew.setCell ⟨b,off,none⟩ (.int .u32 1)).setCell ⟨b,off+1,none⟩ (.int .i32 0):=by
 have hl:=run_call_load (P:=prog) func210 (by kernel_rfl) (by kernel_rfl) (by kernel_rfl) .u32 (by kernel_rfl) h0
 have hnot : ∀ (x:Bool) (w:World),(Op.unary .not (.bool x)).run prog w=.ok (.bool (!x)) w:=fun _ _=>rfl
 have HS:=zH (Kp b off fn caps Q w h0 h1 f0 f1 hcf hf)
 clear hf hcf
 go_enter func185,ntmps185
 go_wp2_with (first | (go_at_call 199;refine HS.out.mono ?_;rintro e w' ⟨rfl,w2,q,rfl⟩) | (go_at_call 198;go_in))
 go_end0
 exact ⟨rfl,w2,q,rfl⟩
theorem FK (a:Addr) (d:Int) (hd : ¬ d=0) (fv:Value) (w:World) (h0:w.cell? a=some (.int .u32 d)):Calls prog 185 #[.pointer (some a),fv] w fun e w'=>e=.returned (.tuple #[])∧w'=w:=by
 have hl:=run_call_load (P:=prog) func210 (by kernel_rfl) (by kernel_rfl) (by kernel_rfl) .u32 (by kernel_rfl) h0
 have hnot : ∀ (x:Bool) (w:World),(Op.unary .not (.bool x)).run prog w=.ok (.bool (!x)) w:=fun _ _=>rfl
 have hd':(d != 0)=true:=by simp [hd]
 go_enter func185,ntmps185
 go_wp2
 go_end0
 exact ⟨rfl,rfl⟩
def I3 (c:Nat) (s:Raw) (w:World) (w2:World):Prop:=aV w2 c { s with yG:=bn }∧Touch (aN c) w w2
theorem Br (c bx:Nat) (s:Raw) (w:World) (h:aV w c s) (hb:w.cell? ⟨bx,0,none⟩=some (.pointer (some ⟨c,0,none⟩))) (hs0:s.o0=0) (hs1:s.o1=1) (hne:bx≠c):Calls prog 257 #[.pointer (some ⟨bx,0,none⟩)] w (AH c 11 (I3 c s w)):=by
 have hd:aV w.drew c s:=h
 have x0:w.drew.cell? ⟨bx,0,none⟩=some (.pointer (some ⟨c,0,none⟩)):=hb
 have hxl:bx<w.drew.heap.size:=zL w _ hb
 have HP:=zH (qh w.drew)
 have HD:=zH (zA hd (zA hs0 hs1))
 clear h hb hd hs0 hs1
 go_enter func257,ntmps257
 go_wp2_with fail
 refine wp_region_noPanic ?_
 refine wp_region_held_drew (S:=(fun w'=>w'.cell? ⟨bx,0,none⟩=some (.pointer (some ⟨c,0,none⟩)))) (by kernel_rfl) (by (try dsimp only);exact x0) fun hHeld => ?_
 refine tk 0 ?_
 refine tr 1 fun K hK => ?_
 go_simp
 go_at_call 192
 refine HP.out.mono ?_
 rintro e w1 ⟨rfl,hb1⟩
 have hd1:=HD.out.1.aj hb1
 have d14:w1.cell? ⟨c,14,none⟩=some (.string s.yG):=cell_of hd1 14
 have f14:w1.frozen? ⟨c,14,none⟩=false:=aF hd1 14
 have x1:w1.cell? ⟨bx,0,none⟩=some (.pointer (some ⟨c,0,none⟩)):=(hb1.cell (p:=⟨bx,0,none⟩) hxl).trans x0
 go_wp2_with fail
 refine hK.out _ _ (by (try dsimp only);exact x1) fun hHeld => ?_
 clear hK K
 try simp only [Act.put,zS,zT,zU]
 refine tk 2 ?_
 refine tk 3 ?_
 refine tk 4 ?_
 refine tk 5 ?_
 refine tk 6 ?_
 refine tr 7 fun K hK => ?_
 go_simp
 skip
 refine hK.out _ _ (by (try dsimp only);(rw [World.cell?_setCell_other _ _ _ _ (by intro e;have:=congrArg Addr.block e;simp at this;omega)];exact x1)) fun hHeld => ?_
 clear hK K
 try simp only [Act.put,zS,zT,zU]
 refine wpAnyH_done (by kernel_rfl) ?_ _
 refine NoPanic.normal ?_
 have t2:Touch (aN c) w (w1.setCell ⟨c,14,none⟩ (.string bn)):=(((Touch.refl (aN c) w).drew).trans (Touch.ah hb1)).set c 14 _ rfl
 go_wp2_with fail
 go_end0
 have hr:aV (w1.setCell ⟨c,14,none⟩ (.string bn)) c { s with yG:=bn }:=az (i:=14) (v:=.string bn) hd1
 exact ⟨rfl,⟨hr,t2⟩,(cell_of hr 11).trans (by simp [Raw.row,HD.out.2.1]),(cell_of hr 12).trans (by simp [Raw.row,HD.out.2.2]),aF hr 11,aF hr 12⟩
def GC (c:Nat) (m:ag) (F:Nat→Prop) (w:World) (e:Ending) (w':World):Prop:=e=.returned (.string bn) ∧ ∃ s',bK w' c s' m F∧Touch (aN c) w w'
theorem uO (c:Nat) (s:Raw) (m:ag) (F:Nat→Prop) (w:World) (h:bK w c s m F):Calls prog 254 #[.pointer (some ⟨c,0,none⟩)] w (GC c m F w):=by
 have hmf : ∀ (fn:Fn) (first cap:Array Value) (w:World),(Instr.makeFunc fn first cap).run prog w=.ok (.func fn first cap) w:=fun _ _ _ _=>rfl
 have hb1:Below w.heap.size w (w.alloc (.cells #[.pointer (some ⟨c,0,none⟩)] 79)):=ae zR _
 have h1 : ∃ s,bK (w.alloc (.cells #[.pointer (some ⟨c,0,none⟩)] 79)) c s m F:=(h.shut.aj hb1).open
 obtain ⟨s1,h1⟩:=h1
 have p0:(w.alloc (.cells #[.pointer (some ⟨c,0,none⟩)] 79)).cell? ⟨w.heap.size,0,none⟩=some (.pointer (some ⟨c,0,none⟩)):=cell_of (af w _) 0
 have hcl:c<w.heap.size:=aO h.raw
 have HB:=zH hb1
 clear h hb1
 generalize hW:w.alloc (.cells #[.pointer (some ⟨c,0,none⟩)] 79)=w1 at *
 rcases h1.bU.once with ⟨o0,o1,o2⟩ | ⟨o0,o1,o2,o3⟩
 ·
  have hr1:aV (w1.setCell ⟨c,12,none⟩ (.int .i32 1)) c { s1 with o1:=1 }:=az (i:=12) (v:=.int .i32 1) h1.raw
  have k0:(w1.setCell ⟨c,12,none⟩ (.int .i32 1)).cell? ⟨w.heap.size,0,none⟩=some (.pointer (some ⟨c,0,none⟩)):=by
   rw [World.cell?_setCell_other _ _ _ _ (by intro e;have:=congrArg Addr.block e;simp at this;omega)];exact p0
  have HD:=zH (Ca c 11 257 #[.pointer (some ⟨w.heap.size,0,none⟩)] (I3 c { s1 with o1:=1 } (w1.setCell ⟨c,12,none⟩ (.int .i32 1))) w1 ((cell_of h1.raw 11).trans (by simp [Raw.row,o0])) ((cell_of h1.raw 12).trans (by simp [Raw.row,o1])) (aF h1.raw 11) (aF h1.raw 12) (fun _=>by kernel_rfl) (Br c w.heap.size { s1 with o1:=1 } _ hr1 k0 o0 rfl (by omega)))
  have t1:Touch (aN c) w (w1.setCell ⟨c,12,none⟩ (.int .i32 1)):=(Touch.ah HB.out).set c 12 _ rfl
  have HH:=zH (zA h1 (zA t1 o2))
  clear h1 hr1 k0 o0 o1 o2 t1
  go_enter func254,ntmps254
  go_wp2_with fail
  try rw [hW]
  refine HD.out.mono ?_
  rintro e w2 ⟨rfl,w3,⟨q,tq⟩,rfl⟩
  obtain ⟨h1,t1,o2⟩:=HH.out
  have q2:aV ((w3.drew.setCell ⟨c,11,none⟩ (.int .u32 1)).setCell ⟨c,12,none⟩ (.int .i32 0)) c { s1 with o0:=1,o1:=0,yG:=bn } :=
   az (i:=12) (v:=.int .i32 0) (az (i:=11) (v:=.int .u32 1) (show aV w3.drew c _ from q))
  have t2:Touch (aN c) w1 ((w3.drew.setCell ⟨c,11,none⟩ (.int .u32 1)).setCell ⟨c,12,none⟩ (.int .i32 0)) :=
   (((((Touch.refl (aN c) w1).set c 12 _ rfl).trans tq).drew).set c 11 _ rfl).set c 12 _ rfl
  have px:((w3.drew.setCell ⟨c,11,none⟩ (.int .u32 1)).setCell ⟨c,12,none⟩ (.int .i32 0)).cell? ⟨w.heap.size,0,none⟩=some (.pointer (some ⟨c,0,none⟩)):=t2.cell _ _ p0 (fun e=>by have:w.heap.size=c:=e;omega)
  have hs:=h1.bU
  have h2:=h1.block (m':=m) q2 ⟨hs.cells,hs.bq,hs.bk,hs.dP,hs.en,hs.aD,hs.op,hs.ay,hs.left,hs.cM,hs.addr,hs.mode,hs.cJ,hs.told,hs.now,hs.beyond,.inr ⟨rfl,rfl,o2,rfl⟩⟩ t2 rfl rfl rfl rfl rfl rfl
  have t3:=(Touch.ah (F:=aN c) HB.out).trans t2
  have c14:=cell_of q2 14
  have HF:=zH (zA h2 t3)
  generalize (w3.drew.setCell ⟨c,11,none⟩ (.int .u32 1)).setCell ⟨c,12,none⟩ (.int .i32 0)=w4 at *
  replace c14:w4.cell? ⟨c,14,none⟩=some (.string bn):=c14
  clear q tq q2 t2 h2 t3 hs h1 t1 HD HH
  go_wp2
  go_ret
  exact ⟨rfl,_,HF.out.1,HF.out.2⟩
 ·
  have HD:=zH (fun fv=>FK ⟨c,11,none⟩ 1 (by decide) fv w1 ((cell_of h1.raw 11).trans (by simp [Raw.row,o0])))
  have c14:w1.cell? ⟨c,14,none⟩=some (.string bn):=by rw [← o3];exact cell_of h1.raw 14
  have HF:=zH (zA h1 (Touch.ah (F:=aN c) HB.out))
  clear h1 o0 o1 o2 o3
  go_enter func254,ntmps254
  go_wp2_with fail
  try rw [hW]
  refine (HD.out _).mono ?_
  rintro e w2 ⟨rfl,rfl⟩
  go_wp2
  go_ret
  exact ⟨rfl,_,HF.out.1,HF.out.2⟩
def BE (x:Int) (c:Nat) (m:ag) (F:Nat→Prop) (w:World) (e:Ending) (w':World):Prop:=e=.returned (.int .i64 x)∧aT w' c m F∧Step F F w w'
theorem gC (x:UInt8):wrap64 (x.toNat:Int)=(x.toNat:Int):=by have:=x.toNat_lt;unfold wrap64;omega
theorem Fu (x:UInt8):IntKind.i64.wrap (x.toNat:Int)=(x.toNat:Int):=by have:=x.toNat_lt;exact cX (by omega) (by omega)
theorem AQ (c:Nat) (m:ag) (F:Nat→Prop) (i:Nat) (w:World) (h:aT w c m F) (ok:m.Ok) (hi:i≤1099511627776):Calls prog 252 #[.pointer (some ⟨c,0,none⟩),.int .i64 i] w (BE (m.eM i) c m F w):=by
 have HS:=zH (Bq c m F w h)
 have HH:=zH h
 have HT:=zH (fun (s:Raw) (w1:World) (h1:bK w1 c s m F)=>uO c s m F w1 h1)
 have hsz:=zH ok.size
 obtain ⟨A,hA⟩:=Int.eq_ofNat_of_zero_le ok.fU
 have hA2:A<4096:=by have:=ok.gE;omega
 obtain ⟨x,hx⟩ : ∃ x,x=m.eM i:=⟨_,rfl⟩
 rw [← hx]
 have HE:=zH hx
 have HA:=zH hA
 clear h ok hx hA
 go_enter func252,ntmps252
 go_wp2_with fail
 refine HS.out.mono ?_
 rintro e w1 ⟨rfl,hb⟩
 have h1:=HH.out.aj hb
 have hst:=zH (Step.ah (F:=F) hb)
 have HH1:=zH h1
 obtain ⟨s1,h1⟩:=h1.open
 have c20:w1.cell? ⟨c,20,none⟩=some (.int .i64 m.op.byte):=by rw [← h1.bU.op];exact cell_of h1.raw 20
 have c29:w1.cell? ⟨c,29,none⟩=some (.int .i64 (A:Int)):=by rw [← HA.out,← h1.bU.addr];exact cell_of h1.raw 29
 have c0:w1.cell? ⟨c,0,none⟩=some (.string m.cells):=by rw [← h1.bU.cells];exact cell_of h1.raw 0
 have HR:=zH (HT.out s1 w1 h1)
 have hlt:=zH h1.raw.lt
 have h1':=zH h1
 clear h1 hb HS HH HT
 by_cases b159:m.op.byte=159
 ·
  rw [b159] at c20
  have HB:=zH b159
  have g:(i:Int) % 3=0∨(i:Int) % 3=1∨(i:Int) % 3=2:=by omega
  clear b159 c0 c29
  have k0 : ∀ w,(Instr.index 137 (.agg #[.int .i64 239,.int .i64 64,.int .i64 12]) (.int .i64 0)).run prog w=.ok (.int .i64 239) w:=fun _=>by kernel_rfl
  have k1 : ∀ w,(Instr.index 137 (.agg #[.int .i64 239,.int .i64 64,.int .i64 12]) (.int .i64 1)).run prog w=.ok (.int .i64 64) w:=fun _=>by kernel_rfl
  have k2 : ∀ w,(Instr.index 137 (.agg #[.int .i64 239,.int .i64 64,.int .i64 12]) (.int .i64 2)).run prog w=.ok (.int .i64 12) w:=fun _=>by kernel_rfl
  rcases g with g | g | g
  all_goals
   go_wp2
   go_ret
   exact ⟨by rw [HE.out];unfold ag.eM;rw [if_pos HB.out,g];rfl,HH1.out,hst.out⟩
 have HB159:=zH b159
 by_cases b5:m.op.byte=5
 ·
  rw [b5] at c20
  have HB:=zH b5
  clear b5 b159 c0 c29
  go_wp2
  go_ret
  exact ⟨by rw [HE.out];unfold ag.eM;rw [if_neg HB159.out,if_pos HB.out];rfl,HH1.out,hst.out⟩
 have HB5:=zH b5
 by_cases b53:m.op.byte=53
 ·
  rw [b53] at c20
  have HB:=zH b53
  clear b53 b5 b159 c0 c29
  go_wp2
  go_ret
  exact ⟨by rw [HE.out];unfold ag.eM;rw [if_neg HB159.out,if_neg HB5.out,if_pos HB.out];rfl,HH1.out,hst.out⟩
 have HB53:=zH b53
 by_cases b90:m.op.byte=90
 ·
  rw [b90] at c20
  have HB:=zH b90
  have hk:((A:Int)+(i:Int)) % 32=(((A+i) % 32:Nat):Int):=by omega
  have hk2:(A+i) % 32<32:=Nat.mod_lt _ (by decide)
  have HV:m.eM i=((bt bn ((A+i) % 32)).toNat:Int):=by
   unfold ag.eM
   rw [if_neg HB159.out,if_neg HB5.out,if_neg HB53.out,if_pos HB.out,HA.out,hk];rfl
  have HV:=zH HV
  generalize (A+i) % 32=k at *
  have hk3:k<bn.size:=hk2
  have hg:bn[k]'hk3=bt bn k:=gT bn k hk3
  have hk4:(k:Int)<(bn.size:Int):=by omega
  have HK4:=zH hg
  clear hg b90 b53 b5 b159 c0
  have hkw:(IntKind.i64.wrap ((A:Int)+(i:Int))).tmod 32=(k:Int):=by
   rw [cX (by omega) (by omega),Int.tmod_eq_emod_of_nonneg (by omega)];exact hk
  obtain ⟨s2,h2⟩:=(HH1.out.aj (au zR)).open
  have HR:=zH (uO c s2 m F w1.drew h2)
  have h1':=zH h2
  clear h2 hk
  go_wp2_with fail
  refine wp_region_noPanic ?_
  refine wp_region_held_drew (S:=(fun w'=>w'.cell? ⟨c,29,none⟩=some (.int .i64 (A:Int)))) (by kernel_rfl) (by (try dsimp only);exact c29) fun hHeld => ?_
  refine tk 0 ?_
  refine tk 2 ?_
  refine tk 3 ?_
  refine tk 4 ?_
  refine tk 5 ?_
  refine tk 6 ?_
  refine tk 7 ?_
  refine tk 8 ?_
  refine tk 9 ?_
  refine tk 10 ?_
  refine tr 1 fun K hK => ?_
  go_simp
  go_at_call 254
  refine HR.out.mono ?_
  rintro e w2 ⟨rfl,s2,h2,t2⟩
  have d29:w2.cell? ⟨c,29,none⟩=some (.int .i64 (A:Int)):=by rw [← HA.out,← h2.bU.addr];exact cell_of h2.raw 29
  go_wp2_with fail
  refine hK.out _ _ (by (try dsimp only);exact d29) fun hHeld => ?_
  clear hK K
  try simp only [Act.put,zS,zT,zU]
  refine tk 11 ?_
  refine tk 12 ?_
  refine tk 13 ?_
  refine wpAnyH_done (by kernel_rfl) ?_ _
  refine NoPanic.normal ?_
  go_wp2
  go_ret
  exact ⟨by rw [HE.out,HV.out,← HK4.out];simp only [Fu];rfl,h2.shut,((hst.out.trans (Step.ah (au zR))).trans (h1'.out.step t2))⟩
 have HB90:=zH b90
 have hk:((A:Int)+(i:Int)) % 4096=(((A+i) % 4096:Nat):Int):=by omega
 have hk2:(A+i) % 4096<4096:=Nat.mod_lt _ (by decide)
 have HV:m.eM i=((bt m.cells ((A+i) % 4096)).toNat:Int):=by
  unfold ag.eM
  rw [if_neg HB159.out,if_neg HB5.out,if_neg HB53.out,if_neg HB90.out,HA.out,hk];rfl
 have HV:=zH HV
 generalize (A+i) % 4096=k at *
 have hk3:k<m.cells.size:=by rw [hsz.out];exact hk2
 have hg:m.cells[k]'hk3=bt m.cells k:=gT m.cells k hk3
 have hk4:(k:Int)<(m.cells.size:Int):=by omega
 have HK4:=zH hg
 clear hg
 go_wp2_with fail
 go_quiet (fail)
 go_wp2
 go_ret
 exact ⟨by rw [HE.out,HV.out,← HK4.out];simp only [gC];rfl,HH1.out.aj (aY zR _),hst.out.trans (Step.ah (aY zR _))⟩
end Go.Proofs.YtcfdenckiigdaaaGreat

/- Part 8 of the contracts. -/
import Derived.Shelf.Slices.Clone
import Derived.Shelf.Slices.Empties2
import Derived.Shelf.Slices.Turned
import Derived.Shelf.SlicesE.Clone
import Derived.Shelf.Strings.Builder2Cap
import Derived.Shelf.Strings.BuilderK
import Derived.Shelf.Strings.Repeat
import Derived.Shelf.Strings.Shaped
import Derived.Test.YtcfdenckiigdaaaGreatFl07
set_option linter.unusedVariables false
set_option maxRecDepth 100000
set_option maxHeartbeats 4000000
namespace Go.Proofs.YtcfdenckiigdaaaGreat
open Tryz
section
open Go.RowKit
def ag.eM (m:ag) (i:Int):Int :=
 if m.op.byte=159 then (if i % 3=0 then 239 else if i % 3=1 then 64 else 12)
 else if m.op.byte=5 then m.first
 else if m.op.byte=53 then m.second
 else if m.op.byte=90 then ((bt bn ((m.addr+i) % 32).toNat).toNat:Int)
 else ((bt m.cells ((m.addr+i) % 4096).toNat).toNat:Int)
def ag.next (m:ag):ag:=if m.left=0 then { m with now:=m.eM m.told,left:=many m.op.data,told:=m.told+1 } else m
def bitsOf (now data left:Int):Int:=if data=1 then 13+2 * (now / 2 ^ left.toNat % 2) else now / 16 ^ left.toNat % 16
def ag.bU (m:ag):Int×ag:=(bitsOf m.next.now m.op.data (m.next.left - 1),{ m.next with left:=m.next.left - 1 })
def ag.de (m:ag) (x bW:Int):ag:={ m with cO:=aR m.cO x bW,left:=m.left - 1 }
def ag.sB (m:ag) (x:Int):ag:=if m.left - 1=0 then (m.de x 1).cV (aR m.cO x 1) else m.de x 1
def ag.sC (m:ag) (x:Int):ag:=if m.left - 1=0 then ag.behind { m.de x m.op.addr with addr:=aR m.cO x m.op.addr % 4096 } else m.de x m.op.addr
def ag.sD (m:ag) (x:Int):ag:=if m.left - 1=0 then ag.behind { m.de x m.op.addr with mode:=aR m.cO x m.op.addr,cL:=true } else m.de x m.op.addr
def ag.uK (m:ag):ag:=if m.left - 1=0 then ag.behind { m with left:=m.left - 1 } else { m with left:=m.left - 1 }
def ag.sE (m:ag) (x:Int):ag:=if m.left - 1=0 then ag.behind { m.de x m.op.data with data:=m.data++[aR m.cO x m.op.data] } else m.de x m.op.data
def ag.step (m:ag) (x:Int):Int×ag :=
 if m.ay=0 then (15,m.sB x) else if m.ay=2 then (15,m.sC x) else if m.ay=3 then (15,m.sD x) else if m.ay=4 then (15,m.uK)
 else if m.ay=5 then (15,m.sE x) else if m.ay=6 then m.bU else if m.ay=7 then (15,{ m with beyond:=true }) else (15,m)
def ag.clock (m:ag) (x:Int):Int×ag:=if m.pass.dQ=true then m.pass.step x else (15,m.pass)
def lZ (cO L left:Int):Prop:=(L=1∨L=4)∧1≤left∧0≤cO∧L * left≤24∧cO<2 ^ (24 - L * left).toNat
structure ag.uT (m:ag) (n:Nat):Prop where
 ok:m.Ok
 mP:0≤m.told
 lV:m.told≤n
 data:m.data.length≤n
 kZ:0≤m.op.dummy
 kl:m.op.dummy≤8
 u9:0≤m.now
 ve:m.now<256
structure ag.Part (m:ag):Prop where
 kx:0≤m.left
 ln:m.left≤24
 Ly:m.ay=0→lZ m.cO 1 m.left
 jM:m.ay=2→lZ m.cO m.op.addr m.left
 LB:m.ay=3→lZ m.cO m.op.addr m.left
 cF:m.ay=4→1≤m.left
 mu:m.ay=5→lZ m.cO m.op.data m.left
 kp:m.ay=6→(m.op.data=1∨m.op.data=4)∧m.op.data * m.left≤8
structure ag.Fit (m:ag) (n:Nat):Prop where
 base:m.uT n
 part:m.Part
theorem oW (b:Int):0≤(ak b).dummy∧(ak b).dummy≤8:=by
 by_cases h : ∀ k ∈ gY,b≠k
 ·
  rw [show ak b=gF.zero by simp [ak,nH b h]];decide
 ·
  simp only [gY,List.mem_cons,List.not_mem_nil,or_false,forall_eq_or_imp,forall_eq,ne_eq] at h
  by_cases h1:b=1;· subst h1;decide
  by_cases h2:b=2;· subst h2;decide
  by_cases h3:b=3;· subst h3;decide
  by_cases h4:b=4;· subst h4;decide
  by_cases h5:b=5;· subst h5;decide
  by_cases h6:b=6;· subst h6;decide
  by_cases h7:b=32;· subst h7;decide
  by_cases h8:b=53;· subst h8;decide
  by_cases h9:b=90;· subst h9;decide
  by_cases h10:b=107;· subst h10;decide
  by_cases h11:b=117;· subst h11;decide
  by_cases h12:b=122;· subst h12;decide
  by_cases h13:b=159;· subst h13;decide
  by_cases h14:b=235;· subst h14;decide
  exact absurd ⟨h1,h2,h3,h4,h5,h6,h7,h8,h9,h10,h11,h12,h13,h14⟩ h
theorem nm (m:ag) (i:Int):0≤m.eM i∧m.eM i<256:=by
 unfold ag.eM
 split
 ·
  split;decide;split <;> decide
 ·
  split
  ·
   unfold ag.first DV;cases m.bP <;> cases m.en <;> cases m.bq <;> decide
  ·
   split
   ·
    unfold ag.second yO;cases m.bk <;> cases m.pT <;> decide
   ·
    split
    ·
     have:=(bt bn ((m.addr+i) % 32).toNat).toNat_lt;omega
    ·
     have:=(bt m.cells ((m.addr+i) % 4096).toNat).toNat_lt;omega
theorem rS (m:ag):m.pass.op=m.op∧m.pass.ay=m.ay∧m.pass.left=m.left∧m.pass.cO=m.cO∧m.pass.addr=m.addr∧m.pass.mode=m.mode∧m.pass.cL=m.cL∧m.pass.data=m.data∧m.pass.told=m.told∧m.pass.now=m.now∧m.pass.beyond=m.beyond∧m.pass.dQ=m.dQ∧m.pass.bq=m.bq∧m.pass.bk=m.bk∧m.pass.aD=m.aD∧m.pass.busy=m.busy:=by
 unfold ag.pass
 cases m.aZ with
 | none=>exact ⟨rfl,rfl,rfl,rfl,rfl,rfl,rfl,rfl,rfl,rfl,rfl,rfl,rfl,rfl,rfl,rfl⟩
 | some j =>
  simp only
  split
  ·
   exact ⟨rfl,rfl,rfl,rfl,rfl,rfl,rfl,rfl,rfl,rfl,rfl,rfl,rfl,rfl,rfl,rfl⟩
  ·
   split <;> exact ⟨rfl,rfl,rfl,rfl,rfl,rfl,rfl,rfl,rfl,rfl,rfl,rfl,rfl,rfl,rfl,rfl⟩
theorem Lr {m:ag} (ok:m.Ok):m.pass.Ok:=by
 obtain ⟨e1,e2,e3,e4,e5,e6,e7,e8,e9,_⟩:=rS m
 refine ⟨?_,?_,by rw [e5];exact ok.fX,by rw [e5];exact ok.gG,by rw [e1];exact ok.op,by rw [e8];exact ok.data⟩
 ·
  unfold ag.pass
  cases m.aZ with
  | none=>exact ok.size
  | some j =>
   simp only
   split
   ·
    exact ok.size
   ·
    split
    ·
     exact (yl _ _ _).trans ok.size
    ·
     exact ok.size
 ·
  intro x hx
  unfold ag.pass at hx
  cases hj:m.aZ with
  | none=>rw [hj] at hx;simp only at hx;rw [hj] at hx;cases hx
  | some j =>
   have hok:=ok.aZ j hj
   rw [hj] at hx
   simp only at hx
   split at hx
   ·
    rw [hj] at hx;obtain rfl:j=x:=by simpa using hx
    exact hok
   ·
    split at hx
    ·
     cases hx
    ·
     obtain rfl:({ j with left:=j.left - 1 }:iE)=x:=by simpa using hx
     exact ⟨hok.1,by show 1≤j.left - 1;omega,by show j.left - 1≤4096;have:=hok.2.2;omega⟩
theorem rT {m:ag} {n:Nat} (h:m.Fit n):m.pass.Fit n:=by
 obtain ⟨e1,e2,e3,e4,e5,e6,e7,e8,e9,e10,_⟩:=rS m
 have c:=h.base
 have p:=h.part
 exact ⟨⟨Lr c.ok,by rw [e9];exact c.mP,by rw [e9];exact c.lV,by rw [e8];exact c.data,by rw [e1];exact c.kZ,by rw [e1];exact c.kl,by rw [e10];exact c.u9,by rw [e10];exact c.ve⟩,⟨by rw [e3];exact p.kx,by rw [e3];exact p.ln,by rw [e2,e3,e4];exact p.Ly,by rw [e1,e2,e3,e4];exact p.jM,by rw [e1,e2,e3,e4];exact p.LB,by rw [e2,e3];exact p.cF,by rw [e1,e2,e3,e4];exact p.mu,by rw [e1,e2,e3];exact p.kp⟩⟩
theorem vH {cO L left x:Int} (h:lZ cO L left) (hl:left - 1≠0):lZ (aR cO x L) L (left - 1):=by
 obtain ⟨h1,h2,h3,h4,h5⟩:=h
 unfold aR
 rcases h1 with rfl | rfl
 ·
  rw [if_pos rfl]
  have e:(24 - 1 * (left - 1)).toNat=(24 - 1 * left).toNat+1:=by omega
  refine ⟨.inl rfl,by omega,by omega,by omega,?_⟩
  rw [e,Int.pow_succ];omega
 ·
  rw [if_neg (by decide)]
  have e:(24 - 4 * (left - 1)).toNat=(24 - 4 * left).toNat+4:=by omega
  refine ⟨.inr rfl,by omega,by omega,by omega,?_⟩
  rw [e,Int.pow_succ,Int.pow_succ,Int.pow_succ,Int.pow_succ];omega
theorem kj {cO L left x:Int} (h:lZ cO L left):0≤aR cO x L:=by
 obtain ⟨h1,h2,h3,h4,h5⟩:=h
 unfold aR
 split <;> omega
theorem MX (k:Nat) (h:k≤24):(2:Int) ^ k≤16777216:=by
 have:(2:Nat) ^ k≤2 ^ 24:=Nat.pow_le_pow_right (by decide) h
 have e:((2 ^ k:Nat):Int)=(2:Int) ^ k:=by norm_cast
 have e2:(2:Nat) ^ 24=16777216:=by decide
 rw [← e];omega
theorem vG {cO L left:Int} (h:lZ cO L left):cO<16777216:=by
 obtain ⟨h1,h2,h3,h4,h5⟩:=h
 have:=MX (24 - L * left).toNat (by rcases h1 with rfl | rfl <;> omega)
 omega
theorem ag.Ok.enter {m:ag} (h:m.Ok) (st cl:Int):(m.enter st cl).Ok:=⟨h.size,h.aZ,h.fX,h.gG,h.op,h.data⟩
theorem iS {m:ag} {n:Nat} (h:m.uT n) (st cl:Int):(m.enter st cl).uT n:=⟨h.ok.enter st cl,h.mP,h.lV,h.data,h.kZ,h.kl,h.u9,h.ve⟩
theorem Dq (L cl:Int) (hL:L=1∨L=4) (h1:1≤cl) (h:L * cl≤24):lZ 0 L cl:=⟨hL,h1,Int.le_refl _,h,by
 have:0<(2:Int) ^ (24 - L * cl).toNat:=Int.pow_pos (by decide)
 exact this⟩
theorem kU {m:ag} {n:Nat} (h:m.uT n):m.behind.Fit n:=by
 obtain ⟨o1,o2,o3,o4⟩:=h.ok.op
 have hd:=h.kl
 unfold ag.behind
 split
 ·
  rename_i hm
  obtain ⟨a4,d4⟩:=o3 hm.1
  have e:many m.op.addr=2:=by rw [a4];rfl
  rw [e]
  exact ⟨iS h _ _,⟨by show (0:Int)≤2;decide,by show (2:Int)≤24;decide,fun e=>absurd e (by show ¬ (3:Int)=0;decide),fun e=>absurd e (by show ¬ (3:Int)=2;decide),fun _=>Dq m.op.addr 2 (.inr a4) (by decide) (by rw [a4];decide),fun e=>absurd e (by show ¬ (3:Int)=4;decide),fun e=>absurd e (by show ¬ (3:Int)=5;decide),fun e=>absurd e (by show ¬ (3:Int)=6;decide)⟩⟩
 ·
  split
  ·
   rename_i hd'
   exact ⟨iS h _ _,⟨by show 0≤m.op.dummy;omega,by show m.op.dummy≤24;omega,fun e=>absurd e (by show ¬ (4:Int)=0;decide),fun e=>absurd e (by show ¬ (4:Int)=2;decide),fun e=>absurd e (by show ¬ (4:Int)=3;decide),fun _=>(by show 1≤m.op.dummy;omega),fun e=>absurd e (by show ¬ (4:Int)=5;decide),fun e=>absurd e (by show ¬ (4:Int)=6;decide)⟩⟩
  ·
   split
   ·
    exact ⟨iS h _ _,⟨by show (0:Int)≤0;decide,by show (0:Int)≤24;decide,fun e=>absurd e (by show ¬ (7:Int)=0;decide),fun e=>absurd e (by show ¬ (7:Int)=2;decide),fun e=>absurd e (by show ¬ (7:Int)=3;decide),fun e=>absurd e (by show ¬ (7:Int)=4;decide),fun e=>absurd e (by show ¬ (7:Int)=5;decide),fun e=>absurd e (by show ¬ (7:Int)=6;decide)⟩⟩
   ·
    rename_i hdat
    split
    ·
     rename_i hi
     have d1:=o4 hi
     have e:many m.op.data=8:=by rw [d1];rfl
     rw [e]
     exact ⟨iS h _ _,⟨by show (0:Int)≤8;decide,by show (8:Int)≤24;decide,fun e=>absurd e (by show ¬ (5:Int)=0;decide),fun e=>absurd e (by show ¬ (5:Int)=2;decide),fun e=>absurd e (by show ¬ (5:Int)=3;decide),fun e=>absurd e (by show ¬ (5:Int)=4;decide),fun _=>Dq m.op.data 8 (.inl d1) (by decide) (by rw [d1];decide),fun e=>absurd e (by show ¬ (5:Int)=6;decide)⟩⟩
    ·
     exact ⟨iS h _ _,⟨by show (0:Int)≤0;decide,by show (0:Int)≤24;decide,fun e=>absurd e (by show ¬ (6:Int)=0;decide),fun e=>absurd e (by show ¬ (6:Int)=2;decide),fun e=>absurd e (by show ¬ (6:Int)=3;decide),fun e=>absurd e (by show ¬ (6:Int)=4;decide),fun e=>absurd e (by show ¬ (6:Int)=5;decide),fun _=>⟨by show m.op.data=1∨m.op.data=4;omega,by show m.op.data * 0≤8;omega⟩⟩⟩
theorem Lp {m:ag} {n:Nat} (h:m.uT n) (b:Int):({ m with op:=ak b }:ag).uT n :=
 ⟨⟨h.ok.size,h.ok.aZ,h.ok.fX,h.ok.gG,rM b,h.ok.data⟩,h.mP,h.lV,h.data,(oW b).1,(oW b).2,h.u9,h.ve⟩
theorem vU {m:ag} {n:Nat} (h:m.uT n) (b:Int):(m.cV b).Fit n:=by
 unfold ag.cV
 have hb:=Lp h b
 split
 ·
  exact ⟨iS hb _ _,⟨by show (0:Int)≤0;decide,by show (0:Int)≤24;decide,fun e=>absurd e (by show ¬ (1:Int)=0;decide),fun e=>absurd e (by show ¬ (1:Int)=2;decide),fun e=>absurd e (by show ¬ (1:Int)=3;decide),fun e=>absurd e (by show ¬ (1:Int)=4;decide),fun e=>absurd e (by show ¬ (1:Int)=5;decide),fun e=>absurd e (by show ¬ (1:Int)=6;decide)⟩⟩
 ·
  split
  ·
   rename_i ha
   have o1:=(rM b).1
   refine ⟨iS hb _ _,⟨by show (0:Int)≤if (ak b).addr=1 then 24 else 6;split <;> decide,by show (if (ak b).addr=1 then (24:Int) else 6)≤24;split <;> decide,fun e=>absurd e (by show ¬ (2:Int)=0;decide),fun _ => ?_,fun e=>absurd e (by show ¬ (2:Int)=3;decide),fun e=>absurd e (by show ¬ (2:Int)=4;decide),fun e=>absurd e (by show ¬ (2:Int)=5;decide),fun e=>absurd e (by show ¬ (2:Int)=6;decide)⟩⟩
   show lZ 0 (ak b).addr (if (ak b).addr=1 then 24 else 6)
   have:(ak b).addr=1∨(ak b).addr=4:=by omega
   rcases this with e | e
   ·
    rw [e,if_pos rfl];exact Dq 1 24 (.inl rfl) (by decide) (by decide)
   ·
    rw [e,if_neg (by decide)];exact Dq 4 6 (.inr rfl) (by decide) (by decide)
  ·
   exact kU hb
theorem yL {m:ag} {n k:Nat} (h:m.uT n) (hk:n≤k):m.uT k:=⟨h.ok,h.mP,by have:=h.lV;omega,by have:=h.data;omega,h.kZ,h.kl,h.u9,h.ve⟩
theorem gI {m:ag} {n:Nat} (h:m.uT n) (x l:Int):(m.de x l).uT n:=⟨⟨h.ok.size,h.ok.aZ,h.ok.fX,h.ok.gG,h.ok.op,h.ok.data⟩,h.mP,h.lV,h.data,h.kZ,h.kl,h.u9,h.ve⟩
theorem J8 {m:ag} {n:Nat} (h:m.Fit n) (x:Int) (hn:n<1099511627776):(m.step x).2.Fit (n+1):=by
 have hb:=h.base
 have p:=h.part
 have B:=yL hb (Nat.le_succ n)
 have l0:=p.kx
 have l1:=p.ln
 unfold ag.step
 split
 ·
  rename_i hs
  have t:=p.Ly hs
  unfold ag.sB
  split
  ·
   exact vU (gI B x 1) _
  ·
   rename_i hl
   have t1:=vH (x:=x) t hl
   exact ⟨gI B x 1,⟨by show 0≤m.left - 1;have:=t1.2.1;omega,by show m.left - 1≤24;omega,fun _=>t1,fun e=>absurd (hs.symm.trans e) (by decide),fun e=>absurd (hs.symm.trans e) (by decide),fun e=>absurd (hs.symm.trans e) (by decide),fun e=>absurd (hs.symm.trans e) (by decide),fun e=>absurd (hs.symm.trans e) (by decide)⟩⟩
 split
 ·
  rename_i hs
  have t:=p.jM hs
  unfold ag.sC
  split
  ·
   have B':=gI B x m.op.addr
   have:=kj (x:=x) t
   exact kU ⟨⟨B'.ok.size,B'.ok.aZ,by show 0≤aR m.cO x m.op.addr % 4096;omega,by show aR m.cO x m.op.addr % 4096<4096;omega,B'.ok.op,B'.ok.data⟩,B'.mP,B'.lV,B'.data,B'.kZ,B'.kl,B'.u9,B'.ve⟩
  ·
   rename_i hl
   have t1:=vH (x:=x) t hl
   exact ⟨gI B x _,⟨by show 0≤m.left - 1;have:=t1.2.1;omega,by show m.left - 1≤24;omega,fun e=>absurd (hs.symm.trans e) (by decide),fun _=>t1,fun e=>absurd (hs.symm.trans e) (by decide),fun e=>absurd (hs.symm.trans e) (by decide),fun e=>absurd (hs.symm.trans e) (by decide),fun e=>absurd (hs.symm.trans e) (by decide)⟩⟩
 split
 ·
  rename_i hs
  have t:=p.LB hs
  unfold ag.sD
  split
  ·
   have B':=gI B x m.op.addr
   exact kU ⟨⟨B'.ok.size,B'.ok.aZ,B'.ok.fX,B'.ok.gG,B'.ok.op,B'.ok.data⟩,B'.mP,B'.lV,B'.data,B'.kZ,B'.kl,B'.u9,B'.ve⟩
  ·
   rename_i hl
   have t1:=vH (x:=x) t hl
   exact ⟨gI B x _,⟨by show 0≤m.left - 1;have:=t1.2.1;omega,by show m.left - 1≤24;omega,fun e=>absurd (hs.symm.trans e) (by decide),fun e=>absurd (hs.symm.trans e) (by decide),fun _=>t1,fun e=>absurd (hs.symm.trans e) (by decide),fun e=>absurd (hs.symm.trans e) (by decide),fun e=>absurd (hs.symm.trans e) (by decide)⟩⟩
 split
 ·
  rename_i hs
  have t:=p.cF hs
  have B':({ m with left:=m.left - 1 }:ag).uT (n+1):=⟨⟨B.ok.size,B.ok.aZ,B.ok.fX,B.ok.gG,B.ok.op,B.ok.data⟩,B.mP,B.lV,B.data,B.kZ,B.kl,B.u9,B.ve⟩
  unfold ag.uK
  split
  ·
   exact kU B'
  ·
   exact ⟨B',⟨by show 0≤m.left - 1;omega,by show m.left - 1≤24;omega,fun e=>absurd (hs.symm.trans e) (by decide),fun e=>absurd (hs.symm.trans e) (by decide),fun e=>absurd (hs.symm.trans e) (by decide),fun _=>(by show 1≤m.left - 1;omega),fun e=>absurd (hs.symm.trans e) (by decide),fun e=>absurd (hs.symm.trans e) (by decide)⟩⟩
 split
 ·
  rename_i hs
  have t:=p.mu hs
  unfold ag.sE
  split
  ·
   have B':=gI hb x m.op.data
   have hlen:(m.data++[aR m.cO x m.op.data]).length≤n+1:=by have:=hb.data;simp;omega
   exact kU ⟨⟨B'.ok.size,B'.ok.aZ,B'.ok.fX,B'.ok.gG,B'.ok.op,by show (m.data++[aR m.cO x m.op.data]).length≤_;omega⟩,B'.mP,by have:=B'.lV;show m.told≤_;have e:m.told≤n:=this;omega,hlen,B'.kZ,B'.kl,B'.u9,B'.ve⟩
  ·
   rename_i hl
   have t1:=vH (x:=x) t hl
   exact ⟨gI B x _,⟨by show 0≤m.left - 1;have:=t1.2.1;omega,by show m.left - 1≤24;omega,fun e=>absurd (hs.symm.trans e) (by decide),fun e=>absurd (hs.symm.trans e) (by decide),fun e=>absurd (hs.symm.trans e) (by decide),fun e=>absurd (hs.symm.trans e) (by decide),fun _=>t1,fun e=>absurd (hs.symm.trans e) (by decide)⟩⟩
 split
 ·
  rename_i hs
  obtain ⟨hd,hm⟩:=p.kp hs
  have hbr:=nm m m.told
  unfold ag.bU
  show ({ m.next with left:=m.next.left - 1 }:ag).Fit (n+1)
  unfold ag.next
  split
  ·
   rename_i hl
   have hmm:many m.op.data=8∧m.op.data=1∨many m.op.data=2∧m.op.data=4:=by rcases hd with e | e <;> rw [e] <;> decide
   refine ⟨⟨⟨B.ok.size,B.ok.aZ,B.ok.fX,B.ok.gG,B.ok.op,B.ok.data⟩,by show 0≤m.told+1;have:=hb.mP;omega,by show m.told+1≤_;have:=hb.lV;push_cast;omega,B.data,B.kZ,B.kl,hbr.1,hbr.2⟩,?_⟩
   refine ⟨by show 0≤many m.op.data - 1;omega,by show many m.op.data - 1≤24;omega,fun e=>absurd (hs.symm.trans e) (by decide),fun e=>absurd (hs.symm.trans e) (by decide),fun e=>absurd (hs.symm.trans e) (by decide),fun e=>absurd (hs.symm.trans e) (by decide),fun e=>absurd (hs.symm.trans e) (by decide),fun _=>⟨hd,?_⟩⟩
   show m.op.data * (many m.op.data - 1)≤8
   rcases hmm with ⟨e1,e2⟩ | ⟨e1,e2⟩ <;> rw [e1,e2] <;> decide
  ·
   refine ⟨⟨⟨B.ok.size,B.ok.aZ,B.ok.fX,B.ok.gG,B.ok.op,B.ok.data⟩,B.mP,B.lV,B.data,B.kZ,B.kl,B.u9,B.ve⟩,?_⟩
   refine ⟨by show 0≤m.left - 1;omega,by show m.left - 1≤24;omega,fun e=>absurd (hs.symm.trans e) (by decide),fun e=>absurd (hs.symm.trans e) (by decide),fun e=>absurd (hs.symm.trans e) (by decide),fun e=>absurd (hs.symm.trans e) (by decide),fun e=>absurd (hs.symm.trans e) (by decide),fun _=>⟨hd,?_⟩⟩
   show m.op.data * (m.left - 1)≤8
   rcases hd with e | e <;> rw [e] at hm ⊢ <;> omega
 split
 ·
  exact ⟨⟨⟨B.ok.size,B.ok.aZ,B.ok.fX,B.ok.gG,B.ok.op,B.ok.data⟩,B.mP,B.lV,B.data,B.kZ,B.kl,B.u9,B.ve⟩,⟨p.kx,p.ln,p.Ly,p.jM,p.LB,p.cF,p.mu,p.kp⟩⟩
 ·
  exact ⟨B,p⟩
theorem Jj {m:ag} {n k:Nat} (h:m.Fit n) (hk:n≤k):m.Fit k:=⟨yL h.base hk,h.part⟩
theorem GC {m:ag} {n:Nat} (h:m.Fit n) (x:Int) (hn:n<1099511627776):(m.clock x).2.Fit (n+1):=by
 unfold ag.clock
 split
 ·
  exact J8 (rT h) x hn
 ·
  exact Jj (rT h) (Nat.le_succ n)
theorem zm {m:ag} (ok:m.Ok) (n:Nat):m.fresh.Fit n :=
 ⟨⟨⟨ok.size,ok.aZ,by show (0:Int)≤0;decide,by show (0:Int)<4096;decide,by show Au gF.zero;decide,by show ([]:List Int).length≤_;simp⟩,by show (0:Int)≤0;decide,by show (0:Int)≤n;omega,Nat.zero_le _,by show (0:Int)≤0;decide,by show (0:Int)≤8;decide,by show (0:Int)≤0;decide,by show (0:Int)<256;decide⟩,⟨by show (0:Int)≤8;decide,by show (8:Int)≤24;decide,fun _=>Dq 1 8 (.inl rfl) (by decide) (by decide),fun e=>absurd e (by show ¬ (0:Int)=2;decide),fun e=>absurd e (by show ¬ (0:Int)=3;decide),fun e=>absurd e (by show ¬ (0:Int)=4;decide),fun e=>absurd e (by show ¬ (0:Int)=5;decide),fun e=>absurd e (by show ¬ (0:Int)=6;decide)⟩⟩
theorem xJ {m:ag} (ok:m.Ok) (n:Nat):m.select.Fit n:=by
 unfold ag.select
 split
 ·
  exact vU (zm ok n).base _
 ·
  exact zm ok n
end
end Go.Proofs.YtcfdenckiigdaaaGreat
namespace Go.Proofs
open Go.Shelf
def Tryz.Cz:Go.Shelf.Ren:=⟨fun | 144=>85 | 143=>122 | 219=>160 | 217=>188 | 225=>189 | 224=>190 | 267=>191 | 266=>200 | 314=>201 | n=>n,fun | 9=>9 | 4=>4 | 3=>3 | 5=>5 | 46=>28 | 146=>248 | 51=>114 | n=>n,fun | 1=>0 | n=>n⟩
theorem Tryz.K7:Go.Proofs.Lays.n144 prog Tryz.Cz:={ mixed:=by kernel_rfl,f143:=func122.trans (congrArg some (by kernel_rfl)),f144:=func85.trans (congrArg some (by kernel_rfl)),f217:=func188.trans (congrArg some (by kernel_rfl)),f219:=func160.trans (congrArg some (by kernel_rfl)),f224:=func190.trans (congrArg some (by kernel_rfl)),f225:=func189.trans (congrArg some (by kernel_rfl)),f266:=func200.trans (congrArg some (by kernel_rfl)),f267:=func191.trans (congrArg some (by kernel_rfl)),f314:=func201.trans (congrArg some (by kernel_rfl)),t3:=underlying3,a3:=Tryz.isAgg3,z3:=Tryz.sizeOf3,v3:=Tryz.zeroValue3,t4:=underlying4,a4:=Tryz.isAgg4,z4:=Tryz.sizeOf4,v4:=Tryz.zeroValue4,t5:=underlying5,a5:=Tryz.isAgg5,z5:=Tryz.sizeOf5,v5:=Tryz.zeroValue5,t9:=underlying9,a9:=Tryz.isAgg9,z9:=Tryz.sizeOf9,v9:=Tryz.zeroValue9,t46:=underlying28,a46:=Tryz.isAgg28,z46:=Tryz.sizeOf28,v46:=Tryz.zeroValue28,t51:=underlying114,a51:=Tryz.isAgg114,z51:=Tryz.sizeOf114,v51:=Tryz.zeroValue114,t146:=underlying248,a146:=Tryz.isAgg248,z146:=Tryz.sizeOf248,v146:=Tryz.zeroValue248,g1:=by kernel_rfl }
open Go.RowKit Go.Lib in
theorem Tryz.strings_Contains_one (s:ByteArray) (c:UInt8) (w:World):Calls prog 85 #[.string s,.string ⟨#[c]⟩] w fun e w'=>e=.returned (.bool (decide (0≤Lib.indexByte s.data.toList c)))∧w'=w:=Any.strings_Contains_one Tryz.K7 s c w
def Tryz.CA:Go.Shelf.Ren:=⟨fun | 212=>105 | 263=>148 | 264=>149 | n=>n,fun | 46=>28 | 51=>114 | 146=>248 | 53=>250 | 148=>251 | n=>n,fun | n=>n⟩
theorem Tryz.K8:Go.Proofs.Lays.n212 prog Tryz.CA:={ mixed:=by kernel_rfl,f212:=func105.trans (congrArg some (by kernel_rfl)),f263:=func148.trans (congrArg some (by kernel_rfl)),f264:=func149.trans (congrArg some (by kernel_rfl)),t46:=underlying28,a46:=Tryz.isAgg28,z46:=Tryz.sizeOf28,v46:=Tryz.zeroValue28,t51:=underlying114,a51:=Tryz.isAgg114,z51:=Tryz.sizeOf114,v51:=Tryz.zeroValue114,t53:=underlying250,a53:=Tryz.isAgg250,z53:=Tryz.sizeOf250,v53:=Tryz.zeroValue250,t146:=underlying248,a146:=Tryz.isAgg248,z146:=Tryz.sizeOf248,v146:=Tryz.zeroValue248,t148:=underlying251,a148:=Tryz.isAgg251,z148:=Tryz.sizeOf251,v148:=Tryz.zeroValue251 }
open Go.RowKit Go.Lib in
theorem Tryz.bits_Mul (x y:Nat) (hx:x<18446744073709551616) (hy:y<18446744073709551616) (w:World):Calls prog 105 #[.int .u64 x,.int .u64 y] w fun e w'=>e=.returned (.tuple #[.int .u64 ((x * y / 18446744073709551616:Nat):Int),.int .u64 ((x * y % 18446744073709551616:Nat):Int)])∧w'=w:=Any.bits_Mul Tryz.K8 x y hx hy w
def Tryz.uv:Go.Shelf.Ren:=⟨fun | 105=>72 | 212=>105 | 99=>106 | 165=>107 | 166=>108 | 170=>109 | 169=>110 | 263=>148 | 264=>149 | 206=>150 | 240=>151 | 241=>152 | 276=>178 | 277=>179 | n=>n,fun | 9=>9 | 3=>3 | 4=>4 | 20=>20 | 0=>0 | 46=>28 | 109=>200 | 5=>5 | 72=>204 | 76=>208 | 51=>114 | 146=>248 | 53=>250 | 148=>251 | 70=>202 | 37=>29 | 75=>207 | 127=>253 | 164=>275 | 80=>40 | n=>n,fun | n=>n⟩
theorem Tryz.vA:Go.Proofs.Lays.n105 prog Tryz.uv:={ mixed:=by kernel_rfl,f99:=func106.trans (congrArg some (by kernel_rfl)),f105:=func72.trans (congrArg some (by kernel_rfl)),f165:=func107.trans (congrArg some (by kernel_rfl)),f166:=func108.trans (congrArg some (by kernel_rfl)),f169:=func110.trans (congrArg some (by kernel_rfl)),f170:=func109.trans (congrArg some (by kernel_rfl)),f206:=func150.trans (congrArg some (by kernel_rfl)),f212:=func105.trans (congrArg some (by kernel_rfl)),f240:=func151.trans (congrArg some (by kernel_rfl)),f241:=func152.trans (congrArg some (by kernel_rfl)),f263:=func148.trans (congrArg some (by kernel_rfl)),f264:=func149.trans (congrArg some (by kernel_rfl)),f276:=func178.trans (congrArg some (by kernel_rfl)),f277:=func179.trans (congrArg some (by kernel_rfl)),t0:=underlying0,a0:=Tryz.isAgg0,z0:=Tryz.sizeOf0,v0:=Tryz.zeroValue0,t3:=underlying3,a3:=Tryz.isAgg3,z3:=Tryz.sizeOf3,v3:=Tryz.zeroValue3,t4:=underlying4,a4:=Tryz.isAgg4,z4:=Tryz.sizeOf4,v4:=Tryz.zeroValue4,t5:=underlying5,a5:=Tryz.isAgg5,z5:=Tryz.sizeOf5,v5:=Tryz.zeroValue5,t9:=underlying9,a9:=Tryz.isAgg9,z9:=Tryz.sizeOf9,v9:=Tryz.zeroValue9,t20:=underlying20,a20:=Tryz.isAgg20,z20:=Tryz.sizeOf20,v20:=Tryz.zeroValue20,t37:=underlying29,a37:=Tryz.isAgg29,z37:=Tryz.sizeOf29,v37:=Tryz.zeroValue29,t46:=underlying28,a46:=Tryz.isAgg28,z46:=Tryz.sizeOf28,v46:=Tryz.zeroValue28,t51:=underlying114,a51:=Tryz.isAgg114,z51:=Tryz.sizeOf114,v51:=Tryz.zeroValue114,t53:=underlying250,a53:=Tryz.isAgg250,z53:=Tryz.sizeOf250,v53:=Tryz.zeroValue250,t70:=underlying202,a70:=Tryz.isAgg202,z70:=Tryz.sizeOf202,v70:=Tryz.zeroValue202,t72:=underlying204,a72:=Tryz.isAgg204,z72:=Tryz.sizeOf204,v72:=Tryz.zeroValue204,t75:=underlying207,a75:=Tryz.isAgg207,z75:=Tryz.sizeOf207,v75:=Tryz.zeroValue207,t76:=underlying208,a76:=Tryz.isAgg208,z76:=Tryz.sizeOf208,v76:=Tryz.zeroValue208,t109:=underlying200,a109:=Tryz.isAgg200,z109:=Tryz.sizeOf200,v109:=Tryz.zeroValue200,t127:=underlying253,a127:=Tryz.isAgg253,z127:=Tryz.sizeOf253,v127:=Tryz.zeroValue253,t146:=underlying248,a146:=Tryz.isAgg248,z146:=Tryz.sizeOf248,v146:=Tryz.zeroValue248,t148:=underlying251,a148:=Tryz.isAgg251,z148:=Tryz.sizeOf251,v148:=Tryz.zeroValue251,t164:=underlying275,a164:=Tryz.isAgg275,z164:=Tryz.sizeOf275,v164:=Tryz.zeroValue275 }
theorem Tryz.lK:Builder.Extra prog Tryz.uv:={ sizeBuilder:=by kernel_rfl,liesBuilder:=by kernel_rfl,t5:=underlying5,a5:=Tryz.isAgg5,z5:=Tryz.sizeOf5,v5:=Tryz.zeroValue5,infoByte:=by kernel_rfl,cellsByte:=by kernel_rfl,sizeByte:=by kernel_rfl,neB5:=by decide }
open Go.RowKit Go.Lib in
theorem Tryz.strings_Repeat_main (s:ByteArray) (c:Nat) (w:World) (hc2:2≤c) (hc:c≤9223372036854775807) (hlen:s.size * c≤140737488355328) (h0:0<s.size):Calls prog 72 #[.string s,.int .i64 c] w fun e w'=>e=.returned (.string ⟨(Lib.repeatL s.data.toList c).toArray⟩)∧Below w.heap.size w w':=Any.strings_Repeat_main Tryz.vA Tryz.lK s c w hc2 hc hlen h0
open Go.RowKit Go.Lib in
theorem Tryz.strings_Repeat_zero (s:ByteArray) (w:World):Calls prog 72 #[.string s,.int .i64 0] w fun e w'=>e=.returned (.string ⟨#[]⟩)∧w'=w:=Any.strings_Repeat_zero Tryz.vA s w
open Go.RowKit Go.Lib in
theorem Tryz.strings_Repeat_one (s:ByteArray) (w:World):Calls prog 72 #[.string s,.int .i64 1] w fun e w'=>e=.returned (.string s)∧w'=w:=Any.strings_Repeat_one Tryz.vA s w
open Go.RowKit Go.Lib in
theorem Tryz.strings_Repeat (s:ByteArray) (c:Nat) (w:World) (hc:c≤9223372036854775807) (hlen:s.size * c≤140737488355328):Calls prog 72 #[.string s,.int .i64 c] w fun e w'=>e=.returned (.string ⟨(Lib.repeatL s.data.toList c).toArray⟩)∧Below w.heap.size w w':=Any.strings_Repeat Tryz.vA Tryz.lK s c w hc hlen
def Tryz.Cx:Go.Shelf.Ren:=⟨fun | 108=>139 | n=>n,fun | 28=>22 | 3=>3 | 0=>0 | 4=>4 | n=>n,fun | n=>n⟩
theorem Tryz.K5:Go.Proofs.Lays.n108 prog Tryz.Cx:={ mixed:=by kernel_rfl,f108:=func139.trans (congrArg some (by kernel_rfl)),t0:=underlying0,a0:=Tryz.isAgg0,z0:=Tryz.sizeOf0,v0:=Tryz.zeroValue0,t3:=underlying3,a3:=Tryz.isAgg3,z3:=Tryz.sizeOf3,v3:=Tryz.zeroValue3,t4:=underlying4,a4:=Tryz.isAgg4,z4:=Tryz.sizeOf4,v4:=Tryz.zeroValue4,t28:=underlying22,a28:=Tryz.isAgg22,z28:=Tryz.sizeOf22,v28:=Tryz.zeroValue22 }
open Go.Lib in
theorem Tryz.slices_Index_int (b off n c:Nat) (zs:List Int) (x:Int) (w:World) (hz:n≤zs.length) (hbig:n≤9223372036854775807) (hc : ∀ j,j<zs.length→w.cell? ⟨b,off+j,none⟩=some (.int .i64 (zs.getD j 0))):Calls prog 139 #[.slice (some ⟨b,off,none⟩) n c,.int .i64 x] w fun e w'=>e=.returned (.int .i64 (Lib.idxOf (zs.take n) x))∧w'=w:=Any.slices_Index_int Tryz.K5 b off n c zs x w hz hbig hc
def Tryz.Cy:Go.Shelf.Ren:=⟨fun | 111=>162 | n=>n,fun | 28=>22 | 3=>3 | 4=>4 | 0=>0 | n=>n,fun | n=>n⟩
theorem Tryz.K6:Go.Proofs.Lays.n111 prog Tryz.Cy:={ mixed:=by kernel_rfl,f111:=func162.trans (congrArg some (by kernel_rfl)),t0:=underlying0,a0:=Tryz.isAgg0,z0:=Tryz.sizeOf0,v0:=Tryz.zeroValue0,t3:=underlying3,a3:=Tryz.isAgg3,z3:=Tryz.sizeOf3,v3:=Tryz.zeroValue3,t4:=underlying4,a4:=Tryz.isAgg4,z4:=Tryz.sizeOf4,v4:=Tryz.zeroValue4,t28:=underlying22,a28:=Tryz.isAgg22,z28:=Tryz.sizeOf22,v28:=Tryz.zeroValue22 }
open Go.RowKit Go.Lib in
theorem Tryz.slices_Equal_int (b1 o1 n c b2 o2 m d:Nat) (xs ys:List Int) (w:World) (hx:n≤xs.length) (hy:m≤ys.length) (hbig:n≤9223372036854775807) (hbig2:m≤9223372036854775807) (hc1 : ∀ j,j<xs.length→w.cell? ⟨b1,o1+j,none⟩=some (.int .i64 (xs.getD j 0))) (hc2 : ∀ j,j<ys.length→w.cell? ⟨b2,o2+j,none⟩=some (.int .i64 (ys.getD j 0))):Calls prog 162 #[.slice (some ⟨b1,o1,none⟩) n c,.slice (some ⟨b2,o2,none⟩) m d] w fun e w'=>e=.returned (.bool (xs.take n == ys.take m)) ∧ ∃ q,w'=w.drewN q:=Any.slices_Equal_int Tryz.K6 b1 o1 n c b2 o2 m d xs ys w hx hy hbig hbig2 hc1 hc2
def Tryz.ym:Go.Shelf.Ren:=⟨fun | 15=>56 | n=>n,fun | 22=>22 | 3=>3 | 4=>4 | n=>n,fun | n=>n⟩
theorem Tryz.GY:Go.Proofs.Lays2.n15 prog Tryz.ym:={ mixed:=by kernel_rfl,f15:=func56.trans (congrArg some (by kernel_rfl)),t3:=underlying3,a3:=Tryz.isAgg3,z3:=Tryz.sizeOf3,v3:=Tryz.zeroValue3,t4:=underlying4,a4:=Tryz.isAgg4,z4:=Tryz.sizeOf4,v4:=Tryz.zeroValue4,t22:=underlying22,a22:=Tryz.isAgg22,z22:=Tryz.sizeOf22,v22:=Tryz.zeroValue22,i3:=by kernel_rfl }
open Go.RowKit Go.Lib in
theorem Tryz.slices_Clone_int (b off n c:Nat) (zs:List Int) (w:World) (hz:n≤zs.length) (hbig:n * 8≤140737488355328) (hc : ∀ j,j<zs.length→w.cell? ⟨b,off+j,none⟩=some (.int .i64 (zs.getD j 0))):Calls prog 56 #[.slice (some ⟨b,off,none⟩) n c] w fun e w' => ∃ v',e=.returned v'∧w'.ownsRow w.heap.size 3 1 v' n ((zs.take n).map (Value.int .i64))∧v'≠.slice none 0 0∧Below w.heap.size w w':=Any.slices_Clone_int Tryz.GY b off n c zs w hz hbig hc
def Tryz.yn:Go.Shelf.Ren:=⟨fun | 16=>177 | n=>n,fun | 24=>65 | 9=>9 | 4=>4 | n=>n,fun | n=>n⟩
theorem Tryz.GZ:Go.Proofs.Lays2.n16 prog Tryz.yn:={ mixed:=by kernel_rfl,f16:=func177.trans (congrArg some (by kernel_rfl)),t4:=underlying4,a4:=Tryz.isAgg4,z4:=Tryz.sizeOf4,v4:=Tryz.zeroValue4,t9:=underlying9,a9:=Tryz.isAgg9,z9:=Tryz.sizeOf9,v9:=Tryz.zeroValue9,t24:=underlying65,a24:=Tryz.isAgg65,z24:=Tryz.sizeOf65,v24:=Tryz.zeroValue65,i9:=by kernel_rfl }
open Go.RowKit Go.Lib in
theorem Tryz.slices_Clone_string (b off n c:Nat) (zs:List ByteArray) (w:World) (hz:n≤zs.length) (hbig:n * 16≤140737488355328) (hc : ∀ j,j<zs.length→w.cell? ⟨b,off+j,none⟩=some (.string (zs.getD j ByteArray.empty))):Calls prog 177 #[.slice (some ⟨b,off,none⟩) n c] w fun e w' => ∃ v',e=.returned v'∧w'.ownsRow w.heap.size 9 1 v' n ((zs.take n).map (Value.string))∧v'≠.slice none 0 0∧Below w.heap.size w w':=Any.slices_Clone_string Tryz.GZ b off n c zs w hz hbig hc
end Go.Proofs
namespace Go.Proofs.YtcfdenckiigdaaaGreat
open Tryz
end Go.Proofs.YtcfdenckiigdaaaGreat

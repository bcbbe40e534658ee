/- Part 18 of the contracts. -/
import Derived.Test.YtcfdenckiigdaaaGreatBu16
set_option linter.unusedVariables false
set_option maxRecDepth 100000
set_option maxHeartbeats 4000000
namespace Go.Proofs.YtcfdenckiigdaaaGreat
open Tryz Go.RowKit
structure Core where
 cells:ByteArray
 bn:Bool
 aZ:Bool
 en:Bool
 aA:Bool
 aW:Option ie
 busy:List Int
def af.core (m:af):Core:=⟨m.cells,m.bn,m.aZ,m.en,m.aA,m.aW,m.busy⟩
def Core.pass (c:Core):Core:=match c.aW with
 | none=>c
 | some j=>if j.gO then c else if j.left - 1≤0 then { c with cells:=cB j c.cells ⟨#[255]⟩,aW:=none,en:=false } else { c with aW:=some { j with left:=j.left - 1 } }
def Core.bC:Nat→Core→Core
 | 0,c=>c
 | n+1,c=>Core.bC n c.pass
theorem ib : ∀ (a b:Nat) (c:Core),Core.bC (a+b) c=Core.bC b (Core.bC a c)
 | 0,b,c=>by rw [Nat.zero_add];rfl
 | a+1,b,c=>by rw [Nat.add_right_comm];exact ib a b c.pass
def af.aR (m:af) (c:Core):af:={ m with cells:=c.cells,bn:=c.bn,aZ:=c.aZ,en:=c.en,aA:=c.aA,aW:=c.aW,busy:=c.busy }
theorem l8 (m:af):m.pass=m.aR m.core.pass:=by
 unfold af.pass Core.pass af.aR af.core
 cases h:m.aW with
 | none=>simp only;rw [← h]
 | some j =>
  simp only
  split
  ·
   simp only;rw [← h]
  ·
   split <;> rfl
theorem jC (m:af):m.behind.core=m.core:=by
 unfold af.behind
 repeat' split
 all_goals rfl
theorem sW (m:af) (b:Int):(m.cM b).core=m.core:=by
 unfold af.cM
 split
 ·
  rfl
 ·
  split
  ·
   rfl
  ·
   exact jC _
theorem Gf (m:af) (x:Int):(m.step x).2.core=m.core:=by
 unfold af.step
 split
 ·
  unfold af.rI;split;exact sW _ _;rfl
 split
 ·
  unfold af.rJ;split;exact jC _;rfl
 split
 ·
  unfold af.rK;split;exact jC _;rfl
 split
 ·
  unfold af.ua;split;exact jC _;rfl
 split
 ·
  unfold af.rL;split;exact jC _;rfl
 split
 ·
  unfold af.bS af.next;split <;> rfl
 split <;> rfl
theorem C9 (m:af) (x:Int):(m.clock x).2.core=m.core.pass:=by
 have h:m.pass.core=m.core.pass:=by rw [l8];rfl
 unfold af.clock
 split
 ·
  rw [Gf];exact h
 ·
  exact h
def feed:List Int→af→af
 | [],m=>m
 | x::r,m=>feed r (m.clock x).2
theorem qF : ∀ (a b:List Int) (m:af),feed (a++b) m=feed b (feed a m)
 | [],b,m=>rfl
 | x::a,b,m=>qF a b _
theorem wN : ∀ (xs:List Int) (d:aE),(aE.row xs d).1=true→(aE.row xs d).2={ d with an:=feed xs d.an,n:=d.n+xs.length }
 | [],d,h=>rfl
 | x::r,d,h=>by
  cases hs:d.stop with
  | true=>rw [ry x r d hs] at h;cases h
  | false =>
   rw [wL x r d hs] at h ⊢
   rw [wN r _ h]
   simp only [aE.tick,feed,List.length_cons]
   congr 1
   omega
theorem du {r:Bool×aE} {f:aE→Bool×aE} (h:(andThen r f).1=true):r.1=true∧(f r.2).1=true∧(andThen r f).2=(f r.2).2:=by
 unfold andThen at h ⊢
 split at h
 ·
  rename_i hr;exact ⟨hr,h,by rw [if_pos hr]⟩
 ·
  cases h
def lB (L b:Int):List Int:=(bK b L).map (fF L)
def dY (L:Int):List Int→List Int
 | []=>[]
 | b::r=>lB L b++dY L r
theorem yW (L:Int) : ∀ (bs:List Int) (d:aE),(aE.dv L bs d).1=true→(aE.dv L bs d).2={ d with an:=feed (dY L bs) d.an,n:=d.n+(dY L bs).length }
 | [],d,h=>rfl
 | b::r,d,h=>by
  cases hp:(aE.put b L d).1 with
  | false=>rw [yV L b r d hp] at h;cases h
  | true =>
   rw [Ah L b r d hp] at h ⊢
   rw [yW L r _ h,show (aE.put b L d).2={ d with an:=feed (lB L b) d.an,n:=d.n+(lB L b).length } from wN _ d hp]
   simp only [dY,qF,List.length_append]
   congr 1
   omega
theorem yA (L:Int) : ∀ (k:Nat) (xs:List Int) (d:aE),(aE.gV L k xs d).1=true→(aE.gV L k xs d).2.2={ d with an:=feed (List.replicate k 15) d.an,n:=d.n+k }
 | 0,xs,d,h=>rfl
 | k+1,xs,d,h=>by
  cases hs:d.stop with
  | true=>rw [oP L k xs d hs] at h;cases h
  | false =>
   rw [qJ L k xs d hs] at h ⊢
   rw [yA L k _ _ h]
   simp only [aE.tick,List.replicate_succ,feed]
   congr 1
   omega
def listen (L:Int):Nat→af→List Int
 | 0,m=>[]
 | k+1,m=>heard L (m.clock 15).1::listen L k (m.clock 15).2
theorem Ew (L:Int) : ∀ (k:Nat) (xs:List Int) (d:aE),(aE.gV L k xs d).1=true→(aE.gV L k xs d).2.1=xs++listen L k d.an
 | 0,xs,d,h=>by simp [aE.gV,listen]
 | k+1,xs,d,h=>by
  cases hs:d.stop with
  | true=>rw [oP L k xs d hs] at h;cases h
  | false =>
   rw [qJ L k xs d hs] at h ⊢
   rw [Ew L k _ _ h]
   simp [listen,aE.tick,aE.said]
theorem Ht (L:Int) (d:aE) (h:(aE.get L d).1=true):(aE.get L d).2={ d with an:=feed (List.replicate (many L).toNat 15) d.an,n:=d.n+(many L).toNat,out:=d.out++[cR (listen L (many L).toNat d.an) L] }:=by
 unfold aE.get aE.cG at h ⊢
 split at h
 ·
  rename_i hr
  rw [if_pos hr,yA L _ _ _ hr,Ew L _ _ _ hr]
  rfl
 ·
  cases h
def zv (a b:af):Prop := ∃ k,b.core=Core.bC k a.core
theorem zv.refl (a:af):zv a a:=⟨0,rfl⟩
theorem zv.trans {a b c:af} (h:zv a b) (k:zv b c):zv a c:=by
 obtain ⟨n,h⟩:=h
 obtain ⟨m,k⟩:=k
 exact ⟨n+m,by rw [k,h,ib]⟩
theorem B5 (ps:List Ph) (d:aE):zv d.an (aE.eH ps d).2.an :=
 p8 (fun m=>zv d.an m) (fun m x h=>h.trans ⟨1,C9 m x⟩) ps d (zv.refl _)
theorem zd {d:aE} (h:d.aX<0):d.stop=false:=by unfold aE.stop;simp;intro;omega
theorem wK : ∀ (xs:List Int) (d:aE),d.aX<0→(aE.row xs d).1=true∧(aE.row xs d).2.aX<0
 | [],d,h=>⟨rfl,h⟩
 | x::r,d,h=>by rw [wL x r d (zd h)];exact wK r _ h
theorem yB (L:Int) : ∀ (k:Nat) (xs:List Int) (d:aE),d.aX<0→(aE.gV L k xs d).1=true∧(aE.gV L k xs d).2.2.aX<0
 | 0,xs,d,h=>⟨rfl,h⟩
 | k+1,xs,d,h=>by rw [qJ L k xs d (zd h)];exact yB L k _ _ h
theorem Hs (L:Int) (d:aE) (h:d.aX<0):(aE.get L d).1=true∧(aE.get L d).2.aX<0:=by
 have:=yB L (many L).toNat [] d h
 unfold aE.get aE.cG
 rw [if_pos this.1]
 exact ⟨rfl,this.2⟩
theorem yT (L:Int) : ∀ (bs:List Int) (d:aE),d.aX<0→(aE.dv L bs d).1=true∧(aE.dv L bs d).2.aX<0
 | [],d,h=>⟨rfl,h⟩
 | b::r,d,h=>by
  have:=wK ((bK b L).map (fF L)) d h
  rw [Ah L b r d this.1]
  exact yT L r _ this.2
theorem yy (L:Int) : ∀ (k:Nat) (d:aE),d.aX<0→(aE.fJ L k d).1=true∧(aE.fJ L k d).2.aX<0
 | 0,d,h=>⟨rfl,h⟩
 | k+1,d,h=>by
  have:=Hs L d h
  rw [uN L k d this.1]
  exact yy L k _ this.2
theorem my {r:Bool×aE} {f:aE→Bool×aE} (h:r.1=true∧r.2.aX<0) (k:r.2.aX<0→(f r.2).1=true∧(f r.2).2.aX<0):(andThen r f).1=true∧(andThen r f).2.aX<0:=by
 unfold andThen
 rw [if_pos h.1]
 exact k h.2
theorem tR : ∀ (ps:List Ph) (d:aE),d.aX<0→(aE.eH ps d).1=true∧(aE.eH ps d).2.aX<0
 | [],d,h=>⟨rfl,h⟩
 | p::r,d,h=>my (my (yT _ _ _ h) fun h=>my (wK _ _ h) fun h=>yy _ _ _ h) (tR r _)
section
def af.bT (m:af):Int:=if m.ar=0 then 1 else if m.ar=5 then m.op.data else m.op.addr
def af.fin (m:af):af:=if m.ar=0 then m.cM m.cG else if m.ar=2 then af.behind { m with addr:=m.cG % 4096 } else if m.ar=3 then af.behind { m with mode:=m.cG,cC:=true } else af.behind { m with data:=m.data++[m.cG] }
def Ej (s:Int):Prop:=s=0∨s=2∨s=3∨s=5
theorem DZ (m:af) (x:Int) (h:Ej m.ar):(m.step x).2=if m.left - 1=0 then (m.cU x m.bT).fin else m.cU x m.bT:=by
 rcases h with h | h | h | h <;> simp [af.step,h,af.rI,af.rJ,af.rK,af.rL,af.bT,af.cU,af.fin]
theorem td (m:af) (x:Int) (hs:m.dJ=true) (h:Ej m.ar):(m.clock x).2=if m.left - 1=0 then ((m.aR m.core.pass).cU x m.bT).fin else (m.aR m.core.pass).cU x m.bT:=by
 unfold af.clock
 rw [l8,if_pos (show (m.aR m.core.pass).dJ=true from hs),DZ _ x (show Ej (m.aR m.core.pass).ar from h)]
 rfl
def pH (m:af) (xs:List Int):af:={ m.aR (Core.bC xs.length m.core) with cG:=xs.foldl (fun g x=>aN g x m.bT) m.cG,left:=m.left - xs.length }
theorem xj (m:af) (x:Int) (r:List Int):pH ((m.aR m.core.pass).cU x m.bT) r=pH m (x::r):=by
 unfold pH
 simp only [List.length_cons,List.foldl_cons]
 have e:((m.aR m.core.pass).cU x m.bT).left - (r.length:Int)=m.left - ((r.length+1:Nat):Int):=by simp only [af.cU,af.aR];omega
 rw [e];rfl
theorem ks : ∀ (xs:List Int) (m:af),xs≠[]→m.dJ=true→Ej m.ar→(xs.length:Int)=m.left→feed xs m=(pH m xs).fin
 | [],m,h,_,_,_=>absurd rfl h
 | [x],m,_,hs,ht,hl=>by
  have hl:1=m.left:=hl
  show (m.clock x).2=_
  rw [td m x hs ht,if_pos (by omega)]
  rw [← xj]
  congr 1
  have e:(m.aR m.core.pass).cU x m.bT=pH ((m.aR m.core.pass).cU x m.bT) []:=by
   unfold pH
   simp [Core.bC,af.aR,af.core]
  exact e
 | x::y::r,m,_,hs,ht,hl=>by
  simp only [List.length_cons] at hl
  show feed (y::r) (m.clock x).2=_
  have hl':(((y::r).length:Nat):Int)=((m.aR m.core.pass).cU x m.bT).left:=by simp only [af.cU,af.aR,List.length_cons];omega
  rw [td m x hs ht,if_neg (by omega)]
  exact (ks (y::r) ((m.aR m.core.pass).cU x m.bT) (by simp) hs ht hl').trans (congrArg af.fin (xj m x (y::r)))
theorem vg (L b:Int):(lB L b).length=(many L).toNat:=by
 unfold lB bK many
 split <;> rfl
theorem yw (L g b:Int) (hL:L=1∨L=4) (h0:0≤b) (h1:b<256):(lB L b).foldl (fun g x=>aN g x L) g=g * 256+b:=by
 rcases hL with rfl | rfl
 ·
  have e : ∀ y:Int,(14+y % 2) % 2=y % 2:=fun y=>by omega
  simp only [lB,bK,fF,aN,if_true,List.map_cons,List.map_nil,List.foldl_cons,List.foldl_nil,e]
  simp only [show ((2:Int) ^ 7)=128 by decide,show ((2:Int) ^ 6)=64 by decide,show ((2:Int) ^ 5)=32 by decide,show ((2:Int) ^ 4)=16 by decide,show ((2:Int) ^ 3)=8 by decide,show ((2:Int) ^ 2)=4 by decide,show ((2:Int) ^ 1)=2 by decide,show ((2:Int) ^ 0)=1 by decide]
  have e7:b / 128 % 2=b / 128:=by omega
  have e6:b / 64=2 * (b / 128)+b / 64 % 2:=by omega
  have e5:b / 32=2 * (b / 64)+b / 32 % 2:=by omega
  have e4:b / 16=2 * (b / 32)+b / 16 % 2:=by omega
  have e3:b / 8=2 * (b / 16)+b / 8 % 2:=by omega
  have e2:b / 4=2 * (b / 8)+b / 4 % 2:=by omega
  have e1:b / 2=2 * (b / 4)+b / 2 % 2:=by omega
  have e0:b=2 * (b / 2)+b / 1 % 2:=by omega
  generalize b / 128 % 2=x7 at *
  generalize b / 64 % 2=x6 at *
  generalize b / 32 % 2=x5 at *
  generalize b / 16 % 2=x4 at *
  generalize b / 8 % 2=x3 at *
  generalize b / 4 % 2=x2 at *
  generalize b / 2 % 2=x1 at *
  generalize b / 1 % 2=x0 at *
  omega
 ·
  simp only [lB,bK,fF,aN,show ¬((4:Int)=1) by decide,if_false,List.map_cons,List.map_nil,List.foldl_cons,List.foldl_nil]
  simp only [show ((2:Int) ^ 4)=16 by decide,show ((2:Int) ^ 0)=1 by decide]
  omega
theorem JW {L:Int} (h:L=1∨L=4):(many L=8∧L=1)∨(many L=2∧L=4):=by
 rcases h with rfl | rfl <;> simp [many]
theorem nC (L:Int) : ∀ bs:List Int,(dY L bs).length=(many L).toNat * bs.length
 | []=>rfl
 | b::r=>by rw [dY,List.length_append,vg,nC L r,List.length_cons,Nat.mul_succ];omega
theorem mI (L:Int) (hL:L=1∨L=4) : ∀ (bs:List Int) (g:Int),(∀ b ∈ bs,0≤b∧b<256)→(dY L bs).foldl (fun g x=>aN g x L) g=bs.foldl (fun g b=>g * 256+b) g
 | [],g,_=>rfl
 | b::r,g,h=>by
  rw [dY,List.foldl_append,yw L g b hL (h b (by simp)).1 (h b (by simp)).2,mI L hL r _ (fun x hx=>h x (by simp [hx]))];rfl
def K (c:Core) (op:gh) (st left addr mode:Int) (cC:Bool) (data:List Int) (told now:Int) (h:Nat):af :=
 ⟨c.cells,c.bn,c.aZ,true,c.en,c.aA,c.aW,c.busy,op,st,left,0,addr,mode,cC,data,told,now,false,h⟩
theorem JF (m:af):m.fresh=K m.core gh.zero 0 8 0 0 false [] 0 0 m.home:=rfl
theorem kW (m:af) (g l:Int):af.behind { m with cG:=g,left:=l }=m.behind:=by
 unfold af.behind af.enter
 repeat' split
 all_goals first | rfl | simp_all
theorem AX (m:af) (g l b:Int):af.cM { m with cG:=g,left:=l } b=m.cM b:=by
 unfold af.cM
 have e:af.known { m with cG:=g,left:=l } b=m.known b:=rfl
 rw [e]
 split
 ·
  rfl
 ·
  split
  ·
   rfl
  ·
   exact kW { m with op:=al b } g l
theorem vV {L:Int} (hL:L=1∨L=4):0<(many L).toNat:=by rcases JW hL with ⟨e,_⟩ | ⟨e,_⟩ <;> rw [e] <;> decide
variable {c:Core} {op:gh} {a mo t nw:Int} {md:Bool} {ds:List Int} {h:Nat}
theorem iW (b:Int) (h0:0≤b) (h1:b<256):feed (dY 1 [b]) (K c op 0 8 a mo md ds t nw h)=(K (c.bC 8) op 0 8 a mo md ds t nw h).cM b:=by
 have hb : ∀ x ∈ [b],0≤x∧x<256:=by simp;omega
 rw [ks _ _ (by simp [dY,lB,bK]) rfl (.inl rfl) (by rw [nC];rfl)]
 unfold pH
 rw [show (K c op 0 8 a mo md ds t nw h).bT=1 from rfl,mI 1 (.inl rfl) [b] _ hb,nC]
 have e:List.foldl (fun g b=>g * 256+b) (K c op 0 8 a mo md ds t nw h).cG [b]=b:=by simp [K]
 rw [e]
 exact AX (K (c.bC 8) op 0 8 a mo md ds t nw h) _ _ _
theorem j7 (L i:Int) (hL:L=1∨L=4) (ho:op.addr=L) (h0:0≤i) (h1:i<4096):feed (dY L [0,i / 256,i % 256]) (K c op 2 (if L=1 then 24 else 6) a mo md ds t nw h)=af.behind (K (c.bC (if L=1 then 24 else 6)) op 2 0 i mo md ds t nw h):=by
 have hb : ∀ x ∈ [0,i / 256,i % 256],0≤x∧x<256:=by simp;omega
 have hl:(dY L [0,i / 256,i % 256]).length=if L=1 then 24 else 6:=by rw [nC];rcases hL with rfl | rfl <;> rfl
 have hlan:(K c op 2 (if L=1 then 24 else 6) a mo md ds t nw h).bT=L:=by simp [af.bT,K,ho]
 rw [ks _ _ (by intro e;rw [e] at hl;simp at hl;split at hl <;> omega) rfl (.inr (.inl rfl)) (by rw [hl];simp only [K];split <;> rfl)]
 unfold pH
 rw [hlan,mI L hL _ _ hb,hl]
 unfold af.fin
 rw [if_neg (by simp [K,af.aR]),if_pos (by simp [K,af.aR])]
 have e:List.foldl (fun g b=>g * 256+b) (K c op 2 (if L=1 then 24 else 6) a mo md ds t nw h).cG [0,i / 256,i % 256]=i:=by simp [K];omega
 rw [e]
 show af.behind { K (c.bC (if L=1 then 24 else 6)) op 2 0 (i % 4096) mo md ds t nw h with cG:=_,left:=_ }=_
 rw [kW,Int.emod_eq_of_lt h0 h1]
theorem yu (L b:Int) (hL:L=1∨L=4) (ho:op.addr=L) (h0:0≤b) (h1:b<256):feed (dY L [b]) (K c op 3 (many L) a mo md ds t nw h)=af.behind (K (c.bC (many L).toNat) op 3 0 a b true ds t nw h):=by
 have hb : ∀ x ∈ [b],0≤x∧x<256:=by simp;omega
 have hl:(dY L [b]).length=(many L).toNat:=by rw [nC];simp
 have hp:=vV hL
 have hlan:(K c op 3 (many L) a mo md ds t nw h).bT=L:=by simp [af.bT,K,ho]
 rw [ks _ _ (by intro e;rw [e] at hl;simp at hl;omega) rfl (.inr (.inr (.inl rfl))) (by rw [hl];simp only [K];omega)]
 unfold pH
 rw [hlan,mI L hL _ _ hb,hl]
 unfold af.fin
 rw [if_neg (by simp [K,af.aR]),if_neg (by simp [K,af.aR]),if_pos (by simp [K,af.aR])]
 have e:List.foldl (fun g b=>g * 256+b) (K c op 3 (many L) a mo md ds t nw h).cG [b]=b:=by simp [K]
 rw [e]
 exact kW (K (c.bC (many L).toNat) op 3 0 a b true ds t nw h) _ _
theorem Hn (L b:Int) (hL:L=1∨L=4) (ho:op.data=L) (h0:0≤b) (h1:b<256):feed (lB L b) (K c op 5 (many L) a mo md ds t nw h)=af.behind (K (c.bC (many L).toNat) op 5 0 a mo md (ds++[b]) t nw h):=by
 have hl:=vg L b
 have hp:=vV hL
 have hlan:(K c op 5 (many L) a mo md ds t nw h).bT=L:=by simp [af.bT,K,ho]
 rw [ks _ _ (by intro e;rw [e] at hl;simp at hl;omega) rfl (.inr (.inr (.inr rfl))) (by rw [hl];simp only [K];omega)]
 unfold pH
 rw [hlan,yw L _ b hL h0 h1,hl]
 unfold af.fin
 rw [if_neg (by simp [K,af.aR]),if_neg (by simp [K,af.aR]),if_neg (by simp [K,af.aR])]
 have e:(K c op 5 (many L) a mo md ds t nw h).cG * 256+b=b:=by simp [K]
 rw [e]
 exact kW (K (c.bC (many L).toNat) op 5 0 a mo md (ds++[b]) t nw h) _ _
theorem AZ (hm:op.mode=false) (hd:op.dummy=0) (h1:op.data=1) (hi:op.jh=true) (s:Int):af.behind (K c op s 0 a mo md ds t nw h)=K c op 5 8 a mo md ds t nw h:=by
 unfold af.behind
 simp [K,hm,hd,h1,hi,af.enter,many]
theorem sm (hm:op.mode=false) (hd:op.dummy=0) (hda:op.data=1) (hi:op.jh=true) : ∀ (bs:List Int) (c:Core) (ds:List Int),(∀ b ∈ bs,0≤b∧b<256)→feed (dY 1 bs) (K c op 5 8 a mo md ds t nw h)=K (c.bC (8 * bs.length)) op 5 8 a mo md (ds++bs) t nw h
 | [],c,ds,_=>by simp [dY,feed,Core.bC]
 | b::r,c,ds,hb=>by
  have h:=Hn (c:=c) (ds:=ds) (a:=a) (mo:=mo) (md:=md) (t:=t) (nw:=nw) (h:=h) 1 b (.inl rfl) hda (hb b (by simp)).1 (hb b (by simp)).2
  rw [show many 1=8 from rfl,AZ hm hd hda hi] at h
  rw [dY,qF,h,sm hm hd hda hi r _ _ (fun x hx=>hb x (by simp [hx])),List.append_assoc,List.length_cons,Nat.mul_succ,Nat.add_comm,ib]
  rfl
theorem s9 (m:af) (x:Int) (hs:m.dJ=true) (h4:m.ar=4):(m.clock x).2=if m.left - 1=0 then af.behind { m.aR m.core.pass with left:=m.left - 1 } else { m.aR m.core.pass with left:=m.left - 1 }:=by
 unfold af.clock
 rw [l8,if_pos (show (m.aR m.core.pass).dJ=true from hs)]
 unfold af.step
 rw [show (m.aR m.core.pass).ar=4 from h4,if_neg (by decide),if_neg (by decide),if_neg (by decide),if_pos rfl]
 rfl
theorem mG : ∀ (n:Nat) (c:Core),feed (List.replicate (n+1) 15) (K c op 4 ((n+1:Nat):Int) a mo md ds t nw h)=af.behind (K (c.bC (n+1)) op 4 0 a mo md ds t nw h)
 | 0,c=>s9 (K c op 4 ((0+1:Nat):Int) a mo md ds t nw h) 15 rfl rfl
 | n+1,c=>by
  have e:((K c op 4 ((n+1+1:Nat):Int) a mo md ds t nw h).clock 15).2=K c.pass op 4 ((n+1:Nat):Int) a mo md ds t nw h:=by
   have hl:(K c op 4 ((n+1+1:Nat):Int) a mo md ds t nw h).left - 1=((n+1:Nat):Int):=by simp only [K];omega
   rw [s9 _ 15 rfl rfl,hl,if_neg (by omega)]
   rfl
  show feed (List.replicate (n+1) 15) (af.clock _ 15).2=_
  rw [e,mG n c.pass]
  rfl
end
section
theorem Da (m:af) (l:Nat) (hs:m.dJ=true) (h6:m.ar=6) (hl:m.left=((l+1:Nat):Int)):m.clock 15=(bitsOf m.now m.op.data l,{ m.aR m.core.pass with left:=(l:Int) }):=by
 have e:(m.aR m.core.pass).next=m.aR m.core.pass:=by
  unfold af.next
  rw [if_neg (show ¬(m.aR m.core.pass).left=0 by show ¬ m.left=0;omega)]
 unfold af.clock
 rw [l8,if_pos (show (m.aR m.core.pass).dJ=true from hs)]
 unfold af.step
 rw [show (m.aR m.core.pass).ar=6 from h6,if_neg (by decide),if_neg (by decide),if_neg (by decide),if_neg (by decide),if_neg (by decide),if_pos rfl]
 unfold af.bS
 rw [e,show (m.aR m.core.pass).left - 1=(l:Int) by show m.left - 1=_;omega]
 rfl
theorem A9 (m:af) (hs:m.dJ=true) (h6:m.ar=6) (hl:m.left=0) (v:Int) (hv:(m.aR m.core.pass).eC m.told=v):m.clock 15=(bitsOf v m.op.data (many m.op.data - 1),{ m.aR m.core.pass with now:=v,left:=many m.op.data - 1,told:=m.told+1 }):=by
 have e:(m.aR m.core.pass).next={ m.aR m.core.pass with now:=v,left:=many m.op.data,told:=m.told+1 }:=by
  unfold af.next
  rw [if_pos (show (m.aR m.core.pass).left=0 from hl),← hv]
  rfl
 unfold af.clock
 rw [l8,if_pos (show (m.aR m.core.pass).dJ=true from hs)]
 unfold af.step
 rw [show (m.aR m.core.pass).ar=6 from h6,if_neg (by decide),if_neg (by decide),if_neg (by decide),if_neg (by decide),if_neg (by decide),if_pos rfl]
 unfold af.bS
 rw [e]
 rfl
theorem tI (L:Int) : ∀ (l:Nat) (m:af),m.dJ=true→m.ar=6→m.left=(l:Int)→listen L l m=(List.range l).reverse.map (fun i:Nat=>heard L (bitsOf m.now m.op.data i))∧feed (List.replicate l 15) m={ m.aR (m.core.bC l) with left:=0 }
 | 0,m,_,_,hl=>⟨rfl,by
   have hl:m.left=0:=hl
   show m={ m.aR m.core with left:=0 }
   rw [← hl];rfl⟩
 | l+1,m,hs,h6,hl=>by
  have e:=Da m l hs h6 hl
  obtain ⟨h1,h2⟩:=tI L l { m.aR m.core.pass with left:=(l:Int) } hs h6 rfl
  refine ⟨?_,?_⟩
  ·
   show heard L (m.clock 15).1::listen L l (m.clock 15).2=_
   rw [e,List.range_succ,List.reverse_append,List.map_append]
   simp only [h1]
   rfl
  ·
   show feed (List.replicate l 15) (m.clock 15).2=_
   rw [e]
   simp only [h2]
   rfl
theorem FA (L v:Int) (hL:L=1∨L=4) (h0:0≤v) (h1:v<256):cR ((List.range (many L).toNat).reverse.map fun i:Nat=>heard L (bitsOf v L i)) L=v:=by
 rcases hL with rfl | rfl
 ·
  rw [show (List.range (many 1).toNat).reverse=[7,6,5,4,3,2,1,0] by decide]
  have e : ∀ y:Int,(13+2 * (y % 2)) / 2 % 2=y % 2:=fun y=>by omega
  simp only [cR,heard,bitsOf,if_true,List.map_cons,List.map_nil,List.foldl_cons,List.foldl_nil,e]
  simp only [show ((2:Int) ^ (((7:Nat):Int)).toNat)=128 by decide,show ((2:Int) ^ (((6:Nat):Int)).toNat)=64 by decide,show ((2:Int) ^ (((5:Nat):Int)).toNat)=32 by decide,show ((2:Int) ^ (((4:Nat):Int)).toNat)=16 by decide,show ((2:Int) ^ (((3:Nat):Int)).toNat)=8 by decide,show ((2:Int) ^ (((2:Nat):Int)).toNat)=4 by decide,show ((2:Int) ^ (((1:Nat):Int)).toNat)=2 by decide,show ((2:Int) ^ (((0:Nat):Int)).toNat)=1 by decide]
  have e7:v / 128 % 2=v / 128:=by omega
  have e6:v / 64=2 * (v / 128)+v / 64 % 2:=by omega
  have e5:v / 32=2 * (v / 64)+v / 32 % 2:=by omega
  have e4:v / 16=2 * (v / 32)+v / 16 % 2:=by omega
  have e3:v / 8=2 * (v / 16)+v / 8 % 2:=by omega
  have e2:v / 4=2 * (v / 8)+v / 4 % 2:=by omega
  have e1:v / 2=2 * (v / 4)+v / 2 % 2:=by omega
  have e0:v=2 * (v / 2)+v / 1 % 2:=by omega
  generalize v / 128 % 2=x7 at *
  generalize v / 64 % 2=x6 at *
  generalize v / 32 % 2=x5 at *
  generalize v / 16 % 2=x4 at *
  generalize v / 8 % 2=x3 at *
  generalize v / 4 % 2=x2 at *
  generalize v / 2 % 2=x1 at *
  generalize v / 1 % 2=x0 at *
  omega
 ·
  rw [show (List.range (many 4).toNat).reverse=[1,0] by decide]
  simp only [cR,heard,bitsOf,show ¬((4:Int)=1) by decide,if_false,List.map_cons,List.map_nil,List.foldl_cons,List.foldl_nil]
  simp only [show ((16:Int) ^ (((1:Nat):Int)).toNat)=16 by decide,show ((16:Int) ^ (((0:Nat):Int)).toNat)=1 by decide]
  omega
variable {c:Core} {op:gh} {a mo t nw:Int} {md:Bool} {ds:List Int} {h:Nat}
theorem KD (L:Int) (hL:L=1∨L=4) (ho:op.data=L) (o:List Int) (n:Nat) (aX:Int) (hg:(aE.get L ⟨K c op 6 0 a mo md ds t nw h,o,n,aX⟩).1=true) (v:Int) (hv:(K c.pass op 6 0 a mo md ds t nw h).eC t=v):(aE.get L ⟨K c op 6 0 a mo md ds t nw h,o,n,aX⟩).2=⟨K (c.bC (many L).toNat) op 6 0 a mo md ds (t+1) v h,o++[v],n+(many L).toNat,aX⟩:=by
 have hv2:0≤v∧v<256:=by rw [← hv];exact mC _ _
 have hp:=vV hL
 obtain ⟨l,hl⟩ : ∃ l,(many L).toNat=l+1:=⟨(many L).toNat - 1,by omega⟩
 have hml:many L=((l+1:Nat):Int):=by omega
 have e:=A9 (K c op 6 0 a mo md ds t nw h) rfl rfl rfl v hv
 have eo:(K c op 6 0 a mo md ds t nw h).op.data=L:=ho
 rw [eo,hml,show ((l+1:Nat):Int) - 1=(l:Int) by omega] at e
 obtain ⟨h1,h2⟩:=tI L l _ (show ({ (K c op 6 0 a mo md ds t nw h).aR (K c op 6 0 a mo md ds t nw h).core.pass with now:=v,left:=(l:Int),told:=t+1 }:af).dJ=true from rfl) rfl rfl
 have hb:=FA L v hL hv2.1 hv2.2
 rw [hl,List.range_succ,List.reverse_append,List.map_append] at hb
 rw [Ht L _ hg,hl]
 have e1:listen L (l+1) (K c op 6 0 a mo md ds t nw h)=heard L (bitsOf v L l)::(List.range l).reverse.map (fun i:Nat=>heard L (bitsOf v L i)):=by
  show heard L ((K c op 6 0 a mo md ds t nw h).clock 15).1::listen L l ((K c op 6 0 a mo md ds t nw h).clock 15).2=_
  rw [e]
  congr 1
  have eo2:op.data=L:=ho
  rw [← eo2] at h1 ⊢
  exact h1
 have e2:feed (List.replicate (l+1) 15) (K c op 6 0 a mo md ds t nw h)=K (c.bC (l+1)) op 6 0 a mo md ds (t+1) v h:=by
  show feed (List.replicate l 15) ((K c op 6 0 a mo md ds t nw h).clock 15).2=_
  rw [e]
  exact h2
 simp only [e1,e2]
 congr 2
 exact congrArg (fun z=>[z]) hb
def Core.still (c:Core):Prop:=c.pass=c
theorem fi {c:Core} (hc:c.still) : ∀ n,c.bC n=c
 | 0=>rfl
 | n+1=>by show Core.bC n c.pass=c;rw [hc];exact fi hc n
def comes (c:Core) (op:gh) (a:Int) (t:Int) (n:Nat):List Int:=(List.range n).map fun i:Nat=>(K c op 6 0 a 0 false [] 0 0 0).eC (t+i)
theorem Dc (c:Core) (op:gh) (a t:Int) (n:Nat):comes c op a t (n+1)=(K c op 6 0 a 0 false [] 0 0 0).eC t::comes c op a (t+1) n:=by
 unfold comes
 rw [List.range_succ_eq_map,List.map_cons,List.map_map]
 simp only [Int.natCast_zero,Int.add_zero]
 congr 1
 refine List.map_congr_left fun i _ => ?_
 simp only [Function.comp]
 congr 1
 omega
theorem Hu (L:Int) (hL:L=1∨L=4) (ho:op.data=L) (hc:c.still) (aX:Int) : ∀ (k:Nat) (t nw:Int) (o:List Int) (n:Nat),(aE.fJ L k ⟨K c op 6 0 a mo md ds t nw h,o,n,aX⟩).1=true → ∃ nw',(aE.fJ L k ⟨K c op 6 0 a mo md ds t nw h,o,n,aX⟩).2.an=K c op 6 0 a mo md ds (t+k) nw' h∧(aE.fJ L k ⟨K c op 6 0 a mo md ds t nw h,o,n,aX⟩).2.out=o++comes c op a t k
 | 0,t,nw,o,n,_=>⟨nw,by simp [aE.fJ],by simp [aE.fJ,comes]⟩
 | k+1,t,nw,o,n,hg=>by
  cases hp:(aE.get L ⟨K c op 6 0 a mo md ds t nw h,o,n,aX⟩).1 with
  | false=>rw [sr L k _ hp] at hg;cases hg
  | true =>
   have e:=KD L hL ho o n aX hp _ rfl
   rw [uN L k _ hp,e,fi hc] at hg ⊢
   obtain ⟨nw',h1,h2⟩:=Hu L hL ho hc aX k _ _ _ _ hg
   refine ⟨nw',by rw [h1];congr 1;omega,?_⟩
   rw [h2,Dc,List.append_assoc]
   rw [hc]
   rfl
def Ends (ps:List Ph) (m:af) (o:List Int) (P:af→List Int→Prop):Prop := ∀ n aX,(aE.eH ps ⟨m,o,n,aX⟩).1=true→P (aE.eH ps ⟨m,o,n,aX⟩).2.an (aE.eH ps ⟨m,o,n,aX⟩).2.out
theorem Ends.nil {m:af} {o:List Int} {P:af→List Int→Prop} (h:P m o):Ends [] m o P:=fun _ _ _=>h
theorem Ends.dv {L:Int} {bs:List Int} {r:List Ph} {m:af} {o:List Int} {P:af→List Int→Prop} (h:Ends r (feed (dY L bs) m) o P):Ends (⟨L,bs,0,0⟩::r) m o P:=fun n aX hr=>by
 obtain ⟨h1,h2,e⟩:=du hr
 obtain ⟨g1,g2,ge⟩:=du h1
 obtain ⟨k1,k2,ke⟩:=du g2
 have e3:(aE.phase ⟨L,bs,0,0⟩ ⟨m,o,n,aX⟩).2=(aE.dv L bs ⟨m,o,n,aX⟩).2:=ge.trans (ke.trans rfl)
 rw [e3,yW L bs _ g1] at h2 e
 have:=h _ _ h2
 show P (andThen _ _).2.an (andThen _ _).2.out
 rw [e]
 exact this
theorem Ends.dummy {k:Int} {r:List Ph} {m:af} {o:List Int} {P:af→List Int→Prop} (h:Ends r (feed (List.replicate k.toNat 15) m) o P):Ends (⟨0,[],k,0⟩::r) m o P:=fun n aX hr=>by
 obtain ⟨h1,h2,e⟩:=du hr
 obtain ⟨g1,g2,ge⟩:=du h1
 obtain ⟨k1,k2,ke⟩:=du g2
 have k1:(aE.row (List.replicate k.toNat 15) ⟨m,o,n,aX⟩).1=true:=k1
 have e3:(aE.phase ⟨0,[],k,0⟩ ⟨m,o,n,aX⟩).2=(aE.row (List.replicate k.toNat 15) ⟨m,o,n,aX⟩).2:=ge.trans (ke.trans rfl)
 rw [e3,wN _ _ k1] at h2 e
 have:=h _ _ h2
 show P (andThen _ _).2.an (andThen _ _).2.out
 rw [e]
 exact this
theorem Ends.fJ {L k:Int} (hL:L=1∨L=4) (ho:op.data=L) (hc:c.still) {o:List Int} {P:af→List Int→Prop} (hP : ∀ nw',P (K c op 6 0 a mo md ds (t+k.toNat) nw' h) (o++comes c op a t k.toNat)):Ends [⟨L,[],0,k⟩] (K c op 6 0 a mo md ds t nw h) o P:=fun n aX hr=>by
 obtain ⟨h1,h2,e⟩:=du hr
 obtain ⟨g1,g2,ge⟩:=du h1
 obtain ⟨k1,k2,ke⟩:=du g2
 have e3:(aE.phase ⟨L,[],0,k⟩ ⟨K c op 6 0 a mo md ds t nw h,o,n,aX⟩).2=(aE.fJ L k.toNat ⟨K c op 6 0 a mo md ds t nw h,o,n,aX⟩).2:=ge.trans (ke.trans rfl)
 obtain ⟨nw',f1,f2⟩:=Hu L hL ho hc aX k.toNat t nw o n k2
 show P (andThen _ _).2.an (andThen _ _).2.out
 rw [e,e3]
 show P (aE.fJ L k.toNat ⟨K c op 6 0 a mo md ds t nw h,o,n,aX⟩).2.an (aE.fJ L k.toNat ⟨K c op 6 0 a mo md ds t nw h,o,n,aX⟩).2.out
 rw [f1,f2]
 exact hP nw'
theorem Ends.get {L:Int} (hL:L=1∨L=4) (ho:op.data=L) {o:List Int} {P:af→List Int→Prop} (v:Int) (hv:(K c.pass op 6 0 a mo md ds t nw h).eC t=v) (hP:P (K (c.bC (many L).toNat) op 6 0 a mo md ds (t+1) v h) (o++[v])):Ends [⟨L,[],0,1⟩] (K c op 6 0 a mo md ds t nw h) o P:=fun n aX hr=>by
 obtain ⟨h1,h2,e⟩:=du hr
 obtain ⟨g1,g2,ge⟩:=du h1
 obtain ⟨k1,k2,ke⟩:=du g2
 have e3:(aE.phase ⟨L,[],0,1⟩ ⟨K c op 6 0 a mo md ds t nw h,o,n,aX⟩).2=(aE.fJ L 1 ⟨K c op 6 0 a mo md ds t nw h,o,n,aX⟩).2:=ge.trans (ke.trans rfl)
 have k2:(aE.fJ L 1 ⟨K c op 6 0 a mo md ds t nw h,o,n,aX⟩).1=true:=k2
 show P (andThen _ _).2.an (andThen _ _).2.out
 rw [e,e3]
 show P (aE.fJ L 1 ⟨K c op 6 0 a mo md ds t nw h,o,n,aX⟩).2.an (aE.fJ L 1 ⟨K c op 6 0 a mo md ds t nw h,o,n,aX⟩).2.out
 cases hp:(aE.get L ⟨K c op 6 0 a mo md ds t nw h,o,n,aX⟩).1 with
 | false=>rw [sr L 0 _ hp] at k2;cases k2
 | true =>
  have e4:=KD L hL ho o n aX hp v hv
  rw [uN L 0 _ hp,e4]
  exact hP
end
section
def Core.bO (c:Core):Bool:=eJ c.aW
theorem dS {c:Core} (h:c.bO=false):c.still:=by
 unfold Core.still Core.pass
 unfold Core.bO eJ at h
 cases hj:c.aW with
 | none=>rfl
 | some j=>rw [hj] at h;simp only;rw [if_pos (by simpa using h)]
variable {c:Core} {op:gh} {a mo t nw:Int} {md:Bool} {ds:List Int} {h:Nat}
theorem fC (b:Int) (hk:(K c op 0 8 a mo md ds t nw h).known b=true):(K c op 0 8 a mo md ds t nw h).cM b=if 0<(al b).addr then K c (al b) 2 (if (al b).addr=1 then 24 else 6) a mo md ds t nw h else af.behind (K c (al b) 0 8 a mo md ds t nw h):=by
 unfold af.cM
 rw [if_neg (by rw [hk];decide)]
 rfl
def AK (ps:List Ph) (c:Core) (xs:List Int) (c':Core):Prop := ∀ (m:af),m.dJ=false→m.core=c→Ends ps m.select [] fun m2 o=>m2.fb.core=c'∧o=xs
theorem fp {m:af} (hc:m.core=c) (hg:c.aA=false):m.select=K c gh.zero 0 8 0 0 false [] 0 0 m.home:=by
 unfold af.select
 have e:m.aA=false:=by rw [← hg,← hc];rfl
 rw [e]
 subst hc
 rfl
theorem wT {m:af} (hc:m.core=c) (hg:c.aA=true) (hq:c.aZ=true) (hw:c.bO=false):m.select=K c (al 235) 2 6 0 0 false [] 0 0 m.home:=by
 unfold af.select
 have e:m.aA=true:=by rw [← hg,← hc];rfl
 rw [if_pos e,JF,hc]
 have hw':(K c gh.zero 0 8 0 0 false [] 0 0 m.home).bO=false:=hw
 rw [fC 235 (by simp [af.known,af.xi,gj,al,fx,hw'];exact hq)]
 simp [al,fx]
def K0 (c:Core) (op:gh) (st left addr mode:Int) (cC:Bool) (data:List Int) (told now:Int) (h:Nat):af:={ K c op st left addr mode cC data told now h with dJ:=false }
theorem ia (st left:Int) (h0:st≠0) (h1:st≠1) (hw:(K0 c op st left a mo md ds t nw h).whole=true):(K c op st left a mo md ds t nw h).fb=(K0 c op st left a mo md ds t nw h).fS:=by
 unfold af.fb af.ends
 show (if (K0 c op st left a mo md ds t nw h).ar=0∨(K0 c op st left a mo md ds t nw h).ar=1∨(K0 c op st left a mo md ds t nw h).whole=false then _ else _)=_
 rw [if_neg]
 ·
  rfl
 ·
  rintro (e | e | e)
  ·
   exact h0 e
  ·
   exact h1 e
  ·
   rw [hw] at e;cases e
theorem sw (b:Int) (hb:b=5∨b=53∨b=117):(K c op 0 8 a mo md ds t nw h).known b=true:=by
 rcases hb with rfl | rfl | rfl <;> simp [af.known,af.xi,gj,al,fx]
theorem mM (b:Int) (hb:b=6∨b=90∨b=122∨b=159) (hw:c.bO=false):(K c op 0 8 a mo md ds t nw h).known b=true:=by
 have hw':(K c op 0 8 a mo md ds t nw h).bO=false:=hw
 rcases hb with rfl | rfl | rfl | rfl <;> simp [af.known,af.xi,gj,al,fx,hw']
theorem vO (b:Int) (hb:b=107∨b=235) (hq:c.aZ=true) (hw:c.bO=false):(K c op 0 8 a mo md ds t nw h).known b=true:=by
 have hw':(K c op 0 8 a mo md ds t nw h).bO=false:=hw
 have hq':(K c op 0 8 a mo md ds t nw h).aZ=true:=hq
 rcases hb with rfl | rfl <;> simp [af.known,af.xi,gj,al,fx,hw',hq']
theorem pW (b:Int) (hb:b=1∨b=2∨b=32) (hj:c.aW=none):(K c op 0 8 a mo md ds t nw h).known b=true:=by
 have hj':(K c op 0 8 a mo md ds t nw h).aW=none:=hj
 rcases hb with rfl | rfl | rfl <;> simp [af.known,af.xi,gj,al,fx,hj']
theorem pS (b:Int) (h0:0≤b) (h1:b<256) (hk:(K (c.bC 8) gh.zero 0 8 0 0 false [] 0 0 h).known b=true) (hr:al b=⟨b,0,false,0,0,false⟩) {P:af→List Int→Prop} (hP:P (K (c.bC 8) (al b) 7 0 0 0 false [] 0 0 h) []):Ends [⟨1,[b],0,0⟩] (K c gh.zero 0 8 0 0 false [] 0 0 h) [] P:=by
 refine Ends.dv (Ends.nil ?_)
 rw [iW b h0 h1,fC b hk,if_neg (by rw [hr];exact Int.lt_irrefl 0)]
 have e:af.behind (K (c.bC 8) (al b) 0 8 0 0 false [] 0 0 h)=K (c.bC 8) (al b) 7 0 0 0 false [] 0 0 h:=by
  unfold af.behind af.enter
  rw [hr]
  simp [K]
 rw [e]
 exact hP
theorem Eo (hg:c.aA=false) (hw:c.bO=false):AK (aL (al 6) 0 [] 0) c [] { c with en:=true }:=fun m hs hm=>by
 rw [fp hm hg]
 have st:=fi (dS hw) 8
 refine pS 6 (by decide) (by decide) (by rw [st];exact mM 6 (by simp) hw) rfl ⟨?_,rfl⟩
 rw [st,ia 7 0 (by decide) (by decide) rfl]
 rfl
def Core.bM (c:Core):Core:=match c.aW with | some j=>if j.aq = -1 then c else { c with aW:=some { j with gO:=true } } | none=>c
def Core.gv (c:Core):Core:=match c.aW with | some j=>{ c with aW:=some { j with gO:=false } } | none=>c
theorem xJ (m:af):m.bM.core=m.core.bM:=by
 obtain ⟨a1,a2,a3,a4,a5,a6,aW,a7,a8,a9,a10,a11,a12,a13,a14,a15,a16,a17,a18,a19⟩:=m
 cases aW with
 | none=>rfl
 | some j =>
  show (if j.aq = -1 then _ else _:af).core=if j.aq = -1 then _ else _
  split <;> rfl
theorem Aj (m:af):m.gv.core=m.core.gv:=by
 obtain ⟨a1,a2,a3,a4,a5,a6,aW,a7,a8,a9,a10,a11,a12,a13,a14,a15,a16,a17,a18,a19⟩:=m
 cases aW <;> rfl
theorem Jz (hg:c.aA=false):AK (aL (al 117) 0 [] 0) c [] (c.bC 8).bM:=fun m hs hm=>by
 rw [fp hm hg]
 refine pS 117 (by decide) (by decide) (sw 117 (by simp)) rfl ⟨?_,rfl⟩
 rw [ia 7 0 (by decide) (by decide) rfl]
 show (af.bM _).core=_
 exact xJ _
theorem JA (hg:c.aA=false) (hw:c.bO=false):AK (aL (al 122) 0 [] 0) c [] c.gv:=fun m hs hm=>by
 rw [fp hm hg]
 have st:=fi (dS hw) 8
 refine pS 122 (by decide) (by decide) (by rw [st];exact mM 122 (by simp) hw) rfl ⟨?_,rfl⟩
 rw [st,ia 7 0 (by decide) (by decide) rfl]
 show (af.gv _).core=_
 exact Aj _
def Core.first (c:Core):Int:=CZ c.bO c.en c.bn
def Core.second (c:Core):Int:=xX c.aZ (match c.aW with | none=>false | some j=>j.gO)
theorem tl (b:Int) (h0:0≤b) (h1:b<256) (hk:(K (c.bC 8) gh.zero 0 8 0 0 false [] 0 0 h).known b=true) (hr:al b=⟨b,0,false,0,1,false⟩) {P:af→List Int→Prop} (v:Int) (hv:(K (c.bC 9) (al b) 6 0 0 0 false [] 0 0 h).eC 0=v) (hP:P (K (c.bC 16) (al b) 6 0 0 0 false [] 1 v h) [v]):Ends [⟨1,[b],0,0⟩,⟨1,[],0,1⟩] (K c gh.zero 0 8 0 0 false [] 0 0 h) [] P:=by
 refine Ends.dv ?_
 rw [iW b h0 h1,fC b hk,if_neg (by rw [hr];exact Int.lt_irrefl 0)]
 have e:af.behind (K (c.bC 8) (al b) 0 8 0 0 false [] 0 0 h)=K (c.bC 8) (al b) 6 0 0 0 false [] 0 0 h:=by
  unfold af.behind af.enter
  rw [hr]
  simp [K]
 rw [e]
 refine Ends.get (.inl rfl) (by rw [hr]) v ?_ ?_
 ·
  rw [← hv,show c.bC 9=(c.bC 8).pass from ib 8 1 c]
 ·
  rw [show (c.bC 8).bC (many 1).toNat=c.bC 16 from (ib 8 8 c).symm]
  exact hP
theorem KC (hg:c.aA=false):AK (aL (al 5) 0 [] 1) c [(c.bC 9).first] (c.bC 16):=fun m hs hm=>by
 rw [fp hm hg]
 refine tl 5 (by decide) (by decide) (sw 5 (by simp)) rfl (c.bC 9).first rfl ⟨?_,rfl⟩
 rw [ia 6 0 (by decide) (by decide) rfl]
 rfl
theorem KQ (hg:c.aA=false):AK (aL (al 53) 0 [] 1) c [(c.bC 9).second] (c.bC 16):=fun m hs hm=>by
 rw [fp hm hg]
 refine tl 53 (by decide) (by decide) (sw 53 (by simp)) rfl (c.bC 9).second rfl ⟨?_,rfl⟩
 rw [ia 6 0 (by decide) (by decide) rfl]
 rfl
theorem JB (hg:c.aA=false) (hw:c.bO=false):AK (aL (al 159) 0 [] 3) c [239,64,12] c:=fun m hs hm=>by
 rw [fp hm hg]
 have st:=fun n=>fi (dS hw) n
 show Ends [⟨1,[159],0,0⟩,⟨1,[],0,3⟩] _ _ _
 refine Ends.dv ?_
 rw [iW 159 (by decide) (by decide),st,fC 159 (mM 159 (by simp) hw),if_neg (by decide)]
 refine Ends.fJ (op:=al 159) (.inl rfl) rfl (dS hw) fun nw'=>⟨?_,rfl⟩
 rw [ia 6 0 (by decide) (by decide) rfl]
 rfl
theorem KR (hg:c.aA=false) (hw:c.bO=false):AK (aL (al 90) 0 [] 32) c (comes c (al 90) 0 0 32) c:=fun m hs hm=>by
 rw [fp hm hg]
 have st:=fun n=>fi (dS hw) n
 show Ends [⟨1,[90],0,0⟩,⟨1,[0,0 / 256,0 % 256],0,0⟩,⟨0,[],8,0⟩,⟨1,[],0,32⟩] _ _ _
 refine Ends.dv ?_
 rw [iW 90 (by decide) (by decide),st,fC 90 (mM 90 (by simp) hw),if_pos (by decide)]
 refine Ends.dv ?_
 rw [show (if (al 90).addr=1 then (24:Int) else 6)=if (1:Int)=1 then 24 else 6 from rfl,j7 1 0 (.inl rfl) rfl (by decide) (by decide),st]
 refine Ends.dummy ?_
 rw [show af.behind (K c (al 90) 2 0 0 0 false [] 0 0 m.home)=K c (al 90) 4 ((7+1:Nat):Int) 0 0 false [] 0 0 m.home from rfl,show (8:Int).toNat=7+1 from rfl,mG 7 c,st]
 refine Ends.fJ (op:=al 90) (.inl rfl) rfl (dS hw) fun nw'=>⟨?_,rfl⟩
 rw [ia 6 0 (by decide) (by decide) rfl]
 rfl
theorem Jy (p:Int) (n:Nat) (h0:0≤p) (h1:p<4096) (hn:0<n) (hg:c.aA=false) (hq:c.aZ=true) (hw:c.bO=false):AK (aL (al 107) p [] n) c (comes c (al 107) p 0 n) c:=fun m hs hm=>by
 rw [fp hm hg]
 have st:=fun n=>fi (dS hw) n
 have e:aL (al 107) p [] n=[⟨1,[107],0,0⟩,⟨1,[0,p / 256,p % 256],0,0⟩,⟨0,[],8,0⟩,⟨4,[],0,n⟩]:=by
  simp [aL,al,fx,hn]
 rw [e]
 refine Ends.dv ?_
 rw [iW 107 (by decide) (by decide),st,fC 107 (vO 107 (by simp) hq hw),if_pos (by decide)]
 refine Ends.dv ?_
 rw [show (if (al 107).addr=1 then (24:Int) else 6)=if (1:Int)=1 then 24 else 6 from rfl,j7 1 p (.inl rfl) rfl h0 h1,st]
 refine Ends.dummy ?_
 rw [show af.behind (K c (al 107) 2 0 p 0 false [] 0 0 m.home)=K c (al 107) 4 ((7+1:Nat):Int) p 0 false [] 0 0 m.home from rfl,show (8:Int).toNat=7+1 from rfl,mG 7 c,st]
 refine Ends.fJ (op:=al 107) (.inr rfl) rfl (dS hw) fun nw'=>⟨?_,by show []++comes c (al 107) p 0 (n:Int).toNat=_;simp⟩
 rw [ia 6 0 (by decide) (by decide) rfl]
 rfl
theorem Bh (p:Int) (h0:0≤p) (h1:p<4096) (hw:c.bO=false) (h:Nat):Ends ((aL (al 235) p [160] 16).drop 1) (K c (al 235) 2 6 0 0 false [] 0 0 h) [] fun m2 o=>m2.fb.core={ c with aA:=true }∧o=comes c (al 235) p 0 16:=by
 have st:=fun n=>fi (dS hw) n
 show Ends [⟨4,[0,p / 256,p % 256],0,0⟩,⟨4,[160],0,0⟩,⟨0,[],4,0⟩,⟨4,[],0,16⟩] _ _ _
 refine Ends.dv ?_
 rw [show K c (al 235) 2 6 0 0 false [] 0 0 h=K c (al 235) 2 (if (4:Int)=1 then 24 else 6) 0 0 false [] 0 0 h from rfl,j7 4 p (.inr rfl) rfl h0 h1,st]
 refine Ends.dv ?_
 rw [show af.behind (K c (al 235) 2 0 p 0 false [] 0 0 h)=K c (al 235) 3 (many 4) p 0 false [] 0 0 h from rfl,yu 4 160 (.inr rfl) rfl (by decide) (by decide),st]
 refine Ends.dummy ?_
 rw [show af.behind (K c (al 235) 3 0 p 160 true [] 0 0 h)=K c (al 235) 4 ((3+1:Nat):Int) p 160 true [] 0 0 h from rfl,show (4:Int).toNat=3+1 from rfl,mG 3 c,st]
 refine Ends.fJ (op:=al 235) (.inr rfl) rfl (dS hw) fun nw'=>⟨?_,rfl⟩
 rw [ia 6 0 (by decide) (by decide) rfl]
 rfl
theorem JC (p:Int) (h0:0≤p) (h1:p<4096) (hg:c.aA=false) (hq:c.aZ=true) (hw:c.bO=false):AK (aL (al 235) p [160] 16) c (comes c (al 235) p 0 16) { c with aA:=true }:=fun m hs hm=>by
 rw [fp hm hg]
 have st:=fun n=>fi (dS hw) n
 show Ends (⟨1,[235],0,0⟩::(aL (al 235) p [160] 16).drop 1) _ _ _
 refine Ends.dv ?_
 rw [iW 235 (by decide) (by decide),st,fC 235 (vO 235 (by simp) hq hw),if_pos (by decide)]
 exact Bh p h0 h1 hw _
theorem Hh (p:Int) (h0:0≤p) (h1:p<4096) (hg:c.aA=true) (hq:c.aZ=true) (hw:c.bO=false):AK ((aL (al 235) p [160] 16).drop 1) c (comes c (al 235) p 0 16) { c with aA:=true }:=fun m hs hm=>by
 rw [wT hm hg hq hw]
 exact Bh p h0 h1 hw _
theorem Fp (hg:c.aA=true) (hq:c.aZ=true) (hw:c.bO=false):AK [bW] c [] { c with aA:=false }:=fun m hs hm=>by
 rw [wT hm hg hq hw]
 have st:=fun n=>fi (dS hw) n
 refine Ends.dv (Ends.nil ?_)
 rw [show dY 4 [0,0,0,0]=dY 4 [0,0 / 256,0 % 256]++dY 4 [0] from rfl,qF,show K c (al 235) 2 6 0 0 false [] 0 0 m.home=K c (al 235) 2 (if (4:Int)=1 then 24 else 6) 0 0 false [] 0 0 m.home from rfl,j7 4 0 (.inr rfl) rfl (by decide) (by decide),st,show af.behind (K c (al 235) 2 0 0 0 false [] 0 0 m.home)=K c (al 235) 3 (many 4) 0 0 false [] 0 0 m.home from rfl,yu 4 0 (.inr rfl) rfl (by decide) (by decide),st,show af.behind (K c (al 235) 3 0 0 0 true [] 0 0 m.home)=K c (al 235) 4 4 0 0 true [] 0 0 m.home from rfl]
 refine ⟨?_,rfl⟩
 rw [ia 4 4 (by decide) (by decide) rfl]
 rfl
def Core.dG (c:Core) (p:Int) (j:ie):Core:=if c.en=false then c else if (c.bn&&decide (p<2048))=true then { c with en:=false } else { c with aW:=some { j with left:=c.busy.headD 8 },busy:=c.busy.drop 1 }
theorem tW (m:af) (j:ie):(m.dG j).core=m.core.dG m.addr j:=by
 unfold af.dG Core.dG
 show _=if m.en=false then _ else if (m.bn&&decide (m.addr<2048))=true then _ else _
 split
 ·
  rfl
 ·
  split <;> rfl
theorem KP (p:Int) (h0:0≤p) (h1:p<4096) (hg:c.aA=false) (hj:c.aW=none):AK (aL (al 32) p [] 0) c [] (c.dG p ⟨p / 512,0,ByteArray.empty,0,false⟩):=fun m hs hm=>by
 rw [fp hm hg]
 have st:=fun n=>fi (dS (show c.bO=false by unfold Core.bO;rw [hj];rfl)) n
 show Ends [⟨1,[32],0,0⟩,⟨1,[0,p / 256,p % 256],0,0⟩] _ _ _
 refine Ends.dv ?_
 rw [iW 32 (by decide) (by decide),st,fC 32 (pW 32 (by simp) hj),if_pos (by decide)]
 refine Ends.dv (Ends.nil ?_)
 rw [show (if (al 32).addr=1 then (24:Int) else 6)=if (1:Int)=1 then 24 else 6 from rfl,j7 1 p (.inl rfl) rfl h0 h1,st,show af.behind (K c (al 32) 2 0 p 0 false [] 0 0 m.home)=K c (al 32) 7 0 p 0 false [] 0 0 m.home from rfl]
 refine ⟨?_,rfl⟩
 rw [ia 7 0 (by decide) (by decide) rfl]
 show (af.dG _ _).core=_
 rw [tW]
 rfl
theorem Ly (p:Int) (bs:List Int) (h0:0≤p) (h1:p<4096) (hl:0<bs.length) (hb : ∀ b ∈ bs,0≤b∧b<256) (hg:c.aA=false) (hj:c.aW=none):AK (aL (al 2) p bs 0) c [] (c.dG p ⟨-1,p - p % 32,kH p bs,0,false⟩):=fun m hs hm=>by
 rw [fp hm hg]
 have st:=fun n=>fi (dS (show c.bO=false by unfold Core.bO;rw [hj];rfl)) n
 have e:aL (al 2) p bs 0=[⟨1,[2],0,0⟩,⟨1,[0,p / 256,p % 256],0,0⟩,⟨1,bs,0,0⟩]:=by simp [aL,al,fx,hl]
 rw [e]
 refine Ends.dv ?_
 rw [iW 2 (by decide) (by decide),st,fC 2 (pW 2 (by simp) hj),if_pos (by decide)]
 refine Ends.dv ?_
 rw [show (if (al 2).addr=1 then (24:Int) else 6)=if (1:Int)=1 then 24 else 6 from rfl,j7 1 p (.inl rfl) rfl h0 h1,st,show af.behind (K c (al 2) 2 0 p 0 false [] 0 0 m.home)=K c (al 2) 5 8 p 0 false [] 0 0 m.home from rfl]
 refine Ends.dv (Ends.nil ?_)
 rw [sm rfl rfl rfl rfl bs _ _ hb,st,List.nil_append]
 refine ⟨?_,rfl⟩
 rw [ia 5 8 (by decide) (by decide) rfl]
 show (af.iZ _).core=_
 unfold af.iZ
 rw [if_pos (show 0<(K0 c (al 2) 5 8 p 0 false bs 0 0 m.home).data.length from hl),tW]
 rfl
theorem KA (x y:Int) (hx:0≤x∧x<256) (hy:0≤y∧y<256) (hg:c.aA=false) (hj:c.aW=none) (he:c.en=true):AK (aL (al 1) 0 [x,y] 0) c [] { c with bn:=bits .and .i64 x 4 != 0,aZ:=bits .and .i64 y 2 != 0,en:=false }:=fun m hs hm=>by
 rw [fp hm hg]
 have st:=fun n=>fi (dS (show c.bO=false by unfold Core.bO;rw [hj];rfl)) n
 show Ends [⟨1,[1],0,0⟩,⟨1,[x,y],0,0⟩] _ _ _
 refine Ends.dv ?_
 rw [iW 1 (by decide) (by decide),st,fC 1 (pW 1 (by simp) hj),if_neg (by decide),show af.behind (K c (al 1) 0 8 0 0 false [] 0 0 m.home)=K c (al 1) 5 8 0 0 false [] 0 0 m.home from rfl]
 refine Ends.dv (Ends.nil ?_)
 rw [sm rfl rfl rfl rfl [x,y] _ _ (by simp;omega),st,List.nil_append]
 refine ⟨?_,rfl⟩
 rw [ia 5 8 (by decide) (by decide) rfl]
 show (af.dv _).core=_
 unfold af.dv
 rw [if_pos ⟨he,rfl⟩]
 rfl
end
structure fP (m:aB) (c:Core):Prop where
 lost:m.lost=false
 dJ:m.an.dJ=false
 core:m.an.core=c
 aA:m.aA=c.aA
structure GB (m:aB) (c:Core) (m':aB):Prop where
 lost:m'.lost=true
 left:0≤m.left
 Lf : ∃ k g,m'.an.core=Core.bC k { c with aA:=g }
def fN (m m':aB):Prop:=m.left<0→m'.left<0
theorem fN.trans {a b c:aB} (h:fN a b) (k:fN b c):fN a c:=fun x=>k (h x)
theorem Ci (m:af):m.select.core=m.core:=by
 unfold af.select
 split
 ·
  exact sW _ _
 ·
  rfl
theorem yq {m:aB} {c:Core} {ps:List Ph} {xs:List Int} {c':Core} (h:fP m c) (hE:AK ps c xs c'):(m.iB ps=1101∧m.fT ps=[]∧GB m c (m.cF ps))∨(m.iB ps=0∧m.fT ps=xs∧(m.cF ps).lost=false∧(m.cF ps).an.dJ=false∧(m.cF ps).an.core=c'∧(m.cF ps).aA=m.aA∧fN m (m.cF ps)):=by
 unfold aB.iB aB.fT
 cases hr:(m.r ps).1 with
 | false =>
  refine .inl ⟨rfl,rfl,?_,?_,?_⟩
  ·
   unfold aB.cF;simp [hr]
  ·
   rcases Int.lt_or_le m.left 0 with hl | hl
   ·
    have:=(tR ps (aE.new m.an m.left) hl).1
    have e:(m.r ps).1=true:=this
    rw [hr] at e;cases e
   ·
    exact hl
  ·
   obtain ⟨k,hk⟩:=B5 ps (aE.new m.an m.left)
   refine ⟨k,c.aA,?_⟩
   have e:(m.cF ps).an=(m.r ps).2.an:=by unfold aB.cF bZ;simp [hr]
   rw [e]
   show (aE.eH ps (aE.new m.an m.left)).2.an.core=_
   rw [hk]
   show Core.bC k m.an.select.core=_
   rw [Ci,h.core]
 | true =>
  obtain ⟨h1,h2⟩:=hE m.an h.dJ h.core 0 m.left hr
  refine .inr ⟨rfl,h2,?_,?_,?_,rfl,?_⟩
  ·
   unfold aB.cF;simp [hr,h.lost]
  ·
   have e:(m.cF ps).an=(m.r ps).2.an.fb:=by unfold aB.cF bZ;simp [hr]
   rw [e]
   exact (lD _).1
  ·
   have e:(m.cF ps).an=(m.r ps).2.an.fb:=by unfold aB.cF bZ;simp [hr]
   rw [e]
   exact h1
  ·
   intro hl
   unfold aB.cF
   simp only
   rw [if_neg (by omega)]
   exact hl
def u3 (m:aB) (c:Core) (r:aB×List Int×Int) (xs:List Int) (c':Core):Prop:=(r.2.2=1101∧r.2.1=[]∧GB m c r.1)∨(r.2.2=0∧r.2.1=xs∧fP r.1 c'∧fN m r.1)
theorem uL {m:aB} {c:Core} {b:Int} {ys:List Int} {ps:List Ph} {xs:List Int} {c':Core} (h:fP m c) (hE:AK ps c xs c') (hg:c'.aA=(decide (b=235)&&decide (ys.headD 0=160))):u3 m c (m.fin b ys ps) xs c':=by
 rcases yq h hE with ⟨e,_,g⟩ | ⟨e,ex,h1,h2,h3,h4,h5⟩
 ·
  left
  unfold aB.fin
  rw [if_neg (by rw [e];decide)]
  exact ⟨rfl,rfl,g⟩
 ·
  right
  unfold aB.fin
  rw [if_pos e]
  exact ⟨rfl,ex,⟨h1,h2,h3,hg.symm⟩,h5⟩
theorem fL {m:aB} {c:Core} {b at_:Int} {ys:List Int} {read:Int} {xs:List Int} {c':Core} (h:fP m c) (hb:b≠235) (hl:c.aA=true→c.aZ=true∧c.bO=false) (hE:AK (aL (al b) at_ ys read) { c with aA:=false } xs c') (hg:c'.aA=false):u3 m c (m.run b at_ ys read) xs c':=by
 have hg':c'.aA=(decide (b=235)&&decide (ys.headD 0=160)):=by simp [hb,hg]
 unfold aB.run
 rw [if_neg (by rw [h.lost];decide),if_neg (by rintro ⟨_,e⟩;exact hb e)]
 cases hgo:c.aA with
 | false =>
  rw [if_neg (by rw [h.aA,hgo];decide)]
  have e:({ c with aA:=false }:Core)=c:=by rw [← hgo]
  rw [e] at hE
  exact uL h hE hg'
 | true =>
  rw [if_pos (by rw [h.aA,hgo])]
  obtain ⟨hq,hw⟩:=hl hgo
  rcases yq h (Fp hgo hq hw) with ⟨e,_,g⟩ | ⟨e,ex,h1,h2,h3,h4,h5⟩
  ·
   rw [if_neg (by rw [e];decide)]
   exact .inl ⟨rfl,rfl,g⟩
  ·
   rw [if_pos e]
   have h':fP { m.cF [bW] with aA:=false } { c with aA:=false }:=⟨h1,h2,h3,rfl⟩
   rcases uL (b:=b) (ys:=ys) h' hE hg' with ⟨e1,e2,g⟩ | ⟨e1,e2,r,hB⟩
   ·
    refine .inl ⟨e1,e2,g.lost,?_,g.Lf⟩
    rcases Int.lt_or_le m.left 0 with hl | hl
    ·
     have:=h5 hl
     have:=g.left
     have:0≤(m.cF [bW]).left:=this
     omega
    ·
     exact hl
   ·
    exact .inr ⟨e1,e2,r,fun x=>hB (h5 x)⟩
theorem IL {m:aB} {c:Core} {p:Int} (h:fP m c) (hq:c.aZ=true) (hw:c.bO=false) (h0:0≤p) (h1:p<4096):u3 m c (m.run 235 p [160] 16) (comes c (al 235) p 0 16) { c with aA:=true }:=by
 unfold aB.run
 rw [if_neg (by rw [h.lost];decide)]
 cases hgo:c.aA with
 | false =>
  rw [if_neg (by rintro ⟨e,_⟩;rw [h.aA,hgo] at e;cases e),if_neg (by rw [h.aA,hgo];decide)]
  exact uL h (JC p h0 h1 hgo hq hw) rfl
 | true =>
  rw [if_pos ⟨by rw [h.aA,hgo],rfl⟩]
  exact uL h (Hh p h0 h1 hgo hq hw) rfl
def Core.sA (c:Core) (mask:ByteArray):ByteArray:=match c.aW with | none=>c.cells | some j=>cB j c.cells mask
theorem l7 {c:Core} {j:ie} (hj:c.aW=some j) (hs:j.gO=false) : ∀ (k:Nat),(k:Int)<j.left→c.bC k={ c with aW:=some { j with left:=j.left - k } }:=by
 intro k
 induction k generalizing c j with
 | zero =>
  intro _
  show c=_
  have e:({ j with left:=j.left - ((0:Nat):Int) }:ie)=j:=by simp
  rw [e,← hj]
 | succ k ih =>
  intro hk
  have e:c.pass={ c with aW:=some { j with left:=j.left - 1 } }:=by
   unfold Core.pass
   rw [hj]
   simp only
   rw [if_neg (by rw [hs];decide),if_neg (by omega)]
  show Core.bC k c.pass=_
  rw [e,ih (c:={ c with aW:=some { j with left:=j.left - 1 } }) (j:={ j with left:=j.left - 1 }) rfl hs (by show (k:Int)<j.left - 1;omega)]
  simp only [Core.mk.injEq,Option.some.injEq,ie.mk.injEq,true_and,and_true]
  omega
def Core.done (c:Core) (j:ie):Core:={ c with cells:=cB j c.cells ⟨#[255]⟩,aW:=none,en:=false }
theorem Dg (c:Core) (j:ie) : ∀ k,(c.done j).bC k=c.done j:=fi rfl
theorem iL {c:Core} {j:ie} (hj:c.aW=some j) (hs:j.gO=false) (h1:1≤j.left) (k:Nat) (hk:j.left≤k):c.bC k=c.done j:=by
 obtain ⟨l,hl⟩ : ∃ l:Nat,j.left=((l+1:Nat):Int):=⟨(j.left - 1).toNat,by omega⟩
 obtain ⟨r,rfl⟩ : ∃ r,k=l+(1+r):=⟨k - l - 1,by omega⟩
 rw [ib,l7 hj hs l (by omega),ib]
 have e:Core.bC 1 { c with aW:=some { j with left:=j.left - l } }=c.done j:=by
  show Core.bC 0 (Core.pass { c with aW:=some { j with left:=j.left - l } })=_
  unfold Core.pass
  simp only
  rw [if_neg (by rw [hs];decide),if_pos (by omega)]
  rfl
 rw [e,Dg]
theorem DM {c:Core} {j:ie} (hj:c.aW=some j) (hs:j.gO=true) (k:Nat):c.bC k=c:=fi (dS (by unfold Core.bO eJ;rw [hj];simp [hs])) k
theorem dW {c:Core} (hj:c.aW=none) (k:Nat):c.bC k=c:=fi (dS (by unfold Core.bO eJ;rw [hj])) k
structure xo (m:aB) (S:ByteArray→Prop):Prop where
 lost:m.lost=true
 bn:m.an.bn=true
 aZ:m.an.aZ=true
 cells : ∀ mask,S (m.an.core.sA mask)
theorem xo.mono {m:aB} {S T:ByteArray→Prop} (h:xo m S) (k : ∀ x,S x→T x):xo m T:=⟨h.lost,h.bn,h.aZ,fun mask=>k _ (h.cells mask)⟩
theorem mf {m m':aB} {c:Core} (g:GB m c m') (hj:c.aW=none) (hp:c.bn=true) (hq:c.aZ=true):xo m' fun x=>x=c.cells:=by
 obtain ⟨k,b,e⟩:=g.Lf
 rw [dW (c:={ c with aA:=b }) hj] at e
 refine ⟨g.lost,?_,?_,fun mask => ?_⟩
 ·
  show m'.an.core.bn=true;rw [e];exact hp
 ·
  show m'.an.core.aZ=true;rw [e];exact hq
 ·
  rw [e];unfold Core.sA;simp only [hj]
theorem rS {m m':aB} {c:Core} {j:ie} (g:GB m c m') (hj:c.aW=some j) (h1:1≤j.left) (hp:c.bn=true) (hq:c.aZ=true):xo m' fun x => ∃ mask,x=cB j c.cells mask:=by
 obtain ⟨k,b,e⟩:=g.Lf
 cases hs:j.gO with
 | true =>
  rw [DM (c:={ c with aA:=b }) hj hs] at e
  refine ⟨g.lost,?_,?_,fun mask=>⟨mask,?_⟩⟩
  ·
   show m'.an.core.bn=true;rw [e];exact hp
  ·
   show m'.an.core.aZ=true;rw [e];exact hq
  ·
   rw [e];unfold Core.sA;simp only [hj]
 | false =>
  rcases Int.lt_or_le (k:Int) j.left with hk | hk
  ·
   rw [l7 (c:={ c with aA:=b }) hj hs k hk] at e
   refine ⟨g.lost,?_,?_,fun mask=>⟨mask,?_⟩⟩
   ·
    show m'.an.core.bn=true;rw [e];exact hp
   ·
    show m'.an.core.aZ=true;rw [e];exact hq
   ·
    rw [e];rfl
  ·
   rw [iL (c:={ c with aA:=b }) hj hs h1 k hk] at e
   refine ⟨g.lost,?_,?_,fun mask=>⟨⟨#[255]⟩,?_⟩⟩
   ·
    show m'.an.core.bn=true;rw [e];exact hp
   ·
    show m'.an.core.aZ=true;rw [e];exact hq
   ·
    rw [e];rfl
end Go.Proofs.YtcfdenckiigdaaaGreat

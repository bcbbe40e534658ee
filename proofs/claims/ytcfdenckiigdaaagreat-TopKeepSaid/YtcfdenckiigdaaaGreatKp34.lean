/- Part 34 of the contracts. -/
import Derived.Test.YtcfdenckiigdaaaGreatKp33
set_option linter.unusedVariables false
set_option maxRecDepth 100000
set_option maxHeartbeats 4000000
namespace Go.Proofs.YtcfdenckiigdaaaGreat
section
def qae.lanes (m:qae):Int:=if m.stage=0 then 1 else if m.stage=5 then m.op.data else m.op.addr
def qae.fin (m:qae):qae:=if m.stage=0 then m.begins m.got else if m.stage=2 then qae.behind { m with addr:=m.got % 4096 } else if m.stage=3 then qae.behind { m with mode:=m.got,moded:=true } else qae.behind { m with data:=m.data++[m.got] }
def qtg (s:Int):Prop:=s=0∨s=2∨s=3∨s=5
theorem qqM (m:qae) (x:Int) (h:qtg m.stage):(m.step x).2=if m.left - 1=0 then (m.takeIn x m.lanes).fin else m.takeIn x m.lanes:=by
 rcases h with h | h | h | h <;> simp [qae.step,h,qae.step0,qae.step2,qae.step3,qae.step5,qae.lanes,qae.takeIn,qae.fin]
theorem qio (m:qae) (x:Int) (hs:m.sel=true) (h:qtg m.stage):(m.clock x).2=if m.left - 1=0 then ((m.withCore m.core.pass).takeIn x m.lanes).fin else (m.withCore m.core.pass).takeIn x m.lanes:=by
 unfold qae.clock
 rw [qeI,if_pos (show (m.withCore m.core.pass).sel=true from hs),qqM _ x (show qtg (m.withCore m.core.pass).stage from h)]
 rfl
def qjS (m:qae) (xs:List Int):qae:={ m.withCore (Core.passN xs.length m.core) with got:=xs.foldl (fun g x=>takeGot g x m.lanes) m.got,left:=m.left - xs.length }
theorem qkF (m:qae) (x:Int) (r:List Int):qjS ((m.withCore m.core.pass).takeIn x m.lanes) r=qjS m (x::r):=by
 unfold qjS
 simp only [List.length_cons,List.foldl_cons]
 have e:((m.withCore m.core.pass).takeIn x m.lanes).left - (r.length:Int)=m.left - ((r.length+1:Nat):Int):=by simp only [qae.takeIn,qae.withCore];omega
 rw [e];rfl
theorem qdJ : ∀ (xs:List Int) (m:qae),xs≠[]→m.sel=true→qtg m.stage→(xs.length:Int)=m.left→feed xs m=(qjS m xs).fin
 | [],m,h,_,_,_=>absurd rfl h
 | [x],m,_,hs,ht,hl=>by
  have hl:1=m.left:=hl
  show (m.clock x).2=_
  rw [qio m x hs ht,if_pos (by omega)]
  rw [← qkF]
  congr 1
  have e:(m.withCore m.core.pass).takeIn x m.lanes=qjS ((m.withCore m.core.pass).takeIn x m.lanes) []:=by
   unfold qjS
   simp [Core.passN,qae.withCore,qae.core]
  exact e
 | x::y::r,m,_,hs,ht,hl=>by
  simp only [List.length_cons] at hl
  show feed (y::r) (m.clock x).2=_
  have hl':(((y::r).length:Nat):Int)=((m.withCore m.core.pass).takeIn x m.lanes).left:=by simp only [qae.takeIn,qae.withCore,List.length_cons];omega
  rw [qio m x hs ht,if_neg (by omega)]
  exact (qdJ (y::r) ((m.withCore m.core.pass).takeIn x m.lanes) (by simp) hs ht hl').trans (congrArg qae.fin (qkF m x (y::r)))
theorem qj4 (L b:Int):(qfm L b).length=(many L).toNat:=by
 unfold qfm laneOut many
 split <;> rfl
theorem qmc (L g b:Int) (hL:L=1∨L=4) (h0:0≤b) (h1:b<256):(qfm L b).foldl (fun g x=>takeGot g x L) g=g * 256+b:=by
 rcases hL with rfl | rfl
 ·
  have e : ∀ y:Int,(14+y % 2) % 2=y % 2:=fun y=>by omega
  simp only [qfm,laneOut,qb2,takeGot,if_true,List.map_cons,List.map_nil,List.foldl_cons,List.foldl_nil,e]
  simp only [show ((2:Int) ^ 7)=128 by decide,show ((2:Int) ^ 6)=64 by decide,show ((2:Int) ^ 5)=32 by decide,show ((2:Int) ^ 4)=16 by decide,show ((2:Int) ^ 3)=8 by decide,show ((2:Int) ^ 2)=4 by decide,show ((2:Int) ^ 1)=2 by decide,show ((2:Int) ^ 0)=1 by decide]
  have e7:b / 128 % 2=b / 128:=by omega
  have e6:b / 64=2 * (b / 128)+b / 64 % 2:=by omega
  have e5:b / 32=2 * (b / 64)+b / 32 % 2:=by omega
  have e4:b / 16=2 * (b / 32)+b / 16 % 2:=by omega
  have e3:b / 8=2 * (b / 16)+b / 8 % 2:=by omega
  have e2:b / 4=2 * (b / 8)+b / 4 % 2:=by omega
  have e1:b / 2=2 * (b / 4)+b / 2 % 2:=by omega
  have e0:b=2 * (b / 2)+b / 1 % 2:=by omega
  generalize b / 128 % 2=x7 at *
  generalize b / 64 % 2=x6 at *
  generalize b / 32 % 2=x5 at *
  generalize b / 16 % 2=x4 at *
  generalize b / 8 % 2=x3 at *
  generalize b / 4 % 2=x2 at *
  generalize b / 2 % 2=x1 at *
  generalize b / 1 % 2=x0 at *
  omega
 ·
  simp only [qfm,laneOut,qb2,takeGot,show ¬((4:Int)=1) by decide,if_false,List.map_cons,List.map_nil,List.foldl_cons,List.foldl_nil]
  simp only [show ((2:Int) ^ 4)=16 by decide,show ((2:Int) ^ 0)=1 by decide]
  omega
theorem qvw {L:Int} (h:L=1∨L=4):(many L=8∧L=1)∨(many L=2∧L=4):=by
 rcases h with rfl | rfl <;> simp [many]
theorem qfZ (L:Int) : ∀ bs:List Int,(qbj L bs).length=(many L).toNat * bs.length
 | []=>rfl
 | b::r=>by rw [qbj,List.length_append,qj4,qfZ L r,List.length_cons,Nat.mul_succ];omega
theorem qe6 (L:Int) (hL:L=1∨L=4) : ∀ (bs:List Int) (g:Int),(∀ b ∈ bs,0≤b∧b<256)→(qbj L bs).foldl (fun g x=>takeGot g x L) g=bs.foldl (fun g b=>g * 256+b) g
 | [],g,_=>rfl
 | b::r,g,h=>by
  rw [qbj,List.foldl_append,qmc L g b hL (h b (by simp)).1 (h b (by simp)).2,qe6 L hL r _ (fun x hx=>h x (by simp [hx]))];rfl
def K (c:Core) (op:OpR) (st left addr mode:Int) (moded:Bool) (data:List Int) (told now:Int) (h:Nat):qae :=
 ⟨c.cells,c.prot,c.quad,true,c.en,c.goes,c.job,c.busy,op,st,left,0,addr,mode,moded,data,told,now,false,h⟩
theorem qvj (m:qae):m.fresh=K m.core OpR.zero 0 8 0 0 false [] 0 0 m.home:=rfl
theorem qdS (m:qae) (g l:Int):qae.behind { m with got:=g,left:=l }=m.behind:=by
 unfold qae.behind qae.enter
 repeat' split
 all_goals first | rfl | simp_all
theorem qnn (m:qae) (g l b:Int):qae.begins { m with got:=g,left:=l } b=m.begins b:=by
 unfold qae.begins
 have e:qae.known { m with got:=g,left:=l } b=m.known b:=rfl
 rw [e]
 split
 ·
  rfl
 ·
  split
  ·
   rfl
  ·
   exact qdS { m with op:=opRow b } g l
theorem qlb {L:Int} (hL:L=1∨L=4):0<(many L).toNat:=by rcases qvw hL with ⟨e,_⟩ | ⟨e,_⟩ <;> rw [e] <;> decide
variable {c:Core} {op:OpR} {a mo t nw:Int} {md:Bool} {ds:List Int} {h:Nat}
theorem qcU (b:Int) (h0:0≤b) (h1:b<256):feed (qbj 1 [b]) (K c op 0 8 a mo md ds t nw h)=(K (c.passN 8) op 0 8 a mo md ds t nw h).begins b:=by
 have hb : ∀ x ∈ [b],0≤x∧x<256:=by simp;omega
 rw [qdJ _ _ (by simp [qbj,qfm,laneOut]) rfl (.inl rfl) (by rw [qfZ];rfl)]
 unfold qjS
 rw [show (K c op 0 8 a mo md ds t nw h).lanes=1 from rfl,qe6 1 (.inl rfl) [b] _ hb,qfZ]
 have e:List.foldl (fun g b=>g * 256+b) (K c op 0 8 a mo md ds t nw h).got [b]=b:=by simp [K]
 rw [e]
 exact qnn (K (c.passN 8) op 0 8 a mo md ds t nw h) _ _ _
theorem qdI (L i:Int) (hL:L=1∨L=4) (ho:op.addr=L) (h0:0≤i) (h1:i<4096):feed (qbj L [0,i / 256,i % 256]) (K c op 2 (if L=1 then 24 else 6) a mo md ds t nw h)=qae.behind (K (c.passN (if L=1 then 24 else 6)) op 2 0 i mo md ds t nw h):=by
 have hb : ∀ x ∈ [0,i / 256,i % 256],0≤x∧x<256:=by simp;omega
 have hl:(qbj L [0,i / 256,i % 256]).length=if L=1 then 24 else 6:=by rw [qfZ];rcases hL with rfl | rfl <;> rfl
 have hlan:(K c op 2 (if L=1 then 24 else 6) a mo md ds t nw h).lanes=L:=by simp [qae.lanes,K,ho]
 rw [qdJ _ _ (by intro e;rw [e] at hl;simp at hl;split at hl <;> omega) rfl (.inr (.inl rfl)) (by rw [hl];simp only [K];split <;> rfl)]
 unfold qjS
 rw [hlan,qe6 L hL _ _ hb,hl]
 unfold qae.fin
 rw [if_neg (by simp [K,qae.withCore]),if_pos (by simp [K,qae.withCore])]
 have e:List.foldl (fun g b=>g * 256+b) (K c op 2 (if L=1 then 24 else 6) a mo md ds t nw h).got [0,i / 256,i % 256]=i:=by simp [K];omega
 rw [e]
 show qae.behind { K (c.passN (if L=1 then 24 else 6)) op 2 0 (i % 4096) mo md ds t nw h with got:=_,left:=_ }=_
 rw [qdS,Int.emod_eq_of_lt h0 h1]
theorem ql9 (L b:Int) (hL:L=1∨L=4) (ho:op.addr=L) (h0:0≤b) (h1:b<256):feed (qbj L [b]) (K c op 3 (many L) a mo md ds t nw h)=qae.behind (K (c.passN (many L).toNat) op 3 0 a b true ds t nw h):=by
 have hb : ∀ x ∈ [b],0≤x∧x<256:=by simp;omega
 have hl:(qbj L [b]).length=(many L).toNat:=by rw [qfZ];simp
 have hp:=qlb hL
 have hlan:(K c op 3 (many L) a mo md ds t nw h).lanes=L:=by simp [qae.lanes,K,ho]
 rw [qdJ _ _ (by intro e;rw [e] at hl;simp at hl;omega) rfl (.inr (.inr (.inl rfl))) (by rw [hl];simp only [K];omega)]
 unfold qjS
 rw [hlan,qe6 L hL _ _ hb,hl]
 unfold qae.fin
 rw [if_neg (by simp [K,qae.withCore]),if_neg (by simp [K,qae.withCore]),if_pos (by simp [K,qae.withCore])]
 have e:List.foldl (fun g b=>g * 256+b) (K c op 3 (many L) a mo md ds t nw h).got [b]=b:=by simp [K]
 rw [e]
 exact qdS (K (c.passN (many L).toNat) op 3 0 a b true ds t nw h) _ _
theorem qtE (L b:Int) (hL:L=1∨L=4) (ho:op.data=L) (h0:0≤b) (h1:b<256):feed (qfm L b) (K c op 5 (many L) a mo md ds t nw h)=qae.behind (K (c.passN (many L).toNat) op 5 0 a mo md (ds++[b]) t nw h):=by
 have hl:=qj4 L b
 have hp:=qlb hL
 have hlan:(K c op 5 (many L) a mo md ds t nw h).lanes=L:=by simp [qae.lanes,K,ho]
 rw [qdJ _ _ (by intro e;rw [e] at hl;simp at hl;omega) rfl (.inr (.inr (.inr rfl))) (by rw [hl];simp only [K];omega)]
 unfold qjS
 rw [hlan,qmc L _ b hL h0 h1,hl]
 unfold qae.fin
 rw [if_neg (by simp [K,qae.withCore]),if_neg (by simp [K,qae.withCore]),if_neg (by simp [K,qae.withCore])]
 have e:(K c op 5 (many L) a mo md ds t nw h).got * 256+b=b:=by simp [K]
 rw [e]
 exact qdS (K (c.passN (many L).toNat) op 5 0 a mo md (ds++[b]) t nw h) _ _
theorem qnq (hm:op.mode=false) (hd:op.dummy=0) (h1:op.data=1) (hi:op.inn=true) (s:Int):qae.behind (K c op s 0 a mo md ds t nw h)=K c op 5 8 a mo md ds t nw h:=by
 unfold qae.behind
 simp [K,hm,hd,h1,hi,qae.enter,many]
theorem qiB (hm:op.mode=false) (hd:op.dummy=0) (hda:op.data=1) (hi:op.inn=true) : ∀ (bs:List Int) (c:Core) (ds:List Int),(∀ b ∈ bs,0≤b∧b<256)→feed (qbj 1 bs) (K c op 5 8 a mo md ds t nw h)=K (c.passN (8 * bs.length)) op 5 8 a mo md (ds++bs) t nw h
 | [],c,ds,_=>by simp [qbj,feed,Core.passN]
 | b::r,c,ds,hb=>by
  have h:=qtE (c:=c) (ds:=ds) (a:=a) (mo:=mo) (md:=md) (t:=t) (nw:=nw) (h:=h) 1 b (.inl rfl) hda (hb b (by simp)).1 (hb b (by simp)).2
  rw [show many 1=8 from rfl,qnq hm hd hda hi] at h
  rw [qbj,qhE,h,qiB hm hd hda hi r _ _ (fun x hx=>hb x (by simp [hx])),List.append_assoc,List.length_cons,Nat.mul_succ,Nat.add_comm,qcl]
  rfl
theorem qin (m:qae) (x:Int) (hs:m.sel=true) (h4:m.stage=4):(m.clock x).2=if m.left - 1=0 then qae.behind { m.withCore m.core.pass with left:=m.left - 1 } else { m.withCore m.core.pass with left:=m.left - 1 }:=by
 unfold qae.clock
 rw [qeI,if_pos (show (m.withCore m.core.pass).sel=true from hs)]
 unfold qae.step
 rw [show (m.withCore m.core.pass).stage=4 from h4,if_neg (by decide),if_neg (by decide),if_neg (by decide),if_pos rfl]
 rfl
theorem qe4 : ∀ (n:Nat) (c:Core),feed (List.replicate (n+1) 15) (K c op 4 ((n+1:Nat):Int) a mo md ds t nw h)=qae.behind (K (c.passN (n+1)) op 4 0 a mo md ds t nw h)
 | 0,c=>qin (K c op 4 ((0+1:Nat):Int) a mo md ds t nw h) 15 rfl rfl
 | n+1,c=>by
  have e:((K c op 4 ((n+1+1:Nat):Int) a mo md ds t nw h).clock 15).2=K c.pass op 4 ((n+1:Nat):Int) a mo md ds t nw h:=by
   have hl:(K c op 4 ((n+1+1:Nat):Int) a mo md ds t nw h).left - 1=((n+1:Nat):Int):=by simp only [K];omega
   rw [qin _ 15 rfl rfl,hl,if_neg (by omega)]
   rfl
  show feed (List.replicate (n+1) 15) (qae.clock _ 15).2=_
  rw [e,qe4 n c.pass]
  rfl
end
section
theorem qpU (m:qae) (l:Nat) (hs:m.sel=true) (h6:m.stage=6) (hl:m.left=((l+1:Nat):Int)):m.clock 15=(bitsOf m.now m.op.data l,{ m.withCore m.core.pass with left:=(l:Int) }):=by
 have e:(m.withCore m.core.pass).next=m.withCore m.core.pass:=by
  unfold qae.next
  rw [if_neg (show ¬(m.withCore m.core.pass).left=0 by show ¬ m.left=0;omega)]
 unfold qae.clock
 rw [qeI,if_pos (show (m.withCore m.core.pass).sel=true from hs)]
 unfold qae.step
 rw [show (m.withCore m.core.pass).stage=6 from h6,if_neg (by decide),if_neg (by decide),if_neg (by decide),if_neg (by decide),if_neg (by decide),if_pos rfl]
 unfold qae.says
 rw [e,show (m.withCore m.core.pass).left - 1=(l:Int) by show m.left - 1=_;omega]
 rfl
theorem qnx (m:qae) (hs:m.sel=true) (h6:m.stage=6) (hl:m.left=0) (v:Int) (hv:(m.withCore m.core.pass).byteAt m.told=v):m.clock 15=(bitsOf v m.op.data (many m.op.data - 1),{ m.withCore m.core.pass with now:=v,left:=many m.op.data - 1,told:=m.told+1 }):=by
 have e:(m.withCore m.core.pass).next={ m.withCore m.core.pass with now:=v,left:=many m.op.data,told:=m.told+1 }:=by
  unfold qae.next
  rw [if_pos (show (m.withCore m.core.pass).left=0 from hl),← hv]
  rfl
 unfold qae.clock
 rw [qeI,if_pos (show (m.withCore m.core.pass).sel=true from hs)]
 unfold qae.step
 rw [show (m.withCore m.core.pass).stage=6 from h6,if_neg (by decide),if_neg (by decide),if_neg (by decide),if_neg (by decide),if_neg (by decide),if_pos rfl]
 unfold qae.says
 rw [e]
 rfl
theorem qiV (L:Int) : ∀ (l:Nat) (m:qae),m.sel=true→m.stage=6→m.left=(l:Int)→listen L l m=(List.range l).reverse.map (fun i:Nat=>heard L (bitsOf m.now m.op.data i))∧feed (List.replicate l 15) m={ m.withCore (m.core.passN l) with left:=0 }
 | 0,m,_,_,hl=>⟨rfl,by
   have hl:m.left=0:=hl
   show m={ m.withCore m.core with left:=0 }
   rw [← hl];rfl⟩
 | l+1,m,hs,h6,hl=>by
  have e:=qpU m l hs h6 hl
  obtain ⟨h1,h2⟩:=qiV L l { m.withCore m.core.pass with left:=(l:Int) } hs h6 rfl
  refine ⟨?_,?_⟩
  ·
   show heard L (m.clock 15).1::listen L l (m.clock 15).2=_
   rw [e,List.range_succ,List.reverse_append,List.map_append]
   simp only [h1]
   rfl
  ·
   show feed (List.replicate l 15) (m.clock 15).2=_
   rw [e]
   simp only [h2]
   rfl
theorem qr1 (L v:Int) (hL:L=1∨L=4) (h0:0≤v) (h1:v<256):laneIn ((List.range (many L).toNat).reverse.map fun i:Nat=>heard L (bitsOf v L i)) L=v:=by
 rcases hL with rfl | rfl
 ·
  rw [show (List.range (many 1).toNat).reverse=[7,6,5,4,3,2,1,0] by decide]
  have e : ∀ y:Int,(13+2 * (y % 2)) / 2 % 2=y % 2:=fun y=>by omega
  simp only [laneIn,heard,bitsOf,if_true,List.map_cons,List.map_nil,List.foldl_cons,List.foldl_nil,e]
  simp only [show ((2:Int) ^ (((7:Nat):Int)).toNat)=128 by decide,show ((2:Int) ^ (((6:Nat):Int)).toNat)=64 by decide,show ((2:Int) ^ (((5:Nat):Int)).toNat)=32 by decide,show ((2:Int) ^ (((4:Nat):Int)).toNat)=16 by decide,show ((2:Int) ^ (((3:Nat):Int)).toNat)=8 by decide,show ((2:Int) ^ (((2:Nat):Int)).toNat)=4 by decide,show ((2:Int) ^ (((1:Nat):Int)).toNat)=2 by decide,show ((2:Int) ^ (((0:Nat):Int)).toNat)=1 by decide]
  have e7:v / 128 % 2=v / 128:=by omega
  have e6:v / 64=2 * (v / 128)+v / 64 % 2:=by omega
  have e5:v / 32=2 * (v / 64)+v / 32 % 2:=by omega
  have e4:v / 16=2 * (v / 32)+v / 16 % 2:=by omega
  have e3:v / 8=2 * (v / 16)+v / 8 % 2:=by omega
  have e2:v / 4=2 * (v / 8)+v / 4 % 2:=by omega
  have e1:v / 2=2 * (v / 4)+v / 2 % 2:=by omega
  have e0:v=2 * (v / 2)+v / 1 % 2:=by omega
  generalize v / 128 % 2=x7 at *
  generalize v / 64 % 2=x6 at *
  generalize v / 32 % 2=x5 at *
  generalize v / 16 % 2=x4 at *
  generalize v / 8 % 2=x3 at *
  generalize v / 4 % 2=x2 at *
  generalize v / 2 % 2=x1 at *
  generalize v / 1 % 2=x0 at *
  omega
 ·
  rw [show (List.range (many 4).toNat).reverse=[1,0] by decide]
  simp only [laneIn,heard,bitsOf,show ¬((4:Int)=1) by decide,if_false,List.map_cons,List.map_nil,List.foldl_cons,List.foldl_nil]
  simp only [show ((16:Int) ^ (((1:Nat):Int)).toNat)=16 by decide,show ((16:Int) ^ (((0:Nat):Int)).toNat)=1 by decide]
  omega
variable {c:Core} {op:OpR} {a mo t nw:Int} {md:Bool} {ds:List Int} {h:Nat}
theorem qwf (L:Int) (hL:L=1∨L=4) (ho:op.data=L) (o:List Int) (n:Nat) (most:Int) (hg:(Drv.get L ⟨K c op 6 0 a mo md ds t nw h,o,n,most⟩).1=true) (v:Int) (hv:(K c.pass op 6 0 a mo md ds t nw h).byteAt t=v):(Drv.get L ⟨K c op 6 0 a mo md ds t nw h,o,n,most⟩).2=⟨K (c.passN (many L).toNat) op 6 0 a mo md ds (t+1) v h,o++[v],n+(many L).toNat,most⟩:=by
 have hv2:0≤v∧v<256:=by rw [← hv];exact qes _ _
 have hp:=qlb hL
 obtain ⟨l,hl⟩ : ∃ l,(many L).toNat=l+1:=⟨(many L).toNat - 1,by omega⟩
 have hml:many L=((l+1:Nat):Int):=by omega
 have e:=qnx (K c op 6 0 a mo md ds t nw h) rfl rfl rfl v hv
 have eo:(K c op 6 0 a mo md ds t nw h).op.data=L:=ho
 rw [eo,hml,show ((l+1:Nat):Int) - 1=(l:Int) by omega] at e
 obtain ⟨h1,h2⟩:=qiV L l _ (show ({ (K c op 6 0 a mo md ds t nw h).withCore (K c op 6 0 a mo md ds t nw h).core.pass with now:=v,left:=(l:Int),told:=t+1 }:qae).sel=true from rfl) rfl rfl
 have hb:=qr1 L v hL hv2.1 hv2.2
 rw [hl,List.range_succ,List.reverse_append,List.map_append] at hb
 rw [qtI L _ hg,hl]
 have e1:listen L (l+1) (K c op 6 0 a mo md ds t nw h)=heard L (bitsOf v L l)::(List.range l).reverse.map (fun i:Nat=>heard L (bitsOf v L i)):=by
  show heard L ((K c op 6 0 a mo md ds t nw h).clock 15).1::listen L l ((K c op 6 0 a mo md ds t nw h).clock 15).2=_
  rw [e]
  congr 1
  have eo2:op.data=L:=ho
  rw [← eo2] at h1 ⊢
  exact h1
 have e2:feed (List.replicate (l+1) 15) (K c op 6 0 a mo md ds t nw h)=K (c.passN (l+1)) op 6 0 a mo md ds (t+1) v h:=by
  show feed (List.replicate l 15) ((K c op 6 0 a mo md ds t nw h).clock 15).2=_
  rw [e]
  exact h2
 simp only [e1,e2]
 congr 2
 exact congrArg (fun z=>[z]) hb
def Core.still (c:Core):Prop:=c.pass=c
theorem qbJ {c:Core} (hc:c.still) : ∀ n,c.passN n=c
 | 0=>rfl
 | n+1=>by show Core.passN n c.pass=c;rw [hc];exact qbJ hc n
def comes (c:Core) (op:OpR) (a:Int) (t:Int) (n:Nat):List Int:=(List.range n).map fun i:Nat=>(K c op 6 0 a 0 false [] 0 0 0).byteAt (t+i)
theorem qpV (c:Core) (op:OpR) (a t:Int) (n:Nat):comes c op a t (n+1)=(K c op 6 0 a 0 false [] 0 0 0).byteAt t::comes c op a (t+1) n:=by
 unfold comes
 rw [List.range_succ_eq_map,List.map_cons,List.map_map]
 simp only [Int.natCast_zero,Int.add_zero]
 congr 1
 refine List.map_congr_left fun i _ => ?_
 simp only [Function.comp]
 congr 1
 omega
theorem quJ (L:Int) (hL:L=1∨L=4) (ho:op.data=L) (hc:c.still) (most:Int) : ∀ (k:Nat) (t nw:Int) (o:List Int) (n:Nat),(Drv.gets L k ⟨K c op 6 0 a mo md ds t nw h,o,n,most⟩).1=true → ∃ nw',(Drv.gets L k ⟨K c op 6 0 a mo md ds t nw h,o,n,most⟩).2.chip=K c op 6 0 a mo md ds (t+k) nw' h∧(Drv.gets L k ⟨K c op 6 0 a mo md ds t nw h,o,n,most⟩).2.out=o++comes c op a t k
 | 0,t,nw,o,n,_=>⟨nw,by simp [Drv.gets],by simp [Drv.gets,comes]⟩
 | k+1,t,nw,o,n,hg=>by
  cases hp:(Drv.get L ⟨K c op 6 0 a mo md ds t nw h,o,n,most⟩).1 with
  | false=>rw [qiI L k _ hp] at hg;cases hg
  | true =>
   have e:=qwf L hL ho o n most hp _ rfl
   rw [qk3 L k _ hp,e,qbJ hc] at hg ⊢
   obtain ⟨nw',h1,h2⟩:=quJ L hL ho hc most k _ _ _ _ hg
   refine ⟨nw',by rw [h1];congr 1;omega,?_⟩
   rw [h2,qpV,List.append_assoc]
   rw [hc]
   rfl
def Ends (ps:List Ph) (m:qae) (o:List Int) (P:qae→List Int→Prop):Prop := ∀ n most,(Drv.phases ps ⟨m,o,n,most⟩).1=true→P (Drv.phases ps ⟨m,o,n,most⟩).2.chip (Drv.phases ps ⟨m,o,n,most⟩).2.out
theorem Ends.nil {m:qae} {o:List Int} {P:qae→List Int→Prop} (h:P m o):Ends [] m o P:=fun _ _ _=>h
theorem Ends.puts {L:Int} {bs:List Int} {r:List Ph} {m:qae} {o:List Int} {P:qae→List Int→Prop} (h:Ends r (feed (qbj L bs) m) o P):Ends (⟨L,bs,0,0⟩::r) m o P:=fun n most hr=>by
 obtain ⟨h1,h2,e⟩:=qaQ hr
 obtain ⟨g1,g2,ge⟩:=qaQ h1
 obtain ⟨k1,k2,ke⟩:=qaQ g2
 have e3:(Drv.phase ⟨L,bs,0,0⟩ ⟨m,o,n,most⟩).2=(Drv.puts L bs ⟨m,o,n,most⟩).2:=ge.trans (ke.trans rfl)
 rw [e3,qmN L bs _ g1] at h2 e
 have:=h _ _ h2
 show P (andThen _ _).2.chip (andThen _ _).2.out
 rw [e]
 exact this
theorem Ends.dummy {k:Int} {r:List Ph} {m:qae} {o:List Int} {P:qae→List Int→Prop} (h:Ends r (feed (List.replicate k.toNat 15) m) o P):Ends (⟨0,[],k,0⟩::r) m o P:=fun n most hr=>by
 obtain ⟨h1,h2,e⟩:=qaQ hr
 obtain ⟨g1,g2,ge⟩:=qaQ h1
 obtain ⟨k1,k2,ke⟩:=qaQ g2
 have k1:(Drv.row (List.replicate k.toNat 15) ⟨m,o,n,most⟩).1=true:=k1
 have e3:(Drv.phase ⟨0,[],k,0⟩ ⟨m,o,n,most⟩).2=(Drv.row (List.replicate k.toNat 15) ⟨m,o,n,most⟩).2:=ge.trans (ke.trans rfl)
 rw [e3,qlm _ _ k1] at h2 e
 have:=h _ _ h2
 show P (andThen _ _).2.chip (andThen _ _).2.out
 rw [e]
 exact this
theorem Ends.gets {L k:Int} (hL:L=1∨L=4) (ho:op.data=L) (hc:c.still) {o:List Int} {P:qae→List Int→Prop} (hP : ∀ nw',P (K c op 6 0 a mo md ds (t+k.toNat) nw' h) (o++comes c op a t k.toNat)):Ends [⟨L,[],0,k⟩] (K c op 6 0 a mo md ds t nw h) o P:=fun n most hr=>by
 obtain ⟨h1,h2,e⟩:=qaQ hr
 obtain ⟨g1,g2,ge⟩:=qaQ h1
 obtain ⟨k1,k2,ke⟩:=qaQ g2
 have e3:(Drv.phase ⟨L,[],0,k⟩ ⟨K c op 6 0 a mo md ds t nw h,o,n,most⟩).2=(Drv.gets L k.toNat ⟨K c op 6 0 a mo md ds t nw h,o,n,most⟩).2:=ge.trans (ke.trans rfl)
 obtain ⟨nw',f1,f2⟩:=quJ L hL ho hc most k.toNat t nw o n k2
 show P (andThen _ _).2.chip (andThen _ _).2.out
 rw [e,e3]
 show P (Drv.gets L k.toNat ⟨K c op 6 0 a mo md ds t nw h,o,n,most⟩).2.chip (Drv.gets L k.toNat ⟨K c op 6 0 a mo md ds t nw h,o,n,most⟩).2.out
 rw [f1,f2]
 exact hP nw'
theorem Ends.get {L:Int} (hL:L=1∨L=4) (ho:op.data=L) {o:List Int} {P:qae→List Int→Prop} (v:Int) (hv:(K c.pass op 6 0 a mo md ds t nw h).byteAt t=v) (hP:P (K (c.passN (many L).toNat) op 6 0 a mo md ds (t+1) v h) (o++[v])):Ends [⟨L,[],0,1⟩] (K c op 6 0 a mo md ds t nw h) o P:=fun n most hr=>by
 obtain ⟨h1,h2,e⟩:=qaQ hr
 obtain ⟨g1,g2,ge⟩:=qaQ h1
 obtain ⟨k1,k2,ke⟩:=qaQ g2
 have e3:(Drv.phase ⟨L,[],0,1⟩ ⟨K c op 6 0 a mo md ds t nw h,o,n,most⟩).2=(Drv.gets L 1 ⟨K c op 6 0 a mo md ds t nw h,o,n,most⟩).2:=ge.trans (ke.trans rfl)
 have k2:(Drv.gets L 1 ⟨K c op 6 0 a mo md ds t nw h,o,n,most⟩).1=true:=k2
 show P (andThen _ _).2.chip (andThen _ _).2.out
 rw [e,e3]
 show P (Drv.gets L 1 ⟨K c op 6 0 a mo md ds t nw h,o,n,most⟩).2.chip (Drv.gets L 1 ⟨K c op 6 0 a mo md ds t nw h,o,n,most⟩).2.out
 cases hp:(Drv.get L ⟨K c op 6 0 a mo md ds t nw h,o,n,most⟩).1 with
 | false=>rw [qiI L 0 _ hp] at k2;cases k2
 | true =>
  have e4:=qwf L hL ho o n most hp v hv
  rw [qk3 L 0 _ hp,e4]
  exact hP
end
end Go.Proofs.YtcfdenckiigdaaaGreat

/- Part 23 of the contracts. -/
import Derived.Test.YtcfdenckiigdaaaGreatRd20
import Derived.Test.YtcfdenckiigdaaaGreatRd22
set_option linter.unusedVariables false
set_option maxRecDepth 100000
set_option maxHeartbeats 4000000
namespace Go.Proofs.YtcfdenckiigdaaaGreat
open Tryz Go.RowKit
section
open Go.RowKit
variable {X:Nat→Prop}
structure fT where
 m:aG
 q:Cache
 S:aA
def iT (p s:Nat) (H:Nat→Prop) (i:Nat):Prop:=bS s H i∨i=p
structure bg (X:Nat→Prop) (w:World) (p:Nat) (W:fT) (G:Nat→Prop):Prop where
 ex : ∃ s k c b H z,jD w p c (some ⟨k,0,none⟩) (some ⟨b,0,none⟩) (some ⟨s,0,none⟩) z∧Sys X w s k c b W.m W.q W.S H ∧ ¬ bS s H p∧(0<W.m.ar.busy.length→W.m.ar.home≠p ∧ ¬ X W.m.ar.home) ∧ ∀ i,G i ↔ iT p s H i
theorem bg.aj {w w':World} {p:Nat} {W:fT} {G:Nat→Prop} (h:bg X w p W G) (hb:Below w.heap.size w w'):bg X w' p W G:=by
 obtain ⟨s,k,c,b,H,z,h1,h2,h3⟩:=h.ex
 exact ⟨s,k,c,b,H,z,aa hb h1,h2.aj hb,h3⟩
theorem bg.lt {w:World} {p:Nat} {W:fT} {G:Nat→Prop} (h:bg X w p W G) : ∀ i,G i→i<w.heap.size:=fun i hi=>by
 obtain ⟨s,k,c,b,H,z,h1,h2,h3,h4,h5⟩:=h.ex
 rcases (h5 i).1 hi with h | rfl
 ·
  exact h2.lt i h
 ·
  exact aO h1
theorem Dn {m m1 m2 m3 m4:aG} {own bit other kept x y:Int} (S:Sets m m1 m2 m3 m4 own bit other kept x y) (ok:m.Ok):m4.Ok∧bH m m4:=by
 have o1:=eu ok own 0 [] 1 (by rcases S.own with e | e <;> rw [e];exact yC;exact Df)
 have e1:=cO m own 0 [] 1
 rw [S.r1] at o1 e1
 have o2:=eu o1 other 0 [] 1 (by rcases S.other with e | e <;> rw [e];exact yC;exact Df)
 have e2:=cO m1 other 0 [] 1
 rw [S.r2] at o2 e2
 have o3:=eu o2 6 0 [] 0 Bi
 have e3:=cO m2 6 0 [] 0
 rw [S.r3] at o3 e3
 have o4:=eu o3 1 0 (if own=53 then [bits .and .i64 y kept,bit] else [bit,bits .and .i64 y kept]) 0 (by
  split
  ·
   exact LX _ _ S.k1 S.bit
  ·
   exact LX _ _ S.bit S.k1)
 have e4:=cO m3 1 0 (if own=53 then [bits .and .i64 y kept,bit] else [bit,bits .and .i64 y kept]) 0
 rw [S.r4] at o4 e4
 exact ⟨o4,e1.trans (e2.trans (e3.trans e4))⟩
theorem jO (p:Nat) (W:fT) (G:Nat→Prop) (w:World) (h:bg X w p W G):Calls prog 14 #[.pointer (some ⟨p,0,none⟩)] w fun e w'=>e=.returned (.string W.m.ar.cells)∧w'=w:=by
 obtain ⟨s,k,c,b,H,z,h1,h2,h3⟩:=h.ex
 obtain ⟨F,hc,_,_⟩:=h2.ar
 obtain ⟨c0,_,_,_,_,_⟩:=mq h1
 have HC:=zH (uY c W.m.ar F w hc)
 clear h h1 h2 h3 hc
 go_enter func14,ntmps14
 go_wp2_with (go_at_call 39;refine HC.out.mono ?_;rintro e w1 ⟨rfl,rfl⟩)
 go_ret
 exact ⟨rfl,rfl⟩
def gL (img:ByteArray):ByteArray:=img++(iw 4096).extract img.size 4096
theorem qt:(iw 4096).size=4096:=by
 unfold iw
 rw [qN]
 show (List.replicate 4096 (255:UInt8)).toArray.size=4096
 rw [List.size_toArray,List.length_replicate]
theorem Je (i:Nat) (h:i<4096):bt (iw 4096) i=255:=by
 unfold iw
 rw [qN]
 show (List.replicate 4096 (255:UInt8)).toArray.getD i 0=255
 rw [Array.getD_eq_getD_getElem?,List.getElem?_toArray,List.getElem?_replicate,if_pos h]
 rfl
theorem j5 {img:ByteArray} (h:img.size≤2048):(gL img).size=4096:=by
 unfold gL
 rw [ByteArray.size_append,ij _ _ _ (by rw [qt];omega)]
 omega
theorem He {img:ByteArray} (h:img.size≤2048) (i:Nat) (hi:i<4096):bt (gL img) i=if i<img.size then bt img i else 255:=by
 unfold gL
 rw [qu]
 split
 ·
  rfl
 ·
  rw [fG _ _ _ _ (by omega) (by rw [qt];omega),Je _ (by omega)]
theorem wZ {img:ByteArray} (h:img.size≤2048):Gu (gL img):=by
 refine ⟨j5 h,fun j h4 h8 => ?_⟩
 have:dp (gL img) j 0=sN 64:=by
  refine fF (by rw [gN,oI]) fun k hk => ?_
  rw [gN] at hk
  rw [pj _ _ _ _ hk,He h _ (by omega),if_neg (by omega),s7 _ _ hk]
 rw [this]
 exact Eh 1
def qY (X:Nat→Prop) (img:ByteArray) (w:World) (e:Ending) (w':World):Prop := ∃ p W G,e=.returned (.tuple #[.pointer (some ⟨p,0,none⟩),.int .i64 0])∧bg X w' p W G∧Below w.heap.size w w'∧(∀ i,G i→w.heap.size≤i)∧Calm W.m (gL img)∧W.m.left<0∧W.m.Ok∧W.m.ar.busy=[]∧W.q=Cache.new∧W.S=shut
theorem JZ {x:ByteArray} (hx:x.size=4096):(aG.new (kJ x)).Ok:=by
 refine ⟨⟨⟨hx,?_,?_,?_,?_,?_⟩,?_⟩,fun _=>rfl,?_,?_⟩
 ·
  intro j h;cases h
 ·
  show (0:Int)≤0;decide
 ·
  show (0:Int)<4096;decide
 ·
  show AI ⟨0,0,false,0,0,false⟩;decide
 ·
  show 0≤1099511627776;decide
 ·
  intro y h;cases h
 ·
  show (-1:Int) ≤ -1;decide
 ·
  show (-1:Int)≤1099511627776;decide
theorem pB (img:ByteArray) (w:World) (hi:img.size≤2048) (hXL : ∀ i,X i→i<w.heap.size):Calls prog 16 #[.string img] w (qY X img w):=by
 have hs:=j5 hi
 have hi' : ¬ (2048:Int)<img.size:=by omega
 have HN:=zH (fun w=>p7 (gL img) w hs)
 have hbs:(iw 4096).size=4096:=qt
 have h4:(img.size:Int)≤((iw 4096).size:Int):=by rw [hbs];omega
 have HI:=zH hi
 have HXL:=zH hXL
 clear hXL
 have HX:=zH (show gL img=img++(iw 4096).extract img.size 4096 from rfl)
 clear hi hs
 go_enter func16,ntmps16
 go_upto_region 4 with (first
  | (go_at_call 40;refine (B0 _).mono ?_;rintro e w1 ⟨rfl,hb1⟩)
  | (go_at_call 28;refine (HN.out _).mono ?_;rintro e w2 ⟨c,rfl,hc,hb2,hcl⟩))
 have hb:=gtr hb1 hb2
 have hcw:w.heap.size≤c:=Nat.le_trans hb1.size hcl
 have hcl2:c<w2.heap.size:=hc.lt c rfl
 have H2:=zH (zA hc (zA hb (zA hcw hcl2)))
 clear hc hb hb1 hb2 hcw hcl2 hcl HN hbs h4 hi'
 go_upto_region 5 with fail
 have e0:=af w2 (.cells #[.pointer (some ⟨c,0,none⟩),.pointer none,.pointer none,.pointer none,.int .i64 0] 94)
 have HB:=zH (lV (X:=X) w2.heap.size c none none none 0 (kJ (gL img)) (aN c) _ e0 (H2.out.1.aj (ae zR _)) (fun e=>by have:=H2.out.2.2.2;rw [show w2.heap.size=c from e] at this;omega) rfl (fun i hi=>zV (HXL.out i hi) (ae H2.out.2.1 _).size) (fun w' _=>(yt w').mono fun e w'' h=>⟨0,h.1,h.2⟩))
 have H3:=zH (zA (ae H2.out.2.1 (.cells #[.pointer (some ⟨c,0,none⟩),.pointer none,.pointer none,.pointer none,.int .i64 0] 94)) H2.out.2.2)
 clear e0
 generalize w2.alloc (.cells #[.pointer (some ⟨c,0,none⟩),.pointer none,.pointer none,.pointer none,.int .i64 0] 94)=w3 at *
 have hpw:w.heap.size≤w2.heap.size:=H2.out.2.1.size
 have HP:=zH hpw
 clear H2 hpw
 generalize w2.heap.size=p at *
 obtain ⟨m1,m2,m3,m4,S1,R1,l1⟩:=Iw (m:=aG.new (kJ (gL img))) (x:=gL img) (b:=[]) ⟨rfl,rfl,rfl,rfl⟩ (show (-1:Int)<0 by decide)
 obtain ⟨n1,n2,n3,n4,S2,R2,l2⟩:=Iv R1 l1
 obtain ⟨o1,hm1⟩:=Dn S1 (JZ (j5 HI.out))
 obtain ⟨o2,hm2⟩:=Dn S2 o1
 have HQ:=zH (zA S1 (zA S2 (zA o1 (zA hm1 hm2))))
 have HE:=zH (zA R2 (zA l2 o2))
 clear S1 S2 o1 o2 hm1 hm2 R1 R2 l1 l2
 go_upto_region 6 with (go_at_call 35;refine HB.out.mono ?_;rintro e w4 ⟨rfl,s,k,b,H,z,hr,hs,hn,ht,hH⟩)
 obtain ⟨r0,r1,r2,r3,r4,rf⟩:=mq hr
 obtain ⟨G,hc,hl⟩:=hs.wQ
 have H4:=zH (zA hr (zA hn (zA ht (zA hH hl))))
 have HQ1:=zH (E5 k c _ m1 m2 m3 m4 G 0 0 w4 hc (JZ (j5 HI.out)) HQ.out.1)
 clear hr hs hn ht hH hc hl HB
 go_upto_region 7 with (go_at_call 41;refine HQ1.out.mono ?_;rintro e w5 ⟨rfl,G5,hc5,st5⟩)
 obtain ⟨H5,hs5,st6⟩:=H4.out.2.2.2.2 w5 m4 G5 hc5 st5 HQ.out.2.2.2.1
 have hr5:jD w5 p c _ _ _ z:=st6.aH.at H4.out.1 (fun e=>H4.out.2.1 (.inl e))
 have hn5 : ¬ bS s H5 p:=(st6.ln (s:=s)).safe (aO H4.out.1) H4.out.2.1
 clear r0 r1 r2 r3 r4 rf
 obtain ⟨r0,r1,r2,r3,r4,rf⟩:=mq hr5
 obtain ⟨G6,hc6,hl6⟩:=hs5.wQ
 have HQ2:=zH (yB k c _ n1 n2 n3 n4 G6 0 2 w5 hc6 HQ.out.2.2.1 HQ.out.2.1)
 have H5':=zH (zA hr5 (zA hn5 (zA (st6.ln (s:=s)) hl6)))
 clear hr5 hn5 hc5 st5 hs5 st6 hc6 hl6
 go_wp2_with (go_at_call 42;refine HQ2.out.mono ?_;rintro e w6 ⟨rfl,G7,hc7,st7⟩)
 obtain ⟨H7,hs7,st8⟩:=H5'.out.2.2.2 w6 n4 G7 hc7 st7 HQ.out.2.2.2.2
 have hr7:jD w6 p c _ _ _ z:=st8.aH.at H5'.out.1 (fun e=>H5'.out.2.1 (.inl e))
 have hn7 : ¬ bS s H7 p:=(st8.ln (s:=s)).safe (aO H5'.out.1) H5'.out.2.1
 have st9:=H5'.out.2.2.1.trans (st8.ln (s:=s))
 have F:=zH (zA hs7 (zA hr7 (zA hn7 st9)))
 clear hs7 hr7 hn7 st9 hc7 st7 st8
 go_ret2
 have z3:=H3.out.1.size
 have hp:=HP.out
 have hcw:=H3.out.2.1
 have hM : ∀ i,bS s H i→w.heap.size≤i:=fun i hi=>by
  rcases H4.out.2.2.2.1 i hi with h | h
  ·
   rw [show i=c from h];exact hcw
  ·
   omega
 have z4:=H4.out.2.2.1.size
 have b4:Below w.heap.size w3 w4:=H4.out.2.2.1.below z3 (fun i hi e=>by rw [show i=p from e] at hi;omega)
 have b6:Below w.heap.size w4 w6:=F.out.2.2.2.aH.below (Nat.le_trans z3 z4) (fun i hi hm=>by have:=hM i hm;omega)
 obtain ⟨hR,hl,hok⟩:=HE.out
 have hbusy:n4.ar.busy=[]:=congrArg Core.busy hR.core
 have hh:0<n4.ar.busy.length→n4.ar.home≠p ∧ ¬ X n4.ar.home:=fun hl=>by rw [hbusy] at hl;cases hl
 refine ⟨p,⟨n4,Cache.new,shut⟩,iT p s H7,rfl,⟨⟨s,k,c,b,H7,z,F.out.2.1,F.out.1,F.out.2.2.1,hh,fun i=>Iff.rfl⟩⟩,(H3.out.1.trans b4).trans b6,fun i hi => ?_,?_,hl,hok,hbusy,rfl,rfl⟩
 ·
  rcases hi with hi | hi
  ·
   rcases F.out.2.2.2.gP i hi with h | h
   ·
    exact hM i h
   ·
    omega
  ·
   omega
 ·
  exact Calm.of hR rfl rfl rfl rfl (fun y hy=>by cases hy)
end
section
open Go.RowKit
variable {X:Nat→Prop}
structure Plain (w:World) (o:Nat):Prop where
 ints : ∀ i x,w.cell? ⟨o,i,none⟩≠some (.int .i64 x)
 text : ∀ t,w.cell? ⟨o,1,none⟩≠some (.string t)
theorem Plain.off {w:World} {o:Nat} (h:Plain w o) {a:Option Addr} {xs:List Int} (hi:aP w a xs) {b f:Nat} (ha:a=some ⟨b,f,none⟩) (hl:0<xs.length):b≠o:=fun e=>by
 obtain ⟨b2,o2,g1,g2⟩:=hi 0 hl
 rw [ha] at g1
 obtain ⟨rfl,rfl⟩:b=b2∧f=o2:=by simpa using g1
 rw [e] at g2
 exact h.ints _ _ g2
theorem aT.Lk {w:World} {c:Nat} {m:ag} {F:Nat→Prop} (h:aT w c m F) {o:Nat} (p:Plain w o) (hb:0<m.busy.length):m.home≠o:=by
 obtain ⟨s,h1,h2,h3,h4,_⟩:=h.ex
 obtain ⟨a,cc,e,hi,_,hn,_,hh⟩:=h4.ex
 obtain ⟨b,f,ha,_⟩:=hi.at hb
 rw [← hh b f ha hb]
 exact p.off hi ha hb
theorem bO.plain {w w':World} {k c o:Nat} {m:aG} {G:Nat→Prop} (h:bO X w k c m G) (t:Touch (aN o) w w') (d : ¬ G o) (p:Plain w o):bO X w' k c m G:=by
 obtain ⟨s,f,e,h⟩:=h
 have hlt:k<w.heap.size:=h.lt k h.own
 refine ⟨s,f,e,⟨?_,h.aD,h.left,h.lost,h.ar.fA t (fun b hb hf=>d (by rw [← show b=o from hf];exact h.sub b hb)) (fun hl e=>h.ar.Lk p hl e),?_,h.fA,h.sub,h.own,h.home,fun b hb=>zV (h.lt b hb) t.size⟩⟩
 ·
  exact (t.block k hlt (fun hf=>d (by rw [← show k=o from hf];exact h.own))).trans h.raw
 ·
  refine ⟨fun i hi=>zV (h.leave.1 i hi) t.size,?_⟩
  rcases h.leave.2 with hl | ⟨h0,h1,h2,b,e,hp⟩
  ·
   exact .inl hl
  ·
   refine .inr ⟨h0,h1,h2,b,e,?_⟩
   obtain ⟨a,cc,hc,hn⟩:=hp.ph 0 (by simp)
   have hc:qn w b 0 bX a cc:=hc
   have nb : ¬ aN o b:=fun hf=>by
    have:=hc.c0
    rw [show b=o from hf] at this
    exact p.ints _ _ this
   have ni : ∀ b' o',a=some ⟨b',o',Option.none⟩→0<bX.bytes.length → ¬ aN o b':=fun b' o' ea hl hf=>p.off hc.ints ea hl hf
   refine ⟨hp.fA,fun i hi => ?_⟩
   have hi:i<1:=hi
   obtain rfl:i=0:=by omega
   exact ⟨a,cc,⟨t.cell _ _ hc.c0 nb,t.cell _ _ hc.c1 nb,t.cell _ _ hc.c2 nb,t.cell _ _ hc.c3 nb,dr hc.ints t (fun b o e hl=>ni b o e hl)⟩,hn⟩
theorem Sys.plain {w w':World} {s k c b o:Nat} {m:aG} {q:Cache} {S:aA} {H:Nat→Prop} (h:Sys X w s k c b m q S H) (t:Touch (aN o) w w') (hn : ¬ bS s H o) (p:Plain w o):Sys X w' s k c b m q S H:=by
 obtain ⟨G,hc,⟨ab,ac,tb,tc,hw⟩,hH,hb⟩:=h.both.ex
 obtain ⟨a,cp,h1,h2⟩:=h.st
 have nG : ¬ G o:=fun hg=>hn (.inl ((hH o).2 (.inl hg)))
 have nb : ¬ aN o b:=fun e=>hn (.inl ((hH o).2 (.inr (show b=o from e).symm)))
 have na : ¬ aN o ab:=fun e=>by
  have:=hw.a0
  rw [show ab=o from e] at this
  exact p.ints _ _ this
 have nt : ¬ aN o tb:=fun e=>by
  have:=hw.t1
  rw [show tb=o from e] at this
  exact p.text _ this
 refine ⟨⟨⟨G,hc.plain t nG p,⟨ab,ac,tb,tc,t.at hw.raw nb,hw.cap,t.cell _ _ hw.a0 na,t.cell _ _ hw.a1 na,t.cell _ _ hw.t0 nt,t.cell _ _ hw.t1 nt,hw.out,hw.na,hw.nt⟩,hH,hb⟩⟩,⟨a,cp,t.at h1 (fun e=>hn (.inr (show s=o from e).symm)),⟨⟨h2.at_.len,?_⟩,h2.fA⟩⟩,h.fA,h.home⟩
 rcases h2.at_.ex with e | ⟨b',o',c',e1,e2,e3⟩
 ·
  exact .inl e
 ·
  refine .inr ⟨b',o',c',e1,e2,fun i u hu=>t.cell _ _ (e3 i u hu) (fun e => ?_)⟩
  have hl:0<S.view.aC.length:=by
   have h5:=(List.getElem?_eq_some_iff.1 hu).1
   rw [lR] at h5
   omega
  have:=e3 0 _ (nE S.view.aC 0 hl).1
  rw [show b'=o from e] at this
  exact p.ints _ _ this
theorem bg.plain {w w':World} {p o:Nat} {W:fT} {G:Nat→Prop} (h:bg X w p W G) (t:Touch (aN o) w w') (hn : ¬ G o) (pl:Plain w o):bg X w' p W G:=by
 obtain ⟨s,k,c,b,H,z,h1,h2,h3,h4,h5⟩:=h.ex
 exact ⟨s,k,c,b,H,z,t.at h1 (fun e=>hn ((h5 o).2 (.inr (show p=o from e).symm))),h2.plain t (fun hm=>hn ((h5 o).2 (.inl hm))) pl,h3,h4,h5⟩
end
theorem AA {m:aG} {q:Cache} (ok:m.Ok) (g:q.Good) (sec:Int) (s0:4≤sec) (s1:sec<8) (reads:List Int):(jd m q sec reads).1.Ok∧(jd m q sec reads).2.1.Good∧bH m (jd m q sec reads).1:=by
 unfold jd
 split
 ·
  rename_i hr
  exact sM ok _ (by omega) (by omega) reads (fun x hx=>by have:=oZ hr x hx;omega)
 ·
  exact ⟨ok,g,bH.refl m⟩
theorem JS (m:aG):4≤fK (nT (fC m).2.1)∧fK (nT (fC m).2.1)<8:=by
 cases h:(fC m).2.1 with
 | none=>decide
 | some s =>
  obtain ⟨h1,h2,_⟩:=look_ok (m:=m) (sec:=s.1) (V:=s.2) h
  exact rM h1 h2
theorem GL {m:aG} (ok:m.Ok) {sec slot:Int} (s0:4≤sec) (s1:sec<8) (l0:0≤slot) (l1:slot<8) {r:aX} (hr:bD r=true):(m.dY (cd sec slot) (aK r)).1.Ok∧bH m (m.dY (cd sec slot) (aK r)).1 :=
 ⟨wj ok _ _ (by unfold cd;omega) (by unfold cd;omega) (fN r hr),mZ _ _ _⟩
theorem Ly (m:aG):0≤qz (fC m).2.1:=by
 cases h:(fC m).2.1 with
 | none=>decide
 | some s =>
  obtain ⟨_,_,h3⟩:=look_ok (m:=m) (sec:=s.1) (V:=s.2) h
  have:=h3.an
  show 0≤s.2.an
  omega
theorem ui {m:aG} {q:Cache} (ok:m.Ok) (g:q.Good) (reads:List Int):(cW m q reads).1.Ok∧(cW m q reads).2.1.Good∧bH m (cW m q reads).1:=by
 obtain ⟨o1,h1⟩:=xm ok
 obtain ⟨s0,s1⟩:=JS m
 have e0:=Ly m
 unfold cW
 generalize fC m=l at *
 unfold rz
 split
 ·
  exact ⟨o1,g,h1⟩
 ·
  unfold vC
  split
  ·
   exact ⟨o1,g,h1⟩
  ·
   rename_i hep
   obtain ⟨o2,g2,h2⟩:=AA o1 g _ s0 s1 reads
   generalize jd l.1 q (fK (nT l.2.1)) reads=t at *
   unfold rD
   split
   ·
    exact ⟨o2,g2,h1.trans h2⟩
   ·
    obtain ⟨o3,h3⟩:=GL o2 s0 s1 (show (0:Int)≤0 by decide) (show (0:Int)<8 by decide) (ik (e:=qz l.2.1+1) (by omega) (by omega))
    generalize t.1.dY (cd (fK (nT l.2.1)) 0) (aK (cP (qz l.2.1+1)))=b at *
    unfold pI
    split <;> exact ⟨o3,g2,h1.trans (h2.trans h3)⟩
theorem qE {m:aG} (ok:m.Ok):(gv m).1.Ok∧bH m (gv m).1:=by
 obtain ⟨o1,h1⟩:=xm ok
 unfold gv
 generalize fC m=l at *
 unfold A5
 split
 ·
  exact ⟨o1,h1⟩
 ·
  split <;> exact ⟨o1,h1⟩
theorem DO {m:aG} {q:Cache} (ok:m.Ok) (g:q.Good) {p:fJ} (pk:p.Ok) {reads:List Int} (hr:cH reads=true):(dX m q p reads).1.Ok∧(dX m q p reads).2.1.Good∧bH m (dX m q p reads).1:=by
 have ht:(firstT m q p reads).1.Ok∧(firstT m q p reads).2.1.Good∧bH m (firstT m q p reads).1:=by
  unfold firstT
  split
  ·
   rename_i hw
   have:=pk.dG
   exact AA ok g _ (by omega) (by omega) reads
  ·
   exact ⟨ok,g,bH.refl m⟩
 unfold dX
 generalize firstT m q p reads=t at *
 obtain ⟨o1,g1,h1⟩:=ht
 unfold pV
 split
 ·
  exact ⟨o1,g1,h1⟩
 ·
  obtain ⟨o2,h2⟩:=za p.av pk.av.1 pk.av.2 (p.bJ.zip p.aC) t.1 o1 (qU pk)
  generalize eL p.av (p.bJ.zip p.aC) t.1=b at *
  unfold fZ
  split
  ·
   exact ⟨o2,g1,h1.trans h2⟩
  ·
   split
   ·
    exact ⟨o2,g1,h1.trans h2⟩
   ·
    obtain ⟨o3,g3,h3⟩:=sm reads [] b.1 t.2.1 o2 g1 (fun x hx=>(oZ hr x hx).1)
    exact ⟨o3,g3,h1.trans (h2.trans h3)⟩
theorem tU {m:aG} {q:Cache} (ok:m.Ok) (g:q.Good) {S:aA} (vk:S.view.Ok) (s0:4≤S.av) (s1:S.av<8) {r:aX} (hr:gW r) (reads:List Int):(dV m q S r reads).1.Ok∧(dV m q S r reads).2.1.Good∧bH m (dV m q S r reads).1:=by
 have hc:=fun he=>pG vk s0 s1 hr he
 unfold dV
 generalize cA S.view S.av r=c at *
 unfold vy
 split
 ·
  exact ⟨ok,g,bH.refl m⟩
 ·
  split
  ·
   exact ⟨ok,g,bH.refl m⟩
  ·
   rename_i h0
   split
   ·
    rename_i hrd
    have:=DO ok g (hc (by simpa using h0)) hrd
    generalize dX m q c.2 reads=t at *
    unfold rj
    split <;> exact this
   ·
    exact ⟨ok,g,bH.refl m⟩
theorem C9 {m:aG} {q:Cache} (ok:m.Ok) (g:q.Good) {S:aA} (fit:S.Fit) (key value:ByteArray) (reads:List Int):(jg m q S key value reads).1.Ok∧(jg m q S key value reads).2.1.Good∧bH m (jg m q S key value reads).1:=by
 unfold jg
 split
 ·
  exact ⟨ok,g,bH.refl m⟩
 ·
  rename_i h0
  split
  ·
   exact ⟨ok,g,bH.refl m⟩
  ·
   have hz:=ic (by simpa using h0)
   have hf:=j6 fit hz.1
   exact tU ok g hf.2.2 hf.1 hf.2.1 (qM hz.2.1 hz.2.2 (by omega)) reads
theorem B9 {m:aG} {q:Cache} (ok:m.Ok) (g:q.Good) {S:aA} (fit:S.Fit) (key:ByteArray) (reads:List Int):(je m q S key reads).1.Ok∧(je m q S key reads).2.1.Good∧bH m (je m q S key reads).1:=by
 unfold je
 split
 ·
  exact ⟨ok,g,bH.refl m⟩
 ·
  rename_i h0
  have hz:=ic (by simpa using h0)
  have hf:=j6 fit hz.1
  exact tU ok g hf.2.2 hf.1 hf.2.1 (wS hz.2.1 hz.2.2) reads
section
open Go.RowKit
variable {X:Nat→Prop}
structure ey where
 value:ByteArray
 bP:List aJ
 reads:List Int
 lost:Bool
def aR:ey:=⟨⟨#[]⟩,[],[],false⟩
def outs (er:Int) (out:List Int):List Int:=if er=0 then out else []
theorem dK.read {s k c b:Nat} {m:aG} {q:Cache} {S:aA} {out:List Int} {er:Int} {H:Nat→Prop} {w w':World} {e:Ending} (h:dK X s k c b m q S out er H w e w') : ∃ a cp H',e=.returned (.tuple #[.slice a (outs er out).length cp,.int .i64 er])∧Sys X w' s k c b m q S H'∧Step (bS s H) (bS s H') w w'∧w'.ownsRow w.heap.size 3 1 (.slice a (outs er out).length cp) (outs er out).length (aB (outs er out)) ∧ ∀ g,(Value.slice a (outs er out).length cp).ownBlock=some g → ¬ bS s H' g:=by
 obtain ⟨v,he,h0,H',hs,st,ho⟩:=h
 unfold outs
 by_cases hk:er=0
 ·
  obtain ⟨h1,h2⟩:=ho hk
  obtain ⟨a,cp,rfl⟩:=bG h1
  rw [if_pos hk]
  exact ⟨a,cp,H',he,hs,st,h1,h2⟩
 ·
  rw [if_neg hk]
  rw [h0 hk] at he
  exact ⟨Option.none,0,H',he,hs,st,zN,fun g hg=>by simp [Value.ownBlock] at hg⟩
abbrev AF (s b p pa:Nat) (x:cG) (ra:Option Addr) (rc:Nat) (w':World):Prop:=w'.cell? ⟨p,2,none⟩=some (.pointer (some ⟨b,0,none⟩))∧w'.cell? ⟨p,3,none⟩=some (.pointer (some ⟨s,0,none⟩))∧w'.cell? ⟨pa,1,none⟩=some (.string x.key)∧w'.cell? ⟨pa,2,none⟩=some (.string x.value)∧w'.cell? ⟨pa,3,none⟩=some (.int .i64 x.at_)∧w'.cell? ⟨pa,4,none⟩=some (.int .i64 x.width)∧w'.cell? ⟨pa,8,none⟩=some (.slice ra x.reads.length rc)
theorem AF.of {w w':World} {s b p pa k c:Nat} {z:Int} {x:cG} {ba:Option Addr} {bc:Nat} {ra:Option Addr} {rc:Nat} (h1:jD w p c (some ⟨k,0,none⟩) (some ⟨b,0,none⟩) (some ⟨s,0,none⟩) z) (h2:fS w pa x ba bc ra rc) {F:Nat→Prop} (t:Touch F w w') (n1 : ¬ F p) (n2 : ¬ F pa):AF s b p pa x ra rc w':=by
 have k1:=t.at h1 n1
 have k2:fS w' pa x ba bc ra rc:=t.at h2 n2
 exact ⟨cell_of k1 2,cell_of k1 3,cell_of k2 1,cell_of k2 2,cell_of k2 3,cell_of k2 4,cell_of k2 8⟩
def ew (X:Nat→Prop) (p:Nat) (W:fT) (A:ey) (er:Int) (G:Nat→Prop) (w:World) (e:Ending) (w':World):Prop :=
 ∃ pa pc ra rc,e=.returned (.tuple #[.agg #[.string A.value,.slice pa A.bP.length pc,.slice ra A.reads.length rc,.bool A.lost],.int .i64 er])∧w'.ownsRow w.heap.size 83 2 (.slice pa A.bP.length pc) A.bP.length (aE A.bP)∧w'.ownsRow w.heap.size 3 1 (.slice ra A.reads.length rc) A.reads.length (aB A.reads) ∧ ∃ G',bg X w' p W G'∧Step G G' w w'∧(∀ g,(Value.slice pa A.bP.length pc).ownBlock=some g → ¬ G' g) ∧ ∀ g,(Value.slice ra A.reads.length rc).ownBlock=some g → ¬ G' g
def ZA:Obj:=.cells #[.string ⟨#[]⟩,.slice none 0 0,.slice none 0 0,.bool false] 34
theorem jN {w:World} {o:Nat} {t:ByteArray} {a b:Option Addr} {n m c d:Nat} {l:Bool} {ty:TypeId} (h:w.heap[o]? = some (.cells #[.string t,.slice a n c,.slice b m d,.bool l] ty (0,0))):Plain w o:=by
 refine ⟨fun i x e => ?_,fun u e=>by rw [cell_of h 1] at e;cases e⟩
 rw [cell_of h i] at e
 match i with
 | 0=>cases e
 | 1=>cases e
 | 2=>cases e
 | 3=>cases e
 | i+4=>simp at e
structure Fw (X:Nat→Prop) (w w2:World) (p pa R O s k c b:Nat) (z:Int) (W:fT) (G H:Nat→Prop) (x:cG) (ba:Option Addr) (bc:Nat) (ra:Option Addr) (rc:Nat):Prop where
 sys:Sys X w2 s k c b W.m W.q W.S H
 row:jD w2 p c (some ⟨k,0,none⟩) (some ⟨b,0,none⟩) (some ⟨s,0,none⟩) z
 act:fS w2 pa x ba bc ra rc
 rO:w2.heap[O]? = some ZA
 rR:w2.heap[R]? = some ZA
 nO : ¬ bS s H O
 nR : ¬ bS s H R
 np : ¬ bS s H p
 Mj : ¬ bS s H pa
 ne:p≠O∧pa≠O∧p≠R∧pa≠R∧O≠R
 own : ∀ i,G i ↔ iT p s H i
 Ng:0<W.m.ar.busy.length→W.m.ar.home≠p ∧ ¬ X W.m.ar.home
 below:Below w.heap.size w w2
 ge:w.heap.size≤O∧w.heap.size≤R∧O<w2.heap.size∧R<w2.heap.size∧p<w.heap.size
 home:0<W.m.ar.busy.length→W.m.ar.home<w2.heap.size
 ints:aL w2 ra x.reads H
theorem oq {w:World} {p pa:Nat} {W:fT} {G:Nat→Prop} {x:cG} {ba:Option Addr} {bc:Nat} {ra:Option Addr} {rc:Nat} (h:bg X w p W G) (hx:fS w pa x ba bc ra rc) (hpa : ¬ G pa) (hh:0<W.m.ar.busy.length→W.m.ar.home<w.heap.size) (hi:aL w ra x.reads G) : ∃ s k c b H z,Fw X w ((w.alloc ZA).alloc ZA) p pa w.heap.size (w.heap.size+1) s k c b z W G H x ba bc ra rc:=by
 obtain ⟨s,k,c,b,H,z,h1,h2,h3,h4,h5⟩:=h.ex
 have hb0:=ae (ae (Below.refl w.heap.size w) ZA) ZA
 have hpl:=aO hx
 have hpp:=aO h1
 have hlt : ∀ i,bS s H i→i<w.heap.size:=h2.lt
 have hsz:((w.alloc ZA).alloc ZA).heap.size=w.heap.size+2:=by simp
 have hO:((w.alloc ZA).alloc ZA).heap[w.heap.size+1]? = some ZA:=by simpa using af (w.alloc ZA) ZA
 refine ⟨s,k,c,b,H,z,h2.aj hb0,aa hb0 h1,aa hb0 hx,hO,aa (ae zR ZA) (af w ZA),fun hM => ?_,fun hM => ?_,h3,fun hM=>hpa ((h5 pa).2 (.inl hM)),⟨by omega,by omega,by omega,by omega,by omega⟩,h5,h4,hb0,⟨by omega,by omega,by omega,by omega,hpp⟩,fun hl => ?_,(hi.mono fun i hH=>(h5 i).2 (.inl (.inl hH))).step (Step.ah hb0)⟩
 ·
  have:=hlt _ hM;omega
 ·
  have:=hlt _ hM;omega
 ·
  have:=hh hl;omega
theorem jl {w w2 w1 wa w3:World} {p pa R O s k c b:Nat} {z:Int} {W:fT} {G H H1:Nat→Prop} {x:cG} {ba:Option Addr} {bc:Nat} {ra:Option Addr} {rc:Nat} (I:Fw X w w2 p pa R O s k c b z W G H x ba bc ra rc) {m1:aG} {q1:Cache} {S1:aA} (hs:Sys X w1 s k c b m1 q1 S1 H1) (st:Step (bS s H) (bS s H1) w2 w1) (hm:bH W.m m1) (A:ey) (er:Int) (pv:Option Addr) (pc:Nat) (rv:Option Addr) (cc:Nat) (h1:w1.ownsRow w2.heap.size 83 2 (.slice pv A.bP.length pc) A.bP.length (aE A.bP)) (h2:w1.ownsRow w2.heap.size 3 1 (.slice rv A.reads.length cc) A.reads.length (aB A.reads)) (n1 : ∀ g,(Value.slice pv A.bP.length pc).ownBlock=some g → ¬ bS s H1 g) (n2 : ∀ g,(Value.slice rv A.reads.length cc).ownBlock=some g → ¬ bS s H1 g) (t3:Touch (aN O) w1 wa) (t4:Touch (aN R) wa w3):ew X p ⟨m1,q1,S1⟩ A er G w (.returned (.tuple #[.agg #[.string A.value,.slice pv A.bP.length pc,.slice rv A.reads.length cc,.bool A.lost],.int .i64 er])) w3:=by
 obtain ⟨g1,g2,g3,g4,g5⟩:=I.ge
 have z2:=I.below.size
 have nO1 : ¬ bS s H1 O:=st.safe g3 I.nO
 have nR1 : ¬ bS s H1 R:=st.safe g4 I.nR
 have rO1:w1.heap[O]? = some ZA:=st.aH.at I.rO I.nO
 have rR1:w1.heap[R]? = some ZA:=st.aH.at I.rR I.nR
 have rRa:wa.heap[R]? = some ZA:=t3.at rR1 (fun e=>I.ne.2.2.2.2 (show R=O from e).symm)
 have hs3:=(hs.plain t3 nO1 (jN rO1)).plain t4 nR1 (jN rRa)
 have rp1:jD w1 p c _ _ _ z:=st.aH.at I.row I.np
 have rpa:jD wa p c _ _ _ z:=t3.at rp1 (fun e=>I.ne.1 e)
 have rp3:jD w3 p c _ _ _ z:=t4.at rpa (fun e=>I.ne.2.2.1 e)
 have b2 : ∀ {t:TypeId} {sz n:Nat} {v:Value} {cs:List Value},w1.ownsRow w2.heap.size t sz v n cs→w3.ownsRow w.heap.size t sz v n cs ∧ ∀ g,v.ownBlock=some g→w2.heap.size≤g:=fun {t sz n v cs} ho=>by
  refine ⟨dE (dE (eV ho z2) t3 (fun g hg e => ?_)) t4 (fun g hg e => ?_),bZ ho⟩
  ·
   have:=bZ ho g hg;rw [show g=O from e] at this;omega
  ·
   have:=bZ ho g hg;rw [show g=R from e] at this;omega
 have hpw : ¬ bS s H1 p:=st.safe (zV g5 z2) I.np
 refine ⟨pv,pc,rv,cc,rfl,(b2 h1).1,(b2 h2).1,iT p s H1,⟨s,k,c,b,H1,z,rp3,hs3,hpw,fun hl => ?_,fun i=>Iff.rfl⟩,⟨?_,fun i hi => ?_⟩,fun g hg hw => ?_,fun g hg hw => ?_⟩
 ·
  rw [hm.1];exact I.Ng (zV hl hm.2)
 ·
  have e1:Touch G w w1:=(Touch.ah I.below).then st.aH (fun i hi=>.inl ((I.own i).2 (.inl hi)))
  have e2:Touch G w wa:=e1.then t3 (fun i hi=>.inr (by rw [show i=O from hi];exact g1))
  exact e2.then t4 (fun i hi=>.inr (by rw [show i=R from hi];exact g2))
 ·
  rcases hi with hi | hi
  ·
   exact (st.gP i hi).imp (fun h=>(I.own i).2 (.inl h)) (fun h=>Nat.le_trans z2 h)
  ·
   exact .inl ((I.own i).2 (.inr hi))
 ·
  rcases hw with hw | hw
  ·
   exact n1 g hg hw
  ·
   have:=(b2 h1).2 g hg;omega
 ·
  rcases hw with hw | hw
  ·
   exact n2 g hg hw
  ·
   have:=(b2 h2).2 g hg;omega
theorem Fw.reads {w w2 w':World} {p pa R O s k c b:Nat} {z:Int} {W:fT} {G H:Nat→Prop} {x:cG} {ba:Option Addr} {bc:Nat} {ra:Option Addr} {rc:Nat} (I:Fw X w w2 p pa R O s k c b z W G H x ba bc ra rc) (F:Nat→Prop) (t:Touch F w2 w') (n1 : ¬ F p) (n2 : ¬ F pa):AF s b p pa x ra rc w':=AF.of I.row I.act t n1 n2
theorem MW (p pa:Nat) (W:fT) (G:Nat→Prop) (x:cG) (ba:Option Addr) (bc:Nat) (ra:Option Addr) (rc:Nat) (w:World) (h:bg X w p W G) (hx:fS w pa x ba bc ra rc) (hpa : ¬ G pa) (ok:W.m.Ok) (kn:W.m.kQ) (g:W.q.Good) (fit:W.S.Fit) (hh:0<W.m.ar.busy.length→W.m.ar.home<w.heap.size) (hi:aL w ra x.reads G) (hcap:x.reads.length≤rc) (hm:x.reads.length≤1000000) (hv:x.value.size<140737488355328) (hat:0≤x.at_∧x.at_<4096) (hwi:0≤x.width∧x.width≤8) (hk:x.kind=0):Calls prog 32 #[.pointer (some ⟨p,0,none⟩),.pointer (some ⟨pa,0,none⟩)] w (ew X p ⟨(cW W.m W.q x.reads).1,(cW W.m W.q x.reads).2.1,(cW W.m W.q x.reads).2.2.1⟩ ⟨⟨#[]⟩,[],outs (cW W.m W.q x.reads).2.2.2.2 (cW W.m W.q x.reads).2.2.2.1,false⟩ (cW W.m W.q x.reads).2.2.2.2 G w):=by
 obtain ⟨s,k,c,b,H,z,I⟩:=oq h hx hpa hh hi
 have c0:w.cell? ⟨pa,0,none⟩=some (.int .i64 0):=by rw [← hk];exact cell_of hx 0
 have hpl:=aO hx
 have HI:=zH I
 have HC:=zH (fun w' (hb:Below ((w.alloc ZA).alloc ZA).heap.size ((w.alloc ZA).alloc ZA) w')=>AY s k c b rc W.m W.q W.S H ra x.reads w' (I.sys.aj hb) ok kn (fun hl=>zV (I.home hl) hb.size) (I.ints.step (Step.ah hb)) hcap hm)
 have HF:=zH (ui ok g x.reads).2.2
 generalize cW W.m W.q x.reads=t at *
 clear h I hx hpa hh hi hcap hm kn ok g fit hv hat hwi
 go_enter func32,ntmps32
 go_upto_region 5 with fail
 have eZ:(w.alloc (.cells #[.string ⟨#[]⟩,.slice none 0 0,.slice none 0 0,.bool false] 34)).alloc (.cells #[.string ⟨#[]⟩,.slice none 0 0,.slice none 0 0,.bool false] 34)=(w.alloc ZA).alloc ZA:=rfl
 rw [eZ]
 clear eZ c0 hpl
 generalize (w.alloc ZA).alloc ZA=w2 at *
 have HGE:=zH HI.out.ge
 generalize hR:w.heap.size=R at HI HGE ⊢
 generalize hO:R+1=O at HI HGE ⊢
 have HN:=zH (zA HI.out.np (zA HI.out.Mj (zA HI.out.ne.1 HI.out.ne.2.1)))
 have HO:=zH (zA HI.out.rO HI.out.nO)
 have HS:=zH (fun w' (F:Nat→Prop) (t:Touch F w2 w') n1 n2=>HI.out.reads F t n1 n2)
 clear hR hO
 refine wp_region_noPanic ?_
 refine wp_region_held_drew (S:=(AF s b p pa x ra rc)) (by kernel_rfl) (by (try dsimp only);exact HS.out _ (fun _=>False) (Touch.ah (au zR)) id id) fun hHeld => ?_
 refine tk 0 ?_
 refine tk 1 ?_
 refine tk 2 ?_
 refine tk 3 ?_
 refine tk 4 ?_
 refine tk 5 ?_
 refine tk 6 ?_
 refine tk 7 ?_
 refine tr 8 fun K hK => ?_
 go_simp
 go_at_call 57
 refine (HC.out _ (au zR)).mono ?_
 intro e w1 hout
 obtain ⟨va,vc,H1,rfl,hs1,st1,ho1,hf1⟩:=hout.read
 have ht1:=(Touch.ah (F:=bS s H) (au (Below.refl w2.heap.size w2))).trans st1.aH
 obtain ⟨z0,z1,z2,z3,zf⟩:=cC (ht1.at HO.out.1 HO.out.2)
 have hr1:=zH (zA hs1 (zA ((Step.ah (au (Below.refl w2.heap.size w2))).trans st1) (zA ho1 (zA hf1 ht1))))
 clear hs1 st1 ho1 hf1 ht1 hout
 go_wp2_with fail
 refine hK.out _ _ (by (try dsimp only);exact HS.out _ _ hr1.out.2.2.2.2 HN.out.1 HN.out.2.1) fun hHeld => ?_
 clear hK K
 try simp only [Act.put,zS,zT,zU]
 refine tk 9 ?_
 refine tk 10 ?_
 refine tk 11 ?_
 refine tk 12 ?_
 refine tr 13 fun K hK => ?_
 go_simp
 refine hK.out _ _ (by (try dsimp only);exact HS.out _ (fun i=>bS s H i∨i=O) ((hr1.out.2.2.2.2.mono fun i h=>.inl h).set _ _ _ (.inr rfl)) (fun h=>h.elim HN.out.1 HN.out.2.2.1) (fun h=>h.elim HN.out.2.1 HN.out.2.2.2)) fun hHeld => ?_
 clear hK K
 try simp only [Act.put,zS,zT,zU]
 refine tk 14 ?_
 refine wpAnyH_done (by kernel_rfl) ?_ _
 refine NoPanic.normal ?_
 have ho:=zH (zA (hr1.out.2.2.2.2.at HO.out.1 HO.out.2) (hr1.out.2.2.2.2.at HI.out.rR HI.out.nR))
 have rOa:(w1.setCell ⟨O,2,none⟩ (.slice va (outs t.2.2.2.2 t.2.2.2.1).length vc)).heap[O]? = _:=az ho.out.1
 have ta:Touch (aN O) w1 (w1.setCell ⟨O,2,none⟩ (.slice va (outs t.2.2.2.2 t.2.2.2.1).length vc)):=(Touch.refl (aN O) w1).set O 2 _ rfl
 have HA:=zH (zA rOa (zA (ta.at ho.out.2 (fun e=>HI.out.ne.2.2.2.2 (show R=O from e).symm)) ta))
 clear rOa ta z0 z1 z2 z3 zf HC HS ho
 generalize w1.setCell ⟨O,2,none⟩ (.slice va (outs t.2.2.2.2 t.2.2.2.1).length vc)=wa at *
 obtain ⟨z0,z1,z2,z3,zf⟩:=cC (show wa.heap[O]? = some (.cells #[.string ⟨#[]⟩,.slice none 0 0,.slice va (outs t.2.2.2.2 t.2.2.2.1).length vc,.bool false] 34 (0,0)) from HA.out.1)
 obtain ⟨y0,y1,y2,y3,yf⟩:=cC HA.out.2.1
 go_wp2_with fail
 obtain ⟨q0,q1,q2,q3,qf⟩:=cC (eY HA.out.2.1 (.string ⟨#[]⟩) (.slice none 0 0) (.slice va (outs t.2.2.2.2 t.2.2.2.1).length vc) (.bool false))
 refine bodyPost_ret (v:=.tuple #[.agg #[.string ⟨#[]⟩,.slice none 0 0,.slice va (outs t.2.2.2.2 t.2.2.2.1).length vc,.bool false],.int .i64 t.2.2.2.2]) ?_ rfl ?_
 ·
  change (results _ _).run _ (mi _ _ _ _ _ _)=_
  simp [results,results32,go_sem,q0,q1,q2,q3]
  rfl
 ·
  exact jl HI.out hr1.out.1 hr1.out.2.1 HF.out ⟨⟨#[]⟩,[],outs t.2.2.2.2 t.2.2.2.1,false⟩ t.2.2.2.2 none 0 va vc zN (hr1.out.2.2.1) (fun g hg=>by simp [Value.ownBlock] at hg) (hr1.out.2.2.2.1) HA.out.2.2 (cU wa R _ _ _ _)
theorem MY (p pa:Nat) (W:fT) (G:Nat→Prop) (x:cG) (ba:Option Addr) (bc:Nat) (ra:Option Addr) (rc:Nat) (w:World) (h:bg X w p W G) (hx:fS w pa x ba bc ra rc) (hpa : ¬ G pa) (ok:W.m.Ok) (kn:W.m.kQ) (g:W.q.Good) (fit:W.S.Fit) (hh:0<W.m.ar.busy.length→W.m.ar.home<w.heap.size) (hi:aL w ra x.reads G) (hcap:x.reads.length≤rc) (hm:x.reads.length≤1000000) (hv:x.value.size<140737488355328) (hat:0≤x.at_∧x.at_<4096) (hwi:0≤x.width∧x.width≤8) (hk:x.kind=2):Calls prog 32 #[.pointer (some ⟨p,0,none⟩),.pointer (some ⟨pa,0,none⟩)] w (ew X p ⟨(jg W.m W.q W.S x.key x.value x.reads).1,(jg W.m W.q W.S x.key x.value x.reads).2.1,(jg W.m W.q W.S x.key x.value x.reads).2.2.1⟩ ⟨⟨#[]⟩,[],outs (jg W.m W.q W.S x.key x.value x.reads).2.2.2.2 (jg W.m W.q W.S x.key x.value x.reads).2.2.2.1,false⟩ (jg W.m W.q W.S x.key x.value x.reads).2.2.2.2 G w):=by
 obtain ⟨s,k,c,b,H,z,I⟩:=oq h hx hpa hh hi
 have c0:w.cell? ⟨pa,0,none⟩=some (.int .i64 2):=by rw [← hk];exact cell_of hx 0
 have hpl:=aO hx
 have HI:=zH I
 have HC:=zH (fun w' (hb:Below ((w.alloc ZA).alloc ZA).heap.size ((w.alloc ZA).alloc ZA) w')=>yd s k c b rc W.m W.q W.S H x.key x.value ra x.reads w' (I.sys.aj hb) ok g (fun hl=>zV (I.home hl) hb.size) (I.ints.step (Step.ah hb)) hcap hm hv fit)
 have HF:=zH (C9 ok g fit x.key x.value x.reads).2.2
 generalize jg W.m W.q W.S x.key x.value x.reads=t at *
 clear h I hx hpa hh hi hcap hm kn ok g fit hv hat hwi
 go_enter func32,ntmps32
 go_upto_region 9 with fail
 have eZ:(w.alloc (.cells #[.string ⟨#[]⟩,.slice none 0 0,.slice none 0 0,.bool false] 34)).alloc (.cells #[.string ⟨#[]⟩,.slice none 0 0,.slice none 0 0,.bool false] 34)=(w.alloc ZA).alloc ZA:=rfl
 rw [eZ]
 clear eZ c0 hpl
 generalize (w.alloc ZA).alloc ZA=w2 at *
 have HGE:=zH HI.out.ge
 generalize hR:w.heap.size=R at HI HGE ⊢
 generalize hO:R+1=O at HI HGE ⊢
 have HN:=zH (zA HI.out.np (zA HI.out.Mj (zA HI.out.ne.1 HI.out.ne.2.1)))
 have HO:=zH (zA HI.out.rO HI.out.nO)
 have HS:=zH (fun w' (F:Nat→Prop) (t:Touch F w2 w') n1 n2=>HI.out.reads F t n1 n2)
 clear hR hO
 refine wp_region_noPanic ?_
 refine wp_region_held_drew (S:=(AF s b p pa x ra rc)) (by kernel_rfl) (by (try dsimp only);exact HS.out _ (fun _=>False) (Touch.ah (au zR)) id id) fun hHeld => ?_
 refine tk 0 ?_
 refine tk 1 ?_
 refine tk 2 ?_
 refine tk 3 ?_
 refine tk 4 ?_
 refine tk 5 ?_
 refine tk 6 ?_
 refine tk 7 ?_
 refine tk 8 ?_
 refine tk 9 ?_
 refine tk 10 ?_
 refine tk 11 ?_
 refine tk 12 ?_
 refine tk 13 ?_
 refine tk 14 ?_
 refine tk 15 ?_
 refine tr 16 fun K hK => ?_
 go_simp
 go_at_call 59
 refine (HC.out _ (au zR)).mono ?_
 intro e w1 hout
 obtain ⟨va,vc,H1,rfl,hs1,st1,ho1,hf1⟩:=hout.read
 have ht1:=(Touch.ah (F:=bS s H) (au (Below.refl w2.heap.size w2))).trans st1.aH
 obtain ⟨z0,z1,z2,z3,zf⟩:=cC (ht1.at HO.out.1 HO.out.2)
 have hr1:=zH (zA hs1 (zA ((Step.ah (au (Below.refl w2.heap.size w2))).trans st1) (zA ho1 (zA hf1 ht1))))
 clear hs1 st1 ho1 hf1 ht1 hout
 go_wp2_with fail
 refine hK.out _ _ (by (try dsimp only);exact HS.out _ _ hr1.out.2.2.2.2 HN.out.1 HN.out.2.1) fun hHeld => ?_
 clear hK K
 try simp only [Act.put,zS,zT,zU]
 refine tk 17 ?_
 refine tk 18 ?_
 refine tk 19 ?_
 refine tk 20 ?_
 refine tr 21 fun K hK => ?_
 go_simp
 refine hK.out _ _ (by (try dsimp only);exact HS.out _ (fun i=>bS s H i∨i=O) ((hr1.out.2.2.2.2.mono fun i h=>.inl h).set _ _ _ (.inr rfl)) (fun h=>h.elim HN.out.1 HN.out.2.2.1) (fun h=>h.elim HN.out.2.1 HN.out.2.2.2)) fun hHeld => ?_
 clear hK K
 try simp only [Act.put,zS,zT,zU]
 refine tk 22 ?_
 refine wpAnyH_done (by kernel_rfl) ?_ _
 refine NoPanic.normal ?_
 have ho:=zH (zA (hr1.out.2.2.2.2.at HO.out.1 HO.out.2) (hr1.out.2.2.2.2.at HI.out.rR HI.out.nR))
 have rOa:(w1.setCell ⟨O,2,none⟩ (.slice va (outs t.2.2.2.2 t.2.2.2.1).length vc)).heap[O]? = _:=az ho.out.1
 have ta:Touch (aN O) w1 (w1.setCell ⟨O,2,none⟩ (.slice va (outs t.2.2.2.2 t.2.2.2.1).length vc)):=(Touch.refl (aN O) w1).set O 2 _ rfl
 have HA:=zH (zA rOa (zA (ta.at ho.out.2 (fun e=>HI.out.ne.2.2.2.2 (show R=O from e).symm)) ta))
 clear rOa ta z0 z1 z2 z3 zf HC HS ho
 generalize w1.setCell ⟨O,2,none⟩ (.slice va (outs t.2.2.2.2 t.2.2.2.1).length vc)=wa at *
 obtain ⟨z0,z1,z2,z3,zf⟩:=cC (show wa.heap[O]? = some (.cells #[.string ⟨#[]⟩,.slice none 0 0,.slice va (outs t.2.2.2.2 t.2.2.2.1).length vc,.bool false] 34 (0,0)) from HA.out.1)
 obtain ⟨y0,y1,y2,y3,yf⟩:=cC HA.out.2.1
 go_wp2_with fail
 obtain ⟨q0,q1,q2,q3,qf⟩:=cC (eY HA.out.2.1 (.string ⟨#[]⟩) (.slice none 0 0) (.slice va (outs t.2.2.2.2 t.2.2.2.1).length vc) (.bool false))
 refine bodyPost_ret (v:=.tuple #[.agg #[.string ⟨#[]⟩,.slice none 0 0,.slice va (outs t.2.2.2.2 t.2.2.2.1).length vc,.bool false],.int .i64 t.2.2.2.2]) ?_ rfl ?_
 ·
  change (results _ _).run _ (mi _ _ _ _ _ _)=_
  simp [results,results32,go_sem,q0,q1,q2,q3]
  rfl
 ·
  exact jl HI.out hr1.out.1 hr1.out.2.1 HF.out ⟨⟨#[]⟩,[],outs t.2.2.2.2 t.2.2.2.1,false⟩ t.2.2.2.2 none 0 va vc zN (hr1.out.2.2.1) (fun g hg=>by simp [Value.ownBlock] at hg) (hr1.out.2.2.2.1) HA.out.2.2 (cU wa R _ _ _ _)
theorem M0 (p pa:Nat) (W:fT) (G:Nat→Prop) (x:cG) (ba:Option Addr) (bc:Nat) (ra:Option Addr) (rc:Nat) (w:World) (h:bg X w p W G) (hx:fS w pa x ba bc ra rc) (hpa : ¬ G pa) (ok:W.m.Ok) (kn:W.m.kQ) (g:W.q.Good) (fit:W.S.Fit) (hh:0<W.m.ar.busy.length→W.m.ar.home<w.heap.size) (hi:aL w ra x.reads G) (hcap:x.reads.length≤rc) (hm:x.reads.length≤1000000) (hv:x.value.size<140737488355328) (hat:0≤x.at_∧x.at_<4096) (hwi:0≤x.width∧x.width≤8) (hk:x.kind=4):Calls prog 32 #[.pointer (some ⟨p,0,none⟩),.pointer (some ⟨pa,0,none⟩)] w (ew X p ⟨(je W.m W.q W.S x.key x.reads).1,(je W.m W.q W.S x.key x.reads).2.1,(je W.m W.q W.S x.key x.reads).2.2.1⟩ ⟨⟨#[]⟩,[],outs (je W.m W.q W.S x.key x.reads).2.2.2.2 (je W.m W.q W.S x.key x.reads).2.2.2.1,false⟩ (je W.m W.q W.S x.key x.reads).2.2.2.2 G w):=by
 obtain ⟨s,k,c,b,H,z,I⟩:=oq h hx hpa hh hi
 have c0:w.cell? ⟨pa,0,none⟩=some (.int .i64 4):=by rw [← hk];exact cell_of hx 0
 have hpl:=aO hx
 have HI:=zH I
 have HC:=zH (fun w' (hb:Below ((w.alloc ZA).alloc ZA).heap.size ((w.alloc ZA).alloc ZA) w')=>xY s k c b rc W.m W.q W.S H x.key ra x.reads w' (I.sys.aj hb) ok g (fun hl=>zV (I.home hl) hb.size) (I.ints.step (Step.ah hb)) hcap hm fit)
 have HF:=zH (B9 ok g fit x.key x.reads).2.2
 generalize je W.m W.q W.S x.key x.reads=t at *
 clear h I hx hpa hh hi hcap hm kn ok g fit hv hat hwi
 go_enter func32,ntmps32
 go_upto_region 13 with fail
 have eZ:(w.alloc (.cells #[.string ⟨#[]⟩,.slice none 0 0,.slice none 0 0,.bool false] 34)).alloc (.cells #[.string ⟨#[]⟩,.slice none 0 0,.slice none 0 0,.bool false] 34)=(w.alloc ZA).alloc ZA:=rfl
 rw [eZ]
 clear eZ c0 hpl
 generalize (w.alloc ZA).alloc ZA=w2 at *
 have HGE:=zH HI.out.ge
 generalize hR:w.heap.size=R at HI HGE ⊢
 generalize hO:R+1=O at HI HGE ⊢
 have HN:=zH (zA HI.out.np (zA HI.out.Mj (zA HI.out.ne.1 HI.out.ne.2.1)))
 have HO:=zH (zA HI.out.rO HI.out.nO)
 have HS:=zH (fun w' (F:Nat→Prop) (t:Touch F w2 w') n1 n2=>HI.out.reads F t n1 n2)
 clear hR hO
 refine wp_region_noPanic ?_
 refine wp_region_held_drew (S:=(AF s b p pa x ra rc)) (by kernel_rfl) (by (try dsimp only);exact HS.out _ (fun _=>False) (Touch.ah (au zR)) id id) fun hHeld => ?_
 refine tk 0 ?_
 refine tk 1 ?_
 refine tk 2 ?_
 refine tk 3 ?_
 refine tk 4 ?_
 refine tk 5 ?_
 refine tk 6 ?_
 refine tk 7 ?_
 refine tk 8 ?_
 refine tk 9 ?_
 refine tk 10 ?_
 refine tk 11 ?_
 refine tr 12 fun K hK => ?_
 go_simp
 go_at_call 61
 refine (HC.out _ (au zR)).mono ?_
 intro e w1 hout
 obtain ⟨va,vc,H1,rfl,hs1,st1,ho1,hf1⟩:=hout.read
 have ht1:=(Touch.ah (F:=bS s H) (au (Below.refl w2.heap.size w2))).trans st1.aH
 obtain ⟨z0,z1,z2,z3,zf⟩:=cC (ht1.at HO.out.1 HO.out.2)
 have hr1:=zH (zA hs1 (zA ((Step.ah (au (Below.refl w2.heap.size w2))).trans st1) (zA ho1 (zA hf1 ht1))))
 clear hs1 st1 ho1 hf1 ht1 hout
 go_wp2_with fail
 refine hK.out _ _ (by (try dsimp only);exact HS.out _ _ hr1.out.2.2.2.2 HN.out.1 HN.out.2.1) fun hHeld => ?_
 clear hK K
 try simp only [Act.put,zS,zT,zU]
 refine tk 13 ?_
 refine tk 14 ?_
 refine tk 15 ?_
 refine tk 16 ?_
 refine tr 17 fun K hK => ?_
 go_simp
 refine hK.out _ _ (by (try dsimp only);exact HS.out _ (fun i=>bS s H i∨i=O) ((hr1.out.2.2.2.2.mono fun i h=>.inl h).set _ _ _ (.inr rfl)) (fun h=>h.elim HN.out.1 HN.out.2.2.1) (fun h=>h.elim HN.out.2.1 HN.out.2.2.2)) fun hHeld => ?_
 clear hK K
 try simp only [Act.put,zS,zT,zU]
 refine tk 18 ?_
 refine wpAnyH_done (by kernel_rfl) ?_ _
 refine NoPanic.normal ?_
 have ho:=zH (zA (hr1.out.2.2.2.2.at HO.out.1 HO.out.2) (hr1.out.2.2.2.2.at HI.out.rR HI.out.nR))
 have rOa:(w1.setCell ⟨O,2,none⟩ (.slice va (outs t.2.2.2.2 t.2.2.2.1).length vc)).heap[O]? = _:=az ho.out.1
 have ta:Touch (aN O) w1 (w1.setCell ⟨O,2,none⟩ (.slice va (outs t.2.2.2.2 t.2.2.2.1).length vc)):=(Touch.refl (aN O) w1).set O 2 _ rfl
 have HA:=zH (zA rOa (zA (ta.at ho.out.2 (fun e=>HI.out.ne.2.2.2.2 (show R=O from e).symm)) ta))
 clear rOa ta z0 z1 z2 z3 zf HC HS ho
 generalize w1.setCell ⟨O,2,none⟩ (.slice va (outs t.2.2.2.2 t.2.2.2.1).length vc)=wa at *
 obtain ⟨z0,z1,z2,z3,zf⟩:=cC (show wa.heap[O]? = some (.cells #[.string ⟨#[]⟩,.slice none 0 0,.slice va (outs t.2.2.2.2 t.2.2.2.1).length vc,.bool false] 34 (0,0)) from HA.out.1)
 obtain ⟨y0,y1,y2,y3,yf⟩:=cC HA.out.2.1
 go_wp2_with fail
 obtain ⟨q0,q1,q2,q3,qf⟩:=cC (eY HA.out.2.1 (.string ⟨#[]⟩) (.slice none 0 0) (.slice va (outs t.2.2.2.2 t.2.2.2.1).length vc) (.bool false))
 refine bodyPost_ret (v:=.tuple #[.agg #[.string ⟨#[]⟩,.slice none 0 0,.slice va (outs t.2.2.2.2 t.2.2.2.1).length vc,.bool false],.int .i64 t.2.2.2.2]) ?_ rfl ?_
 ·
  change (results _ _).run _ (mi _ _ _ _ _ _)=_
  simp [results,results32,go_sem,q0,q1,q2,q3]
  rfl
 ·
  exact jl HI.out hr1.out.1 hr1.out.2.1 HF.out ⟨⟨#[]⟩,[],outs t.2.2.2.2 t.2.2.2.1,false⟩ t.2.2.2.2 none 0 va vc zN (hr1.out.2.2.1) (fun g hg=>by simp [Value.ownBlock] at hg) (hr1.out.2.2.2.1) HA.out.2.2 (cU wa R _ _ _ _)
end
section
open Go.RowKit
variable {X:Nat→Prop}
theorem Ch {S:aA} (f:S.Fit):S.view.KM:=by
 rcases f with rfl | f
 ·
  exact ⟨Nat.zero_le _,fun r hr=>by cases hr⟩
 ·
  exact ⟨f.2.2.2.len,f.2.2.2.aC⟩
theorem Kx {X:Nat→Prop} (s k c b:Nat) (m:aG) (q:Cache) (S:aA) (H:Nat→Prop) (x z:Int) (w:World) (h:Sys X w s k c b m q S H) (ok:m.Ok) (g:q.Good) (x0:0≤x) (x1:x<4096) (z0:0≤z) (z1:z≤8):Calls prog 63 #[.pointer (some ⟨b,0,none⟩),.int .i64 x,.int .i64 z] w fun e w'=>e=.returned (.tuple #[.int .i64 (bI m q x z).2.2.1,.int .i64 (bI m q x z).2.2.2])∧q9 X s k c b (bI m q x z).1 (bI m q x z).2.1 S H w w' :=
 (xG k c b m q H x z w h.both ok g x0 x1 z0 z1).mono fun e w' ⟨he,H',hb,st⟩=>⟨he,H',h.step hb st (lB ok g x z x0).2.2,st⟩
theorem MX (p pa:Nat) (W:fT) (G:Nat→Prop) (x:cG) (ba:Option Addr) (bc:Nat) (ra:Option Addr) (rc:Nat) (w:World) (h:bg X w p W G) (hx:fS w pa x ba bc ra rc) (hpa : ¬ G pa) (ok:W.m.Ok) (kn:W.m.kQ) (g:W.q.Good) (fit:W.S.Fit) (hh:0<W.m.ar.busy.length→W.m.ar.home<w.heap.size) (hi:aL w ra x.reads G) (hcap:x.reads.length≤rc) (hm:x.reads.length≤1000000) (hv:x.value.size<140737488355328) (hat:0≤x.at_∧x.at_<4096) (hwi:0≤x.width∧x.width≤8) (hk:x.kind=1):Calls prog 32 #[.pointer (some ⟨p,0,none⟩),.pointer (some ⟨pa,0,none⟩)] w (ew X p ⟨(gv W.m).1,W.q,(gv W.m).2.1⟩ ⟨⟨#[]⟩,[],[],false⟩ (gv W.m).2.2 G w):=by
 obtain ⟨s,k,c,b,H,z,I⟩:=oq h hx hpa hh hi
 have c0:w.cell? ⟨pa,0,none⟩=some (.int .i64 1):=by rw [← hk];exact cell_of hx 0
 have hpl:=aO hx
 have HI:=zH I
 have HC:=zH (CT s k c b W.m W.q W.S H _ I.sys ok kn I.home)
 have HF:=zH (qE ok).2
 generalize gv W.m=t at *
 clear h I hx hpa hh hi hcap hm kn ok g fit hv hat hwi
 go_enter func32,ntmps32
 go_upto_region 7 with fail
 have eZ:(w.alloc (.cells #[.string ⟨#[]⟩,.slice none 0 0,.slice none 0 0,.bool false] 34)).alloc (.cells #[.string ⟨#[]⟩,.slice none 0 0,.slice none 0 0,.bool false] 34)=(w.alloc ZA).alloc ZA:=rfl
 rw [eZ]
 clear eZ c0 hpl
 generalize (w.alloc ZA).alloc ZA=w2 at *
 have HGE:=zH HI.out.ge
 generalize hR:w.heap.size=R at HI HGE ⊢
 generalize hO:R+1=O at HI HGE ⊢
 have HN:=zH (zA HI.out.np (zA HI.out.Mj (zA HI.out.ne.1 HI.out.ne.2.1)))
 have HO:=zH (zA HI.out.rO HI.out.nO)
 have HS:=zH (fun w' (F:Nat→Prop) (t:Touch F w2 w') n1 n2=>HI.out.reads F t n1 n2)
 clear hR hO
 obtain ⟨r0,r1,r2,r3,r4,rf⟩:=mq HI.out.row
 go_upto_region 21 with (go_at_call 58;refine HC.out.mono ?_;rintro e w1 ⟨rfl,H1,hs1,st1⟩)
 have hr1:=zH (zA hs1 st1)
 clear hs1 st1 r0 r1 r2 r3 r4 rf
 have HA:=zH (zA (hr1.out.2.aH.at HO.out.1 HO.out.2) (zA (hr1.out.2.aH.at HI.out.rR HI.out.nR) (Touch.refl (aN O) w1)))
 generalize hwa:w1=wa at HA ⊢
 obtain ⟨z0,z1,z2,z3,zf⟩:=cC (show wa.heap[O]? = some (.cells #[.string ⟨#[]⟩,.slice none 0 0,.slice none 0 0,.bool false] 34 (0,0)) from HA.out.1)
 obtain ⟨y0,y1,y2,y3,yf⟩:=cC HA.out.2.1
 go_wp2_with fail
 obtain ⟨q0,q1,q2,q3,qf⟩:=cC (eY HA.out.2.1 (.string ⟨#[]⟩) (.slice none 0 0) (.slice none 0 0) (.bool false))
 refine bodyPost_ret (v:=.tuple #[.agg #[.string ⟨#[]⟩,.slice none 0 0,.slice none 0 0,.bool false],.int .i64 t.2.2]) ?_ rfl ?_
 ·
  change (results _ _).run _ (mi _ _ _ _ _ _)=_
  simp [results,results32,go_sem,q0,q1,q2,q3]
  rfl
 ·
  exact jl HI.out hr1.out.1 hr1.out.2 HF.out ⟨⟨#[]⟩,[],[],false⟩ t.2.2 none 0 none 0 zN zN (fun g hg=>by simp [Value.ownBlock] at hg) (fun g hg=>by simp [Value.ownBlock] at hg) (show Touch (aN O) w1 wa by rw [hwa];exact Touch.refl _ _) (cU wa R _ _ _ _)
theorem MZ (p pa:Nat) (W:fT) (G:Nat→Prop) (x:cG) (ba:Option Addr) (bc:Nat) (ra:Option Addr) (rc:Nat) (w:World) (h:bg X w p W G) (hx:fS w pa x ba bc ra rc) (hpa : ¬ G pa) (ok:W.m.Ok) (kn:W.m.kQ) (g:W.q.Good) (fit:W.S.Fit) (hh:0<W.m.ar.busy.length→W.m.ar.home<w.heap.size) (hi:aL w ra x.reads G) (hcap:x.reads.length≤rc) (hm:x.reads.length≤1000000) (hv:x.value.size<140737488355328) (hat:0≤x.at_∧x.at_<4096) (hwi:0≤x.width∧x.width≤8) (hk:x.kind=3):Calls prog 32 #[.pointer (some ⟨p,0,none⟩),.pointer (some ⟨pa,0,none⟩)] w (ew X p W ⟨(xe W.S x.key).1,[],[],false⟩ (xe W.S x.key).2 G w):=by
 obtain ⟨s,k,c,b,H,z,I⟩:=oq h hx hpa hh hi
 have c0:w.cell? ⟨pa,0,none⟩=some (.int .i64 3):=by rw [← hk];exact cell_of hx 0
 have hpl:=aO hx
 have HI:=zH I
 have HC:=zH (fun w' (hb:Below ((w.alloc ZA).alloc ZA).heap.size ((w.alloc ZA).alloc ZA) w')=>xZ s k c b W.m W.q W.S H x.key w' (I.sys.aj hb) (Ch fit))
 generalize xe W.S x.key=t at *
 clear h I hx hpa hh hi hcap hm kn ok g fit hv hat hwi
 go_enter func32,ntmps32
 go_upto_region 11 with fail
 have eZ:(w.alloc (.cells #[.string ⟨#[]⟩,.slice none 0 0,.slice none 0 0,.bool false] 34)).alloc (.cells #[.string ⟨#[]⟩,.slice none 0 0,.slice none 0 0,.bool false] 34)=(w.alloc ZA).alloc ZA:=rfl
 rw [eZ]
 clear eZ c0 hpl
 generalize (w.alloc ZA).alloc ZA=w2 at *
 have HGE:=zH HI.out.ge
 generalize hR:w.heap.size=R at HI HGE ⊢
 generalize hO:R+1=O at HI HGE ⊢
 have HN:=zH (zA HI.out.np (zA HI.out.Mj (zA HI.out.ne.1 HI.out.ne.2.1)))
 have HO:=zH (zA HI.out.rO HI.out.nO)
 have HS:=zH (fun w' (F:Nat→Prop) (t:Touch F w2 w') n1 n2=>HI.out.reads F t n1 n2)
 clear hR hO
 refine wp_region_noPanic ?_
 refine wp_region_held_drew (S:=(AF s b p pa x ra rc)) (by kernel_rfl) (by (try dsimp only);exact HS.out _ (fun _=>False) (Touch.ah (au zR)) id id) fun hHeld => ?_
 refine tk 0 ?_
 refine tk 1 ?_
 refine tk 2 ?_
 refine tk 3 ?_
 refine tk 4 ?_
 refine tk 5 ?_
 refine tk 6 ?_
 refine tk 7 ?_
 refine tr 8 fun K hK => ?_
 go_simp
 go_at_call 60
 refine (HC.out _ (au zR)).mono ?_
 rintro e w1 ⟨rfl,hb1⟩
 have hb2:=gtr (au (Below.refl w2.heap.size w2)) hb1
 have ht1:Touch (bS s H) w2 w1:=Touch.ah hb2
 obtain ⟨z0,z1,z2,z3,zf⟩:=cC (ht1.at HO.out.1 HO.out.2)
 have hr1:=zH (zA (HI.out.sys.aj hb2) (zA (show Step (bS s H) (bS s H) w2 w1 from Step.ah hb2) (zA ht1 (zA ht1 ht1))))
 clear hb1 hb2 ht1
 go_wp2_with fail
 refine hK.out _ _ (by (try dsimp only);exact HS.out _ _ hr1.out.2.2.1 HN.out.1 HN.out.2.1) fun hHeld => ?_
 clear hK K
 try simp only [Act.put,zS,zT,zU]
 refine tk 9 ?_
 refine tk 10 ?_
 refine tk 11 ?_
 refine tk 12 ?_
 refine tr 13 fun K hK => ?_
 go_simp
 refine hK.out _ _ (by (try dsimp only);exact HS.out _ (fun i=>bS s H i∨i=O) ((hr1.out.2.2.1.mono fun i h=>.inl h).set _ _ _ (.inr rfl)) (fun h=>h.elim HN.out.1 HN.out.2.2.1) (fun h=>h.elim HN.out.2.1 HN.out.2.2.2)) fun hHeld => ?_
 clear hK K
 try simp only [Act.put,zS,zT,zU]
 refine tk 14 ?_
 refine wpAnyH_done (by kernel_rfl) ?_ _
 refine NoPanic.normal ?_
 have ho:=zH (zA (hr1.out.2.2.1.at HO.out.1 HO.out.2) (hr1.out.2.2.1.at HI.out.rR HI.out.nR))
 have rOa:(w1.setCell ⟨O,0,none⟩ (.string t.1)).heap[O]? = _:=az ho.out.1
 have ta:Touch (aN O) w1 (w1.setCell ⟨O,0,none⟩ (.string t.1)):=(Touch.refl (aN O) w1).set O 0 _ rfl
 have HA:=zH (zA rOa (zA (ta.at ho.out.2 (fun e=>HI.out.ne.2.2.2.2 (show R=O from e).symm)) ta))
 clear z0 z1 z2 z3 zf rOa ta HC HS ho
 generalize w1.setCell ⟨O,0,none⟩ (.string t.1)=wa at *
 obtain ⟨z0,z1,z2,z3,zf⟩:=cC (show wa.heap[O]? = some (.cells #[.string t.1,.slice none 0 0,.slice none 0 0,.bool false] 34 (0,0)) from HA.out.1)
 obtain ⟨y0,y1,y2,y3,yf⟩:=cC HA.out.2.1
 go_wp2_with fail
 obtain ⟨q0,q1,q2,q3,qf⟩:=cC (eY HA.out.2.1 (.string t.1) (.slice none 0 0) (.slice none 0 0) (.bool false))
 refine bodyPost_ret (v:=.tuple #[.agg #[.string t.1,.slice none 0 0,.slice none 0 0,.bool false],.int .i64 t.2]) ?_ rfl ?_
 ·
  change (results _ _).run _ (mi _ _ _ _ _ _)=_
  simp [results,results32,go_sem,q0,q1,q2,q3]
  rfl
 ·
  exact jl HI.out hr1.out.1 hr1.out.2.1 (bH.refl _) ⟨t.1,[],[],false⟩ t.2 none 0 none 0 zN zN (fun g hg=>by simp [Value.ownBlock] at hg) (fun g hg=>by simp [Value.ownBlock] at hg) HA.out.2.2 (cU wa R _ _ _ _)
theorem M1 (p pa:Nat) (W:fT) (G:Nat→Prop) (x:cG) (ba:Option Addr) (bc:Nat) (ra:Option Addr) (rc:Nat) (w:World) (h:bg X w p W G) (hx:fS w pa x ba bc ra rc) (hpa : ¬ G pa) (ok:W.m.Ok) (kn:W.m.kQ) (g:W.q.Good) (fit:W.S.Fit) (hh:0<W.m.ar.busy.length→W.m.ar.home<w.heap.size) (hi:aL w ra x.reads G) (hcap:x.reads.length≤rc) (hm:x.reads.length≤1000000) (hv:x.value.size<140737488355328) (hat:0≤x.at_∧x.at_<4096) (hwi:0≤x.width∧x.width≤8) (hk:x.kind=5):Calls prog 32 #[.pointer (some ⟨p,0,none⟩),.pointer (some ⟨pa,0,none⟩)] w (ew X p W ⟨⟨#[]⟩,(lN W.S).1,[],false⟩ (lN W.S).2 G w):=by
 obtain ⟨s,k,c,b,H,z,I⟩:=oq h hx hpa hh hi
 have c0:w.cell? ⟨pa,0,none⟩=some (.int .i64 5):=by rw [← hk];exact cell_of hx 0
 have hpl:=aO hx
 have HI:=zH I
 have HC:=zH (vn s k c b W.m W.q W.S H _ I.sys (Ch fit))
 generalize lN W.S=t at *
 clear h I hx hpa hh hi hcap hm kn ok g fit hv hat hwi
 go_enter func32,ntmps32
 go_upto_region 15 with fail
 have eZ:(w.alloc (.cells #[.string ⟨#[]⟩,.slice none 0 0,.slice none 0 0,.bool false] 34)).alloc (.cells #[.string ⟨#[]⟩,.slice none 0 0,.slice none 0 0,.bool false] 34)=(w.alloc ZA).alloc ZA:=rfl
 rw [eZ]
 clear eZ c0 hpl
 generalize (w.alloc ZA).alloc ZA=w2 at *
 have HGE:=zH HI.out.ge
 generalize hR:w.heap.size=R at HI HGE ⊢
 generalize hO:R+1=O at HI HGE ⊢
 have HN:=zH (zA HI.out.np (zA HI.out.Mj (zA HI.out.ne.1 HI.out.ne.2.1)))
 have HO:=zH (zA HI.out.rO HI.out.nO)
 have HS:=zH (fun w' (F:Nat→Prop) (t:Touch F w2 w') n1 n2=>HI.out.reads F t n1 n2)
 clear hR hO
 obtain ⟨r0,r1,r2,r3,r4,rf⟩:=mq HI.out.row
 have HLT:=zH HI.out.sys.lt
 go_upto_region 21 with (go_at_call 62;refine HC.out.mono ?_;rintro e w1 ⟨v,rfl,ho1,hb1⟩;obtain ⟨va,vc,rfl⟩:=bG ho1;obtain ⟨z0,z1,z2,z3,zf⟩:=cC (aa hb1 HO.out.1))
 have hr1:=zH (zA (HI.out.sys.aj hb1) (zA (show Step (bS s H) (bS s H) w2 w1 from Step.ah hb1) (zA ho1 (show ∀ g,(Value.slice va t.1.length vc).ownBlock=some g → ¬ bS s H g from fun g hg hm=>by have:=bZ ho1 g hg;have:=HLT.out g hm;omega))))
 clear ho1 hb1 r0 r1 r2 r3 r4 rf z0 z1 z2 z3 zf
 have ho:=zH (zA (hr1.out.2.1.aH.at HO.out.1 HO.out.2) (hr1.out.2.1.aH.at HI.out.rR HI.out.nR))
 have rOa:(w1.setCell ⟨O,1,none⟩ (.slice va t.1.length vc)).heap[O]? = _:=az ho.out.1
 have ta:Touch (aN O) w1 (w1.setCell ⟨O,1,none⟩ (.slice va t.1.length vc)):=(Touch.refl (aN O) w1).set O 1 _ rfl
 have HA:=zH (zA rOa (zA (ta.at ho.out.2 (fun e=>HI.out.ne.2.2.2.2 (show R=O from e).symm)) ta))
 clear rOa ta HC HS ho
 generalize w1.setCell ⟨O,1,none⟩ (.slice va t.1.length vc)=wa at *
 obtain ⟨z0,z1,z2,z3,zf⟩:=cC (show wa.heap[O]? = some (.cells #[.string ⟨#[]⟩,.slice va t.1.length vc,.slice none 0 0,.bool false] 34 (0,0)) from HA.out.1)
 obtain ⟨y0,y1,y2,y3,yf⟩:=cC HA.out.2.1
 go_wp2_with fail
 obtain ⟨q0,q1,q2,q3,qf⟩:=cC (eY HA.out.2.1 (.string ⟨#[]⟩) (.slice va t.1.length vc) (.slice none 0 0) (.bool false))
 refine bodyPost_ret (v:=.tuple #[.agg #[.string ⟨#[]⟩,.slice va t.1.length vc,.slice none 0 0,.bool false],.int .i64 t.2]) ?_ rfl ?_
 ·
  change (results _ _).run _ (mi _ _ _ _ _ _)=_
  simp [results,results32,go_sem,q0,q1,q2,q3]
  rfl
 ·
  exact jl HI.out hr1.out.1 hr1.out.2.1 (bH.refl _) ⟨⟨#[]⟩,t.1,[],false⟩ t.2 va vc none 0 hr1.out.2.2.1 zN hr1.out.2.2.2 (fun g hg=>by simp [Value.ownBlock] at hg) HA.out.2.2 (cU wa R _ _ _ _)
theorem M4 (p pa:Nat) (W:fT) (G:Nat→Prop) (x:cG) (ba:Option Addr) (bc:Nat) (ra:Option Addr) (rc:Nat) (w:World) (h:bg X w p W G) (hx:fS w pa x ba bc ra rc) (hpa : ¬ G pa) (ok:W.m.Ok) (kn:W.m.kQ) (g:W.q.Good) (fit:W.S.Fit) (hh:0<W.m.ar.busy.length→W.m.ar.home<w.heap.size) (hi:aL w ra x.reads G) (hcap:x.reads.length≤rc) (hm:x.reads.length≤1000000) (hv:x.value.size<140737488355328) (hat:0≤x.at_∧x.at_<4096) (hwi:0≤x.width∧x.width≤8) (hk:x.kind=7):Calls prog 32 #[.pointer (some ⟨p,0,none⟩),.pointer (some ⟨pa,0,none⟩)] w (ew X p W ⟨⟨#[]⟩,[],[],false⟩ 0 G w):=by
 obtain ⟨s,k,c,b,H,z,I⟩:=oq h hx hpa hh hi
 have c0:w.cell? ⟨pa,0,none⟩=some (.int .i64 7):=by rw [← hk];exact cell_of hx 0
 have hpl:=aO hx
 have HI:=zH I
 clear h I hx hpa hh hi hcap hm kn ok g fit hv hat hwi
 go_enter func32,ntmps32
 go_upto_region 21 with fail
 have eZ:(w.alloc (.cells #[.string ⟨#[]⟩,.slice none 0 0,.slice none 0 0,.bool false] 34)).alloc (.cells #[.string ⟨#[]⟩,.slice none 0 0,.slice none 0 0,.bool false] 34)=(w.alloc ZA).alloc ZA:=rfl
 rw [eZ]
 clear eZ c0 hpl
 generalize (w.alloc ZA).alloc ZA=w2 at *
 have HGE:=zH HI.out.ge
 generalize hR:w.heap.size=R at HI HGE ⊢
 generalize hO:R+1=O at HI HGE ⊢
 have HN:=zH (zA HI.out.np (zA HI.out.Mj (zA HI.out.ne.1 HI.out.ne.2.1)))
 have HO:=zH (zA HI.out.rO HI.out.nO)
 have HS:=zH (fun w' (F:Nat→Prop) (t:Touch F w2 w') n1 n2=>HI.out.reads F t n1 n2)
 clear hR hO
 have HA:=zH (zA HO.out.1 (zA HI.out.rR (Touch.refl (aN O) w2)))
 generalize hwa:w2=wa at HA ⊢
 obtain ⟨z0,z1,z2,z3,zf⟩:=cC (show wa.heap[O]? = some (.cells #[.string ⟨#[]⟩,.slice none 0 0,.slice none 0 0,.bool false] 34 (0,0)) from HA.out.1)
 obtain ⟨y0,y1,y2,y3,yf⟩:=cC HA.out.2.1
 go_wp2_with fail
 obtain ⟨q0,q1,q2,q3,qf⟩:=cC (eY HA.out.2.1 (.string ⟨#[]⟩) (.slice none 0 0) (.slice none 0 0) (.bool false))
 refine bodyPost_ret (v:=.tuple #[.agg #[.string ⟨#[]⟩,.slice none 0 0,.slice none 0 0,.bool false],.int .i64 0]) ?_ rfl ?_
 ·
  change (results _ _).run _ (mi _ _ _ _ _ _)=_
  simp [results,results32,go_sem,q0,q1,q2,q3]
  rfl
 ·
  exact jl HI.out HI.out.sys (Step.refl _ _) (bH.refl _) ⟨⟨#[]⟩,[],[],false⟩ 0 none 0 none 0 zN zN (fun g hg=>by simp [Value.ownBlock] at hg) (fun g hg=>by simp [Value.ownBlock] at hg) (show Touch (aN O) w2 wa by rw [hwa];exact Touch.refl _ _) (cU wa R _ _ _ _)
end
end Go.Proofs.YtcfdenckiigdaaaGreat

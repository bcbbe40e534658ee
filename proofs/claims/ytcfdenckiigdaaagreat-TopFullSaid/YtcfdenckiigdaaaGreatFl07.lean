/- Part 7 of the contracts. -/
import Derived.Great.Walk
import Derived.Test.YtcfdenckiigdaaaGreatFl06
set_option linter.unusedVariables false
set_option maxRecDepth 100000
set_option maxHeartbeats 4000000
namespace Go.Proofs.YtcfdenckiigdaaaGreat
open Tryz
section
open Go.RowKit
def ag.xW (m:ag) (b:Int):Bool :=
 if b=5∨b=53∨b=117 then true else if b=107∨b=235 then m.bk && !m.bP else if b=1∨b=2∨b=32 then m.aZ.isNone else !m.bP
def ag.known (m:ag) (b:Int):Bool:=decide (gH b=0)&&m.xW (ak b).byte
def ag.enter (m:ag) (st cl:Int):ag:={ m with ay:=st,left:=cl,cO:=0 }
def ag.behind (m:ag):ag :=
 if m.op.mode=true∧m.cL=false then m.enter 3 (many m.op.addr)
 else if 0<m.op.dummy∧m.ay≠4 then m.enter 4 m.op.dummy
 else if m.op.data=0 then m.enter 7 0
 else if m.op.jB=true then m.enter 5 (many m.op.data)
 else m.enter 6 0
def ag.cV (m:ag) (b:Int):ag :=
 if m.known b=false then { m with op:=ak b }.enter 1 0
 else if 0<(ak b).addr then { m with op:=ak b }.enter 2 (if (ak b).addr=1 then 24 else 6)
 else { m with op:=ak b }.behind
theorem pY.enter {s:Raw} {m:ag} (h:pY s m) (st cl:Int):pY (s.enter st cl) (m.enter st cl) :=
 ⟨h.cells,h.bq,h.bk,h.dQ,h.en,h.aD,h.op,rfl,rfl,rfl,h.addr,h.mode,h.cL,h.told,h.now,h.beyond,h.once⟩
theorem pY.Nl {s:Raw} {m:ag} (h:pY s m) (r:gF):pY { s with op:=r } { m with op:=r } :=
 ⟨h.cells,h.bq,h.bk,h.dQ,h.en,h.aD,rfl,h.ay,h.left,h.cO,h.addr,h.mode,h.cL,h.told,h.now,h.beyond,h.once⟩
theorem pY.behind {s:Raw} {m:ag} (h:pY s m):pY s.behind m.behind:=by
 unfold Raw.behind ag.behind
 rw [h.op,h.cL,h.ay]
 split
 ·
  exact h.enter _ _
 ·
  split
  ·
   exact h.enter _ _
  ·
   split
   ·
    exact h.enter _ _
   ·
    split <;> exact h.enter _ _
theorem Es {s:Raw} {m:ag} (h:pY s m) (b:Int):oT s m.aZ b=m.known b:=by
 unfold oT ag.known pz ag.xW
 rw [h.bk];rfl
theorem pY.cV {s:Raw} {m:ag} (h:pY s m) (b:Int):pY (s.cV m.aZ b) (m.cV b):=by
 unfold Raw.cV ag.cV
 rw [Es h]
 split
 ·
  exact (h.Nl _).enter _ _
 ·
  split
  ·
   exact (h.Nl _).enter _ _
  ·
   exact (h.Nl _).behind
theorem tT (s:Raw):s.behind.aZ=s.aZ∧s.behind.busy=s.busy∧s.behind.data=s.data:=by
 unfold Raw.behind;split;exact ⟨rfl,rfl,rfl⟩;split;exact ⟨rfl,rfl,rfl⟩;split;exact ⟨rfl,rfl,rfl⟩;split <;> exact ⟨rfl,rfl,rfl⟩
theorem BK (s:Raw) (j:Option iE) (b:Int):(s.cV j b).aZ=s.aZ∧(s.cV j b).busy=s.busy∧(s.cV j b).data=s.data:=by
 unfold Raw.cV;split;exact ⟨rfl,rfl,rfl⟩;split;exact ⟨rfl,rfl,rfl⟩;exact tT _
theorem ix (m:ag):m.behind.aZ=m.aZ∧m.behind.busy=m.busy∧m.behind.data=m.data:=by
 unfold ag.behind;split;exact ⟨rfl,rfl,rfl⟩;split;exact ⟨rfl,rfl,rfl⟩;split;exact ⟨rfl,rfl,rfl⟩;split <;> exact ⟨rfl,rfl,rfl⟩
theorem ng (m:ag) (b:Int):(m.cV b).aZ=m.aZ∧(m.cV b).busy=m.busy∧(m.cV b).data=m.data:=by
 unfold ag.cV;split;exact ⟨rfl,rfl,rfl⟩;split;exact ⟨rfl,rfl,rfl⟩;exact ix _
theorem iW (m:ag):m.behind.home=m.home:=by
 unfold ag.behind;split;rfl;split;rfl;split;rfl;split <;> rfl
theorem oD (m:ag) (b:Int):(m.cV b).home=m.home:=by
 unfold ag.cV;split;rfl;split;rfl;exact iW _
theorem mE (c:Nat) (s:Raw) (m:ag) (F:Nat→Prop) (b:Int) (w:World) (h:bJ w c s m F):Calls prog 205 #[.pointer (some ⟨c,0,none⟩),.int .i64 b] w fun e w'=>e=.returned (.tuple #[])∧bJ w' c (s.cV m.aZ b) (m.cV b) F∧Touch (aO c) w w':=by
 refine (AB c s m.aZ b w h.raw h.aZ).mono ?_
 rintro e w' ⟨rfl,g,t⟩
 obtain ⟨e1,e2,e3⟩:=BK s m.aZ b
 obtain ⟨f1,f2,f3⟩:=ng m b
 exact ⟨rfl,h.block g (h.bU.cV b) t e1 f1 e2 f2 e3 f3 (oD m b),t⟩
def ag.fresh (m:ag):ag:={ m with dQ:=true,op:=gF.zero,ay:=0,left:=8,cO:=0,addr:=0,mode:=0,cL:=false,data:=[],told:=0,now:=0,beyond:=false }
def ag.select (m:ag):ag:=if m.aD then m.fresh.cV 235 else m.fresh
def yh:Array Value := #[.int .i64 0,.int .i64 0,.bool false,.int .i64 0,.int .i64 0,.bool false,.int .i64 0,.int .i64 8,.int .i64 0,.int .i64 0,.int .i64 0,.bool false,.slice none 0 0,.int .i64 0,.int .i64 0,.bool false]
theorem IU:yh.all (·.oneCell')=true:=by simp [yh,Value.oneCell']
theorem KY:(prog.info? 127).map (·.size)=some yh.size:=by kernel_rfl
def Raw.fresh (s:Raw):Raw:={ s with dQ:=true,op:=gF.zero,ay:=0,left:=8,cO:=0,addr:=0,mode:=0,cL:=false,data:=.slice none 0 0,told:=0,now:=0,beyond:=false }
theorem JU {w:World} {c:Nat} {s:Raw} (h:aV w c { s with dQ:=true }):aV (w.setRow c (putAt ({ s with dQ:=true }:Raw).row 20 yh.toList)) c s.fresh:=by
 have e:putAt ({ s with dQ:=true }:Raw).row 20 yh.toList=s.fresh.row:=by simp [putAt,yh,Raw.row,gF.zero,Raw.fresh]
 rw [e]
 exact setRow_heap w c _ _ 131 (0,0) h
theorem D4 {w w':World} {c:Nat} {s:Raw} {m:ag} {F:Nat→Prop} (h:bJ w c s m F) (g:aV w' c s.fresh) (t:Touch (aO c) w w'):bJ w' c s.fresh m.fresh F:=by
 have hs:=h.bU
 have hO : ∀ b,aO c b→F b:=fun b e=>by rw [show b=c from e];exact h.own
 exact ⟨g,⟨hs.cells,hs.bq,hs.bk,rfl,hs.en,hs.aD,rfl,rfl,rfl,rfl,rfl,rfl,rfl,rfl,rfl,rfl,hs.once⟩,h.aZ.only h.raw t,h.busy.aH t hO,zN,h.own,h.me,(fun g e=>nomatch e),fun b hb=>zV (h.lt b hb) t.size⟩
theorem sX (c:Nat) (m:ag) (F:Nat→Prop) (w:World) (h:aS w c m F) (hsel:m.dQ=false):Calls prog 195 #[.pointer (some ⟨c,0,none⟩)] w fun e w'=>e=.returned (.int .i64 0)∧aS w' c m.select F∧Touch (aO c) w w':=by
 obtain ⟨s,h⟩:=h.open
 have hs:=h.bU
 have c15:w.cell? ⟨c,15,none⟩=some (.bool false):=by rw [← hsel,← hs.dQ];exact cell_of h.raw 15
 have hf : ∀ i,w.frozen? ⟨c,i,none⟩=false:=fun i=>aF h.raw i
 have h1:aV (w.setCell ⟨c,15,none⟩ (.bool true)) c { s with dQ:=true }:=az (i:=15) (v:=.bool true) h.raw
 have t1:Touch (aO c) w (w.setCell ⟨c,15,none⟩ (.bool true)):=(Touch.refl (aO c) w).set c 15 _ rfl
 have HH:=zH h
 have hgo:=hs.aD
 clear h hs hsel
 go_enter func195,ntmps195
 go_upto_region 6 with (fail)
 generalize w.setCell ⟨c,15,none⟩ (.bool true)=w1 at *
 apply wp_region_lit
 refine Go.Great.wpList_readTo rfl (some 16) rfl (.pointer (some ⟨c,0,none⟩)) rfl ?_
 refine Go.wpList_callTo rfl (some 17) rfl 204 #[.int .i64 1] (by first | kernel_rfl | (simp [execOp,go_sem];done)) (.int .i64 8) w1 ((fR 1 w1 (.inl rfl)).mono (fun e w' h=>⟨h.1,h.2⟩)) ?_
 refine Go.Great.wpList_readTo rfl (some 18) rfl (.agg yh) (by kernel_rfl) ?_
 refine Go.Great.wpList_readTo rfl (some 19) rfl (.pointer (some ⟨c,0,none⟩)) rfl ?_
 refine Go.Great.wpList_readTo rfl (some 20) rfl (.pointer (some ⟨c,15,none⟩)) rfl ?_
 refine Go.Great.wpList_readTo rfl (some 21) rfl (.pointer (some ⟨c,20,none⟩)) rfl ?_
 refine dS rfl 127 _ _ rfl c 20 yh rfl rfl 131 ({ s with dQ:=true }:Raw).row h1 KY (Nat.le_refl 36) IU ?_
 have h2:=JU h1
 have t2:Touch (aO c) w (w1.setRow c (putAt ({ s with dQ:=true }:Raw).row 20 yh.toList)):=jy t1 c _ rfl
 generalize w1.setRow c (putAt ({ s with dQ:=true }:Raw).row 20 yh.toList)=w2 at *
 have h3:=D4 HH.out h2 t2
 have c17:w2.cell? ⟨c,17,none⟩=some (.bool m.aD):=by rw [← hgo];exact cell_of h2 17
 have HB:=zH (mE c s.fresh m.fresh F 235 w2 h3)
 have HT:=zH (zA h3 t2)
 clear h1 t1 h2 t2 h3 c15 hf HH hgo
 cases hg:m.aD with
 | false =>
  rw [hg] at c17
  go_wp2
  go_ret
  exact ⟨rfl,by rw [show m.select=m.fresh by unfold ag.select;rw [hg];rfl];exact HT.out.1.shut,HT.out.2⟩
 | true =>
  rw [hg] at c17
  go_wp2_with fail
  refine HB.out.mono ?_
  rintro e w3 ⟨rfl,g3,t3⟩
  go_wp2
  go_ret
  exact ⟨rfl,by rw [show m.select=m.fresh.cV 235 by unfold ag.select;rw [hg];rfl];exact g3.shut,HT.out.2.trans t3⟩
end
section
open Go.RowKit
theorem uV (c:Nat) (m:ag) (F:Nat→Prop) (w:World) (h:aS w c m F):Calls prog 39 #[.pointer (some ⟨c,0,none⟩)] w fun e w'=>e=.returned (.string m.cells)∧w'=w:=by
 obtain ⟨s,h⟩:=h.open
 have c0:w.cell? ⟨c,0,none⟩=some (.string m.cells):=by rw [← h.bU.cells];exact cell_of h.raw 0
 clear h
 go_enter func39,ntmps39
 go_wp2
 go_ret
 exact ⟨rfl,rfl⟩
def vq (er:Int) (c:Nat) (m:ag) (F:Nat→Prop) (w:World) (e:Ending) (w':World):Prop:=e=.returned (.int .i64 er) ∧ ∃ F',aS w' c m F'∧Step F F' w w'
def ag.uQ (m:ag):ag:={ m with dQ:=false }
def ag.fw (m:ag):ag:=m.uQ.ends
theorem qx (c:Nat) (m:ag) (F:Nat→Prop) (w:World) (h:aS w c m F) (ok:m.Ok) (hsel:m.dQ=true) (put:m.op.byte=1→m.ay≠0→m.ay≠1→m.whole=true → ∀ w',aS w' c m.uQ F→Calls prog 209 #[.pointer (some ⟨c,0,none⟩)] w' (fk c m.uQ.gp F w')):Calls prog 197 #[.pointer (some ⟨c,0,none⟩)] w (vq 0 c m.fw F w):=by
 obtain ⟨s,h⟩:=h.open
 have hs:=h.bU
 have c15:w.cell? ⟨c,15,none⟩=some (.bool true):=by rw [← hsel,← hs.dQ];exact cell_of h.raw 15
 have hf : ∀ i,w.frozen? ⟨c,i,none⟩=false:=fun i=>aF h.raw i
 have t:Touch (aO c) w (w.setCell ⟨c,15,none⟩ (.bool false)):=(Touch.refl (aO c) w).set c 15 _ rfl
 have h1:=h.block (s':={ s with dQ:=false }) (m':=m.uQ) (w':=w.setCell ⟨c,15,none⟩ (.bool false)) (az (i:=15) (v:=.bool false) h.raw) ⟨hs.cells,hs.bq,hs.bk,rfl,hs.en,hs.aD,hs.op,hs.ay,hs.left,hs.cO,hs.addr,hs.mode,hs.cL,hs.told,hs.now,hs.beyond,hs.once⟩ t rfl rfl rfl rfl rfl rfl
 have HE:=zH (wu c m.uQ F _ h1.shut ⟨ok.size,ok.aZ,ok.fX,ok.gG,ok.op,ok.data⟩ (fun e1 e2 e3 e4=>put e1 e2 e3 e4 _ h1.shut))
 have st:=zH (h.step t)
 clear h hs ok put h1 t hsel
 go_enter func197,ntmps197
 go_wp2_with fail
 refine HE.out.mono ?_
 rintro e w1 ⟨rfl,F',hC,t1⟩
 go_wp2
 go_ret
 exact ⟨rfl,F',hC,st.out.trans t1⟩
def ag.cm (m:ag) (mask:ByteArray):ag :=
 { m with cells:=(match m.aZ with | none=>m.cells | some j=>cK j m.cells mask),dQ:=false,en:=false,aD:=false,aZ:=none,busy:=[],op:=gF.zero,ay:=0,left:=0,cO:=0,addr:=0,mode:=0,cL:=false,data:=[],told:=0,now:=0,beyond:=false }
theorem yY {w w':World} {c:Nat} {s s':Raw} {m:ag} {F:Nat→Prop} (mask:ByteArray) (h:bJ w c s m F) (g:aV w' c s') (t:Touch F w w') (e:s'={ s with cells:=(m.cm mask).cells,dQ:=false,en:=false,aD:=false,aZ:=none,busy:=.slice none 0 0,ay:=0,left:=0,cO:=0,addr:=0,mode:=0,cL:=false,data:=.slice none 0 0,told:=0,now:=0,beyond:=false,op:=gF.zero }):vq 0 c (m.cm mask) F w (.returned (.int .i64 0)) w':=by
 subst e
 have hs:=h.bU
 exact ⟨rfl,F,bJ.shut ⟨g,⟨rfl,hs.bq,hs.bk,rfl,rfl,rfl,rfl,rfl,rfl,rfl,rfl,rfl,rfl,rfl,rfl,rfl,hs.once⟩,rfl,⟨none,0,rfl,aU.nil _ _,(fun b o e=>nomatch e),fun _=>rfl,Nat.le_refl _,(fun b o e=>nomatch e)⟩,zN,h.own,(fun b e=>nomatch e),(fun g e=>nomatch e),fun b hb=>zV (h.lt b hb) t.size⟩,Step.dD t⟩
def gone:Array Value := #[.bool false,.bool false,.bool false,.pointer none,.slice none 0 0,.int .i64 0,.int .i64 0,.bool false,.int .i64 0,.int .i64 0,.bool false,.int .i64 0,.int .i64 0,.int .i64 0,.int .i64 0,.int .i64 0,.bool false,.slice none 0 0,.int .i64 0,.int .i64 0,.bool false]
theorem C6 {w:World} {c:Nat} {s:Raw} (h:aV w c s):aV (w.setRow c (putAt s.row 15 gone.toList)) c { s with dQ:=false,en:=false,aD:=false,aZ:=none,busy:=.slice none 0 0,ay:=0,left:=0,cO:=0,addr:=0,mode:=0,cL:=false,data:=.slice none 0 0,told:=0,now:=0,beyond:=false,op:=gF.zero }:=by
 have e:putAt s.row 15 gone.toList=({ s with dQ:=false,en:=false,aD:=false,aZ:=none,busy:=.slice none 0 0,ay:=0,left:=0,cO:=0,addr:=0,mode:=0,cL:=false,data:=.slice none 0 0,told:=0,now:=0,beyond:=false,op:=gF.zero }:Raw).row:=by
  simp [putAt,gone,Raw.row,gF.zero]
 rw [e]
 exact setRow_heap w c s.row _ 131 (0,0) h
theorem Cg:gone.all (·.oneCell')=true:=by simp [gone,Value.oneCell']
theorem FK:(prog.info? 129).map (·.size)=some gone.size:=by kernel_rfl
theorem wv (c:Nat) (m:ag) (F:Nat→Prop) (w:World) (h:aS w c m F) (ok:m.Ok) (mask:ByteArray) (hm:mask.size≤4096):Calls prog 34 #[.pointer (some ⟨c,0,none⟩),.string mask] w (vq 0 c (m.cm mask) F w):=by
 obtain ⟨s,h⟩:=h.open
 have hs:=h.bU
 have hO : ∀ b,aO c b→F b:=fun b e=>by rw [show b=c from e];exact h.own
 have c18:w.cell? ⟨c,18,none⟩=some (.pointer s.aZ):=cell_of h.raw 18
 cases hj:m.aZ with
 | none =>
  have hjn:s.aZ=none:=by have:=h.aZ;rw [hj] at this;exact this
  rw [hjn] at c18
  have HL:=zH (yY mask h (C6 h.raw) (jy (Touch.refl F w) c _ h.own) (by
   have e:(m.cm mask).cells=m.cells:=by unfold ag.cm;rw [hj]
   rw [e,← hs.cells]))
  have hraw:=zH h.raw
  clear h hs hj hjn
  go_enter func34,ntmps34
  go_upto_region 5 with (fail)
  apply wp_region_lit
  refine Go.Great.wpList_readTo rfl (some 27) rfl (.pointer (some ⟨c,0,none⟩)) rfl ?_
  refine Go.Great.wpList_readTo rfl (some 28) rfl (.agg gone) (by kernel_rfl) ?_
  refine Go.Great.wpList_readTo rfl (some 29) rfl (.pointer (some ⟨c,0,none⟩)) rfl ?_
  refine Go.Great.wpList_readTo rfl (some 30) rfl (.pointer (some ⟨c,15,none⟩)) rfl ?_
  refine dS rfl 129 _ _ rfl c 15 gone rfl rfl 131 s.row hraw.out FK (Nat.le_refl 36) Cg ?_
  go_wp2
  go_ret
  exact HL.out
 | some j =>
  obtain ⟨jb,hjb,hb⟩ : ∃ jb,s.aZ=some ⟨jb,0,none⟩∧w.heap[jb]? = some (.cells j.row 192 (0,0)):=by have:=h.aZ;rw [hj] at this;exact this
  rw [hjb] at c18
  have c0:w.cell? ⟨c,0,none⟩=some (.string s.cells):=cell_of h.raw 0
  have hlt:=h.raw.lt
  have HJ:=zH (oS jb j s.cells mask w.drew hb (ok.aZ j hj).1 (by rw [hs.cells];exact ok.size) hm)
  have HR:=zH h
  have hcl:cK j s.cells mask=(m.cm mask).cells:=by unfold ag.cm;rw [hj,hs.cells]
  have HCL:=zH hcl
  generalize cK j s.cells mask=r at *
  have hraw:=zH h.raw
  clear h hs hj hb hcl
  go_enter func34,ntmps34
  go_upto_region 4 with (fail)
  go_region_with (go_at_call 64;(with_reducible refine HJ.out.mono ?_);rintro e w3 ⟨rfl,hb3⟩;have hb13:=gtr (au (Below.refl _ w)) hb3;have h3:=hraw.out.aj hb13;have c0':w3.cell? ⟨c,0,none⟩=some (.string s.cells):=cell_of h3 0;have hf3 : ∀ i,w3.frozen? ⟨c,i,none⟩=false:=fun i=>aF h3 i)
  all_goals
   have H1:aV (w3.setCell ⟨c,0,none⟩ (.string r)) c { s with cells:=r }:=az (i:=0) (v:=.string r) h3
   have T1:Touch F w (w3.setCell ⟨c,0,none⟩ (.string r)):=(Touch.ah hb13).set c 0 _ HR.out.own
   have HL:=zH (yY mask HR.out (C6 H1) (jy T1 c _ HR.out.own) (by rw [← HCL.out]))
   have H1':=zH H1
   clear H1 T1 h3
   go_upto_region 5 with (fail)
   apply wp_region_lit
   refine Go.Great.wpList_readTo rfl (some 27) rfl (.pointer (some ⟨c,0,none⟩)) rfl ?_
   refine Go.Great.wpList_readTo rfl (some 28) rfl (.agg gone) (by kernel_rfl) ?_
   refine Go.Great.wpList_readTo rfl (some 29) rfl (.pointer (some ⟨c,0,none⟩)) rfl ?_
   refine Go.Great.wpList_readTo rfl (some 30) rfl (.pointer (some ⟨c,15,none⟩)) rfl ?_
   refine dS rfl 129 _ _ rfl c 15 gone rfl rfl 131 ({ s with cells:=r }:Raw).row H1'.out FK (Nat.le_refl 36) Cg ?_
   go_wp2
   go_ret
   exact HL.out
end
section
open Go.RowKit
def Aq (xs:List Int) (w:World) (e:Ending) (w':World):Prop := ∃ a c,e=.returned (.slice a xs.length c)∧w'.ownsRow w.heap.size 3 1 (.slice a xs.length c) xs.length (aC xs)∧Below w.heap.size w w'
theorem wJ (a:Option Addr) (c:Nat) (xs:List Int) (w:World) (h1:aU w a xs) (hn:a=none→c=0) (hm:xs.length * 8≤140737488355328):Calls prog 56 #[.slice a xs.length c] w (Aq xs w):=by
 have kn:=fun (w:World) (x:Option Addr) (n c:Nat)=>Lib.run_eql_slice_nil (P:=prog) w 22 3 x n c 0 0 underlying22
 cases a with
 | none =>
  obtain rfl:c=0:=hn rfl
  have hx:xs=[]:=by
   cases xs with
   | nil=>rfl
   | cons x r=>obtain ⟨b,o,h,_⟩:=h1 0 (by simp);cases h
  subst hx
  go_enter func56,ntmps56
  go_wp2
  go_ret
  exact ⟨_,_,rfl,zN,Below.refl _ _⟩
 | some ad =>
  obtain ⟨i0,hi,hz0,hz1,hz2⟩:=info_parts iK
  have HI:=zH h1
  clear h1
  go_enter func56,ntmps56
  go_wp2_with (at_builtin;refine wpList_append_own _ rfl _ _ 22 rfl w.heap.size 3 i0 (.int .i64 0) 1 8 underlying22 hi hz0 hz1 hz2 rfl (by decide) _ 0 [] rfl (qe w 3 1 _ zY) ad xs.length c (aC xs) rfl (uq xs) ?c1 (ur xs) ?c2 ?c3 ?c4 ?_)
  case c1 =>
   intro j u hu
   obtain ⟨hj,rfl⟩:=uo xs j u hu
   obtain ⟨b,off,ha,hcell⟩:=HI.out j hj
   obtain rfl:ad=⟨b,off,none⟩:=by simpa using ha
   have hlt:=zL w _ hcell
   rw [di,World.cell?_alloc_lt _ _ _ hlt]
   exact hcell
  case c2=>simp only [maxLen];omega
  case c3=>omega
  case c4=>simp
  intro v' w' hown hg _
  go_wp2
  go_ret
  have hown2:w'.ownsRow w.heap.size 3 1 v' xs.length (aC xs):=by simpa using hown
  obtain ⟨a',c',rfl,_⟩:=bz.dd hown
  exact ⟨a',c',rfl,hown2,dP (ae zR _) hg (fun k hk=>by simp [Value.ownBlock] at hk;omega)⟩
theorem JR {w:World} {B:Nat} {a:Option Addr} {c:Nat} {xs:List Int} {F:Nat→Prop} (h:w.ownsRow B 3 1 (.slice a xs.length c) xs.length (aC xs)) (hF : ∀ b,B≤b → ¬ F b) : ∃ hm,(0<xs.length→B≤hm)∧sO w (.slice a xs.length c) xs hm F:=by
 obtain ⟨a',c',e,hi⟩:=(bz.dd h).ints
 obtain ⟨rfl,rfl⟩:a=a'∧c=c':=by simpa using e
 rcases h.2 with ⟨e2,hn⟩ | ⟨g,cap,cur,e2,hb,hg,hnc,_⟩
 ·
  obtain ⟨rfl,e3,rfl⟩:a=none∧xs.length=0∧c=0:=by simpa using e2
  exact ⟨0,fun hl=>by omega,none,0,rfl,hi,(fun b o e=>nomatch e),fun _=>rfl,by omega,(fun b o e=>nomatch e)⟩
 ·
  obtain ⟨rfl,rfl⟩:a=some ⟨g,0,none⟩∧c=cap:=by simpa using e2
  exact ⟨g,fun _=>hb,_,_,rfl,hi,fun b o e hl=>by
   obtain ⟨rfl,rfl⟩:g=b∧0=o:=by simpa using e
   exact hF _ hb,(fun e=>nomatch e),hnc,fun b o e hl=>by
   obtain ⟨rfl,rfl⟩:g=b∧0=o:=by simpa using e
   rfl⟩
theorem Lg:dg 54 (fun n=>decide (n<1) || decide (400<n)) where
 calls n w:=by
  go_enter func54,ntmps54
  go_wp2
  all_goals
   go_ret
   refine ⟨?_,rfl⟩
   simp_all
   try omega
 run args w:=by go_simp
def IH (c:Nat) (m:ag) (xs:List Int) (F:Nat→Prop) (w:World) (e:Ending) (w':World):Prop :=
 e=.returned (.int .i64 0) ∧ ∃ (hm:Nat) (F':Nat→Prop),(0<xs.length→w.heap.size≤hm)∧aS w' c { m with busy:=xs,home:=hm } F'∧Step F F' w w'
theorem wy (c:Nat) (m:ag) (F:Nat→Prop) (a:Option Addr) (cap:Nat) (xs:List Int) (w:World) (h:aS w c m F) (hi:aU w a xs) (hn:a=none→cap=0) (hl:xs.length≤16) (hx : ∀ x ∈ xs,1≤x∧x≤400):Calls prog 30 #[.pointer (some ⟨c,0,none⟩),.slice a xs.length cap] w (IH c m xs F w):=by
 obtain ⟨s,h⟩:=h.open
 have hs:=h.bU
 have c19:w.cell? ⟨c,19,none⟩=some s.busy:=cell_of h.raw 19
 have hany:xs.any (fun n=>decide (n<1) || decide (400<n))=false:=by
  rw [List.any_eq_false]
  intro x hxm
  have:=hx x hxm
  simp;omega
 have HC:=zH (fq 54 _ Lg a cap xs w hi (by omega))
 rw [hany] at HC
 have HL:=zH (fun n=>wJ a cap xs (w.drewN n) (hi.aj (aY zR n)) hn (by omega))
 have hl' : ¬ (16:Int)<(xs.length:Int):=by omega
 have HH:=zH h
 clear h hs hany hx hi hl
 go_enter func30,ntmps30
 go_wp2_with fail
 refine HC.out.mono ?_
 rintro e w1 ⟨rfl,n1,rfl⟩
 go_wp2_with fail
 refine (HL.out n1).mono ?_
 rintro e w2 ⟨a2,c2,rfl,hown,hb⟩
 have hb2:Below w.heap.size w w2:=gtr (aY zR n1) hb
 have h2:=HH.out.aj hb2
 have k19:w2.cell? ⟨c,19,none⟩=some s.busy:=cell_of h2.raw 19
 have hf : ∀ i,w2.frozen? ⟨c,i,none⟩=false:=fun i=>aF h2.raw i
 have hr:aV (w2.setCell ⟨c,19,none⟩ (.slice a2 xs.length c2)) c { s with busy:=.slice a2 xs.length c2 }:=az (i:=19) (v:=.slice a2 xs.length c2) h2.raw
 have t:Touch (aO c) w2 (w2.setCell ⟨c,19,none⟩ (.slice a2 xs.length c2)):=(Touch.refl (aO c) w2).set c 19 _ rfl
 have hs:=h2.bU
 obtain ⟨hm,hm1,hbz⟩:=JR (F:=F) hown (fun b hb' hF=>Nat.lt_irrefl _ (zV (HH.out.lt b hF) hb'))
 have HM1:=zH hm1
 have hO : ∀ b,aO c b→F b:=fun b e=>by rw [show b=c from e];exact h2.own
 have hd:(w2.setCell ⟨c,19,none⟩ (.slice a2 xs.length c2)).ownsRow 0 3 1 s.data m.data.length (aC m.data):=gB h2.data t (fun g hg e=>by
  obtain ⟨cur,hc⟩:=gA h2.data hg
  rw [show g=c from e] at hc
  have:=hc.symm.trans h2.raw;simp at this)
 have h3:bJ (w2.setCell ⟨c,19,none⟩ (.slice a2 xs.length c2)) c { s with busy:=.slice a2 xs.length c2 } { m with busy:=xs,home:=hm } F :=
  ⟨hr,⟨hs.cells,hs.bq,hs.bk,hs.dQ,hs.en,hs.aD,hs.op,hs.ay,hs.left,hs.cO,hs.addr,hs.mode,hs.cL,hs.told,hs.now,hs.beyond,hs.once⟩,h2.aZ.only h2.raw t,hbz.aH t hO,hd,h2.own,h2.me,h2.jQ,fun b hb=>zV (h2.lt b hb) t.size⟩
 have HR:=zH (zA h3.shut ((Step.ah hb2).trans (Step.dD (t.mono hO))))
 clear h3 hd hr t hs hbz h2 hb2 hown hb hm1
 go_wp2
 go_ret
 exact ⟨rfl,hm,F,fun hl=>HM1.out hl,HR.out.1,HR.out.2⟩
end
end Go.Proofs.YtcfdenckiigdaaaGreat

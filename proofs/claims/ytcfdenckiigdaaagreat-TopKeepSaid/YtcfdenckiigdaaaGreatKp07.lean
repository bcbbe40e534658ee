/- Part 7 of the contracts. -/
import Derived.Great.Walk
import Derived.Test.YtcfdenckiigdaaaGreatKp06
set_option linter.unusedVariables false
set_option maxRecDepth 100000
set_option maxHeartbeats 4000000
namespace Go.Proofs.YtcfdenckiigdaaaGreat
section
open Go.RowKit
def qae.takes (m:qae) (b:Int):Bool :=
 if b=5∨b=53∨b=117 then true else if b=107∨b=235 then m.quad && !m.works else if b=1∨b=2∨b=32 then m.job.isNone else !m.works
def qae.known (m:qae) (b:Int):Bool:=decide (opErr b=0)&&m.takes (opRow b).byte
def qae.enter (m:qae) (st cl:Int):qae:={ m with stage:=st,left:=cl,got:=0 }
def qae.behind (m:qae):qae :=
 if m.op.mode=true∧m.moded=false then m.enter 3 (many m.op.addr)
 else if 0<m.op.dummy∧m.stage≠4 then m.enter 4 m.op.dummy
 else if m.op.data=0 then m.enter 7 0
 else if m.op.inn=true then m.enter 5 (many m.op.data)
 else m.enter 6 0
def qae.begins (m:qae) (b:Int):qae :=
 if m.known b=false then { m with op:=opRow b }.enter 1 0
 else if 0<(opRow b).addr then { m with op:=opRow b }.enter 2 (if (opRow b).addr=1 then 24 else 6)
 else { m with op:=opRow b }.behind
theorem Says.enter {s:Raw} {m:qae} (h:Says s m) (st cl:Int):Says (s.enter st cl) (m.enter st cl) :=
 ⟨h.cells,h.prot,h.quad,h.sel,h.en,h.goes,h.op,rfl,rfl,rfl,h.addr,h.mode,h.moded,h.told,h.now,h.beyond,h.once⟩
theorem Says.op' {s:Raw} {m:qae} (h:Says s m) (r:OpR):Says { s with op:=r } { m with op:=r } :=
 ⟨h.cells,h.prot,h.quad,h.sel,h.en,h.goes,rfl,h.stage,h.left,h.got,h.addr,h.mode,h.moded,h.told,h.now,h.beyond,h.once⟩
theorem Says.behind {s:Raw} {m:qae} (h:Says s m):Says s.behind m.behind:=by
 unfold Raw.behind qae.behind
 rw [h.op,h.moded,h.stage]
 split
 ·
  exact h.enter _ _
 ·
  split
  ·
   exact h.enter _ _
  ·
   split
   ·
    exact h.enter _ _
   ·
    split <;> exact h.enter _ _
theorem qqd {s:Raw} {m:qae} (h:Says s m) (b:Int):knownB s m.job b=m.known b:=by
 unfold knownB qae.known takesB qae.takes
 rw [h.quad];rfl
theorem Says.begins {s:Raw} {m:qae} (h:Says s m) (b:Int):Says (s.begins m.job b) (m.begins b):=by
 unfold Raw.begins qae.begins
 rw [qqd h]
 split
 ·
  exact (h.op' _).enter _ _
 ·
  split
  ·
   exact (h.op' _).enter _ _
  ·
   exact (h.op' _).behind
theorem qh8 (s:Raw):s.behind.job=s.job∧s.behind.busy=s.busy∧s.behind.data=s.data:=by
 unfold Raw.behind;split;exact ⟨rfl,rfl,rfl⟩;split;exact ⟨rfl,rfl,rfl⟩;split;exact ⟨rfl,rfl,rfl⟩;split <;> exact ⟨rfl,rfl,rfl⟩
theorem qno (s:Raw) (j:Option Job) (b:Int):(s.begins j b).job=s.job∧(s.begins j b).busy=s.busy∧(s.begins j b).data=s.data:=by
 unfold Raw.begins;split;exact ⟨rfl,rfl,rfl⟩;split;exact ⟨rfl,rfl,rfl⟩;exact qh8 _
theorem qcb (m:qae):m.behind.job=m.job∧m.behind.busy=m.busy∧m.behind.data=m.data:=by
 unfold qae.behind;split;exact ⟨rfl,rfl,rfl⟩;split;exact ⟨rfl,rfl,rfl⟩;split;exact ⟨rfl,rfl,rfl⟩;split <;> exact ⟨rfl,rfl,rfl⟩
theorem qep (m:qae) (b:Int):(m.begins b).job=m.job∧(m.begins b).busy=m.busy∧(m.begins b).data=m.data:=by
 unfold qae.begins;split;exact ⟨rfl,rfl,rfl⟩;split;exact ⟨rfl,rfl,rfl⟩;exact qcb _
theorem qct (m:qae):m.behind.home=m.home:=by
 unfold qae.behind;split;rfl;split;rfl;split;rfl;split <;> rfl
theorem qfE (m:qae) (b:Int):(m.begins b).home=m.home:=by
 unfold qae.begins;split;rfl;split;rfl;exact qct _
theorem qee (c:Nat) (s:Raw) (m:qae) (F:Nat→Prop) (b:Int) (w:World) (h:qaw w c s m F):Calls Tryz.prog 205 #[.pointer (some ⟨c,0,none⟩),.int .i64 b] w fun e w'=>e=.returned (.tuple #[])∧qaw w' c (s.begins m.job b) (m.begins b) F∧Touch (Only c) w w':=by
 refine (qlM c s m.job b w h.raw h.job).mono ?_
 rintro e w' ⟨rfl,g,t⟩
 obtain ⟨e1,e2,e3⟩:=qno s m.job b
 obtain ⟨f1,f2,f3⟩:=qep m b
 exact ⟨rfl,h.block g (h.says.begins b) t e1 f1 e2 f2 e3 f3 (qfE m b),t⟩
def qae.fresh (m:qae):qae:={ m with sel:=true,op:=OpR.zero,stage:=0,left:=8,got:=0,addr:=0,mode:=0,moded:=false,data:=[],told:=0,now:=0,beyond:=false }
def qae.select (m:qae):qae:=if m.goes then m.fresh.begins 235 else m.fresh
def anew:Array Value := #[.int .i64 0,.int .i64 0,.bool false,.int .i64 0,.int .i64 0,.bool false,.int .i64 0,.int .i64 8,.int .i64 0,.int .i64 0,.int .i64 0,.bool false,.slice none 0 0,.int .i64 0,.int .i64 0,.bool false]
theorem qtk:anew.all (·.oneCell')=true:=by simp [anew,Value.oneCell']
theorem qvp:(Tryz.prog.info? 127).map (·.size)=some anew.size:=by kernel_rfl
def Raw.fresh (s:Raw):Raw:={ s with sel:=true,op:=OpR.zero,stage:=0,left:=8,got:=0,addr:=0,mode:=0,moded:=false,data:=.slice none 0 0,told:=0,now:=0,beyond:=false }
theorem qud {w:World} {c:Nat} {s:Raw} (h:qas w c { s with sel:=true }):qas (w.setRow c (putAt ({ s with sel:=true }:Raw).row 20 anew.toList)) c s.fresh:=by
 have e:putAt ({ s with sel:=true }:Raw).row 20 anew.toList=s.fresh.row:=by simp [putAt,anew,Raw.row,OpR.zero,Raw.fresh]
 rw [e]
 exact setRow_heap w c _ _ 131 (0,0) h
theorem qpS {w w':World} {c:Nat} {s:Raw} {m:qae} {F:Nat→Prop} (h:qaw w c s m F) (g:qas w' c s.fresh) (t:Touch (Only c) w w'):qaw w' c s.fresh m.fresh F:=by
 have hs:=h.says
 have hO : ∀ b,Only c b→F b:=fun b e=>by rw [show b=c from e];exact h.own
 exact ⟨g,⟨hs.cells,hs.prot,hs.quad,rfl,hs.en,hs.goes,rfl,rfl,rfl,rfl,rfl,rfl,rfl,rfl,rfl,rfl,hs.once⟩,h.job.only h.raw t,h.busy.touch t hO,World.ownsRow_nil _ _ _ _,h.own,h.ownJob,(fun g e=>nomatch e),fun b hb=>Nat.lt_of_lt_of_le (h.lt b hb) t.size⟩
theorem qhx (c:Nat) (m:qae) (F:Nat→Prop) (w:World) (h:qan w c m F) (hsel:m.sel=false):Calls Tryz.prog 195 #[.pointer (some ⟨c,0,none⟩)] w fun e w'=>e=.returned (.int .i64 0)∧qan w' c m.select F∧Touch (Only c) w w':=by
 obtain ⟨s,h⟩:=h.open
 have hs:=h.says
 have c15:w.cell? ⟨c,15,none⟩=some (.bool false):=by rw [← hsel,← hs.sel];exact qaa h.raw 15
 have hf : ∀ i,w.frozen? ⟨c,i,none⟩=false:=fun i=>qah h.raw i
 have h1:qas (w.setCell ⟨c,15,none⟩ (.bool true)) c { s with sel:=true }:=qag (i:=15) (v:=.bool true) h.raw
 have t1:Touch (Only c) w (w.setCell ⟨c,15,none⟩ (.bool true)):=(Touch.refl (Only c) w).set c 15 _ rfl
 have HH:=zH h
 have hgo:=hs.goes
 clear h hs hsel
 go_enter Tryz.func195,Tryz.ntmps195
 go_upto_region 6 with (fail)
 generalize w.setCell ⟨c,15,none⟩ (.bool true)=w1 at *
 apply wp_region_lit
 refine Go.Great.wpList_readTo rfl (some 16) rfl (.pointer (some ⟨c,0,none⟩)) rfl ?_
 refine Go.wpList_callTo rfl (some 17) rfl 204 #[.int .i64 1] (by first | kernel_rfl | (simp [execOp,go_sem];done)) (.int .i64 8) w1 ((qbH 1 w1 (.inl rfl)).mono (fun e w' h=>⟨h.1,h.2⟩)) ?_
 refine Go.Great.wpList_readTo rfl (some 18) rfl (.agg anew) (by kernel_rfl) ?_
 refine Go.Great.wpList_readTo rfl (some 19) rfl (.pointer (some ⟨c,0,none⟩)) rfl ?_
 refine Go.Great.wpList_readTo rfl (some 20) rfl (.pointer (some ⟨c,15,none⟩)) rfl ?_
 refine Go.Great.wpList_readTo rfl (some 21) rfl (.pointer (some ⟨c,20,none⟩)) rfl ?_
 refine qaX rfl 127 _ _ rfl c 20 anew rfl rfl 131 ({ s with sel:=true }:Raw).row h1 qvp (Nat.le_refl 36) qtk ?_
 have h2:=qud h1
 have t2:Touch (Only c) w (w1.setRow c (putAt ({ s with sel:=true }:Raw).row 20 anew.toList)):=qcM t1 c _ rfl
 generalize w1.setRow c (putAt ({ s with sel:=true }:Raw).row 20 anew.toList)=w2 at *
 have h3:=qpS HH.out h2 t2
 have c17:w2.cell? ⟨c,17,none⟩=some (.bool m.goes):=by rw [← hgo];exact qaa h2 17
 have HB:=zH (qee c s.fresh m.fresh F 235 w2 h3)
 have HT:=zH (zA h3 t2)
 clear h1 t1 h2 t2 h3 c15 hf HH hgo
 cases hg:m.goes with
 | false =>
  rw [hg] at c17
  go_wp2_with fail
  go_ret
  exact ⟨rfl,by rw [show m.select=m.fresh by unfold qae.select;rw [hg];rfl];exact HT.out.1.shut,HT.out.2⟩
 | true =>
  rw [hg] at c17
  go_wp2_with fail
  refine HB.out.mono ?_
  rintro e w3 ⟨rfl,g3,t3⟩
  go_wp2_with fail
  go_ret
  exact ⟨rfl,by rw [show m.select=m.fresh.begins 235 by unfold qae.select;rw [hg];rfl];exact g3.shut,HT.out.2.trans t3⟩
end
section
open Go.RowKit
theorem qij (c:Nat) (m:qae) (F:Nat→Prop) (w:World) (h:qan w c m F):Calls Tryz.prog 39 #[.pointer (some ⟨c,0,none⟩)] w fun e w'=>e=.returned (.string m.cells)∧w'=w:=by
 obtain ⟨s,h⟩:=h.open
 have c0:w.cell? ⟨c,0,none⟩=some (.string m.cells):=by rw [← h.says.cells];exact qaa h.raw 0
 clear h
 go_enter Tryz.func39,Tryz.ntmps39
 go_wp2
 go_ret
 exact ⟨rfl,rfl⟩
def qkN (er:Int) (c:Nat) (m:qae) (F:Nat→Prop) (w:World) (e:Ending) (w':World):Prop:=e=.returned (.int .i64 er) ∧ ∃ F',qan w' c m F'∧Step F F' w w'
def qae.unsel (m:qae):qae:={ m with sel:=false }
def qae.deselect (m:qae):qae:=m.unsel.ends
theorem qf3 (c:Nat) (m:qae) (F:Nat→Prop) (w:World) (h:qan w c m F) (ok:m.Ok) (hsel:m.sel=true) (put:m.op.byte=1→m.stage≠0→m.stage≠1→m.whole=true → ∀ w',qan w' c m.unsel F→Calls Tryz.prog 209 #[.pointer (some ⟨c,0,none⟩)] w' (qbv c m.unsel.does F w')):Calls Tryz.prog 197 #[.pointer (some ⟨c,0,none⟩)] w (qkN 0 c m.deselect F w):=by
 obtain ⟨s,h⟩:=h.open
 have hs:=h.says
 have c15:w.cell? ⟨c,15,none⟩=some (.bool true):=by rw [← hsel,← hs.sel];exact qaa h.raw 15
 have hf : ∀ i,w.frozen? ⟨c,i,none⟩=false:=fun i=>qah h.raw i
 have t:Touch (Only c) w (w.setCell ⟨c,15,none⟩ (.bool false)):=(Touch.refl (Only c) w).set c 15 _ rfl
 have h1:=h.block (s':={ s with sel:=false }) (m':=m.unsel) (w':=w.setCell ⟨c,15,none⟩ (.bool false)) (qag (i:=15) (v:=.bool false) h.raw) ⟨hs.cells,hs.prot,hs.quad,rfl,hs.en,hs.goes,hs.op,hs.stage,hs.left,hs.got,hs.addr,hs.mode,hs.moded,hs.told,hs.now,hs.beyond,hs.once⟩ t rfl rfl rfl rfl rfl rfl
 have HE:=zH (qjC c m.unsel F _ h1.shut ⟨ok.size,ok.job,ok.addr0,ok.addr1,ok.op,ok.data⟩ (fun e1 e2 e3 e4=>put e1 e2 e3 e4 _ h1.shut))
 have st:=zH (h.step t)
 clear h hs ok put h1 t hsel
 go_enter Tryz.func197,Tryz.ntmps197
 go_wp2_with fail
 refine HE.out.mono ?_
 rintro e w1 ⟨rfl,F',hC,t1⟩
 go_wp2_with fail
 go_ret
 exact ⟨rfl,F',hC,st.out.trans t1⟩
def qae.loss (m:qae) (mask:ByteArray):qae :=
 { m with cells:=(match m.job with | none=>m.cells | some j=>jobCells j m.cells mask),sel:=false,en:=false,goes:=false,job:=none,busy:=[],op:=OpR.zero,stage:=0,left:=0,got:=0,addr:=0,mode:=0,moded:=false,data:=[],told:=0,now:=0,beyond:=false }
theorem qlZ {w w':World} {c:Nat} {s s':Raw} {m:qae} {F:Nat→Prop} (mask:ByteArray) (h:qaw w c s m F) (g:qas w' c s') (t:Touch F w w') (e:s'={ s with cells:=(m.loss mask).cells,sel:=false,en:=false,goes:=false,job:=none,busy:=.slice none 0 0,stage:=0,left:=0,got:=0,addr:=0,mode:=0,moded:=false,data:=.slice none 0 0,told:=0,now:=0,beyond:=false,op:=OpR.zero }):qkN 0 c (m.loss mask) F w (.returned (.int .i64 0)) w':=by
 subst e
 have hs:=h.says
 exact ⟨rfl,F,qaw.shut ⟨g,⟨rfl,hs.prot,hs.quad,rfl,rfl,rfl,rfl,rfl,rfl,rfl,rfl,rfl,rfl,rfl,rfl,rfl,hs.once⟩,rfl,⟨none,0,rfl,qal.nil _ _,(fun b o e=>nomatch e),fun _=>rfl,Nat.le_refl _,(fun b o e=>nomatch e)⟩,World.ownsRow_nil _ _ _ _,h.own,(fun b e=>nomatch e),(fun g e=>nomatch e),fun b hb=>Nat.lt_of_lt_of_le (h.lt b hb) t.size⟩,Step.of_touch t⟩
def gone:Array Value := #[.bool false,.bool false,.bool false,.pointer none,.slice none 0 0,.int .i64 0,.int .i64 0,.bool false,.int .i64 0,.int .i64 0,.bool false,.int .i64 0,.int .i64 0,.int .i64 0,.int .i64 0,.int .i64 0,.bool false,.slice none 0 0,.int .i64 0,.int .i64 0,.bool false]
theorem qph {w:World} {c:Nat} {s:Raw} (h:qas w c s):qas (w.setRow c (putAt s.row 15 gone.toList)) c { s with sel:=false,en:=false,goes:=false,job:=none,busy:=.slice none 0 0,stage:=0,left:=0,got:=0,addr:=0,mode:=0,moded:=false,data:=.slice none 0 0,told:=0,now:=0,beyond:=false,op:=OpR.zero }:=by
 have e:putAt s.row 15 gone.toList=({ s with sel:=false,en:=false,goes:=false,job:=none,busy:=.slice none 0 0,stage:=0,left:=0,got:=0,addr:=0,mode:=0,moded:=false,data:=.slice none 0 0,told:=0,now:=0,beyond:=false,op:=OpR.zero }:Raw).row:=by
  simp [putAt,gone,Raw.row,OpR.zero]
 rw [e]
 exact setRow_heap w c s.row _ 131 (0,0) h
theorem qoU:gone.all (·.oneCell')=true:=by simp [gone,Value.oneCell']
theorem qrX:(Tryz.prog.info? 129).map (·.size)=some gone.size:=by kernel_rfl
theorem qjD (c:Nat) (m:qae) (F:Nat→Prop) (w:World) (h:qan w c m F) (ok:m.Ok) (mask:ByteArray) (hm:mask.size≤4096):Calls Tryz.prog 34 #[.pointer (some ⟨c,0,none⟩),.string mask] w (qkN 0 c (m.loss mask) F w):=by
 obtain ⟨s,h⟩:=h.open
 have hs:=h.says
 have hO : ∀ b,Only c b→F b:=fun b e=>by rw [show b=c from e];exact h.own
 have c18:w.cell? ⟨c,18,none⟩=some (.pointer s.job):=qaa h.raw 18
 cases hj:m.job with
 | none =>
  have hjn:s.job=none:=by have:=h.job;rw [hj] at this;exact this
  rw [hjn] at c18
  have HL:=zH (qlZ mask h (qph h.raw) (qcM (Touch.refl F w) c _ h.own) (by
   have e:(m.loss mask).cells=m.cells:=by unfold qae.loss;rw [hj]
   rw [e,← hs.cells]))
  have hraw:=zH h.raw
  clear h hs hj hjn
  go_enter Tryz.func34,Tryz.ntmps34
  go_upto_region 5 with (fail)
  apply wp_region_lit
  refine Go.Great.wpList_readTo rfl (some 27) rfl (.pointer (some ⟨c,0,none⟩)) rfl ?_
  refine Go.Great.wpList_readTo rfl (some 28) rfl (.agg gone) (by kernel_rfl) ?_
  refine Go.Great.wpList_readTo rfl (some 29) rfl (.pointer (some ⟨c,0,none⟩)) rfl ?_
  refine Go.Great.wpList_readTo rfl (some 30) rfl (.pointer (some ⟨c,15,none⟩)) rfl ?_
  refine qaX rfl 129 _ _ rfl c 15 gone rfl rfl 131 s.row hraw.out qrX (Nat.le_refl 36) qoU ?_
  go_wp2_with fail
  go_ret
  exact HL.out
 | some j =>
  obtain ⟨jb,hjb,hb⟩ : ∃ jb,s.job=some ⟨jb,0,none⟩∧w.heap[jb]? = some (.cells j.row 192 (0,0)):=by have:=h.job;rw [hj] at this;exact this
  rw [hjb] at c18
  have c0:w.cell? ⟨c,0,none⟩=some (.string s.cells):=qaa h.raw 0
  have hlt:=h.raw.lt
  have HJ:=zH (qfq jb j s.cells mask w.drew hb (ok.job j hj).1 (by rw [hs.cells];exact ok.size) hm)
  have HR:=zH h
  have hcl:jobCells j s.cells mask=(m.loss mask).cells:=by unfold qae.loss;rw [hj,hs.cells]
  have HCL:=zH hcl
  generalize jobCells j s.cells mask=r at *
  have hraw:=zH h.raw
  clear h hs hj hb hcl
  go_enter Tryz.func34,Tryz.ntmps34
  go_upto_region 4 with (fail)
  go_region_with (go_at_call 64;(with_reducible refine HJ.out.mono ?_);rintro e w3 ⟨rfl,hb3⟩;have hb13:=gtr (qai (Below.refl _ w)) hb3;have h3:=hraw.out.later hb13;have c0':w3.cell? ⟨c,0,none⟩=some (.string s.cells):=qaa h3 0;have hf3 : ∀ i,w3.frozen? ⟨c,i,none⟩=false:=fun i=>qah h3 i)
  all_goals
   have H1:qas (w3.setCell ⟨c,0,none⟩ (.string r)) c { s with cells:=r }:=qag (i:=0) (v:=.string r) h3
   have T1:Touch F w (w3.setCell ⟨c,0,none⟩ (.string r)):=(Touch.of_below hb13).set c 0 _ HR.out.own
   have HL:=zH (qlZ mask HR.out (qph H1) (qcM T1 c _ HR.out.own) (by rw [← HCL.out]))
   have H1':=zH H1
   clear H1 T1 h3
   go_upto_region 5 with (fail)
   apply wp_region_lit
   refine Go.Great.wpList_readTo rfl (some 27) rfl (.pointer (some ⟨c,0,none⟩)) rfl ?_
   refine Go.Great.wpList_readTo rfl (some 28) rfl (.agg gone) (by kernel_rfl) ?_
   refine Go.Great.wpList_readTo rfl (some 29) rfl (.pointer (some ⟨c,0,none⟩)) rfl ?_
   refine Go.Great.wpList_readTo rfl (some 30) rfl (.pointer (some ⟨c,15,none⟩)) rfl ?_
   refine qaX rfl 129 _ _ rfl c 15 gone rfl rfl 131 ({ s with cells:=r }:Raw).row H1'.out qrX (Nat.le_refl 36) qoU ?_
   go_wp2_with fail
   go_ret
   exact HL.out
end
section
open Go.RowKit
def qlE (xs:List Int) (w:World) (e:Ending) (w':World):Prop := ∃ a c,e=.returned (.slice a xs.length c)∧w'.ownsRow w.heap.size 3 1 (.slice a xs.length c) xs.length (intVals xs)∧Below w.heap.size w w'
theorem qjG (a:Option Addr) (c:Nat) (xs:List Int) (w:World) (h1:qal w a xs) (hn:a=none→c=0) (hm:xs.length * 8≤140737488355328):Calls Tryz.prog 56 #[.slice a xs.length c] w (qlE xs w):=by
 have kn:=fun (w:World) (x:Option Addr) (n c:Nat)=>Lib.run_eql_slice_nil (P:=Tryz.prog) w 22 3 x n c 0 0 Tryz.underlying22
 cases a with
 | none =>
  obtain rfl:c=0:=hn rfl
  have hx:xs=[]:=by
   cases xs with
   | nil=>rfl
   | cons x r=>obtain ⟨b,o,h,_⟩:=h1 0 (by simp);cases h
  subst hx
  go_enter Tryz.func56,Tryz.ntmps56
  go_wp2_with fail
  go_ret
  exact ⟨_,_,rfl,World.ownsRow_nil _ _ _ _,Below.refl _ _⟩
 | some ad =>
  obtain ⟨i0,hi,hz0,hz1,hz2⟩:=info_parts qcD
  have HI:=zH h1
  clear h1
  go_enter Tryz.func56,Tryz.ntmps56
  go_wp2_with (at_builtin;refine wpList_append_own _ rfl _ _ 22 rfl w.heap.size 3 i0 (.int .i64 0) 1 8 Tryz.underlying22 hi hz0 hz1 hz2 rfl (by decide) _ 0 [] rfl (qgn w 3 1 _ (Nat.le_refl _)) ad xs.length c (intVals xs) rfl (qiP xs) ?c1 (qiQ xs) ?c2 ?c3 ?c4 ?_)
  case c1 =>
   intro j u hu
   obtain ⟨hj,rfl⟩:=qiO xs j u hu
   obtain ⟨b,off,ha,hcell⟩:=HI.out j hj
   obtain rfl:ad=⟨b,off,none⟩:=by simpa using ha
   have hlt:=World.block_lt_of_cell? w _ hcell
   rw [qaP,World.cell?_alloc_lt _ _ _ hlt]
   exact hcell
  case c2=>simp only [maxLen];omega
  case c3=>omega
  case c4=>simp
  intro v' w' hown hg _
  go_wp2_with fail
  go_ret
  have hown2:w'.ownsRow w.heap.size 3 1 v' xs.length (intVals xs):=by simpa using hown
  obtain ⟨a',c',rfl,_⟩:=qar.of_own hown
  exact ⟨a',c',rfl,hown2,qa0 (qac (Below.refl _ _) _) hg (fun k hk=>by simp [Value.ownBlock] at hk;omega)⟩
theorem qua {w:World} {B:Nat} {a:Option Addr} {c:Nat} {xs:List Int} {F:Nat→Prop} (h:w.ownsRow B 3 1 (.slice a xs.length c) xs.length (intVals xs)) (hF : ∀ b,B≤b → ¬ F b) : ∃ hm,(0<xs.length→B≤hm)∧qjX w (.slice a xs.length c) xs hm F:=by
 obtain ⟨a',c',e,hi⟩:=(qar.of_own h).ints
 obtain ⟨rfl,rfl⟩:a=a'∧c=c':=by simpa using e
 rcases h.2 with ⟨e2,hn⟩ | ⟨g,cap,cur,e2,hb,hg,hnc,_⟩
 ·
  obtain ⟨rfl,e3,rfl⟩:a=none∧xs.length=0∧c=0:=by simpa using e2
  exact ⟨0,fun hl=>by omega,none,0,rfl,hi,(fun b o e=>nomatch e),fun _=>rfl,by omega,(fun b o e=>nomatch e)⟩
 ·
  obtain ⟨rfl,rfl⟩:a=some ⟨g,0,none⟩∧c=cap:=by simpa using e2
  exact ⟨g,fun _=>hb,_,_,rfl,hi,fun b o e hl=>by
   obtain ⟨rfl,rfl⟩:g=b∧0=o:=by simpa using e
   exact hF _ hb,(fun e=>nomatch e),hnc,fun b o e hl=>by
   obtain ⟨rfl,rfl⟩:g=b∧0=o:=by simpa using e
   rfl⟩
theorem qvy:Tells 54 (fun n=>decide (n<1) || decide (400<n)) where
 calls n w:=by
  go_enter Tryz.func54,Tryz.ntmps54
  go_wp2
  all_goals
   go_ret
   refine ⟨?_,rfl⟩
   simp_all
   try omega
 run args w:=by go_simp
def qtd (c:Nat) (m:qae) (xs:List Int) (F:Nat→Prop) (w:World) (e:Ending) (w':World):Prop :=
 e=.returned (.int .i64 0) ∧ ∃ (hm:Nat) (F':Nat→Prop),(0<xs.length→w.heap.size≤hm)∧qan w' c { m with busy:=xs,home:=hm } F'∧Step F F' w w'
theorem qjE (c:Nat) (m:qae) (F:Nat→Prop) (a:Option Addr) (cap:Nat) (xs:List Int) (w:World) (h:qan w c m F) (hi:qal w a xs) (hn:a=none→cap=0) (hl:xs.length≤16) (hx : ∀ x ∈ xs,1≤x∧x≤400):Calls Tryz.prog 30 #[.pointer (some ⟨c,0,none⟩),.slice a xs.length cap] w (qtd c m xs F w):=by
 obtain ⟨s,h⟩:=h.open
 have hs:=h.says
 have c19:w.cell? ⟨c,19,none⟩=some s.busy:=qaa h.raw 19
 have hany:xs.any (fun n=>decide (n<1) || decide (400<n))=false:=by
  rw [List.any_eq_false]
  intro x hxm
  have:=hx x hxm
  simp;omega
 have HC:=zH (qbf 54 _ qvy a cap xs w hi (by omega))
 rw [hany] at HC
 have HL:=zH (fun n=>qjG a cap xs (w.drewN n) (hi.later (qao (Below.refl _ _) n)) hn (by omega))
 have hl' : ¬ (16:Int)<(xs.length:Int):=by omega
 have HH:=zH h
 clear h hs hany hx hi hl
 go_enter Tryz.func30,Tryz.ntmps30
 go_wp2_with fail
 refine HC.out.mono ?_
 rintro e w1 ⟨rfl,n1,rfl⟩
 go_wp2_with fail
 refine (HL.out n1).mono ?_
 rintro e w2 ⟨a2,c2,rfl,hown,hb⟩
 have hb2:Below w.heap.size w w2:=gtr (qao (Below.refl _ _) n1) hb
 have h2:=HH.out.later hb2
 have k19:w2.cell? ⟨c,19,none⟩=some s.busy:=qaa h2.raw 19
 have hf : ∀ i,w2.frozen? ⟨c,i,none⟩=false:=fun i=>qah h2.raw i
 have hr:qas (w2.setCell ⟨c,19,none⟩ (.slice a2 xs.length c2)) c { s with busy:=.slice a2 xs.length c2 }:=qag (i:=19) (v:=.slice a2 xs.length c2) h2.raw
 have t:Touch (Only c) w2 (w2.setCell ⟨c,19,none⟩ (.slice a2 xs.length c2)):=(Touch.refl (Only c) w2).set c 19 _ rfl
 have hs:=h2.says
 obtain ⟨hm,hm1,hbz⟩:=qua (F:=F) hown (fun b hb' hF=>Nat.lt_irrefl _ (Nat.lt_of_lt_of_le (HH.out.lt b hF) hb'))
 have HM1:=zH hm1
 have hO : ∀ b,Only c b→F b:=fun b e=>by rw [show b=c from e];exact h2.own
 have hd:(w2.setCell ⟨c,19,none⟩ (.slice a2 xs.length c2)).ownsRow 0 3 1 s.data m.data.length (intVals m.data):=qbR h2.data t (fun g hg e=>by
  obtain ⟨cur,hc⟩:=qbP h2.data hg
  rw [show g=c from e] at hc
  have:=hc.symm.trans h2.raw;simp at this)
 have h3:qaw (w2.setCell ⟨c,19,none⟩ (.slice a2 xs.length c2)) c { s with busy:=.slice a2 xs.length c2 } { m with busy:=xs,home:=hm } F :=
  ⟨hr,⟨hs.cells,hs.prot,hs.quad,hs.sel,hs.en,hs.goes,hs.op,hs.stage,hs.left,hs.got,hs.addr,hs.mode,hs.moded,hs.told,hs.now,hs.beyond,hs.once⟩,h2.job.only h2.raw t,hbz.touch t hO,hd,h2.own,h2.ownJob,h2.ownData,fun b hb=>Nat.lt_of_lt_of_le (h2.lt b hb) t.size⟩
 have HR:=zH (zA h3.shut ((Step.of_below hb2).trans (Step.of_touch (t.mono hO))))
 clear h3 hd hr t hs hbz h2 hb2 hown hb hm1
 go_wp2_with fail
 go_ret
 exact ⟨rfl,hm,F,fun hl=>HM1.out hl,HR.out.1,HR.out.2⟩
end
end Go.Proofs.YtcfdenckiigdaaaGreat

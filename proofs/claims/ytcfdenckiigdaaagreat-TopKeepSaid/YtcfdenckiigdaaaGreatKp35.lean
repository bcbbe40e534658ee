/- Part 35 of the contracts. -/
import Derived.Test.YtcfdenckiigdaaaGreatKp34
set_option linter.unusedVariables false
set_option maxRecDepth 100000
set_option maxHeartbeats 4000000
namespace Go.Proofs.YtcfdenckiigdaaaGreat
section
def Core.works (c:Core):Bool:=worksB c.job
theorem qba {c:Core} (h:c.works=false):c.still:=by
 unfold Core.still Core.pass
 unfold Core.works worksB at h
 cases hj:c.job with
 | none=>rfl
 | some j=>rw [hj] at h;simp only;rw [if_pos (by simpa using h)]
variable {c:Core} {op:OpR} {a mo t nw:Int} {md:Bool} {ds:List Int} {h:Nat}
theorem qbG (b:Int) (hk:(K c op 0 8 a mo md ds t nw h).known b=true):(K c op 0 8 a mo md ds t nw h).begins b=if 0<(opRow b).addr then K c (opRow b) 2 (if (opRow b).addr=1 then 24 else 6) a mo md ds t nw h else qae.behind (K c (opRow b) 0 8 a mo md ds t nw h):=by
 unfold qae.begins
 rw [if_neg (by rw [hk];decide)]
 rfl
def Eff (ps:List Ph) (c:Core) (xs:List Int) (c':Core):Prop := ∀ (m:qae),m.sel=false→m.core=c→Ends ps m.select [] fun m2 o=>m2.deselect.core=c'∧o=xs
theorem qbE {m:qae} (hc:m.core=c) (hg:c.goes=false):m.select=K c OpR.zero 0 8 0 0 false [] 0 0 m.home:=by
 unfold qae.select
 have e:m.goes=false:=by rw [← hg,← hc];rfl
 rw [e]
 subst hc
 rfl
theorem qkA {m:qae} (hc:m.core=c) (hg:c.goes=true) (hq:c.quad=true) (hw:c.works=false):m.select=K c (opRow 235) 2 6 0 0 false [] 0 0 m.home:=by
 unfold qae.select
 have e:m.goes=true:=by rw [← hg,← hc];rfl
 rw [if_pos e,qvj,hc]
 have hw':(K c OpR.zero 0 8 0 0 false [] 0 0 m.home).works=false:=hw
 rw [qbG 235 (by simp [qae.known,qae.takes,opErr,opRow,qcj,hw'];exact hq)]
 simp [opRow,qcj]
def K0 (c:Core) (op:OpR) (st left addr mode:Int) (moded:Bool) (data:List Int) (told now:Int) (h:Nat):qae:={ K c op st left addr mode moded data told now h with sel:=false }
theorem qcu (st left:Int) (h0:st≠0) (h1:st≠1) (hw:(K0 c op st left a mo md ds t nw h).whole=true):(K c op st left a mo md ds t nw h).deselect=(K0 c op st left a mo md ds t nw h).does:=by
 unfold qae.deselect qae.ends
 show (if (K0 c op st left a mo md ds t nw h).stage=0∨(K0 c op st left a mo md ds t nw h).stage=1∨(K0 c op st left a mo md ds t nw h).whole=false then _ else _)=_
 rw [if_neg]
 ·
  rfl
 ·
  rintro (e | e | e)
  ·
   exact h0 e
  ·
   exact h1 e
  ·
   rw [hw] at e;cases e
theorem qiT (b:Int) (hb:b=5∨b=53∨b=117):(K c op 0 8 a mo md ds t nw h).known b=true:=by
 rcases hb with rfl | rfl | rfl <;> simp [qae.known,qae.takes,opErr,opRow,qcj]
theorem qe9 (b:Int) (hb:b=6∨b=90∨b=122∨b=159) (hw:c.works=false):(K c op 0 8 a mo md ds t nw h).known b=true:=by
 have hw':(K c op 0 8 a mo md ds t nw h).works=false:=hw
 rcases hb with rfl | rfl | rfl | rfl <;> simp [qae.known,qae.takes,opErr,opRow,qcj,hw']
theorem qkj (b:Int) (hb:b=107∨b=235) (hq:c.quad=true) (hw:c.works=false):(K c op 0 8 a mo md ds t nw h).known b=true:=by
 have hw':(K c op 0 8 a mo md ds t nw h).works=false:=hw
 have hq':(K c op 0 8 a mo md ds t nw h).quad=true:=hq
 rcases hb with rfl | rfl <;> simp [qae.known,qae.takes,opErr,opRow,qcj,hw',hq']
theorem qgV (b:Int) (hb:b=1∨b=2∨b=32) (hj:c.job=none):(K c op 0 8 a mo md ds t nw h).known b=true:=by
 have hj':(K c op 0 8 a mo md ds t nw h).job=none:=hj
 rcases hb with rfl | rfl | rfl <;> simp [qae.known,qae.takes,opErr,opRow,qcj,hj']
theorem qgP (b:Int) (h0:0≤b) (h1:b<256) (hk:(K (c.passN 8) OpR.zero 0 8 0 0 false [] 0 0 h).known b=true) (hr:opRow b=⟨b,0,false,0,0,false⟩) {P:qae→List Int→Prop} (hP:P (K (c.passN 8) (opRow b) 7 0 0 0 false [] 0 0 h) []):Ends [⟨1,[b],0,0⟩] (K c OpR.zero 0 8 0 0 false [] 0 0 h) [] P:=by
 refine Ends.puts (Ends.nil ?_)
 rw [qcU b h0 h1,qbG b hk,if_neg (by rw [hr];exact Int.lt_irrefl 0)]
 have e:qae.behind (K (c.passN 8) (opRow b) 0 8 0 0 false [] 0 0 h)=K (c.passN 8) (opRow b) 7 0 0 0 false [] 0 0 h:=by
  unfold qae.behind qae.enter
  rw [hr]
  simp [K]
 rw [e]
 exact hP
theorem qty (hg:c.goes=false) (hw:c.works=false):Eff (cmdPhases (opRow 6) 0 [] 0) c [] { c with en:=true }:=fun m hs hm=>by
 rw [qbE hm hg]
 have st:=qbJ (qba hw) 8
 refine qgP 6 (by decide) (by decide) (by rw [st];exact qe9 6 (by simp) hw) rfl ⟨?_,rfl⟩
 rw [st,qcu 7 0 (by decide) (by decide) rfl]
 rfl
def Core.suspends (c:Core):Core:=match c.job with | some j=>if j.sector = -1 then c else { c with job:=some { j with susp:=true } } | none=>c
def Core.resumes (c:Core):Core:=match c.job with | some j=>{ c with job:=some { j with susp:=false } } | none=>c
theorem qlu (m:qae):m.suspends.core=m.core.suspends:=by
 obtain ⟨a1,a2,a3,a4,a5,a6,job,a7,a8,a9,a10,a11,a12,a13,a14,a15,a16,a17,a18,a19⟩:=m
 cases job with
 | none=>rfl
 | some j =>
  show (if j.sector = -1 then _ else _:qae).core=if j.sector = -1 then _ else _
  split <;> rfl
theorem qmP (m:qae):m.resumes.core=m.core.resumes:=by
 obtain ⟨a1,a2,a3,a4,a5,a6,job,a7,a8,a9,a10,a11,a12,a13,a14,a15,a16,a17,a18,a19⟩:=m
 cases job <;> rfl
theorem qvd (hg:c.goes=false):Eff (cmdPhases (opRow 117) 0 [] 0) c [] (c.passN 8).suspends:=fun m hs hm=>by
 rw [qbE hm hg]
 refine qgP 117 (by decide) (by decide) (qiT 117 (by simp)) rfl ⟨?_,rfl⟩
 rw [qcu 7 0 (by decide) (by decide) rfl]
 show (qae.suspends _).core=_
 exact qlu _
theorem qve (hg:c.goes=false) (hw:c.works=false):Eff (cmdPhases (opRow 122) 0 [] 0) c [] c.resumes:=fun m hs hm=>by
 rw [qbE hm hg]
 have st:=qbJ (qba hw) 8
 refine qgP 122 (by decide) (by decide) (by rw [st];exact qe9 122 (by simp) hw) rfl ⟨?_,rfl⟩
 rw [st,qcu 7 0 (by decide) (by decide) rfl]
 show (qae.resumes _).core=_
 exact qmP _
def Core.first (c:Core):Int:=qu1 c.works c.en c.prot
def Core.second (c:Core):Int:=qpK c.quad (match c.job with | none=>false | some j=>j.susp)
theorem qiy (b:Int) (h0:0≤b) (h1:b<256) (hk:(K (c.passN 8) OpR.zero 0 8 0 0 false [] 0 0 h).known b=true) (hr:opRow b=⟨b,0,false,0,1,false⟩) {P:qae→List Int→Prop} (v:Int) (hv:(K (c.passN 9) (opRow b) 6 0 0 0 false [] 0 0 h).byteAt 0=v) (hP:P (K (c.passN 16) (opRow b) 6 0 0 0 false [] 1 v h) [v]):Ends [⟨1,[b],0,0⟩,⟨1,[],0,1⟩] (K c OpR.zero 0 8 0 0 false [] 0 0 h) [] P:=by
 refine Ends.puts ?_
 rw [qcU b h0 h1,qbG b hk,if_neg (by rw [hr];exact Int.lt_irrefl 0)]
 have e:qae.behind (K (c.passN 8) (opRow b) 0 8 0 0 false [] 0 0 h)=K (c.passN 8) (opRow b) 6 0 0 0 false [] 0 0 h:=by
  unfold qae.behind qae.enter
  rw [hr]
  simp [K]
 rw [e]
 refine Ends.get (.inl rfl) (by rw [hr]) v ?_ ?_
 ·
  rw [← hv,show c.passN 9=(c.passN 8).pass from qcl 8 1 c]
 ·
  rw [show (c.passN 8).passN (many 1).toNat=c.passN 16 from (qcl 8 8 c).symm]
  exact hP
theorem qv8 (hg:c.goes=false):Eff (cmdPhases (opRow 5) 0 [] 1) c [(c.passN 9).first] (c.passN 16):=fun m hs hm=>by
 rw [qbE hm hg]
 refine qiy 5 (by decide) (by decide) (qiT 5 (by simp)) rfl (c.passN 9).first rfl ⟨?_,rfl⟩
 rw [qcu 6 0 (by decide) (by decide) rfl]
 rfl
theorem qv9 (hg:c.goes=false):Eff (cmdPhases (opRow 53) 0 [] 1) c [(c.passN 9).second] (c.passN 16):=fun m hs hm=>by
 rw [qbE hm hg]
 refine qiy 53 (by decide) (by decide) (qiT 53 (by simp)) rfl (c.passN 9).second rfl ⟨?_,rfl⟩
 rw [qcu 6 0 (by decide) (by decide) rfl]
 rfl
theorem qvf (hg:c.goes=false) (hw:c.works=false):Eff (cmdPhases (opRow 159) 0 [] 3) c [239,64,12] c:=fun m hs hm=>by
 rw [qbE hm hg]
 have st:=fun n=>qbJ (qba hw) n
 show Ends [⟨1,[159],0,0⟩,⟨1,[],0,3⟩] _ _ _
 refine Ends.puts ?_
 rw [qcU 159 (by decide) (by decide),st,qbG 159 (qe9 159 (by simp) hw),if_neg (by decide)]
 refine Ends.gets (op:=opRow 159) (.inl rfl) rfl (qba hw) fun nw'=>⟨?_,rfl⟩
 rw [qcu 6 0 (by decide) (by decide) rfl]
 rfl
theorem qwa (hg:c.goes=false) (hw:c.works=false):Eff (cmdPhases (opRow 90) 0 [] 32) c (comes c (opRow 90) 0 0 32) c:=fun m hs hm=>by
 rw [qbE hm hg]
 have st:=fun n=>qbJ (qba hw) n
 show Ends [⟨1,[90],0,0⟩,⟨1,[0,0 / 256,0 % 256],0,0⟩,⟨0,[],8,0⟩,⟨1,[],0,32⟩] _ _ _
 refine Ends.puts ?_
 rw [qcU 90 (by decide) (by decide),st,qbG 90 (qe9 90 (by simp) hw),if_pos (by decide)]
 refine Ends.puts ?_
 rw [show (if (opRow 90).addr=1 then (24:Int) else 6)=if (1:Int)=1 then 24 else 6 from rfl,qdI 1 0 (.inl rfl) rfl (by decide) (by decide),st]
 refine Ends.dummy ?_
 rw [show qae.behind (K c (opRow 90) 2 0 0 0 false [] 0 0 m.home)=K c (opRow 90) 4 ((7+1:Nat):Int) 0 0 false [] 0 0 m.home from rfl,show (8:Int).toNat=7+1 from rfl,qe4 7 c,st]
 refine Ends.gets (op:=opRow 90) (.inl rfl) rfl (qba hw) fun nw'=>⟨?_,rfl⟩
 rw [qcu 6 0 (by decide) (by decide) rfl]
 rfl
theorem qvc (p:Int) (n:Nat) (h0:0≤p) (h1:p<4096) (hn:0<n) (hg:c.goes=false) (hq:c.quad=true) (hw:c.works=false):Eff (cmdPhases (opRow 107) p [] n) c (comes c (opRow 107) p 0 n) c:=fun m hs hm=>by
 rw [qbE hm hg]
 have st:=fun n=>qbJ (qba hw) n
 have e:cmdPhases (opRow 107) p [] n=[⟨1,[107],0,0⟩,⟨1,[0,p / 256,p % 256],0,0⟩,⟨0,[],8,0⟩,⟨4,[],0,n⟩]:=by
  simp [cmdPhases,opRow,qcj,hn]
 rw [e]
 refine Ends.puts ?_
 rw [qcU 107 (by decide) (by decide),st,qbG 107 (qkj 107 (by simp) hq hw),if_pos (by decide)]
 refine Ends.puts ?_
 rw [show (if (opRow 107).addr=1 then (24:Int) else 6)=if (1:Int)=1 then 24 else 6 from rfl,qdI 1 p (.inl rfl) rfl h0 h1,st]
 refine Ends.dummy ?_
 rw [show qae.behind (K c (opRow 107) 2 0 p 0 false [] 0 0 m.home)=K c (opRow 107) 4 ((7+1:Nat):Int) p 0 false [] 0 0 m.home from rfl,show (8:Int).toNat=7+1 from rfl,qe4 7 c,st]
 refine Ends.gets (op:=opRow 107) (.inr rfl) rfl (qba hw) fun nw'=>⟨?_,by show []++comes c (opRow 107) p 0 (n:Int).toNat=_;simp⟩
 rw [qcu 6 0 (by decide) (by decide) rfl]
 rfl
theorem qoK (p:Int) (h0:0≤p) (h1:p<4096) (hw:c.works=false) (h:Nat):Ends ((cmdPhases (opRow 235) p [160] 16).drop 1) (K c (opRow 235) 2 6 0 0 false [] 0 0 h) [] fun m2 o=>m2.deselect.core={ c with goes:=true }∧o=comes c (opRow 235) p 0 16:=by
 have st:=fun n=>qbJ (qba hw) n
 show Ends [⟨4,[0,p / 256,p % 256],0,0⟩,⟨4,[160],0,0⟩,⟨0,[],4,0⟩,⟨4,[],0,16⟩] _ _ _
 refine Ends.puts ?_
 rw [show K c (opRow 235) 2 6 0 0 false [] 0 0 h=K c (opRow 235) 2 (if (4:Int)=1 then 24 else 6) 0 0 false [] 0 0 h from rfl,qdI 4 p (.inr rfl) rfl h0 h1,st]
 refine Ends.puts ?_
 rw [show qae.behind (K c (opRow 235) 2 0 p 0 false [] 0 0 h)=K c (opRow 235) 3 (many 4) p 0 false [] 0 0 h from rfl,ql9 4 160 (.inr rfl) rfl (by decide) (by decide),st]
 refine Ends.dummy ?_
 rw [show qae.behind (K c (opRow 235) 3 0 p 160 true [] 0 0 h)=K c (opRow 235) 4 ((3+1:Nat):Int) p 160 true [] 0 0 h from rfl,show (4:Int).toNat=3+1 from rfl,qe4 3 c,st]
 refine Ends.gets (op:=opRow 235) (.inr rfl) rfl (qba hw) fun nw'=>⟨?_,rfl⟩
 rw [qcu 6 0 (by decide) (by decide) rfl]
 rfl
theorem qvg (p:Int) (h0:0≤p) (h1:p<4096) (hg:c.goes=false) (hq:c.quad=true) (hw:c.works=false):Eff (cmdPhases (opRow 235) p [160] 16) c (comes c (opRow 235) p 0 16) { c with goes:=true }:=fun m hs hm=>by
 rw [qbE hm hg]
 have st:=fun n=>qbJ (qba hw) n
 show Ends (⟨1,[235],0,0⟩::(cmdPhases (opRow 235) p [160] 16).drop 1) _ _ _
 refine Ends.puts ?_
 rw [qcU 235 (by decide) (by decide),st,qbG 235 (qkj 235 (by simp) hq hw),if_pos (by decide)]
 exact qoK p h0 h1 hw _
theorem qtz (p:Int) (h0:0≤p) (h1:p<4096) (hg:c.goes=true) (hq:c.quad=true) (hw:c.works=false):Eff ((cmdPhases (opRow 235) p [160] 16).drop 1) c (comes c (opRow 235) p 0 16) { c with goes:=true }:=fun m hs hm=>by
 rw [qkA hm hg hq hw]
 exact qoK p h0 h1 hw _
theorem qrD (hg:c.goes=true) (hq:c.quad=true) (hw:c.works=false):Eff [leavePh] c [] { c with goes:=false }:=fun m hs hm=>by
 rw [qkA hm hg hq hw]
 have st:=fun n=>qbJ (qba hw) n
 refine Ends.puts (Ends.nil ?_)
 rw [show qbj 4 [0,0,0,0]=qbj 4 [0,0 / 256,0 % 256]++qbj 4 [0] from rfl,qhE,show K c (opRow 235) 2 6 0 0 false [] 0 0 m.home=K c (opRow 235) 2 (if (4:Int)=1 then 24 else 6) 0 0 false [] 0 0 m.home from rfl,qdI 4 0 (.inr rfl) rfl (by decide) (by decide),st,show qae.behind (K c (opRow 235) 2 0 0 0 false [] 0 0 m.home)=K c (opRow 235) 3 (many 4) 0 0 false [] 0 0 m.home from rfl,ql9 4 0 (.inr rfl) rfl (by decide) (by decide),st,show qae.behind (K c (opRow 235) 3 0 0 0 true [] 0 0 m.home)=K c (opRow 235) 4 4 0 0 true [] 0 0 m.home from rfl]
 refine ⟨?_,rfl⟩
 rw [qcu 4 4 (by decide) (by decide) rfl]
 rfl
def Core.starts (c:Core) (p:Int) (j:Job):Core:=if c.en=false then c else if (c.prot&&decide (p<2048))=true then { c with en:=false } else { c with job:=some { j with left:=c.busy.headD 8 },busy:=c.busy.drop 1 }
theorem qjh (m:qae) (j:Job):(m.starts j).core=m.core.starts m.addr j:=by
 unfold qae.starts Core.starts
 show _=if m.en=false then _ else if (m.prot&&decide (m.addr<2048))=true then _ else _
 split
 ·
  rfl
 ·
  split <;> rfl
theorem qv7 (p:Int) (h0:0≤p) (h1:p<4096) (hg:c.goes=false) (hj:c.job=none):Eff (cmdPhases (opRow 32) p [] 0) c [] (c.starts p ⟨p / 512,0,ByteArray.empty,0,false⟩):=fun m hs hm=>by
 rw [qbE hm hg]
 have st:=fun n=>qbJ (qba (show c.works=false by unfold Core.works;rw [hj];rfl)) n
 show Ends [⟨1,[32],0,0⟩,⟨1,[0,p / 256,p % 256],0,0⟩] _ _ _
 refine Ends.puts ?_
 rw [qcU 32 (by decide) (by decide),st,qbG 32 (qgV 32 (by simp) hj),if_pos (by decide)]
 refine Ends.puts (Ends.nil ?_)
 rw [show (if (opRow 32).addr=1 then (24:Int) else 6)=if (1:Int)=1 then 24 else 6 from rfl,qdI 1 p (.inl rfl) rfl h0 h1,st,show qae.behind (K c (opRow 32) 2 0 p 0 false [] 0 0 m.home)=K c (opRow 32) 7 0 p 0 false [] 0 0 m.home from rfl]
 refine ⟨?_,rfl⟩
 rw [qcu 7 0 (by decide) (by decide) rfl]
 show (qae.starts _ _).core=_
 rw [qjh]
 rfl
theorem qwQ (p:Int) (bs:List Int) (h0:0≤p) (h1:p<4096) (hl:0<bs.length) (hb : ∀ b ∈ bs,0≤b∧b<256) (hg:c.goes=false) (hj:c.job=none):Eff (cmdPhases (opRow 2) p bs 0) c [] (c.starts p ⟨-1,p - p % 32,pageOf p bs,0,false⟩):=fun m hs hm=>by
 rw [qbE hm hg]
 have st:=fun n=>qbJ (qba (show c.works=false by unfold Core.works;rw [hj];rfl)) n
 have e:cmdPhases (opRow 2) p bs 0=[⟨1,[2],0,0⟩,⟨1,[0,p / 256,p % 256],0,0⟩,⟨1,bs,0,0⟩]:=by simp [cmdPhases,opRow,qcj,hl]
 rw [e]
 refine Ends.puts ?_
 rw [qcU 2 (by decide) (by decide),st,qbG 2 (qgV 2 (by simp) hj),if_pos (by decide)]
 refine Ends.puts ?_
 rw [show (if (opRow 2).addr=1 then (24:Int) else 6)=if (1:Int)=1 then 24 else 6 from rfl,qdI 1 p (.inl rfl) rfl h0 h1,st,show qae.behind (K c (opRow 2) 2 0 p 0 false [] 0 0 m.home)=K c (opRow 2) 5 8 p 0 false [] 0 0 m.home from rfl]
 refine Ends.puts (Ends.nil ?_)
 rw [qiB rfl rfl rfl rfl bs _ _ hb,st,List.nil_append]
 refine ⟨?_,rfl⟩
 rw [qcu 5 8 (by decide) (by decide) rfl]
 show (qae.programs _).core=_
 unfold qae.programs
 rw [if_pos (show 0<(K0 c (opRow 2) 5 8 p 0 false bs 0 0 m.home).data.length from hl),qjh]
 rfl
theorem qv6 (x y:Int) (hx:0≤x∧x<256) (hy:0≤y∧y<256) (hg:c.goes=false) (hj:c.job=none) (he:c.en=true):Eff (cmdPhases (opRow 1) 0 [x,y] 0) c [] { c with prot:=bits .and .i64 x 4 != 0,quad:=bits .and .i64 y 2 != 0,en:=false }:=fun m hs hm=>by
 rw [qbE hm hg]
 have st:=fun n=>qbJ (qba (show c.works=false by unfold Core.works;rw [hj];rfl)) n
 show Ends [⟨1,[1],0,0⟩,⟨1,[x,y],0,0⟩] _ _ _
 refine Ends.puts ?_
 rw [qcU 1 (by decide) (by decide),st,qbG 1 (qgV 1 (by simp) hj),if_neg (by decide),show qae.behind (K c (opRow 1) 0 8 0 0 false [] 0 0 m.home)=K c (opRow 1) 5 8 0 0 false [] 0 0 m.home from rfl]
 refine Ends.puts (Ends.nil ?_)
 rw [qiB rfl rfl rfl rfl [x,y] _ _ (by simp;omega),st,List.nil_append]
 refine ⟨?_,rfl⟩
 rw [qcu 5 8 (by decide) (by decide) rfl]
 show (qae.puts _).core=_
 unfold qae.puts
 rw [if_pos ⟨he,rfl⟩]
 rfl
end
section
structure qcs (m:Ctl) (c:Core):Prop where
 lost:m.lost=false
 sel:m.chip.sel=false
 core:m.chip.core=c
 goes:m.goes=c.goes
structure Gone (m:Ctl) (c:Core) (m':Ctl):Prop where
 lost:m'.lost=true
 left:0≤m.left
 went : ∃ k g,m'.chip.core=Core.passN k { c with goes:=g }
def qcr (m m':Ctl):Prop:=m.left<0→m'.left<0
theorem qcr.trans {a b c:Ctl} (h:qcr a b) (k:qcr b c):qcr a c:=fun x=>k (h x)
theorem qod (m:qae):m.select.core=m.core:=by
 unfold qae.select
 split
 ·
  exact qh7 _ _
 ·
  rfl
theorem ql6 {m:Ctl} {c:Core} {ps:List Ph} {xs:List Int} {c':Core} (h:qcs m c) (hE:Eff ps c xs c'):(m.driveE ps=1101∧m.driveX ps=[]∧Gone m c (m.drive ps))∨(m.driveE ps=0∧m.driveX ps=xs∧(m.drive ps).lost=false∧(m.drive ps).chip.sel=false∧(m.drive ps).chip.core=c'∧(m.drive ps).goes=m.goes∧qcr m (m.drive ps)):=by
 unfold Ctl.driveE Ctl.driveX
 cases hr:(m.r ps).1 with
 | false =>
  refine .inl ⟨rfl,rfl,?_,?_,?_⟩
  ·
   unfold Ctl.drive;simp [hr]
  ·
   rcases Int.lt_or_le m.left 0 with hl | hl
   ·
    have:=(qi6 ps (Drv.new m.chip m.left) hl).1
    have e:(m.r ps).1=true:=this
    rw [hr] at e;cases e
   ·
    exact hl
  ·
   obtain ⟨k,hk⟩:=qn3 ps (Drv.new m.chip m.left)
   refine ⟨k,c.goes,?_⟩
   have e:(m.drive ps).chip=(m.r ps).2.chip:=by unfold Ctl.drive qax;simp [hr]
   rw [e]
   show (Drv.phases ps (Drv.new m.chip m.left)).2.chip.core=_
   rw [hk]
   show Core.passN k m.chip.select.core=_
   rw [qod,h.core]
 | true =>
  obtain ⟨h1,h2⟩:=hE m.chip h.sel h.core 0 m.left hr
  refine .inr ⟨rfl,h2,?_,?_,?_,rfl,?_⟩
  ·
   unfold Ctl.drive;simp [hr,h.lost]
  ·
   have e:(m.drive ps).chip=(m.r ps).2.chip.deselect:=by unfold Ctl.drive qax;simp [hr]
   rw [e]
   exact (qdX _).1
  ·
   have e:(m.drive ps).chip=(m.r ps).2.chip.deselect:=by unfold Ctl.drive qax;simp [hr]
   rw [e]
   exact h1
  ·
   intro hl
   unfold Ctl.drive
   simp only
   rw [if_neg (by omega)]
   exact hl
def qnf (m:Ctl) (c:Core) (r:Ctl×List Int×Int) (xs:List Int) (c':Core):Prop:=(r.2.2=1101∧r.2.1=[]∧Gone m c r.1)∨(r.2.2=0∧r.2.1=xs∧qcs r.1 c'∧qcr m r.1)
theorem qkZ {m:Ctl} {c:Core} {b:Int} {ys:List Int} {ps:List Ph} {xs:List Int} {c':Core} (h:qcs m c) (hE:Eff ps c xs c') (hg:c'.goes=(decide (b=235)&&decide (ys.headD 0=160))):qnf m c (m.fin b ys ps) xs c':=by
 rcases ql6 h hE with ⟨e,_,g⟩ | ⟨e,ex,h1,h2,h3,h4,h5⟩
 ·
  left
  unfold Ctl.fin
  rw [if_neg (by rw [e];decide)]
  exact ⟨rfl,rfl,g⟩
 ·
  right
  unfold Ctl.fin
  rw [if_pos e]
  exact ⟨rfl,ex,⟨h1,h2,h3,hg.symm⟩,h5⟩
theorem qbZ {m:Ctl} {c:Core} {b at_:Int} {ys:List Int} {read:Int} {xs:List Int} {c':Core} (h:qcs m c) (hb:b≠235) (hl:c.goes=true→c.quad=true∧c.works=false) (hE:Eff (cmdPhases (opRow b) at_ ys read) { c with goes:=false } xs c') (hg:c'.goes=false):qnf m c (m.run b at_ ys read) xs c':=by
 have hg':c'.goes=(decide (b=235)&&decide (ys.headD 0=160)):=by simp [hb,hg]
 unfold Ctl.run
 rw [if_neg (by rw [h.lost];decide),if_neg (by rintro ⟨_,e⟩;exact hb e)]
 cases hgo:c.goes with
 | false =>
  rw [if_neg (by rw [h.goes,hgo];decide)]
  have e:({ c with goes:=false }:Core)=c:=by rw [← hgo]
  rw [e] at hE
  exact qkZ h hE hg'
 | true =>
  rw [if_pos (by rw [h.goes,hgo])]
  obtain ⟨hq,hw⟩:=hl hgo
  rcases ql6 h (qrD hgo hq hw) with ⟨e,_,g⟩ | ⟨e,ex,h1,h2,h3,h4,h5⟩
  ·
   rw [if_neg (by rw [e];decide)]
   exact .inl ⟨rfl,rfl,g⟩
  ·
   rw [if_pos e]
   have h':qcs { m.drive [leavePh] with goes:=false } { c with goes:=false }:=⟨h1,h2,h3,rfl⟩
   rcases qkZ (b:=b) (ys:=ys) h' hE hg' with ⟨e1,e2,g⟩ | ⟨e1,e2,r,hB⟩
   ·
    refine .inl ⟨e1,e2,g.lost,?_,g.went⟩
    rcases Int.lt_or_le m.left 0 with hl | hl
    ·
     have:=h5 hl
     have:=g.left
     have:0≤(m.drive [leavePh]).left:=this
     omega
    ·
     exact hl
   ·
    exact .inr ⟨e1,e2,r,fun x=>hB (h5 x)⟩
theorem qui {m:Ctl} {c:Core} {p:Int} (h:qcs m c) (hq:c.quad=true) (hw:c.works=false) (h0:0≤p) (h1:p<4096):qnf m c (m.run 235 p [160] 16) (comes c (opRow 235) p 0 16) { c with goes:=true }:=by
 unfold Ctl.run
 rw [if_neg (by rw [h.lost];decide)]
 cases hgo:c.goes with
 | false =>
  rw [if_neg (by rintro ⟨e,_⟩;rw [h.goes,hgo] at e;cases e),if_neg (by rw [h.goes,hgo];decide)]
  exact qkZ h (qvg p h0 h1 hgo hq hw) rfl
 | true =>
  rw [if_pos ⟨by rw [h.goes,hgo],rfl⟩]
  exact qkZ h (qtz p h0 h1 hgo hq hw) rfl
def Core.lossCells (c:Core) (mask:ByteArray):ByteArray:=match c.job with | none=>c.cells | some j=>jobCells j c.cells mask
theorem qeH {c:Core} {j:Job} (hj:c.job=some j) (hs:j.susp=false) : ∀ (k:Nat),(k:Int)<j.left→c.passN k={ c with job:=some { j with left:=j.left - k } }:=by
 intro k
 induction k generalizing c j with
 | zero =>
  intro _
  show c=_
  have e:({ j with left:=j.left - ((0:Nat):Int) }:Job)=j:=by simp
  rw [e,← hj]
 | succ k ih =>
  intro hk
  have e:c.pass={ c with job:=some { j with left:=j.left - 1 } }:=by
   unfold Core.pass
   rw [hj]
   simp only
   rw [if_neg (by rw [hs];decide),if_neg (by omega)]
  show Core.passN k c.pass=_
  rw [e,ih (c:={ c with job:=some { j with left:=j.left - 1 } }) (j:={ j with left:=j.left - 1 }) rfl hs (by show (k:Int)<j.left - 1;omega)]
  simp only [Core.mk.injEq,Option.some.injEq,Job.mk.injEq,true_and,and_true]
  omega
def Core.done (c:Core) (j:Job):Core:={ c with cells:=jobCells j c.cells ⟨#[255]⟩,job:=none,en:=false }
theorem qpZ (c:Core) (j:Job) : ∀ k,(c.done j).passN k=c.done j:=qbJ rfl
theorem qcK {c:Core} {j:Job} (hj:c.job=some j) (hs:j.susp=false) (h1:1≤j.left) (k:Nat) (hk:j.left≤k):c.passN k=c.done j:=by
 obtain ⟨l,hl⟩ : ∃ l:Nat,j.left=((l+1:Nat):Int):=⟨(j.left - 1).toNat,by omega⟩
 obtain ⟨r,rfl⟩ : ∃ r,k=l+(1+r):=⟨k - l - 1,by omega⟩
 rw [qcl,qeH hj hs l (by omega),qcl]
 have e:Core.passN 1 { c with job:=some { j with left:=j.left - l } }=c.done j:=by
  show Core.passN 0 (Core.pass { c with job:=some { j with left:=j.left - l } })=_
  unfold Core.pass
  simp only
  rw [if_neg (by rw [hs];decide),if_pos (by omega)]
  rfl
 rw [e,qpZ]
theorem qqw {c:Core} {j:Job} (hj:c.job=some j) (hs:j.susp=true) (k:Nat):c.passN k=c:=qbJ (qba (by unfold Core.works worksB;rw [hj];simp [hs])) k
theorem qa7 {c:Core} (hj:c.job=none) (k:Nat):c.passN k=c:=qbJ (qba (by unfold Core.works worksB;rw [hj])) k
structure qs5 (m:Ctl) (S:ByteArray→Prop):Prop where
 lost:m.lost=true
 prot:m.chip.prot=true
 quad:m.chip.quad=true
 cells : ∀ mask,S (m.chip.core.lossCells mask)
theorem qs5.mono {m:Ctl} {S T:ByteArray→Prop} (h:qs5 m S) (k : ∀ x,S x→T x):qs5 m T:=⟨h.lost,h.prot,h.quad,fun mask=>k _ (h.cells mask)⟩
theorem qeT {m m':Ctl} {c:Core} (g:Gone m c m') (hj:c.job=none) (hp:c.prot=true) (hq:c.quad=true):qs5 m' fun x=>x=c.cells:=by
 obtain ⟨k,b,e⟩:=g.went
 rw [qa7 (c:={ c with goes:=b }) hj] at e
 refine ⟨g.lost,?_,?_,fun mask => ?_⟩
 ·
  show m'.chip.core.prot=true;rw [e];exact hp
 ·
  show m'.chip.core.quad=true;rw [e];exact hq
 ·
  rw [e];unfold Core.lossCells;simp only [hj]
theorem qhW {m m':Ctl} {c:Core} {j:Job} (g:Gone m c m') (hj:c.job=some j) (h1:1≤j.left) (hp:c.prot=true) (hq:c.quad=true):qs5 m' fun x => ∃ mask,x=jobCells j c.cells mask:=by
 obtain ⟨k,b,e⟩:=g.went
 cases hs:j.susp with
 | true =>
  rw [qqw (c:={ c with goes:=b }) hj hs] at e
  refine ⟨g.lost,?_,?_,fun mask=>⟨mask,?_⟩⟩
  ·
   show m'.chip.core.prot=true;rw [e];exact hp
  ·
   show m'.chip.core.quad=true;rw [e];exact hq
  ·
   rw [e];unfold Core.lossCells;simp only [hj]
 | false =>
  rcases Int.lt_or_le (k:Int) j.left with hk | hk
  ·
   rw [qeH (c:={ c with goes:=b }) hj hs k hk] at e
   refine ⟨g.lost,?_,?_,fun mask=>⟨mask,?_⟩⟩
   ·
    show m'.chip.core.prot=true;rw [e];exact hp
   ·
    show m'.chip.core.quad=true;rw [e];exact hq
   ·
    rw [e];rfl
  ·
   rw [qcK (c:={ c with goes:=b }) hj hs h1 k hk] at e
   refine ⟨g.lost,?_,?_,fun mask=>⟨⟨#[255]⟩,?_⟩⟩
   ·
    show m'.chip.core.prot=true;rw [e];exact hp
   ·
    show m'.chip.core.quad=true;rw [e];exact hq
   ·
    rw [e];rfl
end
end Go.Proofs.YtcfdenckiigdaaaGreat

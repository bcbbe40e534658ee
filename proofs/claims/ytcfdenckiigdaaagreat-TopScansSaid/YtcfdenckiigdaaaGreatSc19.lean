/- Part 19 of the contracts. -/
import Derived.Test.YtcfdenckiigdaaaGreatSc18
set_option linter.unusedVariables false
set_option maxRecDepth 100000
set_option maxHeartbeats 4000000
namespace Go.Proofs.YtcfdenckiigdaaaGreat
open Tryz Go.RowKit
section
def Core.bT (c:Core):Bool:=eS c.bg
theorem eg {c:Core} (h:c.bT=false):c.still:=by
 unfold Core.still Core.pass
 unfold Core.bT eS at h
 cases hj:c.bg with
 | none=>rfl
 | some j=>rw [hj] at h;simp only;rw [if_pos (by simpa using h)]
variable {c:Core} {op:gz} {a mo t nw:Int} {md:Bool} {ds:List Int} {h:Nat}
theorem fK (b:Int) (hk:(K c op 0 8 a mo md ds t nw h).known b=true):(K c op 0 8 a mo md ds t nw h).cV b=if 0<(an b).addr then K c (an b) 2 (if (an b).addr=1 then 24 else 6) a mo md ds t nw h else ag.behind (K c (an b) 0 8 a mo md ds t nw h):=by
 unfold ag.cV
 rw [if_neg (by rw [hk];decide)]
 rfl
def Bv (ps:List Ph) (c:Core) (xs:List Int) (c':Core):Prop := ∀ (m:ag),m.dR=false→m.core=c→Ends ps m.select [] fun m2 o=>m2.fp.core=c'∧o=xs
theorem fE {m:ag} (hc:m.core=c) (hg:c.aE=false):m.select=K c gz.zero 0 8 0 0 false [] 0 0 m.home:=by
 unfold ag.select
 have e:m.aE=false:=by rw [← hg,← hc];rfl
 rw [e]
 subst hc
 rfl
theorem xG {m:ag} (hc:m.core=c) (hg:c.aE=true) (hq:c.bq=true) (hw:c.bT=false):m.select=K c (an 235) 2 6 0 0 false [] 0 0 m.home:=by
 unfold ag.select
 have e:m.aE=true:=by rw [← hg,← hc];rfl
 rw [if_pos e,KH,hc]
 have hw':(K c gz.zero 0 8 0 0 false [] 0 0 m.home).bT=false:=hw
 rw [fK 235 (by simp [ag.known,ag.xT,gC,an,fH,hw'];exact hq)]
 simp [an,fH]
def K0 (c:Core) (op:gz) (st left addr mode:Int) (cJ:Bool) (data:List Int) (told now:Int) (h:Nat):ag:={ K c op st left addr mode cJ data told now h with dR:=false }
theorem iu (st left:Int) (h0:st≠0) (h1:st≠1) (hw:(K0 c op st left a mo md ds t nw h).whole=true):(K c op st left a mo md ds t nw h).fp=(K0 c op st left a mo md ds t nw h).gi:=by
 unfold ag.fp ag.ends
 show (if (K0 c op st left a mo md ds t nw h).ay=0∨(K0 c op st left a mo md ds t nw h).ay=1∨(K0 c op st left a mo md ds t nw h).whole=false then _ else _)=_
 rw [if_neg]
 ·
  rfl
 ·
  rintro (e | e | e)
  ·
   exact h0 e
  ·
   exact h1 e
  ·
   rw [hw] at e;cases e
theorem td (b:Int) (hb:b=5∨b=53∨b=117):(K c op 0 8 a mo md ds t nw h).known b=true:=by
 rcases hb with rfl | rfl | rfl <;> simp [ag.known,ag.xT,gC,an,fH]
theorem nA (b:Int) (hb:b=6∨b=90∨b=122∨b=159) (hw:c.bT=false):(K c op 0 8 a mo md ds t nw h).known b=true:=by
 have hw':(K c op 0 8 a mo md ds t nw h).bT=false:=hw
 rcases hb with rfl | rfl | rfl | rfl <;> simp [ag.known,ag.xT,gC,an,fH,hw']
theorem wW (b:Int) (hb:b=107∨b=235) (hq:c.bq=true) (hw:c.bT=false):(K c op 0 8 a mo md ds t nw h).known b=true:=by
 have hw':(K c op 0 8 a mo md ds t nw h).bT=false:=hw
 have hq':(K c op 0 8 a mo md ds t nw h).bq=true:=hq
 rcases hb with rfl | rfl <;> simp [ag.known,ag.xT,gC,an,fH,hw',hq']
theorem qA (b:Int) (hb:b=1∨b=2∨b=32) (hj:c.bg=none):(K c op 0 8 a mo md ds t nw h).known b=true:=by
 have hj':(K c op 0 8 a mo md ds t nw h).bg=none:=hj
 rcases hb with rfl | rfl | rfl <;> simp [ag.known,ag.xT,gC,an,fH,hj']
theorem qw (b:Int) (h0:0≤b) (h1:b<256) (hk:(K (c.bG 8) gz.zero 0 8 0 0 false [] 0 0 h).known b=true) (hr:an b=⟨b,0,false,0,0,false⟩) {P:ag→List Int→Prop} (hP:P (K (c.bG 8) (an b) 7 0 0 0 false [] 0 0 h) []):Ends [⟨1,[b],0,0⟩] (K c gz.zero 0 8 0 0 false [] 0 0 h) [] P:=by
 refine Ends.dC (Ends.nil ?_)
 rw [jo b h0 h1,fK b hk,if_neg (by rw [hr];exact Int.lt_irrefl 0)]
 have e:ag.behind (K (c.bG 8) (an b) 0 8 0 0 false [] 0 0 h)=K (c.bG 8) (an b) 7 0 0 0 false [] 0 0 h:=by
  unfold ag.behind ag.enter
  rw [hr]
  simp [K]
 rw [e]
 exact hP
theorem Ft (hg:c.aE=false) (hw:c.bT=false):Bv (aR (an 6) 0 [] 0) c [] { c with en:=true }:=fun m hs hm=>by
 rw [fE hm hg]
 have st:=fy (eg hw) 8
 refine qw 6 (by decide) (by decide) (by rw [st];exact nA 6 (by simp) hw) rfl ⟨?_,rfl⟩
 rw [st,iu 7 0 (by decide) (by decide) rfl]
 rfl
def Core.bQ (c:Core):Core:=match c.bg with | some j=>if j.au = -1 then c else { c with bg:=some { j with gX:=true } } | none=>c
def Core.gI (c:Core):Core:=match c.bg with | some j=>{ c with bg:=some { j with gX:=false } } | none=>c
theorem yy (m:ag):m.bQ.core=m.core.bQ:=by
 obtain ⟨a1,a2,a3,a4,a5,a6,bg,a7,a8,a9,a10,a11,a12,a13,a14,a15,a16,a17,a18,a19⟩:=m
 cases bg with
 | none=>rfl
 | some j =>
  show (if j.au = -1 then _ else _:ag).core=if j.au = -1 then _ else _
  split <;> rfl
theorem A4 (m:ag):m.gI.core=m.core.gI:=by
 obtain ⟨a1,a2,a3,a4,a5,a6,bg,a7,a8,a9,a10,a11,a12,a13,a14,a15,a16,a17,a18,a19⟩:=m
 cases bg <;> rfl
theorem KC (hg:c.aE=false):Bv (aR (an 117) 0 [] 0) c [] (c.bG 8).bQ:=fun m hs hm=>by
 rw [fE hm hg]
 refine qw 117 (by decide) (by decide) (td 117 (by simp)) rfl ⟨?_,rfl⟩
 rw [iu 7 0 (by decide) (by decide) rfl]
 show (ag.bQ _).core=_
 exact yy _
theorem KD (hg:c.aE=false) (hw:c.bT=false):Bv (aR (an 122) 0 [] 0) c [] c.gI:=fun m hs hm=>by
 rw [fE hm hg]
 have st:=fy (eg hw) 8
 refine qw 122 (by decide) (by decide) (by rw [st];exact nA 122 (by simp) hw) rfl ⟨?_,rfl⟩
 rw [st,iu 7 0 (by decide) (by decide) rfl]
 show (ag.gI _).core=_
 exact A4 _
def Core.first (c:Core):Int:=DO c.bT c.en c.bB
def Core.second (c:Core):Int:=yM c.bq (match c.bg with | none=>false | some j=>j.gX)
theorem ua (b:Int) (h0:0≤b) (h1:b<256) (hk:(K (c.bG 8) gz.zero 0 8 0 0 false [] 0 0 h).known b=true) (hr:an b=⟨b,0,false,0,1,false⟩) {P:ag→List Int→Prop} (v:Int) (hv:(K (c.bG 9) (an b) 6 0 0 0 false [] 0 0 h).eM 0=v) (hP:P (K (c.bG 16) (an b) 6 0 0 0 false [] 1 v h) [v]):Ends [⟨1,[b],0,0⟩,⟨1,[],0,1⟩] (K c gz.zero 0 8 0 0 false [] 0 0 h) [] P:=by
 refine Ends.dC ?_
 rw [jo b h0 h1,fK b hk,if_neg (by rw [hr];exact Int.lt_irrefl 0)]
 have e:ag.behind (K (c.bG 8) (an b) 0 8 0 0 false [] 0 0 h)=K (c.bG 8) (an b) 6 0 0 0 false [] 0 0 h:=by
  unfold ag.behind ag.enter
  rw [hr]
  simp [K]
 rw [e]
 refine Ends.get (.inl rfl) (by rw [hr]) v ?_ ?_
 ·
  rw [← hv,show c.bG 9=(c.bG 8).pass from iw 8 1 c]
 ·
  rw [show (c.bG 8).bG (many 1).toNat=c.bG 16 from (iw 8 8 c).symm]
  exact hP
theorem LG (hg:c.aE=false):Bv (aR (an 5) 0 [] 1) c [(c.bG 9).first] (c.bG 16):=fun m hs hm=>by
 rw [fE hm hg]
 refine ua 5 (by decide) (by decide) (td 5 (by simp)) rfl (c.bG 9).first rfl ⟨?_,rfl⟩
 rw [iu 6 0 (by decide) (by decide) rfl]
 rfl
theorem LS (hg:c.aE=false):Bv (aR (an 53) 0 [] 1) c [(c.bG 9).second] (c.bG 16):=fun m hs hm=>by
 rw [fE hm hg]
 refine ua 53 (by decide) (by decide) (td 53 (by simp)) rfl (c.bG 9).second rfl ⟨?_,rfl⟩
 rw [iu 6 0 (by decide) (by decide) rfl]
 rfl
theorem KE (hg:c.aE=false) (hw:c.bT=false):Bv (aR (an 159) 0 [] 3) c [239,64,12] c:=fun m hs hm=>by
 rw [fE hm hg]
 have st:=fun n=>fy (eg hw) n
 show Ends [⟨1,[159],0,0⟩,⟨1,[],0,3⟩] _ _ _
 refine Ends.dC ?_
 rw [jo 159 (by decide) (by decide),st,fK 159 (nA 159 (by simp) hw),if_neg (by decide)]
 refine Ends.fU (op:=an 159) (.inl rfl) rfl (eg hw) fun nw'=>⟨?_,rfl⟩
 rw [iu 6 0 (by decide) (by decide) rfl]
 rfl
theorem LU (hg:c.aE=false) (hw:c.bT=false):Bv (aR (an 90) 0 [] 32) c (comes c (an 90) 0 0 32) c:=fun m hs hm=>by
 rw [fE hm hg]
 have st:=fun n=>fy (eg hw) n
 show Ends [⟨1,[90],0,0⟩,⟨1,[0,0 / 256,0 % 256],0,0⟩,⟨0,[],8,0⟩,⟨1,[],0,32⟩] _ _ _
 refine Ends.dC ?_
 rw [jo 90 (by decide) (by decide),st,fK 90 (nA 90 (by simp) hw),if_pos (by decide)]
 refine Ends.dC ?_
 rw [show (if (an 90).addr=1 then (24:Int) else 6)=if (1:Int)=1 then 24 else 6 from rfl,kG 1 0 (.inl rfl) rfl (by decide) (by decide),st]
 refine Ends.dummy ?_
 rw [show ag.behind (K c (an 90) 2 0 0 0 false [] 0 0 m.home)=K c (an 90) 4 ((7+1:Nat):Int) 0 0 false [] 0 0 m.home from rfl,show (8:Int).toNat=7+1 from rfl,ns 7 c,st]
 refine Ends.fU (op:=an 90) (.inl rfl) rfl (eg hw) fun nw'=>⟨?_,rfl⟩
 rw [iu 6 0 (by decide) (by decide) rfl]
 rfl
theorem KA (p:Int) (n:Nat) (h0:0≤p) (h1:p<4096) (hn:0<n) (hg:c.aE=false) (hq:c.bq=true) (hw:c.bT=false):Bv (aR (an 107) p [] n) c (comes c (an 107) p 0 n) c:=fun m hs hm=>by
 rw [fE hm hg]
 have st:=fun n=>fy (eg hw) n
 have e:aR (an 107) p [] n=[⟨1,[107],0,0⟩,⟨1,[0,p / 256,p % 256],0,0⟩,⟨0,[],8,0⟩,⟨4,[],0,n⟩]:=by
  simp [aR,an,fH,hn]
 rw [e]
 refine Ends.dC ?_
 rw [jo 107 (by decide) (by decide),st,fK 107 (wW 107 (by simp) hq hw),if_pos (by decide)]
 refine Ends.dC ?_
 rw [show (if (an 107).addr=1 then (24:Int) else 6)=if (1:Int)=1 then 24 else 6 from rfl,kG 1 p (.inl rfl) rfl h0 h1,st]
 refine Ends.dummy ?_
 rw [show ag.behind (K c (an 107) 2 0 p 0 false [] 0 0 m.home)=K c (an 107) 4 ((7+1:Nat):Int) p 0 false [] 0 0 m.home from rfl,show (8:Int).toNat=7+1 from rfl,ns 7 c,st]
 refine Ends.fU (op:=an 107) (.inr rfl) rfl (eg hw) fun nw'=>⟨?_,by show []++comes c (an 107) p 0 (n:Int).toNat=_;simp⟩
 rw [iu 6 0 (by decide) (by decide) rfl]
 rfl
theorem BZ (p:Int) (h0:0≤p) (h1:p<4096) (hw:c.bT=false) (h:Nat):Ends ((aR (an 235) p [160] 16).drop 1) (K c (an 235) 2 6 0 0 false [] 0 0 h) [] fun m2 o=>m2.fp.core={ c with aE:=true }∧o=comes c (an 235) p 0 16:=by
 have st:=fun n=>fy (eg hw) n
 show Ends [⟨4,[0,p / 256,p % 256],0,0⟩,⟨4,[160],0,0⟩,⟨0,[],4,0⟩,⟨4,[],0,16⟩] _ _ _
 refine Ends.dC ?_
 rw [show K c (an 235) 2 6 0 0 false [] 0 0 h=K c (an 235) 2 (if (4:Int)=1 then 24 else 6) 0 0 false [] 0 0 h from rfl,kG 4 p (.inr rfl) rfl h0 h1,st]
 refine Ends.dC ?_
 rw [show ag.behind (K c (an 235) 2 0 p 0 false [] 0 0 h)=K c (an 235) 3 (many 4) p 0 false [] 0 0 h from rfl,zg 4 160 (.inr rfl) rfl (by decide) (by decide),st]
 refine Ends.dummy ?_
 rw [show ag.behind (K c (an 235) 3 0 p 160 true [] 0 0 h)=K c (an 235) 4 ((3+1:Nat):Int) p 160 true [] 0 0 h from rfl,show (4:Int).toNat=3+1 from rfl,ns 3 c,st]
 refine Ends.fU (op:=an 235) (.inr rfl) rfl (eg hw) fun nw'=>⟨?_,rfl⟩
 rw [iu 6 0 (by decide) (by decide) rfl]
 rfl
theorem KF (p:Int) (h0:0≤p) (h1:p<4096) (hg:c.aE=false) (hq:c.bq=true) (hw:c.bT=false):Bv (aR (an 235) p [160] 16) c (comes c (an 235) p 0 16) { c with aE:=true }:=fun m hs hm=>by
 rw [fE hm hg]
 have st:=fun n=>fy (eg hw) n
 show Ends (⟨1,[235],0,0⟩::(aR (an 235) p [160] 16).drop 1) _ _ _
 refine Ends.dC ?_
 rw [jo 235 (by decide) (by decide),st,fK 235 (wW 235 (by simp) hq hw),if_pos (by decide)]
 exact BZ p h0 h1 hw _
theorem I2 (p:Int) (h0:0≤p) (h1:p<4096) (hg:c.aE=true) (hq:c.bq=true) (hw:c.bT=false):Bv ((aR (an 235) p [160] 16).drop 1) c (comes c (an 235) p 0 16) { c with aE:=true }:=fun m hs hm=>by
 rw [xG hm hg hq hw]
 exact BZ p h0 h1 hw _
theorem Gx (hg:c.aE=true) (hq:c.bq=true) (hw:c.bT=false):Bv [cd] c [] { c with aE:=false }:=fun m hs hm=>by
 rw [xG hm hg hq hw]
 have st:=fun n=>fy (eg hw) n
 refine Ends.dC (Ends.nil ?_)
 rw [show eA 4 [0,0,0,0]=eA 4 [0,0 / 256,0 % 256]++eA 4 [0] from rfl,rn,show K c (an 235) 2 6 0 0 false [] 0 0 m.home=K c (an 235) 2 (if (4:Int)=1 then 24 else 6) 0 0 false [] 0 0 m.home from rfl,kG 4 0 (.inr rfl) rfl (by decide) (by decide),st,show ag.behind (K c (an 235) 2 0 0 0 false [] 0 0 m.home)=K c (an 235) 3 (many 4) 0 0 false [] 0 0 m.home from rfl,zg 4 0 (.inr rfl) rfl (by decide) (by decide),st,show ag.behind (K c (an 235) 3 0 0 0 true [] 0 0 m.home)=K c (an 235) 4 4 0 0 true [] 0 0 m.home from rfl]
 refine ⟨?_,rfl⟩
 rw [iu 4 4 (by decide) (by decide) rfl]
 rfl
def Core.dP (c:Core) (p:Int) (j:iz):Core:=if c.en=false then c else if (c.bB&&decide (p<2048))=true then { c with en:=false } else { c with bg:=some { j with left:=c.busy.headD 8 },busy:=c.busy.drop 1 }
theorem uB (m:ag) (j:iz):(m.dP j).core=m.core.dP m.addr j:=by
 unfold ag.dP Core.dP
 show _=if m.en=false then _ else if (m.bB&&decide (m.addr<2048))=true then _ else _
 split
 ·
  rfl
 ·
  split <;> rfl
theorem LR (p:Int) (h0:0≤p) (h1:p<4096) (hg:c.aE=false) (hj:c.bg=none):Bv (aR (an 32) p [] 0) c [] (c.dP p ⟨p / 512,0,ByteArray.empty,0,false⟩):=fun m hs hm=>by
 rw [fE hm hg]
 have st:=fun n=>fy (eg (show c.bT=false by unfold Core.bT;rw [hj];rfl)) n
 show Ends [⟨1,[32],0,0⟩,⟨1,[0,p / 256,p % 256],0,0⟩] _ _ _
 refine Ends.dC ?_
 rw [jo 32 (by decide) (by decide),st,fK 32 (qA 32 (by simp) hj),if_pos (by decide)]
 refine Ends.dC (Ends.nil ?_)
 rw [show (if (an 32).addr=1 then (24:Int) else 6)=if (1:Int)=1 then 24 else 6 from rfl,kG 1 p (.inl rfl) rfl h0 h1,st,show ag.behind (K c (an 32) 2 0 p 0 false [] 0 0 m.home)=K c (an 32) 7 0 p 0 false [] 0 0 m.home from rfl]
 refine ⟨?_,rfl⟩
 rw [iu 7 0 (by decide) (by decide) rfl]
 show (ag.dP _ _).core=_
 rw [uB]
 rfl
theorem Mx (p:Int) (bs:List Int) (h0:0≤p) (h1:p<4096) (hl:0<bs.length) (hb : ∀ b ∈ bs,0≤b∧b<256) (hg:c.aE=false) (hj:c.bg=none):Bv (aR (an 2) p bs 0) c [] (c.dP p ⟨-1,p - p % 32,lu p bs,0,false⟩):=fun m hs hm=>by
 rw [fE hm hg]
 have st:=fun n=>fy (eg (show c.bT=false by unfold Core.bT;rw [hj];rfl)) n
 have e:aR (an 2) p bs 0=[⟨1,[2],0,0⟩,⟨1,[0,p / 256,p % 256],0,0⟩,⟨1,bs,0,0⟩]:=by simp [aR,an,fH,hl]
 rw [e]
 refine Ends.dC ?_
 rw [jo 2 (by decide) (by decide),st,fK 2 (qA 2 (by simp) hj),if_pos (by decide)]
 refine Ends.dC ?_
 rw [show (if (an 2).addr=1 then (24:Int) else 6)=if (1:Int)=1 then 24 else 6 from rfl,kG 1 p (.inl rfl) rfl h0 h1,st,show ag.behind (K c (an 2) 2 0 p 0 false [] 0 0 m.home)=K c (an 2) 5 8 p 0 false [] 0 0 m.home from rfl]
 refine Ends.dC (Ends.nil ?_)
 rw [sX rfl rfl rfl rfl bs _ _ hb,st,List.nil_append]
 refine ⟨?_,rfl⟩
 rw [iu 5 8 (by decide) (by decide) rfl]
 show (ag.jr _).core=_
 unfold ag.jr
 rw [if_pos (show 0<(K0 c (an 2) 5 8 p 0 false bs 0 0 m.home).data.length from hl),uB]
 rfl
theorem LF (x y:Int) (hx:0≤x∧x<256) (hy:0≤y∧y<256) (hg:c.aE=false) (hj:c.bg=none) (he:c.en=true):Bv (aR (an 1) 0 [x,y] 0) c [] { c with bB:=bits .and .i64 x 4 != 0,bq:=bits .and .i64 y 2 != 0,en:=false }:=fun m hs hm=>by
 rw [fE hm hg]
 have st:=fun n=>fy (eg (show c.bT=false by unfold Core.bT;rw [hj];rfl)) n
 show Ends [⟨1,[1],0,0⟩,⟨1,[x,y],0,0⟩] _ _ _
 refine Ends.dC ?_
 rw [jo 1 (by decide) (by decide),st,fK 1 (qA 1 (by simp) hj),if_neg (by decide),show ag.behind (K c (an 1) 0 8 0 0 false [] 0 0 m.home)=K c (an 1) 5 8 0 0 false [] 0 0 m.home from rfl]
 refine Ends.dC (Ends.nil ?_)
 rw [sX rfl rfl rfl rfl [x,y] _ _ (by simp;omega),st,List.nil_append]
 refine ⟨?_,rfl⟩
 rw [iu 5 8 (by decide) (by decide) rfl]
 show (ag.dC _).core=_
 unfold ag.dC
 rw [if_pos ⟨he,rfl⟩]
 rfl
end
structure gd (m:aG) (c:Core):Prop where
 lost:m.lost=false
 dR:m.ar.dR=false
 core:m.ar.core=c
 aE:m.aE=c.aE
structure Is (m:aG) (c:Core) (m':aG):Prop where
 lost:m'.lost=true
 left:0≤m.left
 Me : ∃ k g,m'.ar.core=Core.bG k { c with aE:=g }
def fY (m m':aG):Prop:=m.left<0→m'.left<0
theorem fY.trans {a b c:aG} (h:fY a b) (k:fY b c):fY a c:=fun x=>k (h x)
theorem C4 (m:ag):m.select.core=m.core:=by
 unfold ag.select
 split
 ·
  exact tL _ _
 ·
  rfl
theorem zc {m:aG} {c:Core} {ps:List Ph} {xs:List Int} {c':Core} (h:gd m c) (hE:Bv ps c xs c'):(m.iP ps=1101∧m.gj ps=[]∧Is m c (m.cN ps))∨(m.iP ps=0∧m.gj ps=xs∧(m.cN ps).lost=false∧(m.cN ps).ar.dR=false∧(m.cN ps).ar.core=c'∧(m.cN ps).aE=m.aE∧fY m (m.cN ps)):=by
 unfold aG.iP aG.gj
 cases hr:(m.r ps).1 with
 | false =>
  refine .inl ⟨rfl,rfl,?_,?_,?_⟩
  ·
   unfold aG.cN;simp [hr]
  ·
   rcases Int.lt_or_le m.left 0 with hl | hl
   ·
    have:=(ux ps (aI.new m.ar m.left) hl).1
    have e:(m.r ps).1=true:=this
    rw [hr] at e;cases e
   ·
    exact hl
  ·
   obtain ⟨k,hk⟩:=CS ps (aI.new m.ar m.left)
   refine ⟨k,c.aE,?_⟩
   have e:(m.cN ps).ar=(m.r ps).2.ar:=by unfold aG.cN cm;simp [hr]
   rw [e]
   show (aI.eQ ps (aI.new m.ar m.left)).2.ar.core=_
   rw [hk]
   show Core.bG k m.ar.select.core=_
   rw [C4,h.core]
 | true =>
  obtain ⟨h1,h2⟩:=hE m.ar h.dR h.core 0 m.left hr
  refine .inr ⟨rfl,h2,?_,?_,?_,rfl,?_⟩
  ·
   unfold aG.cN;simp [hr,h.lost]
  ·
   have e:(m.cN ps).ar=(m.r ps).2.ar.fp:=by unfold aG.cN cm;simp [hr]
   rw [e]
   exact (l7 _).1
  ·
   have e:(m.cN ps).ar=(m.r ps).2.ar.fp:=by unfold aG.cN cm;simp [hr]
   rw [e]
   exact h1
  ·
   intro hl
   unfold aG.cN
   simp only
   rw [if_neg (by omega)]
   exact hl
def vG (m:aG) (c:Core) (r:aG×List Int×Int) (xs:List Int) (c':Core):Prop:=(r.2.2=1101∧r.2.1=[]∧Is m c r.1)∨(r.2.2=0∧r.2.1=xs∧gd r.1 c'∧fY m r.1)
theorem vm {m:aG} {c:Core} {b:Int} {ys:List Int} {ps:List Ph} {xs:List Int} {c':Core} (h:gd m c) (hE:Bv ps c xs c') (hg:c'.aE=(decide (b=235)&&decide (ys.headD 0=160))):vG m c (m.fin b ys ps) xs c':=by
 rcases zc h hE with ⟨e,_,g⟩ | ⟨e,ex,h1,h2,h3,h4,h5⟩
 ·
  left
  unfold aG.fin
  rw [if_neg (by rw [e];decide)]
  exact ⟨rfl,rfl,g⟩
 ·
  right
  unfold aG.fin
  rw [if_pos e]
  exact ⟨rfl,ex,⟨h1,h2,h3,hg.symm⟩,h5⟩
theorem fW {m:aG} {c:Core} {b at_:Int} {ys:List Int} {read:Int} {xs:List Int} {c':Core} (h:gd m c) (hb:b≠235) (hl:c.aE=true→c.bq=true∧c.bT=false) (hE:Bv (aR (an b) at_ ys read) { c with aE:=false } xs c') (hg:c'.aE=false):vG m c (m.run b at_ ys read) xs c':=by
 have hg':c'.aE=(decide (b=235)&&decide (ys.headD 0=160)):=by simp [hb,hg]
 unfold aG.run
 rw [if_neg (by rw [h.lost];decide),if_neg (by rintro ⟨_,e⟩;exact hb e)]
 cases hgo:c.aE with
 | false =>
  rw [if_neg (by rw [h.aE,hgo];decide)]
  have e:({ c with aE:=false }:Core)=c:=by rw [← hgo]
  rw [e] at hE
  exact vm h hE hg'
 | true =>
  rw [if_pos (by rw [h.aE,hgo])]
  obtain ⟨hq,hw⟩:=hl hgo
  rcases zc h (Gx hgo hq hw) with ⟨e,_,g⟩ | ⟨e,ex,h1,h2,h3,h4,h5⟩
  ·
   rw [if_neg (by rw [e];decide)]
   exact .inl ⟨rfl,rfl,g⟩
  ·
   rw [if_pos e]
   have h':gd { m.cN [cd] with aE:=false } { c with aE:=false }:=⟨h1,h2,h3,rfl⟩
   rcases vm (b:=b) (ys:=ys) h' hE hg' with ⟨e1,e2,g⟩ | ⟨e1,e2,r,hB⟩
   ·
    refine .inl ⟨e1,e2,g.lost,?_,g.Me⟩
    rcases Int.lt_or_le m.left 0 with hl | hl
    ·
     have:=h5 hl
     have:=g.left
     have:0≤(m.cN [cd]).left:=this
     omega
    ·
     exact hl
   ·
    exact .inr ⟨e1,e2,r,fun x=>hB (h5 x)⟩
theorem JQ {m:aG} {c:Core} {p:Int} (h:gd m c) (hq:c.bq=true) (hw:c.bT=false) (h0:0≤p) (h1:p<4096):vG m c (m.run 235 p [160] 16) (comes c (an 235) p 0 16) { c with aE:=true }:=by
 unfold aG.run
 rw [if_neg (by rw [h.lost];decide)]
 cases hgo:c.aE with
 | false =>
  rw [if_neg (by rintro ⟨e,_⟩;rw [h.aE,hgo] at e;cases e),if_neg (by rw [h.aE,hgo];decide)]
  exact vm h (KF p h0 h1 hgo hq hw) rfl
 | true =>
  rw [if_pos ⟨by rw [h.aE,hgo],rfl⟩]
  exact vm h (I2 p h0 h1 hgo hq hw) rfl
def Core.th (c:Core) (mask:ByteArray):ByteArray:=match c.bg with | none=>c.cells | some j=>cI j c.cells mask
theorem mJ {c:Core} {j:iz} (hj:c.bg=some j) (hs:j.gX=false) : ∀ (k:Nat),(k:Int)<j.left→c.bG k={ c with bg:=some { j with left:=j.left - k } }:=by
 intro k
 induction k generalizing c j with
 | zero =>
  intro _
  show c=_
  have e:({ j with left:=j.left - ((0:Nat):Int) }:iz)=j:=by simp
  rw [e,← hj]
 | succ k ih =>
  intro hk
  have e:c.pass={ c with bg:=some { j with left:=j.left - 1 } }:=by
   unfold Core.pass
   rw [hj]
   simp only
   rw [if_neg (by rw [hs];decide),if_neg (by omega)]
  show Core.bG k c.pass=_
  rw [e,ih (c:={ c with bg:=some { j with left:=j.left - 1 } }) (j:={ j with left:=j.left - 1 }) rfl hs (by show (k:Int)<j.left - 1;omega)]
  simp only [Core.mk.injEq,Option.some.injEq,iz.mk.injEq,true_and,and_true]
  omega
def Core.done (c:Core) (j:iz):Core:={ c with cells:=cI j c.cells ⟨#[255]⟩,bg:=none,en:=false }
theorem D6 (c:Core) (j:iz) : ∀ k,(c.done j).bG k=c.done j:=fy rfl
theorem iZ {c:Core} {j:iz} (hj:c.bg=some j) (hs:j.gX=false) (h1:1≤j.left) (k:Nat) (hk:j.left≤k):c.bG k=c.done j:=by
 obtain ⟨l,hl⟩ : ∃ l:Nat,j.left=((l+1:Nat):Int):=⟨(j.left - 1).toNat,by omega⟩
 obtain ⟨r,rfl⟩ : ∃ r,k=l+(1+r):=⟨k - l - 1,by omega⟩
 rw [iw,mJ hj hs l (by omega),iw]
 have e:Core.bG 1 { c with bg:=some { j with left:=j.left - l } }=c.done j:=by
  show Core.bG 0 (Core.pass { c with bg:=some { j with left:=j.left - l } })=_
  unfold Core.pass
  simp only
  rw [if_neg (by rw [hs];decide),if_pos (by omega)]
  rfl
 rw [e,D6]
theorem ED {c:Core} {j:iz} (hj:c.bg=some j) (hs:j.gX=true) (k:Nat):c.bG k=c:=fy (eg (by unfold Core.bT eS;rw [hj];simp [hs])) k
theorem ew {c:Core} (hj:c.bg=none) (k:Nat):c.bG k=c:=fy (eg (by unfold Core.bT eS;rw [hj])) k
structure yb (m:aG) (S:ByteArray→Prop):Prop where
 lost:m.lost=true
 bB:m.ar.bB=true
 bq:m.ar.bq=true
 cells : ∀ mask,S (m.ar.core.th mask)
theorem yb.mono {m:aG} {S T:ByteArray→Prop} (h:yb m S) (k : ∀ x,S x→T x):yb m T:=⟨h.lost,h.bB,h.bq,fun mask=>k _ (h.cells mask)⟩
theorem mP {m m':aG} {c:Core} (g:Is m c m') (hj:c.bg=none) (hp:c.bB=true) (hq:c.bq=true):yb m' fun x=>x=c.cells:=by
 obtain ⟨k,b,e⟩:=g.Me
 rw [ew (c:={ c with aE:=b }) hj] at e
 refine ⟨g.lost,?_,?_,fun mask => ?_⟩
 ·
  show m'.ar.core.bB=true;rw [e];exact hp
 ·
  show m'.ar.core.bq=true;rw [e];exact hq
 ·
  rw [e];unfold Core.th;simp only [hj]
theorem sH {m m':aG} {c:Core} {j:iz} (g:Is m c m') (hj:c.bg=some j) (h1:1≤j.left) (hp:c.bB=true) (hq:c.bq=true):yb m' fun x => ∃ mask,x=cI j c.cells mask:=by
 obtain ⟨k,b,e⟩:=g.Me
 cases hs:j.gX with
 | true =>
  rw [ED (c:={ c with aE:=b }) hj hs] at e
  refine ⟨g.lost,?_,?_,fun mask=>⟨mask,?_⟩⟩
  ·
   show m'.ar.core.bB=true;rw [e];exact hp
  ·
   show m'.ar.core.bq=true;rw [e];exact hq
  ·
   rw [e];unfold Core.th;simp only [hj]
 | false =>
  rcases Int.lt_or_le (k:Int) j.left with hk | hk
  ·
   rw [mJ (c:={ c with aE:=b }) hj hs k hk] at e
   refine ⟨g.lost,?_,?_,fun mask=>⟨mask,?_⟩⟩
   ·
    show m'.ar.core.bB=true;rw [e];exact hp
   ·
    show m'.ar.core.bq=true;rw [e];exact hq
   ·
    rw [e];rfl
  ·
   rw [iZ (c:={ c with aE:=b }) hj hs h1 k hk] at e
   refine ⟨g.lost,?_,?_,fun mask=>⟨⟨#[255]⟩,?_⟩⟩
   ·
    show m'.ar.core.bB=true;rw [e];exact hp
   ·
    show m'.ar.core.bq=true;rw [e];exact hq
   ·
    rw [e];rfl
structure Calm (m:aG) (x:ByteArray):Prop where
 lost:m.lost=false
 dR:m.ar.dR=false
 aE:m.aE=m.ar.aE
 cells:m.ar.cells=x
 bB:m.ar.bB=true
 bq:m.ar.bq=true
 bg:m.ar.bg=none
 busy : ∀ y ∈ m.ar.busy,1≤y∧y≤400
theorem Calm.qc {m:aG} {x:ByteArray} (h:Calm m x):gd m m.ar.core:=⟨h.lost,h.dR,rfl,h.aE⟩
theorem Calm.of {m:aG} {c:Core} {x:ByteArray} (h:gd m c) (h1:c.cells=x) (h2:c.bB=true) (h3:c.bq=true) (h4:c.bg=none) (h5 : ∀ y ∈ c.busy,1≤y∧y≤400):Calm m x:=by
 have e:=h.core
 subst e
 exact ⟨h.lost,h.dR,h.aE,h1,h2,h3,h4,h5⟩
theorem Calm.bT {m:aG} {x:ByteArray} (h:Calm m x):m.ar.core.bT=false:=by unfold Core.bT eS;rw [show m.ar.core.bg=none from h.bg]
def eV (m:aG) (e:Int) (m':aG) (D:Prop) (S:ByteArray→Prop):Prop:=(e=0∧D∧fY m m')∨(e=1101∧yb m' S∧0≤m.left)
theorem eV.mono {m:aG} {e:Int} {m':aG} {D D':Prop} {S S':ByteArray→Prop} (h:eV m e m' D S) (hD:D→D') (hS : ∀ x,S x→S' x):eV m e m' D' S' :=
 h.elim (fun h=>.inl ⟨h.1,hD h.2.1,h.2.2⟩) (fun h=>.inr ⟨h.1,h.2.1.mono hS,h.2.2⟩)
theorem eV.next {m m1 m2:aG} {e:Int} {D:Prop} {S:ByteArray→Prop} (hB:fY m m1) (h:eV m1 e m2 D S):eV m e m2 D S :=
 h.elim (fun h=>.inl ⟨h.1,h.2.1,hB.trans h.2.2⟩) (fun h=>.inr ⟨h.1,h.2.1,by
  rcases Int.lt_or_le m.left 0 with hl | hl
  ·
   have:=hB hl;have:=h.2.2;omega
  ·
   exact hl⟩)
theorem oE {m:aG} {x:ByteArray} {r:aG×List Int×Int} {xs:List Int} {c':Core} (h:Calm m x) (k:vG m m.ar.core r xs c'):(r.2.2=0∧r.2.1=xs∧gd r.1 c'∧fY m r.1)∨(r.2.2=1101∧r.2.1=[]∧yb r.1 (fun y=>y=x)∧0≤m.left):=by
 rcases k with ⟨e1,e2,g⟩ | ⟨e1,e2,g,b⟩
 ·
  exact .inr ⟨e1,e2,(mP g h.bg h.bB h.bq).mono fun y e=>e.trans h.cells,g.left⟩
 ·
  exact .inl ⟨e1,e2,g,b⟩
theorem Calm.leave {m:aG} {x:ByteArray} (h:Calm m x):m.ar.core.aE=true→m.ar.core.bq=true∧m.ar.core.bT=false:=fun _=>⟨h.bq,h.bT⟩
theorem iV (c:Core):(c.first % 2 != 0)=c.bT:=by
 unfold Core.first DO
 cases c.bT <;> cases c.en <;> cases c.bB <;> rfl
theorem mL {m:aG} {c:Core} (h:gd m c) (hl:c.aE=true→c.bq=true∧c.bT=false):vG m c (m.run 5 0 [] 1) [(Core.bG 9 { c with aE:=false }).first] (Core.bG 16 { c with aE:=false }) :=
 fW h (by decide) hl (LG rfl) (by
  have : ∀ k (c:Core),c.aE=false→(Core.bG k c).aE=false:=by
   intro k
   induction k with
   | zero=>intro c h;exact h
   | succ k ih =>
    intro c h
    refine ih _ ?_
    unfold Core.pass
    split
    ·
     exact h
    ·
     split
     ·
      exact h
     ·
      split <;> exact h
  exact this _ _ rfl)
theorem Ih {m:aG} {c:Core} (N:Nat) (n:Int) (h:gd m c) (hg:c.aE=false) (hj:c.bg=none) (hp:c.bB=true) (hq:c.bq=true):eV m (aG.gM (N+1) n m).2.2 (aG.gM (N+1) n m).1 (gd (aG.gM (N+1) n m).1 c) (fun y=>y=c.cells):=by
 have hgo:({ c with aE:=false }:Core)=c:=by rw [← hg]
 have k:=mL h (by rw [hg];intro e;cases e)
 rw [hgo,ew hj,ew hj] at k
 unfold aG.gM aG.dr
 rcases k with ⟨e1,e2,g⟩ | ⟨e1,e2,r,b⟩
 ·
  rw [if_pos (by rw [e1];decide)]
  exact .inr ⟨e1,mP g hj hp hq,g.left⟩
 ·
  rw [if_neg (by rw [e1];decide),if_pos]
  ·
   exact .inl ⟨rfl,r,b⟩
  ·
   rw [e1,e2,List.headD_cons,iV]
   unfold Core.bT eS
   rw [hj];rfl
theorem J5 : ∀ (N:Nat) (n:Int) (m:aG) (c:Core) (j:iz),gd m c→c.aE=false→c.bg=some j→j.gX=false→1≤j.left→j.left≤16 * N+9→c.bB=true→c.bq=true→eV m (aG.gM (N+1) n m).2.2 (aG.gM (N+1) n m).1 (gd (aG.gM (N+1) n m).1 (c.done j)) (fun y => ∃ mask,y=cI j c.cells mask):=by
 intro N
 induction N with
 | zero =>
  intro n m c j h hg hj hs h1 hl hp hq
  have hgo:({ c with aE:=false }:Core)=c:=by rw [← hg]
  have k:=mL h (by rw [hg];intro e;cases e)
  rw [hgo,iZ hj hs h1 9 (by omega),iZ hj hs h1 16 (by omega)] at k
  unfold aG.gM aG.dr
  rcases k with ⟨e1,e2,g⟩ | ⟨e1,e2,r,b⟩
  ·
   rw [if_pos (by rw [e1];decide)]
   exact .inr ⟨e1,sH g hj h1 hp hq,g.left⟩
  ·
   rw [if_neg (by rw [e1];decide),if_pos]
   ·
    exact .inl ⟨rfl,r,b⟩
   ·
    rw [e1,e2,List.headD_cons,iV];rfl
 | succ N ih =>
  intro n m c j h hg hj hs h1 hl hp hq
  have hgo:({ c with aE:=false }:Core)=c:=by rw [← hg]
  have k:=mL h (by rw [hg];intro e;cases e)
  rw [hgo] at k
  unfold aG.gM aG.dr
  rcases Int.lt_or_le 9 j.left with h9 | h9
  ·
   rw [mJ hj hs 9 (by omega)] at k
   rcases k with ⟨e1,e2,g⟩ | ⟨e1,e2,r,b⟩
   ·
    rw [if_pos (by rw [e1];decide)]
    exact .inr ⟨e1,sH g hj h1 hp hq,g.left⟩
   ·
    rw [if_neg (by rw [e1];decide),if_neg]
    ·
     rcases Int.lt_or_le 16 j.left with h16 | h16
     ·
      rw [mJ hj hs 16 (by omega)] at r
      have:=ih (n+1) (m.run 5 0 [] 1).1 { c with bg:=some { j with left:=j.left - 16 } } { j with left:=j.left - 16 } r hg rfl hs (by show 1≤j.left - 16;omega) (by show j.left - 16≤_;omega) hp hq
      exact this.next b
     ·
      rw [iZ hj hs h1 16 (by omega)] at r
      have:=Ih N (n+1) r hg rfl hp hq
      refine eV.next b (this.mono id fun y e=>⟨⟨#[255]⟩,e⟩)
    ·
     rw [e1,e2,List.headD_cons,iV]
     unfold Core.bT eS
     simp [hs]
  ·
   rw [iZ hj hs h1 9 (by omega),iZ hj hs h1 16 (by omega)] at k
   rcases k with ⟨e1,e2,g⟩ | ⟨e1,e2,r,b⟩
   ·
    rw [if_pos (by rw [e1];decide)]
    exact .inr ⟨e1,sH g hj h1 hp hq,g.left⟩
   ·
    rw [if_neg (by rw [e1];decide),if_pos]
    ·
     exact .inl ⟨rfl,r,b⟩
    ·
     rw [e1,e2,List.headD_cons,iV];rfl
theorem xi (p:Int) (hp:p % 32=0) (s:ByteArray) (i:Nat) (hi:i<32) (hs:s.size=32) : ∀ n,n≤32→lq p (eG s) n i=if i<n then bt s i else 255
 | 0,_=>rfl
 | n+1,hn=>by
  unfold lq
  rw [xi p hp s i hi hs n (by omega)]
  have hm:(p+(n:Int)) % 32=n:=by omega
  rw [hm]
  by_cases e:n=i
  ·
   subst e
   have hg:(eG s).getD n 0=((bt s n).toNat:Int):=by
    unfold eG
    simp [List.getD,hs,hi]
   have hlt:=(bt s n).toNat_lt
   rw [if_pos rfl,if_pos (Nat.lt_succ_self n),hg]
   have:((((bt s n).toNat:Int)) % 256).toNat=(bt s n).toNat:=by omega
   rw [this]
   simp
  ·
   rw [if_neg (by omega)]
   by_cases h:i<n
   ·
    rw [if_pos h,if_pos (by omega)]
   ·
    rw [if_neg h,if_neg (by omega)]
theorem Ey (p:Int) (hp:p % 32=0) (s:ByteArray) (hs:s.size=32):lu p (eG s)=s:=by
 refine fC (by rw [oT,hs]) fun i hi => ?_
 rw [oT] at hi
 unfold lu
 rw [lN _ _ _ hi,kZ,hs,xi p hp s i hi hs 32 zY,if_pos hi]
def jz (x:ByteArray) (p:Int) (mask s:ByteArray):ByteArray:=lB x p.toNat 32 (iC mask s)
theorem Ei (s:ByteArray) : ∀ b ∈ eG s,0≤b∧b<256:=by
 intro b hb
 have:=List.all_eq_true.1 (nz s) b hb
 unfold isByte at this
 simpa using this
theorem nL {c:Core} {p:Int} {j:iz} (he:c.en=true) (hp:2048≤p):c.dP p j={ c with bg:=some { j with left:=c.busy.headD 8 },busy:=c.busy.drop 1 }:=by
 unfold Core.dP
 rw [if_neg (by rw [he];decide),if_neg (by simp;intro;omega)]
theorem wR {b:List Int} (h : ∀ y ∈ b,1≤y∧y≤400):1≤b.headD 8∧b.headD 8≤400:=by
 cases b with
 | nil=>simp
 | cons y r=>exact h y (by simp)
theorem yU {m:aG} {x:ByteArray} (h:Calm m x) (p:Int) (s:ByteArray) (h0:2048≤p) (h1:p<4096) (hp:p % 32=0) (hs:s.size=32):eV m (m.gV p s).2 (m.gV p s).1 (Calm (m.gV p s).1 (jz x p ⟨#[255]⟩ s)) (fun y=>y=x ∨ ∃ mask,y=jz x p mask s):=by
 have k6:=fW (b:=6) (at_:=0) (ys:=[]) (read:=0) h.qc (by decide) h.leave (Ft (c:={ m.ar.core with aE:=false }) rfl h.bT) rfl
 unfold aG.gV
 rcases oE h k6 with ⟨e1,e2,r,b⟩ | ⟨e1,e2,t,l⟩
 case inr=>rw [if_pos (by rw [e1];decide)];exact .inr ⟨e1,t.mono fun y e=>.inl e,l⟩
 rw [if_neg (by rw [e1];decide)]
 have k2:=fW (b:=2) (at_:=p) (ys:=eG s) (read:=0) r (by decide) (by intro e;cases e) (Mx (c:={ m.ar.core with aE:=false,en:=true }) p (eG s) (by omega) h1 (by rw [kZ];omega) (Ei s) rfl h.bg) (by rw [nL rfl h0])
 rw [nL rfl h0] at k2
 have hbusy:=wR (show ∀ y ∈ ({ m.ar.core with aE:=false,en:=true }:Core).busy,1≤y∧y≤400 from h.busy)
 rcases k2 with ⟨f1,f2,g⟩ | ⟨f1,f2,r2,b2⟩
 ·
  rw [if_pos (by rw [f1];decide)]
  refine .inr ⟨f1,(mP g h.bg h.bB h.bq).mono fun y e=>.inl (e.trans h.cells),?_⟩
  rcases Int.lt_or_le m.left 0 with hl | hl
  ·
   have:=b hl;have:=g.left;omega
  ·
   exact hl
 ·
  rw [if_neg (by rw [f1];decide)]
  have hpo:p - p % 32=p:=by omega
  have hjc : ∀ l sp mask,cI ⟨-1,p - p % 32,lu p (eG s),l,sp⟩ x mask=jz x p mask s:=fun l sp mask=>by
   unfold cI jz
   rw [if_pos rfl,Ey p hp s hs,hpo,hs]
  have hw:=J5 255 1 _ _ _ r2 rfl rfl rfl hbusy.1 (Int.le_trans hbusy.2 (by decide)) h.bB h.bq
  refine eV.next (b.trans b2) (hw.mono (fun hr => ?_) (fun y hy=>.inr ?_))
  ·
   refine Calm.of hr ?_ h.bB h.bq rfl (fun y hy=>h.busy y (List.mem_of_mem_drop hy))
   rw [← hjc (m.ar.busy.headD 8) false,← h.cells]
   rfl
  ·
   obtain ⟨mask,e⟩:=hy
   refine ⟨mask,e.trans ?_⟩
   rw [← hjc (m.ar.busy.headD 8) false,← h.cells]
   rfl
def jn (x:ByteArray) (p:Int) (s:ByteArray):ByteArray:=jz (jz x p ⟨#[255]⟩ (s.extract 0 32)) (p+32) ⟨#[255]⟩ (s.extract 32 64)
def sM (x:ByteArray) (p:Int) (s y:ByteArray):Prop:=y=x∨(∃ mask,y=jz x p mask (s.extract 0 32)) ∨ ∃ mask,y=jz (jz x p ⟨#[255]⟩ (s.extract 0 32)) (p+32) mask (s.extract 32 64)
theorem yS {m:aG} {x:ByteArray} (h:Calm m x) (p:Int) (s:ByteArray) (h0:2048≤p) (h1:p<4064) (hp:p % 32=0) (hs:s.size=64):eV m (m.ef p s).2 (m.ef p s).1 (Calm (m.ef p s).1 (jn x p s)) (sM x p s):=by
 have k:=yU h p (s.extract 0 32) h0 (by omega) hp (by simp [hs])
 unfold aG.ef
 rcases k with ⟨e,c,b⟩ | ⟨e,t,l⟩
 ·
  rw [if_neg (by rw [e];decide)]
  refine eV.next b ((yU c (p+32) (s.extract 32 64) (by omega) (by omega) (by omega) (by simp [hs])).mono id fun y hy => ?_)
  rcases hy with hy | hy
  ·
   exact .inr (.inl ⟨_,hy⟩)
  ·
   exact .inr (.inr hy)
 ·
  rw [if_pos (by rw [e];decide)]
  exact .inr ⟨e,t.mono fun y hy=>hy.elim .inl (fun h=>.inr (.inl h)),l⟩
theorem tU (c:Core) (op:gz) (hop:op=an 107∨op=an 235) (p:Int) (h0:0≤p) (n:Nat) (hn:p+n≤4096):eI (comes c op p 0 n)=mk n fun i=>bt c.cells (p.toNat+i):=by
 refine fC (by rw [fe,eB];simp [comes]) fun i hi => ?_
 rw [fe] at hi
 have hi':i<n:=by simpa [comes] using hi
 rw [lN _ _ _ hi']
 have e:(K c op 6 0 p 0 false [] 0 0 0).eM ((0:Int)+i)=((bt c.cells (p.toNat+i)).toNat:Int):=by
  have hm:((p+(0+(i:Int))) % 4096).toNat=p.toNat+i:=by omega
  rcases hop with rfl | rfl <;> simp only [ag.eM,K,an,fH,Option.getD] <;> simp <;> simpa using congrArg (fun k=>((bt c.cells k).toNat:Int)) hm
 unfold eI bytesOf bt comes
 simp only [List.map_map]
 have hlt:=(bt c.cells (p.toNat+i)).toNat_lt
 rw [Array.getD_eq_getD_getElem?]
 simp only [List.getElem?_toArray,List.getElem?_map,List.getElem?_range hi',Option.map_some,Option.getD_some,Function.comp,e]
 unfold byteOf
 have:((((bt c.cells (p.toNat+i)).toNat:Int)) % 256).toNat=(bt c.cells (p.toNat+i)).toNat:=by omega
 rw [this]
 simp [bt]
theorem DT {m:aG} {x:ByteArray} (h:Calm m x) (p:Int) (n:Nat) (h0:0≤p) (hn:0<n) (h1:p+n≤4096):eV m (m.cS p n).2.2 (m.cS p n).1 (Calm (m.cS p n).1 x∧(m.cS p n).2.1=mk n fun i=>bt x (p.toNat+i)) (fun y=>y=x):=by
 have k:=fW (b:=107) (at_:=p) (ys:=[]) (read:=n) h.qc (by decide) h.leave (KA (c:={ m.ar.core with aE:=false }) p n h0 (by omega) hn rfl h.bq h.bT) rfl
 unfold aG.cS
 rcases oE h k with ⟨e1,e2,r,b⟩ | ⟨e1,e2,t,l⟩
 ·
  rw [if_pos e1]
  refine .inl ⟨rfl,⟨Calm.of r h.cells h.bB h.bq h.bg h.busy,?_⟩,b⟩
  simp only [e2]
  rw [tU _ _ (.inl rfl) p h0 n h1]
  show mk n (fun i=>bt m.ar.cells (p.toNat+i))=_
  rw [h.cells]
 ·
  rw [if_neg (by rw [e1];decide)]
  exact .inr ⟨e1,t,l⟩
theorem Hr (c:Core):eI (comes c (an 90) 0 0 32)=bw:=by
 refine fC (by rw [fe];rfl) fun i hi => ?_
 rw [fe] at hi
 have hi':i<32:=by simpa [comes] using hi
 have e:(K c (an 90) 6 0 0 0 false [] 0 0 0).eM ((0:Int)+i)=((bt bw i).toNat:Int):=by
  have hm:((0+(0+(i:Int))) % 32).toNat=i:=by omega
  simp only [ag.eM,K,an,fH,Option.getD]
  simpa using congrArg (fun k=>((bt bw k).toNat:Int)) hm
 unfold eI bytesOf comes
 conv=>lhs;unfold bt
 simp only [List.map_map]
 have hlt:=(bt bw i).toNat_lt
 rw [Array.getD_eq_getD_getElem?]
 simp only [List.getElem?_toArray,List.getElem?_map,List.getElem?_range hi',Option.map_some,Option.getD_some,Function.comp,e]
 unfold byteOf
 have:((((bt bw i).toNat:Int)) % 256).toNat=(bt bw i).toNat:=by omega
 rw [this]
 simp
theorem vW {m:aG} {x:ByteArray} (h:Calm m x):m.kM∧eV m m.dW.2 m.dW.1 (Calm m.dW.1 x) (fun y=>y=x):=by
 have k:=fW (b:=159) (at_:=0) (ys:=[]) (read:=3) h.qc (by decide) h.leave (KE (c:={ m.ar.core with aE:=false }) rfl h.bT) rfl
 have kk : ∀ m1:aG,Calm m1 x→vG m1 m1.ar.core (m1.run 90 0 [] 32) (comes m1.ar.core (an 90) 0 0 32) { m1.ar.core with aE:=false }:=fun m1 h1=>fW (b:=90) (at_:=0) (ys:=[]) (read:=32) h1.qc (by decide) h1.leave (LU (c:={ m1.ar.core with aE:=false }) rfl h1.bT) rfl
 rcases oE h k with ⟨e1,e2,r,b⟩ | ⟨e1,e2,t,l⟩
 ·
  have c1:Calm (m.run 159 0 [] 3).1 x:=Calm.of r h.cells h.bB h.bq h.bg h.busy
  have k2:=kk _ c1
  unfold aG.dW
  rw [if_pos e1]
  rcases oE c1 k2 with ⟨f1,f2,r2,b2⟩ | ⟨f1,f2,t2,l2⟩
  ·
   refine ⟨⟨fun _=>e2,fun _ _=>by rw [f2];exact Hr _⟩,.inl ⟨f1,Calm.of r2 c1.cells c1.bB c1.bq c1.bg c1.busy,b.trans b2⟩⟩
  ·
   refine ⟨⟨fun _=>e2,fun _ e=>by rw [f1] at e;cases e⟩,eV.next b (.inr ⟨f1,t2,l2⟩)⟩
 ·
  unfold aG.dW
  rw [if_neg (by rw [e1];decide)]
  exact ⟨⟨fun e=>absurd (e1.symm.trans e) (by decide),fun e=>absurd (e1.symm.trans e) (by decide)⟩,.inr ⟨e1,t,l⟩⟩
structure Has (x img:ByteArray):Prop where
 size:x.size=4096
 same : ∀ i,i<2048→bt x i=bt img i
def Cache.di (q:Cache) (img:ByteArray):Prop := ∀ x:Int,0≤x→x<2048→(q.find x).2=true→(q.find x).1=((bt img x.toNat).toNat:Int)
theorem zw (img:ByteArray):Cache.new.di img:=fun x h0 h1 h=>by
 unfold Cache.find Cache.new aM at h
 simp only at h
 rw [if_neg (by omega),if_neg (by omega)] at h
 cases h
theorem pI {img s:ByteArray} {x y:Int} (hs : ∀ i,i<16→bt s i=bt img ((aM x).toNat+i)) (h0:0≤y) (e:aM x=aM y):bt s (fT y)=bt img y.toNat:=by
 have ho:fT y<16:=by unfold fT;omega
 rw [hs _ ho,e]
 congr 1
 unfold aM fT
 omega
theorem Ej {q:Cache} (g:q.Good) {img s:ByteArray} {x:Int} (h:q.di img) (h0:0≤x) (hs : ∀ i,i<16→bt s i=bt img ((aM x).toNat+i)):(q.keep (aM x) s).di img∧(q.keep (aM x) s).find x=(((bt img x.toNat).toNat:Int),true):=by
 have put0 : ∀ n,(q.put 0 (aM x) s n).di img∧(q.put 0 (aM x) s n).find x=(((bt img x.toNat).toNat:Int),true):=fun n=>by
  refine ⟨fun y y0 y1 hy => ?_,?_⟩
  ·
   unfold Cache.find Cache.put at hy ⊢
   simp only [if_true] at hy ⊢
   by_cases e:aM x=aM y
   ·
    rw [if_pos e,pI hs y0 e]
   ·
    rw [if_neg e] at hy ⊢
    by_cases e1:q.a1=aM y
    ·
     rw [if_pos e1]
     have:=h y y0 y1
     unfold Cache.find at this
     rw [if_neg,if_pos e1] at this
     ·
      exact this rfl
     ·
      intro e0
      have hp:0≤aM y:=by unfold aM;omega
      exact g.ne (by omega) (e1.trans e0.symm)
    ·
     rw [if_neg e1] at hy;cases hy
  ·
   unfold Cache.find Cache.put
   simp only [if_true]
   rw [pI hs h0 rfl]
 have put1 : ∀ n,q.a0≠aM x→(q.put 1 (aM x) s n).di img∧(q.put 1 (aM x) s n).find x=(((bt img x.toNat).toNat:Int),true):=fun n hn=>by
  refine ⟨fun y y0 y1 hy => ?_,?_⟩
  ·
   unfold Cache.find Cache.put at hy ⊢
   simp only [show ¬((1:Nat)=0) by decide,if_false] at hy ⊢
   by_cases e0:q.a0=aM y
   ·
    rw [if_pos e0]
    have:=h y y0 y1
    unfold Cache.find at this
    rw [if_pos e0] at this
    exact this rfl
   ·
    rw [if_neg e0] at hy ⊢
    by_cases e:aM x=aM y
    ·
     rw [if_pos e,pI hs y0 e]
    ·
     rw [if_neg e] at hy;cases hy
  ·
   unfold Cache.find Cache.put
   simp only [show ¬((1:Nat)=0) by decide,if_false]
   rw [if_neg hn,if_pos trivial,pI hs h0 rfl]
 unfold Cache.keep
 split
 ·
  exact put0 _
 ·
  rename_i hn
  split
  ·
   exact put1 _ hn
  ·
   split
   ·
    exact put0 _
   ·
    exact put1 _ hn
structure sQ (m:aG) (c:Core):Prop where
 qc:gd m c
 bT:c.bT=false
 bB:c.bB=true
 bq:c.bq=true
 left : ∀ j,c.bg=some j→1≤j.left
def Core.yD (c:Core) (y:ByteArray):Prop:=match c.bg with | none=>y=c.cells | some j => ∃ mask,y=cI j c.cells mask
theorem mE {m m':aG} {c:Core} (g:Is m c m') (hp:c.bB=true) (hq:c.bq=true) (hl : ∀ j,c.bg=some j→1≤j.left):yb m' c.yD:=by
 cases hj:c.bg with
 | none=>exact (mP g hj hp hq).mono fun y e=>by unfold Core.yD;rw [hj];exact e
 | some j=>exact (sH g hj (hl j hj) hp hq).mono fun y e=>by unfold Core.yD;rw [hj];exact e
theorem Jn {m:aG} {c:Core} {q:Cache} {img:ByteArray} {x:Int} (h:sQ m c) (hx:Has c.cells img) (g:q.Good) (hq:q.di img) (h0:0≤x) (h1:x<2048):eV m (fa m q x).2.2 (fa m q x).1 (sQ (fa m q x).1 { c with aE:=true }∧(fa m q x).2.1.Good∧(fa m q x).2.1.di img∧(fa m q x).2.1.find x=(((bt img x.toNat).toNat:Int),true)) c.yD:=by
 have hf:0≤aM x∧aM x+16≤2048∧aM x % 16=0:=by unfold aM;omega
 have hst:({ c with aE:=false }:Core).still:=eg h.bT
 have k:=mL h.qc (fun _=>⟨h.bq,h.bT⟩)
 rw [fy hst,fy hst] at k
 unfold fa
 rcases k with ⟨e1,e2,gg⟩ | ⟨e1,e2,r,b⟩
 ·
  rw [if_pos (by rw [e1];decide)]
  exact .inr ⟨e1,mE gg h.bB h.bq h.left,gg.left⟩
 have hev : ¬((m.run 5 0 [] 1).2.1.headD 0 % 2≠0):=by
  rw [e2,List.headD_cons]
  have:=iV { c with aE:=false }
  rw [show ({ c with aE:=false }:Core).bT=false from h.bT] at this
  simpa using this
 rw [if_neg (by rw [e1];decide),if_neg hev]
 have k2:=JQ (p:=aM x) r h.bq h.bT hf.1 (by omega)
 rcases k2 with ⟨f1,f2,gg⟩ | ⟨f1,f2,r2,b2⟩
 ·
  rw [if_pos (by rw [f1];decide)]
  have t:yb ((m.run 5 0 [] 1).1.run 235 (aM x) [160] 16).1 c.yD:=mE (c:={ c with aE:=false }) gg h.bB h.bq h.left
  exact eV.next b (.inr ⟨f1,t,gg.left⟩)
 ·
  rw [if_neg (by rw [f1];decide)]
  have hs : ∀ i,i<16→bt (eI ((m.run 5 0 [] 1).1.run 235 (aM x) [160] 16).2.1) i=bt img ((aM x).toNat+i):=fun i hi=>by
   rw [f2,tU _ _ (.inr rfl) (aM x) hf.1 16 (by omega),lN _ _ _ hi]
   exact hx.same _ (by omega)
  have hk:=Ej g hq h0 hs
  have hsz:(eI ((m.run 5 0 [] 1).1.run 235 (aM x) [160] 16).2.1).size=16:=by rw [fe,f2];rfl
  exact .inl ⟨rfl,⟨⟨r2,h.bT,h.bB,h.bq,h.left⟩,zt g _ _ hf.1 (by omega) hf.2.2 hsz,hk.1,hk.2⟩,b.trans b2⟩
def oC (img:ByteArray) (at_:Int):Nat→Nat→Int→Int
 | 0,_,y=>y
 | n+1,j,y=>oC img at_ n (j+1) (bits .or .i64 y (yw ((bt img (at_+j).toNat).toNat:Int) j))
theorem tv {img:ByteArray} : ∀ (n j:Nat) (y:Int) (m:aG) (q:Cache) (at_:Int) (c:Core),sQ m c→Has c.cells img→q.Good→q.di img→0≤at_→at_+j+n≤2048→eV m (fu n j y m q at_).2.2.2 (fu n j y m q at_).1 ((∃ g,sQ (fu n j y m q at_).1 { c with aE:=g })∧(fu n j y m q at_).2.1.Good∧(fu n j y m q at_).2.1.di img∧(fu n j y m q at_).2.2.1=oC img at_ n j y) c.yD
 | 0,j,y,m,q,at_,c,h,hx,g,hq,h0,h1=>.inl ⟨rfl,⟨⟨c.aE,h⟩,g,hq,rfl⟩,id⟩
 | n+1,j,y,m,q,at_,c,h,hx,g,hq,h0,h1=>by
  unfold fu
  have ha:0≤at_+(j:Int)∧at_+(j:Int)<2048:=by omega
  by_cases hfd:(q.find (at_+j)).2=true
  ·
   rw [if_pos hfd,hq _ ha.1 ha.2 hfd]
   exact tv n (j+1) _ m q at_ c h hx g hq h0 (by omega)
  ·
   rw [if_neg hfd]
   rcases Jn h hx g hq ha.1 ha.2 with ⟨e,⟨l1,l2,l3,l4⟩,b⟩ | ⟨e,t,l⟩
   ·
    rw [if_neg (by rw [e];decide)]
    rw [l4]
    have:=tv n (j+1) (bits .or .i64 y (yw ((bt img (at_+j).toNat).toNat:Int) j)) _ _ at_ { c with aE:=true } l1 hx l2 l3 h0 (by omega)
    exact eV.next b this
   ·
    rw [if_pos (by rw [e];decide)]
    exact .inr ⟨e,t,l⟩
theorem xt {m:aG} {c:Core} {q:Cache} {img:ByteArray} {at_ width:Int} (h:sQ m c) (hx:Has c.cells img) (g:q.Good) (hq:q.di img) (hr:fI at_ width=true):eV m (bJ m q at_ width).2.2.2 (bJ m q at_ width).1 ((∃ g,sQ (bJ m q at_ width).1 { c with aE:=g })∧(bJ m q at_ width).2.1.Good∧(bJ m q at_ width).2.1.di img∧(bJ m q at_ width).2.2.1=oC img at_ width.toNat 0 0) c.yD:=by
 unfold bJ
 rw [if_pos hr]
 unfold fI at hr
 simp at hr
 exact tv width.toNat 0 0 m q at_ c h hx g hq (by omega) (by omega)
theorem Km (x:UInt8):bits .or .i64 0 (yw (x.toNat:Int) 0)=(x.toNat:Int):=by
 have hx:=x.toNat_lt
 have:=nx 0 x.toNat (by decide) (by omega)
 unfold yw
 simp only [Nat.mul_zero,Int.pow_zero,Int.mul_one,gy]
 simpa using this
def kY (img:ByteArray) (x:Int):Int:=((bt img x.toNat).toNat:Int)
theorem FO (img:ByteArray) (x:Int):oC img x (1:Int).toNat 0 0=kY img x:=by
 show bits .or .i64 0 (yw ((bt img (x+((0:Nat):Int)).toNat).toNat:Int) 0)=_
 rw [Km]
 simp [kY]
theorem rY {x:Int} (h0:0≤x) (h1:x<2048):fI x 1=true:=by
 unfold fI
 simp
 omega
theorem Lc {m:aG} {c:Core} {q:Cache} {img:ByteArray} {x:Int} {left out:List Int} (h:sQ m c) (hx:Has c.cells img) (g:q.Good) (hq:q.di img) (h0:0≤x) (h1:x<2048):eV m (eP m q x left out).2.2.2.2 (eP m q x left out).1 ((∃ g,sQ (eP m q x left out).1 { c with aE:=g })∧(eP m q x left out).2.1.Good∧(eP m q x left out).2.1.di img∧(eP m q x left out).2.2.1=left∧(eP m q x left out).2.2.2.1=out++[kY img x]) c.yD:=by
 have k:=xt h hx g hq (rY h0 h1)
 rw [FO] at k
 unfold eP
 rcases k with ⟨e,⟨l1,l2,l3,l4⟩,b⟩ | ⟨e,t,l⟩
 ·
  rw [if_neg (by rw [e];decide)]
  exact .inl ⟨rfl,⟨l1,l2,l3,rfl,by simp only [l4]⟩,b⟩
 ·
  rw [if_pos (by rw [e];decide)]
  exact .inr ⟨e,t,l⟩
theorem xy {img:ByteArray} : ∀ (l out:List Int) (m:aG) (q:Cache) (c:Core),sQ m c→Has c.cells img→q.Good→q.di img→(∀ x ∈ l,0≤x∧x<2048)→eV m (dG l out m q).2.2.2 (dG l out m q).1 ((∃ g,sQ (dG l out m q).1 { c with aE:=g })∧(dG l out m q).2.1.Good∧(dG l out m q).2.1.di img∧(dG l out m q).2.2.1=out++l.map (kY img)) c.yD
 | [],out,m,q,c,h,hx,g,hq,_=>.inl ⟨rfl,⟨⟨c.aE,h⟩,g,hq,by simp [dG]⟩,id⟩
 | x::l,out,m,q,c,h,hx,g,hq,hl=>by
  obtain ⟨x0,x1⟩:=hl x (by simp)
  have k:=xt h hx g hq (rY x0 x1)
  rw [FO] at k
  unfold dG
  rcases k with ⟨e,⟨⟨gg,l1⟩,l2,l3,l4⟩,b⟩ | ⟨e,t,l⟩
  ·
   rw [if_neg (by rw [e];decide),l4]
   have:=xy l (out++[kY img x]) _ _ { c with aE:=gg } l1 hx l2 l3 (fun y hy=>hl y (by simp [hy]))
   refine eV.next b (this.mono (fun ⟨a1,a2,a3,a4⟩=>⟨a1,a2,a3,?_⟩) fun y hy=>hy)
   rw [a4]
   simp
  ·
   rw [if_pos (by rw [e];decide)]
   exact .inr ⟨e,t,l⟩
structure BC (c:Core) (B:Int):Prop where
 aE:c.aE=false
 bB:c.bB=true
 bq:c.bq=true
 bg : ∀ j,c.bg=some j→j.gX=false∧1≤j.left∧j.left≤B∧j.au ≠ -1
def Core.fin (c:Core):Core:=match c.bg with | none=>c | some j=>c.done j
theorem kI {c:Core} {B:Int} (h:BC c B) (k:Nat):BC (c.bG k) (B - k)∧(c.bG k).fin=c.fin∧(∀ y,(c.bG k).yD y→c.yD y)∧(∀ img,Has c.cells img→(∀ j,c.bg=some j→4≤j.au)→Has (c.bG k).cells img)∧(c.bG k).busy=c.busy:=by
 cases hj:c.bg with
 | none =>
  rw [ew hj]
  exact ⟨⟨h.aE,h.bB,h.bq,fun j e=>by rw [hj] at e;cases e⟩,rfl,fun y h=>h,fun img h _=>h,rfl⟩
 | some j =>
  obtain ⟨h1,h2,h3,h4⟩:=h.bg j hj
  rcases Int.lt_or_le (k:Int) j.left with hk | hk
  ·
   rw [mJ hj h1 k hk]
   refine ⟨⟨h.aE,h.bB,h.bq,fun j' e => ?_⟩,?_,?_,fun img h _=>h,rfl⟩
   ·
    obtain rfl:({ j with left:=j.left - k }:iz)=j':=by simpa using e
    exact ⟨h1,by show 1≤j.left - k;omega,by show j.left - k≤_;omega,h4⟩
   ·
    show _=Core.fin c
    unfold Core.fin
    rw [hj]
    rfl
   ·
    intro y hy
    unfold Core.yD
    rw [hj]
    exact hy
  ·
   rw [iZ hj h1 h2 k hk]
   refine ⟨⟨h.aE,h.bB,h.bq,fun j' e=>by cases e⟩,?_,?_,fun img hx hs => ?_,rfl⟩
   ·
    show _=Core.fin c
    unfold Core.fin
    rw [hj]
    rfl
   ·
    intro y hy
    unfold Core.yD
    rw [hj]
    exact ⟨_,hy⟩
   ·
    have h5:=hs j rfl
    show Has (cI j c.cells ⟨#[255]⟩) img
    unfold cI
    rw [if_neg h4]
    refine ⟨by unfold lB;rw [eB];exact hx.size,fun i hi => ?_⟩
    unfold lB
    rw [lN _ _ _ (by rw [hx.size];omega),if_neg (by omega)]
    exact hx.same i hi
theorem Fb {c:Core} (h:c.bT=false) {B:Int} (r:BC c B):c.bg=none:=by
 cases hj:c.bg with
 | none=>rfl
 | some j =>
  have:=(r.bg j hj).1
  unfold Core.bT eS at h
  rw [hj] at h
  simp [this] at h
theorem uG {c:Core} {B:Int} (r:BC c B) (g:Bool):({ ({ c.bQ with aE:=g }:Core) with aE:=false }:Core).gI=c:=by
 unfold Core.bQ Core.gI
 obtain ⟨a,b,d,e,f,bg,bu⟩:=c
 cases bg with
 | none=>have:=r.aE;simp only at this ⊢;rw [this]
 | some j =>
  obtain ⟨h1,_,_,h4⟩:=r.bg j rfl
  have:=r.aE
  simp only at this ⊢
  rw [if_neg h4,this,← h1]
theorem Hz {c:Core} {B:Int} (r:BC c B) {m:aG} (h:gd m c.bQ):sQ m c.bQ:=by
 have e:c.bQ.bT=false∧c.bQ.bB=true∧c.bQ.bq=true ∧ ∀ j,c.bQ.bg=some j→1≤j.left:=by
  unfold Core.bQ
  cases hj:c.bg with
  | none=>exact ⟨by simp only;unfold Core.bT eS;rw [hj],r.bB,r.bq,fun j e=>by rw [hj] at e;cases e⟩
  | some j =>
   obtain ⟨h1,h2,_,h4⟩:=r.bg j hj
   simp only
   rw [if_neg h4]
   refine ⟨by simp [Core.bT,eS],r.bB,r.bq,fun j' e => ?_⟩
   obtain rfl:({ j with gX:=true }:iz)=j':=by simpa using e
   exact h2
 exact ⟨h,e.1,e.2.1,e.2.2.1,e.2.2.2⟩
theorem Df {c:Core} (y:ByteArray) (h:c.bQ.yD y):c.yD y:=by
 obtain ⟨a,b,d,e,f,bg,bu⟩:=c
 cases bg with
 | none=>exact h
 | some j =>
  by_cases hs:j.au = -1
  ·
   simpa [Core.bQ,hs] using h
  ·
   have e1:(⟨a,b,d,e,f,some j,bu⟩:Core).bQ=⟨a,b,d,e,f,some { j with gX:=true },bu⟩:=by simp [Core.bQ,hs]
   rw [e1] at h
   exact h
theorem EX (c:Core):c.bQ.cells=c.cells:=by
 unfold Core.bQ
 split
 ·
  split <;> rfl
 ·
  rfl
theorem C2 {c:Core} (hs : ∀ j,c.bg=some j→4≤j.au) (k:Nat) : ∀ j,(c.bG k).bg=some j→4≤j.au:=by
 induction k generalizing c with
 | zero=>exact hs
 | succ k ih =>
  refine ih (c:=c.pass) fun j hj => ?_
  unfold Core.pass at hj
  cases hjc:c.bg with
  | none=>rw [hjc] at hj;simp only at hj;rw [hjc] at hj;cases hj
  | some j' =>
   rw [hjc] at hj
   simp only at hj
   split at hj
   ·
    rw [hjc] at hj;exact hs j (hjc.trans hj)
   ·
    split at hj
    ·
     cases hj
    ·
     obtain rfl:({ j' with left:=j'.left - 1 }:iz)=j:=by simpa using hj
     exact hs j' hjc
theorem Ii {img:ByteArray} : ∀ (N:Nat) (m:aG) (q:Cache) (left out:List Int) (c:Core),gd m c→BC c (16 * N+9)→Has c.cells img→(∀ j,c.bg=some j→4≤j.au)→q.Good→q.di img→(∀ x ∈ left,0≤x∧x<2048)→eV m (cK (N+1) m q left out).2.2.2.2 (cK (N+1) m q left out).1 (gd (cK (N+1) m q left out).1 c.fin∧(cK (N+1) m q left out).2.1.Good∧(cK (N+1) m q left out).2.1.di img ∧ ∃ l1,left=l1++(cK (N+1) m q left out).2.2.1∧(cK (N+1) m q left out).2.2.2.1=out++l1.map (kY img)) c.yD:=by
 intro N
 induction N with
 | zero =>
  intro m q left out c h r hx hs g hq hl
  have hgo:({ c with aE:=false }:Core)=c:=by rw [← r.aE]
  have k:=mL h (by rw [r.aE];intro e;cases e)
  rw [hgo] at k
  have h9:(c.bG 9).bg=none:=by
   cases hj:c.bg with
   | none=>rw [ew hj];exact hj
   | some j =>
    obtain ⟨h1,h2,h3,h4⟩:=r.bg j hj
    rw [iZ hj h1 h2 9 (by have:j.left≤9:=h3;omega)]
    rfl
  unfold cK aG.dr
  rcases k with ⟨e1,e2,gg⟩ | ⟨e1,e2,rr,b⟩
  ·
   rw [if_pos (by rw [e1];decide)]
   exact .inr ⟨e1,mE gg r.bB r.bq (fun j hj=>(r.bg j hj).2.1),gg.left⟩
  ·
   rw [if_neg (by rw [e1];decide),if_pos (by rw [e1,e2,List.headD_cons,iV];unfold Core.bT eS;rw [h9];rfl)]
   have e16:c.bG 16=c.fin:=by
    rw [show 16=9+7 from rfl,iw,ew h9]
    have:=(kI r 9).2.1
    rw [← this]
    unfold Core.fin
    rw [h9]
   rw [e16] at rr
   exact .inl ⟨rfl,⟨rr,g,hq,[],rfl,by simp⟩,b⟩
 | succ N ih =>
  intro m q left out c h r hx hs g hq hl
  have hgo:({ c with aE:=false }:Core)=c:=by rw [← r.aE]
  have k:=mL h (by rw [r.aE];intro e;cases e)
  rw [hgo] at k
  unfold cK aG.dr
  rcases k with ⟨e1,e2,gg⟩ | ⟨e1,e2,rr,b⟩
  ·
   rw [if_pos (by rw [e1];decide)]
   exact .inr ⟨e1,mE gg r.bB r.bq (fun j hj=>(r.bg j hj).2.1),gg.left⟩
  rw [if_neg (by rw [e1];decide)]
  cases hw:(c.bG 9).bT with
  | false =>
   have h9:=Fb hw (kI r 9).1
   rw [if_pos (by rw [e1,e2,List.headD_cons,iV,hw];rfl)]
   have e16:c.bG 16=c.fin:=by
    rw [show 16=9+7 from rfl,iw,ew h9]
    have:=(kI r 9).2.1
    rw [← this]
    unfold Core.fin
    rw [h9]
   rw [e16] at rr
   exact .inl ⟨rfl,⟨rr,g,hq,[],rfl,by simp⟩,b⟩
  | true =>
   rw [if_neg (by rw [e1,e2,List.headD_cons,iV,hw];simp)]
   obtain ⟨p1,p2,p3,p4,p5⟩:=kI r 16
   have p1':BC (c.bG 16) (16 * N+9):=⟨p1.aE,p1.bB,p1.bq,fun j hj=>by
    obtain ⟨a,b,d,e⟩:=p1.bg j hj
    exact ⟨a,b,by omega,e⟩⟩
   have s16:=C2 hs 16
   have x16:=p4 img hx hs
   cases left with
   | nil =>
    have:=ih (m.run 5 0 [] 1).1 q [] out (c.bG 16) rr p1' x16 s16 g hq (by simp)
    rw [p2] at this
    exact eV.next b (this.mono id p3)
   | cons x l =>
    obtain ⟨x0,x1⟩:=hl x (by simp)
    have k2:=fW (b:=117) (at_:=0) (ys:=[]) (read:=0) rr (by decide) (by rw [p1.aE];intro e;cases e) (by
     have hgo:({ c.bG 16 with aE:=false }:Core)=c.bG 16:=by rw [← p1.aE]
     rw [hgo]
     exact KC p1.aE) (by
     have:=(kI p1 8).1.aE
     unfold Core.bQ
     split
     ·
      split <;> exact this
     ·
      exact this)
    obtain ⟨t1,t2,t3,t4,t5⟩:=kI p1' 8
    have s24:=C2 s16 8
    have x24:=t4 img x16 s16
    generalize hc2:(c.bG 16).bG 8=c2 at *
    have mayAll : ∀ y,c2.yD y→c.yD y:=fun y hy=>p3 y (t3 y hy)
    simp only
    rcases k2 with ⟨f1,f2,gg⟩ | ⟨f1,f2,r3,b3⟩
    ·
     have e:(ei (m.run 5 0 [] 1).1 q x l out)=(((m.run 5 0 [] 1).1.run 117 0 [] 0).1,q,x::l,out,((m.run 5 0 [] 1).1.run 117 0 [] 0).2.2):=by
      unfold ei;rw [if_pos (by rw [f1];decide)]
     rw [e]
     simp only
     rw [if_pos (by rw [f1];decide)]
     exact eV.next b (.inr ⟨f1,(mE gg p1.bB p1.bq (fun j hj=>(p1.bg j hj).2.1)).mono p3,gg.left⟩)
    ·
     have hh:=Hz t1 r3
     have k3:=Lc (left:=l) (out:=out) hh (by rw [EX];exact x24) g hq x0 x1
     rcases k3 with ⟨d1,⟨⟨g4,l1⟩,l2,l3,l4,l5⟩,b4⟩ | ⟨d1,t,lf⟩
     ·
      have hc2g:c2.bQ.aE=false:=by
       have:=t1.aE
       unfold Core.bQ
       split
       ·
        split <;> exact this
       ·
        exact this
      have k5:=fW (b:=122) (at_:=0) (ys:=[]) (read:=0) l1.qc (by decide) (fun _=>⟨l1.bq,l1.bT⟩) (KD (c:={ ({ c2.bQ with aE:=g4 }:Core) with aE:=false }) rfl l1.bT) (by rw [uG t1 g4];exact t1.aE)
      rw [uG t1 g4] at k5
      have e:(ei (m.run 5 0 [] 1).1 q x l out)=(((eP ((m.run 5 0 [] 1).1.run 117 0 [] 0).1 q x l out).1.run 122 0 [] 0).1,(eP ((m.run 5 0 [] 1).1.run 117 0 [] 0).1 q x l out).2.1,(eP ((m.run 5 0 [] 1).1.run 117 0 [] 0).1 q x l out).2.2.1,(eP ((m.run 5 0 [] 1).1.run 117 0 [] 0).1 q x l out).2.2.2.1,((eP ((m.run 5 0 [] 1).1.run 117 0 [] 0).1 q x l out).1.run 122 0 [] 0).2.2):=by
       unfold ei
       rw [if_neg (by rw [f1];decide),if_neg (by rw [d1];decide)]
      rw [e]
      simp only
      rcases k5 with ⟨u1,u2,gg⟩ | ⟨u1,u2,r5,b5⟩
      ·
       rw [if_pos (by rw [u1];decide)]
       exact eV.next ((b.trans b3).trans b4) (.inr ⟨u1,(mE gg l1.bB l1.bq l1.left).mono fun y hy=>mayAll y (Df y hy),gg.left⟩)
      ·
       rw [if_neg (by rw [u1];decide),l4,l5]
       have t1':BC c2 (16 * N+9):=⟨t1.aE,t1.bB,t1.bq,fun j hj=>by
        obtain ⟨a,b,d,e⟩:=t1.bg j hj
        exact ⟨a,b,by omega,e⟩⟩
       have:=ih _ _ l (out++[kY img x]) c2 r5 t1' x24 s24 l2 l3 (fun y hy=>hl y (by simp [hy]))
       refine eV.next (((b.trans b3).trans b4).trans b5) (this.mono (fun ⟨a1,a2,a3,l1',a4,a5⟩=>⟨?_,a2,a3,x::l1',?_,?_⟩) mayAll)
       ·
        rw [t2,p2] at a1;exact a1
       ·
        rw [List.cons_append,← a4]
       ·
        rw [a5];simp
     ·
      have e:(ei (m.run 5 0 [] 1).1 q x l out)=eP ((m.run 5 0 [] 1).1.run 117 0 [] 0).1 q x l out:=by
       unfold ei
       rw [if_neg (by rw [f1];decide),if_pos (by rw [d1];decide)]
      rw [e,if_pos (by rw [d1];decide)]
      exact eV.next (b.trans b3) (.inr ⟨d1,t.mono fun y hy=>mayAll y (Df y hy),lf⟩)
end Go.Proofs.YtcfdenckiigdaaaGreat

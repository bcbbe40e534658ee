/- Part 19 of the contracts. -/
import Derived.Test.YtcfdenckiigdaaaGreatRd18
set_option linter.unusedVariables false
set_option maxRecDepth 100000
set_option maxHeartbeats 4000000
namespace Go.Proofs.YtcfdenckiigdaaaGreat
open Tryz Go.RowKit
section
def Core.bQ (c:Core):Bool:=eS c.aZ
theorem dZ {c:Core} (h:c.bQ=false):c.still:=by
 unfold Core.still Core.pass
 unfold Core.bQ eS at h
 cases hj:c.aZ with
 | none=>rfl
 | some j=>rw [hj] at h;simp only;rw [if_pos (by simpa using h)]
variable {c:Core} {op:gD} {a mo t nw:Int} {md:Bool} {ds:List Int} {h:Nat}
theorem fO (b:Int) (hk:(K c op 0 8 a mo md ds t nw h).known b=true):(K c op 0 8 a mo md ds t nw h).cT b=if 0<(ak b).addr then K c (ak b) 2 (if (ak b).addr=1 then 24 else 6) a mo md ds t nw h else ag.behind (K c (ak b) 0 8 a mo md ds t nw h):=by
 unfold ag.cT
 rw [if_neg (by rw [hk];decide)]
 rfl
def BF (ps:List Ph) (c:Core) (xs:List Int) (c':Core):Prop := ∀ (m:ag),m.dP=false→m.core=c→Ends ps m.select [] fun m2 o=>m2.fu.core=c'∧o=xs
theorem fH {m:ag} (hc:m.core=c) (hg:c.aD=false):m.select=K c gD.zero 0 8 0 0 false [] 0 0 m.home:=by
 unfold ag.select
 have e:m.aD=false:=by rw [← hg,← hc];rfl
 rw [e]
 subst hc
 rfl
theorem xT {m:ag} (hc:m.core=c) (hg:c.aD=true) (hq:c.bk=true) (hw:c.bQ=false):m.select=K c (ak 235) 2 6 0 0 false [] 0 0 m.home:=by
 unfold ag.select
 have e:m.aD=true:=by rw [← hg,← hc];rfl
 rw [if_pos e,Lh,hc]
 have hw':(K c gD.zero 0 8 0 0 false [] 0 0 m.home).bQ=false:=hw
 rw [fO 235 (by simp [ag.known,ag.yi,gF,ak,fL,hw'];exact hq)]
 simp [ak,fL]
def K0 (c:Core) (op:gD) (st left addr mode:Int) (cJ:Bool) (data:List Int) (told now:Int) (h:Nat):ag:={ K c op st left addr mode cJ data told now h with dP:=false }
theorem iy (st left:Int) (h0:st≠0) (h1:st≠1) (hw:(K0 c op st left a mo md ds t nw h).whole=true):(K c op st left a mo md ds t nw h).fu=(K0 c op st left a mo md ds t nw h).gl:=by
 unfold ag.fu ag.ends
 show (if (K0 c op st left a mo md ds t nw h).ay=0∨(K0 c op st left a mo md ds t nw h).ay=1∨(K0 c op st left a mo md ds t nw h).whole=false then _ else _)=_
 rw [if_neg]
 ·
  rfl
 ·
  rintro (e | e | e)
  ·
   exact h0 e
  ·
   exact h1 e
  ·
   rw [hw] at e;cases e
theorem tg (b:Int) (hb:b=5∨b=53∨b=117):(K c op 0 8 a mo md ds t nw h).known b=true:=by
 rcases hb with rfl | rfl | rfl <;> simp [ag.known,ag.yi,gF,ak,fL]
theorem ny (b:Int) (hb:b=6∨b=90∨b=122∨b=159) (hw:c.bQ=false):(K c op 0 8 a mo md ds t nw h).known b=true:=by
 have hw':(K c op 0 8 a mo md ds t nw h).bQ=false:=hw
 rcases hb with rfl | rfl | rfl | rfl <;> simp [ag.known,ag.yi,gF,ak,fL,hw']
theorem xj (b:Int) (hb:b=107∨b=235) (hq:c.bk=true) (hw:c.bQ=false):(K c op 0 8 a mo md ds t nw h).known b=true:=by
 have hw':(K c op 0 8 a mo md ds t nw h).bQ=false:=hw
 have hq':(K c op 0 8 a mo md ds t nw h).bk=true:=hq
 rcases hb with rfl | rfl <;> simp [ag.known,ag.yi,gF,ak,fL,hw',hq']
theorem qC (b:Int) (hb:b=1∨b=2∨b=32) (hj:c.aZ=none):(K c op 0 8 a mo md ds t nw h).known b=true:=by
 have hj':(K c op 0 8 a mo md ds t nw h).aZ=none:=hj
 rcases hb with rfl | rfl | rfl <;> simp [ag.known,ag.yi,gF,ak,fL,hj']
theorem qy (b:Int) (h0:0≤b) (h1:b<256) (hk:(K (c.bF 8) gD.zero 0 8 0 0 false [] 0 0 h).known b=true) (hr:ak b=⟨b,0,false,0,0,false⟩) {P:ag→List Int→Prop} (hP:P (K (c.bF 8) (ak b) 7 0 0 0 false [] 0 0 h) []):Ends [⟨1,[b],0,0⟩] (K c gD.zero 0 8 0 0 false [] 0 0 h) [] P:=by
 refine Ends.dB (Ends.nil ?_)
 rw [jo b h0 h1,fO b hk,if_neg (by rw [hr];exact Int.lt_irrefl 0)]
 have e:ag.behind (K (c.bF 8) (ak b) 0 8 0 0 false [] 0 0 h)=K (c.bF 8) (ak b) 7 0 0 0 false [] 0 0 h:=by
  unfold ag.behind ag.enter
  rw [hr]
  simp [K]
 rw [e]
 exact hP
theorem FM (hg:c.aD=false) (hw:c.bQ=false):BF (aQ (ak 6) 0 [] 0) c [] { c with en:=true }:=fun m hs hm=>by
 rw [fH hm hg]
 have st:=fB (dZ hw) 8
 refine qy 6 (by decide) (by decide) (by rw [st];exact ny 6 (by simp) hw) rfl ⟨?_,rfl⟩
 rw [st,iy 7 0 (by decide) (by decide) rfl]
 rfl
def Core.bN (c:Core):Core:=match c.aZ with | some j=>if j.av = -1 then c else { c with aZ:=some { j with ia:=true } } | none=>c
def Core.gM (c:Core):Core:=match c.aZ with | some j=>{ c with aZ:=some { j with ia:=false } } | none=>c
theorem yK (m:ag):m.bN.core=m.core.bN:=by
 obtain ⟨a1,a2,a3,a4,a5,a6,aZ,a7,a8,a9,a10,a11,a12,a13,a14,a15,a16,a17,a18,a19⟩:=m
 cases aZ with
 | none=>rfl
 | some j =>
  show (if j.av = -1 then _ else _:ag).core=if j.av = -1 then _ else _
  split <;> rfl
theorem Bg (m:ag):m.gM.core=m.core.gM:=by
 obtain ⟨a1,a2,a3,a4,a5,a6,aZ,a7,a8,a9,a10,a11,a12,a13,a14,a15,a16,a17,a18,a19⟩:=m
 cases aZ <;> rfl
theorem K9 (hg:c.aD=false):BF (aQ (ak 117) 0 [] 0) c [] (c.bF 8).bN:=fun m hs hm=>by
 rw [fH hm hg]
 refine qy 117 (by decide) (by decide) (tg 117 (by simp)) rfl ⟨?_,rfl⟩
 rw [iy 7 0 (by decide) (by decide) rfl]
 show (ag.bN _).core=_
 exact yK _
theorem La (hg:c.aD=false) (hw:c.bQ=false):BF (aQ (ak 122) 0 [] 0) c [] c.gM:=fun m hs hm=>by
 rw [fH hm hg]
 have st:=fB (dZ hw) 8
 refine qy 122 (by decide) (by decide) (by rw [st];exact ny 122 (by simp) hw) rfl ⟨?_,rfl⟩
 rw [st,iy 7 0 (by decide) (by decide) rfl]
 show (ag.gM _).core=_
 exact Bg _
def Core.first (c:Core):Int:=D3 c.bQ c.en c.bq
def Core.second (c:Core):Int:=yZ c.bk (match c.aZ with | none=>false | some j=>j.ia)
theorem ud (b:Int) (h0:0≤b) (h1:b<256) (hk:(K (c.bF 8) gD.zero 0 8 0 0 false [] 0 0 h).known b=true) (hr:ak b=⟨b,0,false,0,1,false⟩) {P:ag→List Int→Prop} (v:Int) (hv:(K (c.bF 9) (ak b) 6 0 0 0 false [] 0 0 h).eM 0=v) (hP:P (K (c.bF 16) (ak b) 6 0 0 0 false [] 1 v h) [v]):Ends [⟨1,[b],0,0⟩,⟨1,[],0,1⟩] (K c gD.zero 0 8 0 0 false [] 0 0 h) [] P:=by
 refine Ends.dB ?_
 rw [jo b h0 h1,fO b hk,if_neg (by rw [hr];exact Int.lt_irrefl 0)]
 have e:ag.behind (K (c.bF 8) (ak b) 0 8 0 0 false [] 0 0 h)=K (c.bF 8) (ak b) 6 0 0 0 false [] 0 0 h:=by
  unfold ag.behind ag.enter
  rw [hr]
  simp [K]
 rw [e]
 refine Ends.get (.inl rfl) (by rw [hr]) v ?_ ?_
 ·
  rw [← hv,show c.bF 9=(c.bF 8).pass from iA 8 1 c]
 ·
  rw [show (c.bF 8).bF (many 1).toNat=c.bF 16 from (iA 8 8 c).symm]
  exact hP
theorem Mh (hg:c.aD=false):BF (aQ (ak 5) 0 [] 1) c [(c.bF 9).first] (c.bF 16):=fun m hs hm=>by
 rw [fH hm hg]
 refine ud 5 (by decide) (by decide) (tg 5 (by simp)) rfl (c.bF 9).first rfl ⟨?_,rfl⟩
 rw [iy 6 0 (by decide) (by decide) rfl]
 rfl
theorem Mt (hg:c.aD=false):BF (aQ (ak 53) 0 [] 1) c [(c.bF 9).second] (c.bF 16):=fun m hs hm=>by
 rw [fH hm hg]
 refine ud 53 (by decide) (by decide) (tg 53 (by simp)) rfl (c.bF 9).second rfl ⟨?_,rfl⟩
 rw [iy 6 0 (by decide) (by decide) rfl]
 rfl
theorem Lb (hg:c.aD=false) (hw:c.bQ=false):BF (aQ (ak 159) 0 [] 3) c [239,64,12] c:=fun m hs hm=>by
 rw [fH hm hg]
 have st:=fun n=>fB (dZ hw) n
 show Ends [⟨1,[159],0,0⟩,⟨1,[],0,3⟩] _ _ _
 refine Ends.dB ?_
 rw [jo 159 (by decide) (by decide),st,fO 159 (ny 159 (by simp) hw),if_neg (by decide)]
 refine Ends.fW (op:=ak 159) (.inl rfl) rfl (dZ hw) fun nw'=>⟨?_,rfl⟩
 rw [iy 6 0 (by decide) (by decide) rfl]
 rfl
theorem Mu (hg:c.aD=false) (hw:c.bQ=false):BF (aQ (ak 90) 0 [] 32) c (comes c (ak 90) 0 0 32) c:=fun m hs hm=>by
 rw [fH hm hg]
 have st:=fun n=>fB (dZ hw) n
 show Ends [⟨1,[90],0,0⟩,⟨1,[0,0 / 256,0 % 256],0,0⟩,⟨0,[],8,0⟩,⟨1,[],0,32⟩] _ _ _
 refine Ends.dB ?_
 rw [jo 90 (by decide) (by decide),st,fO 90 (ny 90 (by simp) hw),if_pos (by decide)]
 refine Ends.dB ?_
 rw [show (if (ak 90).addr=1 then (24:Int) else 6)=if (1:Int)=1 then 24 else 6 from rfl,kK 1 0 (.inl rfl) rfl (by decide) (by decide),st]
 refine Ends.dummy ?_
 rw [show ag.behind (K c (ak 90) 2 0 0 0 false [] 0 0 m.home)=K c (ak 90) 4 ((7+1:Nat):Int) 0 0 false [] 0 0 m.home from rfl,show (8:Int).toNat=7+1 from rfl,nm 7 c,st]
 refine Ends.fW (op:=ak 90) (.inl rfl) rfl (dZ hw) fun nw'=>⟨?_,rfl⟩
 rw [iy 6 0 (by decide) (by decide) rfl]
 rfl
theorem K8 (p:Int) (n:Nat) (h0:0≤p) (h1:p<4096) (hn:0<n) (hg:c.aD=false) (hq:c.bk=true) (hw:c.bQ=false):BF (aQ (ak 107) p [] n) c (comes c (ak 107) p 0 n) c:=fun m hs hm=>by
 rw [fH hm hg]
 have st:=fun n=>fB (dZ hw) n
 have e:aQ (ak 107) p [] n=[⟨1,[107],0,0⟩,⟨1,[0,p / 256,p % 256],0,0⟩,⟨0,[],8,0⟩,⟨4,[],0,n⟩]:=by
  simp [aQ,ak,fL,hn]
 rw [e]
 refine Ends.dB ?_
 rw [jo 107 (by decide) (by decide),st,fO 107 (xj 107 (by simp) hq hw),if_pos (by decide)]
 refine Ends.dB ?_
 rw [show (if (ak 107).addr=1 then (24:Int) else 6)=if (1:Int)=1 then 24 else 6 from rfl,kK 1 p (.inl rfl) rfl h0 h1,st]
 refine Ends.dummy ?_
 rw [show ag.behind (K c (ak 107) 2 0 p 0 false [] 0 0 m.home)=K c (ak 107) 4 ((7+1:Nat):Int) p 0 false [] 0 0 m.home from rfl,show (8:Int).toNat=7+1 from rfl,nm 7 c,st]
 refine Ends.fW (op:=ak 107) (.inr rfl) rfl (dZ hw) fun nw'=>⟨?_,by show []++comes c (ak 107) p 0 (n:Int).toNat=_;simp⟩
 rw [iy 6 0 (by decide) (by decide) rfl]
 rfl
theorem Cc (p:Int) (h0:0≤p) (h1:p<4096) (hw:c.bQ=false) (h:Nat):Ends ((aQ (ak 235) p [160] 16).drop 1) (K c (ak 235) 2 6 0 0 false [] 0 0 h) [] fun m2 o=>m2.fu.core={ c with aD:=true }∧o=comes c (ak 235) p 0 16:=by
 have st:=fun n=>fB (dZ hw) n
 show Ends [⟨4,[0,p / 256,p % 256],0,0⟩,⟨4,[160],0,0⟩,⟨0,[],4,0⟩,⟨4,[],0,16⟩] _ _ _
 refine Ends.dB ?_
 rw [show K c (ak 235) 2 6 0 0 false [] 0 0 h=K c (ak 235) 2 (if (4:Int)=1 then 24 else 6) 0 0 false [] 0 0 h from rfl,kK 4 p (.inr rfl) rfl h0 h1,st]
 refine Ends.dB ?_
 rw [show ag.behind (K c (ak 235) 2 0 p 0 false [] 0 0 h)=K c (ak 235) 3 (many 4) p 0 false [] 0 0 h from rfl,zt 4 160 (.inr rfl) rfl (by decide) (by decide),st]
 refine Ends.dummy ?_
 rw [show ag.behind (K c (ak 235) 3 0 p 160 true [] 0 0 h)=K c (ak 235) 4 ((3+1:Nat):Int) p 160 true [] 0 0 h from rfl,show (4:Int).toNat=3+1 from rfl,nm 3 c,st]
 refine Ends.fW (op:=ak 235) (.inr rfl) rfl (dZ hw) fun nw'=>⟨?_,rfl⟩
 rw [iy 6 0 (by decide) (by decide) rfl]
 rfl
theorem Lc (p:Int) (h0:0≤p) (h1:p<4096) (hg:c.aD=false) (hq:c.bk=true) (hw:c.bQ=false):BF (aQ (ak 235) p [160] 16) c (comes c (ak 235) p 0 16) { c with aD:=true }:=fun m hs hm=>by
 rw [fH hm hg]
 have st:=fun n=>fB (dZ hw) n
 show Ends (⟨1,[235],0,0⟩::(aQ (ak 235) p [160] 16).drop 1) _ _ _
 refine Ends.dB ?_
 rw [jo 235 (by decide) (by decide),st,fO 235 (xj 235 (by simp) hq hw),if_pos (by decide)]
 exact Cc p h0 h1 hw _
theorem Js (p:Int) (h0:0≤p) (h1:p<4096) (hg:c.aD=true) (hq:c.bk=true) (hw:c.bQ=false):BF ((aQ (ak 235) p [160] 16).drop 1) c (comes c (ak 235) p 0 16) { c with aD:=true }:=fun m hs hm=>by
 rw [xT hm hg hq hw]
 exact Cc p h0 h1 hw _
theorem Ha (hg:c.aD=true) (hq:c.bk=true) (hw:c.bQ=false):BF [bX] c [] { c with aD:=false }:=fun m hs hm=>by
 rw [xT hm hg hq hw]
 have st:=fun n=>fB (dZ hw) n
 refine Ends.dB (Ends.nil ?_)
 rw [show eA 4 [0,0,0,0]=eA 4 [0,0 / 256,0 % 256]++eA 4 [0] from rfl,ru,show K c (ak 235) 2 6 0 0 false [] 0 0 m.home=K c (ak 235) 2 (if (4:Int)=1 then 24 else 6) 0 0 false [] 0 0 m.home from rfl,kK 4 0 (.inr rfl) rfl (by decide) (by decide),st,show ag.behind (K c (ak 235) 2 0 0 0 false [] 0 0 m.home)=K c (ak 235) 3 (many 4) 0 0 false [] 0 0 m.home from rfl,zt 4 0 (.inr rfl) rfl (by decide) (by decide),st,show ag.behind (K c (ak 235) 3 0 0 0 true [] 0 0 m.home)=K c (ak 235) 4 4 0 0 true [] 0 0 m.home from rfl]
 refine ⟨?_,rfl⟩
 rw [iy 4 4 (by decide) (by decide) rfl]
 rfl
def Core.dN (c:Core) (p:Int) (j:iC):Core:=if c.en=false then c else if (c.bq&&decide (p<2048))=true then { c with en:=false } else { c with aZ:=some { j with left:=c.busy.headD 8 },busy:=c.busy.drop 1 }
theorem uI (m:ag) (j:iC):(m.dN j).core=m.core.dN m.addr j:=by
 unfold ag.dN Core.dN
 show _=if m.en=false then _ else if (m.bq&&decide (m.addr<2048))=true then _ else _
 split
 ·
  rfl
 ·
  split <;> rfl
theorem Ms (p:Int) (h0:0≤p) (h1:p<4096) (hg:c.aD=false) (hj:c.aZ=none):BF (aQ (ak 32) p [] 0) c [] (c.dN p ⟨p / 512,0,ByteArray.empty,0,false⟩):=fun m hs hm=>by
 rw [fH hm hg]
 have st:=fun n=>fB (dZ (show c.bQ=false by unfold Core.bQ;rw [hj];rfl)) n
 show Ends [⟨1,[32],0,0⟩,⟨1,[0,p / 256,p % 256],0,0⟩] _ _ _
 refine Ends.dB ?_
 rw [jo 32 (by decide) (by decide),st,fO 32 (qC 32 (by simp) hj),if_pos (by decide)]
 refine Ends.dB (Ends.nil ?_)
 rw [show (if (ak 32).addr=1 then (24:Int) else 6)=if (1:Int)=1 then 24 else 6 from rfl,kK 1 p (.inl rfl) rfl h0 h1,st,show ag.behind (K c (ak 32) 2 0 p 0 false [] 0 0 m.home)=K c (ak 32) 7 0 p 0 false [] 0 0 m.home from rfl]
 refine ⟨?_,rfl⟩
 rw [iy 7 0 (by decide) (by decide) rfl]
 show (ag.dN _ _).core=_
 rw [uI]
 rfl
theorem M7 (p:Int) (bs:List Int) (h0:0≤p) (h1:p<4096) (hl:0<bs.length) (hb : ∀ b ∈ bs,0≤b∧b<256) (hg:c.aD=false) (hj:c.aZ=none):BF (aQ (ak 2) p bs 0) c [] (c.dN p ⟨-1,p - p % 32,lz p bs,0,false⟩):=fun m hs hm=>by
 rw [fH hm hg]
 have st:=fun n=>fB (dZ (show c.bQ=false by unfold Core.bQ;rw [hj];rfl)) n
 have e:aQ (ak 2) p bs 0=[⟨1,[2],0,0⟩,⟨1,[0,p / 256,p % 256],0,0⟩,⟨1,bs,0,0⟩]:=by simp [aQ,ak,fL,hl]
 rw [e]
 refine Ends.dB ?_
 rw [jo 2 (by decide) (by decide),st,fO 2 (qC 2 (by simp) hj),if_pos (by decide)]
 refine Ends.dB ?_
 rw [show (if (ak 2).addr=1 then (24:Int) else 6)=if (1:Int)=1 then 24 else 6 from rfl,kK 1 p (.inl rfl) rfl h0 h1,st,show ag.behind (K c (ak 2) 2 0 p 0 false [] 0 0 m.home)=K c (ak 2) 5 8 p 0 false [] 0 0 m.home from rfl]
 refine Ends.dB (Ends.nil ?_)
 rw [sZ rfl rfl rfl rfl bs _ _ hb,st,List.nil_append]
 refine ⟨?_,rfl⟩
 rw [iy 5 8 (by decide) (by decide) rfl]
 show (ag.js _).core=_
 unfold ag.js
 rw [if_pos (show 0<(K0 c (ak 2) 5 8 p 0 false bs 0 0 m.home).data.length from hl),uI]
 rfl
theorem Mg (x y:Int) (hx:0≤x∧x<256) (hy:0≤y∧y<256) (hg:c.aD=false) (hj:c.aZ=none) (he:c.en=true):BF (aQ (ak 1) 0 [x,y] 0) c [] { c with bq:=bits .and .i64 x 4 != 0,bk:=bits .and .i64 y 2 != 0,en:=false }:=fun m hs hm=>by
 rw [fH hm hg]
 have st:=fun n=>fB (dZ (show c.bQ=false by unfold Core.bQ;rw [hj];rfl)) n
 show Ends [⟨1,[1],0,0⟩,⟨1,[x,y],0,0⟩] _ _ _
 refine Ends.dB ?_
 rw [jo 1 (by decide) (by decide),st,fO 1 (qC 1 (by simp) hj),if_neg (by decide),show ag.behind (K c (ak 1) 0 8 0 0 false [] 0 0 m.home)=K c (ak 1) 5 8 0 0 false [] 0 0 m.home from rfl]
 refine Ends.dB (Ends.nil ?_)
 rw [sZ rfl rfl rfl rfl [x,y] _ _ (by simp;omega),st,List.nil_append]
 refine ⟨?_,rfl⟩
 rw [iy 5 8 (by decide) (by decide) rfl]
 show (ag.dB _).core=_
 unfold ag.dB
 rw [if_pos ⟨he,rfl⟩]
 rfl
end
structure gi (m:aG) (c:Core):Prop where
 lost:m.lost=false
 dP:m.ar.dP=false
 core:m.ar.core=c
 aD:m.aD=c.aD
structure IV (m:aG) (c:Core) (m':aG):Prop where
 lost:m'.lost=true
 left:0≤m.left
 MN : ∃ k g,m'.ar.core=Core.bF k { c with aD:=g }
def gd (m m':aG):Prop:=m.left<0→m'.left<0
theorem gd.trans {a b c:aG} (h:gd a b) (k:gd b c):gd a c:=fun x=>k (h x)
theorem Di (m:ag):m.select.core=m.core:=by
 unfold ag.select
 split
 ·
  exact tP _ _
 ·
  rfl
theorem zp {m:aG} {c:Core} {ps:List Ph} {xs:List Int} {c':Core} (h:gi m c) (hE:BF ps c xs c'):(m.iP ps=1101∧m.gm ps=[]∧IV m c (m.cL ps))∨(m.iP ps=0∧m.gm ps=xs∧(m.cL ps).lost=false∧(m.cL ps).ar.dP=false∧(m.cL ps).ar.core=c'∧(m.cL ps).aD=m.aD∧gd m (m.cL ps)):=by
 unfold aG.iP aG.gm
 cases hr:(m.r ps).1 with
 | false =>
  refine .inl ⟨rfl,rfl,?_,?_,?_⟩
  ·
   unfold aG.cL;simp [hr]
  ·
   rcases Int.lt_or_le m.left 0 with hl | hl
   ·
    have:=(uE ps (aI.new m.ar m.left) hl).1
    have e:(m.r ps).1=true:=this
    rw [hr] at e;cases e
   ·
    exact hl
  ·
   obtain ⟨k,hk⟩:=C6 ps (aI.new m.ar m.left)
   refine ⟨k,c.aD,?_⟩
   have e:(m.cL ps).ar=(m.r ps).2.ar:=by unfold aG.cL cg;simp [hr]
   rw [e]
   show (aI.eQ ps (aI.new m.ar m.left)).2.ar.core=_
   rw [hk]
   show Core.bF k m.ar.select.core=_
   rw [Di,h.core]
 | true =>
  obtain ⟨h1,h2⟩:=hE m.ar h.dP h.core 0 m.left hr
  refine .inr ⟨rfl,h2,?_,?_,?_,rfl,?_⟩
  ·
   unfold aG.cL;simp [hr,h.lost]
  ·
   have e:(m.cL ps).ar=(m.r ps).2.ar.fu:=by unfold aG.cL cg;simp [hr]
   rw [e]
   exact (l7 _).1
  ·
   have e:(m.cL ps).ar=(m.r ps).2.ar.fu:=by unfold aG.cL cg;simp [hr]
   rw [e]
   exact h1
  ·
   intro hl
   unfold aG.cL
   simp only
   rw [if_neg (by omega)]
   exact hl
def vU (m:aG) (c:Core) (r:aG×List Int×Int) (xs:List Int) (c':Core):Prop:=(r.2.2=1101∧r.2.1=[]∧IV m c r.1)∨(r.2.2=0∧r.2.1=xs∧gi r.1 c'∧gd m r.1)
theorem vA {m:aG} {c:Core} {b:Int} {ys:List Int} {ps:List Ph} {xs:List Int} {c':Core} (h:gi m c) (hE:BF ps c xs c') (hg:c'.aD=(decide (b=235)&&decide (ys.headD 0=160))):vU m c (m.fin b ys ps) xs c':=by
 rcases zp h hE with ⟨e,_,g⟩ | ⟨e,ex,h1,h2,h3,h4,h5⟩
 ·
  left
  unfold aG.fin
  rw [if_neg (by rw [e];decide)]
  exact ⟨rfl,rfl,g⟩
 ·
  right
  unfold aG.fin
  rw [if_pos e]
  exact ⟨rfl,ex,⟨h1,h2,h3,hg.symm⟩,h5⟩
theorem fY {m:aG} {c:Core} {b at_:Int} {ys:List Int} {read:Int} {xs:List Int} {c':Core} (h:gi m c) (hb:b≠235) (hl:c.aD=true→c.bk=true∧c.bQ=false) (hE:BF (aQ (ak b) at_ ys read) { c with aD:=false } xs c') (hg:c'.aD=false):vU m c (m.run b at_ ys read) xs c':=by
 have hg':c'.aD=(decide (b=235)&&decide (ys.headD 0=160)):=by simp [hb,hg]
 unfold aG.run
 rw [if_neg (by rw [h.lost];decide),if_neg (by rintro ⟨_,e⟩;exact hb e)]
 cases hgo:c.aD with
 | false =>
  rw [if_neg (by rw [h.aD,hgo];decide)]
  have e:({ c with aD:=false }:Core)=c:=by rw [← hgo]
  rw [e] at hE
  exact vA h hE hg'
 | true =>
  rw [if_pos (by rw [h.aD,hgo])]
  obtain ⟨hq,hw⟩:=hl hgo
  rcases zp h (Ha hgo hq hw) with ⟨e,_,g⟩ | ⟨e,ex,h1,h2,h3,h4,h5⟩
  ·
   rw [if_neg (by rw [e];decide)]
   exact .inl ⟨rfl,rfl,g⟩
  ·
   rw [if_pos e]
   have h':gi { m.cL [bX] with aD:=false } { c with aD:=false }:=⟨h1,h2,h3,rfl⟩
   rcases vA (b:=b) (ys:=ys) h' hE hg' with ⟨e1,e2,g⟩ | ⟨e1,e2,r,hB⟩
   ·
    refine .inl ⟨e1,e2,g.lost,?_,g.MN⟩
    rcases Int.lt_or_le m.left 0 with hl | hl
    ·
     have:=h5 hl
     have:=g.left
     have:0≤(m.cL [bX]).left:=this
     omega
    ·
     exact hl
   ·
    exact .inr ⟨e1,e2,r,fun x=>hB (h5 x)⟩
theorem Km {m:aG} {c:Core} {p:Int} (h:gi m c) (hq:c.bk=true) (hw:c.bQ=false) (h0:0≤p) (h1:p<4096):vU m c (m.run 235 p [160] 16) (comes c (ak 235) p 0 16) { c with aD:=true }:=by
 unfold aG.run
 rw [if_neg (by rw [h.lost];decide)]
 cases hgo:c.aD with
 | false =>
  rw [if_neg (by rintro ⟨e,_⟩;rw [h.aD,hgo] at e;cases e),if_neg (by rw [h.aD,hgo];decide)]
  exact vA h (Lc p h0 h1 hgo hq hw) rfl
 | true =>
  rw [if_pos ⟨by rw [h.aD,hgo],rfl⟩]
  exact vA h (Js p h0 h1 hgo hq hw) rfl
def Core.tj (c:Core) (mask:ByteArray):ByteArray:=match c.aZ with | none=>c.cells | some j=>cI j c.cells mask
theorem mI {c:Core} {j:iC} (hj:c.aZ=some j) (hs:j.ia=false) : ∀ (k:Nat),(k:Int)<j.left→c.bF k={ c with aZ:=some { j with left:=j.left - k } }:=by
 intro k
 induction k generalizing c j with
 | zero =>
  intro _
  show c=_
  have e:({ j with left:=j.left - ((0:Nat):Int) }:iC)=j:=by simp
  rw [e,← hj]
 | succ k ih =>
  intro hk
  have e:c.pass={ c with aZ:=some { j with left:=j.left - 1 } }:=by
   unfold Core.pass
   rw [hj]
   simp only
   rw [if_neg (by rw [hs];decide),if_neg (by omega)]
  show Core.bF k c.pass=_
  rw [e,ih (c:={ c with aZ:=some { j with left:=j.left - 1 } }) (j:={ j with left:=j.left - 1 }) rfl hs (by show (k:Int)<j.left - 1;omega)]
  simp only [Core.mk.injEq,Option.some.injEq,iC.mk.injEq,true_and,and_true]
  omega
def Core.done (c:Core) (j:iC):Core:={ c with cells:=cI j c.cells ⟨#[255]⟩,aZ:=none,en:=false }
theorem El (c:Core) (j:iC) : ∀ k,(c.done j).bF k=c.done j:=fB rfl
theorem iY {c:Core} {j:iC} (hj:c.aZ=some j) (hs:j.ia=false) (h1:1≤j.left) (k:Nat) (hk:j.left≤k):c.bF k=c.done j:=by
 obtain ⟨l,hl⟩ : ∃ l:Nat,j.left=((l+1:Nat):Int):=⟨(j.left - 1).toNat,by omega⟩
 obtain ⟨r,rfl⟩ : ∃ r,k=l+(1+r):=⟨k - l - 1,by omega⟩
 rw [iA,mI hj hs l (by omega),iA]
 have e:Core.bF 1 { c with aZ:=some { j with left:=j.left - l } }=c.done j:=by
  show Core.bF 0 (Core.pass { c with aZ:=some { j with left:=j.left - l } })=_
  unfold Core.pass
  simp only
  rw [if_neg (by rw [hs];decide),if_pos (by omega)]
  rfl
 rw [e,El]
theorem EU {c:Core} {j:iC} (hj:c.aZ=some j) (hs:j.ia=true) (k:Nat):c.bF k=c:=fB (dZ (by unfold Core.bQ eS;rw [hj];simp [hs])) k
theorem ei {c:Core} (hj:c.aZ=none) (k:Nat):c.bF k=c:=fB (dZ (by unfold Core.bQ eS;rw [hj])) k
structure yq (m:aG) (S:ByteArray→Prop):Prop where
 lost:m.lost=true
 bq:m.ar.bq=true
 bk:m.ar.bk=true
 cells : ∀ mask,S (m.ar.core.tj mask)
theorem yq.mono {m:aG} {S T:ByteArray→Prop} (h:yq m S) (k : ∀ x,S x→T x):yq m T:=⟨h.lost,h.bq,h.bk,fun mask=>k _ (h.cells mask)⟩
theorem mO {m m':aG} {c:Core} (g:IV m c m') (hj:c.aZ=none) (hp:c.bq=true) (hq:c.bk=true):yq m' fun x=>x=c.cells:=by
 obtain ⟨k,b,e⟩:=g.MN
 rw [ei (c:={ c with aD:=b }) hj] at e
 refine ⟨g.lost,?_,?_,fun mask => ?_⟩
 ·
  show m'.ar.core.bq=true;rw [e];exact hp
 ·
  show m'.ar.core.bk=true;rw [e];exact hq
 ·
  rw [e];unfold Core.tj;simp only [hj]
theorem sK {m m':aG} {c:Core} {j:iC} (g:IV m c m') (hj:c.aZ=some j) (h1:1≤j.left) (hp:c.bq=true) (hq:c.bk=true):yq m' fun x => ∃ mask,x=cI j c.cells mask:=by
 obtain ⟨k,b,e⟩:=g.MN
 cases hs:j.ia with
 | true =>
  rw [EU (c:={ c with aD:=b }) hj hs] at e
  refine ⟨g.lost,?_,?_,fun mask=>⟨mask,?_⟩⟩
  ·
   show m'.ar.core.bq=true;rw [e];exact hp
  ·
   show m'.ar.core.bk=true;rw [e];exact hq
  ·
   rw [e];unfold Core.tj;simp only [hj]
 | false =>
  rcases Int.lt_or_le (k:Int) j.left with hk | hk
  ·
   rw [mI (c:={ c with aD:=b }) hj hs k hk] at e
   refine ⟨g.lost,?_,?_,fun mask=>⟨mask,?_⟩⟩
   ·
    show m'.ar.core.bq=true;rw [e];exact hp
   ·
    show m'.ar.core.bk=true;rw [e];exact hq
   ·
    rw [e];rfl
  ·
   rw [iY (c:={ c with aD:=b }) hj hs h1 k hk] at e
   refine ⟨g.lost,?_,?_,fun mask=>⟨⟨#[255]⟩,?_⟩⟩
   ·
    show m'.ar.core.bq=true;rw [e];exact hp
   ·
    show m'.ar.core.bk=true;rw [e];exact hq
   ·
    rw [e];rfl
structure Calm (m:aG) (x:ByteArray):Prop where
 lost:m.lost=false
 dP:m.ar.dP=false
 aD:m.aD=m.ar.aD
 cells:m.ar.cells=x
 bq:m.ar.bq=true
 bk:m.ar.bk=true
 aZ:m.ar.aZ=none
 busy : ∀ y ∈ m.ar.busy,1≤y∧y≤400
theorem Calm.qg {m:aG} {x:ByteArray} (h:Calm m x):gi m m.ar.core:=⟨h.lost,h.dP,rfl,h.aD⟩
theorem Calm.of {m:aG} {c:Core} {x:ByteArray} (h:gi m c) (h1:c.cells=x) (h2:c.bq=true) (h3:c.bk=true) (h4:c.aZ=none) (h5 : ∀ y ∈ c.busy,1≤y∧y≤400):Calm m x:=by
 have e:=h.core
 subst e
 exact ⟨h.lost,h.dP,h.aD,h1,h2,h3,h4,h5⟩
theorem Calm.bQ {m:aG} {x:ByteArray} (h:Calm m x):m.ar.core.bQ=false:=by unfold Core.bQ eS;rw [show m.ar.core.aZ=none from h.aZ]
def eU (m:aG) (e:Int) (m':aG) (D:Prop) (S:ByteArray→Prop):Prop:=(e=0∧D∧gd m m')∨(e=1101∧yq m' S∧0≤m.left)
theorem eU.mono {m:aG} {e:Int} {m':aG} {D D':Prop} {S S':ByteArray→Prop} (h:eU m e m' D S) (hD:D→D') (hS : ∀ x,S x→S' x):eU m e m' D' S' :=
 h.elim (fun h=>.inl ⟨h.1,hD h.2.1,h.2.2⟩) (fun h=>.inr ⟨h.1,h.2.1.mono hS,h.2.2⟩)
theorem eU.next {m m1 m2:aG} {e:Int} {D:Prop} {S:ByteArray→Prop} (hB:gd m m1) (h:eU m1 e m2 D S):eU m e m2 D S :=
 h.elim (fun h=>.inl ⟨h.1,h.2.1,hB.trans h.2.2⟩) (fun h=>.inr ⟨h.1,h.2.1,by
  rcases Int.lt_or_le m.left 0 with hl | hl
  ·
   have:=hB hl;have:=h.2.2;omega
  ·
   exact hl⟩)
theorem oC {m:aG} {x:ByteArray} {r:aG×List Int×Int} {xs:List Int} {c':Core} (h:Calm m x) (k:vU m m.ar.core r xs c'):(r.2.2=0∧r.2.1=xs∧gi r.1 c'∧gd m r.1)∨(r.2.2=1101∧r.2.1=[]∧yq r.1 (fun y=>y=x)∧0≤m.left):=by
 rcases k with ⟨e1,e2,g⟩ | ⟨e1,e2,g,b⟩
 ·
  exact .inr ⟨e1,e2,(mO g h.aZ h.bq h.bk).mono fun y e=>e.trans h.cells,g.left⟩
 ·
  exact .inl ⟨e1,e2,g,b⟩
theorem Calm.leave {m:aG} {x:ByteArray} (h:Calm m x):m.ar.core.aD=true→m.ar.core.bk=true∧m.ar.core.bQ=false:=fun _=>⟨h.bk,h.bQ⟩
theorem iW (c:Core):(c.first % 2 != 0)=c.bQ:=by
 unfold Core.first D3
 cases c.bQ <;> cases c.en <;> cases c.bq <;> rfl
theorem mK {m:aG} {c:Core} (h:gi m c) (hl:c.aD=true→c.bk=true∧c.bQ=false):vU m c (m.run 5 0 [] 1) [(Core.bF 9 { c with aD:=false }).first] (Core.bF 16 { c with aD:=false }) :=
 fY h (by decide) hl (Mh rfl) (by
  have : ∀ k (c:Core),c.aD=false→(Core.bF k c).aD=false:=by
   intro k
   induction k with
   | zero=>intro c h;exact h
   | succ k ih =>
    intro c h
    refine ih _ ?_
    unfold Core.pass
    split
    ·
     exact h
    ·
     split
     ·
      exact h
     ·
      split <;> exact h
  exact this _ _ rfl)
theorem IK {m:aG} {c:Core} (N:Nat) (n:Int) (h:gi m c) (hg:c.aD=false) (hj:c.aZ=none) (hp:c.bq=true) (hq:c.bk=true):eU m (aG.gR (N+1) n m).2.2 (aG.gR (N+1) n m).1 (gi (aG.gR (N+1) n m).1 c) (fun y=>y=c.cells):=by
 have hgo:({ c with aD:=false }:Core)=c:=by rw [← hg]
 have k:=mK h (by rw [hg];intro e;cases e)
 rw [hgo,ei hj,ei hj] at k
 unfold aG.gR aG.di
 rcases k with ⟨e1,e2,g⟩ | ⟨e1,e2,r,b⟩
 ·
  rw [if_pos (by rw [e1];decide)]
  exact .inr ⟨e1,mO g hj hp hq,g.left⟩
 ·
  rw [if_neg (by rw [e1];decide),if_pos]
  ·
   exact .inl ⟨rfl,r,b⟩
  ·
   rw [e1,e2,List.headD_cons,iW]
   unfold Core.bQ eS
   rw [hj];rfl
theorem KC : ∀ (N:Nat) (n:Int) (m:aG) (c:Core) (j:iC),gi m c→c.aD=false→c.aZ=some j→j.ia=false→1≤j.left→j.left≤16 * N+9→c.bq=true→c.bk=true→eU m (aG.gR (N+1) n m).2.2 (aG.gR (N+1) n m).1 (gi (aG.gR (N+1) n m).1 (c.done j)) (fun y => ∃ mask,y=cI j c.cells mask):=by
 intro N
 induction N with
 | zero =>
  intro n m c j h hg hj hs h1 hl hp hq
  have hgo:({ c with aD:=false }:Core)=c:=by rw [← hg]
  have k:=mK h (by rw [hg];intro e;cases e)
  rw [hgo,iY hj hs h1 9 (by omega),iY hj hs h1 16 (by omega)] at k
  unfold aG.gR aG.di
  rcases k with ⟨e1,e2,g⟩ | ⟨e1,e2,r,b⟩
  ·
   rw [if_pos (by rw [e1];decide)]
   exact .inr ⟨e1,sK g hj h1 hp hq,g.left⟩
  ·
   rw [if_neg (by rw [e1];decide),if_pos]
   ·
    exact .inl ⟨rfl,r,b⟩
   ·
    rw [e1,e2,List.headD_cons,iW];rfl
 | succ N ih =>
  intro n m c j h hg hj hs h1 hl hp hq
  have hgo:({ c with aD:=false }:Core)=c:=by rw [← hg]
  have k:=mK h (by rw [hg];intro e;cases e)
  rw [hgo] at k
  unfold aG.gR aG.di
  rcases Int.lt_or_le 9 j.left with h9 | h9
  ·
   rw [mI hj hs 9 (by omega)] at k
   rcases k with ⟨e1,e2,g⟩ | ⟨e1,e2,r,b⟩
   ·
    rw [if_pos (by rw [e1];decide)]
    exact .inr ⟨e1,sK g hj h1 hp hq,g.left⟩
   ·
    rw [if_neg (by rw [e1];decide),if_neg]
    ·
     rcases Int.lt_or_le 16 j.left with h16 | h16
     ·
      rw [mI hj hs 16 (by omega)] at r
      have:=ih (n+1) (m.run 5 0 [] 1).1 { c with aZ:=some { j with left:=j.left - 16 } } { j with left:=j.left - 16 } r hg rfl hs (by show 1≤j.left - 16;omega) (by show j.left - 16≤_;omega) hp hq
      exact this.next b
     ·
      rw [iY hj hs h1 16 (by omega)] at r
      have:=IK N (n+1) r hg rfl hp hq
      refine eU.next b (this.mono id fun y e=>⟨⟨#[255]⟩,e⟩)
    ·
     rw [e1,e2,List.headD_cons,iW]
     unfold Core.bQ eS
     simp [hs]
  ·
   rw [iY hj hs h1 9 (by omega),iY hj hs h1 16 (by omega)] at k
   rcases k with ⟨e1,e2,g⟩ | ⟨e1,e2,r,b⟩
   ·
    rw [if_pos (by rw [e1];decide)]
    exact .inr ⟨e1,sK g hj h1 hp hq,g.left⟩
   ·
    rw [if_neg (by rw [e1];decide),if_pos]
    ·
     exact .inl ⟨rfl,r,b⟩
    ·
     rw [e1,e2,List.headD_cons,iW];rfl
theorem xu (p:Int) (hp:p % 32=0) (s:ByteArray) (i:Nat) (hi:i<32) (hs:s.size=32) : ∀ n,n≤32→ly p (eE s) n i=if i<n then bt s i else 255
 | 0,_=>rfl
 | n+1,hn=>by
  unfold ly
  rw [xu p hp s i hi hs n (by omega)]
  have hm:(p+(n:Int)) % 32=n:=by omega
  rw [hm]
  by_cases e:n=i
  ·
   subst e
   have hg:(eE s).getD n 0=((bt s n).toNat:Int):=by
    unfold eE
    simp [List.getD,hs,hi]
   have hlt:=(bt s n).toNat_lt
   rw [if_pos rfl,if_pos (Nat.lt_succ_self n),hg]
   have:((((bt s n).toNat:Int)) % 256).toNat=(bt s n).toNat:=by omega
   rw [this]
   simp
  ·
   rw [if_neg (by omega)]
   by_cases h:i<n
   ·
    rw [if_pos h,if_pos (by omega)]
   ·
    rw [if_neg h,if_neg (by omega)]
theorem EN (p:Int) (hp:p % 32=0) (s:ByteArray) (hs:s.size=32):lz p (eE s)=s:=by
 refine fF (by rw [oT,hs]) fun i hi => ?_
 rw [oT] at hi
 unfold lz
 rw [lP _ _ _ hi,lh,hs,xu p hp s i hi hs 32 zY,if_pos hi]
def jA (x:ByteArray) (p:Int) (mask s:ByteArray):ByteArray:=lE x p.toNat 32 (iF mask s)
theorem Ey (s:ByteArray) : ∀ b ∈ eE s,0≤b∧b<256:=by
 intro b hb
 have:=List.all_eq_true.1 (nv s) b hb
 unfold isByte at this
 simpa using this
theorem nL {c:Core} {p:Int} {j:iC} (he:c.en=true) (hp:2048≤p):c.dN p j={ c with aZ:=some { j with left:=c.busy.headD 8 },busy:=c.busy.drop 1 }:=by
 unfold Core.dN
 rw [if_neg (by rw [he];decide),if_neg (by simp;intro;omega)]
theorem xg {b:List Int} (h : ∀ y ∈ b,1≤y∧y≤400):1≤b.headD 8∧b.headD 8≤400:=by
 cases b with
 | nil=>simp
 | cons y r=>exact h y (by simp)
theorem zi {m:aG} {x:ByteArray} (h:Calm m x) (p:Int) (s:ByteArray) (h0:2048≤p) (h1:p<4096) (hp:p % 32=0) (hs:s.size=32):eU m (m.hU p s).2 (m.hU p s).1 (Calm (m.hU p s).1 (jA x p ⟨#[255]⟩ s)) (fun y=>y=x ∨ ∃ mask,y=jA x p mask s):=by
 have k6:=fY (b:=6) (at_:=0) (ys:=[]) (read:=0) h.qg (by decide) h.leave (FM (c:={ m.ar.core with aD:=false }) rfl h.bQ) rfl
 unfold aG.hU
 rcases oC h k6 with ⟨e1,e2,r,b⟩ | ⟨e1,e2,t,l⟩
 case inr=>rw [if_pos (by rw [e1];decide)];exact .inr ⟨e1,t.mono fun y e=>.inl e,l⟩
 rw [if_neg (by rw [e1];decide)]
 have k2:=fY (b:=2) (at_:=p) (ys:=eE s) (read:=0) r (by decide) (by intro e;cases e) (M7 (c:={ m.ar.core with aD:=false,en:=true }) p (eE s) (by omega) h1 (by rw [lh];omega) (Ey s) rfl h.aZ) (by rw [nL rfl h0])
 rw [nL rfl h0] at k2
 have hbusy:=xg (show ∀ y ∈ ({ m.ar.core with aD:=false,en:=true }:Core).busy,1≤y∧y≤400 from h.busy)
 rcases k2 with ⟨f1,f2,g⟩ | ⟨f1,f2,r2,b2⟩
 ·
  rw [if_pos (by rw [f1];decide)]
  refine .inr ⟨f1,(mO g h.aZ h.bq h.bk).mono fun y e=>.inl (e.trans h.cells),?_⟩
  rcases Int.lt_or_le m.left 0 with hl | hl
  ·
   have:=b hl;have:=g.left;omega
  ·
   exact hl
 ·
  rw [if_neg (by rw [f1];decide)]
  have hpo:p - p % 32=p:=by omega
  have hjc : ∀ l sp mask,cI ⟨-1,p - p % 32,lz p (eE s),l,sp⟩ x mask=jA x p mask s:=fun l sp mask=>by
   unfold cI jA
   rw [if_pos rfl,EN p hp s hs,hpo,hs]
  have hw:=KC 255 1 _ _ _ r2 rfl rfl rfl hbusy.1 (Int.le_trans hbusy.2 (by decide)) h.bq h.bk
  refine eU.next (b.trans b2) (hw.mono (fun hr => ?_) (fun y hy=>.inr ?_))
  ·
   refine Calm.of hr ?_ h.bq h.bk rfl (fun y hy=>h.busy y (List.mem_of_mem_drop hy))
   rw [← hjc (m.ar.busy.headD 8) false,← h.cells]
   rfl
  ·
   obtain ⟨mask,e⟩:=hy
   refine ⟨mask,e.trans ?_⟩
   rw [← hjc (m.ar.busy.headD 8) false,← h.cells]
   rfl
def jm (x:ByteArray) (p:Int) (s:ByteArray):ByteArray:=jA (jA x p ⟨#[255]⟩ (s.extract 0 32)) (p+32) ⟨#[255]⟩ (s.extract 32 64)
def sP (x:ByteArray) (p:Int) (s y:ByteArray):Prop:=y=x∨(∃ mask,y=jA x p mask (s.extract 0 32)) ∨ ∃ mask,y=jA (jA x p ⟨#[255]⟩ (s.extract 0 32)) (p+32) mask (s.extract 32 64)
theorem zg {m:aG} {x:ByteArray} (h:Calm m x) (p:Int) (s:ByteArray) (h0:2048≤p) (h1:p<4064) (hp:p % 32=0) (hs:s.size=64):eU m (m.dY p s).2 (m.dY p s).1 (Calm (m.dY p s).1 (jm x p s)) (sP x p s):=by
 have k:=zi h p (s.extract 0 32) h0 (by omega) hp (by simp [hs])
 unfold aG.dY
 rcases k with ⟨e,c,b⟩ | ⟨e,t,l⟩
 ·
  rw [if_neg (by rw [e];decide)]
  refine eU.next b ((zi c (p+32) (s.extract 32 64) (by omega) (by omega) (by omega) (by simp [hs])).mono id fun y hy => ?_)
  rcases hy with hy | hy
  ·
   exact .inr (.inl ⟨_,hy⟩)
  ·
   exact .inr (.inr hy)
 ·
  rw [if_pos (by rw [e];decide)]
  exact .inr ⟨e,t.mono fun y hy=>hy.elim .inl (fun h=>.inr (.inl h)),l⟩
theorem tY (c:Core) (op:gD) (hop:op=ak 107∨op=ak 235) (p:Int) (h0:0≤p) (n:Nat) (hn:p+n≤4096):eH (comes c op p 0 n)=mk n fun i=>bt c.cells (p.toNat+i):=by
 refine fF (by rw [fe,eJ];simp [comes]) fun i hi => ?_
 rw [fe] at hi
 have hi':i<n:=by simpa [comes] using hi
 rw [lP _ _ _ hi']
 have e:(K c op 6 0 p 0 false [] 0 0 0).eM ((0:Int)+i)=((bt c.cells (p.toNat+i)).toNat:Int):=by
  have hm:((p+(0+(i:Int))) % 4096).toNat=p.toNat+i:=by omega
  rcases hop with rfl | rfl <;> simp only [ag.eM,K,ak,fL,Option.getD] <;> simp <;> simpa using congrArg (fun k=>((bt c.cells k).toNat:Int)) hm
 unfold eH bytesOf bt comes
 simp only [List.map_map]
 have hlt:=(bt c.cells (p.toNat+i)).toNat_lt
 rw [Array.getD_eq_getD_getElem?]
 simp only [List.getElem?_toArray,List.getElem?_map,List.getElem?_range hi',Option.map_some,Option.getD_some,Function.comp,e]
 unfold byteOf
 have:((((bt c.cells (p.toNat+i)).toNat:Int)) % 256).toNat=(bt c.cells (p.toNat+i)).toNat:=by omega
 rw [this]
 simp [bt]
theorem D8 {m:aG} {x:ByteArray} (h:Calm m x) (p:Int) (n:Nat) (h0:0≤p) (hn:0<n) (h1:p+n≤4096):eU m (m.cR p n).2.2 (m.cR p n).1 (Calm (m.cR p n).1 x∧(m.cR p n).2.1=mk n fun i=>bt x (p.toNat+i)) (fun y=>y=x):=by
 have k:=fY (b:=107) (at_:=p) (ys:=[]) (read:=n) h.qg (by decide) h.leave (K8 (c:={ m.ar.core with aD:=false }) p n h0 (by omega) hn rfl h.bk h.bQ) rfl
 unfold aG.cR
 rcases oC h k with ⟨e1,e2,r,b⟩ | ⟨e1,e2,t,l⟩
 ·
  rw [if_pos e1]
  refine .inl ⟨rfl,⟨Calm.of r h.cells h.bq h.bk h.aZ h.busy,?_⟩,b⟩
  simp only [e2]
  rw [tY _ _ (.inl rfl) p h0 n h1]
  show mk n (fun i=>bt m.ar.cells (p.toNat+i))=_
  rw [h.cells]
 ·
  rw [if_neg (by rw [e1];decide)]
  exact .inr ⟨e1,t,l⟩
theorem Ix (c:Core):eH (comes c (ak 90) 0 0 32)=bn:=by
 refine fF (by rw [fe];rfl) fun i hi => ?_
 rw [fe] at hi
 have hi':i<32:=by simpa [comes] using hi
 have e:(K c (ak 90) 6 0 0 0 false [] 0 0 0).eM ((0:Int)+i)=((bt bn i).toNat:Int):=by
  have hm:((0+(0+(i:Int))) % 32).toNat=i:=by omega
  simp only [ag.eM,K,ak,fL,Option.getD]
  simpa using congrArg (fun k=>((bt bn k).toNat:Int)) hm
 unfold eH bytesOf comes
 conv=>lhs;unfold bt
 simp only [List.map_map]
 have hlt:=(bt bn i).toNat_lt
 rw [Array.getD_eq_getD_getElem?]
 simp only [List.getElem?_toArray,List.getElem?_map,List.getElem?_range hi',Option.map_some,Option.getD_some,Function.comp,e]
 unfold byteOf
 have:((((bt bn i).toNat:Int)) % 256).toNat=(bt bn i).toNat:=by omega
 rw [this]
 simp
theorem wI {m:aG} {x:ByteArray} (h:Calm m x):m.kQ∧eU m m.dU.2 m.dU.1 (Calm m.dU.1 x) (fun y=>y=x):=by
 have k:=fY (b:=159) (at_:=0) (ys:=[]) (read:=3) h.qg (by decide) h.leave (Lb (c:={ m.ar.core with aD:=false }) rfl h.bQ) rfl
 have kk : ∀ m1:aG,Calm m1 x→vU m1 m1.ar.core (m1.run 90 0 [] 32) (comes m1.ar.core (ak 90) 0 0 32) { m1.ar.core with aD:=false }:=fun m1 h1=>fY (b:=90) (at_:=0) (ys:=[]) (read:=32) h1.qg (by decide) h1.leave (Mu (c:={ m1.ar.core with aD:=false }) rfl h1.bQ) rfl
 rcases oC h k with ⟨e1,e2,r,b⟩ | ⟨e1,e2,t,l⟩
 ·
  have c1:Calm (m.run 159 0 [] 3).1 x:=Calm.of r h.cells h.bq h.bk h.aZ h.busy
  have k2:=kk _ c1
  unfold aG.dU
  rw [if_pos e1]
  rcases oC c1 k2 with ⟨f1,f2,r2,b2⟩ | ⟨f1,f2,t2,l2⟩
  ·
   refine ⟨⟨fun _=>e2,fun _ _=>by rw [f2];exact Ix _⟩,.inl ⟨f1,Calm.of r2 c1.cells c1.bq c1.bk c1.aZ c1.busy,b.trans b2⟩⟩
  ·
   refine ⟨⟨fun _=>e2,fun _ e=>by rw [f1] at e;cases e⟩,eU.next b (.inr ⟨f1,t2,l2⟩)⟩
 ·
  unfold aG.dU
  rw [if_neg (by rw [e1];decide)]
  exact ⟨⟨fun e=>absurd (e1.symm.trans e) (by decide),fun e=>absurd (e1.symm.trans e) (by decide)⟩,.inr ⟨e1,t,l⟩⟩
structure Has (x img:ByteArray):Prop where
 size:x.size=4096
 same : ∀ i,i<2048→bt x i=bt img i
def Cache.de (q:Cache) (img:ByteArray):Prop := ∀ x:Int,0≤x→x<2048→(q.find x).2=true→(q.find x).1=((bt img x.toNat).toNat:Int)
theorem zM (img:ByteArray):Cache.new.de img:=fun x h0 h1 h=>by
 unfold Cache.find Cache.new aM at h
 simp only at h
 rw [if_neg (by omega),if_neg (by omega)] at h
 cases h
theorem pL {img s:ByteArray} {x y:Int} (hs : ∀ i,i<16→bt s i=bt img ((aM x).toNat+i)) (h0:0≤y) (e:aM x=aM y):bt s (fV y)=bt img y.toNat:=by
 have ho:fV y<16:=by unfold fV;omega
 rw [hs _ ho,e]
 congr 1
 unfold aM fV
 omega
theorem Ez {q:Cache} (g:q.Good) {img s:ByteArray} {x:Int} (h:q.de img) (h0:0≤x) (hs : ∀ i,i<16→bt s i=bt img ((aM x).toNat+i)):(q.keep (aM x) s).de img∧(q.keep (aM x) s).find x=(((bt img x.toNat).toNat:Int),true):=by
 have put0 : ∀ n,(q.put 0 (aM x) s n).de img∧(q.put 0 (aM x) s n).find x=(((bt img x.toNat).toNat:Int),true):=fun n=>by
  refine ⟨fun y y0 y1 hy => ?_,?_⟩
  ·
   unfold Cache.find Cache.put at hy ⊢
   simp only [if_true] at hy ⊢
   by_cases e:aM x=aM y
   ·
    rw [if_pos e,pL hs y0 e]
   ·
    rw [if_neg e] at hy ⊢
    by_cases e1:q.a1=aM y
    ·
     rw [if_pos e1]
     have:=h y y0 y1
     unfold Cache.find at this
     rw [if_neg,if_pos e1] at this
     ·
      exact this rfl
     ·
      intro e0
      have hp:0≤aM y:=by unfold aM;omega
      exact g.ne (by omega) (e1.trans e0.symm)
    ·
     rw [if_neg e1] at hy;cases hy
  ·
   unfold Cache.find Cache.put
   simp only [if_true]
   rw [pL hs h0 rfl]
 have put1 : ∀ n,q.a0≠aM x→(q.put 1 (aM x) s n).de img∧(q.put 1 (aM x) s n).find x=(((bt img x.toNat).toNat:Int),true):=fun n hn=>by
  refine ⟨fun y y0 y1 hy => ?_,?_⟩
  ·
   unfold Cache.find Cache.put at hy ⊢
   simp only [show ¬((1:Nat)=0) by decide,if_false] at hy ⊢
   by_cases e0:q.a0=aM y
   ·
    rw [if_pos e0]
    have:=h y y0 y1
    unfold Cache.find at this
    rw [if_pos e0] at this
    exact this rfl
   ·
    rw [if_neg e0] at hy ⊢
    by_cases e:aM x=aM y
    ·
     rw [if_pos e,pL hs y0 e]
    ·
     rw [if_neg e] at hy;cases hy
  ·
   unfold Cache.find Cache.put
   simp only [show ¬((1:Nat)=0) by decide,if_false]
   rw [if_neg hn,if_pos trivial,pL hs h0 rfl]
 unfold Cache.keep
 split
 ·
  exact put0 _
 ·
  rename_i hn
  split
  ·
   exact put1 _ hn
  ·
   split
   ·
    exact put0 _
   ·
    exact put1 _ hn
structure sS (m:aG) (c:Core):Prop where
 qg:gi m c
 bQ:c.bQ=false
 bq:c.bq=true
 bk:c.bk=true
 left : ∀ j,c.aZ=some j→1≤j.left
def Core.yQ (c:Core) (y:ByteArray):Prop:=match c.aZ with | none=>y=c.cells | some j => ∃ mask,y=cI j c.cells mask
theorem mE {m m':aG} {c:Core} (g:IV m c m') (hp:c.bq=true) (hq:c.bk=true) (hl : ∀ j,c.aZ=some j→1≤j.left):yq m' c.yQ:=by
 cases hj:c.aZ with
 | none=>exact (mO g hj hp hq).mono fun y e=>by unfold Core.yQ;rw [hj];exact e
 | some j=>exact (sK g hj (hl j hj) hp hq).mono fun y e=>by unfold Core.yQ;rw [hj];exact e
theorem JR {m:aG} {c:Core} {q:Cache} {img:ByteArray} {x:Int} (h:sS m c) (hx:Has c.cells img) (g:q.Good) (hq:q.de img) (h0:0≤x) (h1:x<2048):eU m (fa m q x).2.2 (fa m q x).1 (sS (fa m q x).1 { c with aD:=true }∧(fa m q x).2.1.Good∧(fa m q x).2.1.de img∧(fa m q x).2.1.find x=(((bt img x.toNat).toNat:Int),true)) c.yQ:=by
 have hf:0≤aM x∧aM x+16≤2048∧aM x % 16=0:=by unfold aM;omega
 have hst:({ c with aD:=false }:Core).still:=dZ h.bQ
 have k:=mK h.qg (fun _=>⟨h.bk,h.bQ⟩)
 rw [fB hst,fB hst] at k
 unfold fa
 rcases k with ⟨e1,e2,gg⟩ | ⟨e1,e2,r,b⟩
 ·
  rw [if_pos (by rw [e1];decide)]
  exact .inr ⟨e1,mE gg h.bq h.bk h.left,gg.left⟩
 have hev : ¬((m.run 5 0 [] 1).2.1.headD 0 % 2≠0):=by
  rw [e2,List.headD_cons]
  have:=iW { c with aD:=false }
  rw [show ({ c with aD:=false }:Core).bQ=false from h.bQ] at this
  simpa using this
 rw [if_neg (by rw [e1];decide),if_neg hev]
 have k2:=Km (p:=aM x) r h.bk h.bQ hf.1 (by omega)
 rcases k2 with ⟨f1,f2,gg⟩ | ⟨f1,f2,r2,b2⟩
 ·
  rw [if_pos (by rw [f1];decide)]
  have t:yq ((m.run 5 0 [] 1).1.run 235 (aM x) [160] 16).1 c.yQ:=mE (c:={ c with aD:=false }) gg h.bq h.bk h.left
  exact eU.next b (.inr ⟨f1,t,gg.left⟩)
 ·
  rw [if_neg (by rw [f1];decide)]
  have hs : ∀ i,i<16→bt (eH ((m.run 5 0 [] 1).1.run 235 (aM x) [160] 16).2.1) i=bt img ((aM x).toNat+i):=fun i hi=>by
   rw [f2,tY _ _ (.inr rfl) (aM x) hf.1 16 (by omega),lP _ _ _ hi]
   exact hx.same _ (by omega)
  have hk:=Ez g hq h0 hs
  have hsz:(eH ((m.run 5 0 [] 1).1.run 235 (aM x) [160] 16).2.1).size=16:=by rw [fe,f2];rfl
  exact .inl ⟨rfl,⟨⟨r2,h.bQ,h.bq,h.bk,h.left⟩,zI g _ _ hf.1 (by omega) hf.2.2 hsz,hk.1,hk.2⟩,b.trans b2⟩
def oA (img:ByteArray) (at_:Int):Nat→Nat→Int→Int
 | 0,_,y=>y
 | n+1,j,y=>oA img at_ n (j+1) (bits .or .i64 y (yI ((bt img (at_+j).toNat).toNat:Int) j))
theorem tx {img:ByteArray} : ∀ (n j:Nat) (y:Int) (m:aG) (q:Cache) (at_:Int) (c:Core),sS m c→Has c.cells img→q.Good→q.de img→0≤at_→at_+j+n≤2048→eU m (fy n j y m q at_).2.2.2 (fy n j y m q at_).1 ((∃ g,sS (fy n j y m q at_).1 { c with aD:=g })∧(fy n j y m q at_).2.1.Good∧(fy n j y m q at_).2.1.de img∧(fy n j y m q at_).2.2.1=oA img at_ n j y) c.yQ
 | 0,j,y,m,q,at_,c,h,hx,g,hq,h0,h1=>.inl ⟨rfl,⟨⟨c.aD,h⟩,g,hq,rfl⟩,id⟩
 | n+1,j,y,m,q,at_,c,h,hx,g,hq,h0,h1=>by
  unfold fy
  have ha:0≤at_+(j:Int)∧at_+(j:Int)<2048:=by omega
  by_cases hfd:(q.find (at_+j)).2=true
  ·
   rw [if_pos hfd,hq _ ha.1 ha.2 hfd]
   exact tx n (j+1) _ m q at_ c h hx g hq h0 (by omega)
  ·
   rw [if_neg hfd]
   rcases JR h hx g hq ha.1 ha.2 with ⟨e,⟨l1,l2,l3,l4⟩,b⟩ | ⟨e,t,l⟩
   ·
    rw [if_neg (by rw [e];decide)]
    rw [l4]
    have:=tx n (j+1) (bits .or .i64 y (yI ((bt img (at_+j).toNat).toNat:Int) j)) _ _ at_ { c with aD:=true } l1 hx l2 l3 h0 (by omega)
    exact eU.next b this
   ·
    rw [if_pos (by rw [e];decide)]
    exact .inr ⟨e,t,l⟩
theorem xH {m:aG} {c:Core} {q:Cache} {img:ByteArray} {at_ width:Int} (h:sS m c) (hx:Has c.cells img) (g:q.Good) (hq:q.de img) (hr:fM at_ width=true):eU m (bI m q at_ width).2.2.2 (bI m q at_ width).1 ((∃ g,sS (bI m q at_ width).1 { c with aD:=g })∧(bI m q at_ width).2.1.Good∧(bI m q at_ width).2.1.de img∧(bI m q at_ width).2.2.1=oA img at_ width.toNat 0 0) c.yQ:=by
 unfold bI
 rw [if_pos hr]
 unfold fM at hr
 simp at hr
 exact tx width.toNat 0 0 m q at_ c h hx g hq (by omega) (by omega)
theorem KV (x:UInt8):bits .or .i64 0 (yI (x.toNat:Int) 0)=(x.toNat:Int):=by
 have hx:=x.toNat_lt
 have:=nu 0 x.toNat (by decide) (by omega)
 unfold yI
 simp only [Nat.mul_zero,Int.pow_zero,Int.mul_one,gC]
 simpa using this
def j7 (img:ByteArray) (x:Int):Int:=((bt img x.toNat).toNat:Int)
theorem Gf (img:ByteArray) (x:Int):oA img x (1:Int).toNat 0 0=j7 img x:=by
 show bits .or .i64 0 (yI ((bt img (x+((0:Nat):Int)).toNat).toNat:Int) 0)=_
 rw [KV]
 simp [j7]
theorem r8 {x:Int} (h0:0≤x) (h1:x<2048):fM x 1=true:=by
 unfold fM
 simp
 omega
theorem LN {m:aG} {c:Core} {q:Cache} {img:ByteArray} {x:Int} {left out:List Int} (h:sS m c) (hx:Has c.cells img) (g:q.Good) (hq:q.de img) (h0:0≤x) (h1:x<2048):eU m (eP m q x left out).2.2.2.2 (eP m q x left out).1 ((∃ g,sS (eP m q x left out).1 { c with aD:=g })∧(eP m q x left out).2.1.Good∧(eP m q x left out).2.1.de img∧(eP m q x left out).2.2.1=left∧(eP m q x left out).2.2.2.1=out++[j7 img x]) c.yQ:=by
 have k:=xH h hx g hq (r8 h0 h1)
 rw [Gf] at k
 unfold eP
 rcases k with ⟨e,⟨l1,l2,l3,l4⟩,b⟩ | ⟨e,t,l⟩
 ·
  rw [if_neg (by rw [e];decide)]
  exact .inl ⟨rfl,⟨l1,l2,l3,rfl,by simp only [l4]⟩,b⟩
 ·
  rw [if_pos (by rw [e];decide)]
  exact .inr ⟨e,t,l⟩
theorem xK {img:ByteArray} : ∀ (l out:List Int) (m:aG) (q:Cache) (c:Core),sS m c→Has c.cells img→q.Good→q.de img→(∀ x ∈ l,0≤x∧x<2048)→eU m (dF l out m q).2.2.2 (dF l out m q).1 ((∃ g,sS (dF l out m q).1 { c with aD:=g })∧(dF l out m q).2.1.Good∧(dF l out m q).2.1.de img∧(dF l out m q).2.2.1=out++l.map (j7 img)) c.yQ
 | [],out,m,q,c,h,hx,g,hq,_=>.inl ⟨rfl,⟨⟨c.aD,h⟩,g,hq,by simp [dF]⟩,id⟩
 | x::l,out,m,q,c,h,hx,g,hq,hl=>by
  obtain ⟨x0,x1⟩:=hl x (by simp)
  have k:=xH h hx g hq (r8 x0 x1)
  rw [Gf] at k
  unfold dF
  rcases k with ⟨e,⟨⟨gg,l1⟩,l2,l3,l4⟩,b⟩ | ⟨e,t,l⟩
  ·
   rw [if_neg (by rw [e];decide),l4]
   have:=xK l (out++[j7 img x]) _ _ { c with aD:=gg } l1 hx l2 l3 (fun y hy=>hl y (by simp [hy]))
   refine eU.next b (this.mono (fun ⟨a1,a2,a3,a4⟩=>⟨a1,a2,a3,?_⟩) fun y hy=>hy)
   rw [a4]
   simp
  ·
   rw [if_pos (by rw [e];decide)]
   exact .inr ⟨e,t,l⟩
structure BO (c:Core) (B:Int):Prop where
 aD:c.aD=false
 bq:c.bq=true
 bk:c.bk=true
 aZ : ∀ j,c.aZ=some j→j.ia=false∧1≤j.left∧j.left≤B∧j.av ≠ -1
def Core.fin (c:Core):Core:=match c.aZ with | none=>c | some j=>c.done j
theorem kM {c:Core} {B:Int} (h:BO c B) (k:Nat):BO (c.bF k) (B - k)∧(c.bF k).fin=c.fin∧(∀ y,(c.bF k).yQ y→c.yQ y)∧(∀ img,Has c.cells img→(∀ j,c.aZ=some j→4≤j.av)→Has (c.bF k).cells img)∧(c.bF k).busy=c.busy:=by
 cases hj:c.aZ with
 | none =>
  rw [ei hj]
  exact ⟨⟨h.aD,h.bq,h.bk,fun j e=>by rw [hj] at e;cases e⟩,rfl,fun y h=>h,fun img h _=>h,rfl⟩
 | some j =>
  obtain ⟨h1,h2,h3,h4⟩:=h.aZ j hj
  rcases Int.lt_or_le (k:Int) j.left with hk | hk
  ·
   rw [mI hj h1 k hk]
   refine ⟨⟨h.aD,h.bq,h.bk,fun j' e => ?_⟩,?_,?_,fun img h _=>h,rfl⟩
   ·
    obtain rfl:({ j with left:=j.left - k }:iC)=j':=by simpa using e
    exact ⟨h1,by show 1≤j.left - k;omega,by show j.left - k≤_;omega,h4⟩
   ·
    show _=Core.fin c
    unfold Core.fin
    rw [hj]
    rfl
   ·
    intro y hy
    unfold Core.yQ
    rw [hj]
    exact hy
  ·
   rw [iY hj h1 h2 k hk]
   refine ⟨⟨h.aD,h.bq,h.bk,fun j' e=>by cases e⟩,?_,?_,fun img hx hs => ?_,rfl⟩
   ·
    show _=Core.fin c
    unfold Core.fin
    rw [hj]
    rfl
   ·
    intro y hy
    unfold Core.yQ
    rw [hj]
    exact ⟨_,hy⟩
   ·
    have h5:=hs j rfl
    show Has (cI j c.cells ⟨#[255]⟩) img
    unfold cI
    rw [if_neg h4]
    refine ⟨by unfold lE;rw [eJ];exact hx.size,fun i hi => ?_⟩
    unfold lE
    rw [lP _ _ _ (by rw [hx.size];omega),if_neg (by omega)]
    exact hx.same i hi
theorem Ft {c:Core} (h:c.bQ=false) {B:Int} (r:BO c B):c.aZ=none:=by
 cases hj:c.aZ with
 | none=>rfl
 | some j =>
  have:=(r.aZ j hj).1
  unfold Core.bQ eS at h
  rw [hj] at h
  simp [this] at h
theorem uN {c:Core} {B:Int} (r:BO c B) (g:Bool):({ ({ c.bN with aD:=g }:Core) with aD:=false }:Core).gM=c:=by
 unfold Core.bN Core.gM
 obtain ⟨a,b,d,e,f,aZ,bu⟩:=c
 cases aZ with
 | none=>have:=r.aD;simp only at this ⊢;rw [this]
 | some j =>
  obtain ⟨h1,_,_,h4⟩:=r.aZ j rfl
  have:=r.aD
  simp only at this ⊢
  rw [if_neg h4,this,← h1]
theorem IE {c:Core} {B:Int} (r:BO c B) {m:aG} (h:gi m c.bN):sS m c.bN:=by
 have e:c.bN.bQ=false∧c.bN.bq=true∧c.bN.bk=true ∧ ∀ j,c.bN.aZ=some j→1≤j.left:=by
  unfold Core.bN
  cases hj:c.aZ with
  | none=>exact ⟨by simp only;unfold Core.bQ eS;rw [hj],r.bq,r.bk,fun j e=>by rw [hj] at e;cases e⟩
  | some j =>
   obtain ⟨h1,h2,_,h4⟩:=r.aZ j hj
   simp only
   rw [if_neg h4]
   refine ⟨by simp [Core.bQ,eS],r.bq,r.bk,fun j' e => ?_⟩
   obtain rfl:({ j with ia:=true }:iC)=j':=by simpa using e
   exact h2
 exact ⟨h,e.1,e.2.1,e.2.2.1,e.2.2.2⟩
theorem Dw {c:Core} (y:ByteArray) (h:c.bN.yQ y):c.yQ y:=by
 obtain ⟨a,b,d,e,f,aZ,bu⟩:=c
 cases aZ with
 | none=>exact h
 | some j =>
  by_cases hs:j.av = -1
  ·
   simpa [Core.bN,hs] using h
  ·
   have e1:(⟨a,b,d,e,f,some j,bu⟩:Core).bN=⟨a,b,d,e,f,some { j with ia:=true },bu⟩:=by simp [Core.bN,hs]
   rw [e1] at h
   exact h
theorem Fh (c:Core):c.bN.cells=c.cells:=by
 unfold Core.bN
 split
 ·
  split <;> rfl
 ·
  rfl
theorem Dg {c:Core} (hs : ∀ j,c.aZ=some j→4≤j.av) (k:Nat) : ∀ j,(c.bF k).aZ=some j→4≤j.av:=by
 induction k generalizing c with
 | zero=>exact hs
 | succ k ih =>
  refine ih (c:=c.pass) fun j hj => ?_
  unfold Core.pass at hj
  cases hjc:c.aZ with
  | none=>rw [hjc] at hj;simp only at hj;rw [hjc] at hj;cases hj
  | some j' =>
   rw [hjc] at hj
   simp only at hj
   split at hj
   ·
    rw [hjc] at hj;exact hs j (hjc.trans hj)
   ·
    split at hj
    ·
     cases hj
    ·
     obtain rfl:({ j' with left:=j'.left - 1 }:iC)=j:=by simpa using hj
     exact hs j' hjc
theorem IL {img:ByteArray} : ∀ (N:Nat) (m:aG) (q:Cache) (left out:List Int) (c:Core),gi m c→BO c (16 * N+9)→Has c.cells img→(∀ j,c.aZ=some j→4≤j.av)→q.Good→q.de img→(∀ x ∈ left,0≤x∧x<2048)→eU m (cK (N+1) m q left out).2.2.2.2 (cK (N+1) m q left out).1 (gi (cK (N+1) m q left out).1 c.fin∧(cK (N+1) m q left out).2.1.Good∧(cK (N+1) m q left out).2.1.de img ∧ ∃ l1,left=l1++(cK (N+1) m q left out).2.2.1∧(cK (N+1) m q left out).2.2.2.1=out++l1.map (j7 img)) c.yQ:=by
 intro N
 induction N with
 | zero =>
  intro m q left out c h r hx hs g hq hl
  have hgo:({ c with aD:=false }:Core)=c:=by rw [← r.aD]
  have k:=mK h (by rw [r.aD];intro e;cases e)
  rw [hgo] at k
  have h9:(c.bF 9).aZ=none:=by
   cases hj:c.aZ with
   | none=>rw [ei hj];exact hj
   | some j =>
    obtain ⟨h1,h2,h3,h4⟩:=r.aZ j hj
    rw [iY hj h1 h2 9 (by have:j.left≤9:=h3;omega)]
    rfl
  unfold cK aG.di
  rcases k with ⟨e1,e2,gg⟩ | ⟨e1,e2,rr,b⟩
  ·
   rw [if_pos (by rw [e1];decide)]
   exact .inr ⟨e1,mE gg r.bq r.bk (fun j hj=>(r.aZ j hj).2.1),gg.left⟩
  ·
   rw [if_neg (by rw [e1];decide),if_pos (by rw [e1,e2,List.headD_cons,iW];unfold Core.bQ eS;rw [h9];rfl)]
   have e16:c.bF 16=c.fin:=by
    rw [show 16=9+7 from rfl,iA,ei h9]
    have:=(kM r 9).2.1
    rw [← this]
    unfold Core.fin
    rw [h9]
   rw [e16] at rr
   exact .inl ⟨rfl,⟨rr,g,hq,[],rfl,by simp⟩,b⟩
 | succ N ih =>
  intro m q left out c h r hx hs g hq hl
  have hgo:({ c with aD:=false }:Core)=c:=by rw [← r.aD]
  have k:=mK h (by rw [r.aD];intro e;cases e)
  rw [hgo] at k
  unfold cK aG.di
  rcases k with ⟨e1,e2,gg⟩ | ⟨e1,e2,rr,b⟩
  ·
   rw [if_pos (by rw [e1];decide)]
   exact .inr ⟨e1,mE gg r.bq r.bk (fun j hj=>(r.aZ j hj).2.1),gg.left⟩
  rw [if_neg (by rw [e1];decide)]
  cases hw:(c.bF 9).bQ with
  | false =>
   have h9:=Ft hw (kM r 9).1
   rw [if_pos (by rw [e1,e2,List.headD_cons,iW,hw];rfl)]
   have e16:c.bF 16=c.fin:=by
    rw [show 16=9+7 from rfl,iA,ei h9]
    have:=(kM r 9).2.1
    rw [← this]
    unfold Core.fin
    rw [h9]
   rw [e16] at rr
   exact .inl ⟨rfl,⟨rr,g,hq,[],rfl,by simp⟩,b⟩
  | true =>
   rw [if_neg (by rw [e1,e2,List.headD_cons,iW,hw];simp)]
   obtain ⟨p1,p2,p3,p4,p5⟩:=kM r 16
   have p1':BO (c.bF 16) (16 * N+9):=⟨p1.aD,p1.bq,p1.bk,fun j hj=>by
    obtain ⟨a,b,d,e⟩:=p1.aZ j hj
    exact ⟨a,b,by omega,e⟩⟩
   have s16:=Dg hs 16
   have x16:=p4 img hx hs
   cases left with
   | nil =>
    have:=ih (m.run 5 0 [] 1).1 q [] out (c.bF 16) rr p1' x16 s16 g hq (by simp)
    rw [p2] at this
    exact eU.next b (this.mono id p3)
   | cons x l =>
    obtain ⟨x0,x1⟩:=hl x (by simp)
    have k2:=fY (b:=117) (at_:=0) (ys:=[]) (read:=0) rr (by decide) (by rw [p1.aD];intro e;cases e) (by
     have hgo:({ c.bF 16 with aD:=false }:Core)=c.bF 16:=by rw [← p1.aD]
     rw [hgo]
     exact K9 p1.aD) (by
     have:=(kM p1 8).1.aD
     unfold Core.bN
     split
     ·
      split <;> exact this
     ·
      exact this)
    obtain ⟨t1,t2,t3,t4,t5⟩:=kM p1' 8
    have s24:=Dg s16 8
    have x24:=t4 img x16 s16
    generalize hc2:(c.bF 16).bF 8=c2 at *
    have mayAll : ∀ y,c2.yQ y→c.yQ y:=fun y hy=>p3 y (t3 y hy)
    simp only
    rcases k2 with ⟨f1,f2,gg⟩ | ⟨f1,f2,r3,b3⟩
    ·
     have e:(ef (m.run 5 0 [] 1).1 q x l out)=(((m.run 5 0 [] 1).1.run 117 0 [] 0).1,q,x::l,out,((m.run 5 0 [] 1).1.run 117 0 [] 0).2.2):=by
      unfold ef;rw [if_pos (by rw [f1];decide)]
     rw [e]
     simp only
     rw [if_pos (by rw [f1];decide)]
     exact eU.next b (.inr ⟨f1,(mE gg p1.bq p1.bk (fun j hj=>(p1.aZ j hj).2.1)).mono p3,gg.left⟩)
    ·
     have hh:=IE t1 r3
     have k3:=LN (left:=l) (out:=out) hh (by rw [Fh];exact x24) g hq x0 x1
     rcases k3 with ⟨d1,⟨⟨g4,l1⟩,l2,l3,l4,l5⟩,b4⟩ | ⟨d1,t,lf⟩
     ·
      have hc2g:c2.bN.aD=false:=by
       have:=t1.aD
       unfold Core.bN
       split
       ·
        split <;> exact this
       ·
        exact this
      have k5:=fY (b:=122) (at_:=0) (ys:=[]) (read:=0) l1.qg (by decide) (fun _=>⟨l1.bk,l1.bQ⟩) (La (c:={ ({ c2.bN with aD:=g4 }:Core) with aD:=false }) rfl l1.bQ) (by rw [uN t1 g4];exact t1.aD)
      rw [uN t1 g4] at k5
      have e:(ef (m.run 5 0 [] 1).1 q x l out)=(((eP ((m.run 5 0 [] 1).1.run 117 0 [] 0).1 q x l out).1.run 122 0 [] 0).1,(eP ((m.run 5 0 [] 1).1.run 117 0 [] 0).1 q x l out).2.1,(eP ((m.run 5 0 [] 1).1.run 117 0 [] 0).1 q x l out).2.2.1,(eP ((m.run 5 0 [] 1).1.run 117 0 [] 0).1 q x l out).2.2.2.1,((eP ((m.run 5 0 [] 1).1.run 117 0 [] 0).1 q x l out).1.run 122 0 [] 0).2.2):=by
       unfold ef
       rw [if_neg (by rw [f1];decide),if_neg (by rw [d1];decide)]
      rw [e]
      simp only
      rcases k5 with ⟨u1,u2,gg⟩ | ⟨u1,u2,r5,b5⟩
      ·
       rw [if_pos (by rw [u1];decide)]
       exact eU.next ((b.trans b3).trans b4) (.inr ⟨u1,(mE gg l1.bq l1.bk l1.left).mono fun y hy=>mayAll y (Dw y hy),gg.left⟩)
      ·
       rw [if_neg (by rw [u1];decide),l4,l5]
       have t1':BO c2 (16 * N+9):=⟨t1.aD,t1.bq,t1.bk,fun j hj=>by
        obtain ⟨a,b,d,e⟩:=t1.aZ j hj
        exact ⟨a,b,by omega,e⟩⟩
       have:=ih _ _ l (out++[j7 img x]) c2 r5 t1' x24 s24 l2 l3 (fun y hy=>hl y (by simp [hy]))
       refine eU.next (((b.trans b3).trans b4).trans b5) (this.mono (fun ⟨a1,a2,a3,l1',a4,a5⟩=>⟨?_,a2,a3,x::l1',?_,?_⟩) mayAll)
       ·
        rw [t2,p2] at a1;exact a1
       ·
        rw [List.cons_append,← a4]
       ·
        rw [a5];simp
     ·
      have e:(ef (m.run 5 0 [] 1).1 q x l out)=eP ((m.run 5 0 [] 1).1.run 117 0 [] 0).1 q x l out:=by
       unfold ef
       rw [if_neg (by rw [f1];decide),if_pos (by rw [d1];decide)]
      rw [e,if_pos (by rw [d1];decide)]
      exact eU.next (b.trans b3) (.inr ⟨d1,t.mono fun y hy=>mayAll y (Dw y hy),lf⟩)
end Go.Proofs.YtcfdenckiigdaaaGreat

/- Part 8 of the contracts. -/
import Derived.Deep.OwnRows
import Derived.Laws.CopyOwn
import Derived.Test.YtcfdenckiigdaaaGreatRd07
set_option linter.unusedVariables false
set_option maxRecDepth 100000
set_option maxHeartbeats 4000000
namespace Go.Proofs.YtcfdenckiigdaaaGreat
open Tryz Go.RowKit
section
open Go.RowKit
variable {X:Nat→Prop}
theorem zW {b:Int} (h:gF b=0):b ∈ gZ:=by
 by_cases hb:b ∈ gZ
 ·
  exact hb
 ·
  unfold gF at h;rw [nB b (fun k hk e=>hb (by rw [e];exact hk))] at h;simp at h
theorem qF {b:Int} (h:gF b=0):(ak b).byte=b:=by
 have:=zW h
 simp only [gZ,List.mem_cons,List.not_mem_nil,or_false] at this
 rcases this with rfl | rfl | rfl | rfl | rfl | rfl | rfl | rfl | rfl | rfl | rfl | rfl | rfl | rfl <;> rfl
theorem A7 {b:Int} (h:gF b=0):0≤b∧b<256:=by
 have:=zW h
 simp only [gZ,List.mem_cons,List.not_mem_nil,or_false] at this
 rcases this with rfl | rfl | rfl | rfl | rfl | rfl | rfl | rfl | rfl | rfl | rfl | rfl | rfl | rfl <;> decide
structure gX (b at_:Int) (xs:List Int) (read:Int):Prop where
 err:gF b=0
 lo:0≤at_
 hi:at_<4096
 EH:(ak b).addr=0→at_=0
 len:xs.length≤512
 bytes:xs.all isByte=true
 Nt:0≤read
 Ns:read≤512
 fits:ku (ak b) xs.length read=true
theorem gX.cmd {b at_:Int} {xs:List Int} {read:Int} (h:gX b at_ xs read):Mc (ak b) at_ xs read :=
 ⟨by rw [qF h.err];exact h.err,by rw [qF h.err],h.lo,h.hi,h.EH,h.len,h.bytes,h.Nt,h.Ns,h.fits⟩
theorem mA {ps:List Ph} (h : ∀ p ∈ ps,mT p) : ∀ i,i<ps.length→mT (ps.getD i Ph.none):=fun i hi=>by
 rw [show ps.getD i Ph.none=ps[i] by simp [List.getD,List.getElem?_eq_getElem hi]]
 exact h _ (List.getElem_mem hi)
theorem oE {b at_:Int} {xs:List Int} {read:Int} (h:gX b at_ xs read) : ∀ p ∈ aQ (ak b) at_ xs read,mT p:=by
 obtain ⟨o1,o2,o3,o4⟩:=rP b
 obtain ⟨d0,d1⟩:=oR b
 have hbr:=A7 h.err
 have hby:=qF h.err
 have a0:=h.lo
 have a1:=h.hi
 have r0:=h.Nt
 have r1:=h.Ns
 have hl:=h.len
 have hxs:=h.bytes
 have hf:=h.fits
 unfold ku at hf
 intro p hp
 unfold aQ at hp
 simp only [List.mem_append,List.mem_singleton] at hp
 rcases hp with ((((hp | hp) | hp) | hp) | hp) | hp
 ·
  subst hp
  exact .inl ⟨.inl rfl,by simp,by simp,by simp [isByte,hby];omega,rfl,rfl⟩
 ·
  split at hp
  ·
   obtain rfl:p=_:=by simpa using hp
   refine .inl ⟨?_,by simp,by simp,?_,rfl,rfl⟩
   ·
    show (ak b).addr=1∨(ak b).addr=4;omega
   ·
    simp [isByte];omega
  ·
   simp at hp
 ·
  split at hp
  ·
   rename_i hm
   obtain rfl:p=_:=by simpa using hp
   obtain ⟨m1,m2⟩:=o3 hm
   have hin:(ak b).jz=false:=by
    cases hi:(ak b).jz with
    | false=>rfl
    | true=>have:=o4 hi;omega
   rw [if_neg (by omega),hin,hm] at hf
   have hlen:(xs.length:Int)=1:=by simpa using hf
   exact .inl ⟨.inr m1,by show 1≤xs.length;omega,by show xs.length≤512;omega,hxs,rfl,rfl⟩
  ·
   simp at hp
 ·
  split at hp
  ·
   obtain rfl:p=_:=by simpa using hp
   exact .inr (.inr ⟨rfl,rfl,rfl,by show 1≤(ak b).dummy;omega,by show (ak b).dummy≤400;omega⟩)
  ·
   simp at hp
 ·
  split at hp
  ·
   rename_i hm
   obtain rfl:p=_:=by simpa using hp
   have:=o4 hm.1
   exact .inl ⟨.inl this,by show 1≤xs.length;omega,hl,hxs,rfl,rfl⟩
  ·
   simp at hp
 ·
  split at hp
  ·
   obtain rfl:p=_:=by simpa using hp
   have hd:(ak b).data≠0:=fun e=>by
    rw [if_pos e] at hf
    simp at hf;omega
   refine .inr (.inl ⟨?_,rfl,by show 1≤read;omega,r1,rfl⟩)
   show (ak b).data=1∨(ak b).data=4;omega
  ·
   simp at hp
theorem rm (r:gD) (at_:Int) (xs:List Int) (read:Int):1≤(aQ r at_ xs read).length∧(aQ r at_ xs read).length≤6:=by
 unfold aQ
 simp only [List.length_append,List.length_singleton]
 refine ⟨by omega,?_⟩
 split <;> split <;> split <;> split <;> split <;> simp
theorem B6 {at_:Int} {xs:List Int} {read:Int}:4≤(aQ (ak 235) at_ xs read).length:=by
 have e:ak 235=⟨235,4,true,4,4,false⟩:=rfl
 unfold aQ
 rw [e]
 simp
theorem Ip {at_:Int} {xs:List Int} {read:Int} (h:gX 235 at_ xs read):xs.length=1:=by
 have:=h.fits
 unfold ku at this
 have e:ak 235=⟨235,4,true,4,4,false⟩:=rfl
 rw [e] at this
 have:(xs.length:Int)=1:=by simpa using this
 omega
def aG.fin (m:aG) (b:Int) (xs:List Int) (ps:List Ph):aG×List Int×Int :=
 if m.iP ps=0 then ({ m.cL ps with aD:=decide (b=235)&&decide (xs.headD 0=160) },m.gm ps,0) else (m.cL ps,[],1101)
def aG.run (m:aG) (b at_:Int) (xs:List Int) (read:Int):aG×List Int×Int :=
 if m.lost=true then (m,[],1101)
 else if m.aD=true∧b=235 then m.fin b xs ((aQ (ak b) at_ xs read).drop 1)
 else if m.aD=true then (if m.iP [bX]=0 then { m.cL [bX] with aD:=false }.fin b xs (aQ (ak b) at_ xs read) else (m.cL [bX],[],1101))
 else m.fin b xs (aQ (ak b) at_ xs read)
theorem Ce (m:aG) (ps:List Ph):m.iP ps=0∨(m.iP ps=1101∧m.gm ps=[]):=by
 unfold aG.iP aG.gm
 split
 ·
  exact .inl rfl
 ·
  exact .inr ⟨rfl,rfl⟩
theorem xk : ∀ i,i<[bX].length→mT ([bX].getD i Ph.none):=by
 refine mA fun p hp => ?_
 obtain rfl:p=bX:=by simpa using hp
 exact .inl ⟨.inr rfl,by decide,by decide,by decide,rfl,rfl⟩
theorem eD.drop1 {G:Nat→Prop} {w:World} {b o:Nat} {ps:List Ph} (h:eD w b o ps G):eD w b (o+4) (ps.drop 1) G:=by
 cases ps with
 | nil=>exact ⟨fun hp=>by simp at hp,fun i hi=>by simp at hi⟩
 | cons p r=>exact h.tail
theorem Kl (k c:Nat) (m:aG) (G:Nat→Prop) (b at_:Int) (a:Option Addr) (xs:List Int) (cap:Nat) (read:Int) (w:World) (h:bO X w k c m G) (hl:m.lost=true):Calls prog 112 #[.pointer (some ⟨k,0,none⟩),.int .i64 b,.int .i64 at_,.slice a xs.length cap,.int .i64 read] w (mU X [] 1101 k c m G w):=by
 have HS:=zH (kh k c m G w h)
 have hst:m.qR=1101:=if_pos hl
 rw [hst] at HS
 have HH:=zH h
 clear h hl hst
 go_enter func112,ntmps112
 go_wp2_with fail
 refine HS.out.mono ?_
 rintro e w ⟨rfl,rfl⟩
 go_wp2
 go_ret2
 exact ⟨none,0,G,rfl,HH.out,⟨aP.nil _ _,fun _ _ e=>by cases e⟩,Step.refl _ _⟩
structure Made (X:Nat→Prop) (w:World) (k c:Nat) (m:aG) (G:Nat→Prop) (pb cap:Nat) (ps:List Ph) (a:Option Addr) (xs:List Int):Prop where
 wQ:bO X w k c m G
 row:eD w pb 0 ps G
 data:aL w a xs G
theorem yE (k c:Nat) (m:aG) (G:Nat→Prop) (at_:Int) (a:Option Addr) (x0:Int) (cap:Nat) (read:Int) (w:World) (h:bO X w k c m G) (ok:m.Ok) (hl:m.lost=false) (rok:gX 235 at_ [x0] read) (ha:aL w a [x0] G) (hn:a=none→cap=0) (hgo:m.aD=false) (hcap:1≤cap):Calls prog 112 #[.pointer (some ⟨k,0,none⟩),.int .i64 235,.int .i64 at_,.slice a 1 cap,.int .i64 read] w (mU X (m.run 235 at_ [x0] read).2.1 (m.run 235 at_ [x0] read).2.2 k c (m.run 235 at_ [x0] read).1 G w):=by
 have HS:=zH (kh k c m G w h)
 have hst:m.qR=0:=if_neg (by rw [hl];decide)
 rw [hst] at HS
 have HFI:=zH ((nn 235 w).mono fun e w' hx=>(⟨hx.1.trans (by rw [if_pos rok.err]),hx.2⟩:e=.returned (.tuple #[.agg (ak 235).cells,.int .i64 0])∧Below w.heap.size w w'))
 have hcmd:=fun (w':World) (hi:aP w' a [x0])=>nk (ak 235) at_ a cap [x0] read w' rok.cmd hi hn
 rw [GJ] at HFI hcmd
 simp only [List.length_singleton] at hcmd
 have HCM:=zH hcmd
 have HPO:=zH (oE rok)
 have HPL:=zH (rm (ak 235) at_ [x0] read)
 have HH:=zH h
 have HA:=zH ha
 have HLO:=zH hl
 have HOK:=zH ok
 have HGO:=zH hgo
 have HQ4:=zH (B6 (at_:=at_) (xs:=[x0]) (read:=read))
 have HRR:=zH (show m.run 235 at_ [x0] read=m.fin 235 [x0] (aQ (ak 235) at_ [x0] read) by unfold aG.run;rw [if_neg (by rw [hl];decide),if_neg (by rw [hgo];simp),if_neg (by rw [hgo];decide)])
 clear h ok hl rok ha hn hst hcmd hgo
 generalize m.run 235 at_ [x0] read=rr at *
 go_enter func112,ntmps112
 go_wp2_with fail
 refine HS.out.mono ?_
 rintro e w ⟨rfl,rfl⟩
 go_wp2_with fail
 refine HFI.out.mono ?_
 rintro e w1 ⟨rfl,hb1⟩
 have HB1:=zH hb1
 have hi1:=HA.out.1.aj (ae hb1 (.cells #[.int .i64 (ak 235).byte,.int .i64 (ak 235).addr,.bool (ak 235).mode,.int .i64 (ak 235).dummy,.int .i64 (ak 235).data,.bool (ak 235).jz] 125))
 have HC1:=zH (HCM.out _ hi1)
 have HB2:=zH (ae hb1 (.cells #[.int .i64 (ak 235).byte,.int .i64 (ak 235).addr,.bool (ak 235).mode,.int .i64 (ak 235).dummy,.int .i64 (ak 235).data,.bool (ak 235).jz] 125))
 clear hb1 hi1 HS HFI HCM
 go_wp2_with fail
 refine HC1.out.mono ?_
 rintro e w2 ⟨v,rfl,hnew,hb2⟩
 generalize hps:aQ (ak 235) at_ [x0] read=ps at *
 obtain ⟨pb,pc,rfl,hpc,hpm,hrow⟩:=eD.A6 hnew (by have:=HPL.out.1;omega) G (fun b hb=>zV (HH.out.lt b hb) HB2.out.size)
 have hb02:=gtr HB2.out hb2
 have M:=zH (Made.mk (pb:=pb) (cap:=pc) (HH.out.aj hb02) hrow (HA.out.step (Step.ah hb02)))
 have ST:=zH (Step.ah (F:=G) hb02)
 obtain ⟨s,F,hsc,hC⟩:=HH.out.aj hb02
 have c7:w2.cell? ⟨k,7,none⟩=some (.bool false):=by rw [← HGO.out,← hC.aD];exact cell_of hC.raw 7
 have HPC:=zH (zA hpc hpm)
 have HPS:=zH hps
 clear hnew hb2 hb02 hrow hC HA HB1 HB2 HC1 hpc hpm hps hsc
 have HDR:=zH (ie k c pb 0 pc m G ps w2 M.out.wQ HOK.out HLO.out M.out.row (mA HPO.out) (by have:=HPL.out.2;omega))
 have HST0:=zH ST.out
 have HDA:=zH M.out.data
 have HV:=zH HRR.out
 rcases Ce m ps with he | ⟨he,hx⟩
 ·
  rw [he] at HDR
  have HFV:=zH (show m.fin 235 [x0] ps=({ m.cL ps with aD:=(x0 == 160) },m.gm ps,0) by unfold aG.fin;rw [if_pos he];rfl)
  clear he
  generalize m.cL ps=mm at *
  generalize m.gm ps=xx at *
  go_wp2_with fail
  refine HDR.out.mono ?_
  rintro e w3 ⟨a3,cp3,G3,rfl,⟨s3,F3,hsc3,hC3⟩,hs3,st3⟩
  have d7:w3.cell? ⟨k,7,none⟩=some (.bool s3.aD):=cell_of hC3.raw 7
  have f7:w3.frozen? ⟨k,7,none⟩=false:=aF hC3.raw 7
  have r4:fE (w3.setCell ⟨k,7,none⟩ (.bool (x0 == 160))) k { s3 with aD:=(x0 == 160) }:=az (i:=7) (v:=.bool (x0 == 160)) hC3.raw
  have t4:Touch (aN k) w3 (w3.setCell ⟨k,7,none⟩ (.bool (x0 == 160))):=(Touch.refl _ _).set k 7 _ rfl
  have h4:=hC3.block (m':={ mm with aD:=(x0 == 160) }) r4 t4 rfl rfl hC3.left hC3.lost rfl rfl rfl rfl rfl
  have H4:=zH (zA h4 (zA (hs3.step (hC3.step t4)) (zA (HST0.out.trans (st3.trans (hC3.step t4))) hsc3)))
  have hdd:=HDA.out.step st3
  obtain ⟨db,doff,rfl,hd0⟩:=hdd.1 0 (by simp)
  rw [Nat.add_zero] at hd0
  have hd0:w3.cell? ⟨db,doff,none⟩=some (.int .i64 x0):=hd0
  have hq:(0:Int)<1:=by decide
  clear hC3 hs3 st3 r4 t4 h4 hsc3
  go_wp2
  go_ret2
  rw [HV.out,HFV.out]
  exact ⟨a3,cp3,G3,rfl,⟨{ s3 with aD:=(x0 == 160) },F3,H4.out.2.2.2,H4.out.1⟩,H4.out.2.1,H4.out.2.2.1⟩
 ·
  rw [he,hx] at HDR
  have HFV:=zH (show m.fin 235 [x0] ps=(m.cL ps,[],1101) by unfold aG.fin;rw [if_neg (by rw [he];decide)])
  clear he hx
  generalize m.cL ps=mm at *
  go_wp2_with fail
  refine HDR.out.mono ?_
  rintro e w3 ⟨a3,cp3,G3,rfl,hc3,hs3,st3⟩
  have H4:=zH (zA hc3 (zA hs3 (HST0.out.trans st3)))
  clear hc3 hs3 st3
  go_wp2
  go_ret2
  rw [HV.out,HFV.out]
  exact ⟨a3,cp3,G3,rfl,H4.out⟩
theorem Ir (k c:Nat) (m:aG) (G:Nat→Prop) (b at_:Int) (a:Option Addr) (xs:List Int) (cap:Nat) (read:Int) (w:World) (h:bO X w k c m G) (ok:m.Ok) (hl:m.lost=false) (rok:gX b at_ xs read) (ha:aL w a xs G) (hn:a=none→cap=0) (hgo:m.aD=false) (hb:b≠235) (hcap:xs.length≤cap):Calls prog 112 #[.pointer (some ⟨k,0,none⟩),.int .i64 b,.int .i64 at_,.slice a xs.length cap,.int .i64 read] w (mU X (m.run b at_ xs read).2.1 (m.run b at_ xs read).2.2 k c (m.run b at_ xs read).1 G w):=by
 have HS:=zH (kh k c m G w h)
 have hst:m.qR=0:=if_neg (by rw [hl];decide)
 rw [hst] at HS
 have HFI:=zH ((nn b w).mono fun e w' hx=>(⟨hx.1.trans (by rw [if_pos rok.err]),hx.2⟩:e=.returned (.tuple #[.agg (ak b).cells,.int .i64 0])∧Below w.heap.size w w'))
 have hcmd:=fun (w':World) (hi:aP w' a xs)=>nk (ak b) at_ a cap xs read w' rok.cmd hi hn
 rw [GJ] at HFI hcmd
 have HCM:=zH hcmd
 have HPO:=zH (oE rok)
 have HPL:=zH (rm (ak b) at_ xs read)
 have HH:=zH h
 have HA:=zH ha
 have HLO:=zH hl
 have HOK:=zH ok
 have HGO:=zH hgo
 have HB:=zH hb
 have hb2:(b == 235)=false:=zQ hb
 have HRR:=zH (show m.run b at_ xs read=m.fin b xs (aQ (ak b) at_ xs read) by unfold aG.run;rw [if_neg (by rw [hl];decide),if_neg (fun e=>hb e.2),if_neg (by rw [hgo];decide)])
 clear h ok hl rok ha hn hst hcmd hgo hb
 generalize m.run b at_ xs read=rr at *
 go_enter func112,ntmps112
 go_wp2_with fail
 refine HS.out.mono ?_
 rintro e w ⟨rfl,rfl⟩
 go_wp2_with fail
 refine HFI.out.mono ?_
 rintro e w1 ⟨rfl,hb1⟩
 have HB1:=zH hb1
 have hi1:=HA.out.1.aj (ae hb1 (.cells #[.int .i64 (ak b).byte,.int .i64 (ak b).addr,.bool (ak b).mode,.int .i64 (ak b).dummy,.int .i64 (ak b).data,.bool (ak b).jz] 125))
 have HC1:=zH (HCM.out _ hi1)
 have HB2:=zH (ae hb1 (.cells #[.int .i64 (ak b).byte,.int .i64 (ak b).addr,.bool (ak b).mode,.int .i64 (ak b).dummy,.int .i64 (ak b).data,.bool (ak b).jz] 125))
 clear hb1 hi1 HS HFI HCM
 go_wp2_with fail
 refine HC1.out.mono ?_
 rintro e w2 ⟨v,rfl,hnew,hb2⟩
 generalize hps:aQ (ak b) at_ xs read=ps at *
 obtain ⟨pb,pc,rfl,hpc,hpm,hrow⟩:=eD.A6 hnew (by have:=HPL.out.1;omega) G (fun b hb=>zV (HH.out.lt b hb) HB2.out.size)
 have hb02:=gtr HB2.out hb2
 have M:=zH (Made.mk (pb:=pb) (cap:=pc) (HH.out.aj hb02) hrow (HA.out.step (Step.ah hb02)))
 have ST:=zH (Step.ah (F:=G) hb02)
 obtain ⟨s,F,hsc,hC⟩:=HH.out.aj hb02
 have c7:w2.cell? ⟨k,7,none⟩=some (.bool false):=by rw [← HGO.out,← hC.aD];exact cell_of hC.raw 7
 have HPC:=zH (zA hpc hpm)
 have HPS:=zH hps
 clear hnew hb2 hb02 hrow hC HA HB1 HB2 HC1 hpc hpm hps hsc
 have HDR:=zH (ie k c pb 0 pc m G ps w2 M.out.wQ HOK.out HLO.out M.out.row (mA HPO.out) (by have:=HPL.out.2;omega))
 have HST0:=zH ST.out
 have HDA:=zH M.out.data
 have HV:=zH HRR.out
 rcases Ce m ps with he | ⟨he,hx⟩
 ·
  rw [he] at HDR
  have HFV:=zH (show m.fin b xs ps=({ m.cL ps with aD:=false },m.gm ps,0) by unfold aG.fin;rw [if_pos he];rw [show decide (b=235)=false from decide_eq_false HB.out];rfl)
  clear he
  generalize m.cL ps=mm at *
  generalize m.gm ps=xx at *
  go_wp2_with fail
  refine HDR.out.mono ?_
  rintro e w3 ⟨a3,cp3,G3,rfl,⟨s3,F3,hsc3,hC3⟩,hs3,st3⟩
  have d7:w3.cell? ⟨k,7,none⟩=some (.bool s3.aD):=cell_of hC3.raw 7
  have f7:w3.frozen? ⟨k,7,none⟩=false:=aF hC3.raw 7
  have r4:fE (w3.setCell ⟨k,7,none⟩ (.bool false)) k { s3 with aD:=false }:=az (i:=7) (v:=.bool false) hC3.raw
  have t4:Touch (aN k) w3 (w3.setCell ⟨k,7,none⟩ (.bool false)):=(Touch.refl _ _).set k 7 _ rfl
  have h4:=hC3.block (m':={ mm with aD:=false }) r4 t4 rfl rfl hC3.left hC3.lost rfl rfl rfl rfl rfl
  have H4:=zH (zA h4 (zA (hs3.step (hC3.step t4)) (zA (HST0.out.trans (st3.trans (hC3.step t4))) hsc3)))
  clear hC3 hs3 st3 r4 t4 h4 hsc3
  go_wp2
  go_ret2
  rw [HV.out,HFV.out]
  exact ⟨a3,cp3,G3,rfl,⟨{ s3 with aD:=false },F3,H4.out.2.2.2,H4.out.1⟩,H4.out.2.1,H4.out.2.2.1⟩
 ·
  rw [he,hx] at HDR
  have HFV:=zH (show m.fin b xs ps=(m.cL ps,[],1101) by unfold aG.fin;rw [if_neg (by rw [he];decide)])
  clear he hx
  generalize m.cL ps=mm at *
  go_wp2_with fail
  refine HDR.out.mono ?_
  rintro e w3 ⟨a3,cp3,G3,rfl,hc3,hs3,st3⟩
  have H4:=zH (zA hc3 (zA hs3 (HST0.out.trans st3)))
  clear hc3 hs3 st3
  go_wp2
  go_ret2
  rw [HV.out,HFV.out]
  exact ⟨a3,cp3,G3,rfl,H4.out⟩
theorem Bl (k c:Nat) (m:aG) (G:Nat→Prop) (at_:Int) (a:Option Addr) (x0:Int) (cap:Nat) (read:Int) (w:World) (h:bO X w k c m G) (ok:m.Ok) (hl:m.lost=false) (rok:gX 235 at_ [x0] read) (ha:aL w a [x0] G) (hn:a=none→cap=0) (hgo:m.aD=true) (hcap:1≤cap):Calls prog 112 #[.pointer (some ⟨k,0,none⟩),.int .i64 235,.int .i64 at_,.slice a 1 cap,.int .i64 read] w (mU X (m.run 235 at_ [x0] read).2.1 (m.run 235 at_ [x0] read).2.2 k c (m.run 235 at_ [x0] read).1 G w):=by
 have HS:=zH (kh k c m G w h)
 have hst:m.qR=0:=if_neg (by rw [hl];decide)
 rw [hst] at HS
 have HFI:=zH ((nn 235 w).mono fun e w' hx=>(⟨hx.1.trans (by rw [if_pos rok.err]),hx.2⟩:e=.returned (.tuple #[.agg (ak 235).cells,.int .i64 0])∧Below w.heap.size w w'))
 have hcmd:=fun (w':World) (hi:aP w' a [x0])=>nk (ak 235) at_ a cap [x0] read w' rok.cmd hi hn
 rw [GJ] at HFI hcmd
 simp only [List.length_singleton] at hcmd
 have HCM:=zH hcmd
 have HPO:=zH (oE rok)
 have HPL:=zH (rm (ak 235) at_ [x0] read)
 have HH:=zH h
 have HA:=zH ha
 have HLO:=zH hl
 have HOK:=zH ok
 have HGO:=zH hgo
 have HQ4:=zH (B6 (at_:=at_) (xs:=[x0]) (read:=read))
 have HRR:=zH (show m.run 235 at_ [x0] read=m.fin 235 [x0] ((aQ (ak 235) at_ [x0] read).drop 1) by unfold aG.run;rw [if_neg (by rw [hl];decide),if_pos ⟨hgo,rfl⟩])
 clear h ok hl rok ha hn hst hcmd hgo
 generalize m.run 235 at_ [x0] read=rr at *
 go_enter func112,ntmps112
 go_wp2_with fail
 refine HS.out.mono ?_
 rintro e w ⟨rfl,rfl⟩
 go_wp2_with fail
 refine HFI.out.mono ?_
 rintro e w1 ⟨rfl,hb1⟩
 have HB1:=zH hb1
 have hi1:=HA.out.1.aj (ae hb1 (.cells #[.int .i64 (ak 235).byte,.int .i64 (ak 235).addr,.bool (ak 235).mode,.int .i64 (ak 235).dummy,.int .i64 (ak 235).data,.bool (ak 235).jz] 125))
 have HC1:=zH (HCM.out _ hi1)
 have HB2:=zH (ae hb1 (.cells #[.int .i64 (ak 235).byte,.int .i64 (ak 235).addr,.bool (ak 235).mode,.int .i64 (ak 235).dummy,.int .i64 (ak 235).data,.bool (ak 235).jz] 125))
 clear hb1 hi1 HS HFI HCM
 go_wp2_with fail
 refine HC1.out.mono ?_
 rintro e w2 ⟨v,rfl,hnew,hb2⟩
 generalize hps:aQ (ak 235) at_ [x0] read=ps at *
 obtain ⟨pb,pc,rfl,hpc,hpm,hrow⟩:=eD.A6 hnew (by have:=HPL.out.1;omega) G (fun b hb=>zV (HH.out.lt b hb) HB2.out.size)
 have hb02:=gtr HB2.out hb2
 have M:=zH (Made.mk (pb:=pb) (cap:=pc) (HH.out.aj hb02) hrow (HA.out.step (Step.ah hb02)))
 have ST:=zH (Step.ah (F:=G) hb02)
 obtain ⟨s,F,hsc,hC⟩:=HH.out.aj hb02
 have c7:w2.cell? ⟨k,7,none⟩=some (.bool true):=by rw [← HGO.out,← hC.aD];exact cell_of hC.raw 7
 have HPC:=zH (zA hpc hpm)
 have HPS:=zH hps
 clear hnew hb2 hb02 hrow hC HA HB1 HB2 HC1 hpc hpm hps hsc
 have hn4:=HQ4.out
 obtain ⟨hpc,hpm⟩:=HPC.out
 have g1:(1:Int)≤(ps.length:Int):=by omega
 have g2:(ps.length:Int)≤(pc:Int):=by omega
 have g3 : ¬ pc=1:=by omega
 have g4:1≤ps.length:=by omega
 have g5:1≤pc:=by omega
 clear hpc hpm hn4
 obtain ⟨qs,hqs⟩ : ∃ qs,ps.drop 1=qs:=⟨_,rfl⟩
 have hql:qs.length=ps.length - 1:=by rw [← hqs];simp
 have HQL:=zH hql
 have HRQ:=zH (show rr=m.fin 235 [x0] qs by rw [← hqs];exact HRR.out)
 have HROW:=zH (show eD w2 pb 4 qs G by rw [← hqs];exact M.out.row.drop1)
 have HPQ:=zH (show ∀ p ∈ qs,mT p from fun p hp=>HPO.out p (by rw [← hqs] at hp;exact List.mem_of_mem_drop hp))
 have hq6:qs.length≤100:=by have:=HPL.out.2;omega
 clear hqs hql
 have HDR:=zH (ie k c pb 4 (pc - 1) m G qs w2 M.out.wQ HOK.out HLO.out HROW.out (mA HPQ.out) hq6)
 rw [HQL.out] at HDR
 have HST0:=zH ST.out
 have HDA:=zH M.out.data
 have HV:=zH HRQ.out
 rcases Ce m qs with he | ⟨he,hx⟩
 ·
  rw [he] at HDR
  have HFV:=zH (show m.fin 235 [x0] qs=({ m.cL qs with aD:=(x0 == 160) },m.gm qs,0) by unfold aG.fin;rw [if_pos he];rfl)
  clear he
  generalize m.cL qs=mm at *
  generalize m.gm qs=xx at *
  go_wp2_with fail
  refine HDR.out.mono ?_
  rintro e w3 ⟨a3,cp3,G3,rfl,⟨s3,F3,hsc3,hC3⟩,hs3,st3⟩
  have d7:w3.cell? ⟨k,7,none⟩=some (.bool s3.aD):=cell_of hC3.raw 7
  have f7:w3.frozen? ⟨k,7,none⟩=false:=aF hC3.raw 7
  have r4:fE (w3.setCell ⟨k,7,none⟩ (.bool (x0 == 160))) k { s3 with aD:=(x0 == 160) }:=az (i:=7) (v:=.bool (x0 == 160)) hC3.raw
  have t4:Touch (aN k) w3 (w3.setCell ⟨k,7,none⟩ (.bool (x0 == 160))):=(Touch.refl _ _).set k 7 _ rfl
  have h4:=hC3.block (m':={ mm with aD:=(x0 == 160) }) r4 t4 rfl rfl hC3.left hC3.lost rfl rfl rfl rfl rfl
  have H4:=zH (zA h4 (zA (hs3.step (hC3.step t4)) (zA (HST0.out.trans (st3.trans (hC3.step t4))) hsc3)))
  have hdd:=HDA.out.step st3
  obtain ⟨db,doff,rfl,hd0⟩:=hdd.1 0 (by simp)
  rw [Nat.add_zero] at hd0
  have hd0:w3.cell? ⟨db,doff,none⟩=some (.int .i64 x0):=hd0
  have hq:(0:Int)<1:=by decide
  clear hC3 hs3 st3 r4 t4 h4 hsc3
  go_wp2
  go_ret2
  rw [HV.out,HFV.out]
  exact ⟨a3,cp3,G3,rfl,⟨{ s3 with aD:=(x0 == 160) },F3,H4.out.2.2.2,H4.out.1⟩,H4.out.2.1,H4.out.2.2.1⟩
 ·
  rw [he,hx] at HDR
  have HFV:=zH (show m.fin 235 [x0] qs=(m.cL qs,[],1101) by unfold aG.fin;rw [if_neg (by rw [he];decide)])
  clear he hx
  generalize m.cL qs=mm at *
  go_wp2_with fail
  refine HDR.out.mono ?_
  rintro e w3 ⟨a3,cp3,G3,rfl,hc3,hs3,st3⟩
  have H4:=zH (zA hc3 (zA hs3 (HST0.out.trans st3)))
  clear hc3 hs3 st3
  go_wp2
  go_ret2
  rw [HV.out,HFV.out]
  exact ⟨a3,cp3,G3,rfl,H4.out⟩
theorem Kk (k c:Nat) (m:aG) (G:Nat→Prop) (b at_:Int) (a:Option Addr) (xs:List Int) (cap:Nat) (read:Int) (w:World) (h:bO X w k c m G) (ok:m.Ok) (hl:m.lost=false) (rok:gX b at_ xs read) (ha:aL w a xs G) (hn:a=none→cap=0) (hgo:m.aD=true) (hb:b≠235) (hcap:xs.length≤cap):Calls prog 112 #[.pointer (some ⟨k,0,none⟩),.int .i64 b,.int .i64 at_,.slice a xs.length cap,.int .i64 read] w (mU X (m.run b at_ xs read).2.1 (m.run b at_ xs read).2.2 k c (m.run b at_ xs read).1 G w):=by
 have HS:=zH (kh k c m G w h)
 have hst:m.qR=0:=if_neg (by rw [hl];decide)
 rw [hst] at HS
 have HFI:=zH ((nn b w).mono fun e w' hx=>(⟨hx.1.trans (by rw [if_pos rok.err]),hx.2⟩:e=.returned (.tuple #[.agg (ak b).cells,.int .i64 0])∧Below w.heap.size w w'))
 have hcmd:=fun (w':World) (hi:aP w' a xs)=>nk (ak b) at_ a cap xs read w' rok.cmd hi hn
 rw [GJ] at HFI hcmd
 have HCM:=zH hcmd
 have HPO:=zH (oE rok)
 have HPL:=zH (rm (ak b) at_ xs read)
 have HH:=zH h
 have HA:=zH ha
 have HLO:=zH hl
 have HOK:=zH ok
 have HGO:=zH hgo
 have HB:=zH hb
 have hb2:(b == 235)=false:=zQ hb
 have HRR:=zH (show m.run b at_ xs read=if m.iP [bX]=0 then { m.cL [bX] with aD:=false }.fin b xs (aQ (ak b) at_ xs read) else (m.cL [bX],[],1101) by unfold aG.run;rw [if_neg (by rw [hl];decide),if_neg (fun e=>hb e.2),if_pos hgo])
 clear h ok hl rok ha hn hst hcmd hgo hb
 generalize m.run b at_ xs read=rr at *
 go_enter func112,ntmps112
 go_wp2_with fail
 refine HS.out.mono ?_
 rintro e w ⟨rfl,rfl⟩
 go_wp2_with fail
 refine HFI.out.mono ?_
 rintro e w1 ⟨rfl,hb1⟩
 have HB1:=zH hb1
 have hi1:=HA.out.1.aj (ae hb1 (.cells #[.int .i64 (ak b).byte,.int .i64 (ak b).addr,.bool (ak b).mode,.int .i64 (ak b).dummy,.int .i64 (ak b).data,.bool (ak b).jz] 125))
 have HC1:=zH (HCM.out _ hi1)
 have HB2:=zH (ae hb1 (.cells #[.int .i64 (ak b).byte,.int .i64 (ak b).addr,.bool (ak b).mode,.int .i64 (ak b).dummy,.int .i64 (ak b).data,.bool (ak b).jz] 125))
 clear hb1 hi1 HS HFI HCM
 go_wp2_with fail
 refine HC1.out.mono ?_
 rintro e w2 ⟨v,rfl,hnew,hb2⟩
 generalize hps:aQ (ak b) at_ xs read=ps at *
 obtain ⟨pb,pc,rfl,hpc,hpm,hrow⟩:=eD.A6 hnew (by have:=HPL.out.1;omega) G (fun b hb=>zV (HH.out.lt b hb) HB2.out.size)
 have hb02:=gtr HB2.out hb2
 have M:=zH (Made.mk (pb:=pb) (cap:=pc) (HH.out.aj hb02) hrow (HA.out.step (Step.ah hb02)))
 have ST:=zH (Step.ah (F:=G) hb02)
 obtain ⟨s,F,hsc,hC⟩:=HH.out.aj hb02
 have c7:w2.cell? ⟨k,7,none⟩=some (.bool true):=by rw [← HGO.out,← hC.aD];exact cell_of hC.raw 7
 have HPC:=zH (zA hpc hpm)
 have HPS:=zH hps
 clear hnew hb2 hb02 hrow hC HA HB1 HB2 HC1 hpc hpm hps hsc
 have HLV:=zH (yA k c m G w2 M.out.wQ)
 go_wp2_with fail
 refine HLV.out.mono ?_
 rintro e w4 ⟨lb,G4,rfl,hc4,st4,hr4⟩
 have HDL:=zH (ie k c lb 0 1 m G4 [bX] w4 hc4 HOK.out HLO.out hr4 xk (by simp))
 simp only [List.length_singleton] at HDL
 have H4:=zH (zA (M.out.row.step st4) (zA (M.out.data.step st4) (ST.out.trans st4)))
 have HLK:=zH (HOK.out.cL HLO.out [bX] xk (by simp))
 have HLD:=zH (show (m.cL [bX]).lost=(m.lost || !(m.r [bX]).1)∧m.iP [bX]=(if (m.r [bX]).1=true then 0 else 1101) from ⟨rfl,rfl⟩)
 clear hc4 st4 hr4 HLV
 rcases Ce m [bX] with he | ⟨he,hx⟩
 ·
  have hl0:(m.cL [bX]).lost=false:=by
   obtain ⟨q1,q2⟩:=HLD.out
   rw [he] at q2
   rw [q1,HLO.out]
   cases hr:(m.r [bX]).1 with
   | true=>rfl
   | false=>rw [hr] at q2;simp at q2
  rw [he] at HDL
  have HR2:=zH (show rr={ m.cL [bX] with aD:=false }.fin b xs ps by rw [HRR.out,if_pos he])
  have HL0:=zH hl0
  clear he hl0
  generalize m.cL [bX]=m1 at *
  generalize m.gm [bX]=x1 at *
  go_wp2_with fail
  refine HDL.out.mono ?_
  rintro e w5 ⟨a5,cp5,G5,rfl,⟨s5,F5,hsc5,hC5⟩,_,st5⟩
  have d7:w5.cell? ⟨k,7,none⟩=some (.bool s5.aD):=cell_of hC5.raw 7
  have f7:w5.frozen? ⟨k,7,none⟩=false:=aF hC5.raw 7
  have r6:fE (w5.setCell ⟨k,7,none⟩ (.bool false)) k { s5 with aD:=false }:=az (i:=7) (v:=.bool false) hC5.raw
  have t6:Touch (aN k) w5 (w5.setCell ⟨k,7,none⟩ (.bool false)):=(Touch.refl _ _).set k 7 _ rfl
  have h6:=hC5.block (m':={ m1 with aD:=false }) r6 t6 rfl rfl hC5.left hC5.lost rfl rfl rfl rfl rfl
  have st6:=st5.trans (hC5.step t6)
  have M6:=zH (Made.mk (pb:=pb) (cap:=pc) (show bO X (w5.setCell ⟨k,7,none⟩ (.bool false)) k c { m1 with aD:=false } G5 from ⟨{ s5 with aD:=false },F5,hsc5,h6⟩) (H4.out.1.step st6) (H4.out.2.1.step st6))
  have ST6:=zH (H4.out.2.2.trans st6)
  have HOK6:=zH (show ({ m1 with aD:=false }:aG).Ok from ⟨HLK.out.ck,HLK.out.dP,HLK.out.kv,HLK.out.ll⟩)
  have HL6:=zH (show ({ m1 with aD:=false }:aG).lost=false from HL0.out)
  clear hC5 st5 r6 t6 h6 st6 hsc5
  obtain ⟨m6,hm6⟩ : ∃ m6:aG,m6={ m1 with aD:=false }:=⟨_,rfl⟩
  rw [← hm6] at M6 HOK6 HL6 HR2
  clear hm6
  have HDR:=zH (ie k c pb 0 pc m6 G5 ps _ M6.out.wQ HOK6.out HL6.out M6.out.row (mA HPO.out) (by have:=HPL.out.2;omega))
  have HST0:=zH ST6.out
  have HDA:=zH M6.out.data
  have HV:=zH HR2.out
  rcases Ce m6 ps with he | ⟨he,hx⟩
  ·
   rw [he] at HDR
   have HFV:=zH (show m6.fin b xs ps=({ m6.cL ps with aD:=false },m6.gm ps,0) by unfold aG.fin;rw [if_pos he];rw [show decide (b=235)=false from decide_eq_false HB.out];rfl)
   clear he
   generalize m6.cL ps=mm at *
   generalize m6.gm ps=xx at *
   go_wp2_with fail
   refine HDR.out.mono ?_
   rintro e w3 ⟨a3,cp3,G3,rfl,⟨s3,F3,hsc3,hC3⟩,hs3,st3⟩
   have d7:w3.cell? ⟨k,7,none⟩=some (.bool s3.aD):=cell_of hC3.raw 7
   have f7:w3.frozen? ⟨k,7,none⟩=false:=aF hC3.raw 7
   have r4:fE (w3.setCell ⟨k,7,none⟩ (.bool false)) k { s3 with aD:=false }:=az (i:=7) (v:=.bool false) hC3.raw
   have t4:Touch (aN k) w3 (w3.setCell ⟨k,7,none⟩ (.bool false)):=(Touch.refl _ _).set k 7 _ rfl
   have h4:=hC3.block (m':={ mm with aD:=false }) r4 t4 rfl rfl hC3.left hC3.lost rfl rfl rfl rfl rfl
   have H4:=zH (zA h4 (zA (hs3.step (hC3.step t4)) (zA (HST0.out.trans (st3.trans (hC3.step t4))) hsc3)))
   clear hC3 hs3 st3 r4 t4 h4 hsc3
   go_wp2
   go_ret2
   rw [HV.out,HFV.out]
   exact ⟨a3,cp3,G3,rfl,⟨{ s3 with aD:=false },F3,H4.out.2.2.2,H4.out.1⟩,H4.out.2.1,H4.out.2.2.1⟩
  ·
   rw [he,hx] at HDR
   have HFV:=zH (show m6.fin b xs ps=(m6.cL ps,[],1101) by unfold aG.fin;rw [if_neg (by rw [he];decide)])
   clear he hx
   generalize m6.cL ps=mm at *
   go_wp2_with fail
   refine HDR.out.mono ?_
   rintro e w3 ⟨a3,cp3,G3,rfl,hc3,hs3,st3⟩
   have H4:=zH (zA hc3 (zA hs3 (HST0.out.trans st3)))
   clear hc3 hs3 st3
   go_wp2
   go_ret2
   rw [HV.out,HFV.out]
   exact ⟨a3,cp3,G3,rfl,H4.out⟩
 ·
  rw [he,hx] at HDL
  have HR2:=zH (show rr=(m.cL [bX],[],1101) by rw [HRR.out,if_neg (by rw [he];decide)])
  clear he hx
  generalize m.cL [bX]=m1 at *
  go_wp2_with fail
  refine HDL.out.mono ?_
  rintro e w5 ⟨a5,cp5,G5,rfl,hc5,hs5,st5⟩
  have H5:=zH (zA hc5 (zA hs5 (H4.out.2.2.trans st5)))
  clear hc5 hs5 st5
  go_wp2
  go_ret2
  rw [HR2.out]
  exact ⟨none,0,G5,rfl,H5.out.1,⟨aP.nil _ _,fun _ _ e=>by cases e⟩,H5.out.2.2⟩
theorem fj (k c:Nat) (m:aG) (G:Nat→Prop) (b at_:Int) (a:Option Addr) (xs:List Int) (cap:Nat) (read:Int) (w:World) (h:bO X w k c m G) (ok:m.Ok) (rok:gX b at_ xs read) (ha:aL w a xs G) (hn:a=none→cap=0) (hcap:xs.length≤cap):Calls prog 112 #[.pointer (some ⟨k,0,none⟩),.int .i64 b,.int .i64 at_,.slice a xs.length cap,.int .i64 read] w (mU X (m.run b at_ xs read).2.1 (m.run b at_ xs read).2.2 k c (m.run b at_ xs read).1 G w):=by
 cases hl:m.lost with
 | true =>
  have e:m.run b at_ xs read=(m,[],1101):=if_pos hl
  rw [e]
  exact Kl k c m G b at_ a xs cap read w h hl
 | false =>
  by_cases hb:b=235
  ·
   subst hb
   obtain ⟨x0,rfl⟩ : ∃ x0,xs=[x0]:=List.length_eq_one_iff.1 (Ip rok)
   cases hg:m.aD with
   | true=>exact Bl k c m G at_ a x0 cap read w h ok hl rok ha hn hg hcap
   | false=>exact yE k c m G at_ a x0 cap read w h ok hl rok ha hn hg hcap
  ·
   cases hg:m.aD with
   | true=>exact Kk k c m G b at_ a xs cap read w h ok hl rok ha hn hg hb hcap
   | false=>exact Ir k c m G b at_ a xs cap read w h ok hl rok ha hn hg hb hcap
theorem En {m:aG} (ok:m.Ok) (hl:m.lost=false) (b:Int) (xs:List Int) (ps:List Ph) (hp : ∀ p ∈ ps,mT p) (hn:ps.length≤100):(m.fin b xs ps).1.Ok:=by
 have h:=ok.cL hl ps (mA hp) hn
 unfold aG.fin
 split
 ·
  exact ⟨h.ck,h.dP,h.kv,h.ll⟩
 ·
  exact h
theorem eu {m:aG} (ok:m.Ok) (b at_:Int) (xs:List Int) (read:Int) (rok:gX b at_ xs read):(m.run b at_ xs read).1.Ok:=by
 have hp:=oE rok
 have hl6:=(rm (ak b) at_ xs read).2
 unfold aG.run
 split
 ·
  exact ok
 ·
  rename_i hl
  have hl':m.lost=false:=by cases h:m.lost with | false=>rfl | true=>exact absurd h hl
  split
  ·
   exact En ok hl' b xs _ (fun p h=>hp p (List.mem_of_mem_drop h)) (by simp;omega)
  ·
   split
   ·
    have h1:=ok.cL hl' [bX] xk (by simp)
    split
    ·
     rename_i he
     refine En (m:={ m.cL [bX] with aD:=false }) ⟨h1.ck,h1.dP,h1.kv,h1.ll⟩ ?_ b xs _ hp (by omega)
     show (m.lost || !(m.r [bX]).1)=false
     unfold aG.iP at he
     split at he
     ·
      rename_i hr;rw [hl',hr];rfl
     ·
      cases he
    ·
     exact h1
   ·
    exact En ok hl' b xs _ hp (by omega)
end
theorem Gd {j:Nat} {x v:Value} (h:[x][j]? = some v):j=0∧x=v:=by
 have hj0:j=0:=by
  have:=(List.getElem?_eq_some_iff.1 h).1
  simpa using this
 subst hj0
 exact ⟨rfl,by simpa using h⟩
theorem Ge : ∀ v ∈ [Value.int .i64 (-1)],v.oneCell'=true:=by
 intro v hv
 obtain rfl:v=.int .i64 (-1):=by simpa using hv
 rfl
theorem dM {B:Nat} {a b:World} (h:Below B a b) (g:Nat) (r:Array Value) (hg:B≤g):Below B a (b.setRow g r) :=
 ⟨h.os,h.tape,h.output,by show _≤(b.heap.modify _ _).size;simp;exact h.size,fun k hk=>(bj _ _ _ _ (by omega)).trans (h.block k hk)⟩
theorem fc {ops:Array Oper} {o:Oper} {a:Act} {w:World} {K:Act→World→Prop} {Q:Exit→Act→World→Prop} {E:Prop} (hgd:o.guard=none) (ty:TypeId) (x y:Operand) (ho:o.op=.store ty x y) (hd:o.dst=none) (g off:Nat) (cells:Array Value) (hx:a.eval x=.pointer (some ⟨g,off,none⟩)) (hy:a.eval y=.agg cells) (t:TypeId) (old:Array Value) (hg:w.heap[g]? = some (.cells old t (0,0))) (hi:(prog.info? ty).map (·.size)=some cells.size) (hold:off+cells.size≤old.size) (h1:cells.all (·.oneCell')=true) (h : ∀ w',Hid (w'=w.setRow g (putAt old off cells.toList))→Hid (w'.heap[g]? = some (.cells (putAt old off cells.toList) t (0,0)))→K a w'):if Region.wanted o (yielded ops a.tmps)=true then Oper.wp prog o a w K Q else E:=by
 have hw:Region.wanted o (yielded ops a.tmps)=true:=by simp [Region.wanted,hgd]
 rw [if_pos hw]
 have hrun:(storeVar ty ⟨g,off,none⟩ (.agg cells)).run prog w=.ok () (w.setRow g (putAt old off cells.toList)):=by
  have:=run_storeCells_at g off t cells.toList 0 old w hg (by simp;omega) (fun v hv=>(Array.all_eq_true_iff_forall_mem.1 h1) v (by simpa using hv))
  cases hq:prog.info? ty with
  | none=>simp [hq] at hi
  | some i =>
   have hs:cells.size=i.size:=by simp [hq] at hi;omega
   simp [storeVar,sizeOf,typeInfo,hq,Value.cells,hs,this]
 unfold Oper.wp execOp
 simp only [ho,hx,hy,Instr.storeAt,Instr.sureAddr,Sem.run_bind,Sem.run_pure,Result.andThen_ok,hrun]
 have:=h _ (zH rfl) (zH (setRow_heap w g old _ t _ hg))
 show K (a.put o.dst undef) _
 rw [hd]
 exact this
def KN (w:World) (e:Ending) (w':World):Prop := ∃ g,e=.returned (.slice (some ⟨g,0,none⟩) 2 2)∧w.heap.size≤g∧w'.heap[g]? = some (.cells #[.int .i64 (-1),.int .i64 (-1)] 3)∧Below w.heap.size w w'
theorem nF (b:Nat) (w:World) (h:w.cell? ⟨b,0,none⟩=some (.int .i64 (-1))):Calls prog 147 #[.slice (some ⟨b,0,none⟩) 1 1,.int .i64 2] w (KN w):=by
 have HM:=zH (fun w=>Tryz.bits_Mul 1 2 (by decide) (by decide) w)
 have hmk : ∀ w,(Instr.makeSlice 22 (.int .i64 2) (.int .i64 2)).run prog w=.ok (.slice (some ⟨w.heap.size,0,none⟩) 2 2) (w.alloc (.cells #[.int .i64 0,.int .i64 0] 3)):=fun _=>by kernel_rfl
 go_enter func147,ntmps147
 go_wp2_with fail
 refine (HM.out _).mono ?_
 rintro e w ⟨rfl,rfl⟩
 go_wp2_with (refine wpList_copy_splice rfl (.tmp 31) (.tmp 32) 22 22 rfl 3 underlying22 (by kernel_rfl) (some ⟨w.heap.size,0,none⟩) (some ⟨b,0,none⟩) 2 2 1 1 rfl rfl w.heap.size 0 [.int .i64 0,.int .i64 0] 3 ?c1 [.int .i64 (-1)] rfl ?c2 ?c3 ?c4 w.heap.size w ?c5 ?c6 ?_)
 case c1=>exact af w _
 case c2 =>
  intro j v hj
  obtain ⟨rfl,rfl⟩:=Gd hj
  rw [World.cell?_alloc_lt _ _ _ (zL w _ h)]
  exact h
 case c3=>decide
 case c4=>exact Ge
 case c5=>exact ae zR _
 case c6=>exact Nat.le_refl _
 intro w1 hid hb1
 have hr1:w1.heap[w.heap.size]? = some (.cells #[.int .i64 (-1),.int .i64 0] 3):=hid.out
 obtain ⟨nb,hnb⟩ : ∃ nb,w.heap.size=nb:=⟨_,rfl⟩
 rw [hnb] at hr1
 have HNB:=zH hnb
 have HB1:=zH hb1
 have HR1:=zH hr1
 have i1:(1:Int)≤2:=by decide
 clear hid hb1 hr1 hmk HM
 rw [hnb]
 go_wp2_with fail
 refine wp_loop_rounds 2 ?_
 rw [rounds_succ]
 go_wp2_with fail
 have HD1:w1.drew.heap[nb]? = some (.cells [Value.int .i64 (-1),.int .i64 0].toArray 3 (0,0)):=HR1.out
 have HD2:0<[Value.int .i64 (-1)].length→(some ⟨nb,1,none⟩:Option Addr)=some ⟨nb,1,none⟩ ∧ ∃ ad:Addr,(some ⟨nb,0,none⟩:Option Addr)=some ad ∧ ∀ j v,[Value.int .i64 (-1)][j]? = some v→w1.drew.cell? (ad.add j)=some v:=fun _=>⟨rfl,_,rfl,fun j v hj=>by
  obtain ⟨rfl,rfl⟩:=Gd hj
  rw [dh]
  exact cell_of HR1.out 0⟩
 have HD5:=au HB1.out
 have HH1:=zH HD1
 have HH2:=zH HD2
 have HH5:=zH HD5
 have HH6:=zH (Nat.le_of_eq HNB.out)
 have HH4:=zH Ge
 clear HD1 HD2 HD5
 go_region_law ((refine step_copy_splice rfl (.tmp 41) (.tmp 44) 22 22 rfl 3 underlying22 (by kernel_rfl) (some ⟨nb,1,none⟩) (some ⟨nb,0,none⟩) 1 1 1 2 (by kernel_rfl) (by kernel_rfl) nb 1 [.int .i64 (-1),.int .i64 0] 3 HH1.out [.int .i64 (-1)] rfl HH2.out (by decide) HH4.out w.heap.size w HH5.out HH6.out ?_;intro w2 hid2 hb2))
 all_goals
  have HX:=zH (zA (show w2.heap[nb]? = some (.cells #[.int .i64 (-1),.int .i64 (-1)] 3) from hid2.out) hb2)
  clear hid2 hb2
  go_wp2_with fail
  rw [rounds_succ]
  go_wp2
  go_ret
  exact ⟨nb,rfl,Nat.le_of_eq HNB.out,HX.out.1,HX.out.2⟩
structure Cache where
 a0:Int
 a1:Int
 t0:ByteArray
 t1:ByteArray
 next:Int
def Cache.new:Cache:=⟨-1,-1,ByteArray.empty,ByteArray.empty,0⟩
def vu (w:World) (v:Value) (q:Cache) (G:Nat→Prop):Prop :=
 ∃ ab ac tb tc:Nat,v=.agg #[.slice (some ⟨ab,0,none⟩) 2 ac,.slice (some ⟨tb,0,none⟩) 2 tc,.int .i64 q.next]∧2≤ac∧2≤tc∧w.cell? ⟨ab,0,none⟩=some (.int .i64 q.a0)∧w.cell? ⟨ab,1,none⟩=some (.int .i64 q.a1)∧w.cell? ⟨tb,0,none⟩=some (.string q.t0)∧w.cell? ⟨tb,1,none⟩=some (.string q.t1) ∧ ¬ G ab ∧ ¬ G tb
theorem vu.step {G G':Nat→Prop} {w w':World} {v:Value} {q:Cache} (h:vu w v q G) (st:Step G G' w w'):vu w' v q G':=by
 obtain ⟨ab,ac,tb,tc,e,l1,l2,h1,h2,h3,h4,n1,n2⟩:=h
 exact ⟨ab,ac,tb,tc,e,l1,l2,st.aH.cell _ _ h1 n1,st.aH.cell _ _ h2 n1,st.aH.cell _ _ h3 n2,st.aH.cell _ _ h4 n2,st.safe (zL w _ h1) n1,st.safe (zL w _ h3) n2⟩
def qX (w:World) (e:Ending) (w':World):Prop := ∃ v,e=.returned v∧vu w' v Cache.new (fun b=>b<w.heap.size)∧Below w.heap.size w w'
theorem l9 {w w2 w3:World} {g c:Nat} (hg:w.heap.size+1≤g) (hc:w.heap.size+1≤c) (hr:w2.heap[g]? = some (.cells #[.int .i64 (-1),.int .i64 (-1)] 3)) (ht:w2.heap[c]? = some (.cells #[.string ByteArray.empty,.string ByteArray.empty] 9)) (hb:Below w.heap.size w w2) (x:Array Value) (e:w3=w2.setRow w.heap.size x):qX w (.returned (.agg #[.slice (some ⟨g,0,none⟩) 2 2,.slice (some ⟨c,0,none⟩) 2 2,.int .i64 0])) w3:=by
 subst e
 have hg3:(w2.setRow w.heap.size x).heap[g]? = _:=(bj w2 w.heap.size x g (by omega)).trans hr
 have hc3:(w2.setRow w.heap.size x).heap[c]? = _:=(bj w2 w.heap.size x c (by omega)).trans ht
 exact ⟨_,rfl,⟨g,2,c,2,rfl,by omega,by omega,cell_of hg3 0,cell_of hg3 1,cell_of hc3 0,cell_of hc3 1,by omega,by omega⟩,dM hb _ _ zY⟩
theorem qb (w:World):Calls prog 104 #[] w (qX w):=by
 have hmk : ∀ w,(Instr.makeSlice 65 (.int .i64 2) (.int .i64 2)).run prog w=.ok (.slice (some ⟨w.heap.size,0,none⟩) 2 2) (w.alloc (.cells #[.string ByteArray.empty,.string ByteArray.empty] 9)):=fun _=>by kernel_rfl
 go_enter func104,ntmps104
 go_wp2_with fail
 refine wp_region_noPanic ?_
 refine wp_region_held_drew (S:=(fun _=>True)) (by kernel_rfl) (by (try dsimp only);first | done | exact trivial) fun hHeld => ?_
 refine wpAnyH_ready (rs:=[0,2]) (by kernel_rfl) (by simp) ?_
 refine (AllReadyH.cons (o:=⟨some 1,.buildSlice 22 1 #[(0,.const (.int .i64 (-1)))],22, "line.go:15",#[],none⟩) rfl (fun K hK => ?_) (AllReadyH.cons (o:=⟨some 3,.makeSlice 65 (.const (.int .i64 2)) (.const (.int .i64 2)),65, "line.go:15",#[],none⟩) rfl (fun K hK => ?_) AllReadyH.nil))
 ·
  skip
  go_simp
  refine hK.out _ _ (by (try dsimp only);first | done | exact trivial) fun hHeld => ?_
  clear hK K
  try simp only [Act.put,zS,zT,zU]
  refine wpAnyH_ready (rs:=[1,2]) (by kernel_rfl) (by simp) ?_
  refine (AllReadyH.cons (o:=⟨some 2,.call ⟨.value (.func 147),#[.tmp 1,.const (.int .i64 2)],#[22,3]⟩,22, "line.go:15",#[⟨0,.data⟩],none⟩) rfl (fun K hK => ?_) (AllReadyH.cons (o:=⟨some 3,.makeSlice 65 (.const (.int .i64 2)) (.const (.int .i64 2)),65, "line.go:15",#[],none⟩) rfl (fun K hK => ?_) AllReadyH.nil))
  ·
   skip
   go_simp
   go_at_call 147
   have hnb:((w.alloc (.cells #[.slice none 0 0,.slice none 0 0,.int .i64 0] 188)).alloc (.cells #[.int .i64 (-1)] 3)).heap[w.heap.size+1]? = some (.cells #[.int .i64 (-1)] 3):=by simpa using af (w.alloc (.cells #[.slice none 0 0,.slice none 0 0,.int .i64 0] 188)) (.cells #[.int .i64 (-1)] 3)
   refine (nF (w.heap.size+1) _ (cell_of (show ((w.alloc (.cells #[.slice none 0 0,.slice none 0 0,.int .i64 0] 188)).alloc (.cells #[.int .i64 (-1)] 3)).drew.heap[w.heap.size+1]? = _ from hnb) 0)).mono ?_
   rintro e w2 ⟨g,rfl,hg,hr,hb⟩
   have hb0:Below w.heap.size w w2:=gtr (au (ae (ae zR _) _)) hb
   have hz0:=aa (gtr (au (ae zR _)) hb) (af w (.cells #[.slice none 0 0,.slice none 0 0,.int .i64 0] 188))
   go_wp2_with fail
   refine hK.out _ _ (by (try dsimp only);first | done | exact trivial) fun hHeld => ?_
   clear hK K
   try simp only [Act.put,zS,zT,zU]
   refine tr 2 fun K hK => ?_
   go_simp
   refine hK.out _ _ (by (try dsimp only);first | done | exact trivial) fun hHeld => ?_
   clear hK K
   try simp only [Act.put,zS,zT,zU]
   refine tk 3 ?_
   refine tr 4 fun K hK => ?_
   have hz1:=aa (au (ae zR (.cells #[.string ByteArray.empty,.string ByteArray.empty] 9))) hz0
   have hb1:=ae hb0 (.cells #[.string ByteArray.empty,.string ByteArray.empty] 9)
   refine fc rfl 188 (.tmp 0) (.tmp 4) rfl rfl w.heap.size 0 #[.slice (some ⟨g,0,none⟩) 2 2,.slice (some ⟨w2.heap.size,0,none⟩) 2 2,.int .i64 0] (by kernel_rfl) (by kernel_rfl) 188 #[.slice none 0 0,.slice none 0 0,.int .i64 0] hz1 rfl (Nat.le_of_ble_eq_true rfl) (by kernel_rfl) (fun w3 hw3 hz3 => ?_)
   refine hK.out _ _ (by (try dsimp only);first | done | exact trivial) fun hHeld => ?_
   clear hK K
   try simp only [Act.put,zS,zT,zU]
   refine wpAnyH_done (by kernel_rfl) ?_ _
   refine NoPanic.normal ?_
   have hrr:=aa (ae zR (.cells #[.string ByteArray.empty,.string ByteArray.empty] 9)) hr
   have hgl:w.heap.size+1≤g:=by simp at hg;omega
   have htt:(w2.alloc (.cells #[.string ByteArray.empty,.string ByteArray.empty] 9)).heap[w2.heap.size]? = some (.cells #[.string ByteArray.empty,.string ByteArray.empty] 9):=by simpa using (af w2 _)
   have hz4:w3.heap[w.heap.size]? = some (.cells #[.slice (some ⟨g,0,none⟩) 2 2,.slice (some ⟨w2.heap.size,0,none⟩) 2 2,.int .i64 0] 188):=hz3.out
   go_wp2
   refine bodyPost_ret_by (results_cell_row rfl _ _ w.heap.size 188 _ (0,0) _ rfl hz4 underlying188 rfl rfl) rfl ?_
   exact l9 hgl (by have:=hb0.size;have:=(Array.getElem?_eq_some_iff.1 hz0).1;omega) hrr htt (ae hb0 _) _ hw3.out
  ·
   skip
   go_simp
   refine hK.out _ _ (by (try dsimp only);first | done | exact trivial) fun hHeld => ?_
   clear hK K
   try simp only [Act.put,zS,zT,zU]
   refine tr 1 fun K hK => ?_
   go_simp
   go_at_call 147
   have hnb:(((w.alloc (.cells #[.slice none 0 0,.slice none 0 0,.int .i64 0] 188)).alloc (.cells #[.int .i64 (-1)] 3)).alloc (.cells #[.string ByteArray.empty,.string ByteArray.empty] 9)).heap[w.heap.size+1]? = some (.cells #[.int .i64 (-1)] 3):=by simpa using (aa (ae zR (.cells #[.string ByteArray.empty,.string ByteArray.empty] 9)) (af (w.alloc (.cells #[.slice none 0 0,.slice none 0 0,.int .i64 0] 188)) (.cells #[.int .i64 (-1)] 3)))
   refine (nF (w.heap.size+1) _ (cell_of (show (((w.alloc (.cells #[.slice none 0 0,.slice none 0 0,.int .i64 0] 188)).alloc (.cells #[.int .i64 (-1)] 3)).alloc (.cells #[.string ByteArray.empty,.string ByteArray.empty] 9)).drew.heap[w.heap.size+1]? = _ from hnb) 0)).mono ?_
   rintro e w2 ⟨g,rfl,hg,hr,hb⟩
   have hb0:Below w.heap.size w w2:=gtr (au (ae (ae (ae zR _) _) _)) hb
   have hz0:=aa (gtr (au (ae (ae zR _) _)) hb) (af w (.cells #[.slice none 0 0,.slice none 0 0,.int .i64 0] 188))
   go_wp2_with fail
   refine hK.out _ _ (by (try dsimp only);first | done | exact trivial) fun hHeld => ?_
   clear hK K
   try simp only [Act.put,zS,zT,zU]
   refine tk 3 ?_
   refine tr 4 fun K hK => ?_
   refine fc rfl 188 (.tmp 0) (.tmp 4) rfl rfl w.heap.size 0 #[.slice (some ⟨g,0,none⟩) 2 2,.slice (some ⟨w.heap.size+2,0,none⟩) 2 2,.int .i64 0] (by kernel_rfl) (by kernel_rfl) 188 #[.slice none 0 0,.slice none 0 0,.int .i64 0] hz0 rfl (Nat.le_of_ble_eq_true rfl) (by kernel_rfl) (fun w3 hw3 hz3 => ?_)
   refine hK.out _ _ (by (try dsimp only);first | done | exact trivial) fun hHeld => ?_
   clear hK K
   try simp only [Act.put,zS,zT,zU]
   refine wpAnyH_done (by kernel_rfl) ?_ _
   refine NoPanic.normal ?_
   have hrr:=hr
   have hgl:w.heap.size+1≤g:=by simp at hg;omega
   have htt:w2.heap[w.heap.size+1+1]? = some (.cells #[.string ByteArray.empty,.string ByteArray.empty] 9):=by simpa using (aa hb (af ((w.alloc (.cells #[.slice none 0 0,.slice none 0 0,.int .i64 0] 188)).alloc (.cells #[.int .i64 (-1)] 3)) (.cells #[.string ByteArray.empty,.string ByteArray.empty] 9)))
   have hz4:w3.heap[w.heap.size]? = some (.cells #[.slice (some ⟨g,0,none⟩) 2 2,.slice (some ⟨w.heap.size+1+1,0,none⟩) 2 2,.int .i64 0] 188):=hz3.out
   go_wp2
   refine bodyPost_ret_by (results_cell_row rfl _ _ w.heap.size 188 _ (0,0) _ rfl hz4 underlying188 rfl rfl) rfl ?_
   exact l9 hgl (by omega) hrr htt (hb0) _ hw3.out
 ·
  skip
  go_simp
  refine hK.out _ _ (by (try dsimp only);first | done | exact trivial) fun hHeld => ?_
  clear hK K
  try simp only [Act.put,zS,zT,zU]
  refine tr 0 fun K hK => ?_
  go_simp
  refine hK.out _ _ (by (try dsimp only);first | done | exact trivial) fun hHeld => ?_
  clear hK K
  try simp only [Act.put,zS,zT,zU]
  refine tr 1 fun K hK => ?_
  go_simp
  go_at_call 147
  have hnb:(((w.alloc (.cells #[.slice none 0 0,.slice none 0 0,.int .i64 0] 188)).alloc (.cells #[.string ByteArray.empty,.string ByteArray.empty] 9)).alloc (.cells #[.int .i64 (-1)] 3)).heap[w.heap.size+2]? = some (.cells #[.int .i64 (-1)] 3):=by simpa using af ((w.alloc (.cells #[.slice none 0 0,.slice none 0 0,.int .i64 0] 188)).alloc (.cells #[.string ByteArray.empty,.string ByteArray.empty] 9)) (.cells #[.int .i64 (-1)] 3)
  refine (nF (w.heap.size+2) _ (cell_of (show (((w.alloc (.cells #[.slice none 0 0,.slice none 0 0,.int .i64 0] 188)).alloc (.cells #[.string ByteArray.empty,.string ByteArray.empty] 9)).alloc (.cells #[.int .i64 (-1)] 3)).drew.heap[w.heap.size+2]? = _ from hnb) 0)).mono ?_
  rintro e w2 ⟨g,rfl,hg,hr,hb⟩
  have hb0:Below w.heap.size w w2:=gtr (au (ae (ae (ae zR _) _) _)) hb
  have hz0:=aa (gtr (au (ae (ae zR _) _)) hb) (af w (.cells #[.slice none 0 0,.slice none 0 0,.int .i64 0] 188))
  go_wp2_with fail
  refine hK.out _ _ (by (try dsimp only);first | done | exact trivial) fun hHeld => ?_
  clear hK K
  try simp only [Act.put,zS,zT,zU]
  refine tk 3 ?_
  refine tr 4 fun K hK => ?_
  refine fc rfl 188 (.tmp 0) (.tmp 4) rfl rfl w.heap.size 0 #[.slice (some ⟨g,0,none⟩) 2 2,.slice (some ⟨w.heap.size+1,0,none⟩) 2 2,.int .i64 0] (by kernel_rfl) (by kernel_rfl) 188 #[.slice none 0 0,.slice none 0 0,.int .i64 0] hz0 rfl (Nat.le_of_ble_eq_true rfl) (by kernel_rfl) (fun w3 hw3 hz3 => ?_)
  refine hK.out _ _ (by (try dsimp only);first | done | exact trivial) fun hHeld => ?_
  clear hK K
  try simp only [Act.put,zS,zT,zU]
  refine wpAnyH_done (by kernel_rfl) ?_ _
  refine NoPanic.normal ?_
  have hrr:=hr
  have hgl:w.heap.size+1≤g:=by simp at hg;omega
  have htt:w2.heap[w.heap.size+1]? = some (.cells #[.string ByteArray.empty,.string ByteArray.empty] 9):=by simpa using (aa (gtr (au (ae zR _)) hb) (af (w.alloc (.cells #[.slice none 0 0,.slice none 0 0,.int .i64 0] 188)) (.cells #[.string ByteArray.empty,.string ByteArray.empty] 9)))
  have hz4:w3.heap[w.heap.size]? = some (.cells #[.slice (some ⟨g,0,none⟩) 2 2,.slice (some ⟨w.heap.size+1,0,none⟩) 2 2,.int .i64 0] 188):=hz3.out
  go_wp2
  refine bodyPost_ret_by (results_cell_row rfl _ _ w.heap.size 188 _ (0,0) _ rfl hz4 underlying188 rfl rfl) rfl ?_
  exact l9 hgl (by omega) hrr htt (hb0) _ hw3.out
section
open Go.RowKit
variable {X:Nat→Prop}
theorem Li (L:Int) (d:aI) (h:(aI.get L d).1=true):(aI.get L d).2.out.length=d.out.length+1:=by
 have ho:=xh L (many L).toNat [] d
 unfold aI.get aI.cM at h ⊢
 split
 ·
  show ((aI.il L (many L).toNat [] d).2.2.out++[_]).length=_
  rw [ho];simp
 ·
  rename_i hh;rw [if_neg hh] at h;cases h
theorem Cn (L:Int) : ∀ (k:Nat) (d:aI),(aI.fW L k d).1=true→(aI.fW L k d).2.out.length=d.out.length+k
 | 0,d,h=>rfl
 | k+1,d,h=>by
  unfold aI.fW at h ⊢
  split
  ·
   rename_i hg
   rw [if_pos hg] at h
   rw [Cn L k _ h,Li L d hg];omega
  ·
   rename_i hg;rw [if_neg hg] at h;cases h
theorem Ih (p:Ph) (d:aI) (h:(aI.phase p d).1=true):(aI.phase p d).2.out.length=d.out.length+p.read.toNat:=by
 have h1:=xF p.bW p.bytes d
 unfold aI.phase andThen at h ⊢
 dsimp only at h ⊢
 split
 ·
  rename_i hg
  rw [if_pos hg] at h
  have h2:=vK (List.replicate p.eN.toNat 15) (aI.dB p.bW p.bytes d).2
  split
  ·
   rename_i hg2
   rw [if_pos hg2] at h
   rw [Cn _ _ _ h,h2,h1]
  ·
   rename_i hg2;rw [if_neg hg2] at h;cases h
 ·
  rename_i hg;rw [if_neg hg] at h;cases h
def reads (ps:List Ph):Nat:=(ps.map fun p=>p.read.toNat).sum
theorem xz : ∀ (ps:List Ph) (d:aI),(aI.eQ ps d).1=true→(aI.eQ ps d).2.out.length=d.out.length+reads ps
 | [],d,h=>rfl
 | p::r,d,h=>by
  unfold aI.eQ andThen at h ⊢
  split
  ·
   rename_i hg
   rw [if_pos hg] at h
   rw [xz r _ h,Ih p d hg]
   simp [reads];omega
  ·
   rename_i hg;rw [if_neg hg] at h;cases h
theorem GU (r:gD) (at_:Int) (xs:List Int) (read:Int) (h0:0≤read):reads (aQ r at_ xs read)=read.toNat∧reads ((aQ r at_ xs read).drop 1)=read.toNat:=by
 unfold aQ reads
 constructor
 ·
  split <;> split <;> split <;> split <;> split <;> simp <;> omega
 ·
  split <;> split <;> split <;> split <;> split <;> simp <;> omega
theorem AW (m:aG) (b:Int) (xs:List Int) (ps:List Ph) (h:(m.fin b xs ps).2.2=0):(m.fin b xs ps).2.1.length=reads ps:=by
 unfold aG.fin at h ⊢
 split
 ·
  rename_i he
  show (m.gm ps).length=_
  unfold aG.iP at he
  unfold aG.gm
  split
  ·
   rename_i hr
   have:=xz ps (aI.new m.ar m.left) hr
   exact this.trans (by show 0+reads ps=_;omega)
  ·
   rename_i hr;rw [if_neg hr] at he;cases he
 ·
  rename_i he;rw [if_neg he] at h;cases h
theorem nH {m:aG} {b at_:Int} {xs:List Int} {read:Int} (h0:0≤read) (h:(m.run b at_ xs read).2.2=0):(m.run b at_ xs read).2.1.length=read.toNat:=by
 obtain ⟨e1,e2⟩:=GU (ak b) at_ xs read h0
 unfold aG.run at h ⊢
 split
 ·
  rename_i hl;rw [if_pos hl] at h;cases h
 ·
  rename_i hl
  rw [if_neg hl] at h
  split
  ·
   rename_i hq
   rw [if_pos hq] at h
   exact (AW _ _ _ _ h).trans e2
  ·
   rename_i hq
   rw [if_neg hq] at h
   split
   ·
    rename_i hg
    rw [if_pos hg] at h
    split
    ·
     rename_i he
     rw [if_pos he] at h
     exact (AW _ _ _ _ h).trans e1
    ·
     rename_i he
     rw [if_neg he] at h;cases h
   ·
    rename_i hg
    rw [if_neg hg] at h
    exact (AW _ _ _ _ h).trans e1
theorem AV (m:aG) (b:Int) (xs:List Int) (ps:List Ph):(m.fin b xs ps).2.2=0∨((m.fin b xs ps).2.2=1101∧(m.fin b xs ps).2.1=[]):=by
 unfold aG.fin
 split
 ·
  exact .inl rfl
 ·
  exact .inr ⟨rfl,rfl⟩
theorem lS (m:aG) (b at_:Int) (xs:List Int) (read:Int):(m.run b at_ xs read).2.2=0∨((m.run b at_ xs read).2.2=1101∧(m.run b at_ xs read).2.1=[]):=by
 unfold aG.run
 split
 ·
  exact .inr ⟨rfl,rfl⟩
 split
 ·
  exact AV _ _ _ _
 split
 ·
  split
  ·
   exact AV _ _ _ _
  ·
   exact .inr ⟨rfl,rfl⟩
 ·
  exact AV _ _ _ _
theorem nA (w:World) (G:Nat→Prop):aL w none [] G:=⟨aP.nil _ _,fun _ _ e=>by cases e⟩
theorem yC:gX 5 0 [] 1:=⟨by decide,by decide,by decide,fun _=>rfl,by decide,by decide,by decide,by decide,by decide⟩
def aG.di (m:aG):aG×Bool×Int:=((m.run 5 0 [] 1).1,decide ((m.run 5 0 [] 1).2.2=0)&&((m.run 5 0 [] 1).2.1.headD 0 % 2 != 0),(m.run 5 0 [] 1).2.2)
def IS (X:Nat→Prop) (y:Bool) (er:Int) (k c:Nat) (m:aG) (G:Nat→Prop) (w:World) (e:Ending) (w':World):Prop:=e=.returned (.tuple #[.bool y,.int .i64 er]) ∧ ∃ G',bO X w' k c m G'∧Step G G' w w'
theorem wv (k c:Nat) (m:aG) (G:Nat→Prop) (w:World) (h:bO X w k c m G) (ok:m.Ok):Calls prog 167 #[.pointer (some ⟨k,0,none⟩)] w (IS X m.di.2.1 m.di.2.2 k c m.di.1 G w):=by
 have HR:=zH (fj k c m G 5 0 none [] 0 1 w h ok yC (nA w G) (fun _=>rfl) (by simp))
 have HL:=zH (fun h=>nH (m:=m) (b:=5) (at_:=0) (xs:=[]) (read:=1) (by decide) h)
 have HE:=zH (lS m 5 0 [] 1)
 have HB:=zH (show m.di=((m.run 5 0 [] 1).1,decide ((m.run 5 0 [] 1).2.2=0)&&((m.run 5 0 [] 1).2.1.headD 0 % 2 != 0),(m.run 5 0 [] 1).2.2) from rfl)
 clear h ok
 generalize m.di=br at *
 generalize m.run 5 0 [] 1=r at *
 obtain ⟨m',xs,er⟩:=r
 simp only at HR HL HE HB
 simp only [List.length_nil] at HR
 rcases HE.out with he | ⟨he,hx⟩
 ·
  subst he
  have hl:xs.length=1:=HL.out (by trivial)
  obtain ⟨x,rfl⟩ : ∃ x,xs=[x]:=List.length_eq_one_iff.1 hl
  have ha:bits .and .i64 x 1=x % 2:=GG x
  clear hl
  go_enter func167,ntmps167
  go_wp2_with fail
  refine HR.out.mono ?_
  rintro e w1 ⟨a,cp,G1,rfl,hc,hs,st⟩
  obtain ⟨b,o,rfl,hcell⟩:=hs.1 0 (by simp)
  rw [Nat.add_zero] at hcell
  have hcell:w1.cell? ⟨b,o,none⟩=some (.int .i64 x):=hcell
  have H1:=zH (zA hc st)
  have i0:(0:Int)<1:=by decide
  clear hc hs st
  simp only [List.length_singleton]
  go_wp2
  go_ret2
  rw [HB.out]
  exact ⟨by simp,G1,H1.out⟩
 ·
  subst he
  subst hx
  go_enter func167,ntmps167
  go_wp2_with fail
  refine HR.out.mono ?_
  rintro e w1 ⟨a,cp,G1,rfl,hc,hs,st⟩
  have H1:=zH (zA hc st)
  clear hc hs st
  go_wp2
  go_ret2
  rw [HB.out]
  exact ⟨by simp,G1,H1.out⟩
theorem mC {m:aG} (ok:m.Ok):m.di.1.Ok:=eu ok 5 0 [] 1 yC
def aG.gR:Nat→Int→aG→aG×Int×Int
 | 0,n,m=>(m,0,1400)
 | k+1,n,m=>if m.di.2.2≠0 then (m.di.1,0,m.di.2.2) else if m.di.2.1=false then (m.di.1,n,0) else aG.gR k (n+1) m.di.1
def I5 (X:Nat→Prop) (y:Int) (er:Int) (k c:Nat) (m:aG) (G:Nat→Prop) (w:World) (e:Ending) (w':World):Prop:=e=.returned (.tuple #[.int .i64 y,.int .i64 er]) ∧ ∃ G',bO X w' k c m G'∧Step G G' w w'
theorem DH : ∀ (k:Nat) (n:Int) (m:aG),m.Ok→(aG.gR k n m).1.Ok
 | 0,n,m,ok=>ok
 | k+1,n,m,ok=>by
  unfold aG.gR
  split
  ·
   exact mC ok
  ·
   split
   ·
    exact mC ok
   ·
    exact DH k _ _ (mC ok)
theorem Fo (k c:Nat) (m:aG) (G:Nat→Prop) (N:Nat) (w:World) (h:bO X w k c m G) (ok:m.Ok) (hN:N≤1000000):Calls prog 193 #[.pointer (some ⟨k,0,none⟩),.int .i64 N] w (I5 X (aG.gR N 1 m).2.1 (aG.gR N 1 m).2.2 k c (aG.gR N 1 m).1 G w):=by
 have H0:=zH (zA h ok)
 obtain ⟨rr,hrr⟩ : ∃ rr,rr=aG.gR N 1 m:=⟨_,rfl⟩
 rw [← hrr]
 have HV:=zH hrr
 clear h ok hrr
 go_enter func193,ntmps193
 go_wp2
 go_loopw [6] (fun i wr => ∃ (j:Nat) (mj:aG) (Gj:Nat→Prop),j≤N∧i=.int .i64 ((j:Int)+1)∧bO X wr k c mj Gj∧mj.Ok∧Step G Gj w wr∧rr=aG.gR (N - j) ((j:Int)+1) mj) (fun i _=>N+1 - (intOf i).toNat)
 case atStart=>exact ⟨0,m,G,Nat.zero_le _,rfl,H0.out.1,H0.out.2,Step.refl _ _,HV.out⟩
 case round =>
  obtain ⟨j,mj,Gj,hj,rfl,hC,hok,hst,hr⟩:=hrel
  by_cases hlt:j<N
  ·
   have g1:(j:Int)+1≤(N:Int):=by omega
   have HB:=zH (wv k c mj Gj _ hC hok)
   have HBO:=zH (mC hok)
   rw [show N - j=(N - (j+1))+1 by omega] at hr
   have HR:=zH (show rr=if mj.di.2.2≠0 then (mj.di.1,0,mj.di.2.2) else if mj.di.2.1=false then (mj.di.1,(j:Int)+1,0) else aG.gR (N - (j+1)) ((j:Int)+1+1) mj.di.1 from hr)
   have HST:=zH hst
   clear hC hok hst hr
   generalize mj.di=br at *
   obtain ⟨mn,y,er⟩:=br
   simp only at HB HBO HR
   by_cases he:er=0
   ·
    subst he
    cases y with
    | false =>
     go_wp2_with fail
     refine HB.out.mono ?_
     rintro e w2 ⟨rfl,G2,hc2,st2⟩
     have H2:=zH (zA hc2 (HST.out.trans st2))
     clear hc2 st2
     go_wp2
     go_ret2
     rw [show rr=(mn,(j:Int)+1,0) from HR.out]
     exact ⟨rfl,G2,H2.out⟩
    | true =>
     go_wp2_with fail
     refine HB.out.mono ?_
     rintro e w2 ⟨rfl,G2,hc2,st2⟩
     have H2:=zH (zA hc2 (HST.out.trans st2))
     clear hc2 st2
     go_wp2
     go_roundw
     case rel=>exact ⟨j+1,mn,G2,by omega,by go_num,H2.out.1,HBO.out,H2.out.2,HR.out.trans (by simp)⟩
     case measure=>simp [intOf];omega
   ·
    have he':(er != 0)=true:=bne_iff_ne.2 he
    have HE:=zH he
    clear he
    go_wp2_with fail
    refine HB.out.mono ?_
    rintro e w2 ⟨rfl,G2,hc2,st2⟩
    have H2:=zH (zA hc2 (HST.out.trans st2))
    clear hc2 st2
    go_wp2
    go_ret2
    rw [show rr=(mn,0,er) from HR.out.trans (if_pos HE.out)]
    exact ⟨rfl,G2,H2.out⟩
  ·
   obtain rfl:N=j:=by omega
   rw [Nat.sub_self] at hr
   have H2:=zH (zA hC hst)
   have HR:=zH (show rr=(mj,0,1400) from hr)
   clear hC hok hst hr
   go_wp2
   go_ret2
   rw [HR.out]
   exact ⟨rfl,Gj,H2.out⟩
end
def byteOf (x:Int):UInt8:=UInt8.ofNat (x % 256).toNat
def bytesOf (xs:List Int):List UInt8:=xs.map byteOf
def eH (xs:List Int):ByteArray:=⟨(bytesOf xs).toArray⟩
theorem fe (xs:List Int):(eH xs).size=xs.length:=by simp [eH,bytesOf,ByteArray.size]
theorem CN (z:Value) (n j:Nat) (h:j<n):(madeCells #[z] n)[j]? = some z:=by simp [madeCells,h,Nat.mod_one]
theorem mF:(prog.info? 5).map (fun i=>(i.zero,i.size,i.bytes))=some (some (.int .u8 0),1,1):=by kernel_rfl
structure fI (w wr:World) (nb n k:Nat) (xs:List Int):Prop where
 below:Below w.heap.size w wr
 cell : ∀ j,j<n → ∃ x:Int,wr.cell? ⟨nb,j,none⟩=some (.int .u8 x)∧(j<k→x=((byteOf (xs.getD j 0)).toNat:Int))
 free : ∀ j,wr.frozen? ⟨nb,j,none⟩=false
theorem fI.start {w:World} (n:Nat) (xs:List Int):fI w (w.alloc (.cells (madeCells #[.int .u8 0] n) 5)) w.heap.size n 0 xs :=
 ⟨ae zR _,fun j hj=>⟨0,(cell_of (af w _) j).trans (CN _ _ _ hj),fun h=>by omega⟩,fun j=>aF (af w _) j⟩
theorem fI.next {w wr:World} {nb n k:Nat} {xs:List Int} (h:fI w wr nb n k xs) (hnb:w.heap.size≤nb) (hk:k<n):fI w (wr.setCell ⟨nb,k,none⟩ (.int .u8 ((byteOf (xs.getD k 0)).toNat:Int))) nb n (k+1) xs:=by
 refine ⟨lg h.below hnb _,fun j hj => ?_,fun j=>(World.frozen?_setCell _ _ _ _).trans (h.free j)⟩
 by_cases hjk:j=k
 ·
  subst hjk
  obtain ⟨x,hx,_⟩:=h.cell j hj
  exact ⟨_,World.cell?_setCell_same wr _ _ hx,fun _=>rfl⟩
 ·
  obtain ⟨x,hx,hx2⟩:=h.cell j hj
  exact ⟨x,(World.cell?_setCell_other _ _ _ _ (by intro e;exact hjk (congrArg Addr.off e).symm)).trans hx,fun hl=>hx2 (by omega)⟩
theorem fI.done {w wr:World} {nb:Nat} {xs:List Int} (h:fI w wr nb xs.length xs.length xs):(convert 29 9 (.slice (some ⟨nb,0,none⟩) xs.length xs.length)).run prog wr=.ok (.string (eH xs)) wr:=by
 have:=run_convert_bytes_back (P:=prog) wr 29 9 5 ⟨nb,0,none⟩ xs.length (bytesOf xs) underlying29 underlying5 underlying9 (fun j hj=>by
  have hj':j<xs.length:=by simpa [bytesOf] using hj
  obtain ⟨x,hx,hx2⟩:=h.cell j hj'
  rw [dh,Nat.zero_add,hx,hx2 hj']
  simp [bytesOf,List.getD,List.getElem?_eq_getElem hj'])
 rw [show (bytesOf xs).length=xs.length by simp [bytesOf]] at this
 exact this
theorem oB (x:Int):((byteOf x).toNat:Int)=x % 256:=Gp x
theorem Fk (a:Option Addr) (c:Nat) (xs:List Int) (w:World) (h:aP w a xs) (hl:xs.length≤100000):Calls prog 164 #[.slice a xs.length c] w (jj (eH xs) w):=by
 have hmk:=fun w=>run_make_row' (P:=prog) 29 5 (.int .u8 0) 1 underlying29 mF rfl .i64 .i64 xs.length (by omega) (by omega) w
 have H:=zH h
 clear h
 go_enter func164,ntmps164
 go_wp2_with fail
 have hs:=fI.start (w:=w) xs.length xs
 have HS:=zH hs
 generalize hW:w.alloc (.cells (madeCells #[.int .u8 0] xs.length) 5)=w2 at *
 clear hmk hs hW
 go_loopw [11] (fun i wr => ∃ k:Nat,i=.int .i64 k∧k≤xs.length∧fI w wr w.heap.size xs.length k xs) (fun i _=>xs.length - (intOf i).toNat)
 case atStart=>exact ⟨0,rfl,Nat.zero_le _,HS.out⟩
 case round =>
  obtain ⟨k,rfl,hk,hB⟩:=hrel
  by_cases hlt:k<xs.length
  ·
   obtain ⟨b,o,rfl,hc⟩:=(H.out.aj hB.below) k hlt
   obtain ⟨y,hy,_⟩:=hB.cell k hlt
   have hf:=hB.free k
   have hconv:=oB (xs.getD k 0)
   have HN:=zH (hB.next zY hlt)
   rw [hconv] at HN
   clear hB hconv
   generalize hx:xs.getD k 0=x at *
   clear hx
   go_wp2
   go_roundw
   case rel=>exact ⟨k+1,by go_num,by omega,HN.out⟩
   case measure=>simp [intOf];omega
  ·
   obtain rfl:k=xs.length:=by omega
   have hback:=hB.done
   have HB:=zH hB.below
   clear hB
   go_wp2
   go_ret
   exact ⟨rfl,HB.out⟩
end Go.Proofs.YtcfdenckiigdaaaGreat

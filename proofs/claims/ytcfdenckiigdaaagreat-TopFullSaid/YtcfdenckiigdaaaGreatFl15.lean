/- Part 15 of the contracts. -/
import Derived.Test.YtcfdenckiigdaaaGreatFl14
set_option linter.unusedVariables false
set_option maxRecDepth 100000
set_option maxHeartbeats 4000000
namespace Go.Proofs.YtcfdenckiigdaaaGreat
open Tryz
section
open Go.RowKit
variable {X:Nat→Prop}
theorem zC {b:Int} (h:gH b=0):b ∈ gY:=by
 by_cases hb:b ∈ gY
 ·
  exact hb
 ·
  unfold gH at h;rw [nH b (fun k hk e=>hb (by rw [e];exact hk))] at h;simp at h
theorem qF {b:Int} (h:gH b=0):(ak b).byte=b:=by
 have:=zC h
 simp only [gY,List.mem_cons,List.not_mem_nil,or_false] at this
 rcases this with rfl | rfl | rfl | rfl | rfl | rfl | rfl | rfl | rfl | rfl | rfl | rfl | rfl | rfl <;> rfl
theorem AV {b:Int} (h:gH b=0):0≤b∧b<256:=by
 have:=zC h
 simp only [gY,List.mem_cons,List.not_mem_nil,or_false] at this
 rcases this with rfl | rfl | rfl | rfl | rfl | rfl | rfl | rfl | rfl | rfl | rfl | rfl | rfl | rfl <;> decide
structure gX (b at_:Int) (xs:List Int) (read:Int):Prop where
 err:gH b=0
 lo:0≤at_
 hi:at_<4096
 Ez:(ak b).addr=0→at_=0
 len:xs.length≤512
 bytes:xs.all isByte=true
 M3:0≤read
 M1:read≤512
 fits:kv (ak b) xs.length read=true
theorem gX.cmd {b at_:Int} {xs:List Int} {read:Int} (h:gX b at_ xs read):LN (ak b) at_ xs read :=
 ⟨by rw [qF h.err];exact h.err,by rw [qF h.err],h.lo,h.hi,h.Ez,h.len,h.bytes,h.M3,h.M1,h.fits⟩
theorem mB {ps:List Ph} (h : ∀ p ∈ ps,mW p) : ∀ i,i<ps.length→mW (ps.getD i Ph.none):=fun i hi=>by
 rw [show ps.getD i Ph.none=ps[i] by simp [List.getD,List.getElem?_eq_getElem hi]]
 exact h _ (List.getElem_mem hi)
theorem oL {b at_:Int} {xs:List Int} {read:Int} (h:gX b at_ xs read) : ∀ p ∈ aQ (ak b) at_ xs read,mW p:=by
 obtain ⟨o1,o2,o3,o4⟩:=rM b
 obtain ⟨d0,d1⟩:=oW b
 have hbr:=AV h.err
 have hby:=qF h.err
 have a0:=h.lo
 have a1:=h.hi
 have r0:=h.M3
 have r1:=h.M1
 have hl:=h.len
 have hxs:=h.bytes
 have hf:=h.fits
 unfold kv at hf
 intro p hp
 unfold aQ at hp
 simp only [List.mem_append,List.mem_singleton] at hp
 rcases hp with ((((hp | hp) | hp) | hp) | hp) | hp
 ·
  subst hp
  exact .inl ⟨.inl rfl,by simp,by simp,by simp [isByte,hby];omega,rfl,rfl⟩
 ·
  split at hp
  ·
   obtain rfl:p=_:=by simpa using hp
   refine .inl ⟨?_,by simp,by simp,?_,rfl,rfl⟩
   ·
    show (ak b).addr=1∨(ak b).addr=4;omega
   ·
    simp [isByte];omega
  ·
   simp at hp
 ·
  split at hp
  ·
   rename_i hm
   obtain rfl:p=_:=by simpa using hp
   obtain ⟨m1,m2⟩:=o3 hm
   have hin:(ak b).jB=false:=by
    cases hi:(ak b).jB with
    | false=>rfl
    | true=>have:=o4 hi;omega
   rw [if_neg (by omega),hin,hm] at hf
   have hlen:(xs.length:Int)=1:=by simpa using hf
   exact .inl ⟨.inr m1,by show 1≤xs.length;omega,by show xs.length≤512;omega,hxs,rfl,rfl⟩
  ·
   simp at hp
 ·
  split at hp
  ·
   obtain rfl:p=_:=by simpa using hp
   exact .inr (.inr ⟨rfl,rfl,rfl,by show 1≤(ak b).dummy;omega,by show (ak b).dummy≤400;omega⟩)
  ·
   simp at hp
 ·
  split at hp
  ·
   rename_i hm
   obtain rfl:p=_:=by simpa using hp
   have:=o4 hm.1
   exact .inl ⟨.inl this,by show 1≤xs.length;omega,hl,hxs,rfl,rfl⟩
  ·
   simp at hp
 ·
  split at hp
  ·
   obtain rfl:p=_:=by simpa using hp
   have hd:(ak b).data≠0:=fun e=>by
    rw [if_pos e] at hf
    simp at hf;omega
   refine .inr (.inl ⟨?_,rfl,by show 1≤read;omega,r1,rfl⟩)
   show (ak b).data=1∨(ak b).data=4;omega
  ·
   simp at hp
theorem rj (r:gF) (at_:Int) (xs:List Int) (read:Int):1≤(aQ r at_ xs read).length∧(aQ r at_ xs read).length≤6:=by
 unfold aQ
 simp only [List.length_append,List.length_singleton]
 refine ⟨by omega,?_⟩
 split <;> split <;> split <;> split <;> split <;> simp
theorem BW {at_:Int} {xs:List Int} {read:Int}:4≤(aQ (ak 235) at_ xs read).length:=by
 have e:ak 235=⟨235,4,true,4,4,false⟩:=rfl
 unfold aQ
 rw [e]
 simp
theorem Hy {at_:Int} {xs:List Int} {read:Int} (h:gX 235 at_ xs read):xs.length=1:=by
 have:=h.fits
 unfold kv at this
 have e:ak 235=⟨235,4,true,4,4,false⟩:=rfl
 rw [e] at this
 have:(xs.length:Int)=1:=by simpa using this
 omega
def aG.fin (m:aG) (b:Int) (xs:List Int) (ps:List Ph):aG×List Int×Int :=
 if m.iR ps=0 then ({ m.cN ps with aD:=decide (b=235)&&decide (xs.headD 0=160) },m.gq ps,0) else (m.cN ps,[],1101)
def aG.run (m:aG) (b at_:Int) (xs:List Int) (read:Int):aG×List Int×Int :=
 if m.lost=true then (m,[],1101)
 else if m.aD=true∧b=235 then m.fin b xs ((aQ (ak b) at_ xs read).drop 1)
 else if m.aD=true then (if m.iR [bX]=0 then { m.cN [bX] with aD:=false }.fin b xs (aQ (ak b) at_ xs read) else (m.cN [bX],[],1101))
 else m.fin b xs (aQ (ak b) at_ xs read)
theorem B3 (m:aG) (ps:List Ph):m.iR ps=0∨(m.iR ps=1101∧m.gq ps=[]):=by
 unfold aG.iR aG.gq
 split
 ·
  exact .inl rfl
 ·
  exact .inr ⟨rfl,rfl⟩
theorem xd : ∀ i,i<[bX].length→mW ([bX].getD i Ph.none):=by
 refine mB fun p hp => ?_
 obtain rfl:p=bX:=by simpa using hp
 exact .inl ⟨.inr rfl,by decide,by decide,by decide,rfl,rfl⟩
theorem eB.drop1 {G:Nat→Prop} {w:World} {b o:Nat} {ps:List Ph} (h:eB w b o ps G):eB w b (o+4) (ps.drop 1) G:=by
 cases ps with
 | nil=>exact ⟨fun hp=>by simp at hp,fun i hi=>by simp at hi⟩
 | cons p r=>exact h.tail
theorem J3 (k c:Nat) (m:aG) (G:Nat→Prop) (b at_:Int) (a:Option Addr) (xs:List Int) (cap:Nat) (read:Int) (w:World) (h:bO X w k c m G) (hl:m.lost=true):Calls prog 112 #[.pointer (some ⟨k,0,none⟩),.int .i64 b,.int .i64 at_,.slice a xs.length cap,.int .i64 read] w (mY X [] 1101 k c m G w):=by
 have HS:=zH (kh k c m G w h)
 have hst:m.qQ=1101:=if_pos hl
 rw [hst] at HS
 have HH:=zH h
 clear h hl hst
 go_enter func112,ntmps112
 go_wp2_with fail
 refine HS.out.mono ?_
 rintro e w ⟨rfl,rfl⟩
 go_wp2
 go_ret2
 exact ⟨none,0,G,rfl,HH.out,⟨aU.nil _ _,fun _ _ e=>by cases e⟩,Step.refl _ _⟩
structure Made (X:Nat→Prop) (w:World) (k c:Nat) (m:aG) (G:Nat→Prop) (pb cap:Nat) (ps:List Ph) (a:Option Addr) (xs:List Int):Prop where
 wK:bO X w k c m G
 row:eB w pb 0 ps G
 data:aN w a xs G
theorem yt (k c:Nat) (m:aG) (G:Nat→Prop) (at_:Int) (a:Option Addr) (x0:Int) (cap:Nat) (read:Int) (w:World) (h:bO X w k c m G) (ok:m.Ok) (hl:m.lost=false) (rok:gX 235 at_ [x0] read) (ha:aN w a [x0] G) (hn:a=none→cap=0) (hgo:m.aD=false) (hcap:1≤cap):Calls prog 112 #[.pointer (some ⟨k,0,none⟩),.int .i64 235,.int .i64 at_,.slice a 1 cap,.int .i64 read] w (mY X (m.run 235 at_ [x0] read).2.1 (m.run 235 at_ [x0] read).2.2 k c (m.run 235 at_ [x0] read).1 G w):=by
 have HS:=zH (kh k c m G w h)
 have hst:m.qQ=0:=if_neg (by rw [hl];decide)
 rw [hst] at HS
 have HFI:=zH ((ny 235 w).mono fun e w' hx=>(⟨hx.1.trans (by rw [if_pos rok.err]),hx.2⟩:e=.returned (.tuple #[.agg (ak 235).cells,.int .i64 0])∧Below w.heap.size w w'))
 have hcmd:=fun (w':World) (hi:aU w' a [x0])=>nv (ak 235) at_ a cap [x0] read w' rok.cmd hi hn
 rw [Gt] at HFI hcmd
 simp only [List.length_singleton] at hcmd
 have HCM:=zH hcmd
 have HPO:=zH (oL rok)
 have HPL:=zH (rj (ak 235) at_ [x0] read)
 have HH:=zH h
 have HA:=zH ha
 have HLO:=zH hl
 have HOK:=zH ok
 have HGO:=zH hgo
 have HQ4:=zH (BW (at_:=at_) (xs:=[x0]) (read:=read))
 have HRR:=zH (show m.run 235 at_ [x0] read=m.fin 235 [x0] (aQ (ak 235) at_ [x0] read) by unfold aG.run;rw [if_neg (by rw [hl];decide),if_neg (by rw [hgo];simp),if_neg (by rw [hgo];decide)])
 clear h ok hl rok ha hn hst hcmd hgo
 generalize m.run 235 at_ [x0] read=rr at *
 go_enter func112,ntmps112
 go_wp2_with fail
 refine HS.out.mono ?_
 rintro e w ⟨rfl,rfl⟩
 go_wp2_with fail
 refine HFI.out.mono ?_
 rintro e w1 ⟨rfl,hb1⟩
 have HB1:=zH hb1
 have hi1:=HA.out.1.aj (ae hb1 (.cells #[.int .i64 (ak 235).byte,.int .i64 (ak 235).addr,.bool (ak 235).mode,.int .i64 (ak 235).dummy,.int .i64 (ak 235).data,.bool (ak 235).jB] 125))
 have HC1:=zH (HCM.out _ hi1)
 have HB2:=zH (ae hb1 (.cells #[.int .i64 (ak 235).byte,.int .i64 (ak 235).addr,.bool (ak 235).mode,.int .i64 (ak 235).dummy,.int .i64 (ak 235).data,.bool (ak 235).jB] 125))
 clear hb1 hi1 HS HFI HCM
 go_wp2_with fail
 refine HC1.out.mono ?_
 rintro e w2 ⟨v,rfl,hnew,hb2⟩
 generalize hps:aQ (ak 235) at_ [x0] read=ps at *
 obtain ⟨pb,pc,rfl,hpc,hpm,hrow⟩:=eB.AU hnew (by have:=HPL.out.1;omega) G (fun b hb=>zV (HH.out.lt b hb) HB2.out.size)
 have hb02:=gtr HB2.out hb2
 have M:=zH (Made.mk (pb:=pb) (cap:=pc) (HH.out.aj hb02) hrow (HA.out.step (Step.ah hb02)))
 have ST:=zH (Step.ah (F:=G) hb02)
 obtain ⟨s,F,hsc,hC⟩:=HH.out.aj hb02
 have c7:w2.cell? ⟨k,7,none⟩=some (.bool false):=by rw [← HGO.out,← hC.aD];exact cell_of hC.raw 7
 have HPC:=zH (zA hpc hpm)
 have HPS:=zH hps
 clear hnew hb2 hb02 hrow hC HA HB1 HB2 HC1 hpc hpm hps hsc
 have HDR:=zH (ic k c pb 0 pc m G ps w2 M.out.wK HOK.out HLO.out M.out.row (mB HPO.out) (by have:=HPL.out.2;omega))
 have HST0:=zH ST.out
 have HDA:=zH M.out.data
 have HV:=zH HRR.out
 rcases B3 m ps with he | ⟨he,hx⟩
 ·
  rw [he] at HDR
  have HFV:=zH (show m.fin 235 [x0] ps=({ m.cN ps with aD:=(x0 == 160) },m.gq ps,0) by unfold aG.fin;rw [if_pos he];rfl)
  clear he
  generalize m.cN ps=mm at *
  generalize m.gq ps=xx at *
  go_wp2_with fail
  refine HDR.out.mono ?_
  rintro e w3 ⟨a3,cp3,G3,rfl,⟨s3,F3,hsc3,hC3⟩,hs3,st3⟩
  have d7:w3.cell? ⟨k,7,none⟩=some (.bool s3.aD):=cell_of hC3.raw 7
  have f7:w3.frozen? ⟨k,7,none⟩=false:=aF hC3.raw 7
  have r4:fF (w3.setCell ⟨k,7,none⟩ (.bool (x0 == 160))) k { s3 with aD:=(x0 == 160) }:=az (i:=7) (v:=.bool (x0 == 160)) hC3.raw
  have t4:Touch (aO k) w3 (w3.setCell ⟨k,7,none⟩ (.bool (x0 == 160))):=(Touch.refl _ _).set k 7 _ rfl
  have h4:=hC3.block (m':={ mm with aD:=(x0 == 160) }) r4 t4 rfl rfl hC3.left hC3.lost rfl rfl rfl rfl rfl
  have H4:=zH (zA h4 (zA (hs3.step (hC3.step t4)) (zA (HST0.out.trans (st3.trans (hC3.step t4))) hsc3)))
  have hdd:=HDA.out.step st3
  obtain ⟨db,doff,rfl,hd0⟩:=hdd.1 0 (by simp)
  rw [Nat.add_zero] at hd0
  have hd0:w3.cell? ⟨db,doff,none⟩=some (.int .i64 x0):=hd0
  have hq:(0:Int)<1:=by decide
  clear hC3 hs3 st3 r4 t4 h4 hsc3
  go_wp2
  go_ret2
  rw [HV.out,HFV.out]
  exact ⟨a3,cp3,G3,rfl,⟨{ s3 with aD:=(x0 == 160) },F3,H4.out.2.2.2,H4.out.1⟩,H4.out.2.1,H4.out.2.2.1⟩
 ·
  rw [he,hx] at HDR
  have HFV:=zH (show m.fin 235 [x0] ps=(m.cN ps,[],1101) by unfold aG.fin;rw [if_neg (by rw [he];decide)])
  clear he hx
  generalize m.cN ps=mm at *
  go_wp2_with fail
  refine HDR.out.mono ?_
  rintro e w3 ⟨a3,cp3,G3,rfl,hc3,hs3,st3⟩
  have H4:=zH (zA hc3 (zA hs3 (HST0.out.trans st3)))
  clear hc3 hs3 st3
  go_wp2
  go_ret2
  rw [HV.out,HFV.out]
  exact ⟨a3,cp3,G3,rfl,H4.out⟩
theorem HU (k c:Nat) (m:aG) (G:Nat→Prop) (b at_:Int) (a:Option Addr) (xs:List Int) (cap:Nat) (read:Int) (w:World) (h:bO X w k c m G) (ok:m.Ok) (hl:m.lost=false) (rok:gX b at_ xs read) (ha:aN w a xs G) (hn:a=none→cap=0) (hgo:m.aD=false) (hb:b≠235) (hcap:xs.length≤cap):Calls prog 112 #[.pointer (some ⟨k,0,none⟩),.int .i64 b,.int .i64 at_,.slice a xs.length cap,.int .i64 read] w (mY X (m.run b at_ xs read).2.1 (m.run b at_ xs read).2.2 k c (m.run b at_ xs read).1 G w):=by
 have HS:=zH (kh k c m G w h)
 have hst:m.qQ=0:=if_neg (by rw [hl];decide)
 rw [hst] at HS
 have HFI:=zH ((ny b w).mono fun e w' hx=>(⟨hx.1.trans (by rw [if_pos rok.err]),hx.2⟩:e=.returned (.tuple #[.agg (ak b).cells,.int .i64 0])∧Below w.heap.size w w'))
 have hcmd:=fun (w':World) (hi:aU w' a xs)=>nv (ak b) at_ a cap xs read w' rok.cmd hi hn
 rw [Gt] at HFI hcmd
 have HCM:=zH hcmd
 have HPO:=zH (oL rok)
 have HPL:=zH (rj (ak b) at_ xs read)
 have HH:=zH h
 have HA:=zH ha
 have HLO:=zH hl
 have HOK:=zH ok
 have HGO:=zH hgo
 have HB:=zH hb
 have hb2:(b == 235)=false:=zQ hb
 have HRR:=zH (show m.run b at_ xs read=m.fin b xs (aQ (ak b) at_ xs read) by unfold aG.run;rw [if_neg (by rw [hl];decide),if_neg (fun e=>hb e.2),if_neg (by rw [hgo];decide)])
 clear h ok hl rok ha hn hst hcmd hgo hb
 generalize m.run b at_ xs read=rr at *
 go_enter func112,ntmps112
 go_wp2_with fail
 refine HS.out.mono ?_
 rintro e w ⟨rfl,rfl⟩
 go_wp2_with fail
 refine HFI.out.mono ?_
 rintro e w1 ⟨rfl,hb1⟩
 have HB1:=zH hb1
 have hi1:=HA.out.1.aj (ae hb1 (.cells #[.int .i64 (ak b).byte,.int .i64 (ak b).addr,.bool (ak b).mode,.int .i64 (ak b).dummy,.int .i64 (ak b).data,.bool (ak b).jB] 125))
 have HC1:=zH (HCM.out _ hi1)
 have HB2:=zH (ae hb1 (.cells #[.int .i64 (ak b).byte,.int .i64 (ak b).addr,.bool (ak b).mode,.int .i64 (ak b).dummy,.int .i64 (ak b).data,.bool (ak b).jB] 125))
 clear hb1 hi1 HS HFI HCM
 go_wp2_with fail
 refine HC1.out.mono ?_
 rintro e w2 ⟨v,rfl,hnew,hb2⟩
 generalize hps:aQ (ak b) at_ xs read=ps at *
 obtain ⟨pb,pc,rfl,hpc,hpm,hrow⟩:=eB.AU hnew (by have:=HPL.out.1;omega) G (fun b hb=>zV (HH.out.lt b hb) HB2.out.size)
 have hb02:=gtr HB2.out hb2
 have M:=zH (Made.mk (pb:=pb) (cap:=pc) (HH.out.aj hb02) hrow (HA.out.step (Step.ah hb02)))
 have ST:=zH (Step.ah (F:=G) hb02)
 obtain ⟨s,F,hsc,hC⟩:=HH.out.aj hb02
 have c7:w2.cell? ⟨k,7,none⟩=some (.bool false):=by rw [← HGO.out,← hC.aD];exact cell_of hC.raw 7
 have HPC:=zH (zA hpc hpm)
 have HPS:=zH hps
 clear hnew hb2 hb02 hrow hC HA HB1 HB2 HC1 hpc hpm hps hsc
 have HDR:=zH (ic k c pb 0 pc m G ps w2 M.out.wK HOK.out HLO.out M.out.row (mB HPO.out) (by have:=HPL.out.2;omega))
 have HST0:=zH ST.out
 have HDA:=zH M.out.data
 have HV:=zH HRR.out
 rcases B3 m ps with he | ⟨he,hx⟩
 ·
  rw [he] at HDR
  have HFV:=zH (show m.fin b xs ps=({ m.cN ps with aD:=false },m.gq ps,0) by unfold aG.fin;rw [if_pos he];rw [show decide (b=235)=false from decide_eq_false HB.out];rfl)
  clear he
  generalize m.cN ps=mm at *
  generalize m.gq ps=xx at *
  go_wp2_with fail
  refine HDR.out.mono ?_
  rintro e w3 ⟨a3,cp3,G3,rfl,⟨s3,F3,hsc3,hC3⟩,hs3,st3⟩
  have d7:w3.cell? ⟨k,7,none⟩=some (.bool s3.aD):=cell_of hC3.raw 7
  have f7:w3.frozen? ⟨k,7,none⟩=false:=aF hC3.raw 7
  have r4:fF (w3.setCell ⟨k,7,none⟩ (.bool false)) k { s3 with aD:=false }:=az (i:=7) (v:=.bool false) hC3.raw
  have t4:Touch (aO k) w3 (w3.setCell ⟨k,7,none⟩ (.bool false)):=(Touch.refl _ _).set k 7 _ rfl
  have h4:=hC3.block (m':={ mm with aD:=false }) r4 t4 rfl rfl hC3.left hC3.lost rfl rfl rfl rfl rfl
  have H4:=zH (zA h4 (zA (hs3.step (hC3.step t4)) (zA (HST0.out.trans (st3.trans (hC3.step t4))) hsc3)))
  clear hC3 hs3 st3 r4 t4 h4 hsc3
  go_wp2
  go_ret2
  rw [HV.out,HFV.out]
  exact ⟨a3,cp3,G3,rfl,⟨{ s3 with aD:=false },F3,H4.out.2.2.2,H4.out.1⟩,H4.out.2.1,H4.out.2.2.1⟩
 ·
  rw [he,hx] at HDR
  have HFV:=zH (show m.fin b xs ps=(m.cN ps,[],1101) by unfold aG.fin;rw [if_neg (by rw [he];decide)])
  clear he hx
  generalize m.cN ps=mm at *
  go_wp2_with fail
  refine HDR.out.mono ?_
  rintro e w3 ⟨a3,cp3,G3,rfl,hc3,hs3,st3⟩
  have H4:=zH (zA hc3 (zA hs3 (HST0.out.trans st3)))
  clear hc3 hs3 st3
  go_wp2
  go_ret2
  rw [HV.out,HFV.out]
  exact ⟨a3,cp3,G3,rfl,H4.out⟩
theorem Ba (k c:Nat) (m:aG) (G:Nat→Prop) (at_:Int) (a:Option Addr) (x0:Int) (cap:Nat) (read:Int) (w:World) (h:bO X w k c m G) (ok:m.Ok) (hl:m.lost=false) (rok:gX 235 at_ [x0] read) (ha:aN w a [x0] G) (hn:a=none→cap=0) (hgo:m.aD=true) (hcap:1≤cap):Calls prog 112 #[.pointer (some ⟨k,0,none⟩),.int .i64 235,.int .i64 at_,.slice a 1 cap,.int .i64 read] w (mY X (m.run 235 at_ [x0] read).2.1 (m.run 235 at_ [x0] read).2.2 k c (m.run 235 at_ [x0] read).1 G w):=by
 have HS:=zH (kh k c m G w h)
 have hst:m.qQ=0:=if_neg (by rw [hl];decide)
 rw [hst] at HS
 have HFI:=zH ((ny 235 w).mono fun e w' hx=>(⟨hx.1.trans (by rw [if_pos rok.err]),hx.2⟩:e=.returned (.tuple #[.agg (ak 235).cells,.int .i64 0])∧Below w.heap.size w w'))
 have hcmd:=fun (w':World) (hi:aU w' a [x0])=>nv (ak 235) at_ a cap [x0] read w' rok.cmd hi hn
 rw [Gt] at HFI hcmd
 simp only [List.length_singleton] at hcmd
 have HCM:=zH hcmd
 have HPO:=zH (oL rok)
 have HPL:=zH (rj (ak 235) at_ [x0] read)
 have HH:=zH h
 have HA:=zH ha
 have HLO:=zH hl
 have HOK:=zH ok
 have HGO:=zH hgo
 have HQ4:=zH (BW (at_:=at_) (xs:=[x0]) (read:=read))
 have HRR:=zH (show m.run 235 at_ [x0] read=m.fin 235 [x0] ((aQ (ak 235) at_ [x0] read).drop 1) by unfold aG.run;rw [if_neg (by rw [hl];decide),if_pos ⟨hgo,rfl⟩])
 clear h ok hl rok ha hn hst hcmd hgo
 generalize m.run 235 at_ [x0] read=rr at *
 go_enter func112,ntmps112
 go_wp2_with fail
 refine HS.out.mono ?_
 rintro e w ⟨rfl,rfl⟩
 go_wp2_with fail
 refine HFI.out.mono ?_
 rintro e w1 ⟨rfl,hb1⟩
 have HB1:=zH hb1
 have hi1:=HA.out.1.aj (ae hb1 (.cells #[.int .i64 (ak 235).byte,.int .i64 (ak 235).addr,.bool (ak 235).mode,.int .i64 (ak 235).dummy,.int .i64 (ak 235).data,.bool (ak 235).jB] 125))
 have HC1:=zH (HCM.out _ hi1)
 have HB2:=zH (ae hb1 (.cells #[.int .i64 (ak 235).byte,.int .i64 (ak 235).addr,.bool (ak 235).mode,.int .i64 (ak 235).dummy,.int .i64 (ak 235).data,.bool (ak 235).jB] 125))
 clear hb1 hi1 HS HFI HCM
 go_wp2_with fail
 refine HC1.out.mono ?_
 rintro e w2 ⟨v,rfl,hnew,hb2⟩
 generalize hps:aQ (ak 235) at_ [x0] read=ps at *
 obtain ⟨pb,pc,rfl,hpc,hpm,hrow⟩:=eB.AU hnew (by have:=HPL.out.1;omega) G (fun b hb=>zV (HH.out.lt b hb) HB2.out.size)
 have hb02:=gtr HB2.out hb2
 have M:=zH (Made.mk (pb:=pb) (cap:=pc) (HH.out.aj hb02) hrow (HA.out.step (Step.ah hb02)))
 have ST:=zH (Step.ah (F:=G) hb02)
 obtain ⟨s,F,hsc,hC⟩:=HH.out.aj hb02
 have c7:w2.cell? ⟨k,7,none⟩=some (.bool true):=by rw [← HGO.out,← hC.aD];exact cell_of hC.raw 7
 have HPC:=zH (zA hpc hpm)
 have HPS:=zH hps
 clear hnew hb2 hb02 hrow hC HA HB1 HB2 HC1 hpc hpm hps hsc
 have hn4:=HQ4.out
 obtain ⟨hpc,hpm⟩:=HPC.out
 have g1:(1:Int)≤(ps.length:Int):=by omega
 have g2:(ps.length:Int)≤(pc:Int):=by omega
 have g3 : ¬ pc=1:=by omega
 have g4:1≤ps.length:=by omega
 have g5:1≤pc:=by omega
 clear hpc hpm hn4
 obtain ⟨qs,hqs⟩ : ∃ qs,ps.drop 1=qs:=⟨_,rfl⟩
 have hql:qs.length=ps.length - 1:=by rw [← hqs];simp
 have HQL:=zH hql
 have HRQ:=zH (show rr=m.fin 235 [x0] qs by rw [← hqs];exact HRR.out)
 have HROW:=zH (show eB w2 pb 4 qs G by rw [← hqs];exact M.out.row.drop1)
 have HPQ:=zH (show ∀ p ∈ qs,mW p from fun p hp=>HPO.out p (by rw [← hqs] at hp;exact List.mem_of_mem_drop hp))
 have hq6:qs.length≤100:=by have:=HPL.out.2;omega
 clear hqs hql
 have HDR:=zH (ic k c pb 4 (pc - 1) m G qs w2 M.out.wK HOK.out HLO.out HROW.out (mB HPQ.out) hq6)
 rw [HQL.out] at HDR
 have HST0:=zH ST.out
 have HDA:=zH M.out.data
 have HV:=zH HRQ.out
 rcases B3 m qs with he | ⟨he,hx⟩
 ·
  rw [he] at HDR
  have HFV:=zH (show m.fin 235 [x0] qs=({ m.cN qs with aD:=(x0 == 160) },m.gq qs,0) by unfold aG.fin;rw [if_pos he];rfl)
  clear he
  generalize m.cN qs=mm at *
  generalize m.gq qs=xx at *
  go_wp2_with fail
  refine HDR.out.mono ?_
  rintro e w3 ⟨a3,cp3,G3,rfl,⟨s3,F3,hsc3,hC3⟩,hs3,st3⟩
  have d7:w3.cell? ⟨k,7,none⟩=some (.bool s3.aD):=cell_of hC3.raw 7
  have f7:w3.frozen? ⟨k,7,none⟩=false:=aF hC3.raw 7
  have r4:fF (w3.setCell ⟨k,7,none⟩ (.bool (x0 == 160))) k { s3 with aD:=(x0 == 160) }:=az (i:=7) (v:=.bool (x0 == 160)) hC3.raw
  have t4:Touch (aO k) w3 (w3.setCell ⟨k,7,none⟩ (.bool (x0 == 160))):=(Touch.refl _ _).set k 7 _ rfl
  have h4:=hC3.block (m':={ mm with aD:=(x0 == 160) }) r4 t4 rfl rfl hC3.left hC3.lost rfl rfl rfl rfl rfl
  have H4:=zH (zA h4 (zA (hs3.step (hC3.step t4)) (zA (HST0.out.trans (st3.trans (hC3.step t4))) hsc3)))
  have hdd:=HDA.out.step st3
  obtain ⟨db,doff,rfl,hd0⟩:=hdd.1 0 (by simp)
  rw [Nat.add_zero] at hd0
  have hd0:w3.cell? ⟨db,doff,none⟩=some (.int .i64 x0):=hd0
  have hq:(0:Int)<1:=by decide
  clear hC3 hs3 st3 r4 t4 h4 hsc3
  go_wp2
  go_ret2
  rw [HV.out,HFV.out]
  exact ⟨a3,cp3,G3,rfl,⟨{ s3 with aD:=(x0 == 160) },F3,H4.out.2.2.2,H4.out.1⟩,H4.out.2.1,H4.out.2.2.1⟩
 ·
  rw [he,hx] at HDR
  have HFV:=zH (show m.fin 235 [x0] qs=(m.cN qs,[],1101) by unfold aG.fin;rw [if_neg (by rw [he];decide)])
  clear he hx
  generalize m.cN qs=mm at *
  go_wp2_with fail
  refine HDR.out.mono ?_
  rintro e w3 ⟨a3,cp3,G3,rfl,hc3,hs3,st3⟩
  have H4:=zH (zA hc3 (zA hs3 (HST0.out.trans st3)))
  clear hc3 hs3 st3
  go_wp2
  go_ret2
  rw [HV.out,HFV.out]
  exact ⟨a3,cp3,G3,rfl,H4.out⟩
theorem J2 (k c:Nat) (m:aG) (G:Nat→Prop) (b at_:Int) (a:Option Addr) (xs:List Int) (cap:Nat) (read:Int) (w:World) (h:bO X w k c m G) (ok:m.Ok) (hl:m.lost=false) (rok:gX b at_ xs read) (ha:aN w a xs G) (hn:a=none→cap=0) (hgo:m.aD=true) (hb:b≠235) (hcap:xs.length≤cap):Calls prog 112 #[.pointer (some ⟨k,0,none⟩),.int .i64 b,.int .i64 at_,.slice a xs.length cap,.int .i64 read] w (mY X (m.run b at_ xs read).2.1 (m.run b at_ xs read).2.2 k c (m.run b at_ xs read).1 G w):=by
 have HS:=zH (kh k c m G w h)
 have hst:m.qQ=0:=if_neg (by rw [hl];decide)
 rw [hst] at HS
 have HFI:=zH ((ny b w).mono fun e w' hx=>(⟨hx.1.trans (by rw [if_pos rok.err]),hx.2⟩:e=.returned (.tuple #[.agg (ak b).cells,.int .i64 0])∧Below w.heap.size w w'))
 have hcmd:=fun (w':World) (hi:aU w' a xs)=>nv (ak b) at_ a cap xs read w' rok.cmd hi hn
 rw [Gt] at HFI hcmd
 have HCM:=zH hcmd
 have HPO:=zH (oL rok)
 have HPL:=zH (rj (ak b) at_ xs read)
 have HH:=zH h
 have HA:=zH ha
 have HLO:=zH hl
 have HOK:=zH ok
 have HGO:=zH hgo
 have HB:=zH hb
 have hb2:(b == 235)=false:=zQ hb
 have HRR:=zH (show m.run b at_ xs read=if m.iR [bX]=0 then { m.cN [bX] with aD:=false }.fin b xs (aQ (ak b) at_ xs read) else (m.cN [bX],[],1101) by unfold aG.run;rw [if_neg (by rw [hl];decide),if_neg (fun e=>hb e.2),if_pos hgo])
 clear h ok hl rok ha hn hst hcmd hgo hb
 generalize m.run b at_ xs read=rr at *
 go_enter func112,ntmps112
 go_wp2_with fail
 refine HS.out.mono ?_
 rintro e w ⟨rfl,rfl⟩
 go_wp2_with fail
 refine HFI.out.mono ?_
 rintro e w1 ⟨rfl,hb1⟩
 have HB1:=zH hb1
 have hi1:=HA.out.1.aj (ae hb1 (.cells #[.int .i64 (ak b).byte,.int .i64 (ak b).addr,.bool (ak b).mode,.int .i64 (ak b).dummy,.int .i64 (ak b).data,.bool (ak b).jB] 125))
 have HC1:=zH (HCM.out _ hi1)
 have HB2:=zH (ae hb1 (.cells #[.int .i64 (ak b).byte,.int .i64 (ak b).addr,.bool (ak b).mode,.int .i64 (ak b).dummy,.int .i64 (ak b).data,.bool (ak b).jB] 125))
 clear hb1 hi1 HS HFI HCM
 go_wp2_with fail
 refine HC1.out.mono ?_
 rintro e w2 ⟨v,rfl,hnew,hb2⟩
 generalize hps:aQ (ak b) at_ xs read=ps at *
 obtain ⟨pb,pc,rfl,hpc,hpm,hrow⟩:=eB.AU hnew (by have:=HPL.out.1;omega) G (fun b hb=>zV (HH.out.lt b hb) HB2.out.size)
 have hb02:=gtr HB2.out hb2
 have M:=zH (Made.mk (pb:=pb) (cap:=pc) (HH.out.aj hb02) hrow (HA.out.step (Step.ah hb02)))
 have ST:=zH (Step.ah (F:=G) hb02)
 obtain ⟨s,F,hsc,hC⟩:=HH.out.aj hb02
 have c7:w2.cell? ⟨k,7,none⟩=some (.bool true):=by rw [← HGO.out,← hC.aD];exact cell_of hC.raw 7
 have HPC:=zH (zA hpc hpm)
 have HPS:=zH hps
 clear hnew hb2 hb02 hrow hC HA HB1 HB2 HC1 hpc hpm hps hsc
 have HLV:=zH (yo k c m G w2 M.out.wK)
 go_wp2_with fail
 refine HLV.out.mono ?_
 rintro e w4 ⟨lb,G4,rfl,hc4,st4,hr4⟩
 have HDL:=zH (ic k c lb 0 1 m G4 [bX] w4 hc4 HOK.out HLO.out hr4 xd (by simp))
 simp only [List.length_singleton] at HDL
 have H4:=zH (zA (M.out.row.step st4) (zA (M.out.data.step st4) (ST.out.trans st4)))
 have HLK:=zH (HOK.out.cN HLO.out [bX] xd (by simp))
 have HLD:=zH (show (m.cN [bX]).lost=(m.lost || !(m.r [bX]).1)∧m.iR [bX]=(if (m.r [bX]).1=true then 0 else 1101) from ⟨rfl,rfl⟩)
 clear hc4 st4 hr4 HLV
 rcases B3 m [bX] with he | ⟨he,hx⟩
 ·
  have hl0:(m.cN [bX]).lost=false:=by
   obtain ⟨q1,q2⟩:=HLD.out
   rw [he] at q2
   rw [q1,HLO.out]
   cases hr:(m.r [bX]).1 with
   | true=>rfl
   | false=>rw [hr] at q2;simp at q2
  rw [he] at HDL
  have HR2:=zH (show rr={ m.cN [bX] with aD:=false }.fin b xs ps by rw [HRR.out,if_pos he])
  have HL0:=zH hl0
  clear he hl0
  generalize m.cN [bX]=m1 at *
  generalize m.gq [bX]=x1 at *
  go_wp2_with fail
  refine HDL.out.mono ?_
  rintro e w5 ⟨a5,cp5,G5,rfl,⟨s5,F5,hsc5,hC5⟩,_,st5⟩
  have d7:w5.cell? ⟨k,7,none⟩=some (.bool s5.aD):=cell_of hC5.raw 7
  have f7:w5.frozen? ⟨k,7,none⟩=false:=aF hC5.raw 7
  have r6:fF (w5.setCell ⟨k,7,none⟩ (.bool false)) k { s5 with aD:=false }:=az (i:=7) (v:=.bool false) hC5.raw
  have t6:Touch (aO k) w5 (w5.setCell ⟨k,7,none⟩ (.bool false)):=(Touch.refl _ _).set k 7 _ rfl
  have h6:=hC5.block (m':={ m1 with aD:=false }) r6 t6 rfl rfl hC5.left hC5.lost rfl rfl rfl rfl rfl
  have st6:=st5.trans (hC5.step t6)
  have M6:=zH (Made.mk (pb:=pb) (cap:=pc) (show bO X (w5.setCell ⟨k,7,none⟩ (.bool false)) k c { m1 with aD:=false } G5 from ⟨{ s5 with aD:=false },F5,hsc5,h6⟩) (H4.out.1.step st6) (H4.out.2.1.step st6))
  have ST6:=zH (H4.out.2.2.trans st6)
  have HOK6:=zH (show ({ m1 with aD:=false }:aG).Ok from ⟨HLK.out.cn,HLK.out.dQ,HLK.out.kx,HLK.out.ln⟩)
  have HL6:=zH (show ({ m1 with aD:=false }:aG).lost=false from HL0.out)
  clear hC5 st5 r6 t6 h6 st6 hsc5
  obtain ⟨m6,hm6⟩ : ∃ m6:aG,m6={ m1 with aD:=false }:=⟨_,rfl⟩
  rw [← hm6] at M6 HOK6 HL6 HR2
  clear hm6
  have HDR:=zH (ic k c pb 0 pc m6 G5 ps _ M6.out.wK HOK6.out HL6.out M6.out.row (mB HPO.out) (by have:=HPL.out.2;omega))
  have HST0:=zH ST6.out
  have HDA:=zH M6.out.data
  have HV:=zH HR2.out
  rcases B3 m6 ps with he | ⟨he,hx⟩
  ·
   rw [he] at HDR
   have HFV:=zH (show m6.fin b xs ps=({ m6.cN ps with aD:=false },m6.gq ps,0) by unfold aG.fin;rw [if_pos he];rw [show decide (b=235)=false from decide_eq_false HB.out];rfl)
   clear he
   generalize m6.cN ps=mm at *
   generalize m6.gq ps=xx at *
   go_wp2_with fail
   refine HDR.out.mono ?_
   rintro e w3 ⟨a3,cp3,G3,rfl,⟨s3,F3,hsc3,hC3⟩,hs3,st3⟩
   have d7:w3.cell? ⟨k,7,none⟩=some (.bool s3.aD):=cell_of hC3.raw 7
   have f7:w3.frozen? ⟨k,7,none⟩=false:=aF hC3.raw 7
   have r4:fF (w3.setCell ⟨k,7,none⟩ (.bool false)) k { s3 with aD:=false }:=az (i:=7) (v:=.bool false) hC3.raw
   have t4:Touch (aO k) w3 (w3.setCell ⟨k,7,none⟩ (.bool false)):=(Touch.refl _ _).set k 7 _ rfl
   have h4:=hC3.block (m':={ mm with aD:=false }) r4 t4 rfl rfl hC3.left hC3.lost rfl rfl rfl rfl rfl
   have H4:=zH (zA h4 (zA (hs3.step (hC3.step t4)) (zA (HST0.out.trans (st3.trans (hC3.step t4))) hsc3)))
   clear hC3 hs3 st3 r4 t4 h4 hsc3
   go_wp2
   go_ret2
   rw [HV.out,HFV.out]
   exact ⟨a3,cp3,G3,rfl,⟨{ s3 with aD:=false },F3,H4.out.2.2.2,H4.out.1⟩,H4.out.2.1,H4.out.2.2.1⟩
  ·
   rw [he,hx] at HDR
   have HFV:=zH (show m6.fin b xs ps=(m6.cN ps,[],1101) by unfold aG.fin;rw [if_neg (by rw [he];decide)])
   clear he hx
   generalize m6.cN ps=mm at *
   go_wp2_with fail
   refine HDR.out.mono ?_
   rintro e w3 ⟨a3,cp3,G3,rfl,hc3,hs3,st3⟩
   have H4:=zH (zA hc3 (zA hs3 (HST0.out.trans st3)))
   clear hc3 hs3 st3
   go_wp2
   go_ret2
   rw [HV.out,HFV.out]
   exact ⟨a3,cp3,G3,rfl,H4.out⟩
 ·
  rw [he,hx] at HDL
  have HR2:=zH (show rr=(m.cN [bX],[],1101) by rw [HRR.out,if_neg (by rw [he];decide)])
  clear he hx
  generalize m.cN [bX]=m1 at *
  go_wp2_with fail
  refine HDL.out.mono ?_
  rintro e w5 ⟨a5,cp5,G5,rfl,hc5,hs5,st5⟩
  have H5:=zH (zA hc5 (zA hs5 (H4.out.2.2.trans st5)))
  clear hc5 hs5 st5
  go_wp2
  go_ret2
  rw [HR2.out]
  exact ⟨none,0,G5,rfl,H5.out.1,⟨aU.nil _ _,fun _ _ e=>by cases e⟩,H5.out.2.2⟩
theorem fj (k c:Nat) (m:aG) (G:Nat→Prop) (b at_:Int) (a:Option Addr) (xs:List Int) (cap:Nat) (read:Int) (w:World) (h:bO X w k c m G) (ok:m.Ok) (rok:gX b at_ xs read) (ha:aN w a xs G) (hn:a=none→cap=0) (hcap:xs.length≤cap):Calls prog 112 #[.pointer (some ⟨k,0,none⟩),.int .i64 b,.int .i64 at_,.slice a xs.length cap,.int .i64 read] w (mY X (m.run b at_ xs read).2.1 (m.run b at_ xs read).2.2 k c (m.run b at_ xs read).1 G w):=by
 cases hl:m.lost with
 | true =>
  have e:m.run b at_ xs read=(m,[],1101):=if_pos hl
  rw [e]
  exact J3 k c m G b at_ a xs cap read w h hl
 | false =>
  by_cases hb:b=235
  ·
   subst hb
   obtain ⟨x0,rfl⟩ : ∃ x0,xs=[x0]:=List.length_eq_one_iff.1 (Hy rok)
   cases hg:m.aD with
   | true=>exact Ba k c m G at_ a x0 cap read w h ok hl rok ha hn hg hcap
   | false=>exact yt k c m G at_ a x0 cap read w h ok hl rok ha hn hg hcap
  ·
   cases hg:m.aD with
   | true=>exact J2 k c m G b at_ a xs cap read w h ok hl rok ha hn hg hb hcap
   | false=>exact HU k c m G b at_ a xs cap read w h ok hl rok ha hn hg hb hcap
theorem Ef {m:aG} (ok:m.Ok) (hl:m.lost=false) (b:Int) (xs:List Int) (ps:List Ph) (hp : ∀ p ∈ ps,mW p) (hn:ps.length≤100):(m.fin b xs ps).1.Ok:=by
 have h:=ok.cN hl ps (mB hp) hn
 unfold aG.fin
 split
 ·
  exact ⟨h.cn,h.dQ,h.kx,h.ln⟩
 ·
  exact h
theorem ew {m:aG} (ok:m.Ok) (b at_:Int) (xs:List Int) (read:Int) (rok:gX b at_ xs read):(m.run b at_ xs read).1.Ok:=by
 have hp:=oL rok
 have hl6:=(rj (ak b) at_ xs read).2
 unfold aG.run
 split
 ·
  exact ok
 ·
  rename_i hl
  have hl':m.lost=false:=by cases h:m.lost with | false=>rfl | true=>exact absurd h hl
  split
  ·
   exact Ef ok hl' b xs _ (fun p h=>hp p (List.mem_of_mem_drop h)) (by simp;omega)
  ·
   split
   ·
    have h1:=ok.cN hl' [bX] xd (by simp)
    split
    ·
     rename_i he
     refine Ef (m:={ m.cN [bX] with aD:=false }) ⟨h1.cn,h1.dQ,h1.kx,h1.ln⟩ ?_ b xs _ hp (by omega)
     show (m.lost || !(m.r [bX]).1)=false
     unfold aG.iR at he
     split at he
     ·
      rename_i hr;rw [hl',hr];rfl
     ·
      cases he
    ·
     exact h1
   ·
    exact Ef ok hl' b xs _ hp (by omega)
end
end Go.Proofs.YtcfdenckiigdaaaGreat

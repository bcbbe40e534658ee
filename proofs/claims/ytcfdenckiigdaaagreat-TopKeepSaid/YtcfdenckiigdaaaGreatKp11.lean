/- Part 11 of the contracts. -/
import Derived.Test.YtcfdenckiigdaaaGreatKp10
set_option linter.unusedVariables false
set_option maxRecDepth 100000
set_option maxHeartbeats 4000000
namespace Go.Proofs.YtcfdenckiigdaaaGreat
section
open Go.RowKit
def qkP (p:Ph):Prop :=
 ((p.lanes=1∨p.lanes=4)∧1≤p.bytes.length∧p.bytes.length≤512∧p.bytes.all isByte=true∧p.clocks=0∧p.read=0) ∨
 ((p.lanes=1∨p.lanes=4)∧p.bytes=[]∧1≤p.read∧p.read≤512∧p.clocks=0) ∨
 (p.lanes=0∧p.bytes=[]∧p.read=0∧1≤p.clocks∧p.clocks≤400)
def Ph.none:Ph:=⟨0,[],0,0⟩
structure qh4 (w:World) (b o:Nat) (p:Ph) (a:Option Addr) (c:Nat):Prop where
 c0:w.cell? ⟨b,o,none⟩=some (.int .i64 p.lanes)
 c1:w.cell? ⟨b,o+1,none⟩=some (.slice a p.bytes.length c)
 c2:w.cell? ⟨b,o+2,none⟩=some (.int .i64 p.clocks)
 c3:w.cell? ⟨b,o+3,none⟩=some (.int .i64 p.read)
 ints:qal w a p.bytes
structure qbM (w:World) (b o:Nat) (ps:List Ph) (G:Nat→Prop):Prop where
 far:0<ps.length → ¬ G b
 ph : ∀ i,i<ps.length → ∃ a c,qh4 w b (o+i * 4) (ps.getD i Ph.none) a c ∧ ∀ b' o',a=some ⟨b',o',Option.none⟩→0<(ps.getD i Ph.none).bytes.length → ¬ G b'
theorem Step.safe {G G':Nat→Prop} {w w':World} (st:Step G G' w w') {b:Nat} (hb:b<w.heap.size) (hn : ¬ G b) : ¬ G' b:=fun h=>(st.foot b h).elim hn (fun hl=>Nat.lt_irrefl _ (Nat.lt_of_lt_of_le hb hl))
theorem qh4.step {G G':Nat→Prop} {w w':World} {b o:Nat} {p:Ph} {a:Option Addr} {c:Nat} (h:qh4 w b o p a c) (st:Step G G' w w') (hn : ¬ G b) (hi : ∀ b' o',a=some ⟨b',o',none⟩→0<p.bytes.length → ¬ G b'):qh4 w' b o p a c :=
 ⟨st.touch.cell _ _ h.c0 hn,st.touch.cell _ _ h.c1 hn,st.touch.cell _ _ h.c2 hn,st.touch.cell _ _ h.c3 hn,qaY h.ints st.touch hi⟩
theorem qbM.step {G G':Nat→Prop} {w w':World} {b o:Nat} {ps:List Ph} (h:qbM w b o ps G) (st:Step G G' w w'):qbM w' b o ps G':=by
 refine ⟨fun hp => ?_,fun i hi => ?_⟩
 ·
  obtain ⟨a,c,hc,_⟩:=h.ph 0 hp
  exact st.safe (World.block_lt_of_cell? w _ hc.c0) (h.far hp)
 ·
  obtain ⟨a,c,hc,hn⟩:=h.ph i hi
  have hp:0<ps.length:=Nat.lt_of_le_of_lt (Nat.zero_le _) hi
  refine ⟨a,c,hc.step st (h.far hp) hn,fun b' o' e hl => ?_⟩
  obtain ⟨b2,o2,g1,g2⟩:=hc.ints 0 hl
  rw [e] at g1
  obtain ⟨rfl,rfl⟩:b'=b2∧o'=o2:=by simpa using g1
  exact st.safe (World.block_lt_of_cell? w _ g2) (hn _ _ e hl)
theorem qbM.tail {G:Nat→Prop} {w:World} {b o:Nat} {p:Ph} {ps:List Ph} (h:qbM w b o (p::ps) G):qbM w b (o+4) ps G:=by
 refine ⟨fun hp=>h.far (by simp),fun i hi => ?_⟩
 obtain ⟨a,c,hc,hn⟩:=h.ph (i+1) (by simp;omega)
 have e:o+(i+1) * 4=o+4+i * 4:=by omega
 rw [e] at hc
 exact ⟨a,c,hc,hn⟩
theorem qi5 : ∀ (l:List (Ph×Value)) (i:Nat) (hi:i<l.length),(qbs l)[i * 4]? = some (.int .i64 l[i].1.lanes)∧(qbs l)[i * 4+1]? = some l[i].2∧(qbs l)[i * 4+2]? = some (.int .i64 l[i].1.clocks)∧(qbs l)[i * 4+3]? = some (.int .i64 l[i].1.read)
 | [],i,hi=>by simp at hi
 | x::r,0,hi=>by simp [qbs]
 | x::r,i+1,hi=>by
  have ih:=qi5 r i (by simpa using hi)
  have e : ∀ j,(qbs (x::r))[(i+1) * 4+j]? = (qbs r)[i * 4+j]? := by
   intro j
   have e1:qbs (x::r)=[.int .i64 x.1.lanes,x.2,.int .i64 x.1.clocks,.int .i64 x.1.read]++qbs r:=by simp [qbs]
   rw [e1,List.getElem?_append_right (by simp;omega)]
   congr 1
   simp;omega
  have e0:=e 0
  have e1:=e 1
  have e2:=e 2
  have e3:=e 3
  simp only [Nat.add_zero] at e0
  exact ⟨e0.trans ih.1,e1.trans ih.2.1,e2.trans ih.2.2.1,e3.trans ih.2.2.2⟩
theorem qbM.of_new {w:World} {B:Nat} {v:Value} {ps:List Ph} (h:qbL w B v ps) (hp:0<ps.length) (G:Nat→Prop) (hG : ∀ b,G b→b<B) : ∃ b cap,v=.slice (some ⟨b,0,none⟩) ps.length cap∧ps.length≤cap∧cap≤maxLen∧qbM w b 0 ps G:=by
 obtain ⟨l,rfl,hN,hown⟩:=h
 have hl:(l.map (·.1)).length=l.length:=by simp
 rcases hown.2 with ⟨_,h0⟩ | ⟨g,cap,cur,rfl,hB,hg,hn,hm,hsz,htake⟩
 ·
  rw [hl] at hp;omega
 ·
  refine ⟨g,cap,by rw [hl],by rw [hl];exact hn,hm,fun _ hf=>Nat.lt_irrefl _ (Nat.lt_of_lt_of_le (hG g hf) hB),fun i hi => ?_⟩
  rw [hl] at hi
  obtain ⟨q0,q1,q2,q3⟩:=qi5 l i hi
  obtain ⟨a,c,hv,hints⟩:=hN l[i] (List.getElem_mem hi)
  have ep:(l.map (·.1)).getD i Ph.none=l[i].1:=by simp [List.getD,List.getElem?_eq_getElem hi]
  rw [ep]
  have hcell : ∀ j,j<4 → ∀ v,(qbs l)[i * 4+j]? = some v→w.cell? ⟨g,0+i * 4+j,none⟩=some v:=by
   intro j hj v hv
   rw [qaa hg,Nat.zero_add]
   rw [← htake] at hv
   rw [List.getElem?_take] at hv
   split at hv
   ·
    simpa using hv
   ·
    cases hv
  refine ⟨a,c,⟨hcell 0 (by decide) _ q0,(hcell 1 (by decide) _ q1).trans (by rw [hv]),hcell 2 (by decide) _ q2,hcell 3 (by decide) _ q3,?_⟩,?_⟩
  ·
   intro j hj
   obtain ⟨b,off,cu,ha,_,hb,hx⟩:=hints j hj
   exact ⟨b,off,ha,(qaa hb _).trans hx⟩
  ·
   intro b' o' ha hlen hf
   obtain ⟨b,off,cu,ha',hB',_,_⟩:=hints 0 hlen
   rw [ha] at ha'
   obtain ⟨rfl,rfl⟩:b'=b∧o'=off:=by simpa using ha'
   exact Nat.lt_irrefl _ (Nat.lt_of_lt_of_le (hG _ hf) hB')
theorem qg7 (n m:Int) (w:World):Calls Tryz.prog 214 #[.int .i64 n,.int .i64 m] w fun e w'=>e=.returned (.bool (decide (1≤n)&&decide (n≤m)))∧w=w':=by
 by_cases h:1≤n
 ·
  go_enter Tryz.func214,Tryz.ntmps214
  go_wp2
  go_ret
  exact ⟨by simp [h],rfl⟩
 ·
  have hd:=zH (decide_eq_false h)
  go_enter Tryz.func214,Tryz.ntmps214
  go_wp2
  go_ret
  exact ⟨by rw [hd.out];rfl,rfl⟩
theorem qvV:Tells 215 (fun b => !isByte b) where
 calls b w:=by
  go_enter Tryz.func215,Tryz.ntmps215
  go_wp2_with (go_at_call 182;refine (qe1 b w).mono ?_;rintro e w ⟨rfl,rfl⟩)
  go_ret
  exact ⟨rfl,rfl⟩
 run args w:=by go_simp
theorem qlC (p:Ph) (a:Option Addr) (c:Nat) (w:World) (ok:qkP p) (h:qal w a p.bytes):Calls Tryz.prog 203 #[.agg #[.int .i64 p.lanes,.slice a p.bytes.length c,.int .i64 p.clocks,.int .i64 p.read]] w (qkQ true w):=by
 obtain ⟨L,bs,cl,rd⟩:=p
 rcases ok with ⟨hl,h2,h3,h4,h5,h6⟩ | ⟨hl,h2,h3,h4,h5⟩ | ⟨hl,h2,h3,h4,h5⟩
 ·
  obtain rfl:cl=0:=h5
  obtain rfl:rd=0:=h6
  have HC:=zH (fun w' (hi:qal w' a bs)=>qbf 215 _ qvV a c bs w' hi (by have:bs.length≤512:=h3;omega))
  have hany:bs.any (fun b => !isByte b)=false:=by rw [qhf];show (!bs.all isByte)=false;rw [show bs.all isByte=true from h4];rfl
  rw [hany] at HC
  have g0:1≤bs.length:=h2
  have g1:(0:Int)<(bs.length:Int):=by omega
  have g2:(1:Int)≤(bs.length:Int):=by omega
  have g3:(bs.length:Int)≤512:=by have:bs.length≤512:=h3;omega
  have HL:=zH hl
  have H:=zH h
  clear h hany h4 hl h2 h3
  go_enter Tryz.func203,Tryz.ntmps203
  go_wp2_with fail
  refine (qcw _ _ HL.out).mono ?_
  rintro e w1 ⟨rfl,rfl⟩
  go_wp2_with fail
  refine (qg7 _ _ _).mono ?_
  rintro e w1 ⟨rfl,rfl⟩
  simp only [g2,g3,decide_true,Bool.and_true]
  go_wp2_with fail
  refine (HC.out _ (H.out.later (qac (Below.refl _ _) _))).mono ?_
  rintro e w' ⟨rfl,n,rfl⟩
  go_wp2_with fail
  go_ret
  exact ⟨rfl,qao (qac (Below.refl _ _) _) _⟩
 ·
  obtain rfl:bs=[]:=h2
  obtain rfl:cl=0:=h5
  have g2:1≤rd:=h3
  have g3:rd≤512:=h4
  have g4:(rd != 0)=true:=bne_iff_ne.2 (by omega)
  have HL:=zH hl
  clear h hl h3 h4
  go_enter Tryz.func203,Tryz.ntmps203
  go_wp2_with fail
  refine (qcw _ _ HL.out).mono ?_
  rintro e w1 ⟨rfl,rfl⟩
  go_wp2_with fail
  refine (qg7 _ _ _).mono ?_
  rintro e w1 ⟨rfl,rfl⟩
  simp only [g2,g3,decide_true,Bool.and_true]
  go_wp2_with fail
  go_ret
  exact ⟨rfl,qac (Below.refl _ _) _⟩
 ·
  obtain rfl:L=0:=hl
  obtain rfl:bs=[]:=h2
  obtain rfl:rd=0:=h3
  have g2:1≤cl:=h4
  have g3:cl≤400:=h5
  clear h h4 h5
  go_enter Tryz.func203,Tryz.ntmps203
  go_wp2_with fail
  refine (qg7 _ _ _).mono ?_
  rintro e w1 ⟨rfl,rfl⟩
  simp only [g2,g3,decide_true,Bool.and_true]
  go_wp2_with fail
  go_ret
  exact ⟨rfl,qac (Below.refl _ _) _⟩
def qpB (w:World) (e:Ending) (w':World):Prop := ∃ z:Int,e=.returned (.tuple #[.int .i64 z,.int .i64 0])∧Below w.heap.size w w'
theorem qhC (b o cap:Nat) (ps:List Ph) (w:World) (h:qbM w b o ps (fun _=>False)) (ok : ∀ i,i<ps.length→qkP (ps.getD i Ph.none)) (hl:ps.length≤100):Calls Tryz.prog 194 #[.slice (some ⟨b,o,none⟩) ps.length cap] w (qpB w):=by
 have HM:=zH (fun (w':World) (p:Ph) (a:Option Addr) (c:Nat) (h1:qkP p) (h2:qal w' a p.bytes)=>qlC p a c w' h1 h2)
 have HO:=zH ok
 have HH:=zH h
 clear ok h
 go_enter Tryz.func194,Tryz.ntmps194
 go_wp2_with fail
 go_loopw [4,9] (fun z i wr => ∃ (k:Nat) (y:Int),k≤ps.length∧i=.int .i64 k∧z=.int .i64 y∧Below w.heap.size w wr) (fun _ i _=>ps.length - (intOf i).toNat)
 case atStart=>exact ⟨0,0,Nat.zero_le _,rfl,rfl,Below.refl _ _⟩
 case round =>
  obtain ⟨k,y,hk,rfl,rfl,hb⟩:=hrel
  by_cases hlt:k<ps.length
  ·
   obtain ⟨a,c,hc,hn⟩:=(HH.out.step (Step.of_below (F:=fun _=>False) hb)).ph k hlt
   have hok:=zH (HO.out k hlt)
   obtain ⟨c0,c1,c2,c3,hi⟩:=hc
   have HI:=zH hi
   have HB:=zH hb
   clear hi hb hn
   generalize ps.getD k Ph.none=p at *
   have HMc:=zH (HM.out (wr.alloc (.cells #[.int .i64 p.lanes,.slice a p.bytes.length c,.int .i64 p.clocks,.int .i64 p.read] 281)) p a c hok.out (HI.out.later (qac (Below.refl _ _) _)))
   have hnb:=qad wr (.cells #[.int .i64 p.lanes,.slice a p.bytes.length c,.int .i64 p.clocks,.int .i64 p.read] 281)
   have HN:=zH hnb
   have HBB:=zH (gtr HB.out (qac (Below.refl wr.heap.size wr) (.cells #[.int .i64 p.lanes,.slice a p.bytes.length c,.int .i64 p.clocks,.int .i64 p.read] 281)))
   clear hnb
   go_wp2_with fail
   refine HMc.out.mono ?_
   rintro e w2 ⟨rfl,hb2⟩
   have hN2:=qab hb2 HN.out
   have d0:w2.cell? ⟨wr.heap.size,0,none⟩=some (.int .i64 p.lanes):=qaa hN2 0
   have d1:w2.cell? ⟨wr.heap.size,1,none⟩=some (.slice a p.bytes.length c):=qaa hN2 1
   have d2:w2.cell? ⟨wr.heap.size,2,none⟩=some (.int .i64 p.clocks):=qaa hN2 2
   have d3:w2.cell? ⟨wr.heap.size,3,none⟩=some (.int .i64 p.read):=qaa hN2 3
   have HB2:=zH (gtr HBB.out hb2)
   clear hN2 hb2 c0 c1 c2 c3 HMc HN HBB
   rcases hok.out with ⟨hL,_⟩ | ⟨hL,_⟩ | ⟨hL,_⟩
   case inr.inr =>
    rw [hL] at d0
    clear hL
    go_wp2_with fail
    go_roundw
    case rel=>exact ⟨k+1,_,by omega,by go_num,rfl,HB2.out⟩
    case measure=>simp [intOf];omega
   all_goals
    have hL0:0<p.lanes:=by omega
    have HML:=zH (fun w'=>(qbH p.lanes w' hL).mono (fun e w'' hx=>(⟨hx.1,hx.2⟩:e=.returned (.int .i64 (many p.lanes))∧w''=w')))
    clear hL
    go_wp2_with fail
    go_quiet ((go_at_call 204;exact Calls.quiet_of_same (HML.out _)))
    go_wp2_with fail
    go_roundw
    case rel=>exact ⟨k+1,_,by omega,by go_num,rfl,qao HB2.out _⟩
    case measure=>simp [intOf];omega
  ·
   obtain rfl:k=ps.length:=by omega
   have HB:=zH hb
   clear hb
   go_wp2_with fail
   go_ret2
   exact ⟨_,rfl,HB.out⟩
end
section
open Go.RowKit
theorem qwb (c:Nat) (m:qae) (F:Nat→Prop) (w:World) (h:qan w c m F) (ok:m.Ok) (k0:m.stage≠0) (k1:m.stage≠1) (hw:m.whole=true) (b1:m.op.byte=1):Calls Tryz.prog 209 #[.pointer (some ⟨c,0,none⟩)] w (qbv c m.does F w):=by
 obtain ⟨s,h⟩:=h.open
 have hs:=h.says
 have c26:w.cell? ⟨c,26,none⟩=some (.int .i64 m.stage):=by rw [← hs.stage];exact qaa h.raw 26
 have hlt:=h.raw.lt
 have g0:(m.stage == 0)=false:=beq_eq_false_iff_ne.2 k0
 have g1:(m.stage == 1)=false:=beq_eq_false_iff_ne.2 k1
 have hwh:=qbm c s w h.raw (by rw [hs.op];exact ok.op)
 rw [hs.op,hs.stage,hs.left,hs.beyond,show (if m.op.inn=true then decide (m.stage=5)&&decide (m.left=8) else if m.op.data=0 then decide (m.stage=7) && !m.beyond else true)=m.whole from rfl,hw] at hwh
 have HW:=zH hwh
 have HH:=zH h
 have HOK:=zH ok
 clear hwh hw k0 k1 h ok hs
 go_enter Tryz.func209,Tryz.ntmps209
 go_upto_region 2 with (go_at_call 223;refine HW.out.mono ?_;rintro e w1 ⟨rfl,n1,rfl⟩)
 have h:=HH.out.later (qao (Below.refl _ _) n1)
 have st:Step F F w (w.drewN n1):=Step.of_below (qao (Below.refl _ _) n1)
 generalize w.drewN n1=w1 at *
 clear HH HW c26 g0 g1 hlt
 have hs:=h.says
 have c20:w1.cell? ⟨c,20,none⟩=some (.int .i64 m.op.byte):=by rw [← hs.op];exact qaa h.raw 20
 have c16:w1.cell? ⟨c,16,none⟩=some (.bool m.en):=by rw [← hs.en];exact qaa h.raw 16
 have E:=zH (show m.does=m.puts by unfold qae.does;rw [b1];rfl)
 rw [b1] at c20
 obtain ⟨da,dc,hda,hints⟩:=(qar.of_own h.data).ints
 have hdc:m.data.length≤dc:=by
  rcases h.data.2 with ⟨e,e2⟩ | ⟨g,cap,cur,e,_,_,e4,_⟩
  ·
   have e2':m.data.length=0:=e2
   omega
  ·
   rw [hda] at e
   obtain ⟨_,rfl⟩:da=some ⟨g,0,none⟩∧dc=cap:=by simpa using e
   exact e4
 have c32:w1.cell? ⟨c,32,none⟩=some (.slice da m.data.length dc):=by rw [← hda];exact qaa h.raw 32
 have H1:=zH h
 have ST:=zH st
 have HDA:=zH hda
 have HI:=zH hints
 clear h hs st b1 HOK hda hints
 cases hen:m.en with
 | false =>
  rw [hen] at c16
  have EP:=zH (show m.puts=m by unfold qae.puts;rw [hen];rfl)
  clear hen
  go_wp2_with fail
  go_end0
  rw [E.out,EP.out]
  exact qaH H1.out ST.out
 | true =>
  rw [hen] at c16
  by_cases hl:m.data.length=2
  ·
   have EP:=zH (show m.puts={ m with prot:=bits .and .i64 (m.data.getD 0 0) 4 != 0,quad:=bits .and .i64 (m.data.getD 1 0) 2 != 0,en:=false } by unfold qae.puts;rw [if_pos ⟨hen,hl⟩])
   obtain ⟨b,off,hb,hc0⟩:=HI.out 0 (by omega)
   obtain ⟨b',off',hb',hc1⟩:=HI.out 1 (by omega)
   rw [hb] at hb'
   obtain ⟨rfl,rfl⟩:b=b'∧off=off':=by simpa using hb'
   rw [Nat.add_zero] at hc0
   rw [hb,hl] at c32
   rw [hl] at hdc
   have hbc:b≠c:=by
    rintro rfl
    obtain ⟨cur,hcur⟩:=qbP H1.out.data (g:=b) (by rw [HDA.out,hb];rfl)
    have:=hcur.symm.trans H1.out.raw;simp at this
   have d32:=c32
   clear c32
   have d0:w1.cell? ⟨b,off,none⟩=some (.int .i64 (m.data.getD 0 0)):=hc0
   have d1:w1.cell? ⟨b,off+1,none⟩=some (.int .i64 (m.data.getD 1 0)):=hc1
   have r0:qas w1 c s:=H1.out.raw
   clear hc0 hc1 HI hen hl
   generalize m.data.getD 0 0=v0 at *
   generalize m.data.getD 1 0=v1 at *
   obtain ⟨p,hp⟩ : ∃ p,(bits .and .i64 v0 4 != 0)=p:=⟨_,rfl⟩
   obtain ⟨q,hq⟩ : ∃ q,(bits .and .i64 v1 2 != 0)=q:=⟨_,rfl⟩
   rw [hp,hq] at EP
   have x1:w1.cell? ⟨c,1,none⟩=some (.bool s.prot):=qaa r0 1
   have y1:w1.frozen? ⟨c,1,none⟩=false:=qah r0 1
   have r1:qas (w1.setCell ⟨c,1,none⟩ (.bool p)) c { s with prot:=p }:=qag (i:=1) (v:=.bool p) r0
   have x2:(w1.setCell ⟨c,1,none⟩ (.bool p)).cell? ⟨c,2,none⟩=some (.bool s.quad):=qaa r1 2
   have y2:(w1.setCell ⟨c,1,none⟩ (.bool p)).frozen? ⟨c,2,none⟩=false:=qah r1 2
   have r2:qas ((w1.setCell ⟨c,1,none⟩ (.bool p)).setCell ⟨c,2,none⟩ (.bool q)) c { s with prot:=p,quad:=q }:=qag (i:=2) (v:=.bool q) r1
   have x3:((w1.setCell ⟨c,1,none⟩ (.bool p)).setCell ⟨c,2,none⟩ (.bool q)).cell? ⟨c,16,none⟩=some (.bool s.en):=qaa r2 16
   have y3:((w1.setCell ⟨c,1,none⟩ (.bool p)).setCell ⟨c,2,none⟩ (.bool q)).frozen? ⟨c,16,none⟩=false:=qah r2 16
   have r3:qas (((w1.setCell ⟨c,1,none⟩ (.bool p)).setCell ⟨c,2,none⟩ (.bool q)).setCell ⟨c,16,none⟩ (.bool false)) c { s with prot:=p,quad:=q,en:=false }:=qag (i:=16) (v:=.bool false) r2
   have u1:=World.cell?_setCell_other w1 ⟨c,1,none⟩ ⟨b,off,none⟩ (.bool p) (by intro e;exact hbc (congrArg Addr.block e).symm)
   have u2:=World.cell?_setCell_other w1 ⟨c,1,none⟩ ⟨b,off+1,none⟩ (.bool p) (by intro e;exact hbc (congrArg Addr.block e).symm)
   have k1:(w1.setCell ⟨c,1,none⟩ (.bool p)).cell? ⟨c,32,none⟩=some (.slice (some ⟨b,off,none⟩) 2 dc):=(World.cell?_setCell_other _ ⟨c,1,none⟩ ⟨c,32,none⟩ _ (by simp)).trans d32
   have k2:((w1.setCell ⟨c,1,none⟩ (.bool p)).setCell ⟨c,2,none⟩ (.bool q)).cell? ⟨c,32,none⟩=some (.slice (some ⟨b,off,none⟩) 2 dc):=(World.cell?_setCell_other _ ⟨c,2,none⟩ ⟨c,32,none⟩ _ (by simp)).trans k1
   have k3:(((w1.setCell ⟨c,1,none⟩ (.bool p)).setCell ⟨c,2,none⟩ (.bool q)).setCell ⟨c,16,none⟩ (.bool false)).cell? ⟨c,32,none⟩=some (.slice (some ⟨b,off,none⟩) 2 dc):=(World.cell?_setCell_other _ ⟨c,16,none⟩ ⟨c,32,none⟩ _ (by simp)).trans k2
   have far : ∀ (wx:World) (i j:Nat) (v x:Value),wx.cell? ⟨b,j,none⟩=some v→(wx.setCell ⟨c,i,none⟩ x).cell? ⟨b,j,none⟩=some v:=fun wx i j v x hv=>(World.cell?_setCell_other _ _ _ _ (by intro e;exact hbc (congrArg Addr.block e).symm)).trans hv
   have t:=(((Touch.refl (Only c) w1).set c 1 (.bool p) rfl).set c 2 (.bool q) rfl).set c 16 (.bool false) rfl
   have hs:=H1.out.says
   have h2:=H1.out.block (m':={ m with prot:=p,quad:=q,en:=false }) r3 ⟨hs.cells,rfl,rfl,hs.sel,rfl,hs.goes,hs.op,hs.stage,hs.left,hs.got,hs.addr,hs.mode,hs.moded,hs.told,hs.now,hs.beyond,hs.once⟩ t rfl rfl rfl rfl rfl rfl
   have H2:=zH (zA (h2.later (qai (Below.refl _ _))) ((ST.out.trans (H1.out.step t)).trans (Step.of_below (qai (Below.refl _ _)))))
   have FAR:=zH far
   have K1:=zH (zA k1 (zA (far _ 1 _ _ (.bool p) d0) (far _ 1 _ _ (.bool p) d1)))
   have K2:=zH (zA k2 (zA (far _ 2 _ _ (.bool q) K1.out.2.1) (far _ 2 _ _ (.bool q) K1.out.2.2)))
   have K3:=zH (zA k3 (zA (far _ 16 _ _ (.bool false) K2.out.2.1) (far _ 16 _ _ (.bool false) K2.out.2.2)))
   clear far t hs h2 r0 r1 r2 r3 k1 k2 k3 u1 u2 hb hb' hbc
   have i0:(0:Int)<2:=by decide
   go_wp2_with fail
   refine wp_region_noPanic ?_
   refine wp_region_held_drew (S:=(fun w'=>w'.cell? ⟨c,32,none⟩=some (.slice (some ⟨b,off,none⟩) 2 dc)∧w'.cell? ⟨b,off,none⟩=some (.int .i64 v0)∧w'.cell? ⟨b,off+1,none⟩=some (.int .i64 v1))) (by kernel_rfl) ?hS15000 (fun hHeld => ?_)
   case hS15000=>(try dsimp only);exact ⟨d32,d0,d1⟩
   refine tk 0 ?_
   refine tk 1 ?_
   refine tk 2 ?_
   refine tk 3 ?_
   refine tk 4 ?_
   refine tk 5 ?_
   refine tk 6 ?_
   refine tk 7 ?_
   refine tk 8 ?_
   refine tk 9 ?_
   refine tk 10 ?_
   refine tk 11 ?_
   refine tk 12 ?_
   refine tk 13 ?_
   refine tk 14 ?_
   refine tk 15 ?_
   refine tk 16 ?_
   refine tk 17 ?_
   refine tk 18 ?_
   refine tk 19 ?_
   refine tk 20 ?_
   refine tr 21 fun K hK => ?_
   go_simp
   refine hK.out _ _ ?hS15021 (fun hHeld => ?_)
   case hS15021=>(try dsimp only);exact K1.out
   clear hK K
   try simp only [Act.put,zS,zT,zU]
   refine tk 22 ?_
   refine tk 23 ?_
   refine tr 24 fun K hK => ?_
   go_simp
   refine hK.out _ _ ?hS15024 (fun hHeld => ?_)
   case hS15024=>(try dsimp only);exact K2.out
   clear hK K
   try simp only [Act.put,zS,zT,zU]
   refine tk 25 ?_
   refine tk 26 ?_
   refine tk 27 ?_
   refine tr 28 fun K hK => ?_
   go_simp
   refine hK.out _ _ ?hS15028 (fun hHeld => ?_)
   case hS15028=>(try dsimp only);exact K3.out
   clear hK K
   try simp only [Act.put,zS,zT,zU]
   refine wpAnyH_done (by kernel_rfl) ?_ _
   refine NoPanic.normal ?_
   go_wp2_with fail
   go_end0
   rw [E.out,EP.out]
   exact qaH H2.out.1 H2.out.2
  ·
   have hlb:((m.data.length:Int) == 2)=false:=beq_eq_false_iff_ne.2 (by omega)
   have EP:=zH (show m.puts=m by unfold qae.puts;rw [if_neg (fun e=>hl e.2)])
   clear hen hl
   go_wp2_with fail
   go_end0
   rw [E.out,EP.out]
   exact qaH H1.out ST.out
theorem qps {m:qae} (ok:m.Ok):m.unsel.Ok:=⟨ok.size,ok.job,ok.addr0,ok.addr1,ok.op,ok.data⟩
theorem qil (c:Nat) (m:qae) (F:Nat→Prop) (w:World) (h:qan w c m F) (ok:m.Ok) (hsel:m.sel=true):Calls Tryz.prog 197 #[.pointer (some ⟨c,0,none⟩)] w (qkN 0 c m.deselect F w) :=
 qf3 c m F w h ok hsel fun b k0 k1 hw w' h'=>qwb c m.unsel F w' h' (qps ok) k0 k1 hw b
end
section
open Go.RowKit
structure Drv where
 chip:qae
 out:List Int
 n:Nat
 most:Int
def Drv.stop (d:Drv):Bool:=decide (0≤d.most)&&decide (d.most≤(d.n:Int))
def Drv.tick (d:Drv) (x:Int):Drv:={ d with chip:=(d.chip.clock x).2,n:=d.n+1 }
def Drv.said (d:Drv) (x:Int):Int:=(d.chip.clock x).1
def Drv.row:List Int→Drv→Bool×Drv
 | [],d=>(true,d)
 | x::r,d=>if d.stop=true then (false,d) else Drv.row r (d.tick x)
def qb2 (L x:Int):Int:=if L=1 then 14+x else x
def heard (L x:Int):Int:=if L=1 then x / 2 % 2 else x
def Drv.hear (L:Int):Nat→List Int→Drv→Bool×List Int×Drv
 | 0,xs,d=>(true,xs,d)
 | k+1,xs,d=>if d.stop=true then (false,xs,d) else Drv.hear L k (xs++[heard L (d.said 15)]) (d.tick 15)
def Drv.put (b L:Int) (d:Drv):Bool×Drv:=Drv.row ((laneOut b L).map (qb2 L)) d
def Drv.got (d:Drv) (L:Int) (r:Bool×List Int×Drv):Bool×Drv:=if r.1=true then (true,{ r.2.2 with out:=r.2.2.out++[laneIn r.2.1 L] }) else (false,r.2.2)
def Drv.get (L:Int) (d:Drv):Bool×Drv:=d.got L (Drv.hear L (many L).toNat [] d)
def Drv.puts (L:Int):List Int→Drv→Bool×Drv
 | [],d=>(true,d)
 | b::r,d=>if (Drv.put b L d).1=true then Drv.puts L r (Drv.put b L d).2 else (false,(Drv.put b L d).2)
def Drv.gets (L:Int):Nat→Drv→Bool×Drv
 | 0,d=>(true,d)
 | k+1,d=>if (Drv.get L d).1=true then Drv.gets L k (Drv.get L d).2 else (false,(Drv.get L d).2)
def andThen (r:Bool×Drv) (f:Drv→Bool×Drv):Bool×Drv:=if r.1=true then f r.2 else (false,r.2)
def Drv.phase (p:Ph) (d:Drv):Bool×Drv:=andThen (Drv.puts p.lanes p.bytes d) fun d1=>andThen (Drv.row (List.replicate p.clocks.toNat 15) d1) fun d2=>Drv.gets p.lanes p.read.toNat d2
def Drv.phases:List Ph→Drv→Bool×Drv
 | [],d=>(true,d)
 | p::r,d=>andThen (Drv.phase p d) (Drv.phases r)
structure Drv.Fit (d:Drv) (k:Nat):Prop where
 chip:d.chip.Fit d.n
 few:d.n+k<1099511627776
theorem qea {d:Drv} {k:Nat} (h:d.Fit (k+1)) (x:Int):(d.tick x).Fit k:=⟨qrp h.chip x (by have:=h.few;omega),by have:=h.few;show d.n+1+k<_;omega⟩
theorem qpJ (now data left:Int) (h:data=1∨data=4):0≤bitsOf now data left∧bitsOf now data left≤15:=by
 unfold bitsOf
 split <;> omega
theorem qkw {d:Drv} {k:Nat} (h:d.Fit k) (x:Int):0≤d.said x∧d.said x≤15:=by
 have q:(0:Int)≤15∧(15:Int)≤15:=by decide
 unfold Drv.said qae.clock
 split
 ·
  unfold qae.step
  split
  ·
   exact q
  split
  ·
   exact q
  split
  ·
   exact q
  split
  ·
   exact q
  split
  ·
   exact q
  split
  ·
   rename_i hs
   exact qpJ _ _ _ ((qhN h.chip).part.row6 hs).1
  split
  ·
   exact q
  ·
   exact q
 ·
  exact q
theorem qaA {d:Drv} {k j:Nat} (h:d.Fit k) (hj:j≤k):d.Fit j:=⟨h.chip,by have:=h.few;omega⟩
theorem qoa : ∀ (xs:List Int) (d:Drv) (k:Nat),d.Fit (xs.length+k)→(Drv.row xs d).2.Fit k
 | [],d,k,h=>by simpa [Drv.row] using h
 | x::r,d,k,h=>by
  unfold Drv.row
  split
  ·
   exact qaA h (by omega)
  ·
   exact qoa r (d.tick x) k (qea (by have e:(x::r).length+k=r.length+k+1:=(by simp;omega);rw [e] at h;exact h) x)
theorem qoX (L:Int) : ∀ (j:Nat) (xs:List Int) (d:Drv) (k:Nat),d.Fit (j+k)→(Drv.hear L j xs d).2.2.Fit k
 | 0,xs,d,k,h=>by simpa [Drv.hear] using h
 | j+1,xs,d,k,h=>by
  unfold Drv.hear
  split
  ·
   exact qaA h (by omega)
  ·
   exact qoX L j _ (d.tick 15) k (qea (by have e:j+1+k=j+k+1:=(by omega);rw [e] at h;exact h) 15)
theorem qnN (b L:Int):(laneOut b L).length≤8:=by unfold laneOut;split <;> simp
theorem qsu (b L:Int) (d:Drv) (k:Nat) (h:d.Fit (8+k)):(Drv.put b L d).2.Fit k:=by
 unfold Drv.put
 refine qoa _ _ _ (qaA h ?_)
 have:=qnN b L
 simp;omega
theorem qvv (L:Int):(many L).toNat≤8:=by unfold many;split <;> decide
theorem qvl (L:Int) (d:Drv) (r:Bool×List Int×Drv) (k:Nat) (h:r.2.2.Fit k):(d.got L r).2.Fit k:=by
 unfold Drv.got
 split
 ·
  exact ⟨h.chip,h.few⟩
 ·
  exact h
theorem qrM (L:Int) (d:Drv) (k:Nat) (h:d.Fit (8+k)):(Drv.get L d).2.Fit k:=qvl L d _ k (qoX L _ _ _ _ (qaA h (by have:=qvv L;omega)))
theorem qpg (L:Int) : ∀ (bs:List Int) (d:Drv) (k:Nat),d.Fit (8 * bs.length+k)→(Drv.puts L bs d).2.Fit k
 | [],d,k,h=>by simpa [Drv.puts] using h
 | b::r,d,k,h=>by
  have hp:=qsu b L d (8 * r.length+k) (qaA h (by simp;omega))
  unfold Drv.puts
  split
  ·
   exact qpg L r _ k hp
  ·
   exact qaA hp (by omega)
theorem qoP (L:Int) : ∀ (j:Nat) (d:Drv) (k:Nat),d.Fit (8 * j+k)→(Drv.gets L j d).2.Fit k
 | 0,d,k,h=>by simpa [Drv.gets] using h
 | j+1,d,k,h=>by
  have hp:=qrM L d (8 * j+k) (qaA h (by omega))
  unfold Drv.gets
  split
  ·
   exact qoP L j _ k hp
  ·
   exact qaA hp (by omega)
def qbp:Nat:=10000
theorem qmG (p:Ph) (ok:qkP p) (d:Drv) (k:Nat) (h:d.Fit (qbp+k)):(Drv.phase p d).2.Fit k:=by
 have hb:p.bytes.length≤512:=by rcases ok with h | h | h <;> simp_all
 have hr:p.read.toNat≤512:=by rcases ok with ⟨_,_,_,_,_,h⟩ | ⟨_,_,_,h,_⟩ | ⟨_,_,h,_⟩ <;> omega
 have hc:p.clocks.toNat≤400:=by rcases ok with ⟨_,_,_,_,h,_⟩ | ⟨_,_,_,_,h⟩ | ⟨_,_,_,_,h⟩ <;> omega
 have h1:=qpg p.lanes p.bytes d (5000+k) (qaA h (by unfold qbp;omega))
 unfold Drv.phase andThen
 dsimp only
 split
 ·
  have h2:=qoa (List.replicate p.clocks.toNat 15) _ (4500+k) (qaA h1 (by simp;omega))
  split
  ·
   exact qoP p.lanes p.read.toNat _ k (qaA h2 (by omega))
  ·
   exact qaA h2 (by omega)
 ·
  exact qaA h1 (by omega)
theorem qmY (m:qae) (x:Int):(m.step x).2.busy=m.busy∧(m.step x).2.home=m.home:=by
 unfold qae.step
 split
 ·
  unfold qae.step0;split;exact ⟨(qep _ _).2.1,qfE _ _⟩;exact ⟨rfl,rfl⟩
 split
 ·
  unfold qae.step2;split;exact ⟨(qcb _).2.1,qct _⟩;exact ⟨rfl,rfl⟩
 split
 ·
  unfold qae.step3;split;exact ⟨(qcb _).2.1,qct _⟩;exact ⟨rfl,rfl⟩
 split
 ·
  unfold qae.step4;split;exact ⟨(qcb _).2.1,qct _⟩;exact ⟨rfl,rfl⟩
 split
 ·
  unfold qae.step5;split;exact ⟨(qcb _).2.1,qct _⟩;exact ⟨rfl,rfl⟩
 split
 ·
  unfold qae.says qae.next;split <;> exact ⟨rfl,rfl⟩
 split <;> exact ⟨rfl,rfl⟩
theorem qmF (m:qae):m.pass.home=m.home:=by
 unfold qae.pass;cases m.job with | none=>rfl | some j=>simp only;split;rfl;split <;> rfl
theorem qbq (m:qae) (x:Int):(m.clock x).2.busy=m.busy∧(m.clock x).2.home=m.home:=by
 obtain ⟨_,_,_,_,_,_,_,_,_,_,_,_,_,_,_,eb⟩:=qhM m
 unfold qae.clock
 split
 ·
  exact ⟨(qmY _ _).1.trans eb,(qmY _ _).2.trans (qmF m)⟩
 ·
  exact ⟨eb,qmF m⟩
theorem qan.home {w:World} {c:Nat} {m:qae} {F:Nat→Prop} (h:qan w c m F) (hb:0<m.busy.length):m.home<w.heap.size ∧ ¬ F m.home:=by
 obtain ⟨s,h⟩:=h.open
 obtain ⟨a,cc,h1,h2,h3,h4,h5,h6⟩:=h.busy.ex
 obtain ⟨b,o,g1,g2⟩:=h2 0 hb
 have e:=h6 b o g1 hb
 rw [← e]
 exact ⟨World.block_lt_of_cell? w _ g2,h3 b o g1 hb⟩
theorem qan.far {w w':World} {c:Nat} {m:qae} {F G:Nat→Prop} (h:qan w c m F) (t:Touch G w w') (hG : ∀ b,F b → ¬ G b) (hh:0<m.busy.length → ¬ G m.home):qan w' c m F:=by
 obtain ⟨s,h⟩:=h.open
 obtain ⟨a,cc,h1,h2,h3,h4,h5,h6⟩:=h.busy.ex
 have hj:=h.job
 refine qaw.shut (s:=s) ⟨t.at h.raw (hG c h.own),h.says,?_,⟨a,cc,h1,qaY h2 t (fun b o e hl hg=>hh hl (by rw [← h6 b o e hl];exact hg)),h3,h4,h5,h6⟩,qbR h.data t (fun g hg=>hG g (h.ownData g hg)),h.own,h.ownJob,h.ownData,fun b hb=>Nat.lt_of_lt_of_le (h.lt b hb) t.size⟩
 cases hm:m.job with
 | none=>rw [hm] at hj;exact hj
 | some j =>
  rw [hm] at hj
  obtain ⟨b,e1,e2⟩:=hj
  exact ⟨b,e1,t.at e2 (hG b (h.ownJob b e1))⟩
structure qb6 (w:World) (p c:Nat) (d:Drv) (G:Nat→Prop):Prop where
 ex : ∃ (F:Nat→Prop) (ov:Value),w.heap[p]? = some (.cells #[.pointer (some ⟨c,0,none⟩),ov,.int .i64 (d.n:Int),.int .i64 d.most] 291 (0,0))∧qan w c d.chip F∧w.ownsRow 0 3 1 ov d.out.length (intVals d.out) ∧ ¬ F p∧(∀ g,ov.ownBlock=some g → ¬ F g)∧(∀ b,F b→G b)∧G p∧(∀ g,ov.ownBlock=some g→G g∧p≤g)∧(0<d.chip.busy.length → ¬ G d.chip.home)
 lt : ∀ b,G b→b<w.heap.size
theorem qb6.later {w w':World} {p c:Nat} {d:Drv} {G:Nat→Prop} (h:qb6 w p c d G) (hb:Below w.heap.size w w'):qb6 w' p c d G:=by
 obtain ⟨⟨F,ov,h1,h2,h3,h4⟩,hlt⟩:=h
 exact ⟨⟨F,ov,qab hb h1,h2.later hb,World.ownsRow.later h3 hb,h4⟩,fun b hb'=>Nat.lt_of_lt_of_le (hlt b hb') hb.size⟩
def qfz (x:Bool) (p c:Nat) (d:Drv) (G:Nat→Prop) (w:World) (e:Ending) (w':World):Prop:=e=.returned (.bool x) ∧ ∃ G',qb6 w' p c d G'∧Step G G' w w'
def qoB (x:Int) (y:Bool) (p c:Nat) (d:Drv) (G:Nat→Prop) (w:World) (e:Ending) (w':World):Prop:=e=.returned (.tuple #[.int .i64 x,.bool y]) ∧ ∃ G',qb6 w' p c d G'∧Step G G' w w'
theorem qeS (p c:Nat) (d:Drv) (G:Nat→Prop) (x:Int) (w:World) (h:qb6 w p c d G) (hs:d.stop=true):Calls Tryz.prog 207 #[.pointer (some ⟨p,0,none⟩),.int .i64 x] w (qoB 0 false p c d G w):=by
 obtain ⟨F,ov,hp,_⟩:=h.ex
 have c2:w.cell? ⟨p,2,none⟩=some (.int .i64 (d.n:Int)):=qaa hp 2
 have c3:w.cell? ⟨p,3,none⟩=some (.int .i64 d.most):=qaa hp 3
 have HH:=zH h
 unfold Drv.stop at hs
 obtain ⟨g1,g2⟩:decide (0≤d.most)=true∧decide (d.most≤(d.n:Int))=true:=by simpa using hs
 clear h hp hs
 go_enter Tryz.func207,Tryz.ntmps207
 go_wp2_with fail
 go_quiet (fail)
 go_wp2_with fail
 go_ret2
 exact ⟨rfl,G,HH.out.later (qao (Below.refl _ _) _),Step.of_below (qao (Below.refl _ _) _)⟩
theorem qsU {w w1:World} {p c:Nat} {d:Drv} {G F F':Nat→Prop} {ov:Value} {x:Int} {w0:World} (hG:qb6 w p c d G) (h0:w0=w.setCell ⟨p,2,none⟩ (.int .i64 ((d.n:Int)+1))) (hp:w.heap[p]? = some (.cells #[.pointer (some ⟨c,0,none⟩),ov,.int .i64 (d.n:Int),.int .i64 d.most] 291 (0,0))) (ho:w.ownsRow 0 3 1 ov d.out.length (intVals d.out)) (hFp : ¬ F p) (hFo : ∀ g,ov.ownBlock=some g → ¬ F g) (hFG : ∀ b,F b→G b) (hGp:G p) (hGo : ∀ g,ov.ownBlock=some g→G g∧p≤g) (hh:0<d.chip.busy.length → ¬ G d.chip.home) (hhl:0<d.chip.busy.length→d.chip.home<w.heap.size) (h1:qan w1 c (d.chip.clock x).2 F') (st:Step F F' w0 w1) : ∃ G',qb6 w1 p c (d.tick x) G'∧Step G G' w w1:=by
 subst h0
 have hsz:(w.setCell ⟨p,2,none⟩ (.int .i64 ((d.n:Int)+1))).heap.size=w.heap.size:=World.size_setCell _ _ _
 have hpl:p<w.heap.size:=qat hp
 have q1:(w.setCell ⟨p,2,none⟩ (.int .i64 ((d.n:Int)+1))).heap[p]? = some (.cells #[.pointer (some ⟨c,0,none⟩),ov,.int .i64 ((d.n:Int)+1),.int .i64 d.most] 291 (0,0)):=qag (i:=2) hp
 have t0:Touch G w (w.setCell ⟨p,2,none⟩ (.int .i64 ((d.n:Int)+1))):=(Touch.refl G w).set p 2 _ hGp
 have hop : ∀ g,ov.ownBlock=some g→g≠p:=by
  rintro g hg rfl
  obtain ⟨cur,hc⟩:=qbP ho hg
  have:=hc.symm.trans hp;simp at this
 have o1:=qbR (F:=Only p) ho ((Touch.refl (Only p) w).set p 2 (.int .i64 ((d.n:Int)+1)) rfl) (fun g hg e=>hop g hg e)
 have F'p : ¬ F' p:=st.safe (by rw [hsz];exact hpl) hFp
 refine ⟨fun b=>F' b∨G b,⟨⟨F',ov,(st.touch.at q1 hFp),h1,qbR o1 st.touch hFo,F'p,fun g hg => ?_,fun b hb=>.inl hb,.inr hGp,fun g hg=>⟨.inr (hGo g hg).1,(hGo g hg).2⟩,?_⟩,?_⟩,?_⟩
 ·
  obtain ⟨cur,hc⟩:=qbP o1 hg
  exact st.safe (qat hc) (hFo g hg)
 ·
  obtain ⟨eb,eh⟩:=qbq d.chip x
  intro hl hg
  have hl':0<d.chip.busy.length:=by rw [← eb];exact hl
  have hl2:d.chip.home<w.heap.size:=hhl hl'
  have hg':F' d.chip.home∨G d.chip.home:=by rw [← eh];exact hg
  rcases hg' with hg' | hg'
  ·
   exact st.safe (by rw [hsz];exact hl2) (fun hf=>hh hl' (hFG _ hf)) hg'
  ·
   exact hh hl' hg'
 ·
  intro b hb
  rcases hb with hb | hb
  ·
   exact h1.lt b hb
  ·
   exact Nat.lt_of_lt_of_le (hG.lt b hb) (by rw [← hsz];exact st.touch.size)
 ·
  refine ⟨t0.trans (st.touch.mono hFG),fun b hb => ?_⟩
  rcases hb with hb | hb
  ·
   rcases st.foot b hb with hf | hf
   ·
    exact .inl (hFG b hf)
   ·
    exact .inr (by rw [hsz] at hf;exact hf)
  ·
   exact .inl hb
theorem qjo (p c:Nat) (d:Drv) (G:Nat→Prop) (k:Nat) (x:Int) (w:World) (h:qb6 w p c d G) (fit:d.Fit k) (hs:d.stop=false) (hx0:0≤x) (hx1:x≤15):Calls Tryz.prog 207 #[.pointer (some ⟨p,0,none⟩),.int .i64 x] w (qoB (d.said x) true p c (d.tick x) G w):=by
 have HH:=zH h
 have hcase:decide (0≤d.most)=false∨(decide (0≤d.most)=true∧decide (d.most≤(d.n:Int))=false):=by
  unfold Drv.stop at hs
  cases g:decide (0≤d.most) with
  | false=>exact .inl rfl
  | true=>rw [g] at hs;exact .inr ⟨rfl,by simpa using hs⟩
 have hnb:(d.n:Int)≤1099511627776:=by have:=fit.few;omega
 obtain ⟨F,ov,hp,hch,ho,hFp,hFo,hFG,hGp,hGo,hh⟩:=h.ex
 have c0:w.cell? ⟨p,0,none⟩=some (.pointer (some ⟨c,0,none⟩)):=qaa hp 0
 have c2:w.cell? ⟨p,2,none⟩=some (.int .i64 (d.n:Int)):=qaa hp 2
 have c3:w.cell? ⟨p,3,none⟩=some (.int .i64 d.most):=qaa hp 3
 have HD:=zH (fun (nq:Nat) (F':Nat→Prop) (w1:World) (w0:World) (e0:w0=(w.drewN nq).setCell ⟨p,2,none⟩ (.int .i64 ((d.n:Int)+1))) (h1:qan w1 c (d.chip.clock x).2 F') (st:Step F F' w0 w1) =>
  qsU (w:=w.drewN nq) (h.later (qao (Below.refl _ _) nq)) e0 hp (World.ownsRow.later ho (qao (Below.refl _ _) nq)) hFp hFo hFG hGp hGo hh (fun hl=>(hch.home hl).1) h1 st)
 have HC:=zH (fun (nq:Nat) (w0:World) (e0:w0=(w.drewN nq).setCell ⟨p,2,none⟩ (.int .i64 ((d.n:Int)+1)))=>(qik c d.chip F d.n x w0 (by
  subst e0
  exact (hch.later (qao (Below.refl _ _) nq)).far (G:=Only p) ((Touch.refl _ _).set p 2 _ rfl) (fun b hb e=>hFp (by rw [← show b=p from e];exact hb)) (fun hl e=>hh hl (by rw [show d.chip.home=p from e];exact hGp))) fit.chip (by have:=fit.few;omega) hx0 hx1))
 have f2 : ∀ nq,(w.drewN nq).frozen? ⟨p,2,none⟩=false:=fun nq=>qah (show (w.drewN nq).heap[p]? = _ from hp) 2
 have hpl:p<w.heap.size:=qat hp
 clear h hch ho hp
 rcases hcase with g1 | ⟨g1,g2⟩
 all_goals
  go_enter Tryz.func207,Tryz.ntmps207
  go_wp2_with fail
  go_quiet (fail)
  have d0:(w.drewN nq).cell? ⟨p,0,none⟩=some (.pointer (some ⟨c,0,none⟩)):=c0
  have d2:(w.drewN nq).cell? ⟨p,2,none⟩=some (.int .i64 (d.n:Int)):=c2
  have z2:=f2 nq
  go_wp2_with fail
  refine (HC.out nq _ rfl).mono ?_
  rintro e w1 ⟨rfl,F',h1,st⟩
  have hd:=zH (HD.out nq F' w1 _ rfl h1 st)
  clear h1 st
  go_wp2_with fail
  go_ret2
  obtain ⟨G',hd1,st1⟩:=hd.out
  exact ⟨rfl,G',hd1,(Step.of_below (qao (Below.refl _ _) _)).trans st1⟩
end
end Go.Proofs.YtcfdenckiigdaaaGreat

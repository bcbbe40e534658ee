/- Part 11 of the contracts. -/
import Derived.Test.YtcfdenckiigdaaaGreatFl10
set_option linter.unusedVariables false
set_option maxRecDepth 100000
set_option maxHeartbeats 4000000
namespace Go.Proofs.YtcfdenckiigdaaaGreat
open Tryz
section
open Go.RowKit
def mW (p:Ph):Prop :=
 ((p.bW=1∨p.bW=4)∧1≤p.bytes.length∧p.bytes.length≤512∧p.bytes.all isByte=true∧p.eN=0∧p.read=0) ∨
 ((p.bW=1∨p.bW=4)∧p.bytes=[]∧1≤p.read∧p.read≤512∧p.eN=0) ∨
 (p.bW=0∧p.bytes=[]∧p.read=0∧1≤p.eN∧p.eN≤400)
def Ph.none:Ph:=⟨0,[],0,0⟩
structure qo (w:World) (b o:Nat) (p:Ph) (a:Option Addr) (c:Nat):Prop where
 c0:w.cell? ⟨b,o,none⟩=some (.int .i64 p.bW)
 c1:w.cell? ⟨b,o+1,none⟩=some (.slice a p.bytes.length c)
 c2:w.cell? ⟨b,o+2,none⟩=some (.int .i64 p.eN)
 c3:w.cell? ⟨b,o+3,none⟩=some (.int .i64 p.read)
 ints:aU w a p.bytes
structure eB (w:World) (b o:Nat) (ps:List Ph) (G:Nat→Prop):Prop where
 fB:0<ps.length → ¬ G b
 ph : ∀ i,i<ps.length → ∃ a c,qo w b (o+i * 4) (ps.getD i Ph.none) a c ∧ ∀ b' o',a=some ⟨b',o',Option.none⟩→0<(ps.getD i Ph.none).bytes.length → ¬ G b'
theorem Step.safe {G G':Nat→Prop} {w w':World} (st:Step G G' w w') {b:Nat} (hb:b<w.heap.size) (hn : ¬ G b) : ¬ G' b:=fun h=>(st.ik b h).elim hn (fun hl=>Nat.lt_irrefl _ (zV hb hl))
theorem qo.step {G G':Nat→Prop} {w w':World} {b o:Nat} {p:Ph} {a:Option Addr} {c:Nat} (h:qo w b o p a c) (st:Step G G' w w') (hn : ¬ G b) (hi : ∀ b' o',a=some ⟨b',o',none⟩→0<p.bytes.length → ¬ G b'):qo w' b o p a c :=
 ⟨st.aH.cell _ _ h.c0 hn,st.aH.cell _ _ h.c1 hn,st.aH.cell _ _ h.c2 hn,st.aH.cell _ _ h.c3 hn,dM h.ints st.aH hi⟩
theorem eB.step {G G':Nat→Prop} {w w':World} {b o:Nat} {ps:List Ph} (h:eB w b o ps G) (st:Step G G' w w'):eB w' b o ps G':=by
 refine ⟨fun hp => ?_,fun i hi => ?_⟩
 ·
  obtain ⟨a,c,hc,_⟩:=h.ph 0 hp
  exact st.safe (zL w _ hc.c0) (h.fB hp)
 ·
  obtain ⟨a,c,hc,hn⟩:=h.ph i hi
  have hp:0<ps.length:=Nat.lt_of_le_of_lt zX hi
  refine ⟨a,c,hc.step st (h.fB hp) hn,fun b' o' e hl => ?_⟩
  obtain ⟨b2,o2,g1,g2⟩:=hc.ints 0 hl
  rw [e] at g1
  obtain ⟨rfl,rfl⟩:b'=b2∧o'=o2:=by simpa using g1
  exact st.safe (zL w _ g2) (hn _ _ e hl)
theorem eB.tail {G:Nat→Prop} {w:World} {b o:Nat} {p:Ph} {ps:List Ph} (h:eB w b o (p::ps) G):eB w b (o+4) ps G:=by
 refine ⟨fun hp=>h.fB (by simp),fun i hi => ?_⟩
 obtain ⟨a,c,hc,hn⟩:=h.ph (i+1) (by simp;omega)
 have e:o+(i+1) * 4=o+4+i * 4:=by omega
 rw [e] at hc
 exact ⟨a,c,hc,hn⟩
theorem uC : ∀ (l:List (Ph×Value)) (i:Nat) (hi:i<l.length),(eK l)[i * 4]? = some (.int .i64 l[i].1.bW)∧(eK l)[i * 4+1]? = some l[i].2∧(eK l)[i * 4+2]? = some (.int .i64 l[i].1.eN)∧(eK l)[i * 4+3]? = some (.int .i64 l[i].1.read)
 | [],i,hi=>by simp at hi
 | x::r,0,hi=>by simp [eK]
 | x::r,i+1,hi=>by
  have ih:=uC r i (by simpa using hi)
  have e : ∀ j,(eK (x::r))[(i+1) * 4+j]? = (eK r)[i * 4+j]? := by
   intro j
   have e1:eK (x::r)=[.int .i64 x.1.bW,x.2,.int .i64 x.1.eN,.int .i64 x.1.read]++eK r:=by simp [eK]
   rw [e1,List.getElem?_append_right (by simp;omega)]
   congr 1
   simp;omega
  have e0:=e 0
  have e1:=e 1
  have e2:=e 2
  have e3:=e 3
  simp only [Nat.add_zero] at e0
  exact ⟨e0.trans ih.1,e1.trans ih.2.1,e2.trans ih.2.2.1,e3.trans ih.2.2.2⟩
theorem eB.AU {w:World} {B:Nat} {v:Value} {ps:List Ph} (h:gk w B v ps) (hp:0<ps.length) (G:Nat→Prop) (hG : ∀ b,G b→b<B) : ∃ b cap,v=.slice (some ⟨b,0,none⟩) ps.length cap∧ps.length≤cap∧cap≤maxLen∧eB w b 0 ps G:=by
 obtain ⟨l,rfl,hN,hown⟩:=h
 have hl:(l.map (·.1)).length=l.length:=by simp
 rcases hown.2 with ⟨_,h0⟩ | ⟨g,cap,cur,rfl,hB,hg,hn,hm,hsz,htake⟩
 ·
  rw [hl] at hp;omega
 ·
  refine ⟨g,cap,by rw [hl],by rw [hl];exact hn,hm,fun _ hf=>Nat.lt_irrefl _ (zV (hG g hf) hB),fun i hi => ?_⟩
  rw [hl] at hi
  obtain ⟨q0,q1,q2,q3⟩:=uC l i hi
  obtain ⟨a,c,hv,hints⟩:=hN l[i] (List.getElem_mem hi)
  have ep:(l.map (·.1)).getD i Ph.none=l[i].1:=by simp [List.getD,List.getElem?_eq_getElem hi]
  rw [ep]
  have hcell : ∀ j,j<4 → ∀ v,(eK l)[i * 4+j]? = some v→w.cell? ⟨g,0+i * 4+j,none⟩=some v:=by
   intro j hj v hv
   rw [cell_of hg,Nat.zero_add]
   rw [← htake] at hv
   rw [List.getElem?_take] at hv
   split at hv
   ·
    simpa using hv
   ·
    cases hv
  refine ⟨a,c,⟨hcell 0 (by decide) _ q0,(hcell 1 (by decide) _ q1).trans (by rw [hv]),hcell 2 (by decide) _ q2,hcell 3 (by decide) _ q3,?_⟩,?_⟩
  ·
   intro j hj
   obtain ⟨b,off,cu,ha,_,hb,hx⟩:=hints j hj
   exact ⟨b,off,ha,(cell_of hb _).trans hx⟩
  ·
   intro b' o' ha hlen hf
   obtain ⟨b,off,cu,ha',hB',_,_⟩:=hints 0 hlen
   rw [ha] at ha'
   obtain ⟨rfl,rfl⟩:b'=b∧o'=off:=by simpa using ha'
   exact Nat.lt_irrefl _ (zV (hG _ hf) hB')
theorem qO (n m:Int) (w:World):Calls prog 214 #[.int .i64 n,.int .i64 m] w fun e w'=>e=.returned (.bool (decide (1≤n)&&decide (n≤m)))∧w=w':=by
 by_cases h:1≤n
 ·
  go_enter func214,ntmps214
  go_wp2
  go_ret
  exact ⟨by simp [h],rfl⟩
 ·
  have hd:=zH (decide_eq_false h)
  go_enter func214,ntmps214
  go_wp2
  go_ret
  exact ⟨by rw [hd.out];rfl,rfl⟩
theorem LM:dg 215 (fun b => !isByte b) where
 calls b w:=by
  go_enter func215,ntmps215
  go_wp2_with (go_at_call 182;refine (ns b w).mono ?_;rintro e w ⟨rfl,rfl⟩)
  go_ret
  exact ⟨rfl,rfl⟩
 run args w:=by go_simp
theorem yD (p:Ph) (a:Option Addr) (c:Nat) (w:World) (ok:mW p) (h:aU w a p.bytes):Calls prog 203 #[.agg #[.int .i64 p.bW,.slice a p.bytes.length c,.int .i64 p.eN,.int .i64 p.read]] w (vt true w):=by
 obtain ⟨L,bs,cl,rd⟩:=p
 rcases ok with ⟨hl,h2,h3,h4,h5,h6⟩ | ⟨hl,h2,h3,h4,h5⟩ | ⟨hl,h2,h3,h4,h5⟩
 ·
  obtain rfl:cl=0:=h5
  obtain rfl:rd=0:=h6
  have HC:=zH (fun w' (hi:aU w' a bs)=>fq 215 _ LM a c bs w' hi (by have:bs.length≤512:=h3;omega))
  have hany:bs.any (fun b => !isByte b)=false:=by rw [q8];show (!bs.all isByte)=false;rw [show bs.all isByte=true from h4];rfl
  rw [hany] at HC
  have g0:1≤bs.length:=h2
  have g1:(0:Int)<(bs.length:Int):=by omega
  have g2:(1:Int)≤(bs.length:Int):=by omega
  have g3:(bs.length:Int)≤512:=by have:bs.length≤512:=h3;omega
  have HL:=zH hl
  have H:=zH h
  clear h hany h4 hl h2 h3
  go_enter func203,ntmps203
  go_wp2_with fail
  refine (iZ _ _ HL.out).mono ?_
  rintro e w1 ⟨rfl,rfl⟩
  go_wp2_with fail
  refine (qO _ _ _).mono ?_
  rintro e w1 ⟨rfl,rfl⟩
  simp only [g2,g3,decide_true,Bool.and_true]
  go_wp2_with fail
  refine (HC.out _ (H.out.aj (ae zR _))).mono ?_
  rintro e w' ⟨rfl,n,rfl⟩
  go_wp2
  go_ret
  exact ⟨rfl,aY (ae zR _) _⟩
 ·
  obtain rfl:bs=[]:=h2
  obtain rfl:cl=0:=h5
  have g2:1≤rd:=h3
  have g3:rd≤512:=h4
  have g4:(rd != 0)=true:=bne_iff_ne.2 (by omega)
  have HL:=zH hl
  clear h hl h3 h4
  go_enter func203,ntmps203
  go_wp2_with fail
  refine (iZ _ _ HL.out).mono ?_
  rintro e w1 ⟨rfl,rfl⟩
  go_wp2_with fail
  refine (qO _ _ _).mono ?_
  rintro e w1 ⟨rfl,rfl⟩
  simp only [g2,g3,decide_true,Bool.and_true]
  go_wp2
  go_ret
  exact ⟨rfl,ae zR _⟩
 ·
  obtain rfl:L=0:=hl
  obtain rfl:bs=[]:=h2
  obtain rfl:rd=0:=h3
  have g2:1≤cl:=h4
  have g3:cl≤400:=h5
  clear h h4 h5
  go_enter func203,ntmps203
  go_wp2_with fail
  refine (qO _ _ _).mono ?_
  rintro e w1 ⟨rfl,rfl⟩
  simp only [g2,g3,decide_true,Bool.and_true]
  go_wp2
  go_ret
  exact ⟨rfl,ae zR _⟩
def DM (w:World) (e:Ending) (w':World):Prop := ∃ z:Int,e=.returned (.tuple #[.int .i64 z,.int .i64 0])∧Below w.heap.size w w'
theorem tM (b o cap:Nat) (ps:List Ph) (w:World) (h:eB w b o ps (fun _=>False)) (ok : ∀ i,i<ps.length→mW (ps.getD i Ph.none)) (hl:ps.length≤100):Calls prog 194 #[.slice (some ⟨b,o,none⟩) ps.length cap] w (DM w):=by
 have HM:=zH (fun (w':World) (p:Ph) (a:Option Addr) (c:Nat) (h1:mW p) (h2:aU w' a p.bytes)=>yD p a c w' h1 h2)
 have HO:=zH ok
 have HH:=zH h
 clear ok h
 go_enter func194,ntmps194
 go_wp2
 go_loopw [4,9] (fun z i wr => ∃ (k:Nat) (y:Int),k≤ps.length∧i=.int .i64 k∧z=.int .i64 y∧Below w.heap.size w wr) (fun _ i _=>ps.length - (intOf i).toNat)
 case atStart=>exact ⟨0,0,Nat.zero_le _,rfl,rfl,Below.refl _ _⟩
 case round =>
  obtain ⟨k,y,hk,rfl,rfl,hb⟩:=hrel
  by_cases hlt:k<ps.length
  ·
   obtain ⟨a,c,hc,hn⟩:=(HH.out.step (Step.ah (F:=fun _=>False) hb)).ph k hlt
   have hok:=zH (HO.out k hlt)
   obtain ⟨c0,c1,c2,c3,hi⟩:=hc
   have HI:=zH hi
   have HB:=zH hb
   clear hi hb hn
   generalize ps.getD k Ph.none=p at *
   have HMc:=zH (HM.out (wr.alloc (.cells #[.int .i64 p.bW,.slice a p.bytes.length c,.int .i64 p.eN,.int .i64 p.read] 281)) p a c hok.out (HI.out.aj (ae zR _)))
   have hnb:=af wr (.cells #[.int .i64 p.bW,.slice a p.bytes.length c,.int .i64 p.eN,.int .i64 p.read] 281)
   have HN:=zH hnb
   have HBB:=zH (gtr HB.out (ae (Below.refl wr.heap.size wr) (.cells #[.int .i64 p.bW,.slice a p.bytes.length c,.int .i64 p.eN,.int .i64 p.read] 281)))
   clear hnb
   go_wp2_with fail
   refine HMc.out.mono ?_
   rintro e w2 ⟨rfl,hb2⟩
   have hN2:=aa hb2 HN.out
   have d0:w2.cell? ⟨wr.heap.size,0,none⟩=some (.int .i64 p.bW):=cell_of hN2 0
   have d1:w2.cell? ⟨wr.heap.size,1,none⟩=some (.slice a p.bytes.length c):=cell_of hN2 1
   have d2:w2.cell? ⟨wr.heap.size,2,none⟩=some (.int .i64 p.eN):=cell_of hN2 2
   have d3:w2.cell? ⟨wr.heap.size,3,none⟩=some (.int .i64 p.read):=cell_of hN2 3
   have HB2:=zH (gtr HBB.out hb2)
   clear hN2 hb2 c0 c1 c2 c3 HMc HN HBB
   rcases hok.out with ⟨hL,_⟩ | ⟨hL,_⟩ | ⟨hL,_⟩
   case inr.inr =>
    rw [hL] at d0
    clear hL
    go_wp2
    go_roundw
    case rel=>exact ⟨k+1,_,by omega,by go_num,rfl,HB2.out⟩
    case measure=>simp [intOf];omega
   all_goals
    have hL0:0<p.bW:=by omega
    have HML:=zH (fun w'=>(fR p.bW w' hL).mono (fun e w'' hx=>(⟨hx.1,hx.2⟩:e=.returned (.int .i64 (many p.bW))∧w''=w')))
    clear hL
    go_wp2_with fail
    go_quiet ((go_at_call 204;exact Calls.quiet_of_same (HML.out _)))
    go_wp2
    go_roundw
    case rel=>exact ⟨k+1,_,by omega,by go_num,rfl,aY HB2.out _⟩
    case measure=>simp [intOf];omega
  ·
   obtain rfl:k=ps.length:=by omega
   have HB:=zH hb
   clear hb
   go_wp2
   go_ret2
   exact ⟨_,rfl,HB.out⟩
end
section
open Go.RowKit
theorem L6 (c:Nat) (m:ag) (F:Nat→Prop) (w:World) (h:aS w c m F) (ok:m.Ok) (k0:m.ay≠0) (k1:m.ay≠1) (hw:m.whole=true) (b1:m.op.byte=1):Calls prog 209 #[.pointer (some ⟨c,0,none⟩)] w (fk c m.gp F w):=by
 obtain ⟨s,h⟩:=h.open
 have hs:=h.bU
 have c26:w.cell? ⟨c,26,none⟩=some (.int .i64 m.ay):=by rw [← hs.ay];exact cell_of h.raw 26
 have hlt:=h.raw.lt
 have g0:(m.ay == 0)=false:=zQ k0
 have g1:(m.ay == 1)=false:=zQ k1
 have hwh:=fi c s w h.raw (by rw [hs.op];exact ok.op)
 rw [hs.op,hs.ay,hs.left,hs.beyond,show (if m.op.jB=true then decide (m.ay=5)&&decide (m.left=8) else if m.op.data=0 then decide (m.ay=7) && !m.beyond else true)=m.whole from rfl,hw] at hwh
 have HW:=zH hwh
 have HH:=zH h
 have HOK:=zH ok
 clear hwh hw k0 k1 h ok hs
 go_enter func209,ntmps209
 go_upto_region 2 with (go_at_call 223;refine HW.out.mono ?_;rintro e w1 ⟨rfl,n1,rfl⟩)
 have h:=HH.out.aj (aY zR n1)
 have st:Step F F w (w.drewN n1):=Step.ah (aY zR n1)
 generalize w.drewN n1=w1 at *
 clear HH HW c26 g0 g1 hlt
 have hs:=h.bU
 have c20:w1.cell? ⟨c,20,none⟩=some (.int .i64 m.op.byte):=by rw [← hs.op];exact cell_of h.raw 20
 have c16:w1.cell? ⟨c,16,none⟩=some (.bool m.en):=by rw [← hs.en];exact cell_of h.raw 16
 have E:=zH (show m.gp=m.dB by unfold ag.gp;rw [b1];rfl)
 rw [b1] at c20
 obtain ⟨da,dc,hda,hints⟩:=(bz.dd h.data).ints
 have hdc:m.data.length≤dc:=by
  rcases h.data.2 with ⟨e,e2⟩ | ⟨g,cap,cur,e,_,_,e4,_⟩
  ·
   have e2':m.data.length=0:=e2
   omega
  ·
   rw [hda] at e
   obtain ⟨_,rfl⟩:da=some ⟨g,0,none⟩∧dc=cap:=by simpa using e
   exact e4
 have c32:w1.cell? ⟨c,32,none⟩=some (.slice da m.data.length dc):=by rw [← hda];exact cell_of h.raw 32
 have H1:=zH h
 have ST:=zH st
 have HDA:=zH hda
 have HI:=zH hints
 clear h hs st b1 HOK hda hints
 cases hen:m.en with
 | false =>
  rw [hen] at c16
  have EP:=zH (show m.dB=m by unfold ag.dB;rw [hen];rfl)
  clear hen
  go_wp2_with fail
  go_end0
  rw [E.out,EP.out]
  exact cU H1.out ST.out
 | true =>
  rw [hen] at c16
  by_cases hl:m.data.length=2
  ·
   have EP:=zH (show m.dB={ m with bq:=bits .and .i64 (m.data.getD 0 0) 4 != 0,bk:=bits .and .i64 (m.data.getD 1 0) 2 != 0,en:=false } by unfold ag.dB;rw [if_pos ⟨hen,hl⟩])
   obtain ⟨b,off,hb,hc0⟩:=HI.out 0 (by omega)
   obtain ⟨b',off',hb',hc1⟩:=HI.out 1 (by omega)
   rw [hb] at hb'
   obtain ⟨rfl,rfl⟩:b=b'∧off=off':=by simpa using hb'
   rw [Nat.add_zero] at hc0
   rw [hb,hl] at c32
   rw [hl] at hdc
   have hbc:b≠c:=by
    rintro rfl
    obtain ⟨cur,hcur⟩:=gA H1.out.data (g:=b) (by rw [HDA.out,hb];rfl)
    have:=hcur.symm.trans H1.out.raw;simp at this
   have d32:=c32
   clear c32
   have d0:w1.cell? ⟨b,off,none⟩=some (.int .i64 (m.data.getD 0 0)):=hc0
   have d1:w1.cell? ⟨b,off+1,none⟩=some (.int .i64 (m.data.getD 1 0)):=hc1
   have r0:aV w1 c s:=H1.out.raw
   clear hc0 hc1 HI hen hl
   generalize m.data.getD 0 0=v0 at *
   generalize m.data.getD 1 0=v1 at *
   obtain ⟨p,hp⟩ : ∃ p,(bits .and .i64 v0 4 != 0)=p:=⟨_,rfl⟩
   obtain ⟨q,hq⟩ : ∃ q,(bits .and .i64 v1 2 != 0)=q:=⟨_,rfl⟩
   rw [hp,hq] at EP
   have x1:w1.cell? ⟨c,1,none⟩=some (.bool s.bq):=cell_of r0 1
   have y1:w1.frozen? ⟨c,1,none⟩=false:=aF r0 1
   have r1:aV (w1.setCell ⟨c,1,none⟩ (.bool p)) c { s with bq:=p }:=az (i:=1) (v:=.bool p) r0
   have x2:(w1.setCell ⟨c,1,none⟩ (.bool p)).cell? ⟨c,2,none⟩=some (.bool s.bk):=cell_of r1 2
   have y2:(w1.setCell ⟨c,1,none⟩ (.bool p)).frozen? ⟨c,2,none⟩=false:=aF r1 2
   have r2:aV ((w1.setCell ⟨c,1,none⟩ (.bool p)).setCell ⟨c,2,none⟩ (.bool q)) c { s with bq:=p,bk:=q }:=az (i:=2) (v:=.bool q) r1
   have x3:((w1.setCell ⟨c,1,none⟩ (.bool p)).setCell ⟨c,2,none⟩ (.bool q)).cell? ⟨c,16,none⟩=some (.bool s.en):=cell_of r2 16
   have y3:((w1.setCell ⟨c,1,none⟩ (.bool p)).setCell ⟨c,2,none⟩ (.bool q)).frozen? ⟨c,16,none⟩=false:=aF r2 16
   have r3:aV (((w1.setCell ⟨c,1,none⟩ (.bool p)).setCell ⟨c,2,none⟩ (.bool q)).setCell ⟨c,16,none⟩ (.bool false)) c { s with bq:=p,bk:=q,en:=false }:=az (i:=16) (v:=.bool false) r2
   have u1:=World.cell?_setCell_other w1 ⟨c,1,none⟩ ⟨b,off,none⟩ (.bool p) (by intro e;exact hbc (congrArg Addr.block e).symm)
   have u2:=World.cell?_setCell_other w1 ⟨c,1,none⟩ ⟨b,off+1,none⟩ (.bool p) (by intro e;exact hbc (congrArg Addr.block e).symm)
   have k1:(w1.setCell ⟨c,1,none⟩ (.bool p)).cell? ⟨c,32,none⟩=some (.slice (some ⟨b,off,none⟩) 2 dc):=(World.cell?_setCell_other _ ⟨c,1,none⟩ ⟨c,32,none⟩ _ (by simp)).trans d32
   have k2:((w1.setCell ⟨c,1,none⟩ (.bool p)).setCell ⟨c,2,none⟩ (.bool q)).cell? ⟨c,32,none⟩=some (.slice (some ⟨b,off,none⟩) 2 dc):=(World.cell?_setCell_other _ ⟨c,2,none⟩ ⟨c,32,none⟩ _ (by simp)).trans k1
   have k3:(((w1.setCell ⟨c,1,none⟩ (.bool p)).setCell ⟨c,2,none⟩ (.bool q)).setCell ⟨c,16,none⟩ (.bool false)).cell? ⟨c,32,none⟩=some (.slice (some ⟨b,off,none⟩) 2 dc):=(World.cell?_setCell_other _ ⟨c,16,none⟩ ⟨c,32,none⟩ _ (by simp)).trans k2
   have fB : ∀ (wx:World) (i j:Nat) (v x:Value),wx.cell? ⟨b,j,none⟩=some v→(wx.setCell ⟨c,i,none⟩ x).cell? ⟨b,j,none⟩=some v:=fun wx i j v x hv=>(World.cell?_setCell_other _ _ _ _ (by intro e;exact hbc (congrArg Addr.block e).symm)).trans hv
   have t:=(((Touch.refl (aO c) w1).set c 1 (.bool p) rfl).set c 2 (.bool q) rfl).set c 16 (.bool false) rfl
   have hs:=H1.out.bU
   have h2:=H1.out.block (m':={ m with bq:=p,bk:=q,en:=false }) r3 ⟨hs.cells,rfl,rfl,hs.dQ,rfl,hs.aD,hs.op,hs.ay,hs.left,hs.cO,hs.addr,hs.mode,hs.cL,hs.told,hs.now,hs.beyond,hs.once⟩ t rfl rfl rfl rfl rfl rfl
   have H2:=zH (zA (h2.aj (au zR)) ((ST.out.trans (H1.out.step t)).trans (Step.ah (au zR))))
   have FAR:=zH fB
   have K1:=zH (zA k1 (zA (fB _ 1 _ _ (.bool p) d0) (fB _ 1 _ _ (.bool p) d1)))
   have K2:=zH (zA k2 (zA (fB _ 2 _ _ (.bool q) K1.out.2.1) (fB _ 2 _ _ (.bool q) K1.out.2.2)))
   have K3:=zH (zA k3 (zA (fB _ 16 _ _ (.bool false) K2.out.2.1) (fB _ 16 _ _ (.bool false) K2.out.2.2)))
   clear fB t hs h2 r0 r1 r2 r3 k1 k2 k3 u1 u2 hb hb' hbc
   have i0:(0:Int)<2:=by decide
   go_wp2_with fail
   refine wp_region_noPanic ?_
   refine wp_region_held_drew (S:=(fun w'=>w'.cell? ⟨c,32,none⟩=some (.slice (some ⟨b,off,none⟩) 2 dc)∧w'.cell? ⟨b,off,none⟩=some (.int .i64 v0)∧w'.cell? ⟨b,off+1,none⟩=some (.int .i64 v1))) (by kernel_rfl) (by (try dsimp only);exact ⟨d32,d0,d1⟩) fun hHeld => ?_
   refine tk 0 ?_
   refine tk 1 ?_
   refine tk 2 ?_
   refine tk 3 ?_
   refine tk 4 ?_
   refine tk 5 ?_
   refine tk 6 ?_
   refine tk 7 ?_
   refine tk 8 ?_
   refine tk 9 ?_
   refine tk 10 ?_
   refine tk 11 ?_
   refine tk 12 ?_
   refine tk 13 ?_
   refine tk 14 ?_
   refine tk 15 ?_
   refine tk 16 ?_
   refine tk 17 ?_
   refine tk 18 ?_
   refine tk 19 ?_
   refine tk 20 ?_
   refine tr 21 fun K hK => ?_
   go_simp
   refine hK.out _ _ (by (try dsimp only);exact K1.out) fun hHeld => ?_
   clear hK K
   try simp only [Act.put,zS,zT,zU]
   refine tk 22 ?_
   refine tk 23 ?_
   refine tr 24 fun K hK => ?_
   go_simp
   refine hK.out _ _ (by (try dsimp only);exact K2.out) fun hHeld => ?_
   clear hK K
   try simp only [Act.put,zS,zT,zU]
   refine tk 25 ?_
   refine tk 26 ?_
   refine tk 27 ?_
   refine tr 28 fun K hK => ?_
   go_simp
   refine hK.out _ _ (by (try dsimp only);exact K3.out) fun hHeld => ?_
   clear hK K
   try simp only [Act.put,zS,zT,zU]
   refine wpAnyH_done (by kernel_rfl) ?_ _
   refine NoPanic.normal ?_
   go_wp2_with fail
   go_end0
   rw [E.out,EP.out]
   exact cU H2.out.1 H2.out.2
  ·
   have hlb:((m.data.length:Int) == 2)=false:=zQ (by omega)
   have EP:=zH (show m.dB=m by unfold ag.dB;rw [if_neg (fun e=>hl e.2)])
   clear hen hl
   go_wp2_with fail
   go_end0
   rw [E.out,EP.out]
   exact cU H1.out ST.out
theorem Dw {m:ag} (ok:m.Ok):m.uQ.Ok:=⟨ok.size,ok.aZ,ok.fX,ok.gG,ok.op,ok.data⟩
theorem uX (c:Nat) (m:ag) (F:Nat→Prop) (w:World) (h:aS w c m F) (ok:m.Ok) (hsel:m.dQ=true):Calls prog 197 #[.pointer (some ⟨c,0,none⟩)] w (vq 0 c m.fw F w) :=
 qx c m F w h ok hsel fun b k0 k1 hw w' h'=>L6 c m.uQ F w' h' (Dw ok) k0 k1 hw b
end
section
open Go.RowKit
structure aI where
 ar:ag
 out:List Int
 n:Nat
 bh:Int
def aI.stop (d:aI):Bool:=decide (0≤d.bh)&&decide (d.bh≤(d.n:Int))
def aI.tick (d:aI) (x:Int):aI:={ d with ar:=(d.ar.clock x).2,n:=d.n+1 }
def aI.said (d:aI) (x:Int):Int:=(d.ar.clock x).1
def aI.row:List Int→aI→Bool×aI
 | [],d=>(true,d)
 | x::r,d=>if d.stop=true then (false,d) else aI.row r (d.tick x)
def fU (L x:Int):Int:=if L=1 then 14+x else x
def heard (L x:Int):Int:=if L=1 then x / 2 % 2 else x
def aI.im (L:Int):Nat→List Int→aI→Bool×List Int×aI
 | 0,xs,d=>(true,xs,d)
 | k+1,xs,d=>if d.stop=true then (false,xs,d) else aI.im L k (xs++[heard L (d.said 15)]) (d.tick 15)
def aI.put (b L:Int) (d:aI):Bool×aI:=aI.row ((bM b L).map (fU L)) d
def aI.cO (d:aI) (L:Int) (r:Bool×List Int×aI):Bool×aI:=if r.1=true then (true,{ r.2.2 with out:=r.2.2.out++[cZ r.2.1 L] }) else (false,r.2.2)
def aI.get (L:Int) (d:aI):Bool×aI:=d.cO L (aI.im L (many L).toNat [] d)
def aI.dB (L:Int):List Int→aI→Bool×aI
 | [],d=>(true,d)
 | b::r,d=>if (aI.put b L d).1=true then aI.dB L r (aI.put b L d).2 else (false,(aI.put b L d).2)
def aI.fZ (L:Int):Nat→aI→Bool×aI
 | 0,d=>(true,d)
 | k+1,d=>if (aI.get L d).1=true then aI.fZ L k (aI.get L d).2 else (false,(aI.get L d).2)
def andThen (r:Bool×aI) (f:aI→Bool×aI):Bool×aI:=if r.1=true then f r.2 else (false,r.2)
def aI.phase (p:Ph) (d:aI):Bool×aI:=andThen (aI.dB p.bW p.bytes d) fun d1=>andThen (aI.row (List.replicate p.eN.toNat 15) d1) fun d2=>aI.fZ p.bW p.read.toNat d2
def aI.eR:List Ph→aI→Bool×aI
 | [],d=>(true,d)
 | p::r,d=>andThen (aI.phase p d) (aI.eR r)
structure aI.Fit (d:aI) (k:Nat):Prop where
 ar:d.ar.Fit d.n
 Kp:d.n+k<1099511627776
theorem lE {d:aI} {k:Nat} (h:d.Fit (k+1)) (x:Int):(d.tick x).Fit k:=⟨GC h.ar x (by have:=h.Kp;omega),by have:=h.Kp;show d.n+1+k<_;omega⟩
theorem DU (now data left:Int) (h:data=1∨data=4):0≤bitsOf now data left∧bitsOf now data left≤15:=by
 unfold bitsOf
 split <;> omega
theorem xG {d:aI} {k:Nat} (h:d.Fit k) (x:Int):0≤d.said x∧d.said x≤15:=by
 have q:(0:Int)≤15∧(15:Int)≤15:=by decide
 unfold aI.said ag.clock
 split
 ·
  unfold ag.step
  split
  ·
   exact q
  split
  ·
   exact q
  split
  ·
   exact q
  split
  ·
   exact q
  split
  ·
   exact q
  split
  ·
   rename_i hs
   exact DU _ _ _ ((rT h.ar).part.kp hs).1
  split
  ·
   exact q
  ·
   exact q
 ·
  exact q
theorem cA {d:aI} {k j:Nat} (h:d.Fit k) (hj:j≤k):d.Fit j:=⟨h.ar,by have:=h.Kp;omega⟩
theorem A8 : ∀ (xs:List Int) (d:aI) (k:Nat),d.Fit (xs.length+k)→(aI.row xs d).2.Fit k
 | [],d,k,h=>by simpa [aI.row] using h
 | x::r,d,k,h=>by
  unfold aI.row
  split
  ·
   exact cA h (by omega)
  ·
   exact A8 r (d.tick x) k (lE (by have e:(x::r).length+k=r.length+k+1:=(by simp;omega);rw [e] at h;exact h) x)
theorem Ci (L:Int) : ∀ (j:Nat) (xs:List Int) (d:aI) (k:Nat),d.Fit (j+k)→(aI.im L j xs d).2.2.Fit k
 | 0,xs,d,k,h=>by simpa [aI.im] using h
 | j+1,xs,d,k,h=>by
  unfold aI.im
  split
  ·
   exact cA h (by omega)
  ·
   exact Ci L j _ (d.tick 15) k (lE (by have e:j+1+k=j+k+1:=(by omega);rw [e] at h;exact h) 15)
theorem Cw (b L:Int):(bM b L).length≤8:=by unfold bM;split <;> simp
theorem FY (b L:Int) (d:aI) (k:Nat) (h:d.Fit (8+k)):(aI.put b L d).2.Fit k:=by
 unfold aI.put
 refine A8 _ _ _ (cA h ?_)
 have:=Cw b L
 simp;omega
theorem Ld (L:Int):(many L).toNat≤8:=by unfold many;split <;> decide
theorem KT (L:Int) (d:aI) (r:Bool×List Int×aI) (k:Nat) (h:r.2.2.Fit k):(d.cO L r).2.Fit k:=by
 unfold aI.cO
 split
 ·
  exact ⟨h.ar,h.Kp⟩
 ·
  exact h
theorem FC (L:Int) (d:aI) (k:Nat) (h:d.Fit (8+k)):(aI.get L d).2.Fit k:=KT L d _ k (Ci L _ _ _ _ (cA h (by have:=Ld L;omega)))
theorem C5 (L:Int) : ∀ (bs:List Int) (d:aI) (k:Nat),d.Fit (8 * bs.length+k)→(aI.dB L bs d).2.Fit k
 | [],d,k,h=>by simpa [aI.dB] using h
 | b::r,d,k,h=>by
  have hp:=FY b L d (8 * r.length+k) (cA h (by simp;omega))
  unfold aI.dB
  split
  ·
   exact C5 L r _ k hp
  ·
   exact cA hp (by omega)
theorem Cb (L:Int) : ∀ (j:Nat) (d:aI) (k:Nat),d.Fit (8 * j+k)→(aI.fZ L j d).2.Fit k
 | 0,d,k,h=>by simpa [aI.fZ] using h
 | j+1,d,k,h=>by
  have hp:=FC L d (8 * j+k) (cA h (by omega))
  unfold aI.fZ
  split
  ·
   exact Cb L j _ k hp
  ·
   exact cA hp (by omega)
def eU:Nat:=10000
theorem zI (p:Ph) (ok:mW p) (d:aI) (k:Nat) (h:d.Fit (eU+k)):(aI.phase p d).2.Fit k:=by
 have hb:p.bytes.length≤512:=by rcases ok with h | h | h <;> simp_all
 have hr:p.read.toNat≤512:=by rcases ok with ⟨_,_,_,_,_,h⟩ | ⟨_,_,_,h,_⟩ | ⟨_,_,h,_⟩ <;> omega
 have hc:p.eN.toNat≤400:=by rcases ok with ⟨_,_,_,_,h,_⟩ | ⟨_,_,_,_,h⟩ | ⟨_,_,_,_,h⟩ <;> omega
 have h1:=C5 p.bW p.bytes d (5000+k) (cA h (by unfold eU;omega))
 unfold aI.phase andThen
 dsimp only
 split
 ·
  have h2:=A8 (List.replicate p.eN.toNat 15) _ (4500+k) (cA h1 (by simp;omega))
  split
  ·
   exact Cb p.bW p.read.toNat _ k (cA h2 (by omega))
  ·
   exact cA h2 (by omega)
 ·
  exact cA h1 (by omega)
theorem Ah (m:ag) (x:Int):(m.step x).2.busy=m.busy∧(m.step x).2.home=m.home:=by
 unfold ag.step
 split
 ·
  unfold ag.sB;split;exact ⟨(ng _ _).2.1,oD _ _⟩;exact ⟨rfl,rfl⟩
 split
 ·
  unfold ag.sC;split;exact ⟨(ix _).2.1,iW _⟩;exact ⟨rfl,rfl⟩
 split
 ·
  unfold ag.sD;split;exact ⟨(ix _).2.1,iW _⟩;exact ⟨rfl,rfl⟩
 split
 ·
  unfold ag.uK;split;exact ⟨(ix _).2.1,iW _⟩;exact ⟨rfl,rfl⟩
 split
 ·
  unfold ag.sE;split;exact ⟨(ix _).2.1,iW _⟩;exact ⟨rfl,rfl⟩
 split
 ·
  unfold ag.bU ag.next;split <;> exact ⟨rfl,rfl⟩
 split <;> exact ⟨rfl,rfl⟩
theorem zG (m:ag):m.pass.home=m.home:=by
 unfold ag.pass;cases m.aZ with | none=>rfl | some j=>simp only;split;rfl;split <;> rfl
theorem fp (m:ag) (x:Int):(m.clock x).2.busy=m.busy∧(m.clock x).2.home=m.home:=by
 obtain ⟨_,_,_,_,_,_,_,_,_,_,_,_,_,_,_,eb⟩:=rS m
 unfold ag.clock
 split
 ·
  exact ⟨(Ah _ _).1.trans eb,(Ah _ _).2.trans (zG m)⟩
 ·
  exact ⟨eb,zG m⟩
theorem aS.home {w:World} {c:Nat} {m:ag} {F:Nat→Prop} (h:aS w c m F) (hb:0<m.busy.length):m.home<w.heap.size ∧ ¬ F m.home:=by
 obtain ⟨s,h⟩:=h.open
 obtain ⟨a,cc,h1,h2,h3,h4,h5,h6⟩:=h.busy.ex
 obtain ⟨b,o,g1,g2⟩:=h2 0 hb
 have e:=h6 b o g1 hb
 rw [← e]
 exact ⟨zL w _ g2,h3 b o g1 hb⟩
theorem aS.fB {w w':World} {c:Nat} {m:ag} {F G:Nat→Prop} (h:aS w c m F) (t:Touch G w w') (hG : ∀ b,F b → ¬ G b) (hh:0<m.busy.length → ¬ G m.home):aS w' c m F:=by
 obtain ⟨s,h⟩:=h.open
 obtain ⟨a,cc,h1,h2,h3,h4,h5,h6⟩:=h.busy.ex
 have hj:=h.aZ
 refine bJ.shut (s:=s) ⟨t.at h.raw (hG c h.own),h.bU,?_,⟨a,cc,h1,dM h2 t (fun b o e hl hg=>hh hl (by rw [← h6 b o e hl];exact hg)),h3,h4,h5,h6⟩,gB h.data t (fun g hg=>hG g (h.jQ g hg)),h.own,h.me,h.jQ,fun b hb=>zV (h.lt b hb) t.size⟩
 cases hm:m.aZ with
 | none=>rw [hm] at hj;exact hj
 | some j =>
  rw [hm] at hj
  obtain ⟨b,e1,e2⟩:=hj
  exact ⟨b,e1,t.at e2 (hG b (h.me b e1))⟩
structure fm (w:World) (p c:Nat) (d:aI) (G:Nat→Prop):Prop where
 ex : ∃ (F:Nat→Prop) (ov:Value),w.heap[p]? = some (.cells #[.pointer (some ⟨c,0,none⟩),ov,.int .i64 (d.n:Int),.int .i64 d.bh] 291 (0,0))∧aS w c d.ar F∧w.ownsRow 0 3 1 ov d.out.length (aC d.out) ∧ ¬ F p∧(∀ g,ov.ownBlock=some g → ¬ F g)∧(∀ b,F b→G b)∧G p∧(∀ g,ov.ownBlock=some g→G g∧p≤g)∧(0<d.ar.busy.length → ¬ G d.ar.home)
 lt : ∀ b,G b→b<w.heap.size
theorem fm.aj {w w':World} {p c:Nat} {d:aI} {G:Nat→Prop} (h:fm w p c d G) (hb:Below w.heap.size w w'):fm w' p c d G:=by
 obtain ⟨⟨F,ov,h1,h2,h3,h4⟩,hlt⟩:=h
 exact ⟨⟨F,ov,aa hb h1,h2.aj hb,World.ownsRow.aj h3 hb,h4⟩,fun b hb'=>zV (hlt b hb') hb.size⟩
def mU (x:Bool) (p c:Nat) (d:aI) (G:Nat→Prop) (w:World) (e:Ending) (w':World):Prop:=e=.returned (.bool x) ∧ ∃ G',fm w' p c d G'∧Step G G' w w'
def BD (x:Int) (y:Bool) (p c:Nat) (d:aI) (G:Nat→Prop) (w:World) (e:Ending) (w':World):Prop:=e=.returned (.tuple #[.int .i64 x,.bool y]) ∧ ∃ G',fm w' p c d G'∧Step G G' w w'
theorem mO (p c:Nat) (d:aI) (G:Nat→Prop) (x:Int) (w:World) (h:fm w p c d G) (hs:d.stop=true):Calls prog 207 #[.pointer (some ⟨p,0,none⟩),.int .i64 x] w (BD 0 false p c d G w):=by
 obtain ⟨F,ov,hp,_⟩:=h.ex
 have c2:w.cell? ⟨p,2,none⟩=some (.int .i64 (d.n:Int)):=cell_of hp 2
 have c3:w.cell? ⟨p,3,none⟩=some (.int .i64 d.bh):=cell_of hp 3
 have HH:=zH h
 unfold aI.stop at hs
 obtain ⟨g1,g2⟩:decide (0≤d.bh)=true∧decide (d.bh≤(d.n:Int))=true:=by simpa using hs
 clear h hp hs
 go_enter func207,ntmps207
 go_wp2_with fail
 go_quiet (fail)
 go_wp2
 go_ret2
 exact ⟨rfl,G,HH.out.aj (aY zR _),Step.ah (aY zR _)⟩
theorem It {w w1:World} {p c:Nat} {d:aI} {G F F':Nat→Prop} {ov:Value} {x:Int} {w0:World} (hG:fm w p c d G) (h0:w0=w.setCell ⟨p,2,none⟩ (.int .i64 ((d.n:Int)+1))) (hp:w.heap[p]? = some (.cells #[.pointer (some ⟨c,0,none⟩),ov,.int .i64 (d.n:Int),.int .i64 d.bh] 291 (0,0))) (ho:w.ownsRow 0 3 1 ov d.out.length (aC d.out)) (hFp : ¬ F p) (hFo : ∀ g,ov.ownBlock=some g → ¬ F g) (hFG : ∀ b,F b→G b) (hGp:G p) (hGo : ∀ g,ov.ownBlock=some g→G g∧p≤g) (hh:0<d.ar.busy.length → ¬ G d.ar.home) (hhl:0<d.ar.busy.length→d.ar.home<w.heap.size) (h1:aS w1 c (d.ar.clock x).2 F') (st:Step F F' w0 w1) : ∃ G',fm w1 p c (d.tick x) G'∧Step G G' w w1:=by
 subst h0
 have hsz:(w.setCell ⟨p,2,none⟩ (.int .i64 ((d.n:Int)+1))).heap.size=w.heap.size:=World.size_setCell _ _ _
 have hpl:p<w.heap.size:=aP hp
 have q1:(w.setCell ⟨p,2,none⟩ (.int .i64 ((d.n:Int)+1))).heap[p]? = some (.cells #[.pointer (some ⟨c,0,none⟩),ov,.int .i64 ((d.n:Int)+1),.int .i64 d.bh] 291 (0,0)):=az (i:=2) hp
 have t0:Touch G w (w.setCell ⟨p,2,none⟩ (.int .i64 ((d.n:Int)+1))):=(Touch.refl G w).set p 2 _ hGp
 have hop : ∀ g,ov.ownBlock=some g→g≠p:=by
  rintro g hg rfl
  obtain ⟨cur,hc⟩:=gA ho hg
  have:=hc.symm.trans hp;simp at this
 have o1:=gB (F:=aO p) ho ((Touch.refl (aO p) w).set p 2 (.int .i64 ((d.n:Int)+1)) rfl) (fun g hg e=>hop g hg e)
 have F'p : ¬ F' p:=st.safe (by rw [hsz];exact hpl) hFp
 refine ⟨fun b=>F' b∨G b,⟨⟨F',ov,(st.aH.at q1 hFp),h1,gB o1 st.aH hFo,F'p,fun g hg => ?_,fun b hb=>.inl hb,.inr hGp,fun g hg=>⟨.inr (hGo g hg).1,(hGo g hg).2⟩,?_⟩,?_⟩,?_⟩
 ·
  obtain ⟨cur,hc⟩:=gA o1 hg
  exact st.safe (aP hc) (hFo g hg)
 ·
  obtain ⟨eb,eh⟩:=fp d.ar x
  intro hl hg
  have hl':0<d.ar.busy.length:=by rw [← eb];exact hl
  have hl2:d.ar.home<w.heap.size:=hhl hl'
  have hg':F' d.ar.home∨G d.ar.home:=by rw [← eh];exact hg
  rcases hg' with hg' | hg'
  ·
   exact st.safe (by rw [hsz];exact hl2) (fun hf=>hh hl' (hFG _ hf)) hg'
  ·
   exact hh hl' hg'
 ·
  intro b hb
  rcases hb with hb | hb
  ·
   exact h1.lt b hb
  ·
   exact zV (hG.lt b hb) (by rw [← hsz];exact st.aH.size)
 ·
  refine ⟨t0.trans (st.aH.mono hFG),fun b hb => ?_⟩
  rcases hb with hb | hb
  ·
   rcases st.ik b hb with hf | hf
   ·
    exact .inl (hFG b hf)
   ·
    exact .inr (by rw [hsz] at hf;exact hf)
  ·
   exact .inl hb
theorem sH (p c:Nat) (d:aI) (G:Nat→Prop) (k:Nat) (x:Int) (w:World) (h:fm w p c d G) (fit:d.Fit k) (hs:d.stop=false) (hx0:0≤x) (hx1:x≤15):Calls prog 207 #[.pointer (some ⟨p,0,none⟩),.int .i64 x] w (BD (d.said x) true p c (d.tick x) G w):=by
 have HH:=zH h
 have hcase:decide (0≤d.bh)=false∨(decide (0≤d.bh)=true∧decide (d.bh≤(d.n:Int))=false):=by
  unfold aI.stop at hs
  cases g:decide (0≤d.bh) with
  | false=>exact .inl rfl
  | true=>rw [g] at hs;exact .inr ⟨rfl,by simpa using hs⟩
 have hnb:(d.n:Int)≤1099511627776:=by have:=fit.Kp;omega
 obtain ⟨F,ov,hp,hch,ho,hFp,hFo,hFG,hGp,hGo,hh⟩:=h.ex
 have c0:w.cell? ⟨p,0,none⟩=some (.pointer (some ⟨c,0,none⟩)):=cell_of hp 0
 have c2:w.cell? ⟨p,2,none⟩=some (.int .i64 (d.n:Int)):=cell_of hp 2
 have c3:w.cell? ⟨p,3,none⟩=some (.int .i64 d.bh):=cell_of hp 3
 have HD:=zH (fun (nq:Nat) (F':Nat→Prop) (w1:World) (w0:World) (e0:w0=(w.drewN nq).setCell ⟨p,2,none⟩ (.int .i64 ((d.n:Int)+1))) (h1:aS w1 c (d.ar.clock x).2 F') (st:Step F F' w0 w1) =>
  It (w:=w.drewN nq) (h.aj (aY zR nq)) e0 hp (World.ownsRow.aj ho (aY zR nq)) hFp hFo hFG hGp hGo hh (fun hl=>(hch.home hl).1) h1 st)
 have HC:=zH (fun (nq:Nat) (w0:World) (e0:w0=(w.drewN nq).setCell ⟨p,2,none⟩ (.int .i64 ((d.n:Int)+1)))=>(uW c d.ar F d.n x w0 (by
  subst e0
  exact (hch.aj (aY zR nq)).fB (G:=aO p) ((Touch.refl _ _).set p 2 _ rfl) (fun b hb e=>hFp (by rw [← show b=p from e];exact hb)) (fun hl e=>hh hl (by rw [show d.ar.home=p from e];exact hGp))) fit.ar (by have:=fit.Kp;omega) hx0 hx1))
 have f2 : ∀ nq,(w.drewN nq).frozen? ⟨p,2,none⟩=false:=fun nq=>aF (show (w.drewN nq).heap[p]? = _ from hp) 2
 have hpl:p<w.heap.size:=aP hp
 clear h hch ho hp
 rcases hcase with g1 | ⟨g1,g2⟩
 all_goals
  go_enter func207,ntmps207
  go_wp2_with fail
  go_quiet (fail)
  have d0:(w.drewN nq).cell? ⟨p,0,none⟩=some (.pointer (some ⟨c,0,none⟩)):=c0
  have d2:(w.drewN nq).cell? ⟨p,2,none⟩=some (.int .i64 (d.n:Int)):=c2
  have z2:=f2 nq
  go_wp2_with fail
  refine (HC.out nq _ rfl).mono ?_
  rintro e w1 ⟨rfl,F',h1,st⟩
  have hd:=zH (HD.out nq F' w1 _ rfl h1 st)
  clear h1 st
  go_wp2
  go_ret2
  obtain ⟨G',hd1,st1⟩:=hd.out
  exact ⟨rfl,G',hd1,(Step.ah (aY zR _)).trans st1⟩
end
end Go.Proofs.YtcfdenckiigdaaaGreat

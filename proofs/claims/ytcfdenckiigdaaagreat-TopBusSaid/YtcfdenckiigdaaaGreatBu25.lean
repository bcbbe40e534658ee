/- Part 25 of the contracts. -/
import Derived.Test.YtcfdenckiigdaaaGreatBu24
set_option linter.unusedVariables false
set_option maxRecDepth 100000
set_option maxHeartbeats 4000000
namespace Go.Proofs.YtcfdenckiigdaaaGreat
open Tryz Go.RowKit
def mw (x:ByteArray) (ps:List aU) (E:Int):Prop := ∃ (sec:Nat) (V:bg),Lay x sec V∧cg V.ay=ps∧V.ak≤E
def ij (x:ByteArray) (S:au) (ps:List aU) (E:Int):Prop := ∃ (sec:Nat) (V:bg),Lay x sec V∧cg V.ay=ps∧V.ak≤E∧S=⟨true,sec,V⟩
theorem ij.kept {x:ByteArray} {S:au} {ps:List aU} {E:Int} (h:ij x S ps E):mw x ps E:=by
 obtain ⟨sec,V,h1,h2,h3,_⟩:=h
 exact ⟨sec,V,h1,h2,h3⟩
theorem ij.fit {x:ByteArray} {S:au} {ps:List aU} {E:Int} (h:ij x S ps E):S.Fit:=by
 obtain ⟨sec,V,h1,h2,h3,rfl⟩:=h
 have:=h1.s0
 have:=h1.s1
 exact .inr ⟨rfl,show (4:Int)≤sec by omega,show (sec:Int)<8 by omega,h1.KI⟩
theorem mw.more {x:ByteArray} {ps:List aU} {E E':Int} (h:mw x ps E) (k:E≤E'):mw x ps E':=by
 obtain ⟨sec,V,h1,h2,h3⟩:=h
 exact ⟨sec,V,h1,h2,by omega⟩
theorem ij.more {x:ByteArray} {S:au} {ps:List aU} {E E':Int} (h:ij x S ps E) (k:E≤E'):ij x S ps E':=by
 obtain ⟨sec,V,h1,h2,h3,h4⟩:=h
 exact ⟨sec,V,h1,h2,by omega,h4⟩
theorem mw.sorted {x:ByteArray} {ps:List aU} {E:Int} (h:mw x ps E):fR ps∧ps.length≤7:=by
 obtain ⟨sec,V,h1,rfl,h3⟩:=h
 have vk:=h1.KI
 have:=dq _ V.ay rfl vk.ay
 exact ⟨this.1,Nat.le_trans this.2 vk.len⟩
theorem vN {x:ByteArray} {ps:List aU} {E:Int} (h:mw x ps E):(lF x).2=0∧ij x (lF x).1 ps E:=by
 obtain ⟨sec,V,h1,h2,h3⟩:=h
 unfold lF
 rw [vP h1]
 exact ⟨rfl,sec,V,h1,h2,h3,rfl⟩
theorem CW {x:ByteArray} (h:AG x):lF x=(shut,2305):=by
 unfold lF
 rw [lS h]
theorem pT {x:ByteArray} (hx:x.size=4096) {j:Nat} {E:Int} (j4:4≤j) (j8:j<8) (e0:1≤E) (e1:E≤1048576) (hd : ∀ i,4≤i→i<8→rY (dd x i 0) E):Lay (ir (ln x (j:Int)) (bU (j:Int) 0) (aG (cz E))) j ⟨true,E,[],1⟩:=by
 have hsame:=ts x j ⟨#[255]⟩
 rw [zl]
 exact yH (rs:=[]) (by rw [hsame.1];exact hx) j4 j8 e0 e1 (by simp) (fun q hq=>by simp at hq) (fun i hi=>vE hx j8 hi) (fun i i4 i8 ine=>by
  rw [hsame.sec (by omega) ine]
  exact hd i i4 i8)
theorem Bp {x img:ByteArray} (h:AG x) {reads:List Int} (hr:cP reads=true):ij (dh x img reads).1 (dh x img reads).2.1 [] 1∧(dh x img reads).2.2=(reads.map (gK img),0):=by
 have he:nL (kS x)=0:=by rw [lS h];rfl
 have hs:cS x=((4:Nat):Int):=by unfold cS;rw [lS h];rfl
 have hn:gX x=1:=by unfold gX;rw [he];rfl
 have e:dh x img reads=(ir (ln x (cS x)) (bU (cS x) 0) (aG (cz (gX x))),⟨true,cS x,⟨true,gX x,[],1⟩⟩,reads.map (gK img),0):=by
  unfold dh
  rw [he,if_neg (by decide),if_pos hr]
 rw [e,hs,hn]
 exact ⟨⟨4,⟨true,1,[],1⟩,pT h.size (by omega) (by omega) (by decide) (by decide) h.dead,rfl,Int.le_refl _,rfl⟩,rfl⟩
theorem tw {x img:ByteArray} {ps:List aU} {E:Int} (h:mw x ps E) (hE:E<1048576) {reads:List Int} (hr:cP reads=true):ij (dh x img reads).1 (dh x img reads).2.1 [] (E+1)∧(dh x img reads).2.2=(reads.map (gK img),0):=by
 obtain ⟨sec,V,h1,h2,h3⟩:=h
 have vk:=h1.KI
 obtain ⟨j,hj,j4,j8,jne⟩:=next_ne h1.s0 h1.s1
 have he:nL (kS x)=V.ak:=by rw [vP h1];rfl
 have hs:cS x=(j:Int):=by unfold cS;rw [vP h1];exact hj
 have hn:gX x=V.ak+1:=by unfold gX;rw [he]
 have e:dh x img reads=(ir (ln x (cS x)) (bU (cS x) 0) (aG (cz (gX x))),⟨true,cS x,⟨true,gX x,[],1⟩⟩,reads.map (gK img),0):=by
  unfold dh
  rw [he,if_neg (by omega),if_pos hr]
 rw [e,hs,hn]
 exact ⟨⟨j,⟨true,V.ak+1,[],1⟩,pT h1.size j4 j8 (by have:=vk.ak;omega) (by omega) h1.old,rfl,by show V.ak+1≤E+1;omega,rfl⟩,rfl⟩
def IA (ps:List aU) (key value:ByteArray) (reads:List Int):Int :=
 if ¬ (1≤key.size∧key.size≤6) then 2300 else if 20<value.size then 2301 else if 7<(kQ key value ps).length then 2304 else if cP reads=true then 0 else 1800
def He (ps:List aU) (key:ByteArray) (reads:List Int):Int :=
 if ¬ (1≤key.size∧key.size≤6) then 2300 else if (jQ ps key).isSome=false then 2303 else if cP reads=true then 0 else 1800
theorem Jx (k:ByteArray) (ps:List aU):(sj k ps).length≤ps.length:=List.length_filter_le _ _
theorem DG {x img:ByteArray} {S:au} {ps:List aU} {E:Int} (h:ij x S ps E) (hE:E<1048576) (key value:ByteArray) (reads:List Int):(IA ps key value reads≠0→pe x img S key value reads=(x,S,[],IA ps key value reads))∧(IA ps key value reads=0→ij (pe x img S key value reads).1 (pe x img S key value reads).2.1 (kQ key value ps) (E+1)∧(pe x img S key value reads).2.2=(reads.map (gK img),0)):=by
 obtain ⟨sec,V,h1,h2,h3,rfl⟩:=h
 have vk:=h1.KI
 obtain ⟨bs,bl⟩:=dq _ V.ay rfl vk.ay
 rw [h2] at bs bl
 unfold IA pe cJ
 rw [if_neg (show ¬ true=false by decide)]
 by_cases k1:1≤key.size∧key.size≤6
 ·
  rw [if_neg (not_not_intro k1),if_pos k1,if_neg (show ¬ (0:Int)≠0 by decide)]
  by_cases k2:20<value.size
  ·
   rw [if_pos k2,if_pos k2]
   exact ⟨fun _=>rfl,fun h=>absurd h (by decide)⟩
  ·
   rw [if_neg k2,if_neg k2]
   have hr:=qa (value:=value) k1.1 k1.2 (by omega)
   have hw:ew (cg V.ay) ⟨1,0,key,value⟩=kQ key value ps:=by rw [h2];exact oZ key value 0 ps bs
   have c0:=fun h0=>vt h1 hr h0
   have hc:(cm V sec ⟨1,0,key,value⟩).1=if 7<(kQ key value ps).length then 2201 else 0:=by
    unfold cm
    rw [hw,if_neg (fun h=>absurd h.2 (show ¬ (1:Int)=2 by decide))]
    by_cases k3:7<(kQ key value ps).length
    ·
     rw [if_pos k3,if_pos k3]
    ·
     rw [if_neg k3,if_neg k3]
     by_cases k4:V.free<8
     ·
      rw [if_pos k4]
     ·
      rw [if_neg k4,if_neg (by omega)]
   unfold iy tS
   rw [show (⟨true,(sec:Int),V⟩:au).view=V from rfl,show (⟨true,(sec:Int),V⟩:au).aq=(sec:Int) from rfl]
   generalize cm V sec ⟨1,0,key,value⟩=c at c0 hc
   rw [hc]
   by_cases k3:7<(kQ key value ps).length
   ·
    rw [if_pos k3,if_pos k3,if_neg (show ¬ (2201:Int)=2202 by decide),if_pos (show (2201:Int)≠0 by decide)]
    exact ⟨fun _=>rfl,fun h=>absurd h (by decide)⟩
   ·
    rw [if_neg k3,if_neg k3,if_neg (show ¬ (0:Int)=2202 by decide),if_neg (show ¬ (0:Int)≠0 by decide)]
    by_cases k4:cP reads=true
    ·
     rw [if_pos k4,if_pos k4]
     refine ⟨fun h=>absurd rfl h,fun _=>⟨?_,rfl⟩⟩
     obtain ⟨s',V',d1,d2,d3,d4⟩:=c0 (by rw [hc,if_neg k3])
     exact ⟨s',V',d1,d3.trans hw,by omega,d2⟩
    ·
     rw [if_neg k4,if_neg k4]
     exact ⟨fun _=>rfl,fun h=>absurd h (by decide)⟩
 ·
  rw [if_pos k1,if_neg k1,if_pos (show (2300:Int)≠0 by decide)]
  exact ⟨fun _=>rfl,fun h=>absurd h (by decide)⟩
theorem DF {x img:ByteArray} {S:au} {ps:List aU} {E:Int} (h:ij x S ps E) (hE:E<1048576) (key:ByteArray) (reads:List Int):(He ps key reads≠0→pR x img S key reads=(x,S,[],He ps key reads))∧(He ps key reads=0→ij (pR x img S key reads).1 (pR x img S key reads).2.1 (sj key ps) (E+1)∧(pR x img S key reads).2.2=(reads.map (gK img),0)):=by
 obtain ⟨sec,V,h1,h2,h3,rfl⟩:=h
 have vk:=h1.KI
 obtain ⟨bs,bl⟩:=dq _ V.ay rfl vk.ay
 rw [h2] at bs bl
 have vl:=vk.len
 unfold He pR cJ
 rw [if_neg (show ¬ true=false by decide)]
 by_cases k1:1≤key.size∧key.size≤6
 ·
  rw [if_neg (not_not_intro k1),if_pos k1,if_neg (show ¬ (0:Int)≠0 by decide)]
  have hr:=vA k1.1 k1.2
  have hw:ew (cg V.ay) ⟨2,0,key,⟨#[]⟩⟩=sj key ps:=by rw [h2];exact sS key ⟨#[]⟩ 0 ps bs
  have hdl:=Jx key ps
  have c0:=fun h0=>vt h1 hr h0
  have hc:(cm V sec ⟨2,0,key,⟨#[]⟩⟩).1=if (jQ ps key).isSome=false then 2202 else 0:=by
   unfold cm
   rw [hw,h2]
   by_cases k3:(jQ ps key).isSome=false
   ·
    rw [if_pos ⟨k3,rfl⟩,if_pos k3]
   ·
    rw [if_neg (fun h=>k3 h.1),if_neg k3,if_neg (by omega)]
    by_cases k4:V.free<8
    ·
     rw [if_pos k4]
    ·
     rw [if_neg k4,if_neg (by omega)]
  unfold iy tS
  rw [show (⟨true,(sec:Int),V⟩:au).view=V from rfl,show (⟨true,(sec:Int),V⟩:au).aq=(sec:Int) from rfl]
  generalize cm V sec ⟨2,0,key,⟨#[]⟩⟩=c at c0 hc
  rw [hc]
  by_cases k3:(jQ ps key).isSome=false
  ·
   rw [if_pos k3,if_pos k3,if_pos (show (2202:Int)=2202 by decide)]
   exact ⟨fun _=>rfl,fun h=>absurd h (by decide)⟩
  ·
   rw [if_neg k3,if_neg k3,if_neg (show ¬ (0:Int)=2202 by decide),if_neg (show ¬ (0:Int)≠0 by decide)]
   by_cases k4:cP reads=true
   ·
    rw [if_pos k4,if_pos k4]
    refine ⟨fun h=>absurd rfl h,fun _=>⟨?_,rfl⟩⟩
    obtain ⟨s',V',d1,d2,d3,d4⟩:=c0 (by rw [hc,if_neg k3])
    exact ⟨s',V',d1,d3.trans hw,by omega,d2⟩
   ·
    rw [if_neg k4,if_neg k4]
    exact ⟨fun _=>rfl,fun h=>absurd h (by decide)⟩
 ·
  rw [if_pos k1,if_neg k1,if_pos (show (2300:Int)≠0 by decide)]
  exact ⟨fun _=>rfl,fun h=>absurd h (by decide)⟩
theorem BV {x:ByteArray} {S:au} {ps:List aU} {E:Int} (h:ij x S ps E):kA S=(ps,0):=by
 obtain ⟨sec,V,h1,h2,h3,rfl⟩:=h
 unfold kA
 rw [if_pos rfl]
 show (cg V.ay,(0:Int))=_
 rw [h2]
theorem FN (x:Int) (w:World):Calls prog 13 #[.int .i64 x] w fun e w'=>e=.returned (.int .i64 x)∧w=w':=by
 go_enter func13,ntmps13
 go_wp2
 go_ret
 exact ⟨rfl,rfl⟩
instance :DecidableEq aU:=fun a b=>decidable_of_iff (a.key=b.key∧a.value=b.value) (by cases a;cases b;simp)
def AS (b:Bool) (w:World) (e:Ending) (w':World):Prop:=e=.returned (.bool b)∧Below w.heap.size w w'
theorem Iz {ps qs:List aU} (hl:ps.length=qs.length) (h : ∀ j (h1:j<ps.length) (h2:j<qs.length),ps[j]=qs[j]):ps=qs:=List.ext_getElem hl fun i h1 h2=>h i h1 h2
theorem xE (a1 a2:Option Addr) (c1 c2 m n:Nat) (w:World) (hl:m≠n):Calls prog 22 #[.slice a1 m c1,.slice a2 n c2] w (AS false w):=by
 have g:((m:Int) != (n:Int))=true:=by simp;omega
 clear hl
 go_enter func22,ntmps22
 go_wp2
 go_ret
 exact ⟨rfl,Below.refl _ _⟩
theorem jO (u v:Value) (ps qs:List aU) (w:World) (h1:bj w u ps.length 2 (aI ps)) (h2:bj w v qs.length 2 (aI qs)) (hm:ps.length≤1000000):Calls prog 22 #[u,v] w (AS (decide (ps=qs)) w):=by
 obtain ⟨a1,c1,rfl⟩:=h1.slice
 obtain ⟨a2,c2,rfl⟩:=h2.slice
 by_cases hl:ps.length=qs.length
 case neg =>
  have e:decide (ps=qs)=false:=by simp;intro h;exact hl (by rw [h])
  rw [e];exact xE a1 a2 c1 c2 _ _ w hl
 have H1:=zH h1
 have H2:=zH h2
 have X1:=zH (fun i (hi:i<ps.length)=>fz ps i hi)
 have X2:=zH (fun i (hi:i<qs.length)=>fz qs i hi)
 have HL:=zH hl
 rw [← hl]
 clear hl h1 h2
 go_enter func22,ntmps22
 go_wp2
 go_loopg [5] ps.length (fun n i wr => ∃ k:Nat,n=ps.length - k∧k≤ps.length∧i=.int .i64 k∧Below w.heap.size w wr ∧ ∀ j (h1:j<ps.length) (h2:j<qs.length),j<k→ps[j]=qs[j])
 case atStart=>exact ⟨0,rfl,Nat.zero_le _,rfl,Below.refl _ _,fun j _ _ hj=>absurd hj (Nat.not_lt_zero _)⟩
 case round =>
  obtain ⟨k,hn,hk,rfl,hb,hsame⟩:=hrel
  have HB:=zH (zA hn (zA hb hsame))
  clear hn hb hsame
  by_cases hlt:k<ps.length
  ·
   have hlt':(k:Int)<(ps.length:Int):=by omega
   have hlq:k<qs.length:=by have:=HL.out;omega
   obtain ⟨b1,o1,rfl,hc1,hx1⟩:=H1.out.some (by omega)
   obtain ⟨b2,o2,rfl,hc2,hx2⟩:=H2.out.some (by omega)
   obtain ⟨p0,p1⟩:=X1.out k hlt
   obtain ⟨q0,q1⟩:=X2.out k hlq
   have cc1 : ∀ i u,(aI ps)[2 * k+i]? = some u→wr.cell? ⟨b1,o1+k * 2+i,none⟩=some u:=fun i u hu=>by
    have e:=hx1 _ _ hu
    rw [show o1+k * 2+i=o1+(2 * k+i) by omega]
    exact (HB.out.2.1.cell (p:=⟨b1,o1+(2 * k+i),none⟩) (zL w _ e)).trans e
   have cc2 : ∀ i u,(aI qs)[2 * k+i]? = some u→wr.cell? ⟨b2,o2+k * 2+i,none⟩=some u:=fun i u hu=>by
    have e:=hx2 _ _ hu
    rw [show o2+k * 2+i=o2+(2 * k+i) by omega]
    exact (HB.out.2.1.cell (p:=⟨b2,o2+(2 * k+i),none⟩) (zL w _ e)).trans e
   have c10:wr.cell? ⟨b1,o1+k * 2,none⟩=some (.string ps[k].key):=cc1 0 _ p0
   have c11:wr.cell? ⟨b1,o1+k * 2+1,none⟩=some (.string ps[k].value):=cc1 1 _ p1
   have c20:wr.cell? ⟨b2,o2+k * 2,none⟩=some (.string qs[k].key):=cc2 0 _ q0
   have c21:wr.cell? ⟨b2,o2+k * 2+1,none⟩=some (.string qs[k].value):=cc2 1 _ q1
   clear p0 p1 q0 q1 cc1 cc2 hx1 hx2
   generalize hp:ps[k]=p at *
   generalize hq:qs[k]=q at *
   have HP:=zH (zA hp hq)
   clear hp hq
   by_cases he:p=q
   ·
    have HE:=zH he
    have e1:(p.key.toList == q.key.toList)=true:=by rw [he];exact beq_self_eq_true _
    have e2:(p.value.toList == q.value.toList)=true:=by rw [he];exact beq_self_eq_true _
    clear he
    go_wp2_with fail
    go_quiet (fail)
    go_wp2
    go_roundg (ps.length - (k+1))
    case measure=>have:=HB.out.1;omega
    case rel =>
     refine ⟨k+1,rfl,by omega,by go_num,aT HB.out.2.1 nq,fun j g1 g2 hl => ?_⟩
     rcases Nat.lt_or_ge j k with h' | h'
     ·
      exact HB.out.2.2 j g1 g2 h'
     ·
      obtain rfl:j=k:=by omega
      rw [HP.out.1,HP.out.2,HE.out]
   ·
    have hf:decide (ps=qs)=false:=by
     simp only [decide_eq_false_iff_not]
     rintro rfl
     exact he (HP.out.1.symm.trans HP.out.2)
    have HF:=zH hf
    clear hf
    by_cases hk:p.key=q.key
    ·
     have e1:(p.key.toList == q.key.toList)=true:=by rw [hk];exact beq_self_eq_true _
     have e2:(p.value.toList == q.value.toList)=false:=by
      rw [qL,decide_eq_false_iff_not]
      intro h
      exact he (by cases p;cases q;simp_all)
     clear he hk
     go_wp2_with fail
     go_quiet (fail)
     go_wp2
     go_ret
     exact ⟨by rw [HF.out];rfl,aT HB.out.2.1 nq⟩
    ·
     have e1:(p.key.toList == q.key.toList)=false:=by rw [qL,decide_eq_false_iff_not];exact hk
     clear he hk
     go_wp2_with fail
     go_quiet (fail)
     go_wp2
     go_ret
     exact ⟨by rw [HF.out];rfl,aT HB.out.2.1 nq⟩
  ·
   obtain rfl:k=ps.length:=by omega
   have hf:decide (ps=qs)=true:=by simp;exact Iz HL.out fun j g1 g2=>HB.out.2.2 j g1 g2 g1
   have HF:=zH hf
   clear hf
   go_wp2
   go_ret
   exact ⟨by rw [HF.out];rfl,HB.out.2.1⟩
def lE (t:ByteArray):ByteArray:=mk 2048 (ei t)
def pU (t:ByteArray):List Int:=(List.range 2048).map fun i=>((ei t i).toNat:Int)
theorem pV (t:ByteArray):(pU t).length=2048:=by simp [pU]
theorem Fy (t:ByteArray) (k:Nat) (h:k<2048):(pU t).getD k 0=((ei t k).toNat:Int):=by
 simp [pU,List.getD,h]
theorem ye (x:UInt8):byteOf (x.toNat:Int)=x:=by
 have h:=x.toNat_lt
 unfold byteOf
 rw [show ((x.toNat:Int) % 256).toNat=x.toNat by omega]
 exact UInt8.ofNat_toNat
theorem BC (t:ByteArray):eu (pU t)=lE t:=by
 refine fm ?_ fun i hi => ?_
 ·
  rw [eS,pV];exact (ey _ _).symm
 ·
  rw [eS,pV] at hi
  rw [show bt (lE t) i=ei t i from kY _ _ _ hi]
  unfold eu bytesOf pU bt
  simp [hi,ye]
theorem Dz {t:ByteArray} (h:0<t.size) (i:Nat):ei t i=bt t (i % t.size):=if_neg (by omega)
theorem Gw (t:ByteArray) (h:t.size=0) (n:Nat) (w:World) (b:Nat) (hb:w.heap[b]? = some (.cells (madeCells #[.int .u8 0] n) 5 (0,0))):(convert 29 9 (.slice (some ⟨b,0,none⟩) n n)).run prog w=.ok (.string (mk n (ei t))) w:=by
 have:=run_convert_bytes_back (P:=prog) w 29 9 5 ⟨b,0,none⟩ n (List.replicate n 0) underlying29 underlying5 underlying9 (fun j hj=>by
  rw [List.length_replicate] at hj
  rw [cQ,Nat.zero_add,cell_of hb,BQ _ _ _ hj]
  simp)
 rw [List.length_replicate] at this
 have e:(⟨(List.replicate n (0:UInt8)).toArray⟩:ByteArray)=mk n (ei t) := ?_
 rw [this,e]
 refine fm ?_ fun i hi => ?_
 ·
  rw [ey];simp [ByteArray.size]
 ·
  have hi:i<n:=by simpa [ByteArray.size] using hi
  rw [kY _ _ _ hi]
  unfold ei bt
  rw [if_pos h]
  simp [hi]
theorem Fa {xs:List Int} {t:ByteArray} (h : ∀ k,k<2048→xs.getD k 0=((ei t k).toNat:Int)) (m:0<t.size → ∀ i,ei t i=bt t (i % t.size)) (hp:0<t.size) {k:Nat} (hk:k<2048):(byteOf (xs.getD k 0)).toNat=(bt t (k % t.size)).toNat:=by
 rw [h k hk,ye,m hp]
theorem xk (t:ByteArray) (w:World) (ht:t.size<140737488355328):Calls prog 17 #[.string t] w (iT (lE t) w):=by
 have hmk : ∀ w,(Instr.makeSlice 29 (.int .i64 2048) (.int .i64 2048)).run prog w=.ok (.slice (some ⟨w.heap.size,0,none⟩) 2048 2048) (w.alloc (.cells (madeCells #[.int .u8 0] 2048) 5)):=fun w=>run_make_row' (P:=prog) 29 5 (.int .u8 0) 1 underlying29 lX rfl .i64 .i64 2048 (by omega) (by omega) w
 have HI:=zH (fun w b h hb=>Gw t h 2048 w b hb)
 have HT:=zH (BC t)
 have HM:=zH (fun h i=>Dz (t:=t) h i)
 have HA:=zH (Fy t)
 have HL:=zH (pV t)
 rw [show mk 2048 (ei t)=lE t from rfl] at HI
 generalize lE t=img at *
 generalize pU t=xs at *
 go_enter func17,ntmps17
 go_upto_region 2 with fail
 have hs:=fq.start (w:=w) 2048 xs
 have HS:=zH hs
 have HN:=zH (ag w (.cells (madeCells #[.int .u8 0] 2048) 5))
 have HB:=zH (ae (Below.refl w.heap.size w) (.cells (madeCells #[.int .u8 0] 2048) 5))
 generalize hW:w.alloc (.cells (madeCells #[.int .u8 0] 2048) 5)=w2 at *
 clear hmk hs hW
 by_cases h0:t.size=0
 ·
  have hback:=HI.out w2 _ h0 HN.out
  have ht0 : ¬ (0:Int)<(t.size:Int):=by omega
  go_wp2
  go_loopw [4] (fun i wr=>i=.int .i64 0∧wr=w2) (fun i _=>0)
  case atStart=>exact ⟨rfl,rfl⟩
  case round =>
   obtain ⟨rfl,rfl⟩:=hrel
   go_wp2
   go_ret
   exact ⟨rfl,HB.out⟩
 ·
  have ht0:(0:Int)<(t.size:Int):=by omega
  have ht1:(t.size:Int)≠0:=by omega
  have ht2:((t.size:Int) == 0)=false:=zQ ht1
  have HP:=zH (show 0<t.size by omega)
  clear h0
  go_wp2
  go_loopw [4] (fun i wr => ∃ k:Nat,i=.int .i64 k∧k≤2048∧fq w wr w.heap.size 2048 k xs) (fun i _=>2048 - (intOf i).toNat)
  case atStart=>exact ⟨0,rfl,Nat.zero_le _,HS.out⟩
  case round =>
   obtain ⟨k,rfl,hk,hB⟩:=hrel
   by_cases hlt:k<2048
   ·
    have hlt':(k:Int)<2048:=by omega
    obtain ⟨y,hy,_⟩:=hB.cell k hlt
    have hf:=hB.free k
    have hr:(k:Int).tmod (t.size:Int)=((k % t.size:Nat):Int):=(Int.ofNat_tmod k t.size).symm
    have hrl:k % t.size<t.size:=Nat.mod_lt _ HP.out
    have HNX:=zH (hB.next zY hlt)
    rw [Fa HA.out HM.out HP.out hlt] at HNX
    clear hB
    generalize hq:k % t.size=q at *
    have hg:=gE t q hrl
    clear hq
    go_wp2
    go_roundw
    case rel=>exact ⟨k+1,by go_num,by omega,HNX.out⟩
    case measure=>simp [intOf];omega
   ·
    obtain rfl:k=2048:=by omega
    have hd:=fq.done (xs:=xs) (w:=w) (wr:=wr) (nb:=w.heap.size) (by rw [HL.out];exact hB)
    rw [HL.out,HT.out] at hd
    have HBB:=zH hB.below
    clear hB
    go_wp2
    go_ret
    exact ⟨rfl,HBB.out⟩
def Ji:Array Value := #[.int .i64 0,.string ⟨#[]⟩,.string ⟨#[]⟩,.int .i64 0,.int .i64 0,.int .i64 0,.string ⟨#[]⟩,.slice none 0 0,.slice none 0 0]
structure CR (w wr:World) (x:cW) (ba:Option Addr) (bc:Nat) (ra:Option Addr) (rc:Nat):Prop where
 below:Below w.heap.size w wr
 act:wr.heap[w.heap.size]? = some (.cells (x.row ba bc ra rc) 31 (0,0))
 res:wr.heap[w.heap.size+1]? = some (.cells Ji 31 (0,0))
theorem CR.aj {w w1 w2:World} {x:cW} {ba ra:Option Addr} {bc rc:Nat} (h:CR w w1 x ba bc ra rc) (hb:Below w1.heap.size w1 w2):CR w w2 x ba bc ra rc:=⟨gtr h.below hb,aa hb h.act,aa hb h.res⟩
section
open Go.RowKit
variable {X:Nat→Prop}
theorem sD (p:Nat) (W:gz) (G:Nat→Prop) (x:cW) (ba:Option Addr) (bc:Nat) (ra:Option Addr) (rc:Nat) (cx img:ByteArray) (w:World) (h:bI X w p W G) (n:zo W cx img) (fit:W.S.Fit) (hl:x.cD=0) (hk:x.kind≠7) (hb:aK w ba x.busy) (hbn:ba=none→bc=0) (hi:aJ w ra x.reads G) (hcap:x.reads.length≤rc) (lb:x.busy.length≤4611686018427387904) (lr:x.reads.length≤4611686018427387904):Calls prog 11 #[.pointer (some ⟨p,0,none⟩),.agg (x.row ba bc ra rc)] w fun e w' => ∃ W',zo W' (sk cx img W.S x).1 img∧W'.S=(sk cx img W.S x).2.1∧eL X p W' (sk cx img W.S x).2.2.1 (sk cx img W.S x).2.2.2 G w e w':=by
 refine (Hg p W G x ba bc ra rc cx w h n.calm n.ok n.bX fit hb hbn hi hcap lb lr).mono ?_
 rintro e w' ⟨hm,hp⟩
 obtain ⟨k1,k2,k3⟩:=KW n fit hl hk hm
 refine ⟨(I8 W x hm).1,k1,k2,?_⟩
 rw [← k3]
 exact hp
def ly (kind:Int) (key value:ByteArray):cW:=⟨kind,key,value,0,0,0,⟨#[]⟩,[],[]⟩
theorem lg (p:Nat) (W:gz) (G:Nat→Prop) (x:cW) (cx img:ByteArray) (w:World) (h:bI X w p W G) (n:zo W cx img) (fit:W.S.Fit) (hl:x.cD=0) (hk:x.kind≠7) (hb:x.busy=[]) (hr:x.reads=[]):Calls prog 11 #[.pointer (some ⟨p,0,none⟩),.agg #[.int .i64 x.kind,.string x.key,.string x.value,.int .i64 x.at_,.int .i64 x.width,.int .i64 x.cD,.string x.mask,.slice none 0 0,.slice none 0 0]] w fun e w' => ∃ W',zo W' (sk cx img W.S x).1 img∧W'.S=(sk cx img W.S x).2.1∧eL X p W' (sk cx img W.S x).2.2.1 (sk cx img W.S x).2.2.2 G w e w':=by
 have:=sD p W G x none 0 none 0 cx img w h n fit hl hk (by rw [hb];exact aK.nil _ _) (fun _=>rfl) (by rw [hr];exact ⟨aK.nil _ _,fun b o e=>by cases e⟩) (by rw [hr];exact Nat.le_refl _) (by rw [hb];exact Nat.zero_le _) (by rw [hr];exact Nat.zero_le _)
 rw [show x.row none 0 none 0 = #[.int .i64 x.kind,.string x.key,.string x.value,.int .i64 x.at_,.int .i64 x.width,.int .i64 x.cD,.string x.mask,.slice none 0 0,.slice none 0 0] from by unfold cW.row;rw [hb,hr];rfl] at this
 exact this
theorem C7 {x:ByteArray} {sec:Nat} {V:bg} (h:Lay x sec V) {r:aS} (hr:gI r) (h0:(cm V sec r).1=0) (hf:V.free<8):Lay (gN x (cm V sec r).2) sec ⟨true,V.ak,V.ay++[r],V.free+1⟩∧(⟨true,(cm V sec r).2.aq,ix ⟨true,sec,V⟩ (cm V sec r).2⟩:au)=⟨true,sec,⟨true,V.ak,V.ay++[r],V.free+1⟩⟩:=by
 have vk:=h.KI
 revert h0
 unfold cm
 split
 ·
  intro h0;exact absurd h0 (show ¬ (2202:Int)=0 by decide)
 split
 ·
  intro h0;exact absurd h0 (show ¬ (2201:Int)=0 by decide)
 intro _
 obtain ⟨f,hfe⟩ : ∃ f:Nat,V.free=(f:Int):=⟨V.free.toNat,by have:=vk.free;omega⟩
 have hf1:1≤f:=by have:=vk.free;omega
 have hf8:f<8:=by omega
 have hsame:=km x sec f (aG r)
 obtain ⟨b0,_⟩:=p9 (x:=x) (y:=ir x (bU sec f) (aG r)) (sec:=sec) hf1 hf8 (by rw [h.view];exact hfe) hsame
 have hslot:=mB h.size h.s1 hf8 (fB _ hr.1) b0
 have hlay:=ED h hf1 hf8 hfe hsame hr.1 hr.2 hslot
 refine ⟨?_,?_⟩
 ·
  show Lay (gF (sec:Int) [(V.free,r)] x) sec _
  rw [hfe]
  rw [hfe] at hlay
  exact hlay
 ·
  unfold ix
  have:([r]:List aS).filter dA=[r]:=by
   unfold dA
   simp [hr.2]
  show (⟨true,(sec:Int),⟨true,V.ak,(if (-1:Int)<0 then V.ay else [])++[r].filter dA,V.free+1⟩⟩:au)=_
  rw [this,if_pos (by decide)]
theorem Hv {x:ByteArray} (h:x.size=4096):Has x x:=⟨h,fun _ _=>rfl⟩
theorem extract_mk (x:ByteArray) (a n:Nat) (h:a+n≤x.size):x.extract a (a+n)=mk n fun i=>bt x (a+i):=by
 refine fm ?_ fun i hi => ?_
 ·
  rw [ey,ByteArray.size_extract];omega
 ·
  have hi':i<n:=by rw [ByteArray.size_extract] at hi;omega
  rw [kY _ _ _ hi',fo _ _ _ _ (by omega) h]
theorem LY {x:ByteArray} (h:x.size=4096):x.extract 2048 2560=iD x 4:=extract_mk x 2048 512 (by omega)
theorem Km {x:ByteArray} (h:x.size=4096):x.extract 2048 2112=dd x 4 0:=extract_mk x 2048 64 (by omega)
def kB:ByteArray:=⟨#[107]⟩
def vB:ByteArray:=⟨#[118]⟩
def Jh:ByteArray:=⟨#[97,98,99,100]⟩
def V0:bg:=⟨true,1,[],1⟩
def V1:bg:=⟨true,1,[⟨1,0,kB,vB⟩],2⟩
theorem DA:qQ (ly 0 ⟨#[]⟩ ⟨#[]⟩)=true:=by decide +kernel
theorem JY:qQ (ly 2 kB vB)=true:=by decide +kernel
theorem Io:qQ (ly 5 ⟨#[]⟩ ⟨#[]⟩)=true:=by decide +kernel
theorem zE {x img:ByteArray} (h:AG x) : ∃ x1,Lay x1 4 V0∧sk x img shut (ly 0 ⟨#[]⟩ ⟨#[]⟩)=(x1,⟨true,4,V0⟩,bq,0):=by
 have he:nL (kS x)=0:=by rw [lS h];rfl
 have hs:cS x=((4:Nat):Int):=by unfold cS;rw [lS h];rfl
 have hn:gX x=1:=by unfold gX;rw [he];rfl
 have e:dh x img []=(ir (ln x (cS x)) (bU (cS x) 0) (aG (cz (gX x))),⟨true,cS x,⟨true,gX x,[],1⟩⟩,[],0):=by
  unfold dh
  rw [he,if_neg (by decide),if_pos (by decide)]
  rfl
 refine ⟨_,pT h.size (by omega) (by omega) (by decide) (by decide) h.dead,?_⟩
 unfold sk
 rw [DA,if_neg (by decide)]
 unfold lz
 rw [if_pos (show (ly 0 ⟨#[]⟩ ⟨#[]⟩).kind=0 from rfl),show (ly 0 ⟨#[]⟩ ⟨#[]⟩).reads=[] from rfl,e,hs,hn]
 rfl
theorem Fu {x img:ByteArray} (h:Lay x 4 V0) : ∃ x1,Lay x1 4 V1∧sk x img ⟨true,4,V0⟩ (ly 2 kB vB)=(x1,⟨true,4,V1⟩,bq,0):=by
 have hr:gI ⟨1,0,kB,vB⟩:=qa (by decide) (by decide) (by decide)
 have hc:(cm V0 4 ⟨1,0,kB,vB⟩).1=0:=by decide +kernel
 have h12:=C7 h hr hc (by decide)
 rw [show ((4:Nat):Int)=4 from rfl] at h12
 obtain ⟨h1,h2⟩:=h12
 refine ⟨_,h1,?_⟩
 unfold sk
 rw [JY,if_neg (by decide)]
 unfold lz
 rw [if_neg (show ¬ (ly 2 kB vB).kind=0 by decide),if_neg (show ¬ (ly 2 kB vB).kind=1 by decide),if_pos (show (ly 2 kB vB).kind=2 from rfl)]
 unfold pe
 rw [if_neg (show ¬ cJ ⟨true,4,V0⟩ (ly 2 kB vB).key≠0 by decide),if_neg (show ¬ 20<(ly 2 kB vB).value.size by decide)]
 unfold iy tS
 rw [show (⟨true,4,V0⟩:au).view=V0 from rfl,show (⟨true,4,V0⟩:au).aq=4 from rfl,show (ly 2 kB vB).key=kB from rfl,show (ly 2 kB vB).value=vB from rfl,show (ly 2 kB vB).reads=[] from rfl]
 generalize cm V0 4 ⟨1,0,kB,vB⟩=c at hc h1 h2
 rw [hc,if_neg (by decide),if_neg (by decide),if_pos (by decide),h2]
 rfl
theorem Dn {x img:ByteArray}:sk x img ⟨true,4,V1⟩ (ly 5 ⟨#[]⟩ ⟨#[]⟩)=(x,⟨true,4,V1⟩,⟨⟨#[]⟩,[⟨kB,vB⟩],[],false⟩,0):=by
 unfold sk
 rw [Io,if_neg (by decide)]
 unfold lz
 rw [if_neg (by decide),if_neg (by decide),if_neg (by decide),if_neg (by decide),if_neg (by decide),if_pos (show (ly 5 ⟨#[]⟩ ⟨#[]⟩).kind=5 from rfl)]
 have:kA ⟨true,4,V1⟩=([⟨kB,vB⟩],0):=by decide +kernel
 rw [this]
theorem Bl:cg V1.ay=[⟨kB,vB⟩]:=by decide +kernel
theorem Dm {x:ByteArray} (h:Lay x 4 V1):iw (iD x 4)=V1∧dB (dd x 4 0)=some (cz 1) ∧ ∃ t,fc (dd x 4 0)=some t∧t.size=32:=by
 have h1:=h.ak.2.2
 have hg:dB (dd x 4 0)=some (cz 1):=by
  rw [h1]
  exact js (gU (by decide) (by decide))
 refine ⟨h.view,hg,?_⟩
 unfold dB at hg
 cases hp:fc (dd x 4 0) with
 | none=>rw [hp] at hg;cases hg
 | some t=>exact ⟨t,rfl,qW hp⟩
end
section
open Go.RowKit
variable {X:Nat→Prop}
theorem EF (x:Int) (w:World):Calls prog 13 #[.int .i64 x] w fun e w'=>e=.returned (.int .i64 x)∧w'=w:=(FN x w).mono fun e w' h=>⟨h.1,h.2.symm⟩
theorem EC {x:ByteArray} {S:au} {V:bg} (h:Lay x 4 V) (e:S=⟨true,4,V⟩):S.Fit:=by
 subst e
 exact .inr ⟨rfl,show (4:Int)≤4 by decide,show (4:Int)<8 by decide,h.KI⟩
theorem Ho (p:Nat) (W:gz) (G:Nat→Prop) (x0 img:ByteArray) (w:World) (h:bI X w p W G) (n:zo W x0 img) (hs:W.S=shut) (hx:AG x0):Calls prog 11 #[.pointer (some ⟨p,0,none⟩),.agg #[.int .i64 0,.string ⟨#[]⟩,.string ⟨#[]⟩,.int .i64 0,.int .i64 0,.int .i64 0,.string ⟨#[]⟩,.slice none 0 0,.slice none 0 0]] w fun e w' => ∃ W' x1,zo W' x1 img∧W'.S=⟨true,4,V0⟩∧Lay x1 4 V0∧eL X p W' bq 0 G w e w':=by
 obtain ⟨x1,h1,h2⟩:=zE (img:=img) hx
 have:=lg p W G (ly 0 ⟨#[]⟩ ⟨#[]⟩) x0 img w h n (.inl hs) rfl (by decide) rfl rfl
 rw [hs,h2] at this
 refine this.mono ?_
 rintro e w' ⟨W',k1,k2,k3⟩
 exact ⟨W',x1,k1,k2,h1,k3⟩
theorem F7 (p:Nat) (W:gz) (G:Nat→Prop) (x0 img:ByteArray) (w:World) (h:bI X w p W G) (n:zo W x0 img) (hs:W.S=⟨true,4,V0⟩) (hx:Lay x0 4 V0):Calls prog 11 #[.pointer (some ⟨p,0,none⟩),.agg #[.int .i64 2,.string ⟨#[107]⟩,.string ⟨#[118]⟩,.int .i64 0,.int .i64 0,.int .i64 0,.string ⟨#[]⟩,.slice none 0 0,.slice none 0 0]] w fun e w' => ∃ W' x1,zo W' x1 img∧W'.S=⟨true,4,V1⟩∧Lay x1 4 V1∧eL X p W' bq 0 G w e w':=by
 obtain ⟨x1,h1,h2⟩:=Fu (img:=img) hx
 have:=lg p W G (ly 2 kB vB) x0 img w h n (EC hx hs) rfl (by decide) rfl rfl
 rw [hs,h2] at this
 refine this.mono ?_
 rintro e w' ⟨W',k1,k2,k3⟩
 exact ⟨W',x1,k1,k2,h1,k3⟩
def fW:jA:=⟨⟨#[]⟩,[⟨kB,vB⟩],[],false⟩
theorem I1 (p:Nat) (W:gz) (G:Nat→Prop) (x0 img:ByteArray) (w:World) (h:bI X w p W G) (n:zo W x0 img) (hs:W.S=⟨true,4,V1⟩) (hx:Lay x0 4 V1):Calls prog 11 #[.pointer (some ⟨p,0,none⟩),.agg #[.int .i64 5,.string ⟨#[]⟩,.string ⟨#[]⟩,.int .i64 0,.int .i64 0,.int .i64 0,.string ⟨#[]⟩,.slice none 0 0,.slice none 0 0]] w fun e w' => ∃ W',zo W' x0 img∧eL X p W' fW 0 G w e w':=by
 have:=lg p W G (ly 5 ⟨#[]⟩ ⟨#[]⟩) x0 img w h n (EC hx hs) rfl (by decide) rfl rfl
 rw [hs,Dn] at this
 refine this.mono ?_
 rintro e w' ⟨W',k1,k2,k3⟩
 exact ⟨W',k1,k3⟩
structure Own (X:Nat→Prop) (w w':World) (p:Nat) (W:gz) (G:Nat→Prop):Prop where
 at_:bI X w' p W G
 below:Below w.heap.size w w'
 new : ∀ i,G i→w.heap.size≤i
theorem Own.aj {w w1 w2:World} {p:Nat} {W:gz} {G:Nat→Prop} (h:Own X w w1 p W G) (hb:Below w1.heap.size w1 w2):Own X w w2 p W G:=⟨h.at_.aj hb,gtr h.below hb,h.new⟩
theorem Own.step {w w1 w2:World} {p:Nat} {W W':gz} {G G':Nat→Prop} (h:Own X w w1 p W G) (h2:bI X w2 p W' G') (st:Step G G' w1 w2):Own X w w2 p W' G' :=
 ⟨h2,h.below.trans (st.aD.below h.below.size fun i hi hg=>by have:=h.new i hg;omega),fun i hi=>(st.gA i hi).elim (h.new i) (fun hl=>Nat.le_trans h.below.size hl)⟩
theorem AW (w:World):Calls prog 9 #[] w fun e w'=>e=.returned (.bool true)∧Below w.heap.size w w':=by
 have HN:=zH (show Calls prog 16 #[.string ⟨#[97,98,99,100]⟩] w (qq (fun _=>False) Jh w) from oI Jh w (by decide) (fun _ h=>h.elim))
 have HX:=zH (show AG (gT Jh) from vG (by decide))
 have HM:=zH EF
 go_enter func9,ntmps9
 go_upto_region 2 with (go_at_call 16;refine HN.out.mono ?_;rintro e w1 ⟨p,W0,G0,rfl,hw,hb,hg,hc,hl,ok,hbusy,hq,hs⟩)
 have HO:=zH (zA (show Own (fun _=>False) w w1 p W0 G0 from ⟨hw,hb,hg⟩) (zA (zW hc hl ok hq (Hv HX.out.size)) hs))
 clear hw hb hg hc hl ok hbusy hq hs HN
 generalize gT Jh=x0 at *
 go_upto_region 4 with (go_at_call 13;refine (HM.out _ _).mono ?_;rintro e w' ⟨rfl,rfl⟩)
 have HD:=zH (fun w' hb=>Ho p W0 G0 x0 x0 w' (HO.out.1.aj hb).at_ HO.out.2.1 HO.out.2.2 HX.out)
 go_upto_region 5 with (go_at_call 11;refine (HD.out _ zR).mono ?_;rintro e w2 ⟨W1,x1,n1,hs1,lay1,va,vc,vb,vd,rfl,o1,o2,G1,hw1,st1,m1,m2⟩)
 have HO1:=zH (zA ((HO.out.1.step hw1 st1).aj (ae zR (.cells #[.string bq.value,.slice va bq.aQ.length vc,.slice vb bq.reads.length vd,.bool bq.lost] 34))) (zA n1 (zA hs1 lay1)))
 generalize Value.agg #[.string bq.value,.slice va bq.aQ.length vc,.slice vb bq.reads.length vd,.bool bq.lost]=va1 at *
 generalize w2.alloc (.cells #[.string bq.value,.slice va bq.aQ.length vc,.slice vb bq.reads.length vd,.bool bq.lost] 34)=wA at *
 clear n1 hs1 lay1 o1 o2 hw1 st1 m1 m2 HD HO HX
 have HD:=zH (F7 p W1 G1 x1 x0 wA HO1.out.1.at_ HO1.out.2.1 HO1.out.2.2.1 HO1.out.2.2.2)
 go_upto_region 6 with (go_at_call 11;refine HD.out.mono ?_;rintro e w3 ⟨W2,x2,n1,hs1,lay1,va,vc,vb,vd,rfl,o1,o2,G2,hw1,st1,m1,m2⟩)
 have HO2:=zH (zA ((HO1.out.1.step hw1 st1).aj (ae zR (.cells #[.string bq.value,.slice va bq.aQ.length vc,.slice vb bq.reads.length vd,.bool bq.lost] 34))) (zA n1 (zA hs1 lay1)))
 generalize Value.agg #[.string bq.value,.slice va bq.aQ.length vc,.slice vb bq.reads.length vd,.bool bq.lost]=va2 at *
 generalize w3.alloc (.cells #[.string bq.value,.slice va bq.aQ.length vc,.slice vb bq.reads.length vd,.bool bq.lost] 34)=wB at *
 clear n1 hs1 lay1 o1 o2 hw1 st1 m1 m2 HD HO1
 have HD:=zH (I1 p W2 G2 x2 x0 wB HO2.out.1.at_ HO2.out.2.1 HO2.out.2.2.1 HO2.out.2.2.2)
 go_upto_region 7 with (go_at_call 11;refine HD.out.mono ?_;rintro e w4 ⟨W3,n1,va,vc,vb,vd,rfl,o1,o2,G3,hw1,st1,m1,m2⟩)
 have kD:=ag w4 (.cells #[.string fW.value,.slice va fW.aQ.length vc,.slice vb fW.reads.length vd,.bool fW.lost] 34)
 have HO3:=zH (zA ((HO2.out.1.step hw1 st1).aj (ae zR (.cells #[.string fW.value,.slice va fW.aQ.length vc,.slice vb fW.reads.length vd,.bool fW.lost] 34))) (zA n1.calm.cells (bj.cX (o1.alloc (.cells #[.string fW.value,.slice va fW.aQ.length vc,.slice vb fW.reads.length vd,.bool fW.lost] 34)))))
 have HK:=zH kD
 have hx4:x2.size=4096:=HO2.out.2.2.2.size
 have HH:=zH (Dm HO2.out.2.2.2)
 have HE:=zH (zA (LY hx4) (Km hx4))
 generalize Value.agg #[.string fW.value,.slice va fW.aQ.length vc,.slice vb fW.reads.length vd,.bool fW.lost]=va3 at *
 generalize w4.alloc (.cells #[.string fW.value,.slice va fW.aQ.length vc,.slice vb fW.reads.length vd,.bool fW.lost] 34)=wC at *
 generalize w4.heap.size=bL at *
 clear n1 o1 o2 hw1 st1 m1 m2 HD HO2 kD
 have HC:=zH (ju p W3 G3 wC HO3.out.1.at_)
 rw [HO3.out.2.1] at HC
 go_upto_region 8 with (go_at_call 14;refine HC.out.mono ?_;rintro e w5 ⟨rfl,rfl⟩)
 go_upto_region 10 with fail
 have HS:=zH (wR (iD x2 4) w5 (ey _ _))
 rw [HH.out.1] at HS
 have b10:(2048:Int)≤4096:=by decide
 go_upto_region 11 with (go_at_call 19;rw [HE.out.1];refine HS.out.mono ?_;rintro e w6 ⟨vr,rfl,o6,hb6⟩;obtain ⟨va5,vc5,rfl⟩:=cA o6)
 have HV:=zH (ag w6 (.cells #[.bool V1.bX,.int .i64 V1.ak,.slice va5 V1.ay.length vc5,.int .i64 V1.free] 52))
 have HB6:=zH (gtr hb6 (ae (Below.refl w6.heap.size w6) (.cells #[.bool V1.bX,.int .i64 V1.ak,.slice va5 V1.ay.length vc5,.int .i64 V1.free] 52)))
 have HR:=zH (bj.cX (o6.alloc (.cells #[.bool V1.bX,.int .i64 V1.ak,.slice va5 V1.ay.length vc5,.int .i64 V1.free] 52)))
 generalize Value.agg #[.bool V1.bX,.int .i64 V1.ak,.slice va5 V1.ay.length vc5,.int .i64 V1.free]=va6 at *
 generalize w6.alloc (.cells #[.bool V1.bX,.int .i64 V1.ak,.slice va5 V1.ay.length vc5,.int .i64 V1.free] 52)=wD at *
 generalize w6.heap.size=bV at *
 clear o6 hb6 HS HC
 obtain ⟨t,ht1,ht2⟩:=HH.out.2.2
 have HG:=zH (pD (dd x2 4 0) wD)
 rw [ht1,show oT (some t) 200=.tuple #[.string t,.int .i64 0] from rfl] at HG
 have HT:=zH ht2
 clear ht1 ht2
 go_upto_region 12 with (go_at_call 25;rw [HE.out.2];refine HG.out.mono ?_;rintro e w7 ⟨rfl,hb7⟩)
 have HB7:=zH hb7
 have HG2:=zH (ri (dd x2 4 0) w7)
 rw [HH.out.2.1,show p6 (some (cz 1)) 1900=.tuple #[.agg #[.int .i64 0,.int .i64 1,.string ⟨#[]⟩,.string ⟨#[]⟩],.int .i64 0] from rfl] at HG2
 clear hb7 HG
 go_upto_region 13 with (go_at_call 26;rw [HE.out.2];refine HG2.out.mono ?_;rintro e w8 ⟨rfl,hb8⟩)
 have HRB:=zH (ag w8 (.cells #[.int .i64 0,.int .i64 1,.string ⟨#[]⟩,.string ⟨#[]⟩] 74))
 have HB8:=zH (gtr hb8 (ae (Below.refl w8.heap.size w8) (.cells #[.int .i64 0,.int .i64 1,.string ⟨#[]⟩,.string ⟨#[]⟩] 74)))
 generalize w8.alloc (.cells #[.int .i64 0,.int .i64 1,.string ⟨#[]⟩,.string ⟨#[]⟩] 74)=wE at *
 generalize w8.heap.size=bR at *
 clear hb8 HG2
 have HBD:=zH (gtr HB7.out HB8.out)
 have kV:=aa HBD.out HV.out
 have c2:wE.cell? ⟨bV,2,none⟩=some (.slice va5 V1.ay.length vc5):=cell_of kV 2
 have HBU:=zH (nE _ V1.ay wE (HR.out.aj HBD.out) (by decide) (by
  intro r hr
  rw [show V1.ay=[⟨1,0,kB,vB⟩] from rfl,List.mem_singleton] at hr
  rw [hr]
  exact qa (by decide) (by decide) (by decide)))
 clear kV
 rw [Bl] at HBU
 go_upto_region 14 with (go_at_call 27;refine HBU.out.mono ?_;rintro e w9 ⟨vp,rfl,o9,hb9⟩;obtain ⟨va9,vc9,rfl⟩:=cA o9)
 have HB9:=zH hb9
 have H9:=zH (bj.cX o9)
 clear hb9 o9 c2 HBU
 have HCN:=zH (pq x2 w9 hx4)
 go_upto_region 15 with (go_at_call 28;refine HCN.out.mono ?_;rintro e w10 ⟨pc,rfl,hch,hb10,_⟩)
 have HB10:=zH hb10
 clear hch hb10 HCN
 have HL10:=zH (gtr HB6.out (gtr HBD.out (gtr HB9.out HB10.out)))
 have HVV:=zH (aa (gtr HBD.out (gtr HB9.out HB10.out)) HV.out)
 have HRR:=zH (aa (gtr HB9.out HB10.out) HRB.out)
 have HKK:=zH (aa HL10.out HK.out)
 have HLS:=zH (HO3.out.2.2.aj HL10.out)
 have HPS:=zH (H9.out.aj HB10.out)
 have HBW:=zH (gtr HO3.out.1.below HL10.out)
 have HFW:=zH (fun w' (hb:Below w10.heap.size w10 w')=>(show w'.cell? ⟨bL,1,none⟩=some (.slice va fW.aQ.length vc)∧w'.cell? ⟨bV,0,none⟩=some (.bool true)∧w'.cell? ⟨bR,1,none⟩=some (.int .i64 1) from ⟨cell_of (aa hb HKK.out) 1,cell_of (aa hb HVV.out) 0,cell_of (aa hb HRR.out) 1⟩))
 have hnew:=bj.cX (uQ (B:=0) (sz:=2) (n:=1) (ag w10 (.cells #[.string ⟨#[107]⟩,.string ⟨#[118]⟩] 83)) zX rfl (by decide))
 have HP1:=zH (jO _ _ fW.aQ [⟨kB,vB⟩] _ (HLS.out.aj (ae zR _)) hnew (by decide))
 rw [show decide (fW.aQ=[⟨kB,vB⟩])=true from by decide +kernel] at HP1
 have HP2:=zH (fun w' (hb:Below w10.heap.size w10 w')=>(show Calls prog 22 #[.slice va9 1 vc9,.slice va fW.aQ.length vc] w' (AS true w') from by
  have:=jO _ _ [⟨kB,vB⟩] fW.aQ w' (HPS.out.aj hb) (HLS.out.aj hb) (by decide)
  rw [show decide ([⟨kB,vB⟩]=fW.aQ)=true from by decide +kernel] at this
  exact this))
 obtain ⟨c1,c2,c3⟩:=HFW.out w10 zR
 have ht:=HT.out
 clear hnew
 go_wp2_with (first
  | (go_at_call 13;refine (HM.out _ _).mono ?_;rintro e w' ⟨rfl,rfl⟩)
  | (go_at_call 22;(with_reducible refine HP1.out.mono ?_);rintro e w11 ⟨rfl,hb11⟩;obtain ⟨d1,d2,d3⟩:=HFW.out w11 (gtr (ae zR _) hb11))
  | (go_at_call 22;(with_reducible refine (HP2.out _ (gtr (ae zR _) hb11)).mono ?_);rintro e w12 ⟨rfl,hb12⟩))
 go_ret
 exact ⟨rfl,gtr HBW.out (gtr (gtr (ae zR _) hb11) hb12)⟩
end
section
open Go.RowKit
variable {X:Nat→Prop}
structure ns where
 x:cW
 ba:Option Addr
 bc:Nat
 ra:Option Addr
 rc:Nat
def ns.row (a:ns):Array Value:=a.x.row a.ba a.bc a.ra a.rc
structure ns.At (w:World) (a:ns):Prop where
 busy:aK w a.ba a.x.busy
 KO:a.ba=none→a.bc=0
 reads:aK w a.ra a.x.reads
 Me:a.ra=none→a.rc=0
 KN:a.x.busy.length * 8≤140737488355328
 Kh:a.x.reads.length * 8≤140737488355328
 La:a.x.reads.length≤a.rc
theorem ns.At.aj {w w':World} {a:ns} (h:a.At w) (hb:Below w.heap.size w w'):a.At w':=⟨h.busy.aj hb,h.KO,h.reads.aj hb,h.Me,h.KN,h.Kh,h.La⟩
def pJ (w:World) (a:Option Addr) (us:List ns):Prop :=
 ∀ i (h:i<us.length),us[i].At w ∧ ∃ b off,a=some ⟨b,off,none⟩ ∧ ∀ j u,us[i].row[j]? = some u→w.cell? ⟨b,off+i * 9+j,none⟩=some u
theorem pJ.aj {w w':World} {a:Option Addr} {us:List ns} (h:pJ w a us) (hb:Below w.heap.size w w'):pJ w' a us:=fun i hi=>by
 obtain ⟨h1,b,off,ha,hc⟩:=h i hi
 exact ⟨h1.aj hb,b,off,ha,fun j u hu=>(hb.cell (p:=⟨b,off+i * 9+j,none⟩) (zL w _ (hc j u hu))).trans (hc j u hu)⟩
theorem BX {w:World} {B:Nat} {a:Option Addr} {c:Nat} {xs:List Int} (h:w.ownsRow B 3 1 (.slice a xs.length c) xs.length (az xs)):aK w a xs∧(a=none→c=0)∧xs.length≤c ∧ ∀ b o,a=some ⟨b,o,none⟩→B≤b:=by
 have hn:=bp.cX h
 obtain ⟨a',c',e,hi⟩:=hn.ints
 obtain ⟨rfl,rfl⟩:a=a'∧c=c':=by simpa using e
 refine ⟨hi,?_⟩
 rcases h.2 with ⟨e2,hx⟩ | ⟨g,cap,cur,e2,hb,hh,hle,r⟩
 ·
  obtain ⟨rfl,h0,rfl⟩:a=none∧xs.length=0∧c=0:=by simpa using e2
  exact ⟨fun _=>rfl,by omega,fun b o e=>by cases e⟩
 ·
  obtain ⟨rfl,rfl⟩:a=some ⟨g,0,none⟩∧c=cap:=by simpa using e2
  exact ⟨fun e=>(by cases e),hle,fun b o e=>by cases e;exact hb⟩
def r9 (k:Int):cW:=⟨6,⟨#[]⟩,⟨#[]⟩,k,1,0,⟨#[]⟩,[],[]⟩
theorem JX {k:Int} (h0:0≤k) (h1:k<2048):qQ (r9 k)=true:=by
 have e1:bG 0 4095 [k]=true:=by
  unfold bG
  simp
  omega
 have e2:pA (r9 k)=true:=by
  have key : ∀ b:Bool,([(107,false),(118,false),(114,false),(98,b || true),(108,false)]:List (UInt8×Bool)).all (fun p => !p.2 || hasB (mN 6) p.1)=true:=by decide +kernel
  have e0:(⟨#[]⟩:ByteArray).toList=[]:=by rw [ByteArray.toList_eq]
  unfold pA qg
  rw [show (r9 k).key=⟨#[]⟩ from rfl,show (r9 k).value=⟨#[]⟩ from rfl,e0]
  exact key (k != 0)
 unfold qQ
 rw [show (r9 k).at_=k from rfl,e1,e2]
 show (bG 0 7 [6]&&qd (r9 k)&&true&&true&&bG 0 8 [1]&&bG 0 65535 [0]&&bG 1 400 []&&bG 0 4095 [])=true
 rfl
end
def lP (x:ByteArray) (S:au) (E:Int):Prop:=(AG x∧S=shut) ∨ ∃ ps,(mw x ps E∧S=shut)∨ij x S ps E
theorem lP.fit {x:ByteArray} {S:au} {E:Int} (h:lP x S E):S.Fit:=by
 rcases h with ⟨_,h⟩ | ⟨ps,⟨_,h⟩ | h⟩
 ·
  exact .inl h
 ·
  exact .inl h
 ·
  exact h.fit
theorem lP.more {x:ByteArray} {S:au} {E E':Int} (h:lP x S E) (k:E≤E'):lP x S E':=by
 rcases h with h | ⟨ps,⟨h1,h2⟩ | h⟩
 ·
  exact .inl h
 ·
  exact .inr ⟨ps,.inl ⟨h1.more k,h2⟩⟩
 ·
  exact .inr ⟨ps,.inr (h.more k)⟩
theorem Fv {x img:ByteArray} {reads:List Int} (hr : ¬ cP reads=true):(dh x img reads).1=x∧(dh x img reads).2.1=shut:=by
 unfold dh
 rw [if_neg hr]
 split <;> exact ⟨rfl,rfl⟩
theorem FI {x img:ByteArray} {S:au} {E:Int} (h:lP x S E) (h0:0≤E) (hE:E<1048576) (a:cW):lP (lz x img S a).1 (lz x img S a).2.1 (E+1):=by
 have hm:=h.more (show E≤E+1 by omega)
 unfold lz
 by_cases k0:a.kind=0
 ·
  rw [if_pos k0]
  unfold gH
  dsimp only
  by_cases hr:cP a.reads=true
  ·
   rcases h with ⟨h,_⟩ | ⟨ps,⟨h,_⟩ | h⟩
   ·
    exact .inr ⟨_,.inr ((Bp (img:=img) h hr).1.more (by omega))⟩
   ·
    exact .inr ⟨_,.inr (tw (img:=img) h hE hr).1⟩
   ·
    exact .inr ⟨_,.inr (tw (img:=img) h.kept hE hr).1⟩
  ·
   obtain ⟨e1,e2⟩:=Fv (x:=x) (img:=img) hr
   rw [e1,e2]
   rcases hm with ⟨h,_⟩ | ⟨ps,⟨h,_⟩ | h⟩
   ·
    exact .inl ⟨h,rfl⟩
   ·
    exact .inr ⟨ps,.inl ⟨h,rfl⟩⟩
   ·
    exact .inr ⟨ps,.inl ⟨h.kept,rfl⟩⟩
 rw [if_neg k0]
 by_cases k1:a.kind=1
 ·
  rw [if_pos k1]
  dsimp only
  rcases hm with ⟨h,_⟩ | ⟨ps,⟨h,_⟩ | h⟩
  ·
   rw [CW h];exact .inl ⟨h,rfl⟩
  ·
   exact .inr ⟨ps,.inr (vN h).2⟩
  ·
   exact .inr ⟨ps,.inr (vN h.kept).2⟩
 rw [if_neg k1]
 by_cases k2:a.kind=2
 ·
  rw [if_pos k2]
  have shutP:S=shut→lP (gH (pe x img S a.key a.value a.reads)).1 (gH (pe x img S a.key a.value a.reads)).2.1 (E+1):=fun e=>by
   have:pe x img S a.key a.value a.reads=(x,S,[],2302):=by rw [e];rfl
   unfold gH
   rw [this]
   exact hm
  rcases h with ⟨_,e⟩ | ⟨ps,⟨_,e⟩ | h⟩
  ·
   exact shutP e
  ·
   exact shutP e
  ·
   have o:=DG (img:=img) h hE a.key a.value a.reads
   by_cases e:IA ps a.key a.value a.reads=0
   ·
    exact .inr ⟨_,.inr (o.2 e).1⟩
   ·
    have e2:=o.1 e
    unfold gH
    rw [e2]
    exact hm
 rw [if_neg k2]
 by_cases k3:a.kind=3
 ·
  rw [if_pos k3]
  exact hm
 rw [if_neg k3]
 by_cases k4:a.kind=4
 ·
  rw [if_pos k4]
  have shutP:S=shut→lP (gH (pR x img S a.key a.reads)).1 (gH (pR x img S a.key a.reads)).2.1 (E+1):=fun e=>by
   have:pR x img S a.key a.reads=(x,S,[],2302):=by rw [e];rfl
   unfold gH
   rw [this]
   exact hm
  rcases h with ⟨_,e⟩ | ⟨ps,⟨_,e⟩ | h⟩
  ·
   exact shutP e
  ·
   exact shutP e
  ·
   have o:=DF (img:=img) h hE a.key a.reads
   by_cases e:He ps a.key a.reads=0
   ·
    exact .inr ⟨_,.inr (o.2 e).1⟩
   ·
    have e2:=o.1 e
    unfold gH
    rw [e2]
    exact hm
 rw [if_neg k4]
 split
 ·
  exact hm
 ·
  split <;> exact hm
theorem Ig {x img:ByteArray} {S:au} {E:Int} (h:lP x S E) (h0:0≤E) (hE:E<1048576) (a:cW):lP (sk x img S a).1 (sk x img S a).2.1 (E+1):=by
 unfold sk
 split
 ·
  exact h.more (by omega)
 ·
  exact FI h h0 hE a
theorem Jn (cx img:ByteArray) (S:au) {k:Int} (h0:0≤k) (h1:k<2048):sk cx img S (r9 k)=(cx,S,⟨⟨#[]⟩,[],[gK img k],false⟩,0):=by
 unfold sk
 rw [JX h0 h1,if_neg (by decide)]
 unfold lz
 rw [show (r9 k).kind=6 from rfl,if_neg (by decide),if_neg (by decide),if_neg (by decide),if_neg (by decide),if_neg (by decide),if_neg (by decide),if_pos rfl]
 rw [show A5 img (r9 k).at_ (r9 k).width=([gK img k],0) from by
  unfold A5
  rw [show (r9 k).at_=k from rfl,show (r9 k).width=1 from rfl,if_pos (mS h0 h1),Aa]]
theorem J9 (er:Int) (out:List Int):(outs er out).length≤out.length:=by
 unfold outs
 split
 ·
  exact Nat.le_refl _
 ·
  exact Nat.zero_le _
theorem B6 (c:Int×fu) (x img:ByteArray) (S:au) (reads:List Int):(tS c x img S reads).2.2.1.length≤reads.length:=by
 unfold tS
 split
 ·
  exact Nat.zero_le _
 ·
  split
  ·
   exact Nat.zero_le _
  ·
   split
   ·
    exact Nat.le_of_eq (List.length_map _)
   ·
    exact Nat.zero_le _
theorem I2 {x img:ByteArray} {S:au} {E:Int} (h:lP x S E) (a:cW):(sk x img S a).2.2.1.aQ.length≤7∧(sk x img S a).2.2.1.reads.length≤a.reads.length+1:=by
 have hl:(kA S).1.length≤7:=by
  rcases h with ⟨_,rfl⟩ | ⟨ps,⟨_,rfl⟩ | h⟩
  ·
   exact Nat.zero_le _
  ·
   exact Nat.zero_le _
  ·
   rw [BV h];exact h.kept.sorted.2
 have st : ∀ r:ByteArray×au×List Int×Int,r.2.2.1.length≤a.reads.length→(gH r).2.2.1.aQ.length≤7∧(gH r).2.2.1.reads.length≤a.reads.length+1:=fun r hr=>⟨Nat.zero_le _,by
  have:=J9 r.2.2.2 r.2.2.1
  show (outs r.2.2.2 r.2.2.1).length≤_
  omega⟩
 unfold sk
 split
 ·
  exact ⟨Nat.zero_le _,Nat.zero_le _⟩
 unfold lz
 split
 ·
  refine st _ ?_
  unfold dh
  split
  ·
   exact Nat.zero_le _
  ·
   split
   ·
    exact Nat.le_of_eq (List.length_map _)
   ·
    exact Nat.zero_le _
 split
 ·
  exact ⟨Nat.zero_le _,Nat.zero_le _⟩
 split
 ·
  refine st _ ?_
  unfold pe iy
  split
  ·
   exact Nat.zero_le _
  ·
   split
   ·
    exact Nat.zero_le _
   ·
    exact B6 _ _ _ _ _
 split
 ·
  exact ⟨Nat.zero_le _,Nat.zero_le _⟩
 split
 ·
  refine st _ ?_
  unfold pR iy
  split
  ·
   exact Nat.zero_le _
  ·
   exact B6 _ _ _ _ _
 split
 ·
  exact ⟨hl,Nat.zero_le _⟩
 split
 ·
  refine ⟨Nat.zero_le _,?_⟩
  show (A5 img a.at_ a.width).1.length≤_
  unfold A5
  split
  ·
   exact Nat.le_add_left 1 _
  ·
   exact Nat.zero_le _
 ·
  exact ⟨Nat.zero_le _,Nat.zero_le _⟩
theorem bI.other {X Y F:Nat→Prop} {w w':World} {p:Nat} {W:gz} {G:Nat→Prop} (h:bI X w p W G) (t:Touch F w w') (hF : ∀ i,F i→X i) (d : ∀ i,F i → ¬ G i) (hY : ∀ i,Y i→X i∨(w.heap.size≤i∧i<w'.heap.size)):bI Y w' p W G:=by
 obtain ⟨s,k,c,b,H,z,h1,h2,h3,h4,h5⟩:=h.ex
 refine ⟨s,k,c,b,H,z,t.at h1 (fun hp=>d p hp ((h5 p).2 (.inr rfl))),h2.grow t hF (fun i hi hm=>d i hi ((h5 i).2 (.inl hm))) (fun hl hx=>(h4 hl).2 (hF _ hx)) hY,h3,fun hl=>⟨(h4 hl).1,fun hy => ?_⟩,h5⟩
 rcases hY _ hy with hx | hx
 ·
  exact (h4 hl).2 hx
 ·
  obtain ⟨F2,hc,_,_⟩:=h2.an
  have:=(hc.home hl).1
  omega
structure Twin (w0 w:World) (pa:Nat) (Wa:gz) (Ga:Nat→Prop) (pb:Nat) (Wb:gz) (Gb:Nat→Prop):Prop where
 a:bI Gb w pa Wa Ga
 b:bI Ga w pb Wb Gb
 off : ∀ i,Ga i → ¬ Gb i
 below:Below w0.heap.size w0 w
 na : ∀ i,Ga i→w0.heap.size≤i
 nb : ∀ i,Gb i→w0.heap.size≤i
theorem Twin.aj {w0 w w':World} {pa pb:Nat} {Wa Wb:gz} {Ga Gb:Nat→Prop} (h:Twin w0 w pa Wa Ga pb Wb Gb) (hb:Below w.heap.size w w'):Twin w0 w' pa Wa Ga pb Wb Gb :=
 ⟨h.a.aj hb,h.b.aj hb,h.off,gtr h.below hb,h.na,h.nb⟩
theorem Twin.swap {w0 w:World} {pa pb:Nat} {Wa Wb:gz} {Ga Gb:Nat→Prop} (h:Twin w0 w pa Wa Ga pb Wb Gb):Twin w0 w pb Wb Gb pa Wa Ga:=⟨h.b,h.a,fun i hi hg=>h.off i hg hi,h.below,h.nb,h.na⟩
theorem Twin.left {w0 w w':World} {pa pb:Nat} {Wa Wa' Wb:gz} {Ga Ga' Gb:Nat→Prop} (h:Twin w0 w pa Wa Ga pb Wb Gb) (ha:bI Gb w' pa Wa' Ga') (st:Step Ga Ga' w w'):Twin w0 w' pa Wa' Ga' pb Wb Gb :=
 ⟨ha,h.b.other st.aD (fun _ h=>h) h.off (fun i hi=>(st.gA i hi).imp id (fun hl=>⟨hl,ha.lt i hi⟩)),fun i hi hg=>(st.gA i hi).elim (fun h1=>h.off i h1 hg) (fun hl=>by have:=h.b.lt i hg;omega),h.below.trans (st.aD.below h.below.size fun i hi hg=>by have:=h.na i hg;omega),fun i hi=>(st.gA i hi).elim (h.na i) (fun hl=>Nat.le_trans h.below.size hl),h.nb⟩
theorem Twin.right {w0 w w':World} {pa pb:Nat} {Wa Wb Wb':gz} {Ga Gb Gb':Nat→Prop} (h:Twin w0 w pa Wa Ga pb Wb Gb) (hb:bI Ga w' pb Wb' Gb') (st:Step Gb Gb' w w'):Twin w0 w' pa Wa Ga pb Wb' Gb':=(h.swap.left hb st).swap
theorem Twin.make {w0 w w':World} {pa pb:Nat} {Wa Wb:gz} {Ga Gb:Nat→Prop} (ha:bI (fun _=>False) w pa Wa Ga) (h0:Below w0.heap.size w0 w) (na : ∀ i,Ga i→w0.heap.size≤i) (hb:bI Ga w' pb Wb Gb) (h1:Below w.heap.size w w') (nb : ∀ i,Gb i→w.heap.size≤i):Twin w0 w' pa Wa Ga pb Wb Gb :=
 ⟨ha.other (Touch.ah (F:=fun _=>False) h1) (fun _ h=>h) (fun _ h=>h.elim) (fun i hi=>.inr ⟨nb i hi,hb.lt i hi⟩),hb,fun i hi hg=>by have:=ha.lt i hi;have:=nb i hg;omega,gtr h0 h1,na,fun i hi=>Nat.le_trans h0.size (nb i hi)⟩
theorem Ku (w:World) (o1 o2:Obj):((w.alloc o1).alloc o2).heap[w.heap.size+1]? = some o2:=by simpa using ag (w.alloc o1) o2
theorem sM (A:jA) (a1 a2 b1 b2:Option Addr) (c1 c2 d1 d2:Nat) (w:World) (h1:bj w (.slice a1 A.aQ.length c1) A.aQ.length 2 (aI A.aQ)) (h2:bj w (.slice a2 A.aQ.length c2) A.aQ.length 2 (aI A.aQ)) (k1:aK w b1 A.reads) (k2:aK w b2 A.reads) (hp:A.aQ.length≤1000000) (hr:A.reads.length≤9223372036854775807):Calls prog 18 #[.agg #[.string A.value,.slice a1 A.aQ.length c1,.slice b1 A.reads.length d1,.bool A.lost],.agg #[.string A.value,.slice a2 A.aQ.length c2,.slice b2 A.reads.length d2,.bool A.lost]] w (AS true w):=by
 have HP:=zH (fun (w':World) (hb:Below w.heap.size w w')=>(show Calls prog 22 #[.slice a1 A.aQ.length c1,.slice a2 A.aQ.length c2] w' (AS true w') from by
  have:=jO _ _ A.aQ A.aQ w' (h1.aj hb) (h2.aj hb) hp
  rw [show decide (A.aQ=A.aQ)=true from decide_eq_true rfl] at this
  exact this))
 have HI:=zH (fun (w':World) (hb:Below w.heap.size w w')=>(show Calls prog 24 #[.slice b1 A.reads.length d1,.slice b2 A.reads.length d2] w' (qn true w') from by
  have:=wP b1 b2 d1 d2 A.reads A.reads w' (k1.aj hb) (k2.aj hb) hr
  rw [show decide (A.reads=A.reads)=true from decide_eq_true rfl] at this
  exact this))
 obtain ⟨v,ps,rs,l⟩:=A
 simp only at HP HI ⊢
 clear h1 h2 k1 k2 hp hr
 generalize ps.length=n at *
 generalize rs.length=r at *
 have hl:(l == l)=true:=by cases l <;> rfl
 have hv:(v.toList == v.toList)=true:=beq_self_eq_true _
 go_enter func18,ntmps18
 go_wp2_with (first
  | (go_at_call 22;refine (HP.out _ (by first | exact ae (ae zR _) _ | exact aw (ae (ae zR _) _))).mono ?_;rintro e w1 ⟨rfl,hb1⟩;have q1:w1.cell? ⟨w.heap.size,2,none⟩=some (.slice b1 r d1):=cell_of (aa hb1 (aa (ae zR _) (ag w _))) 2;have q2:w1.cell? ⟨w.heap.size+1,2,none⟩=some (.slice b2 r d2):=cell_of (aa hb1 (Ku w _ _)) 2)
  | (go_at_call 24;refine (HI.out _ (gtr (by first | exact ae (ae zR _) _ | exact aw (ae (ae zR _) _)) hb1)).mono ?_;rintro e w2 ⟨rfl,n2,rfl⟩))
 go_ret
 exact ⟨rfl,aT (gtr (ae (ae zR _) _) hb1) n2⟩
section
open Go.RowKit
variable {X:Nat→Prop}
end
theorem JL {img:ByteArray} (h:img.size=2048):Has (gT img) img:=by
 refine ⟨jE (by omega),fun i hi => ?_⟩
 unfold gT
 rw [pO,if_pos (by omega)]
theorem yX {w w':World} {a:Option Addr} {xs:List Int} {G:Nat→Prop} (h:aK w a xs) (hG : ∀ i,G i→w.heap.size≤i) (hb:Below w.heap.size w w'):aJ w' a xs G :=
 ⟨h.aj hb,fun b o e h0 hg=>by
  obtain ⟨b',off,e',hc⟩:=h 0 h0
  rw [e] at e'
  cases e'
  have:=zL w _ hc
  have:=hG b hg
  simp only at *
  omega⟩
end Go.Proofs.YtcfdenckiigdaaaGreat

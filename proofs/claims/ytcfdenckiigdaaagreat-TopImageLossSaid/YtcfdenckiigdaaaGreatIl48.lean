/- Part 48 of the contracts. -/
import Derived.Deep.Slices
import Derived.OpenShut
import Derived.ShutString
import Derived.Test.YtcfdenckiigdaaaGreatIl47
set_option linter.unusedVariables false
set_option maxRecDepth 100000
set_option maxHeartbeats 4000000
namespace Go.Proofs.YtcfdenckiigdaaaGreat
section
open Go.RowKit
structure qmG where
 x:qbI
 ba:Option Addr
 bc:Nat
 ra:Option Addr
 rc:Nat
def qmG.row (a:qmG):Array Value:=a.x.row a.ba a.bc a.ra a.rc
structure qmG.At (w:World) (a:qmG):Prop where
 busy:qal w a.ba a.x.busy
 bnil:a.ba=none→a.bc=0
 reads:qal w a.ra a.x.reads
 rnil:a.ra=none→a.rc=0
 blen:a.x.busy.length * 8≤140737488355328
 rlen:a.x.reads.length * 8≤140737488355328
 rcap:a.x.reads.length≤a.rc
theorem qmG.At.later {w w':World} {a:qmG} (h:a.At w) (hb:Below w.heap.size w w'):a.At w':=⟨h.busy.later hb,h.bnil,h.reads.later hb,h.rnil,h.blen,h.rlen,h.rcap⟩
def qhz (w:World) (a:Option Addr) (us:List qmG):Prop :=
 ∀ i (h:i<us.length),us[i].At w ∧ ∃ b off,a=some ⟨b,off,none⟩ ∧ ∀ j u,us[i].row[j]? = some u→w.cell? ⟨b,off+i * 9+j,none⟩=some u
theorem qhz.later {w w':World} {a:Option Addr} {us:List qmG} (h:qhz w a us) (hb:Below w.heap.size w w'):qhz w' a us:=fun i hi=>by
 obtain ⟨h1,b,off,ha,hc⟩:=h i hi
 exact ⟨h1.later hb,b,off,ha,fun j u hu=>(hb.cell (p:=⟨b,off+i * 9+j,none⟩) (World.block_lt_of_cell? w _ (hc j u hu))).trans (hc j u hu)⟩
theorem qkM {w:World} {B:Nat} {a:Option Addr} {c:Nat} {xs:List Int} (h:w.ownsRow B 3 1 (.slice a xs.length c) xs.length (intVals xs)):qal w a xs∧(a=none→c=0)∧xs.length≤c ∧ ∀ b o,a=some ⟨b,o,none⟩→B≤b:=by
 have hn:=qaq.of_own h
 obtain ⟨a',c',e,hi⟩:=hn.ints
 obtain ⟨rfl,rfl⟩:a=a'∧c=c':=by simpa using e
 refine ⟨hi,?_⟩
 rcases h.2 with ⟨e2,hx⟩ | ⟨g,cap,cur,e2,hb,hh,hle,r⟩
 ·
  obtain ⟨rfl,h0,rfl⟩:a=none∧xs.length=0∧c=0:=by simpa using e2
  exact ⟨fun _=>rfl,by omega,fun b o e=>by cases e⟩
 ·
  obtain ⟨rfl,rfl⟩:a=some ⟨g,0,none⟩∧c=cap:=by simpa using e2
  exact ⟨fun e=>(by cases e),hle,fun b o e=>by cases e;exact hb⟩
theorem qte (p:Nat) (W:Wld) (G:Nat→Prop) (x:qbI) (ba:Option Addr) (bc:Nat) (ra:Option Addr) (rc:Nat) (cx img:ByteArray) (w:World) (h:qaE w p W G) (n:Now W cx img) (hs:W.S=shut) (hl:x.kind≠7→1≤x.loss) {B:Nat} (hG : ∀ i,G i→i<B) (hb:w.ownsRow B 3 1 (.slice ba x.busy.length bc) x.busy.length (intVals x.busy)) (hr:w.ownsRow B 3 1 (.slice ra x.reads.length rc) x.reads.length (intVals x.reads)) (lb:x.busy.length≤4611686018427387904) (lr:x.reads.length≤4611686018427387904):Calls Tryz.prog 11 #[.pointer (some ⟨p,0,none⟩),.agg (x.row ba bc ra rc)] w fun e w' => ∃ W' y A er,Now W' y img∧W'.S=shut∧qa4 p W' A er G w e w':=by
 obtain ⟨b1,b2,b3,b4⟩:=qkM hb
 obtain ⟨r1,r2,r3,r4⟩:=qkM hr
 have hi:qak w ra x.reads G:=⟨r1,fun b o e _ hg=>by have:=r4 b o e;have:=hG b hg;omega⟩
 cases hm:mayB x with
 | false =>
  refine (qnm p W G x ba bc ra rc cx img w h n (.inl hs) hm b1 b2 hi r3 lb lr).mono ?_
  exact fun e w' hp=>⟨W,cx,_,_,n,hs,hp⟩
 | true =>
  refine (qpN p W G x ba bc ra rc cx img w h n (.inl hs) hm (fun hk=>by have:=hl hk.2;omega) b1 b2 hi r3 lb lr).mono ?_
  rintro e w' ⟨W',y,A,er,k1,k2,_,k4⟩
  exact ⟨W',y,A,er,k1,k2,k4⟩
def qo8 (k:Int):qbI:=⟨6,⟨#[]⟩,⟨#[]⟩,k,1,0,⟨#[]⟩,[],[]⟩
theorem qu1 {k:Int} (h0:0≤k) (h1:k<2048):mayB (qo8 k)=true:=by
 have e1:betweenB 0 4095 [k]=true:=by
  unfold betweenB
  simp
  omega
 have e2:leanB (qo8 k)=true:=by
  have key : ∀ b:Bool,([(107,false),(118,false),(114,false),(98,b || true),(108,false)]:List (UInt8×Bool)).all (fun p => !p.2 || hasB (qf5 6) p.1)=true:=by decide +kernel
  have e0:(⟨#[]⟩:ByteArray).toList=[]:=by rw [ByteArray.toList_eq]
  unfold leanB qiO
  rw [show (qo8 k).key=⟨#[]⟩ from rfl,show (qo8 k).value=⟨#[]⟩ from rfl,e0]
  exact key (k != 0)
 unfold mayB
 rw [show (qo8 k).at_=k from rfl,e1,e2]
 show (betweenB 0 7 [6]&&shortB (qo8 k)&&true&&true&&betweenB 0 8 [1]&&betweenB 0 65535 [0]&&betweenB 1 400 []&&betweenB 0 4095 [])=true
 rfl
theorem qvB (p:Nat) (W:Wld) (G:Nat→Prop) (k:Int) (cx img:ByteArray) (w:World) (h:qaE w p W G) (n:Now W cx img) (hs:W.S=shut) (h0:0≤k) (h1:k<2048):Calls Tryz.prog 11 #[.pointer (some ⟨p,0,none⟩),.agg #[.int .i64 6,.string ⟨#[]⟩,.string ⟨#[]⟩,.int .i64 k,.int .i64 1,.int .i64 0,.string ⟨#[]⟩,.slice none 0 0,.slice none 0 0]] w fun e w' => ∃ W',Now W' cx img∧W'.S=shut∧qa4 p W' ⟨⟨#[]⟩,[],[qdk img k],false⟩ 0 G w e w':=by
 have:=qdS p W G (qo8 k) cx img w h n (.inl hs) rfl (show (6:Int)≠7 by decide) rfl rfl
 have e:doX cx img W.S (qo8 k)=(cx,W.S,⟨⟨#[]⟩,[],[qdk img k],false⟩,0):=by
  unfold doX
  rw [qu1 h0 h1,if_neg (by decide)]
  unfold qhe
  rw [show (qo8 k).kind=6 from rfl,if_neg (by decide),if_neg (by decide),if_neg (by decide),if_neg (by decide),if_neg (by decide),if_neg (by decide),if_pos rfl]
  rw [show qvt img (qo8 k).at_ (qo8 k).width=([qdk img k],0) from by
   unfold qvt
   rw [show (qo8 k).at_=k from rfl,show (qo8 k).width=1 from rfl,if_pos (qex h0 h1),qnn]]
 rw [e] at this
 refine this.mono ?_
 rintro e w' ⟨W',k1,k2,k3⟩
 exact ⟨W',k1,k2.trans hs,k3⟩
theorem qrg {y img:ByteArray} (h:Has y img) (hi:img.size=2048):y.extract 0 2048=img:=by
 refine qbN ?_ fun i hi' => ?_
 ·
  rw [qbV _ _ _ (by rw [h.size];omega),hi]
 ·
  rw [qbV _ _ _ (by rw [h.size];omega)] at hi'
  rw [qbl _ _ _ _ hi' (by rw [h.size];omega),Nat.zero_add]
  exact h.same i (by omega)
end
section
open Go.RowKit
theorem qq8 {img:ByteArray} (h:img.size=2048):Has (firstX img) img:=by
 refine ⟨qcY (by omega),fun i hi => ?_⟩
 unfold firstX
 rw [qhL,if_pos (by omega)]
theorem qtm (z:Int):1≤wrap64 (1+bits .and .i64 z 8191):=by
 rw [quv]
 have h:=qaN (n:=1+z % 8192) (by omega) (by omega)
 have e:wrap64 (1+z % 8192)=IntKind.i64.wrap (1+z % 8192):=(IntWalk.i64_left _).symm
 omega
theorem qik (t:ByteArray) (a:Option Addr) (c:Nat) (us:List qmG) (x:Int) (w:World) (ht:t.size<140737488355328) (hu:qhz w a us) (hn:us.length≤9223372036854775807):Calls Tryz.prog 7 #[.string t,.slice a us.length c,.int .i64 x] w fun e w'=>e=.returned (.bool true)∧Below w.heap.size w w':=by
 have HA:=zH (qmR w)
 have HI:=zH (fun w=>qjv t w ht)
 have hsz:(imageT t).size=2048:=qbn _ _
 have HN:=zH (fun w=>qfj (imageT t) w (by rw [hsz];exact Nat.le_refl _))
 have HX:=zH (qq8 (img:=imageT t) hsz)
 have HM:=zH qrG
 have HU:=zH hu
 have HZ:=zH hsz
 clear hu hsz
 generalize imageT t=img at *
 go_enter Tryz.func7,Tryz.ntmps7
 go_upto_region 3 with (go_at_call 9;refine HA.out.mono ?_;rintro e w1 ⟨rfl,hb1⟩)
 have HB1:=zH hb1
 clear hb1
 go_upto_region 4 with (go_at_call 17;refine (HI.out _).mono ?_;rintro e w2 ⟨rfl,hb2⟩)
 have HB2:=zH (gtr HB1.out hb2)
 clear hb2
 go_upto_region 5 with (go_at_call 16;refine (HN.out _).mono ?_;rintro e w3 ⟨p,W0,G0,rfl,hw,hb,hg,hc,hl,ok,hbusy,hq,hs⟩)
 have HO:=zH (zA (show Own w w3 p W0 G0 from ⟨hw,gtr HB2.out hb,fun i hi=>Nat.le_trans HB2.out.size (hg i hi)⟩) (zA (qrE hc hl ok hq HX.out) hs))
 clear hw hb hg hc hl ok hbusy hq hs
 generalize firstX img=x0 at *
 have hand:=quu x
 go_upto_region 8 with (go_at_call 13;refine (HM.out _ _).mono ?_;rintro e w' ⟨rfl,rfl⟩)
 have HW:=zH (zA HO.out (show ∀ w',Below w.heap.size w w'→qhz w' a us from fun w' hb=>HU.out.later hb))
 generalize hx:x % 2048=kx at *
 have HK:=zH (show 0≤kx∧kx<2048 by omega)
 clear hx HB1 HB2 HO HA HI HN HX
 go_wp2_with fail
 go_loopw [11] (fun i wr => ∃ k:Nat,i=.int .i64 k∧k≤us.length∧k≤15 ∧ ∃ W G y,Own w wr p W G∧Now W y img∧W.S=shut) (fun i _=>15 - (intOf i).toNat)
 case atStart=>exact ⟨0,rfl,Nat.zero_le _,Nat.zero_le _,W0,G0,x0,HW.out.1.1,HW.out.1.2.1,HW.out.1.2.2⟩
 case round =>
  obtain ⟨k,rfl,hk1,hk2,W,G,y,ho,hnow,hsh⟩:=hrel
  have HR:=zH (zA ho (zA hnow hsh))
  clear ho hnow hsh
  by_cases hlt:k<us.length∧k<15
  ·
   obtain ⟨hl1,hl2⟩:=hlt
   have hi1:(k:Int)<(us.length:Int):=by omega
   have hi2:(k:Int)<15:=by omega
   obtain ⟨hat,b,off,rfl,hcell⟩:=HW.out.2 wr HR.out.1.below k hl1
   generalize us[k]=u at *
   unfold qmG.row qbI.row at hcell
   have c0:wr.cell? ⟨b,off+k * 9,none⟩=some (.int .i64 u.x.kind):=hcell 0 _ rfl
   have c1:wr.cell? ⟨b,off+k * 9+1,none⟩=some (.string u.x.key):=hcell 1 _ rfl
   have c2:wr.cell? ⟨b,off+k * 9+2,none⟩=some (.string u.x.value):=hcell 2 _ rfl
   have c3:wr.cell? ⟨b,off+k * 9+3,none⟩=some (.int .i64 u.x.at_):=hcell 3 _ rfl
   have c4:wr.cell? ⟨b,off+k * 9+4,none⟩=some (.int .i64 u.x.width):=hcell 4 _ rfl
   have c5:wr.cell? ⟨b,off+k * 9+5,none⟩=some (.int .i64 u.x.loss):=hcell 5 _ rfl
   have c6:wr.cell? ⟨b,off+k * 9+6,none⟩=some (.string u.x.mask):=hcell 6 _ rfl
   have c7:wr.cell? ⟨b,off+k * 9+7,none⟩=some (.slice u.ba u.x.busy.length u.bc):=hcell 7 _ rfl
   have c8:wr.cell? ⟨b,off+k * 9+8,none⟩=some (.slice u.ra u.x.reads.length u.rc):=hcell 8 _ rfl
   have HC:=zH (qku u.x u.ba u.bc u.ra u.rc wr hat.busy hat.bnil hat.reads hat.rnil hat.blen hat.rlen)
   have HL:=zH (zA hat.blen hat.rlen)
   rw [show u.x.row u.ba u.bc u.ra u.rc = #[.int .i64 u.x.kind,.string u.x.key,.string u.x.value,.int .i64 u.x.at_,.int .i64 u.x.width,.int .i64 u.x.loss,.string u.x.mask,.slice u.ba u.x.busy.length u.bc,.slice u.ra u.x.reads.length u.rc] from rfl] at HC
   clear hat hcell
   go_upto_region 12 with (go_at_call 23;refine HC.out.mono ?_;rintro e w4 ⟨ba,bc,ra,rc,he,o1,o2,hb4⟩;unfold qbI.row at he;subst he)
   have hg:=qad w4 (.cells #[.int .i64 u.x.kind,.string u.x.key,.string u.x.value,.int .i64 u.x.at_,.int .i64 u.x.width,.int .i64 u.x.loss,.string u.x.mask,.slice ba u.x.busy.length bc,.slice ra u.x.reads.length rc] 31)
   have HB:=zH (gtr hb4 (qac (Below.refl w4.heap.size w4) (.cells #[.int .i64 u.x.kind,.string u.x.key,.string u.x.value,.int .i64 u.x.at_,.int .i64 u.x.width,.int .i64 u.x.loss,.string u.x.mask,.slice ba u.x.busy.length bc,.slice ra u.x.reads.length rc] 31)))
   have HP:=zH (zA (o1.alloc (.cells #[.int .i64 u.x.kind,.string u.x.key,.string u.x.value,.int .i64 u.x.at_,.int .i64 u.x.width,.int .i64 u.x.loss,.string u.x.mask,.slice ba u.x.busy.length bc,.slice ra u.x.reads.length rc] 31)) (zA (o2.alloc (.cells #[.int .i64 u.x.kind,.string u.x.key,.string u.x.value,.int .i64 u.x.at_,.int .i64 u.x.width,.int .i64 u.x.loss,.string u.x.mask,.slice ba u.x.busy.length bc,.slice ra u.x.reads.length rc] 31)) (zA (show wr.heap.size≤w4.heap.size from hb4.size) (zA (fun q hq=>Nat.ne_of_lt (qdA o1 q hq)) (fun q hq=>Nat.ne_of_lt (qdA o2 q hq))))))
   clear o1 o2 hb4 HC c0 c1 c2 c3 c4 c5 c6 c7 c8
   generalize w4.alloc (.cells #[.int .i64 u.x.kind,.string u.x.key,.string u.x.value,.int .i64 u.x.at_,.int .i64 u.x.width,.int .i64 u.x.loss,.string u.x.mask,.slice ba u.x.busy.length bc,.slice ra u.x.reads.length rc] 31)=w5 at *
   generalize w4.heap.size=g at *
   have HG:=zH hg
   obtain ⟨z0,z1,z2,z3,z4,z5,z6,z7,z8,zf⟩:=qtF hg
   clear hg z1 z2 z3 z4 z6 z7 z8
   go_upto_if 51 with fail
   go_cut [51] from 52 to 58 (fun v51 wx => ∃ l,wx.heap[g]? = some (.cells #[.int .i64 u.x.kind,.string u.x.key,.string u.x.value,.int .i64 u.x.at_,.int .i64 u.x.width,.int .i64 l,.string u.x.mask,.slice ba u.x.busy.length bc,.slice ra u.x.reads.length rc] 31 (0,0))∧(u.x.kind≠7→1≤l)∧Touch (Only g) w5 wx)
   case first =>
    by_cases k7:u.x.kind=7
    ·
     have e7:(u.x.kind != 7)=false:=by rw [k7];rfl
     have HQ:=zH k7
     clear k7
     go_wp2_with fail
     go_meet
     exact ⟨_,HG.out,fun h=>absurd HQ.out h,Touch.refl _ _⟩
    ·
     have e7:(u.x.kind != 7)=true:=bne_iff_ne.2 k7
     have hw1:IntKind.i64.wrap (977 * (k:Int))=977 * (k:Int):=qaN (by omega) (by omega)
     clear k7
     go_wp2_with fail
     go_meet
     exact ⟨_,qaf (i:=5) HG.out,fun _=>qtm _,(Touch.refl (Only g) w5).set g 5 _ rfl⟩
   case rest =>
    obtain ⟨l,hg,hl,ht5⟩:=hcut
    obtain ⟨w6,hw6⟩ : ∃ w6,w6=wc:=⟨_,rfl⟩
    subst hw6
    have HX6:=zH (show Below wr.heap.size wr w6 from HB.out.trans (ht5.below HB.out.size (fun i hi e=>by have e:i=g:=e;have:=HP.out.2.2.1;omega)))
    have hdo:=qte p W G { u.x with loss:=l } ba bc ra rc y img w6 (HR.out.1.at_.later HX6.out) HR.out.2.1 HR.out.2.2 hl (HR.out.1.at_.lt) (qaI HP.out.1 ht5 (fun q hq e=>HP.out.2.2.2.1 q hq e)) (qaI HP.out.2.1 ht5 (fun q hq e=>HP.out.2.2.2.2 q hq e)) (by have:=HL.out.1;show u.x.busy.length≤_;omega) (by have:=HL.out.2;show u.x.reads.length≤_;omega)
    have HD:=zH (show Calls Tryz.prog 11 #[.pointer (some ⟨p,0,none⟩),.agg #[.int .i64 u.x.kind,.string u.x.key,.string u.x.value,.int .i64 u.x.at_,.int .i64 u.x.width,.int .i64 l,.string u.x.mask,.slice ba u.x.busy.length bc,.slice ra u.x.reads.length rc]] w6 _ from hdo)
    obtain ⟨z0,z1,z2,z3,z4,z5,z6,z7,z8,zf⟩:=qtF hg
    clear hdo hg hl ht5
    go_upto_region 15 with (go_at_call 11;refine HD.out.mono ?_;rintro e w7 ⟨W1,y1,A,er,n1,hs1,va,vc,vb,vd,rfl,o1,o2,G1,hw1,st1,m1,m2⟩)
    have HR1:=zH (zA ((HR.out.1.later HX6.out).step hw1 st1) (zA n1 hs1))
    clear n1 hs1 o1 o2 hw1 st1 m1 m2 HD z0 z1 z2 z3 z4 z5 z6 z7 z8 zf
    have HD:=zH (qvB p W1 G1 kx y1 img w7 HR1.out.1.at_ HR1.out.2.1 HR1.out.2.2 HK.out.1 HK.out.2)
    go_upto_region 16 with (go_at_call 11;refine HD.out.mono ?_;rintro e w8 ⟨W2,n2,hs2,va2,vc2,vb2,vd2,rfl,o1,o2,G2,hw2,st2,m1,m2⟩)
    rw [show (⟨⟨#[]⟩,[],[qdk img kx],false⟩:qg6).pairs.length=0 from rfl,show (⟨⟨#[]⟩,[],[qdk img kx],false⟩:qg6).reads.length=1 from rfl] at *
    have hk8:=qad w8 (.cells #[.string ⟨#[]⟩,.slice va2 0 vc2,.slice vb2 1 vd2,.bool false] 34)
    have HR2:=zH (zA ((HR1.out.1.step hw2 st2).later (qac (Below.refl _ _) (.cells #[.string ⟨#[]⟩,.slice va2 0 vc2,.slice vb2 1 vd2,.bool false] 34))) (zA n2 hs2))
    have HK8:=zH (zA hk8 (o2.alloc (.cells #[.string ⟨#[]⟩,.slice va2 0 vc2,.slice vb2 1 vd2,.bool false] 34)))
    generalize Value.agg #[.string ⟨#[]⟩,.slice va2 0 vc2,.slice vb2 1 vd2,.bool false]=vag at *
    generalize w8.alloc (.cells #[.string ⟨#[]⟩,.slice va2 0 vc2,.slice vb2 1 vd2,.bool false] 34)=w9 at *
    generalize w8.heap.size=bA at *
    clear n2 hs2 o1 o2 hw2 st2 m1 m2 HD hk8
    have HC:=zH (qd4 p W2 G2 w9 HR2.out.1.at_)
    have hce:W2.m.chip.cells=y1:=HR2.out.2.1.calm.cells
    rw [hce] at HC
    clear hce
    go_upto_region 17 with (go_at_call 14;refine HC.out.mono ?_;rintro e w10 ⟨rfl,rfl⟩)
    obtain ⟨q,rfl⟩ : ∃ q:Nat,kx=(q:Int):=⟨kx.toNat,by have:=HK.out.1;omega⟩
    have hqs:q<img.size:=by have:=HK.out.2;have:=HZ.out;omega
    have hgq:=qcd img q hqs
    have hy4:y1.size=4096:=HR2.out.2.1.has.size
    have hfr:((y1.extract 0 2048).toList == img.toList)=true:=by rw [qrg HR2.out.2.1.has HZ.out];exact beq_self_eq_true _
    have HF:=zH (fun w' (hb:Below w10.heap.size w10 w')=>(show w'.cell? ⟨bA,2,none⟩=some (.slice vb2 1 vd2) from qaa (qab hb HK8.out.1) 2))
    have HV:=zH (show qdk img (q:Int)=((bt img q).toNat:Int) from rfl)
    have HSI:=zH (fun w' (hb:Below w10.heap.size w10 w') g (hg:w'.heap[g]? = some (.cells #[.int .i64 ((bt img q).toNat:Int)] 3 (0,0)))=>(show Calls Tryz.prog 24 #[.slice vb2 1 vd2,.slice (some ⟨g,0,none⟩) 1 1] w' (qhd true w') from by
     have:=qjm vb2 (some ⟨g,0,none⟩) vd2 1 [qdk img (q:Int)] [((bt img q).toNat:Int)] w' ((qkM HK8.out.2).1.later hb) (qug (qaa hg 0)) (show 1≤9223372036854775807 by decide)
     rw [show decide ([qdk img (q:Int)]=[((bt img q).toNat:Int)])=true from decide_eq_true rfl] at this
     exact this))
    have hwb:IntKind.i64.wrap ((bt img q).toNat:Int)=((bt img q).toNat:Int):=qaN (by omega) (by have:=(bt img q).toNat_lt;omega)
    refine wp_region_noPanic ?_
    refine wp_region_held_drew (S:=(fun w':World=>w'.cell? ⟨bA,2,none⟩=some (.slice vb2 1 vd2)∧Below w10.heap.size w10 w')) (by kernel_rfl) ?hS17000 (fun hHeld => ?_)
    case hS17000=>(try dsimp only);exact ⟨HF.out _ (qai (Below.refl _ _)),(qai (Below.refl _ _))⟩
    refine tk 0 ?_
    refine tr 1 fun K hK => ?_
    go_simp
    go_at_call 13
    refine (HM.out _ _).mono ?_
    rintro e wx ⟨rfl,rfl⟩
    go_wp2_with fail
    refine hK.out _ _ ?hS17001 (fun hHeld => ?_)
    case hS17001=>(try dsimp only);exact ⟨HF.out _ (qai (Below.refl _ _)),(qai (Below.refl _ _))⟩
    clear hK K
    try simp only [Act.put,zS,zT,zU]
    refine tk 2 ?_
    refine tk 3 ?_
    refine tk 4 ?_
    refine tk 5 ?_
    refine tk 6 ?_
    refine tk 7 ?_
    refine tk 8 ?_
    refine tk 9 ?_
    refine tr 10 fun K hK => ?_
    go_simp
    refine hK.out _ _ ?hS17010 (fun hHeld => ?_)
    case hS17010=>(try dsimp only);exact ⟨HF.out _ (qai (qac (Below.refl _ _) _)),(qai (qac (Below.refl _ _) _))⟩
    clear hK K
    try simp only [Act.put,zS,zT,zU]
    refine tr 11 fun K hK => ?_
    go_simp
    go_at_call 24
    refine (HSI.out _ (qai (qac (Below.refl _ _) _)) _ (show _=_ from qad w10 _)).mono ?_
    rintro e wx ⟨rfl,nq,rfl⟩
    go_wp2_with fail
    refine hK.out _ _ ?hS17011 (fun hHeld => ?_)
    case hS17011=>(try dsimp only);exact ⟨HF.out _ (qao (qac (Below.refl _ _) _) _),(qao (qac (Below.refl _ _) _) _)⟩
    clear hK K
    try simp only [Act.put,zS,zT,zU]
    refine tk 12 ?_
    refine tk 13 ?_
    refine tk 14 ?_
    refine tk 15 ?_
    refine tr 16 fun K hK => ?_
    go_simp
    refine hK.out _ _ ?hS17016 (fun hHeld => ?_)
    case hS17016=>(try dsimp only);exact ⟨HF.out _ (qao (qac (Below.refl _ _) _) _),(qao (qac (Below.refl _ _) _) _)⟩
    clear hK K
    try simp only [Act.put,zS,zT,zU]
    refine tk 17 ?_
    refine tk 18 ?_
    refine tk 19 ?_
    refine tk 20 ?_
    refine tk 21 ?_
    refine tk 22 ?_
    refine tk 23 ?_
    refine tk 24 ?_
    refine wpAnyH_done (by kernel_rfl) ?_ _
    refine NoPanic.normal ?_
    have HEND:=zH (show Own w ((w10.alloc (.cells #[.int .i64 ((bt img q).toNat:Int)] 3)).drewN (1+nq)) p W2 G2 from HR2.out.1.later (qao (qac (Below.refl _ _) _) _))
    go_wp2_with fail
    go_roundw
    case rel=>exact ⟨k+1,by go_num,by omega,by omega,W2,G2,y1,HEND.out,HR2.out.2.1,HR2.out.2.2⟩
    case measure=>simp [intOf];omega
  ·
   by_cases hlu:k<us.length
   ·
    have hi1:(k:Int)<(us.length:Int):=by omega
    have hi2 : ¬ (k:Int)<15:=by omega
    clear hlt
    go_wp2_with fail
    go_ret
    exact ⟨rfl,HR.out.1.below⟩
   ·
    have hi1 : ¬ (k:Int)<(us.length:Int):=by omega
    clear hlt
    go_wp2_with fail
    go_ret
    exact ⟨rfl,HR.out.1.below⟩
end
section
open Go.ChangeShapes Go.WideShapes Go.ChangeAt Go.RowKit Go.Deep
section
variable {H:Type} {enc:TypeId×Value→H} {W:World}
theorem cl3:Tryz.prog.cellsOf 3=1:=by kernel_rfl
theorem cl9:Tryz.prog.cellsOf 9=1:=by kernel_rfl
theorem qwE:Tryz.prog.cellsOf 22=1:=by kernel_rfl
theorem qwF:Tryz.prog.cellsOf 31=9:=by kernel_rfl
theorem bo3:Tryz.prog.bytesOf 3=8:=by kernel_rfl
theorem ql6 {fuel:Nat} {v:Value} {x:DataW H×List MemPlace} (h:DataW.trod enc Tryz.prog W 0 (fun _=>true) true fuel 22 [v]=some x) (hw:(x.1.weights Tryz.prog 22).all (· ≤ reachBytes)=true) : ∃ (a:Option Addr) (c:Nat) (zs:List Int),v=.slice a zs.length c∧qal W a zs∧(a=none→c=0)∧zs.length * 8≤140737488355328∧zs.length≤c:=by
 rcases open_ints Tryz.underlying22 Tryz.underlying3 cl3 h with ⟨hcs,_⟩ | ⟨a,l,c,zs,hcs,_,hl,hm,hz,hx,hcell,hwz⟩
 ·
  obtain rfl:v=.slice none 0 0:=by simpa using hcs
  exact ⟨none,0,[],rfl,qal.nil _ _,fun _=>rfl,by simp,Nat.le_refl _⟩
 ·
  obtain rfl:v=.slice (some a) l c:=by simpa using hcs
  subst hx
  simp only [if_true] at hz
  have e:(zs.take l).length=l:=by simp;omega
  have hr:c * 8≤reachBytes:=by
   have:=List.all_eq_true.1 hw ((lits IntKind.i64 (zs.take l)).length * 8+(lits IntKind.i64 (zs.drop l)).length * 8) (by
    unfold DataW.weights
    rw [Tryz.underlying22]
    simp only [bo3,List.mem_cons]
    left
    omega)
   simp only [lits,List.length_map,List.length_take,List.length_drop,decide_eq_true_eq] at this
   omega
  simp only [reachBytes] at hr
  refine ⟨some a,c,zs.take l,by rw [e],fun i hi => ?_,(fun h=>by cases h),(by rw [e];omega),(by rw [e];exact hl)⟩
  rw [e] at hi
  obtain ⟨b,off,spot⟩:=a
  have hi':i<zs.length:=by omega
  have hc:=hcell i hi'
  have hspot:spot=none:=by simpa [Addr.add] using World.cell?_spot (hcell 0 (by omega))
  subst hspot
  refine ⟨b,off,rfl,?_⟩
  rw [qaO] at hc
  rw [hc]
  simp [List.getD,hi]
theorem qvM {α : Type} {cs:List α} (h:cs.length=9) : ∃ c0 c1 c2 c3 c4 c5 c6 c7 c8,cs=[c0,c1,c2,c3,c4,c5,c6,c7,c8]:=by
 match cs,h with
 | [c0,c1,c2,c3,c4,c5,c6,c7,c8],_=>exact ⟨c0,c1,c2,c3,c4,c5,c6,c7,c8,rfl⟩
theorem qtw {fuel:Nat} {cs:List Value} {x:DataW H×List MemPlace} (h:DataW.trod enc Tryz.prog W 0 (fun _=>true) true fuel 31 cs=some x) (hw:(x.1.weights Tryz.prog 31).all (· ≤ reachBytes)=true) : ∃ u:qmG,cs=u.row.toList∧u.At W:=by
 obtain ⟨xs,n,_,rfl,hcl,hlen,hx⟩:=DataW.trod_struct Tryz.underlying31 h
 rw [qwF] at hcl
 obtain ⟨c0,c1,c2,c3,c4,c5,c6,c7,c8,rfl⟩:=qvM hcl
 have hl9:xs.length=9:=hlen
 obtain ⟨y0,y1,y2,y3,y4,y5,y6,y7,y8,rfl⟩:=qvM hl9
 obtain ⟨m0,e0,_,_⟩:=DataW.trod_int Tryz.underlying3 (hx 0 _ rfl)
 obtain ⟨m1,e1,_,_⟩:=DataW.trod_string Tryz.underlying9 (hx 1 _ rfl)
 obtain ⟨m2,e2,_,_⟩:=DataW.trod_string Tryz.underlying9 (hx 2 _ rfl)
 obtain ⟨m3,e3,_,_⟩:=DataW.trod_int Tryz.underlying3 (hx 3 _ rfl)
 obtain ⟨m4,e4,_,_⟩:=DataW.trod_int Tryz.underlying3 (hx 4 _ rfl)
 obtain ⟨m5,e5,_,_⟩:=DataW.trod_int Tryz.underlying3 (hx 5 _ rfl)
 obtain ⟨m6,e6,_,_⟩:=DataW.trod_string Tryz.underlying9 (hx 6 _ rfl)
 have k7:DataW.trod enc Tryz.prog W 0 (fun _=>true) true n 22 [c7]=some y7:=by
  have:=hx 7 _ rfl
  simpa [qwE] using this
 have k8:DataW.trod enc Tryz.prog W 0 (fun _=>true) true n 22 [c8]=some y8:=by
  have:=hx 8 _ rfl
  simpa [qwE] using this
 have w7:(y7.1.weights Tryz.prog 22).all (· ≤ reachBytes)=true:=List.all_eq_true.2 fun q hq=>List.all_eq_true.1 hw q (by
  unfold DataW.weights
  rw [Tryz.underlying31]
  exact DataW.weights_mem_each (j:=7) rfl rfl q hq)
 have w8:(y8.1.weights Tryz.prog 22).all (· ≤ reachBytes)=true:=List.all_eq_true.2 fun q hq=>List.all_eq_true.1 hw q (by
  unfold DataW.weights
  rw [Tryz.underlying31]
  exact DataW.weights_mem_each (j:=8) rfl rfl q hq)
 obtain ⟨a7,b7,z7,e7,f7,g7,i7,_⟩:=ql6 k7 w7
 obtain ⟨a8,b8,z8,e8,f8,g8,i8,j8⟩:=ql6 k8 w8
 simp [cl3,cl9] at e0 e1 e2 e3 e4 e5 e6
 subst e0 e1 e2 e3 e4 e5 e6 e7 e8
 exact ⟨⟨⟨m0,m1,m2,m3,m4,m5,m6,z7,z8⟩,a7,b7,a8,b8⟩,rfl,f7,g7,f8,g8,i7,i8,j8⟩
theorem qnU {t:TypeId} {l:List (DataW H)} {d:DataW H} (hd:d ∈ l) : ∀ q ∈ d.weights Tryz.prog t,q ∈ DataW.weightsAll Tryz.prog t l:=by
 induction l with
 | nil=>cases hd
 | cons x r ih =>
  intro q hq
  unfold DataW.weightsAll
  rcases List.mem_cons.1 hd with rfl | hd
  ·
   exact List.mem_append_left _ hq
  ·
   exact List.mem_append_right _ (ih hd q hq)
theorem qrK {fuel:Nat} {v:Value} {x:DataW H×List MemPlace} (h:DataW.trod enc Tryz.prog W 0 (fun _=>true) true fuel 43 [v]=some x) (hw:(x.1.weights Tryz.prog 43).all (· ≤ reachBytes)=true) : ∃ (a:Option Addr) (c:Nat) (us:List qmG),v=.slice a us.length c∧qhz W a us∧us.length≤9223372036854775807:=by
 rcases open_slice Tryz.underlying43 h with ⟨hcs,_⟩ | ⟨a,l,c,m,n,D,Pl,hcs,_,hl,hm,hmm,hx,hcell⟩
 ·
  obtain rfl:v=.slice none 0 0:=by simpa using hcs
  exact ⟨none,0,[],rfl,fun i hi=>absurd hi (Nat.not_lt_zero _),by simp⟩
 ·
  obtain rfl:v=.slice (some a) l c:=by simpa using hcs
  subst hx
  simp only [if_true] at hmm
  subst hmm
  rw [qwF] at hcell
  have each : ∀ i,i<l → ∃ u:qmG,u.At W ∧ ∃ b off,a=⟨b,off,none⟩ ∧ ∀ j q,u.row[j]? = some q→W.cell? ⟨b,off+i * 9+j,none⟩=some q:=by
   intro i hi
   obtain ⟨cs',h1,h2⟩:=hcell i (by omega)
   obtain ⟨u,rfl,hu⟩:=qtw h2 (List.all_eq_true.2 fun q hq=>List.all_eq_true.1 hw q (by
    unfold DataW.weights
    rw [Tryz.underlying43]
    exact List.mem_cons_of_mem _ (List.mem_append_left _ (qnU (List.mem_map.2 ⟨i,List.mem_range.2 hi,rfl⟩) q hq))))
   obtain ⟨_,hlen,hc⟩:=World.cells?_some h1
   obtain ⟨b,off,spot⟩:=a
   have hspot:spot=none:=by
    obtain ⟨cs0,g1,g2⟩:=hcell 0 (by omega)
    obtain ⟨_,gl,gc⟩:=World.cells?_some g1
    have:=gc 0 (by omega)
    rw [List.getElem?_eq_getElem (by omega)] at this
    simpa [Addr.add] using World.cell?_spot this
   subst hspot
   refine ⟨u,hu,b,off,rfl,fun j q hj => ?_⟩
   have hj9:j<9:=by
    have:=(Array.getElem?_eq_some_iff.1 hj).1
    exact this
   have:=hc j (by omega)
   rw [qaO,qaO] at this
   rw [this]
   simpa using hj
  haveI:Inhabited qmG:=⟨⟨qjb 0 ⟨#[]⟩ ⟨#[]⟩,none,0,none,0⟩⟩
  obtain ⟨f,hf⟩:=choose_lt each
  refine ⟨some a,m,(List.range l).map f,by simp,fun i hi => ?_,by simp;simp only [maxLen] at hm;omega⟩
  have hi':i<l:=by simpa using hi
  obtain ⟨g1,b,off,g2,g3⟩:=hf i hi'
  rw [List.getElem_map,List.getElem_range]
  exact ⟨g1,b,off,by rw [g2],g3⟩
end
end
end Go.Proofs.YtcfdenckiigdaaaGreat

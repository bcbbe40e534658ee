/- Part 26 of the contracts. -/
import Derived.Deep.Slices
import Derived.OpenShut
import Derived.ShutString
import Derived.Test.YtcfdenckiigdaaaGreatBu25
set_option linter.unusedVariables false
set_option maxRecDepth 100000
set_option maxHeartbeats 4000000
namespace Go.Proofs.YtcfdenckiigdaaaGreat
open Tryz Go.RowKit
section
open Go.RowKit
variable {X:Nat→Prop}
theorem Jm (p:Nat) (W:gz) (G:Nat→Prop) (k:Int) (cx img:ByteArray) (w:World) (h:bI X w p W G) (n:zo W cx img) (fit:W.S.Fit) (h0:0≤k) (h1:k<2048):Calls prog 11 #[.pointer (some ⟨p,0,none⟩),.agg #[.int .i64 6,.string ⟨#[]⟩,.string ⟨#[]⟩,.int .i64 k,.int .i64 1,.int .i64 0,.string ⟨#[]⟩,.slice none 0 0,.slice none 0 0]] w fun e w' => ∃ W',zo W' cx img∧W'.S=W.S∧eL X p W' ⟨⟨#[]⟩,[],[gK img k],false⟩ 0 G w e w':=by
 have:=lg p W G (r9 k) cx img w h n fit rfl (show (6:Int)≠7 by decide) rfl rfl
 rw [Jn cx img W.S h0 h1] at this
 exact this
theorem Ax (t:ByteArray) (a:Option Addr) (c:Nat) (us:List ns) (ra:Option Addr) (rc:Nat) (rs:List Int) (w:World) (ht:t.size<140737488355328) (hu:pJ w a us) (hn:us.length≤9223372036854775807) (hr:aK w ra rs) (hrn:rs.length≤9223372036854775807):Calls prog 4 #[.string t,.slice a us.length c,.slice ra rs.length rc] w fun e w'=>e=.returned (.bool true)∧Below w.heap.size w w':=by
 have HA:=zH (AW w)
 have HI:=zH (fun w=>xk t w ht)
 have hsz:(lE t).size=2048:=ey _ _
 have HN:=zH (fun X w h=>oI (X:=X) (lE t) w (by rw [hsz];exact Nat.le_refl _) h)
 have HX:=zH (zA (JL (img:=lE t) hsz) (vG (img:=lE t) (Nat.le_of_eq hsz)))
 have HM:=zH EF
 have HU:=zH hu
 have HRS:=zH hr
 have HSZ:=zH hsz
 clear hu hr hsz
 generalize lE t=img at *
 go_enter func4,ntmps4
 go_upto_region 3 with (go_at_call 9;refine HA.out.mono ?_;rintro e w1 ⟨rfl,hb1⟩)
 have HB1:=zH hb1
 clear hb1
 go_upto_region 4 with (first
  | (go_at_call 17;refine (HI.out _).mono ?_;rintro e w2 ⟨rfl,hb2⟩)
  | (go_at_call 16;refine (HN.out (fun _=>False) _ (fun _ h=>h.elim)).mono ?_;rintro e w3 ⟨pa,Wa,Ga,rfl,hw,hb,hg,hc,hl,ok,hbusy,hq,hs⟩))
 have HO:=zH (zA (show Own (fun _=>False) w w3 pa Wa Ga from ⟨hw,gtr (gtr HB1.out hb2) hb,fun i hi=>Nat.le_trans (gtr HB1.out hb2).size (hg i hi)⟩) (zA (zW hc hl ok hq HX.out.1) hs))
 clear hw hb hg hc hl ok hbusy hq hs hb2
 go_upto_region 5 with (first
  | (go_at_call 17;refine (HI.out _).mono ?_;rintro e w4 ⟨rfl,hb4⟩)
  | (go_at_call 16;refine (HN.out Ga _ (fun i hi=>zV (HO.out.1.at_.lt i hi) hb4.size)).mono ?_;rintro e w5 ⟨pb,Wb,Gb,rfl,hw,hb,hg,hc,hl,ok,hbusy,hq,hs⟩))
 have HT:=zH (zA (Twin.make HO.out.1.at_ HO.out.1.below HO.out.1.new hw (gtr hb4 hb) (fun i hi=>Nat.le_trans hb4.size (hg i hi))) (zA HO.out.2.1 (zA (zW hc hl ok hq HX.out.1) (zA HO.out.2.2 hs))))
 have HB:=zH HX.out.2
 clear hw hb hg hc hl ok hbusy hq hs hb4 HI HN HX HO HA HB1
 generalize gT img=x0 at *
 go_upto_region 7 with (go_at_call 13;refine (HM.out _ _).mono ?_;rintro e w' ⟨rfl,rfl⟩)
 have HW:=zH (zA HT.out (zA HB.out (zA (show ∀ w',Below w.heap.size w w'→pJ w' a us from fun w' hb=>HU.out.aj hb) (show ∀ w',Below w.heap.size w w'→aK w' ra rs from fun w' hb=>HRS.out.aj hb))))
 clear HT HB
 go_wp2
 go_loopw [11] (fun i wr => ∃ k:Nat,i=.int .i64 k∧k≤us.length∧k≤25 ∧ ∃ Wa Ga Wb Gb y S,Twin w wr pa Wa Ga pb Wb Gb∧zo Wa y img∧zo Wb y img∧Wa.S=S∧Wb.S=S∧lP y S k) (fun i _=>25 - (intOf i).toNat)
 case atStart=>exact ⟨0,rfl,Nat.zero_le _,Nat.zero_le _,Wa,Ga,Wb,Gb,x0,shut,HW.out.1.1,HW.out.1.2.1,HW.out.1.2.2.1,HW.out.1.2.2.2.1,HW.out.1.2.2.2.2,.inl ⟨HW.out.2.1,rfl⟩⟩
 case round =>
  obtain ⟨k,rfl,hk1,hk2,Wa,Ga,Wb,Gb,y,S,hT,hna,hnb,hsa,hsb,hlv⟩:=hrel
  have HR:=zH (zA hT (zA hna (zA hnb (zA hsa (zA hsb hlv)))))
  clear hT hna hnb hsa hsb hlv
  by_cases hlt:k<us.length∧k<25
  ·
   obtain ⟨hl1,hl2⟩:=hlt
   have hi1:(k:Int)<(us.length:Int):=by omega
   have hi2:(k:Int)<25:=by omega
   have HU0:=zH (HU.out k hl1).1
   have HUC:=zH (fun w' (hb:Below w.heap.size w w')=>HW.out.2.2.1 w' hb k hl1)
   obtain ⟨hat,b,off,rfl,hcell⟩:=HUC.out wr HR.out.1.below
   generalize us[k]=u at *
   unfold ns.row cW.row at hcell
   have c0:wr.cell? ⟨b,off+k * 9,none⟩=some (.int .i64 u.x.kind):=hcell 0 _ rfl
   have c5:wr.cell? ⟨b,off+k * 9+5,none⟩=some (.int .i64 u.x.cD):=hcell 5 _ rfl
   clear hat hcell
   by_cases hls:u.x.cD=0
   ·
    have e5:(u.x.cD != 0)=false:=by rw [hls];rfl
    by_cases hk7:u.x.kind=7
    ·
     have e7:(u.x.kind == 7)=true:=by rw [hk7];rfl
     have HQ:=zH (zA hls hk7)
     clear hls hk7
     go_wp2
     go_roundw
     case rel=>exact ⟨k+1,by go_num,by omega,by omega,Wa,Ga,Wb,Gb,y,S,HR.out.1,HR.out.2.1,HR.out.2.2.1,HR.out.2.2.2.1,HR.out.2.2.2.2.1,HR.out.2.2.2.2.2.more (by omega)⟩
     case measure=>simp [intOf];omega
    ·
     have e7:(u.x.kind == 7)=false:=zQ hk7
     have HQ:=zH (zA hls hk7)
     clear hls hk7
     go_upto_region 11 with fail
     go_upto_if 75 with fail
     go_cut [12,13] from 48 to 131 (fun v12 v13 wx => ∃ Wa' Ga',Twin w wx pa Wa' Ga' pb Wb Gb∧zo Wa' y img∧Wa'.S=S)
     case first =>
      by_cases hlr:k<rs.length
      ·
       have hi3:(k:Int)<(rs.length:Int):=by omega
       obtain ⟨b2,off2,rfl,hcell⟩:=HW.out.2.2.2 wr HR.out.1.below k hlr
       rw [show rs.getD k 0=rs[k] from by simp [List.getD,hlr]] at hcell
       generalize rs[k]=z at *
       have hand:=Jk z
       generalize hx:z % 2048=kx at *
       have HK:=zH (show 0≤kx∧kx<2048 by omega)
       clear hx c0 c5
       have HD:=zH (Jm pa Wa Ga kx y img wr HR.out.1.a HR.out.2.1 (by rw [HR.out.2.2.2.1];exact HR.out.2.2.2.2.2.fit) HK.out.1 HK.out.2)
       go_upto_region 13 with (go_at_call 11;refine HD.out.mono ?_;rintro e w8 ⟨W2,n2,hs2,va2,vc2,vb2,vd2,rfl,o1,o2,G2,hw2,st2,m1,m2⟩)
       rw [show (⟨⟨#[]⟩,[],[gK img kx],false⟩:jA).aQ.length=0 from rfl,show (⟨⟨#[]⟩,[],[gK img kx],false⟩:jA).reads.length=1 from rfl] at *
       have c2:(w8.alloc (.cells #[.string ⟨#[]⟩,.slice va2 0 vc2,.slice vb2 1 vd2,.bool false] 34)).cell? ⟨w8.heap.size,2,none⟩=some (.slice vb2 1 vd2):=cell_of (ag w8 _) 2
       have HE:=zH (zA ((HR.out.1.left hw2 st2).aj (ae zR (.cells #[.string ⟨#[]⟩,.slice va2 0 vc2,.slice vb2 1 vd2,.bool false] 34))) (zA n2 (hs2.trans HR.out.2.2.2.1)))
       generalize Value.agg #[.string ⟨#[]⟩,.slice va2 0 vc2,.slice vb2 1 vd2,.bool false]=vag at *
       generalize w8.alloc (.cells #[.string ⟨#[]⟩,.slice va2 0 vc2,.slice vb2 1 vd2,.bool false] 34)=w9 at *
       generalize w8.heap.size=bA at *
       clear n2 hs2 o1 o2 hw2 st2 m1 m2 HD hcell
       go_wp2_with (go_at_call 13;refine (HM.out _ _).mono ?_;rintro e w' ⟨rfl,rfl⟩)
       go_meet
       exact ⟨W2,G2,HE.out⟩
      ·
       have hi3 : ¬ (k:Int)<(rs.length:Int):=by omega
       clear c0 c5
       go_wp2
       go_meet
       exact ⟨Wa,Ga,HR.out.1,HR.out.2.1,HR.out.2.2.2.1⟩
     case rest =>
      obtain ⟨W1,G1,hT1,hn1,hs1⟩:=hcut
      obtain ⟨w6,hw6⟩ : ∃ q,q=wc:=⟨_,rfl⟩
      subst hw6
      have HR1:=zH (zA hT1 (zA hn1 hs1))
      clear hT1 hn1 hs1 c0 c5
      obtain ⟨hat,_,_,hoe,hcell⟩:=HUC.out w6 HR1.out.1.below
      injection hoe with hoe
      injection hoe with hoe1 hoe2
      subst hoe1 hoe2
      unfold ns.row cW.row at hcell
      have c0:w6.cell? ⟨b,off+k * 9,none⟩=some (.int .i64 u.x.kind):=hcell 0 _ rfl
      have c1:w6.cell? ⟨b,off+k * 9+1,none⟩=some (.string u.x.key):=hcell 1 _ rfl
      have c2:w6.cell? ⟨b,off+k * 9+2,none⟩=some (.string u.x.value):=hcell 2 _ rfl
      have c3:w6.cell? ⟨b,off+k * 9+3,none⟩=some (.int .i64 u.x.at_):=hcell 3 _ rfl
      have c4:w6.cell? ⟨b,off+k * 9+4,none⟩=some (.int .i64 u.x.width):=hcell 4 _ rfl
      have c5:w6.cell? ⟨b,off+k * 9+5,none⟩=some (.int .i64 u.x.cD):=hcell 5 _ rfl
      have c6:w6.cell? ⟨b,off+k * 9+6,none⟩=some (.string u.x.mask):=hcell 6 _ rfl
      have c7:w6.cell? ⟨b,off+k * 9+7,none⟩=some (.slice u.ba u.x.busy.length u.bc):=hcell 7 _ rfl
      have c8:w6.cell? ⟨b,off+k * 9+8,none⟩=some (.slice u.ra u.x.reads.length u.rc):=hcell 8 _ rfl
      have HL:=zH hat
      clear hat hcell
      have HD:=zH (sD pa W1 G1 u.x u.ba u.bc u.ra u.rc y img w6 HR1.out.1.a HR1.out.2.1 (by rw [HR1.out.2.2];exact HR.out.2.2.2.2.2.fit) HQ.out.1 HQ.out.2 HL.out.busy HL.out.KO (yX HU0.out.reads HR1.out.1.na HR1.out.1.below) HL.out.La (by have:=HL.out.KN;omega) (by have:=HL.out.Kh;omega))
      rw [HR1.out.2.2,show u.x.row u.ba u.bc u.ra u.rc = #[.int .i64 u.x.kind,.string u.x.key,.string u.x.value,.int .i64 u.x.at_,.int .i64 u.x.width,.int .i64 u.x.cD,.string u.x.mask,.slice u.ba u.x.busy.length u.bc,.slice u.ra u.x.reads.length u.rc] from rfl] at HD
      have HDB:=zH (fun (W':gz) (G':Nat→Prop) (w':World) (hT:Twin w w' pa W' G' pb Wb Gb)=>sD pb Wb Gb u.x u.ba u.bc u.ra u.rc y img w' hT.b HR.out.2.2.1 (by rw [HR.out.2.2.2.2.1];exact HR.out.2.2.2.2.2.fit) HQ.out.1 HQ.out.2 (HU0.out.busy.aj hT.below) HL.out.KO (yX HU0.out.reads hT.nb hT.below) HL.out.La (by have:=HL.out.KN;omega) (by have:=HL.out.Kh;omega))
      rw [HR.out.2.2.2.2.1,show u.x.row u.ba u.bc u.ra u.rc = #[.int .i64 u.x.kind,.string u.x.key,.string u.x.value,.int .i64 u.x.at_,.int .i64 u.x.width,.int .i64 u.x.cD,.string u.x.mask,.slice u.ba u.x.busy.length u.bc,.slice u.ra u.x.reads.length u.rc] from rfl] at HDB
      have HTL:=zH (I2 (img:=img) HR.out.2.2.2.2.2 u.x)
      have HLD:=zH (Ig (img:=img) HR.out.2.2.2.2.2 (show (0:Int)≤k by omega) (show (k:Int)<1048576 by omega) u.x)
      have HRL:=zH HL.out.Kh
      generalize sk y img S u.x=r at *
      obtain ⟨y1,S1,A,er⟩:=r
      simp only at HD HDB HTL HLD
      go_upto_region 16 with (go_at_call 11;refine HD.out.mono ?_;rintro e w7 ⟨W2,n2,hs2,va,vc,vb,vd,rfl,o1,o2,G2,hw2,st2,m1,m2⟩)
      have hkA:=ag w7 (.cells #[.string A.value,.slice va A.aQ.length vc,.slice vb A.reads.length vd,.bool A.lost] 34)
      have hnA : ¬ Gb w7.heap.size:=fun h=>by have:=HR1.out.1.b.lt _ h;have:=st2.aD.size;omega
      have hlB : ∀ i,Gb i→i<w6.heap.size:=HR1.out.1.b.lt
      have HA1:=zH (zA ((HR1.out.1.left hw2 st2).aj (ae zR (.cells #[.string A.value,.slice va A.aQ.length vc,.slice vb A.reads.length vd,.bool A.lost] 34))) (zA n2 (zA hs2 (zA hkA (zA hnA (zA (o1.alloc (.cells #[.string A.value,.slice va A.aQ.length vc,.slice vb A.reads.length vd,.bool A.lost] 34)) (zA (o2.alloc (.cells #[.string A.value,.slice va A.aQ.length vc,.slice vb A.reads.length vd,.bool A.lost] 34)) hlB)))))))
      generalize Value.agg #[.string A.value,.slice va A.aQ.length vc,.slice vb A.reads.length vd,.bool A.lost]=vag at *
      generalize w7.alloc (.cells #[.string A.value,.slice va A.aQ.length vc,.slice vb A.reads.length vd,.bool A.lost] 34)=w8 at *
      generalize w7.heap.size=bA at *
      clear n2 hs2 o1 o2 hw2 st2 m1 m2 HD hkA hnA hlB c0 c1 c2 c3 c4 c5 c6 c7 c8
      obtain ⟨hat,_,_,hoe,hcell⟩:=HUC.out w8 HA1.out.1.below
      injection hoe with hoe
      injection hoe with hoe1 hoe2
      subst hoe1 hoe2
      unfold ns.row cW.row at hcell
      have c0:w8.cell? ⟨b,off+k * 9,none⟩=some (.int .i64 u.x.kind):=hcell 0 _ rfl
      have c1:w8.cell? ⟨b,off+k * 9+1,none⟩=some (.string u.x.key):=hcell 1 _ rfl
      have c2:w8.cell? ⟨b,off+k * 9+2,none⟩=some (.string u.x.value):=hcell 2 _ rfl
      have c3:w8.cell? ⟨b,off+k * 9+3,none⟩=some (.int .i64 u.x.at_):=hcell 3 _ rfl
      have c4:w8.cell? ⟨b,off+k * 9+4,none⟩=some (.int .i64 u.x.width):=hcell 4 _ rfl
      have c5:w8.cell? ⟨b,off+k * 9+5,none⟩=some (.int .i64 u.x.cD):=hcell 5 _ rfl
      have c6:w8.cell? ⟨b,off+k * 9+6,none⟩=some (.string u.x.mask):=hcell 6 _ rfl
      have c7:w8.cell? ⟨b,off+k * 9+7,none⟩=some (.slice u.ba u.x.busy.length u.bc):=hcell 7 _ rfl
      have c8:w8.cell? ⟨b,off+k * 9+8,none⟩=some (.slice u.ra u.x.reads.length u.rc):=hcell 8 _ rfl
      clear hat hcell
      have HD:=zH (HDB.out W2 G2 w8 HA1.out.1)
      go_upto_region 17 with (go_at_call 11;refine HD.out.mono ?_;rintro e w9 ⟨W3,n3,hs3,va2,vc2,vb2,vd2,rfl,p1,p2,G3,hw3,st3,m1,m2⟩)
      have hkB:=ag w9 (.cells #[.string A.value,.slice va2 A.aQ.length vc2,.slice vb2 A.reads.length vd2,.bool A.lost] 34)
      have hkA:=aa (ae zR (.cells #[.string A.value,.slice va2 A.aQ.length vc2,.slice vb2 A.reads.length vd2,.bool A.lost] 34)) (st3.aD.at HA1.out.2.2.2.1 HA1.out.2.2.2.2.1)
      have o1:=(cT HA1.out.2.2.2.2.2.1 st3.aD (fun q hq hG=>by have:=cH HA1.out.2.2.2.2.2.1 q hq;have:=HA1.out.2.2.2.2.2.2.2 q hG;omega)).alloc (.cells #[.string A.value,.slice va2 A.aQ.length vc2,.slice vb2 A.reads.length vd2,.bool A.lost] 34)
      have o2:=(cT HA1.out.2.2.2.2.2.2.1 st3.aD (fun q hq hG=>by have:=cH HA1.out.2.2.2.2.2.2.1 q hq;have:=HA1.out.2.2.2.2.2.2.2 q hG;omega)).alloc (.cells #[.string A.value,.slice va2 A.aQ.length vc2,.slice vb2 A.reads.length vd2,.bool A.lost] 34)
      have HA2:=zH (zA ((HA1.out.1.right hw3 st3).aj (ae zR (.cells #[.string A.value,.slice va2 A.aQ.length vc2,.slice vb2 A.reads.length vd2,.bool A.lost] 34))) (zA n3 (zA hs3 (zA hkA hkB))))
      have HS1:=zH (zA (bj.cX o1) (zA (bj.cX (p1.alloc (.cells #[.string A.value,.slice va2 A.aQ.length vc2,.slice vb2 A.reads.length vd2,.bool A.lost] 34))) (zA (BX o2).1 (BX (p2.alloc (.cells #[.string A.value,.slice va2 A.aQ.length vc2,.slice vb2 A.reads.length vd2,.bool A.lost] 34))).1)))
      generalize Value.agg #[.string A.value,.slice va2 A.aQ.length vc2,.slice vb2 A.reads.length vd2,.bool A.lost]=vag2 at *
      generalize w9.alloc (.cells #[.string A.value,.slice va2 A.aQ.length vc2,.slice vb2 A.reads.length vd2,.bool A.lost] 34)=w10 at *
      generalize w9.heap.size=bB at *
      clear n3 hs3 o1 o2 p1 p2 hw3 st3 m1 m2 HD HDB hkA hkB c0 c1 c2 c3 c4 c5 c6 c7 c8
      have HSA:=zH (sM A va va2 vb vb2 vc vc2 vd vd2 w10 HS1.out.1 HS1.out.2.1 HS1.out.2.2.1 HS1.out.2.2.2 (by have:=HTL.out.1;omega) (by have:=HTL.out.2;have:=HRL.out;omega))
      have HCA:=zH (fun w' (hb:Below w10.heap.size w10 w')=>ju pa W2 G2 w' (HA2.out.1.a.aj hb))
      have HCB:=zH (fun w' (hb:Below w10.heap.size w10 w')=>ju pb W3 G3 w' (HA2.out.1.b.aj hb))
      rw [HA1.out.2.1.calm.cells] at HCA
      rw [HA2.out.2.1.calm.cells] at HCB
      have ka0:w10.cell? ⟨bA,0,none⟩=some (.string A.value):=cell_of HA2.out.2.2.2.1 0
      have ka1:w10.cell? ⟨bA,1,none⟩=some (.slice va A.aQ.length vc):=cell_of HA2.out.2.2.2.1 1
      have ka2:w10.cell? ⟨bA,2,none⟩=some (.slice vb A.reads.length vd):=cell_of HA2.out.2.2.2.1 2
      have ka3:w10.cell? ⟨bA,3,none⟩=some (.bool A.lost):=cell_of HA2.out.2.2.2.1 3
      have kb0:w10.cell? ⟨bB,0,none⟩=some (.string A.value):=cell_of HA2.out.2.2.2.2 0
      have kb1:w10.cell? ⟨bB,1,none⟩=some (.slice va2 A.aQ.length vc2):=cell_of HA2.out.2.2.2.2 1
      have kb2:w10.cell? ⟨bB,2,none⟩=some (.slice vb2 A.reads.length vd2):=cell_of HA2.out.2.2.2.2 2
      have kb3:w10.cell? ⟨bB,3,none⟩=some (.bool A.lost):=cell_of HA2.out.2.2.2.2 3
      have hse:(y1.toList == y1.toList)=true:=beq_self_eq_true _
      have hee:(er == er)=true:=beq_self_eq_true _
      go_wp2_with (first
       | (go_at_call 13;refine (HM.out _ _).mono ?_;rintro e w' ⟨rfl,rfl⟩)
       | (go_at_call 18;refine HSA.out.mono ?_;rintro e w11 ⟨rfl,hb11⟩)
       | (go_at_call 14;refine (HCA.out _ hb11).mono ?_;rintro e w' ⟨rfl,rfl⟩)
       | (go_at_call 14;refine (HCB.out _ hb11).mono ?_;rintro e w' ⟨rfl,rfl⟩))
      go_roundw
      case rel=>exact ⟨k+1,by go_num,by omega,by omega,W2,G2,W3,G3,y1,S1,HA2.out.1.aj hb11,HA1.out.2.1,HA2.out.2.1,HA1.out.2.2.1,HA2.out.2.2.1,by have q:=HLD.out;rw [show ((k+1:Nat):Int)=(k:Int)+1 by omega];exact q⟩
      case measure=>simp [intOf];omega
   ·
    have e5:(u.x.cD != 0)=true:=bne_iff_ne.2 hls
    have HQ:=zH hls
    clear hls
    go_wp2
    go_roundw
    case rel=>exact ⟨k+1,by go_num,by omega,by omega,Wa,Ga,Wb,Gb,y,S,HR.out.1,HR.out.2.1,HR.out.2.2.1,HR.out.2.2.2.1,HR.out.2.2.2.2.1,HR.out.2.2.2.2.2.more (by omega)⟩
    case measure=>simp [intOf];omega
  ·
   by_cases hlu:k<us.length
   ·
    have hi1:(k:Int)<(us.length:Int):=by omega
    have hi2 : ¬ (k:Int)<25:=by omega
    clear hlt
    go_wp2
    go_ret
    exact ⟨rfl,HR.out.1.below⟩
   ·
    have hi1 : ¬ (k:Int)<(us.length:Int):=by omega
    clear hlt
    go_wp2
    go_ret
    exact ⟨rfl,HR.out.1.below⟩
end
section
open Go.ChangeShapes Go.WideShapes Go.ChangeAt Go.RowKit Go.Deep
section
variable {H:Type} {enc:TypeId×Value→H} {W:World}
theorem Mf:prog.cellsOf 3=1:=by kernel_rfl
theorem Mh:prog.cellsOf 9=1:=by kernel_rfl
theorem Lw:prog.cellsOf 22=1:=by kernel_rfl
theorem Lx:prog.cellsOf 31=9:=by kernel_rfl
theorem Mg:prog.bytesOf 3=8:=by kernel_rfl
theorem sE {fuel:Nat} {v:Value} {x:DataW H×List MemPlace} (h:DataW.trod enc prog W 0 (fun _=>true) true fuel 22 [v]=some x) (hw:(x.1.weights prog 22).all (· ≤ reachBytes)=true) : ∃ (a:Option Addr) (c:Nat) (zs:List Int),v=.slice a zs.length c∧aK W a zs∧(a=none→c=0)∧zs.length * 8≤140737488355328∧zs.length≤c:=by
 rcases open_ints underlying22 underlying3 Mf h with ⟨hcs,_⟩ | ⟨a,l,c,zs,hcs,_,hl,hm,hz,hx,hcell,hwz⟩
 ·
  obtain rfl:v=.slice none 0 0:=by simpa using hcs
  exact ⟨none,0,[],rfl,aK.nil _ _,fun _=>rfl,by simp,Nat.le_refl _⟩
 ·
  obtain rfl:v=.slice (some a) l c:=by simpa using hcs
  subst hx
  simp only [if_true] at hz
  have e:(zs.take l).length=l:=by simp;omega
  have hr:c * 8≤reachBytes:=by
   have:=List.all_eq_true.1 hw ((lits IntKind.i64 (zs.take l)).length * 8+(lits IntKind.i64 (zs.drop l)).length * 8) (by
    unfold DataW.weights
    rw [underlying22]
    simp only [Mg,List.mem_cons]
    left
    omega)
   simp only [lits,List.length_map,List.length_take,List.length_drop,decide_eq_true_eq] at this
   omega
  simp only [reachBytes] at hr
  refine ⟨some a,c,zs.take l,by rw [e],fun i hi => ?_,(fun h=>by cases h),(by rw [e];omega),(by rw [e];exact hl)⟩
  rw [e] at hi
  obtain ⟨b,off,spot⟩:=a
  have hi':i<zs.length:=by omega
  have hc:=hcell i hi'
  have hspot:spot=none:=by simpa [Addr.add] using World.cell?_spot (hcell 0 (by omega))
  subst hspot
  refine ⟨b,off,rfl,?_⟩
  rw [cQ] at hc
  rw [hc]
  simp [List.getD,hi]
theorem KE {α : Type} {cs:List α} (h:cs.length=9) : ∃ c0 c1 c2 c3 c4 c5 c6 c7 c8,cs=[c0,c1,c2,c3,c4,c5,c6,c7,c8]:=by
 match cs,h with
 | [c0,c1,c2,c3,c4,c5,c6,c7,c8],_=>exact ⟨c0,c1,c2,c3,c4,c5,c6,c7,c8,rfl⟩
theorem Iv {fuel:Nat} {cs:List Value} {x:DataW H×List MemPlace} (h:DataW.trod enc prog W 0 (fun _=>true) true fuel 31 cs=some x) (hw:(x.1.weights prog 31).all (· ≤ reachBytes)=true) : ∃ u:ns,cs=u.row.toList∧u.At W:=by
 obtain ⟨xs,n,_,rfl,hcl,hlen,hx⟩:=DataW.trod_struct underlying31 h
 rw [Lx] at hcl
 obtain ⟨c0,c1,c2,c3,c4,c5,c6,c7,c8,rfl⟩:=KE hcl
 have hl9:xs.length=9:=hlen
 obtain ⟨y0,y1,y2,y3,y4,y5,y6,y7,y8,rfl⟩:=KE hl9
 obtain ⟨m0,e0,_,_⟩:=DataW.trod_int underlying3 (hx 0 _ rfl)
 obtain ⟨m1,e1,_,_⟩:=DataW.trod_string underlying9 (hx 1 _ rfl)
 obtain ⟨m2,e2,_,_⟩:=DataW.trod_string underlying9 (hx 2 _ rfl)
 obtain ⟨m3,e3,_,_⟩:=DataW.trod_int underlying3 (hx 3 _ rfl)
 obtain ⟨m4,e4,_,_⟩:=DataW.trod_int underlying3 (hx 4 _ rfl)
 obtain ⟨m5,e5,_,_⟩:=DataW.trod_int underlying3 (hx 5 _ rfl)
 obtain ⟨m6,e6,_,_⟩:=DataW.trod_string underlying9 (hx 6 _ rfl)
 have k7:DataW.trod enc prog W 0 (fun _=>true) true n 22 [c7]=some y7:=by
  have:=hx 7 _ rfl
  simpa [Lw] using this
 have k8:DataW.trod enc prog W 0 (fun _=>true) true n 22 [c8]=some y8:=by
  have:=hx 8 _ rfl
  simpa [Lw] using this
 have w7:(y7.1.weights prog 22).all (· ≤ reachBytes)=true:=List.all_eq_true.2 fun q hq=>List.all_eq_true.1 hw q (by
  unfold DataW.weights
  rw [underlying31]
  exact DataW.weights_mem_each (j:=7) rfl rfl q hq)
 have w8:(y8.1.weights prog 22).all (· ≤ reachBytes)=true:=List.all_eq_true.2 fun q hq=>List.all_eq_true.1 hw q (by
  unfold DataW.weights
  rw [underlying31]
  exact DataW.weights_mem_each (j:=8) rfl rfl q hq)
 obtain ⟨a7,b7,z7,e7,f7,g7,i7,_⟩:=sE k7 w7
 obtain ⟨a8,b8,z8,e8,f8,g8,i8,j8⟩:=sE k8 w8
 simp [Mf,Mh] at e0 e1 e2 e3 e4 e5 e6
 subst e0 e1 e2 e3 e4 e5 e6 e7 e8
 exact ⟨⟨⟨m0,m1,m2,m3,m4,m5,m6,z7,z8⟩,a7,b7,a8,b8⟩,rfl,f7,g7,f8,g8,i7,i8,j8⟩
theorem CH {t:TypeId} {l:List (DataW H)} {d:DataW H} (hd:d ∈ l) : ∀ q ∈ d.weights prog t,q ∈ DataW.weightsAll prog t l:=by
 induction l with
 | nil=>cases hd
 | cons x r ih =>
  intro q hq
  unfold DataW.weightsAll
  rcases List.mem_cons.1 hd with rfl | hd
  ·
   exact List.mem_append_left _ hq
  ·
   exact List.mem_append_right _ (ih hd q hq)
theorem FO {fuel:Nat} {v:Value} {x:DataW H×List MemPlace} (h:DataW.trod enc prog W 0 (fun _=>true) true fuel 43 [v]=some x) (hw:(x.1.weights prog 43).all (· ≤ reachBytes)=true) : ∃ (a:Option Addr) (c:Nat) (us:List ns),v=.slice a us.length c∧pJ W a us∧us.length≤9223372036854775807:=by
 rcases open_slice underlying43 h with ⟨hcs,_⟩ | ⟨a,l,c,m,n,D,Pl,hcs,_,hl,hm,hmm,hx,hcell⟩
 ·
  obtain rfl:v=.slice none 0 0:=by simpa using hcs
  exact ⟨none,0,[],rfl,fun i hi=>absurd hi (Nat.not_lt_zero _),by simp⟩
 ·
  obtain rfl:v=.slice (some a) l c:=by simpa using hcs
  subst hx
  simp only [if_true] at hmm
  subst hmm
  rw [Lx] at hcell
  have each : ∀ i,i<l → ∃ u:ns,u.At W ∧ ∃ b off,a=⟨b,off,none⟩ ∧ ∀ j q,u.row[j]? = some q→W.cell? ⟨b,off+i * 9+j,none⟩=some q:=by
   intro i hi
   obtain ⟨cs',h1,h2⟩:=hcell i (by omega)
   obtain ⟨u,rfl,hu⟩:=Iv h2 (List.all_eq_true.2 fun q hq=>List.all_eq_true.1 hw q (by
    unfold DataW.weights
    rw [underlying43]
    exact List.mem_cons_of_mem _ (List.mem_append_left _ (CH (List.mem_map.2 ⟨i,List.mem_range.2 hi,rfl⟩) q hq))))
   obtain ⟨_,hlen,hc⟩:=World.cells?_some h1
   obtain ⟨b,off,spot⟩:=a
   have hspot:spot=none:=by
    obtain ⟨cs0,g1,g2⟩:=hcell 0 (by omega)
    obtain ⟨_,gl,gc⟩:=World.cells?_some g1
    have:=gc 0 (by omega)
    rw [List.getElem?_eq_getElem (by omega)] at this
    simpa [Addr.add] using World.cell?_spot this
   subst hspot
   refine ⟨u,hu,b,off,rfl,fun j q hj => ?_⟩
   have hj9:j<9:=by
    have:=(Array.getElem?_eq_some_iff.1 hj).1
    exact this
   have:=hc j (by omega)
   rw [cQ,cQ] at this
   rw [this]
   simpa using hj
  haveI:Inhabited ns:=⟨⟨ly 0 ⟨#[]⟩ ⟨#[]⟩,none,0,none,0⟩⟩
  obtain ⟨f,hf⟩:=choose_lt each
  refine ⟨some a,m,(List.range l).map f,by simp,fun i hi => ?_,by simp;simp only [maxLen] at hm;omega⟩
  have hi':i<l:=by simpa using hi
  obtain ⟨g1,b,off,g2,g3⟩:=hf i hi'
  rw [List.getElem_map,List.getElem_range]
  exact ⟨g1,b,off,by rw [g2],g3⟩
end
end
end Go.Proofs.YtcfdenckiigdaaaGreat

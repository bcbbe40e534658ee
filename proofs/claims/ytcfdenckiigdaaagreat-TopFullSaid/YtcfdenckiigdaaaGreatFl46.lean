/- Part 46 of the contracts. -/
import Derived.Test.YtcfdenckiigdaaaGreatFl45
set_option linter.unusedVariables false
set_option maxRecDepth 100000
set_option maxHeartbeats 4000000
namespace Go.Proofs.YtcfdenckiigdaaaGreat
open Tryz
section
open Go.RowKit
def km (t:ByteArray):ByteArray:=mk 2048 (eD t)
def qA (t:ByteArray):List Int:=(List.range 2048).map fun i=>((eD t i).toNat:Int)
theorem qB (t:ByteArray):(qA t).length=2048:=by simp [qA]
theorem GU (t:ByteArray) (k:Nat) (h:k<2048):(qA t).getD k 0=((eD t k).toNat:Int):=by
 simp [qA,List.getD,h]
theorem yT (x:UInt8):byteOf (x.toNat:Int)=x:=by
 have h:=x.toNat_lt
 unfold byteOf
 rw [show ((x.toNat:Int) % 256).toNat=x.toNat by omega]
 exact UInt8.ofNat_toNat
theorem Cm (t:ByteArray):eE (qA t)=km t:=by
 refine fH ?_ fun i hi => ?_
 ·
  rw [fh,qB];exact (eJ _ _).symm
 ·
  rw [fh,qB] at hi
  rw [show bt (km t) i=eD t i from lR _ _ _ hi]
  unfold eE bytesOf qA bt
  simp [hi,yT]
theorem Ew {t:ByteArray} (h:0<t.size) (i:Nat):eD t i=bt t (i % t.size):=if_neg (by omega)
theorem Ix (t:ByteArray) (h:t.size=0) (n:Nat) (w:World) (b:Nat) (hb:w.heap[b]? = some (.cells (madeCells #[.int .u8 0] n) 5 (0,0))):(convert 29 9 (.slice (some ⟨b,0,none⟩) n n)).run prog w=.ok (.string (mk n (eD t))) w:=by
 have:=run_convert_bytes_back (P:=prog) w 29 9 5 ⟨b,0,none⟩ n (List.replicate n 0) underlying29 underlying5 underlying9 (fun j hj=>by
  rw [List.length_replicate] at hj
  rw [di,Nat.zero_add,cell_of hb,CF _ _ _ hj]
  simp)
 rw [List.length_replicate] at this
 have e:(⟨(List.replicate n (0:UInt8)).toArray⟩:ByteArray)=mk n (eD t) := ?_
 rw [this,e]
 refine fH ?_ fun i hi => ?_
 ·
  rw [eJ];simp [ByteArray.size]
 ·
  have hi:i<n:=by simpa [ByteArray.size] using hi
  rw [lR _ _ _ hi]
  unfold eD bt
  rw [if_pos h]
  simp [hi]
theorem Gw {xs:List Int} {t:ByteArray} (h : ∀ k,k<2048→xs.getD k 0=((eD t k).toNat:Int)) (m:0<t.size → ∀ i,eD t i=bt t (i % t.size)) (hp:0<t.size) {k:Nat} (hk:k<2048):(byteOf (xs.getD k 0)).toNat=(bt t (k % t.size)).toNat:=by
 rw [h k hk,yT,m hp]
theorem xY (t:ByteArray) (w:World) (ht:t.size<140737488355328):Calls prog 17 #[.string t] w (jm (km t) w):=by
 have hmk : ∀ w,(Instr.makeSlice 29 (.int .i64 2048) (.int .i64 2048)).run prog w=.ok (.slice (some ⟨w.heap.size,0,none⟩) 2048 2048) (w.alloc (.cells (madeCells #[.int .u8 0] 2048) 5)):=fun w=>run_make_row' (P:=prog) 29 5 (.int .u8 0) 1 underlying29 mG rfl .i64 .i64 2048 (by omega) (by omega) w
 have HI:=zH (fun w b h hb=>Ix t h 2048 w b hb)
 have HT:=zH (Cm t)
 have HM:=zH (fun h i=>Ew (t:=t) h i)
 have HA:=zH (GU t)
 have HL:=zH (qB t)
 rw [show mk 2048 (eD t)=km t from rfl] at HI
 generalize km t=img at *
 generalize qA t=xs at *
 go_enter func17,ntmps17
 go_upto_region 2 with fail
 have hs:=fK.start (w:=w) 2048 xs
 have HS:=zH hs
 have HN:=zH (af w (.cells (madeCells #[.int .u8 0] 2048) 5))
 have HB:=zH (ae (Below.refl w.heap.size w) (.cells (madeCells #[.int .u8 0] 2048) 5))
 generalize hW:w.alloc (.cells (madeCells #[.int .u8 0] 2048) 5)=w2 at *
 clear hmk hs hW
 by_cases h0:t.size=0
 ·
  have hback:=HI.out w2 _ h0 HN.out
  have ht0 : ¬ (0:Int)<(t.size:Int):=by omega
  go_wp2
  go_loopw [4] (fun i wr=>i=.int .i64 0∧wr=w2) (fun i _=>0)
  case atStart=>exact ⟨rfl,rfl⟩
  case round =>
   obtain ⟨rfl,rfl⟩:=hrel
   go_wp2
   go_ret
   exact ⟨rfl,HB.out⟩
 ·
  have ht0:(0:Int)<(t.size:Int):=by omega
  have ht1:(t.size:Int)≠0:=by omega
  have ht2:((t.size:Int) == 0)=false:=zQ ht1
  have HP:=zH (show 0<t.size by omega)
  clear h0
  go_wp2
  go_loopw [4] (fun i wr => ∃ k:Nat,i=.int .i64 k∧k≤2048∧fK w wr w.heap.size 2048 k xs) (fun i _=>2048 - (intOf i).toNat)
  case atStart=>exact ⟨0,rfl,Nat.zero_le _,HS.out⟩
  case round =>
   obtain ⟨k,rfl,hk,hB⟩:=hrel
   by_cases hlt:k<2048
   ·
    have hlt':(k:Int)<2048:=by omega
    obtain ⟨y,hy,_⟩:=hB.cell k hlt
    have hf:=hB.free k
    have hr:(k:Int).tmod (t.size:Int)=((k % t.size:Nat):Int):=(Int.ofNat_tmod k t.size).symm
    have hrl:k % t.size<t.size:=Nat.mod_lt _ HP.out
    have HNX:=zH (hB.next zY hlt)
    rw [Gw HA.out HM.out HP.out hlt] at HNX
    clear hB
    generalize hq:k % t.size=q at *
    have hg:=gT t q hrl
    clear hq
    go_wp2
    go_roundw
    case rel=>exact ⟨k+1,by go_num,by omega,HNX.out⟩
    case measure=>simp [intOf];omega
   ·
    obtain rfl:k=2048:=by omega
    have hd:=fK.done (xs:=xs) (w:=w) (wr:=wr) (nb:=w.heap.size) (by rw [HL.out];exact hB)
    rw [HL.out,HT.out] at hd
    have HBB:=zH hB.below
    clear hB
    go_wp2
    go_ret
    exact ⟨rfl,HBB.out⟩
end
section
open Go.RowKit
def Kx:Array Value := #[.int .i64 0,.string ⟨#[]⟩,.string ⟨#[]⟩,.int .i64 0,.int .i64 0,.int .i64 0,.string ⟨#[]⟩,.slice none 0 0,.slice none 0 0]
structure DN (w wr:World) (x:cd) (ba:Option Addr) (bc:Nat) (ra:Option Addr) (rc:Nat):Prop where
 below:Below w.heap.size w wr
 act:wr.heap[w.heap.size]? = some (.cells (x.row ba bc ra rc) 31 (0,0))
 res:wr.heap[w.heap.size+1]? = some (.cells Kx 31 (0,0))
theorem Da {w:World} {g:Nat} {a b c d e f h i j:Value} {t:TypeId} (k:w.heap[g]? = some (.cells #[a,b,c,d,e,f,h,i,j] t (0,0))):w.cell? ⟨g,0,none⟩=some a∧w.cell? ⟨g,1,none⟩=some b∧w.cell? ⟨g,2,none⟩=some c∧w.cell? ⟨g,3,none⟩=some d∧w.cell? ⟨g,4,none⟩=some e∧w.cell? ⟨g,5,none⟩=some f∧w.cell? ⟨g,6,none⟩=some h∧w.cell? ⟨g,7,none⟩=some i∧w.cell? ⟨g,8,none⟩=some j ∧ ∀ i,w.frozen? ⟨g,i,none⟩=false :=
 ⟨cell_of k 0,cell_of k 1,cell_of k 2,cell_of k 3,cell_of k 4,cell_of k 5,cell_of k 6,cell_of k 7,cell_of k 8,fun i=>aF k i⟩
theorem DN.aj {w w1 w2:World} {x:cd} {ba ra:Option Addr} {bc rc:Nat} (h:DN w w1 x ba bc ra rc) (hb:Below w1.heap.size w1 w2):DN w w2 x ba bc ra rc:=⟨gtr h.below hb,aa hb h.act,aa hb h.res⟩
end
section
open Go.RowKit
def iw (w:World) (g:Nat) (G:Nat→Prop) (ps:List aK):Prop := ¬ G g ∧ ∃ a c q a3 n3 c3,w.heap[g]? = some (.cells #[.bool false,.slice a ps.length c,.bool q,.slice a3 n3 c3,.bool true] 63 (0,0))∧aT w (.slice a ps.length c) ps.length 2 (aE ps) ∧ ∀ b o,a=some ⟨b,o,none⟩→0<ps.length → ¬ G b
theorem zD {w:World} {B n n' sz:Nat} {t:TypeId} {a:Option Addr} {c:Nat} {cs:List Value} {G:Nat→Prop} (h:w.ownsRow B t sz (.slice a n c) n' cs) (hG : ∀ i,G i→i<B) {P:Prop} : ∀ b o,a=some ⟨b,o,none⟩→P → ¬ G b:=by
 intro b o e _ hg
 have:=bQ h b (by rw [e];rcases h.2 with ⟨e2,_⟩ | ⟨k,cap,cur,e2,_⟩ <;> simp_all [Value.ownBlock])
 have:=hG b hg
 omega
def fA (ps:List aK) (x:cd):Int×List aK :=
 if x.kind=2 then if 7<(fS x.key x.value ps).length then (2304,ps) else (0,fS x.key x.value ps) else if (gP ps x.key).isSome=false then (2303,ps) else (0,fu x.key ps)
def yI (q:Int×List aK) (G:Nat→Prop) (w:World) (e:Ending) (w':World):Prop := ∃ a c,e=.returned (.tuple #[.int .i64 q.1,.agg #[.bool false,.slice a q.2.length c]])∧aT w' (.slice a q.2.length c) q.2.length 2 (aE q.2)∧Below w.heap.size w w' ∧ ∀ b o,a=some ⟨b,o,none⟩→0<q.2.length → ¬ G b
theorem DC (g:Nat) (G:Nat→Prop) (ps:List aK) (x:cd) (ba:Option Addr) (bc:Nat) (ra:Option Addr) (rc:Nat) (w:World) (hm:iw w g G ps) (hG : ∀ i,G i→i<w.heap.size) (hk:x.kind=2∨x.kind=4) (s1:1≤x.key.size) (s2:x.key.size≤6) (s3:x.value.size≤20) (hr:aU w ra x.reads) (hr2 : ∀ i (h:i<x.reads.length),x.reads[i]<2048) (hso:fo ps) (hl:ps.length≤7) (hrl:x.reads.length≤1000000):Calls prog 36 #[.pointer (some ⟨g,0,none⟩),.agg (x.row ba bc ra rc)] w (yI (fA ps x) G w):=by
 have e0:(x.kind == 0)=false:=zQ (by omega)
 have e1:(x.kind == 1)=false:=zQ (by omega)
 have e3:(x.kind == 3)=false:=zQ (by omega)
 have e5:(x.kind == 5)=false:=zQ (by omega)
 have l1 : ¬ (x.key.size:Int)<1:=by omega
 have l2 : ¬ (6:Int)<(x.key.size:Int):=by omega
 have l3 : ¬ (20:Int)<(x.value.size:Int):=by omega
 obtain ⟨hgG,a,c,q,a3,n3,c3,hg,hsl,hsf⟩:=hm
 generalize Value.bool q=m2 at hg
 generalize Value.slice a3 n3 c3=m3 at hg
 have HSF:=zH (zA hsf hG)
 clear hsf hG hgG
 unfold cd.row
 have hgl:g<w.heap.size:=aP hg
 have hb1:=ae (Below.refl w.heap.size w) (.cells #[.int .i64 x.kind,.string x.key,.string x.value,.int .i64 x.at_,.int .i64 x.width,.int .i64 x.cm,.string x.mask,.slice ba x.busy.length bc,.slice ra x.reads.length rc] 31)
 have hb2:=ae hb1 (.cells #[.bool false,.slice none 0 0] 61)
 have n0:=aa (ae zR (.cells #[.bool false,.slice none 0 0] 61)) (af w (.cells #[.int .i64 x.kind,.string x.key,.string x.value,.int .i64 x.at_,.int .i64 x.width,.int .i64 x.cm,.string x.mask,.slice ba x.busy.length bc,.slice ra x.reads.length rc] 31))
 have n1:((w.alloc (.cells #[.int .i64 x.kind,.string x.key,.string x.value,.int .i64 x.at_,.int .i64 x.width,.int .i64 x.cm,.string x.mask,.slice ba x.busy.length bc,.slice ra x.reads.length rc] 31)).alloc (.cells #[.bool false,.slice none 0 0] 61)).heap[w.heap.size+1]? = some (.cells #[.bool false,.slice none 0 0] 61 (0,0)):=by simpa using af (w.alloc (.cells #[.int .i64 x.kind,.string x.key,.string x.value,.int .i64 x.at_,.int .i64 x.width,.int .i64 x.cm,.string x.mask,.slice ba x.busy.length bc,.slice ra x.reads.length rc] 31)) (.cells #[.bool false,.slice none 0 0] 61)
 have HB:=zH (zA hb2 (zA n0 (zA n1 (aa hb2 hg))))
 have HSL:=zH (zA hsl (zA hr (zA hr2 (zA hso hl))))
 have HK:=zH hk
 have HD:=zH (zA (Nat.le_trans (AH x.key ps) hl) (show ((w.alloc (.cells #[.int .i64 x.kind,.string x.key,.string x.value,.int .i64 x.at_,.int .i64 x.width,.int .i64 x.cm,.string x.mask,.slice ba x.busy.length bc,.slice ra x.reads.length rc] 31)).alloc (.cells #[.bool false,.slice none 0 0] 61)).heap.size=w.heap.size+2 by simp))
 clear hb1 hb2 n0 n1 hg hsl hr hr2 hso hl hk
 obtain ⟨y0,y1,y2,y3,y4,y5,y6,y7,y8,yf⟩:=Da HB.out.2.1
 obtain ⟨g0,g1,g2,g3,g4,gf⟩:=mu HB.out.2.2.2
 go_enter func36,ntmps36
 go_upto_region 19 with fail
 clear y0 y1 y2 y3 y4 y5 y6 y7 y8 yf g0 g1 g2 g3 g4 gf
 have hlt0:w.heap.size<w.heap.size+1:=by omega
 have hlt2:g<w.heap.size+1:=by omega
 generalize (w.alloc (.cells #[.int .i64 x.kind,.string x.key,.string x.value,.int .i64 x.at_,.int .i64 x.width,.int .i64 x.cm,.string x.mask,.slice ba x.busy.length bc,.slice ra x.reads.length rc] 31)).alloc (.cells #[.bool false,.slice none 0 0] 61)=w1 at *
 have HLT:=zH (zA (show w.heap.size≤w.heap.size from Nat.le_refl _) (zA (show w.heap.size≤w.heap.size+1 by omega) (zA (show g≠w.heap.size+1 by omega) (zA (show w.heap.size≠w.heap.size+1 by omega) (show w1.heap.size=w.heap.size+2 from HD.out.2)))))
 have HS:=zH (fun (w':World) (h1:w'.heap[g]? = some (.cells #[.bool false,.slice a ps.length c,m2,m3,.bool true] 63 (0,0))) (h2:w'.heap[w.heap.size]? = some (.cells #[.int .i64 x.kind,.string x.key,.string x.value,.int .i64 x.at_,.int .i64 x.width,.int .i64 x.cm,.string x.mask,.slice ba x.busy.length bc,.slice ra x.reads.length rc] 31 (0,0)))=>(show w'.cell? ⟨g,0,none⟩=some (.bool false)∧w'.cell? ⟨g,1,none⟩=some (.slice a ps.length c)∧w'.cell? ⟨w.heap.size,1,none⟩=some (.string x.key)∧w'.cell? ⟨w.heap.size,2,none⟩=some (.string x.value) from ⟨cell_of h1 0,cell_of h1 1,cell_of h2 1,cell_of h2 2⟩))
 have HF1:=zH (fun (w':World) (hb:Below w1.heap.size w1 w')=>zA (aa hb HB.out.2.2.2) (aa hb HB.out.2.1))
 have HHAS:=zH (fun (w':World) (hb:Below w1.heap.size w1 w')=>xj false (.slice a ps.length c) ps x.key w' (HSL.out.1.aj (HB.out.1.trans (hb.mono HB.out.1.size))) (by have:=HSL.out.2.2.2.2;omega))
 refine wp_region_noPanic ?_
 refine wp_region_held_drew (S:=(fun w':World=>w'.cell? ⟨g,0,none⟩=some (.bool false)∧w'.cell? ⟨g,1,none⟩=some (.slice a ps.length c)∧w'.cell? ⟨w.heap.size,1,none⟩=some (.string x.key)∧w'.cell? ⟨w.heap.size,2,none⟩=some (.string x.value))) (by kernel_rfl) (by (try dsimp only);exact HS.out _ (HF1.out _ (au zR)).1 (HF1.out _ (au zR)).2) fun hHeld => ?_
 refine tk 0 ?_
 refine tk 1 ?_
 refine tk 2 ?_
 refine tk 3 ?_
 refine tk 4 ?_
 refine tk 5 ?_
 refine tr 6 fun K hK => ?_
 go_simp
 go_at_call 38
 refine (HHAS.out _ (au zR)).mono ?_
 rintro e wx ⟨rfl,hbx⟩
 have hbh:=gtr (au (Below.refl w1.heap.size w1)) hbx
 go_wp2_with fail
 refine hK.out _ _ (by (try dsimp only);exact HS.out _ (HF1.out _ hbh).1 (HF1.out _ hbh).2) fun hHeld => ?_
 clear hK K
 try simp only [Act.put,zS,zT,zU]
 refine tk 7 ?_
 refine tk 8 ?_
 refine tk 9 ?_
 refine tk 10 ?_
 refine tk 11 ?_
 refine wpAnyH_done (by kernel_rfl) ?_ _
 refine NoPanic.normal ?_
 go_upto_region 20 with fail
 obtain ⟨w2,hw2⟩ : ∃ w2,w2=wx:=⟨_,rfl⟩
 subst hw2
 have HB2:=zH hbh
 have HF2:=zH (fun (w':World) (hb:Below w2.heap.size w2 w')=>HF1.out w' (hbh.trans (hb.mono hbh.size)))
 have HLESS:=zH (fun (w':World) (hb:Below w2.heap.size w2 w')=>CI false (.slice a ps.length c) ps x.key w' (HSL.out.1.aj (HB.out.1.trans ((hbh.trans (hb.mono hbh.size)).mono HB.out.1.size))) (by have:=HSL.out.2.2.2.2;omega))
 clear hbx hbh HHAS
 go_cut [9] from 11 (fun x9 wx => ∃ b2 v,x9=.pointer (some ⟨b2,0,none⟩)∧Below w2.heap.size w2 wx∧wx.heap[b2]? = some (.cells #[.bool false,v] 61 (0,0))∧w2.heap.size≤b2∧wx.ownsRow w2.heap.size 83 2 v (fu x.key ps).length (aE (fu x.key ps)))
 case first =>
  refine wp_region_noPanic ?_
  refine wp_region_held_drew (S:=(fun w':World=>w'.cell? ⟨g,0,none⟩=some (.bool false)∧w'.cell? ⟨g,1,none⟩=some (.slice a ps.length c)∧w'.cell? ⟨w.heap.size,1,none⟩=some (.string x.key)∧w'.cell? ⟨w.heap.size,2,none⟩=some (.string x.value))) (by kernel_rfl) (by (try dsimp only);exact HS.out _ (HF2.out _ (au zR)).1 (HF2.out _ (au zR)).2) fun hHeld => ?_
  refine tk 0 ?_
  refine tk 1 ?_
  refine tk 2 ?_
  refine tk 3 ?_
  refine tk 4 ?_
  refine tk 5 ?_
  refine wpAnyH_ready (rs:=[6,7]) (by kernel_rfl) (by simp) ?_
  refine (AllReadyH.cons (o:=⟨some 94,.call ⟨.value (.func 70),#[.tmp 91,.tmp 93],#[61,9]⟩,61, "law.go:125",#[⟨3,.data⟩,⟨5,.data⟩],none⟩) rfl (fun K hK => ?_) (AllReadyH.cons (o:=⟨some 9,.alloc 61,0, "law.go:125",#[],none⟩) rfl (fun K hK => ?_) AllReadyH.nil))
  ·
   skip
   go_simp
   go_at_call 70
   refine (HLESS.out _ (au (Below.refl w2.heap.size w2))).mono ?_
   rintro e wx ⟨vl,rfl,ol,hbl⟩
   obtain ⟨al,cl,rfl⟩:=bF ol
   have hbz:=gtr (au (Below.refl w2.heap.size w2)) hbl
   go_wp2_with fail
   refine hK.out _ _ (by (try dsimp only);exact HS.out _ (HF2.out _ hbz).1 (HF2.out _ hbz).2) fun hHeld => ?_
   clear hK K
   try simp only [Act.put,zS,zT,zU]
   refine tr 7 fun K hK => ?_
   go_simp
   have hba:=ae hbz (.cells #[.bool false,.slice none 0 0] 61)
   refine hK.out _ _ (by (try dsimp only);exact HS.out _ (HF2.out _ hba).1 (HF2.out _ hba).2) fun hHeld => ?_
   clear hK K
   try simp only [Act.put,zS,zT,zU]
   refine tr 8 fun K hK => ?_
   have HN:=zH (zA hba (zA (af wx (.cells #[.bool false,.slice none 0 0] 61)) (zA (eX (ol.alloc (.cells #[.bool false,.slice none 0 0] 61)) (show w2.heap.size≤w2.drew.heap.size from Nat.le_refl _)) (show w2.heap.size≤wx.heap.size from hbz.size))))
   obtain ⟨z0,z1,zf⟩:=jM HN.out.2.1
   clear ol hbl
   generalize wx.alloc (.cells #[.bool false,.slice none 0 0] 61)=w3 at *
   generalize wx.heap.size=b2 at *
   go_simp
   refine hK.out _ _ (by (try dsimp only);have hbs:=dC HN.out.1 HN.out.2.2.2 (.bool false) (.slice al (fu x.key ps).length cl);exact HS.out _ (HF2.out _ hbs).1 (HF2.out _ hbs).2) fun hHeld => ?_
   clear hK K
   try simp only [Act.put,zS,zT,zU]
   refine wpAnyH_done (by kernel_rfl) ?_ _
   refine NoPanic.normal ?_
   go_wp2
   go_meet
   exact ⟨_,.slice al (fu x.key ps).length cl,rfl,dC HN.out.1 HN.out.2.2.2 (.bool false) (.slice al (fu x.key ps).length cl),jU HN.out.2.1 _ _,HN.out.2.2.2,kc HN.out.2.2.1 (cP HN.out.2.2.1 HN.out.2.1 (by decide)) _ _⟩
  ·
   skip
   go_simp
   have hba:=ae (au (Below.refl w2.heap.size w2)) (.cells #[.bool false,.slice none 0 0] 61)
   refine hK.out _ _ (by (try dsimp only);exact HS.out _ (HF2.out _ hba).1 (HF2.out _ hba).2) fun hHeld => ?_
   clear hK K
   try simp only [Act.put,zS,zT,zU]
   refine tr 6 fun K hK => ?_
   go_simp
   go_at_call 70
   refine (HLESS.out _ hba).mono ?_
   rintro e wx ⟨vl,rfl,ol,hbl⟩
   obtain ⟨al,cl,rfl⟩:=bF ol
   have hbz:=gtr hba hbl
   go_wp2_with fail
   refine hK.out _ _ (by (try dsimp only);exact HS.out _ (HF2.out _ hbz).1 (HF2.out _ hbz).2) fun hHeld => ?_
   clear hK K
   try simp only [Act.put,zS,zT,zU]
   refine tr 8 fun K hK => ?_
   have HN:=zH (zA hbz (zA (aa hbl (af w2.drew (.cells #[.bool false,.slice none 0 0] 61))) (zA (eX ol (show w2.heap.size≤(w2.drew.alloc (.cells #[.bool false,.slice none 0 0] 61)).heap.size from hba.size)) (show w2.heap.size≤w2.heap.size from Nat.le_refl _))))
   obtain ⟨z0,z1,zf⟩:=jM (show wx.heap[w2.heap.size]? = _ from HN.out.2.1)
   clear ol hbl
   go_simp
   refine hK.out _ _ (by (try dsimp only);have hbs:=dC HN.out.1 HN.out.2.2.2 (.bool false) (.slice al (fu x.key ps).length cl);exact HS.out _ (HF2.out _ hbs).1 (HF2.out _ hbs).2) fun hHeld => ?_
   clear hK K
   try simp only [Act.put,zS,zT,zU]
   refine wpAnyH_done (by kernel_rfl) ?_ _
   refine NoPanic.normal ?_
   go_wp2
   go_meet
   exact ⟨_,.slice al (fu x.key ps).length cl,rfl,dC HN.out.1 HN.out.2.2.2 (.bool false) (.slice al (fu x.key ps).length cl),jU HN.out.2.1 _ _,HN.out.2.2.2,kc HN.out.2.2.1 (cP HN.out.2.2.1 HN.out.2.1 (by decide)) _ _⟩
 case rest =>
  obtain ⟨b2,v9,rfl,hb,hz,hge,ho⟩:=hcut
  obtain ⟨w4,hw4⟩ : ∃ w4,w4=wc:=⟨_,rfl⟩
  subst hw4
  obtain ⟨a9,c9,rfl⟩:=bF ho
  have hb14:Below w1.heap.size w1 w4:=HB2.out.trans (hb.mono HB2.out.size)
  have HF4:=zH (fun (w':World) (hb:Below w4.heap.size w4 w')=>HF1.out w' (hb14.trans (hb.mono hb14.size)))
  have HB4:=zH (zA hb14 (zA hz (zA (Nat.le_trans HB2.out.size hge) ho)))
  have HEB4:=zH (show Below w.heap.size w w4 from HB.out.1.trans (hb14.mono HB.out.1.size))
  have HNE:=zH (show b2≠w.heap.size+1 by have:=HB2.out.size;have:=HLT.out.2.2.2.2;omega)
  clear hb hz hge ho hb14
  obtain ⟨y0,y1,y2,y3,y4,y5,y6,y7,y8,yf⟩:=Da (HF4.out _ zR).2
  rcases HK.out with k2' | k4'
  ·
   have e2:(x.kind == 2)=true:=by rw [k2'];rfl
   have en2:(x.kind != 2)=false:=by rw [k2'];rfl
   have HWX:=zH (show fA ps x=if 7<(fS x.key x.value ps).length then (2304,ps) else (0,fS x.key x.value ps) from if_pos k2')
   have HWITH:=zH (fun (w':World) (hb:Below w4.heap.size w4 w')=>CO false (.slice a ps.length c) ps x.key x.value w' (HSL.out.1.aj (HEB4.out.trans (hb.mono HEB4.out.size))) (by have:=HSL.out.2.2.2.2;omega))
   rw [F9 x.key x.value ps HSL.out.2.2.2.1] at HWITH
   clear k2'
   go_upto_region 28 with fail
   clear y0 y1 y2 y3 y4 y5 y6 y7 y8 yf
   refine wp_region_noPanic ?_
   refine wp_region_held_drew (S:=(fun w':World=>w'.cell? ⟨g,0,none⟩=some (.bool false)∧w'.cell? ⟨g,1,none⟩=some (.slice a ps.length c)∧w'.cell? ⟨w.heap.size,1,none⟩=some (.string x.key)∧w'.cell? ⟨w.heap.size,2,none⟩=some (.string x.value))) (by kernel_rfl) (by (try dsimp only);exact HS.out _ (HF4.out _ (au zR)).1 (HF4.out _ (au zR)).2) fun hHeld => ?_
   refine tk 0 ?_
   refine tk 1 ?_
   refine tk 2 ?_
   refine tk 3 ?_
   refine tk 4 ?_
   refine tk 5 ?_
   refine tk 6 ?_
   refine tk 7 ?_
   refine tr 8 fun K hK => ?_
   go_simp
   go_at_call 71
   refine (HWITH.out _ (au zR)).mono ?_
   rintro e wx ⟨vw,rfl,ow,hbw⟩
   obtain ⟨aw,cw,rfl⟩:=bF ow
   have hbz:=gtr (au (Below.refl w4.heap.size w4)) hbw
   have hz2:=aa hbz HB4.out.2.1
   obtain ⟨z0,z1,zf⟩:=jM hz2
   go_wp2_with fail
   refine hK.out _ _ (by (try dsimp only);exact HS.out _ (HF4.out _ hbz).1 (HF4.out _ hbz).2) fun hHeld => ?_
   clear hK K
   try simp only [Act.put,zS,zT,zU]
   refine tr 9 fun K hK => ?_
   go_simp
   refine hK.out _ _ (by (try dsimp only);have hbs:=dC (gtr HB4.out.1 hbz) HB4.out.2.2.1 (.bool false) (.slice aw (fS x.key x.value ps).length cw);exact HS.out _ (HF1.out _ hbs).1 (HF1.out _ hbs).2) fun hHeld => ?_
   clear hK K
   try simp only [Act.put,zS,zT,zU]
   refine wpAnyH_done (by kernel_rfl) ?_ _
   refine NoPanic.normal ?_
   have hb5:Below w1.heap.size w1 (lJ wx b2 (.bool false) (.slice aw (fS x.key x.value ps).length cw)):=dC (HB4.out.1.trans (hbz.mono HB4.out.1.size)) HB4.out.2.2.1 _ _
   have HE:=zH (zA hb5 (zA (jU hz2 (.bool false) (.slice aw (fS x.key x.value ps).length cw)) (zA (eX (kc ow (cP ow hz2 (by decide)) (.bool false) (.slice aw (fS x.key x.value ps).length cw)) (show w.heap.size≤w4.drew.heap.size from HEB4.out.size)) HNE.out)))
   unfold lJ at HE hb5
   clear z0 z1 zf hbz hz2 ow hbw
   generalize (wx.setCell ⟨b2,0,none⟩ (.bool false)).setCell ⟨b2,1,none⟩ (.slice aw (fS x.key x.value ps).length cw)=w5 at *
   have HF5:=zH (fun (w':World) (hb:Below w5.heap.size w5 w')=>HF1.out w' (hb5.trans (hb.mono hb5.size)))
   have HEB:=zH (show Below w.heap.size w w5 from HB.out.1.trans (hb5.mono HB.out.1.size))
   have HRI:=zH (HSL.out.2.1.aj HEB.out)
   obtain ⟨a9,ha9⟩ : ∃ q,q=aw:=⟨_,rfl⟩
   subst ha9
   obtain ⟨c9,hc9⟩ : ∃ q,q=cw:=⟨_,rfl⟩
   subst hc9
   clear hb5
   by_cases h7:7<(fS x.key x.value ps).length
   ·
    have HW:=zH (HWX.out.trans (if_pos h7))
    have h7':(7:Int)<((fS x.key x.value ps).length:Int):=by omega
    clear h7
    obtain ⟨z0,z1,zf⟩:=jM HE.out.2.1
    obtain ⟨r0,r1,rf⟩:=jM (aa HE.out.1 HB.out.2.2.1)
    go_upto_region 30 with fail
    refine wp_region_noPanic ?_
    refine wp_region_held_drew (S:=(fun w':World=>w'.cell? ⟨g,0,none⟩=some (.bool false)∧w'.cell? ⟨g,1,none⟩=some (.slice a ps.length c)∧w'.cell? ⟨w.heap.size,1,none⟩=some (.string x.key)∧w'.cell? ⟨w.heap.size,2,none⟩=some (.string x.value))) (by kernel_rfl) (by (try dsimp only);exact HS.out _ (HF5.out _ (au zR)).1 (HF5.out _ (au zR)).2) fun hHeld => ?_
    refine tk 0 ?_
    refine tk 1 ?_
    refine tk 2 ?_
    refine tk 3 ?_
    refine tk 4 ?_
    refine tr 5 fun K hK => ?_
    go_simp
    go_wp2_with fail
    refine hK.out _ _ (by (try dsimp only);exact HS.out _ (iu (w:=w5.drew) (HF5.out _ zR).1 HLT.out.2.2.1 _ _) (iu (w:=w5.drew) (HF5.out _ zR).2 HLT.out.2.2.2.1 _ _)) fun hHeld => ?_
    clear hK K
    try simp only [Act.put,zS,zT,zU]
    refine wpAnyH_done (by kernel_rfl) ?_ _
    refine NoPanic.normal ?_
    have e:=jM (jU (aa HE.out.1 HB.out.2.2.1) (.bool false) (.slice a ps.length c))
    unfold lJ at e
    obtain ⟨d0,d1,df⟩:=e
    go_wp2
    refine bodyPost_ret (v:=.tuple #[.int .i64 2304,.agg #[.bool false,.slice a ps.length c]]) (by simp [results,results36,go_sem,d0,d1]) rfl ?_
    refine ⟨a,c,?_,?_,?_,by rw [HW.out];exact HSF.out.1⟩
    ·
     rw [HW.out]
    ·
     rw [HW.out];exact HSL.out.1.aj (au (dC (w:=w5) HEB.out HLT.out.2.1 _ _))
    ·
     exact au (dC (w:=w5) HEB.out HLT.out.2.1 _ _)
   ·
    have HW:=zH (HWX.out.trans (if_neg h7))
    have h7' : ¬ (7:Int)<((fS x.key x.value ps).length:Int):=by omega
    clear h7
    obtain ⟨z0,z1,zf⟩:=jM HE.out.2.1
    obtain ⟨y0,y1,y2,y3,y4,y5,y6,y7,y8,yf⟩:=Da (HF5.out _ zR).2
    obtain ⟨r0,r1,rf⟩:=jM (aa HE.out.1 HB.out.2.2.1)
    clear y1 y2 y3 y4 y5 y6 y7 yf
    go_wp2
    go_loopg [10] x.reads.length (fun n i wr => ∃ j:Nat,n=x.reads.length - j∧i=.int .i64 j∧j≤x.reads.length∧w5=wr)
    case atStart=>exact ⟨0,rfl,rfl,Nat.zero_le _,rfl⟩
    case round =>
     obtain ⟨j,hgn,rfl,hj,rfl⟩:=hrel
     have HG:=zH hgn
     clear hgn
     by_cases hlt:j<x.reads.length
     ·
      have hlt':(j:Int)<(x.reads.length:Int):=by omega
      obtain ⟨rb,ro,hra,hrc⟩:=HRI.out j hlt
      subst hra
      have hv:=HSL.out.2.2.1 j hlt
      rw [show x.reads.getD j 0=x.reads[j] from by simp [List.getD,hlt]] at hrc
      generalize x.reads[j]=rv at *
      have hrv : ¬ (2048:Int)≤rv:=by omega
      clear z0 z1 zf r0 r1 rf hv
      go_wp2
      go_roundg (x.reads.length - (j+1))
      case measure=>have:=HG.out;omega
      case rel=>exact ⟨j+1,rfl,by go_num,by omega,rfl⟩
     ·
      have hlt' : ¬ (j:Int)<(x.reads.length:Int):=by omega
      clear hlt
      go_upto_region 36 with fail
      refine wp_region_noPanic ?_
      refine wp_region_held_drew (S:=(fun w':World=>w'.cell? ⟨b2,0,none⟩=some (.bool false)∧w'.cell? ⟨b2,1,none⟩=some (.slice a9 (fS x.key x.value ps).length c9))) (by kernel_rfl) (by (try dsimp only);exact ⟨cell_of HE.out.2.1 0,cell_of HE.out.2.1 1⟩) fun hHeld => ?_
      refine tk 0 ?_
      refine tk 1 ?_
      refine tr 2 fun K hK => ?_
      go_simp
      go_wp2_with fail
      refine hK.out _ _ (by (try dsimp only);exact ⟨cell_of (iu (w:=w5.drew) HE.out.2.1 HE.out.2.2.2 _ _) 0,cell_of (iu (w:=w5.drew) HE.out.2.1 HE.out.2.2.2 _ _) 1⟩) fun hHeld => ?_
      clear hK K
      try simp only [Act.put,zS,zT,zU]
      refine wpAnyH_done (by kernel_rfl) ?_ _
      refine NoPanic.normal ?_
      have e:=jM (jU (aa HE.out.1 HB.out.2.2.1) (.bool false) (.slice a9 (fS x.key x.value ps).length c9))
      unfold lJ at e
      obtain ⟨d0,d1,df⟩:=e
      go_wp2
      refine bodyPost_ret (v:=.tuple #[.int .i64 0,.agg #[.bool false,.slice a9 (fS x.key x.value ps).length c9]]) (by simp [results,results36,go_sem,d0,d1]) rfl ?_
      refine ⟨a9,c9,?_,?_,?_,zD HE.out.2.2.1 HSF.out.2⟩
      ·
       rw [HW.out]
      ·
       rw [HW.out];exact aT.dd (World.ownsRow.aj (kc (w:=w5) HE.out.2.2.1 (cP (w:=w5) HE.out.2.2.1 (aa HE.out.1 HB.out.2.2.1) (by decide)) _ _) (au zR))
      ·
       exact au (dC (w:=w5) HEB.out HLT.out.2.1 _ _)
  ·
   have e2:(x.kind == 2)=false:=zQ (by omega)
   have en2:(x.kind != 2)=true:=bne_iff_ne.2 (by omega)
   have HWX:=zH (show fA ps x=if (gP ps x.key).isSome=false then (2303,ps) else (0,fu x.key ps) from if_neg (by omega))
   have HE:=zH (zA HB4.out.1 (zA HB4.out.2.1 (zA (eX HB4.out.2.2.2 (HB.out.1.trans (HB2.out.mono HB.out.1.size)).size) HNE.out)))
   have HEB:=zH HEB4.out
   have HRI:=zH (HSL.out.2.1.aj HEB.out)
   have hd:=HD.out.1
   clear k4'
   cases hf:(gP ps x.key).isSome with
   | false =>
    have HW:=zH (HWX.out.trans (if_pos hf))
    obtain ⟨r0,r1,rf⟩:=jM (aa HE.out.1 HB.out.2.2.1)
    go_upto_region 24 with fail
    refine wp_region_noPanic ?_
    refine wp_region_held_drew (S:=(fun w':World=>w'.cell? ⟨g,0,none⟩=some (.bool false)∧w'.cell? ⟨g,1,none⟩=some (.slice a ps.length c)∧w'.cell? ⟨w.heap.size,1,none⟩=some (.string x.key)∧w'.cell? ⟨w.heap.size,2,none⟩=some (.string x.value))) (by kernel_rfl) (by (try dsimp only);exact HS.out _ (HF4.out _ (au zR)).1 (HF4.out _ (au zR)).2) fun hHeld => ?_
    refine tk 0 ?_
    refine tk 1 ?_
    refine tk 2 ?_
    refine tk 3 ?_
    refine tk 4 ?_
    refine tr 5 fun K hK => ?_
    go_simp
    go_wp2_with fail
    refine hK.out _ _ (by (try dsimp only);exact HS.out _ (iu (w:=w4.drew) (HF4.out _ zR).1 HLT.out.2.2.1 _ _) (iu (w:=w4.drew) (HF4.out _ zR).2 HLT.out.2.2.2.1 _ _)) fun hHeld => ?_
    clear hK K
    try simp only [Act.put,zS,zT,zU]
    refine wpAnyH_done (by kernel_rfl) ?_ _
    refine NoPanic.normal ?_
    have e:=jM (jU (aa HE.out.1 HB.out.2.2.1) (.bool false) (.slice a ps.length c))
    unfold lJ at e
    obtain ⟨d0,d1,df⟩:=e
    go_wp2
    refine bodyPost_ret (v:=.tuple #[.int .i64 2303,.agg #[.bool false,.slice a ps.length c]]) (by simp [results,results36,go_sem,d0,d1]) rfl ?_
    refine ⟨a,c,?_,?_,?_,by rw [HW.out];exact HSF.out.1⟩
    ·
     rw [HW.out]
    ·
     rw [HW.out];exact HSL.out.1.aj (au (dC (w:=w4) HEB.out HLT.out.2.1 _ _))
    ·
     exact au (dC (w:=w4) HEB.out HLT.out.2.1 _ _)
   | true =>
    have HW:=zH (HWX.out.trans (if_neg (by rw [hf];decide)))
    have h7' : ¬ (7:Int)<((fu x.key ps).length:Int):=by omega
    clear y0 y1 y2 y3 y4 y5 y6 y7 y8 yf
    obtain ⟨z0,z1,zf⟩:=jM HE.out.2.1
    obtain ⟨y0,y1,y2,y3,y4,y5,y6,y7,y8,yf⟩:=Da (HF4.out _ zR).2
    obtain ⟨r0,r1,rf⟩:=jM (aa HE.out.1 HB.out.2.2.1)
    clear y1 y2 y3 y4 y5 y6 y7 yf
    go_wp2
    go_loopg [10] x.reads.length (fun n i wr => ∃ j:Nat,n=x.reads.length - j∧i=.int .i64 j∧j≤x.reads.length∧w4=wr)
    case atStart=>exact ⟨0,rfl,rfl,Nat.zero_le _,rfl⟩
    case round =>
     obtain ⟨j,hgn,rfl,hj,rfl⟩:=hrel
     have HG:=zH hgn
     clear hgn
     by_cases hlt:j<x.reads.length
     ·
      have hlt':(j:Int)<(x.reads.length:Int):=by omega
      obtain ⟨rb,ro,hra,hrc⟩:=HRI.out j hlt
      subst hra
      have hv:=HSL.out.2.2.1 j hlt
      rw [show x.reads.getD j 0=x.reads[j] from by simp [List.getD,hlt]] at hrc
      generalize x.reads[j]=rv at *
      have hrv : ¬ (2048:Int)≤rv:=by omega
      clear z0 z1 zf r0 r1 rf hv
      go_wp2
      go_roundg (x.reads.length - (j+1))
      case measure=>have:=HG.out;omega
      case rel=>exact ⟨j+1,rfl,by go_num,by omega,rfl⟩
     ·
      have hlt' : ¬ (j:Int)<(x.reads.length:Int):=by omega
      clear hlt
      go_upto_region 36 with fail
      refine wp_region_noPanic ?_
      refine wp_region_held_drew (S:=(fun w':World=>w'.cell? ⟨b2,0,none⟩=some (.bool false)∧w'.cell? ⟨b2,1,none⟩=some (.slice a9 (fu x.key ps).length c9))) (by kernel_rfl) (by (try dsimp only);exact ⟨cell_of HE.out.2.1 0,cell_of HE.out.2.1 1⟩) fun hHeld => ?_
      refine tk 0 ?_
      refine tk 1 ?_
      refine tr 2 fun K hK => ?_
      go_simp
      go_wp2_with fail
      refine hK.out _ _ (by (try dsimp only);exact ⟨cell_of (iu (w:=w4.drew) HE.out.2.1 HE.out.2.2.2 _ _) 0,cell_of (iu (w:=w4.drew) HE.out.2.1 HE.out.2.2.2 _ _) 1⟩) fun hHeld => ?_
      clear hK K
      try simp only [Act.put,zS,zT,zU]
      refine wpAnyH_done (by kernel_rfl) ?_ _
      refine NoPanic.normal ?_
      have e:=jM (jU (aa HE.out.1 HB.out.2.2.1) (.bool false) (.slice a9 (fu x.key ps).length c9))
      unfold lJ at e
      obtain ⟨d0,d1,df⟩:=e
      go_wp2
      refine bodyPost_ret (v:=.tuple #[.int .i64 0,.agg #[.bool false,.slice a9 (fu x.key ps).length c9]]) (by simp [results,results36,go_sem,d0,d1]) rfl ?_
      refine ⟨a9,c9,?_,?_,?_,zD HE.out.2.2.1 HSF.out.2⟩
      ·
       rw [HW.out]
      ·
       rw [HW.out];exact aT.dd (World.ownsRow.aj (kc (w:=w4) HE.out.2.2.1 (cP (w:=w4) HE.out.2.2.1 (aa HE.out.1 HB.out.2.2.1) (by decide)) _ _) (au zR))
      ·
       exact au (dC (w:=w4) HEB.out HLT.out.2.1 _ _)
end
end Go.Proofs.YtcfdenckiigdaaaGreat

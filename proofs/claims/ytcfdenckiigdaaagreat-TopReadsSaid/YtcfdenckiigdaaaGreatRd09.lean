/- Part 9 of the contracts. -/
import Derived.Test.YtcfdenckiigdaaaGreatRd08
set_option linter.unusedVariables false
set_option maxRecDepth 100000
set_option maxHeartbeats 4000000
namespace Go.Proofs.YtcfdenckiigdaaaGreat
open Tryz Go.RowKit
section
open Go.RowKit
variable {X:Nat→Prop}
theorem oG (p n:Int) (w:World) (h0:0≤n) (h1:n≤512) (h2:0≤p) (h3:p≤4096 - n):Calls prog 165 #[.int .i64 p,.int .i64 n] w fun e w'=>e=.returned (.bool true)∧w=w':=by
 go_enter func165,ntmps165
 go_wp2
 go_ret
 exact ⟨by simp_all,rfl⟩
theorem Ke (p n:Int) (h0:0≤n) (h1:n≤512) (h2:0≤p) (h3:p<4096):gX 107 p [] n :=
 ⟨by decide,h2,h3,fun e=>absurd e (by decide),by decide,by decide,h0,h1,by unfold ku;rfl⟩
def aG.cR (m:aG) (p n:Int):aG×ByteArray×Int:=if (m.run 107 p [] n).2.2=0 then ((m.run 107 p [] n).1,eH (m.run 107 p [] n).2.1,0) else ((m.run 107 p [] n).1,ByteArray.empty,(m.run 107 p [] n).2.2)
def I4 (X:Nat→Prop) (s:ByteArray) (er:Int) (k c:Nat) (m:aG) (G:Nat→Prop) (w:World) (e:Ending) (w':World):Prop:=e=.returned (.tuple #[.string s,.int .i64 er]) ∧ ∃ G',bO X w' k c m G'∧Step G G' w w'
theorem zu {m:aG} (ok:m.Ok) (p n:Int) (h0:0≤n) (h1:n≤512) (h2:0≤p) (h3:p<4096):(m.cR p n).1.Ok:=by
 have:=eu ok 107 p [] n (Ke p n h0 h1 h2 h3)
 unfold aG.cR
 split <;> exact this
theorem Cd (k c:Nat) (m:aG) (G:Nat→Prop) (p:Int) (n:Nat) (w:World) (h:bO X w k c m G) (ok:m.Ok) (h0:1≤n) (h1:n≤512) (h2:0≤p) (h3:p≤4096 - n):Calls prog 124 #[.pointer (some ⟨k,0,none⟩),.int .i64 p,.int .i64 n] w (I4 X (m.cR p n).2.1 (m.cR p n).2.2 k c (m.cR p n).1 G w):=by
 have HM:=zH (fun w=>oG p n w (by omega) (by omega) h2 h3)
 have HR:=zH (fj k c m G 107 p none [] 0 n w h ok (Ke p n (by omega) (by omega) h2 (by omega)) (nA w G) (fun _=>rfl) (by simp))
 have HL:=zH (fun h=>nH (m:=m) (b:=107) (at_:=p) (xs:=[]) (read:=n) (by omega) h)
 have HE:=zH (lS m 107 p [] n)
 have HB:=zH (show m.cR p n=if (m.run 107 p [] n).2.2=0 then ((m.run 107 p [] n).1,eH (m.run 107 p [] n).2.1,0) else ((m.run 107 p [] n).1,ByteArray.empty,(m.run 107 p [] n).2.2) from rfl)
 have hn0:((n:Int) == 0)=false:=zQ (by omega)
 clear h ok
 generalize m.cR p n=br at *
 generalize m.run 107 p [] n=r at *
 obtain ⟨m',xs,er⟩:=r
 simp only at HR HL HE HB
 simp only [List.length_nil] at HR
 rcases HE.out with he | ⟨he,hx⟩
 ·
  subst he
  have hl:xs.length=n:=by simpa using HL.out (by trivial)
  have hl2:xs.length≤512:=by omega
  have HLEN:=zH hl
  clear hl
  go_enter func124,ntmps124
  go_wp2_with fail
  refine (HM.out _).mono ?_
  rintro e w ⟨rfl,rfl⟩
  go_wp2_with fail
  refine HR.out.mono ?_
  rintro e w1 ⟨a,cp,G1,rfl,hc,hs,st⟩
  have hmk:=fun w=>run_make_row' (P:=prog) 29 5 (.int .u8 0) 1 underlying29 mF rfl .i64 .i64 xs.length (by omega) (by omega) w
  have H1:=zH (zA hc st)
  have H:=zH hs.1
  clear hc hs st
  go_wp2_with fail
  have hs:=fI.start (w:=w1) xs.length xs
  have HS:=zH hs
  generalize hW:w1.alloc (.cells (madeCells #[.int .u8 0] xs.length) 5)=w2 at *
  clear hmk hs hW
  go_loopw [39] (fun i wr => ∃ k:Nat,i=.int .i64 k∧k≤xs.length∧fI w1 wr w1.heap.size xs.length k xs) (fun i _=>xs.length - (intOf i).toNat)
  case atStart=>exact ⟨0,rfl,Nat.zero_le _,HS.out⟩
  case round =>
   obtain ⟨j,rfl,hk,hB⟩:=hrel
   by_cases hlt:j<xs.length
   ·
    obtain ⟨b,o,rfl,hc⟩:=(H.out.aj hB.below) j hlt
    obtain ⟨y,hy,_⟩:=hB.cell j hlt
    have hf:=hB.free j
    have hconv:=oB (xs.getD j 0)
    have HN:=zH (hB.next zY hlt)
    rw [hconv] at HN
    clear hB hconv
    generalize hx:xs.getD j 0=x at *
    clear hx
    go_wp2
    go_roundw
    case rel=>exact ⟨j+1,by go_num,by omega,HN.out⟩
    case measure=>simp [intOf];omega
   ·
    obtain rfl:j=xs.length:=by omega
    have hback:=hB.done
    have HBB:=zH hB.below
    clear hB
    go_wp2
    go_ret2
    rw [show br=(m',eH xs,0) from HB.out]
    exact ⟨rfl,G1,H1.out.1.aj HBB.out,H1.out.2.trans (Step.ah HBB.out)⟩
 ·
  subst he
  subst hx
  go_enter func124,ntmps124
  go_wp2_with fail
  refine (HM.out _).mono ?_
  rintro e w ⟨rfl,rfl⟩
  go_wp2_with fail
  refine HR.out.mono ?_
  rintro e w1 ⟨a,cp,G1,rfl,hc,hs,st⟩
  have H1:=zH (zA hc st)
  clear hc hs st
  go_wp2
  go_ret2
  rw [show br=(m',ByteArray.empty,1101) from HB.out]
  exact ⟨rfl,G1,H1.out⟩
end
section
open Go.RowKit
variable {X:Nat→Prop}
theorem C1 (p:Int) (w:World) (h0:0≤p) (h1:p≤4032) (hp:p % 32=0):Calls prog 170 #[.int .i64 p,.int .i64 64] w (AJ [32,32] w):=by
 have HM:=zH (fun w=>oG p 64 w (by omega) (by omega) h0 (by omega))
 obtain ⟨i0,hi,hz0,hz1,hz2⟩:=info_parts iq
 have hp2:(p+32) % 32=0:=by omega
 have m1:min (64:Int) 32=32:=by decide
 have m2:min (32:Int) 32=32:=by decide
 go_enter func170,ntmps170
 go_wp2_with fail
 refine (HM.out _).mono ?_
 rintro e w ⟨rfl,rfl⟩
 go_wp2_with fail
 refine wp_loop_rounds 3 ?_
 rw [rounds_succ]
 go_wp2_with (at_builtin;refine wpList_append_lies _ rfl (.tmp 19) (.tmp 21) 22 (by rfl) w.heap.size 3 i0 (.int .i64 0) 1 8 underlying22 hi hz0 hz1 hz2 rfl (by decide) (.slice none 0 0) 0 [] (by rfl) zN ⟨w.heap.size,0,none⟩ 1 1 [.int .i64 32] (by rfl) rfl ?nw1 ?on1 (by decide) ?z1 (by decide) ?bs1 (w.heap.size+1) ?sz1 ?_)
 case nw1=>exact World.news_of_block (cs := #[.int .i64 32]) (t:=3) (fr:=(0,0)) (af w _)
 case on1=>simp [Value.oneCell']
 case z1=>unfold maxLen;decide
 case bs1=>simp
 case sz1=>simp
 intro g cap w1 hown1 hgrow1 hat1 hlt1
 have hb1:Below w.heap.size w w1:=dO (ae zR _) hgrow1 (fun k hk=>by cases hk)
 have HO1:=zH (zA hown1 hb1)
 have hsz:=hb1.size
 clear hown1 hgrow1 hat1 hlt1 hb1
 go_wp2_with fail
 rw [rounds_succ]
 go_wp2_with (at_builtin;refine wpList_append_lies _ rfl (.tmp 19) (.tmp 21) 22 (by rfl) w.heap.size 3 i0 (.int .i64 0) 1 8 underlying22 hi hz0 hz1 hz2 rfl (by decide) (.slice (some ⟨g,0,none⟩) 1 cap) 1 [.int .i64 32] (by rfl) (World.ownsRow.aj HO1.out.1 (ae zR _)) ⟨w1.heap.size,0,none⟩ 1 1 [.int .i64 32] (by rfl) rfl ?nw2 ?on2 (by decide) ?z2 (by decide) ?bs2 (w1.heap.size+1) ?sz2 ?_)
 case nw2=>exact World.news_of_block (cs := #[.int .i64 32]) (t:=3) (fr:=(0,0)) (af w1 _)
 case on2=>simp [Value.oneCell']
 case z2=>unfold maxLen;decide
 case bs2=>simp;omega
 case sz2=>simp
 intro g2 cap2 w2 hown2 hgrow2 hat2 hlt2
 have hb2:Below w.heap.size w w2:=dO (gtr HO1.out.2 (ae zR _)) hgrow2 (gV HO1.out.1)
 have HO2:=zH (zA (bw.cZ (xs:=[32,32]) hown2) hb2)
 clear hown2 hgrow2 hat2 hlt2 hb2 hsz
 go_wp2_with fail
 rw [rounds_succ]
 go_wp2
 go_ret2
 exact ⟨_,_,rfl,HO2.out.1,HO2.out.2⟩
def eE (s:ByteArray):List Int:=(List.range s.size).map fun j=>((bt s j).toNat:Int)
theorem lh (s:ByteArray):(eE s).length=s.size:=by simp [eE]
theorem CA (s:ByteArray) (k:Nat) (h:k<s.size):(eE s).take (k+1)=(eE s).take k++[((bt s k).toNat:Int)]:=by
 rw [List.take_succ_eq_append_getElem (by rw [lh];exact h)]
 simp [eE]
theorem nv (s:ByteArray):(eE s).all isByte=true:=by
 rw [List.all_eq_true]
 intro x hx
 obtain ⟨j,_,rfl⟩:=List.mem_map.1 hx
 have:=(bt s j).toNat_lt
 simp [isByte];omega
theorem Bi:gX 6 0 [] 0:=⟨by decide,by decide,by decide,fun _=>rfl,by decide,by decide,by decide,by decide,by decide⟩
theorem MI (p:Int) (xs:List Int) (h0:0≤p) (h1:p<4096) (hl:xs.length≤512) (hb:xs.all isByte=true):gX 2 p xs 0 :=
 ⟨by decide,h0,h1,fun e=>absurd e (by decide),hl,hb,by decide,by decide,by unfold ku;rfl⟩
def aG.hU (m:aG) (p:Int) (s:ByteArray):aG×Int :=
 if (m.run 6 0 [] 0).2.2≠0 then ((m.run 6 0 [] 0).1,(m.run 6 0 [] 0).2.2)
 else if ((m.run 6 0 [] 0).1.run 2 p (eE s) 0).2.2≠0 then (((m.run 6 0 [] 0).1.run 2 p (eE s) 0).1,((m.run 6 0 [] 0).1.run 2 p (eE s) 0).2.2)
 else ((aG.gR 256 1 ((m.run 6 0 [] 0).1.run 2 p (eE s) 0).1).1,(aG.gR 256 1 ((m.run 6 0 [] 0).1.run 2 p (eE s) 0).1).2.2)
theorem xv {m:aG} (ok:m.Ok) (p:Int) (s:ByteArray) (h0:0≤p) (h1:p<4096) (hs:s.size≤512):(m.hU p s).1.Ok:=by
 have o1:=eu ok 6 0 [] 0 Bi
 have o2:=eu o1 2 p (eE s) 0 (MI p _ h0 h1 (by rw [lh];exact hs) (nv s))
 unfold aG.hU
 split
 ·
  exact o1
 ·
  split
  ·
   exact o2
  ·
   exact DH _ _ _ o2
theorem uC (k c:Nat) (m:aG) (G:Nat→Prop) (p:Int) (s:ByteArray) (w:World) (h:bO X w k c m G) (ok:m.Ok) (h0:0≤p) (h1:p<4096) (hs:s.size=32):Calls prog 171 #[.pointer (some ⟨k,0,none⟩),.int .i64 p,.string s] w (mQ X (m.hU p s).2 k c (m.hU p s).1 G w):=by
 have hconv:=run_bytes_of_string (P:=prog) w 9 29 5 s underlying9 underlying29 underlying5
 have hrow:=fun j (hj:j<s.data.size)=>bytesRow_at s (grownCap w s.size 0 5) j hj
 generalize bytesRow s (grownCap w s.size 0 5)=C at *
 generalize grownCap w s.size 0 5=cap at *
 rw [hs] at hconv
 have HR:=zH hrow
 have hil:=lh s
 rw [hs] at hil
 have HIL:=zH hil
 have HST:=zH (fun k hk=>CA s k hk)
 have HBY:=zH (nv s)
 have HS:=zH hs
 have H0:=zH (zA h ok)
 have HP:=zH (show m.hU p s=if (m.run 6 0 [] 0).2.2≠0 then ((m.run 6 0 [] 0).1,(m.run 6 0 [] 0).2.2) else if ((m.run 6 0 [] 0).1.run 2 p (eE s) 0).2.2≠0 then (((m.run 6 0 [] 0).1.run 2 p (eE s) 0).1,((m.run 6 0 [] 0).1.run 2 p (eE s) 0).2.2) else ((aG.gR 256 1 ((m.run 6 0 [] 0).1.run 2 p (eE s) 0).1).1,(aG.gR 256 1 ((m.run 6 0 [] 0).1.run 2 p (eE s) 0).1).2.2) from rfl)
 obtain ⟨i0,hi,hz0,hz1,hz2⟩:=info_parts iq
 clear hrow hil hs h ok
 generalize m.hU p s=pr at *
 generalize eE s=xs at *
 go_enter func171,ntmps171
 go_wp2_with fail
 generalize hW:(w.alloc _).drew=w2
 have hb2:Below w.heap.size w w2:=by rw [← hW];exact au (ae zR _)
 have hc2 : ∀ j,j<32→w2.cell? ⟨w.heap.size,j,none⟩=some (.int .u8 ((bt s j).toNat:Int)):=fun j hj=>by
  rw [← hW]
  have hj':j<s.data.size:=by have:s.data.size=32:=HS.out;omega
  exact (World.cell?_alloc_mark w C 5 _ j).trans ((HR.out j hj').trans (by rw [pF s j hj']))
 have hwl:w.heap.size<w2.heap.size:=by rw [← hW];simp
 have HC2:=zH (zA hc2 (zA hb2 hwl))
 clear hW hconv hc2 hb2 hwl
 go_loopw [7,19] (fun v i wr => ∃ j:Nat,j≤32∧i=.int .i64 j∧wr.ownsRow w2.heap.size 3 1 v j (aB (xs.take j))∧Below w2.heap.size w2 wr) (fun _ i _=>32 - (intOf i).toNat)
 case atStart=>exact ⟨0,Nat.zero_le _,rfl,zN,Below.refl _ _⟩
 case round =>
  obtain ⟨j,hj,rfl,hown,hb⟩:=hrel
  by_cases hlt:j<32
  ·
   have hcell:=(hb.cell (p:=⟨w.heap.size,j,none⟩) HC2.out.2.2).trans (HC2.out.1 j hlt)
   have HT:=zH (HST.out j (by rw [HS.out];exact hlt))
   have hlt256:=(bt s j).toNat_lt
   have HO:=zH hown
   have HB:=zH hb
   obtain ⟨x,hx⟩ : ∃ x:Int,((bt s j).toNat:Int)=x:=⟨_,rfl⟩
   rw [hx] at hcell HT
   have x0:0≤x:=by omega
   have x1:x<256:=by omega
   have hlj:(j:Int)<32:=by omega
   have hz63:j+1≤maxLen:=by unfold maxLen;omega
   have hz47:(j+1) * 8≤140737488355328:=by omega
   have hsz:=hb.size
   clear hown hb hx hlt256
   go_wp2_with (at_builtin;refine wpList_append_lies _ rfl (.tmp 23) (.tmp 26) 22 (by rfl) w2.heap.size 3 i0 (.int .i64 0) 1 8 underlying22 hi hz0 hz1 hz2 rfl (by decide) _ j _ (by rfl) (World.ownsRow.aj HO.out (ae zR _)) ⟨wr.heap.size,0,none⟩ 1 1 [.int .i64 x] (by rfl) rfl ?nw ?on (by decide) hz63 hz47 ?bs (wr.heap.size+1) ?sz ?_)
   case nw=>exact World.news_of_block (cs := #[.int .i64 x]) (t:=3) (fr:=(0,0)) (af wr _)
   case on=>simp [Value.oneCell']
   case bs=>simp;omega
   case sz=>simp
   intro g cp w3 hown3 hgrow hat hlt3
   have hb3:Below w2.heap.size w2 w3:=dO (gtr HB.out (ae zR _)) hgrow (gV HO.out)
   have hown4:w3.ownsRow w2.heap.size 3 1 (.slice (some ⟨g,0,none⟩) (j+1) cp) (j+1) (aB (xs.take (j+1))):=by rw [HT.out];simpa [aB] using hown3
   have HX:=zH (zA hown4 hb3)
   clear hown3 hgrow hat hlt3 hb3 hown4 hsz
   go_wp2
   go_roundw
   case rel=>exact ⟨j+1,by omega,by go_num,HX.out.1,HX.out.2⟩
   case measure=>simp [intOf];omega
  ·
   obtain rfl:j=32:=by omega
   have e:xs.take 32=xs:=List.take_of_length_le (by rw [HIL.out];decide)
   rw [e] at hown
   obtain ⟨a,cp,hv,q⟩:=bw.cZ (show wr.ownsRow w2.heap.size 3 1 _ xs.length (aB xs) by rw [HIL.out];exact hown)
   have hcp:xs.length≤cp:=by
    rcases hown.2 with ⟨_,e2⟩ | ⟨g,cap',cur,e2,_,_,e4,_⟩
    ·
     omega
    ·
     rw [hv] at e2
     obtain ⟨_,_,rfl⟩:a=some ⟨g,0,none⟩∧xs.length=32∧cp=cap':=by simpa using e2
     rw [HIL.out];exact e4
   subst hv
   have hbw:=gtr HC2.out.2.1 hb
   have hsafe:aL wr a xs G:=bw.safe (c:=cp) ⟨a,cp,rfl,q⟩ G (fun b hb'=>zV (H0.out.1.lt b hb') HC2.out.2.1.size)
   have hcap0:a=none→cp=0:=fun e2=>by
    obtain ⟨b,o,e3,_⟩:=hsafe.1 0 (by rw [HIL.out];decide)
    rw [e2] at e3;cases e3
   have HA:=zH (zA (H0.out.1.aj hbw) (zA hsafe (zA hcap0 (zA hcp (Step.ah (F:=G) hbw)))))
   have HR1:=zH (fj k c m G 6 0 none [] 0 0 wr HA.out.1 H0.out.2 Bi (nA _ G) (fun _=>rfl) (by simp))
   have HE1:=zH (lS m 6 0 [] 0)
   have HO1:=zH (eu H0.out.2 6 0 [] 0 Bi)
   rw [HIL.out]
   clear hown hb q hcp hbw hsafe hcap0 e HC2
   generalize m.run 6 0 [] 0=r1 at *
   obtain ⟨m1,x1,e1⟩:=r1
   simp only at HR1 HE1 HO1 HP
   simp only [List.length_nil] at HR1
   rcases HE1.out with he | ⟨he,hx⟩
   ·
    subst he
    go_wp2_with fail
    refine HR1.out.mono ?_
    rintro e w4 ⟨a4,cp4,G4,rfl,hc4,_,st4⟩
    have HR2:=zH (fj k c m1 G4 2 p a xs cp 0 w4 hc4 HO1.out (MI p xs h0 h1 (by rw [HIL.out];decide) HBY.out) (HA.out.2.1.step st4) HA.out.2.2.1 HA.out.2.2.2.1)
    rw [HIL.out] at HR2
    have HE2:=zH (lS m1 2 p xs 0)
    have HO2:=zH (eu HO1.out 2 p xs 0 (MI p xs h0 h1 (by rw [HIL.out];decide) HBY.out))
    have ST4:=zH (HA.out.2.2.2.2.trans st4)
    clear hc4 st4
    generalize m1.run 2 p xs 0=r2 at *
    obtain ⟨m2,x2,e2⟩:=r2
    simp only at HR2 HE2 HO2 HP
    rcases HE2.out with he | ⟨he,hx⟩
    ·
     subst he
     go_wp2_with fail
     refine HR2.out.mono ?_
     rintro e w5 ⟨a5,cp5,G5,rfl,hc5,_,st5⟩
     have HWt:=zH (Fo k c m2 G5 256 w5 hc5 HO2.out (by decide))
     have ST5:=zH (ST4.out.trans st5)
     clear hc5 st5
     generalize aG.gR 256 1 m2=r3 at *
     obtain ⟨m3,n3,e3⟩:=r3
     simp only at HWt HP
     go_wp2_with fail
     refine HWt.out.mono ?_
     rintro e w6 ⟨rfl,G6,hc6,st6⟩
     have H6:=zH (zA hc6 (ST5.out.trans st6))
     clear hc6 st6
     go_wp2
     go_ret
     rw [show pr=(m3,e3) from HP.out]
     exact ⟨rfl,G6,H6.out⟩
    ·
     subst he
     subst hx
     go_wp2_with fail
     refine HR2.out.mono ?_
     rintro e w5 ⟨a5,cp5,G5,rfl,hc5,_,st5⟩
     have H6:=zH (zA hc5 (ST4.out.trans st5))
     clear hc5 st5
     go_wp2
     go_ret
     rw [show pr=(m2,1101) from HP.out]
     exact ⟨rfl,G5,H6.out⟩
   ·
    subst he
    subst hx
    go_wp2_with fail
    refine HR1.out.mono ?_
    rintro e w4 ⟨a4,cp4,G4,rfl,hc4,_,st4⟩
    have H6:=zH (zA hc4 (HA.out.2.2.2.2.trans st4))
    clear hc4 st4
    go_wp2
    go_ret
    rw [show pr=(m1,1101) from HP.out]
    exact ⟨rfl,G4,H6.out⟩
end
section
open Go.RowKit
variable {X:Nat→Prop}
theorem IH {s:ByteArray} (h:0<s.size):s.toList.isEmpty=false:=by
 rw [Go.ByteArray.toList_eq]
 have h2:0<s.data.size:=h
 cases hd:s.data.toList with
 | nil =>
  have:=congrArg List.length hd
  rw [Array.length_toList] at this
  simp at this;simp [this] at h2
 | cons=>rfl
def aG.dY (m:aG) (p:Int) (s:ByteArray):aG×Int :=
 if (m.hU p (s.extract 0 32)).2≠0 then m.hU p (s.extract 0 32) else (m.hU p (s.extract 0 32)).1.hU (p+32) (s.extract 32 64)
theorem wj {m:aG} (ok:m.Ok) (p:Int) (s:ByteArray) (h0:0≤p) (h1:p≤4032) (hs:s.size=64):(m.dY p s).1.Ok:=by
 have o1:=xv ok p (s.extract 0 32) h0 (by omega) (by simp;omega)
 unfold aG.dY
 split
 ·
  exact o1
 ·
  exact xv o1 (p+32) (s.extract 32 64) (by omega) (by omega) (by simp;omega)
theorem rq (s:ByteArray) (hs:s.size=64):(s.extract 32 64).extract 0 32=s.extract 32 64:=by
 refine fF (by simp [hs]) fun i hi => ?_
 have hi':i<32:=by simpa [hs] using hi
 simp [bt,hi',hs]
theorem D4 (k c:Nat) (m:aG) (G:Nat→Prop) (p:Int) (s:ByteArray) (w:World) (h:bO X w k c m G) (ok:m.Ok) (h0:2048≤p) (h1:p≤4032) (hp:p % 32=0) (hs:s.size=64):Calls prog 132 #[.pointer (some ⟨k,0,none⟩),.int .i64 p,.string s] w (mQ X (m.dY p s).2 k c (m.dY p s).1 G w):=by
 have HPG:=zH (fun w=>C1 p w (by omega) h1 hp)
 have HIM:=zH (fun w=>im p w)
 have him:(decide (0≤p)&&decide (p<2048))=false:=by rw [decide_eq_false (show ¬ p<2048 by omega)];simp
 rw [him] at HIM
 have hne:s.toList.isEmpty=false:=IH (by omega)
 have hs1:(s.extract 0 32).size=32:=by simp;omega
 have hs2:(s.extract 32 64).size=32:=by simp;omega
 have H0:=zH (zA h (zA ok (zA hs1 hs2)))
 have HB:=zH (show m.dY p s=if (m.hU p (s.extract 0 32)).2≠0 then m.hU p (s.extract 0 32) else (m.hU p (s.extract 0 32)).1.hU (p+32) (s.extract 32 64) from rfl)
 have HEX:=zH (rq s hs)
 have HSZ:=zH hs
 clear h ok him hs1 hs2
 generalize m.dY p s=br at *
 go_enter func132,ntmps132
 go_wp2_with fail
 refine (HPG.out _).mono ?_
 rintro e w1 ⟨a,cp,rfl,hN,hb1⟩
 have hsf:=hN.safe G H0.out.1.lt
 obtain ⟨b,o,rfl,hc0⟩:=hsf.1 0 (by simp)
 obtain ⟨b',o',e',hc1⟩:=hsf.1 1 (by simp)
 obtain ⟨rfl,rfl⟩:b=b'∧o=o':=by simpa using e'
 rw [Nat.add_zero] at hc0
 have hc0:w1.cell? ⟨b,o,none⟩=some (.int .i64 32):=hc0
 have hc1:w1.cell? ⟨b,o+1,none⟩=some (.int .i64 32):=hc1
 have HS:=zH (zA hsf (zA (H0.out.1.aj hb1) (Step.ah (F:=G) hb1)))
 have H1:=zH (uC k c m G p (s.extract 0 32) w1 HS.out.2.1 H0.out.2.1 (by omega) (by omega) H0.out.2.2.1)
 have HO1:=zH (xv H0.out.2.1 p (s.extract 0 32) (by omega) (by omega) (by rw [H0.out.2.2.1];decide))
 simp only [List.length_cons,List.length_nil]
 have hz2:(32:Int)≤(s.size:Int):=by rw [hs];decide
 have i0:(0:Int)<2:=by decide
 have i1:(1:Int)<2:=by decide
 clear hsf hN hb1 e'
 generalize m.hU p (s.extract 0 32)=r1 at *
 obtain ⟨m1,e1⟩:=r1
 simp only at H1 HO1 HB
 go_wp2_with fail
 refine (HIM.out _).mono ?_
 rintro e wq ⟨rfl,rfl⟩
 go_wp2_with fail
 refine wp_loop_rounds 3 ?_
 rw [rounds_succ]
 go_wp2_with fail
 refine H1.out.mono ?_
 rintro e w2 ⟨rfl,G2,hc2,st2⟩
 have hsf2:=HS.out.1.step st2
 by_cases he:e1=0
 ·
  subst he
  have hd0:w2.cell? ⟨b,o+1,none⟩=some (.int .i64 32):=st2.aH.cell _ _ hc1 (HS.out.1.2 b o rfl (by simp))
  have H2:=zH (uC k c m1 G2 (p+32) (s.extract 32 64) w2 hc2 HO1.out (by omega) (by omega) H0.out.2.2.2)
  have ST2:=zH (HS.out.2.2.trans st2)
  rw [show (if (0:Int)≠0 then (m1,(0:Int)) else m1.hU (p+32) (s.extract 32 64))=m1.hU (p+32) (s.extract 32 64) from rfl] at HB
  clear hc2 st2 hsf2 hc0 hc1
  generalize m1.hU (p+32) (s.extract 32 64)=r2 at *
  obtain ⟨m2,e2⟩:=r2
  simp only at H2 HB
  have hex:=HEX.out
  go_wp2_with fail
  rw [rounds_succ]
  go_wp2_with fail
  refine H2.out.mono ?_
  rintro e w3 ⟨rfl,G3,hc3,st3⟩
  have H3:=zH (zA hc3 (ST2.out.trans st3))
  clear hc3 st3
  by_cases he2:e2=0
  ·
   subst he2
   have hz3:(32:Int)≤((s.extract 32 64).size:Int):=by rw [H0.out.2.2.2];decide
   go_wp2_with fail
   rw [rounds_succ]
   go_wp2
   go_ret
   rw [show br=(m2,0) from HB.out]
   exact ⟨rfl,G3,H3.out⟩
  ·
   have hne2:(e2 != 0)=true:=bne_iff_ne.2 he2
   clear he2
   go_wp2
   go_ret
   rw [show br=(m2,e2) from HB.out]
   exact ⟨rfl,G3,H3.out⟩
 ·
  have hne2:(e1 != 0)=true:=bne_iff_ne.2 he
  have HBR:=zH (show br=(m1,e1) by rw [HB.out,if_pos he])
  have H3:=zH (zA hc2 (HS.out.2.2.trans st2))
  clear he hc2 st2 hsf2
  go_wp2
  go_ret
  rw [HBR.out]
  exact ⟨rfl,G2,H3.out⟩
end
section
open Go.RowKit
variable {X:Nat→Prop}
structure Mq (w:World) (b:Nat):Prop where
 ptr : ∃ p,w.cell? ⟨b,0,none⟩=some (.pointer p)
 ints : ∀ o,¬ ∀ j,j<4 → ∃ x,w.cell? ⟨b,o+j,none⟩=some (.int .i64 x)
theorem bO.fA {w w':World} {k c:Nat} {m:aG} {F G:Nat→Prop} (h:bO X w k c m G) (t:Touch F w w') (d : ∀ b,F b → ¬ G b) (hh:0<m.ar.busy.length → ¬ F m.ar.home) (odd : ∀ b,F b→b<w.heap.size→Mq w b∨X b):bO X w' k c m G:=by
 obtain ⟨s,f,e,h⟩:=h
 have hlt:k<w.heap.size:=h.lt k h.own
 refine ⟨s,f,e,⟨?_,h.aD,h.left,h.lost,h.ar.fA t (fun b hb hf=>d b hf (h.sub b hb)) hh,?_,h.fA,h.sub,h.own,h.home,fun b hb=>zV (h.lt b hb) t.size⟩⟩
 ·
  exact (t.block k hlt (fun hf=>d k hf h.own)).trans h.raw
 ·
  refine ⟨fun i hi=>zV (h.leave.1 i hi) t.size,?_⟩
  rcases h.leave.2 with hl | ⟨h0,h1,h2,b,e,hp⟩
  ·
   exact .inl hl
  ·
   refine .inr ⟨h0,h1,h2,b,e,?_⟩
   obtain ⟨a,cc,hc,hn⟩:=hp.ph 0 (by simp)
   have hc:qn w b 0 bX a cc:=hc
   have hn : ∀ b' o',a=some ⟨b',o',Option.none⟩→0<bX.bytes.length → ¬ (G b'∨X b'):=hn
   have hbl:b<w.heap.size:=zL w _ hc.c0
   have nb : ¬ F b:=fun hf=>by
    rcases odd b hf hbl with ho | hx
    ·
     obtain ⟨p,hp'⟩:=ho.ptr
     rw [hc.c0] at hp';cases hp'
    ·
     exact hp.fA (by simp) (.inr hx)
   have ni : ∀ b' o',a=some ⟨b',o',Option.none⟩→0<bX.bytes.length → ¬ F b':=fun b' o' ea _ hf=>by
    obtain ⟨b2,o2,g1,g2⟩:=hc.ints.at (by decide)
    rw [ea] at g1
    obtain ⟨rfl,rfl⟩:b'=b2∧o'=o2:=by simpa using g1
    rcases odd b' hf (zL w _ (g2 0 (by decide))) with ho | hx
    ·
     exact ho.ints o' fun j hj=>⟨_,g2 j hj⟩
    ·
     exact hn b' o' ea (by decide) (.inr hx)
   refine ⟨hp.fA,fun i hi => ?_⟩
   have hi:i<1:=hi
   obtain rfl:i=0:=by omega
   exact ⟨a,cc,⟨t.cell _ _ hc.c0 nb,t.cell _ _ hc.c1 nb,t.cell _ _ hc.c2 nb,t.cell _ _ hc.c3 nb,dr hc.ints t (fun b o e hl=>ni b o e hl)⟩,hn⟩
theorem bO.Gt {w:World} {k c:Nat} {m:aG} {G:Nat→Prop} (h:bO X w k c m G) : ∀ i,X i→i<w.heap.size:=by
 obtain ⟨s,f,e,h⟩:=h
 exact h.leave.1
def bH (m m':aG):Prop:=m'.ar.home=m.ar.home∧m'.ar.busy.length≤m.ar.busy.length
theorem bH.refl (m:aG):bH m m:=⟨rfl,Nat.le_refl _⟩
theorem bH.trans {a b c:aG} (h:bH a b) (k:bH b c):bH a c:=⟨k.1.trans h.1,Nat.le_trans k.2 h.2⟩
theorem tZ (m:aG) (ps:List Ph):bH m (m.cL ps):=by
 obtain ⟨h1,h2⟩:=uc m.ar ps m.left
 refine ⟨h1,?_⟩
 show (cg (ig m.ar ps m.left)).busy.length≤_
 rcases h2 with e | e <;> rw [e] <;> simp
theorem s8 (m:aG) (b:Int) (xs:List Int) (ps:List Ph):bH m (m.fin b xs ps).1:=by
 have h:=tZ m ps
 unfold aG.fin
 split
 ·
  exact ⟨h.1,h.2⟩
 ·
  exact h
theorem cO (m:aG) (b at_:Int) (xs:List Int) (read:Int):bH m (m.run b at_ xs read).1:=by
 unfold aG.run
 split
 ·
  exact bH.refl m
 split
 ·
  exact s8 _ _ _ _
 split
 ·
  have h:=tZ m [bX]
  split
  ·
   exact bH.trans ⟨h.1,h.2⟩ (s8 _ _ _ _)
  ·
   exact h
 ·
  exact s8 _ _ _ _
def ks (k ab ac tb tc:Nat) (next:Int):Array Value := #[.pointer (some ⟨k,0,none⟩),.slice (some ⟨ab,0,none⟩) 2 ac,.slice (some ⟨tb,0,none⟩) 2 tc,.int .i64 next]
structure I6 (w:World) (b k ab ac tb tc:Nat) (q:Cache) (G:Nat→Prop):Prop where
 raw:w.heap[b]? = some (.cells (ks k ab ac tb tc q.next) 190 (0,0))
 cap:2≤ac∧2≤tc
 a0:w.cell? ⟨ab,0,none⟩=some (.int .i64 q.a0)
 a1:w.cell? ⟨ab,1,none⟩=some (.int .i64 q.a1)
 t0:w.cell? ⟨tb,0,none⟩=some (.string q.t0)
 t1:w.cell? ⟨tb,1,none⟩=some (.string q.t1)
 out : ¬ G b ∧ ¬ G ab ∧ ¬ G tb
 na:ab≠b
 nt:tb≠b
def my (w:World) (b k:Nat) (q:Cache) (G:Nat→Prop):Prop := ∃ ab ac tb tc,I6 w b k ab ac tb tc q G
theorem my.step {G G':Nat→Prop} {w w':World} {b k:Nat} {q:Cache} (h:my w b k q G) (st:Step G G' w w'):my w' b k q G':=by
 obtain ⟨ab,ac,tb,tc,h⟩:=h
 have hb:b<w.heap.size:=(Array.getElem?_eq_some_iff.1 h.raw).1
 exact ⟨ab,ac,tb,tc,(st.aH.block b hb h.out.1).trans h.raw,h.cap,st.aH.cell _ _ h.a0 h.out.2.1,st.aH.cell _ _ h.a1 h.out.2.1,st.aH.cell _ _ h.t0 h.out.2.2,st.aH.cell _ _ h.t1 h.out.2.2,⟨st.safe hb h.out.1,st.safe (zL w _ h.a0) h.out.2.1,st.safe (zL w _ h.t0) h.out.2.2⟩,h.na,h.nt⟩
theorem my.odd {w:World} {b k:Nat} {q:Cache} {G:Nat→Prop} (h:my w b k q G):Mq w b:=by
 obtain ⟨ab,ac,tb,tc,h⟩:=h
 refine ⟨⟨_,cell_of h.raw 0⟩,fun o hf => ?_⟩
 obtain ⟨x,hx⟩:=hf 0 (by omega)
 have hx':(ks k ab ac tb tc q.next)[o+0]? = some (.int .i64 x):=by
  unfold World.cell? at hx
  rw [h.raw] at hx
  simpa using hx
 have hlt:=(Array.getElem?_eq_some_iff.1 hx').1
 have hlt:o<4:=hlt
 match o,hlt with
 | 0,_=>rw [cell_of h.raw 0] at hx;cases hx
 | 1,_=>rw [cell_of h.raw 1] at hx;cases hx
 | 2,_=>rw [cell_of h.raw 2] at hx;cases hx
 | 3,_ =>
  obtain ⟨y,hy⟩:=hf 1 (by omega)
  have:w.cell? ⟨b,4,none⟩=none:=by
   unfold World.cell?
   rw [h.raw]
   rfl
  rw [this] at hy;cases hy
structure fh (X:Nat→Prop) (w:World) (k c b:Nat) (m:aG) (q:Cache) (H:Nat→Prop):Prop where
 ex : ∃ G,bO X w k c m G∧my w b k q (fun i=>G i∨X i)∧(∀ i,H i ↔ (G i∨i=b))∧(0<m.ar.busy.length→m.ar.home≠b)
theorem Step.both {G G' H H':Nat→Prop} {w w':World} {b:Nat} (st:Step G G' w w') (e : ∀ i,H i ↔ (G i∨i=b)) (e' : ∀ i,H' i ↔ (G' i∨i=b)):Step H H' w w' :=
 ⟨st.aH.mono fun i h=>(e i).2 (.inl h),fun i h=>by
  rcases (e' i).1 h with h | h
  ·
   exact (st.gP i h).imp (fun h=>(e i).2 (.inl h)) id
  ·
   exact .inl ((e i).2 (.inr h))⟩
theorem fh.wQ {w w':World} {k c b:Nat} {m m':aG} {q:Cache} {G G':Nat→Prop} (hw:my w b k q (fun i=>G i∨X i)) (hh:0<m.ar.busy.length→m.ar.home≠b) (hm:bH m m') (hc:bO X w' k c m' G') (st:Step G G' w w'):fh X w' k c b m' q (fun i=>G' i∨i=b):=⟨⟨G',hc,hw.step st.Jo,fun i=>Iff.rfl,fun hl=>by rw [hm.1];exact hh (zV hl hm.2)⟩⟩
end
section
open Go.RowKit
variable {X:Nat→Prop}
def DZ (k:Nat) (w:World) (e:Ending) (w':World):Prop := ∃ b,e=.returned (.tuple #[.pointer (some ⟨b,0,none⟩),.int .i64 0])∧w.heap.size≤b∧my w' b k Cache.new (fun i=>i<w.heap.size)∧Below w.heap.size w w'
theorem vq (k:Nat) (w:World):Calls prog 68 #[.pointer (some ⟨k,0,none⟩)] w (DZ k w):=by
 have HN:=zH (fun w=>qb w)
 go_enter func68,ntmps68
 go_wp2_with fail
 refine (HN.out _).mono ?_
 rintro e w1 ⟨v,rfl,⟨ab,ac,tb,tc,rfl,l1,l2,h1,h2,h3,h4,n1,n2⟩,hb⟩
 have HW:=zH (zA (zA l1 l2) (zA h1 (zA h2 (zA h3 (zA h4 (zA n1 (zA n2 hb)))))))
 clear l1 l2 h1 h2 h3 h4 n1 n2 hb
 go_wp2
 go_ret2
 obtain ⟨⟨l1,l2⟩,h1,h2,h3,h4,n1,n2,hb⟩:=HW.out
 have n1 : ¬ ab<w.heap.size:=n1
 have n2 : ¬ tb<w.heap.size:=n2
 have g1:=zL w1 _ h1
 have g2:=zL w1 _ h3
 have hs:=hb.size
 simp only at g1 g2
 exact ⟨w1.heap.size,rfl,hs,⟨ab,ac,tb,tc,af w1 _,⟨l1,l2⟩,(World.cell?_alloc_lt _ _ _ g1).trans h1,(World.cell?_alloc_lt _ _ _ g1).trans h2,(World.cell?_alloc_lt _ _ _ g2).trans h3,(World.cell?_alloc_lt _ _ _ g2).trans h4,⟨by omega,n1,n2⟩,by omega,by omega⟩,ae hb _⟩
def BC (X:Nat→Prop) (er:Int) (k c b:Nat) (m:aG) (q:Cache) (H:Nat→Prop) (w:World) (e:Ending) (w':World):Prop:=e=.returned (.int .i64 er) ∧ ∃ H',fh X w' k c b m q H'∧Step H H' w w'
theorem AX (k c b:Nat) (m:aG) (q:Cache) (H:Nat→Prop) (w:World) (h:fh X w k c b m q H):Calls prog 129 #[.pointer (some ⟨b,0,none⟩)] w (BC X 0 k c b m Cache.new H w):=by
 have HN:=zH (fun w=>qb w)
 obtain ⟨G,hc,hw,hH,hh⟩:=h.ex
 have hodd:=hw.odd
 have HC:=zH (zA hc (zA hw (zA hH (zA hh hodd))))
 obtain ⟨ab0,ac0,tb0,tc0,hw⟩:=hw
 have hr:=hw.raw
 clear h hc hh hH hodd hw
 go_enter func129,ntmps129
 go_wp2_with fail
 refine (HN.out _).mono ?_
 rintro e w1 ⟨v,rfl,⟨ab,ac,tb,tc,rfl,l1,l2,h1,h2,h3,h4,n1,n2⟩,hb⟩
 have hr1:=aa hb hr
 have HW:=zH (zA (zA l1 l2) (zA h1 (zA h2 (zA h3 (zA h4 (zA n1 (zA n2 hb)))))))
 have HR1:=zH hr1
 have HR:=zH hr
 have c0:w1.cell? ⟨b,0,none⟩=some (.pointer (some ⟨k,0,none⟩)):=cell_of hr1 0
 clear l1 l2 h1 h2 h3 h4 n1 n2 hb hr hr1
 go_wp2_with (refine dR rfl 188 (.tmp 8) (.tmp 6) rfl b 1 #[.slice (some ⟨ab,0,none⟩) 2 ac,.slice (some ⟨tb,0,none⟩) 2 tc,.int .i64 Cache.new.next] (by kernel_rfl) (by kernel_rfl) 190 (ks k ab0 ac0 tb0 tc0 q.next) HR1.out rfl (Nat.le_of_ble_eq_true rfl) (by kernel_rfl) ?_)
 go_ret
 obtain ⟨⟨l1,l2⟩,h1,h2,h3,h4,n1,n2,hb⟩:=HW.out
 have n1 : ¬ ab<w.heap.size:=n1
 have n2 : ¬ tb<w.heap.size:=n2
 obtain ⟨hc,hw,hH,hh,hodd⟩:=HC.out
 have hbl:b<w.heap.size:=(Array.getElem?_eq_some_iff.1 HR.out).1
 have hG:=hc.lt
 have t:Touch (aN b) w (w1.setRow b (putAt (ks k ab0 ac0 tb0 tc0 q.next) 1 [.slice (some ⟨ab,0,none⟩) 2 ac,.slice (some ⟨tb,0,none⟩) 2 tc,.int .i64 Cache.new.next])):=jw (Touch.ah hb) b _ rfl
 have ea : ∀ x,x≠b→(w1.setRow b (putAt (ks k ab0 ac0 tb0 tc0 q.next) 1 [.slice (some ⟨ab,0,none⟩) 2 ac,.slice (some ⟨tb,0,none⟩) 2 tc,.int .i64 Cache.new.next])).heap[x]? = w1.heap[x]? := fun x hx=>bj _ _ _ _ hx
 have ec : ∀ x i v,x≠b→w1.cell? ⟨x,i,none⟩=some v→(w1.setRow b (putAt (ks k ab0 ac0 tb0 tc0 q.next) 1 [.slice (some ⟨ab,0,none⟩) 2 ac,.slice (some ⟨tb,0,none⟩) 2 tc,.int .i64 Cache.new.next])).cell? ⟨x,i,none⟩=some v:=fun x i v hx hv=>by
  unfold World.cell? at hv ⊢
  rw [ea x hx];exact hv
 refine ⟨rfl,H,⟨⟨G,hc.fA t (fun x hx hg => ?_) (fun hl hx=>hh hl hx) (fun x hx _=>by rw [show x=b from hx];exact .inl hodd),⟨ab,ac,tb,tc,setRow_heap _ _ _ _ _ _ HR1.out,⟨l1,l2⟩,ec _ _ _ (by omega) h1,ec _ _ _ (by omega) h2,ec _ _ _ (by omega) h3,ec _ _ _ (by omega) h4,⟨?_,fun hg=>n1 (hg.elim (hG _) (hc.Gt _)),fun hg=>n2 (hg.elim (hG _) (hc.Gt _))⟩,by omega,by omega⟩,hH,hh⟩⟩,Step.dD (t.mono fun x hx=>(hH x).2 (.inr hx))⟩
 ·
  rw [show x=b from hx] at hg
  obtain ⟨_,_,_,_,hw⟩:=hw
  exact hw.out.1 (.inl hg)
 ·
  obtain ⟨_,_,_,_,hw⟩:=hw
  exact hw.out.1
end
theorem gq (x:Int) (w:World) (h0:0≤x) (h1:x<4096) (h2:x % 16=0):Calls prog 176 #[.int .i64 x] w fun e w'=>e=.returned (.bool true)∧w=w':=by
 have ht:x.tmod 16=0:=by rw [Int.tmod_eq_emod_of_nonneg h0];exact h2
 go_enter func176,ntmps176
 go_wp2
 go_ret
 exact ⟨by simp_all,rfl⟩
theorem iN (x:Int) (w:World) (h0:0≤x) (h1:x<4096):Calls prog 140 #[.int .i64 x] w fun e w'=>e=.returned (.int .i64 (x - x % 16))∧w=w':=by
 have ht:x.tmod 16=x % 16:=by rw [Int.tmod_eq_emod_of_nonneg h0]
 go_enter func140,ntmps140
 go_wp2
 go_ret
 exact ⟨by simp_all;try go_num,rfl⟩
def mv (b:Bool) (w:World) (e:Ending) (w':World):Prop:=e=.returned (.bool b)∧Below w.heap.size w w'
def DX (a:Int) (t:ByteArray):Prop:=(a = -1∧t=ByteArray.empty)∨(0≤a∧a<4096∧a % 16=0∧t.size=16)
structure Cache.Good (q:Cache):Prop where
 l0:DX q.a0 q.t0
 l1:DX q.a1 q.t1
 ne:q.a1 ≠ -1→q.a1≠q.a0
 next:q.next=0∨q.next=1
theorem Cache.mG:Cache.new.Good:=⟨.inl ⟨rfl,rfl⟩,.inl ⟨rfl,rfl⟩,fun h=>absurd rfl h,.inl rfl⟩
structure dz (w:World) (ab ac tb tc:Nat) (q:Cache):Prop where
 cap:2≤ac∧2≤tc
 a0:w.cell? ⟨ab,0,none⟩=some (.int .i64 q.a0)
 a1:w.cell? ⟨ab,1,none⟩=some (.int .i64 q.a1)
 t0:w.cell? ⟨tb,0,none⟩=some (.string q.t0)
 t1:w.cell? ⟨tb,1,none⟩=some (.string q.t1)
theorem dz.aj {w w':World} {ab ac tb tc:Nat} {q:Cache} (h:dz w ab ac tb tc q) (hb:Below w.heap.size w w'):dz w' ab ac tb tc q :=
 ⟨h.cap,(hb.cell (p:=⟨ab,0,none⟩) (zL w _ h.a0)).trans h.a0,(hb.cell (p:=⟨ab,1,none⟩) (zL w _ h.a1)).trans h.a1,(hb.cell (p:=⟨tb,0,none⟩) (zL w _ h.t0)).trans h.t0,(hb.cell (p:=⟨tb,1,none⟩) (zL w _ h.t1)).trans h.t1⟩
theorem dz.index {w:World} {ab ac tb tc:Nat} {q:Cache} (h:dz w ab ac tb tc q) (x:Int):Calls prog 139 #[.slice (some ⟨ab,0,none⟩) 2 ac,.int .i64 x] w fun e w'=>e=.returned (.int .i64 (Lib.idxOf [q.a0,q.a1] x))∧w'=w :=
 Tryz.slices_Index_int ab 0 2 ac [q.a0,q.a1] x w (by simp) (by decide) (fun j hj=>by
  have hj:j<2:=hj
  match j,hj with
  | 0,_=>exact h.a0
  | 1,_=>exact h.a1)
theorem Hq (ab ac tb tc:Nat) (next:Int) (w:World) (h:dz w ab ac tb tc ⟨(-1),(-1),ByteArray.empty,ByteArray.empty,next⟩)  (n0:0≤next) (n1:next<2):Calls prog 138 #[.agg #[.slice (some ⟨ab,0,none⟩) 2 ac,.slice (some ⟨tb,0,none⟩) 2 tc,.int .i64 next]] w (mv true w):=by
 have hb:Below w.heap.size w (w.alloc (.cells #[.slice (some ⟨ab,0,none⟩) 2 ac,.slice (some ⟨tb,0,none⟩) 2 tc,.int .i64 next] 188)):=ae zR _
 have h2:=h.aj hb
 have HB:=zH hb
 have HI:=zH h2.index
 have c0:=h.a0
 have c1:=h.a1
 have c2:=h.t0
 have c3:=h.t1
 dsimp only at c0 c1 c2 c3
 have l0:=zL w _ c0
 have l1:=zL w _ c2
 simp only at l0 l1
 clear hb h2 h
 go_enter func138,ntmps138
 go_wp2_with fail
 refine wp_loop_rounds 3 ?_
 rw [rounds_succ]
 go_wp2_with fail
 rw [rounds_succ]
 go_wp2_with fail
 rw [rounds_succ]
 go_wp2
 go_ret
 exact ⟨rfl,HB.out⟩
theorem Hr (ab ac tb tc:Nat) (a1:Int) (t1:ByteArray) (next:Int) (w:World) (h:dz w ab ac tb tc ⟨(-1),a1,ByteArray.empty,t1,next⟩) (p1:0≤a1) (u1:a1<4096) (d1:a1 % 16=0) (z1:t1.size=16) (n0:0≤next) (n1:next<2):Calls prog 138 #[.agg #[.slice (some ⟨ab,0,none⟩) 2 ac,.slice (some ⟨tb,0,none⟩) 2 tc,.int .i64 next]] w (mv true w):=by
 have hb:Below w.heap.size w (w.alloc (.cells #[.slice (some ⟨ab,0,none⟩) 2 ac,.slice (some ⟨tb,0,none⟩) 2 tc,.int .i64 next] 188)):=ae zR _
 have h2:=h.aj hb
 have HB:=zH hb
 have HI:=zH h2.index
 have c0:=h.a0
 have c1:=h.a1
 have c2:=h.t0
 have c3:=h.t1
 dsimp only at c0 c1 c2 c3
 have l0:=zL w _ c0
 have l1:=zL w _ c2
 simp only at l0 l1
 clear hb h2 h
 go_enter func138,ntmps138
 go_wp2_with fail
 refine wp_loop_rounds 3 ?_
 rw [rounds_succ]
 go_wp2_with fail
 rw [rounds_succ]
 have hn1:(a1 == -1)=false:=zQ (by omega)
 go_wp2_with fail
 refine (gq a1 _ p1 u1 d1).mono ?_
 rintro e w1 ⟨rfl,rfl⟩
 go_wp2_with fail
 refine (HI.out a1).mono ?_
 rintro e w1' ⟨rfl,rfl⟩
 rw [show Lib.idxOf [(-1),a1] a1=1 from by simp [Lib.idxOf,Lib.idxFrom,show ¬ ((-1)=a1) from by omega]]
 go_wp2_with fail
 rw [rounds_succ]
 go_wp2
 go_ret
 exact ⟨rfl,HB.out⟩
theorem Hs (ab ac tb tc:Nat) (a0:Int) (t0:ByteArray) (next:Int) (w:World) (h:dz w ab ac tb tc ⟨a0,(-1),t0,ByteArray.empty,next⟩) (p0:0≤a0) (u0:a0<4096) (d0:a0 % 16=0) (z0:t0.size=16) (n0:0≤next) (n1:next<2):Calls prog 138 #[.agg #[.slice (some ⟨ab,0,none⟩) 2 ac,.slice (some ⟨tb,0,none⟩) 2 tc,.int .i64 next]] w (mv true w):=by
 have hb:Below w.heap.size w (w.alloc (.cells #[.slice (some ⟨ab,0,none⟩) 2 ac,.slice (some ⟨tb,0,none⟩) 2 tc,.int .i64 next] 188)):=ae zR _
 have h2:=h.aj hb
 have HB:=zH hb
 have HI:=zH h2.index
 have c0:=h.a0
 have c1:=h.a1
 have c2:=h.t0
 have c3:=h.t1
 dsimp only at c0 c1 c2 c3
 have l0:=zL w _ c0
 have l1:=zL w _ c2
 simp only at l0 l1
 clear hb h2 h
 go_enter func138,ntmps138
 go_wp2_with fail
 refine wp_loop_rounds 3 ?_
 rw [rounds_succ]
 have hn0:(a0 == -1)=false:=zQ (by omega)
 go_wp2_with fail
 refine (gq a0 _ p0 u0 d0).mono ?_
 rintro e w0 ⟨rfl,rfl⟩
 go_wp2_with fail
 refine (HI.out a0).mono ?_
 rintro e w0' ⟨rfl,rfl⟩
 rw [show Lib.idxOf [a0,(-1)] a0=0 from by simp [Lib.idxOf,Lib.idxFrom]]
 go_wp2_with fail
 rw [rounds_succ]
 go_wp2_with fail
 rw [rounds_succ]
 go_wp2
 go_ret
 exact ⟨rfl,HB.out⟩
theorem Ht (ab ac tb tc:Nat) (a0 a1:Int) (t0 t1:ByteArray) (next:Int) (w:World) (h:dz w ab ac tb tc ⟨a0,a1,t0,t1,next⟩) (p0:0≤a0) (u0:a0<4096) (d0:a0 % 16=0) (z0:t0.size=16) (p1:0≤a1) (u1:a1<4096) (d1:a1 % 16=0) (z1:t1.size=16) (ne:a1≠a0) (n0:0≤next) (n1:next<2):Calls prog 138 #[.agg #[.slice (some ⟨ab,0,none⟩) 2 ac,.slice (some ⟨tb,0,none⟩) 2 tc,.int .i64 next]] w (mv true w):=by
 have hb:Below w.heap.size w (w.alloc (.cells #[.slice (some ⟨ab,0,none⟩) 2 ac,.slice (some ⟨tb,0,none⟩) 2 tc,.int .i64 next] 188)):=ae zR _
 have h2:=h.aj hb
 have HB:=zH hb
 have HI:=zH h2.index
 have c0:=h.a0
 have c1:=h.a1
 have c2:=h.t0
 have c3:=h.t1
 dsimp only at c0 c1 c2 c3
 have l0:=zL w _ c0
 have l1:=zL w _ c2
 simp only at l0 l1
 clear hb h2 h
 go_enter func138,ntmps138
 go_wp2_with fail
 refine wp_loop_rounds 3 ?_
 rw [rounds_succ]
 have hn0:(a0 == -1)=false:=zQ (by omega)
 go_wp2_with fail
 refine (gq a0 _ p0 u0 d0).mono ?_
 rintro e w0 ⟨rfl,rfl⟩
 go_wp2_with fail
 refine (HI.out a0).mono ?_
 rintro e w0' ⟨rfl,rfl⟩
 rw [show Lib.idxOf [a0,a1] a0=0 from by simp [Lib.idxOf,Lib.idxFrom]]
 go_wp2_with fail
 rw [rounds_succ]
 have hn1:(a1 == -1)=false:=zQ (by omega)
 go_wp2_with fail
 refine (gq a1 _ p1 u1 d1).mono ?_
 rintro e w1 ⟨rfl,rfl⟩
 go_wp2_with fail
 refine (HI.out a1).mono ?_
 rintro e w1' ⟨rfl,rfl⟩
 rw [show Lib.idxOf [a0,a1] a1=1 from by simp [Lib.idxOf,Lib.idxFrom,show ¬ (a0=a1) from by omega]]
 go_wp2_with fail
 rw [rounds_succ]
 go_wp2
 go_ret
 exact ⟨rfl,HB.out⟩
theorem jP (ab ac tb tc:Nat) (q:Cache) (w:World) (h:dz w ab ac tb tc q) (g:q.Good):Calls prog 138 #[.agg #[.slice (some ⟨ab,0,none⟩) 2 ac,.slice (some ⟨tb,0,none⟩) 2 tc,.int .i64 q.next]] w (mv true w):=by
 obtain ⟨a0,a1,t0,t1,next⟩:=q
 have n0:0≤next:=by have:=g.next;dsimp only at this;omega
 have n1:next<2:=by have:=g.next;dsimp only at this;omega
 rcases g.l0 with ⟨e0,e1⟩ | ⟨p0,u0,d0,z0⟩ <;> rcases g.l1 with ⟨f0,f1⟩ | ⟨p1,u1,d1,z1⟩
 ·
  dsimp only at e0 e1 f0 f1
  subst e0 e1 f0 f1
  exact Hq ab ac tb tc next w h n0 n1
 ·
  dsimp only at e0 e1
  subst e0 e1
  exact Hr ab ac tb tc a1 t1 next w h p1 u1 d1 z1 n0 n1
 ·
  dsimp only at f0 f1
  subst f0 f1
  exact Hs ab ac tb tc a0 t0 next w h p0 u0 d0 z0 n0 n1
 ·
  exact Ht ab ac tb tc a0 a1 t0 t1 next w h p0 u0 d0 z0 p1 u1 d1 z1 (g.ne (by dsimp only at p1 ⊢;omega)) n0 n1
def aM (x:Int):Int:=x - x % 16
def fV (x:Int):Nat:=(x % 16).toNat
def Cache.where (q:Cache) (f:Int):Int:=Lib.idxOf [q.a0,q.a1] f
theorem uT (q:Cache) (f:Int):(q.where f=0∧q.a0=f)∨(q.where f=1∧q.a0≠f∧q.a1=f)∨(q.where f = -1∧q.a0≠f∧q.a1≠f):=by
 unfold Cache.where
 by_cases h0:q.a0=f
 ·
  exact .inl ⟨by simp [Lib.idxOf,Lib.idxFrom,h0],h0⟩
 ·
  by_cases h1:q.a1=f
  ·
   exact .inr (.inl ⟨by simp [Lib.idxOf,Lib.idxFrom,h0,h1],h0,h1⟩)
  ·
   exact .inr (.inr ⟨by simp [Lib.idxOf,Lib.idxFrom,h0,h1],h0,h1⟩)
def Cache.find (q:Cache) (x:Int):Int×Bool :=
 if q.a0=aM x then (((bt q.t0 (fV x)).toNat:Int),true) else if q.a1=aM x then (((bt q.t1 (fV x)).toNat:Int),true) else (0,false)
def ky (x:Int) (b:Bool) (w:World) (e:Ending) (w':World):Prop:=e=.returned (.tuple #[.int .i64 x,.bool b])∧Below w.heap.size w w'
theorem M9 (ab ac tb tc:Nat) (q:Cache) (x:Int) (w:World) (h:dz w ab ac tb tc q) (g:q.Good) (x0:0≤x) (x1:x<4096) (hs:q.t0.size=16) (he:q.where (aM x)=0):Calls prog 98 #[.agg #[.slice (some ⟨ab,0,none⟩) 2 ac,.slice (some ⟨tb,0,none⟩) 2 tc,.int .i64 q.next],.int .i64 x] w (ky ((bt q.t0 (fV x)).toNat:Int) true w):=by
 have hb:Below w.heap.size w (w.alloc (.cells #[.slice (some ⟨ab,0,none⟩) 2 ac,.slice (some ⟨tb,0,none⟩) 2 tc,.int .i64 q.next] 188)):=ae zR _
 have h2:=h.aj hb
 have HB:=zH hb
 have HM:=zH (jP ab ac tb tc q _ h2 g)
 have HE:=zH he
 have H2:=zH h2
 have hz0:(w.alloc (.cells #[.slice (some ⟨ab,0,none⟩) 2 ac,.slice (some ⟨tb,0,none⟩) 2 tc,.int .i64 q.next] 188)).heap[w.heap.size]? = some (.cells #[.slice (some ⟨ab,0,none⟩) 2 ac,.slice (some ⟨tb,0,none⟩) 2 tc,.int .i64 q.next] 188):=af w _
 clear h2 h g he
 go_enter func98,ntmps98
 go_wp2_with fail
 refine HM.out.mono ?_
 rintro e w1 ⟨rfl,hb1⟩
 have HB1:=zH (gtr HB.out hb1)
 have HI:=zH (H2.out.aj hb1)
 have hz1:=aa hb1 hz0
 have k0:w1.cell? ⟨w.heap.size,0,none⟩=some (.slice (some ⟨ab,0,none⟩) 2 ac):=cell_of hz1 0
 have k1:w1.cell? ⟨w.heap.size,1,none⟩=some (.slice (some ⟨tb,0,none⟩) 2 tc):=cell_of hz1 1
 have k0':w1.drew.cell? ⟨w.heap.size,0,none⟩=some (.slice (some ⟨ab,0,none⟩) 2 ac):=k0
 have k1':w1.drew.cell? ⟨w.heap.size,1,none⟩=some (.slice (some ⟨tb,0,none⟩) 2 tc):=k1
 have HI2:=zH ((HI.out.aj (au zR)).index)
 have hj:x.tmod 16=((fV x:Nat):Int):=by unfold fV;rw [Int.tmod_eq_emod_of_nonneg x0];omega
 have hj1:fV x<16:=by unfold fV;omega
 have i1:((fV x:Nat):Int)<16:=by omega
 have gb:q.t0[fV x]'(by omega)=bt q.t0 (fV x):=gT q.t0 (fV x) (by omega)
 have tc':w1.cell? ⟨tb,0,none⟩=some (.string q.t0):=HI.out.t0
 have tc'':w1.drew.cell? ⟨tb,0,none⟩=some (.string q.t0):=tc'
 clear hb hb1 hz0 hz1
 go_wp2_with fail
 refine wp_region_noPanic ?_
 refine wp_region_held_drew (S:=(fun (v:World)=>v.cell? ⟨w.heap.size,0,none⟩=some (.slice (some ⟨ab,0,none⟩) 2 ac))) (by kernel_rfl) (by (try dsimp only);exact k0') fun hHeld => ?_
 refine tk 0 ?_
 refine tk 1 ?_
 refine tk 2 ?_
 refine tr 3 fun K hK => ?_
 go_simp
 refine (iN x _ x0 x1).mono ?_
 rintro e w2 ⟨rfl,rfl⟩
 go_wp2_with fail
 refine hK.out _ _ (by (try dsimp only);exact k0') fun hHeld => ?_
 clear hK K
 try simp only [Act.put,zS,zT,zU]
 refine tr 4 fun K hK => ?_
 go_simp
 refine (HI2.out (aM x)).mono ?_
 rintro e w3 ⟨rfl,rfl⟩
 rw [show Lib.idxOf [q.a0,q.a1] (aM x)=_ from HE.out]
 go_wp2_with fail
 refine hK.out _ _ (by (try dsimp only);exact k0') fun hHeld => ?_
 clear hK K
 try simp only [Act.put,zS,zT,zU]
 refine tk 5 ?_
 refine wpAnyH_done (by kernel_rfl) ?_ _
 refine NoPanic.normal ?_
 go_wp2
 go_ret2
 exact ⟨by first | rfl | simp [gC],au HB1.out⟩
theorem Na (ab ac tb tc:Nat) (q:Cache) (x:Int) (w:World) (h:dz w ab ac tb tc q) (g:q.Good) (x0:0≤x) (x1:x<4096) (hs:q.t1.size=16) (he:q.where (aM x)=1):Calls prog 98 #[.agg #[.slice (some ⟨ab,0,none⟩) 2 ac,.slice (some ⟨tb,0,none⟩) 2 tc,.int .i64 q.next],.int .i64 x] w (ky ((bt q.t1 (fV x)).toNat:Int) true w):=by
 have hb:Below w.heap.size w (w.alloc (.cells #[.slice (some ⟨ab,0,none⟩) 2 ac,.slice (some ⟨tb,0,none⟩) 2 tc,.int .i64 q.next] 188)):=ae zR _
 have h2:=h.aj hb
 have HB:=zH hb
 have HM:=zH (jP ab ac tb tc q _ h2 g)
 have HE:=zH he
 have H2:=zH h2
 have hz0:(w.alloc (.cells #[.slice (some ⟨ab,0,none⟩) 2 ac,.slice (some ⟨tb,0,none⟩) 2 tc,.int .i64 q.next] 188)).heap[w.heap.size]? = some (.cells #[.slice (some ⟨ab,0,none⟩) 2 ac,.slice (some ⟨tb,0,none⟩) 2 tc,.int .i64 q.next] 188):=af w _
 clear h2 h g he
 go_enter func98,ntmps98
 go_wp2_with fail
 refine HM.out.mono ?_
 rintro e w1 ⟨rfl,hb1⟩
 have HB1:=zH (gtr HB.out hb1)
 have HI:=zH (H2.out.aj hb1)
 have hz1:=aa hb1 hz0
 have k0:w1.cell? ⟨w.heap.size,0,none⟩=some (.slice (some ⟨ab,0,none⟩) 2 ac):=cell_of hz1 0
 have k1:w1.cell? ⟨w.heap.size,1,none⟩=some (.slice (some ⟨tb,0,none⟩) 2 tc):=cell_of hz1 1
 have k0':w1.drew.cell? ⟨w.heap.size,0,none⟩=some (.slice (some ⟨ab,0,none⟩) 2 ac):=k0
 have k1':w1.drew.cell? ⟨w.heap.size,1,none⟩=some (.slice (some ⟨tb,0,none⟩) 2 tc):=k1
 have HI2:=zH ((HI.out.aj (au zR)).index)
 have hj:x.tmod 16=((fV x:Nat):Int):=by unfold fV;rw [Int.tmod_eq_emod_of_nonneg x0];omega
 have hj1:fV x<16:=by unfold fV;omega
 have i1:((fV x:Nat):Int)<16:=by omega
 have gb:q.t1[fV x]'(by omega)=bt q.t1 (fV x):=gT q.t1 (fV x) (by omega)
 have tc':w1.cell? ⟨tb,1,none⟩=some (.string q.t1):=HI.out.t1
 have tc'':w1.drew.cell? ⟨tb,1,none⟩=some (.string q.t1):=tc'
 clear hb hb1 hz0 hz1
 go_wp2_with fail
 refine wp_region_noPanic ?_
 refine wp_region_held_drew (S:=(fun (v:World)=>v.cell? ⟨w.heap.size,0,none⟩=some (.slice (some ⟨ab,0,none⟩) 2 ac))) (by kernel_rfl) (by (try dsimp only);exact k0') fun hHeld => ?_
 refine tk 0 ?_
 refine tk 1 ?_
 refine tk 2 ?_
 refine tr 3 fun K hK => ?_
 go_simp
 refine (iN x _ x0 x1).mono ?_
 rintro e w2 ⟨rfl,rfl⟩
 go_wp2_with fail
 refine hK.out _ _ (by (try dsimp only);exact k0') fun hHeld => ?_
 clear hK K
 try simp only [Act.put,zS,zT,zU]
 refine tr 4 fun K hK => ?_
 go_simp
 refine (HI2.out (aM x)).mono ?_
 rintro e w3 ⟨rfl,rfl⟩
 rw [show Lib.idxOf [q.a0,q.a1] (aM x)=_ from HE.out]
 go_wp2_with fail
 refine hK.out _ _ (by (try dsimp only);exact k0') fun hHeld => ?_
 clear hK K
 try simp only [Act.put,zS,zT,zU]
 refine tk 5 ?_
 refine wpAnyH_done (by kernel_rfl) ?_ _
 refine NoPanic.normal ?_
 go_wp2
 go_ret2
 exact ⟨by first | rfl | simp [gC],au HB1.out⟩
theorem Nb (ab ac tb tc:Nat) (q:Cache) (x:Int) (w:World) (h:dz w ab ac tb tc q) (g:q.Good) (x0:0≤x) (x1:x<4096) (he:q.where (aM x) = -1):Calls prog 98 #[.agg #[.slice (some ⟨ab,0,none⟩) 2 ac,.slice (some ⟨tb,0,none⟩) 2 tc,.int .i64 q.next],.int .i64 x] w (ky 0 false w):=by
 have hb:Below w.heap.size w (w.alloc (.cells #[.slice (some ⟨ab,0,none⟩) 2 ac,.slice (some ⟨tb,0,none⟩) 2 tc,.int .i64 q.next] 188)):=ae zR _
 have h2:=h.aj hb
 have HB:=zH hb
 have HM:=zH (jP ab ac tb tc q _ h2 g)
 have HE:=zH he
 have H2:=zH h2
 have hz0:(w.alloc (.cells #[.slice (some ⟨ab,0,none⟩) 2 ac,.slice (some ⟨tb,0,none⟩) 2 tc,.int .i64 q.next] 188)).heap[w.heap.size]? = some (.cells #[.slice (some ⟨ab,0,none⟩) 2 ac,.slice (some ⟨tb,0,none⟩) 2 tc,.int .i64 q.next] 188):=af w _
 clear h2 h g he
 go_enter func98,ntmps98
 go_wp2_with fail
 refine HM.out.mono ?_
 rintro e w1 ⟨rfl,hb1⟩
 have HB1:=zH (gtr HB.out hb1)
 have HI:=zH (H2.out.aj hb1)
 have hz1:=aa hb1 hz0
 have k0:w1.cell? ⟨w.heap.size,0,none⟩=some (.slice (some ⟨ab,0,none⟩) 2 ac):=cell_of hz1 0
 have k1:w1.cell? ⟨w.heap.size,1,none⟩=some (.slice (some ⟨tb,0,none⟩) 2 tc):=cell_of hz1 1
 have k0':w1.drew.cell? ⟨w.heap.size,0,none⟩=some (.slice (some ⟨ab,0,none⟩) 2 ac):=k0
 have k1':w1.drew.cell? ⟨w.heap.size,1,none⟩=some (.slice (some ⟨tb,0,none⟩) 2 tc):=k1
 have HI2:=zH ((HI.out.aj (au zR)).index)
 clear hb hb1 hz0 hz1
 go_wp2_with fail
 refine wp_region_noPanic ?_
 refine wp_region_held_drew (S:=(fun (v:World)=>v.cell? ⟨w.heap.size,0,none⟩=some (.slice (some ⟨ab,0,none⟩) 2 ac))) (by kernel_rfl) (by (try dsimp only);exact k0') fun hHeld => ?_
 refine tk 0 ?_
 refine tk 1 ?_
 refine tk 2 ?_
 refine tr 3 fun K hK => ?_
 go_simp
 refine (iN x _ x0 x1).mono ?_
 rintro e w2 ⟨rfl,rfl⟩
 go_wp2_with fail
 refine hK.out _ _ (by (try dsimp only);exact k0') fun hHeld => ?_
 clear hK K
 try simp only [Act.put,zS,zT,zU]
 refine tr 4 fun K hK => ?_
 go_simp
 refine (HI2.out (aM x)).mono ?_
 rintro e w3 ⟨rfl,rfl⟩
 rw [show Lib.idxOf [q.a0,q.a1] (aM x)=_ from HE.out]
 go_wp2_with fail
 refine hK.out _ _ (by (try dsimp only);exact k0') fun hHeld => ?_
 clear hK K
 try simp only [Act.put,zS,zT,zU]
 refine tk 5 ?_
 refine wpAnyH_done (by kernel_rfl) ?_ _
 refine NoPanic.normal ?_
 go_wp2
 go_ret2
 exact ⟨by first | rfl | simp [gC],au HB1.out⟩
theorem oQ (ab ac tb tc:Nat) (q:Cache) (x:Int) (w:World) (h:dz w ab ac tb tc q) (g:q.Good) (x0:0≤x) (x1:x<4096):Calls prog 98 #[.agg #[.slice (some ⟨ab,0,none⟩) 2 ac,.slice (some ⟨tb,0,none⟩) 2 tc,.int .i64 q.next],.int .i64 x] w (ky (q.find x).1 (q.find x).2 w):=by
 have hF:aM x ≠ -1:=by unfold aM;omega
 rcases uT q (aM x) with ⟨e,h0⟩ | ⟨e,h0,h1⟩ | ⟨e,h0,h1⟩
 ·
  have hs:q.t0.size=16:=by rcases g.l0 with ⟨e0,_⟩ | ⟨_,_,_,hs⟩;exact absurd (h0.symm.trans e0) hF;exact hs
  have:=M9 ab ac tb tc q x w h g x0 x1 hs e
  rw [show q.find x=(((bt q.t0 (fV x)).toNat:Int),true) from if_pos h0]
  exact this
 ·
  have hs:q.t1.size=16:=by rcases g.l1 with ⟨e0,_⟩ | ⟨_,_,_,hs⟩;exact absurd (h1.symm.trans e0) hF;exact hs
  have:=Na ab ac tb tc q x w h g x0 x1 hs e
  rw [show q.find x=(((bt q.t1 (fV x)).toNat:Int),true) from (if_neg h0).trans (if_pos h1)]
  exact this
 ·
  have:=Nb ab ac tb tc q x w h g x0 x1 e
  rw [show q.find x=(0,false) from (if_neg h0).trans (if_neg h1)]
  exact this
end Go.Proofs.YtcfdenckiigdaaaGreat

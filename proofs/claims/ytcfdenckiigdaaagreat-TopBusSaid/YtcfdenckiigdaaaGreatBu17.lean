/- Part 17 of the contracts. -/
import Derived.Test.YtcfdenckiigdaaaGreatBu16
set_option linter.unusedVariables false
set_option maxRecDepth 100000
set_option maxHeartbeats 4000000
namespace Go.Proofs.YtcfdenckiigdaaaGreat
open Tryz Go.RowKit
section
open Go.RowKit
variable {X:Nat→Prop}
theorem dM.mono {w:World} {a:Option Addr} {cp:Nat} {rs:List aS} {F G:Nat→Prop} (h:dM w a cp rs F) (hG : ∀ i,G i→F i):dM w a cp rs G :=
 ⟨h.at_,fun x o f e h0 hg=>h.fh x o f e h0 (hG x hg)⟩
theorem dM.off {w:World} {a:Option Addr} {cp:Nat} {rs:List aS} {s:Nat} {H:Nat→Prop} (h:dM w a cp rs (xQ X s H)):dM w a cp rs (xQ X s H):=h
def zP (r:aB×Option (Int×bg)×Int):aB×au×Int:=if r.2.2≠0 then (r.1,shut,r.2.2) else match r.2.1 with | none=>(r.1,shut,2305) | some x=>(r.1,⟨true,x.1,x.2⟩,0)
def fX (m:aB):aB×au×Int:=zP (fj m)
theorem BS (s k c b:Nat) (m:aB) (q:Cache) (S:au) (H:Nat→Prop) (w:World) (h:Sys X w s k c b m q S H) (ok:m.Ok) (kn:m.kh) (hh:0<m.an.busy.length→m.an.home<w.heap.size):Calls prog 58 #[.pointer (some ⟨s,0,none⟩)] w (zu X (.int .i64 (fX m).2.2) s k c b (fX m).1 q (fX m).2.1 H w):=by
 have HL:=zH (vU s k c b m q S H w h ok kn hh)
 unfold fX
 generalize fj m=lr at *
 obtain ⟨m',o,er⟩:=lr
 simp only at HL
 clear h ok kn hh
 go_enter func58,ntmps58
 go_wp2_with fail
 refine HL.out.mono ?_
 rintro e w1 ⟨va,vc,rfl,H',hs,st,hr⟩
 have HS:=zH (zA hs (zA st hr))
 clear hs st hr HL
 have HN:=zH (ae (Below.refl w1.heap.size w1) (.cells #[.bool (o.getD (0,ck)).2.bX,.int .i64 (o.getD (0,ck)).2.ak,.slice va (o.getD (0,ck)).2.ay.length vc,.int .i64 (o.getD (0,ck)).2.free] 52))
 have HC:=zH (fun er w (h:Sys X w s k c b m' q S H')=>mE s k c b m' q S H' er w h)
 have HO:=zH (fun sec V va vc w (h:Sys X w s k c b m' q S H') hv=>og s k c b m' q S H' sec V va vc w h hv)
 have HSN:=zH (HS.out.1.aj HN.out)
 have HST:=zH (HS.out.2.1.kC (s:=s))
 by_cases k1:er=0
 ·
  subst k1
  cases o with
  | none =>
   simp only [Option.getD_none,Option.isSome_none] at HN HSN ⊢
   go_wp2_with fail
   refine (HC.out 2305 _ HSN.out).mono ?_
   rintro e w2 ⟨rfl,H2,h2,st2⟩
   have HR:=zH (zA h2 ((HST.out.trans (Step.ah HN.out)).trans st2))
   clear h2 st2
   go_wp2
   go_ret
   exact ⟨rfl,H2,HR.out⟩
  | some x =>
   obtain ⟨sec,V⟩:=x
   simp only [Option.getD_some,Option.isSome_some] at HN HSN HS ⊢
   have HRV:=zH ((HS.out.2.2.off).step (Step.ah HN.out))
   go_wp2_with fail
   refine (HO.out sec V va vc _ HSN.out HRV.out).mono ?_
   rintro e w2 ⟨rfl,H2,h2,st2⟩
   have HR:=zH (zA h2 ((HST.out.trans (Step.ah HN.out)).trans st2))
   clear h2 st2
   go_wp2
   go_ret
   exact ⟨rfl,H2,HR.out⟩
 ·
  have hne:(er != 0)=true:=bne_iff_ne.2 k1
  have HMB:=zH (show zP (m',o,er)=(m',shut,er) from if_pos k1)
  generalize o.isSome=oi at *
  generalize o.getD (0,ck)=p at *
  obtain ⟨sec,V⟩:=p
  simp only at HN HSN HS ⊢
  clear k1
  go_wp2_with fail
  refine (HC.out er _ HSN.out).mono ?_
  rintro e w2 ⟨rfl,H2,h2,st2⟩
  have HR:=zH (zA h2 ((HST.out.trans (Step.ah HN.out)).trans st2))
  clear h2 st2
  go_wp2
  go_ret
  rw [HMB.out]
  exact ⟨rfl,H2,HR.out⟩
end
section
open Go.RowKit
variable {X:Nat→Prop}
theorem wz {s:ByteArray} {r:aS} (h:dB s=some r):bz r=true:=by
 unfold dB at h
 split at h
 ·
  simp at h
 ·
  split at h
  ·
   rename_i hp
   unfold ic at hp
   split at hp
   ·
    rename_i hm
    obtain rfl:_=r:=by simpa using h
    exact hm
   ·
    simp at hp
  ·
   simp at h
theorem tV (s:ByteArray) : ∀ k,∀ r ∈ bw s k,gI r
 | 0,r,h=>by simp [bw] at h
 | k+1,r,h=>by
  simp only [bw,List.mem_append] at h
  rcases h with h | h
  ·
   exact tV s k r h
  ·
   unfold dZ at h
   split at h
   ·
    rename_i x hx
    split at h
    ·
     simp at h
    ·
     rename_i hk
     obtain rfl:r=x:=by simpa using h
     exact ⟨wz hx,hk⟩
   ·
    simp at h
theorem tU (s:ByteArray) : ∀ k,1≤bQ s k∧bQ s k≤(k+1:Nat)
 | 0=>by simp [bQ]
 | k+1=>by
  have:=tU s k
  unfold bQ
  split
  ·
   omega
  ·
   omega
theorem Ar (s:ByteArray) (h:(iw s).bX=true):(iw s).Ok:=by
 have hf:=tU s 7
 refine ⟨h,?_,by simpa [iw] using hf,mX s 7,tV s 7⟩
 unfold iw at h ⊢
 simp only at h ⊢
 unfold cv at h ⊢
 split at h
 ·
  rename_i r hr
  split at h
  ·
   rename_i hk
   have hm:=wz hr
   rw [if_pos hk]
   unfold bz at hm
   rw [if_pos hk] at hm
   unfold nM at hm
   simp only [Bool.and_eq_true,decide_eq_true_eq] at hm
   exact hm.1.1
  ·
   simp at h
 ·
  simp at h
theorem kl (vs:List bg) : ∀ j k,iI vs j=some k→k<j ∧ ∃ V,vs[k]? = some V∧V.bX=true
 | 0,k,h=>by simp [iI] at h
 | j+1,k,h=>by
  have ih:=kl vs j
  unfold iI at h
  split at h
  ·
   have:=ih k h;exact ⟨by omega,this.2⟩
  ·
   rename_i p hp
   split at h
   ·
    have:=ih k h;exact ⟨by omega,this.2⟩
   ·
    rename_i hg
    have hg':p.bX=true:=by simpa using hg
    split at h
    ·
     obtain rfl:j=k:=by simpa using h
     exact ⟨by omega,p,hp,hg'⟩
    ·
     rename_i k' hk
     have hk':=ih _ hk
     split at h
     ·
      have:=ih k h;exact ⟨by omega,this.2⟩
     ·
      split at h
      ·
       obtain rfl:j=k:=by simpa using h
       exact ⟨by omega,p,hp,hg'⟩
      ·
       obtain rfl:k'=k:=by simpa using h
       exact ⟨by omega,hk'.2⟩
theorem tK : ∀ (n:Nat) (j:Int) (m:aB) (vs:List bg),(∀ V ∈ vs,∃ t,V=iw t)→(∀ V ∈ (gB n j m vs).2.1,∃ t,V=iw t)∧(gB n j m vs).2.1.length≤vs.length+n
 | 0,j,m,vs,h=>⟨h,by simp [gB]⟩
 | n+1,j,m,vs,h=>by
  unfold gB
  split
  ·
   exact ⟨h,by simp⟩
  ·
   have:=tK n (j+1) (m.cK (j * 512) 512).1 (vs++[iw (m.cK (j * 512) 512).2.1]) (fun V hV=>by
    rcases List.mem_append.1 hV with hV | hV
    ·
     exact h V hV
    ·
     exact ⟨_,by simpa using hV⟩)
   refine ⟨this.1,?_⟩
   have h2:=this.2
   simp only [List.length_append,List.length_cons,List.length_nil] at h2
   omega
theorem look_ok {m:aB} {sec:Int} {V:bg} (h:(fj m).2.1=some (sec,V)):4≤sec∧sec<8∧V.Ok:=by
 unfold fj at h
 split at h
 ·
  simp at h
 ·
  have hs:=tK 4 4 m.dN.1 [] (fun V hV=>by simp at hV)
  generalize gB 4 4 m.dN.1 []=r at *
  unfold tJ at h
  split at h
  ·
   simp at h
  ·
   cases hb:iI r.2.1 r.2.1.length with
   | none=>rw [hb] at h;simp at h
   | some k =>
    rw [hb] at h
    obtain ⟨hk,V',hV,hg⟩:=kl _ _ _ hb
    simp only [Option.map_some,Option.some.injEq,Prod.mk.injEq] at h
    rw [List.getD_eq_getElem?_getD,hV,Option.getD_some] at h
    obtain ⟨h1,rfl⟩:=h
    obtain ⟨t,rfl⟩:=hs.1 _ (List.mem_of_getElem? hV)
    have:=hs.2
    simp only [List.length_nil] at this
    exact ⟨by omega,by omega,Ar t hg⟩
def iO (m:aB) (q:Cache) (sec:Int) (reads:List Int):aB×Cache×List Int×Int:=if cP reads=true then gD m (sec * 512) reads else (m,q,[],1800)
theorem zg (s k c b cap:Nat) (m:aB) (q:Cache) (S:au) (H:Nat→Prop) (sec:Int) (a:Option Addr) (reads:List Int) (w:World) (h:Sys X w s k c b m q S H) (ok:m.Ok) (hi:aJ w a reads H) (hcap:reads.length≤cap) (hm:reads.length≤1000000) (hh:0<m.an.busy.length→m.an.home<w.heap.size) (s0:4≤sec) (s1:sec<8):Calls prog 90 #[.pointer (some ⟨k,0,none⟩),.pointer (some ⟨b,0,none⟩),.int .i64 sec,.slice a reads.length cap] w (zt X s k c b (iO m q sec reads).1 (iO m q sec reads).2.1 S (iO m q sec reads).2.2.1 (iO m q sec reads).2.2.2 H w):=by
 unfold iO
 split
 ·
  rename_i hr
  exact I0 s k c b cap m q S H sec a reads w h ok hi hcap hh hr s0 s1
 ·
  rename_i hr
  refine (I5 k b cap sec a reads w hi.1 hm (by simpa using hr) s0 s1).mono ?_
  rintro e w' ⟨rfl,hb⟩
  exact ⟨_,rfl,fun _=>rfl,H,h.aj hb,Step.ah hb,fun h0=>absurd h0 (show ¬ (1800:Int)=0 by decide)⟩
theorem CJ {m:aB} (ok:m.Ok) {q:Cache} (sec:Int) (s0:4≤sec) (s1:sec<8) (reads:List Int):(iO m q sec reads).1.Ok:=by
 unfold iO
 split
 ·
  rename_i hr
  exact (rT ok _ (by omega) (by omega) reads (fun x hx=>by have:=(iM hr).2 x hx;omega)).1
 ·
  exact ok
end
section
open Go.RowKit
variable {X:Nat→Prop}
def cz (e:Int):aS:=⟨0,e,⟨#[]⟩,⟨#[]⟩⟩
def oO (b:aB×Int) (q:Cache) (n ep:Int) (out:List Int):aB×Cache×au×List Int×Int :=
 if b.2≠0 then (b.1,q,shut,[],b.2) else (b.1,q,⟨true,n,⟨true,ep,[],1⟩⟩,out,0)
def qH (t:aB×Cache×List Int×Int) (n ep:Int):aB×Cache×au×List Int×Int :=
 if t.2.2.2≠0 then (t.1,t.2.1,shut,[],t.2.2.2) else oO (t.1.dR (bU n 0) (aG (cz ep))) t.2.1 n ep t.2.2.1
def uM (m:aB) (q:Cache) (sec ep:Int) (reads:List Int):aB×Cache×au×List Int×Int :=
 if 1048576≤ep then (m,q,shut,[],2304) else qH (iO m q (fw sec) reads) (fw sec) (ep+1)
def nm (o:Option (Int×bg)):Int:=match o with | none=>7 | some x=>x.1
def nL (o:Option (Int×bg)):Int:=match o with | none=>0 | some x=>x.2.ak
def qG (l:aB×Option (Int×bg)×Int) (q:Cache) (reads:List Int):aB×Cache×au×List Int×Int :=
 if l.2.2≠0 then (l.1,q,shut,[],l.2.2) else uM l.1 q (nm l.2.1) (nL l.2.1) reads
def cO (m:aB) (q:Cache) (reads:List Int):aB×Cache×au×List Int×Int:=qG (fj m) q reads
def dC (X:Nat→Prop) (s k c b:Nat) (m:aB) (q:Cache) (S:au) (out:List Int) (er:Int) (H:Nat→Prop) (w:World) (e:Ending) (w':World):Prop :=
 ∃ v,e=.returned (.tuple #[v,.int .i64 er])∧(er≠0→v=.slice none 0 0) ∧ ∃ H',Sys X w' s k c b m q S H'∧Step (bP s H) (bP s H') w w'∧(er=0→w'.ownsRow w.heap.size 3 1 v out.length (az out) ∧ ∀ g,v.ownBlock=some g → ¬ bP s H' g)
theorem dC.none {s k c b:Nat} {m:aB} {q:Cache} {S:au} {er:Int} {H H':Nat→Prop} {w w':World} (h:Sys X w' s k c b m q S H') (st:Step (bP s H) (bP s H') w w') (he:er≠0):dC X s k c b m q S [] er H w (.returned (.tuple #[.slice none 0 0,.int .i64 er])) w' :=
 ⟨_,rfl,fun _=>rfl,H',h,st,fun h0=>absurd h0 he⟩
theorem BP : ∀ (n:Nat) (j:Int) (m:aB) (vs:List bg),m.Ok→0≤j→(j+n) * 512≤4096→(gB n j m vs).1.Ok∧bD m (gB n j m vs).1
 | 0,j,m,vs,ok,h0,h1=>⟨ok,bD.refl m⟩
 | n+1,j,m,vs,ok,h0,h1=>by
  have o1:=yv ok (j * 512) 512 (by omega) (by omega) (by omega) (by omega)
  have h2:=nP m (j * 512) 512
  unfold gB
  split
  ·
   exact ⟨o1,h2⟩
  ·
   have:=BP n (j+1) _ (vs++[iw (m.cK (j * 512) 512).2.1]) o1 (by omega) (by omega)
   exact ⟨this.1,h2.trans this.2⟩
theorem vS {m:aB} (ok:m.Ok):(fj m).1.Ok∧bD m (fj m).1:=by
 have o1:=yS ok
 have h1:=ot m
 unfold fj
 split
 ·
  exact ⟨o1,h1⟩
 ·
  have:=BP 4 4 m.dN.1 [] o1 (by omega) (by omega)
  unfold tJ
  split <;> exact ⟨this.1,h1.trans this.2⟩
theorem aJ.wide {w:World} {a:Option Addr} {xs:List Int} {G:Nat→Prop} (h:aJ w a xs G):aJ w a xs (fun i=>G i∨w.heap.size≤i):=by
 refine ⟨h.1,fun b o e hl hg => ?_⟩
 rcases hg with hg | hg
 ·
  exact h.2 b o e hl hg
 ·
  obtain ⟨b2,o2,g1,g2⟩:=h.1 0 hl
  rw [e] at g1
  obtain ⟨rfl,rfl⟩:b=b2∧o=o2:=by simpa using g1
  have:=zL w _ g2
  simp only at this
  omega
theorem aJ.mono {w:World} {a:Option Addr} {xs:List Int} {F G:Nat→Prop} (h:aJ w a xs F) (hG : ∀ i,G i→F i):aJ w a xs G:=⟨h.1,fun b o e hl hg=>h.2 b o e hl (hG b hg)⟩
theorem aJ.new {w w':World} {a:Option Addr} {xs:List Int} {G F:Nat→Prop} (h:aJ w a xs G) (t:Touch F w w') (hF : ∀ i,F i→w.heap.size≤i):aJ w' a xs G :=
 (h.wide.step (G':=fun i=>G i∨w.heap.size≤i) (Step.dw (t.mono fun i hi=>.inr (hF i hi)))).mono fun i hi=>.inl hi
theorem qR {n:Int} (h0:4≤n) (h1:n<8):4≤fw n∧fw n<8:=by unfold fw;split <;> omega
theorem qw.kC {X:Nat→Prop} {s k c b:Nat} {m:aB} {q:Cache} {S:au} {H:Nat→Prop} {w w':World} (h:qw X s k c b m q S H w w') : ∃ H',Sys X w' s k c b m q S H'∧Step (bP s H) (bP s H') w w':=by
 obtain ⟨H',h1,h2⟩:=h
 exact ⟨H',h1,h2.kC⟩
theorem zG (s k c b cap:Nat) (m:aB) (q:Cache) (S:au) (H:Nat→Prop) (a:Option Addr) (reads:List Int) (w:World) (h:Sys X w s k c b m q S H) (ok:m.Ok) (kn:m.kh) (hh:0<m.an.busy.length→m.an.home<w.heap.size) (hi:aJ w a reads H) (hcap:reads.length≤cap) (hm:reads.length≤1000000):Calls prog 57 #[.pointer (some ⟨s,0,none⟩),.slice a reads.length cap] w (dC X s k c b (cO m q reads).1 (cO m q reads).2.1 (cO m q reads).2.2.1 (cO m q reads).2.2.2.1 (cO m q reads).2.2.2.2 H w):=by
 have HL:=zH (vU s k c b m q S H w h ok kn hh)
 have HLO:=zH (fun sec V => @look_ok m sec V)
 obtain ⟨okl,hml⟩:=vS ok
 have HI:=zH (zA hi (zA okl (fun (w':World) (h:w.heap.size≤w'.heap.size) (hl:0<(fj m).1.an.busy.length)=>by
  have h1:=hh (zV hl hml.2)
  have h2:(fj m).1.an.home<w'.heap.size:=by rw [hml.1];omega
  exact h2)))
 unfold cO
 generalize fj m=lr at *
 obtain ⟨m',o,er⟩:=lr
 simp only at HL HLO HI
 have HC:=zH (fun m q H er w (h:Sys X w s k c b m q S H)=>mE s k c b m q S H er w h)
 have HO:=zH (fun m q H sec V va vc w (h:Sys X w s k c b m q S H) hv=>og s k c b m q S H sec V va vc w h hv)
 clear h ok kn hh okl hml hi
 go_enter func57,ntmps57
 go_wp2_with fail
 refine HL.out.mono ?_
 rintro e w1 ⟨va,vc,rfl,H',hs,st,hr⟩
 have HS:=zH (zA hs (zA st (HI.out.1.step st)))
 clear hs st hr HL
 by_cases k1:er=0
 ·
  subst k1
  have HSEC:=zH (show 4≤nm o∧nm o<8∧0≤nL o∧nL o=(o.getD (0,ck)).2.ak∧nm o=(if o.isSome=true then (o.getD (0,ck)).1 else 7) by
   cases o with
   | none=>exact ⟨by decide,by decide,by decide,rfl,rfl⟩
   | some x =>
    obtain ⟨h0,h1,h2⟩:=HLO.out x.1 x.2 rfl
    exact ⟨h0,h1,by have:=h2.ak;show 0≤x.2.ak;omega,rfl,rfl⟩)
  have HR:=zH (show qG (m',o,0) q reads=uM m' q (nm o) (nL o) reads from if_neg (by simp))
  clear HLO
  generalize nm o=sc at *
  generalize nL o=ep at *
  generalize o.isSome=oi at *
  generalize o.getD (0,ck)=p at *
  obtain ⟨sec,V⟩:=p
  simp only at HSEC ⊢
  obtain rfl:ep=V.ak:=HSEC.out.2.2.2.1
  have hep:=HSEC.out.2.2.1
  have HN:=zH (ae (Below.refl w1.heap.size w1) (.cells #[.bool V.bX,.int .i64 V.ak,.slice va V.ay.length vc,.int .i64 V.free] 52))
  have HV:=zH (ag w1 (.cells #[.bool V.bX,.int .i64 V.ak,.slice va V.ay.length vc,.int .i64 V.free] 52))
  have hlt:=aV HV.out
  have HB:=zH (zA (HS.out.1.aj HN.out) (zA ((HS.out.2.1.kC (s:=s)).trans (Step.ah HN.out)) (HS.out.2.2.step (Step.ah HN.out))))
  have HG:=zH (show Sys (fun i=>X i∨aM w1.heap.size i) _ s k c b m' q S H' from HS.out.1.grow (Touch.ah (F:=fun _=>False) HN.out) (fun i hi=>hi.elim) (fun i hi=>hi.elim) (fun _ hi=>hi.elim) (fun i hi=>hi.imp id fun hi=>by rw [show i=w1.heap.size from hi];exact ⟨Nat.le_refl _,hlt⟩))
  have HGD:=zH (show (∀ i,aM w1.heap.size i → ¬ bP s H' i)∧(0<m'.an.busy.length → ¬ aM w1.heap.size m'.an.home) from ⟨fun i hi hm=>by
   have:=HS.out.1.lt i hm
   rw [show i=w1.heap.size from hi] at this;omega,fun hl hx=>by
   have:=HI.out.2.2 w1 HS.out.2.1.aD.size hl
   rw [show m'.an.home=w1.heap.size from hx] at this;omega⟩)
  go_upto_if 26 with fail
  generalize w1.alloc (.cells #[.bool V.bX,.int .i64 V.ak,.slice va V.ay.length vc,.int .i64 V.free] 52)=w2 at *
  generalize hg:w1.heap.size=g at *
  go_cut [6] from 26 to 26 (fun v wx=>v=.int .i64 sc∧wx=w2)
  case first =>
   have h5:=HSEC.out.2.2.2.2
   cases oi with
   | true =>
    obtain rfl:sc=sec:=by simpa using h5
    clear h5
    go_wp2
    go_meet
    exact ⟨rfl,rfl⟩
   | false =>
    obtain rfl:sc=7:=by simpa using h5
    clear h5
    go_wp2
    go_meet
    exact ⟨rfl,rfl⟩
  case rest =>
   obtain ⟨rfl,hwc⟩:=hcut
   subst hwc
   obtain ⟨wa,hwa⟩ : ∃ wa,wa=wc:=⟨_,rfl⟩
   subst hwa
   have HN2:=zH (show Below w1.heap.size w1 wa by rw [hg];exact HN.out)
   clear HN
   obtain ⟨d0,d1,d2,d3,df⟩:=cw HV.out
   by_cases k2:1048576≤V.ak
   ·
    replace HR:=zH (HR.out.trans (if_pos k2))
    go_wp2_with fail
    refine (HC.out _ _ _ 2304 _ HB.out.1).mono ?_
    rintro e w3 ⟨rfl,H2,h2,st2⟩
    have HF:=zH (zA h2 (HB.out.2.1.trans st2))
    clear h2 st2
    go_wp2
    go_ret2
    rw [HR.out]
    exact dC.none HF.out.1 HF.out.2 (show (2304:Int)≠0 by decide)
   ·
    replace HR:=zH (HR.out.trans (if_neg k2))
    have hn:=qR HSEC.out.1 HSEC.out.2.1
    have HNX:=zH (fun w=>oq sc w (by have:=HSEC.out.1;omega) (by have:=HSEC.out.2.1;omega))
    have hw1:IntKind.i64.wrap (V.ak+1)=V.ak+1:=dz (by omega) (by omega)
    have HW1:=zH hw1
    clear hw1
    generalize fw sc=n at *
    go_upto_region 10 with fail
    go_cut [6] from 32 to 37 (fun v wx=>v=.int .i64 n∧wx.heap[g]? = some (.cells #[.bool true,.int .i64 (V.ak+1),.slice none 0 0,.int .i64 1] 52 (0,0))∧Touch (aM g) wa wx)
    case first =>
     go_region_with (go_at_call 89;refine (HNX.out _).mono ?_;rintro e w' ⟨rfl,rfl⟩)
     all_goals
      rw [HW1.out]
      go_wp2
      go_meet
      exact ⟨rfl,aa (aw zR) (eO HV.out _ _ _ _),(cN wa g _ _ _ _).drew⟩
    case rest =>
     obtain ⟨rfl,hgx,htx⟩:=hcut
     have hgw:w.heap.size≤g:=by rw [← hg];exact HS.out.2.1.aD.size
     have hx0 : ∀ i,aM g i→w1.heap.size≤i:=fun i hi=>by rw [show i=g from hi,hg];exact Nat.le_refl _
     have HS2:=zH (zA (HG.out.grow (Y:=X) htx (fun i hi=>.inr hi) HGD.out.1 HGD.out.2 (fun i hi=>.inl (.inl hi))) (zA (show Step (bP s H) (bP s H') w wc from ⟨HB.out.2.1.aD.then htx (fun i hi=>.inr (by rw [show i=g from hi];exact hgw)),HB.out.2.1.gA⟩) (zA (HS.out.2.2.new ((Touch.ah HN2.out).trans htx) hx0) hgx)))
     have hsz:w.heap.size≤wc.heap.size:=HS2.out.2.1.aD.size
     have HWT:=zH (fun w' (hb:Below wc.heap.size wc w')=>zg s k c b cap m' q S H' n a reads w' (HS2.out.1.aj hb) HI.out.2.1 (HS2.out.2.2.1.step (Step.ah hb)) hcap hm (HI.out.2.2 w' (Nat.le_trans hsz hb.size)) hn.1 hn.2)
     have HTO:=zH (CJ HI.out.2.1 (q:=q) n hn.1 hn.2 reads)
     have hgH : ¬ bP s H' g:=HGD.out.1 g rfl
     have HGH:=zH hgH
     generalize iO m' q n reads=t at *
     obtain ⟨m2,q2,out,er2⟩:=t
     simp only at HWT HTO
     obtain ⟨a0,cp0,h1,h2⟩:=HS2.out.1.st
     obtain ⟨c0,c1,c2,c3,c4,c5,c6,c7,cf⟩:=sL h1
     clear h1 h2 c2 c3 c4 c5 c6 c7 d0 d1 d2 d3 df hgx htx hx0 hgH
     go_upto_region 11 with fail
     go_cut [9,10] from 38 to 51 (fun v9 v10 wx=>v9=.int .i64 er2 ∧ ∃ H2,Sys X wx s k c b m2 q2 S H2∧Step H' H2 wc wx∧(er2=0→wx.ownsRow wc.heap.size 3 1 v10 out.length (az out) ∧ ∀ g,v10.ownBlock=some g → ¬ H2 g))
     case first =>
      go_region_with (go_at_call 90;refine (HWT.out _ (aw zR)).mono ?_;rintro e w' ⟨v,rfl,hv0,H2,hs2,st2,how⟩;have HQ:=zH (zA hs2 (zA ((Step.ah (aw zR)).trans st2) how));clear hs2 st2 how hv0)
      all_goals
       go_wp2
       go_meet
       exact ⟨rfl,H2,HQ.out.1,HQ.out.2.1,HQ.out.2.2⟩
     case rest =>
      obtain ⟨wb,hwb⟩ : ∃ wb,wb=wc:=⟨_,rfl⟩
      obtain ⟨rfl,H2,hs2,st2,how⟩:=hcut
      have HS3:=zH (zA hs2 (zA (HS2.out.2.1.trans st2.kC) (st2.aD.at HS2.out.2.2.2 (fun h=>HGH.out (.inl h)))))
      have HOW:=zH (zA how (zA (st2.kC.safe (aV HS2.out.2.2.2) HGH.out) (aV (HS2.out.1.st.choose_spec.choose_spec.1))))
      clear hs2 st2 how hwb
      obtain ⟨d0,d1,d2,d3,df⟩:=cw HS3.out.2.2
      by_cases k3:er2=0
      ·
       subst k3
       have HR2:=zH (show qH (m2,q2,out,0) n (V.ak+1)=oO (m2.dR (bU n 0) (aG (cz (V.ak+1)))) q2 n (V.ak+1) out from if_neg (by simp))
       have hrm:bz (cz (V.ak+1))=true:=by
        unfold bz cz
        rw [if_pos rfl]
        simp only [nM,kE]
        simp
        omega
       have HBU:=zH (fun w h=>sZ (X:=X) s k c b m2 q2 S H2 n 0 (cz (V.ak+1)) w h HTO.out hn.1 hn.2 (by decide) (by decide) hrm)
       rw [show (cz (V.ak+1)).cells = #[.int .i64 0,.int .i64 (V.ak+1),.string ⟨#[]⟩,.string ⟨#[]⟩] from rfl] at HBU
       clear hrm
       generalize m2.dR (bU n 0) (aG (cz (V.ak+1)))=br at *
       obtain ⟨m3,er3⟩:=br
       simp only at HBU
       go_wp2_with fail
       refine (HBU.out _ HS3.out.1).mono ?_
       rintro e w3 ⟨rfl,H3,hs3,st3⟩
       have HS4:=zH (zA hs3 (zA (HS3.out.2.1.trans st3.kC) st3))
       have HVW:=zH (st3.aD.at HS3.out.2.2 (fun h=>HOW.out.2.1 (.inl h)))
       clear hs3 st3 d0 d1 d2 d3 df c0 c1 cf
       obtain ⟨d0,d1,d2,d3,df⟩:=cw HVW.out
       by_cases k4:er3=0
       ·
        subst k4
        have HR3:=zH (show oO (m3,0) q2 n (V.ak+1) out=(m3,q2,⟨true,n,⟨true,V.ak+1,[],1⟩⟩,out,0) from if_neg (by simp))
        go_wp2_with fail
        refine (HO.out _ _ _ n ⟨true,V.ak+1,[],1⟩ none 0 _ HS4.out.1 (dM.nil _ _)).mono ?_
        rintro e w4 ⟨rfl,H4,hs4,st4⟩
        have HS5:=zH (zA hs4 (zA (HS4.out.2.1.trans st4) ((HS4.out.2.2.kC (s:=s)).trans st4)))
        clear hs4 st4
        go_wp2
        go_ret2
        rw [HR.out,HR2.out,HR3.out]
        have how:=HOW.out.1 (by trivial)
        have hfar : ∀ y,u10.ownBlock=some y → ¬ bP s H2 y:=fun y hy hm=>by
         have h1:=cH how.1 y hy
         rcases hm with hm | hm
         ·
          exact how.2 y hy hm
         ·
          have:=HOW.out.2.2;omega
        exact ⟨_,rfl,fun h0=>absurd rfl h0,H4,HS5.out.1,HS5.out.2.1,fun _=>⟨gu (cT how.1 HS5.out.2.2.aD hfar) hsz,fun y hy=>HS5.out.2.2.safe (kF how.1 y hy) (hfar y hy)⟩⟩
       ·
        have hne:(er3 != 0)=true:=bne_iff_ne.2 k4
        have HR3:=zH (show oO (m3,er3) q2 n (V.ak+1) out=(m3,q2,shut,[],er3) from if_pos k4)
        have HE:=zH k4
        clear k4
        go_wp2_with fail
        refine (HC.out _ _ _ er3 _ HS4.out.1).mono ?_
        rintro e w4 ⟨rfl,H4,hs4,st4⟩
        have HS5:=zH (zA hs4 (HS4.out.2.1.trans st4))
        clear hs4 st4
        go_wp2
        go_ret2
        rw [HR.out,HR2.out,HR3.out]
        exact dC.none HS5.out.1 HS5.out.2 HE.out
      ·
       have hne:(er2 == 0)=false:=zQ k3
       have hne2:(er2 != 0)=true:=bne_iff_ne.2 k3
       have HR2:=zH (show qH (m2,q2,out,er2) n (V.ak+1)=(m2,q2,shut,[],er2) from if_pos k3)
       have HE:=zH k3
       clear k3
       go_wp2_with fail
       refine (HC.out _ _ _ er2 _ HS3.out.1).mono ?_
       rintro e w3 ⟨rfl,H3,h3,st3⟩
       have HF:=zH (zA h3 (HS3.out.2.1.trans st3))
       clear h3 st3
       go_wp2
       go_ret2
       rw [HR.out,HR2.out]
       exact dC.none HF.out.1 HF.out.2 HE.out
 ·
  have hne:(er != 0)=true:=bne_iff_ne.2 k1
  have HR:=zH (show qG (m',o,er) q reads=(m',q,shut,[],er) from if_pos k1)
  have HE:=zH k1
  generalize o.isSome=oi at *
  generalize o.getD (0,ck)=p at *
  obtain ⟨sec,V⟩:=p
  simp only
  clear k1
  have HN:=zH (ae (Below.refl w1.heap.size w1) (.cells #[.bool V.bX,.int .i64 V.ak,.slice va V.ay.length vc,.int .i64 V.free] 52))
  go_wp2_with fail
  refine (HC.out _ _ _ er _ (HS.out.1.aj HN.out)).mono ?_
  rintro e w2 ⟨rfl,H2,h2,st2⟩
  have HF:=zH (zA h2 (((HS.out.2.1.kC (s:=s)).trans (Step.ah HN.out)).trans st2))
  clear h2 st2
  go_wp2
  go_ret2
  rw [HR.out]
  exact dC.none HF.out.1 HF.out.2 HE.out
end
section
open Go.RowKit
variable {X:Nat→Prop}
def bg.Je (V:bg):Prop:=V.ay.length≤7 ∧ ∀ r ∈ V.ay,gI r
theorem nn (s k c b:Nat) (m:aB) (q:Cache) (S:au) (H:Nat→Prop) (w:World) (h:Sys X w s k c b m q S H) (ok:S.view.Je):Calls prog 96 #[.pointer (some ⟨s,0,none⟩)] w fun e w' => ∃ v,e=.returned v∧w'.ownsRow w.heap.size 83 2 v (cg S.view.ay).length (aI (cg S.view.ay))∧Below w.heap.size w w':=by
 obtain ⟨a,cp,h1,h2⟩:=h.st
 have HB:=zH (nE (.slice a S.view.ay.length cp) S.view.ay w h2.at_ (by have:=ok.1;omega) ok.2)
 obtain ⟨c0,c1,c2,c3,c4,c5,c6,c7,cf⟩:=sL h1
 clear h h1 h2 ok c0 c1 c2 c3 c4 c5 c7
 go_enter func96,ntmps96
 go_wp2_with fail
 refine HB.out.mono ?_
 rintro e w1 ⟨v,rfl,ho,hb⟩
 have HS:=zH (zA ho hb)
 clear ho hb
 go_wp2
 go_ret
 exact ⟨v,rfl,HS.out⟩
def vJ (S:au) (key:ByteArray):ByteArray×Int:=if cJ S key≠0 then (⟨#[]⟩,cJ S key) else match jQ (cg S.view.ay) key with | none=>(⟨#[]⟩,2303) | some v=>(v,0)
theorem wZ (s k c b:Nat) (m:aB) (q:Cache) (S:au) (H:Nat→Prop) (key:ByteArray) (w:World) (h:Sys X w s k c b m q S H) (ok:S.view.Je):Calls prog 60 #[.pointer (some ⟨s,0,none⟩),.string key] w fun e w'=>e=.returned (.tuple #[.string (vJ S key).1,.int .i64 (vJ S key).2])∧Below w.heap.size w w':=by
 have HA:=zH (nA s k c b m q S H key w h)
 have HL:=zH (nn s k c b m q S H w h ok)
 have hbl:(cg S.view.ay).length≤100:=by
  have:=(dq _ S.view.ay rfl ok.2).2;have:=ok.1;omega
 have HF:=zH (fun v w h=>py v (cg S.view.ay) key w h (by omega))
 have HR:=zH (show vJ S key=if cJ S key≠0 then (⟨#[]⟩,cJ S key) else match jQ (cg S.view.ay) key with | none=>(⟨#[]⟩,2303) | some v=>(v,0) from rfl)
 clear h ok
 generalize vJ S key=gr at *
 generalize cJ S key=er at *
 generalize jQ (cg S.view.ay) key=fl at *
 generalize cg S.view.ay=ps at *
 go_enter func60,ntmps60
 go_wp2_with fail
 refine HA.out.mono ?_
 rintro e w1 ⟨rfl,rfl⟩
 by_cases k1:er=0
 ·
  subst k1
  replace HR:=zH (HR.out.trans (if_neg (by simp)))
  go_wp2_with fail
  refine HL.out.mono ?_
  rintro e w1 ⟨v,rfl,ho,hb⟩
  have HS:=zH (zA ho hb)
  clear ho hb
  obtain ⟨xa,xc,rfl⟩:=cA HS.out.1
  go_wp2_with fail
  refine (HF.out _ _ (bj.cX HS.out.1)).mono ?_
  rintro e w2 ⟨rfl,hb⟩
  have HS2:=zH (gtr HS.out.2 hb)
  clear hb
  cases fl with
  | none =>
   simp only [Option.getD_none,Option.isSome_none]
   go_wp2
   go_ret2
   rw [HR.out]
   exact ⟨rfl,HS2.out⟩
  | some x =>
   simp only [Option.getD_some,Option.isSome_some]
   go_wp2
   go_ret2
   rw [HR.out]
   exact ⟨rfl,HS2.out⟩
 ·
  have hne:(er != 0)=true:=bne_iff_ne.2 k1
  replace HR:=zH (HR.out.trans (if_pos k1))
  clear k1
  go_wp2
  go_ret2
  rw [HR.out]
  exact ⟨rfl,Below.refl _ _⟩
def kA (S:au):List aU×Int:=if S.opened=true then (cg S.view.ay,0) else ([],2302)
theorem uD (s k c b:Nat) (m:aB) (q:Cache) (S:au) (H:Nat→Prop) (w:World) (h:Sys X w s k c b m q S H) (ok:S.view.Je):Calls prog 62 #[.pointer (some ⟨s,0,none⟩)] w fun e w' => ∃ v,e=.returned (.tuple #[v,.int .i64 (kA S).2])∧w'.ownsRow w.heap.size 83 2 v (kA S).1.length (aI (kA S).1)∧Below w.heap.size w w':=by
 have HL:=zH (nn s k c b m q S H w h ok)
 obtain ⟨a,cp,h1,h2⟩:=h.st
 obtain ⟨c0,c1,c2,c3,c4,c5,c6,c7,cf⟩:=sL h1
 clear h ok h1 h2 c0 c1 c3 c4 c5 c6 c7
 unfold kA
 cases hs:S.opened with
 | false =>
  rw [hs] at c2
  rw [if_neg (by decide)]
  go_enter func62,ntmps62
  go_wp2
  go_ret2
  exact ⟨_,rfl,zN,Below.refl _ _⟩
 | true =>
  rw [hs] at c2
  rw [if_pos rfl]
  go_enter func62,ntmps62
  go_wp2_with fail
  refine HL.out.mono ?_
  rintro e w1 ⟨v,rfl,ho,hb⟩
  have HS:=zH (zA ho hb)
  clear ho hb
  go_wp2
  go_ret2
  exact ⟨v,rfl,HS.out⟩
end
section
open Go.RowKit
variable {X:Nat→Prop}
def CV (w:World) (b:Nat) (p:fu) (vs vr:Value):Prop:=w.heap[b]? = some (.cells (oU p vs vr) 228 (0,0))
def dA (r:aS):Bool:=r.kind != 0
def ix (S:au) (p:fu):bg:=⟨true,p.ak,(if p.dy<0 then S.view.ay else [])++p.ay.filter dA,p.free⟩
structure gy (w wr:World) (ep free:Int) (rs:List aS):Prop where
 below:Below w.heap.size w wr
 res:wr.heap[w.heap.size]? = some (.cells #[.bool false,.int .i64 0,.slice none 0 0,.int .i64 0] 52 (0,0))
 row : ∃ v,wr.heap[w.heap.size+1]? = some (.cells #[.bool true,.int .i64 ep,v,.int .i64 free] 52 (0,0))∧wr.ownsRow w.heap.size 74 4 v rs.length (bk rs)
theorem gy.put {w w2:World} {ep free:Int} {v v':Value} {rs:List aS} (hb:Below w.heap.size w w2) (e1:w2.heap[w.heap.size]? = some (.cells #[.bool false,.int .i64 0,.slice none 0 0,.int .i64 0] 52 (0,0))) (e2:w2.heap[w.heap.size+1]? = some (.cells #[.bool true,.int .i64 ep,v,.int .i64 free] 52 (0,0))) (ho:w2.ownsRow w.heap.size 74 4 v' rs.length (bk rs)):gy w (w2.setCell ⟨w.heap.size+1,2,none⟩ v') ep free rs :=
 ⟨kv hb (by simp) _,by rw [Below.heap_setCell _ _ _ _ (show w.heap.size≠w.heap.size+1 by omega)];exact e1,v',av (i:=2) (v:=v') e2,fy ho (eG ho e2 (by decide)) _⟩
theorem gy.aj {w wr w2:World} {ep free:Int} {rs:List aS} (h:gy w wr ep free rs) (hb:Below wr.heap.size wr w2):gy w w2 ep free rs:=by
 obtain ⟨v,h1,h2⟩:=h.row
 exact ⟨gtr h.below hb,aa hb h.res,v,aa hb h1,World.ownsRow.aj h2 hb⟩
def CP (V:bg) (w:World) (e:Ending) (w':World):Prop := ∃ va vc,e=.returned (.agg #[.bool V.bX,.int .i64 V.ak,.slice va V.ay.length vc,.int .i64 V.free])∧w'.ownsRow w.heap.size 74 4 (.slice va V.ay.length vc) V.ay.length (bk V.ay)∧Below w.heap.size w w'
theorem rM (s k c b pb:Nat) (m:aB) (q:Cache) (S:au) (H:Nat→Prop) (p:fu) (vs:Value) (ra:Option Addr) (rc:Nat) (w:World) (h:Sys X w s k c b m q S H) (hp:CV w pb p vs (.slice ra p.ay.length rc)) (hr:bj w (.slice ra p.ay.length rc) p.ay.length 4 (bk p.ay)) (hn:p.ay.length≤100) (ho:S.view.ay.length≤100):Calls prog 135 #[.pointer (some ⟨s,0,none⟩),.pointer (some ⟨pb,0,none⟩)] w (CP (ix S p) w):=by
 obtain ⟨a,cp,h1,h2⟩:=h.st
 have HCL:=zH (fun w h=>uu (.slice a S.view.ay.length cp) S.view.ay w h (by omega))
 have H0:=zH (zA hp (zA hr (zA h2.at_ h1)))
 obtain ⟨c0,c1,c2,c3,c4,c5,c6,c7,cf⟩:=sL h1
 obtain ⟨p0,p1,p2,p3,p4,p5,pf⟩:=jN hp
 have hpl:pb<w.heap.size:=aV hp
 have hsl:s<w.heap.size:=aV h1
 have hbB:=ae (Below.refl w.heap.size w) (.cells #[.bool false,.int .i64 0,.slice none 0 0,.int .i64 0] 52)
 have e4:=(hbB.cell (p:=⟨pb,4,none⟩) hpl).trans p4
 have e5:=(hbB.cell (p:=⟨pb,5,none⟩) hpl).trans p5
 have hres:=ag w (.cells #[.bool false,.int .i64 0,.slice none 0 0,.int .i64 0] 52)
 have hsz:(w.alloc (.cells #[.bool false,.int .i64 0,.slice none 0 0,.int .i64 0] 52)).heap.size=w.heap.size+1:=by simp
 have HB:=zH (zA hbB hres)
 clear h hp hr h1 h2 c0 c1 c2 c3 c4 c5 c6 c7 cf p0 p1 p2 p3 p4 p5 pf hbB hres
 go_enter func135,ntmps135
 go_upto_region 1 with fail
 generalize w.alloc (.cells #[.bool false,.int .i64 0,.slice none 0 0,.int .i64 0] 52)=W at *
 have hne:W.heap.size≠pb:=by omega
 have hne2:pb≠W.heap.size:=by omega
 have hlp:pb<W.heap.size:=by omega
 go_region_held3 (fun w'=>w'.cell? ⟨pb,4,none⟩=some (.int .i64 p.free)∧w'.cell? ⟨pb,5,none⟩=some (.int .i64 p.ak)) (first | go_keep | exact ⟨(World.cell?_alloc_lt _ _ _ hlp).trans e4,(World.cell?_alloc_lt _ _ _ hlp).trans e5⟩) (fail)
 have hbW:Below w.heap.size w (W.alloc (.cells #[.bool true,.int .i64 p.ak,.slice none 0 0,.int .i64 p.free] 52)).drew:=aw (ae HB.out.1 _)
 have hrow:(W.alloc (.cells #[.bool true,.int .i64 p.ak,.slice none 0 0,.int .i64 p.free] 52)).drew.heap[w.heap.size+1]? = some (.cells #[.bool true,.int .i64 p.ak,.slice none 0 0,.int .i64 p.free] 52 (0,0)):=by
  rw [← hsz];exact ag W _
 have hres2:=aa (aw (ae (Below.refl W.heap.size W) (.cells #[.bool true,.int .i64 p.ak,.slice none 0 0,.int .i64 p.free] 52))) HB.out.2
 generalize (W.alloc (.cells #[.bool true,.int .i64 p.ak,.slice none 0 0,.int .i64 p.free] 52)).drew=w2 at *
 have HA:=zH (show gy w w2 p.ak p.free [] from ⟨hbW,hres2,_,hrow,zN⟩)
 have HR:=zH hrow
 have p0:w2.cell? ⟨pb,0,none⟩=some (.int .i64 p.dy):=(hbW.cell (p:=⟨pb,0,none⟩) hpl).trans (cell_of H0.out.1 0)
 have c6:w2.cell? ⟨s,6,none⟩=some (.slice a S.view.ay.length cp):=(hbW.cell (p:=⟨s,6,none⟩) hsl).trans (cell_of H0.out.2.2.2 6)
 clear hbW hrow hres2 e4 e5 hne hne2 hlp hsz HB
 go_upto_if 21 with fail
 go_cut [28] from 21 to 28 (fun v wx=>gy w wx p.ak p.free (if p.dy<0 then S.view.ay else []))
 case first =>
  by_cases hw:p.dy<0
  ·
   have HW:=zH hw
   go_wp2_with fail
   refine (HCL.out _ (H0.out.2.2.1.aj HA.out.below)).mono ?_
   rintro e w3 ⟨v,rfl,ho,hb⟩
   have HS:=zH (zA (gu ho HA.out.below.size) (zA hb (aa hb HR.out)))
   clear ho hb
   obtain ⟨xa,xc,rfl⟩:=cA HS.out.1
   obtain ⟨d0,d1,d2,d3,df⟩:=cw HS.out.2.2
   go_wp2
   go_meet
   show gy _ _ _ _ _
   rw [if_pos (by have:=HW.out;omega)]
   exact gy.put (gtr HA.out.below HS.out.2.1) (aa HS.out.2.1 HA.out.res) HS.out.2.2 HS.out.1
  ·
   have HW:=zH hw
   go_wp2
   go_meet
   show gy _ _ _ _ _
   rw [if_neg (by have:=HW.out;omega)]
   exact HA.out
 case rest =>
  have HV:=zH (show ix S p=⟨true,p.ak,(if p.dy<0 then S.view.ay else [])++p.ay.filter dA,p.free⟩ from rfl)
  have hL:(if p.dy<0 then S.view.ay else []).length≤100:=by
   split
   ·
    exact ho
   ·
    simp
  generalize ix S p=V at *
  generalize (if p.dy<0 then S.view.ay else [])=L at *
  have HC:=zH hcut
  have q3:wc.cell? ⟨pb,3,none⟩=some (.slice ra p.ay.length rc):=(hcut.below.cell (p:=⟨pb,3,none⟩) hpl).trans (cell_of H0.out.1 3)
  have HX:=zH (fun i (hi:i<p.ay.length)=>mU p.ay i hi)
  have HT:=zH (fun j (hj:j<p.ay.length)=>List.take_succ_eq_append_getElem hj)
  obtain ⟨j0,ji,jz0,jz1,jz2⟩:=info_parts vM
  clear p0 c6 HA HR HCL hcut
  go_wp2
  go_loopg [34] p.ay.length (fun n i wr => ∃ j:Nat,n=p.ay.length - j∧i=.int .i64 j∧j≤p.ay.length∧gy w wr p.ak p.free (L++(p.ay.take j).filter dA))
  case atStart=>exact ⟨0,rfl,rfl,Nat.zero_le _,by simpa using HC.out⟩
  case round =>
   obtain ⟨j,hgn,rfl,hj,hM⟩:=hrel
   have HB:=zH (zA hgn hM)
   clear hgn hM
   by_cases hlt:j<p.ay.length
   ·
    have hlt':(j:Int)<(p.ay.length:Int):=by omega
    obtain ⟨b',o,rfl,hc,hx⟩:=H0.out.2.1.some (by omega)
    obtain ⟨r0,r1,r2,r3⟩:=HX.out j hlt
    have cc : ∀ i u,(bk p.ay)[4 * j+i]? = some u→wr.cell? ⟨b',o+j * 4+i,none⟩=some u:=fun i u hu=>by
     have e:=hx _ _ hu
     rw [show o+j * 4+i=o+(4 * j+i) by omega]
     exact (HB.out.2.below.cell (p:=⟨b',o+(4 * j+i),none⟩) (zL w _ e)).trans e
    have HCC:=zH cc
    have d0:wr.cell? ⟨b',o+j * 4,none⟩=some (.int .i64 p.ay[j].kind):=cc 0 _ r0
    have d1:wr.cell? ⟨b',o+j * 4+1,none⟩=some (.int .i64 p.ay[j].ak):=cc 1 _ r1
    have d2:wr.cell? ⟨b',o+j * 4+2,none⟩=some (.string p.ay[j].key):=cc 2 _ r2
    have d3:wr.cell? ⟨b',o+j * 4+3,none⟩=some (.string p.ay[j].value):=cc 3 _ r3
    have HTK:=zH (show (p.ay.take (j+1)).filter dA=(p.ay.take j).filter dA++[p.ay[j]].filter dA by rw [HT.out j hlt,List.filter_append])
    have HLE:=zH (show ((p.ay.take j).filter dA).length≤j from Nat.le_trans (List.length_filter_le _ _) (by rw [List.length_take];omega))
    clear cc r0 r1 r2 r3 hx
    generalize p.ay[j]=r at *
    have e0:=ag wr (.cells #[.int .i64 r.kind,.int .i64 r.ak,.string r.key,.string r.value] 74)
    have HN:=zH (HB.out.2.aj (ae (Below.refl _ wr) (.cells #[.int .i64 r.kind,.int .i64 r.ak,.string r.key,.string r.value] 74)))
    obtain ⟨f0,f1,f2,f3,ff⟩:=cw e0
    have HE0:=zH e0
    have hgl:=aV e0
    clear e0
    go_upto_region 7 with fail
    clear d0 d1 d2 d3
    generalize wr.heap.size=g at *
    generalize wr.alloc (.cells #[.int .i64 r.kind,.int .i64 r.ak,.string r.key,.string r.value] 74)=w3 at *
    by_cases hk:r.kind=0
    ·
     have hkb:(r.kind != 0)=false:=by rw [hk];rfl
     replace HTK:=zH (show (p.ay.take (j+1)).filter dA=(p.ay.take j).filter dA by rw [HTK.out,List.filter_cons_of_neg (by unfold dA;rw [hkb];decide)];simp)
     rw [hk] at f0
     clear hk hkb
     go_wp2
     go_roundg (p.ay.length - (j+1))
     case measure=>have:=HB.out.1;omega
     case rel=>exact ⟨j+1,rfl,by go_num,by omega,by rw [HTK.out];exact HN.out⟩
    ·
     have hkb:(r.kind != 0)=true:=bne_iff_ne.2 hk
     replace HTK:=zH (show L++(p.ay.take (j+1)).filter dA=(L++(p.ay.take j).filter dA)++[r] by rw [HTK.out,List.filter_cons_of_pos (by unfold dA;exact hkb),List.append_assoc];rfl)
     have hML:(L++(p.ay.take j).filter dA).length≤200:=by rw [List.length_append];have:=HLE.out;omega
     generalize L++(p.ay.take j).filter dA=M at *
     obtain ⟨v,hrow,hown⟩:=HN.out.row
     obtain ⟨t0,t1,t2,t3,tf⟩:=cw hrow
     have HO:=zH (zA hrow hown)
     clear hrow hown hk
     go_wp2_with (at_builtin;refine wpList_append_lies _ rfl _ _ 50 rfl w.heap.size 74 j0 (.agg #[.int .i64 0,.int .i64 0,.string ⟨#[]⟩,.string ⟨#[]⟩]) 4 48 underlying50 ji jz0 jz1 jz2 rfl (by decide) v M.length (bk M) ?b1 (World.ownsRow.aj HO.out.2 (ae zR _)) ⟨w3.heap.size,0,none⟩ 1 1 [.int .i64 r.kind,.int .i64 r.ak,.string r.key,.string r.value] ?b2 rfl ?b3 ?b4 (by decide) ?b5 ?b6 ?b7 _ rfl ?_)
     case b1=>rfl
     case b2=>rfl
     case b3=>exact World.news_of_block (cs := #[.int .i64 r.kind,.int .i64 r.ak,.string r.key,.string r.value]) (t:=74) (fr:=(0,0)) (ag w3 _)
     case b4=>intro u hu;simp only [List.mem_cons,List.not_mem_nil,or_false] at hu;rcases hu with rfl | rfl | rfl | rfl <;> rfl
     case b5=>simp only [maxLen];omega
     case b6=>omega
     case b7=>have:=HN.out.below.size;simp only [World.size_alloc];omega
     intro g5 cap5 w4 how hgr _ _
     have hgr2:=ku (ae (Below.refl w3.heap.size w3) (.cells #[.int .i64 r.kind,.int .i64 r.ak,.string r.key,.string r.value] 74)) hgr
     have how2:w4.ownsRow w.heap.size 74 4 (.slice (some ⟨g5,0,none⟩) (M.length+1) cap5) (M++[r]).length (bk (M++[r])):=by
      rw [List.length_append,jY];exact how
     have h1:w4.heap[w.heap.size]? = _:=(hgr2.block _ (aV HN.out.res) (eG HO.out.2 HN.out.res (by decide))).trans HN.out.res
     have h2:w4.heap[w.heap.size+1]? = _:=(hgr2.block _ (aV HO.out.1) (eG HO.out.2 HO.out.1 (by decide))).trans HO.out.1
     have HP:=zH (gy.put (nS HN.out.below HN.out.below.size (cH HO.out.2) hgr2) h1 h2 how2)
     obtain ⟨x0,x1,x2,x3,xf⟩:=cw h2
     clear how hgr hgr2 how2 h1 h2 t0 t1 t2 t3 tf f0 f1 f2 f3 ff
     go_wp2
     go_roundg (p.ay.length - (j+1))
     case measure=>have:=HB.out.1;omega
     case rel=>exact ⟨j+1,rfl,by go_num,by omega,by rw [HTK.out];exact HP.out⟩
   ·
    obtain rfl:j=p.ay.length:=by omega
    rw [List.take_length] at HB
    generalize L++p.ay.filter dA=M at *
    obtain ⟨v,hrow,hown⟩:=HB.out.2.row
    obtain ⟨xa,xc,rfl⟩:=cA hown
    obtain ⟨t0,t1,t2,t3,tf⟩:=cw hrow
    obtain ⟨z0,z1,z2,z3,zf⟩:=cw HB.out.2.res
    have HO:=zH (zA hrow hown)
    clear hrow hown
    go_wp2_with fail
    have hq:=eO HB.out.2.res (.bool true) (.int .i64 p.ak) (.slice xa M.length xc) (.int .i64 p.free)
    obtain ⟨q0,q1,q2,q3,qf⟩:=cw hq
    refine bodyPost_ret (v:=.agg #[.bool true,.int .i64 p.ak,.slice xa M.length xc,.int .i64 p.free]) ?_ rfl ?_
    ·
     change (results _ _).run _ (lL _ _ _ _ _ _)=_
     simp [results,results135,go_sem,q0,q1,q2,q3]
     rfl
    ·
     rw [HV.out]
     have ht:=cT HO.out.2 (cN wr w.heap.size (.bool true) (.int .i64 p.ak) (.slice xa M.length xc) (.int .i64 p.free)) (fun y hy hx=>eG HO.out.2 HB.out.2.res (by decide) (by rw [hy];exact congrArg some (show y=w.heap.size from hx).symm))
     exact ⟨xa,xc,rfl,ht,((((HB.out.2.below.setCell (p:=⟨w.heap.size,0,none⟩) zY _).setCell (p:=⟨w.heap.size,1,none⟩) zY _).setCell (p:=⟨w.heap.size,2,none⟩) zY _).setCell (p:=⟨w.heap.size,3,none⟩) zY _)⟩
end
structure AQ (w:World) (a:Option Addr) (cp n sz:Nat) (cs:List Value) (F:Nat→Prop):Prop where
 at_:bj w (.slice a n cp) n sz cs
 fh : ∀ x o f,a=some ⟨x,o,f⟩→0<n → ¬ F x
theorem AQ.step {w w':World} {a:Option Addr} {cp n sz:Nat} {cs:List Value} {F G:Nat→Prop} (h:AQ w a cp n sz cs F) (hz:0<sz) (st:Step F G w w'):AQ w' a cp n sz cs G:=by
 rcases h.at_.ex with ⟨h1,h0⟩ | ⟨b,o,c,hv,hc,hx⟩
 ·
  exact ⟨⟨h.at_.len,.inl ⟨h1,h0⟩⟩,fun x o f e hl=>by omega⟩
 ·
  have hv':a=some ⟨b,o,none⟩:=by simp only [Value.slice.injEq] at hv;exact hv.1
  have hpos : ∀ i u,cs[i]? = some u→0<n:=fun i u hu=>by
   have h1:=(List.getElem?_eq_some_iff.1 hu).1
   rw [h.at_.len] at h1
   rcases Nat.eq_zero_or_pos n with h2 | h2
   ·
    rw [h2] at h1;simp at h1
   ·
    exact h2
  refine ⟨⟨h.at_.len,.inr ⟨b,o,c,hv,hc,fun i u hu=>st.aD.cell _ _ (hx i u hu) (h.fh _ _ _ hv' (hpos i u hu))⟩⟩,fun x o' f e hl => ?_⟩
  have hlen:0<cs.length:=by rw [h.at_.len];exact Nat.mul_pos hl hz
  have hb:=zL w _ (hx 0 _ (List.getElem?_eq_getElem hlen))
  rw [hv'] at e
  obtain ⟨rfl,_⟩:b=x∧_:=by simpa using e
  exact st.safe hb (h.fh _ _ _ hv' hl)
structure uZ (w:World) (pb:Nat) (p:fu) (sa:Option Addr) (sc:Nat) (ra:Option Addr) (rc:Nat) (F:Nat→Prop):Prop where
 at_:CV w pb p (.slice sa p.bH.length sc) (.slice ra p.ay.length rc)
 fh : ¬ F pb
 bH:AQ w sa sc p.bH.length 1 (az p.bH) F
 ay:AQ w ra rc p.ay.length 4 (bk p.ay) F
theorem uZ.step {w w':World} {pb:Nat} {p:fu} {sa:Option Addr} {sc:Nat} {ra:Option Addr} {rc:Nat} {F G:Nat→Prop} (h:uZ w pb p sa sc ra rc F) (st:Step F G w w'):uZ w' pb p sa sc ra rc G :=
 ⟨st.aD.at h.at_ h.fh,st.safe (aV h.at_) h.fh,h.bH.step (by decide) st,h.ay.step (by decide) st⟩
structure fu.Ok (p:fu):Prop where
 aq:4≤p.aq∧p.aq<8
 dy:p.dy<0∨(4≤p.dy∧p.dy<8)
 len:p.bH.length=p.ay.length
 I9:p.ay.length≤8
 bH : ∀ x ∈ p.bH,0≤x∧x<8
 ay : ∀ r ∈ p.ay,bz r=true
def eB (sec:Int):List (Int×aS)→aB→aB×Int
 | [],m=>(m,0)
 | x::l,m=>if (m.dR (bU sec x.1) (aG x.2)).2≠0 then m.dR (bU sec x.1) (aG x.2) else eB sec l (m.dR (bU sec x.1) (aG x.2)).1
theorem xY (sec:Int) (s0:4≤sec) (s1:sec<8) : ∀ (l:List (Int×aS)) (m:aB),m.Ok→(∀ x ∈ l,0≤x.1∧x.1<8∧bz x.2=true)→(eB sec l m).1.Ok∧bD m (eB sec l m).1
 | [],m,ok,h=>⟨ok,bD.refl m⟩
 | x::l,m,ok,h=>by
  obtain ⟨h0,h1,h2⟩:=h x (by simp)
  have hsz:(aG x.2).size=64:=by
   unfold aG
   rw [eQ,cY _ _ (fU h2)]
  have o1:=vh ok (bU sec x.1) (aG x.2) (by unfold bU;omega) (by unfold bU;omega) hsz
  have m1:=mA m (bU sec x.1) (aG x.2)
  unfold eB
  split
  ·
   exact ⟨o1,m1⟩
  ·
   have:=xY sec s0 s1 l _ o1 (fun y hy=>h y (by simp [hy]))
   exact ⟨this.1,m1.trans this.2⟩
def firstT (m:aB) (q:Cache) (p:fu) (reads:List Int):aB×Cache×List Int×Int:=if 0≤p.dy then iO m q p.dy reads else (m,q,[],0)
def fM (b:aB×Int) (q:Cache) (dy:Int) (out reads:List Int):aB×Cache×List Int×Int:=if b.2≠0 then (b.1,q,[],b.2) else if 0≤dy then (b.1,q,out,0) else dx reads [] b.1 q
def o7 (t:aB×Cache×List Int×Int) (p:fu) (reads:List Int):aB×Cache×List Int×Int:=if t.2.2.2≠0 then (t.1,t.2.1,[],t.2.2.2) else fM (eB p.aq (p.bH.zip p.ay) t.1) t.2.1 p.dy t.2.2.1 reads
def dQ (m:aB) (q:Cache) (p:fu) (reads:List Int):aB×Cache×List Int×Int:=o7 (firstT m q p reads) p reads
section
open Go.RowKit
variable {X:Nat→Prop}
theorem AD (s k c b cap pb:Nat) (m:aB) (q:Cache) (S:au) (H:Nat→Prop) (p:fu) (sa:Option Addr) (sc:Nat) (ra:Option Addr) (rc:Nat) (a:Option Addr) (reads:List Int) (w:World) (h:Sys X w s k c b m q S H) (ok:m.Ok) (g:q.Good) (hh:0<m.an.busy.length→m.an.home<w.heap.size) (hi:aJ w a reads H) (hcap:reads.length≤cap) (hr:cP reads=true) (hp:uZ w pb p sa sc ra rc H) (pk:p.Ok):Calls prog 134 #[.pointer (some ⟨s,0,none⟩),.pointer (some ⟨pb,0,none⟩),.slice a reads.length cap] w (zt X s k c b (dQ m q p reads).1 (dQ m q p reads).2.1 S (dQ m q p reads).2.2.1 (dQ m q p reads).2.2.2 H w):=by
 have hlen:=(iM hr).1
 have HWT:=zH (fun w' (hb:Below w.heap.size w w') (h0:4≤p.dy∧p.dy<8)=>zg s k c b cap m q S H p.dy a reads w' (h.aj hb) ok (hi.step (Step.ah hb)) hcap (by omega) (fun hl=>zV (hh hl) hb.size) h0.1 h0.2)
 have HTF:=zH (show (0≤p.dy→firstT m q p reads=iO m q p.dy reads)∧(¬ 0≤p.dy→firstT m q p reads=(m,q,[],0)) from ⟨fun h=>if_pos h,fun h=>if_neg h⟩)
 have HTO:=zH (show (firstT m q p reads).1.Ok∧bD m (firstT m q p reads).1 by
  unfold firstT
  split
  ·
   rename_i h0
   have h4:4≤p.dy∧p.dy<8:=by have:=pk.dy;omega
   refine ⟨CJ ok p.dy h4.1 h4.2 reads,?_⟩
   unfold iO
   rw [if_pos hr]
   exact (rT ok _ (by omega) (by omega) reads (fun x hx=>by have:=(iM hr).2 x hx;omega)).2.2
  ·
   exact ⟨ok,bD.refl m⟩)
 have HR:=zH (show dQ m q p reads=o7 (firstT m q p reads) p reads from rfl)
 have H0:=zH (zA h (zA hi (zA hp hh)))
 have HPK:=zH pk
 have HG:=zH (zA g hr)
 have hw48:p.dy<0∨(4≤p.dy∧p.dy<8):=pk.dy
 obtain ⟨a0,cp0,h1,h2⟩:=h.st
 obtain ⟨c0,c1,c2,c3,c4,c5,c6,c7,cf⟩:=sL h1
 obtain ⟨p0,p1,p2,p3,p4,p5,pf⟩:=jN hp.at_
 clear h ok g hi hr hp pk hh h1 h2 c2 c3 c4 c5 c6 c7 p4 p5
 generalize dQ m q p reads=wr0 at *
 generalize firstT m q p reads=T at *
 obtain ⟨m1,q1,out1,er1⟩:=T
 simp only at HTO
 go_enter func134,ntmps134
 go_upto_if 18 with fail
 go_cut [8] from 18 to 39 (fun v wx => ∃ H1,Sys X wx s k c b m1 q1 S H1∧Step H H1 w wx∧er1=0∧wx.ownsRow w.heap.size 3 1 v out1.length (az out1)∧(∀ g,v.ownBlock=some g → ¬ H1 g))
 case first =>
  by_cases hw:p.dy<0
  ·
   have HWN:=zH (HTF.out.2 (by omega))
   go_wp2
   go_meet
   have e:=HWN.out
   simp only [Prod.mk.injEq] at e
   obtain ⟨rfl,rfl,rfl,rfl⟩:=e
   exact ⟨H,H0.out.1,Step.refl _ _,rfl,zN,by simp [Value.ownBlock]⟩
  ·
   have h4:4≤p.dy∧p.dy<8:=by omega
   have HWX:=zH (fun w' hb=>HWT.out w' hb h4)
   rw [← HTF.out.1 (by omega)] at HWX
   simp only at HWX
   have hge:0≤p.dy:=by omega
   clear HWT HTF hw48
   go_upto_region 3 with fail
   go_cut [9,10] from 18 to 35 (fun v9 v10 wx=>v10=.int .i64 er1 ∧ ∃ H1,Sys X wx s k c b m1 q1 S H1∧Step H H1 w wx∧(er1=0→wx.ownsRow w.heap.size 3 1 v9 out1.length (az out1) ∧ ∀ g,v9.ownBlock=some g → ¬ H1 g))
   case first =>
    go_region_with (go_at_call 90;refine (HWX.out _ (aw zR)).mono ?_;rintro e w' ⟨v,rfl,hv0,H2,hs2,st2,how⟩;have HQ:=zH (zA hs2 (zA ((Step.ah (aw zR)).trans st2) how));clear hs2 st2 how hv0)
    all_goals
     go_wp2
     go_meet
     exact ⟨rfl,H2,HQ.out.1,HQ.out.2.1,HQ.out.2.2⟩
   case rest =>
    obtain ⟨rfl,H2,hs2,st2,how⟩:=hcut
    have HS:=zH (zA hs2 (zA st2 how))
    clear hs2 st2 how
    by_cases ke:er1=0
    ·
     have HE:=zH ke
     subst ke
     go_wp2
     go_meet
     exact ⟨H2,HS.out.1,HS.out.2.1,by trivial,(HS.out.2.2 (by trivial)).1,(HS.out.2.2 (by trivial)).2⟩
    ·
     have hne:(er1 != 0)=true:=bne_iff_ne.2 ke
     have HE:=zH ke
     clear ke
     go_wp2
     go_ret2
     rw [HR.out,o7,if_pos HE.out]
     exact ⟨_,rfl,fun _=>rfl,H2,HS.out.1,HS.out.2.1,fun h0=>absurd h0 HE.out⟩
 case rest =>
  obtain ⟨H1,hs1,st1,rfl,ho1⟩:=hcut
  have HS:=zH (zA hs1 (zA st1 ho1))
  replace HR:=zH (show wr0=fM (eB p.aq (p.bH.zip p.ay) m1) q1 p.dy out1 reads from HR.out.trans (if_neg (by simp)))
  have HPL:=zH (H0.out.2.2.1.step st1)
  clear hs1 st1 ho1 p0 p1 p2 p3 pf c0 c1 cf HWT
  obtain ⟨p0,p1,p2,p3,p4,p5,pf⟩:=jN HPL.out.at_
  have hsl:(az p.bH).length=p.bH.length:=by simp [az]
  have hsn:p.bH.length≤8:=by have:=HPK.out.I9;have:=HPK.out.len;omega
  go_wp2
  go_loopg [45] p.bH.length (fun gn i wr => ∃ (j:Nat) (mj:aB) (Hj:Nat→Prop),gn=p.bH.length - j∧i=.int .i64 j∧j≤p.bH.length∧eB p.aq ((p.bH.zip p.ay).drop j) mj=eB p.aq (p.bH.zip p.ay) m1∧mj.Ok∧bD m mj∧Sys X wr s k c b mj q1 S Hj∧Step H Hj w wr∧wr.ownsRow w.heap.size 3 1 u8 out1.length (az out1) ∧ ∀ g,u8.ownBlock=some g → ¬ Hj g)
  case atStart=>exact ⟨0,m1,H1,rfl,rfl,Nat.zero_le _,rfl,HTO.out.1,HTO.out.2,HS.out.1,HS.out.2.1,HS.out.2.2.1,HS.out.2.2.2⟩
  case round =>
   obtain ⟨j,mj,Hj,hgn,rfl,hj,hbl,okj,hmj,hsj,stj,hoj⟩:=hrel
   have HJ:=zH (zA hgn (zA hbl (zA okj (zA hmj (zA hsj (zA stj hoj))))))
   have HPJ:=zH (H0.out.2.2.1.step stj)
   clear hgn hbl okj hmj hsj stj hoj p0 p1 p2 p3 p4 p5 pf
   obtain ⟨p0,p1,p2,p3,p4,p5,pf⟩:=jN HPJ.out.at_
   by_cases hlt:j<p.bH.length
   ·
    have hlt':(j:Int)<(p.bH.length:Int):=by omega
    have hrl:p.ay.length=p.bH.length:=HPK.out.len.symm
    have hrlt:j<p.ay.length:=by omega
    have hrlt':(j:Int)<(p.ay.length:Int):=by omega
    obtain ⟨sb,so,rfl,hsc,hsx⟩:=HPJ.out.bH.at_.some (by omega)
    obtain ⟨rb,ro,rfl,hrc,hrx⟩:=HPJ.out.ay.at_.some (by omega)
    obtain ⟨r0,r1,r2,r3⟩:=mU p.ay j hrlt
    have x0:wr.cell? ⟨sb,so+j,none⟩=some (.int .i64 p.bH[j]):=hsx j _ (by simp [az,hlt])
    have d0:wr.cell? ⟨rb,ro+j * 4,none⟩=some (.int .i64 p.ay[j].kind):=by rw [Nat.mul_comm];exact hrx _ _ r0
    have d1:wr.cell? ⟨rb,ro+j * 4+1,none⟩=some (.int .i64 p.ay[j].ak):=by rw [Nat.mul_comm,Nat.add_assoc];exact hrx _ _ r1
    have d2:wr.cell? ⟨rb,ro+j * 4+2,none⟩=some (.string p.ay[j].key):=by rw [Nat.mul_comm,Nat.add_assoc];exact hrx _ _ r2
    have d3:wr.cell? ⟨rb,ro+j * 4+3,none⟩=some (.string p.ay[j].value):=by rw [Nat.mul_comm,Nat.add_assoc];exact hrx _ _ r3
    have hl8:=HPK.out.bH _ (List.getElem_mem hlt)
    have hrm:=HPK.out.ay _ (List.getElem_mem hrlt)
    have hsec:=HPK.out.aq
    have HDR:=zH (show (p.bH.zip p.ay).drop j=(p.bH[j],p.ay[j])::(p.bH.zip p.ay).drop (j+1) by
     rw [List.drop_eq_getElem_cons (by rw [List.length_zip];omega),List.getElem_zip])
    generalize p.bH[j]=l at *
    generalize p.ay[j]=r at *
    have HBU:=zH (fun w' (hb:Below wr.heap.size wr w')=>sZ (X:=X) s k c b mj q1 S Hj p.aq l r w' (HJ.out.2.2.2.2.1.aj hb) HJ.out.2.2.1 hsec.1 hsec.2 hl8.1 hl8.2 hrm)
    have HMB:=zH (show (mj.dR (bU p.aq l) (aG r)).1.Ok∧bD mj (mj.dR (bU p.aq l) (aG r)).1 by
     have hsz:(aG r).size=64:=by
      unfold aG
      rw [eQ,cY _ _ (fU hrm)]
     exact ⟨vh HJ.out.2.2.1 (bU p.aq l) (aG r) (by unfold bU;omega) (by unfold bU;omega) hsz,mA _ _ _⟩)
    replace HDR:=zH (show eB p.aq ((p.bH.zip p.ay).drop j) mj=if (mj.dR (bU p.aq l) (aG r)).2≠0 then mj.dR (bU p.aq l) (aG r) else eB p.aq ((p.bH.zip p.ay).drop (j+1)) (mj.dR (bU p.aq l) (aG r)).1 by rw [HDR.out];rfl)
    unfold aS.cells at HBU
    generalize mj.dR (bU p.aq l) (aG r)=br at *
    obtain ⟨m2,er2⟩:=br
    simp only at HBU HMB HDR
    clear r0 r1 r2 r3 hsx hrx hl8 hrm p0 p2 p4 p5
    go_upto_region 10 with fail
    go_cut [13] from 50 to 63 (fun v wx=>v=.int .i64 er2 ∧ ∃ H2,Sys X wx s k c b m2 q1 S H2∧Step Hj H2 wr wx)
    case first =>
     go_region_with (go_at_call 91;refine (HBU.out _ (aw zR)).mono ?_;rintro e w' ⟨rfl,H2,hs2,st2⟩;have HQ:=zH (zA hs2 ((Step.ah (aw zR)).trans st2));clear hs2 st2)
     all_goals
      go_wp2
      go_meet
      exact ⟨rfl,H2,HQ.out⟩
    case rest =>
     obtain ⟨rfl,H2,hs2,st2⟩:=hcut
     have HS2:=zH (zA hs2 (zA (HJ.out.2.2.2.2.2.1.trans st2) (zA (cT HJ.out.2.2.2.2.2.2.1 st2.aD (fun y hy=>HJ.out.2.2.2.2.2.2.2 y hy)) (fun y hy=>st2.safe (kF HJ.out.2.2.2.2.2.2.1 y hy) (HJ.out.2.2.2.2.2.2.2 y hy)))))
     clear hs2 st2 p1 p3 pf d0 d1 d2 d3 x0
     by_cases ke:er2=0
     ·
      subst ke
      have HD2:=zH (HDR.out.symm.trans HJ.out.2.1)
      replace HD2:=zH ((if_neg (by simp)).symm.trans HD2.out)
      have HQ:=zH (zA HMB.out.1 (HJ.out.2.2.2.1.trans HMB.out.2))
      go_wp2
      go_roundg (p.bH.length - (j+1))
      case measure=>have:=HJ.out.1;omega
      case rel=>exact ⟨j+1,m2,H2,rfl,by go_num,by omega,HD2.out,HQ.out.1,HQ.out.2,HS2.out.1,HS2.out.2.1,HS2.out.2.2.1,HS2.out.2.2.2⟩
     ·
      have hne:(er2 != 0)=true:=bne_iff_ne.2 ke
      have HE:=zH ke
      have HD2:=zH (HJ.out.2.1.symm.trans (HDR.out.trans (if_pos ke)))
      clear ke
      go_wp2
      go_ret2
      rw [HR.out,HD2.out,fM,if_pos HE.out]
      exact ⟨_,rfl,fun _=>rfl,H2,HS2.out.1,HS2.out.2.1,fun h0=>absurd h0 HE.out⟩
   ·
    obtain rfl:j=p.bH.length:=by omega
    have HB:=zH (show (mj,(0:Int))=eB p.aq (p.bH.zip p.ay) m1 by
     rw [← HJ.out.2.1,List.drop_of_length_le (by rw [List.length_zip];omega)];rfl)
    obtain ⟨a1,cp1,h1,h2⟩:=HJ.out.2.2.2.2.1.st
    obtain ⟨c0,c1,c2,c3,c4,c5,c6,c7,cf⟩:=sL h1
    clear h1 h2 c0 c2 c3 c4 c5 c6 c7 p1 p2 p3 p4 p5
    by_cases hw:p.dy<0
    ·
     have e:=HTF.out.2 (by omega)
     simp only [Prod.mk.injEq] at e
     have hq1:q1=q:=e.2.1
     have HAL:=zH (Ko s k c b cap mj q1 S Hj a reads wr HJ.out.2.2.2.2.1 HJ.out.2.2.1 (by rw [hq1];exact HG.out.1) (H0.out.2.1.step HJ.out.2.2.2.2.2.1) hcap (fun hl=>by
      have h3:=HJ.out.2.2.2.1
      have h4:=H0.out.2.2.2 (zV hl h3.2)
      have h5:=HJ.out.2.2.2.2.2.1.aD.size
      rw [h3.1];omega) HG.out.2)
     have HW:=zH (show fM (mj,0) q1 p.dy out1 reads=dx reads [] mj q1 by
      unfold fM
      rw [if_neg (by simp),if_neg (by omega)])
     clear e hq1 hw48 HTF
     generalize dx reads [] mj q1=rr at *
     go_wp2_with fail
     refine HAL.out.mono ?_
     rintro e w2 ⟨v,rfl,hv0,H2,hs2,st2,how⟩
     have HQ:=zH (zA hs2 (zA (HJ.out.2.2.2.2.2.1.trans st2) (zA hv0 how)))
     clear hs2 st2 hv0 how
     go_wp2
     go_ret2
     rw [HR.out,← HB.out,HW.out]
     exact ⟨v,rfl,HQ.out.2.2.1,H2,HQ.out.1,HQ.out.2.1,fun h0=>⟨gu (HQ.out.2.2.2 h0).1 HJ.out.2.2.2.2.2.1.aD.size,(HQ.out.2.2.2 h0).2⟩⟩
    ·
     have hge:0≤p.dy:=by omega
     have HW:=zH (show fM (mj,0) q1 p.dy out1 reads=(mj,q1,out1,0) by
      unfold fM
      rw [if_neg (by simp),if_pos hge])
     clear hw48 HTF hw
     go_wp2
     go_ret2
     rw [HR.out,← HB.out,HW.out]
     exact ⟨_,rfl,fun h0=>absurd rfl h0,Hj,HJ.out.2.2.2.2.1,HJ.out.2.2.2.2.2.1,fun _=>⟨HJ.out.2.2.2.2.2.2.1,HJ.out.2.2.2.2.2.2.2⟩⟩
end
def mr (x:aU):Prop:=bz (eI x)=true
theorem FT {r:aS} (h:bz r=true) (hk:r.kind=1):mr ⟨r.key,r.value⟩:=by
 unfold mr eI
 unfold bz at h ⊢
 rw [if_neg (by rw [hk];decide),if_pos hk] at h
 simp only at h ⊢
 rw [if_neg (by decide)]
 simp only [Bool.and_eq_true,if_true] at h ⊢
 exact ⟨⟨by decide,h.1.2⟩,h.2⟩
theorem oG {ps:List aU} {r:aS} (h : ∀ x ∈ ps,mr x) (hr:gI r) : ∀ x ∈ ew ps r,mr x:=by
 intro x hx
 have hnew:r.kind=1→x=⟨r.key,r.value⟩→mr x:=fun hk e=>by rw [e];exact FT hr.1 hk
 unfold ew at hx
 split at hx
 ·
  split at hx
  ·
   rcases List.mem_append.1 hx with hx | hx
   ·
    exact h x (List.mem_of_mem_take hx)
   ·
    exact h x (List.mem_of_mem_drop hx)
  ·
   rename_i hk
   have hk1:r.kind=1:=(BB hr).resolve_right hk
   rcases List.mem_append.1 hx with hx | hx
   ·
    rcases List.mem_append.1 hx with hx | hx
    ·
     exact h x (List.mem_of_mem_take hx)
    ·
     exact hnew hk1 (by simpa using hx)
   ·
    exact h x (List.mem_of_mem_drop hx)
 ·
  split at hx
  ·
   rename_i hk1
   rcases List.mem_append.1 hx with hx | hx
   ·
    rcases List.mem_append.1 hx with hx | hx
    ·
     exact h x (List.mem_of_mem_take hx)
    ·
     exact hnew hk1 (by simpa using hx)
   ·
    exact h x (List.mem_of_mem_drop hx)
  ·
   exact h x hx
theorem tu : ∀ (rs:List aS) (ps:List aU),(∀ x ∈ ps,mr x)→(∀ r ∈ rs,gI r) → ∀ x ∈ rs.foldl ew ps,mr x
 | [],ps,h,_=>h
 | r::rs,ps,h,hr=>tu rs (ew ps r) (oG h (hr r (by simp))) (fun y hy=>hr y (by simp [hy]))
theorem qz {rs:List aS} (h : ∀ r ∈ rs,gI r) : ∀ x ∈ cg rs,mr x:=tu rs [] (fun x hx=>by simp at hx) h
theorem gU {e:Int} (h0:1≤e) (h1:e≤1048576):bz (cz e)=true:=by
 unfold bz cz
 rw [if_pos rfl]
 simp only [nM,kE]
 simp
 omega
theorem oM {V:bg} (ok:V.Ok) {sec:Int} (s0:4≤sec) (s1:sec<8) {r:aS} (hr:gI r) (h:(cm V sec r).1=0):(cm V sec r).2.Ok:=by
 have hve:=ok.ak
 have hvf:=ok.free
 unfold cm at h ⊢
 split at h
 ·
  simp at h
 ·
  rename_i n1
  rw [if_neg n1]
  split at h
  ·
   simp at h
  ·
   rename_i n2
   rw [if_neg n2]
   split at h
   ·
    rename_i n3
    rw [if_pos n3]
    exact ⟨⟨s0,s1⟩,.inl (show (-1:Int)<0 by decide),rfl,by simp,fun x hx=>by
     obtain rfl:x=V.free:=by simpa using hx
     omega,fun x hx=>by
     obtain rfl:x=r:=by simpa using hx
     exact hr.1⟩
   ·
    rename_i n3
    rw [if_neg n3]
    split at h
    ·
     simp at h
    ·
     rename_i n4
     rw [if_neg n4]
     have hn:=qR s0 s1
     have hp:=oG (qz ok.ay) hr
     have hlen:(ew (cg V.ay) r).length≤7:=by omega
     generalize ew (cg V.ay) r=ps at *
     refine ⟨hn,.inr hn,?_,?_,fun x hx => ?_,fun x hx => ?_⟩
     ·
      simp [jq]
     ·
      simp [jq];omega
     ·
      simp only [jq,List.mem_append,List.mem_map,List.mem_range,List.mem_singleton] at hx
      rcases hx with ⟨i,hi,rfl⟩ | rfl
      ·
       omega
      ·
       omega
     ·
      simp only [jq,List.mem_append,List.mem_map,List.mem_singleton] at hx
      rcases hx with ⟨y,hy,rfl⟩ | rfl
      ·
       exact hp y hy
      ·
       exact gU (by omega) (by omega)
end Go.Proofs.YtcfdenckiigdaaaGreat

/- Part 14 of the contracts. -/
import Derived.Lib.AppendZerosOnto
import Derived.Test.YtcfdenckiigdaaaGreatRd13
set_option linter.unusedVariables false
set_option maxRecDepth 100000
set_option maxHeartbeats 4000000
namespace Go.Proofs.YtcfdenckiigdaaaGreat
open Tryz Go.RowKit
theorem Mn (z0 z1:Value) (n:Nat):(Builtin.zeroCells (Value.agg #[z0,z1]).cells n).size=n * 2:=by
 have e0:(Value.agg #[z0,z1]).cells = #[z0,z1]:=rfl
 rw [e0]
 simp [Builtin.zeroCells]
theorem Cx (w0 w:World) (g cap n i vb vc:Nat) (cs:List Value) (cur:Array Value) (k v:ByteArray) (h:jC w w0.heap.size g cap n cs cur) (hb:Below w0.heap.size w0 w) (hi:i<n) (hn:n≤1000000) (hroom:cap<n+1) (h2:vS w vb k v) (h1 : ∀ u ∈ cs,u.oneCell'=true):Calls prog 83 #[.slice (some ⟨g,0,none⟩) n cap,.int .i64 i,.slice (some ⟨vb,0,none⟩) 1 vc] w (qZ w0 (n+1) (ve cs i k v)):=by
 obtain ⟨i0,hi0,hz0,hzs,hzb⟩:=info_parts jG
 have hsz:(prog.info? 83).map (·.size)=some 2:=by rw [hi0];simp [hzs]
 have hcl:=h.len
 have hle:=h.le
 obtain ⟨xa,xs,xf⟩:=h.cell
 have hgw:g<w.heap.size:=aO h.heap
 have hvw:vb<w.heap.size:=aO h2
 have mixed:prog.follows Departure.mixedOrders=true:=by kernel_rfl
 have hkk:(n:Int)+1 - (i:Int)=((n+1 - i:Nat):Int):=by omega
 have hik:i+(n+1 - i)=n+1:=by omega
 have hlt:(cs.take (2 * i)).length=2 * i:=by rw [List.length_take,hcl];omega
 have hdl:(cs.drop (2 * i)).length=(n - i) * 2:=by rw [List.length_drop,hcl];omega
 have hold:(Builtin.firstCells i0.size i (.slice (some ⟨g,0,none⟩) i cap)).run prog w.drew=.ok (cs.take (2 * i)).toArray w.drew:=by
  rw [hzs]
  exact run_firstCells_some w.drew 2 i ⟨g,0,none⟩ i cap (cs.take (2 * i)) (by rw [hlt];omega) (fun j u hj=>by
   rw [dh,Nat.zero_add]
   rw [List.getElem?_take] at hj
   split at hj
   ·
    exact xa j u hj
   ·
    cases hj)
 have hrz0 : ∀ ty,(Builtin.append_ #[32,3] ty #[.slice (some ⟨g,0,none⟩) i cap,.int .i64 ((n:Int)+1 - (i:Int))]).run prog w=.ok (.slice (some ⟨w.heap.size,0,none⟩) (n+1) (grownCap w (n+1) cap 83)) (w.drew.alloc (.cells ((cs.take (2 * i)).toArray++Builtin.zeroCells (Value.agg #[.string ⟨#[]⟩,.string ⟨#[]⟩]).cells (n+1 - i)++Builtin.zeroCells (Value.agg #[.string ⟨#[]⟩,.string ⟨#[]⟩]).cells (grownCap w (n+1) cap 83 - (n+1))) 83)):=fun ty=>by
  have hh:=Lib.run_append_grow_zeros w 32 3 ty 83 i0 _ .i64 .i64 underlying32 underlying3 hi0 hz0 (some ⟨g,0,none⟩) i cap (cs.take (2 * i)) hold (n+1 - i) (by omega) (by omega) (by omega) (by omega) (by rw [hzb];omega) (by rw [hzb,hik];exact growslice_fits hroom (by omega))
  rw [hik] at hh
  rw [hkk]
  exact hh
 have hGn:=grownCap_ge w (n+1) cap 83
 have hG63:=grownCap_le_maxLen w (n+1) cap 83 (by unfold maxLen;omega)
 generalize grownCap w (n+1) cap 83=G at *
 obtain ⟨ROW,hROW⟩ : ∃ ROW:Array Value,ROW=(cs.take (2 * i)).toArray++Builtin.zeroCells (Value.agg #[.string ⟨#[]⟩,.string ⟨#[]⟩]).cells (n+1 - i)++Builtin.zeroCells (Value.agg #[.string ⟨#[]⟩,.string ⟨#[]⟩]).cells (G - (n+1)):=⟨_,rfl⟩
 rw [← hROW] at hrz0
 have hRs:ROW.size=G * 2:=by
  rw [hROW,Array.size_append,Array.size_append,Mn,Mn,List.size_toArray,hlt];omega
 have hRt : ∀ j,j<2 * i→ROW[j]? = cs[j]? := fun j hj=>by
  rw [hROW,Array.append_assoc,Array.getElem?_append_left (by rw [List.size_toArray,hlt];exact hj),List.getElem?_toArray,List.getElem?_take,if_pos hj]
 have hbN:Below w0.heap.size w0 ((w.alloc (.cells ROW 83)).drew):=(hb.alloc hb.size _).drew
 have hrA:jC ((w.alloc (.cells ROW 83)).drew) w0.heap.size w.heap.size G i (cs.take (2 * i)) ROW :=
  ⟨af w _,hb.size,by omega,hG63,hRs,by rw [hlt];omega,fun j hj=>by rw [hRt j (by omega),List.getElem?_take,if_pos (by omega)]⟩
 have hrB:jC (((w.alloc (.cells ROW 83)).drew).setCells w.heap.size (i * 2) [.string k,.string v]) w0.heap.size w.heap.size G (i+1) (cs.take (2 * i)++[.string k,.string v]) (putAt ROW (i * 2) [.string k,.string v]):=by
  refine hrA.set _ _ (by simp only [List.length_cons,List.length_nil];omega) (i+1) _ (by omega) (by simp only [List.length_append,hlt,List.length_cons,List.length_nil];omega) fun j hj => ?_
  simp only [List.length_cons,List.length_nil]
  by_cases hj1:i * 2≤j∧j<i * 2+(0+1+1)
  ·
   rw [if_pos hj1,List.getElem?_append_right (by rw [hlt];omega),hlt];congr 1;omega
  ·
   rw [if_neg hj1,List.getElem?_append_left (by rw [hlt];omega)];exact hrA.FD j (by omega)
 have hbB:Below w0.heap.size w0 (((w.alloc (.cells ROW 83)).drew).setCells w.heap.size (i * 2) [.string k,.string v]):=fz _ hb.size _ _ _ hbN
 have hfin:Hid (jC ((((w.alloc (.cells ROW 83)).drew).setCells w.heap.size (i * 2) [.string k,.string v]).drew.setCells w.heap.size ((i+1) * 2) (cs.drop (2 * i))) w0.heap.size w.heap.size G (n+1) (ve cs i k v) (putAt (putAt ROW (i * 2) [.string k,.string v]) ((i+1) * 2) (cs.drop (2 * i)))∧Below w0.heap.size w0 ((((w.alloc (.cells ROW 83)).drew).setCells w.heap.size (i * 2) [.string k,.string v]).drew.setCells w.heap.size ((i+1) * 2) (cs.drop (2 * i)))):=by
  have hrB':jC (((w.alloc (.cells ROW 83)).drew).setCells w.heap.size (i * 2) [.string k,.string v]).drew w0.heap.size w.heap.size G (i+1) (cs.take (2 * i)++[.string k,.string v]) (putAt ROW (i * 2) [.string k,.string v]):=⟨hrB.heap,hrB.base,hrB.le,hrB.max,hrB.size,hrB.len,hrB.FD⟩
  have hl2:(cs.take (2 * i)++[Value.string k,.string v]).length=2 * i+2:=by simp only [List.length_append,hlt,List.length_cons,List.length_nil]
  refine zH ⟨hrB'.set _ _ (by rw [hdl];omega) (n+1) _ (by omega) (by unfold ve;rw [List.length_append,hl2,hdl];omega) fun j hj => ?_,fz _ hb.size _ _ _ hbB.drew⟩
  rw [hdl]
  unfold ve
  by_cases hj1:(i+1) * 2≤j∧j<(i+1) * 2+(n - i) * 2
  ·
   rw [if_pos hj1,List.getElem?_append_right (by rw [hl2];omega),hl2];congr 1;omega
  ·
   rw [if_neg hj1,List.getElem?_append_left (by rw [hl2];omega)];exact hrB.FD j (by omega)
 have hrz : ∀ ty,(Builtin.append_ #[32,3] ty #[.slice (some ⟨g,0,none⟩) i cap,.int .i64 ((n:Int)+1 - (i:Int))]).run prog w=.ok (.slice (some ⟨w.heap.size,0,none⟩) (n+1) G) (w.alloc (.cells ROW 83)).drew:=fun ty=>hrz0 ty
 obtain ⟨a1,a2,a3⟩:=hrA.cell
 obtain ⟨b1,b2,b3⟩:=hrB.cell
 have hcp1 : ∀ ty dc,(Builtin.copy_ #[32,32] ty #[.slice (some ⟨w.heap.size,i * 2,none⟩) (n+1 - i) dc,.slice (some ⟨vb,0,none⟩) 1 vc]).run prog (w.alloc (.cells ROW 83)).drew=.ok (goInt (Nat.min 1 (n+1 - i))) ((w.alloc (.cells ROW 83)).drew.setCells w.heap.size (i * 2) [.string k,.string v]):=fun ty dc =>
  pQ _ 32 32 ty 83 w.heap.size (i * 2) (n+1 - i) dc ⟨vb,0,none⟩ 1 vc [.string k,.string v] underlying32 hsz (by simp only [List.length_cons,List.length_nil,Nat.min_def];split <;> omega) (fun j u hj=>by
    rw [dh]
    have e:=(au (ae (Below.refl _ w) (.cells ROW 83))).cell (p:=⟨vb,0+j,none⟩) hvw
    exact e.trans (h2.cells j u hj)) (fun j hj=>a2 _ (by simp only [List.length_cons,List.length_nil] at hj;omega)) (fun j _=>a3 _) (fun u hu=>by simp at hu;rcases hu with rfl | rfl <;> rfl)
 have hcp2 : ∀ ty dc sc,(Builtin.copy_ #[32,32] ty #[.slice (some ⟨w.heap.size,(i+1) * 2,none⟩) (n - i) dc,.slice (some ⟨g,i * 2,none⟩) (n - i) sc]).run prog ((w.alloc (.cells ROW 83)).drew.setCells w.heap.size (i * 2) [.string k,.string v]).drew=.ok (goInt (Nat.min (n - i) (n - i))) (((w.alloc (.cells ROW 83)).drew.setCells w.heap.size (i * 2) [.string k,.string v]).drew.setCells w.heap.size ((i+1) * 2) (cs.drop (2 * i))):=fun ty dc sc =>
  pQ _ 32 32 ty 83 w.heap.size ((i+1) * 2) (n - i) dc ⟨g,i * 2,none⟩ (n - i) sc (cs.drop (2 * i)) underlying32 hsz (by rw [hdl];simp only [Nat.min_def];split <;> rfl) (fun j u hj=>by
    rw [dh]
    show ((w.alloc (.cells ROW 83)).drew.setCells w.heap.size (i * 2) [.string k,.string v]).cell? ⟨g,i * 2+j,none⟩=some u
    rw [World.cell?_setCells_out _ _ _ _ _ (fun e _=>absurd (show g=w.heap.size from e) (by omega)),show i * 2+j=2 * i+j by omega]
    exact ((au (ae (Below.refl _ w) (.cells ROW 83))).cell (p:=⟨g,2 * i+j,none⟩) hgw).trans (xa (2 * i+j) u (by rwa [List.getElem?_drop] at hj)))
   (fun j hj=>b2 _ (by rw [hdl] at hj;omega)) (fun j _=>b3 _) (fun u hu=>h1 u (List.mem_of_mem_drop hu))
 have hne : ¬ ((i:Int)=(n:Int)):=by omega
 have hz3:(cap:Int)<(n:Int)+1:=by omega
 have hGi : ¬ (G=i):=by omega
 have hGim : ¬ (G=i+1):=by omega
 have hci : ¬ (cap=i):=by omega
 have hw1:IntKind.i64.wrap ((i:Int)+1)=(i:Int)+1:=by rw [IntKind.wrap_i64];omega
 have hb1:(0:Int)≤(i:Int)+1:=by omega
 have hin:i≤n:=by omega
 have htn:((i:Int)+1).toNat=i+1:=by omega
 have hb3:(i:Int)≤(n:Int):=by omega
 unfold maxLen at hG63
 clear b1 b2 b3 hkk hik hold hROW hRs hRt hrz0 hrA hrB hbN hbB a1 a2 a3 xa xs xf hdl hlt h hb h2
 generalize (w.alloc (.cells ROW 83)).drew=W1 at *
 go_enter func83,ntmps83
 go_wp2_with (first
  | (at_builtin;refine Lib.wpList_append_run _ rfl _ _ _ _ rfl _ _ rfl rfl _ _ (hrz _) ?_)
  | (at_builtin;refine wpList_copy_runI _ rfl _ _ 32 32 rfl _ _ rfl rfl (hcp1 _ _) ?_))
 go_region_law_o (refine step_copy_runI rfl _ _ 32 32 rfl (.slice (some ⟨w.heap.size,(i+1) * 2,none⟩) (n - i) (G - (i+1))) (.slice (some ⟨g,i * 2,none⟩) (n - i) (cap - i)) (by simp [Act.eval,Act.put]) (by simp [Act.eval,Act.put]) (hcp2 3 (G - (i+1)) (cap - i)) ?_)
 go_wp2
 go_ret
 exact ⟨_,rfl,hfin.out.1.own,hfin.out.2⟩
theorem A0 (w0 w:World) (x:Value) (n i vb vc:Nat) (cs:List Value) (k v:ByteArray) (h:w.ownsRow w0.heap.size 83 2 x n cs) (hb:Below w0.heap.size w0 w) (hi:i≤n) (hn:n≤1000000) (h2:vS w vb k v) (hvb:some vb≠x.ownBlock) (h1 : ∀ u ∈ cs,u.oneCell'=true):Calls prog 83 #[x,.int .i64 i,.slice (some ⟨vb,0,none⟩) 1 vc] w (qZ w0 (n+1) (ve cs i k v)):=by
 by_cases e:i=n
 ·
  subst e
  have hl:ve cs i k v=cs++[.string k,.string v]:=by
   unfold ve
   rw [List.take_of_length_le (by rw [h.1];omega),List.drop_of_length_le (by rw [h.1];omega),List.append_nil]
  rw [hl]
  exact Ex w0 w x i vb vc cs k v h hb hn h2
 ·
  rcases jC.of h with ⟨rfl,h0,_⟩ | ⟨g,cap,cur,rfl,hr⟩
  ·
   omega
  ·
   by_cases hroom:n+1≤cap
   ·
    exact Cy w0 w g cap n i vb vc cs cur k v hr hb (by omega) hroom h2 (fun e=>hvb (by rw [e];rfl)) h1
   ·
    exact Cx w0 w g cap n i vb vc cs cur k v hr hb (by omega) hn (by omega) h2 h1
theorem yY : ∀ a:List UInt8,Op.bytesLess a a=false
 | []=>rfl
 | x::a=>by simp [Op.bytesLess,yY a]
theorem BZ : ∀ a b c:List UInt8,Op.bytesLess a b=true→Op.bytesLess b c=true→Op.bytesLess a c=true
 | [],[],_,h,_=>by simp [Op.bytesLess] at h
 | [],_::_,[],_,h=>by simp [Op.bytesLess] at h
 | [],_::_,_::_,_,_=>by simp [Op.bytesLess]
 | _::_,[],_,h,_=>by simp [Op.bytesLess] at h
 | _::_,_::_,[],_,h=>by simp [Op.bytesLess] at h
 | x::a,y::b,z::c,h,k=>by
  simp only [Op.bytesLess,Bool.or_eq_true,Bool.and_eq_true,decide_eq_true_eq,beq_iff_eq] at h k ⊢
  rcases h with h | ⟨rfl,h⟩
  ·
   rcases k with k | ⟨rfl,k⟩
   ·
    exact .inl (UInt8.lt_trans h k)
   ·
    exact .inl h
  ·
   rcases k with k | ⟨rfl,k⟩
   ·
    exact .inl k
   ·
    exact .inr ⟨rfl,BZ a b c h k⟩
theorem Jd : ∀ a b:List UInt8,Op.bytesLess a b=false→Op.bytesLess b a=false→a=b
 | [],[],_,_=>rfl
 | [],_::_,h,_=>by simp [Op.bytesLess] at h
 | _::_,[],_,h=>by simp [Op.bytesLess] at h
 | x::a,y::b,h,k=>by
  simp only [Op.bytesLess,Bool.or_eq_false_iff,decide_eq_false_iff_not,Bool.and_eq_false_iff] at h k
  have e:x=y:=by
   have h1 : ¬ x.toNat<y.toNat:=fun e=>h.1 (UInt8.lt_iff_toNat_lt.2 e)
   have h2 : ¬ y.toNat<x.toNat:=fun e=>k.1 (UInt8.lt_iff_toNat_lt.2 e)
   exact UInt8.toNat_inj.1 (by omega)
  subst e
  rw [Jd a b (h.2.resolve_left (by simp)) (k.2.resolve_left (by simp))]
theorem A4 (a:ByteArray):cF a a=false:=yY _
theorem lM {a b c:ByteArray} (h:cF a b=true) (k:cF b c=true):cF a c=true:=BZ _ _ _ h k
theorem ti {a b:ByteArray} (h:cF a b=false) (k:cF b a=false):a=b:=by
 have:=Jd _ _ h k
 rw [ByteArray.toList_eq,ByteArray.toList_eq] at this
 obtain ⟨a⟩:=a;obtain ⟨b⟩:=b
 congr 1;exact Array.toList_inj.1 this
theorem jq (a b:ByteArray):(a.toList == b.toList)=decide (a=b):=jx a b
def fo (ps:List aJ):Prop:=ps.Pairwise fun a b=>cF a.key b.key=true
theorem fo.at {ps:List aJ} (h:fo ps) {i j:Nat} (hi:i<ps.length) (hj:j<ps.length) (hij:i<j):cF ps[i].key ps[j].key=true:=(List.pairwise_iff_getElem.1 h) i j hi hj hij
theorem fo.mono {ps:List aJ} (h:fo ps) (k:ByteArray):Mp ps k:=fun i j hi hj hij hl=>by
 rcases Nat.lt_or_eq_of_le hij with h' | rfl
 ·
  exact lM (h.at hi hj h') hl
 ·
  exact hl
def eI (ps:List aJ) (r:aX):List aJ :=
 if BA ps r.key=true then (if r.kind=2 then ps.take (jf ps r.key)++ps.drop (jf ps r.key+1) else ps.take (jf ps r.key)++[⟨r.key,r.value⟩]++ps.drop (jf ps r.key+1))
 else if r.kind=1 then ps.take (jf ps r.key)++[⟨r.key,r.value⟩]++ps.drop (jf ps r.key) else ps
def yS (ps:List aJ) (w:World) (e:Ending) (w':World):Prop := ∃ v,e=.returned (.tuple #[v,.int .i64 0])∧w'.ownsRow w.heap.size 83 2 v ps.length (aE ps)∧Below w.heap.size w w'
theorem Ll (ps:List aJ) (k:ByteArray):jf ps k≤ps.length:=(List.takeWhile_sublist _).length_le
theorem Lq {ps:List aJ} {k:ByteArray} (h:BA ps k=true) : ∃ hi:jf ps k<ps.length,ps[jf ps k].key=k:=by
 unfold BA at h
 cases hp:ps[jf ps k]? with
 | none=>rw [hp] at h;cases h
 | some p =>
  rw [hp] at h
  obtain ⟨hi,e⟩:=List.getElem?_eq_some_iff.1 hp
  refine ⟨hi,?_⟩
  rw [e]
  have h:(p.key.toList == k.toList)=true:=h
  rw [jq] at h
  simpa using h
theorem mh (ps:List aJ) (i:Nat):aE (ps.take i)=(aE ps).take (2 * i):=by
 induction ps generalizing i with
 | nil=>simp [aE]
 | cons p ps ih =>
  cases i with
  | zero=>simp [aE]
  | succ i =>
   have:=ih i
   unfold aE at this ⊢
   rw [List.take_succ_cons,List.flatMap_cons,this,List.flatMap_cons,show 2 * (i+1)=2 * i+1+1 by omega]
   rfl
theorem mf (ps:List aJ) (i:Nat):aE (ps.drop i)=(aE ps).drop (2 * i):=by
 induction ps generalizing i with
 | nil=>simp [aE]
 | cons p ps ih =>
  cases i with
  | zero=>rfl
  | succ i =>
   have:=ih i
   unfold aE at this ⊢
   rw [List.drop_succ_cons,this,List.flatMap_cons,show 2 * (i+1)=2 * i+1+1 by omega]
   rfl
theorem iz (a b:List aJ):aE (a++b)=aE a++aE b:=List.flatMap_append
theorem AZ (r:aX) (w:World) (hm:bD r=true) (hk:r.kind≠0):Calls prog 79 #[.agg r.cells] w (vx true w):=by
 have HM:=zH (fun w=>sj r w)
 rw [hm] at HM
 have hb:(r.kind != 0)=true:=bne_iff_ne.2 hk
 unfold aX.cells at HM ⊢
 clear hm hk
 go_enter func79,ntmps79
 go_wp2_with fail
 refine (HM.out _).mono ?_
 rintro e w1 ⟨rfl,hb1⟩
 obtain ⟨c0,c1,c2,c3,hf⟩:=cC (aa hb1 (af w (.cells #[.int .i64 r.kind,.int .i64 r.an,.string r.key,.string r.value] 74)))
 have HB:=zH (gtr (ae (Below.refl _ w) (.cells #[.int .i64 r.kind,.int .i64 r.an,.string r.key,.string r.value] 74)) hb1)
 clear hb1 c1 c2 c3
 go_wp2
 go_ret
 exact ⟨rfl,HB.out⟩
theorem eV {w:World} {B N n:Nat} {t:TypeId} {sz:Nat} {v:Value} {xs:List Value} (h:w.ownsRow N t sz v n xs) (hB:B≤N):w.ownsRow B t sz v n xs :=
 ⟨h.1,h.2.imp id fun ⟨g,cap,cur,hv,hb,r⟩=>⟨g,cap,cur,hv,Nat.le_trans hB hb,r⟩⟩
theorem Ba {w:World} {B n:Nat} {t:TypeId} {sz:Nat} {v:Value} {xs:List Value} (h:w.ownsRow B t sz v n xs):some w.heap.size≠v.ownBlock:=by
 rcases h.2 with ⟨rfl,_⟩ | ⟨g,cap,cur,rfl,hb,hh,_⟩
 ·
  exact fun e=>nomatch e
 ·
  intro e
  have:w.heap.size=g:=by simpa [Value.ownBlock] using e
  have:=aO hh
  omega
theorem Jq (ps:List aJ) (i:Nat) (hi:i<ps.length):(aE ps).take (2 * i)++(aE ps).drop (2 * i+2)=aE (ps.take i++ps.drop (i+1))∧ps.length - 1=(ps.take i++ps.drop (i+1)).length:=by
 refine ⟨by rw [iz,mh,mf];rfl,?_⟩
 simp only [List.length_append,List.length_take,List.length_drop];omega
theorem JL (ps:List aJ) (i:Nat) (k v:ByteArray) (hi:i≤ps.length):ve (aE ps) i k v=aE (ps.take i++[(⟨k,v⟩:aJ)]++ps.drop i)∧ps.length+1=(ps.take i++[(⟨k,v⟩:aJ)]++ps.drop i).length:=by
 refine ⟨by rw [iz,iz,mh,mf];rfl,?_⟩
 simp only [List.length_append,List.length_take,List.length_drop,List.length_cons,List.length_nil];omega
theorem Ko {w:World} {B g cap:Nat} {ps:List aJ} {cur:Array Value} (h:jC w B g cap ps.length (aE ps) cur) (i:Nat) (hi:i<ps.length) (k v:ByteArray) (hk:ps[i].key=k):jC (w.setCell ⟨g,i * 2+1,none⟩ (.string v)) B g cap (ps.take i++[(⟨k,v⟩:aJ)]++ps.drop (i+1)).length (aE (ps.take i++[(⟨k,v⟩:aJ)]++ps.drop (i+1))) (putAt cur (i * 2+1) [.string v]):=by
 have hl:(ps.take i++[(⟨k,v⟩:aJ)]++ps.drop (i+1)).length=ps.length:=by simp only [List.length_append,List.length_take,List.length_drop,List.length_cons,List.length_nil];omega
 have hle:=h.le
 refine h.set (i * 2+1) [.string v] (by simp only [List.length_cons,List.length_nil];omega) _ _ (by rw [hl];exact h.le) (kE _) fun j hj => ?_
 rw [hl] at hj
 have ht:(aE (ps.take i)).length=2 * i:=by rw [kE,List.length_take];omega
 have ho:(aE [(⟨k,v⟩:aJ)])=[.string k,.string v]:=rfl
 simp only [List.length_cons,List.length_nil]
 rw [iz,iz,ho,List.append_assoc]
 obtain ⟨p0,p1⟩:=dt ps i hi
 by_cases h1:j<2 * i
 ·
  rw [if_neg (by omega),List.getElem?_append_left (by rw [ht];exact h1),h.FD j hj,mh,List.getElem?_take,if_pos h1]
 ·
  rw [List.getElem?_append_right (by rw [ht];omega),ht]
  by_cases h2:j=2 * i
  ·
   subst h2
   rw [if_neg (by omega),h.FD _ hj,p0,hk,Nat.sub_self];rfl
  ·
   by_cases h3:j=2 * i+1
   ·
    subst h3
    rw [if_pos (by omega),show 2 * i+1 - (i * 2+1)=0 by omega,show 2 * i+1 - 2 * i=1 by omega];rfl
   ·
    rw [if_neg (by omega),h.FD j hj,List.getElem?_append_right (by simp only [List.length_cons,List.length_nil];omega),mf,List.getElem?_drop]
    congr 1
    simp only [List.length_cons,List.length_nil];omega
theorem yp (v:Value) (ps:List aJ) (r:aX) (w:World) (h:aU w v ps.length 2 (aE ps)) (hs:fo ps) (hn:ps.length≤1000) (hm:bD r=true) (hk:r.kind≠0):Calls prog 49 #[v,.agg r.cells] w (yS (eI ps r) w):=by
 have HM:=zH (fun w=>AZ r w hm hk)
 have HC:=zH (fun w h=>sY v ps w h (by omega))
 have HA:=zH (fun x w h=>Ja x ps r.key w h (by omega) (hs.mono _))
 have H:=zH h
 have HS:=zH hs
 have HX:=zH (fun i (hi:i<ps.length)=>dt ps i hi)
 obtain ⟨a,c,rfl⟩:=h.slice
 unfold aX.cells at HM ⊢
 clear h hm hk hs
 go_enter func49,ntmps49
 go_wp2
 go_loopg [6] ps.length (fun n i wr => ∃ j:Nat,n=ps.length - j∧i=.int .i64 ((j+1:Nat):Int)∧j≤ps.length∧Below w.heap.size w wr∧wr.heap[w.heap.size]? = some (.cells #[.int .i64 r.kind,.int .i64 r.an,.string r.key,.string r.value] 74 (0,0)))
 case atStart=>exact ⟨0,rfl,rfl,Nat.zero_le _,ae zR _,af w _⟩
 case round =>
  obtain ⟨j,hgn,rfl,hj,hb,hr⟩:=hrel
  have HB:=zH (zA hgn (zA hb hr))
  clear hgn hb hr
  by_cases hlt:j+1<ps.length
  ·
   have hlt':((j+1:Nat):Int)<(ps.length:Int):=by omega
   obtain ⟨b,o,rfl,hc,hx⟩:=H.out.some (by omega)
   obtain ⟨p0,_⟩:=HX.out j (by omega)
   obtain ⟨q0,_⟩:=HX.out (j+1) hlt
   have e0:=hx (2 * j) _ p0
   have e1:=hx (2 * (j+1)) _ q0
   have c0:wr.cell? ⟨b,o+j * 2,none⟩=some (.string ps[j].key):=by rw [show o+j * 2=o+2 * j by omega];exact (HB.out.2.1.cell (p:=⟨b,o+2 * j,none⟩) (zL w _ e0)).trans e0
   have c1:wr.cell? ⟨b,o+(j+1) * 2,none⟩=some (.string ps[j+1].key):=by rw [show o+(j+1) * 2=o+2 * (j+1) by omega];exact (HB.out.2.1.cell (p:=⟨b,o+2 * (j+1),none⟩) (zL w _ e1)).trans e1
   have hge:Op.bytesLess ps[j].key.toList ps[j+1].key.toList=true:=HS.out.at (by omega) hlt (by omega)
   have hj1:(((j+1:Nat):Int) - 1)=(j:Int):=by omega
   have hjl:(j:Int)<(ps.length:Int):=by omega
   have htn:(((j+1:Nat):Int)).toNat=j+1:=by omega
   clear p0 q0 e0 e1 hx
   go_wp2_with fail
   go_region
   go_wp2
   go_roundg (ps.length - (j+1))
   case measure=>have:=HB.out.1;omega
   case rel=>exact ⟨j+1,rfl,by go_num,by omega,HB.out.2.1.drew,HB.out.2.2⟩
  ·
   have hlt' : ¬ ((j+1:Nat):Int)<(ps.length:Int):=by omega
   obtain ⟨c0,c1,c2,c3,hf⟩:=cC HB.out.2.2
   go_wp2_with fail
   refine (HM.out _).mono ?_
   rintro e w1 ⟨rfl,hb1⟩
   have HB1:=zH (zA (gtr HB.out.2.1 hb1) (aa hb1 HB.out.2.2))
   clear hb1 c0 c1 c2 c3 hf
   go_wp2_with fail
   refine (HC.out _ (H.out.aj HB1.out.1)).mono ?_
   rintro e w2 ⟨x,rfl,ho,hb2⟩
   have HB2:=zH (zA (gtr HB1.out.1 hb2) (zA (aa hb2 HB1.out.2) (zA ho HB1.out.1.size)))
   clear hb2 HB1
   obtain ⟨xa,xc,rfl⟩:=bG ho
   clear ho
   obtain ⟨c0,c1,c2,c3,hf⟩:=cC HB2.out.2.1
   go_wp2_with fail
   refine (HA.out _ _ (aU.cZ HB2.out.2.2.1)).mono ?_
   rintro e w3 ⟨rfl,hb3⟩
   have HB3:=zH (zA (gtr HB2.out.1 hb3) (zA (aa hb3 HB2.out.2.1) (World.ownsRow.aj HB2.out.2.2.1 hb3)))
   clear hb3 c0 c1 c2 c3 hf
   obtain ⟨c0,c1,c2,c3,hf⟩:=cC HB3.out.2.1
   have hin:=Ll ps r.key
   have HO:=zH (eV HB3.out.2.2 (Nat.le_trans HB2.out.2.2.2 zY))
   have HL:=zH (fun h=>Lq (ps:=ps) (k:=r.key) h)
   have HV:=zH (show eI ps r=if BA ps r.key=true then (if r.kind=2 then ps.take (jf ps r.key)++ps.drop (jf ps r.key+1) else ps.take (jf ps r.key)++[⟨r.key,r.value⟩]++ps.drop (jf ps r.key+1)) else if r.kind=1 then ps.take (jf ps r.key)++[⟨r.key,r.value⟩]++ps.drop (jf ps r.key) else ps from rfl)
   clear HB2 HM HC HA HS HX H HB
   generalize jf ps r.key=i at *
   generalize eI ps r=ws at *
   cases his:BA ps r.key with
   | true =>
    obtain ⟨hil,hkey⟩:=HL.out his
    have HK:=zH hkey
    rw [his,if_pos rfl] at HV
    rcases jC.of HO.out with ⟨_,h0,_⟩ | ⟨g,cap,cur,hxa,hr⟩
    ·
     omega
    obtain ⟨rfl,rfl⟩:xa=some ⟨g,0,none⟩∧xc=cap:=by simpa using hxa
    by_cases k2:r.kind=2
    ·
     rw [k2] at c0
     have HD:=zH (AU w w3 g xc ps.length i (aE ps) cur hr HB3.out.1 hil (nC ps))
     rw [if_pos k2] at HV
     clear hr hxa hkey
     go_wp2_with fail
     refine HD.out.mono ?_
     rintro e w4 ⟨v',rfl,ho4,hb4⟩
     have HX:=zH (zA ho4 hb4)
     clear ho4 hb4
     go_wp2
     go_ret2
     obtain ⟨e1,e2⟩:=Jq ps i hil
     refine ⟨v',rfl,?_,HX.out.2⟩
     rw [HV.out,← e1,← e2]
     exact HX.out.1
    ·
     have k2':(r.kind == 2)=false:=by simpa using k2
     rw [if_neg k2] at HV
     have hR:=zH (Ko hr i hil r.key r.value HK.out)
     obtain ⟨ya,ys,yf⟩:=hr.cell
     obtain ⟨y0,hy0⟩:=Option.isSome_iff_exists.1 (ys (i * 2+1) (by have:=hr.le;omega))
     have hf0:w3.frozen? ⟨g,i * 2+1,none⟩=false:=yf _
     have hgb:=hr.base
     have hii:(i:Int)<(ps.length:Int):=by omega
     clear hr hxa hkey ya ys yf k2
     go_wp2
     go_ret2
     have e2:(ps.take i++[(⟨r.key,r.value⟩:aJ)]++ps.drop (i+1)).length=ps.length:=by simp only [List.length_append,List.length_take,List.length_drop,List.length_cons,List.length_nil];omega
     have e3:=hR.out.own
     refine ⟨_,rfl,?_,lg HB3.out.1 hgb _⟩
     rw [HV.out]
     rw [e2] at e3 ⊢
     exact e3
   | false =>
    rw [his,if_neg (by decide)] at HV
    by_cases k1:r.kind=1
    ·
     rw [k1] at c0
     rw [if_pos k1] at HV
     have h2:vS (w3.alloc (.cells #[.string r.key,.string r.value] 83)) w3.heap.size r.key r.value:=af _ _
     have HI:=zH (A0 w (w3.alloc (.cells #[.string r.key,.string r.value] 83)) (.slice xa ps.length xc) ps.length i w3.heap.size 1 (aE ps) r.key r.value (World.ownsRow.aj HO.out (ae zR _)) (HB3.out.1.alloc HB3.out.1.size _) hin (by omega) h2 (Ba HO.out) (nC ps))
     clear h2
     go_wp2_with fail
     refine HI.out.mono ?_
     rintro e w4 ⟨v',rfl,ho4,hb4⟩
     have HX:=zH (zA ho4 hb4)
     clear ho4 hb4
     go_wp2
     go_ret2
     obtain ⟨e1,e2⟩:=JL ps i r.key r.value hin
     refine ⟨v',rfl,?_,HX.out.2⟩
     rw [HV.out,← e1,← e2]
     exact HX.out.1
    ·
     have k1':(r.kind == 1)=false:=by simpa using k1
     rw [if_neg k1] at HV
     clear k1
     go_wp2
     go_ret2
     refine ⟨_,rfl,?_,HB3.out.1⟩
     rw [HV.out]
     exact HO.out
def eB (k v:ByteArray):List aJ→List aJ
 | []=>[⟨k,v⟩]
 | p::r=>if cF p.key k=true then p::eB k v r else if p.key=k then ⟨k,v⟩::r else ⟨k,v⟩::p::r
def fi (k:ByteArray) (ps:List aJ):List aJ:=ps.filter fun p=>decide (p.key≠k)
theorem kL (p:aJ) (ps:List aJ) (k:ByteArray):jf (p::ps) k=if cF p.key k=true then jf ps k+1 else 0:=by
 unfold jf
 rw [List.takeWhile_cons]
 split <;> simp
theorem CB {p:aJ} {ps:List aJ} {k:ByteArray} (h:cF p.key k=true):BA (p::ps) k=BA ps k:=by
 unfold BA
 rw [kL,if_pos h,List.getElem?_cons_succ]
theorem F0 {p:aJ} {ps:List aJ} {k:ByteArray} (h:cF p.key k=false):BA (p::ps) k=decide (p.key=k):=by
 unfold BA
 rw [kL,if_neg (by rw [h];decide),List.getElem?_cons_zero]
 exact jq _ _
theorem FZ (k:ByteArray):BA [] k=false:=by simp [BA]
theorem nz {a b:ByteArray} (h:cF a b=true):a≠b:=fun e=>by rw [e,A4] at h;cases h
theorem pU (k v:ByteArray) (ep:Int) : ∀ ps:List aJ,fo ps→eI ps ⟨1,ep,k,v⟩=eB k v ps
 | [],_=>by simp [eI,FZ,jf,eB]
 | p::ps,h=>by
  have ih:=pU k v ep ps (List.pairwise_cons.1 h).2
  unfold eI at ih ⊢
  simp only [show ¬((1:Int)=2) by decide,if_false,if_true] at ih ⊢
  unfold eB
  cases hl:cF p.key k with
  | true =>
   rw [CB hl,kL,if_pos hl,if_pos rfl,← ih]
   split <;> simp
  | false =>
   have e0:jf (p::ps) k=0:=by rw [kL,if_neg (by rw [hl];decide)]
   rw [F0 hl,e0]
   simp only [Bool.false_eq_true,if_false]
   by_cases e:p.key=k
   ·
    rw [decide_eq_true e,if_pos rfl,if_pos e];simp
   ·
    rw [decide_eq_false e,if_neg (by decide),if_neg e];simp
theorem FJ {k:ByteArray} {ps:List aJ} (h : ∀ p ∈ ps,cF k p.key=true):fi k ps=ps:=by
 unfold fi
 rw [List.filter_eq_self]
 intro p hp
 exact decide_eq_true (nz (h p hp)).symm
theorem tL (k v:ByteArray) (ep:Int) : ∀ ps:List aJ,fo ps→eI ps ⟨2,ep,k,v⟩=fi k ps
 | [],_=>by simp [eI,FZ,fi]
 | p::ps,h=>by
  obtain ⟨hp,hs⟩:=List.pairwise_cons.1 h
  have ih:=tL k v ep ps hs
  unfold eI at ih ⊢
  simp only [show ¬((2:Int)=1) by decide,if_false,if_true] at ih ⊢
  unfold fi at ih ⊢
  rw [List.filter_cons]
  cases hl:cF p.key k with
  | true =>
   rw [CB hl,kL,if_pos hl,if_pos (decide_eq_true (nz hl)),← ih]
   split <;> simp
  | false =>
   have e0:jf (p::ps) k=0:=by rw [kL,if_neg (by rw [hl];decide)]
   rw [F0 hl,e0]
   by_cases e:p.key=k
   ·
    have hf:=FJ (k:=k) (ps:=ps) (fun q hq=>by rw [← e];exact hp q hq)
    unfold fi at hf
    rw [decide_eq_true e,if_pos rfl,if_neg (by simp [e]),hf]
    simp
   ·
    have hkp:cF k p.key=true:=by
     cases h':cF k p.key with
     | true=>rfl
     | false=>exact absurd (ti hl h') e
    have hf:=FJ (k:=k) (ps:=ps) (fun q hq=>lM hkp (hp q hq))
    unfold fi at hf
    rw [decide_eq_false e,if_neg (by decide),if_pos (decide_eq_true e),hf]
theorem Da {k v:ByteArray} {x:ByteArray} : ∀ {ps:List aJ},cF x k=true→(∀ p ∈ ps,cF x p.key=true) → ∀ p ∈ eB k v ps,cF x p.key=true
 | [],hk,_,p,hp=>by
  simp only [eB,List.mem_singleton] at hp
  rw [hp];exact hk
 | q::ps,hk,h,p,hp=>by
  unfold eB at hp
  split at hp
  ·
   rcases List.mem_cons.1 hp with rfl | hp
   ·
    exact h _ (by simp)
   ·
    exact Da hk (fun p hp=>h p (by simp [hp])) p hp
  ·
   split at hp
   ·
    rcases List.mem_cons.1 hp with rfl | hp
    ·
     exact hk
    ·
     exact h _ (by simp [hp])
   ·
    rcases List.mem_cons.1 hp with rfl | hp
    ·
     exact hk
    ·
     exact h _ hp
theorem xE (k v:ByteArray) : ∀ {ps:List aJ},fo ps→fo (eB k v ps)
 | [],_=>List.pairwise_singleton _ _
 | p::ps,h=>by
  obtain ⟨hp,hs⟩:=List.pairwise_cons.1 h
  unfold eB
  split
  ·
   rename_i hl
   exact List.pairwise_cons.2 ⟨Da hl hp,xE k v hs⟩
  ·
   rename_i hl
   split
   ·
    rename_i e
    exact List.pairwise_cons.2 ⟨fun q hq=>by show cF k q.key=true;rw [← e];exact hp q hq,hs⟩
   ·
    rename_i e
    have hkp:cF k p.key=true:=by
     cases h':cF k p.key with
     | true=>rfl
     | false=>exact absurd (ti (by simpa using hl) h') e
    exact List.pairwise_cons.2 ⟨fun q hq=>by
     rcases List.mem_cons.1 hq with rfl | hq
     ·
      exact hkp
     ·
      exact lM hkp (hp q hq),h⟩
theorem Ej (k:ByteArray) {ps:List aJ} (h:fo ps):fo (fi k ps):=List.Pairwise.filter _ h
theorem Gi (k v:ByteArray) : ∀ ps:List aJ,(eB k v ps).length≤ps.length+1
 | []=>by simp [eB]
 | p::ps=>by
  have:=Gi k v ps
  unfold eB
  split
  ·
   simp only [List.length_cons];omega
  ·
   split <;> simp
def gW (r:aX):Prop:=bD r=true∧r.kind≠0
theorem Cv {r:aX} (h:gW r):r.kind=1∨r.kind=2:=by
 have:=h.1
 unfold bD at this
 rw [if_neg h.2] at this
 split at this
 ·
  exact .inl ‹_›
 ·
  split at this
  ·
   exact .inr ‹_›
  ·
   cases this
theorem KF {ps:List aJ} (h:fo ps) {r:aX} (hr:gW r):eI ps r=if r.kind=1 then eB r.key r.value ps else fi r.key ps:=by
 obtain ⟨kd,ep,k,v⟩:=r
 rcases Cv hr with e | e
 ·
  obtain rfl:kd=1:=e
  rw [if_pos rfl];exact pU k v ep ps h
 ·
  obtain rfl:kd=2:=e
  rw [if_neg (show ¬((2:Int)=1) by decide)];exact tL k v ep ps h
theorem nN {ps:List aJ} (h:fo ps) {r:aX} (hr:gW r):fo (eI ps r)∧(eI ps r).length≤ps.length+1:=by
 rw [KF h hr]
 split
 ·
  exact ⟨xE _ _ h,Gi _ _ _⟩
 ·
  exact ⟨Ej _ h,by have:=List.length_filter_le (fun p:aJ=>decide (p.key≠r.key)) ps;unfold fi;omega⟩
def cn (rs:List aX):List aJ:=rs.foldl eI []
theorem oy (rs:List aX) (r:aX):cn (rs++[r])=eI (cn rs) r:=by simp [cn]
theorem dx : ∀ (n:Nat) (rs:List aX),rs.length=n→(∀ r ∈ rs,gW r)→fo (cn rs)∧(cn rs).length≤rs.length
 | 0,rs,hl,_=>by
  obtain rfl:=List.length_eq_zero_iff.1 hl
  exact ⟨List.Pairwise.nil,Nat.le_refl _⟩
 | n+1,rs,hl,h=>by
  obtain ⟨rs',r,rfl⟩ : ∃ a b,rs=a++[b]:=⟨rs.dropLast,rs.getLast (by intro e;simp [e] at hl),(List.dropLast_concat_getLast _).symm⟩
  have hl':rs'.length=n:=by simpa using hl
  obtain ⟨h1,h2⟩:=dx n rs' hl' (fun r hr=>h r (by simp [hr]))
  obtain ⟨h3,h4⟩:=nN h1 (h r (by simp))
  rw [oy]
  exact ⟨h3,by simp only [List.length_append,List.length_cons,List.length_nil];omega⟩
theorem nE (rs:List aX) (i:Nat) (h:i<rs.length):(bp rs)[4 * i]? = some (.int .i64 rs[i].kind)∧(bp rs)[4 * i+1]? = some (.int .i64 rs[i].an)∧(bp rs)[4 * i+2]? = some (.string rs[i].key)∧(bp rs)[4 * i+3]? = some (.string rs[i].value):=by
 induction rs generalizing i with
 | nil=>simp at h
 | cons p ps ih =>
  cases i with
  | zero=>exact ⟨rfl,rfl,rfl,rfl⟩
  | succ i =>
   have:=ih i (by simpa using h)
   rw [show 4 * (i+1)=4 * i+4 by omega]
   simpa [bp,aX.cells] using this
theorem oz (v:Value) (rs:List aX) (w:World) (h:aU w v rs.length 4 (bp rs)) (hn:rs.length≤100) (hr : ∀ r ∈ rs,gW r):Calls prog 27 #[v] w (yS (cn rs) w):=by
 have HW:=zH (fun v ps r w h hs hn (hr:gW r)=>yp v ps r w h hs hn hr.1 hr.2)
 have HS:=zH (fun j=>dx _ (rs.take j) rfl (fun r hx=>hr r (List.mem_of_mem_take hx)))
 have HI:=zH hr
 have H:=zH h
 have HX:=zH (fun i (hi:i<rs.length)=>nE rs i hi)
 have HT:=zH (fun j (hj:j<rs.length)=>List.take_succ_eq_append_getElem hj)
 obtain ⟨a,c,rfl⟩:=h.slice
 unfold aX.cells at HW
 clear h hr
 go_enter func27,ntmps27
 go_wp2
 go_loopg [4,11] rs.length (fun n x i wr => ∃ j:Nat,n=rs.length - j∧i=.int .i64 j∧j≤rs.length∧Below w.heap.size w wr∧wr.ownsRow w.heap.size 83 2 x (cn (rs.take j)).length (aE (cn (rs.take j))))
 case atStart=>exact ⟨0,rfl,rfl,Nat.zero_le _,Below.refl _ _,zN⟩
 case round =>
  obtain ⟨j,hgn,rfl,hj,hb,ho⟩:=hrel
  have HB:=zH (zA hgn (zA hb ho))
  clear hgn hb ho
  by_cases hlt:j<rs.length
  ·
   have hlt':(j:Int)<(rs.length:Int):=by omega
   obtain ⟨b,o,rfl,hc,hx⟩:=H.out.some (by omega)
   obtain ⟨p0,p1,p2,p3⟩:=HX.out j hlt
   have cc : ∀ i u,(bp rs)[4 * j+i]? = some u→wr.cell? ⟨b,o+j * 4+i,none⟩=some u:=fun i u hu=>by
    have e:=hx _ _ hu
    rw [show o+j * 4+i=o+(4 * j+i) by omega]
    exact (HB.out.2.1.cell (p:=⟨b,o+(4 * j+i),none⟩) (zL w _ e)).trans e
   have c0:wr.cell? ⟨b,o+j * 4,none⟩=some (.int .i64 rs[j].kind):=cc 0 _ p0
   have c1:wr.cell? ⟨b,o+j * 4+1,none⟩=some (.int .i64 rs[j].an):=cc 1 _ p1
   have c2:wr.cell? ⟨b,o+j * 4+2,none⟩=some (.string rs[j].key):=cc 2 _ p2
   have c3:wr.cell? ⟨b,o+j * 4+3,none⟩=some (.string rs[j].value):=cc 3 _ p3
   clear p0 p1 p2 p3 cc hx
   obtain ⟨xa,xc,rfl⟩:=bG HB.out.2.2
   have HCL:=zH (HW.out (.slice xa (cn (rs.take j)).length xc) (cn (rs.take j)) rs[j] (wr.alloc (.cells #[.int .i64 rs[j].kind,.int .i64 rs[j].an,.string rs[j].key,.string rs[j].value] 74)) ((aU.cZ HB.out.2.2).aj (ae zR _)) (HS.out j).1 (by have:=(HS.out j).2;have:=List.length_take_le j rs;omega) (HI.out _ (List.getElem_mem hlt)))
   go_wp2_with fail
   refine HCL.out.mono ?_
   rintro e w2 ⟨v',rfl,ho2,hb2⟩
   have HB2:=zH (zA (gtr (ae HB.out.2.1 _) hb2) (eV ho2 (ae HB.out.2.1 _).size))
   clear ho2 hb2 c0 c1 c2 c3
   go_wp2
   go_roundg (rs.length - (j+1))
   case measure=>have:=HB.out.1;omega
   case rel=>exact ⟨j+1,rfl,by go_num,by omega,HB2.out.1,by rw [HT.out j hlt,oy];exact HB2.out.2⟩
  ·
   obtain rfl:j=rs.length:=by omega
   rw [List.take_length] at HB
   go_wp2
   go_ret2
   exact ⟨_,rfl,HB.out.2.2,HB.out.2.1⟩
structure bC where
 ck:Bool
 an:Int
 aC:List aX
 free:Int
def eC (s:ByteArray) (i:Nat):List aX:=match dI (dQ s i) with | some r=>if r.kind=0 then [] else [r] | none=>[]
def bz (s:ByteArray):Nat→List aX
 | 0=>[]
 | k+1=>bz s k++eC s (k+1)
def bT (s:ByteArray):Nat→Int
 | 0=>1
 | k+1=>if jE (dQ s (k+1))=true then bT s k else ((k+2:Nat):Int)
def cD (s:ByteArray):Bool×Int:=match dI (dQ s 0) with | some r=>if r.kind=0 then (true,r.an) else (false,0) | none=>(false,0)
def iK (s:ByteArray):bC:=⟨(cD s).1,(cD s).2,bz s 7,bT s 7⟩
theorem nI (s:ByteArray) : ∀ k,(bz s k).length≤k
 | 0=>Nat.le_refl _
 | k+1=>by
  have:=nI s k
  have h1:(eC s (k+1)).length≤1:=by
   unfold eC
   split
   ·
    split <;> simp
   ·
    simp
  simp only [bz,List.length_append];omega
def KO (V:bC) (er:Int) (w:World) (e:Ending) (w':World):Prop := ∃ vr,e=.returned (.tuple #[.agg #[.bool V.ck,.int .i64 V.an,vr,.int .i64 V.free],.int .i64 er])∧w'.ownsRow w.heap.size 74 4 vr V.aC.length (bp V.aC)∧Below w.heap.size w w'
structure gK (w wr:World) (b g:Nat) (s:ByteArray) (kr kf:Nat):Prop where
 ne:b≠g
 below:Below w.heap.size w wr
 res:wr.heap[b]? = some (.cells #[.bool false,.int .i64 0,.slice none 0 0,.int .i64 0] 52 (0,0))
 row : ∃ vr,wr.heap[g]? = some (.cells #[.bool (cD s).1,.int .i64 (cD s).2,vr,.int .i64 (bT s kf)] 52 (0,0))∧wr.ownsRow w.heap.size 74 4 vr (bz s kr).length (bp (bz s kr))
theorem gK.aj {w wr w2:World} {b g kr kf:Nat} {s:ByteArray} (h:gK w wr b g s kr kf) (hb:Below wr.heap.size wr w2):gK w w2 b g s kr kf:=by
 obtain ⟨vr,h1,h2⟩:=h.row
 exact ⟨h.ne,gtr h.below hb,aa hb h.res,vr,aa hb h1,World.ownsRow.aj h2 hb⟩
theorem nK {s:ByteArray} (hs:s.size=512) (i:Nat) (hi:i<8):(dQ s i).size=64:=by unfold dQ;simp;omega
theorem uB (r:aX):qH (some r) 1900=.tuple #[.agg #[.int .i64 r.kind,.int .i64 r.an,.string r.key,.string r.value],.int .i64 0]:=rfl
theorem uA:qH none 1900=.tuple #[.agg #[.int .i64 0,.int .i64 0,.string ⟨#[]⟩,.string ⟨#[]⟩],.int .i64 1900]:=rfl
theorem sx {w:World} {g:Nat} {a b c d:Value} {t:TypeId} (h:w.heap[g]? = some (.cells #[a,b,c,d] t (0,0))) (x:Value):(w.setCell ⟨g,0,none⟩ x).heap[g]? = some (.cells #[x,b,c,d] t (0,0))∧(w.setCell ⟨g,1,none⟩ x).heap[g]? = some (.cells #[a,x,c,d] t (0,0))∧(w.setCell ⟨g,2,none⟩ x).heap[g]? = some (.cells #[a,b,x,d] t (0,0))∧(w.setCell ⟨g,3,none⟩ x).heap[g]? = some (.cells #[a,b,c,x] t (0,0)) :=
 ⟨az (i:=0) (v:=x) h,az (i:=1) (v:=x) h,az (i:=2) (v:=x) h,az (i:=3) (v:=x) h⟩
theorem gK.cC {w wr:World} {b g kr kf:Nat} {s:ByteArray} (h:gK w wr b g s kr kf) : ∃ vr,(wr.cell? ⟨g,0,none⟩=some (.bool (cD s).1)∧wr.cell? ⟨g,1,none⟩=some (.int .i64 (cD s).2)∧wr.cell? ⟨g,2,none⟩=some vr∧wr.cell? ⟨g,3,none⟩=some (.int .i64 (bT s kf)) ∧ ∀ i,wr.frozen? ⟨g,i,none⟩=false)∧wr.ownsRow w.heap.size 74 4 vr (bz s kr).length (bp (bz s kr)):=by
 obtain ⟨vr,h1,h2⟩:=h.row
 exact ⟨vr,YtcfdenckiigdaaaGreat.cC h1,h2⟩
theorem gK.grow {w wr w2:World} {b g k:Nat} {s:ByteArray} {v v':Value} (h:gK w wr b g s k k) (hw:w.heap.size≤g) (hv:wr.cell? ⟨g,2,none⟩=some v) (hg:wr.grownBy w2 v.ownBlock) (ho:w2.ownsRow w.heap.size 74 4 v' (bz s (k+1)).length (bp (bz s (k+1)))):(∃ x,w2.cell? ⟨g,2,none⟩=some x)∧(∀ i,w2.frozen? ⟨g,i,none⟩=false)∧gK w (w2.setCell ⟨g,2,none⟩ v') b g s (k+1) k:=by
 obtain ⟨vr,h1,h2⟩:=h.row
 obtain rfl:vr=v:=by rw [cell_of h1] at hv;simpa using hv
 have hgl:=aO h1
 have e1:w2.heap[g]? = _:=(hg.block g hgl (cN h2 h1 (by decide))).trans h1
 have e2:w2.heap[b]? = _:=(hg.block b (aO h.res) (cN h2 h.res (by decide))).trans h.res
 have hbl:Below w.heap.size w w2:=h.below.trans ⟨hg.os,hg.tape,hg.output,hg.size,fun i hi=>hg.block i (zV hi h.below.size) (fun e=>by have:=bZ h2 i e.symm;omega)⟩
 refine ⟨⟨_,cell_of e1 2⟩,fun i=>aF e1 i,h.ne,lg hbl hw _,?_,v',(sx e1 v').2.2.1,?_⟩
 ·
  rw [Below.heap_setCell _ _ _ _ h.ne];exact e2
 ·
  rcases ho with ⟨hl,ho⟩
  refine ⟨hl,ho.imp id fun ⟨g2,cap,cur,hv,hB,hh,r⟩=>⟨g2,cap,cur,hv,hB,?_,r⟩⟩
  rw [Below.heap_setCell _ _ _ _ ?_]
  ·
   exact hh
  ·
   show g2≠g
   rintro rfl
   rw [e1] at hh
   simp at hh
theorem gK.same {w wr:World} {b g k:Nat} {s:ByteArray} (h:gK w wr b g s k k) (hs:eC s (k+1)=[]):gK w wr b g s (k+1) k:=by
 obtain ⟨a1,a2,a3,vr,a4,a5⟩:=h
 have e:bz s (k+1)=bz s k:=by simp only [bz];rw [hs,List.append_nil]
 exact ⟨a1,a2,a3,vr,a4,by rw [e];exact a5⟩
theorem gK.free {w wr:World} {b g k:Nat} {s:ByteArray} (h:gK w wr b g s (k+1) k) (hw:w.heap.size≤g) {x:Int} (hx:x=bT s (k+1)):gK w (wr.setCell ⟨g,3,none⟩ (.int .i64 x)) b g s (k+1) (k+1):=by
 obtain ⟨a1,a2,a3,vr,a4,a5⟩:=h
 refine ⟨a1,lg a2 hw _,?_,vr,?_,?_⟩
 ·
  rw [Below.heap_setCell _ _ _ _ a1];exact a3
 ·
  rw [← hx];exact (sx a4 _).2.2.2
 ·
  rcases a5 with ⟨hl,ho⟩
  refine ⟨hl,ho.imp id fun ⟨g2,cap,cur,hv,hB,hh,r⟩=>⟨g2,cap,cur,hv,hB,?_,r⟩⟩
  rw [Below.heap_setCell _ _ _ _ ?_]
  ·
   exact hh
  ·
   show g2≠g
   rintro rfl
   rw [a4] at hh
   simp at hh
theorem xi:(prog.info? 74).map (fun i=>(i.zero,i.size,i.bytes))=some (some (.agg #[.int .i64 0,.int .i64 0,.string ⟨#[]⟩,.string ⟨#[]⟩]),4,48):=by kernel_rfl
theorem xR (s:ByteArray) (w:World) (hs:s.size=512):Calls prog 19 #[.string s] w (KO (iK s) 0 w):=by
 have HS:=zH (fun i hi w=>Fc s i w hs hi)
 have HZ:=zH (fun i hi=>nK hs i hi)
 have HG:=zH (fun s w=>r9 s w)
 have hbw:=ae (ae (Below.refl w.heap.size w) (.cells #[.bool false,.int .i64 0,.slice none 0 0,.int .i64 0] 52)) (.cells #[.bool false,.int .i64 0,.slice none 0 0,.int .i64 1] 52)
 have hres:=aa (ae (Below.refl _ (w.alloc (.cells #[.bool false,.int .i64 0,.slice none 0 0,.int .i64 0] 52))) (.cells #[.bool false,.int .i64 0,.slice none 0 0,.int .i64 1] 52)) (af w (.cells #[.bool false,.int .i64 0,.slice none 0 0,.int .i64 0] 52))
 have hrow:=af (w.alloc (.cells #[.bool false,.int .i64 0,.slice none 0 0,.int .i64 0] 52)) (.cells #[.bool false,.int .i64 0,.slice none 0 0,.int .i64 1] 52)
 rw [World.size_alloc] at hrow
 have HW:=zH (zA hbw (zA hres hrow))
 clear hbw hres hrow
 go_enter func19,ntmps19
 go_wp2_with fail
 refine (HS.out 0 (by decide) _).mono ?_
 rintro e w1 ⟨rfl,rfl⟩
 generalize (w.alloc (.cells #[.bool false,.int .i64 0,.slice none 0 0,.int .i64 0] 52)).alloc (.cells #[.bool false,.int .i64 0,.slice none 0 0,.int .i64 1] 52)=W at *
 go_wp2_with fail
 refine (HG.out _ _).mono ?_
 rintro e w1 ⟨rfl,hb⟩
 have hres:=aa hb HW.out.2.1
 have hrow:=aa hb HW.out.2.2
 have hB:=zH (gtr HW.out.1 hb)
 obtain ⟨c0,c1,c2,c3,hf⟩:=cC hrow
 have HR:=zH (zA hres hrow)
 clear hb hres hrow HW
 have hlt:w.heap.size+1<w1.heap.size:=aO HR.out.2
 cases hh:dI (dQ s 0)
 case' some =>
  rename_i h0
  rw [uB]
  by_cases k0:h0.kind=0
 case' pos =>
  have HH:=zH (show cD s=(true,h0.an) by unfold cD;rw [hh];simp only;rw [if_pos k0])
  clear hh
  rw [k0]
  go_upto_region 6 with fail
  go_region
  go_upto_region 8 with fail
  have HSC:gK w (((w1.setCell ⟨w.heap.size+1,0,none⟩ (.bool true)).setCell ⟨w.heap.size+1,1,none⟩ (.int .i64 h0.an)).alloc (.cells #[.int .i64 0,.int .i64 h0.an,.string h0.key,.string h0.value] 74)).drew w.heap.size (w.heap.size+1) s 0 0:=by
   refine gK.aj (wr:=(w1.setCell ⟨w.heap.size+1,0,none⟩ (.bool true)).setCell ⟨w.heap.size+1,1,none⟩ (.int .i64 h0.an)) ?_ (au (ae zR _))
   refine ⟨by omega,lg (lg hB.out (by show w.heap.size≤w.heap.size+1;omega) _) (by show w.heap.size≤w.heap.size+1;omega) _,?_,.slice none 0 0,?_,zN⟩
   ·
    rw [Below.heap_setCell _ _ _ _ (by show w.heap.size≠w.heap.size+1;omega),Below.heap_setCell _ _ _ _ (by show w.heap.size≠w.heap.size+1;omega)]
    exact HR.out.1
   ·
    rw [HH.out]
    exact (sx (sx HR.out.2 _).1 _).2.1
  generalize (((w1.setCell ⟨w.heap.size+1,0,none⟩ (.bool true)).setCell ⟨w.heap.size+1,1,none⟩ (.int .i64 h0.an)).alloc (.cells #[.int .i64 0,.int .i64 h0.an,.string h0.key,.string h0.value] 74)).drew=w2 at *
 case' neg =>
  have HH:=zH (show cD s=(false,0) by unfold cD;rw [hh];simp only;rw [if_neg k0])
  have hkx:(h0.kind == 0)=false:=by simpa using k0
  clear hh
  go_upto_region 8 with fail
  have HSC:gK w (w1.alloc (.cells #[.int .i64 h0.kind,.int .i64 h0.an,.string h0.key,.string h0.value] 74)) w.heap.size (w.heap.size+1) s 0 0:=by
   have hx:=ae (Below.refl _ w1) (.cells #[.int .i64 h0.kind,.int .i64 h0.an,.string h0.key,.string h0.value] 74)
   exact ⟨by omega,gtr hB.out hx,aa hx HR.out.1,.slice none 0 0,by rw [HH.out];exact aa hx HR.out.2,zN⟩
  generalize (w1.alloc (.cells #[.int .i64 h0.kind,.int .i64 h0.an,.string h0.key,.string h0.value] 74))=w2 at *
  clear hkx k0
 case' none =>
  rw [uA]
  have HH:=zH (show cD s=(false,0) by unfold cD;rw [hh])
  clear hh
  go_upto_region 8 with fail
  have HSC:gK w (w1.alloc (.cells #[.int .i64 0,.int .i64 0,.string ⟨#[]⟩,.string ⟨#[]⟩] 74)) w.heap.size (w.heap.size+1) s 0 0:=by
   have hx:=ae (Below.refl _ w1) (.cells #[.int .i64 0,.int .i64 0,.string ⟨#[]⟩,.string ⟨#[]⟩] 74)
   exact ⟨by omega,gtr hB.out hx,aa hx HR.out.1,.slice none 0 0,by rw [HH.out];exact aa hx HR.out.2,zN⟩
  generalize (w1.alloc (.cells #[.int .i64 0,.int .i64 0,.string ⟨#[]⟩,.string ⟨#[]⟩] 74))=w2 at *
 all_goals
  have H0:=zH HSC
  clear HSC HH hB c0 c1 c2 c3 hf HR hlt
  go_loopg [7] 7 (fun n i wr => ∃ j:Nat,j≤7∧n=7 - j∧i=.int .i64 ((j+1:Nat):Int)∧gK w wr w.heap.size (w.heap.size+1) s j j)
  case atStart=>exact ⟨0,by omega,rfl,rfl,H0.out⟩
  case round =>
   obtain ⟨j,hj,hn,rfl,hS⟩:=hrel
   have HN:=zH hn
   clear hn
   by_cases hlt:j<7
   ·
    have hlt8:((j+1:Nat):Int)<8:=by omega
    have HS1:=zH hS
    clear hS
    go_wp2_with fail
    refine (HS.out (j+1) (by omega) _).mono ?_
    rintro e w3 ⟨rfl,rfl⟩
    go_wp2_with fail
    refine (HG.out _ _).mono ?_
    rintro e w3 ⟨rfl,hb⟩
    have hS2:=HS1.out.aj hb
    obtain ⟨vr,⟨c0,c1,c2,c3,hf⟩,ho⟩:=hS2.cC
    have HS2:=zH hS2
    have HO:=zH ho
    have hgl:w.heap.size+1<w3.heap.size:=zL w3 _ c0
    clear hb HS1 hS2 ho
    have hjl:=nI s j
    have hw1:w.heap.size≤w.heap.size+1:=by omega
    have HBL:=zH (fun w=>uX (dQ s (j+1)) w (by rw [HZ.out (j+1) (by omega)];decide))
    obtain ⟨i0,hi,hz0,hz1,hz2⟩:=info_parts xi
    cases hr:dI (dQ s (j+1))
    case' some =>
     rename_i r
     rw [uB]
     by_cases k:r.kind=0
    case' pos =>
     have hsr:eC s (j+1)=[]:=by unfold eC;rw [hr];simp only;rw [if_pos k]
     rw [k]
     have HSX:=zH ((HS2.out.same hsr).aj (ae (Below.refl _ w3) (.cells #[.int .i64 0,.int .i64 r.an,.string r.key,.string r.value] 74)))
     clear hr hsr HS2 c0 c1 c2 c3 hf
     go_wp2_with fail
     generalize w3.alloc (.cells #[.int .i64 0,.int .i64 r.an,.string r.key,.string r.value] 74)=w4 at *
    case' neg =>
     have hsr:eC s (j+1)=[r]:=by unfold eC;rw [hr];simp only;rw [if_neg k]
     have HR2:=zH (show bz s (j+1)=bz s j++[r] by rw [← hsr];rfl)
     clear hr hsr
     go_wp2_with (at_builtin;refine wpList_append_lies _ rfl _ _ 50 rfl w.heap.size 74 i0 (.agg #[.int .i64 0,.int .i64 0,.string ⟨#[]⟩,.string ⟨#[]⟩]) 4 48 underlying50 hi hz0 hz1 hz2 rfl (by decide) vr (bz s j).length (bp (bz s j)) ?a1 (World.ownsRow.aj HO.out (ae (ae zR _) _)) ⟨w3.heap.size+1,0,none⟩ 1 1 [.int .i64 r.kind,.int .i64 r.an,.string r.key,.string r.value] ?a2 rfl ?a3 ?a4 (by decide) ?a5 ?a6 ?a7 _ rfl ?_)
     case a1=>rfl
     case a2=>rfl
     case a3=>exact World.news_of_block (cs := #[.int .i64 r.kind,.int .i64 r.an,.string r.key,.string r.value]) (t:=74) (fr:=(0,0)) (by simpa using af (w3.alloc _) _)
     case a4=>intro u hu;simp only [List.mem_cons,List.not_mem_nil,or_false] at hu;rcases hu with rfl | rfl | rfl | rfl <;> rfl
     case a5=>simp only [maxLen];omega
     case a6=>omega
     case a7=>have:=HS2.out.below.size;simp only [World.size_alloc];omega
     intro g4 cap4 w' how hgr _ _
     have hgr3:w3.grownBy w' vr.ownBlock:=⟨hgr.os,hgr.tape,hgr.output,by have:=hgr.size;simp only [World.size_alloc] at this;omega,fun i hi hne=>(hgr.block i (by simp only [World.size_alloc];omega) hne).trans ((ae (ae (Below.refl w3.heap.size w3) _) _).block i hi)⟩
     have how2:w'.ownsRow w.heap.size 74 4 (.slice (some ⟨g4,0,none⟩) ((bz s j).length+1) cap4) (bz s (j+1)).length (bp (bz s (j+1))):=by
      rw [HR2.out,kG,List.length_append];exact how
     obtain ⟨⟨y,e2⟩,hf',hSX⟩:=HS2.out.grow hw1 c2 hgr3 how2
     have HSX:=zH hSX
     clear how hgr hgr3 how2 hSX HR2 HS2 c0 c1 c2 c3 hf
     go_wp2_with fail
     generalize w'.setCell ⟨w.heap.size+1,2,none⟩ (.slice (some ⟨g4,0,none⟩) ((bz s j).length+1) cap4)=w4 at *
    case' none =>
     rw [uA]
     have hsr:eC s (j+1)=[]:=by unfold eC;rw [hr]
     have HSX:=zH ((HS2.out.same hsr).aj (ae (Below.refl _ w3) (.cells #[.int .i64 0,.int .i64 0,.string ⟨#[]⟩,.string ⟨#[]⟩] 74)))
     clear hr hsr HS2 c0 c1 c2 c3 hf
     go_wp2_with fail
     generalize w3.alloc (.cells #[.int .i64 0,.int .i64 0,.string ⟨#[]⟩,.string ⟨#[]⟩] 74)=w4 at *
    all_goals
     refine (HBL.out _).mono ?_
     rintro e w5 ⟨rfl,hb5⟩
     have hS5:=HSX.out.aj hb5
     obtain ⟨vr5,⟨d0,d1,d2,d3,df⟩,_⟩:=hS5.cC
     have HS5:=zH hS5
     clear hb5 hS5
     cases hbl:jE (dQ s (j+1)) with
     | true =>
      go_wp2
      go_roundg (7 - (j+1))
      case measure=>have:=HN.out;omega
      case rel =>
       refine ⟨j+1,by omega,rfl,by go_num,?_⟩
       have e:bT s (j+1)=bT s j:=by simp only [bT];rw [if_pos hbl]
       obtain ⟨a1,a2,a3,vr,a4,a5⟩:=HS5.out
       exact ⟨a1,a2,a3,vr,by rw [e];exact a4,a5⟩
     | false =>
      go_wp2
      go_roundg (7 - (j+1))
      case measure=>have:=HN.out;omega
      case rel =>
       refine ⟨j+1,by omega,rfl,by go_num,?_⟩
       have e:bT s (j+1)=((j+2:Nat):Int):=by simp only [bT];rw [if_neg (by rw [hbl];decide)]
       exact HS5.out.free hw1 (by rw [e];rfl)
   ·
    obtain rfl:j=7:=by omega
    obtain ⟨vr,⟨c0,c1,c2,c3,hf⟩,ho⟩:=hS.cC
    obtain ⟨d0,d1,d2,d3,df⟩:=cC hS.res
    obtain ⟨va,vc,rfl⟩:=bG ho
    have HX:=zH (zA hS.below (eW (o:=3) (eW (o:=2) (eW (o:=1) (eW (o:=0) ho (cN ho hS.res (by decide)) (.bool (cD s).1)) (cN ho hS.res (by decide)) (.int .i64 (cD s).2)) (cN ho hS.res (by decide)) (.slice va (bz s 7).length vc)) (cN ho hS.res (by decide)) (.int .i64 (bT s 7))))
    have HV:=zH (show iK s=⟨(cD s).1,(cD s).2,bz s 7,bT s 7⟩ from rfl)
    clear hS ho
    go_wp2
    refine bodyPost_ret (v:=.tuple #[.agg #[.bool (cD s).1,.int .i64 (cD s).2,.slice va (bz s 7).length vc,.int .i64 (bT s 7)],.int .i64 0]) (by simp [results,results19,go_sem,d0,d1,d2,d3]) rfl ?_
    exact ⟨_,rfl,HX.out.2,Kn HX.out.1 zY _ _ _ _⟩
end Go.Proofs.YtcfdenckiigdaaaGreat

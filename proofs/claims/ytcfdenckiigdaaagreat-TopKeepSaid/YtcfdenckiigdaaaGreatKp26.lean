/- Part 26 of the contracts. -/
import Derived.Lib.AppendZerosOnto
import Derived.Test.YtcfdenckiigdaaaGreatKp25
set_option linter.unusedVariables false
set_option maxRecDepth 100000
set_option maxHeartbeats 4000000
namespace Go.Proofs.YtcfdenckiigdaaaGreat
section
open Go.RowKit
theorem qwy (z0 z1:Value) (n:Nat):(Builtin.zeroCells (Value.agg #[z0,z1]).cells n).size=n * 2:=by
 have e0:(Value.agg #[z0,z1]).cells = #[z0,z1]:=rfl
 rw [e0]
 simp [Builtin.zeroCells]
theorem qnI (w0 w:World) (g cap n i vb vc:Nat) (cs:List Value) (cur:Array Value) (k v:ByteArray) (h:qgF w w0.heap.size g cap n cs cur) (hb:Below w0.heap.size w0 w) (hi:i<n) (hn:n≤1000000) (hroom:cap<n+1) (h2:qnc w vb k v) (h1 : ∀ u ∈ cs,u.oneCell'=true):Calls Tryz.prog 83 #[.slice (some ⟨g,0,none⟩) n cap,.int .i64 i,.slice (some ⟨vb,0,none⟩) 1 vc] w (qh3 w0 (n+1) (qqY cs i k v)):=by
 obtain ⟨i0,hi0,hz0,hzs,hzb⟩:=info_parts qex
 have hsz:(Tryz.prog.info? 83).map (·.size)=some 2:=by rw [hi0];simp [hzs]
 have hcl:=h.len
 have hle:=h.le
 obtain ⟨xa,xs,xf⟩:=h.cell
 have hgw:g<w.heap.size:=qat h.heap
 have hvw:vb<w.heap.size:=qat h2
 have mixed:Tryz.prog.follows Departure.mixedOrders=true:=by kernel_rfl
 have hkk:(n:Int)+1 - (i:Int)=((n+1 - i:Nat):Int):=by omega
 have hik:i+(n+1 - i)=n+1:=by omega
 have hlt:(cs.take (2 * i)).length=2 * i:=by rw [List.length_take,hcl];omega
 have hdl:(cs.drop (2 * i)).length=(n - i) * 2:=by rw [List.length_drop,hcl];omega
 have hold:(Builtin.firstCells i0.size i (.slice (some ⟨g,0,none⟩) i cap)).run Tryz.prog w.drew=.ok (cs.take (2 * i)).toArray w.drew:=by
  rw [hzs]
  exact run_firstCells_some w.drew 2 i ⟨g,0,none⟩ i cap (cs.take (2 * i)) (by rw [hlt];omega) (fun j u hj=>by
   rw [qaP,Nat.zero_add]
   rw [List.getElem?_take] at hj
   split at hj
   ·
    exact xa j u hj
   ·
    cases hj)
 have hrz0 : ∀ ty,(Builtin.append_ #[32,3] ty #[.slice (some ⟨g,0,none⟩) i cap,.int .i64 ((n:Int)+1 - (i:Int))]).run Tryz.prog w=.ok (.slice (some ⟨w.heap.size,0,none⟩) (n+1) (grownCap w (n+1) cap 83)) (w.drew.alloc (.cells ((cs.take (2 * i)).toArray++Builtin.zeroCells (Value.agg #[.string ⟨#[]⟩,.string ⟨#[]⟩]).cells (n+1 - i)++Builtin.zeroCells (Value.agg #[.string ⟨#[]⟩,.string ⟨#[]⟩]).cells (grownCap w (n+1) cap 83 - (n+1))) 83)):=fun ty=>by
  have hh:=Lib.run_append_grow_zeros w 32 3 ty 83 i0 _ .i64 .i64 Tryz.underlying32 Tryz.underlying3 hi0 hz0 (some ⟨g,0,none⟩) i cap (cs.take (2 * i)) hold (n+1 - i) (by omega) (by omega) (by omega) (by omega) (by rw [hzb];omega) (by rw [hzb,hik];exact growslice_fits hroom (by omega))
  rw [hik] at hh
  rw [hkk]
  exact hh
 have hGn:=grownCap_ge w (n+1) cap 83
 have hG63:=grownCap_le_maxLen w (n+1) cap 83 (by unfold maxLen;omega)
 generalize grownCap w (n+1) cap 83=G at *
 obtain ⟨ROW,hROW⟩ : ∃ ROW:Array Value,ROW=(cs.take (2 * i)).toArray++Builtin.zeroCells (Value.agg #[.string ⟨#[]⟩,.string ⟨#[]⟩]).cells (n+1 - i)++Builtin.zeroCells (Value.agg #[.string ⟨#[]⟩,.string ⟨#[]⟩]).cells (G - (n+1)):=⟨_,rfl⟩
 rw [← hROW] at hrz0
 have hRs:ROW.size=G * 2:=by
  rw [hROW,Array.size_append,Array.size_append,qwy,qwy,List.size_toArray,hlt];omega
 have hRt : ∀ j,j<2 * i→ROW[j]? = cs[j]? := fun j hj=>by
  rw [hROW,Array.append_assoc,Array.getElem?_append_left (by rw [List.size_toArray,hlt];exact hj),List.getElem?_toArray,List.getElem?_take,if_pos hj]
 have hbN:Below w0.heap.size w0 ((w.alloc (.cells ROW 83)).drew):=(hb.alloc hb.size _).drew
 have hrA:qgF ((w.alloc (.cells ROW 83)).drew) w0.heap.size w.heap.size G i (cs.take (2 * i)) ROW :=
  ⟨qad w _,hb.size,by omega,hG63,hRs,by rw [hlt];omega,fun j hj=>by rw [hRt j (by omega),List.getElem?_take,if_pos (by omega)]⟩
 have hrB:qgF (((w.alloc (.cells ROW 83)).drew).setCells w.heap.size (i * 2) [.string k,.string v]) w0.heap.size w.heap.size G (i+1) (cs.take (2 * i)++[.string k,.string v]) (putAt ROW (i * 2) [.string k,.string v]):=by
  refine hrA.set _ _ (by simp only [List.length_cons,List.length_nil];omega) (i+1) _ (by omega) (by simp only [List.length_append,hlt,List.length_cons,List.length_nil];omega) fun j hj => ?_
  simp only [List.length_cons,List.length_nil]
  by_cases hj1:i * 2≤j∧j<i * 2+(0+1+1)
  ·
   rw [if_pos hj1,List.getElem?_append_right (by rw [hlt];omega),hlt];congr 1;omega
  ·
   rw [if_neg hj1,List.getElem?_append_left (by rw [hlt];omega)];exact hrA.at' j (by omega)
 have hbB:Below w0.heap.size w0 (((w.alloc (.cells ROW 83)).drew).setCells w.heap.size (i * 2) [.string k,.string v]):=qbk _ hb.size _ _ _ hbN
 have hfin:Hid (qgF ((((w.alloc (.cells ROW 83)).drew).setCells w.heap.size (i * 2) [.string k,.string v]).drew.setCells w.heap.size ((i+1) * 2) (cs.drop (2 * i))) w0.heap.size w.heap.size G (n+1) (qqY cs i k v) (putAt (putAt ROW (i * 2) [.string k,.string v]) ((i+1) * 2) (cs.drop (2 * i)))∧Below w0.heap.size w0 ((((w.alloc (.cells ROW 83)).drew).setCells w.heap.size (i * 2) [.string k,.string v]).drew.setCells w.heap.size ((i+1) * 2) (cs.drop (2 * i)))):=by
  have hrB':qgF (((w.alloc (.cells ROW 83)).drew).setCells w.heap.size (i * 2) [.string k,.string v]).drew w0.heap.size w.heap.size G (i+1) (cs.take (2 * i)++[.string k,.string v]) (putAt ROW (i * 2) [.string k,.string v]):=⟨hrB.heap,hrB.base,hrB.le,hrB.max,hrB.size,hrB.len,hrB.at'⟩
  have hl2:(cs.take (2 * i)++[Value.string k,.string v]).length=2 * i+2:=by simp only [List.length_append,hlt,List.length_cons,List.length_nil]
  refine zH ⟨hrB'.set _ _ (by rw [hdl];omega) (n+1) _ (by omega) (by unfold qqY;rw [List.length_append,hl2,hdl];omega) fun j hj => ?_,qbk _ hb.size _ _ _ hbB.drew⟩
  rw [hdl]
  unfold qqY
  by_cases hj1:(i+1) * 2≤j∧j<(i+1) * 2+(n - i) * 2
  ·
   rw [if_pos hj1,List.getElem?_append_right (by rw [hl2];omega),hl2];congr 1;omega
  ·
   rw [if_neg hj1,List.getElem?_append_left (by rw [hl2];omega)];exact hrB.at' j (by omega)
 have hrz : ∀ ty,(Builtin.append_ #[32,3] ty #[.slice (some ⟨g,0,none⟩) i cap,.int .i64 ((n:Int)+1 - (i:Int))]).run Tryz.prog w=.ok (.slice (some ⟨w.heap.size,0,none⟩) (n+1) G) (w.alloc (.cells ROW 83)).drew:=fun ty=>hrz0 ty
 obtain ⟨a1,a2,a3⟩:=hrA.cell
 obtain ⟨b1,b2,b3⟩:=hrB.cell
 have hcp1 : ∀ ty dc,(Builtin.copy_ #[32,32] ty #[.slice (some ⟨w.heap.size,i * 2,none⟩) (n+1 - i) dc,.slice (some ⟨vb,0,none⟩) 1 vc]).run Tryz.prog (w.alloc (.cells ROW 83)).drew=.ok (goInt (Nat.min 1 (n+1 - i))) ((w.alloc (.cells ROW 83)).drew.setCells w.heap.size (i * 2) [.string k,.string v]):=fun ty dc =>
  qgt _ 32 32 ty 83 w.heap.size (i * 2) (n+1 - i) dc ⟨vb,0,none⟩ 1 vc [.string k,.string v] Tryz.underlying32 hsz (by simp only [List.length_cons,List.length_nil,Nat.min_def];split <;> omega) (fun j u hj=>by
    rw [qaP]
    have e:=(qai (qac (Below.refl _ w) (.cells ROW 83))).cell (p:=⟨vb,0+j,none⟩) hvw
    exact e.trans (h2.cells j u hj)) (fun j hj=>a2 _ (by simp only [List.length_cons,List.length_nil] at hj;omega)) (fun j _=>a3 _) (fun u hu=>by simp at hu;rcases hu with rfl | rfl <;> rfl)
 have hcp2 : ∀ ty dc sc,(Builtin.copy_ #[32,32] ty #[.slice (some ⟨w.heap.size,(i+1) * 2,none⟩) (n - i) dc,.slice (some ⟨g,i * 2,none⟩) (n - i) sc]).run Tryz.prog ((w.alloc (.cells ROW 83)).drew.setCells w.heap.size (i * 2) [.string k,.string v]).drew=.ok (goInt (Nat.min (n - i) (n - i))) (((w.alloc (.cells ROW 83)).drew.setCells w.heap.size (i * 2) [.string k,.string v]).drew.setCells w.heap.size ((i+1) * 2) (cs.drop (2 * i))):=fun ty dc sc =>
  qgt _ 32 32 ty 83 w.heap.size ((i+1) * 2) (n - i) dc ⟨g,i * 2,none⟩ (n - i) sc (cs.drop (2 * i)) Tryz.underlying32 hsz (by rw [hdl];simp only [Nat.min_def];split <;> rfl) (fun j u hj=>by
    rw [qaP]
    show ((w.alloc (.cells ROW 83)).drew.setCells w.heap.size (i * 2) [.string k,.string v]).cell? ⟨g,i * 2+j,none⟩=some u
    rw [World.cell?_setCells_out _ _ _ _ _ (fun e _=>absurd (show g=w.heap.size from e) (by omega)),show i * 2+j=2 * i+j by omega]
    exact ((qai (qac (Below.refl _ w) (.cells ROW 83))).cell (p:=⟨g,2 * i+j,none⟩) hgw).trans (xa (2 * i+j) u (by rwa [List.getElem?_drop] at hj)))
   (fun j hj=>b2 _ (by rw [hdl] at hj;omega)) (fun j _=>b3 _) (fun u hu=>h1 u (List.mem_of_mem_drop hu))
 have hne : ¬ ((i:Int)=(n:Int)):=by omega
 have hz3:(cap:Int)<(n:Int)+1:=by omega
 have hGi : ¬ (G=i):=by omega
 have hGim : ¬ (G=i+1):=by omega
 have hci : ¬ (cap=i):=by omega
 have hw1:IntKind.i64.wrap ((i:Int)+1)=(i:Int)+1:=by rw [IntKind.wrap_i64];omega
 have hb1:(0:Int)≤(i:Int)+1:=by omega
 have hin:i≤n:=by omega
 have htn:((i:Int)+1).toNat=i+1:=by omega
 have hb3:(i:Int)≤(n:Int):=by omega
 unfold maxLen at hG63
 clear b1 b2 b3 hkk hik hold hROW hRs hRt hrz0 hrA hrB hbN hbB a1 a2 a3 xa xs xf hdl hlt h hb h2
 generalize (w.alloc (.cells ROW 83)).drew=W1 at *
 go_enter Tryz.func83,Tryz.ntmps83
 go_wp2_with (first
  | (at_builtin;refine Lib.wpList_append_run _ rfl _ _ _ _ rfl _ _ rfl rfl _ _ (hrz _) ?_)
  | (at_builtin;refine wpList_copy_runI _ rfl _ _ 32 32 rfl _ _ rfl rfl (hcp1 _ _) ?_))
 go_region_law_o (refine step_copy_runI rfl _ _ 32 32 rfl (.slice (some ⟨w.heap.size,(i+1) * 2,none⟩) (n - i) (G - (i+1))) (.slice (some ⟨g,i * 2,none⟩) (n - i) (cap - i)) (by simp [Act.eval,Act.put]) (by simp [Act.eval,Act.put]) (hcp2 3 (G - (i+1)) (cap - i)) ?_)
 go_wp2_with fail
 go_ret
 exact ⟨_,rfl,hfin.out.1.own,hfin.out.2⟩
theorem qmo (w0 w:World) (x:Value) (n i vb vc:Nat) (cs:List Value) (k v:ByteArray) (h:w.ownsRow w0.heap.size 83 2 x n cs) (hb:Below w0.heap.size w0 w) (hi:i≤n) (hn:n≤1000000) (h2:qnc w vb k v) (hvb:some vb≠x.ownBlock) (h1 : ∀ u ∈ cs,u.oneCell'=true):Calls Tryz.prog 83 #[x,.int .i64 i,.slice (some ⟨vb,0,none⟩) 1 vc] w (qh3 w0 (n+1) (qqY cs i k v)):=by
 by_cases e:i=n
 ·
  subst e
  have hl:qqY cs i k v=cs++[.string k,.string v]:=by
   unfold qqY
   rw [List.take_of_length_le (by rw [h.1];omega),List.drop_of_length_le (by rw [h.1];omega),List.append_nil]
  rw [hl]
  exact qqa w0 w x i vb vc cs k v h hb hn h2
 ·
  rcases qgF.of h with ⟨rfl,h0,_⟩ | ⟨g,cap,cur,rfl,hr⟩
  ·
   omega
  ·
   by_cases hroom:n+1≤cap
   ·
    exact qnJ w0 w g cap n i vb vc cs cur k v hr hb (by omega) hroom h2 (fun e=>hvb (by rw [e];rfl)) h1
   ·
    exact qnI w0 w g cap n i vb vc cs cur k v hr hb (by omega) hn (by omega) h2 h1
end
section
open Go.RowKit
theorem qlO : ∀ a:List UInt8,Op.bytesLess a a=false
 | []=>rfl
 | x::a=>by simp [Op.bytesLess,qlO a]
theorem qoF : ∀ a b c:List UInt8,Op.bytesLess a b=true→Op.bytesLess b c=true→Op.bytesLess a c=true
 | [],[],_,h,_=>by simp [Op.bytesLess] at h
 | [],_::_,[],_,h=>by simp [Op.bytesLess] at h
 | [],_::_,_::_,_,_=>by simp [Op.bytesLess]
 | _::_,[],_,h,_=>by simp [Op.bytesLess] at h
 | _::_,_::_,[],_,h=>by simp [Op.bytesLess] at h
 | x::a,y::b,z::c,h,k=>by
  simp only [Op.bytesLess,Bool.or_eq_true,Bool.and_eq_true,decide_eq_true_eq,beq_iff_eq] at h k ⊢
  rcases h with h | ⟨rfl,h⟩
  ·
   rcases k with k | ⟨rfl,k⟩
   ·
    exact .inl (UInt8.lt_trans h k)
   ·
    exact .inl h
  ·
   rcases k with k | ⟨rfl,k⟩
   ·
    exact .inl k
   ·
    exact .inr ⟨rfl,qoF a b c h k⟩
theorem quF : ∀ a b:List UInt8,Op.bytesLess a b=false→Op.bytesLess b a=false→a=b
 | [],[],_,_=>rfl
 | [],_::_,h,_=>by simp [Op.bytesLess] at h
 | _::_,[],_,h=>by simp [Op.bytesLess] at h
 | x::a,y::b,h,k=>by
  simp only [Op.bytesLess,Bool.or_eq_false_iff,decide_eq_false_iff_not,Bool.and_eq_false_iff] at h k
  have e:x=y:=by
   have h1 : ¬ x.toNat<y.toNat:=fun e=>h.1 (UInt8.lt_iff_toNat_lt.2 e)
   have h2 : ¬ y.toNat<x.toNat:=fun e=>k.1 (UInt8.lt_iff_toNat_lt.2 e)
   exact UInt8.toNat_inj.1 (by omega)
  subst e
  rw [quF a b (h.2.resolve_left (by simp)) (k.2.resolve_left (by simp))]
theorem qmr (a:ByteArray):qbB a a=false:=qlO _
theorem qfM {a b c:ByteArray} (h:qbB a b=true) (k:qbB b c=true):qbB a c=true:=qoF _ _ _ h k
theorem qms {a b:ByteArray} (h:qbB a b=false) (k:qbB b a=false):a=b:=by
 have:=quF _ _ h k
 rw [ByteArray.toList_eq,ByteArray.toList_eq] at this
 obtain ⟨a⟩:=a;obtain ⟨b⟩:=b
 congr 1;exact Array.toList_inj.1 this
theorem qgU (a b:ByteArray):(a.toList == b.toList)=decide (a=b):=qcZ a b
def Sorted (ps:List qaq):Prop:=ps.Pairwise fun a b=>qbB a.key b.key=true
theorem Sorted.at {ps:List qaq} (h:Sorted ps) {i j:Nat} (hi:i<ps.length) (hj:j<ps.length) (hij:i<j):qbB ps[i].key ps[j].key=true:=(List.pairwise_iff_getElem.1 h) i j hi hj hij
theorem Sorted.mono {ps:List qaq} (h:Sorted ps) (k:ByteArray):qwC ps k:=fun i j hi hj hij hl=>by
 rcases Nat.lt_or_eq_of_le hij with h' | rfl
 ·
  exact qfM (h.at hi hj h') hl
 ·
  exact hl
def withL (ps:List qaq) (r:qaC):List qaq :=
 if isL ps r.key=true then (if r.kind=2 then ps.take (idxL ps r.key)++ps.drop (idxL ps r.key+1) else ps.take (idxL ps r.key)++[⟨r.key,r.value⟩]++ps.drop (idxL ps r.key+1))
 else if r.kind=1 then ps.take (idxL ps r.key)++[⟨r.key,r.value⟩]++ps.drop (idxL ps r.key) else ps
def qlG (ps:List qaq) (w:World) (e:Ending) (w':World):Prop := ∃ v,e=.returned (.tuple #[v,.int .i64 0])∧w'.ownsRow w.heap.size 83 2 v ps.length (pairVals ps)∧Below w.heap.size w w'
theorem qvm (ps:List qaq) (k:ByteArray):idxL ps k≤ps.length:=(List.takeWhile_sublist _).length_le
theorem qvq {ps:List qaq} {k:ByteArray} (h:isL ps k=true) : ∃ hi:idxL ps k<ps.length,ps[idxL ps k].key=k:=by
 unfold isL at h
 cases hp:ps[idxL ps k]? with
 | none=>rw [hp] at h;cases h
 | some p =>
  rw [hp] at h
  obtain ⟨hi,e⟩:=List.getElem?_eq_some_iff.1 hp
  refine ⟨hi,?_⟩
  rw [e]
  have h:(p.key.toList == k.toList)=true:=h
  rw [qgU] at h
  simpa using h
theorem qd3 (ps:List qaq) (i:Nat):pairVals (ps.take i)=(pairVals ps).take (2 * i):=by
 induction ps generalizing i with
 | nil=>simp [pairVals]
 | cons p ps ih =>
  cases i with
  | zero=>simp [pairVals]
  | succ i =>
   have:=ih i
   unfold pairVals at this ⊢
   rw [List.take_succ_cons,List.flatMap_cons,this,List.flatMap_cons,show 2 * (i+1)=2 * i+1+1 by omega]
   rfl
theorem qd2 (ps:List qaq) (i:Nat):pairVals (ps.drop i)=(pairVals ps).drop (2 * i):=by
 induction ps generalizing i with
 | nil=>simp [pairVals]
 | cons p ps ih =>
  cases i with
  | zero=>rfl
  | succ i =>
   have:=ih i
   unfold pairVals at this ⊢
   rw [List.drop_succ_cons,this,List.flatMap_cons,show 2 * (i+1)=2 * i+1+1 by omega]
   rfl
theorem qcJ (a b:List qaq):pairVals (a++b)=pairVals a++pairVals b:=List.flatMap_append
end
section
open Go.RowKit
theorem qml (r:qaC) (w:World) (hm:qap r=true) (hk:r.kind≠0):Calls Tryz.prog 79 #[.agg r.cells] w (qkQ true w):=by
 have HM:=zH (fun w=>qhs r w)
 rw [hm] at HM
 have hb:(r.kind != 0)=true:=bne_iff_ne.2 hk
 unfold qaC.cells at HM ⊢
 clear hm hk
 go_enter Tryz.func79,Tryz.ntmps79
 go_wp2_with fail
 refine (HM.out _).mono ?_
 rintro e w1 ⟨rfl,hb1⟩
 obtain ⟨c0,c1,c2,c3,hf⟩:=row4 (qab hb1 (qad w (.cells #[.int .i64 r.kind,.int .i64 r.epoch,.string r.key,.string r.value] 74)))
 have HB:=zH (gtr (qac (Below.refl _ w) (.cells #[.int .i64 r.kind,.int .i64 r.epoch,.string r.key,.string r.value] 74)) hb1)
 clear hb1 c1 c2 c3
 go_wp2_with fail
 go_ret
 exact ⟨rfl,HB.out⟩
theorem qb9 {w:World} {B N n:Nat} {t:TypeId} {sz:Nat} {v:Value} {xs:List Value} (h:w.ownsRow N t sz v n xs) (hB:B≤N):w.ownsRow B t sz v n xs :=
 ⟨h.1,h.2.imp id fun ⟨g,cap,cur,hv,hb,r⟩=>⟨g,cap,cur,hv,Nat.le_trans hB hb,r⟩⟩
theorem qpb {w:World} {B n:Nat} {t:TypeId} {sz:Nat} {v:Value} {xs:List Value} (h:w.ownsRow B t sz v n xs):some w.heap.size≠v.ownBlock:=by
 rcases h.2 with ⟨rfl,_⟩ | ⟨g,cap,cur,rfl,hb,hh,_⟩
 ·
  exact fun e=>nomatch e
 ·
  intro e
  have:w.heap.size=g:=by simpa [Value.ownBlock] using e
  have:=qat hh
  omega
theorem qtx (ps:List qaq) (i:Nat) (hi:i<ps.length):(pairVals ps).take (2 * i)++(pairVals ps).drop (2 * i+2)=pairVals (ps.take i++ps.drop (i+1))∧ps.length - 1=(ps.take i++ps.drop (i+1)).length:=by
 refine ⟨by rw [qcJ,qd3,qd2];rfl,?_⟩
 simp only [List.length_append,List.length_take,List.length_drop];omega
theorem qtM (ps:List qaq) (i:Nat) (k v:ByteArray) (hi:i≤ps.length):qqY (pairVals ps) i k v=pairVals (ps.take i++[(⟨k,v⟩:qaq)]++ps.drop i)∧ps.length+1=(ps.take i++[(⟨k,v⟩:qaq)]++ps.drop i).length:=by
 refine ⟨by rw [qcJ,qcJ,qd3,qd2];rfl,?_⟩
 simp only [List.length_append,List.length_take,List.length_drop,List.length_cons,List.length_nil];omega
theorem quj {w:World} {B g cap:Nat} {ps:List qaq} {cur:Array Value} (h:qgF w B g cap ps.length (pairVals ps) cur) (i:Nat) (hi:i<ps.length) (k v:ByteArray) (hk:ps[i].key=k):qgF (w.setCell ⟨g,i * 2+1,none⟩ (.string v)) B g cap (ps.take i++[(⟨k,v⟩:qaq)]++ps.drop (i+1)).length (pairVals (ps.take i++[(⟨k,v⟩:qaq)]++ps.drop (i+1))) (putAt cur (i * 2+1) [.string v]):=by
 have hl:(ps.take i++[(⟨k,v⟩:qaq)]++ps.drop (i+1)).length=ps.length:=by simp only [List.length_append,List.length_take,List.length_drop,List.length_cons,List.length_nil];omega
 have hle:=h.le
 refine h.set (i * 2+1) [.string v] (by simp only [List.length_cons,List.length_nil];omega) _ _ (by rw [hl];exact h.le) (qeF _) fun j hj => ?_
 rw [hl] at hj
 have ht:(pairVals (ps.take i)).length=2 * i:=by rw [qeF,List.length_take];omega
 have ho:(pairVals [(⟨k,v⟩:qaq)])=[.string k,.string v]:=rfl
 simp only [List.length_cons,List.length_nil]
 rw [qcJ,qcJ,ho,List.append_assoc]
 obtain ⟨p0,p1⟩:=qby ps i hi
 by_cases h1:j<2 * i
 ·
  rw [if_neg (by omega),List.getElem?_append_left (by rw [ht];exact h1),h.at' j hj,qd3,List.getElem?_take,if_pos h1]
 ·
  rw [List.getElem?_append_right (by rw [ht];omega),ht]
  by_cases h2:j=2 * i
  ·
   subst h2
   rw [if_neg (by omega),h.at' _ hj,p0,hk,Nat.sub_self];rfl
  ·
   by_cases h3:j=2 * i+1
   ·
    subst h3
    rw [if_pos (by omega),show 2 * i+1 - (i * 2+1)=0 by omega,show 2 * i+1 - 2 * i=1 by omega];rfl
   ·
    rw [if_neg (by omega),h.at' j hj,List.getElem?_append_right (by simp only [List.length_cons,List.length_nil];omega),qd2,List.getElem?_drop]
    congr 1
    simp only [List.length_cons,List.length_nil];omega
theorem qkJ (v:Value) (ps:List qaq) (r:qaC) (w:World) (h:SliceAt w v ps.length 2 (pairVals ps)) (hs:Sorted ps) (hn:ps.length≤1000) (hm:qap r=true) (hk:r.kind≠0):Calls Tryz.prog 49 #[v,.agg r.cells] w (qlG (withL ps r) w):=by
 have HM:=zH (fun w=>qml r w hm hk)
 have HC:=zH (fun w h=>qhy v ps w h (by omega))
 have HA:=zH (fun x w h=>qtl x ps r.key w h (by omega) (hs.mono _))
 have H:=zH h
 have HS:=zH hs
 have HX:=zH (fun i (hi:i<ps.length)=>qby ps i hi)
 obtain ⟨a,c,rfl⟩:=h.slice
 unfold qaC.cells at HM ⊢
 clear h hm hk hs
 go_enter Tryz.func49,Tryz.ntmps49
 go_wp2_with fail
 go_loopg [6] ps.length (fun n i wr => ∃ j:Nat,n=ps.length - j∧i=.int .i64 ((j+1:Nat):Int)∧j≤ps.length∧Below w.heap.size w wr∧wr.heap[w.heap.size]? = some (.cells #[.int .i64 r.kind,.int .i64 r.epoch,.string r.key,.string r.value] 74 (0,0)))
 case atStart=>exact ⟨0,rfl,rfl,Nat.zero_le _,qac (Below.refl _ _) _,qad w _⟩
 case round =>
  obtain ⟨j,hgn,rfl,hj,hb,hr⟩:=hrel
  have HB:=zH (zA hgn (zA hb hr))
  clear hgn hb hr
  by_cases hlt:j+1<ps.length
  ·
   have hlt':((j+1:Nat):Int)<(ps.length:Int):=by omega
   obtain ⟨b,o,rfl,hc,hx⟩:=H.out.some (by omega)
   obtain ⟨p0,_⟩:=HX.out j (by omega)
   obtain ⟨q0,_⟩:=HX.out (j+1) hlt
   have e0:=hx (2 * j) _ p0
   have e1:=hx (2 * (j+1)) _ q0
   have c0:wr.cell? ⟨b,o+j * 2,none⟩=some (.string ps[j].key):=by rw [show o+j * 2=o+2 * j by omega];exact (HB.out.2.1.cell (p:=⟨b,o+2 * j,none⟩) (World.block_lt_of_cell? w _ e0)).trans e0
   have c1:wr.cell? ⟨b,o+(j+1) * 2,none⟩=some (.string ps[j+1].key):=by rw [show o+(j+1) * 2=o+2 * (j+1) by omega];exact (HB.out.2.1.cell (p:=⟨b,o+2 * (j+1),none⟩) (World.block_lt_of_cell? w _ e1)).trans e1
   have hge:Op.bytesLess ps[j].key.toList ps[j+1].key.toList=true:=HS.out.at (by omega) hlt (by omega)
   have hj1:(((j+1:Nat):Int) - 1)=(j:Int):=by omega
   have hjl:(j:Int)<(ps.length:Int):=by omega
   have htn:(((j+1:Nat):Int)).toNat=j+1:=by omega
   clear p0 q0 e0 e1 hx
   go_wp2_with fail
   go_region
   go_wp2_with fail
   go_roundg (ps.length - (j+1))
   case measure=>have:=HB.out.1;omega
   case rel=>exact ⟨j+1,rfl,by go_num,by omega,HB.out.2.1.drew,HB.out.2.2⟩
  ·
   have hlt' : ¬ ((j+1:Nat):Int)<(ps.length:Int):=by omega
   obtain ⟨c0,c1,c2,c3,hf⟩:=row4 HB.out.2.2
   go_wp2_with fail
   refine (HM.out _).mono ?_
   rintro e w1 ⟨rfl,hb1⟩
   have HB1:=zH (zA (gtr HB.out.2.1 hb1) (qab hb1 HB.out.2.2))
   clear hb1 c0 c1 c2 c3 hf
   go_wp2_with fail
   refine (HC.out _ (H.out.later HB1.out.1)).mono ?_
   rintro e w2 ⟨x,rfl,ho,hb2⟩
   have HB2:=zH (zA (gtr HB1.out.1 hb2) (zA (qab hb2 HB1.out.2) (zA ho HB1.out.1.size)))
   clear hb2 HB1
   obtain ⟨xa,xc,rfl⟩:=qaD ho
   clear ho
   obtain ⟨c0,c1,c2,c3,hf⟩:=row4 HB2.out.2.1
   go_wp2_with fail
   refine (HA.out _ _ (SliceAt.of_own HB2.out.2.2.1)).mono ?_
   rintro e w3 ⟨rfl,hb3⟩
   have HB3:=zH (zA (gtr HB2.out.1 hb3) (zA (qab hb3 HB2.out.2.1) (World.ownsRow.later HB2.out.2.2.1 hb3)))
   clear hb3 c0 c1 c2 c3 hf
   obtain ⟨c0,c1,c2,c3,hf⟩:=row4 HB3.out.2.1
   have hin:=qvm ps r.key
   have HO:=zH (qb9 HB3.out.2.2 (Nat.le_trans HB2.out.2.2.2 (Nat.le_refl _)))
   have HL:=zH (fun h=>qvq (ps:=ps) (k:=r.key) h)
   have HV:=zH (show withL ps r=if isL ps r.key=true then (if r.kind=2 then ps.take (idxL ps r.key)++ps.drop (idxL ps r.key+1) else ps.take (idxL ps r.key)++[⟨r.key,r.value⟩]++ps.drop (idxL ps r.key+1)) else if r.kind=1 then ps.take (idxL ps r.key)++[⟨r.key,r.value⟩]++ps.drop (idxL ps r.key) else ps from rfl)
   clear HB2 HM HC HA HS HX H HB
   generalize idxL ps r.key=i at *
   generalize withL ps r=ws at *
   cases his:isL ps r.key with
   | true =>
    obtain ⟨hil,hkey⟩:=HL.out his
    have HK:=zH hkey
    rw [his,if_pos rfl] at HV
    rcases qgF.of HO.out with ⟨_,h0,_⟩ | ⟨g,cap,cur,hxa,hr⟩
    ·
     omega
    obtain ⟨rfl,rfl⟩:xa=some ⟨g,0,none⟩∧xc=cap:=by simpa using hxa
    by_cases k2:r.kind=2
    ·
     rw [k2] at c0
     have HD:=zH (ql5 w w3 g xc ps.length i (pairVals ps) cur hr HB3.out.1 hil (qeG ps))
     rw [if_pos k2] at HV
     clear hr hxa hkey
     go_wp2_with fail
     refine HD.out.mono ?_
     rintro e w4 ⟨v',rfl,ho4,hb4⟩
     have HX:=zH (zA ho4 hb4)
     clear ho4 hb4
     go_wp2_with fail
     go_ret2
     obtain ⟨e1,e2⟩:=qtx ps i hil
     refine ⟨v',rfl,?_,HX.out.2⟩
     rw [HV.out,← e1,← e2]
     exact HX.out.1
    ·
     have k2':(r.kind == 2)=false:=by simpa using k2
     rw [if_neg k2] at HV
     have hR:=zH (quj hr i hil r.key r.value HK.out)
     obtain ⟨ya,ys,yf⟩:=hr.cell
     obtain ⟨y0,hy0⟩:=Option.isSome_iff_exists.1 (ys (i * 2+1) (by have:=hr.le;omega))
     have hf0:w3.frozen? ⟨g,i * 2+1,none⟩=false:=yf _
     have hgb:=hr.base
     have hii:(i:Int)<(ps.length:Int):=by omega
     clear hr hxa hkey ya ys yf k2
     go_wp2_with fail
     go_ret2
     have e2:(ps.take i++[(⟨r.key,r.value⟩:qaq)]++ps.drop (i+1)).length=ps.length:=by simp only [List.length_append,List.length_take,List.length_drop,List.length_cons,List.length_nil];omega
     have e3:=hR.out.own
     refine ⟨_,rfl,?_,gset HB3.out.1 hgb _⟩
     rw [HV.out]
     rw [e2] at e3 ⊢
     exact e3
   | false =>
    rw [his,if_neg (by decide)] at HV
    by_cases k1:r.kind=1
    ·
     rw [k1] at c0
     rw [if_pos k1] at HV
     have h2:qnc (w3.alloc (.cells #[.string r.key,.string r.value] 83)) w3.heap.size r.key r.value:=qad _ _
     have HI:=zH (qmo w (w3.alloc (.cells #[.string r.key,.string r.value] 83)) (.slice xa ps.length xc) ps.length i w3.heap.size 1 (pairVals ps) r.key r.value (World.ownsRow.later HO.out (qac (Below.refl _ _) _)) (HB3.out.1.alloc HB3.out.1.size _) hin (by omega) h2 (qpb HO.out) (qeG ps))
     clear h2
     go_wp2_with fail
     refine HI.out.mono ?_
     rintro e w4 ⟨v',rfl,ho4,hb4⟩
     have HX:=zH (zA ho4 hb4)
     clear ho4 hb4
     go_wp2_with fail
     go_ret2
     obtain ⟨e1,e2⟩:=qtM ps i r.key r.value hin
     refine ⟨v',rfl,?_,HX.out.2⟩
     rw [HV.out,← e1,← e2]
     exact HX.out.1
    ·
     have k1':(r.kind == 1)=false:=by simpa using k1
     rw [if_neg k1] at HV
     clear k1
     go_wp2_with fail
     go_ret2
     refine ⟨_,rfl,?_,HB3.out.1⟩
     rw [HV.out]
     exact HO.out
end
section
open Go.RowKit
def putL (k v:ByteArray):List qaq→List qaq
 | []=>[⟨k,v⟩]
 | p::r=>if qbB p.key k=true then p::putL k v r else if p.key=k then ⟨k,v⟩::r else ⟨k,v⟩::p::r
def ql4 (k:ByteArray) (ps:List qaq):List qaq:=ps.filter fun p=>decide (p.key≠k)
theorem qdL (p:qaq) (ps:List qaq) (k:ByteArray):idxL (p::ps) k=if qbB p.key k=true then idxL ps k+1 else 0:=by
 unfold idxL
 rw [List.takeWhile_cons]
 split <;> simp
theorem qo1 {p:qaq} {ps:List qaq} {k:ByteArray} (h:qbB p.key k=true):isL (p::ps) k=isL ps k:=by
 unfold isL
 rw [qdL,if_pos h,List.getElem?_cons_succ]
theorem qr0 {p:qaq} {ps:List qaq} {k:ByteArray} (h:qbB p.key k=false):isL (p::ps) k=decide (p.key=k):=by
 unfold isL
 rw [qdL,if_neg (by rw [h];decide),List.getElem?_cons_zero]
 exact qgU _ _
theorem qrZ (k:ByteArray):isL [] k=false:=by simp [isL]
theorem qkl {a b:ByteArray} (h:qbB a b=true):a≠b:=fun e=>by rw [e,qmr] at h;cases h
theorem qeV (k v:ByteArray) (ep:Int) : ∀ ps:List qaq,Sorted ps→withL ps ⟨1,ep,k,v⟩=putL k v ps
 | [],_=>by simp [withL,qrZ,idxL,putL]
 | p::ps,h=>by
  have ih:=qeV k v ep ps (List.pairwise_cons.1 h).2
  unfold withL at ih ⊢
  simp only [show ¬((1:Int)=2) by decide,if_false,if_true] at ih ⊢
  unfold putL
  cases hl:qbB p.key k with
  | true =>
   rw [qo1 hl,qdL,if_pos hl,if_pos rfl,← ih]
   split <;> simp
  | false =>
   have e0:idxL (p::ps) k=0:=by rw [qdL,if_neg (by rw [hl];decide)]
   rw [qr0 hl,e0]
   simp only [Bool.false_eq_true,if_false]
   by_cases e:p.key=k
   ·
    rw [decide_eq_true e,if_pos rfl,if_pos e];simp
   ·
    rw [decide_eq_false e,if_neg (by decide),if_neg e];simp
theorem qrw {k:ByteArray} {ps:List qaq} (h : ∀ p ∈ ps,qbB k p.key=true):ql4 k ps=ps:=by
 unfold ql4
 rw [List.filter_eq_self]
 intro p hp
 exact decide_eq_true (qkl (h p hp)).symm
theorem qgB (k v:ByteArray) (ep:Int) : ∀ ps:List qaq,Sorted ps→withL ps ⟨2,ep,k,v⟩=ql4 k ps
 | [],_=>by simp [withL,qrZ,ql4]
 | p::ps,h=>by
  obtain ⟨hp,hs⟩:=List.pairwise_cons.1 h
  have ih:=qgB k v ep ps hs
  unfold withL at ih ⊢
  simp only [show ¬((2:Int)=1) by decide,if_false,if_true] at ih ⊢
  unfold ql4 at ih ⊢
  rw [List.filter_cons]
  cases hl:qbB p.key k with
  | true =>
   rw [qo1 hl,qdL,if_pos hl,if_pos (decide_eq_true (qkl hl)),← ih]
   split <;> simp
  | false =>
   have e0:idxL (p::ps) k=0:=by rw [qdL,if_neg (by rw [hl];decide)]
   rw [qr0 hl,e0]
   by_cases e:p.key=k
   ·
    have hf:=qrw (k:=k) (ps:=ps) (fun q hq=>by rw [← e];exact hp q hq)
    unfold ql4 at hf
    rw [decide_eq_true e,if_pos rfl,if_neg (by simp [e]),hf]
    simp
   ·
    have hkp:qbB k p.key=true:=by
     cases h':qbB k p.key with
     | true=>rfl
     | false=>exact absurd (qms hl h') e
    have hf:=qrw (k:=k) (ps:=ps) (fun q hq=>qfM hkp (hp q hq))
    unfold ql4 at hf
    rw [decide_eq_false e,if_neg (by decide),if_pos (decide_eq_true e),hf]
theorem qpf {k v:ByteArray} {x:ByteArray} : ∀ {ps:List qaq},qbB x k=true→(∀ p ∈ ps,qbB x p.key=true) → ∀ p ∈ putL k v ps,qbB x p.key=true
 | [],hk,_,p,hp=>by
  simp only [putL,List.mem_singleton] at hp
  rw [hp];exact hk
 | q::ps,hk,h,p,hp=>by
  unfold putL at hp
  split at hp
  ·
   rcases List.mem_cons.1 hp with rfl | hp
   ·
    exact h _ (by simp)
   ·
    exact qpf hk (fun p hp=>h p (by simp [hp])) p hp
  ·
   split at hp
   ·
    rcases List.mem_cons.1 hp with rfl | hp
    ·
     exact hk
    ·
     exact h _ (by simp [hp])
   ·
    rcases List.mem_cons.1 hp with rfl | hp
    ·
     exact hk
    ·
     exact h _ hp
theorem qks (k v:ByteArray) : ∀ {ps:List qaq},Sorted ps→Sorted (putL k v ps)
 | [],_=>List.pairwise_singleton _ _
 | p::ps,h=>by
  obtain ⟨hp,hs⟩:=List.pairwise_cons.1 h
  unfold putL
  split
  ·
   rename_i hl
   exact List.pairwise_cons.2 ⟨qpf hl hp,qks k v hs⟩
  ·
   rename_i hl
   split
   ·
    rename_i e
    exact List.pairwise_cons.2 ⟨fun q hq=>by show qbB k q.key=true;rw [← e];exact hp q hq,hs⟩
   ·
    rename_i e
    have hkp:qbB k p.key=true:=by
     cases h':qbB k p.key with
     | true=>rfl
     | false=>exact absurd (qms (by simpa using hl) h') e
    exact List.pairwise_cons.2 ⟨fun q hq=>by
     rcases List.mem_cons.1 hq with rfl | hq
     ·
      exact hkp
     ·
      exact qfM hkp (hp q hq),h⟩
theorem qpY (k:ByteArray) {ps:List qaq} (h:Sorted ps):Sorted (ql4 k ps):=List.Pairwise.filter _ h
theorem qsv (k v:ByteArray) : ∀ ps:List qaq,(putL k v ps).length≤ps.length+1
 | []=>by simp [putL]
 | p::ps=>by
  have:=qsv k v ps
  unfold putL
  split
  ·
   simp only [List.length_cons];omega
  ·
   split <;> simp
def qcH (r:qaC):Prop:=qap r=true∧r.kind≠0
theorem qo0 {r:qaC} (h:qcH r):r.kind=1∨r.kind=2:=by
 have:=h.1
 unfold qap at this
 rw [if_neg h.2] at this
 split at this
 ·
  exact .inl ‹_›
 ·
  split at this
  ·
   exact .inr ‹_›
  ·
   cases this
theorem quz {ps:List qaq} (h:Sorted ps) {r:qaC} (hr:qcH r):withL ps r=if r.kind=1 then putL r.key r.value ps else ql4 r.key ps:=by
 obtain ⟨kd,ep,k,v⟩:=r
 rcases qo0 hr with e | e
 ·
  obtain rfl:kd=1:=e
  rw [if_pos rfl];exact qeV k v ep ps h
 ·
  obtain rfl:kd=2:=e
  rw [if_neg (show ¬((2:Int)=1) by decide)];exact qgB k v ep ps h
theorem qdp {ps:List qaq} (h:Sorted ps) {r:qaC} (hr:qcH r):Sorted (withL ps r)∧(withL ps r).length≤ps.length+1:=by
 rw [quz h hr]
 split
 ·
  exact ⟨qks _ _ h,qsv _ _ _⟩
 ·
  exact ⟨qpY _ h,by have:=List.length_filter_le (fun p:qaq=>decide (p.key≠r.key)) ps;unfold ql4;omega⟩
def buildL (rs:List qaC):List qaq:=rs.foldl withL []
theorem qdU (rs:List qaC) (r:qaC):buildL (rs++[r])=withL (buildL rs) r:=by simp [buildL]
theorem qaJ : ∀ (n:Nat) (rs:List qaC),rs.length=n→(∀ r ∈ rs,qcH r)→Sorted (buildL rs)∧(buildL rs).length≤rs.length
 | 0,rs,hl,_=>by
  obtain rfl:=List.length_eq_zero_iff.1 hl
  exact ⟨List.Pairwise.nil,Nat.le_refl _⟩
 | n+1,rs,hl,h=>by
  obtain ⟨rs',r,rfl⟩ : ∃ a b,rs=a++[b]:=⟨rs.dropLast,rs.getLast (by intro e;simp [e] at hl),(List.dropLast_concat_getLast _).symm⟩
  have hl':rs'.length=n:=by simpa using hl
  obtain ⟨h1,h2⟩:=qaJ n rs' hl' (fun r hr=>h r (by simp [hr]))
  obtain ⟨h3,h4⟩:=qdp h1 (h r (by simp))
  rw [qdU]
  exact ⟨h3,by simp only [List.length_append,List.length_cons,List.length_nil];omega⟩
theorem qfc (rs:List qaC) (i:Nat) (h:i<rs.length):(recVals rs)[4 * i]? = some (.int .i64 rs[i].kind)∧(recVals rs)[4 * i+1]? = some (.int .i64 rs[i].epoch)∧(recVals rs)[4 * i+2]? = some (.string rs[i].key)∧(recVals rs)[4 * i+3]? = some (.string rs[i].value):=by
 induction rs generalizing i with
 | nil=>simp at h
 | cons p ps ih =>
  cases i with
  | zero=>exact ⟨rfl,rfl,rfl,rfl⟩
  | succ i =>
   have:=ih i (by simpa using h)
   rw [show 4 * (i+1)=4 * i+4 by omega]
   simpa [recVals,qaC.cells] using this
theorem qfF (v:Value) (rs:List qaC) (w:World) (h:SliceAt w v rs.length 4 (recVals rs)) (hn:rs.length≤100) (hr : ∀ r ∈ rs,qcH r):Calls Tryz.prog 27 #[v] w (qlG (buildL rs) w):=by
 have HW:=zH (fun v ps r w h hs hn (hr:qcH r)=>qkJ v ps r w h hs hn hr.1 hr.2)
 have HS:=zH (fun j=>qaJ _ (rs.take j) rfl (fun r hx=>hr r (List.mem_of_mem_take hx)))
 have HI:=zH hr
 have H:=zH h
 have HX:=zH (fun i (hi:i<rs.length)=>qfc rs i hi)
 have HT:=zH (fun j (hj:j<rs.length)=>List.take_succ_eq_append_getElem hj)
 obtain ⟨a,c,rfl⟩:=h.slice
 unfold qaC.cells at HW
 clear h hr
 go_enter Tryz.func27,Tryz.ntmps27
 go_wp2_with fail
 go_loopg [4,11] rs.length (fun n x i wr => ∃ j:Nat,n=rs.length - j∧i=.int .i64 j∧j≤rs.length∧Below w.heap.size w wr∧wr.ownsRow w.heap.size 83 2 x (buildL (rs.take j)).length (pairVals (buildL (rs.take j))))
 case atStart=>exact ⟨0,rfl,rfl,Nat.zero_le _,Below.refl _ _,World.ownsRow_nil _ _ _ _⟩
 case round =>
  obtain ⟨j,hgn,rfl,hj,hb,ho⟩:=hrel
  have HB:=zH (zA hgn (zA hb ho))
  clear hgn hb ho
  by_cases hlt:j<rs.length
  ·
   have hlt':(j:Int)<(rs.length:Int):=by omega
   obtain ⟨b,o,rfl,hc,hx⟩:=H.out.some (by omega)
   obtain ⟨p0,p1,p2,p3⟩:=HX.out j hlt
   have cc : ∀ i u,(recVals rs)[4 * j+i]? = some u→wr.cell? ⟨b,o+j * 4+i,none⟩=some u:=fun i u hu=>by
    have e:=hx _ _ hu
    rw [show o+j * 4+i=o+(4 * j+i) by omega]
    exact (HB.out.2.1.cell (p:=⟨b,o+(4 * j+i),none⟩) (World.block_lt_of_cell? w _ e)).trans e
   have c0:wr.cell? ⟨b,o+j * 4,none⟩=some (.int .i64 rs[j].kind):=cc 0 _ p0
   have c1:wr.cell? ⟨b,o+j * 4+1,none⟩=some (.int .i64 rs[j].epoch):=cc 1 _ p1
   have c2:wr.cell? ⟨b,o+j * 4+2,none⟩=some (.string rs[j].key):=cc 2 _ p2
   have c3:wr.cell? ⟨b,o+j * 4+3,none⟩=some (.string rs[j].value):=cc 3 _ p3
   clear p0 p1 p2 p3 cc hx
   obtain ⟨xa,xc,rfl⟩:=qaD HB.out.2.2
   have HCL:=zH (HW.out (.slice xa (buildL (rs.take j)).length xc) (buildL (rs.take j)) rs[j] (wr.alloc (.cells #[.int .i64 rs[j].kind,.int .i64 rs[j].epoch,.string rs[j].key,.string rs[j].value] 74)) ((SliceAt.of_own HB.out.2.2).later (qac (Below.refl _ _) _)) (HS.out j).1 (by have:=(HS.out j).2;have:=List.length_take_le j rs;omega) (HI.out _ (List.getElem_mem hlt)))
   go_wp2_with fail
   refine HCL.out.mono ?_
   rintro e w2 ⟨v',rfl,ho2,hb2⟩
   have HB2:=zH (zA (gtr (qac HB.out.2.1 _) hb2) (qb9 ho2 (qac HB.out.2.1 _).size))
   clear ho2 hb2 c0 c1 c2 c3
   go_wp2_with fail
   go_roundg (rs.length - (j+1))
   case measure=>have:=HB.out.1;omega
   case rel=>exact ⟨j+1,rfl,by go_num,by omega,HB2.out.1,by rw [HT.out j hlt,qdU];exact HB2.out.2⟩
  ·
   obtain rfl:j=rs.length:=by omega
   rw [List.take_length] at HB
   go_wp2_with fail
   go_ret2
   exact ⟨_,rfl,HB.out.2.2,HB.out.2.1⟩
end
end Go.Proofs.YtcfdenckiigdaaaGreat

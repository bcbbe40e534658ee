/- Part 26 of the contracts. -/
import Derived.Lib.AppendZerosOnto
import Derived.Test.YtcfdenckiigdaaaGreatFl25
set_option linter.unusedVariables false
set_option maxRecDepth 100000
set_option maxHeartbeats 4000000
namespace Go.Proofs.YtcfdenckiigdaaaGreat
open Tryz
section
open Go.RowKit
theorem LX (z0 z1:Value) (n:Nat):(Builtin.zeroCells (Value.agg #[z0,z1]).cells n).size=n * 2:=by
 have e0:(Value.agg #[z0,z1]).cells = #[z0,z1]:=rfl
 rw [e0]
 simp [Builtin.zeroCells]
theorem Cn (w0 w:World) (g cap n i vb vc:Nat) (cs:List Value) (cur:Array Value) (k v:ByteArray) (h:jE w w0.heap.size g cap n cs cur) (hb:Below w0.heap.size w0 w) (hi:i<n) (hn:n≤1000000) (hroom:cap<n+1) (h2:vM w vb k v) (h1 : ∀ u ∈ cs,u.oneCell'=true):Calls prog 83 #[.slice (some ⟨g,0,none⟩) n cap,.int .i64 i,.slice (some ⟨vb,0,none⟩) 1 vc] w (qX w0 (n+1) (u7 cs i k v)):=by
 obtain ⟨i0,hi0,hz0,hzs,hzb⟩:=info_parts jH
 have hsz:(prog.info? 83).map (·.size)=some 2:=by rw [hi0];simp [hzs]
 have hcl:=h.len
 have hle:=h.le
 obtain ⟨xa,xs,xf⟩:=h.cell
 have hgw:g<w.heap.size:=aP h.heap
 have hvw:vb<w.heap.size:=aP h2
 have mixed:prog.follows Departure.mixedOrders=true:=by kernel_rfl
 have hkk:(n:Int)+1 - (i:Int)=((n+1 - i:Nat):Int):=by omega
 have hik:i+(n+1 - i)=n+1:=by omega
 have hlt:(cs.take (2 * i)).length=2 * i:=by rw [List.length_take,hcl];omega
 have hdl:(cs.drop (2 * i)).length=(n - i) * 2:=by rw [List.length_drop,hcl];omega
 have hold:(Builtin.firstCells i0.size i (.slice (some ⟨g,0,none⟩) i cap)).run prog w.drew=.ok (cs.take (2 * i)).toArray w.drew:=by
  rw [hzs]
  exact run_firstCells_some w.drew 2 i ⟨g,0,none⟩ i cap (cs.take (2 * i)) (by rw [hlt];omega) (fun j u hj=>by
   rw [di,Nat.zero_add]
   rw [List.getElem?_take] at hj
   split at hj
   ·
    exact xa j u hj
   ·
    cases hj)
 have hrz0 : ∀ ty,(Builtin.append_ #[32,3] ty #[.slice (some ⟨g,0,none⟩) i cap,.int .i64 ((n:Int)+1 - (i:Int))]).run prog w=.ok (.slice (some ⟨w.heap.size,0,none⟩) (n+1) (grownCap w (n+1) cap 83)) (w.drew.alloc (.cells ((cs.take (2 * i)).toArray++Builtin.zeroCells (Value.agg #[.string ⟨#[]⟩,.string ⟨#[]⟩]).cells (n+1 - i)++Builtin.zeroCells (Value.agg #[.string ⟨#[]⟩,.string ⟨#[]⟩]).cells (grownCap w (n+1) cap 83 - (n+1))) 83)):=fun ty=>by
  have hh:=Lib.run_append_grow_zeros w 32 3 ty 83 i0 _ .i64 .i64 underlying32 underlying3 hi0 hz0 (some ⟨g,0,none⟩) i cap (cs.take (2 * i)) hold (n+1 - i) (by omega) (by omega) (by omega) (by omega) (by rw [hzb];omega) (by rw [hzb,hik];exact growslice_fits hroom (by omega))
  rw [hik] at hh
  rw [hkk]
  exact hh
 have hGn:=grownCap_ge w (n+1) cap 83
 have hG63:=grownCap_le_maxLen w (n+1) cap 83 (by unfold maxLen;omega)
 generalize grownCap w (n+1) cap 83=G at *
 obtain ⟨ROW,hROW⟩ : ∃ ROW:Array Value,ROW=(cs.take (2 * i)).toArray++Builtin.zeroCells (Value.agg #[.string ⟨#[]⟩,.string ⟨#[]⟩]).cells (n+1 - i)++Builtin.zeroCells (Value.agg #[.string ⟨#[]⟩,.string ⟨#[]⟩]).cells (G - (n+1)):=⟨_,rfl⟩
 rw [← hROW] at hrz0
 have hRs:ROW.size=G * 2:=by
  rw [hROW,Array.size_append,Array.size_append,LX,LX,List.size_toArray,hlt];omega
 have hRt : ∀ j,j<2 * i→ROW[j]? = cs[j]? := fun j hj=>by
  rw [hROW,Array.append_assoc,Array.getElem?_append_left (by rw [List.size_toArray,hlt];exact hj),List.getElem?_toArray,List.getElem?_take,if_pos hj]
 have hbN:Below w0.heap.size w0 ((w.alloc (.cells ROW 83)).drew):=(hb.alloc hb.size _).drew
 have hrA:jE ((w.alloc (.cells ROW 83)).drew) w0.heap.size w.heap.size G i (cs.take (2 * i)) ROW :=
  ⟨af w _,hb.size,by omega,hG63,hRs,by rw [hlt];omega,fun j hj=>by rw [hRt j (by omega),List.getElem?_take,if_pos (by omega)]⟩
 have hrB:jE (((w.alloc (.cells ROW 83)).drew).setCells w.heap.size (i * 2) [.string k,.string v]) w0.heap.size w.heap.size G (i+1) (cs.take (2 * i)++[.string k,.string v]) (putAt ROW (i * 2) [.string k,.string v]):=by
  refine hrA.set _ _ (by simp only [List.length_cons,List.length_nil];omega) (i+1) _ (by omega) (by simp only [List.length_append,hlt,List.length_cons,List.length_nil];omega) fun j hj => ?_
  simp only [List.length_cons,List.length_nil]
  by_cases hj1:i * 2≤j∧j<i * 2+(0+1+1)
  ·
   rw [if_pos hj1,List.getElem?_append_right (by rw [hlt];omega),hlt];congr 1;omega
  ·
   rw [if_neg hj1,List.getElem?_append_left (by rw [hlt];omega)];exact hrA.Fv j (by omega)
 have hbB:Below w0.heap.size w0 (((w.alloc (.cells ROW 83)).drew).setCells w.heap.size (i * 2) [.string k,.string v]):=fz _ hb.size _ _ _ hbN
 have hfin:Hid (jE ((((w.alloc (.cells ROW 83)).drew).setCells w.heap.size (i * 2) [.string k,.string v]).drew.setCells w.heap.size ((i+1) * 2) (cs.drop (2 * i))) w0.heap.size w.heap.size G (n+1) (u7 cs i k v) (putAt (putAt ROW (i * 2) [.string k,.string v]) ((i+1) * 2) (cs.drop (2 * i)))∧Below w0.heap.size w0 ((((w.alloc (.cells ROW 83)).drew).setCells w.heap.size (i * 2) [.string k,.string v]).drew.setCells w.heap.size ((i+1) * 2) (cs.drop (2 * i)))):=by
  have hrB':jE (((w.alloc (.cells ROW 83)).drew).setCells w.heap.size (i * 2) [.string k,.string v]).drew w0.heap.size w.heap.size G (i+1) (cs.take (2 * i)++[.string k,.string v]) (putAt ROW (i * 2) [.string k,.string v]):=⟨hrB.heap,hrB.base,hrB.le,hrB.max,hrB.size,hrB.len,hrB.Fv⟩
  have hl2:(cs.take (2 * i)++[Value.string k,.string v]).length=2 * i+2:=by simp only [List.length_append,hlt,List.length_cons,List.length_nil]
  refine zH ⟨hrB'.set _ _ (by rw [hdl];omega) (n+1) _ (by omega) (by unfold u7;rw [List.length_append,hl2,hdl];omega) fun j hj => ?_,fz _ hb.size _ _ _ hbB.drew⟩
  rw [hdl]
  unfold u7
  by_cases hj1:(i+1) * 2≤j∧j<(i+1) * 2+(n - i) * 2
  ·
   rw [if_pos hj1,List.getElem?_append_right (by rw [hl2];omega),hl2];congr 1;omega
  ·
   rw [if_neg hj1,List.getElem?_append_left (by rw [hl2];omega)];exact hrB.Fv j (by omega)
 have hrz : ∀ ty,(Builtin.append_ #[32,3] ty #[.slice (some ⟨g,0,none⟩) i cap,.int .i64 ((n:Int)+1 - (i:Int))]).run prog w=.ok (.slice (some ⟨w.heap.size,0,none⟩) (n+1) G) (w.alloc (.cells ROW 83)).drew:=fun ty=>hrz0 ty
 obtain ⟨a1,a2,a3⟩:=hrA.cell
 obtain ⟨b1,b2,b3⟩:=hrB.cell
 have hcp1 : ∀ ty dc,(Builtin.copy_ #[32,32] ty #[.slice (some ⟨w.heap.size,i * 2,none⟩) (n+1 - i) dc,.slice (some ⟨vb,0,none⟩) 1 vc]).run prog (w.alloc (.cells ROW 83)).drew=.ok (goInt (Nat.min 1 (n+1 - i))) ((w.alloc (.cells ROW 83)).drew.setCells w.heap.size (i * 2) [.string k,.string v]):=fun ty dc =>
  pS _ 32 32 ty 83 w.heap.size (i * 2) (n+1 - i) dc ⟨vb,0,none⟩ 1 vc [.string k,.string v] underlying32 hsz (by simp only [List.length_cons,List.length_nil,Nat.min_def];split <;> omega) (fun j u hj=>by
    rw [di]
    have e:=(au (ae (Below.refl _ w) (.cells ROW 83))).cell (p:=⟨vb,0+j,none⟩) hvw
    exact e.trans (h2.cells j u hj)) (fun j hj=>a2 _ (by simp only [List.length_cons,List.length_nil] at hj;omega)) (fun j _=>a3 _) (fun u hu=>by simp at hu;rcases hu with rfl | rfl <;> rfl)
 have hcp2 : ∀ ty dc sc,(Builtin.copy_ #[32,32] ty #[.slice (some ⟨w.heap.size,(i+1) * 2,none⟩) (n - i) dc,.slice (some ⟨g,i * 2,none⟩) (n - i) sc]).run prog ((w.alloc (.cells ROW 83)).drew.setCells w.heap.size (i * 2) [.string k,.string v]).drew=.ok (goInt (Nat.min (n - i) (n - i))) (((w.alloc (.cells ROW 83)).drew.setCells w.heap.size (i * 2) [.string k,.string v]).drew.setCells w.heap.size ((i+1) * 2) (cs.drop (2 * i))):=fun ty dc sc =>
  pS _ 32 32 ty 83 w.heap.size ((i+1) * 2) (n - i) dc ⟨g,i * 2,none⟩ (n - i) sc (cs.drop (2 * i)) underlying32 hsz (by rw [hdl];simp only [Nat.min_def];split <;> rfl) (fun j u hj=>by
    rw [di]
    show ((w.alloc (.cells ROW 83)).drew.setCells w.heap.size (i * 2) [.string k,.string v]).cell? ⟨g,i * 2+j,none⟩=some u
    rw [World.cell?_setCells_out _ _ _ _ _ (fun e _=>absurd (show g=w.heap.size from e) (by omega)),show i * 2+j=2 * i+j by omega]
    exact ((au (ae (Below.refl _ w) (.cells ROW 83))).cell (p:=⟨g,2 * i+j,none⟩) hgw).trans (xa (2 * i+j) u (by rwa [List.getElem?_drop] at hj)))
   (fun j hj=>b2 _ (by rw [hdl] at hj;omega)) (fun j _=>b3 _) (fun u hu=>h1 u (List.mem_of_mem_drop hu))
 have hne : ¬ ((i:Int)=(n:Int)):=by omega
 have hz3:(cap:Int)<(n:Int)+1:=by omega
 have hGi : ¬ (G=i):=by omega
 have hGim : ¬ (G=i+1):=by omega
 have hci : ¬ (cap=i):=by omega
 have hw1:IntKind.i64.wrap ((i:Int)+1)=(i:Int)+1:=by rw [IntKind.wrap_i64];omega
 have hb1:(0:Int)≤(i:Int)+1:=by omega
 have hin:i≤n:=by omega
 have htn:((i:Int)+1).toNat=i+1:=by omega
 have hb3:(i:Int)≤(n:Int):=by omega
 unfold maxLen at hG63
 clear b1 b2 b3 hkk hik hold hROW hRs hRt hrz0 hrA hrB hbN hbB a1 a2 a3 xa xs xf hdl hlt h hb h2
 generalize (w.alloc (.cells ROW 83)).drew=W1 at *
 go_enter func83,ntmps83
 go_wp2_with (first
  | (at_builtin;refine Lib.wpList_append_run _ rfl _ _ _ _ rfl _ _ rfl rfl _ _ (hrz _) ?_)
  | (at_builtin;refine wpList_copy_runI _ rfl _ _ 32 32 rfl _ _ rfl rfl (hcp1 _ _) ?_))
 go_region_law_o (refine step_copy_runI rfl _ _ 32 32 rfl (.slice (some ⟨w.heap.size,(i+1) * 2,none⟩) (n - i) (G - (i+1))) (.slice (some ⟨g,i * 2,none⟩) (n - i) (cap - i)) (by simp [Act.eval,Act.put]) (by simp [Act.eval,Act.put]) (hcp2 3 (G - (i+1)) (cap - i)) ?_)
 go_wp2
 go_ret
 exact ⟨_,rfl,hfin.out.1.own,hfin.out.2⟩
theorem AP (w0 w:World) (x:Value) (n i vb vc:Nat) (cs:List Value) (k v:ByteArray) (h:w.ownsRow w0.heap.size 83 2 x n cs) (hb:Below w0.heap.size w0 w) (hi:i≤n) (hn:n≤1000000) (h2:vM w vb k v) (hvb:some vb≠x.ownBlock) (h1 : ∀ u ∈ cs,u.oneCell'=true):Calls prog 83 #[x,.int .i64 i,.slice (some ⟨vb,0,none⟩) 1 vc] w (qX w0 (n+1) (u7 cs i k v)):=by
 by_cases e:i=n
 ·
  subst e
  have hl:u7 cs i k v=cs++[.string k,.string v]:=by
   unfold u7
   rw [List.take_of_length_le (by rw [h.1];omega),List.drop_of_length_le (by rw [h.1];omega),List.append_nil]
  rw [hl]
  exact Eo w0 w x i vb vc cs k v h hb hn h2
 ·
  rcases jE.of h with ⟨rfl,h0,_⟩ | ⟨g,cap,cur,rfl,hr⟩
  ·
   omega
  ·
   by_cases hroom:n+1≤cap
   ·
    exact Co w0 w g cap n i vb vc cs cur k v hr hb (by omega) hroom h2 (fun e=>hvb (by rw [e];rfl)) h1
   ·
    exact Cn w0 w g cap n i vb vc cs cur k v hr hb (by omega) hn (by omega) h2 h1
end
section
open Go.RowKit
theorem yN : ∀ a:List UInt8,Op.bytesLess a a=false
 | []=>rfl
 | x::a=>by simp [Op.bytesLess,yN a]
theorem BP : ∀ a b c:List UInt8,Op.bytesLess a b=true→Op.bytesLess b c=true→Op.bytesLess a c=true
 | [],[],_,h,_=>by simp [Op.bytesLess] at h
 | [],_::_,[],_,h=>by simp [Op.bytesLess] at h
 | [],_::_,_::_,_,_=>by simp [Op.bytesLess]
 | _::_,[],_,h,_=>by simp [Op.bytesLess] at h
 | _::_,_::_,[],_,h=>by simp [Op.bytesLess] at h
 | x::a,y::b,z::c,h,k=>by
  simp only [Op.bytesLess,Bool.or_eq_true,Bool.and_eq_true,decide_eq_true_eq,beq_iff_eq] at h k ⊢
  rcases h with h | ⟨rfl,h⟩
  ·
   rcases k with k | ⟨rfl,k⟩
   ·
    exact .inl (UInt8.lt_trans h k)
   ·
    exact .inl h
  ·
   rcases k with k | ⟨rfl,k⟩
   ·
    exact .inl k
   ·
    exact .inr ⟨rfl,BP a b c h k⟩
theorem IY : ∀ a b:List UInt8,Op.bytesLess a b=false→Op.bytesLess b a=false→a=b
 | [],[],_,_=>rfl
 | [],_::_,h,_=>by simp [Op.bytesLess] at h
 | _::_,[],_,h=>by simp [Op.bytesLess] at h
 | x::a,y::b,h,k=>by
  simp only [Op.bytesLess,Bool.or_eq_false_iff,decide_eq_false_iff_not,Bool.and_eq_false_iff] at h k
  have e:x=y:=by
   have h1 : ¬ x.toNat<y.toNat:=fun e=>h.1 (UInt8.lt_iff_toNat_lt.2 e)
   have h2 : ¬ y.toNat<x.toNat:=fun e=>k.1 (UInt8.lt_iff_toNat_lt.2 e)
   exact UInt8.toNat_inj.1 (by omega)
  subst e
  rw [IY a b (h.2.resolve_left (by simp)) (k.2.resolve_left (by simp))]
theorem AS (a:ByteArray):cI a a=false:=yN _
theorem lN {a b c:ByteArray} (h:cI a b=true) (k:cI b c=true):cI a c=true:=BP _ _ _ h k
theorem tl {a b:ByteArray} (h:cI a b=false) (k:cI b a=false):a=b:=by
 have:=IY _ _ h k
 rw [ByteArray.toList_eq,ByteArray.toList_eq] at this
 obtain ⟨a⟩:=a;obtain ⟨b⟩:=b
 congr 1;exact Array.toList_inj.1 this
theorem js (a b:ByteArray):(a.toList == b.toList)=decide (a=b):=jz a b
def fo (ps:List aK):Prop:=ps.Pairwise fun a b=>cI a.key b.key=true
theorem fo.at {ps:List aK} (h:fo ps) {i j:Nat} (hi:i<ps.length) (hj:j<ps.length) (hij:i<j):cI ps[i].key ps[j].key=true:=(List.pairwise_iff_getElem.1 h) i j hi hj hij
theorem fo.mono {ps:List aK} (h:fo ps) (k:ByteArray):LZ ps k:=fun i j hi hj hij hl=>by
 rcases Nat.lt_or_eq_of_le hij with h' | rfl
 ·
  exact lN (h.at hi hj h') hl
 ·
  exact hl
def eG (ps:List aK) (r:aX):List aK :=
 if Bo ps r.key=true then (if r.kind=2 then ps.take (jh ps r.key)++ps.drop (jh ps r.key+1) else ps.take (jh ps r.key)++[⟨r.key,r.value⟩]++ps.drop (jh ps r.key+1))
 else if r.kind=1 then ps.take (jh ps r.key)++[⟨r.key,r.value⟩]++ps.drop (jh ps r.key) else ps
def yH (ps:List aK) (w:World) (e:Ending) (w':World):Prop := ∃ v,e=.returned (.tuple #[v,.int .i64 0])∧w'.ownsRow w.heap.size 83 2 v ps.length (aE ps)∧Below w.heap.size w w'
theorem KV (ps:List aK) (k:ByteArray):jh ps k≤ps.length:=(List.takeWhile_sublist _).length_le
theorem KZ {ps:List aK} {k:ByteArray} (h:Bo ps k=true) : ∃ hi:jh ps k<ps.length,ps[jh ps k].key=k:=by
 unfold Bo at h
 cases hp:ps[jh ps k]? with
 | none=>rw [hp] at h;cases h
 | some p =>
  rw [hp] at h
  obtain ⟨hi,e⟩:=List.getElem?_eq_some_iff.1 hp
  refine ⟨hi,?_⟩
  rw [e]
  have h:(p.key.toList == k.toList)=true:=h
  rw [js] at h
  simpa using h
theorem mq (ps:List aK) (i:Nat):aE (ps.take i)=(aE ps).take (2 * i):=by
 induction ps generalizing i with
 | nil=>simp [aE]
 | cons p ps ih =>
  cases i with
  | zero=>simp [aE]
  | succ i =>
   have:=ih i
   unfold aE at this ⊢
   rw [List.take_succ_cons,List.flatMap_cons,this,List.flatMap_cons,show 2 * (i+1)=2 * i+1+1 by omega]
   rfl
theorem mi (ps:List aK) (i:Nat):aE (ps.drop i)=(aE ps).drop (2 * i):=by
 induction ps generalizing i with
 | nil=>simp [aE]
 | cons p ps ih =>
  cases i with
  | zero=>rfl
  | succ i =>
   have:=ih i
   unfold aE at this ⊢
   rw [List.drop_succ_cons,this,List.flatMap_cons,show 2 * (i+1)=2 * i+1+1 by omega]
   rfl
theorem iB (a b:List aK):aE (a++b)=aE a++aE b:=List.flatMap_append
end
section
open Go.RowKit
theorem AO (r:aX) (w:World) (hm:bC r=true) (hk:r.kind≠0):Calls prog 79 #[.agg r.cells] w (vt true w):=by
 have HM:=zH (fun w=>r9 r w)
 rw [hm] at HM
 have hb:(r.kind != 0)=true:=bne_iff_ne.2 hk
 unfold aX.cells at HM ⊢
 clear hm hk
 go_enter func79,ntmps79
 go_wp2_with fail
 refine (HM.out _).mono ?_
 rintro e w1 ⟨rfl,hb1⟩
 obtain ⟨c0,c1,c2,c3,hf⟩:=cF (aa hb1 (af w (.cells #[.int .i64 r.kind,.int .i64 r.an,.string r.key,.string r.value] 74)))
 have HB:=zH (gtr (ae (Below.refl _ w) (.cells #[.int .i64 r.kind,.int .i64 r.an,.string r.key,.string r.value] 74)) hb1)
 clear hb1 c1 c2 c3
 go_wp2
 go_ret
 exact ⟨rfl,HB.out⟩
theorem eX {w:World} {B N n:Nat} {t:TypeId} {sz:Nat} {v:Value} {xs:List Value} (h:w.ownsRow N t sz v n xs) (hB:B≤N):w.ownsRow B t sz v n xs :=
 ⟨h.1,h.2.imp id fun ⟨g,cap,cur,hv,hb,r⟩=>⟨g,cap,cur,hv,Nat.le_trans hB hb,r⟩⟩
theorem AY {w:World} {B n:Nat} {t:TypeId} {sz:Nat} {v:Value} {xs:List Value} (h:w.ownsRow B t sz v n xs):some w.heap.size≠v.ownBlock:=by
 rcases h.2 with ⟨rfl,_⟩ | ⟨g,cap,cur,rfl,hb,hh,_⟩
 ·
  exact fun e=>nomatch e
 ·
  intro e
  have:w.heap.size=g:=by simpa [Value.ownBlock] using e
  have:=aP hh
  omega
theorem Jb (ps:List aK) (i:Nat) (hi:i<ps.length):(aE ps).take (2 * i)++(aE ps).drop (2 * i+2)=aE (ps.take i++ps.drop (i+1))∧ps.length - 1=(ps.take i++ps.drop (i+1)).length:=by
 refine ⟨by rw [iB,mq,mi];rfl,?_⟩
 simp only [List.length_append,List.length_take,List.length_drop];omega
theorem Jy (ps:List aK) (i:Nat) (k v:ByteArray) (hi:i≤ps.length):u7 (aE ps) i k v=aE (ps.take i++[(⟨k,v⟩:aK)]++ps.drop i)∧ps.length+1=(ps.take i++[(⟨k,v⟩:aK)]++ps.drop i).length:=by
 refine ⟨by rw [iB,iB,mq,mi];rfl,?_⟩
 simp only [List.length_append,List.length_take,List.length_drop,List.length_cons,List.length_nil];omega
theorem J6 {w:World} {B g cap:Nat} {ps:List aK} {cur:Array Value} (h:jE w B g cap ps.length (aE ps) cur) (i:Nat) (hi:i<ps.length) (k v:ByteArray) (hk:ps[i].key=k):jE (w.setCell ⟨g,i * 2+1,none⟩ (.string v)) B g cap (ps.take i++[(⟨k,v⟩:aK)]++ps.drop (i+1)).length (aE (ps.take i++[(⟨k,v⟩:aK)]++ps.drop (i+1))) (putAt cur (i * 2+1) [.string v]):=by
 have hl:(ps.take i++[(⟨k,v⟩:aK)]++ps.drop (i+1)).length=ps.length:=by simp only [List.length_append,List.length_take,List.length_drop,List.length_cons,List.length_nil];omega
 have hle:=h.le
 refine h.set (i * 2+1) [.string v] (by simp only [List.length_cons,List.length_nil];omega) _ _ (by rw [hl];exact h.le) (kG _) fun j hj => ?_
 rw [hl] at hj
 have ht:(aE (ps.take i)).length=2 * i:=by rw [kG,List.length_take];omega
 have ho:(aE [(⟨k,v⟩:aK)])=[.string k,.string v]:=rfl
 simp only [List.length_cons,List.length_nil]
 rw [iB,iB,ho,List.append_assoc]
 obtain ⟨p0,p1⟩:=dF ps i hi
 by_cases h1:j<2 * i
 ·
  rw [if_neg (by omega),List.getElem?_append_left (by rw [ht];exact h1),h.Fv j hj,mq,List.getElem?_take,if_pos h1]
 ·
  rw [List.getElem?_append_right (by rw [ht];omega),ht]
  by_cases h2:j=2 * i
  ·
   subst h2
   rw [if_neg (by omega),h.Fv _ hj,p0,hk,Nat.sub_self];rfl
  ·
   by_cases h3:j=2 * i+1
   ·
    subst h3
    rw [if_pos (by omega),show 2 * i+1 - (i * 2+1)=0 by omega,show 2 * i+1 - 2 * i=1 by omega];rfl
   ·
    rw [if_neg (by omega),h.Fv j hj,List.getElem?_append_right (by simp only [List.length_cons,List.length_nil];omega),mi,List.getElem?_drop]
    congr 1
    simp only [List.length_cons,List.length_nil];omega
theorem yd (v:Value) (ps:List aK) (r:aX) (w:World) (h:aT w v ps.length 2 (aE ps)) (hs:fo ps) (hn:ps.length≤1000) (hm:bC r=true) (hk:r.kind≠0):Calls prog 49 #[v,.agg r.cells] w (yH (eG ps r) w):=by
 have HM:=zH (fun w=>AO r w hm hk)
 have HC:=zH (fun w h=>sY v ps w h (by omega))
 have HA:=zH (fun x w h=>IV x ps r.key w h (by omega) (hs.mono _))
 have H:=zH h
 have HS:=zH hs
 have HX:=zH (fun i (hi:i<ps.length)=>dF ps i hi)
 obtain ⟨a,c,rfl⟩:=h.slice
 unfold aX.cells at HM ⊢
 clear h hm hk hs
 go_enter func49,ntmps49
 go_wp2
 go_loopg [6] ps.length (fun n i wr => ∃ j:Nat,n=ps.length - j∧i=.int .i64 ((j+1:Nat):Int)∧j≤ps.length∧Below w.heap.size w wr∧wr.heap[w.heap.size]? = some (.cells #[.int .i64 r.kind,.int .i64 r.an,.string r.key,.string r.value] 74 (0,0)))
 case atStart=>exact ⟨0,rfl,rfl,Nat.zero_le _,ae zR _,af w _⟩
 case round =>
  obtain ⟨j,hgn,rfl,hj,hb,hr⟩:=hrel
  have HB:=zH (zA hgn (zA hb hr))
  clear hgn hb hr
  by_cases hlt:j+1<ps.length
  ·
   have hlt':((j+1:Nat):Int)<(ps.length:Int):=by omega
   obtain ⟨b,o,rfl,hc,hx⟩:=H.out.some (by omega)
   obtain ⟨p0,_⟩:=HX.out j (by omega)
   obtain ⟨q0,_⟩:=HX.out (j+1) hlt
   have e0:=hx (2 * j) _ p0
   have e1:=hx (2 * (j+1)) _ q0
   have c0:wr.cell? ⟨b,o+j * 2,none⟩=some (.string ps[j].key):=by rw [show o+j * 2=o+2 * j by omega];exact (HB.out.2.1.cell (p:=⟨b,o+2 * j,none⟩) (zL w _ e0)).trans e0
   have c1:wr.cell? ⟨b,o+(j+1) * 2,none⟩=some (.string ps[j+1].key):=by rw [show o+(j+1) * 2=o+2 * (j+1) by omega];exact (HB.out.2.1.cell (p:=⟨b,o+2 * (j+1),none⟩) (zL w _ e1)).trans e1
   have hge:Op.bytesLess ps[j].key.toList ps[j+1].key.toList=true:=HS.out.at (by omega) hlt (by omega)
   have hj1:(((j+1:Nat):Int) - 1)=(j:Int):=by omega
   have hjl:(j:Int)<(ps.length:Int):=by omega
   have htn:(((j+1:Nat):Int)).toNat=j+1:=by omega
   clear p0 q0 e0 e1 hx
   go_wp2_with fail
   go_region
   go_wp2
   go_roundg (ps.length - (j+1))
   case measure=>have:=HB.out.1;omega
   case rel=>exact ⟨j+1,rfl,by go_num,by omega,HB.out.2.1.drew,HB.out.2.2⟩
  ·
   have hlt' : ¬ ((j+1:Nat):Int)<(ps.length:Int):=by omega
   obtain ⟨c0,c1,c2,c3,hf⟩:=cF HB.out.2.2
   go_wp2_with fail
   refine (HM.out _).mono ?_
   rintro e w1 ⟨rfl,hb1⟩
   have HB1:=zH (zA (gtr HB.out.2.1 hb1) (aa hb1 HB.out.2.2))
   clear hb1 c0 c1 c2 c3 hf
   go_wp2_with fail
   refine (HC.out _ (H.out.aj HB1.out.1)).mono ?_
   rintro e w2 ⟨x,rfl,ho,hb2⟩
   have HB2:=zH (zA (gtr HB1.out.1 hb2) (zA (aa hb2 HB1.out.2) (zA ho HB1.out.1.size)))
   clear hb2 HB1
   obtain ⟨xa,xc,rfl⟩:=bF ho
   clear ho
   obtain ⟨c0,c1,c2,c3,hf⟩:=cF HB2.out.2.1
   go_wp2_with fail
   refine (HA.out _ _ (aT.dd HB2.out.2.2.1)).mono ?_
   rintro e w3 ⟨rfl,hb3⟩
   have HB3:=zH (zA (gtr HB2.out.1 hb3) (zA (aa hb3 HB2.out.2.1) (World.ownsRow.aj HB2.out.2.2.1 hb3)))
   clear hb3 c0 c1 c2 c3 hf
   obtain ⟨c0,c1,c2,c3,hf⟩:=cF HB3.out.2.1
   have hin:=KV ps r.key
   have HO:=zH (eX HB3.out.2.2 (Nat.le_trans HB2.out.2.2.2 zY))
   have HL:=zH (fun h=>KZ (ps:=ps) (k:=r.key) h)
   have HV:=zH (show eG ps r=if Bo ps r.key=true then (if r.kind=2 then ps.take (jh ps r.key)++ps.drop (jh ps r.key+1) else ps.take (jh ps r.key)++[⟨r.key,r.value⟩]++ps.drop (jh ps r.key+1)) else if r.kind=1 then ps.take (jh ps r.key)++[⟨r.key,r.value⟩]++ps.drop (jh ps r.key) else ps from rfl)
   clear HB2 HM HC HA HS HX H HB
   generalize jh ps r.key=i at *
   generalize eG ps r=ws at *
   cases his:Bo ps r.key with
   | true =>
    obtain ⟨hil,hkey⟩:=HL.out his
    have HK:=zH hkey
    rw [his,if_pos rfl] at HV
    rcases jE.of HO.out with ⟨_,h0,_⟩ | ⟨g,cap,cur,hxa,hr⟩
    ·
     omega
    obtain ⟨rfl,rfl⟩:xa=some ⟨g,0,none⟩∧xc=cap:=by simpa using hxa
    by_cases k2:r.kind=2
    ·
     rw [k2] at c0
     have HD:=zH (AI w w3 g xc ps.length i (aE ps) cur hr HB3.out.1 hil (nI ps))
     rw [if_pos k2] at HV
     clear hr hxa hkey
     go_wp2_with fail
     refine HD.out.mono ?_
     rintro e w4 ⟨v',rfl,ho4,hb4⟩
     have HX:=zH (zA ho4 hb4)
     clear ho4 hb4
     go_wp2
     go_ret2
     obtain ⟨e1,e2⟩:=Jb ps i hil
     refine ⟨v',rfl,?_,HX.out.2⟩
     rw [HV.out,← e1,← e2]
     exact HX.out.1
    ·
     have k2':(r.kind == 2)=false:=by simpa using k2
     rw [if_neg k2] at HV
     have hR:=zH (J6 hr i hil r.key r.value HK.out)
     obtain ⟨ya,ys,yf⟩:=hr.cell
     obtain ⟨y0,hy0⟩:=Option.isSome_iff_exists.1 (ys (i * 2+1) (by have:=hr.le;omega))
     have hf0:w3.frozen? ⟨g,i * 2+1,none⟩=false:=yf _
     have hgb:=hr.base
     have hii:(i:Int)<(ps.length:Int):=by omega
     clear hr hxa hkey ya ys yf k2
     go_wp2
     go_ret2
     have e2:(ps.take i++[(⟨r.key,r.value⟩:aK)]++ps.drop (i+1)).length=ps.length:=by simp only [List.length_append,List.length_take,List.length_drop,List.length_cons,List.length_nil];omega
     have e3:=hR.out.own
     refine ⟨_,rfl,?_,lh HB3.out.1 hgb _⟩
     rw [HV.out]
     rw [e2] at e3 ⊢
     exact e3
   | false =>
    rw [his,if_neg (by decide)] at HV
    by_cases k1:r.kind=1
    ·
     rw [k1] at c0
     rw [if_pos k1] at HV
     have h2:vM (w3.alloc (.cells #[.string r.key,.string r.value] 83)) w3.heap.size r.key r.value:=af _ _
     have HI:=zH (AP w (w3.alloc (.cells #[.string r.key,.string r.value] 83)) (.slice xa ps.length xc) ps.length i w3.heap.size 1 (aE ps) r.key r.value (World.ownsRow.aj HO.out (ae zR _)) (HB3.out.1.alloc HB3.out.1.size _) hin (by omega) h2 (AY HO.out) (nI ps))
     clear h2
     go_wp2_with fail
     refine HI.out.mono ?_
     rintro e w4 ⟨v',rfl,ho4,hb4⟩
     have HX:=zH (zA ho4 hb4)
     clear ho4 hb4
     go_wp2
     go_ret2
     obtain ⟨e1,e2⟩:=Jy ps i r.key r.value hin
     refine ⟨v',rfl,?_,HX.out.2⟩
     rw [HV.out,← e1,← e2]
     exact HX.out.1
    ·
     have k1':(r.kind == 1)=false:=by simpa using k1
     rw [if_neg k1] at HV
     clear k1
     go_wp2
     go_ret2
     refine ⟨_,rfl,?_,HB3.out.1⟩
     rw [HV.out]
     exact HO.out
end
section
open Go.RowKit
def fS (k v:ByteArray):List aK→List aK
 | []=>[⟨k,v⟩]
 | p::r=>if cI p.key k=true then p::fS k v r else if p.key=k then ⟨k,v⟩::r else ⟨k,v⟩::p::r
def fu (k:ByteArray) (ps:List aK):List aK:=ps.filter fun p=>decide (p.key≠k)
theorem kM (p:aK) (ps:List aK) (k:ByteArray):jh (p::ps) k=if cI p.key k=true then jh ps k+1 else 0:=by
 unfold jh
 rw [List.takeWhile_cons]
 split <;> simp
theorem Cr {p:aK} {ps:List aK} {k:ByteArray} (h:cI p.key k=true):Bo (p::ps) k=Bo ps k:=by
 unfold Bo
 rw [kM,if_pos h,List.getElem?_cons_succ]
theorem FM {p:aK} {ps:List aK} {k:ByteArray} (h:cI p.key k=false):Bo (p::ps) k=decide (p.key=k):=by
 unfold Bo
 rw [kM,if_neg (by rw [h];decide),List.getElem?_cons_zero]
 exact js _ _
theorem FL (k:ByteArray):Bo [] k=false:=by simp [Bo]
theorem nE {a b:ByteArray} (h:cI a b=true):a≠b:=fun e=>by rw [e,AS] at h;cases h
theorem pW (k v:ByteArray) (ep:Int) : ∀ ps:List aK,fo ps→eG ps ⟨1,ep,k,v⟩=fS k v ps
 | [],_=>by simp [eG,FL,jh,fS]
 | p::ps,h=>by
  have ih:=pW k v ep ps (List.pairwise_cons.1 h).2
  unfold eG at ih ⊢
  simp only [show ¬((1:Int)=2) by decide,if_false,if_true] at ih ⊢
  unfold fS
  cases hl:cI p.key k with
  | true =>
   rw [Cr hl,kM,if_pos hl,if_pos rfl,← ih]
   split <;> simp
  | false =>
   have e0:jh (p::ps) k=0:=by rw [kM,if_neg (by rw [hl];decide)]
   rw [FM hl,e0]
   simp only [Bool.false_eq_true,if_false]
   by_cases e:p.key=k
   ·
    rw [decide_eq_true e,if_pos rfl,if_pos e];simp
   ·
    rw [decide_eq_false e,if_neg (by decide),if_neg e];simp
theorem Fw {k:ByteArray} {ps:List aK} (h : ∀ p ∈ ps,cI k p.key=true):fu k ps=ps:=by
 unfold fu
 rw [List.filter_eq_self]
 intro p hp
 exact decide_eq_true (nE (h p hp)).symm
theorem tN (k v:ByteArray) (ep:Int) : ∀ ps:List aK,fo ps→eG ps ⟨2,ep,k,v⟩=fu k ps
 | [],_=>by simp [eG,FL,fu]
 | p::ps,h=>by
  obtain ⟨hp,hs⟩:=List.pairwise_cons.1 h
  have ih:=tN k v ep ps hs
  unfold eG at ih ⊢
  simp only [show ¬((2:Int)=1) by decide,if_false,if_true] at ih ⊢
  unfold fu at ih ⊢
  rw [List.filter_cons]
  cases hl:cI p.key k with
  | true =>
   rw [Cr hl,kM,if_pos hl,if_pos (decide_eq_true (nE hl)),← ih]
   split <;> simp
  | false =>
   have e0:jh (p::ps) k=0:=by rw [kM,if_neg (by rw [hl];decide)]
   rw [FM hl,e0]
   by_cases e:p.key=k
   ·
    have hf:=Fw (k:=k) (ps:=ps) (fun q hq=>by rw [← e];exact hp q hq)
    unfold fu at hf
    rw [decide_eq_true e,if_pos rfl,if_neg (by simp [e]),hf]
    simp
   ·
    have hkp:cI k p.key=true:=by
     cases h':cI k p.key with
     | true=>rfl
     | false=>exact absurd (tl hl h') e
    have hf:=Fw (k:=k) (ps:=ps) (fun q hq=>lN hkp (hp q hq))
    unfold fu at hf
    rw [decide_eq_false e,if_neg (by decide),if_pos (decide_eq_true e),hf]
theorem C4 {k v:ByteArray} {x:ByteArray} : ∀ {ps:List aK},cI x k=true→(∀ p ∈ ps,cI x p.key=true) → ∀ p ∈ fS k v ps,cI x p.key=true
 | [],hk,_,p,hp=>by
  simp only [fS,List.mem_singleton] at hp
  rw [hp];exact hk
 | q::ps,hk,h,p,hp=>by
  unfold fS at hp
  split at hp
  ·
   rcases List.mem_cons.1 hp with rfl | hp
   ·
    exact h _ (by simp)
   ·
    exact C4 hk (fun p hp=>h p (by simp [hp])) p hp
  ·
   split at hp
   ·
    rcases List.mem_cons.1 hp with rfl | hp
    ·
     exact hk
    ·
     exact h _ (by simp [hp])
   ·
    rcases List.mem_cons.1 hp with rfl | hp
    ·
     exact hk
    ·
     exact h _ hp
theorem xu (k v:ByteArray) : ∀ {ps:List aK},fo ps→fo (fS k v ps)
 | [],_=>List.pairwise_singleton _ _
 | p::ps,h=>by
  obtain ⟨hp,hs⟩:=List.pairwise_cons.1 h
  unfold fS
  split
  ·
   rename_i hl
   exact List.pairwise_cons.2 ⟨C4 hl hp,xu k v hs⟩
  ·
   rename_i hl
   split
   ·
    rename_i e
    exact List.pairwise_cons.2 ⟨fun q hq=>by show cI k q.key=true;rw [← e];exact hp q hq,hs⟩
   ·
    rename_i e
    have hkp:cI k p.key=true:=by
     cases h':cI k p.key with
     | true=>rfl
     | false=>exact absurd (tl (by simpa using hl) h') e
    exact List.pairwise_cons.2 ⟨fun q hq=>by
     rcases List.mem_cons.1 hq with rfl | hq
     ·
      exact hkp
     ·
      exact lN hkp (hp q hq),h⟩
theorem Eb (k:ByteArray) {ps:List aK} (h:fo ps):fo (fu k ps):=List.Pairwise.filter _ h
theorem FZ (k v:ByteArray) : ∀ ps:List aK,(fS k v ps).length≤ps.length+1
 | []=>by simp [fS]
 | p::ps=>by
  have:=FZ k v ps
  unfold fS
  split
  ·
   simp only [List.length_cons];omega
  ·
   split <;> simp
def gW (r:aX):Prop:=bC r=true∧r.kind≠0
theorem Cl {r:aX} (h:gW r):r.kind=1∨r.kind=2:=by
 have:=h.1
 unfold bC at this
 rw [if_neg h.2] at this
 split at this
 ·
  exact .inl ‹_›
 ·
  split at this
  ·
   exact .inr ‹_›
  ·
   cases this
theorem Km {ps:List aK} (h:fo ps) {r:aX} (hr:gW r):eG ps r=if r.kind=1 then fS r.key r.value ps else fu r.key ps:=by
 obtain ⟨kd,ep,k,v⟩:=r
 rcases Cl hr with e | e
 ·
  obtain rfl:kd=1:=e
  rw [if_pos rfl];exact pW k v ep ps h
 ·
  obtain rfl:kd=2:=e
  rw [if_neg (show ¬((2:Int)=1) by decide)];exact tN k v ep ps h
theorem nW {ps:List aK} (h:fo ps) {r:aX} (hr:gW r):fo (eG ps r)∧(eG ps r).length≤ps.length+1:=by
 rw [Km h hr]
 split
 ·
  exact ⟨xu _ _ h,FZ _ _ _⟩
 ·
  exact ⟨Eb _ h,by have:=List.length_filter_le (fun p:aK=>decide (p.key≠r.key)) ps;unfold fu;omega⟩
def cz (rs:List aX):List aK:=rs.foldl eG []
theorem oF (rs:List aX) (r:aX):cz (rs++[r])=eG (cz rs) r:=by simp [cz]
theorem dx : ∀ (n:Nat) (rs:List aX),rs.length=n→(∀ r ∈ rs,gW r)→fo (cz rs)∧(cz rs).length≤rs.length
 | 0,rs,hl,_=>by
  obtain rfl:=List.length_eq_zero_iff.1 hl
  exact ⟨List.Pairwise.nil,Nat.le_refl _⟩
 | n+1,rs,hl,h=>by
  obtain ⟨rs',r,rfl⟩ : ∃ a b,rs=a++[b]:=⟨rs.dropLast,rs.getLast (by intro e;simp [e] at hl),(List.dropLast_concat_getLast _).symm⟩
  have hl':rs'.length=n:=by simpa using hl
  obtain ⟨h1,h2⟩:=dx n rs' hl' (fun r hr=>h r (by simp [hr]))
  obtain ⟨h3,h4⟩:=nW h1 (h r (by simp))
  rw [oF]
  exact ⟨h3,by simp only [List.length_append,List.length_cons,List.length_nil];omega⟩
theorem nK (rs:List aX) (i:Nat) (h:i<rs.length):(bp rs)[4 * i]? = some (.int .i64 rs[i].kind)∧(bp rs)[4 * i+1]? = some (.int .i64 rs[i].an)∧(bp rs)[4 * i+2]? = some (.string rs[i].key)∧(bp rs)[4 * i+3]? = some (.string rs[i].value):=by
 induction rs generalizing i with
 | nil=>simp at h
 | cons p ps ih =>
  cases i with
  | zero=>exact ⟨rfl,rfl,rfl,rfl⟩
  | succ i =>
   have:=ih i (by simpa using h)
   rw [show 4 * (i+1)=4 * i+4 by omega]
   simpa [bp,aX.cells] using this
theorem oG (v:Value) (rs:List aX) (w:World) (h:aT w v rs.length 4 (bp rs)) (hn:rs.length≤100) (hr : ∀ r ∈ rs,gW r):Calls prog 27 #[v] w (yH (cz rs) w):=by
 have HW:=zH (fun v ps r w h hs hn (hr:gW r)=>yd v ps r w h hs hn hr.1 hr.2)
 have HS:=zH (fun j=>dx _ (rs.take j) rfl (fun r hx=>hr r (List.mem_of_mem_take hx)))
 have HI:=zH hr
 have H:=zH h
 have HX:=zH (fun i (hi:i<rs.length)=>nK rs i hi)
 have HT:=zH (fun j (hj:j<rs.length)=>List.take_succ_eq_append_getElem hj)
 obtain ⟨a,c,rfl⟩:=h.slice
 unfold aX.cells at HW
 clear h hr
 go_enter func27,ntmps27
 go_wp2
 go_loopg [4,11] rs.length (fun n x i wr => ∃ j:Nat,n=rs.length - j∧i=.int .i64 j∧j≤rs.length∧Below w.heap.size w wr∧wr.ownsRow w.heap.size 83 2 x (cz (rs.take j)).length (aE (cz (rs.take j))))
 case atStart=>exact ⟨0,rfl,rfl,Nat.zero_le _,Below.refl _ _,zN⟩
 case round =>
  obtain ⟨j,hgn,rfl,hj,hb,ho⟩:=hrel
  have HB:=zH (zA hgn (zA hb ho))
  clear hgn hb ho
  by_cases hlt:j<rs.length
  ·
   have hlt':(j:Int)<(rs.length:Int):=by omega
   obtain ⟨b,o,rfl,hc,hx⟩:=H.out.some (by omega)
   obtain ⟨p0,p1,p2,p3⟩:=HX.out j hlt
   have cc : ∀ i u,(bp rs)[4 * j+i]? = some u→wr.cell? ⟨b,o+j * 4+i,none⟩=some u:=fun i u hu=>by
    have e:=hx _ _ hu
    rw [show o+j * 4+i=o+(4 * j+i) by omega]
    exact (HB.out.2.1.cell (p:=⟨b,o+(4 * j+i),none⟩) (zL w _ e)).trans e
   have c0:wr.cell? ⟨b,o+j * 4,none⟩=some (.int .i64 rs[j].kind):=cc 0 _ p0
   have c1:wr.cell? ⟨b,o+j * 4+1,none⟩=some (.int .i64 rs[j].an):=cc 1 _ p1
   have c2:wr.cell? ⟨b,o+j * 4+2,none⟩=some (.string rs[j].key):=cc 2 _ p2
   have c3:wr.cell? ⟨b,o+j * 4+3,none⟩=some (.string rs[j].value):=cc 3 _ p3
   clear p0 p1 p2 p3 cc hx
   obtain ⟨xa,xc,rfl⟩:=bF HB.out.2.2
   have HCL:=zH (HW.out (.slice xa (cz (rs.take j)).length xc) (cz (rs.take j)) rs[j] (wr.alloc (.cells #[.int .i64 rs[j].kind,.int .i64 rs[j].an,.string rs[j].key,.string rs[j].value] 74)) ((aT.dd HB.out.2.2).aj (ae zR _)) (HS.out j).1 (by have:=(HS.out j).2;have:=List.length_take_le j rs;omega) (HI.out _ (List.getElem_mem hlt)))
   go_wp2_with fail
   refine HCL.out.mono ?_
   rintro e w2 ⟨v',rfl,ho2,hb2⟩
   have HB2:=zH (zA (gtr (ae HB.out.2.1 _) hb2) (eX ho2 (ae HB.out.2.1 _).size))
   clear ho2 hb2 c0 c1 c2 c3
   go_wp2
   go_roundg (rs.length - (j+1))
   case measure=>have:=HB.out.1;omega
   case rel=>exact ⟨j+1,rfl,by go_num,by omega,HB2.out.1,by rw [HT.out j hlt,oF];exact HB2.out.2⟩
  ·
   obtain rfl:j=rs.length:=by omega
   rw [List.take_length] at HB
   go_wp2
   go_ret2
   exact ⟨_,rfl,HB.out.2.2,HB.out.2.1⟩
end
end Go.Proofs.YtcfdenckiigdaaaGreat

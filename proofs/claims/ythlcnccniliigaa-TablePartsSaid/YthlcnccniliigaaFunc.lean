/- slices.IndexFunc, ContainsFunc and Clone at ints, by a closure's own contract; a slice of ints in new memory. Conditions: the slice reads as the ints; lengths in an int's range. -/
import Derived.Test.YthlcnccniliigaaInts
import Derived.Deep.AppendLies
import Derived.OwnWalk
import Derived.WalkSpells
import Derived.Laws.AppendOwnNone
namespace Go.Proofs.Ythlcnccniliigaa
open Go.RowKit
set_option linter.unusedVariables false

theorem info_int : (Try.prog.info? 3).map (fun i => (i.zero, i.size, i.bytes)) = some (some (.int .i64 0), 1, 8) := by kernel_rfl

def intVals (xs : List Int) : List Value := xs.map (.int .i64)
theorem intVals_len (xs : List Int) : (intVals xs).length = xs.length * 1 := by simp [intVals]
theorem intVals_one (xs : List Int) : ∀ u ∈ intVals xs, u.oneCell' = true := by
  intro u hu; simp only [intVals, List.mem_map] at hu; obtain ⟨x, _, rfl⟩ := hu; rfl
theorem intVals_get (xs : List Int) (j : Nat) (u : Value) (h : (intVals xs)[j]? = some u) : j < xs.length ∧ u = .int .i64 (xs.getD j 0) := by
  simp only [intVals, List.getElem?_map, Option.map_eq_some_iff] at h
  obtain ⟨x, hx, rfl⟩ := h
  have hj := (List.getElem?_eq_some_iff.1 hx).1
  exact ⟨hj, by simp [List.getD, hx]⟩

/-- A slice of ints in memory from block B on (nil where there are none, or not): its block, known by its kind of elements, may be written. -/
def NewInts (w : World) (B : Nat) (v : Value) (xs : List Int) : Prop :=
  ∃ a c, v = .slice a xs.length c ∧ ∀ i, i < xs.length → ∃ b off cur, a = some ⟨b, off, none⟩ ∧ B ≤ b ∧ w.heap[b]? = some (.cells cur 3 (0, 0)) ∧ cur[off + i]? = some (.int .i64 (xs.getD i 0))

theorem NewInts.ints {w : World} {B : Nat} {v : Value} {xs : List Int} (h : NewInts w B v xs) : ∃ a c, v = .slice a xs.length c ∧ IntsAt w a xs := by
  obtain ⟨a, c, hv, hc⟩ := h
  refine ⟨a, c, hv, fun i hi => ?_⟩
  obtain ⟨b, off, cur, ha, _, hb, hx⟩ := hc i hi
  exact ⟨b, off, ha, (cell_of hb _).trans hx⟩
theorem NewInts.later {w w' : World} {B : Nat} {v : Value} {xs : List Int} (h : NewInts w B v xs) (hb : Below w.heap.size w w') : NewInts w' B v xs := by
  obtain ⟨a, c, hv, hc⟩ := h
  refine ⟨a, c, hv, fun i hi => ?_⟩
  obtain ⟨b, off, cur, ha, hB, hh, hx⟩ := hc i hi
  exact ⟨b, off, cur, ha, hB, block_later hb hh, hx⟩
theorem NewInts.mono {w : World} {B B' : Nat} {v : Value} {xs : List Int} (h : NewInts w B v xs) (hB : B' ≤ B) : NewInts w B' v xs := by
  obtain ⟨a, c, hv, hc⟩ := h
  refine ⟨a, c, hv, fun i hi => ?_⟩
  obtain ⟨b, off, cur, ha, hB', hh, hx⟩ := hc i hi
  exact ⟨b, off, cur, ha, Nat.le_trans hB hB', hh, hx⟩
theorem NewInts.nil (w : World) (B : Nat) : NewInts w B (.slice none 0 0) [] := ⟨none, 0, rfl, fun i hi => by simp at hi⟩
theorem NewInts.of_own {w : World} {B : Nat} {v : Value} {xs : List Int} (h : w.ownsRow B 3 1 v xs.length (intVals xs)) : NewInts w B v xs := by
  rcases h.2 with ⟨rfl, hn⟩ | ⟨g, cap, cur, rfl, hb, hg, hnc, _, hcs, htake⟩
  · refine ⟨none, 0, by rw [hn], fun i hi => by omega⟩
  · refine ⟨some ⟨g, 0, none⟩, cap, rfl, fun i hi => ⟨g, 0, cur, rfl, hb, hg, ?_⟩⟩
    have h1 : (intVals xs)[i]? = some (.int .i64 (xs.getD i 0)) := by simp [intVals, List.getD, List.getElem?_eq_getElem hi]
    rw [← htake, List.getElem?_take] at h1
    split at h1
    · simpa using h1
    · cases h1

/-- What is asked of a closure that captures nothing: it tells p, and does nothing else. -/
structure Tells (f : FuncId) (p : Int → Bool) : Prop where
  calls : ∀ (x : Int) (w : World), Calls Try.prog f #[.int .i64 x] w fun e w' => e = .returned (.bool (p x)) ∧ w = w'
  run : ∀ (args : Array Value) (w : World), (callFunc f args).run Try.prog w = .ok (.enter f args) w

def idxOf (p : Int → Bool) (xs : List Int) : Int := match xs.findIdx? p with | some i => (i : Int) | none => -1

def IntDrew (x : Int) (w : World) (e : Ending) (w' : World) : Prop := e = .returned (.int .i64 x) ∧ ∃ n, w' = w.drewN n

theorem findIdx_at (p : Int → Bool) (xs : List Int) (k : Nat) (hk : k < xs.length) (hn : ∀ j, j < k → p (xs.getD j 0) = false) (h : p (xs.getD k 0) = true) : idxOf p xs = k := by
  have : xs.findIdx? p = some k := by
    rw [List.findIdx?_eq_some_iff_getElem]
    refine ⟨hk, by simpa [List.getD, List.getElem?_eq_getElem hk] using h, fun j hj => ?_⟩
    have := hn j hj
    have hj' : j < xs.length := by omega
    simpa [List.getD, List.getElem?_eq_getElem hj'] using this
  simp [idxOf, this]
theorem findIdx_no (p : Int → Bool) (xs : List Int) (hn : ∀ j, j < xs.length → p (xs.getD j 0) = false) : idxOf p xs = -1 := by
  have : xs.findIdx? p = none := by
    rw [List.findIdx?_eq_none_iff]
    intro x hx
    obtain ⟨j, hj, rfl⟩ := List.getElem_of_mem hx
    have := hn j hj
    simpa [List.getD, List.getElem?_eq_getElem hj] using this
  simp [idxOf, this]

set_option maxHeartbeats 800000 in
theorem indexFunc_calls (F : FuncId) (p : Int → Bool) (hF : Tells F p) (a : Option Addr) (c : Nat) (xs : List Int) (w : World) (h1 : IntsAt w a xs) (hm : xs.length ≤ 9223372036854775807) :
    Calls Try.prog 56 #[.slice a xs.length c, .func (.func F) #[] #[]] w (IntDrew (idxOf p xs) w) := by
  have HF := Lib.hid hF
  have hrun := hF.run
  clear hF
  go_enter Try.func56, Try.ntmps56
  go_wp2_with fail
  go_loopw [8] (fun i wr => ∃ k n : Nat, k ≤ xs.length ∧ i = .int .i64 k ∧ wr = w.drewN n ∧ ∀ j, j < k → p (xs.getD j 0) = false) (fun i _ => xs.length - (intOf i).toNat)
  case atStart => exact ⟨0, 0, Nat.zero_le _, rfl, rfl, fun j hj => by omega⟩
  case round =>
    obtain ⟨k, n, hk, rfl, rfl, hsame⟩ := hrel
    have HS := Lib.hid hsame
    clear hsame
    by_cases hlt : k < xs.length
    · obtain ⟨b1, o1, rfl, g1⟩ := h1.at (by omega)
      have q1 := g1 k hlt
      have hlt' : (k : Int) < (xs.length : Int) := by omega
      clear g1 h1
      cases hp : p (xs.getD k 0) with
      | true =>
        have HR := Lib.hid (findIdx_at p xs k hlt HS.out hp)
        have HP := Lib.hid hp
        clear hp
        generalize hx : xs.getD k 0 = x at *
        clear hx
        go_wp2_with fail
        refine (HF.out.calls x _).mono ?_
        rintro e w' ⟨rfl, rfl⟩
        rw [HP.out]
        go_wp2_with fail
        go_ret
        exact ⟨by rw [HR.out]; rfl, n, rfl⟩
      | false =>
        have HN := Lib.hid hp
        have HP := Lib.hid hp
        clear hp
        generalize hx : xs.getD k 0 = x at HP q1
        have HX := Lib.hid hx
        clear hx
        go_wp2_with fail
        refine (HF.out.calls x _).mono ?_
        rintro e w' ⟨rfl, rfl⟩
        rw [HP.out]
        go_wp2_with fail
        go_roundw
        case rel => exact ⟨k + 1, n, by omega, by go_num, rfl, fun j hj => by
          by_cases hjk : j < k
          · exact HS.out j hjk
          · obtain rfl : j = k := by omega
            exact HN.out⟩
        case measure => simp [intOf]; omega
    · obtain rfl : k = xs.length := by omega
      have HR := Lib.hid (findIdx_no p xs HS.out)
      go_wp2_with fail
      go_ret
      exact ⟨by rw [HR.out]; rfl, n, rfl⟩

theorem idxOf_any (p : Int → Bool) (xs : List Int) : decide (0 ≤ idxOf p xs) = xs.any p := by
  cases h : xs.findIdx? p with
  | none =>
    have : xs.any p = false := by
      rw [List.findIdx?_eq_none_iff] at h
      simpa [List.any_eq_false] using h
    simp [idxOf, h, this]
  | some i =>
    have : xs.any p = true := by
      rw [List.findIdx?_eq_some_iff_getElem] at h
      obtain ⟨hi, hp, _⟩ := h
      exact List.any_eq_true.2 ⟨_, List.getElem_mem hi, hp⟩
    simp [idxOf, h, this]

theorem containsFunc_calls (F : FuncId) (p : Int → Bool) (hF : Tells F p) (a : Option Addr) (c : Nat) (xs : List Int) (w : World) (h1 : IntsAt w a xs) (hm : xs.length ≤ 9223372036854775807) :
    Calls Try.prog 51 #[.slice a xs.length c, .func (.func F) #[] #[]] w (BoolDrew (xs.any p) w) := by
  have HA := Lib.hid (idxOf_any p xs)
  have HF := Lib.hid hF
  clear hF
  go_enter Try.func51, Try.ntmps51
  go_wp2_with fail
  refine (indexFunc_calls F p HF.out a c xs w h1 hm).mono ?_
  rintro e w' ⟨rfl, n, rfl⟩
  generalize idxOf p xs = r at *
  go_wp2_with fail
  go_ret
  refine ⟨?_, n, rfl⟩
  rw [← HA.out]
  simp

/-- A new slice that reads as xs; nothing else. -/
def NewIntsPost (xs : List Int) (w : World) (e : Ending) (w' : World) : Prop := ∃ a c, e = .returned (.slice a xs.length c) ∧ NewInts w' w.heap.size (.slice a xs.length c) xs ∧ Below w.heap.size w w'

theorem ownsRow_empty (w : World) (t : TypeId) (size : Nat) (B : Nat) (hB : B ≤ w.heap.size) : (w.alloc (.cells #[] t)).ownsRow B t size (.slice (some ⟨w.heap.size, 0, none⟩) 0 0) 0 [] :=
  World.ownsRow_made w #[] 0 hB (Nat.zero_le _) (by simp)
theorem below_grown {w w1 w2 : World} (h : Below w.heap.size w w1) {v : Value} (hg : w1.grownBy w2 v.ownBlock) (ho : ∀ k, v.ownBlock = some k → w.heap.size ≤ k) : Below w.heap.size w w2 :=
  h.grown hg h.size ho

set_option maxHeartbeats 800000 in
theorem cloneInts_calls (a : Option Addr) (c : Nat) (xs : List Int) (w : World) (h1 : IntsAt w a xs) (hn : a = none → c = 0) (hm : xs.length * 8 ≤ 140737488355328) :
    Calls Try.prog 53 #[.slice a xs.length c] w (NewIntsPost xs w) := by
  have kn := fun (w : World) (x : Option Addr) (n c : Nat) => Lib.run_eql_slice_nil (P := Try.prog) w 40 3 x n c 0 0 Try.underlying40
  cases a with
  | none =>
    obtain rfl : c = 0 := hn rfl
    have hx : xs = [] := by
      cases xs with
      | nil => rfl
      | cons x r => obtain ⟨b, o, h, _⟩ := h1 0 (by simp); cases h
    subst hx
    go_enter Try.func53, Try.ntmps53
    go_wp2_with fail
    go_ret
    exact ⟨_, _, rfl, NewInts.nil _ _, Below.refl _ _⟩
  | some ad =>
    obtain ⟨i0, hi, hz0, hz1, hz2⟩ := info_parts info_int
    have HI := Lib.hid h1
    clear h1
    go_enter Try.func53, Try.ntmps53
    go_wp2_with (at_builtin; refine wpList_append_own _ rfl _ _ 40 rfl w.heap.size 3 i0 (.int .i64 0) 1 8 Try.underlying40 hi hz0 hz1 hz2 rfl (by decide) _ 0 [] rfl (ownsRow_empty w 3 1 _ (Nat.le_refl _)) ad xs.length c (intVals xs) rfl (intVals_len xs) ?c1 (intVals_one xs) ?c2 ?c3 ?c4 ?_)
    case c1 =>
      intro j u hu
      obtain ⟨hj, rfl⟩ := intVals_get xs j u hu
      obtain ⟨b, off, ha, hcell⟩ := HI.out j hj
      obtain rfl : ad = ⟨b, off, none⟩ := by simpa using ha
      have hlt := World.block_lt_of_cell? w _ hcell
      rw [addr_add, World.cell?_alloc_lt _ _ _ hlt]
      exact hcell
    case c2 => simp only [maxLen]; omega
    case c3 => omega
    case c4 => simp
    intro v' w' hown hg _
    go_wp2_with fail
    go_ret
    have hnew := NewInts.of_own hown
    obtain ⟨a', c', rfl, _⟩ := hnew
    exact ⟨a', c', rfl, NewInts.of_own hown, below_grown (galloc (Below.refl _ _) _) hg (fun k hk => by simp [Value.ownBlock] at hk; omega)⟩
end Go.Proofs.Ythlcnccniliigaa

/- CopyInts, LendInts and KeptInts by contracts; FindOp. Conditions: the slice reads as the ints, fewer than 2^44 of them. -/
import Derived.Test.YthlcnccniliigaaCommand
import Derived.Test.YthlcnccniliigaaOps0
import Derived.Laws.AppendOwnNone
namespace Go.Proofs.Ythlcnccniliigaa
open Go.RowKit
set_option linter.unusedVariables false

/-- A new slice that owns its ints; nothing else. -/
def OwnPost (xs : List Int) (w : World) (e : Ending) (w' : World) : Prop := ∃ v, e = .returned v ∧ w'.ownsRow w.heap.size 3 1 v xs.length (intVals xs) ∧ Below w.heap.size w w'

set_option maxHeartbeats 800000 in
theorem copyInts_calls (a : Option Addr) (c : Nat) (xs : List Int) (w : World) (h1 : IntsAt w a xs) (hn : a = none → c = 0) (hm : xs.length * 8 ≤ 140737488355328) :
    Calls Try.prog 48 #[.slice a xs.length c] w (OwnPost xs w) := by
  obtain ⟨i0, hi, hz0, hz1, hz2⟩ := info_parts info_int
  cases a with
  | none =>
    obtain rfl : c = 0 := hn rfl
    have hx : xs = [] := by
      cases xs with
      | nil => rfl
      | cons x r => obtain ⟨b, o, h, _⟩ := h1 0 (by simp); cases h
    subst hx
    go_enter Try.func48, Try.ntmps48
    go_wp2_with (at_builtin; refine wpList_append_own_none rfl _ _ 40 rfl w.heap.size 3 i0 1 Try.underlying40 hi _ 0 [] rfl (ownsRow_empty w 3 1 _ (Nat.le_refl _)) rfl ?_)
    go_ret
    exact ⟨_, rfl, ownsRow_empty w 3 1 _ (Nat.le_refl _), galloc (Below.refl _ _) _⟩
  | some ad =>
    have HI := Lib.hid h1
    clear h1
    go_enter Try.func48, Try.ntmps48
    go_wp2_with (at_builtin; refine wpList_append_own _ rfl _ _ 40 rfl w.heap.size 3 i0 (.int .i64 0) 1 8 Try.underlying40 hi hz0 hz1 hz2 rfl (by decide) _ 0 [] rfl (ownsRow_empty w 3 1 _ (Nat.le_refl _)) ad xs.length c (intVals xs) rfl (intVals_len xs) ?c1 (intVals_one xs) ?c2 ?c3 ?c4 ?_)
    case c1 =>
      intro j u hu
      obtain ⟨hj, rfl⟩ := intVals_get xs j u hu
      obtain ⟨b, off, ha, hcell⟩ := HI.out j hj
      obtain rfl : ad = ⟨b, off, none⟩ := by simpa using ha
      have hlt := World.block_lt_of_cell? w _ hcell
      rw [addr_add, World.cell?_alloc_lt _ _ _ hlt]
      exact hcell
    case c2 => simp only [maxLen]; omega
    case c3 => omega
    case c4 => simp
    intro v' w' hown hg _
    go_wp2_with fail
    go_ret
    exact ⟨v', rfl, by simpa using hown, below_grown (galloc (Below.refl _ _) _) hg (fun k hk => by simp [Value.ownBlock] at hk; omega)⟩

/-- A slice that reads as xs, with the marked room behind it, in memory from block B on. -/
def Lent (w : World) (B g cap : Nat) (xs : List Int) : Prop :=
  B ≤ g ∧ xs.length + 2 ≤ cap ∧ (∀ i, i < xs.length → w.cell? ⟨g, i, none⟩ = some (.int .i64 (xs.getD i 0))) ∧ w.cell? ⟨g, xs.length, none⟩ = some (.int .i64 (-7777)) ∧ w.cell? ⟨g, xs.length + 1, none⟩ = some (.int .i64 (-8888))

theorem Lent.ints {w : World} {B g cap : Nat} {xs : List Int} (h : Lent w B g cap xs) : IntsAt w (some ⟨g, 0, none⟩) xs := fun i hi => ⟨g, 0, rfl, by rw [Nat.zero_add]; exact h.2.2.1 i hi⟩
theorem Lent.lt {w : World} {B g cap : Nat} {xs : List Int} (h : Lent w B g cap xs) : g < w.heap.size := World.block_lt_of_cell? w _ h.2.2.2.1
theorem Lent.later {w w' : World} {B g cap : Nat} {xs : List Int} (h : Lent w B g cap xs) (hb : Below w.heap.size w w') : Lent w' B g cap xs := by
  have hlt := h.lt
  obtain ⟨h0, h1, h2, h3, h4⟩ := h
  exact ⟨h0, h1, fun i hi => (hb.cell (p := ⟨g, i, none⟩) hlt).trans (h2 i hi), (hb.cell (p := ⟨g, _, none⟩) hlt).trans h3, (hb.cell (p := ⟨g, _, none⟩) hlt).trans h4⟩

theorem lent_of_own {w : World} {B : Nat} {v : Value} {xs : List Int} (h : w.ownsRow B 3 1 v (xs.length + 2) (intVals xs ++ [.int .i64 (-7777), .int .i64 (-8888)])) :
    ∃ g cap, v = .slice (some ⟨g, 0, none⟩) (xs.length + 2) cap ∧ Lent w B g cap xs := by
  obtain ⟨hl, h⟩ := h
  rcases h with ⟨rfl, h0⟩ | ⟨g, cap, cur, rfl, hb, hg, hnc, _, hcs, htake⟩
  · omega
  refine ⟨g, cap, rfl, hb, hnc, ?_⟩
  have hcell : ∀ j u, (intVals xs ++ [.int .i64 (-7777), .int .i64 (-8888)])[j]? = some u → w.cell? ⟨g, j, none⟩ = some u := by
    intro j u hu
    rw [← htake, List.getElem?_take] at hu
    split at hu
    · rw [cell_of hg]; simpa using hu
    · cases hu
  have hiv : (intVals xs).length = xs.length := by simp [intVals]
  refine ⟨fun i hi => hcell i _ ?_, hcell _ _ ?_, hcell _ _ ?_⟩
  · rw [List.getElem?_append_left (by omega)]
    simp [intVals, List.getD, hi]
  · rw [List.getElem?_append_right (by omega), hiv]; simp
  · rw [List.getElem?_append_right (by omega), hiv]; simp

def LendPost (xs : List Int) (w : World) (e : Ending) (w' : World) : Prop := ∃ g cap, e = .returned (.slice (some ⟨g, 0, none⟩) xs.length cap) ∧ Lent w' w.heap.size g cap xs ∧ Below w.heap.size w w'

set_option maxHeartbeats 800000 in
theorem lendInts_calls (a : Option Addr) (c : Nat) (xs : List Int) (w : World) (h1 : IntsAt w a xs) (hn : a = none → c = 0) (hm : xs.length * 8 ≤ 140737488351232) :
    Calls Try.prog 38 #[.slice a xs.length c] w (LendPost xs w) := by
  obtain ⟨i0, hi, hz0, hz1, hz2⟩ := info_parts info_int
  go_enter Try.func38, Try.ntmps38
  go_wp2_with fail
  refine (copyInts_calls a c xs w h1 hn (by omega)).mono ?_
  rintro e w1 ⟨v, rfl, hown, hb⟩
  go_wp2_with (at_builtin; refine wpList_append_own _ rfl _ _ 40 rfl w.heap.size 3 i0 (.int .i64 0) 1 8 Try.underlying40 hi hz0 hz1 hz2 rfl (by decide) v xs.length (intVals xs) rfl (hown.alloc _) ⟨w1.heap.size, 0, none⟩ 2 2 [.int .i64 (-7777), .int .i64 (-8888)] rfl rfl ?c1 ?c2 ?c3 ?c4 ?c5 ?_)
  case c1 => exact World.news_of_block (cs := #[.int .i64 (-7777), .int .i64 (-8888)]) (t := 3) (fr := (0, 0)) (new_block w1 _)
  case c2 => intro u hu; simp only [List.mem_cons, List.not_mem_nil, or_false] at hu; rcases hu with rfl | rfl <;> rfl
  case c3 => simp only [maxLen]; omega
  case c4 => omega
  case c5 => have := hb.size; simp; omega
  intro v' w' hown' hg _
  have hbel : Below w.heap.size w w' := below_grown (galloc hb _) hg (own_ge hown)
  obtain ⟨g, cap, rfl, hL⟩ := lent_of_own hown'
  have hcap : xs.length ≤ cap := by have := hL.2.1; omega
  clear hown hown' hg hb h1
  go_wp2_with fail
  go_ret
  exact ⟨g, cap, rfl, hL, hbel⟩

set_option maxHeartbeats 800000 in
theorem keptInts_calls (B g cap : Nat) (a : Option Addr) (c : Nat) (xs : List Int) (w : World) (hL : Lent w B g cap xs) (h1 : IntsAt w a xs) (hm : xs.length * 8 ≤ 140737488351232) :
    Calls Try.prog 43 #[.slice (some ⟨g, 0, none⟩) xs.length cap, .slice a xs.length c] w (BoolDrew true w) := by
  have hi := hL.ints
  obtain ⟨-, k1, -, k3, k4⟩ := hL
  have k1' : (xs.length : Int) + 2 ≤ (cap : Int) := by omega
  go_enter Try.func43, Try.ntmps43
  go_wp2_with fail
  refine (sameInts_calls (some ⟨g, 0, none⟩) a cap c xs xs w hi h1 (by omega)).mono ?_
  rintro e w' ⟨rfl, n, rfl⟩
  rw [decide_eq_true rfl]
  have k3 : (w.drewN n).cell? ⟨g, xs.length, none⟩ = some (.int .i64 (-7777)) := k3
  have k4 : (w.drewN n).cell? ⟨g, xs.length + 1, none⟩ = some (.int .i64 (-8888)) := k4
  generalize hW : w.drewN n = w1 at *
  have HW := Lib.hid hW
  clear hW hi h1
  go_wp2_with fail
  go_ret
  exact ⟨rfl, n, HW.out.symm⟩

theorem findOp_calls (b : Int) (w : World) : Calls Try.prog 37 #[.int .i64 b] w (FindPost b w) := by
  by_cases h : opErr b = 0
  · have hfin : FindPost b w = fun e w' => e = .returned (.tuple #[.agg (opRow b).cells, .int .i64 0]) ∧ Below w.heap.size w w' := by
      funext e w'; simp only [FindPost, h, if_true]
    rw [hfin]; clear hfin
    go_enter Try.func37, Try.ntmps37
    go_wp2_with fail
    refine (rof_calls b _).mono ?_
    rintro e w1 ⟨rfl, hb1⟩
    rw [h]
    clear h
    have hz1 : w.heap.size < w1.heap.size := by have := hb1.size; simp at this; omega
    have ho : w1.heap[w.heap.size]? = some (.cells OpR.zero.cells 35) := block_later hb1 (new_block _ _)
    have c0 : w1.cell? ⟨w.heap.size, 0, none⟩ = some (.int .i64 0) := cell_of ho 0
    have c1 : w1.cell? ⟨w.heap.size, 1, none⟩ = some (.int .i64 0) := cell_of ho 1
    have c2 : w1.cell? ⟨w.heap.size, 2, none⟩ = some (.bool false) := cell_of ho 2
    have c3 : w1.cell? ⟨w.heap.size, 3, none⟩ = some (.int .i64 0) := cell_of ho 3
    have c4 : w1.cell? ⟨w.heap.size, 4, none⟩ = some (.int .i64 0) := cell_of ho 4
    have c5 : w1.cell? ⟨w.heap.size, 5, none⟩ = some (.bool false) := cell_of ho 5
    have f0 := fun i => free_of ho i
    clear ho
    rw [show (opRow b).cells = #[.int .i64 (opRow b).byte, .int .i64 (opRow b).addr, .bool (opRow b).mode, .int .i64 (opRow b).dummy, .int .i64 (opRow b).data, .bool (opRow b).inn] from rfl]
    go_wp2_with fail
    refine bodyPost_ret (v := .tuple #[.agg (opRow b).cells, .int .i64 0]) (by simp [results, Try.results37, go_sem, c0, c1, c2, c3, c4, c5, hz1, OpR.cells]) rfl ⟨rfl, ?_⟩
    repeat (first | with_reducible exact Below.refl _ _ | with_reducible refine gset ?_ (by simp) _ | with_reducible refine galloc ?_ _ | with_reducible refine gtr ?_ hb1)
  · have hfin : FindPost b w = fun e w' => e = .returned (.tuple #[.agg OpR.zero.cells, .int .i64 900]) ∧ Below w.heap.size w w' := by
      funext e w'; simp only [FindPost, h, if_false, opRow_zero b h]
    rw [hfin]; clear hfin
    go_enter Try.func37, Try.ntmps37
    go_wp2_with fail
    refine (rof_calls b _).mono ?_
    rintro e w1 ⟨rfl, hb1⟩
    have he : (opErr b != 0) = true := bne_iff_ne.2 h
    clear h
    have hz1 : w.heap.size < w1.heap.size := by have := hb1.size; simp at this; omega
    have ho : w1.heap[w.heap.size]? = some (.cells OpR.zero.cells 35) := block_later hb1 (new_block _ _)
    have c0 : w1.cell? ⟨w.heap.size, 0, none⟩ = some (.int .i64 0) := cell_of ho 0
    have c1 : w1.cell? ⟨w.heap.size, 1, none⟩ = some (.int .i64 0) := cell_of ho 1
    have c2 : w1.cell? ⟨w.heap.size, 2, none⟩ = some (.bool false) := cell_of ho 2
    have c3 : w1.cell? ⟨w.heap.size, 3, none⟩ = some (.int .i64 0) := cell_of ho 3
    have c4 : w1.cell? ⟨w.heap.size, 4, none⟩ = some (.int .i64 0) := cell_of ho 4
    have c5 : w1.cell? ⟨w.heap.size, 5, none⟩ = some (.bool false) := cell_of ho 5
    have f0 := fun i => free_of ho i
    clear ho
    rw [show (opRow b).cells = #[.int .i64 (opRow b).byte, .int .i64 (opRow b).addr, .bool (opRow b).mode, .int .i64 (opRow b).dummy, .int .i64 (opRow b).data, .bool (opRow b).inn] from rfl]
    go_wp2_with fail
    refine bodyPost_ret (v := .tuple #[.agg OpR.zero.cells, .int .i64 900]) (by simp [results, Try.results37, go_sem, c0, c1, c2, c3, c4, c5, hz1, OpR.cells, OpR.zero]) rfl ⟨rfl, ?_⟩
    repeat (first | with_reducible exact Below.refl _ _ | with_reducible refine gset ?_ (by simp) _ | with_reducible refine galloc ?_ _ | with_reducible refine gtr ?_ hb1)
end Go.Proofs.Ythlcnccniliigaa

/- The layer 'table': a byte's test, fits, Find, Command: what each comes to; new memory at most. Conditions stand with each. -/
import Derived.Test.YthlcnccniliigaaFunc
import Derived.Test.YthlcnccniliigaaOp
import Derived.Deep.DeepCutAuto
import Derived.Deep.RegionHeld3
import Derived.Outline
namespace Go.Proofs.Ythlcnccniliigaa
open Go.RowKit
set_option linter.unusedVariables false

def isByte (b : Int) : Bool := decide (0 ≤ b) && decide (b < 256)

theorem byte_calls (b : Int) (w : World) : Calls Try.prog 50 #[.int .i64 b] w fun e w' => e = .returned (.bool (isByte b)) ∧ w = w' := by
  by_cases h : 0 ≤ b
  · have e : isByte b = decide (b < 256) := by unfold isByte; rw [decide_eq_true h]; simp
    rw [e]; clear e
    go_enter Try.func50, Try.ntmps50
    go_wp2
    go_ret
    exact ⟨rfl, rfl⟩
  · have e : isByte b = false := by unfold isByte; rw [decide_eq_false h]; simp
    rw [e]; clear e
    go_enter Try.func50, Try.ntmps50
    go_wp2
    go_ret
    exact ⟨rfl, rfl⟩

theorem bad_calls : Tells 49 (fun b => !isByte b) where
  calls b w := by
    go_enter Try.func49, Try.ntmps49
    go_wp2_with (go_at_call 50; refine (byte_calls _ _).mono ?_; rintro e w' ⟨rfl, rfl⟩)
    go_ret
    exact ⟨rfl, rfl⟩
  run args w := by go_simp

theorem allBytes_not (xs : List Int) : xs.any (fun b => !isByte b) = !xs.all isByte := by
  induction xs with
  | nil => rfl
  | cons x r ih => simp [ih, Bool.not_and]

/-- fits. -/
def fitsB (r : OpR) (data read : Int) : Bool :=
  if r.data = 0 then decide (data = 0) && decide (read = 0) else if r.inn then decide (read = 0) else if r.mode then decide (data = 1) else decide (data = 0)

/-- The block b holds a command's row. -/
def OpBox (w : World) (b : Nat) (r : OpR) : Prop := ∃ t f, w.heap[b]? = some (.cells r.cells t f)
theorem OpBox.cell {w : World} {b : Nat} {r : OpR} (h : OpBox w b r) : w.cell? ⟨b, 0, none⟩ = some (.int .i64 r.byte) ∧ w.cell? ⟨b, 1, none⟩ = some (.int .i64 r.addr) ∧ w.cell? ⟨b, 2, none⟩ = some (.bool r.mode) ∧
    w.cell? ⟨b, 3, none⟩ = some (.int .i64 r.dummy) ∧ w.cell? ⟨b, 4, none⟩ = some (.int .i64 r.data) ∧ w.cell? ⟨b, 5, none⟩ = some (.bool r.inn) := by
  obtain ⟨t, f, h⟩ := h
  exact ⟨cell_of h 0, cell_of h 1, cell_of h 2, cell_of h 3, cell_of h 4, cell_of h 5⟩
theorem OpBox.later {w w' : World} {b : Nat} {r : OpR} (h : OpBox w b r) (hb : Below w.heap.size w w') : OpBox w' b r := by
  obtain ⟨t, f, h⟩ := h
  exact ⟨t, f, block_later hb h⟩

theorem fits_calls (b : Nat) (r : OpR) (data read : Int) (w : World) (h : OpBox w b r) :
    Calls Try.prog 52 #[.pointer (some ⟨b, 0, none⟩), .int .i64 data, .int .i64 read] w fun e w' => e = .returned (.bool (fitsB r data read)) ∧ w = w' := by
  obtain ⟨_, _, c2, _, c4, c5⟩ := h.cell
  clear h
  by_cases h1 : r.data = 0
  · have e : fitsB r data read = (decide (data = 0) && decide (read = 0)) := by simp [fitsB, h1]
    rw [e]; clear e
    rw [h1] at c4
    by_cases h2 : data = 0
    · subst h2
      go_enter Try.func52, Try.ntmps52
      go_wp2
      go_ret
      exact ⟨by simp; rfl, rfl⟩
    · have g2 : (data == 0) = false := beq_eq_false_iff_ne.2 h2
      have e2 : decide (data = 0) = false := by simp [h2]
      rw [e2]
      clear h2 e2
      go_enter Try.func52, Try.ntmps52
      go_wp2
      go_ret
      exact ⟨by simp, rfl⟩
  · have g1 : (r.data == 0) = false := beq_eq_false_iff_ne.2 h1
    cases h2 : r.inn with
    | true =>
      have e : fitsB r data read = decide (read = 0) := by simp [fitsB, h1, h2]
      rw [e]; clear e h1
      rw [h2] at c5
      go_enter Try.func52, Try.ntmps52
      go_wp2
      go_ret
      exact ⟨by simp; rfl, rfl⟩
    | false =>
      rw [h2] at c5
      cases h3 : r.mode with
      | true =>
        have e : fitsB r data read = decide (data = 1) := by simp [fitsB, h1, h2, h3]
        rw [e]; clear e h1
        rw [h3] at c2
        go_enter Try.func52, Try.ntmps52
        go_wp2
        go_ret
        exact ⟨by simp; rfl, rfl⟩
      | false =>
        have e : fitsB r data read = decide (data = 0) := by simp [fitsB, h1, h2, h3]
        rw [e]; clear e h1
        rw [h3] at c2
        go_enter Try.func52, Try.ntmps52
        go_wp2
        go_ret
        exact ⟨by simp; rfl, rfl⟩

/-- Find: a command's row, or the error of this layer. -/
def FindPost (b : Int) (w : World) (e : Ending) (w' : World) : Prop :=
  e = .returned (.tuple #[.agg (opRow b).cells, .int .i64 (if opErr b = 0 then 0 else 900)]) ∧ Below w.heap.size w w'

theorem opRow_zero (b : Int) (h : opErr b ≠ 0) : opRow b = OpR.zero := by
  unfold opErr at h; unfold opRow
  cases ho : opTab b with
  | none => rfl
  | some r => simp [ho] at h

theorem find_calls (b : Int) (w : World) : Calls Try.prog 36 #[.int .i64 b] w (FindPost b w) := by
  by_cases h : opErr b = 0
  · have hfin : FindPost b w = fun e w' => e = .returned (.tuple #[.agg (opRow b).cells, .int .i64 0]) ∧ Below w.heap.size w w' := by
      funext e w'; simp only [FindPost, h, if_true]
    rw [hfin]; clear hfin
    go_enter Try.func36, Try.ntmps36
    go_wp2_with fail
    refine (of_calls b _).mono ?_
    rintro e w1 ⟨rfl, hb1⟩
    rw [h]
    clear h
    have hz1 : w.heap.size < w1.heap.size := by have := hb1.size; simp at this; omega
    have ho : w1.heap[w.heap.size]? = some (.cells OpR.zero.cells 35) := block_later hb1 (new_block _ _)
    have c0 : w1.cell? ⟨w.heap.size, 0, none⟩ = some (.int .i64 0) := cell_of ho 0
    have c1 : w1.cell? ⟨w.heap.size, 1, none⟩ = some (.int .i64 0) := cell_of ho 1
    have c2 : w1.cell? ⟨w.heap.size, 2, none⟩ = some (.bool false) := cell_of ho 2
    have c3 : w1.cell? ⟨w.heap.size, 3, none⟩ = some (.int .i64 0) := cell_of ho 3
    have c4 : w1.cell? ⟨w.heap.size, 4, none⟩ = some (.int .i64 0) := cell_of ho 4
    have c5 : w1.cell? ⟨w.heap.size, 5, none⟩ = some (.bool false) := cell_of ho 5
    have f0 := fun i => free_of ho i
    clear ho
    rw [show (opRow b).cells = #[.int .i64 (opRow b).byte, .int .i64 (opRow b).addr, .bool (opRow b).mode, .int .i64 (opRow b).dummy, .int .i64 (opRow b).data, .bool (opRow b).inn] from rfl]
    go_wp2_with fail
    refine bodyPost_ret (v := .tuple #[.agg (opRow b).cells, .int .i64 0]) (by simp [results, Try.results36, go_sem, c0, c1, c2, c3, c4, c5, hz1, OpR.cells]) rfl ⟨rfl, ?_⟩
    repeat (first | with_reducible exact Below.refl _ _ | with_reducible refine gset ?_ (by simp) _ | with_reducible refine galloc ?_ _ | with_reducible refine gtr ?_ hb1)
  · have hfin : FindPost b w = fun e w' => e = .returned (.tuple #[.agg OpR.zero.cells, .int .i64 900]) ∧ Below w.heap.size w w' := by
      funext e w'; simp only [FindPost, h, if_false, opRow_zero b h]
    rw [hfin]; clear hfin
    go_enter Try.func36, Try.ntmps36
    go_wp2_with fail
    refine (of_calls b _).mono ?_
    rintro e w1 ⟨rfl, hb1⟩
    have he : (opErr b != 0) = true := bne_iff_ne.2 h
    clear h
    have hz1 : w.heap.size < w1.heap.size := by have := hb1.size; simp at this; omega
    have ho : w1.heap[w.heap.size]? = some (.cells OpR.zero.cells 35) := block_later hb1 (new_block _ _)
    have c0 : w1.cell? ⟨w.heap.size, 0, none⟩ = some (.int .i64 0) := cell_of ho 0
    have c1 : w1.cell? ⟨w.heap.size, 1, none⟩ = some (.int .i64 0) := cell_of ho 1
    have c2 : w1.cell? ⟨w.heap.size, 2, none⟩ = some (.bool false) := cell_of ho 2
    have c3 : w1.cell? ⟨w.heap.size, 3, none⟩ = some (.int .i64 0) := cell_of ho 3
    have c4 : w1.cell? ⟨w.heap.size, 4, none⟩ = some (.int .i64 0) := cell_of ho 4
    have c5 : w1.cell? ⟨w.heap.size, 5, none⟩ = some (.bool false) := cell_of ho 5
    have f0 := fun i => free_of ho i
    clear ho
    rw [show (opRow b).cells = #[.int .i64 (opRow b).byte, .int .i64 (opRow b).addr, .bool (opRow b).mode, .int .i64 (opRow b).dummy, .int .i64 (opRow b).data, .bool (opRow b).inn] from rfl]
    go_wp2_with fail
    refine bodyPost_ret (v := .tuple #[.agg OpR.zero.cells, .int .i64 900]) (by simp [results, Try.results36, go_sem, c0, c1, c2, c3, c4, c5, hz1, OpR.cells, OpR.zero]) rfl ⟨rfl, ?_⟩
    repeat (first | with_reducible exact Below.refl _ _ | with_reducible refine gset ?_ (by simp) _ | with_reducible refine galloc ?_ _ | with_reducible refine gtr ?_ hb1)
end Go.Proofs.Ythlcnccniliigaa

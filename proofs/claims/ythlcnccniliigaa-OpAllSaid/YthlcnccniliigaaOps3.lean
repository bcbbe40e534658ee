/- OpAll's walk: a loop over the bytes; how many of the fourteen lie below is counted. -/
import Derived.Test.YthlcnccniliigaaOps1
import Derived.Outline
namespace Go.Proofs.Ythlcnccniliigaa
open Go.RowKit
set_option linter.unusedVariables false

def cnt (k : Nat) : Nat := (opBytes.filter fun x => decide (x < (k : Int))).length
def isOp (k : Nat) : Bool := opBytes.contains (k : Int)

theorem cnt_all : ∀ k, k < 256 → (isOp k = true → cnt (k + 1) = cnt k + 1 ∧ cnt k < 14 ∧ opBytes.getD (cnt k) 0 = k) ∧ (isOp k = false → cnt (k + 1) = cnt k ∧ cnt k ≤ 14 ∧ (opBytes.getD (cnt k) 0 == (k : Int)) = false) := by decide +kernel

theorem isOp_lit (k : Nat) (h : isOp k = true) : k = 1 ∨ k = 2 ∨ k = 3 ∨ k = 4 ∨ k = 5 ∨ k = 6 ∨ k = 32 ∨ k = 53 ∨ k = 90 ∨ k = 107 ∨ k = 117 ∨ k = 122 ∨ k = 159 ∨ k = 235 := by
  simp [isOp, opBytes] at h; omega
theorem isOp_no (k : Nat) (h : isOp k = false) : opErr (k : Int) = 400 := by
  have hn : opTab (k : Int) = none := opTab_none _ fun x hx => by
    simp [isOp] at h; intro e; rw [e] at h; exact h hx
  simp [opErr, hn]

set_option maxRecDepth 100000 in
set_option maxHeartbeats 8000000 in
theorem opall_walk (w : World) : Calls Try.prog 8 #[] w (RetBool true w) := by
  go_enter Try.func8, Try.ntmps8
  go_wp2_with fail
  refine (awake4_calls _).mono ?_
  rintro e w1 ⟨rfl, hb1⟩
  go_wp2_with fail
  refine (all_calls _).mono ?_
  rintro e w2 ⟨b2, rfl, hb2, hl2, hlt2, ho2⟩
  have hq2 : Below w.heap.size w w2 := gtr hb1 hb2
  have hw2 : w.heap.size ≤ b2 := Nat.le_trans hb1.size hl2
  clear hb1 hb2 hl2
  go_wp2_with fail
  go_loopw [2, 3] (fun a i wr => ∃ k : Nat, k ≤ 256 ∧ i = .int .i64 k ∧ a = .int .i64 (cnt k) ∧ Below w2.heap.size w2 wr) (fun _ i _ => 256 - (intOf i).toNat)
  case atStart => exact ⟨0, by omega, rfl, rfl, Below.refl _ _⟩
  case round =>
    obtain ⟨k, hk, rfl, rfl, hbr⟩ := hrel
    by_cases hlt : k < 256
    · have hall := cnt_all k hlt
      have hcell : ∀ j, j < 14 → wr.cell? ⟨b2, j, none⟩ = some (.int .i64 (opBytes.getD j 0)) := fun j hj => by
        obtain ⟨b', o', ha', hc'⟩ := opObj_ints (block_later hbr ho2) j hj
        obtain ⟨rfl, rfl⟩ : b2 = b' ∧ 0 = o' := by simpa using ha'
        rw [Nat.zero_add] at hc'; exact hc'
      have hlt' : (k : Int) < 256 := by omega
      have hb2w : b2 < wr.heap.size := Nat.lt_of_lt_of_le hlt2 hbr.size
      cases hop : isOp k with
      | false =>
        obtain ⟨e1, e2, e3⟩ := hall.2 hop
        have he := isOp_no k hop
        have E1 := Lib.hid e1
        clear e1 hall hop
        by_cases hc14 : cnt k < 14
        · have c1 := hcell _ hc14
          have hc14' : (cnt k : Int) < 14 := by omega
          clear hcell hc14
          generalize hcn : cnt k = m at *
          generalize opBytes.getD m 0 = x at *
          have HCN := Lib.hid hcn
          clear hcn
          go_wp2_with fail
          refine (of_calls _ _).mono ?_
          rintro e w3 ⟨rfl, hb3⟩
          have d1 := (hb3.cell (p := ⟨b2, m, none⟩) hb2w).trans c1
          have hb2w3 : b2 < w3.heap.size := Nat.lt_of_lt_of_le hb2w hb3.size
          rw [he, row_cells]
          clear he c1
          go_wp2_with (first | (go_at_call 27; refine (num_calls _ _).mono ?_; rintro e w' ⟨rfl, rfl⟩))
          go_roundw
          case rel => exact ⟨k + 1, by omega, by go_num, by rw [E1.out], galloc (gtr hbr hb3) _⟩
          case measure => simp [intOf]; omega
        · have hc14' : ¬ (cnt k : Int) < 14 := by omega
          clear hcell hc14
          generalize hcn : cnt k = m at *
          have HCN := Lib.hid hcn
          clear hcn
          go_wp2_with fail
          refine (of_calls _ _).mono ?_
          rintro e w3 ⟨rfl, hb3⟩
          rw [he, row_cells]
          clear he
          go_wp2_with (first | (go_at_call 27; refine (num_calls _ _).mono ?_; rintro e w' ⟨rfl, rfl⟩))
          go_roundw
          case rel => exact ⟨k + 1, by omega, by go_num, by rw [E1.out], galloc (gtr hbr hb3) _⟩
          case measure => simp [intOf]; omega
      | true =>
        obtain ⟨e1, e2, e3⟩ := hall.1 hop
        have c1 := hcell _ e2
        rw [e3] at c1
        have hlit := isOp_lit k hop
        clear hall hop hcell e3
        generalize hcn : cnt k = m at *
        have HE : Hid (cnt (k + 1) = m + 1) := Lib.hid e1
        have hm : (m : Int) < 14 := by omega
        clear e1 hcn e2 hk hlt hlt'
        rcases hlit with rfl | rfl | rfl | rfl | rfl | rfl | rfl | rfl | rfl | rfl | rfl | rfl | rfl | rfl
        all_goals
          simp only [Int.cast_ofNat_Int] at c1 ⊢
          go_wp2_with fail
          refine (of_calls _ _).mono ?_
          rintro e w3 ⟨rfl, hb3⟩
          have d1 := (hb3.cell (p := ⟨b2, m, none⟩) hb2w).trans c1
          have hb2w3 : b2 < w3.heap.size := Nat.lt_of_lt_of_le hb2w hb3.size
          clear c1
          rw [row_cells]
          simp only [opRow, opTab, opErr, Option.getD_some, Option.isSome_some, if_true, reduceIte, Int.reduceEq]
          go_wp2_with (first | (go_at_call 27; refine (num_calls _ _).mono ?_; rintro e w' ⟨rfl, rfl⟩))
          go_roundw
          case rel => exact ⟨_, by decide, rfl, by rw [HE.out]; go_num, galloc (gtr hbr hb3) _⟩
          case measure => simp [intOf]
    · obtain rfl : k = 256 := by omega
      have e : cnt 256 = 14 := by decide +kernel
      rw [e]
      go_wp2
      go_ret
      exact ⟨rfl, gtr hq2 hbr⟩
end Go.Proofs.Ythlcnccniliigaa

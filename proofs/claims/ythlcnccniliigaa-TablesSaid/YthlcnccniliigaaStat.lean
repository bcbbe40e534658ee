/- The contracts of the layer 'stat' (First, Second, Protected, their references, and what every program answers that is one): each comes to a plain number or bool; new memory at most. No conditions. -/
import Derived.Test.YthlcnccniliigaaRows
import Derived.WalkKit
import Derived.ProofKit
import Derived.OpenShut
namespace Go.Proofs.Ythlcnccniliigaa
open Go.RowKit

def bsum (a b c : Bool) : Int := (if a then 1 else 0) + (if b then 2 else 0) + (if c then 4 else 0)
def bsum2 (a b : Bool) : Int := (if a then 2 else 0) + (if b then 128 else 0)
def protB (p : Bool) (i : Int) : Bool := p && decide (0 ≤ i) && decide (i < 2048)
def protE (i : Int) : Int := if 0 ≤ i ∧ i < 4096 then 0 else 500

theorem so_calls (p q : Addr) (x : Int) (s : Bool) (w : World) (hp : w.cell? p = some (.int .i64 x)) (hq : w.cell? q = some (.bool s)) :
    Calls Try.prog 55 #[.pointer (some p), .pointer (some q)] w fun e w' => e = .returned (.tuple #[.int .i64 x, .bool s]) ∧ w' = w.drew := by
  go_enter Try.func55, Try.ntmps55
  go_wp2
  go_region
  all_goals
    go_wp2
    go_ret2
    exact ⟨rfl, rfl⟩

set_option maxHeartbeats 4000000 in
theorem first_calls (a b c : Bool) (w : World) :
    Calls Try.prog 23 #[.bool a, .bool b, .bool c] w fun e w' => e = .returned (.int .i64 (bsum a b c)) ∧ Grown w w' := by
  cases a <;> cases b <;> cases c
  all_goals
    go_enter Try.func23, Try.ntmps23
    go_wp2
    refine wp_loop_rounds 4 ?_
    iterate 4 (rw [rounds_succ]; go_wp2_with (first | (go_at_call 55; refine (so_calls _ _ _ _ _ (by go_simp; rfl) (by go_simp; rfl)).mono ?_; rintro e w' ⟨rfl, rfl⟩)))
    go_ret
    exact ⟨rfl, by repeat (first | exact Grown.refl _ | apply Grown.drew | apply Grown.alloc)⟩

set_option maxHeartbeats 4000000 in
theorem second_calls (a b : Bool) (w : World) :
    Calls Try.prog 25 #[.bool a, .bool b] w fun e w' => e = .returned (.int .i64 (bsum2 a b)) ∧ Grown w w' := by
  cases a <;> cases b
  all_goals
    go_enter Try.func25, Try.ntmps25
    go_wp2
    refine wp_loop_rounds 3 ?_
    iterate 3 (rw [rounds_succ]; go_wp2_with (first | (go_at_call 55; refine (so_calls _ _ _ _ _ (by go_simp; rfl) (by go_simp; rfl)).mono ?_; rintro e w' ⟨rfl, rfl⟩)))
    go_ret
    exact ⟨rfl, by repeat (first | exact Grown.refl _ | apply Grown.drew | apply Grown.alloc)⟩

theorem rfirst_calls (a b c : Bool) (w : World) :
    Calls Try.prog 24 #[.bool a, .bool b, .bool c] w fun e w' => e = .returned (.int .i64 (bsum a b c)) ∧ w = w' := by
  cases a <;> cases b <;> cases c
  all_goals
    go_enter Try.func24, Try.ntmps24
    go_wp2
    go_ret
    exact ⟨rfl, rfl⟩

theorem rsecond_calls (a b : Bool) (w : World) :
    Calls Try.prog 26 #[.bool a, .bool b] w fun e w' => e = .returned (.int .i64 (bsum2 a b)) ∧ w = w' := by
  cases a <;> cases b
  all_goals
    go_enter Try.func26, Try.ntmps26
    go_wp2
    go_ret
    exact ⟨rfl, rfl⟩

theorem prot_lo (p : Bool) (i : Int) (h : i < 0) : protB p i = false ∧ protE i = 500 := by
  unfold protB protE; constructor
  · simp; intro _ _; omega
  · rw [if_neg (by omega)]
theorem prot_hi (p : Bool) (i : Int) (h : 4096 ≤ i) : protB p i = false ∧ protE i = 500 := by
  unfold protB protE; constructor
  · simp; intro _ _; omega
  · rw [if_neg (by omega)]
theorem prot_in (i : Int) (h : 0 ≤ i) (h' : i < 4096) : protE i = 0 := by unfold protE; rw [if_pos ⟨h, h'⟩]

theorem prot_calls (p : Bool) (i : Int) (w : World) :
    Calls Try.prog 21 #[.bool p, .int .i64 i] w fun e w' => e = .returned (.tuple #[.bool (protB p i), .int .i64 (protE i)]) ∧ w = w' := by
  by_cases h1 : i < 0
  · obtain ⟨e1, e2⟩ := prot_lo p i h1
    rw [e1, e2]; clear e1 e2
    go_enter Try.func21, Try.ntmps21
    go_wp2
    go_ret2
    exact ⟨rfl, rfl⟩
  · by_cases h2 : 4096 ≤ i
    · obtain ⟨e1, e2⟩ := prot_hi p i h2
      rw [e1, e2]; clear e1 e2
      go_enter Try.func21, Try.ntmps21
      go_wp2
      go_ret2
      exact ⟨rfl, rfl⟩
    · rw [prot_in i (by omega) (by omega)]
      have e1 : protB p i = (p && decide (i < 2048)) := by unfold protB; rw [decide_eq_true (by omega : 0 ≤ i)]; simp
      rw [e1]; clear e1
      cases p
      · go_enter Try.func21, Try.ntmps21
        go_wp2
        go_ret2
        exact ⟨rfl, rfl⟩
      · go_enter Try.func21, Try.ntmps21
        go_wp2
        go_ret2
        exact ⟨by simp, rfl⟩

theorem rprot_calls (p : Bool) (i : Int) (w : World) :
    Calls Try.prog 22 #[.bool p, .int .i64 i] w fun e w' => e = .returned (.tuple #[.bool (protB p i), .int .i64 (protE i)]) ∧ w = w' := by
  by_cases h1 : i < 0
  · obtain ⟨e1, e2⟩ := prot_lo p i h1
    rw [e1, e2]; clear e1 e2
    go_enter Try.func22, Try.ntmps22
    go_wp2
    go_ret2
    exact ⟨rfl, rfl⟩
  · by_cases h2 : 4096 ≤ i
    · obtain ⟨e1, e2⟩ := prot_hi p i h2
      rw [e1, e2]; clear e1 e2
      go_enter Try.func22, Try.ntmps22
      go_wp2
      go_ret2
      exact ⟨rfl, rfl⟩
    · rw [prot_in i (by omega) (by omega)]
      have e1 : protB p i = (p && decide (i < 2048)) := by unfold protB; rw [decide_eq_true (by omega : 0 ≤ i)]; simp
      rw [e1]; clear e1
      cases p
      · go_enter Try.func22, Try.ntmps22
        go_wp2
        go_ret2
        exact ⟨rfl, rfl⟩
      · go_enter Try.func22, Try.ntmps22
        go_wp2
        go_ret2
        exact ⟨by simp, rfl⟩

theorem num_calls (n : Int) (w : World) : Calls Try.prog 27 #[.int .i64 n] w fun e w' => e = .returned (.int .i64 n) ∧ w = w' := by
  go_enter Try.func27, Try.ntmps27
  go_wp2
  go_ret
  exact ⟨rfl, rfl⟩

theorem grown_trans {a b c : World} (h : Grown a b) (k : Grown b c) : Grown a c :=
  ⟨World.keptBut_trans h.1 k.1, fun x => (k.2.1 x).trans (h.2.1 x), Nat.le_trans h.2.2 k.2.2⟩

theorem awake5_calls (w : World) : Calls Try.prog 28 #[] w fun e w' => e = .returned (.bool true) ∧ Grown w w' := by
  have p1 : protB true 2047 = true := by decide
  have p2 : protB true 2048 = false := by decide
  have p3 : protE 2047 = 0 := by decide
  have p4 : protE 2048 = 0 := by decide
  have p5 : protE 4096 = 500 := by decide
  have p6 : bsum true false true = 5 := by decide
  have p7 : bsum2 true true = 130 := by decide
  go_enter Try.func28, Try.ntmps28
  go_wp2_with (first | (go_at_call 21; refine (prot_calls _ _ _).mono ?_; rintro e w' ⟨rfl, rfl⟩) | (go_at_call 23; refine (first_calls _ _ _ _).mono ?_; rintro e w1 ⟨rfl, hg1⟩) | (go_at_call 25; refine (second_calls _ _ _).mono ?_; rintro e w2 ⟨rfl, hg2⟩) | (go_at_call 27; refine (num_calls _ _).mono ?_; rintro e w' ⟨rfl, rfl⟩))
  go_ret
  exact ⟨rfl, grown_trans hg1 hg2⟩
end Go.Proofs.Ythlcnccniliigaa

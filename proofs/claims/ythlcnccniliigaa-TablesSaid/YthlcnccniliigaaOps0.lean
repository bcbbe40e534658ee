/- The contracts of chapter 4's statements: the reference's Of, both lists of bytes, SpoilInts (it writes into the one block alone), what every program answers that is one. Conditions stand with each. -/
import Derived.Test.YthlcnccniliigaaOp
import Derived.Test.YthlcnccniliigaaInts
import Derived.Test.YthlcnccniliigaaStat
namespace Go.Proofs.Ythlcnccniliigaa
open Go.RowKit
set_option linter.unusedVariables false

theorem rof_1 (w : World) : Calls Try.prog 30 #[.int .i64 1] w (OfPost 1 w) := by
  have hfin : OfPost 1 w = fun e w' => e = .returned (.tuple #[.agg (opRow 1).cells, .int .i64 0]) ∧ Below w.heap.size w w' := rfl
  rw [hfin]; clear hfin
  go_enter Try.func30, Try.ntmps30
  go_wp2
  exact bodyPost_ret (v := .tuple #[.agg (opRow 1).cells, .int .i64 0]) (by simp [results, Try.results30, go_sem, opRow, opTab, OpR.cells]) rfl ⟨rfl, ((Below.refl _ _).alloc (Nat.le_refl _) _).alloc (by simp) _⟩
theorem rof_2 (w : World) : Calls Try.prog 30 #[.int .i64 2] w (OfPost 2 w) := by
  have hfin : OfPost 2 w = fun e w' => e = .returned (.tuple #[.agg (opRow 2).cells, .int .i64 0]) ∧ Below w.heap.size w w' := rfl
  rw [hfin]; clear hfin
  go_enter Try.func30, Try.ntmps30
  go_wp2
  exact bodyPost_ret (v := .tuple #[.agg (opRow 2).cells, .int .i64 0]) (by simp [results, Try.results30, go_sem, opRow, opTab, OpR.cells]) rfl ⟨rfl, ((Below.refl _ _).alloc (Nat.le_refl _) _).alloc (by simp) _⟩
theorem rof_3 (w : World) : Calls Try.prog 30 #[.int .i64 3] w (OfPost 3 w) := by
  have hfin : OfPost 3 w = fun e w' => e = .returned (.tuple #[.agg (opRow 3).cells, .int .i64 0]) ∧ Below w.heap.size w w' := rfl
  rw [hfin]; clear hfin
  go_enter Try.func30, Try.ntmps30
  go_wp2
  exact bodyPost_ret (v := .tuple #[.agg (opRow 3).cells, .int .i64 0]) (by simp [results, Try.results30, go_sem, opRow, opTab, OpR.cells]) rfl ⟨rfl, ((Below.refl _ _).alloc (Nat.le_refl _) _).alloc (by simp) _⟩
theorem rof_4 (w : World) : Calls Try.prog 30 #[.int .i64 4] w (OfPost 4 w) := by
  have hfin : OfPost 4 w = fun e w' => e = .returned (.tuple #[.agg (opRow 4).cells, .int .i64 0]) ∧ Below w.heap.size w w' := rfl
  rw [hfin]; clear hfin
  go_enter Try.func30, Try.ntmps30
  go_wp2
  exact bodyPost_ret (v := .tuple #[.agg (opRow 4).cells, .int .i64 0]) (by simp [results, Try.results30, go_sem, opRow, opTab, OpR.cells]) rfl ⟨rfl, ((Below.refl _ _).alloc (Nat.le_refl _) _).alloc (by simp) _⟩
theorem rof_5 (w : World) : Calls Try.prog 30 #[.int .i64 5] w (OfPost 5 w) := by
  have hfin : OfPost 5 w = fun e w' => e = .returned (.tuple #[.agg (opRow 5).cells, .int .i64 0]) ∧ Below w.heap.size w w' := rfl
  rw [hfin]; clear hfin
  go_enter Try.func30, Try.ntmps30
  go_wp2
  exact bodyPost_ret (v := .tuple #[.agg (opRow 5).cells, .int .i64 0]) (by simp [results, Try.results30, go_sem, opRow, opTab, OpR.cells]) rfl ⟨rfl, ((Below.refl _ _).alloc (Nat.le_refl _) _).alloc (by simp) _⟩
theorem rof_6 (w : World) : Calls Try.prog 30 #[.int .i64 6] w (OfPost 6 w) := by
  have hfin : OfPost 6 w = fun e w' => e = .returned (.tuple #[.agg (opRow 6).cells, .int .i64 0]) ∧ Below w.heap.size w w' := rfl
  rw [hfin]; clear hfin
  go_enter Try.func30, Try.ntmps30
  go_wp2
  exact bodyPost_ret (v := .tuple #[.agg (opRow 6).cells, .int .i64 0]) (by simp [results, Try.results30, go_sem, opRow, opTab, OpR.cells]) rfl ⟨rfl, ((Below.refl _ _).alloc (Nat.le_refl _) _).alloc (by simp) _⟩
theorem rof_32 (w : World) : Calls Try.prog 30 #[.int .i64 32] w (OfPost 32 w) := by
  have hfin : OfPost 32 w = fun e w' => e = .returned (.tuple #[.agg (opRow 32).cells, .int .i64 0]) ∧ Below w.heap.size w w' := rfl
  rw [hfin]; clear hfin
  go_enter Try.func30, Try.ntmps30
  go_wp2
  exact bodyPost_ret (v := .tuple #[.agg (opRow 32).cells, .int .i64 0]) (by simp [results, Try.results30, go_sem, opRow, opTab, OpR.cells]) rfl ⟨rfl, ((Below.refl _ _).alloc (Nat.le_refl _) _).alloc (by simp) _⟩
theorem rof_53 (w : World) : Calls Try.prog 30 #[.int .i64 53] w (OfPost 53 w) := by
  have hfin : OfPost 53 w = fun e w' => e = .returned (.tuple #[.agg (opRow 53).cells, .int .i64 0]) ∧ Below w.heap.size w w' := rfl
  rw [hfin]; clear hfin
  go_enter Try.func30, Try.ntmps30
  go_wp2
  exact bodyPost_ret (v := .tuple #[.agg (opRow 53).cells, .int .i64 0]) (by simp [results, Try.results30, go_sem, opRow, opTab, OpR.cells]) rfl ⟨rfl, ((Below.refl _ _).alloc (Nat.le_refl _) _).alloc (by simp) _⟩
theorem rof_90 (w : World) : Calls Try.prog 30 #[.int .i64 90] w (OfPost 90 w) := by
  have hfin : OfPost 90 w = fun e w' => e = .returned (.tuple #[.agg (opRow 90).cells, .int .i64 0]) ∧ Below w.heap.size w w' := rfl
  rw [hfin]; clear hfin
  go_enter Try.func30, Try.ntmps30
  go_wp2
  exact bodyPost_ret (v := .tuple #[.agg (opRow 90).cells, .int .i64 0]) (by simp [results, Try.results30, go_sem, opRow, opTab, OpR.cells]) rfl ⟨rfl, ((Below.refl _ _).alloc (Nat.le_refl _) _).alloc (by simp) _⟩
theorem rof_107 (w : World) : Calls Try.prog 30 #[.int .i64 107] w (OfPost 107 w) := by
  have hfin : OfPost 107 w = fun e w' => e = .returned (.tuple #[.agg (opRow 107).cells, .int .i64 0]) ∧ Below w.heap.size w w' := rfl
  rw [hfin]; clear hfin
  go_enter Try.func30, Try.ntmps30
  go_wp2
  exact bodyPost_ret (v := .tuple #[.agg (opRow 107).cells, .int .i64 0]) (by simp [results, Try.results30, go_sem, opRow, opTab, OpR.cells]) rfl ⟨rfl, ((Below.refl _ _).alloc (Nat.le_refl _) _).alloc (by simp) _⟩
theorem rof_117 (w : World) : Calls Try.prog 30 #[.int .i64 117] w (OfPost 117 w) := by
  have hfin : OfPost 117 w = fun e w' => e = .returned (.tuple #[.agg (opRow 117).cells, .int .i64 0]) ∧ Below w.heap.size w w' := rfl
  rw [hfin]; clear hfin
  go_enter Try.func30, Try.ntmps30
  go_wp2
  exact bodyPost_ret (v := .tuple #[.agg (opRow 117).cells, .int .i64 0]) (by simp [results, Try.results30, go_sem, opRow, opTab, OpR.cells]) rfl ⟨rfl, ((Below.refl _ _).alloc (Nat.le_refl _) _).alloc (by simp) _⟩
theorem rof_122 (w : World) : Calls Try.prog 30 #[.int .i64 122] w (OfPost 122 w) := by
  have hfin : OfPost 122 w = fun e w' => e = .returned (.tuple #[.agg (opRow 122).cells, .int .i64 0]) ∧ Below w.heap.size w w' := rfl
  rw [hfin]; clear hfin
  go_enter Try.func30, Try.ntmps30
  go_wp2
  exact bodyPost_ret (v := .tuple #[.agg (opRow 122).cells, .int .i64 0]) (by simp [results, Try.results30, go_sem, opRow, opTab, OpR.cells]) rfl ⟨rfl, ((Below.refl _ _).alloc (Nat.le_refl _) _).alloc (by simp) _⟩
theorem rof_159 (w : World) : Calls Try.prog 30 #[.int .i64 159] w (OfPost 159 w) := by
  have hfin : OfPost 159 w = fun e w' => e = .returned (.tuple #[.agg (opRow 159).cells, .int .i64 0]) ∧ Below w.heap.size w w' := rfl
  rw [hfin]; clear hfin
  go_enter Try.func30, Try.ntmps30
  go_wp2
  exact bodyPost_ret (v := .tuple #[.agg (opRow 159).cells, .int .i64 0]) (by simp [results, Try.results30, go_sem, opRow, opTab, OpR.cells]) rfl ⟨rfl, ((Below.refl _ _).alloc (Nat.le_refl _) _).alloc (by simp) _⟩
theorem rof_235 (w : World) : Calls Try.prog 30 #[.int .i64 235] w (OfPost 235 w) := by
  have hfin : OfPost 235 w = fun e w' => e = .returned (.tuple #[.agg (opRow 235).cells, .int .i64 0]) ∧ Below w.heap.size w w' := rfl
  rw [hfin]; clear hfin
  go_enter Try.func30, Try.ntmps30
  go_wp2
  exact bodyPost_ret (v := .tuple #[.agg (opRow 235).cells, .int .i64 0]) (by simp [results, Try.results30, go_sem, opRow, opTab, OpR.cells]) rfl ⟨rfl, ((Below.refl _ _).alloc (Nat.le_refl _) _).alloc (by simp) _⟩
set_option maxHeartbeats 1000000 in
theorem rof_none (b : Int) (w : World) (h : ∀ k ∈ opBytes, b ≠ k) : Calls Try.prog 30 #[.int .i64 b] w (OfPost b w) := by
  have hn := opTab_none b h
  have hr : opRow b = OpR.zero := by simp [opRow, hn]
  have he : opErr b = 400 := by simp [opErr, hn]
  have hfin : OfPost b w = fun e w' => e = .returned (.tuple #[.agg OpR.zero.cells, .int .i64 400]) ∧ Below w.heap.size w w' := by
    funext e w'; simp only [OfPost, hr, he]
  rw [hfin]
  clear hfin hr he hn
  simp only [opBytes, List.mem_cons, List.not_mem_nil, or_false, forall_eq_or_imp, forall_eq, ne_eq] at h
  obtain ⟨h1, h2, h3, h4, h5, h6, h7, h8, h9, h10, h11, h12, h13, h14⟩ := h
  have g1 : (b == 1) = false := beq_eq_false_iff_ne.2 h1
  have g2 : (b == 2) = false := beq_eq_false_iff_ne.2 h2
  have g3 : (b == 3) = false := beq_eq_false_iff_ne.2 h3
  have g4 : (b == 4) = false := beq_eq_false_iff_ne.2 h4
  have g5 : (b == 5) = false := beq_eq_false_iff_ne.2 h5
  have g6 : (b == 6) = false := beq_eq_false_iff_ne.2 h6
  have g7 : (b == 32) = false := beq_eq_false_iff_ne.2 h7
  have g8 : (b == 53) = false := beq_eq_false_iff_ne.2 h8
  have g9 : (b == 90) = false := beq_eq_false_iff_ne.2 h9
  have g10 : (b == 107) = false := beq_eq_false_iff_ne.2 h10
  have g11 : (b == 117) = false := beq_eq_false_iff_ne.2 h11
  have g12 : (b == 122) = false := beq_eq_false_iff_ne.2 h12
  have g13 : (b == 159) = false := beq_eq_false_iff_ne.2 h13
  have g14 : (b == 235) = false := beq_eq_false_iff_ne.2 h14
  clear h1 h2 h3 h4 h5 h6 h7 h8 h9 h10 h11 h12 h13 h14
  go_enter Try.func30, Try.ntmps30
  go_wp2
  exact bodyPost_ret (v := .tuple #[.agg OpR.zero.cells, .int .i64 400]) (by simp [results, Try.results30, go_sem, OpR.zero, OpR.cells]) rfl ⟨rfl, ((Below.refl _ _).alloc (Nat.le_refl _) _).alloc (by simp) _⟩

theorem rof_calls (b : Int) (w : World) : Calls Try.prog 30 #[.int .i64 b] w (OfPost b w) := by
  by_cases h : ∀ k ∈ opBytes, b ≠ k
  · exact rof_none b w h
  · simp only [opBytes, List.mem_cons, List.not_mem_nil, or_false, forall_eq_or_imp, forall_eq, ne_eq] at h
    by_cases h1 : b = 1; · subst h1; exact rof_1 w
    by_cases h2 : b = 2; · subst h2; exact rof_2 w
    by_cases h3 : b = 3; · subst h3; exact rof_3 w
    by_cases h4 : b = 4; · subst h4; exact rof_4 w
    by_cases h5 : b = 5; · subst h5; exact rof_5 w
    by_cases h6 : b = 6; · subst h6; exact rof_6 w
    by_cases h7 : b = 32; · subst h7; exact rof_32 w
    by_cases h8 : b = 53; · subst h8; exact rof_53 w
    by_cases h9 : b = 90; · subst h9; exact rof_90 w
    by_cases h10 : b = 107; · subst h10; exact rof_107 w
    by_cases h11 : b = 117; · subst h11; exact rof_117 w
    by_cases h12 : b = 122; · subst h12; exact rof_122 w
    by_cases h13 : b = 159; · subst h13; exact rof_159 w
    by_cases h14 : b = 235; · subst h14; exact rof_235 w
    exact absurd ⟨h1, h2, h3, h4, h5, h6, h7, h8, h9, h10, h11, h12, h13, h14⟩ h

/-- The block that both lists of bytes come in. -/
def opObj : Obj := .cells #[.int .i64 1, .int .i64 2, .int .i64 3, .int .i64 4, .int .i64 5, .int .i64 6, .int .i64 32, .int .i64 53, .int .i64 90, .int .i64 107, .int .i64 117, .int .i64 122, .int .i64 159, .int .i64 235] 3

/-- A slice of the fourteen bytes in a new block; nothing else. -/
def AllPost (w : World) (e : Ending) (w' : World) : Prop := ∃ b, e = .returned (.slice (some ⟨b, 0, none⟩) 14 14) ∧ Below w.heap.size w w' ∧ w.heap.size ≤ b ∧ b < w'.heap.size ∧ w'.heap[b]? = some opObj

theorem all_calls (w : World) : Calls Try.prog 31 #[] w (AllPost w) := by
  go_enter Try.func31, Try.ntmps31
  go_wp2
  go_ret
  exact ⟨w.heap.size, rfl, (Below.refl _ _).alloc (Nat.le_refl _) _, Nat.le_refl _, by simp, new_block _ _⟩
theorem rall_calls (w : World) : Calls Try.prog 33 #[] w (AllPost w) := by
  go_enter Try.func33, Try.ntmps33
  go_wp2
  go_ret
  exact ⟨w.heap.size, rfl, (Below.refl _ _).alloc (Nat.le_refl _) _, Nat.le_refl _, by simp, new_block _ _⟩

theorem opObj_ints {w : World} {b : Nat} (h : w.heap[b]? = some opObj) : IntsAt w (some ⟨b, 0, none⟩) opBytes := by
  refine IntsAt.of fun i hi => ?_
  have hi' : i < 14 := hi
  simp only [World.cell?, h, opObj]
  match i, hi' with
  | 0, _ | 1, _ | 2, _ | 3, _ | 4, _ | 5, _ | 6, _ | 7, _ | 8, _ | 9, _ | 10, _ | 11, _ | 12, _ | 13, _ => rfl

/-- It writes into block b alone. -/
def SpoilPost (b : Nat) (w : World) (e : Ending) (w' : World) : Prop := e = .returned (.tuple #[]) ∧ Below b w w'

set_option maxHeartbeats 800000 in
theorem spoil_calls (b off n c : Nat) (w : World) (hn : n ≤ 9223372036854775807) (hb : b < w.heap.size)
    (hc : ∀ i, i < n → ∃ x, w.cell? ⟨b, off + i, none⟩ = some (.int .i64 x)) (hf : ∀ i, i < n → w.frozen? ⟨b, off + i, none⟩ = false) :
    Calls Try.prog 34 #[.slice (some ⟨b, off, none⟩) n c] w (SpoilPost b w) := by
  go_enter Try.func34, Try.ntmps34
  go_wp2
  go_loopw [2] (fun i wr => ∃ k : Nat, k ≤ n ∧ i = .int .i64 k ∧ Below b w wr ∧ (∀ i, i < n → ∃ x, wr.cell? ⟨b, off + i, none⟩ = some (.int .i64 x)) ∧ (∀ i, i < n → wr.frozen? ⟨b, off + i, none⟩ = false)) (fun i _ => n - (intOf i).toNat)
  case atStart => exact ⟨0, Nat.zero_le _, rfl, Below.refl _ _, hc, hf⟩
  case round =>
    obtain ⟨k, hk, rfl, hbel, hcr, hfr⟩ := hrel
    have HC := Lib.hid hcr
    have HF := Lib.hid hfr
    clear hcr hfr hc hf
    by_cases hlt : k < n
    · obtain ⟨x, hx⟩ := HC.out k hlt
      have hz := HF.out k hlt
      have hlt' : (k : Int) < (n : Int) := by omega
      go_wp2
      go_roundw
      case rel => exact ⟨k + 1, by omega, by go_num, hbel.setCell (Nat.le_refl _) _, fun i hi => by
        by_cases hik : i = k
        · subst hik; exact ⟨_, World.cell?_setCell_same _ _ _ hx⟩
        · obtain ⟨y, hy⟩ := HC.out i hi
          exact ⟨y, (World.cell?_setCell_other _ _ _ _ (by simp; first | done | omega)).trans hy⟩, fun i hi => (World.frozen?_setCell _ _ _ _).trans (HF.out i hi)⟩
      case measure => simp [intOf]; omega
    · obtain rfl : k = n := by omega
      go_wp2
      go_end0
      exact ⟨rfl, hbel⟩
end Go.Proofs.Ythlcnccniliigaa

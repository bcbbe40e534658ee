/- The contracts of the layer 'op': Of gives the table's row (opTab), All gives the commands' bytes; new memory at most. No conditions. -/
import Derived.Test.YthlcnccniliigaaBase
import Derived.WalkKit
import Derived.ProofKit
namespace Go.Proofs.Ythlcnccniliigaa
open Go.RowKit

/-- A command's row: its byte, address lanes, mode bits, dummy clocks, data lanes, in. -/
structure OpR where
  byte : Int
  addr : Int
  mode : Bool
  dummy : Int
  data : Int
  inn : Bool
  deriving DecidableEq

def OpR.cells (r : OpR) : Array Value := #[.int .i64 r.byte, .int .i64 r.addr, .bool r.mode, .int .i64 r.dummy, .int .i64 r.data, .bool r.inn]
def OpR.zero : OpR := ⟨0, 0, false, 0, 0, false⟩

def opTab (b : Int) : Option OpR :=
  if b = 1 then some ⟨1, 0, false, 0, 1, true⟩ else
  if b = 2 then some ⟨2, 1, false, 0, 1, true⟩ else
  if b = 3 then some ⟨3, 1, false, 0, 1, false⟩ else
  if b = 4 then some ⟨4, 0, false, 0, 0, false⟩ else
  if b = 5 then some ⟨5, 0, false, 0, 1, false⟩ else
  if b = 6 then some ⟨6, 0, false, 0, 0, false⟩ else
  if b = 32 then some ⟨32, 1, false, 0, 0, false⟩ else
  if b = 53 then some ⟨53, 0, false, 0, 1, false⟩ else
  if b = 90 then some ⟨90, 1, false, 8, 1, false⟩ else
  if b = 107 then some ⟨107, 1, false, 8, 4, false⟩ else
  if b = 117 then some ⟨117, 0, false, 0, 0, false⟩ else
  if b = 122 then some ⟨122, 0, false, 0, 0, false⟩ else
  if b = 159 then some ⟨159, 0, false, 0, 1, false⟩ else
  if b = 235 then some ⟨235, 4, true, 4, 4, false⟩ else none

def opRow (b : Int) : OpR := (opTab b).getD OpR.zero
def opErr (b : Int) : Int := if (opTab b).isSome then 0 else 400
def opBytes : List Int := [1, 2, 3, 4, 5, 6, 32, 53, 90, 107, 117, 122, 159, 235]

theorem opTab_none (b : Int) (h : ∀ k ∈ opBytes, b ≠ k) : opTab b = none := by
  simp only [opBytes, List.mem_cons, List.not_mem_nil, or_false, forall_eq_or_imp, forall_eq, ne_eq] at h
  obtain ⟨h1, h2, h3, h4, h5, h6, h7, h8, h9, h10, h11, h12, h13, h14⟩ := h
  simp only [opTab, h1, h2, h3, h4, h5, h6, h7, h8, h9, h10, h11, h12, h13, h14, if_false]

/-- What the call of Of comes to. -/
def OfPost (b : Int) (w : World) (e : Ending) (w' : World) : Prop :=
  e = .returned (.tuple #[.agg (opRow b).cells, .int .i64 (opErr b)]) ∧ Below w.heap.size w w'

theorem of_1 (w : World) : Calls Try.prog 29 #[.int .i64 1] w (OfPost 1 w) := by
  have hfin : OfPost 1 w = fun e w' => e = .returned (.tuple #[.agg (opRow 1).cells, .int .i64 0]) ∧ Below w.heap.size w w' := rfl
  rw [hfin]; clear hfin
  go_enter Try.func29, Try.ntmps29
  go_wp2
  exact bodyPost_ret (v := .tuple #[.agg (opRow 1).cells, .int .i64 0]) (by simp [results, Try.results29, go_sem, opRow, opTab, OpR.cells]) rfl ⟨rfl, ((Below.refl _ _).alloc (Nat.le_refl _) _).alloc (by simp) _⟩
theorem of_2 (w : World) : Calls Try.prog 29 #[.int .i64 2] w (OfPost 2 w) := by
  have hfin : OfPost 2 w = fun e w' => e = .returned (.tuple #[.agg (opRow 2).cells, .int .i64 0]) ∧ Below w.heap.size w w' := rfl
  rw [hfin]; clear hfin
  go_enter Try.func29, Try.ntmps29
  go_wp2
  exact bodyPost_ret (v := .tuple #[.agg (opRow 2).cells, .int .i64 0]) (by simp [results, Try.results29, go_sem, opRow, opTab, OpR.cells]) rfl ⟨rfl, ((Below.refl _ _).alloc (Nat.le_refl _) _).alloc (by simp) _⟩
theorem of_3 (w : World) : Calls Try.prog 29 #[.int .i64 3] w (OfPost 3 w) := by
  have hfin : OfPost 3 w = fun e w' => e = .returned (.tuple #[.agg (opRow 3).cells, .int .i64 0]) ∧ Below w.heap.size w w' := rfl
  rw [hfin]; clear hfin
  go_enter Try.func29, Try.ntmps29
  go_wp2
  exact bodyPost_ret (v := .tuple #[.agg (opRow 3).cells, .int .i64 0]) (by simp [results, Try.results29, go_sem, opRow, opTab, OpR.cells]) rfl ⟨rfl, ((Below.refl _ _).alloc (Nat.le_refl _) _).alloc (by simp) _⟩
theorem of_4 (w : World) : Calls Try.prog 29 #[.int .i64 4] w (OfPost 4 w) := by
  have hfin : OfPost 4 w = fun e w' => e = .returned (.tuple #[.agg (opRow 4).cells, .int .i64 0]) ∧ Below w.heap.size w w' := rfl
  rw [hfin]; clear hfin
  go_enter Try.func29, Try.ntmps29
  go_wp2
  exact bodyPost_ret (v := .tuple #[.agg (opRow 4).cells, .int .i64 0]) (by simp [results, Try.results29, go_sem, opRow, opTab, OpR.cells]) rfl ⟨rfl, ((Below.refl _ _).alloc (Nat.le_refl _) _).alloc (by simp) _⟩
theorem of_5 (w : World) : Calls Try.prog 29 #[.int .i64 5] w (OfPost 5 w) := by
  have hfin : OfPost 5 w = fun e w' => e = .returned (.tuple #[.agg (opRow 5).cells, .int .i64 0]) ∧ Below w.heap.size w w' := rfl
  rw [hfin]; clear hfin
  go_enter Try.func29, Try.ntmps29
  go_wp2
  exact bodyPost_ret (v := .tuple #[.agg (opRow 5).cells, .int .i64 0]) (by simp [results, Try.results29, go_sem, opRow, opTab, OpR.cells]) rfl ⟨rfl, ((Below.refl _ _).alloc (Nat.le_refl _) _).alloc (by simp) _⟩
theorem of_6 (w : World) : Calls Try.prog 29 #[.int .i64 6] w (OfPost 6 w) := by
  have hfin : OfPost 6 w = fun e w' => e = .returned (.tuple #[.agg (opRow 6).cells, .int .i64 0]) ∧ Below w.heap.size w w' := rfl
  rw [hfin]; clear hfin
  go_enter Try.func29, Try.ntmps29
  go_wp2
  exact bodyPost_ret (v := .tuple #[.agg (opRow 6).cells, .int .i64 0]) (by simp [results, Try.results29, go_sem, opRow, opTab, OpR.cells]) rfl ⟨rfl, ((Below.refl _ _).alloc (Nat.le_refl _) _).alloc (by simp) _⟩
theorem of_32 (w : World) : Calls Try.prog 29 #[.int .i64 32] w (OfPost 32 w) := by
  have hfin : OfPost 32 w = fun e w' => e = .returned (.tuple #[.agg (opRow 32).cells, .int .i64 0]) ∧ Below w.heap.size w w' := rfl
  rw [hfin]; clear hfin
  go_enter Try.func29, Try.ntmps29
  go_wp2
  exact bodyPost_ret (v := .tuple #[.agg (opRow 32).cells, .int .i64 0]) (by simp [results, Try.results29, go_sem, opRow, opTab, OpR.cells]) rfl ⟨rfl, ((Below.refl _ _).alloc (Nat.le_refl _) _).alloc (by simp) _⟩
theorem of_53 (w : World) : Calls Try.prog 29 #[.int .i64 53] w (OfPost 53 w) := by
  have hfin : OfPost 53 w = fun e w' => e = .returned (.tuple #[.agg (opRow 53).cells, .int .i64 0]) ∧ Below w.heap.size w w' := rfl
  rw [hfin]; clear hfin
  go_enter Try.func29, Try.ntmps29
  go_wp2
  exact bodyPost_ret (v := .tuple #[.agg (opRow 53).cells, .int .i64 0]) (by simp [results, Try.results29, go_sem, opRow, opTab, OpR.cells]) rfl ⟨rfl, ((Below.refl _ _).alloc (Nat.le_refl _) _).alloc (by simp) _⟩
theorem of_90 (w : World) : Calls Try.prog 29 #[.int .i64 90] w (OfPost 90 w) := by
  have hfin : OfPost 90 w = fun e w' => e = .returned (.tuple #[.agg (opRow 90).cells, .int .i64 0]) ∧ Below w.heap.size w w' := rfl
  rw [hfin]; clear hfin
  go_enter Try.func29, Try.ntmps29
  go_wp2
  exact bodyPost_ret (v := .tuple #[.agg (opRow 90).cells, .int .i64 0]) (by simp [results, Try.results29, go_sem, opRow, opTab, OpR.cells]) rfl ⟨rfl, ((Below.refl _ _).alloc (Nat.le_refl _) _).alloc (by simp) _⟩
theorem of_107 (w : World) : Calls Try.prog 29 #[.int .i64 107] w (OfPost 107 w) := by
  have hfin : OfPost 107 w = fun e w' => e = .returned (.tuple #[.agg (opRow 107).cells, .int .i64 0]) ∧ Below w.heap.size w w' := rfl
  rw [hfin]; clear hfin
  go_enter Try.func29, Try.ntmps29
  go_wp2
  exact bodyPost_ret (v := .tuple #[.agg (opRow 107).cells, .int .i64 0]) (by simp [results, Try.results29, go_sem, opRow, opTab, OpR.cells]) rfl ⟨rfl, ((Below.refl _ _).alloc (Nat.le_refl _) _).alloc (by simp) _⟩
theorem of_117 (w : World) : Calls Try.prog 29 #[.int .i64 117] w (OfPost 117 w) := by
  have hfin : OfPost 117 w = fun e w' => e = .returned (.tuple #[.agg (opRow 117).cells, .int .i64 0]) ∧ Below w.heap.size w w' := rfl
  rw [hfin]; clear hfin
  go_enter Try.func29, Try.ntmps29
  go_wp2
  exact bodyPost_ret (v := .tuple #[.agg (opRow 117).cells, .int .i64 0]) (by simp [results, Try.results29, go_sem, opRow, opTab, OpR.cells]) rfl ⟨rfl, ((Below.refl _ _).alloc (Nat.le_refl _) _).alloc (by simp) _⟩
theorem of_122 (w : World) : Calls Try.prog 29 #[.int .i64 122] w (OfPost 122 w) := by
  have hfin : OfPost 122 w = fun e w' => e = .returned (.tuple #[.agg (opRow 122).cells, .int .i64 0]) ∧ Below w.heap.size w w' := rfl
  rw [hfin]; clear hfin
  go_enter Try.func29, Try.ntmps29
  go_wp2
  exact bodyPost_ret (v := .tuple #[.agg (opRow 122).cells, .int .i64 0]) (by simp [results, Try.results29, go_sem, opRow, opTab, OpR.cells]) rfl ⟨rfl, ((Below.refl _ _).alloc (Nat.le_refl _) _).alloc (by simp) _⟩
theorem of_159 (w : World) : Calls Try.prog 29 #[.int .i64 159] w (OfPost 159 w) := by
  have hfin : OfPost 159 w = fun e w' => e = .returned (.tuple #[.agg (opRow 159).cells, .int .i64 0]) ∧ Below w.heap.size w w' := rfl
  rw [hfin]; clear hfin
  go_enter Try.func29, Try.ntmps29
  go_wp2
  exact bodyPost_ret (v := .tuple #[.agg (opRow 159).cells, .int .i64 0]) (by simp [results, Try.results29, go_sem, opRow, opTab, OpR.cells]) rfl ⟨rfl, ((Below.refl _ _).alloc (Nat.le_refl _) _).alloc (by simp) _⟩
theorem of_235 (w : World) : Calls Try.prog 29 #[.int .i64 235] w (OfPost 235 w) := by
  have hfin : OfPost 235 w = fun e w' => e = .returned (.tuple #[.agg (opRow 235).cells, .int .i64 0]) ∧ Below w.heap.size w w' := rfl
  rw [hfin]; clear hfin
  go_enter Try.func29, Try.ntmps29
  go_wp2
  exact bodyPost_ret (v := .tuple #[.agg (opRow 235).cells, .int .i64 0]) (by simp [results, Try.results29, go_sem, opRow, opTab, OpR.cells]) rfl ⟨rfl, ((Below.refl _ _).alloc (Nat.le_refl _) _).alloc (by simp) _⟩
set_option maxHeartbeats 1000000 in
theorem of_none (b : Int) (w : World) (h : ∀ k ∈ opBytes, b ≠ k) : Calls Try.prog 29 #[.int .i64 b] w (OfPost b w) := by
  have hn := opTab_none b h
  have hr : opRow b = OpR.zero := by simp [opRow, hn]
  have he : opErr b = 400 := by simp [opErr, hn]
  have hfin : OfPost b w = fun e w' => e = .returned (.tuple #[.agg OpR.zero.cells, .int .i64 400]) ∧ Below w.heap.size w w' := by
    funext e w'; simp only [OfPost, hr, he]
  rw [hfin]
  clear hfin hr he hn
  simp only [opBytes, List.mem_cons, List.not_mem_nil, or_false, forall_eq_or_imp, forall_eq, ne_eq] at h
  obtain ⟨h1, h2, h3, h4, h5, h6, h7, h8, h9, h10, h11, h12, h13, h14⟩ := h
  have g1 : (b == 1) = false := beq_eq_false_iff_ne.2 h1
  have g2 : (b == 2) = false := beq_eq_false_iff_ne.2 h2
  have g3 : (b == 3) = false := beq_eq_false_iff_ne.2 h3
  have g4 : (b == 4) = false := beq_eq_false_iff_ne.2 h4
  have g5 : (b == 5) = false := beq_eq_false_iff_ne.2 h5
  have g6 : (b == 6) = false := beq_eq_false_iff_ne.2 h6
  have g7 : (b == 32) = false := beq_eq_false_iff_ne.2 h7
  have g8 : (b == 53) = false := beq_eq_false_iff_ne.2 h8
  have g9 : (b == 90) = false := beq_eq_false_iff_ne.2 h9
  have g10 : (b == 107) = false := beq_eq_false_iff_ne.2 h10
  have g11 : (b == 117) = false := beq_eq_false_iff_ne.2 h11
  have g12 : (b == 122) = false := beq_eq_false_iff_ne.2 h12
  have g13 : (b == 159) = false := beq_eq_false_iff_ne.2 h13
  have g14 : (b == 235) = false := beq_eq_false_iff_ne.2 h14
  clear h1 h2 h3 h4 h5 h6 h7 h8 h9 h10 h11 h12 h13 h14
  go_enter Try.func29, Try.ntmps29
  go_wp2
  exact bodyPost_ret (v := .tuple #[.agg OpR.zero.cells, .int .i64 400]) (by simp [results, Try.results29, go_sem, OpR.zero, OpR.cells]) rfl ⟨rfl, ((Below.refl _ _).alloc (Nat.le_refl _) _).alloc (by simp) _⟩

theorem of_calls (b : Int) (w : World) : Calls Try.prog 29 #[.int .i64 b] w (OfPost b w) := by
  by_cases h : ∀ k ∈ opBytes, b ≠ k
  · exact of_none b w h
  · simp only [opBytes, List.mem_cons, List.not_mem_nil, or_false, forall_eq_or_imp, forall_eq, ne_eq] at h
    by_cases h1 : b = 1; · subst h1; exact of_1 w
    by_cases h2 : b = 2; · subst h2; exact of_2 w
    by_cases h3 : b = 3; · subst h3; exact of_3 w
    by_cases h4 : b = 4; · subst h4; exact of_4 w
    by_cases h5 : b = 5; · subst h5; exact of_5 w
    by_cases h6 : b = 6; · subst h6; exact of_6 w
    by_cases h7 : b = 32; · subst h7; exact of_32 w
    by_cases h8 : b = 53; · subst h8; exact of_53 w
    by_cases h9 : b = 90; · subst h9; exact of_90 w
    by_cases h10 : b = 107; · subst h10; exact of_107 w
    by_cases h11 : b = 117; · subst h11; exact of_117 w
    by_cases h12 : b = 122; · subst h12; exact of_122 w
    by_cases h13 : b = 159; · subst h13; exact of_159 w
    by_cases h14 : b = 235; · subst h14; exact of_235 w
    exact absurd ⟨h1, h2, h3, h4, h5, h6, h7, h8, h9, h10, h11, h12, h13, h14⟩ h
end Go.Proofs.Ythlcnccniliigaa

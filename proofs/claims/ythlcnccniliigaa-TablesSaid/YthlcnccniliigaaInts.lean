/- SameInts tells whether two slices read as one list of ints; it writes nothing. Conditions: the slices read as the lists; lengths within an int. -/
import Derived.Test.YthlcnccniliigaaBase
import Derived.WalkKit
import Derived.ProofKit
import Derived.Deep.QuietTactic
import Derived.BigQuiet
import Derived.Lib.Hide
namespace Go.Proofs.Ythlcnccniliigaa
open Go.RowKit

/-- The slice that begins at a reads as the ints xs (nothing is said of nil where xs is empty). -/
def IntsAt (w : World) (a : Option Addr) (xs : List Int) : Prop :=
  ∀ i, i < xs.length → ∃ b off, a = some ⟨b, off, none⟩ ∧ w.cell? ⟨b, off + i, none⟩ = some (.int .i64 (xs.getD i 0))

theorem IntsAt.at {w : World} {a : Option Addr} {xs : List Int} (h : IntsAt w a xs) (hp : 0 < xs.length) :
    ∃ b off, a = some ⟨b, off, none⟩ ∧ ∀ i, i < xs.length → w.cell? ⟨b, off + i, none⟩ = some (.int .i64 (xs.getD i 0)) := by
  obtain ⟨b, off, ha, _⟩ := h 0 hp
  refine ⟨b, off, ha, fun i hi => ?_⟩
  obtain ⟨b', off', ha', hc⟩ := h i hi
  rw [ha] at ha'
  obtain ⟨rfl, rfl⟩ : b = b' ∧ off = off' := by simpa using ha'
  exact hc

theorem IntsAt.of {w : World} {b off : Nat} {xs : List Int} (h : ∀ i, i < xs.length → w.cell? ⟨b, off + i, none⟩ = some (.int .i64 (xs.getD i 0))) :
    IntsAt w (some ⟨b, off, none⟩) xs := fun i hi => ⟨b, off, rfl, h i hi⟩
theorem IntsAt.nil (w : World) (a : Option Addr) : IntsAt w a [] := fun i hi => by simp at hi

theorem same_get (xs ys : List Int) (hl : xs.length = ys.length) (h : ∀ j, j < xs.length → xs.getD j 0 = ys.getD j 0) : xs = ys := by
  refine List.ext_getElem hl fun i h1 h2 => ?_
  have := h i h1
  simpa [List.getD, List.getElem?_eq_getElem h1, List.getElem?_eq_getElem h2] using this

/-- The function's post: b; only draws. -/
def BoolDrew (b : Bool) (w : World) (e : Ending) (w' : World) : Prop := e = .returned (.bool b) ∧ ∃ n, w' = w.drewN n

theorem sameInts_len (a1 a2 : Option Addr) (c1 c2 : Nat) (xs ys : List Int) (w : World) (hl : xs.length ≠ ys.length) :
    Calls Try.prog 32 #[.slice a1 xs.length c1, .slice a2 ys.length c2] w (BoolDrew false w) := by
  have g : ((xs.length : Int) != (ys.length : Int)) = true := by simp; omega
  clear hl
  go_enter Try.func32, Try.ntmps32
  go_wp2
  go_ret
  exact ⟨rfl, 0, rfl⟩

set_option maxHeartbeats 800000 in
theorem sameInts_calls (a1 a2 : Option Addr) (c1 c2 : Nat) (xs ys : List Int) (w : World) (h1 : IntsAt w a1 xs) (h2 : IntsAt w a2 ys) (hm : xs.length ≤ 9223372036854775807) :
    Calls Try.prog 32 #[.slice a1 xs.length c1, .slice a2 ys.length c2] w (BoolDrew (decide (xs = ys)) w) := by
  by_cases hl : xs.length = ys.length
  case neg =>
    have e : decide (xs = ys) = false := by simp; intro h; exact hl (by rw [h])
    rw [e]; exact sameInts_len a1 a2 c1 c2 xs ys w hl
  rw [← hl]
  have HL := Lib.hid hl
  clear hl
  go_enter Try.func32, Try.ntmps32
  go_wp2
  go_loopw [5] (fun i wr => ∃ k n : Nat, k ≤ xs.length ∧ i = .int .i64 k ∧ wr = w.drewN n ∧ ∀ j, j < k → xs.getD j 0 = ys.getD j 0) (fun i _ => xs.length - (intOf i).toNat)
  case atStart => exact ⟨0, 0, Nat.zero_le _, rfl, rfl, fun j hj => by omega⟩
  case round =>
    obtain ⟨k, n, hk, rfl, rfl, hsame⟩ := hrel
    have HS := Lib.hid hsame
    clear hsame
    by_cases hlt : k < xs.length
    · obtain ⟨b1, o1, rfl, g1⟩ := h1.at (by omega)
      obtain ⟨b2, o2, rfl, g2⟩ := h2.at (by rw [← HL.out]; omega)
      have q1 := g1 k hlt
      have q2 := g2 k (by rw [← HL.out]; omega)
      have hlt' : (k : Int) < (xs.length : Int) := by omega
      clear g1 g2 h1 h2
      by_cases he : xs.getD k 0 = ys.getD k 0
      · have he' : (xs.getD k 0 != ys.getD k 0) = false := by rw [bne_eq_false_iff_eq]; exact he
        have HE := Lib.hid he
        clear he
        generalize hx : xs.getD k 0 = x at *
        generalize hy : ys.getD k 0 = y at *
        have HX := Lib.hid hx
        have HY := Lib.hid hy
        clear hx hy
        go_wp2_with fail
        go_quiet (fail)
        go_wp2
        go_roundw
        case rel => exact ⟨k + 1, n + nq, by omega, by go_num, by simp, fun j hj => by
          by_cases hjk : j < k
          · exact HS.out j hjk
          · obtain rfl : j = k := by omega
            rw [HX.out, HY.out, HE.out]⟩
        case measure => simp [intOf]; omega
      · have he' : (xs.getD k 0 != ys.getD k 0) = true := bne_iff_ne.2 he
        have hf : decide (xs = ys) = false := by simp; intro h; exact he (by rw [h])
        have HF := Lib.hid hf
        clear hf he
        generalize hx : xs.getD k 0 = x at *
        generalize hy : ys.getD k 0 = y at *
        clear hx hy
        go_wp2_with fail
        go_quiet (fail)
        go_wp2
        go_ret
        exact ⟨by rw [HF.out]; rfl, n + nq, by simp⟩
    · obtain rfl : k = xs.length := by omega
      have hf : decide (xs = ys) = true := by simp; exact same_get xs ys HL.out HS.out
      have HF := Lib.hid hf
      clear hf
      go_wp2
      go_ret
      exact ⟨by rw [HF.out]; rfl, n, rfl⟩
end Go.Proofs.Ythlcnccniliigaa

/- Plain arithmetic: '&' on ints with a mask of low bits is the remainder; no Go. Conditions stand with each lemma. -/
import Derived.Test.YthlcnccniliigaaChecked
import Derived.WalkKit
namespace Go.Proofs.Ythlcnccniliigaa
open Go.RowKit

theorem wrap_i64_in {n : Int} (h : -9223372036854775808 ≤ n) (h' : n ≤ 9223372036854775807) : IntKind.i64.wrap n = n := by
  rw [IntKind.wrap_i64]; omega

theorem and_mask_nat (x : Int) (j : Nat) (hj : j ≤ 62) : bits .and .i64 x ((2 ^ j - 1 : Nat) : Int) = x % (2 ^ j : Nat) := by
  have hp : (2 : Nat) ^ j ≤ 2 ^ 62 := Nat.pow_le_pow_right (by omega) hj
  have hp0 : 0 < (2 : Nat) ^ j := Nat.pow_pos (by omega)
  have e : (BitVec.ofInt 64 x &&& BitVec.ofInt 64 ((2 ^ j - 1 : Nat) : Int)).toNat = (x % (2 ^ j : Nat)).toNat := by
    rw [BitVec.toNat_and, BitVec.toNat_ofInt, BitVec.toNat_ofInt]
    have e1 : (((2 ^ j - 1 : Nat) : Int) % ((2 ^ 64 : Nat) : Int)).toNat = 2 ^ j - 1 := by
      rw [Int.emod_eq_of_lt (by omega) (by have : (2:Nat)^62 < 2^64 := by decide
                                           omega)]
      simp
    rw [e1, Nat.and_two_pow_sub_one_eq_mod]
    have h0 : 0 ≤ x % ((2 ^ 64 : Nat) : Int) := Int.emod_nonneg _ (by decide)
    have hdvd : ((2 ^ j : Nat) : Int) ∣ ((2 ^ 64 : Nat) : Int) := by
      refine Int.natCast_dvd_natCast.2 (Nat.pow_dvd_pow 2 (by omega))
    have e2 : x % ((2 ^ j : Nat) : Int) = (x % ((2 ^ 64 : Nat) : Int)) % ((2 ^ j : Nat) : Int) := (Int.emod_emod_of_dvd x hdvd).symm
    rw [e2]
    generalize hy : x % ((2 ^ 64 : Nat) : Int) = y at *
    obtain ⟨k, rfl⟩ := Int.eq_ofNat_of_zero_le h0
    rw [← Int.natCast_emod, Int.toNat_natCast, Int.toNat_natCast]
  have hr0 : 0 ≤ x % ((2 ^ j : Nat) : Int) := Int.emod_nonneg _ (by omega)
  have hr1 : x % ((2 ^ j : Nat) : Int) < ((2 ^ j : Nat) : Int) := Int.emod_lt_of_pos _ (by omega)
  show IntKind.i64.wrap ((BitVec.ofInt 64 x &&& BitVec.ofInt 64 ((2 ^ j - 1 : Nat) : Int)).toNat : Int) = _
  rw [e, Int.toNat_of_nonneg hr0]
  have : (2 : Nat) ^ 62 = 4611686018427387904 := by decide
  exact wrap_i64_in (by omega) (by omega)

theorem and1 (x : Int) : bits .and .i64 x 1 = x % 2 := and_mask_nat x 1 (by omega)
theorem and3 (x : Int) : bits .and .i64 x 3 = x % 4 := and_mask_nat x 2 (by omega)
theorem and15 (x : Int) : bits .and .i64 x 15 = x % 16 := and_mask_nat x 4 (by omega)
theorem and1023 (x : Int) : bits .and .i64 x 1023 = x % 1024 := and_mask_nat x 10 (by omega)
theorem and255 (x : Int) : bits .and .i64 x 255 = x % 256 := and_mask_nat x 8 (by omega)
theorem and4095 (x : Int) : bits .and .i64 x 4095 = x % 4096 := and_mask_nat x 12 (by omega)
theorem and63 (x : Int) : bits .and .i64 x 63 = x % 64 := and_mask_nat x 6 (by omega)
theorem and2047 (x : Int) : bits .and .i64 x 2047 = x % 2048 := and_mask_nat x 11 (by omega)
theorem and8191 (x : Int) : bits .and .i64 x 8191 = x % 8192 := and_mask_nat x 13 (by omega)
end Go.Proofs.Ythlcnccniliigaa

/- table.Command where a command may not be so: nil and the error. Conditions: the data read as the ints, fewer than 2^44 of them. -/
import Derived.Test.YthlcnccniliigaaCommand
namespace Go.Proofs.Ythlcnccniliigaa
open Go.RowKit
set_option linter.unusedVariables false

set_option maxRecDepth 100000 in
set_option maxHeartbeats 4000000 in
theorem command_no (r : OpR) (i : Int) (a : Option Addr) (c : Nat) (xs : List Int) (read : Int) (w : World) (no : ¬ CmdOk r i xs read) (h1 : IntsAt w a xs) (hm : xs.length ≤ 9223372036854775807) :
    Calls Try.prog 39 #[.agg r.cells, .int .i64 i, .slice a xs.length c, .int .i64 read] w (CmdNo w) := by
  rw [box4 r]
  go_enter Try.func39, Try.ntmps39
  go_wp2_with fail
  refine (of_calls _ _).mono ?_
  rintro e w1 ⟨rfl, hb1⟩
  rw [box4 (opRow r.byte)]
  go_upto_region 3 with (fail)
  generalize hW : w1.alloc _ = w2
  have q2 : Below w.heap.size w w2 := by rw [← hW]; exact galloc (gtr (galloc (Below.refl _ _) _) hb1) _
  have x4 : OpBox w2 w.heap.size r := by
    rw [← hW]; exact OpBox.later ⟨_, _, block_later hb1 (new_block _ _)⟩ (galloc (Below.refl _ _) _)
  have x10 : OpBox w2 w1.heap.size (opRow r.byte) := by rw [← hW]; exact ⟨_, _, new_block _ _⟩
  generalize w1.heap.size = b10 at *
  clear hW hb1 w1
  have h2 : IntsAt w2 a xs := h1.later q2
  clear h1
  obtain ⟨c0, c1, c2, c3, c4, c5⟩ := x4.cell
  obtain ⟨d0, d1, d2, d3, d4, d5⟩ := x10.cell
  by_cases e1 : opErr r.byte = 0
  case neg =>
    have k1 : (opErr r.byte != 0) = true := bne_iff_ne.2 e1
    clear e1 no
    go_wp2_with fail
    go_ret2
    exact ⟨rfl, q2⟩
  have k1 : (opErr r.byte != 0) = false := by rw [bne_eq_false_iff_eq]; exact e1
  have E1 := Lib.hid e1
  clear e1
  clear E1
  have hne : ∀ x y : Int, x ≠ y → (x == y) = false := fun x y h => beq_eq_false_iff_ne.2 h
  have hnb : ∀ x y : Bool, x ≠ y → (x == y) = false := fun x y h => beq_eq_false_iff_ne.2 h
  by_cases e2 : opRow r.byte = r
  case neg =>
    clear no
    generalize opRow r.byte = q at *
    by_cases f_byte : q.byte = r.byte
    case neg =>
      have g := hne _ _ f_byte
      clear e2 hne hnb f_byte 
      go_wp2_with fail
      go_ret2
      exact ⟨rfl, q2⟩
    by_cases f_addr : q.addr = r.addr
    case neg =>
      have g := hne _ _ f_addr
      clear e2 hne hnb f_addr f_byte
      go_wp2_with fail
      go_ret2
      exact ⟨rfl, q2⟩
    by_cases f_mode : q.mode = r.mode
    case neg =>
      have g := hnb _ _ f_mode
      clear e2 hne hnb f_mode f_byte f_addr
      go_wp2_with fail
      go_ret2
      exact ⟨rfl, q2⟩
    by_cases f_dummy : q.dummy = r.dummy
    case neg =>
      have g := hne _ _ f_dummy
      clear e2 hne hnb f_dummy f_byte f_addr f_mode
      go_wp2_with fail
      go_ret2
      exact ⟨rfl, q2⟩
    by_cases f_data : q.data = r.data
    case neg =>
      have g := hne _ _ f_data
      clear e2 hne hnb f_data f_byte f_addr f_mode f_dummy
      go_wp2_with fail
      go_ret2
      exact ⟨rfl, q2⟩
    by_cases f_inn : q.inn = r.inn
    case neg =>
      have g := hnb _ _ f_inn
      clear e2 hne hnb f_inn f_byte f_addr f_mode f_dummy f_data
      go_wp2_with fail
      go_ret2
      exact ⟨rfl, q2⟩
    exact absurd (by cases q; cases r; simp_all : q = r) e2
  rw [e2] at d0 d1 d2 d3 d4 d5 ⊢
  clear hne hnb x10
  by_cases k2 : i < 0
  · clear no e2
    go_wp2_with fail
    go_ret2
    exact ⟨rfl, q2⟩
  by_cases k3 : 4096 ≤ i
  · clear no e2
    go_wp2_with fail
    go_ret2
    exact ⟨rfl, q2⟩
  have hlast : (r.addr = 0 → i = 0) → ¬ (xs.length ≤ 512 ∧ xs.all isByte = true ∧ 0 ≤ read ∧ read ≤ 512 ∧ fitsB r xs.length read = true) := fun h ⟨a1, a2, a3, a4, a5⟩ =>
    no ⟨by simpa using k1, e2, by omega, by omega, h, a1, a2, a3, a4, a5⟩
  have HL := Lib.hid hlast
  clear hlast no e2
  cases ka : (r.addr == 0) with
  | true =>
    cases kz : (i != 0) with
    | true =>
      clear HL
      go_wp2_with fail
      go_ret2
      exact ⟨rfl, q2⟩
    | false =>
      have hl2 := HL.out (fun _ => by simpa using kz)
      clear HL
      by_cases k4 : (512 : Int) < (xs.length : Int)
      · clear hl2
        go_wp2_with fail
        go_ret2
        exact ⟨rfl, q2⟩
      cases kb : xs.all isByte with
      | false =>
        have HA : Hid (xs.any (fun b => !isByte b) = true) := Lib.hid (by rw [allBytes_not, kb]; rfl)
        clear hl2 kb
        go_wp2_with (first | (go_at_call 51; refine (containsFunc_calls _ _ bad_calls a c xs _ h2 hm).mono ?_; rintro e w' ⟨rfl, n, rfl⟩; rw [HA.out]))
        go_ret2
        exact ⟨rfl, by first | exact q2 | exact gdrewN q2 _⟩
      | true =>
        have HA : Hid (xs.any (fun b => !isByte b) = false) := Lib.hid (by rw [allBytes_not, kb]; rfl)
        by_cases k5 : read < 0
        · clear hl2 kb
          go_wp2_with (first | (go_at_call 51; refine (containsFunc_calls _ _ bad_calls a c xs _ h2 hm).mono ?_; rintro e w' ⟨rfl, n, rfl⟩; rw [HA.out]))
          go_ret2
          exact ⟨rfl, by first | exact q2 | exact gdrewN q2 _⟩
        by_cases k6 : 512 < read
        · clear hl2 kb
          go_wp2_with (first | (go_at_call 51; refine (containsFunc_calls _ _ bad_calls a c xs _ h2 hm).mono ?_; rintro e w' ⟨rfl, n, rfl⟩; rw [HA.out]))
          go_ret2
          exact ⟨rfl, by first | exact q2 | exact gdrewN q2 _⟩
        have hf : fitsB r xs.length read = false := by
          cases hf : fitsB r xs.length read with
          | false => rfl
          | true => exact absurd ⟨by omega, kb, by omega, by omega, hf⟩ hl2
        have HF := Lib.hid hf
        clear hl2 kb hf
        go_wp2_with (first | (go_at_call 51; refine (containsFunc_calls _ _ bad_calls a c xs _ h2 hm).mono ?_; rintro e w' ⟨rfl, n, rfl⟩; rw [HA.out]) | (go_at_call 52; refine (fits_calls _ r _ _ _ (x4.later (gdrewN (Below.refl _ _) _))).mono ?_; rintro e w' ⟨rfl, rfl⟩; rw [HF.out]))
        go_ret2
        exact ⟨rfl, by first | exact q2 | exact gdrewN q2 _⟩
  | false =>
    have hl2 := HL.out (fun h => by rw [h] at ka; cases ka)
    clear HL
    by_cases k4 : (512 : Int) < (xs.length : Int)
    · clear hl2
      go_wp2_with fail
      go_ret2
      exact ⟨rfl, q2⟩
    cases kb : xs.all isByte with
    | false =>
      have HA : Hid (xs.any (fun b => !isByte b) = true) := Lib.hid (by rw [allBytes_not, kb]; rfl)
      clear hl2 kb
      go_wp2_with (first | (go_at_call 51; refine (containsFunc_calls _ _ bad_calls a c xs _ h2 hm).mono ?_; rintro e w' ⟨rfl, n, rfl⟩; rw [HA.out]))
      go_ret2
      exact ⟨rfl, by first | exact q2 | exact gdrewN q2 _⟩
    | true =>
      have HA : Hid (xs.any (fun b => !isByte b) = false) := Lib.hid (by rw [allBytes_not, kb]; rfl)
      by_cases k5 : read < 0
      · clear hl2 kb
        go_wp2_with (first | (go_at_call 51; refine (containsFunc_calls _ _ bad_calls a c xs _ h2 hm).mono ?_; rintro e w' ⟨rfl, n, rfl⟩; rw [HA.out]))
        go_ret2
        exact ⟨rfl, by first | exact q2 | exact gdrewN q2 _⟩
      by_cases k6 : 512 < read
      · clear hl2 kb
        go_wp2_with (first | (go_at_call 51; refine (containsFunc_calls _ _ bad_calls a c xs _ h2 hm).mono ?_; rintro e w' ⟨rfl, n, rfl⟩; rw [HA.out]))
        go_ret2
        exact ⟨rfl, by first | exact q2 | exact gdrewN q2 _⟩
      have hf : fitsB r xs.length read = false := by
        cases hf : fitsB r xs.length read with
        | false => rfl
        | true => exact absurd ⟨by omega, kb, by omega, by omega, hf⟩ hl2
      have HF := Lib.hid hf
      clear hl2 kb hf
      go_wp2_with (first | (go_at_call 51; refine (containsFunc_calls _ _ bad_calls a c xs _ h2 hm).mono ?_; rintro e w' ⟨rfl, n, rfl⟩; rw [HA.out]) | (go_at_call 52; refine (fits_calls _ r _ _ _ (x4.later (gdrewN (Below.refl _ _) _))).mono ?_; rintro e w' ⟨rfl, rfl⟩; rw [HF.out]))
      go_ret2
      exact ⟨rfl, by first | exact q2 | exact gdrewN q2 _⟩
end Go.Proofs.Ythlcnccniliigaa

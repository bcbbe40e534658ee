/- The document's commandMay: true just where a command may be so. Conditions: the data read as the ints, fewer than 2^44 of them. -/
import Derived.Test.YthlcnccniliigaaCommand
import Derived.Test.YthlcnccniliigaaOps0
namespace Go.Proofs.Ythlcnccniliigaa
open Go.RowKit
set_option linter.unusedVariables false

theorem all_upto (xs : List Int) (k : Nat) (hk : k < xs.length) (h : isByte (xs.getD k 0) = false) : xs.all isByte = false := by
  rw [List.all_eq_false]
  exact ⟨xs[k], List.getElem_mem hk, by simpa [List.getD, hk] using h⟩
theorem all_full (xs : List Int) (h : ∀ j, j < xs.length → isByte (xs.getD j 0) = true) : xs.all isByte = true := by
  rw [List.all_eq_true]
  intro x hx
  obtain ⟨i, hi, rfl⟩ := List.mem_iff_getElem.1 hx
  simpa [List.getD, hi] using h i hi

set_option maxHeartbeats 800000 in
theorem bytesMay_calls (a : Option Addr) (c : Nat) (xs : List Int) (w : World) (h1 : IntsAt w a xs) (hm : xs.length ≤ 9223372036854775807) :
    Calls Try.prog 57 #[.slice a xs.length c] w (fun e w' => e = .returned (.bool (xs.all isByte)) ∧ w = w') := by
  go_enter Try.func57, Try.ntmps57
  go_wp2_with fail
  go_loopw [3] (fun i wr => ∃ k : Nat, k ≤ xs.length ∧ i = .int .i64 k ∧ wr = w ∧ ∀ j, j < k → isByte (xs.getD j 0) = true) (fun i _ => xs.length - (intOf i).toNat)
  case atStart => exact ⟨0, Nat.zero_le _, rfl, rfl, fun j hj => by omega⟩
  case round =>
    obtain ⟨k, hk, rfl, rfl, hsame⟩ := hrel
    have HS := Lib.hid hsame
    clear hsame
    by_cases hlt : k < xs.length
    · obtain ⟨b1, o1, rfl, g1⟩ := h1.at (by omega)
      have q1 := g1 k hlt
      have hlt' : (k : Int) < (xs.length : Int) := by omega
      clear g1 h1
      have HF := Lib.hid (all_upto xs k hlt)
      have HX := Lib.hid (show ∀ j, j < k + 1 → isByte (xs.getD k 0) = true → isByte (xs.getD j 0) = true from fun j hj h => by
        by_cases hjk : j < k
        · exact HS.out j hjk
        · obtain rfl : j = k := by omega
          exact h)
      generalize xs.getD k 0 = x at *
      by_cases e1 : x < 0
      · have hb : isByte x = false := by simp [isByte]; omega
        have HF2 := Lib.hid (HF.out hb)
        clear hb
        go_wp2_with fail
        go_ret
        exact ⟨by rw [HF2.out]; rfl, rfl⟩
      by_cases e2 : 255 < x
      · have hb : isByte x = false := by simp [isByte]; omega
        have HF2 := Lib.hid (HF.out hb)
        clear hb
        go_wp2_with fail
        go_ret
        exact ⟨by rw [HF2.out]; rfl, rfl⟩
      have HB := Lib.hid (show isByte x = true by simp [isByte]; omega)
      go_wp2_with fail
      go_roundw
      case rel => exact ⟨k + 1, by omega, by go_num, trivial, fun j hj => HX.out j hj HB.out⟩
      case measure => simp [intOf]; omega
    · obtain rfl : k = xs.length := by omega
      have HF := Lib.hid (all_full xs HS.out)
      go_wp2_with fail
      go_ret
      exact ⟨by rw [HF.out]; rfl, rfl⟩

/-- What a command has to be, but for its table's own row of counts. -/
def preB (r : OpR) (i : Int) (xs : List Int) (read : Int) : Bool :=
  decide (opErr r.byte = 0) && decide (opRow r.byte = r) && decide (0 ≤ i) && decide (i < 4096) && (!decide (r.addr = 0) || decide (i = 0)) && xs.all isByte && decide (xs.length ≤ 512) && decide (0 ≤ read) && decide (read ≤ 512)
/-- What a command has to be, as one truth. -/
def mayB (r : OpR) (i : Int) (xs : List Int) (read : Int) : Bool := preB r i xs read && fitsB r xs.length read
theorem mayB_iff (r : OpR) (i : Int) (xs : List Int) (read : Int) : mayB r i xs read = true ↔ CmdOk r i xs read := by
  unfold mayB preB
  simp only [Bool.and_eq_true, Bool.or_eq_true, Bool.not_eq_true', decide_eq_true_eq, decide_eq_false_iff_not]
  constructor
  · rintro ⟨⟨⟨⟨⟨⟨⟨⟨⟨h1, h2⟩, h3⟩, h4⟩, h5⟩, h6⟩, h7⟩, h8⟩, h9⟩, h10⟩
    exact ⟨h1, h2, h3, h4, fun h => h5.resolve_left (fun hn => hn h), h7, h6, h8, h9, h10⟩
  · intro h
    refine ⟨⟨⟨⟨⟨⟨⟨⟨⟨h.err, h.row⟩, h.lo⟩, h.hi⟩, ?_⟩, h.bytes⟩, h.len⟩, h.rlo⟩, h.rhi⟩, h.fits⟩
    by_cases ha : r.addr = 0
    · exact .inr (h.noAddr ha)
    · exact .inl ha

set_option maxRecDepth 100000 in
set_option maxHeartbeats 16000000 in
theorem may_calls (r : OpR) (i : Int) (a : Option Addr) (c : Nat) (xs : List Int) (read : Int) (w : World) (h1 : IntsAt w a xs) (hm : xs.length ≤ 9223372036854775807) :
    Calls Try.prog 54 #[.agg r.cells, .int .i64 i, .slice a xs.length c, .int .i64 read] w (RetBool (mayB r i xs read) w) := by
  have HD := Lib.hid (show preB r i xs read = (decide (opErr r.byte = 0) && decide (opRow r.byte = r) && decide (0 ≤ i) && decide (i < 4096) && (!decide (r.addr = 0) || decide (i = 0)) && xs.all isByte && decide (xs.length ≤ 512) && decide (0 ≤ read) && decide (read ≤ 512)) from rfl)
  have HT := Lib.hid (show mayB r i xs read = (preB r i xs read && fitsB r xs.length read) from rfl)
  generalize mayB r i xs read = qq at *
  generalize preB r i xs read = q at *
  rw [box4 r]
  go_enter Try.func54, Try.ntmps54
  go_wp2_with fail
  refine (rof_calls _ _).mono ?_
  rintro e w1 ⟨rfl, hb1⟩
  rw [box4 (opRow r.byte)]
  go_upto_region 2 with (fail)
  generalize hW : w1.alloc _ = w2
  have q2 : Below w.heap.size w w2 := by rw [← hW]; exact galloc (gtr (galloc (Below.refl _ _) _) hb1) _
  have x4 : OpBox w2 w.heap.size r := by
    rw [← hW]; exact OpBox.later ⟨_, _, block_later hb1 (new_block _ _)⟩ (galloc (Below.refl _ _) _)
  have x10 : OpBox w2 w1.heap.size (opRow r.byte) := by rw [← hW]; exact ⟨_, _, new_block _ _⟩
  generalize w1.heap.size = b10 at *
  clear hW hb1 w1
  have h2 : IntsAt w2 a xs := h1.later q2
  clear h1
  obtain ⟨c0, c1, c2, c3, c4, c5⟩ := x4.cell
  obtain ⟨d0, d1, d2, d3, d4, d5⟩ := x10.cell
  go_cut [58] from 11 to 58 (fun v wx => v = .bool (!q) ∧ wx = w2)
  case first =>
    by_cases e1 : opErr r.byte = 0
    case neg =>
      have k1 : (opErr r.byte != 0) = true := bne_iff_ne.2 e1
      have HQ : Hid (q = false) := Lib.hid (by rw [HD.out]; simp [e1])
      clear e1
      go_wp2_with fail
      go_meet
      exact ⟨by rw [HQ.out]; rfl, rfl⟩
    have k1 : (opErr r.byte != 0) = false := by rw [bne_eq_false_iff_eq]; exact e1
    have E1 := Lib.hid e1
    clear e1
    have hne : ∀ x y : Int, x ≠ y → (x == y) = false := fun x y h => beq_eq_false_iff_ne.2 h
    have hnb : ∀ x y : Bool, x ≠ y → (x == y) = false := fun x y h => beq_eq_false_iff_ne.2 h
    by_cases e2 : opRow r.byte = r
    case neg =>
      have HQ : Hid (q = false) := Lib.hid (by rw [HD.out]; simp [e2])
      clear HD E1
      generalize opRow r.byte = p at *
      by_cases f_byte : p.byte = r.byte
      case neg =>
        have g := hne _ _ f_byte
        clear e2 hne hnb f_byte 
        go_wp2_with fail
        go_meet
        exact ⟨by rw [HQ.out]; rfl, rfl⟩
      by_cases f_addr : p.addr = r.addr
      case neg =>
        have g := hne _ _ f_addr
        clear e2 hne hnb f_addr f_byte
        go_wp2_with fail
        go_meet
        exact ⟨by rw [HQ.out]; rfl, rfl⟩
      by_cases f_mode : p.mode = r.mode
      case neg =>
        have g := hnb _ _ f_mode
        clear e2 hne hnb f_mode f_byte f_addr
        go_wp2_with fail
        go_meet
        exact ⟨by rw [HQ.out]; rfl, rfl⟩
      by_cases f_dummy : p.dummy = r.dummy
      case neg =>
        have g := hne _ _ f_dummy
        clear e2 hne hnb f_dummy f_byte f_addr f_mode
        go_wp2_with fail
        go_meet
        exact ⟨by rw [HQ.out]; rfl, rfl⟩
      by_cases f_data : p.data = r.data
      case neg =>
        have g := hne _ _ f_data
        clear e2 hne hnb f_data f_byte f_addr f_mode f_dummy
        go_wp2_with fail
        go_meet
        exact ⟨by rw [HQ.out]; rfl, rfl⟩
      by_cases f_inn : p.inn = r.inn
      case neg =>
        have g := hnb _ _ f_inn
        clear e2 hne hnb f_inn f_byte f_addr f_mode f_dummy f_data
        go_wp2_with fail
        go_meet
        exact ⟨by rw [HQ.out]; rfl, rfl⟩
      exact absurd (by cases p; cases r; simp_all : p = r) e2
    have E2 := Lib.hid e2
    rw [e2] at d0 d1 d2 d3 d4 d5
    clear hne hnb x10 e2
    by_cases k2 : i < 0
    · have HQ : Hid (q = false) := Lib.hid (by rw [HD.out, decide_eq_false (show ¬ 0 ≤ i by omega)]; simp)
      go_wp2_with fail
      go_meet
      exact ⟨by rw [HQ.out]; rfl, rfl⟩
    by_cases k3 : 4096 ≤ i
    · have HQ : Hid (q = false) := Lib.hid (by rw [HD.out, decide_eq_false (show ¬ i < 4096 by omega)]; simp)
      go_wp2_with fail
      go_meet
      exact ⟨by rw [HQ.out]; rfl, rfl⟩
    have HD2 : Hid (q = ((!decide (r.addr = 0) || decide (i = 0)) && xs.all isByte && decide (xs.length ≤ 512) && decide (0 ≤ read) && decide (read ≤ 512))) :=
      Lib.hid (by rw [HD.out, E1.out, E2.out, decide_eq_true (show (0 : Int) ≤ i by omega), decide_eq_true (show i < 4096 by omega)]; simp)
    clear HD E1 E2
    cases ka : (r.addr == 0) with
    | true =>
      cases kz : (i != 0) with
      | true =>
        have HQ : Hid (q = false) := Lib.hid (by rw [HD2.out, show decide (r.addr = 0) = true by simpa using ka, show decide (i = 0) = false by simpa using kz]; simp)
        go_wp2_with fail
        go_meet
        exact ⟨by rw [HQ.out]; rfl, rfl⟩
      | false =>
        have HD3 : Hid (q = (xs.all isByte && decide (xs.length ≤ 512) && decide (0 ≤ read) && decide (read ≤ 512))) :=
          Lib.hid (by rw [HD2.out, show decide (i = 0) = true by simpa using kz]; simp)
        clear HD2
        have HB := Lib.hid (bytesMay_calls a c xs w2 h2 hm)
        cases kb : xs.all isByte with
        | false =>
          have HQ : Hid (q = false) := Lib.hid (by rw [HD3.out, kb]; simp)
          rw [kb] at HB
          clear kb HD3
          go_wp2_with (go_at_call 57; refine HB.out.mono ?_; rintro e w' ⟨rfl, rfl⟩)
          go_meet
          exact ⟨by rw [HQ.out]; rfl, rfl⟩
        | true =>
          rw [kb] at HB
          by_cases k4 : (512 : Int) < (xs.length : Int)
          · have HQ : Hid (q = false) := Lib.hid (by rw [HD3.out, decide_eq_false (show ¬ xs.length ≤ 512 by omega)]; simp)
            clear kb HD3
            go_wp2_with (go_at_call 57; refine HB.out.mono ?_; rintro e w' ⟨rfl, rfl⟩)
            go_meet
            exact ⟨by rw [HQ.out]; rfl, rfl⟩
          by_cases k5 : read < 0
          · have HQ : Hid (q = false) := Lib.hid (by rw [HD3.out, decide_eq_false (show ¬ 0 ≤ read by omega)]; simp)
            clear kb HD3
            go_wp2_with (go_at_call 57; refine HB.out.mono ?_; rintro e w' ⟨rfl, rfl⟩)
            go_meet
            exact ⟨by rw [HQ.out]; rfl, rfl⟩
          have HD4 : Hid (q = decide (read ≤ 512)) := Lib.hid (by rw [HD3.out, kb, decide_eq_true (show xs.length ≤ 512 by omega), decide_eq_true (show 0 ≤ read by omega)]; simp)
          clear kb HD3
          by_cases k6 : 512 < read
          · have HQ : Hid (q = false) := Lib.hid (by rw [HD4.out, decide_eq_false (show ¬ read ≤ 512 by omega)])
            clear HD4
            go_wp2_with (go_at_call 57; refine HB.out.mono ?_; rintro e w' ⟨rfl, rfl⟩)
            go_meet
            exact ⟨by rw [HQ.out]; rfl, rfl⟩
          · have HQ : Hid (q = true) := Lib.hid (by rw [HD4.out, decide_eq_true (show read ≤ 512 by omega)])
            clear HD4
            go_wp2_with (go_at_call 57; refine HB.out.mono ?_; rintro e w' ⟨rfl, rfl⟩)
            go_meet
            exact ⟨by rw [HQ.out, decide_eq_false (show ¬ (512 : Int) < (xs.length : Int) by omega), decide_eq_false (show ¬ read < 0 by omega), decide_eq_false (show ¬ 512 < read by omega)]; rfl, rfl⟩
    | false =>
        have HD3 : Hid (q = (xs.all isByte && decide (xs.length ≤ 512) && decide (0 ≤ read) && decide (read ≤ 512))) :=
          Lib.hid (by rw [HD2.out, show decide (r.addr = 0) = false by simpa using ka]; simp)
        clear HD2
        have HB := Lib.hid (bytesMay_calls a c xs w2 h2 hm)
        cases kb : xs.all isByte with
        | false =>
          have HQ : Hid (q = false) := Lib.hid (by rw [HD3.out, kb]; simp)
          rw [kb] at HB
          clear kb HD3
          go_wp2_with (go_at_call 57; refine HB.out.mono ?_; rintro e w' ⟨rfl, rfl⟩)
          go_meet
          exact ⟨by rw [HQ.out]; rfl, rfl⟩
        | true =>
          rw [kb] at HB
          by_cases k4 : (512 : Int) < (xs.length : Int)
          · have HQ : Hid (q = false) := Lib.hid (by rw [HD3.out, decide_eq_false (show ¬ xs.length ≤ 512 by omega)]; simp)
            clear kb HD3
            go_wp2_with (go_at_call 57; refine HB.out.mono ?_; rintro e w' ⟨rfl, rfl⟩)
            go_meet
            exact ⟨by rw [HQ.out]; rfl, rfl⟩
          by_cases k5 : read < 0
          · have HQ : Hid (q = false) := Lib.hid (by rw [HD3.out, decide_eq_false (show ¬ 0 ≤ read by omega)]; simp)
            clear kb HD3
            go_wp2_with (go_at_call 57; refine HB.out.mono ?_; rintro e w' ⟨rfl, rfl⟩)
            go_meet
            exact ⟨by rw [HQ.out]; rfl, rfl⟩
          have HD4 : Hid (q = decide (read ≤ 512)) := Lib.hid (by rw [HD3.out, kb, decide_eq_true (show xs.length ≤ 512 by omega), decide_eq_true (show 0 ≤ read by omega)]; simp)
          clear kb HD3
          by_cases k6 : 512 < read
          · have HQ : Hid (q = false) := Lib.hid (by rw [HD4.out, decide_eq_false (show ¬ read ≤ 512 by omega)])
            clear HD4
            go_wp2_with (go_at_call 57; refine HB.out.mono ?_; rintro e w' ⟨rfl, rfl⟩)
            go_meet
            exact ⟨by rw [HQ.out]; rfl, rfl⟩
          · have HQ : Hid (q = true) := Lib.hid (by rw [HD4.out, decide_eq_true (show read ≤ 512 by omega)])
            clear HD4
            go_wp2_with (go_at_call 57; refine HB.out.mono ?_; rintro e w' ⟨rfl, rfl⟩)
            go_meet
            exact ⟨by rw [HQ.out, decide_eq_false (show ¬ (512 : Int) < (xs.length : Int) by omega), decide_eq_false (show ¬ read < 0 by omega), decide_eq_false (show ¬ 512 < read by omega)]; rfl, rfl⟩
  case rest =>
  obtain ⟨rfl, rfl⟩ := hcut
  clear HD d0 d1 d2 d3 d4 d5 x10 c0 c1 c3
  generalize Value.agg #[.int .i64 r.byte, .int .i64 r.addr, .bool r.mode, .int .i64 r.dummy, .int .i64 r.data, .bool r.inn] = vagg
  cases q with
  | false =>
    go_wp2_with fail
    go_ret
    exact ⟨by rw [HT.out]; rfl, q2⟩
  | true =>
  by_cases z1 : r.data = 0
  · have HQ : Hid (qq = (decide ((xs.length : Int) = 0) && decide (read = 0))) := Lib.hid (by rw [HT.out]; simp [fitsB, z1])
    rw [z1] at c4
    clear HT z1
    by_cases z2 : (xs.length : Int) = 0
    · have g2 : ((xs.length : Int) == 0) = true := beq_iff_eq.2 z2
      have HQ2 : Hid (qq = decide (read = 0)) := Lib.hid (by rw [HQ.out, decide_eq_true z2]; simp)
      clear HQ z2
      go_wp2_with fail
      go_ret
      exact ⟨by rw [HQ2.out]; rfl, q2⟩
    · have g2 : ((xs.length : Int) == 0) = false := beq_eq_false_iff_ne.2 z2
      have HQ2 : Hid (qq = false) := Lib.hid (by rw [HQ.out, decide_eq_false z2]; rfl)
      clear HQ z2
      go_wp2_with fail
      go_ret
      exact ⟨by rw [HQ2.out]; rfl, q2⟩
  have g1 : (r.data == 0) = false := beq_eq_false_iff_ne.2 z1
  cases hinn : r.inn with
  | true =>
    have HQ : Hid (qq = decide (read = 0)) := Lib.hid (by rw [HT.out]; simp [fitsB, z1, hinn])
    rw [hinn] at c5
    clear HT z1
    go_wp2_with fail
    go_ret
    exact ⟨by rw [HQ.out]; rfl, q2⟩
  | false =>
    rw [hinn] at c5
    cases hmode : r.mode with
    | true =>
      have HQ : Hid (qq = decide ((xs.length : Int) = 1)) := Lib.hid (by rw [HT.out]; simp [fitsB, z1, hinn, hmode])
      rw [hmode] at c2
      clear HT z1
      go_wp2_with fail
      go_ret
      exact ⟨by rw [HQ.out]; rfl, q2⟩
    | false =>
      have HQ : Hid (qq = decide ((xs.length : Int) = 0)) := Lib.hid (by rw [HT.out]; simp [fitsB, z1, hinn, hmode])
      rw [hmode] at c2
      clear HT z1
      go_wp2_with fail
      go_ret
      exact ⟨by rw [HQ.out]; rfl, q2⟩
end Go.Proofs.Ythlcnccniliigaa

/- TableForms's walk. No conditions. -/
import Derived.Test.YthlcnccniliigaaAwake9
namespace Go.Proofs.Ythlcnccniliigaa
open Go.RowKit
set_option linter.unusedVariables false

/-- The nineteen commands that may not be so: row, place, data, read. -/
def formOp (k : Nat) : OpR :=
  if k = 0 then OpR.zero else if k ≤ 5 then opRow 3 else if k ≤ 9 then opRow 2 else if k ≤ 12 then opRow 235 else if k ≤ 15 then opRow 6 else if k ≤ 17 then opRow 5 else ⟨3, 0, false, 0, 0, false⟩
def formAt (d : Int) (k : Nat) : Int := [0, -d, 4095 + d, 1, 1, 1, 1, 1, 1, 1, 0, 0, 0, d, 0, 0, d, 0, 0].getD k 0
def formData (d : Int) (k : Nat) : List Int :=
  if k = 5 then [1] else if k = 6 then [256] else if k = 7 then [-d] else if k = 8 then List.replicate (512 + d).toNat 0 else if k = 9 then [1] else if k = 11 then [1, 2] else if k = 12 then [256] else if k = 14 then [1] else if k = 17 then [1] else []
def formRead (d : Int) (k : Nat) : Int := [0, 1, 1, -d, 512 + d, 1, 0, 0, 0, 1, 4, 4, 4, 0, 0, 1, 1, 1, 0].getD k 0

theorem form_no (d : Int) (h0 : 1 ≤ d) (h1 : d ≤ 1024) (k : Nat) (hk : k < 19) : ¬ CmdOk (formOp k) (formAt d k) (formData d k) (formRead d k) := by
  intro h
  match k, hk with
  | 0, _ => exact absurd h.err (by decide)
  | 1, _ => have := h.lo; simp [formAt] at this; omega
  | 2, _ => have := h.hi; simp [formAt] at this; omega
  | 3, _ => have := h.rlo; simp [formRead] at this; omega
  | 4, _ => have := h.rhi; simp [formRead] at this; omega
  | 5, _ => exact absurd h.fits (show ¬ (fitsB (opRow 3) 1 1 = true) by decide)
  | 6, _ => exact absurd h.bytes (by simp [formData, isByte])
  | 7, _ =>
    have := h.bytes
    simp [formData, isByte] at this
    omega
  | 8, _ => have := h.len; simp [formData] at this; omega
  | 9, _ => exact absurd h.fits (show ¬ (fitsB (opRow 2) 1 1 = true) by decide)
  | 10, _ => exact absurd h.fits (show ¬ (fitsB (opRow 235) 0 4 = true) by decide)
  | 11, _ => exact absurd h.fits (show ¬ (fitsB (opRow 235) 2 4 = true) by decide)
  | 12, _ => exact absurd h.bytes (by simp [formData, isByte])
  | 13, _ => have := h.noAddr (by decide); simp [formAt] at this; omega
  | 14, _ => exact absurd h.fits (show ¬ (fitsB (opRow 6) 1 0 = true) by decide)
  | 15, _ => exact absurd h.fits (show ¬ (fitsB (opRow 6) 0 1 = true) by decide)
  | 16, _ => have := h.noAddr (by decide); simp [formAt] at this; omega
  | 17, _ => exact absurd h.fits (show ¬ (fitsB (opRow 5) 1 1 = true) by decide)
  | 18, _ => exact absurd h.row (by decide)

def osCells : Array Value := ((List.range 19).flatMap fun k => (formOp k).cells.toList).toArray

def atsCells (d : Int) : Array Value := ((List.range 19).map fun k => Value.int .i64 (formAt d k)).toArray
def readCells (d : Int) : Array Value := ((List.range 19).map fun k => Value.int .i64 (formRead d k)).toArray

theorem ints_one {w : World} {b : Nat} {x : Int} (h : w.heap[b]? = some (.cells #[.int .i64 x] 3)) : IntsAt w (some ⟨b, 0, none⟩) [x] := by
  intro i hi
  have : i = 0 := by simpa using hi
  subst this
  exact ⟨b, 0, rfl, cell_of h 0⟩
theorem ints_two {w : World} {b : Nat} {x y : Int} (h : w.heap[b]? = some (.cells #[.int .i64 x, .int .i64 y] 3)) : IntsAt w (some ⟨b, 0, none⟩) [x, y] := by
  intro i hi
  match i, hi with
  | 0, _ => exact ⟨b, 0, rfl, cell_of h 0⟩
  | 1, _ => exact ⟨b, 0, rfl, cell_of h 1⟩
theorem ints_nil (w : World) : IntsAt w none [] := fun i hi => by simp at hi
def dataCells (C E nn : Nat) : Array Value := #[.slice none 0 0, .slice none 0 0, .slice none 0 0, .slice none 0 0, .slice none 0 0, .slice (some ⟨C, 0, none⟩) 1 1, .slice (some ⟨C + 1, 0, none⟩) 1 1, .slice (some ⟨C + 1 + 1, 0, none⟩) 1 1, .slice (some ⟨C + 1 + 1 + 1, 0, none⟩) nn nn, .slice (some ⟨E, 0, none⟩) 1 1, .slice none 0 0, .slice (some ⟨E + 1, 0, none⟩) 2 2, .slice (some ⟨E + 1 + 1, 0, none⟩) 1 1, .slice none 0 0, .slice (some ⟨E + 1 + 1 + 1, 0, none⟩) 1 1, .slice none 0 0, .slice none 0 0, .slice (some ⟨E + 1 + 1 + 1 + 1, 0, none⟩) 1 1, .slice none 0 0]
theorem forms_data (we : World) (C E F B nn : Nat) (d : Int) (hnn : (512 + d).toNat = nn)
    (m1 : we.heap[C]? = some (.cells #[.int .i64 1] 3)) (m2 : we.heap[C + 1]? = some (.cells #[.int .i64 256] 3)) (m3 : we.heap[C + 1 + 1]? = some (.cells #[.int .i64 (-d)] 3))
    (m4 : NewInts we B (.slice (some ⟨C + 1 + 1 + 1, 0, none⟩) nn nn) (List.replicate nn 0))
    (p0 : we.heap[E]? = some (.cells #[.int .i64 1] 3)) (p1 : we.heap[E + 1]? = some (.cells #[.int .i64 1, .int .i64 2] 3)) (p2 : we.heap[E + 1 + 1]? = some (.cells #[.int .i64 256] 3))
    (p3 : we.heap[E + 1 + 1 + 1]? = some (.cells #[.int .i64 1] 3)) (p4 : we.heap[E + 1 + 1 + 1 + 1]? = some (.cells #[.int .i64 1] 3))
    (pd : we.heap[F]? = some (.cells (dataCells C E nn) 40)) (k : Nat) (hk : k < 19) :
    ∃ a c, we.cell? ⟨F, k, none⟩ = some (.slice a (formData d k).length c) ∧ IntsAt we a (formData d k) := by
  have e0 : ∀ k v, (dataCells C E nn)[k]? = some v → we.cell? ⟨F, k, none⟩ = some v := fun k v h => (cell_of pd k).trans h
  match k, hk with
  | 0, _ | 1, _ | 2, _ | 3, _ | 4, _ | 10, _ | 13, _ | 15, _ | 16, _ | 18, _ => exact ⟨none, 0, e0 _ _ rfl, ints_nil we⟩
  | 5, _ => exact ⟨_, 1, e0 _ _ rfl, ints_one m1⟩
  | 6, _ => exact ⟨_, 1, e0 _ _ rfl, ints_one m2⟩
  | 7, _ => exact ⟨_, 1, e0 _ _ rfl, ints_one m3⟩
  | 8, _ =>
    obtain ⟨a, c, hv, hi⟩ := m4.ints
    rw [List.length_replicate] at hv
    injection hv with h1 h2 h3
    subst h1 h3
    have hl : (formData d 8).length = nn := by simp [formData, hnn]
    have hx : formData d 8 = List.replicate nn 0 := by simp [formData, hnn]
    rw [hl, hx]
    exact ⟨_, nn, e0 8 _ rfl, hi⟩
  | 9, _ => exact ⟨_, 1, e0 _ _ rfl, ints_one p0⟩
  | 11, _ => exact ⟨_, 2, e0 _ _ rfl, ints_two p1⟩
  | 12, _ => exact ⟨_, 1, e0 _ _ rfl, ints_one p2⟩
  | 14, _ => exact ⟨_, 1, e0 _ _ rfl, ints_one p3⟩
  | 17, _ => exact ⟨_, 1, e0 _ _ rfl, ints_one p4⟩
  | n + 19, h => exact absurd h (by omega)
theorem at_map (f : Nat → Value) (k : Nat) (hk : k < 19) : ((List.range 19).map f).toArray[k]? = some (f k) := by
  simp [hk]
theorem os_at (k : Nat) (hk : k < 19) : osCells[k * 6]? = some (.int .i64 (formOp k).byte) ∧ osCells[k * 6 + 1]? = some (.int .i64 (formOp k).addr) ∧ osCells[k * 6 + 2]? = some (.bool (formOp k).mode) ∧
    osCells[k * 6 + 3]? = some (.int .i64 (formOp k).dummy) ∧ osCells[k * 6 + 4]? = some (.int .i64 (formOp k).data) ∧ osCells[k * 6 + 5]? = some (.bool (formOp k).inn) := by
  match k, hk with
  | 0, _ | 1, _ | 2, _ | 3, _ | 4, _ | 5, _ | 6, _ | 7, _ | 8, _ | 9, _ | 10, _ | 11, _ | 12, _ | 13, _ | 14, _ | 15, _ | 16, _ | 17, _ | 18, _ => exact ⟨rfl, rfl, rfl, rfl, rfl, rfl⟩
  | n + 19, h => exact absurd h (by omega)
theorem formData_len (d : Int) (h1 : d ≤ 1024) (k : Nat) : (formData d k).length ≤ 9223372036854775807 := by
  unfold formData
  repeat' split
  all_goals first | (simp; done) | (simp; omega)
theorem below_of_grown {w w' : World} (h : w.grownBy w' none) : Below w.heap.size w w' := ⟨h.os, h.tape, h.output, h.size, fun k hk => h.block k hk (by simp)⟩
theorem made_ints (n : Nat) : (madeCells #[.int .i64 0] n).toList = intVals (List.replicate n 0) := by
  refine List.ext_getElem (by simp [madeCells, intVals]) fun i h1 h2 => ?_
  simp [madeCells, intVals, Nat.mod_one]
theorem rem19 (a : Int) : ∃ k : Nat, k < 19 ∧ IntKind.i64.wrap ((IntKind.u64.wrap a).tmod 19) = (k : Int) := by
  rw [IntKind.wrap_u64, Int.tmod_eq_emod_of_nonneg (by omega)]
  refine ⟨(a % 18446744073709551616 % 19).toNat, by omega, ?_⟩
  rw [IntWalk.i64_in _ (by omega)]
  omega

def box (n : Int) : Array Value := (opRow n).cells
theorem okLast : CmdOk (opRow 3) 4095 [] 512 := ⟨rfl, rfl, by decide, by decide, fun h => absurd h (by decide), by decide, rfl, by decide, by decide, rfl⟩

set_option maxRecDepth 100000 in
set_option maxHeartbeats 8000000 in
theorem forms_walk (a b : Int) (w : World) : Calls Try.prog 11 #[.int .i64 a, .int .i64 b] w (RetBool true w) := by
  obtain ⟨k, hk, hke⟩ := rem19 a
  have hd := and1023 b
  have hd0 : 0 ≤ b % 1024 := by omega
  have hd1 : b % 1024 < 1024 := by omega
  go_enter Try.func11, Try.ntmps11
  go_wp2_with fail
  refine (awake9_calls _).mono ?_
  rintro e w1 ⟨rfl, hb1⟩
  go_upto_region 4 with (fail)
  generalize b % 1024 = d0 at *
  have hdl : 1 ≤ 1 + d0 := by omega
  have hdh : 1 + d0 ≤ 1024 := by omega
  generalize 1 + d0 = d at *
  clear hd hd0 hd1
  go_wp2_with fail
  refine (find_yes 3 rfl _).mono ?_
  rintro e wf0 ⟨rfl, hf0⟩
  rw [show (opRow 3).cells = #[.int .i64 3, .int .i64 1, .bool false, .int .i64 0, .int .i64 1, .bool false] from rfl]
  go_upto_region 5 with (fail)
  have q0 := galloc (gtr hb1 hf0) (.cells #[.int .i64 3, .int .i64 1, .bool false, .int .i64 0, .int .i64 1, .bool false] 35)
  have g0_0 := new_block wf0 (.cells #[.int .i64 3, .int .i64 1, .bool false, .int .i64 0, .int .i64 1, .bool false] 35)
  generalize wf0.alloc _ = wa0 at *
  generalize wf0.heap.size = B0 at *
  clear hb1 hf0  w1 wf0
  go_wp2_with fail
  refine (find_yes 2 rfl _).mono ?_
  rintro e wf1 ⟨rfl, hf1⟩
  rw [show (opRow 2).cells = #[.int .i64 2, .int .i64 1, .bool false, .int .i64 0, .int .i64 1, .bool true] from rfl]
  go_upto_region 6 with (fail)
  have q1 := galloc (gtr q0 hf1) (.cells #[.int .i64 2, .int .i64 1, .bool false, .int .i64 0, .int .i64 1, .bool true] 35)
  have g0_1 := block_later (galloc hf1 (.cells #[.int .i64 2, .int .i64 1, .bool false, .int .i64 0, .int .i64 1, .bool true] 35)) g0_0
  have g1_1 := new_block wf1 (.cells #[.int .i64 2, .int .i64 1, .bool false, .int .i64 0, .int .i64 1, .bool true] 35)
  generalize wf1.alloc _ = wa1 at *
  generalize wf1.heap.size = B1 at *
  clear q0 hf1 g0_0 wa0 wf1
  go_wp2_with fail
  refine (find_yes 235 rfl _).mono ?_
  rintro e wf2 ⟨rfl, hf2⟩
  rw [show (opRow 235).cells = #[.int .i64 235, .int .i64 4, .bool true, .int .i64 4, .int .i64 4, .bool false] from rfl]
  go_upto_region 7 with (fail)
  have q2 := galloc (gtr q1 hf2) (.cells #[.int .i64 235, .int .i64 4, .bool true, .int .i64 4, .int .i64 4, .bool false] 35)
  have g0_2 := block_later (galloc hf2 (.cells #[.int .i64 235, .int .i64 4, .bool true, .int .i64 4, .int .i64 4, .bool false] 35)) g0_1
  have g1_2 := block_later (galloc hf2 (.cells #[.int .i64 235, .int .i64 4, .bool true, .int .i64 4, .int .i64 4, .bool false] 35)) g1_1
  have g2_2 := new_block wf2 (.cells #[.int .i64 235, .int .i64 4, .bool true, .int .i64 4, .int .i64 4, .bool false] 35)
  generalize wf2.alloc _ = wa2 at *
  generalize wf2.heap.size = B2 at *
  clear q1 hf2 g0_1 g1_1 wa1 wf2
  go_wp2_with fail
  refine (find_yes 6 rfl _).mono ?_
  rintro e wf3 ⟨rfl, hf3⟩
  rw [show (opRow 6).cells = #[.int .i64 6, .int .i64 0, .bool false, .int .i64 0, .int .i64 0, .bool false] from rfl]
  go_upto_region 8 with (fail)
  have q3 := galloc (gtr q2 hf3) (.cells #[.int .i64 6, .int .i64 0, .bool false, .int .i64 0, .int .i64 0, .bool false] 35)
  have g0_3 := block_later (galloc hf3 (.cells #[.int .i64 6, .int .i64 0, .bool false, .int .i64 0, .int .i64 0, .bool false] 35)) g0_2
  have g1_3 := block_later (galloc hf3 (.cells #[.int .i64 6, .int .i64 0, .bool false, .int .i64 0, .int .i64 0, .bool false] 35)) g1_2
  have g2_3 := block_later (galloc hf3 (.cells #[.int .i64 6, .int .i64 0, .bool false, .int .i64 0, .int .i64 0, .bool false] 35)) g2_2
  have g3_3 := new_block wf3 (.cells #[.int .i64 6, .int .i64 0, .bool false, .int .i64 0, .int .i64 0, .bool false] 35)
  generalize wf3.alloc _ = wa3 at *
  generalize wf3.heap.size = B3 at *
  clear q2 hf3 g0_2 g1_2 g2_2 wa2 wf3
  go_wp2_with fail
  refine (find_yes 5 rfl _).mono ?_
  rintro e wf4 ⟨rfl, hf4⟩
  rw [show (opRow 5).cells = #[.int .i64 5, .int .i64 0, .bool false, .int .i64 0, .int .i64 1, .bool false] from rfl]
  go_upto_region 9 with (fail)
  have q4 := galloc (gtr q3 hf4) (.cells #[.int .i64 5, .int .i64 0, .bool false, .int .i64 0, .int .i64 1, .bool false] 35)
  have g0_4 := block_later (galloc hf4 (.cells #[.int .i64 5, .int .i64 0, .bool false, .int .i64 0, .int .i64 1, .bool false] 35)) g0_3
  have g1_4 := block_later (galloc hf4 (.cells #[.int .i64 5, .int .i64 0, .bool false, .int .i64 0, .int .i64 1, .bool false] 35)) g1_3
  have g2_4 := block_later (galloc hf4 (.cells #[.int .i64 5, .int .i64 0, .bool false, .int .i64 0, .int .i64 1, .bool false] 35)) g2_3
  have g3_4 := block_later (galloc hf4 (.cells #[.int .i64 5, .int .i64 0, .bool false, .int .i64 0, .int .i64 1, .bool false] 35)) g3_3
  have g4_4 := new_block wf4 (.cells #[.int .i64 5, .int .i64 0, .bool false, .int .i64 0, .int .i64 1, .bool false] 35)
  generalize wf4.alloc _ = wa4 at *
  generalize wf4.heap.size = B4 at *
  clear q3 hf4 g0_3 g1_3 g2_3 g3_3 wa3 wf4
  go_upto_region 11 with (go_at_call 27; refine (num_calls _ _).mono ?_; rintro e w' ⟨rfl, rfl⟩)
  have c0_0 : wa4.cell? ⟨B0, 0, none⟩ = some (.int .i64 3) := cell_of g0_4 0
  have c0_1 : wa4.cell? ⟨B0, 1, none⟩ = some (.int .i64 1) := cell_of g0_4 1
  have c0_2 : wa4.cell? ⟨B0, 2, none⟩ = some (.bool false) := cell_of g0_4 2
  have c0_3 : wa4.cell? ⟨B0, 3, none⟩ = some (.int .i64 0) := cell_of g0_4 3
  have c0_4 : wa4.cell? ⟨B0, 4, none⟩ = some (.int .i64 1) := cell_of g0_4 4
  have c0_5 : wa4.cell? ⟨B0, 5, none⟩ = some (.bool false) := cell_of g0_4 5
  have c1_0 : wa4.cell? ⟨B1, 0, none⟩ = some (.int .i64 2) := cell_of g1_4 0
  have c1_1 : wa4.cell? ⟨B1, 1, none⟩ = some (.int .i64 1) := cell_of g1_4 1
  have c1_2 : wa4.cell? ⟨B1, 2, none⟩ = some (.bool false) := cell_of g1_4 2
  have c1_3 : wa4.cell? ⟨B1, 3, none⟩ = some (.int .i64 0) := cell_of g1_4 3
  have c1_4 : wa4.cell? ⟨B1, 4, none⟩ = some (.int .i64 1) := cell_of g1_4 4
  have c1_5 : wa4.cell? ⟨B1, 5, none⟩ = some (.bool true) := cell_of g1_4 5
  have c2_0 : wa4.cell? ⟨B2, 0, none⟩ = some (.int .i64 235) := cell_of g2_4 0
  have c2_1 : wa4.cell? ⟨B2, 1, none⟩ = some (.int .i64 4) := cell_of g2_4 1
  have c2_2 : wa4.cell? ⟨B2, 2, none⟩ = some (.bool true) := cell_of g2_4 2
  have c2_3 : wa4.cell? ⟨B2, 3, none⟩ = some (.int .i64 4) := cell_of g2_4 3
  have c2_4 : wa4.cell? ⟨B2, 4, none⟩ = some (.int .i64 4) := cell_of g2_4 4
  have c2_5 : wa4.cell? ⟨B2, 5, none⟩ = some (.bool false) := cell_of g2_4 5
  have c3_0 : wa4.cell? ⟨B3, 0, none⟩ = some (.int .i64 6) := cell_of g3_4 0
  have c3_1 : wa4.cell? ⟨B3, 1, none⟩ = some (.int .i64 0) := cell_of g3_4 1
  have c3_2 : wa4.cell? ⟨B3, 2, none⟩ = some (.bool false) := cell_of g3_4 2
  have c3_3 : wa4.cell? ⟨B3, 3, none⟩ = some (.int .i64 0) := cell_of g3_4 3
  have c3_4 : wa4.cell? ⟨B3, 4, none⟩ = some (.int .i64 0) := cell_of g3_4 4
  have c3_5 : wa4.cell? ⟨B3, 5, none⟩ = some (.bool false) := cell_of g3_4 5
  have c4_0 : wa4.cell? ⟨B4, 0, none⟩ = some (.int .i64 5) := cell_of g4_4 0
  have c4_1 : wa4.cell? ⟨B4, 1, none⟩ = some (.int .i64 0) := cell_of g4_4 1
  have c4_2 : wa4.cell? ⟨B4, 2, none⟩ = some (.bool false) := cell_of g4_4 2
  have c4_3 : wa4.cell? ⟨B4, 3, none⟩ = some (.int .i64 0) := cell_of g4_4 3
  have c4_4 : wa4.cell? ⟨B4, 4, none⟩ = some (.int .i64 1) := cell_of g4_4 4
  have c4_5 : wa4.cell? ⟨B4, 5, none⟩ = some (.bool false) := cell_of g4_4 5
  go_upto_region 12 with (fail)
  generalize hW : wa4.alloc _ = wb
  have ho : wb.heap[wa4.heap.size]? = some (.cells osCells 35) := by rw [← hW]; exact new_block _ _
  have qb : Below w.heap.size w wb := by rw [← hW]; exact galloc q4 _
  have x0 : OpBox wb B0 (opRow 3) := by rw [← hW]; exact ⟨_, _, block_later (galloc (Below.refl _ _) _) g0_4⟩
  clear hW q4 g0_4 g1_4 g2_4 g3_4 g4_4 c0_0 c0_1 c0_2 c0_3 c0_4 c0_5 c1_0 c1_1 c1_2 c1_3 c1_4 c1_5 c2_0 c2_1 c2_2 c2_3 c2_4 c2_5 c3_0 c3_1 c3_2 c3_3 c3_4 c3_5 c4_0 c4_1 c4_2 c4_3 c4_4 c4_5
  generalize wa4.heap.size = Bos at *
  clear wa4
  go_upto_region 13 with (fail)
  generalize hW : wb.alloc _ = wc
  have hats : wc.heap[wb.heap.size]? = some (.cells (atsCells d) 3) := by rw [← hW]; exact new_block _ _
  have qc : Below w.heap.size w wc := by rw [← hW]; exact galloc qb _
  have hosc : wc.heap[Bos]? = some (.cells osCells 35) := by rw [← hW]; exact block_later (galloc (Below.refl _ _) _) ho
  have x1 : OpBox wc B0 (opRow 3) := by rw [← hW]; exact x0.later (galloc (Below.refl _ _) _)
  clear hW qb ho x0
  generalize wb.heap.size = Bat at *
  clear wb
  obtain ⟨i0, hi, hz0, hz1, hz2⟩ := info_parts info_int
  have HN := Lib.hid (show 512 + d = ((512 + d).toNat : Int) by omega)
  have hnl : (512 + d).toNat ≤ 2000 := by omega
  go_wp2_with (at_make; refine wpList_make_full _ rfl _ _ 40 rfl wc.heap.size 3 i0 (.int .i64 0) 1 Try.underlying40 hi hz0 hz1 .i64 .i64 (512 + d) (512 + d) (512 + d).toNat rfl rfl HN.out HN.out ?m1 ?m2 ?m3 ?_)
  case m1 => rw [hz2]; omega
  case m2 => simp only [maxLen]; omega
  case m3 => simp; omega
  intro wd hown hgr
  have hbd := galloc (galloc (galloc (Below.refl wc.heap.size wc) (.cells #[.int .i64 1] 3)) (.cells #[.int .i64 256] 3)) (.cells #[.int .i64 (-d)] 3)
  have k1 : ((((wc.alloc (.cells #[.int .i64 1] 3)).alloc (.cells #[.int .i64 256] 3)).alloc (.cells #[.int .i64 (-d)] 3))).heap[wc.heap.size]? = some (.cells #[.int .i64 1] 3) := block_later (galloc (galloc (Below.refl _ _) _) _) (new_block wc _)
  have k2 : ((((wc.alloc (.cells #[.int .i64 1] 3)).alloc (.cells #[.int .i64 256] 3)).alloc (.cells #[.int .i64 (-d)] 3))).heap[wc.heap.size + 1]? = some (.cells #[.int .i64 256] 3) := block_later (galloc (Below.refl _ _) _) (by have := new_block (wc.alloc (.cells #[.int .i64 1] 3)) (.cells #[.int .i64 256] 3); simpa using this)
  have k3 : ((((wc.alloc (.cells #[.int .i64 1] 3)).alloc (.cells #[.int .i64 256] 3)).alloc (.cells #[.int .i64 (-d)] 3))).heap[wc.heap.size + 1 + 1]? = some (.cells #[.int .i64 (-d)] 3) := by have := new_block ((wc.alloc (.cells #[.int .i64 1] 3)).alloc (.cells #[.int .i64 256] 3)) (.cells #[.int .i64 (-d)] 3); simpa using this
  have hgb := below_of_grown hgr
  have l1 := block_later hgb k1
  have l2 := block_later hgb k2
  have l3 := block_later hgb k3
  have hbd' := gtr hbd hgb
  have qd := gtr qc hbd'
  have hatsd := block_later hbd' hats
  have hosd := block_later hbd' hosc
  have x2 := x1.later hbd'
  have e0 : (madeCells #[.int .i64 0] (512 + d).toNat).toList = intVals (List.replicate (512 + d).toNat 0) := made_ints _
  rw [e0] at hown
  have k4 := NewInts.of_own (xs := List.replicate (512 + d).toNat 0) (by simpa using hown)
  clear e0 hown hgr hgb hbd' qc hosc x1 hats k1 k2 k3 hbd
  generalize wc.heap.size = C at *
  generalize hnn : (512 + d).toNat = nn at *
  have HNN := Lib.hid hnn
  clear hnn
  go_upto_region 14 with (fail)
  have p0 : ((((((wd.alloc (.cells #[.int .i64 1] 3)).alloc (.cells #[.int .i64 1, .int .i64 2] 3)).alloc (.cells #[.int .i64 256] 3)).alloc (.cells #[.int .i64 1] 3)).alloc (.cells #[.int .i64 1] 3)).alloc (.cells #[.slice none 0 0, .slice none 0 0, .slice none 0 0, .slice none 0 0, .slice none 0 0, .slice (some ⟨C, 0, none⟩) 1 1, .slice (some ⟨C + 1, 0, none⟩) 1 1, .slice (some ⟨C + 1 + 1, 0, none⟩) 1 1, .slice (some ⟨C + 1 + 1 + 1, 0, none⟩) nn nn, .slice (some ⟨wd.heap.size, 0, none⟩) 1 1, .slice none 0 0, .slice (some ⟨wd.heap.size + 1, 0, none⟩) 2 2, .slice (some ⟨wd.heap.size + 1 + 1, 0, none⟩) 1 1, .slice none 0 0, .slice (some ⟨wd.heap.size + 1 + 1 + 1, 0, none⟩) 1 1, .slice none 0 0, .slice none 0 0, .slice (some ⟨wd.heap.size + 1 + 1 + 1 + 1, 0, none⟩) 1 1, .slice none 0 0] 40)).heap[wd.heap.size]? = some (.cells #[.int .i64 1] 3) := block_later (galloc (galloc (galloc (galloc (galloc (Below.refl _ _) _) _) _) _) _) (by have := new_block wd (.cells #[.int .i64 1] 3); simpa using this)
  have p1 : ((((((wd.alloc (.cells #[.int .i64 1] 3)).alloc (.cells #[.int .i64 1, .int .i64 2] 3)).alloc (.cells #[.int .i64 256] 3)).alloc (.cells #[.int .i64 1] 3)).alloc (.cells #[.int .i64 1] 3)).alloc (.cells #[.slice none 0 0, .slice none 0 0, .slice none 0 0, .slice none 0 0, .slice none 0 0, .slice (some ⟨C, 0, none⟩) 1 1, .slice (some ⟨C + 1, 0, none⟩) 1 1, .slice (some ⟨C + 1 + 1, 0, none⟩) 1 1, .slice (some ⟨C + 1 + 1 + 1, 0, none⟩) nn nn, .slice (some ⟨wd.heap.size, 0, none⟩) 1 1, .slice none 0 0, .slice (some ⟨wd.heap.size + 1, 0, none⟩) 2 2, .slice (some ⟨wd.heap.size + 1 + 1, 0, none⟩) 1 1, .slice none 0 0, .slice (some ⟨wd.heap.size + 1 + 1 + 1, 0, none⟩) 1 1, .slice none 0 0, .slice none 0 0, .slice (some ⟨wd.heap.size + 1 + 1 + 1 + 1, 0, none⟩) 1 1, .slice none 0 0] 40)).heap[wd.heap.size + 1]? = some (.cells #[.int .i64 1, .int .i64 2] 3) := block_later (galloc (galloc (galloc (galloc (Below.refl _ _) _) _) _) _) (by have := new_block (wd.alloc (.cells #[.int .i64 1] 3)) (.cells #[.int .i64 1, .int .i64 2] 3); simpa using this)
  have p2 : ((((((wd.alloc (.cells #[.int .i64 1] 3)).alloc (.cells #[.int .i64 1, .int .i64 2] 3)).alloc (.cells #[.int .i64 256] 3)).alloc (.cells #[.int .i64 1] 3)).alloc (.cells #[.int .i64 1] 3)).alloc (.cells #[.slice none 0 0, .slice none 0 0, .slice none 0 0, .slice none 0 0, .slice none 0 0, .slice (some ⟨C, 0, none⟩) 1 1, .slice (some ⟨C + 1, 0, none⟩) 1 1, .slice (some ⟨C + 1 + 1, 0, none⟩) 1 1, .slice (some ⟨C + 1 + 1 + 1, 0, none⟩) nn nn, .slice (some ⟨wd.heap.size, 0, none⟩) 1 1, .slice none 0 0, .slice (some ⟨wd.heap.size + 1, 0, none⟩) 2 2, .slice (some ⟨wd.heap.size + 1 + 1, 0, none⟩) 1 1, .slice none 0 0, .slice (some ⟨wd.heap.size + 1 + 1 + 1, 0, none⟩) 1 1, .slice none 0 0, .slice none 0 0, .slice (some ⟨wd.heap.size + 1 + 1 + 1 + 1, 0, none⟩) 1 1, .slice none 0 0] 40)).heap[wd.heap.size + 1 + 1]? = some (.cells #[.int .i64 256] 3) := block_later (galloc (galloc (galloc (Below.refl _ _) _) _) _) (by have := new_block ((wd.alloc (.cells #[.int .i64 1] 3)).alloc (.cells #[.int .i64 1, .int .i64 2] 3)) (.cells #[.int .i64 256] 3); simpa using this)
  have p3 : ((((((wd.alloc (.cells #[.int .i64 1] 3)).alloc (.cells #[.int .i64 1, .int .i64 2] 3)).alloc (.cells #[.int .i64 256] 3)).alloc (.cells #[.int .i64 1] 3)).alloc (.cells #[.int .i64 1] 3)).alloc (.cells #[.slice none 0 0, .slice none 0 0, .slice none 0 0, .slice none 0 0, .slice none 0 0, .slice (some ⟨C, 0, none⟩) 1 1, .slice (some ⟨C + 1, 0, none⟩) 1 1, .slice (some ⟨C + 1 + 1, 0, none⟩) 1 1, .slice (some ⟨C + 1 + 1 + 1, 0, none⟩) nn nn, .slice (some ⟨wd.heap.size, 0, none⟩) 1 1, .slice none 0 0, .slice (some ⟨wd.heap.size + 1, 0, none⟩) 2 2, .slice (some ⟨wd.heap.size + 1 + 1, 0, none⟩) 1 1, .slice none 0 0, .slice (some ⟨wd.heap.size + 1 + 1 + 1, 0, none⟩) 1 1, .slice none 0 0, .slice none 0 0, .slice (some ⟨wd.heap.size + 1 + 1 + 1 + 1, 0, none⟩) 1 1, .slice none 0 0] 40)).heap[wd.heap.size + 1 + 1 + 1]? = some (.cells #[.int .i64 1] 3) := block_later (galloc (galloc (Below.refl _ _) _) _) (by have := new_block (((wd.alloc (.cells #[.int .i64 1] 3)).alloc (.cells #[.int .i64 1, .int .i64 2] 3)).alloc (.cells #[.int .i64 256] 3)) (.cells #[.int .i64 1] 3); simpa using this)
  have p4 : ((((((wd.alloc (.cells #[.int .i64 1] 3)).alloc (.cells #[.int .i64 1, .int .i64 2] 3)).alloc (.cells #[.int .i64 256] 3)).alloc (.cells #[.int .i64 1] 3)).alloc (.cells #[.int .i64 1] 3)).alloc (.cells #[.slice none 0 0, .slice none 0 0, .slice none 0 0, .slice none 0 0, .slice none 0 0, .slice (some ⟨C, 0, none⟩) 1 1, .slice (some ⟨C + 1, 0, none⟩) 1 1, .slice (some ⟨C + 1 + 1, 0, none⟩) 1 1, .slice (some ⟨C + 1 + 1 + 1, 0, none⟩) nn nn, .slice (some ⟨wd.heap.size, 0, none⟩) 1 1, .slice none 0 0, .slice (some ⟨wd.heap.size + 1, 0, none⟩) 2 2, .slice (some ⟨wd.heap.size + 1 + 1, 0, none⟩) 1 1, .slice none 0 0, .slice (some ⟨wd.heap.size + 1 + 1 + 1, 0, none⟩) 1 1, .slice none 0 0, .slice none 0 0, .slice (some ⟨wd.heap.size + 1 + 1 + 1 + 1, 0, none⟩) 1 1, .slice none 0 0] 40)).heap[wd.heap.size + 1 + 1 + 1 + 1]? = some (.cells #[.int .i64 1] 3) := block_later (galloc (Below.refl _ _) _) (by have := new_block ((((wd.alloc (.cells #[.int .i64 1] 3)).alloc (.cells #[.int .i64 1, .int .i64 2] 3)).alloc (.cells #[.int .i64 256] 3)).alloc (.cells #[.int .i64 1] 3)) (.cells #[.int .i64 1] 3); simpa using this)
  have pd : ((((((wd.alloc (.cells #[.int .i64 1] 3)).alloc (.cells #[.int .i64 1, .int .i64 2] 3)).alloc (.cells #[.int .i64 256] 3)).alloc (.cells #[.int .i64 1] 3)).alloc (.cells #[.int .i64 1] 3)).alloc (.cells #[.slice none 0 0, .slice none 0 0, .slice none 0 0, .slice none 0 0, .slice none 0 0, .slice (some ⟨C, 0, none⟩) 1 1, .slice (some ⟨C + 1, 0, none⟩) 1 1, .slice (some ⟨C + 1 + 1, 0, none⟩) 1 1, .slice (some ⟨C + 1 + 1 + 1, 0, none⟩) nn nn, .slice (some ⟨wd.heap.size, 0, none⟩) 1 1, .slice none 0 0, .slice (some ⟨wd.heap.size + 1, 0, none⟩) 2 2, .slice (some ⟨wd.heap.size + 1 + 1, 0, none⟩) 1 1, .slice none 0 0, .slice (some ⟨wd.heap.size + 1 + 1 + 1, 0, none⟩) 1 1, .slice none 0 0, .slice none 0 0, .slice (some ⟨wd.heap.size + 1 + 1 + 1 + 1, 0, none⟩) 1 1, .slice none 0 0] 40)).heap[wd.heap.size + 1 + 1 + 1 + 1 + 1]? = some (.cells #[.slice none 0 0, .slice none 0 0, .slice none 0 0, .slice none 0 0, .slice none 0 0, .slice (some ⟨C, 0, none⟩) 1 1, .slice (some ⟨C + 1, 0, none⟩) 1 1, .slice (some ⟨C + 1 + 1, 0, none⟩) 1 1, .slice (some ⟨C + 1 + 1 + 1, 0, none⟩) nn nn, .slice (some ⟨wd.heap.size, 0, none⟩) 1 1, .slice none 0 0, .slice (some ⟨wd.heap.size + 1, 0, none⟩) 2 2, .slice (some ⟨wd.heap.size + 1 + 1, 0, none⟩) 1 1, .slice none 0 0, .slice (some ⟨wd.heap.size + 1 + 1 + 1, 0, none⟩) 1 1, .slice none 0 0, .slice none 0 0, .slice (some ⟨wd.heap.size + 1 + 1 + 1 + 1, 0, none⟩) 1 1, .slice none 0 0] 40) := by have := new_block (((((wd.alloc (.cells #[.int .i64 1] 3)).alloc (.cells #[.int .i64 1, .int .i64 2] 3)).alloc (.cells #[.int .i64 256] 3)).alloc (.cells #[.int .i64 1] 3)).alloc (.cells #[.int .i64 1] 3)) (.cells #[.slice none 0 0, .slice none 0 0, .slice none 0 0, .slice none 0 0, .slice none 0 0, .slice (some ⟨C, 0, none⟩) 1 1, .slice (some ⟨C + 1, 0, none⟩) 1 1, .slice (some ⟨C + 1 + 1, 0, none⟩) 1 1, .slice (some ⟨C + 1 + 1 + 1, 0, none⟩) nn nn, .slice (some ⟨wd.heap.size, 0, none⟩) 1 1, .slice none 0 0, .slice (some ⟨wd.heap.size + 1, 0, none⟩) 2 2, .slice (some ⟨wd.heap.size + 1 + 1, 0, none⟩) 1 1, .slice none 0 0, .slice (some ⟨wd.heap.size + 1 + 1 + 1, 0, none⟩) 1 1, .slice none 0 0, .slice none 0 0, .slice (some ⟨wd.heap.size + 1 + 1 + 1 + 1, 0, none⟩) 1 1, .slice none 0 0] 40); simpa using this
  have he := galloc (galloc (galloc (galloc (galloc (galloc (Below.refl wd.heap.size wd) (.cells #[.int .i64 1] 3)) (.cells #[.int .i64 1, .int .i64 2] 3)) (.cells #[.int .i64 256] 3)) (.cells #[.int .i64 1] 3)) (.cells #[.int .i64 1] 3)) (.cells #[.slice none 0 0, .slice none 0 0, .slice none 0 0, .slice none 0 0, .slice none 0 0, .slice (some ⟨C, 0, none⟩) 1 1, .slice (some ⟨C + 1, 0, none⟩) 1 1, .slice (some ⟨C + 1 + 1, 0, none⟩) 1 1, .slice (some ⟨C + 1 + 1 + 1, 0, none⟩) nn nn, .slice (some ⟨wd.heap.size, 0, none⟩) 1 1, .slice none 0 0, .slice (some ⟨wd.heap.size + 1, 0, none⟩) 2 2, .slice (some ⟨wd.heap.size + 1 + 1, 0, none⟩) 1 1, .slice none 0 0, .slice (some ⟨wd.heap.size + 1 + 1 + 1, 0, none⟩) 1 1, .slice none 0 0, .slice none 0 0, .slice (some ⟨wd.heap.size + 1 + 1 + 1 + 1, 0, none⟩) 1 1, .slice none 0 0] 40)
  have hatse := block_later he hatsd
  have hose := block_later he hosd
  have x3 := x2.later he
  have m1 := block_later he l1
  have m2 := block_later he l2
  have m3 := block_later he l3
  have m4 := k4.later he
  have qe := gtr qd he
  clear he hosd x2 qd hatsd l1 l2 l3 k4
  generalize (((((wd.alloc _).alloc _).alloc _).alloc _).alloc _).alloc _ = we at *
  generalize wd.heap.size = E at *
  clear wc wd
  have hdata := forms_data we C E _ _ nn d HNN.out m1 m2 m3 m4 p0 p1 p2 p3 p4 pd k hk
  clear m1 m2 m3 m4 p0 p1 p2 p3 p4 pd HNN HN
  go_upto_region 15 with (fail)
  generalize hW : we.alloc _ = wf
  have hr : wf.heap[we.heap.size]? = some (.cells (readCells d) 3) := by rw [← hW]; exact new_block _ _
  have hb : Below we.heap.size we wf := by rw [← hW]; exact galloc (Below.refl _ _) _
  have qf := gtr qe hb
  have hatsf := block_later hb hatse
  have hosf := block_later hb hose
  have x4 := x3.later hb
  obtain ⟨a1, c1, hcd, hia⟩ := hdata
  have hcd1 := (hb.cell (p := ⟨E + 1 + 1 + 1 + 1 + 1, k, none⟩) (World.block_lt_of_cell? we _ hcd)).trans hcd
  have hia1 := hia.later hb
  clear hW hb hcd hia qe hatse hose x3
  generalize E + 1 + 1 + 1 + 1 + 1 = F at *
  generalize we.heap.size = G at *
  go_upto_region 16 with (fail)
  obtain ⟨s0, s1, s2, s3, s4, s5⟩ := os_at k hk
  have s0 := (cell_of hosf _).trans s0
  have s1 := (cell_of hosf _).trans s1
  have s2 := (cell_of hosf _).trans s2
  have s3 := (cell_of hosf _).trans s3
  have s4 := (cell_of hosf _).trans s4
  have s5 := (cell_of hosf _).trans s5
  have s6 : wf.cell? ⟨Bat, k, none⟩ = some (.int .i64 (formAt d k)) := (cell_of hatsf _).trans (at_map (fun k => Value.int .i64 (formAt d k)) k hk)
  have s7 : wf.cell? ⟨G, k, none⟩ = some (.int .i64 (formRead d k)) := (cell_of hr _).trans (at_map (fun k => Value.int .i64 (formRead d k)) k hk)
  have s8 : wf.cell? ⟨F, k, none⟩ = some (.slice a1 (formData d k).length c1) := hcd1
  have M := command_no (formOp k) (formAt d k) a1 c1 (formData d k) (formRead d k) wf.drew (form_no d hdl hdh k hk) (hia1.later (gdrew (Below.refl _ _))) (formData_len d hdh k)
  simp only [box4] at M
  have M := Lib.hid M
  clear hcd1 hia1 hosf hatsf hr
  generalize formOp k = r at *
  generalize formAt d k = ia at *
  generalize formRead d k = rd at *
  generalize formData d k = xs at *
  have hk' : (k : Int) < 19 := by omega
  have hk0 : (0 : Int) ≤ (k : Int) := by omega
  go_region_held3 (fun w' => w'.cell? ⟨Bos, k * 6, none⟩ = some (.int .i64 r.byte) ∧ w'.cell? ⟨Bos, k * 6 + 1, none⟩ = some (.int .i64 r.addr) ∧ w'.cell? ⟨Bos, k * 6 + 2, none⟩ = some (.bool r.mode) ∧
      w'.cell? ⟨Bos, k * 6 + 3, none⟩ = some (.int .i64 r.dummy) ∧ w'.cell? ⟨Bos, k * 6 + 4, none⟩ = some (.int .i64 r.data) ∧ w'.cell? ⟨Bos, k * 6 + 5, none⟩ = some (.bool r.inn) ∧
      w'.cell? ⟨Bat, k, none⟩ = some (.int .i64 ia) ∧ w'.cell? ⟨G, k, none⟩ = some (.int .i64 rd) ∧ w'.cell? ⟨F, k, none⟩ = some (.slice a1 xs.length c1))
    (first | exact ⟨s0, s1, s2, s3, s4, s5, s6, s7, s8⟩ | exact ⟨(hq7.cell (p := ⟨Bos, k * 6, none⟩) (World.block_lt_of_cell? wf _ s0)).trans s0, (hq7.cell (p := ⟨Bos, k * 6 + 1, none⟩) (World.block_lt_of_cell? wf _ s1)).trans s1, (hq7.cell (p := ⟨Bos, k * 6 + 2, none⟩) (World.block_lt_of_cell? wf _ s2)).trans s2, (hq7.cell (p := ⟨Bos, k * 6 + 3, none⟩) (World.block_lt_of_cell? wf _ s3)).trans s3, (hq7.cell (p := ⟨Bos, k * 6 + 4, none⟩) (World.block_lt_of_cell? wf _ s4)).trans s4, (hq7.cell (p := ⟨Bos, k * 6 + 5, none⟩) (World.block_lt_of_cell? wf _ s5)).trans s5, (hq7.cell (p := ⟨Bat, k, none⟩) (World.block_lt_of_cell? wf _ s6)).trans s6, (hq7.cell (p := ⟨G, k, none⟩) (World.block_lt_of_cell? wf _ s7)).trans s7, (hq7.cell (p := ⟨F, k, none⟩) (World.block_lt_of_cell? wf _ s8)).trans s8⟩ | go_keep)
    (first | (go_at_call 39; (with_reducible refine M.out.mono ?_); rintro e w7 ⟨rfl, hq7⟩))
  have hno : opErr (255 + d) ≠ 0 := by rw [opErr, opTab_none _ (by intro k hk; simp only [opBytes, List.mem_cons, List.not_mem_nil, or_false] at hk; omega)]; decide
  all_goals
    have q7 : Below w.heap.size w w7 := gtr (gdrew qf) hq7
    have hb7 := hq7
    clear hq7 s0 s1 s2 s3 s4 s5 s6 s7 s8 M qf
    go_wp2_with fail
    refine (find_no (255 + d) hno _).mono ?_
    rintro e w8 ⟨rfl, h8⟩
    have q8 := gtr q7 h8
    rw [show OpR.zero.cells = #[.int .i64 0, .int .i64 0, .bool false, .int .i64 0, .int .i64 0, .bool false] from rfl]
    go_upto_region 18 with (fail)
    have x8 := x4.later (gtr (gdrew (Below.refl _ _)) (gtr hb7 (gtr h8 (galloc (Below.refl _ _) (.cells #[.int .i64 0, .int .i64 0, .bool false, .int .i64 0, .int .i64 0, .bool false] 35)))))
    have q8' := galloc q8 (.cells #[.int .i64 0, .int .i64 0, .bool false, .int .i64 0, .int .i64 0, .bool false] 35)
    generalize w8.alloc _ = w9 at *
    clear q8 h8 q7 hb7
    obtain ⟨c0, c1, c2, c3, c4, c5⟩ := x8.cell
    go_wp2_with fail
    refine (command_ok (opRow 3) 4095 none 0 [] 512 _ okLast (ints_nil _) (fun _ => rfl)).mono ?_
    rintro e w10 ⟨v, rfl, hN, h10⟩
    have q10 := gtr q8' h10
    obtain ⟨a9, c9, rfl, hP⟩ := hN.reads
    go_wp2_with (go_at_call 27; refine (num_calls _ _).mono ?_; rintro e w' ⟨rfl, rfl⟩)
    go_ret
    exact ⟨rfl, q10⟩
end Go.Proofs.Ythlcnccniliigaa

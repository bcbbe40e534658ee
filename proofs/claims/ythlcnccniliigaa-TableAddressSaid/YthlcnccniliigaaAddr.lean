/- TableAddress's walk. No conditions. -/
import Derived.Test.YthlcnccniliigaaAwake9
namespace Go.Proofs.Ythlcnccniliigaa
open Go.RowKit
set_option linter.unusedVariables false

def addrBytes : List Int := [3, 32, 90, 107, 2]

theorem addr_row (k : Nat) (hk : k < 5) : opErr (addrBytes.getD k 0) = 0 ∧ opErr (opRow (addrBytes.getD k 0)).byte = 0 ∧ opRow (opRow (addrBytes.getD k 0)).byte = opRow (addrBytes.getD k 0) ∧
    (opRow (addrBytes.getD k 0)).addr = 1 ∧ (opRow (addrBytes.getD k 0)).mode = false ∧ fitsB (opRow (addrBytes.getD k 0)) 0 0 = true := by
  match k, hk with
  | 0, _ | 1, _ | 2, _ | 3, _ | 4, _ => exact ⟨rfl, rfl, rfl, rfl, rfl, rfl⟩

theorem rem5 (a : Int) : ∃ k : Nat, k < 5 ∧ IntKind.i64.wrap ((IntKind.u64.wrap a).tmod 5) = (k : Int) := by
  rw [IntKind.wrap_u64, Int.tmod_eq_emod_of_nonneg (by omega)]
  refine ⟨(a % 18446744073709551616 % 5).toNat, by omega, ?_⟩
  rw [IntWalk.i64_in _ (by omega)]
  omega

def tailPh (r : OpR) : List Ph := if 0 < r.dummy then [⟨0, [], r.dummy, 0⟩] else []
def addrPh (r : OpR) (x : Int) : List Ph := ⟨1, [r.byte], 0, 0⟩ :: ⟨1, [0, x / 256, x % 256], 0, 0⟩ :: tailPh r
theorem addrPh_eq (r : OpR) (x : Int) (ha : r.addr = 1) (hm : r.mode = false) : cmdPhases r x [] 0 = addrPh r x := by
  unfold cmdPhases addrPh tailPh
  rw [ha, hm]; simp

theorem addrPh_same (r : OpR) (x y : Int) (hx : 0 ≤ x) (hx' : x < 4096) (hy : 0 ≤ y) (hy' : y < 4096) : decide (addrPh r x = addrPh r y) = (x == y) := by
  by_cases h : x = y
  · subst h; simp
  · have e : (x == y) = false := beq_eq_false_iff_ne.2 h
    rw [e]
    simp [addrPh]
    intro h1 h2
    omega

theorem or_all : ∀ i : Nat, i < 16 → ∀ j : Nat, j < 256 → bits BinOp.or IntKind.i64 (bits BinOp.or IntKind.i64 (IntKind.i64.wrap 0) (IntKind.i64.wrap (((256 * i + j : Nat) : Int) / 256 * 256))) (((256 * i + j : Nat) : Int) % 256) = ((256 * i + j : Nat) : Int) := by decide +kernel
theorem or_x (x : Int) (h0 : 0 ≤ x) (h1 : x < 4096) : bits BinOp.or IntKind.i64 (bits BinOp.or IntKind.i64 (IntKind.i64.wrap 0) (IntKind.i64.wrap (x / 256 * 256))) (x % 256) = x := by
  obtain ⟨n, rfl⟩ := Int.eq_ofNat_of_zero_le h0
  have := or_all (n / 256) (by omega) (n % 256) (by omega)
  rw [Nat.div_add_mod] at this
  exact this

set_option maxRecDepth 100000 in
set_option maxHeartbeats 4000000 in
theorem addr_walk (a b c : Int) (w : World) : Calls Try.prog 12 #[.int .i64 a, .int .i64 b, .int .i64 c] w (RetBool true w) := by
  obtain ⟨k, hk, hke⟩ := rem5 c
  have hx0 : 0 ≤ a % 4096 := by omega
  have hx1 : a % 4096 < 4096 := by omega
  have hy0 : 0 ≤ b % 4096 := by omega
  have hy1 : b % 4096 < 4096 := by omega
  have hax := and4095 a
  have hby := and4095 b
  go_enter Try.func12, Try.ntmps12
  go_wp2_with fail
  refine (awake9_calls _).mono ?_
  rintro e w1 ⟨rfl, hb1⟩
  go_upto_region 4 with (fail)
  have ho := new_block w1 (.cells #[.int .i64 3, .int .i64 32, .int .i64 90, .int .i64 107, .int .i64 2] 3)
  have hb2 := galloc hb1 (.cells #[.int .i64 3, .int .i64 32, .int .i64 90, .int .i64 107, .int .i64 2] 3)
  generalize w1.alloc _ = w2 at *
  have hcell : w2.cell? ⟨w1.heap.size, k, none⟩ = some (.int .i64 (addrBytes.getD k 0)) := by
    rw [cell_of ho]
    match k, hk with
    | 0, _ | 1, _ | 2, _ | 3, _ | 4, _ => rfl
  obtain ⟨e1, e2, e3, e4, e5, e6⟩ := addr_row k hk
  have E4 := Lib.hid e4
  have E5 := Lib.hid e5
  clear e4 e5
  have hk' : (k : Int) < 5 := by omega
  generalize w1.heap.size = B at *
  clear ho hb1 w1
  generalize addrBytes.getD k 0 = bb at *
  go_wp2_with fail
  refine (find_yes bb e1 _).mono ?_
  rintro e w3 ⟨rfl, hb3⟩
  have hq3 := gtr hb2 hb3
  clear hb3 hcell hb2 w2 e1 hke hk hk'
  generalize opRow bb = r at *
  rw [box4 r]
  go_upto_region 6 with (fail)
  have ho := new_block w3 (.cells r.cells 35)
  rw [box4 r] at ho
  have hq4 := galloc hq3 (.cells r.cells 35)
  rw [box4 r] at hq4
  generalize w3.alloc _ = w4 at *
  generalize w3.heap.size = C at *
  clear hq3 w3
  have x4 : OpBox w4 C r := ⟨_, _, ho⟩
  clear ho
  generalize a % 4096 = x at *
  generalize b % 4096 = y at *
  have okx : CmdOk r x [] 0 := ⟨e2, e3, hx0, hx1, fun h => absurd (E4.out.symm.trans h) (by decide), by decide, rfl, by decide, by decide, e6⟩
  have oky : CmdOk r y [] 0 := ⟨e2, e3, hy0, hy1, fun h => absurd (E4.out.symm.trans h) (by decide), by decide, rfl, by decide, by decide, e6⟩
  have HX := Lib.hid (addrPh_eq r x E4.out E5.out)
  have HY := Lib.hid (addrPh_eq r y E4.out E5.out)
  have HS := Lib.hid (addrPh_same r x y hx0 hx1 hy0 hy1)
  clear e2 e3 E4 E5 e6 hax hby
  obtain ⟨c0, c1, c2, c3, c4, c5⟩ := x4.cell
  go_wp2_with fail
  refine (command_ok r x none 0 [] 0 _ okx (IntsAt.nil _ _) (fun _ => rfl)).mono ?_
  rintro e w5 ⟨v5, rfl, hN5, hb5⟩
  rw [HX.out] at hN5
  clear c0 c1 c2 c3 c4 c5
  obtain ⟨c0, c1, c2, c3, c4, c5⟩ := (x4.later hb5).cell
  go_wp2_with fail
  refine (command_ok r y none 0 [] 0 _ oky (IntsAt.nil _ _) (fun _ => rfl)).mono ?_
  rintro e w6 ⟨v6, rfl, hN6, hb6⟩
  rw [HY.out] at hN6
  have hq6 := gtr (gtr hq4 hb5) hb6
  obtain ⟨a5, cp5, rfl, hP5⟩ := hN5.reads
  obtain ⟨a6, cp6, rfl, hP6⟩ := hN6.reads
  have hP5 := hP5.later hb6
  clear c0 c1 c2 c3 c4 c5 okx oky hN5 hN6 hb5 hb6 x4 hq4 HX HY
  obtain ⟨b5, o5, rfl, g5⟩ := hP5.at (by simp [addrPh])
  obtain ⟨b6, o6, rfl, g6⟩ := hP6.at (by simp [addrPh])
  have p0 := g5 0 (by simp [addrPh])
  have p1 := g5 1 (by simp [addrPh])
  have r0 := g6 0 (by simp [addrPh])
  have l5 : (addrPh r x).length = (tailPh r).length + 2 := by simp [addrPh]
  have l6 : (addrPh r y).length = (tailPh r).length + 2 := by simp [addrPh]
  have hm : (tailPh r).length ≤ 1 := by unfold tailPh; split <;> simp
  have hbl : ∀ p ∈ addrPh r x, p.bytes.length ≤ 9223372036854775807 := by
    intro p hp; simp only [addrPh, tailPh, List.mem_cons] at hp
    rcases hp with rfl | rfl | hp
    · show (1 : Nat) ≤ 9223372036854775807; decide
    · show (3 : Nat) ≤ 9223372036854775807; decide
    · split at hp
      · obtain rfl : p = ⟨0, [], r.dummy, 0⟩ := by simpa using hp
        show (0 : Nat) ≤ 9223372036854775807; decide
      · cases hp
  have HSP := Lib.hid (samePhases_calls (some ⟨b5, o5, none⟩) (some ⟨b6, o6, none⟩) cp5 cp6 (addrPh r x) (addrPh r y) w6.drew (hP5.later (gdrew (Below.refl _ _))) (hP6.later (gdrew (Below.refl _ _))) (by rw [l5]; omega) hbl)
  rw [HS.out, l5, l6] at HSP
  rw [l5, l6]
  generalize (tailPh r).length = m at *
  clear l5 l6 hbl g5 g6 HS hP5 hP6
  obtain ⟨u1, u2, u3, u4⟩ := p0
  obtain ⟨v1, v2, v3, v4⟩ := p1
  obtain ⟨t1, t2, t3, t4⟩ := r0
  obtain ⟨a1, z1, u2, j1⟩ := u2
  obtain ⟨a2, z2, v2, j2⟩ := v2
  obtain ⟨a3, z3, t2, j3⟩ := t2
  simp only [Nat.zero_mul, Nat.one_mul, Nat.add_zero, addrPh, List.getD_cons_zero, List.getD_cons_succ, List.length_cons, List.length_nil, Nat.zero_add, Nat.reduceAdd] at u1 u2 u3 u4 v1 v2 v3 v4 t1 t2 t3 t4 j1 j2 j3
  have hm2 : ¬ ((m : Int) + 2 < 2) := by omega
  go_upto_region 11 with (go_at_call 27; refine (num_calls _ _).mono ?_; rintro e w' ⟨rfl, rfl⟩)
  obtain ⟨bz, oz, rfl, jz⟩ := j2.at (by simp)
  have y0 := jz 0 (by simp)
  have y1 := jz 1 (by simp)
  have y2 := jz 2 (by simp)
  simp only [Nat.add_zero, List.getD_cons_zero, List.getD_cons_succ] at y0 y1 y2
  have L5 := fun (W : World) (bq : Nat) (h1 : W.heap[bq]? = some (.cells #[.int .i64 1, .slice a1 1 z1, .int .i64 0, .int .i64 0] 56)) (hb : Below w6.heap.size w6 W) => show PhasesAt W (some ⟨bq, 0, none⟩) [⟨1, [r.byte], 0, 0⟩] from fun i hi => by
    obtain rfl : i = 0 := by simpa using hi
    exact ⟨bq, 0, rfl, cell_of h1 0, ⟨a1, z1, cell_of h1 1, j1.later hb⟩, cell_of h1 2, cell_of h1 3⟩
  have L6 := fun (W : World) (bq : Nat) (h1 : W.heap[bq]? = some (.cells #[.int .i64 1, .slice a3 1 z3, .int .i64 0, .int .i64 0] 56)) (hb : Below w6.heap.size w6 W) => show PhasesAt W (some ⟨bq, 0, none⟩) [⟨1, [r.byte], 0, 0⟩] from fun i hi => by
    obtain rfl : i = 0 := by simpa using hi
    exact ⟨bq, 0, rfl, cell_of h1 0, ⟨a3, z3, cell_of h1 1, j3.later hb⟩, cell_of h1 2, cell_of h1 3⟩
  have hone : ∀ p ∈ ([⟨1, [r.byte], 0, 0⟩] : List Ph), p.bytes.length ≤ 9223372036854775807 := fun p hp => by
    obtain rfl : p = ⟨1, [r.byte], 0, 0⟩ := by simpa using hp
    show (1 : Nat) ≤ 9223372036854775807; decide
  have M1 : ∀ n, Calls Try.prog 41 #[.slice (some ⟨w6.heap.size, 0, none⟩) 1 1, .slice (some ⟨w6.heap.size + 1, 0, none⟩) 1 1] (((w6.drewN n).alloc (Obj.cells #[.int .i64 1, .slice a1 1 z1, .int .i64 0, .int .i64 0] 56)).alloc (Obj.cells #[.int .i64 1, .slice a3 1 z3, .int .i64 0, .int .i64 0] 56)) (BoolDrew true (((w6.drewN n).alloc (Obj.cells #[.int .i64 1, .slice a1 1 z1, .int .i64 0, .int .i64 0] 56)).alloc (Obj.cells #[.int .i64 1, .slice a3 1 z3, .int .i64 0, .int .i64 0] 56))) := fun n => by
    have hg := galloc (galloc (gdrewN (Below.refl w6.heap.size w6) n) (Obj.cells #[.int .i64 1, .slice a1 1 z1, .int .i64 0, .int .i64 0] 56)) (Obj.cells #[.int .i64 1, .slice a3 1 z3, .int .i64 0, .int .i64 0] 56)
    have := samePhases_calls (some ⟨w6.heap.size, 0, none⟩) (some ⟨w6.heap.size + 1, 0, none⟩) 1 1 [⟨1, [r.byte], 0, 0⟩] [⟨1, [r.byte], 0, 0⟩] (((w6.drewN n).alloc (Obj.cells #[.int .i64 1, .slice a1 1 z1, .int .i64 0, .int .i64 0] 56)).alloc (Obj.cells #[.int .i64 1, .slice a3 1 z3, .int .i64 0, .int .i64 0] 56))
      (L5 _ _ (block_later (galloc (Below.refl _ _) _) (new_block (w6.drewN n) (Obj.cells #[.int .i64 1, .slice a1 1 z1, .int .i64 0, .int .i64 0] 56))) hg) (L6 _ _ (by have := new_block ((w6.drewN n).alloc (Obj.cells #[.int .i64 1, .slice a1 1 z1, .int .i64 0, .int .i64 0] 56)) (Obj.cells #[.int .i64 1, .slice a3 1 z3, .int .i64 0, .int .i64 0] 56); simpa using this) hg) (show (1 : Nat) ≤ 9223372036854775807 by decide) hone
    rw [decide_eq_true rfl] at this
    exact this
  have M2 : ∀ n, Calls Try.prog 41 #[.slice (some ⟨w6.heap.size + 1, 0, none⟩) 1 1, .slice (some ⟨w6.heap.size, 0, none⟩) 1 1] (((w6.drewN n).alloc (Obj.cells #[.int .i64 1, .slice a3 1 z3, .int .i64 0, .int .i64 0] 56)).alloc (Obj.cells #[.int .i64 1, .slice a1 1 z1, .int .i64 0, .int .i64 0] 56)) (BoolDrew true (((w6.drewN n).alloc (Obj.cells #[.int .i64 1, .slice a3 1 z3, .int .i64 0, .int .i64 0] 56)).alloc (Obj.cells #[.int .i64 1, .slice a1 1 z1, .int .i64 0, .int .i64 0] 56))) := fun n => by
    have hg := galloc (galloc (gdrewN (Below.refl w6.heap.size w6) n) (Obj.cells #[.int .i64 1, .slice a3 1 z3, .int .i64 0, .int .i64 0] 56)) (Obj.cells #[.int .i64 1, .slice a1 1 z1, .int .i64 0, .int .i64 0] 56)
    have := samePhases_calls (some ⟨w6.heap.size + 1, 0, none⟩) (some ⟨w6.heap.size, 0, none⟩) 1 1 [⟨1, [r.byte], 0, 0⟩] [⟨1, [r.byte], 0, 0⟩] (((w6.drewN n).alloc (Obj.cells #[.int .i64 1, .slice a3 1 z3, .int .i64 0, .int .i64 0] 56)).alloc (Obj.cells #[.int .i64 1, .slice a1 1 z1, .int .i64 0, .int .i64 0] 56))
      (L5 _ _ (by have := new_block ((w6.drewN n).alloc (Obj.cells #[.int .i64 1, .slice a3 1 z3, .int .i64 0, .int .i64 0] 56)) (Obj.cells #[.int .i64 1, .slice a1 1 z1, .int .i64 0, .int .i64 0] 56); simpa using this) hg) (L6 _ _ (block_later (galloc (Below.refl _ _) _) (new_block (w6.drewN n) (Obj.cells #[.int .i64 1, .slice a3 1 z3, .int .i64 0, .int .i64 0] 56))) hg) (show (1 : Nat) ≤ 9223372036854775807 by decide) hone
    rw [decide_eq_true rfl] at this
    exact this
  have M1 := Lib.hid M1
  have M2 := Lib.hid M2
  clear L5 L6
  clear j2 jz v1 v2 v3 v4 hm2 j1 j3
  have hm0 : (0 : Int) < (m : Int) + 2 := by omega
  have w1' := World.new_ne w6 _ u1
  have w2' := World.new_ne w6 _ t1
  have w3' := World.new_ne w6 _ y0
  have hor := or_x x hx0 hx1
  go_region_held3 (fun w' => w'.cell? ⟨bz, oz, none⟩ = some (.int .i64 0) ∧ w'.cell? ⟨bz, oz + 1, none⟩ = some (.int .i64 (x / 256)) ∧ w'.cell? ⟨bz, oz + 2, none⟩ = some (.int .i64 (x % 256)) ∧
      w'.cell? ⟨b5, o5, none⟩ = some (.int .i64 1) ∧ w'.cell? ⟨b5, o5 + 1, none⟩ = some (.slice a1 1 z1) ∧ w'.cell? ⟨b5, o5 + 2, none⟩ = some (.int .i64 0) ∧ w'.cell? ⟨b5, o5 + 3, none⟩ = some (.int .i64 0) ∧
      w'.cell? ⟨b6, o6, none⟩ = some (.int .i64 1) ∧ w'.cell? ⟨b6, o6 + 1, none⟩ = some (.slice a3 1 z3) ∧ w'.cell? ⟨b6, o6 + 2, none⟩ = some (.int .i64 0) ∧ w'.cell? ⟨b6, o6 + 3, none⟩ = some (.int .i64 0))
    (first | go_keep)
    (first | (go_at_call 41; (with_reducible refine HSP.out.mono ?_); rintro e w7 ⟨rfl, n7, rfl⟩) | (go_at_call 41; (with_reducible refine (M1.out _).mono ?_); rintro e w7 ⟨rfl, n7, rfl⟩) | (go_at_call 41; (with_reducible refine (M2.out _).mono ?_); rintro e w7 ⟨rfl, n7, rfl⟩))
  all_goals
    go_wp2_with fail
    go_ret
    exact ⟨rfl, by repeat (first | with_reducible exact hq6 | with_reducible refine gdrewN ?_ _ | with_reducible refine gdrew ?_ | with_reducible refine galloc ?_ _)⟩
end Go.Proofs.Ythlcnccniliigaa

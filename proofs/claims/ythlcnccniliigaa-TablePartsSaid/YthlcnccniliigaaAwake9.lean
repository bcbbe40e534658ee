/- What every program answers that is one (chapter 9). No conditions. -/
import Derived.Test.YthlcnccniliigaaPhases
import Derived.Test.YthlcnccniliigaaCommandNo
import Derived.Test.YthlcnccniliigaaStat
namespace Go.Proofs.Ythlcnccniliigaa
open Go.RowKit
set_option linter.unusedVariables false

theorem find_yes (b : Int) (h : opErr b = 0) (w : World) : Calls Try.prog 36 #[.int .i64 b] w fun e w' => e = .returned (.tuple #[.agg (opRow b).cells, .int .i64 0]) ∧ Below w.heap.size w w' :=
  (find_calls b w).mono fun e w' ⟨he, hb⟩ => ⟨by rw [if_pos h] at he; exact he, hb⟩
theorem find_no (b : Int) (h : opErr b ≠ 0) (w : World) : Calls Try.prog 36 #[.int .i64 b] w fun e w' => e = .returned (.tuple #[.agg OpR.zero.cells, .int .i64 900]) ∧ Below w.heap.size w w' :=
  (find_calls b w).mono fun e w' ⟨he, hb⟩ => ⟨by rw [if_neg h, opRow_zero b h] at he; exact he, hb⟩

theorem ok90 : CmdOk (opRow 90) 258 [] 2 := ⟨rfl, rfl, by decide, by decide, fun h => absurd h (by decide), by decide, rfl, by decide, by decide, rfl⟩
def ps90 : List Ph := [⟨1, [90], 0, 0⟩, ⟨1, [0, 1, 2], 0, 0⟩, ⟨0, [], 8, 0⟩, ⟨1, [], 0, 2⟩]
theorem ps90_eq : cmdPhases (opRow 90) 258 [] 2 = ps90 := rfl

theorem lit90 (w : World) : PhasesAt (((w.alloc (.cells #[.int .i64 90] 3)).alloc (.cells #[.int .i64 0, .int .i64 1, .int .i64 2] 3)).alloc
    (.cells #[.int .i64 1, .slice (some ⟨w.heap.size, 0, none⟩) 1 1, .int .i64 0, .int .i64 0, .int .i64 1, .slice (some ⟨w.heap.size + 1, 0, none⟩) 3 3, .int .i64 0, .int .i64 0,
      .int .i64 0, .slice none 0 0, .int .i64 8, .int .i64 0, .int .i64 1, .slice none 0 0, .int .i64 0, .int .i64 2] 56)) (some ⟨w.heap.size + 2, 0, none⟩) ps90 := by
  generalize hw3 : ((w.alloc (.cells #[.int .i64 90] 3)).alloc (.cells #[.int .i64 0, .int .i64 1, .int .i64 2] 3)).alloc _ = w3
  have h0 : w3.heap[w.heap.size]? = some (.cells #[.int .i64 90] 3) := by rw [← hw3]; exact block_later (galloc (galloc (Below.refl _ _) _) _) (new_block w _)
  have h1 : w3.heap[w.heap.size + 1]? = some (.cells #[.int .i64 0, .int .i64 1, .int .i64 2] 3) := by
    rw [← hw3]; exact block_later (galloc (Below.refl _ _) _) (by have := new_block (w.alloc (.cells #[.int .i64 90] 3)) (.cells #[.int .i64 0, .int .i64 1, .int .i64 2] 3); simpa using this)
  have h2 : w3.heap[w.heap.size + 2]? = some (.cells #[.int .i64 1, .slice (some ⟨w.heap.size, 0, none⟩) 1 1, .int .i64 0, .int .i64 0, .int .i64 1, .slice (some ⟨w.heap.size + 1, 0, none⟩) 3 3, .int .i64 0, .int .i64 0,
      .int .i64 0, .slice none 0 0, .int .i64 8, .int .i64 0, .int .i64 1, .slice none 0 0, .int .i64 0, .int .i64 2] 56) := by
    rw [← hw3]
    have := new_block ((w.alloc (.cells #[.int .i64 90] 3)).alloc (.cells #[.int .i64 0, .int .i64 1, .int .i64 2] 3)) (.cells #[.int .i64 1, .slice (some ⟨w.heap.size, 0, none⟩) 1 1, .int .i64 0, .int .i64 0, .int .i64 1, .slice (some ⟨w.heap.size + 1, 0, none⟩) 3 3, .int .i64 0, .int .i64 0,
      .int .i64 0, .slice none 0 0, .int .i64 8, .int .i64 0, .int .i64 1, .slice none 0 0, .int .i64 0, .int .i64 2] 56)
    simpa using this
  clear hw3
  intro i hi
  refine ⟨w.heap.size + 2, 0, rfl, ?_⟩
  have hi' : i < 4 := hi
  have i0 : IntsAt w3 (some ⟨w.heap.size, 0, none⟩) [90] := IntsAt.of fun j hj => by
    match j, hj with
    | 0, _ => exact cell_of h0 0
  have i1 : IntsAt w3 (some ⟨w.heap.size + 1, 0, none⟩) [0, 1, 2] := IntsAt.of fun j hj => by
    match j, hj with
    | 0, _ => exact cell_of h1 0
    | 1, _ => exact cell_of h1 1
    | 2, _ => exact cell_of h1 2
  match i, hi' with
  | 0, _ => exact ⟨cell_of h2 0, ⟨_, _, cell_of h2 1, i0⟩, cell_of h2 2, cell_of h2 3⟩
  | 1, _ => exact ⟨cell_of h2 4, ⟨_, _, cell_of h2 5, i1⟩, cell_of h2 6, cell_of h2 7⟩
  | 2, _ => exact ⟨cell_of h2 8, ⟨_, _, cell_of h2 9, IntsAt.nil _ _⟩, cell_of h2 10, cell_of h2 11⟩
  | 3, _ => exact ⟨cell_of h2 12, ⟨_, _, cell_of h2 13, IntsAt.nil _ _⟩, cell_of h2 14, cell_of h2 15⟩

set_option maxHeartbeats 2000000 in
theorem awake9_calls (w : World) : Calls Try.prog 44 #[] w (RetBool true w) := by
  go_enter Try.func44, Try.ntmps44
  go_wp2_with fail
  refine (find_yes 90 rfl _).mono ?_
  rintro e w1 ⟨rfl, hb1⟩
  rw [show (opRow 90).cells = #[.int .i64 90, .int .i64 1, .bool false, .int .i64 8, .int .i64 1, .bool false] from rfl]
  go_wp2_with fail
  refine (command_ok (opRow 90) 258 none 0 [] 2 _ ok90 (IntsAt.nil _ _) (fun _ => rfl)).mono ?_
  rintro e w2 ⟨v2, rfl, hN2, hb2⟩
  rw [ps90_eq] at hN2
  have hB : w2.heap[w1.heap.size]? = some (.cells #[.int .i64 90, .int .i64 1, .bool false, .int .i64 8, .int .i64 1, .bool false] 35) := block_later hb2 (new_block _ _)
  have q2 := gtr (galloc hb1 _) hb2
  have hb1B : w1.heap.size < w2.heap.size := lt_of hB
  go_wp2_with fail
  refine (find_no 0 (by decide) _).mono ?_
  rintro e w3 ⟨rfl, hb3⟩
  rw [show OpR.zero.cells = #[.int .i64 0, .int .i64 0, .bool false, .int .i64 0, .int .i64 0, .bool false] from rfl]
  have hB3 := block_later hb3 hB
  have c0 : w3.cell? ⟨w1.heap.size, 0, none⟩ = _ := cell_of hB3 0
  have c1 : w3.cell? ⟨w1.heap.size, 1, none⟩ = _ := cell_of hB3 1
  have c2 : w3.cell? ⟨w1.heap.size, 2, none⟩ = _ := cell_of hB3 2
  have c3 : w3.cell? ⟨w1.heap.size, 3, none⟩ = _ := cell_of hB3 3
  have c4 : w3.cell? ⟨w1.heap.size, 4, none⟩ = _ := cell_of hB3 4
  have c5 : w3.cell? ⟨w1.heap.size, 5, none⟩ = _ := cell_of hB3 5
  simp at c0 c1 c2 c3 c4 c5
  have hz3 := lt_of hB3
  clear hB3 hB
  go_wp2_with fail
  refine (command_no (opRow 90) 4096 none 0 [] 2 _ (fun h => absurd h.hi (by decide)) (IntsAt.nil _ _) (by decide)).mono ?_
  rintro e w4 ⟨rfl, hb4⟩
  have q4 := gtr (galloc (gtr q2 hb3) _) hb4
  have hN4 : NewPhases w2 _ v2 ps90 := hN2
  obtain ⟨a2, cp2, rfl, hP2⟩ := hN2.reads
  have hP4 := hP2.later (gtr (galloc hb3 _) hb4)
  clear c0 c1 c2 c3 c4 c5 hP2 hN2 hN4
  go_wp2_with (go_at_call 27; refine (num_calls _ _).mono ?_; rintro e w' ⟨rfl, rfl⟩)
  have hl := lit90 w4
  have hg := (galloc (galloc (galloc (Below.refl w4.heap.size w4) (.cells #[.int .i64 90] 3)) (.cells #[.int .i64 0, .int .i64 1, .int .i64 2] 3)) (.cells #[.int .i64 1, .slice (some ⟨w4.heap.size, 0, none⟩) 1 1, .int .i64 0, .int .i64 0, .int .i64 1, .slice (some ⟨w4.heap.size + 1, 0, none⟩) 3 3, .int .i64 0, .int .i64 0, .int .i64 0, .slice none 0 0, .int .i64 8, .int .i64 0, .int .i64 1, .slice none 0 0, .int .i64 0, .int .i64 2] 56))
  generalize ((w4.alloc _).alloc _).alloc _ = w5 at *
  refine (samePhases_calls a2 _ cp2 4 ps90 ps90 _ (hP4.later hg) hl (by decide) (by decide)).mono ?_
  rintro e w6 ⟨rfl, n, rfl⟩
  go_wp2_with (go_at_call 27; refine (num_calls _ _).mono ?_; rintro e w' ⟨rfl, rfl⟩)
  go_ret
  exact ⟨rfl, gdrewN (gtr q4 hg) n⟩
end Go.Proofs.Ythlcnccniliigaa

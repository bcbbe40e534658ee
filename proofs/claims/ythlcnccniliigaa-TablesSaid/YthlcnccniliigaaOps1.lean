/- What every program answers that is one (chapter 4), and the statement OpsSaid's walk. -/
import Derived.Test.YthlcnccniliigaaOps0
namespace Go.Proofs.Ythlcnccniliigaa
open Go.RowKit
set_option linter.unusedVariables false

theorem row_cells (b : Int) : (opRow b).cells = #[.int .i64 (opRow b).byte, .int .i64 (opRow b).addr, .bool (opRow b).mode, .int .i64 (opRow b).dummy, .int .i64 (opRow b).data, .bool (opRow b).inn] := rfl

set_option maxHeartbeats 800000 in
theorem awake4_calls (w : World) : Calls Try.prog 35 #[] w (RetBool true w) := by
  have r1 : (opRow 235).cells = #[.int .i64 235, .int .i64 4, .bool true, .int .i64 4, .int .i64 4, .bool false] := rfl
  have r2 : (opRow 0).cells = #[.int .i64 0, .int .i64 0, .bool false, .int .i64 0, .int .i64 0, .bool false] := rfl
  have e1 : opErr 235 = 0 := rfl
  have e2 : opErr 0 = 400 := rfl
  go_enter Try.func35, Try.ntmps35
  go_wp2_with fail
  refine (of_calls 235 _).mono ?_
  rintro e w1 ⟨rfl, hb1⟩
  obtain ⟨hc1, hf1⟩ := bcell hb1
  go_wp2_with fail
  refine (of_calls 0 _).mono ?_
  rintro e w2 ⟨rfl, hb2⟩
  obtain ⟨hc2, hf2⟩ := bcell hb2
  have hz2 : w1.heap.size < w2.heap.size := by have := hb2.size; simp at this; omega
  go_wp2_with (first | (go_at_call 27; refine (num_calls _ _).mono ?_; rintro e w' ⟨rfl, rfl⟩) | (go_at_call 31; refine (all_calls _).mono ?_; rintro e w3 ⟨b3, rfl, hb3, hl3, hlt3, ho3⟩))
  go_ret
  exact ⟨rfl, by repeat (first | exact Below.refl _ _ | refine galloc ?_ _ | refine gdrewN ?_ _ | refine gtr ?_ ‹Below _ _ _›)⟩

set_option maxHeartbeats 800000 in
theorem ops_walk (b : Int) (w : World) : Calls Try.prog 7 #[.int .i64 b] w (RetBool true w) := by
  have r1 := row_cells b
  go_enter Try.func7, Try.ntmps7
  go_wp2_with fail
  refine (of_calls b _).mono ?_
  rintro e w1 ⟨rfl, hb1⟩
  obtain ⟨hc1, hf1⟩ := bcell hb1
  go_wp2_with fail
  refine (rof_calls b _).mono ?_
  rintro e w2 ⟨rfl, hb2⟩
  obtain ⟨hc2, hf2⟩ := bcell hb2
  have hz2 : w1.heap.size < w2.heap.size := by have := hb2.size; simp at this; omega
  go_wp2_with fail
  refine (all_calls _).mono ?_
  rintro e w3 ⟨b3, rfl, hb3, hl3, hlt3, ho3⟩
  obtain ⟨hc3, hf3⟩ := bcell hb3
  have hz3 : w2.heap.size < w3.heap.size := by have := hb3.size; simp at this; omega
  have hz31 : w1.heap.size < w3.heap.size := by omega
  go_wp2_with (first | (go_at_call 27; refine (num_calls _ _).mono ?_; rintro e w' ⟨rfl, rfl⟩))
  refine (rall_calls _).mono ?_
  rintro e w4 ⟨b4, rfl, hb4, hl4, hlt4, ho4⟩
  have ho34 := block_later hb4 ho3
  have hlt34 := lt_of ho34
  go_wp2_with fail
  refine (sameInts_calls (some ⟨b3, 0, none⟩) (some ⟨b4, 0, none⟩) 14 14 opBytes opBytes _ (opObj_ints ho34) (opObj_ints ho4) (by decide)).mono ?_
  rintro e w5 ⟨rfl, n5, rfl⟩
  go_wp2_with fail
  refine (spoil_calls b3 0 14 14 _ (by decide) (by simpa using hlt34) (fun i hi => ?_) (fun i hi => ?_)).mono ?_
  · obtain ⟨b', o', ha', hc'⟩ := opObj_ints ho34 i hi
    obtain ⟨rfl, rfl⟩ : b3 = b' ∧ 0 = o' := by simpa using ha'
    exact ⟨_, hc'⟩
  · exact free_of ho34 _
  rintro e w6 ⟨rfl, hb6⟩
  go_wp2_with fail
  refine (all_calls _).mono ?_
  rintro e w7 ⟨b7, rfl, hb7, hl7, hlt7, ho7⟩
  go_wp2_with fail
  refine (rall_calls _).mono ?_
  rintro e w8 ⟨b8, rfl, hb8, hl8, hlt8, ho8⟩
  have ho78 := block_later hb8 ho7
  go_wp2_with fail
  refine (sameInts_calls (some ⟨b7, 0, none⟩) (some ⟨b8, 0, none⟩) 14 14 opBytes opBytes _ (opObj_ints ho78) (opObj_ints ho8) (by decide)).mono ?_
  rintro e w9 ⟨rfl, n9, rfl⟩
  go_wp2_with fail
  refine (awake4_calls _).mono ?_
  rintro e w10 ⟨rfl, hb10⟩
  go_wp2_with fail
  go_ret
  have q1 : Below w.heap.size w w1 := hb1
  have q2 := galloc (gtr (galloc q1 (.cells (opRow b).cells 35)) hb2) (.cells (opRow b).cells 35)
  have q3 := gtr q2 hb3
  have q5 := gdrewN (gtr q3 hb4) n5
  have q6 : Below w.heap.size w w6 := q5.trans (hb6.mono (Nat.le_trans q2.size hl3))
  exact ⟨rfl, gtr (gdrewN (gtr (gtr q6 hb7) hb8) _) hb10⟩
end Go.Proofs.Ythlcnccniliigaa

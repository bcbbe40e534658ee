/- OpTable's walk. -/
import Derived.Test.YthlcnccniliigaaOps1
import Derived.Test.YthlcnccniliigaaArith
import Derived.Outline
import Derived.Deep.DeepCutAuto
namespace Go.Proofs.Ythlcnccniliigaa
open Go.RowKit
set_option linter.unusedVariables false

def wantCells : Array Value := (opBytes.flatMap fun b => (opRow b).cells.toList).toArray

theorem want_at (k : Nat) (hk : k < 14) : wantCells[k * 6]? = some (.int .i64 (opRow (opBytes.getD k 0)).byte) ∧ wantCells[k * 6 + 1]? = some (.int .i64 (opRow (opBytes.getD k 0)).addr) ∧ wantCells[k * 6 + 2]? = some (.bool (opRow (opBytes.getD k 0)).mode) ∧
    wantCells[k * 6 + 3]? = some (.int .i64 (opRow (opBytes.getD k 0)).dummy) ∧ wantCells[k * 6 + 4]? = some (.int .i64 (opRow (opBytes.getD k 0)).data) ∧ wantCells[k * 6 + 5]? = some (.bool (opRow (opBytes.getD k 0)).inn) ∧
    opErr (opRow (opBytes.getD k 0)).byte = 0 ∧ opRow (opRow (opBytes.getD k 0)).byte = opRow (opBytes.getD k 0) ∧ opBytes.getD k 0 = (opRow (opBytes.getD k 0)).byte := by
  match k, hk with
  | 0, _ | 1, _ | 2, _ | 3, _ | 4, _ | 5, _ | 6, _ | 7, _ | 8, _ | 9, _ | 10, _ | 11, _ | 12, _ | 13, _ => exact ⟨rfl, rfl, rfl, rfl, rfl, rfl, rfl, rfl, rfl⟩

theorem rem14 (a : Int) : ∃ k : Nat, k < 14 ∧ IntKind.i64.wrap ((IntKind.u64.wrap a).tmod 14) = (k : Int) := by
  rw [IntKind.wrap_u64, Int.tmod_eq_emod_of_nonneg (by omega)]
  refine ⟨(a % 18446744073709551616 % 14).toNat, by omega, ?_⟩
  rw [IntWalk.i64_in _ (by omega)]
  omega

theorem num_quiet (n : Int) (w : World) : Calls Try.prog 27 #[.int .i64 n] w fun e w' => e = .returned (.int .i64 n) ∧ w' = w :=
  (num_calls n w).mono fun _ _ h => ⟨h.1, h.2.symm⟩

set_option maxHeartbeats 1000000 in
theorem optable_walk (a : Int) (w : World) : Calls Try.prog 9 #[.int .i64 a] w (RetBool true w) := by
  go_enter Try.func9, Try.ntmps9
  go_wp2_with fail
  refine (awake4_calls _).mono ?_
  rintro e w1 ⟨rfl, hb1⟩
  obtain ⟨k, hk, hke⟩ := rem14 a
  go_upto_region 4 with (fail)
  generalize hW : w1.alloc _ = w2
  have hb2 : Below w1.heap.size w1 w2 := by rw [← hW]; exact galloc (Below.refl _ _) _
  have ho : w2.heap[w1.heap.size]? = some (.cells wantCells 35) := by rw [← hW]; exact new_block _ _
  clear hW
  have hq2 : Below w.heap.size w w2 := gtr hb1 hb2
  generalize w1.heap.size = B at *
  clear hb1 hb2 w1
  obtain ⟨q0, q1, q2, q3, q4, q5, herr, hrow, hbyte⟩ := want_at k hk
  generalize hrr : opRow (opBytes.getD k 0) = r at *
  have c0 := (cell_of ho (k * 6)).trans q0
  have c1 := (cell_of ho (k * 6 + 1)).trans q1
  have c2 := (cell_of ho (k * 6 + 2)).trans q2
  have c3 := (cell_of ho (k * 6 + 3)).trans q3
  have c4 := (cell_of ho (k * 6 + 4)).trans q4
  have c5 := (cell_of ho (k * 6 + 5)).trans q5
  have hB := lt_of ho
  clear q0 q1 q2 q3 q4 q5 ho hrr
  have HB := Lib.hid hbyte
  clear hbyte
  have hk' : (k : Int) < 14 := by omega
  go_wp2_with fail
  refine (of_calls r.byte _).mono ?_
  rintro e w3 ⟨rfl, hb3⟩
  rw [hrow, herr, show r.cells = #[.int .i64 r.byte, .int .i64 r.addr, .bool r.mode, .int .i64 r.dummy, .int .i64 r.data, .bool r.inn] from rfl]
  clear hrow herr
  obtain ⟨hc3, hf3⟩ := bcell hb3
  have hz3 := hb3.size
  go_wp2_with fail
  refine (all_calls _).mono ?_
  rintro e w4 ⟨b4, rfl, hb4, hl4, hlt4, ho4⟩
  obtain ⟨hc4, hf4⟩ := bcell hb4
  have d0 : w4.cell? ⟨b4, k, none⟩ = some (.int .i64 r.byte) := by
    obtain ⟨b', o', ha', hc'⟩ := opObj_ints ho4 k hk
    obtain ⟨rfl, rfl⟩ : b4 = b' ∧ 0 = o' := by simpa using ha'
    rw [Nat.zero_add] at hc'; rw [hc', HB.out]
  have hz4 : B < w3.heap.size := by omega
  go_upto_region 7 with (fail)
  have t : ∀ j v, w2.cell? ⟨B, k * 6 + j, none⟩ = some v → w4.cell? ⟨B, k * 6 + j, none⟩ = some v := fun j v h => by
    rw [hc4 _ _ (by simp; omega), World.cell?_alloc_lt _ _ _ hz4, hc3 _ _ hB]; exact h
  have g0 : w4.cell? ⟨B, k * 6, none⟩ = some (.int .i64 r.byte) := t 0 _ c0
  have g1 := t 1 _ c1
  have g2 := t 2 _ c2
  have g3 := t 3 _ c3
  have g4 := t 4 _ c4
  have g5 := t 5 _ c5
  have hn : w4.heap[w3.heap.size]? = some (.cells #[.int .i64 r.byte, .int .i64 r.addr, .bool r.mode, .int .i64 r.dummy, .int .i64 r.data, .bool r.inn] 35) := block_later hb4 (new_block _ _)
  have m0 : w4.cell? ⟨w3.heap.size, 0, none⟩ = some (.int .i64 r.byte) := cell_of hn 0
  have m1 : w4.cell? ⟨w3.heap.size, 1, none⟩ = some (.int .i64 r.addr) := cell_of hn 1
  have m2 : w4.cell? ⟨w3.heap.size, 2, none⟩ = some (.bool r.mode) := cell_of hn 2
  have m3 : w4.cell? ⟨w3.heap.size, 3, none⟩ = some (.int .i64 r.dummy) := cell_of hn 3
  have m4 : w4.cell? ⟨w3.heap.size, 4, none⟩ = some (.int .i64 r.data) := cell_of hn 4
  have m5 : w4.cell? ⟨w3.heap.size, 5, none⟩ = some (.bool r.inn) := cell_of hn 5
  have q4 : Below w.heap.size w w4 := gtr (galloc (gtr hq2 hb3) _) hb4
  clear t hn hc3 hf3 hc4 hf4 hb3 hb4 c0 c1 c2 c3 c4 c5 hq2 hl4 hlt4 ho4 hz4 hz3 hB
  generalize w3.heap.size = C at *
  clear w3 w2 HB hke
  go_quiet ((go_at_call 27; exact Calls.quiet_of_same (num_quiet _ _)))
  go_wp2
  go_ret
  exact ⟨rfl, gdrewN q4 _⟩
end Go.Proofs.Ythlcnccniliigaa

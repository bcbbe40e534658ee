/- SamePhases tells whether two slices read as one list of phases; only draws. Conditions: the slices read as the phases. -/
import Derived.Test.YthlcnccniliigaaCommand
namespace Go.Proofs.Ythlcnccniliigaa
open Go.RowKit
set_option linter.unusedVariables false

/-- The four cells of a phase. -/
structure PhAt (w : World) (b o : Nat) (p : Ph) : Prop where
  lanes : w.cell? ⟨b, o, none⟩ = some (.int .i64 p.lanes)
  bytes : ∃ a c, w.cell? ⟨b, o + 1, none⟩ = some (.slice a p.bytes.length c) ∧ IntsAt w a p.bytes
  clocks : w.cell? ⟨b, o + 2, none⟩ = some (.int .i64 p.clocks)
  read : w.cell? ⟨b, o + 3, none⟩ = some (.int .i64 p.read)

def Ph.zero : Ph := ⟨0, [], 0, 0⟩
def PhasesAt (w : World) (a : Option Addr) (ps : List Ph) : Prop := ∀ i, i < ps.length → ∃ b off, a = some ⟨b, off, none⟩ ∧ PhAt w b (off + i * 4) (ps.getD i Ph.zero)

theorem PhasesAt.at {w : World} {a : Option Addr} {ps : List Ph} (h : PhasesAt w a ps) (hp : 0 < ps.length) :
    ∃ b off, a = some ⟨b, off, none⟩ ∧ ∀ i, i < ps.length → PhAt w b (off + i * 4) (ps.getD i Ph.zero) := by
  obtain ⟨b, off, ha, _⟩ := h 0 hp
  refine ⟨b, off, ha, fun i hi => ?_⟩
  obtain ⟨b', off', ha', hc⟩ := h i hi
  rw [ha] at ha'
  obtain ⟨rfl, rfl⟩ : b = b' ∧ off = off' := by simpa using ha'
  exact hc

theorem PhAt.later {w w' : World} {b o : Nat} {p : Ph} (h : PhAt w b o p) (hb : Below w.heap.size w w') : PhAt w' b o p := by
  have hlt := World.block_lt_of_cell? w _ h.lanes
  refine ⟨(hb.cell (p := ⟨b, o, none⟩) hlt).trans h.lanes, ?_, (hb.cell (p := ⟨b, o + 2, none⟩) hlt).trans h.clocks, (hb.cell (p := ⟨b, o + 3, none⟩) hlt).trans h.read⟩
  obtain ⟨a, c, hc, hi⟩ := h.bytes
  exact ⟨a, c, (hb.cell (p := ⟨b, o + 1, none⟩) hlt).trans hc, hi.later hb⟩
theorem PhasesAt.later {w w' : World} {a : Option Addr} {ps : List Ph} (h : PhasesAt w a ps) (hb : Below w.heap.size w w') : PhasesAt w' a ps := by
  intro i hi
  obtain ⟨b, off, ha, hp⟩ := h i hi
  exact ⟨b, off, ha, hp.later hb⟩

theorem phCells_get (l : List (Ph × Value)) : ∀ i (hi : i < l.length), (phCells l)[i * 4]? = some (.int .i64 (l[i]).1.lanes) ∧ (phCells l)[i * 4 + 1]? = some (l[i]).2 ∧ (phCells l)[i * 4 + 2]? = some (.int .i64 (l[i]).1.clocks) ∧ (phCells l)[i * 4 + 3]? = some (.int .i64 (l[i]).1.read) := by
  induction l with
  | nil => intro i hi; simp at hi
  | cons x r ih =>
    intro i hi
    cases i with
    | zero => simp [phCells]
    | succ i =>
      have := ih i (by simpa using hi)
      have e : ∀ k, (phCells (x :: r))[(i + 1) * 4 + k]? = (phCells r)[i * 4 + k]? := by
        intro k
        have e2 : (i + 1) * 4 + k = 4 + (i * 4 + k) := by omega
        have e3 : phCells (x :: r) = [.int .i64 x.1.lanes, x.2, .int .i64 x.1.clocks, .int .i64 x.1.read] ++ phCells r := rfl
        rw [e2, e3, List.getElem?_append_right (by simp)]
        simp
      refine ⟨?_, ?_, ?_, ?_⟩
      · rw [show (i + 1) * 4 = (i + 1) * 4 + 0 from rfl, e 0]; exact this.1
      · rw [e 1]; exact this.2.1
      · rw [e 2]; exact this.2.2.1
      · rw [e 3]; exact this.2.2.2

/-- New phases read as phases. -/
theorem NewPhases.reads {w : World} {B : Nat} {v : Value} {ps : List Ph} (h : NewPhases w B v ps) : ∃ a c, v = .slice a ps.length c ∧ PhasesAt w a ps := by
  obtain ⟨l, rfl, hN, ho⟩ := h
  rcases ho.2 with ⟨rfl, hn⟩ | ⟨g, cap, cur, rfl, hb, hg, hnc, _, hcs, htake⟩
  · exact ⟨none, 0, by simp [hn], fun i hi => by simp at hi; omega⟩
  · refine ⟨some ⟨g, 0, none⟩, cap, by simp, fun i hi => ⟨g, 0, rfl, ?_⟩⟩
    have hi' : i < l.length := by simpa using hi
    obtain ⟨h0, h1, h2, h3⟩ := phCells_get l i hi'
    have hcell : ∀ j u, (phCells l)[j]? = some u → w.cell? ⟨g, j, none⟩ = some u := by
      intro j u hu
      rw [← htake, List.getElem?_take] at hu
      split at hu
      · rw [cell_of hg]; simpa using hu
      · cases hu
    have hp : (l.map (·.1)).getD i Ph.zero = (l[i]).1 := by simp [List.getD, hi']
    rw [hp, Nat.zero_add]
    obtain ⟨a, c, hv, hints⟩ := (hN _ (List.getElem_mem hi')).ints
    exact ⟨hcell _ _ h0, ⟨a, c, by rw [← hv]; exact hcell _ _ h1, hints⟩, hcell _ _ h2, hcell _ _ h3⟩

theorem same_get_ph (xs ys : List Ph) (hl : xs.length = ys.length) (h : ∀ j, j < xs.length → xs.getD j Ph.zero = ys.getD j Ph.zero) : xs = ys := by
  refine List.ext_getElem hl fun i h1 h2 => ?_
  have := h i h1
  simpa [List.getD, List.getElem?_eq_getElem h1, List.getElem?_eq_getElem h2] using this

theorem samePhases_len (a1 a2 : Option Addr) (c1 c2 : Nat) (xs ys : List Ph) (w : World) (hl : xs.length ≠ ys.length) :
    Calls Try.prog 41 #[.slice a1 xs.length c1, .slice a2 ys.length c2] w (BoolDrew false w) := by
  have g : ((xs.length : Int) != (ys.length : Int)) = true := by simp; omega
  clear hl
  go_enter Try.func41, Try.ntmps41
  go_wp2
  go_ret
  exact ⟨rfl, 0, rfl⟩

set_option maxRecDepth 100000 in
set_option maxHeartbeats 4000000 in
theorem samePhases_calls (a1 a2 : Option Addr) (c1 c2 : Nat) (xs ys : List Ph) (w : World) (h1 : PhasesAt w a1 xs) (h2 : PhasesAt w a2 ys) (hm : xs.length ≤ 9223372036854775807)
    (hb : ∀ p ∈ xs, p.bytes.length ≤ 9223372036854775807) : Calls Try.prog 41 #[.slice a1 xs.length c1, .slice a2 ys.length c2] w (BoolDrew (decide (xs = ys)) w) := by
  by_cases hl : xs.length = ys.length
  case neg =>
    have e : decide (xs = ys) = false := by simp; intro h; exact hl (by rw [h])
    rw [e]; exact samePhases_len a1 a2 c1 c2 xs ys w hl
  rw [← hl]
  have HL := Lib.hid hl
  clear hl
  go_enter Try.func41, Try.ntmps41
  go_wp2_with fail
  go_loopw [5] (fun i wr => ∃ k n : Nat, k ≤ xs.length ∧ i = .int .i64 k ∧ wr = w.drewN n ∧ ∀ j, j < k → xs.getD j Ph.zero = ys.getD j Ph.zero) (fun i _ => xs.length - (intOf i).toNat)
  case atStart => exact ⟨0, 0, Nat.zero_le _, rfl, rfl, fun j hj => by omega⟩
  case round =>
    obtain ⟨k, n, hk, rfl, rfl, hsame⟩ := hrel
    have HS := Lib.hid hsame
    clear hsame
    by_cases hlt : k < xs.length
    · obtain ⟨b1, o1, rfl, g1⟩ := h1.at (by omega)
      obtain ⟨b2, o2, rfl, g2⟩ := h2.at (by rw [← HL.out]; omega)
      have q1 := g1 k hlt
      have q2 := g2 k (by rw [← HL.out]; omega)
      have hlt' : (k : Int) < (xs.length : Int) := by omega
      have hbk : (xs.getD k Ph.zero).bytes.length ≤ 9223372036854775807 := hb _ (by simp [List.getD, List.getElem?_eq_getElem hlt])
      clear g1 g2 h1 h2 hb
      have HD := Lib.hid (show xs.getD k Ph.zero = ys.getD k Ph.zero ∨ decide (xs = ys) = false from by
        by_cases h : xs.getD k Ph.zero = ys.getD k Ph.zero
        · exact .inl h
        · right; simp; intro e; exact h (by rw [e]))
      have HF := Lib.hid (show xs.getD k Ph.zero ≠ ys.getD k Ph.zero → decide (xs = ys) = false from fun h => by simp; intro e; exact h (by rw [e]))
      obtain ⟨p1, a1, k1, r1⟩ := q1
      obtain ⟨p2, a2, k2, r2⟩ := q2
      obtain ⟨x1, cx1, b1c, i1⟩ := a1
      obtain ⟨x2, cx2, b2c, i2⟩ := a2
      generalize hx : xs.getD k Ph.zero = x at *
      generalize hy : ys.getD k Ph.zero = y at *
      have HX := Lib.hid hx
      have HY := Lib.hid hy
      clear hx hy
      have p1 : (w.drewN n).cell? ⟨b1, o1 + k * 4, none⟩ = some (.int .i64 x.lanes) := p1
      have p2 : (w.drewN n).cell? ⟨b2, o2 + k * 4, none⟩ = some (.int .i64 y.lanes) := p2
      have k1 : (w.drewN n).cell? ⟨b1, o1 + k * 4 + 2, none⟩ = some (.int .i64 x.clocks) := k1
      have k2 : (w.drewN n).cell? ⟨b2, o2 + k * 4 + 2, none⟩ = some (.int .i64 y.clocks) := k2
      have r1 : (w.drewN n).cell? ⟨b1, o1 + k * 4 + 3, none⟩ = some (.int .i64 x.read) := r1
      have r2 : (w.drewN n).cell? ⟨b2, o2 + k * 4 + 3, none⟩ = some (.int .i64 y.read) := r2
      have b1c : (w.drewN n).cell? ⟨b1, o1 + k * 4 + 1, none⟩ = some (.slice x1 x.bytes.length cx1) := b1c
      have b2c : (w.drewN n).cell? ⟨b2, o2 + k * 4 + 1, none⟩ = some (.slice x2 y.bytes.length cx2) := b2c
      have i1 : IntsAt (w.drewN n) x1 x.bytes := i1
      have i2 : IntsAt (w.drewN n) x2 y.bytes := i2
      generalize hwn : w.drewN n = wn at p1 p2 k1 k2 r1 r2 b1c b2c i1 i2 ⊢
      have HW := Lib.hid hwn
      clear hwn HD
      by_cases e1 : x.lanes = y.lanes
      case neg =>
        have hxy : x ≠ y := fun e => e1 (by rw [e])
        have g : (x.lanes != y.lanes) = true := bne_iff_ne.2 e1
        clear e1
        have HF2 := Lib.hid (HF.out hxy)
        clear hxy
        go_wp2_with fail
        go_quiet (fail)
        go_wp2
        go_ret
        exact ⟨by rw [HF2.out]; rfl, n + nq, by rw [← HW.out]; simp⟩
      have g1 : (x.lanes != y.lanes) = false := by rw [bne_eq_false_iff_eq]; exact e1
      have E1 := Lib.hid e1
      clear e1
      by_cases e2 : x.clocks = y.clocks
      case neg =>
        have hxy : x ≠ y := fun e => e2 (by rw [e])
        have g : (x.clocks != y.clocks) = true := bne_iff_ne.2 e2
        clear e2
        have HF2 := Lib.hid (HF.out hxy)
        clear hxy
        go_wp2_with fail
        go_quiet (fail)
        go_wp2
        go_ret
        exact ⟨by rw [HF2.out]; rfl, n + nq, by rw [← HW.out]; simp⟩
      have g2 : (x.clocks != y.clocks) = false := by rw [bne_eq_false_iff_eq]; exact e2
      have E2 := Lib.hid e2
      clear e2
      by_cases e3 : x.read = y.read
      case neg =>
        have hxy : x ≠ y := fun e => e3 (by rw [e])
        have g : (x.read != y.read) = true := bne_iff_ne.2 e3
        clear e3
        have HF2 := Lib.hid (HF.out hxy)
        clear hxy
        go_wp2_with fail
        go_quiet (fail)
        go_wp2
        go_ret
        exact ⟨by rw [HF2.out]; rfl, n + nq, by rw [← HW.out]; simp⟩
      have g3 : (x.read != y.read) = false := by rw [bne_eq_false_iff_eq]; exact e3
      have E3 := Lib.hid e3
      clear e3
      by_cases e4 : x.bytes = y.bytes
      case neg =>
        have hxy : x ≠ y := fun e => e4 (by rw [e])
        have HF2 := Lib.hid (HF.out hxy)
        have h4 : decide (x.bytes = y.bytes) = false := by simp [e4]
        clear hxy e4
        have HSI := Lib.hid (fun m => sameInts_calls x1 x2 cx1 cx2 x.bytes y.bytes (wn.drewN m) i1 i2 hbk)
        rw [h4] at HSI
        clear h4 i1 i2
        go_wp2_with fail
        go_quiet ((go_at_call 32; exact Calls.quiet_of (HSI.out _)))
        go_wp2
        go_ret
        exact ⟨by rw [HF2.out]; rfl, n + nq, by rw [← HW.out]; simp⟩
      have hxy : x = y := by cases x; cases y; have := E1.out; have := E2.out; have := E3.out; simp_all
      have HXY := Lib.hid hxy
      have h4 : decide (x.bytes = y.bytes) = true := by simp [e4]
      have HSI := Lib.hid (fun m => sameInts_calls x1 x2 cx1 cx2 x.bytes y.bytes (wn.drewN m) i1 i2 hbk)
      rw [h4] at HSI
      clear h4 i1 i2 hxy e4
      go_wp2_with fail
      go_quiet ((go_at_call 32; exact Calls.quiet_of (HSI.out _)))
      go_wp2
      go_roundw
      case rel => exact ⟨k + 1, n + nq, by omega, by go_num, by rw [← HW.out]; simp, fun j hj => by
        by_cases hjk : j < k
        · exact HS.out j hjk
        · obtain rfl : j = k := by omega
          rw [HX.out, HY.out, HXY.out]⟩
      case measure => simp [intOf]; omega
    · obtain rfl : k = xs.length := by omega
      have hf : decide (xs = ys) = true := by simp; exact same_get_ph xs ys HL.out HS.out
      have HF := Lib.hid hf
      clear hf
      go_wp2_with fail
      go_ret
      exact ⟨by rw [HF.out]; rfl, n, rfl⟩
end Go.Proofs.Ythlcnccniliigaa

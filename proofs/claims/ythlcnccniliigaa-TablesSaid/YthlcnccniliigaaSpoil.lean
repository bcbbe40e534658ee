/- SpoilInts and SpoilPhases write only where new memory lies. Conditions: the slices read as ints, as phases, in memory from block B on, not frozen. -/
import Derived.Test.YthlcnccniliigaaPhases
import Derived.Test.YthlcnccniliigaaOps0
namespace Go.Proofs.Ythlcnccniliigaa
open Go.RowKit
set_option linter.unusedVariables false

/-- Only ints of block b were turned, into ints. -/
structure Turned (b : Nat) (w w' : World) : Prop where
  below : ∀ B, B ≤ b → Below B w w'
  other : ∀ (p : Addr) v, w.cell? p = some v → (∀ x, v ≠ .int .i64 x) → w'.cell? p = some v
  ints : ∀ p : Addr, (∃ x, w.cell? p = some (.int .i64 x)) → ∃ y, w'.cell? p = some (.int .i64 y)
  free : ∀ p : Addr, w'.frozen? p = w.frozen? p

theorem Turned.refl (b : Nat) (w : World) : Turned b w w := ⟨fun _ _ => Below.refl _ _, fun _ _ h _ => h, fun _ h => h, fun _ => rfl⟩
theorem Turned.set {b : Nat} {w w' : World} (h : Turned b w w') (o : Nat) (x y : Int) (hc : w'.cell? ⟨b, o, none⟩ = some (.int .i64 x)) : Turned b w (w'.setCell ⟨b, o, none⟩ (.int .i64 y)) := by
  refine ⟨fun B hB => (h.below B hB).setCell hB _, fun p v hp hv => ?_, fun p hx => ?_, fun p => (World.frozen?_setCell _ _ _ _).trans (h.free p)⟩
  · by_cases e : p = ⟨b, o, none⟩
    · rw [e] at hp
      have h2 := (h.other _ v hp hv).symm.trans hc
      exact absurd (Option.some.inj h2) (hv x)
    · exact (World.cell?_setCell_other _ _ _ _ (Ne.symm e)).trans (h.other _ v hp hv)
  · by_cases e : p = ⟨b, o, none⟩
    · rw [e]; exact ⟨_, World.cell?_setCell_same _ _ _ hc⟩
    · obtain ⟨z, hz⟩ := h.ints p hx
      exact ⟨z, (World.cell?_setCell_other _ _ _ _ (Ne.symm e)).trans hz⟩

set_option maxHeartbeats 800000 in
theorem spoilInts_calls (b off n c : Nat) (w : World) (hn : n ≤ 9223372036854775807)
    (hc : ∀ i, i < n → ∃ x, w.cell? ⟨b, off + i, none⟩ = some (.int .i64 x)) (hf : ∀ i, i < n → w.frozen? ⟨b, off + i, none⟩ = false) :
    Calls Try.prog 34 #[.slice (some ⟨b, off, none⟩) n c] w (fun e w' => e = .returned (.tuple #[]) ∧ Turned b w w') := by
  go_enter Try.func34, Try.ntmps34
  go_wp2
  go_loopw [2] (fun i wr => ∃ k : Nat, k ≤ n ∧ i = .int .i64 k ∧ Turned b w wr) (fun i _ => n - (intOf i).toNat)
  case atStart => exact ⟨0, Nat.zero_le _, rfl, Turned.refl _ _⟩
  case round =>
    obtain ⟨k, hk, rfl, ht⟩ := hrel
    have HC := Lib.hid hc
    have HF := Lib.hid hf
    clear hc hf
    by_cases hlt : k < n
    · obtain ⟨x, hx⟩ := ht.ints _ (HC.out k hlt)
      have hz : wr.frozen? ⟨b, off + k, none⟩ = false := (ht.free _).trans (HF.out k hlt)
      have hlt' : (k : Int) < (n : Int) := by omega
      go_wp2
      go_roundw
      case rel => exact ⟨k + 1, by omega, by go_num, ht.set _ _ _ hx⟩
      case measure => simp [intOf]; omega
    · obtain rfl : k = n := by omega
      go_wp2
      go_end0
      exact ⟨rfl, ht⟩

theorem spoilNil_calls (a : Option Addr) (c : Nat) (w : World) : Calls Try.prog 34 #[.slice a 0 c] w (fun e w' => e = .returned (.tuple #[]) ∧ w' = w) := by
  go_enter Try.func34, Try.ntmps34
  go_wp2
  refine wp_loop_rounds 1 ?_
  rw [rounds_succ]
  go_wp2
  go_end0
  exact ⟨rfl, rfl⟩

/-- A phase's four cells, its ints whatever they are, in memory from block B on. -/
structure PhLoose (w : World) (B b o : Nat) : Prop where
  lanes : ∃ x, w.cell? ⟨b, o, none⟩ = some (.int .i64 x)
  free : w.frozen? ⟨b, o, none⟩ = false
  bytes : ∃ a n c, w.cell? ⟨b, o + 1, none⟩ = some (.slice a n c) ∧ n ≤ 9223372036854775807 ∧ (n = 0 ∨ ∃ b' off, a = some ⟨b', off, none⟩ ∧ B ≤ b' ∧
    (∀ i, i < n → ∃ x, w.cell? ⟨b', off + i, none⟩ = some (.int .i64 x)) ∧ ∀ i, i < n → w.frozen? ⟨b', off + i, none⟩ = false)

theorem PhLoose.turned {w w' : World} {B b o b' : Nat} (h : PhLoose w B b o) (ht : Turned b' w w') : PhLoose w' B b o := by
  obtain ⟨h1, h2, a, n, c, h3, h4, h5⟩ := h
  refine ⟨ht.ints _ h1, (ht.free _).trans h2, a, n, c, ht.other _ _ h3 (fun x e => by cases e), h4, ?_⟩
  rcases h5 with h5 | ⟨b1, off, ha, hB, hx, hf⟩
  · exact .inl h5
  · exact .inr ⟨b1, off, ha, hB, fun i hi => ht.ints _ (hx i hi), fun i hi => (ht.free _).trans (hf i hi)⟩

set_option maxHeartbeats 1600000 in
theorem spoilPhases_calls (B b off n c : Nat) (w : World) (hn : n ≤ 9223372036854775807) (hB : B ≤ b) (h : ∀ i, i < n → PhLoose w B b (off + i * 4)) :
    Calls Try.prog 42 #[.slice (some ⟨b, off, none⟩) n c] w (fun e w' => e = .returned (.tuple #[]) ∧ Below B w w') := by
  go_enter Try.func42, Try.ntmps42
  go_wp2
  go_loopw [2] (fun i wr => ∃ k : Nat, k ≤ n ∧ i = .int .i64 k ∧ Below B w wr ∧ ∀ i, i < n → PhLoose wr B b (off + i * 4)) (fun i _ => n - (intOf i).toNat)
  case atStart => exact ⟨0, Nat.zero_le _, rfl, Below.refl _ _, h⟩
  case round =>
    obtain ⟨k, hk, rfl, hb, hl⟩ := hrel
    clear h
    by_cases hlt : k < n
    · have hlt' : (k : Int) < (n : Int) := by omega
      obtain ⟨⟨x, hx⟩, hz, a, m, cc, h3, h4, h5⟩ := hl k hlt
      have hmid : Calls Try.prog 34 #[.slice a m cc] wr (fun e w' => e = .returned (.tuple #[]) ∧ ∃ b', B ≤ b' ∧ Turned b' wr w') := by
        rcases h5 with rfl | ⟨b1, o1, rfl, hB1, hx1, hf1⟩
        · refine (spoilNil_calls a cc wr).mono ?_
          rintro e w' ⟨rfl, rfl⟩
          exact ⟨rfl, b, hB, Turned.refl _ _⟩
        · refine (spoilInts_calls b1 o1 m cc wr h4 hx1 hf1).mono ?_
          rintro e w' ⟨rfl, ht⟩
          exact ⟨rfl, b1, hB1, ht⟩
      have HM := Lib.hid hmid
      have HL := Lib.hid hl
      clear hmid h5 hl
      go_wp2_with fail
      refine HM.out.mono ?_
      rintro e w1 ⟨rfl, b1, hB1, ht⟩
      obtain ⟨x1, hx1⟩ := ht.ints _ ⟨x, hx⟩
      have hz1 := (ht.free _).trans hz
      clear hx hz h3 HM
      go_wp2_with fail
      go_roundw
      case rel => exact ⟨k + 1, by omega, by go_num, (hb.trans (ht.below B hB1)).trans (((Turned.refl b w1).set _ _ _ hx1).below B hB), fun i hi => ((HL.out i hi).turned ht).turned ((Turned.refl b w1).set _ _ _ hx1)⟩
      case measure => simp [intOf]; omega
    · obtain rfl : k = n := by omega
      go_wp2
      go_end0
      exact ⟨rfl, hb⟩

theorem spoilPhasesNil_calls (a : Option Addr) (c : Nat) (w : World) : Calls Try.prog 42 #[.slice a 0 c] w (fun e w' => e = .returned (.tuple #[]) ∧ w' = w) := by
  go_enter Try.func42, Try.ntmps42
  go_wp2
  refine wp_loop_rounds 1 ?_
  rw [rounds_succ]
  go_wp2
  go_end0
  exact ⟨rfl, rfl⟩

theorem loose_of_new {w : World} {B : Nat} {v : Value} {ps : List Ph} (h : NewPhases w B v ps) (hb : ∀ p ∈ ps, p.bytes.length ≤ 9223372036854775807) (hp : 0 < ps.length) :
    ∃ g c, v = .slice (some ⟨g, 0, none⟩) ps.length c ∧ B ≤ g ∧ ∀ i, i < ps.length → PhLoose w B g (0 + i * 4) := by
  obtain ⟨l, rfl, hN, ho⟩ := h
  rcases ho.2 with ⟨rfl, hn⟩ | ⟨g, cap, cur, rfl, hB, hg, hnc, _, hcs, htake⟩
  · simp at hp; omega
  refine ⟨g, cap, by simp, hB, fun i hi => ?_⟩
  have hi' : i < l.length := by simpa using hi
  obtain ⟨h0, h1, h2, h3⟩ := phCells_get l i hi'
  have hcell : ∀ j u, (phCells l)[j]? = some u → w.cell? ⟨g, j, none⟩ = some u := by
    intro j u hu
    rw [← htake, List.getElem?_take] at hu
    split at hu
    · rw [cell_of hg]; simpa using hu
    · cases hu
  rw [Nat.zero_add]
  obtain ⟨a, c, hv, hints⟩ := hN _ (List.getElem_mem hi')
  refine ⟨⟨_, hcell _ _ h0⟩, free_of hg _, a, (l[i]).1.bytes.length, c, by rw [← hv]; exact hcell _ _ h1, hb _ (List.mem_map.2 ⟨_, List.getElem_mem hi', rfl⟩), ?_⟩
  by_cases hz : (l[i]).1.bytes.length = 0
  · exact .inl hz
  · obtain ⟨b0, o0, cur0, ha, hB0, hh0, _⟩ := hints 0 (by omega)
    refine .inr ⟨b0, o0, ha, hB0, fun j hj => ?_, fun j hj => free_of hh0 _⟩
    obtain ⟨b1, o1, cur1, ha1, _, hh1, hx1⟩ := hints j hj
    rw [ha] at ha1
    obtain ⟨rfl, rfl⟩ : b0 = b1 ∧ o0 = o1 := by simpa using ha1
    exact ⟨_, (cell_of hh1 _).trans hx1⟩
end Go.Proofs.Ythlcnccniliigaa

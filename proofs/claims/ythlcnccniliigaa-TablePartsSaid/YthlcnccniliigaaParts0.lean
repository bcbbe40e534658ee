/- What TableParts asks of commands, phases and slices that came in, in plain words. Conditions stand with each lemma. -/
import Derived.Test.YthlcnccniliigaaAwake9
import Derived.Test.YthlcnccniliigaaOps2
import Derived.Outline
namespace Go.Proofs.Ythlcnccniliigaa
open Go.RowKit
set_option linter.unusedVariables false

/-- A slice of ints that came in: nil, or a row of cap cells; the first len are its elements. -/
def IsRow (w : World) (a : Option Addr) (len cap : Nat) (zs : List Int) : Prop :=
  (a = none ∧ len = 0 ∧ cap = 0 ∧ zs = []) ∨
  ∃ x, a = some x ∧ len ≤ cap ∧ cap ≤ maxLen ∧ zs.length = cap ∧ (∀ i, i < zs.length → w.cell? (x.add i) = some (.int .i64 (zs.getD i 0))) ∧ ∀ n ∈ zs, (Lit.int .i64 n).wf = true

theorem isRow_ints {w : World} {a : Option Addr} {len cap : Nat} {zs : List Int} (h : IsRow w a len cap zs) :
    (zs.take len).length = len ∧ IntsAt w a (zs.take len) ∧ len ≤ 9223372036854775807 ∧ (a = none → cap = 0) := by
  rcases h with ⟨rfl, rfl, rfl, rfl⟩ | ⟨x, rfl, hl, hm, hz, hcell, hwz⟩
  · exact ⟨rfl, IntsAt.nil _ _, by omega, fun _ => rfl⟩
  · have e : (zs.take len).length = len := by simp; omega
    refine ⟨e, fun i hi => ?_, by simp only [maxLen] at hm; omega, fun h => by cases h⟩
    obtain ⟨b, off, spot⟩ := x
    have hi' : i < zs.length := by omega
    have hc := hcell i hi'
    have hspot : spot = none := by simpa [Addr.add] using World.cell?_spot (hcell 0 (by omega))
    subst hspot
    refine ⟨b, off, rfl, ?_⟩
    rw [addr_add] at hc
    rw [hc]
    have h2 : i < len := by omega
    simp [List.getD, h2]

/-- A slice that reads as ints; a nil one has no room. -/
def DsAt (w : World) (v : Value) (xs : List Int) : Prop := ∃ a c, v = .slice a xs.length c ∧ (a = none → c = 0) ∧ IntsAt w a xs
theorem DsAt.later {w w' : World} {v : Value} {xs : List Int} (h : DsAt w v xs) (hb : Below w.heap.size w w') : DsAt w' v xs := by
  obtain ⟨a, c, hv, hn, hi⟩ := h
  exact ⟨a, c, hv, hn, hi.later hb⟩
theorem DsAt.of_own {w : World} {B : Nat} {v : Value} {xs : List Int} (h : w.ownsRow B 3 1 v xs.length (intVals xs)) : DsAt w v xs := by
  obtain ⟨a, c, hv, hi⟩ := (NewInts.of_own h).ints
  refine ⟨a, c, hv, fun ha => ?_, hi⟩
  subst ha
  rcases h.2 with ⟨rfl, _⟩ | ⟨g, cap, cur, rfl, _⟩
  · simp at hv; exact hv.2.symm
  · simp at hv

def partsData (r : OpR) (x : Int) (xs : List Int) : List Int := if r.mode then [x % 256] else if r.inn then (xs.take 20).map (· % 256) else []
def partsRead (r : OpR) (x : Int) : Int := if 0 < r.data ∧ r.inn = false then x % 64 else 0
def partsAddr (r : OpR) (x : Int) : Int := if 0 < r.addr then x % 4096 else 0

theorem parts_row : ∀ k, k < 14 → 0 ≤ (opRow (opBytes.getD k 0)).addr ∧ 0 ≤ (opRow (opBytes.getD k 0)).data ∧ ((opRow (opBytes.getD k 0)).mode = true → (opRow (opBytes.getD k 0)).inn = false ∧ 0 < (opRow (opBytes.getD k 0)).data) ∧
    ((opRow (opBytes.getD k 0)).inn = true → 0 < (opRow (opBytes.getD k 0)).data) ∧ 0 ≤ (opRow (opBytes.getD k 0)).dummy := by decide +kernel

theorem isByte_mod (x : Int) : isByte (x % 256) = true := by simp [isByte]; omega

theorem parts_ok (r : OpR) (x y : Int) (xs : List Int) (herr : opErr r.byte = 0) (hrow : opRow r.byte = r) (h0 : 0 ≤ r.addr) (h1 : 0 ≤ r.data) (h2 : r.mode = true → r.inn = false ∧ 0 < r.data) (h3 : r.inn = true → 0 < r.data) :
    CmdOk r (partsAddr r x) (partsData r x xs) (partsRead r y) := by
  refine ⟨herr, hrow, ?_, ?_, fun h => ?_, ?_, ?_, ?_, ?_, ?_⟩
  · unfold partsAddr; split <;> omega
  · unfold partsAddr; split <;> omega
  · unfold partsAddr; rw [if_neg (by omega)]
  · unfold partsData; split
    · simp
    · split
      · simp; omega
      · simp
  · unfold partsData; split
    · simp [isByte_mod]
    · split
      · rw [List.all_eq_true]
        intro u hu
        obtain ⟨v, _, rfl⟩ := List.mem_map.1 hu
        exact isByte_mod v
      · rfl
  · unfold partsRead; split <;> omega
  · unfold partsRead; split <;> omega
  · unfold fitsB
    by_cases hd : r.data = 0
    · have hm : r.mode = false := by cases h : r.mode with | false => rfl | true => have := (h2 h).2; omega
      have hi : r.inn = false := by cases h : r.inn with | false => rfl | true => have := h3 h; omega
      simp [hd, partsData, hm, hi, partsRead]
    · rw [if_neg hd]
      cases hi : r.inn with
      | true => simp [partsRead, hi]
      | false =>
        cases hm : r.mode with
        | true => simp [partsData, hm]
        | false => simp [partsData, hm, hi]

/-- How many parts. -/
def partsA (r : OpR) : Int := if 0 < r.addr then 2 else 1
def partsB (r : OpR) : Int := if r.mode then partsA r + 1 else partsA r
def partsC (r : OpR) : Int := if 0 < r.dummy then partsB r + 1 else partsB r
def partsD (r : OpR) (n : Nat) : Int := if r.inn = true ∧ 0 < n then partsC r + 1 else partsC r
def partsE (r : OpR) (n : Nat) (rd : Int) : Int := if 0 < rd then partsD r n + 1 else partsD r n

theorem partsA_in (r : OpR) : 1 ≤ partsA r ∧ partsA r ≤ 2 := by unfold partsA; split <;> omega
theorem partsB_in (r : OpR) : 1 ≤ partsB r ∧ partsB r ≤ 3 := by have := partsA_in r; unfold partsB; split <;> omega
theorem partsC_in (r : OpR) : 1 ≤ partsC r ∧ partsC r ≤ 4 := by have := partsB_in r; unfold partsC; split <;> omega
theorem partsD_in (r : OpR) (n : Nat) : 1 ≤ partsD r n ∧ partsD r n ≤ 5 := by have := partsC_in r; unfold partsD; split <;> omega

theorem cmdPhases_len (r : OpR) (i : Int) (ds : List Int) (rd : Int) : ((cmdPhases r i ds rd).length : Int) = partsE r ds.length rd := by
  unfold partsE partsD partsC partsB partsA cmdPhases
  simp only [List.length_append, List.length_cons, List.length_nil]
  by_cases h1 : 0 < r.addr <;> by_cases h2 : r.mode = true <;> by_cases h3 : 0 < r.dummy <;> by_cases h4 : r.inn = true ∧ 0 < ds.length <;> by_cases h5 : 0 < rd <;> simp only [h1, h2, h3, h4, h5, if_true, if_false, List.length_cons, List.length_nil] <;> simp

theorem cmdPhases_pos (r : OpR) (i : Int) (ds : List Int) (rd : Int) : ∃ m, (cmdPhases r i ds rd).length = m + 1 := ⟨(cmdPhases r i ds rd).length - 1, by
  have : 0 < (cmdPhases r i ds rd).length := by simp [cmdPhases]
  omega⟩
theorem cmdPhases_0 (r : OpR) (i : Int) (ds : List Int) (rd : Int) : (cmdPhases r i ds rd).getD 0 Ph.zero = ⟨1, [r.byte], 0, 0⟩ := rfl
theorem cmdPhases_1 (r : OpR) (i : Int) (ds : List Int) (rd : Int) (h : 0 < r.addr) : (cmdPhases r i ds rd).getD 1 Ph.zero = ⟨r.addr, [0, i / 256, i % 256], 0, 0⟩ ∧ 2 ≤ (cmdPhases r i ds rd).length := by
  unfold cmdPhases
  rw [if_pos h]
  exact ⟨rfl, by simp⟩
theorem last_push (l : List Ph) (p : Ph) (m : Nat) (h : (l ++ [p]).length = m + 1) : (l ++ [p]).getD m Ph.zero = p := by
  have : m = l.length := by simpa using h.symm
  subst this
  simp [List.getD]
theorem cmdPhases_lastR (r : OpR) (i : Int) (ds : List Int) (rd : Int) (m : Nat) (hm : (cmdPhases r i ds rd).length = m + 1) (h : 0 < rd) : (cmdPhases r i ds rd).getD m Ph.zero = ⟨r.data, [], 0, rd⟩ := by
  unfold cmdPhases at hm ⊢
  rw [if_pos h] at hm ⊢
  exact last_push _ _ m hm
theorem cmdPhases_lastI (r : OpR) (i : Int) (ds : List Int) (rd : Int) (m : Nat) (hm : (cmdPhases r i ds rd).length = m + 1) (h : ¬ 0 < rd) (hi : r.inn = true ∧ 0 < ds.length) : (cmdPhases r i ds rd).getD m Ph.zero = ⟨r.data, ds, 0, 0⟩ := by
  unfold cmdPhases at hm ⊢
  rw [if_neg h, if_pos hi, List.append_nil] at hm ⊢
  exact last_push _ _ m hm

theorem take_push256 (xs : List Int) (k : Nat) (h : k < xs.length) : intVals ((xs.take (k + 1)).map (· % 256)) = intVals ((xs.take k).map (· % 256)) ++ [.int .i64 (xs.getD k 0 % 256)] := by
  rw [List.take_add_one, List.getElem?_eq_getElem h, List.map_append]
  have e : xs.getD k 0 = xs[k] := by simp [List.getD, h]
  rw [e]
  simp only [intVals, List.map_append, Option.toList, List.map_cons, List.map_nil]
theorem take_len256 (xs : List Int) (k : Nat) (h : k ≤ xs.length) : ((xs.take k).map (· % 256)).length = k := by simp; omega

theorem PhAt.to {w : World} {b o : Nat} {p : Ph} (h : PhAt w b o p) (o' : Nat) (l : Int) (n : Nat) (c r : Int) (ho : o = o') (hl : p.lanes = l) (hn : p.bytes.length = n) (hc : p.clocks = c) (hr : p.read = r) :
    w.cell? ⟨b, o', none⟩ = some (.int .i64 l) ∧ (∃ a z, w.cell? ⟨b, o' + 1, none⟩ = some (.slice a n z) ∧ IntsAt w a p.bytes) ∧ w.cell? ⟨b, o' + 2, none⟩ = some (.int .i64 c) ∧ w.cell? ⟨b, o' + 3, none⟩ = some (.int .i64 r) := by
  subst ho hl hn hc hr
  exact ⟨h.lanes, h.bytes, h.clocks, h.read⟩
end Go.Proofs.Ythlcnccniliigaa

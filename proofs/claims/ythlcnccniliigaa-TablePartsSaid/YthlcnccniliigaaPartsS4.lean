/- TableParts' walk at one shape of command. Conditions: the command's row is of this shape. -/
import Derived.Test.YthlcnccniliigaaParts0
import Derived.Deep.DeepCutAuto
import Derived.Deep.RegionLaw
import Derived.Deep.RegionHeld3
namespace Go.Proofs.Ythlcnccniliigaa
open Go.RowKit
set_option linter.unusedVariables false

set_option maxRecDepth 100000 in
set_option maxHeartbeats 8000000 in
theorem parts_s4 (bt wh x y : Int) (k : Nat) (a : Option Addr) (cap : Nat) (xs : List Int) (w : World) (hk : k < 14) (hke : IntKind.i64.wrap ((IntKind.u64.wrap wh).tmod 14) = (k : Int)) (hbt : opBytes.getD k 0 = bt)
    (hrow : opRow bt = ⟨bt, 0, false, 0, 0, false⟩) (herr : opErr bt = 0) (hxs : IntsAt w a xs) (hmx : xs.length ≤ 9223372036854775807) :
    Calls Try.prog 13 #[.int .i64 wh, .int .i64 x, .slice a xs.length cap, .int .i64 y] w (RetBool true w) := by
  obtain ⟨i0, hi, hz0, hz1, hz2⟩ := info_parts info_int
  have ok := Lib.hid (parts_ok ⟨bt, 0, false, 0, 0, false⟩ x y xs herr hrow (show (0 : Int) ≤ 0 by decide) (show (0 : Int) ≤ 0 by decide) (fun h => nomatch h) (fun h => nomatch h))
  have hrd0 := Lib.hid (show partsRead ⟨bt, 0, false, 0, 0, false⟩ y = 0 from if_neg (show ¬ ((0 : Int) < 0 ∧ false = false) by decide))
  have hkk0 := Lib.hid (show partsAddr ⟨bt, 0, false, 0, 0, false⟩ x = 0 from if_neg (show ¬ (0 : Int) < 0 by decide))
  rw [hrd0.out, hkk0.out] at ok
  clear hrd0 hkk0
  go_enter Try.func13, Try.ntmps13
  go_wp2_with fail
  refine (awake9_calls _).mono ?_
  rintro e w1 ⟨rfl, hb1⟩
  have hx1 := hxs.later hb1
  clear hxs
  go_wp2_with fail
  refine (all_calls _).mono ?_
  rintro e w2 ⟨b4, rfl, hb2, hl4, hlt4, ho4⟩
  have hx2 := hx1.later hb2
  have q2 := gtr hb1 hb2
  have d0 : w2.cell? ⟨b4, k, none⟩ = some (.int .i64 bt) := by
    obtain ⟨b', o', ha', hc'⟩ := opObj_ints ho4 k hk
    obtain ⟨rfl, rfl⟩ : b4 = b' ∧ 0 = o' := by simpa using ha'
    rw [Nat.zero_add] at hc'; rw [hc', hbt]
  clear hbt hx1 hb1 hb2 hl4 hlt4 ho4
  have hk' : (k : Int) < 14 := by omega
  go_wp2_with fail
  refine (of_calls bt _).mono ?_
  rintro e w3 ⟨rfl, hb3⟩
  rw [hrow, herr, show OpR.cells ⟨bt, 0, false, 0, 0, false⟩ = #[.int .i64 bt, .int .i64 0, .bool false, .int .i64 0, .int .i64 0, .bool false] from rfl]
  clear hrow herr d0 hk' hke hk
  go_upto_region 7 with (fail)
  generalize hW : w3.alloc _ = w4
  have q4 : Below w.heap.size w w4 := by rw [← hW]; exact galloc (gtr q2 hb3) _
  have hx4 : IntsAt w4 a xs := by rw [← hW]; exact hx2.later (galloc hb3 _)
  have x4 : OpBox w4 w3.heap.size ⟨bt, 0, false, 0, 0, false⟩ := by rw [← hW]; exact ⟨_, _, new_block _ _⟩
  generalize w3.heap.size = C at *
  clear hW hb3 hx2 q2 w3 w2 w1
  obtain ⟨c0, c1, c2, c3, c4, c5⟩ := x4.cell
  simp only at c0 c1 c2 c3 c4 c5
  have e1 : bits .and .i64 x 4095 = x % 4096 := and4095 x
  have e2 : bits .and .i64 x 255 = x % 256 := and255 x
  have e3 : bits .and .i64 y 63 = y % 64 := and_mask_nat y 6 (by omega)
  generalize hw6 : w4 = w6 at *
  clear hw6 hx4
  have hds0 : partsData ⟨bt, 0, false, 0, 0, false⟩ x xs = [] := rfl
  have hds : DsAt w6 (.slice none 0 0) [] := ⟨none, 0, rfl, fun _ => rfl, IntsAt.nil _ _⟩
  rw [← hds0] at hds
  clear hds0
  generalize hds' : partsData ⟨bt, 0, false, 0, 0, false⟩ x xs = ds at *
  replace hds' := Lib.hid hds'
  obtain ⟨da, dc, hdv, hdn, hdi⟩ := hds
  replace hdn := Lib.hid hdn
  obtain ⟨rfl, hdl1, rfl⟩ : none = da ∧ 0 = ds.length ∧ 0 = dc := by simpa using hdv
  replace hdl1 := Lib.hid hdl1.symm
  clear hdv
  have HC := (command_ok ⟨bt, 0, false, 0, 0, false⟩ 0 none 0 ds 0 w6 ok.out hdi (fun _ => rfl))
  rw [hdl1.out] at HC
  have HC := Lib.hid HC
  go_wp2_with fail
  refine HC.out.mono ?_
  rintro e w8 ⟨v, rfl, hN, hb8⟩
  obtain ⟨pa, pc, rfl, hP⟩ := hN.reads
  clear hN
  have hdi := Lib.hid (hdi.later hb8)
  have x8 := x4.later hb8
  have q8 := gtr q4 hb8
  clear c0 c1 c2 c3 c4 c5 q4 x4 e1 e2 e3 hb8
  rw [show cmdPhases ⟨bt, 0, false, 0, 0, false⟩ 0 ds 0 = [⟨1, [bt], 0, 0⟩] from rfl] at hP ⊢
  obtain ⟨c0, c1, c2, c3, c4, c5⟩ := x8.cell
  simp only at c0 c1 c2 c3 c4 c5
  obtain ⟨pb, po, rfl, g⟩ := hP.at (by simp)
  have p0 : PhAt w8 pb (po + 0 * 4) ⟨1, [bt], 0, 0⟩ := g 0 (by simp)
  have pl := Lib.hid (show PhAt w8 pb (po + 0 * 4) ⟨1, [bt], 0, 0⟩ from g 0 (by simp))
  clear g hP
  rw [show ([⟨1, [bt], 0, 0⟩] : List Ph).length = 1 from rfl]
  obtain ⟨u1, ⟨a1, z1, u2, j1⟩, u3, u4⟩ := p0.to po 1 1 0 0 rfl rfl rfl rfl rfl
  clear u3 u4
  go_upto_region 21 with (fail)
  go_cut [122] from 20 (fun v wx => v = .bool false ∧ Below w8.heap.size w8 wx)
  case first =>
    have hM := Lib.hid fun (W : World) (hb : Below w8.heap.size w8 W) (ho : W.heap[w8.heap.size]? = some (.cells #[.int .i64 bt] 3 (0, 0))) => show Calls Try.prog 32 #[.slice a1 1 z1, .slice (some ⟨w8.heap.size, 0, none⟩) 1 1] W (BoolDrew true W) from
      (sameInts_calls a1 (some ⟨w8.heap.size, 0, none⟩) z1 1 [bt] [bt] W (j1.later hb) (IntsAt.of (b := w8.heap.size) (off := 0) (xs := [bt]) (fun i hi => by
        obtain rfl : i = 0 := by simpa using hi
        exact cell_of ho 0)) (by simp)).mono (fun e w' h => by simpa using h)
    have M1 := Lib.hid (hM.out (w8.alloc (.cells #[.int .i64 bt] 3)).drew (gdrew (galloc (Below.refl _ _) _)) (new_block _ _))
    have M2 := Lib.hid (hM.out (w8.drew.alloc (.cells #[.int .i64 bt] 3)) (galloc (gdrew (Below.refl _ _)) _) (new_block w8.drew _))
    go_region_held3 (fun w' => w'.cell? ⟨pb, po, none⟩ = some (.int .i64 1) ∧ w'.cell? ⟨pb, po + 1, none⟩ = some (.slice a1 1 z1) ∧ w'.cell? ⟨C, 0, none⟩ = some (.int .i64 bt))
      (first | go_keep)
      (first | (go_at_call 27; (with_reducible refine (num_calls _ _).mono ?_); rintro e w9 ⟨rfl, rfl⟩) | (go_at_call 32; (with_reducible refine M1.out.mono ?_); rintro e w9 ⟨rfl, n9, rfl⟩) | (go_at_call 32; (with_reducible refine M2.out.mono ?_); rintro e w9 ⟨rfl, n9, rfl⟩))
    all_goals
      go_wp2_with fail
      go_meet
      exact ⟨rfl, by repeat (first | with_reducible exact Below.refl _ _ | with_reducible exact hbase | with_reducible refine gdrewN ?_ _ | with_reducible refine gdrew ?_ | with_reducible refine galloc ?_ _)⟩
  case rest =>
  obtain ⟨rfl, hb9⟩ := hcut
  replace x8 := x8.later hb9
  replace q8 := gtr q8 hb9
  replace pl := pl.out.later hb9
  replace hdi := Lib.hid (hdi.out.later hb9)
  clear c0 c1 c2 c3 c4 c5 u1 u2 j1
  clear hb9
  generalize wc = w12 at *
  have hC := x8.lt
  obtain ⟨c0, c1, c2, c3, c4, c5⟩ := x8.cell
  simp only at c0 c1 c2 c3 c4 c5
  obtain ⟨l1, ⟨a3, z3, l2, j3⟩, l3, l4⟩ := pl.to po 1 1 0 0 rfl rfl rfl rfl rfl
  go_wp2_with fail
  go_ret
  exact ⟨rfl, by repeat (first | with_reducible exact q8 | with_reducible refine gdrewN ?_ _ | with_reducible refine gdrew ?_ | with_reducible refine galloc ?_ _)⟩
end Go.Proofs.Ythlcnccniliigaa

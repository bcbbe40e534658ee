/- The document's Command: the phases of a command, in new memory; or nil and the error. Conditions: the data read as the ints, fewer than 2^44 of them. -/
import Derived.Test.YthlcnccniliigaaRefMay
import Derived.Test.YthlcnccniliigaaParts0
import Derived.Deep.RegionLaw
namespace Go.Proofs.Ythlcnccniliigaa
open Go.RowKit
set_option linter.unusedVariables false

theorem refCommand_no (r : OpR) (i : Int) (a : Option Addr) (c : Nat) (xs : List Int) (read : Int) (w : World) (no : ¬ CmdOk r i xs read) (h1 : IntsAt w a xs) (hm : xs.length ≤ 9223372036854775807) :
    Calls Try.prog 40 #[.agg r.cells, .int .i64 i, .slice a xs.length c, .int .i64 read] w (CmdNo w) := by
  have hq : mayB r i xs read = false := by
    cases h : mayB r i xs read with
    | false => rfl
    | true => exact absurd ((mayB_iff r i xs read).1 h) no
  have HM := Lib.hid (fun w' h => may_calls r i a c xs read w' h hm)
  rw [hq] at HM
  clear hq no
  rw [box4 r] at HM ⊢
  go_enter Try.func40, Try.ntmps40
  go_wp2_with fail
  refine (HM.out _ (h1.later (galloc (Below.refl _ _) _))).mono ?_
  rintro e w1 ⟨rfl, hb1⟩
  go_wp2_with fail
  go_ret2
  exact ⟨rfl, gtr (galloc (Below.refl _ _) _) hb1⟩

theorem mode_len {r : OpR} {i : Int} {xs : List Int} {read : Int} (ok : CmdOk r i xs read) : r.mode = true → 0 < xs.length := by
  intro hm
  have he := ok.err
  have hk : ∃ k, k < 14 ∧ opBytes.getD k 0 = r.byte := by
    by_cases h : ∀ k ∈ opBytes, r.byte ≠ k
    · rw [opErr, opTab_none _ h] at he; simp at he
    · obtain ⟨k, hk⟩ := Classical.not_forall.1 h
      obtain ⟨hk1, hk2⟩ := Classical.not_imp.1 hk
      obtain ⟨i, hi, rfl⟩ := List.mem_iff_getElem.1 hk1
      exact ⟨i, hi, by rw [Classical.not_not.1 hk2]; simp [List.getD, List.getElem?_eq_getElem hi]⟩
  obtain ⟨k, hk, hkb⟩ := hk
  have hp := (parts_row k hk).2.2.1
  rw [hkb, ok.row] at hp
  obtain ⟨hi, hd⟩ := hp hm
  have hf := ok.fits
  unfold fitsB at hf
  rw [if_neg (by omega), hi, hm] at hf
  simp at hf
  omega

theorem ints_head {w : World} {a : Option Addr} {xs : List Int} (h : IntsAt w a xs) (hp : 0 < xs.length) : ∃ ad, a = some ad ∧ ∀ w', Below w.heap.size w w' → ∀ j u, (intVals xs)[j]? = some u → w'.cell? (ad.add j) = some u := by
  obtain ⟨b, off, rfl, g⟩ := h.at hp
  refine ⟨_, rfl, fun w' hb j u hu => ?_⟩
  obtain ⟨hj, rfl⟩ := intVals_get xs j u hu
  rw [addr_add]
  exact (hb.cell (p := ⟨b, off + j, none⟩) (World.block_lt_of_cell? w _ (g j hj))).trans (g j hj)

set_option maxRecDepth 100000 in
set_option maxHeartbeats 4000000 in
theorem refCommand_ok (r : OpR) (i : Int) (a : Option Addr) (c : Nat) (xs : List Int) (read : Int) (w : World) (ok : CmdOk r i xs read) (h1 : IntsAt w a xs) :
    Calls Try.prog 40 #[.agg r.cells, .int .i64 i, .slice a xs.length c, .int .i64 read] w (CmdPost (cmdPhases r i xs read) w) := by
  have hq : mayB r i xs read = true := (mayB_iff r i xs read).2 ok
  have hl : xs.length ≤ 512 := ok.len
  have HM := Lib.hid (fun w' h => may_calls r i a c xs read w' h (by omega))
  rw [hq] at HM
  clear hq
  have hmodeL := Lib.hid (mode_len ok)
  rw [box4 r] at HM ⊢
  go_enter Try.func40, Try.ntmps40
  go_wp2_with fail
  refine (HM.out _ (h1.later (galloc (Below.refl _ _) _))).mono ?_
  rintro e w3 ⟨rfl, hb1⟩
  clear HM
  have q3 : Below w.heap.size w w3 := gtr (galloc (Below.refl _ _) _) hb1
  have x3 : OpBox w3 w.heap.size r := ⟨_, _, block_later hb1 (new_block _ _)⟩
  have h3 : IntsAt w3 a xs := h1.later q3
  clear hb1 h1
  obtain ⟨j0, ji, jz0, jz1, jz2⟩ := info_parts info_int
  have hi0 := ok.lo
  have hi1 := ok.hi
  have hr0 := ok.rlo
  have hr1 := ok.rhi
  have e1 : i / 65536 = 0 := by omega
  have e2 : bits .and .i64 (i / 256) 255 = i / 256 := by rw [and255]; omega
  have e3 : bits .and .i64 i 255 = i % 256 := and255 i
  clear ok
  generalize Value.agg #[.int .i64 r.byte, .int .i64 r.addr, .bool r.mode, .int .i64 r.dummy, .int .i64 r.data, .bool r.inn] = vagg
  obtain ⟨i0, hi, hz0, hz1, hz2⟩ := info_parts phase_info
  obtain ⟨c0, c1, c2, c3, c4, c5⟩ := x3.cell
  clear c1 c2 c3 c4 c5
  go_upto_region 4 with (fail)
  have hN4 := phases_one (w3.alloc (.cells #[.int .i64 r.byte] 3)) w3.heap.size (by simp) ⟨1, [r.byte], 0, 0⟩ _ (ints_of_new w3 w3.heap.size (Nat.le_refl _) [r.byte] _ rfl 1 rfl)
  have hb4 : Below w3.heap.size w3 ((w3.alloc (.cells #[.int .i64 r.byte] 3)).alloc (.cells #[.int .i64 1, .slice (some ⟨w3.heap.size, 0, none⟩) 1 1, .int .i64 0, .int .i64 0] 56)) := galloc (galloc (Below.refl _ _) _) _
  simp only [World.size_alloc] at hN4
  generalize (w3.alloc _).alloc _ = w4 at *
  generalize Value.slice (some ⟨w3.heap.size + 1, 0, none⟩) 1 1 = v4 at *
  have x4 := x3.later hb4
  obtain ⟨c0, c1, c2, c3, c4, c5⟩ := x4.cell
  go_upto_if 24 with (fail)
  go_cut [10] from 11 (fun v wx => NewPhases wx w3.heap.size v ([⟨1, [r.byte], 0, 0⟩] ++ (if 0 < r.addr then [⟨r.addr, [0, i / 256, i % 256], 0, 0⟩] else [])) ∧ Below w3.heap.size w3 wx)
  case first =>
    by_cases ha : 0 < r.addr
    · obtain ⟨l, hll, hN, hown⟩ := hN4
      have hlen : l.length ≤ 6 := by have := congrArg List.length hll; simp at this; omega
      have hN := Lib.hid hN
      have hll := Lib.hid hll
      clear c0 c2 c3 c4 c5
      go_wp2_with (at_builtin; refine wpList_append_own _ rfl _ _ 46 rfl w3.heap.size 56 i0 (.agg #[.int .i64 0, .slice none 0 0, .int .i64 0, .int .i64 0]) 4 48 Try.underlying46 hi hz0 hz1 hz2 rfl (by decide) v4 l.length (phCells l) ?a1 ((hown.alloc _).alloc _) ⟨w4.heap.size + 1, 0, none⟩ 1 1 [.int .i64 r.addr, .slice (some ⟨w4.heap.size, 0, none⟩) 3 3, .int .i64 0, .int .i64 0] ?a2 rfl ?a3 ?a4 ?a5 ?a6 ?a7 ?_)
      case a1 => rfl
      case a2 => rfl
      case a3 => exact World.news_of_block (cs := #[.int .i64 r.addr, .slice (some ⟨w4.heap.size, 0, none⟩) 3 3, .int .i64 0, .int .i64 0]) (t := 56) (fr := (0, 0)) (by simpa using new_block (w4.alloc _) _)
      case a4 => intro u hu; simp only [List.mem_cons, List.not_mem_nil, or_false] at hu; rcases hu with rfl | rfl | rfl | rfl <;> rfl
      case a5 => simp only [maxLen]; omega
      case a6 => omega
      case a7 => have := hb4.size; simp; omega
      intro v' w' hown' hg _
      have hpush := phases_push (p := ⟨r.addr, [0, i / 256, i % 256], 0, 0⟩) hN.out hown (galloc (galloc (Below.refl _ _) _) _) ((ints_of_new w4 _ hb4.size [0, i / 256, i % 256] _ rfl 3 rfl).later (galloc (Below.refl _ _) _)) hg hown'
      have hbel : Below w3.heap.size w3 w' := below_grown (gtr hb4 (galloc (galloc (Below.refl _ _) _) _)) hg (own_ge hown)
      rw [hll.out] at hpush
      clear hown' hg
      go_wp2_with fail
      go_meet
      exact ⟨by rw [if_pos ha]; exact hpush, hbel⟩
    · go_wp2_with fail
      go_meet
      exact ⟨by rw [if_neg (by omega), List.append_nil]; exact hN4, hb4⟩
  case rest =>
    obtain ⟨hN5, hb5⟩ := hcut
    generalize hps : ([⟨1, [r.byte], 0, 0⟩] ++ (if 0 < r.addr then [⟨r.addr, [0, i / 256, i % 256], 0, 0⟩] else []) : List Ph) = ps5 at *
    have hlen5 : ps5.length ≤ 2 := by rw [← hps]; simp; split <;> simp
    have HPS := Lib.hid hps
    clear hps c0 c1 c2 c3 c4 c5 hN4 hb4 x4 e1 e2 e3
    have x5 := x3.later hb5
    have h5 := h3.later hb5
    obtain ⟨c0, c1, c2, c3, c4, c5⟩ := x5.cell
    clear c0 c3 c4 c5
    go_upto_if 40 with (fail)

    go_cut [10] from 11 (fun v wx => NewPhases wx w3.heap.size v (ps5 ++ (if r.mode then [⟨r.addr, xs, 0, 0⟩] else [])) ∧ Below w3.heap.size w3 wx)
    case first =>
      cases hmode : r.mode with
      | false =>
        go_wp2_with fail
        go_meet
        exact ⟨by rw [if_neg (by rw [hmode]; decide), List.append_nil]; exact hN5, hb5⟩
      | true =>
        obtain ⟨l, hll, hN, hown⟩ := hN5
        have hlen : l.length ≤ 6 := by have := congrArg List.length hll; simp at this; omega
        have hN := Lib.hid hN
        have hll := Lib.hid hll
        clear c2
        go_wp2_with fail
        have hs5 := hb5.size
        have hownd : wc.drew.ownsRow _ _ _ _ _ _ := hown
        have hne : u10.ownBlock ≠ some w.heap.size := fun e => by have := own_ge hown _ e; have := x3.lt; omega
        have hpos := hmodeL.out hmode
        obtain ⟨ad, rfl, hnews⟩ := ints_head h5 hpos
        have hneU : u10.ownBlock ≠ some wc.heap.size := fun e => by have := (hown.lt _ e).2; omega
        have m3 : 0 + xs.length ≤ maxLen := by simp only [maxLen]; omega
        have m4 : (0 + xs.length) * 8 ≤ 140737488355328 := by omega
        have hge : ∀ k, (Value.slice (some ⟨wc.heap.size, 0, none⟩) 0 0).ownBlock = some k → wc.heap.size ≤ k := fun k hk => Nat.le_of_eq (Option.some.inj hk)
        have hlt5 := x5.lt
        obtain ⟨m1, m2⟩ := small_len hlen
        have hlt1 : w.heap.size < (wc.drew.alloc (.cells #[] 3)).heap.size := le_alloc (n := w.heap.size + 1) _ hlt5
        have hne1 : some w.heap.size ≠ (Value.slice (some ⟨wc.heap.size, 0, none⟩) 0 0).ownBlock := fun e => Nat.ne_of_lt hlt5 (Option.some.inj e)
        have c1a : (wc.drew.alloc (.cells #[] 3)).cell? ⟨w.heap.size, 1, none⟩ = some (.int .i64 r.addr) := (World.cell?_alloc_lt _ _ _ hlt5).trans c1
        go_region_held3 (fun w' => w'.cell? ⟨w.heap.size, 1, none⟩ = some (.int .i64 r.addr)) (first | go_keep | exact (hgx.cell_far ⟨w.heap.size, 1, none⟩ hlt1 hne1).trans c1a | exact (hgrow.cell_far ⟨w.heap.size, 1, none⟩ (le_alloc _ hltx) (Ne.symm hne)).trans ((World.cell?_alloc_lt _ _ _ hltx).trans ((hgx.cell_far ⟨w.heap.size, 1, none⟩ hlt1 hne1).trans c1a)))
            (first
              | (refine step_append_lies _ rfl _ _ _ rfl wc.heap.size 3 j0 (.int .i64 0) 1 8 Try.underlying40 ji jz0 jz1 jz2 rfl (Nat.lt_of_sub_eq_succ rfl) (.slice (some ⟨wc.heap.size, 0, none⟩) 0 0) 0 [] rfl (ownsRow_empty wc.drew 3 1 wc.heap.size (Nat.le_refl _)) ad xs.length c (intVals xs) rfl (intVals_len xs) (hnews _ (galloc (gdrew (Below.refl _ _)) _)) (intVals_one xs) hpos m3 m4 (le_alloc _ (Nat.le_refl _)) (wc.heap.size + 1) (World.size_alloc _ _) ?_; intro ga ca wx hownx hgx hatx hltgx; simp only [Nat.zero_add, List.nil_append] at hownx; have hbx : Below wc.heap.size wc wx := below_grown (galloc (gdrew (Below.refl _ _)) _) hgx hge; have hltx := Nat.lt_of_lt_of_le hlt5 hbx.size)
              | (refine step_append_lies _ rfl _ _ _ rfl w3.heap.size 56 i0 (.agg #[.int .i64 0, .slice none 0 0, .int .i64 0, .int .i64 0]) 4 48 Try.underlying46 hi hz0 hz1 hz2 rfl (Nat.lt_of_sub_eq_succ rfl) u10 l.length (phCells l) rfl (((hownd.alloc _).kept hgx (.inr hneU)).alloc _)
                  ⟨wx.heap.size, 0, none⟩ 1 1 [.int .i64 r.addr, .slice (some ⟨ga, 0, none⟩) xs.length ca, .int .i64 0, .int .i64 0] rfl rfl (World.news_of_block (cs := #[.int .i64 r.addr, .slice (some ⟨ga, 0, none⟩) xs.length ca, .int .i64 0, .int .i64 0]) (t := 56) (fr := (0, 0)) (heap_alloc_new wx _)) (oneCell4 _ _ _ _ rfl)
                  Nat.one_pos m1 m2 (le_alloc _ (Nat.le_trans hs5 hbx.size)) (wx.heap.size + 1) (World.size_alloc _ _) ?_; intro gg cap w7 hown7 hgrow hat hlt))
        all_goals
          have hvx : NewInts wx w3.heap.size (.slice (some ⟨ga, 0, none⟩) xs.length ca) xs := (NewInts.of_own hownx).mono hs5
          have hpush := phases_push (p := ⟨r.addr, xs, 0, 0⟩) hN.out hown (gtr hbx (galloc (Below.refl _ _) _)) (hvx.later (galloc (Below.refl _ _) _)) hgrow hown7
          have hbel := below_grown (gtr hb5 (gtr hbx (galloc (Below.refl _ _) _))) hgrow (own_ge hown)
          rw [hll.out] at hpush
          clear hown7 hgrow hat hlt
          go_wp2_with fail
          go_meet
          exact ⟨by rw [if_pos hmode]; exact hpush, hbel⟩
    case rest =>
      obtain ⟨hN6, hb6⟩ := hcut
      generalize hps6 : (ps5 ++ (if r.mode then [⟨r.addr, xs, 0, 0⟩] else []) : List Ph) = ps6 at *
      have hlen6 : ps6.length ≤ 3 := by rw [← hps6]; simp; split <;> simp <;> omega
      have HPS6 := Lib.hid hps6
      clear hps6 hN5 hb5 x5 h5 c1 c2
      have x6 := x3.later hb6
      have h6 := h3.later hb6
      obtain ⟨c0, c1, c2, c3, c4, c5⟩ := x6.cell
      clear c0 c1 c2 c4 c5
      go_upto_if 52 with (fail)
      go_cut [10] from 11 (fun v wx => NewPhases wx w3.heap.size v (ps6 ++ (if 0 < r.dummy then [⟨0, [], r.dummy, 0⟩] else [])) ∧ Below w3.heap.size w3 wx)
      case first =>
        by_cases ha : 0 < r.dummy
        · obtain ⟨l, hll, hN, hown⟩ := hN6
          have hlen : l.length ≤ 6 := by have := congrArg List.length hll; simp at this; omega
          have hN := Lib.hid hN
          have hll := Lib.hid hll
          go_wp2_with (at_builtin; refine wpList_append_own _ rfl _ _ 46 rfl w3.heap.size 56 i0 (.agg #[.int .i64 0, .slice none 0 0, .int .i64 0, .int .i64 0]) 4 48 Try.underlying46 hi hz0 hz1 hz2 rfl (by decide) _ l.length (phCells l) ?b1 (hown.alloc _) ⟨wc.heap.size, 0, none⟩ 1 1 [.int .i64 0, .slice none 0 0, .int .i64 r.dummy, .int .i64 0] ?b2 rfl ?b3 ?b4 ?b5 ?b6 ?b7 ?_)
          case b1 => rfl
          case b2 => rfl
          case b3 => exact World.news_of_block (cs := #[.int .i64 0, .slice none 0 0, .int .i64 r.dummy, .int .i64 0]) (t := 56) (fr := (0, 0)) (new_block wc _)
          case b4 => intro u hu; simp only [List.mem_cons, List.not_mem_nil, or_false] at hu; rcases hu with rfl | rfl | rfl | rfl <;> rfl
          case b5 => simp only [maxLen]; omega
          case b6 => omega
          case b7 => have := hb6.size; simp; omega
          intro v' w' hown' hg _
          have hpush := phases_push (p := ⟨0, [], r.dummy, 0⟩) hN.out hown (galloc (Below.refl _ _) _) (NewInts.nil _ _) hg hown'
          have hbel : Below w3.heap.size w3 w' := below_grown (gtr hb6 (galloc (Below.refl _ _) _)) hg (own_ge hown)
          rw [hll.out] at hpush
          clear hown' hg
          go_wp2_with fail
          go_meet
          exact ⟨by rw [if_pos ha]; exact hpush, hbel⟩
        · go_wp2_with fail
          go_meet
          exact ⟨by rw [if_neg (by omega), List.append_nil]; exact hN6, hb6⟩
      case rest =>
        obtain ⟨hN7, hb7⟩ := hcut
        generalize hps7 : (ps6 ++ (if 0 < r.dummy then [⟨0, [], r.dummy, 0⟩] else []) : List Ph) = ps7 at *
        have hlen7 : ps7.length ≤ 4 := by rw [← hps7]; simp; split <;> simp <;> omega
        have HPS7 := Lib.hid hps7
        clear hps7 hN6 hb6 x6 h6 c3
        have x7 := x3.later hb7
        have h7 := h3.later hb7
        obtain ⟨c0, c1, c2, c3, c4, c5⟩ := x7.cell
        clear c0 c1 c2 c3
        go_upto_region 10 with (fail)
        go_cut [65] from 11 (fun v wx => v = .bool (r.inn && decide (0 < (xs.length : Int))) ∧ wx = wc)
        case first =>
          cases hinn : r.inn with
          | true => rw [hinn] at c5; go_wp2_with fail; go_meet; exact ⟨by simp [hinn], rfl⟩
          | false => rw [hinn] at c5; go_wp2_with fail; go_meet; exact ⟨by simp [hinn], rfl⟩
        case rest =>
          obtain ⟨rfl, rfl⟩ := hcut
          go_upto_if 65 with (fail)
          go_cut [10] from 11 (fun v wx => NewPhases wx w3.heap.size v (ps7 ++ (if r.inn = true ∧ 0 < xs.length then [⟨r.data, xs, 0, 0⟩] else [])) ∧ Below w3.heap.size w3 wx)
          case first =>
            cases hcond : (r.inn && decide (0 < (xs.length : Int))) with
            | false =>
              have hno : ¬ (r.inn = true ∧ 0 < xs.length) := by
                intro ⟨k1, k2⟩; rw [k1, decide_eq_true (by omega)] at hcond; cases hcond
              clear c4 c5 hcond
              go_wp2_with fail
              go_meet
              exact ⟨by rw [if_neg hno, List.append_nil]; exact hN7, hb7⟩
            | true =>
              have hyes : r.inn = true ∧ 0 < xs.length := by
                simp at hcond; exact ⟨hcond.1, by omega⟩
              have HY := Lib.hid hyes
              clear hyes hcond c5
              obtain ⟨l, hll, hN, hown⟩ := hN7
              have hlen : l.length ≤ 6 := by have := congrArg List.length hll; simp at this; omega
              have hN := Lib.hid hN
              have hll := Lib.hid hll
              go_wp2_with fail
              have hs5 := hb7.size
              have hownd : wc.drew.ownsRow _ _ _ _ _ _ := hown
              have hne : u10.ownBlock ≠ some w.heap.size := fun e => by have := own_ge hown _ e; have := x3.lt; omega
              have hpos := HY.out.2
              obtain ⟨ad, rfl, hnews⟩ := ints_head h7 hpos
              have hneU : u10.ownBlock ≠ some wc.heap.size := fun e => by have := (hown.lt _ e).2; omega
              have m3 : 0 + xs.length ≤ maxLen := by simp only [maxLen]; omega
              have m4 : (0 + xs.length) * 8 ≤ 140737488355328 := by omega
              have hge : ∀ k, (Value.slice (some ⟨wc.heap.size, 0, none⟩) 0 0).ownBlock = some k → wc.heap.size ≤ k := fun k hk => Nat.le_of_eq (Option.some.inj hk)
              have hlt5 := x7.lt
              obtain ⟨m1, m2⟩ := small_len hlen
              have hlt1 : w.heap.size < (wc.drew.alloc (.cells #[] 3)).heap.size := le_alloc (n := w.heap.size + 1) _ hlt5
              have hne1 : some w.heap.size ≠ (Value.slice (some ⟨wc.heap.size, 0, none⟩) 0 0).ownBlock := fun e => Nat.ne_of_lt hlt5 (Option.some.inj e)
              have c1a : (wc.drew.alloc (.cells #[] 3)).cell? ⟨w.heap.size, 4, none⟩ = some (.int .i64 r.data) := (World.cell?_alloc_lt _ _ _ hlt5).trans c4
              go_region_held3 (fun w' => w'.cell? ⟨w.heap.size, 4, none⟩ = some (.int .i64 r.data)) (first | go_keep | exact (hgx.cell_far ⟨w.heap.size, 4, none⟩ hlt1 hne1).trans c1a | exact (hgrow.cell_far ⟨w.heap.size, 4, none⟩ (le_alloc _ hltx) (Ne.symm hne)).trans ((World.cell?_alloc_lt _ _ _ hltx).trans ((hgx.cell_far ⟨w.heap.size, 4, none⟩ hlt1 hne1).trans c1a)))
                  (first
                    | (refine step_append_lies _ rfl _ _ _ rfl wc.heap.size 3 j0 (.int .i64 0) 1 8 Try.underlying40 ji jz0 jz1 jz2 rfl (Nat.lt_of_sub_eq_succ rfl) (.slice (some ⟨wc.heap.size, 0, none⟩) 0 0) 0 [] rfl (ownsRow_empty wc.drew 3 1 wc.heap.size (Nat.le_refl _)) ad xs.length c (intVals xs) rfl (intVals_len xs) (hnews _ (galloc (gdrew (Below.refl _ _)) _)) (intVals_one xs) hpos m3 m4 (le_alloc _ (Nat.le_refl _)) (wc.heap.size + 1) (World.size_alloc _ _) ?_; intro ga ca wx hownx hgx hatx hltgx; simp only [Nat.zero_add, List.nil_append] at hownx; have hbx : Below wc.heap.size wc wx := below_grown (galloc (gdrew (Below.refl _ _)) _) hgx hge; have hltx := Nat.lt_of_lt_of_le hlt5 hbx.size)
                    | (refine step_append_lies _ rfl _ _ _ rfl w3.heap.size 56 i0 (.agg #[.int .i64 0, .slice none 0 0, .int .i64 0, .int .i64 0]) 4 48 Try.underlying46 hi hz0 hz1 hz2 rfl (Nat.lt_of_sub_eq_succ rfl) u10 l.length (phCells l) rfl (((hownd.alloc _).kept hgx (.inr hneU)).alloc _)
                        ⟨wx.heap.size, 0, none⟩ 1 1 [.int .i64 r.data, .slice (some ⟨ga, 0, none⟩) xs.length ca, .int .i64 0, .int .i64 0] rfl rfl (World.news_of_block (cs := #[.int .i64 r.data, .slice (some ⟨ga, 0, none⟩) xs.length ca, .int .i64 0, .int .i64 0]) (t := 56) (fr := (0, 0)) (heap_alloc_new wx _)) (oneCell4 _ _ _ _ rfl)
                        Nat.one_pos m1 m2 (le_alloc _ (Nat.le_trans hs5 hbx.size)) (wx.heap.size + 1) (World.size_alloc _ _) ?_; intro gg cap w7 hown7 hgrow hat hlt))
              all_goals
                have hvx : NewInts wx w3.heap.size (.slice (some ⟨ga, 0, none⟩) xs.length ca) xs := (NewInts.of_own hownx).mono hs5
                have hpush := phases_push (p := ⟨r.data, xs, 0, 0⟩) hN.out hown (gtr hbx (galloc (Below.refl _ _) _)) (hvx.later (galloc (Below.refl _ _) _)) hgrow hown7
                have hbel := below_grown (gtr hb7 (gtr hbx (galloc (Below.refl _ _) _))) hgrow (own_ge hown)
                rw [hll.out] at hpush
                clear hown7 hgrow hat hlt
                go_wp2_with fail
                go_meet
                exact ⟨by rw [if_pos HY.out]; exact hpush, hbel⟩
          case rest =>
            obtain ⟨hN8, hb8⟩ := hcut
            generalize hps8 : (ps7 ++ (if r.inn = true ∧ 0 < xs.length then [⟨r.data, xs, 0, 0⟩] else []) : List Ph) = ps8 at *
            have hlen8 : ps8.length ≤ 5 := by rw [← hps8]; simp; split <;> simp <;> omega
            have HPS8 := Lib.hid hps8
            clear hps8 hN7 hb7 x7 h7 c4 c5
            have x8 := x3.later hb8
            obtain ⟨c0, c1, c2, c3, c4, c5⟩ := x8.cell
            clear c0 c1 c2 c3 c5
            have hfin : cmdPhases r i xs read = ps8 ++ (if 0 < read then [⟨r.data, [], 0, read⟩] else []) := by
              unfold cmdPhases; rw [HPS.out, HPS6.out, HPS7.out, HPS8.out]
            have HFIN := Lib.hid hfin
            clear hfin HPS HPS6 HPS7 HPS8
            by_cases ha : 0 < read
            · obtain ⟨l, hll, hN, hown⟩ := hN8
              have hlen : l.length ≤ 6 := by have := congrArg List.length hll; simp at this; omega
              have hN := Lib.hid hN
              have hll := Lib.hid hll
              go_wp2_with (at_builtin; refine wpList_append_own _ rfl _ _ 46 rfl w3.heap.size 56 i0 (.agg #[.int .i64 0, .slice none 0 0, .int .i64 0, .int .i64 0]) 4 48 Try.underlying46 hi hz0 hz1 hz2 rfl (by decide) _ l.length (phCells l) ?d1 (hown.alloc _) ⟨wc.heap.size, 0, none⟩ 1 1 [.int .i64 r.data, .slice none 0 0, .int .i64 0, .int .i64 read] ?d2 rfl ?d3 ?d4 ?d5 ?d6 ?d7 ?_)
              case d1 => rfl
              case d2 => rfl
              case d3 => exact World.news_of_block (cs := #[.int .i64 r.data, .slice none 0 0, .int .i64 0, .int .i64 read]) (t := 56) (fr := (0, 0)) (new_block wc _)
              case d4 => intro u hu; simp only [List.mem_cons, List.not_mem_nil, or_false] at hu; rcases hu with rfl | rfl | rfl | rfl <;> rfl
              case d5 => simp only [maxLen]; omega
              case d6 => omega
              case d7 => have := hb8.size; simp; omega
              intro v' w' hown' hg _
              have hpush := phases_push (p := ⟨r.data, [], 0, read⟩) hN.out hown (galloc (Below.refl _ _) _) (NewInts.nil _ _) hg hown'
              have hbel : Below w3.heap.size w3 w' := below_grown (gtr hb8 (galloc (Below.refl _ _) _)) hg (own_ge hown)
              rw [hll.out] at hpush
              clear hown' hg
              go_wp2_with fail
              go_ret2
              exact ⟨v', rfl, by rw [HFIN.out, if_pos ha]; exact hpush.mono q3.size, gtr q3 hbel⟩
            · go_wp2_with fail
              go_ret2
              exact ⟨_, rfl, by rw [HFIN.out, if_neg (by omega), List.append_nil]; exact hN8.mono q3.size, gtr q3 hb8⟩
end Go.Proofs.Ythlcnccniliigaa

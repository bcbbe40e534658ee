/- Tables' walk: it returns true and writes nothing that was there. Conditions: the slice reads as ints, of fewer than 2^44 bytes. -/
import Derived.Test.YthlcnccniliigaaLend
import Derived.Test.YthlcnccniliigaaRefCommand
import Derived.Test.YthlcnccniliigaaSpoil
import Derived.Test.YthlcnccniliigaaAwake9
import Derived.Test.YthlcnccniliigaaCommandNo
namespace Go.Proofs.Ythlcnccniliigaa
open Go.RowKit
set_option linter.unusedVariables false

/-- What both commands leave: phases or nil, and the error; two of the same. -/
def BothOk (r : OpR) (i : Int) (xs : List Int) (rd : Int) (w : World) (e : Ending) (w' : World) : Prop :=
  ∃ a c, e = .returned (.tuple #[.slice a (if mayB r i xs rd then cmdPhases r i xs rd else []).length c, .int .i64 (if mayB r i xs rd then 0 else 900)]) ∧
    PhasesAt w' a (if mayB r i xs rd then cmdPhases r i xs rd else []) ∧ Below w.heap.size w w' ∧
    ((if mayB r i xs rd then cmdPhases r i xs rd else []).length = 0 ∨ ∃ g, a = some ⟨g, 0, none⟩ ∧ w.heap.size ≤ g ∧ ∀ k, k < (if mayB r i xs rd then cmdPhases r i xs rd else []).length → PhLoose w' w.heap.size g (0 + k * 4))

theorem both_of_ok {r : OpR} {i : Int} {xs : List Int} {rd : Int} {w : World} {e : Ending} {w' : World} (h : mayB r i xs rd = true) (hc : CmdPost (cmdPhases r i xs rd) w e w') : BothOk r i xs rd w e w' := by
  obtain ⟨v, rfl, hN, hb⟩ := hc
  have ok := (mayB_iff r i xs rd).1 h
  unfold BothOk
  rw [if_pos h, if_pos h]
  have hbl : ∀ p ∈ cmdPhases r i xs rd, p.bytes.length ≤ 9223372036854775807 := by
    intro p hp
    have hl := ok.len
    have : p.bytes.length ≤ 512 := by
      unfold cmdPhases at hp
      simp only [List.mem_append] at hp
      rcases hp with ((((hp | hp) | hp) | hp) | hp) | hp
      · obtain rfl : p = ⟨1, [r.byte], 0, 0⟩ := by simpa using hp
        simp
      · split at hp
        · obtain rfl : p = ⟨r.addr, [0, i / 256, i % 256], 0, 0⟩ := by simpa using hp
          simp
        · cases hp
      · split at hp
        · obtain rfl : p = ⟨r.addr, xs, 0, 0⟩ := by simpa using hp
          exact hl
        · cases hp
      · split at hp
        · obtain rfl : p = ⟨0, [], r.dummy, 0⟩ := by simpa using hp
          simp
        · cases hp
      · split at hp
        · obtain rfl : p = ⟨r.data, xs, 0, 0⟩ := by simpa using hp
          exact hl
        · cases hp
      · split at hp
        · obtain rfl : p = ⟨r.data, [], 0, rd⟩ := by simpa using hp
          simp
        · cases hp
    omega
  have hpos : 0 < (cmdPhases r i xs rd).length := by simp [cmdPhases]
  obtain ⟨g, c, hv, hg, hl⟩ := loose_of_new hN hbl hpos
  obtain ⟨a, c', hv', hP⟩ := hN.reads
  rw [hv] at hv'
  obtain ⟨rfl, rfl⟩ : some ⟨g, 0, none⟩ = a ∧ c = c' := by simpa using hv'
  exact ⟨_, c, by rw [hv], hP, hb, .inr ⟨g, rfl, hg, hl⟩⟩
theorem both_of_no {r : OpR} {i : Int} {xs : List Int} {rd : Int} {w : World} {e : Ending} {w' : World} (h : mayB r i xs rd = false) (hc : CmdNo w e w') : BothOk r i xs rd w e w' := by
  obtain ⟨rfl, hb⟩ := hc
  unfold BothOk
  rw [h]
  exact ⟨none, 0, rfl, fun k hk => by simp at hk, hb, .inl rfl⟩

theorem command_both (r : OpR) (i : Int) (a : Option Addr) (c : Nat) (xs : List Int) (rd : Int) (w : World) (h1 : IntsAt w a xs) (hn : a = none → c = 0) (hm : xs.length ≤ 9223372036854775807) :
    Calls Try.prog 39 #[.agg r.cells, .int .i64 i, .slice a xs.length c, .int .i64 rd] w (BothOk r i xs rd w) := by
  cases h : mayB r i xs rd with
  | true => exact (command_ok r i a c xs rd w ((mayB_iff r i xs rd).1 h) h1 hn).mono fun e w' => both_of_ok h
  | false => exact (command_no r i a c xs rd w (fun hk => by rw [(mayB_iff r i xs rd).2 hk] at h; cases h) h1 hm).mono fun e w' => both_of_no h
theorem refCommand_both (r : OpR) (i : Int) (a : Option Addr) (c : Nat) (xs : List Int) (rd : Int) (w : World) (h1 : IntsAt w a xs) (hm : xs.length ≤ 9223372036854775807) :
    Calls Try.prog 40 #[.agg r.cells, .int .i64 i, .slice a xs.length c, .int .i64 rd] w (BothOk r i xs rd w) := by
  cases h : mayB r i xs rd with
  | true => exact (refCommand_ok r i a c xs rd w ((mayB_iff r i xs rd).1 h) h1).mono fun e w' => both_of_ok h
  | false => exact (refCommand_no r i a c xs rd w (fun hk => by rw [(mayB_iff r i xs rd).2 hk] at h; cases h) h1 hm).mono fun e w' => both_of_no h

theorem phases_small (r : OpR) (i : Int) (xs : List Int) (rd : Int) : (if mayB r i xs rd then cmdPhases r i xs rd else []).length ≤ 6 := by
  split
  · unfold cmdPhases
    simp only [List.length_append, List.length_cons, List.length_nil]
    have : ∀ (c : Prop) [Decidable c] (p : Ph), (if c then [p] else []).length ≤ 1 := by intro c _ p; split <;> simp
    have a1 := this (0 < r.addr) ⟨r.addr, [0, i / 256, i % 256], 0, 0⟩
    have a2 := this (r.mode = true) ⟨r.addr, xs, 0, 0⟩
    have a3 := this (0 < r.dummy) ⟨0, [], r.dummy, 0⟩
    have a4 := this (r.inn = true ∧ 0 < xs.length) ⟨r.data, xs, 0, 0⟩
    have a5 := this (0 < rd) ⟨r.data, [], 0, rd⟩
    omega
  · simp

theorem phases_bytes (r : OpR) (i : Int) (xs : List Int) (rd : Int) (hm : xs.length ≤ 9223372036854775807) : ∀ p ∈ (if mayB r i xs rd then cmdPhases r i xs rd else []), p.bytes.length ≤ 9223372036854775807 := by
  intro p hp
  split at hp
  · unfold cmdPhases at hp
    simp only [List.mem_append] at hp
    rcases hp with ((((hp | hp) | hp) | hp) | hp) | hp
    · obtain rfl : p = ⟨1, [r.byte], 0, 0⟩ := by simpa using hp
      show 1 ≤ _; omega
    · split at hp
      · obtain rfl : p = ⟨r.addr, [0, i / 256, i % 256], 0, 0⟩ := by simpa using hp
        show 3 ≤ _; omega
      · cases hp
    · split at hp
      · obtain rfl : p = ⟨r.addr, xs, 0, 0⟩ := by simpa using hp
        exact hm
      · cases hp
    · split at hp
      · obtain rfl : p = ⟨0, [], r.dummy, 0⟩ := by simpa using hp
        show 0 ≤ _; omega
      · cases hp
    · split at hp
      · obtain rfl : p = ⟨r.data, xs, 0, 0⟩ := by simpa using hp
        exact hm
      · cases hp
    · split at hp
      · obtain rfl : p = ⟨r.data, [], 0, rd⟩ := by simpa using hp
        show 0 ≤ _; omega
      · cases hp
  · cases hp

theorem PhLoose.later {w w' : World} {B b o : Nat} (h : PhLoose w B b o) (hb : Below w.heap.size w w') : PhLoose w' B b o := by
  obtain ⟨⟨x, h1⟩, h2, a, n, c, h3, h4, h5⟩ := h
  have hl := World.block_lt_of_cell? w _ h1
  refine ⟨⟨x, (hb.cell (p := ⟨b, o, none⟩) hl).trans h1⟩, (hb.frozen (p := ⟨b, o, none⟩) hl).trans h2, a, n, c, (hb.cell (p := ⟨b, o + 1, none⟩) hl).trans h3, h4, ?_⟩
  rcases h5 with h5 | ⟨b1, off, ha, hB, hx, hf⟩
  · exact .inl h5
  · refine .inr ⟨b1, off, ha, hB, fun i hi => ?_, fun i hi => ?_⟩
    · obtain ⟨y, hy⟩ := hx i hi
      exact ⟨y, (hb.cell (p := ⟨b1, off + i, none⟩) (World.block_lt_of_cell? w _ hy)).trans hy⟩
    · obtain ⟨y, hy⟩ := hx i hi
      exact (hb.frozen (p := ⟨b1, off + i, none⟩) (World.block_lt_of_cell? w _ hy)).trans (hf i hi)

/-- A row of a command written over. -/
def boxSet (w : World) (g : Nat) (q : OpR) : World :=
  (((((w.setCell ⟨g, 0, none⟩ (.int .i64 q.byte)).setCell ⟨g, 1, none⟩ (.int .i64 q.addr)).setCell ⟨g, 2, none⟩ (.bool q.mode)).setCell ⟨g, 3, none⟩ (.int .i64 q.dummy)).setCell ⟨g, 4, none⟩ (.int .i64 q.data)).setCell ⟨g, 5, none⟩ (.bool q.inn)
theorem boxSet_block {w : World} {g : Nat} {r : OpR} (q : OpR) (h : w.heap[g]? = some (.cells r.cells 35 (0, 0))) : (boxSet w g q).heap[g]? = some (.cells q.cells 35 (0, 0)) :=
  heap_setCell_same _ _ _ _ _ _ (heap_setCell_same _ _ _ _ _ _ (heap_setCell_same _ _ _ _ _ _ (heap_setCell_same _ _ _ _ _ _ (heap_setCell_same _ _ _ _ _ _ (heap_setCell_same _ _ _ _ _ _ h)))))
theorem boxSet_below {w w' : World} {g : Nat} (q : OpR) (h : Below w.heap.size w w') (hg : w.heap.size ≤ g) : Below w.heap.size w (boxSet w' g q) :=
  gset (gset (gset (gset (gset (gset h hg _) hg _) hg _) hg _) hg _) hg _
theorem boxSet_other {w : World} {g : Nat} (q : OpR) (b : Nat) (h : b ≠ g) : (boxSet w g q).heap[b]? = w.heap[b]? := by
  unfold boxSet
  rw [heap_setCell_other _ _ _ _ h, heap_setCell_other _ _ _ _ h, heap_setCell_other _ _ _ _ h, heap_setCell_other _ _ _ _ h, heap_setCell_other _ _ _ _ h, heap_setCell_other _ _ _ _ h]

/-- What both ways of Find leave. -/
def FoundPost (q : OpR) (er : Int) (w : World) (e : Ending) (w' : World) : Prop :=
  e = .returned (.tuple #[.agg #[.int .i64 q.byte, .int .i64 q.addr, .bool q.mode, .int .i64 q.dummy, .int .i64 q.data, .bool q.inn], .int .i64 er]) ∧ Below w.heap.size w w'
theorem found_both (b : Int) : ∃ q er, ∀ w, Calls Try.prog 36 #[.int .i64 b] w (FoundPost q er w) ∧ Calls Try.prog 37 #[.int .i64 b] w (FoundPost q er w) :=
  ⟨opRow b, if opErr b = 0 then 0 else 900, fun w => ⟨find_calls b w, findOp_calls b w⟩⟩

set_option maxRecDepth 100000 in
set_option maxHeartbeats 8000000 in
theorem tables_walk (b : Int) (r : OpR) (own : Bool) (i : Int) (a : Option Addr) (c : Nat) (xs : List Int) (rd : Int) (w : World) (h1 : IntsAt w a xs) (hn : a = none → c = 0) (hm : xs.length * 8 ≤ 140737488351232) :
    Calls Try.prog 10 #[.int .i64 b, .agg r.cells, .bool own, .int .i64 i, .slice a xs.length c, .int .i64 rd] w (RetBool true w) := by
  rw [box4 r]
  obtain ⟨rb, er, HF⟩ := found_both b
  have HF := Lib.hid HF
  go_enter Try.func10, Try.ntmps10
  go_wp2_with fail
  refine (HF.out _).1.mono ?_
  rintro e w1 ⟨rfl, hb1⟩
  have q1 : Below w.heap.size w w1 := gtr (galloc (Below.refl _ _) _) hb1
  have f7 : w1.heap[w.heap.size]? = some (.cells r.cells 35 (0, 0)) := block_later hb1 (new_block _ _)
  have hB13 : w.heap.size < w1.heap.size := lt_of f7
  clear hb1
  go_upto_region 2 with (fail)
  generalize hW : w1.alloc _ = w2
  have q2 : Below w.heap.size w w2 := by rw [← hW]; exact galloc q1 _
  replace f7 := block_later (show Below w1.heap.size w1 w2 by rw [← hW]; exact galloc (Below.refl _ _) _) f7
  have x13 : OpBox w2 w1.heap.size rb := by rw [← hW]; exact ⟨_, _, new_block _ _⟩
  generalize w1.heap.size = B13 at *
  clear hW q1 w1
  go_wp2_with fail
  refine (HF.out _).2.mono ?_
  rintro e w3 ⟨rfl, hb3⟩
  have q3 := gtr q2 hb3
  replace f7 := block_later hb3 f7
  have hlt13 := x13.lt
  have hs3 := hb3.size
  replace x13 := x13.later hb3
  clear q2 hb3
  go_upto_region 3 with (fail)
  generalize hW : w3.alloc _ = w4
  have q4 : Below w.heap.size w w4 := by rw [← hW]; exact galloc q3 _
  have hb4 : Below w3.heap.size w3 w4 := by rw [← hW]; exact galloc (Below.refl _ _) _
  replace f7 := block_later hb4 f7
  replace x13 := x13.later hb4
  have x15 : OpBox w4 w3.heap.size rb := by rw [← hW]; exact ⟨_, _, new_block _ _⟩
  have hB15 : B13 < w3.heap.size := by omega
  generalize w3.heap.size = B15 at *
  clear hW q3 hb4 w3 hlt13 hs3 w2 HF
  have h4 := h1.later q4
  have HH1 := Lib.hid h1
  clear h1
  obtain ⟨e0, e1, e2, e3, e4, e5⟩ := x15.cell
  have g0 : w4.cell? ⟨w.heap.size, 0, none⟩ = some (.int .i64 r.byte) := cell_of f7 0
  have g1 : w4.cell? ⟨w.heap.size, 1, none⟩ = some (.int .i64 r.addr) := cell_of f7 1
  have g2 : w4.cell? ⟨w.heap.size, 2, none⟩ = some (.bool r.mode) := cell_of f7 2
  have g3 : w4.cell? ⟨w.heap.size, 3, none⟩ = some (.int .i64 r.dummy) := cell_of f7 3
  have g4 : w4.cell? ⟨w.heap.size, 4, none⟩ = some (.int .i64 r.data) := cell_of f7 4
  have g5 : w4.cell? ⟨w.heap.size, 5, none⟩ = some (.bool r.inn) := cell_of f7 5
  have hfree := fun i => free_of f7 i
  go_upto_if 32 with (fail)
  generalize hw4 : w4 = w4' at *
  go_cut [32] from 33 (fun v wx => ∃ q, wx.heap[w.heap.size]? = some (.cells (OpR.cells q) 35 (0, 0)) ∧ OpBox wx B13 rb ∧ OpBox wx B15 rb ∧ Below w.heap.size w wx)
  case first =>
    cases own with
    | true =>
      go_wp2_with fail
      go_meet
      exact ⟨rb, boxSet_block rb f7, by obtain ⟨t, f, h⟩ := x13; exact ⟨t, f, (boxSet_other rb _ (by omega)).trans h⟩, by obtain ⟨t, f, h⟩ := x15; exact ⟨t, f, (boxSet_other rb _ (by omega)).trans h⟩, boxSet_below rb q4 (Nat.le_refl _)⟩
    | false =>
      go_wp2_with fail
      go_meet
      exact ⟨r, f7, x13, x15, q4⟩
  case rest =>
  obtain ⟨q, f5, y13, y15, q5⟩ := hcut
  clear f7 x13 x15 q4 h4 g0 g1 g2 g3 g4 g5 hfree e0 e1 e2 e3 e4 e5 hw4
  generalize wc = w5 at *
  have h5 := HH1.out.later q5
  generalize hagg : Value.agg #[.int .i64 r.byte, .int .i64 r.addr, .bool r.mode, .int .i64 r.dummy, .int .i64 r.data, .bool r.inn] = vagg at *
  clear hagg
  go_wp2_with fail
  refine (lendInts_calls a c xs _ h5 hn hm).mono ?_
  rintro e w6 ⟨g, cap, rfl, hL, hb6⟩
  have x7 : OpBox w6 w.heap.size q := ⟨_, _, block_later hb6 f5⟩
  replace y13 := y13.later hb6
  replace y15 := y15.later hb6
  have q6 := gtr q5 hb6
  have h6 := h5.later hb6
  have hxm : xs.length ≤ 9223372036854775807 := by omega
  clear f5 q5 h5 hb6 HH1
  obtain ⟨c0, c1, c2, c3, c4, c5⟩ := x7.cell
  have C1 := Lib.hid (command_both q i (some ⟨g, 0, none⟩) cap xs rd w6 hL.ints (fun h => nomatch h) hxm)
  have hps := phases_small q i xs rd
  have hpb := phases_bytes q i xs rd hxm
  go_wp2_with fail
  refine C1.out.mono ?_
  rintro e w7 ⟨pa, pc, rfl, hP, hb7, hlo⟩
  clear C1 c0 c1 c2 c3 c4 c5
  have x7' := x7.later hb7
  obtain ⟨c0, c1, c2, c3, c4, c5⟩ := x7'.cell
  have C2 := Lib.hid (refCommand_both q i a c xs rd w7 (h6.later hb7) hxm)
  generalize hpp : (if mayB q i xs rd = true then cmdPhases q i xs rd else []) = pp at *
  generalize hee : (if mayB q i xs rd = true then (0 : Int) else 900) = ee at *
  go_wp2_with fail
  refine C2.out.mono ?_
  unfold BothOk
  rw [hpp, hee]
  rintro e w8 ⟨ra, rc, rfl, hP2, hb8, -⟩
  clear C2 hpp hee c0 c1 c2 c3 c4 c5
  have hb68 := gtr hb7 hb8
  have z13 := y13.later hb68
  have z15 := y15.later hb68
  have HP := Lib.hid (samePhases_calls pa ra pc rc pp pp w8 (hP.later hb8) hP2 (by omega) hpb)
  simp only [decide_true] at HP
  obtain ⟨a0, a1, a2, a3, a4, a5⟩ := z13.cell
  obtain ⟨e0, e1, e2, e3, e4, e5⟩ := z15.cell
  go_upto_region 8 with (fail)
  go_cut [72] from 22 (fun v wx => v = .bool false ∧ ∃ n, wx = w8.drewN n)
  case first =>
    go_wp2_with (first | (go_at_call 27; refine (num_calls _ _).mono ?_; rintro e w9 ⟨rfl, rfl⟩) | (go_at_call 41; refine HP.out.mono ?_; rintro e w9 ⟨rfl, n9, rfl⟩))
    go_meet
    exact ⟨rfl, n9, rfl⟩
  case rest =>
  obtain ⟨rfl, n9, hw⟩ := hcut
  have hb9 : Below w8.heap.size w8 wc := by rw [hw]; exact gdrewN (Below.refl _ _) _
  clear hw a0 a1 a2 a3 a4 a5 e0 e1 e2 e3 e4 e5 HP
  have hb69 := gtr hb68 hb9
  have hL9 := hL.later hb69
  have h9 := h6.later hb69
  have q9 := gtr q6 hb69
  have S1 : Hid (Calls Try.prog 42 #[.slice pa pp.length pc] wc (fun e w' => e = .returned (.tuple #[]) ∧ Below w6.heap.size wc w')) := Lib.hid (by
    have hb79 := gtr hb8 hb9
    rcases hlo with h0 | ⟨g', rfl, hg, hl⟩
    · rw [h0]
      refine (spoilPhasesNil_calls pa pc wc).mono ?_
      rintro e w' ⟨rfl, rfl⟩
      exact ⟨rfl, Below.refl _ _⟩
    · exact spoilPhases_calls w6.heap.size g' 0 pp.length pc wc (by omega) hg (fun k hk => (hl k hk).later hb79))
  clear z13 z15 hlo hP hP2 hpb hb68 hb8 hb7 hb9 y13 y15 x7 x7'
  go_wp2_with fail
  refine S1.out.mono ?_
  rintro e w10 ⟨rfl, hb10⟩
  have q10 : Below w.heap.size w w10 := gtr q6 (hb69.trans hb10)
  have hL10 := hL.later (hb69.trans hb10)
  have h10 := h6.later (hb69.trans hb10)
  clear S1 hb10 hb69 hL9 h9 q9
  go_wp2_with fail
  refine (keptInts_calls _ g cap a c xs _ hL10 h10 hm).mono ?_
  rintro e w11 ⟨rfl, n11, rfl⟩
  go_wp2_with fail
  refine (awake9_calls _).mono ?_
  rintro e w12 ⟨rfl, hb12⟩
  go_wp2_with fail
  go_ret
  exact ⟨rfl, gtr (gdrewN q10 n11) hb12⟩

theorem tables_row (b : Int) (r : OpR) (own : Bool) (i : Int) (a : Option Addr) (len cap : Nat) (zs : List Int) (rd : Int) (w : World) (hz : IsRow w a len cap zs) (hm : len * 8 ≤ 140737488351232) :
    Calls Try.prog 10 #[.int .i64 b, .agg r.cells, .bool own, .int .i64 i, .slice a len cap, .int .i64 rd] w (RetBool true w) := by
  obtain ⟨hxl, hxs, hmx, hn⟩ := isRow_ints hz
  generalize zs.take len = xs at *
  subst hxl
  exact tables_walk b r own i a cap xs rd w hxs hn hm
end Go.Proofs.Ythlcnccniliigaa

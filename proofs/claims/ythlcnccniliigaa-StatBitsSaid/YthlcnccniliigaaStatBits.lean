/- The statement StatBitsSaid is proved: StatBits returns true for every input, and writes nothing that was there. No conditions. -/
import Derived.Test.YthlcnccniliigaaRows
import Derived.Test.YthlcnccniliigaaStat
import Derived.WalkKit
import Derived.ProofKit
import Derived.OpenShut
namespace Go.Proofs.Ythlcnccniliigaa.statBits
open Go.ChangeShapes Go.WideShapes Go.ChangeAt Go.RowKit
set_option linter.unusedVariables false      -- a walk need not use every 'w<i>' (that an integer argument fits its kind)

theorem bit_facts (a b c : Bool) : (bits BinOp.and IntKind.i64 (bsum a b c) 1 != 0) = a ∧ (bits BinOp.and IntKind.i64 (bsum a b c) 2 != 0) = b ∧ (bits BinOp.and IntKind.i64 (bsum a b c) 4 != 0) = c ∧
    bits BinOp.andNot IntKind.i64 (bsum a b c) 7 = 0 ∧ (bits BinOp.and IntKind.i64 (bsum2 a b) 2 != 0) = a ∧ (bits BinOp.and IntKind.i64 (bsum2 a b) 128 != 0) = b ∧ bits BinOp.andNot IntKind.i64 (bsum2 a b) 130 = 0 := by
  cases a <;> cases b <;> cases c <;> refine ⟨?_, ?_, ?_, ?_, ?_, ?_, ?_⟩ <;> kernel_rfl

theorem own : ownKnob Try.prog.godebug = none := by kernel_rfl

theorem walk (a0 : Int) (w0 : (Lit.int .i64 a0).wf = true) (w : World) :
    Calls Try.prog 5 #[.int .i64 a0] w fun e w' => e = .returned (.bool true) ∧ Grown w w' := by
  obtain ⟨f1, f2, f3, f4, f5, f6, f7⟩ := bit_facts (bits BinOp.and IntKind.i64 a0 1 == 1) (bits BinOp.and IntKind.i64 a0 2 == 2) (bits BinOp.and IntKind.i64 a0 4 == 4)
  go_enter Try.func5, Try.ntmps5
  go_wp2_with (first | (go_at_call 21; refine (prot_calls _ _ _).mono ?_; rintro e w' ⟨rfl, rfl⟩) | (go_at_call 22; refine (rprot_calls _ _ _).mono ?_; rintro e w' ⟨rfl, rfl⟩) | (go_at_call 23; refine (first_calls _ _ _ _).mono ?_; rintro e w1 ⟨rfl, hg1⟩) | (go_at_call 24; refine (rfirst_calls _ _ _ _).mono ?_; rintro e w' ⟨rfl, rfl⟩) | (go_at_call 25; refine (second_calls _ _ _).mono ?_; rintro e w2 ⟨rfl, hg2⟩) | (go_at_call 26; refine (rsecond_calls _ _ _).mono ?_; rintro e w' ⟨rfl, rfl⟩) | (go_at_call 27; refine (num_calls _ _).mono ?_; rintro e w' ⟨rfl, rfl⟩) | (go_at_call 28; refine (awake5_calls _).mono ?_; rintro e w3 ⟨rfl, hg3⟩))
  go_ret
  exact ⟨rfl, grown_trans hg3 (grown_trans hg1 hg2)⟩

set_option maxRecDepth 100000 in
theorem lifted (os : Os) (started : os.Started) (H : Type) (enc : TypeId × Value → H) :
    ReturnsInHanded {} Try.checked os 5 .any (Rows.statBitsSpec.pre6 enc Try.prog Try.f5 Rows.statBitsRow.domain false) (Rows.statBitsSpec.post enc Try.prog Try.f5 false true false false) := by
  refine returnsInHanded_of_change (C := Try.checked) own started (by kernel_rfl) Try.func5
    (ChangeSpec.witness6 (enc := enc) (C := Try.checked) false ⟨#[], #[.int .i64 0], []⟩ 8 (by kernel_rfl) (by kernel_rfl) (by kernel_rfl) (by kernel_rfl)) ?_
  intro W base args ds gs before hval0 hW hcnd _
  have hval : ∀ (j : Nat) t v, Try.f5.params[j]? = some t → args[j]? = some v → Value.okWide Try.prog W .any base t v := hval0
  have hW' := hW
  obtain ⟨p, q, hA0, hV, rfl, hfz, hnd⟩ := hW
  have hA : DataW.TrodAll enc Try.prog W 0 (fun _ => true) true Try.f5.params.toList args.toList ds p := hA0
  rw [Try.params5] at hA hval
  obtain ⟨v0, vs0, d0, ds0, p0, q0, hargs, rfl, rfl, h0, r0⟩ := trodAll_cons hA
  obtain ⟨rfl, rfl, rfl⟩ := trodAll_nil r0
  obtain rfl : args = #[v0] := by cases args; simp_all
  obtain ⟨rfl, rfl⟩ := trodVars_none hV
  obtain ⟨a0, rfl, rfl, rfl, w0⟩ := open_int Try.underlying3 (hval 0 3 v0 rfl rfl) h0
  clear hA0 hval0
  simp only [List.append_nil] at hW'
  refine (walk a0 w0 W).mono fun e W' ⟨he, hg⟩ => ?_
  subst he
  exact ⟨_, rfl, post_of_same (pa := []) (pv := []) hW' (fun _ _ _ => (trodAll_cons_mk (shut_bool Try.underlying4 _) trodAll_mk0)) (fun sp _ => (trodAll_cons_mk (shut_int Try.underlying3 w0) trodAll_mk0)) (fun _ _ => rfl) rfl
    (hg.frame _) hg.2.1 (ok_one (by kernel_rfl) rfl (okWide_bool_mk Try.underlying4 _))⟩

theorem over : Rows.statBitsRow.holds Try.pinned (OpenSpec.ofChange Rows.statBitsSpec) :=
  OpenClaim.holds_of_wide 5 Try.f5 rfl rfl rfl rfl rfl rfl rfl ⟨rfl, rfl, rfl, rfl, rfl⟩ rfl rfl rfl rfl rfl (by kernel_rfl) Try.func5 (by kernel_rfl)
    (of_decide_eq_true (by kernel_rfl)) (by unfold Func.isWrapper; first | (rw [if_pos (by decide +kernel)]; kernel_rfl) | (rw [if_neg (by decide +kernel)]; exact ⟨rfl, rfl⟩))
    (fun os started H enc _ => lifted os started H enc)

theorem proved : Rows.StatBitsSaid :=
  over
#print axioms proved
end Go.Proofs.Ythlcnccniliigaa.statBits

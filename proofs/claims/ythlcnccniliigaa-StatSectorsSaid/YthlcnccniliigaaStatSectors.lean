/- The statement StatSectorsSaid is proved: StatSectors returns true for every input, and writes nothing that was there. No conditions. -/
import Derived.Test.YthlcnccniliigaaRows
import Derived.Test.YthlcnccniliigaaStat
import Derived.Test.YthlcnccniliigaaArith
import Derived.WalkKit
import Derived.ProofKit
import Derived.OpenShut
namespace Go.Proofs.Ythlcnccniliigaa.statSectors
open Go.ChangeShapes Go.WideShapes Go.ChangeAt Go.RowKit
set_option linter.unusedVariables false      -- a walk need not use every 'w<i>' (that an integer argument fits its kind)

theorem sect_facts (a : Int) : protB true (wrap64 ((IntKind.u64.wrap a).tmod 4096)) = decide (wrap64 ((wrap64 ((IntKind.u64.wrap a).tmod 4096)).tdiv 512) < 4) ∧
    protE (wrap64 ((IntKind.u64.wrap a).tmod 4096)) = 0 ∧ protB false (wrap64 ((IntKind.u64.wrap a).tmod 4096)) = false := by
  rw [IntKind.wrap_u64]
  have e : wrap64 ((a % 18446744073709551616).tmod 4096) = a % 18446744073709551616 % 4096 := by
    rw [Int.tmod_eq_emod_of_nonneg (by omega)]; unfold wrap64; omega
  rw [e]
  generalize hk : a % 18446744073709551616 % 4096 = k
  have h0 : 0 ≤ k := by omega
  have h1 : k < 4096 := by omega
  have e2 : wrap64 (k.tdiv 512) = k / 512 := by rw [Int.tdiv_eq_ediv_of_nonneg h0]; unfold wrap64; omega
  rw [e2]
  refine ⟨?_, prot_in k h0 h1, by simp [protB]⟩
  unfold protB
  rw [decide_eq_true h0]
  simp only [Bool.true_and, decide_eq_decide]
  omega

theorem far_facts (x : Int) : protE (wrap64 (-wrap64 (1 + bits BinOp.and IntKind.i64 x 1023))) = 500 ∧ protE (wrap64 (4095 + wrap64 (1 + bits BinOp.and IntKind.i64 x 1023))) = 500 := by
  rw [and1023]
  constructor
  · exact (prot_lo true _ (by unfold wrap64; omega)).2
  · exact (prot_hi true _ (by unfold wrap64; omega)).2

theorem own : ownKnob Try.prog.godebug = none := by kernel_rfl

theorem walk (a0 : Int) (a1 : Int) (w0 : (Lit.int .i64 a0).wf = true) (w1 : (Lit.int .i64 a1).wf = true) (w : World) :
    Calls Try.prog 6 #[.int .i64 a0, .int .i64 a1] w fun e w' => e = .returned (.bool true) ∧ Grown w w' := by
  obtain ⟨f1, f2, f3⟩ := sect_facts a0
  obtain ⟨f4, f5⟩ := far_facts a1
  go_enter Try.func6, Try.ntmps6
  go_wp2_with (first | (go_at_call 21; refine (prot_calls _ _ _).mono ?_; rintro e w' ⟨rfl, rfl⟩) | (go_at_call 27; refine (num_calls _ _).mono ?_; rintro e w' ⟨rfl, rfl⟩) | (go_at_call 28; refine (awake5_calls _).mono ?_; rintro e w3 ⟨rfl, hg3⟩))
  go_ret
  exact ⟨rfl, hg3⟩

set_option maxRecDepth 100000 in
theorem lifted (os : Os) (started : os.Started) (H : Type) (enc : TypeId × Value → H) :
    ReturnsInHanded {} Try.checked os 6 .any (Rows.statSectorsSpec.pre6 enc Try.prog Try.f6 Rows.statSectorsRow.domain false) (Rows.statSectorsSpec.post enc Try.prog Try.f6 false true false false) := by
  refine returnsInHanded_of_change (C := Try.checked) own started (by kernel_rfl) Try.func6
    (ChangeSpec.witness6 (enc := enc) (C := Try.checked) false ⟨#[], #[.int .i64 0, .int .i64 0], []⟩ 8 (by kernel_rfl) (by kernel_rfl) (by kernel_rfl) (by kernel_rfl)) ?_
  intro W base args ds gs before hval0 hW hcnd _
  have hval : ∀ (j : Nat) t v, Try.f6.params[j]? = some t → args[j]? = some v → Value.okWide Try.prog W .any base t v := hval0
  have hW' := hW
  obtain ⟨p, q, hA0, hV, rfl, hfz, hnd⟩ := hW
  have hA : DataW.TrodAll enc Try.prog W 0 (fun _ => true) true Try.f6.params.toList args.toList ds p := hA0
  rw [Try.params6] at hA hval
  obtain ⟨v0, vs0, d0, ds0, p0, q0, hargs, rfl, rfl, h0, r0⟩ := trodAll_cons hA
  obtain ⟨v1, vs1, d1, ds1, p1, q1, rfl, rfl, rfl, h1, r1⟩ := trodAll_cons r0
  obtain ⟨rfl, rfl, rfl⟩ := trodAll_nil r1
  obtain rfl : args = #[v0, v1] := by cases args; simp_all
  obtain ⟨rfl, rfl⟩ := trodVars_none hV
  obtain ⟨a0, rfl, rfl, rfl, w0⟩ := open_int Try.underlying3 (hval 0 3 v0 rfl rfl) h0
  obtain ⟨a1, rfl, rfl, rfl, w1⟩ := open_int Try.underlying3 (hval 1 3 v1 rfl rfl) h1
  clear hA0 hval0
  simp only [List.append_nil] at hW'
  refine (walk a0 a1 w0 w1 W).mono fun e W' ⟨he, hg⟩ => ?_
  subst he
  exact ⟨_, rfl, post_of_same (pa := []) (pv := []) hW' (fun _ _ _ => (trodAll_cons_mk (shut_bool Try.underlying4 _) trodAll_mk0)) (fun sp _ => (trodAll_cons_mk (shut_int Try.underlying3 w0) (trodAll_cons_mk (shut_int Try.underlying3 w1) trodAll_mk0))) (fun _ _ => rfl) rfl
    (hg.frame _) hg.2.1 (ok_one (by kernel_rfl) rfl (okWide_bool_mk Try.underlying4 _))⟩

theorem over : Rows.statSectorsRow.holds Try.pinned (OpenSpec.ofChange Rows.statSectorsSpec) :=
  OpenClaim.holds_of_wide 6 Try.f6 rfl rfl rfl rfl rfl rfl rfl ⟨rfl, rfl, rfl, rfl, rfl⟩ rfl rfl rfl rfl rfl (by kernel_rfl) Try.func6 (by kernel_rfl)
    (of_decide_eq_true (by kernel_rfl)) (by unfold Func.isWrapper; first | (rw [if_pos (by decide +kernel)]; kernel_rfl) | (rw [if_neg (by decide +kernel)]; exact ⟨rfl, rfl⟩))
    (fun os started H enc _ => lifted os started H enc)

theorem proved : Rows.StatSectorsSaid :=
  over
#print axioms proved
end Go.Proofs.Ythlcnccniliigaa.statSectors

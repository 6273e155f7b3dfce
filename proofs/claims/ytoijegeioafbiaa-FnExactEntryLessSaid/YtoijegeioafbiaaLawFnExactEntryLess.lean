/- The law FnExactEntryLess of the program, for every input: its row, over the pure statement. -/
import Derived.Test.YtoijegeioafbiaaRows
import Derived.Test.YtoijegeioafbiaaPFnExactEntryLessx1
import Derived.Test.YtoijegeioafbiaaPureFnExactEntryLess
import Derived.Test.YtoijegeioafbiaaBOpen
import Derived.WalkKit
import Derived.ProofKit
import Derived.OpenShut
import Derived.ShutString
import Derived.ChangeOld
import Derived.Below
import Derived.SizedLaws
namespace Go.Proofs.Ytoijegeioafbiaa.fnExactEntryLess
open Go.ChangeShapes Go.WideShapes Go.ChangeAt Go.RowKit Go.Proofs.Ytoijegeioafbiaa.B Go.Proofs.YtoijegeioafbiaaW.PrintWords Go.Proofs.YtoijegeioafbiaaW.PrintMore Go.Proofs.Ytoijegeioafbiaa.PFnExactEntryLess
open Go.ChangeMaps (open_string shut_string)
set_option linter.unusedVariables false
set_option linter.unusedSimpArgs false
theorem own : ownKnob Try.prog.godebug = none := by kernel_rfl
theorem laidOut : laidOutB Try.prog = true := by kernel_rfl
set_option maxRecDepth 100000 in
set_option maxHeartbeats 1000000 in
theorem lifted (os : Os) (started : os.Started) (H : Type) (enc : TypeId × Value → H) :
    ReturnsInHanded {} Try.checked os 6 .any (Rows.fnExactEntryLessSpec.pre6 enc Try.prog Try.f6 Rows.fnExactEntryLessRow.domain false) (Rows.fnExactEntryLessSpec.post enc Try.prog Try.f6 false true false false) := by
  refine returnsInHanded_of_change_sized (C := Try.checked) own started (by kernel_rfl) Try.func6
    (ChangeSpec.witness6 (enc := enc) (C := Try.checked) false ⟨#[], #[.agg #[.string ByteArray.empty, .int .i64 0, .int .i64 0, .string ByteArray.empty, .int .i64 0], .agg #[.string ByteArray.empty, .int .i64 0, .int .i64 0, .string ByteArray.empty, .int .i64 0]], []⟩ 8 (by kernel_rfl) (by kernel_rfl) (by kernel_rfl) (by kernel_rfl)) ?_
  intro W base args ds gs before hval0 hW hcnd hsz0 _
  have hval : ∀ (j : Nat) t v, Try.f6.params[j]? = some t → args[j]? = some v → Value.okWide Try.prog W .any base t v := hval0
  have hW' := hW
  obtain ⟨p, q, hA0, hV, rfl, hfz, hnd⟩ := hW
  have hA : DataW.TrodAll enc Try.prog W 0 (fun _ => true) true Try.f6.params.toList args.toList ds p := hA0
  rw [Try.params6] at hA hval
  obtain ⟨v0, vs0, d0, ds0, p0, q0, hargs, rfl, rfl, h0, r0⟩ := trodAll_cons hA
  obtain ⟨v1, vs1, d1, ds1, p1, q1, rfl, rfl, rfl, h1, r1⟩ := trodAll_cons r0
  obtain ⟨rfl, rfl, rfl⟩ := trodAll_nil r1
  obtain rfl : args = #[v0, v1] := by cases args; simp_all
  obtain ⟨rfl, rfl⟩ := trodVars_none hV
  have k0 := h0
  have lt0 := lt_places k0
  obtain ⟨_, rfl, ⟨a0_0, a0_1, a0_2, a0_3, a0_4⟩, ⟨_, _, rfl, rfl, ⟨_, _, rfl, rfl, ⟨_, _, rfl, rfl, ⟨_, _, rfl, rfl, rfl⟩⟩⟩⟩, g0⟩ := Opens.argS (opens_fields5 Try.underlying25 (by kernel_rfl) (by kernel_rfl) (opens_string Try.underlying9) (opens_int Try.underlying3) (opens_int Try.underlying3) (opens_string Try.underlying9) (opens_int Try.underlying3)) Try.underlying25 (hval 0 25 v0 rfl rfl) h0
  have k1 := h1
  have lt1 := lt_places k1
  obtain ⟨_, rfl, ⟨a1_0, a1_1, a1_2, a1_3, a1_4⟩, ⟨_, _, rfl, rfl, ⟨_, _, rfl, rfl, ⟨_, _, rfl, rfl, ⟨_, _, rfl, rfl, rfl⟩⟩⟩⟩, g1⟩ := Opens.argS (opens_fields5 Try.underlying25 (by kernel_rfl) (by kernel_rfl) (opens_string Try.underlying9) (opens_int Try.underlying3) (opens_int Try.underlying3) (opens_string Try.underlying9) (opens_int Try.underlying3)) Try.underlying25 (hval 1 25 v1 rfl rfl) h1
  have hk := Pure.FnExactEntryLess a0_0 a0_1 a0_2 a0_3 a0_4 a1_0 a1_1 a1_2 a1_3 a1_4 g0 g1
  refine (laws_FnExactEntryLess.calls a0_0 a0_1 a0_2 a0_3 a0_4 a1_0 a1_1 a1_2 a1_3 a1_4 true W hk).mono fun e W' ⟨he, bel0⟩ => ?_
  have bel : Below W.heap.size W W' := bel0
  subst he
  exact ⟨_, rfl, _, _, _, [], _, [], hW', trodAll_mk1 (shut_bool Try.underlying4 _), (trodAll_cons_mk (Below.trod laidOut (by kernel_rfl) (of_decide_eq_true (by kernel_rfl)) k0 bel lt0) (trodAll_cons_mk (Below.trod laidOut (by kernel_rfl) (of_decide_eq_true (by kernel_rfl)) k1 bel lt1) trodAll_mk0)), rfl, bel.frame _, fun h => by cases h⟩
theorem over : Rows.fnExactEntryLessRow.holds Try.pinned (OpenSpec.ofChange Rows.fnExactEntryLessSpec) :=
  OpenClaim.holds_of_wide 6 Try.f6 rfl rfl rfl rfl rfl rfl rfl ⟨rfl, rfl, rfl, rfl, rfl⟩ rfl rfl rfl rfl rfl (by kernel_rfl) Try.func6 (by kernel_rfl)
    (of_decide_eq_true (by kernel_rfl)) (by unfold Func.isWrapper; first | (rw [if_pos (by decide +kernel)]; kernel_rfl) | (rw [if_neg (by decide +kernel)]; exact ⟨rfl, rfl⟩))
    (fun os started H enc _ => lifted os started H enc)
theorem proved : Rows.FnExactEntryLessSaid := over
#print axioms proved
end Go.Proofs.Ytoijegeioafbiaa.fnExactEntryLess
namespace Go.Proofs.Ytoijegeioafbiaa
/-- The row, under a short name, for the claim. -/
theorem fnExactEntryLess_holds : Rows.FnExactEntryLessSaid := fnExactEntryLess.proved
end Go.Proofs.Ytoijegeioafbiaa

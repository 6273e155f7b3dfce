/- The law FnExactRunSame of the program, for every input: its row, over the pure statement. -/
import Derived.Test.YtoijegeioafbiaaRows
import Derived.Test.YtoijegeioafbiaaPFnExactRunSamex4
import Derived.Test.YtoijegeioafbiaaPureFnExactRunSame
import Derived.Test.YtoijegeioafbiaaBOpen
import Derived.WalkKit
import Derived.ProofKit
import Derived.OpenShut
import Derived.ShutString
import Derived.ChangeOld
import Derived.Below
import Derived.SizedLaws
namespace Go.Proofs.Ytoijegeioafbiaa.fnExactRunSame
open Go.ChangeShapes Go.WideShapes Go.ChangeAt Go.RowKit Go.Proofs.Ytoijegeioafbiaa.B Go.Proofs.YtoijegeioafbiaaW.PrintWords Go.Proofs.YtoijegeioafbiaaW.PrintMore Go.Proofs.Ytoijegeioafbiaa.PFnExactRunSame
open Go.ChangeMaps (open_string shut_string)
set_option linter.unusedVariables false
set_option linter.unusedSimpArgs false
theorem own : ownKnob Try.prog.godebug = none := by kernel_rfl
theorem laidOut : laidOutB Try.prog = true := by kernel_rfl
set_option maxRecDepth 100000 in
set_option maxHeartbeats 1000000 in
theorem lifted (os : Os) (started : os.Started) (H : Type) (enc : TypeId × Value → H) :
    ReturnsInHanded {} Try.checked os 13 .any (Rows.fnExactRunSameSpec.pre6 enc Try.prog Try.f13 Rows.fnExactRunSameRow.domain false) (Rows.fnExactRunSameSpec.post enc Try.prog Try.f13 false true false false) := by
  refine returnsInHanded_of_change_sized (C := Try.checked) own started (by kernel_rfl) Try.func13
    (ChangeSpec.witness6 (enc := enc) (C := Try.checked) false ⟨#[], #[.agg #[.slice none 0 0, .int .i64 0], .agg #[.slice none 0 0, .int .i64 0]], []⟩ 8 (by kernel_rfl) (by kernel_rfl) (by kernel_rfl) (by kernel_rfl)) ?_
  intro W base args ds gs before hval0 hW hcnd hsz0 _
  have hval : ∀ (j : Nat) t v, Try.f13.params[j]? = some t → args[j]? = some v → Value.okWide Try.prog W .any base t v := hval0
  have hW' := hW
  obtain ⟨p, q, hA0, hV, rfl, hfz, hnd⟩ := hW
  have hA : DataW.TrodAll enc Try.prog W 0 (fun _ => true) true Try.f13.params.toList args.toList ds p := hA0
  rw [Try.params13] at hA hval
  obtain ⟨v0, vs0, d0, ds0, p0, q0, hargs, rfl, rfl, h0, r0⟩ := trodAll_cons hA
  obtain ⟨v1, vs1, d1, ds1, p1, q1, rfl, rfl, rfl, h1, r1⟩ := trodAll_cons r0
  obtain ⟨rfl, rfl, rfl⟩ := trodAll_nil r1
  obtain rfl : args = #[v0, v1] := by cases args; simp_all
  obtain ⟨rfl, rfl⟩ := trodVars_none hV
  have k0 := h0
  have lt0 := lt_places k0
  obtain ⟨_, rfl, ⟨l0_0, a0_1⟩, ⟨_, _, rfl, ⟨A0_0, c0_0, rfl, hc0_0, hr0_0⟩, rfl⟩, g0⟩ := Opens.argS (opens_fields2 Try.underlying59 (by kernel_rfl) (by kernel_rfl) (opens_slice Try.underlying57 (opens_iso (g := fun x : S25 => (x.f0, x.f1, x.f2, x.f3, x.f4)) (opens_fields5 Try.underlying25 (by kernel_rfl) (by kernel_rfl) (opens_string Try.underlying9) (opens_int Try.underlying3) (opens_int Try.underlying3) (opens_string Try.underlying9) (opens_int Try.underlying3)) (fun y => ⟨⟨y.1, y.2.1, y.2.2.1, y.2.2.2.1, y.2.2.2.2⟩, rfl⟩)) (by kernel_rfl)) (opens_int Try.underlying3)) Try.underlying59 (hval 0 59 v0 rfl rfl) h0
  have k1 := h1
  have lt1 := lt_places k1
  obtain ⟨_, rfl, ⟨l1_0, a1_1⟩, ⟨_, _, rfl, ⟨A1_0, c1_0, rfl, hc1_0, hr1_0⟩, rfl⟩, g1⟩ := Opens.argS (opens_fields2 Try.underlying59 (by kernel_rfl) (by kernel_rfl) (opens_slice Try.underlying57 (opens_iso (g := fun x : S25 => (x.f0, x.f1, x.f2, x.f3, x.f4)) (opens_fields5 Try.underlying25 (by kernel_rfl) (by kernel_rfl) (opens_string Try.underlying9) (opens_int Try.underlying3) (opens_int Try.underlying3) (opens_string Try.underlying9) (opens_int Try.underlying3)) (fun y => ⟨⟨y.1, y.2.1, y.2.2.1, y.2.2.2.1, y.2.2.2.2⟩, rfl⟩)) (by kernel_rfl)) (opens_int Try.underlying3)) Try.underlying59 (hval 1 59 v1 rfl rfl) h1
  obtain ⟨k, hk⟩ := Pure.FnExactRunSame l0_0 a0_1 l1_0 a1_1 g0 g1
  refine (laws_FnExactRunSame.calls k A0_0 c0_0 l0_0 a0_1 A1_0 c1_0 l1_0 a1_1 true W hr0_0 hc0_0 hr1_0 hc1_0 hk).mono fun e W' ⟨he, bel0⟩ => ?_
  have bel : Below W.heap.size W W' := bel0
  subst he
  exact ⟨_, rfl, _, _, _, [], _, [], hW', trodAll_mk1 (shut_bool Try.underlying4 _), (trodAll_cons_mk (Below.trod laidOut (by kernel_rfl) (of_decide_eq_true (by kernel_rfl)) k0 bel lt0) (trodAll_cons_mk (Below.trod laidOut (by kernel_rfl) (of_decide_eq_true (by kernel_rfl)) k1 bel lt1) trodAll_mk0)), rfl, bel.frame _, fun h => by cases h⟩
theorem over : Rows.fnExactRunSameRow.holds Try.pinned (OpenSpec.ofChange Rows.fnExactRunSameSpec) :=
  OpenClaim.holds_of_wide 13 Try.f13 rfl rfl rfl rfl rfl rfl rfl ⟨rfl, rfl, rfl, rfl, rfl⟩ rfl rfl rfl rfl rfl (by kernel_rfl) Try.func13 (by kernel_rfl)
    (of_decide_eq_true (by kernel_rfl)) (by unfold Func.isWrapper; first | (rw [if_pos (by decide +kernel)]; kernel_rfl) | (rw [if_neg (by decide +kernel)]; exact ⟨rfl, rfl⟩))
    (fun os started H enc _ => lifted os started H enc)
theorem proved : Rows.FnExactRunSameSaid := over
#print axioms proved
end Go.Proofs.Ytoijegeioafbiaa.fnExactRunSame
namespace Go.Proofs.Ytoijegeioafbiaa
/-- The row, under a short name, for the claim. -/
theorem fnExactRunSame_holds : Rows.FnExactRunSameSaid := fnExactRunSame.proved
end Go.Proofs.Ytoijegeioafbiaa

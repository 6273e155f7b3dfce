/- The law FnExactPostFair of the program, for every input: its row, over the pure statement. -/
import Derived.Test.YtogggmipcldkaaaRows
import Derived.Test.YtogggmipcldkaaaQFnExactPostFairx4
import Derived.Test.YtogggmipcldkaaaPureFnExactPostFair
import Derived.Test.YtogggmipcldkaaaBOpen
import Derived.WalkKit
import Derived.ProofKit
import Derived.OpenShut
import Derived.ShutString
import Derived.ChangeOld
import Derived.Below
import Derived.SizedLaws
namespace Go.Proofs.Ytogggmipcldkaaa.fnExactPostFair
open Go.ChangeShapes Go.WideShapes Go.ChangeAt Go.RowKit Go.Proofs.Ytogggmipcldkaaa.B Go.Proofs.YtogggmipcldkaaaW.PrintWords Go.Proofs.YtogggmipcldkaaaW.PrintMore Go.Proofs.Ytogggmipcldkaaa.QFnExactPostFair
open Go.ChangeMaps (open_string shut_string)
set_option linter.unusedVariables false
set_option linter.unusedSimpArgs false
theorem own : ownKnob Try.prog.godebug = none := by kernel_rfl
theorem laidOut : laidOutB Try.prog = true := by kernel_rfl
set_option maxRecDepth 100000 in
set_option maxHeartbeats 1000000 in
theorem lifted (os : Os) (started : os.Started) (H : Type) (enc : TypeId × Value → H) :
    ReturnsInHanded {} Try.checked os 5 .any (Rows.fnExactPostFairSpec.pre6 enc Try.prog Try.f5 Rows.fnExactPostFairRow.domain false) (Rows.fnExactPostFairSpec.post enc Try.prog Try.f5 false true false false) := by
  refine returnsInHanded_of_change_sized (C := Try.checked) own started (by kernel_rfl) Try.func5
    (ChangeSpec.witness6 (enc := enc) (C := Try.checked) false ⟨#[], #[.agg #[.int .i64 0, .slice none 0 0]], []⟩ 8 (by kernel_rfl) (by kernel_rfl) (by kernel_rfl) (by kernel_rfl)) ?_
  intro W base args ds gs before hval0 hW hcnd hsz0 _
  have hval : ∀ (j : Nat) t v, Try.f5.params[j]? = some t → args[j]? = some v → Value.okWide Try.prog W .any base t v := hval0
  have hW' := hW
  obtain ⟨p, q, hA0, hV, rfl, hfz, hnd⟩ := hW
  have hA : DataW.TrodAll enc Try.prog W 0 (fun _ => true) true Try.f5.params.toList args.toList ds p := hA0
  rw [Try.params5] at hA hval
  obtain ⟨v0, vs0, d0, ds0, p0, q0, hargs, rfl, rfl, h0, r0⟩ := trodAll_cons hA
  obtain ⟨rfl, rfl, rfl⟩ := trodAll_nil r0
  obtain rfl : args = #[v0] := by cases args; simp_all
  obtain ⟨rfl, rfl⟩ := trodVars_none hV
  have k0 := h0
  have lt0 := lt_places k0
  obtain ⟨_, rfl, ⟨a0_0, l0_1⟩, ⟨_, _, rfl, rfl, ⟨A0_1, c0_1, rfl, hc0_1, hr0_1⟩⟩, g0⟩ := Opens.argS (opens_fields2 Try.underlying24 (by kernel_rfl) (by kernel_rfl) (opens_int Try.underlying3) (opens_slice Try.underlying22 (opens_iso (g := fun x : S70 => (x.f0, x.f1, x.f2)) (opens_fields3 Try.underlying70 (by kernel_rfl) (by kernel_rfl) (opens_string Try.underlying9) (opens_int Try.underlying3) (opens_int Try.underlying3)) (fun y => ⟨⟨y.1, y.2.1, y.2.2⟩, rfl⟩)) (by kernel_rfl))) Try.underlying24 (hval 0 24 v0 rfl rfl) h0
  obtain ⟨k, hk⟩ := Pure.FnExactPostFair a0_0 l0_1 g0
  refine (laws_FnExactPostFair.calls k a0_0 A0_1 c0_1 l0_1 true W hr0_1 hc0_1 hk).mono fun e W' ⟨he, bel0⟩ => ?_
  have bel : Below W.heap.size W W' := bel0
  subst he
  exact ⟨_, rfl, _, _, _, [], _, [], hW', trodAll_mk1 (shut_bool Try.underlying4 _), (trodAll_cons_mk (Below.trod laidOut (by kernel_rfl) (of_decide_eq_true (by kernel_rfl)) k0 bel lt0) trodAll_mk0), rfl, bel.frame _, fun h => by cases h⟩
theorem over : Rows.fnExactPostFairRow.holds Try.pinned (OpenSpec.ofChange Rows.fnExactPostFairSpec) :=
  OpenClaim.holds_of_wide 5 Try.f5 rfl rfl rfl rfl rfl rfl rfl ⟨rfl, rfl, rfl, rfl, rfl⟩ rfl rfl rfl rfl rfl (by kernel_rfl) Try.func5 (by kernel_rfl)
    (of_decide_eq_true (by kernel_rfl)) (by unfold Func.isWrapper; first | (rw [if_pos (by decide +kernel)]; kernel_rfl) | (rw [if_neg (by decide +kernel)]; exact ⟨rfl, rfl⟩))
    (fun os started H enc _ => lifted os started H enc)
theorem proved : Rows.FnExactPostFairSaid := over
#print axioms proved
end Go.Proofs.Ytogggmipcldkaaa.fnExactPostFair
namespace Go.Proofs.Ytogggmipcldkaaa
/-- The row, under a short name, for the claim. -/
theorem fnExactPostFair_holds : Rows.FnExactPostFairSaid := fnExactPostFair.proved
end Go.Proofs.Ytogggmipcldkaaa

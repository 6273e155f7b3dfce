/- What the law FnEntryLess reaches, function by function: what each computes, and that the machine's call comes to it. Laid by a program. -/
import Derived.Test.YtoijegeioafbiaaQFnEntryLessx0
import Derived.Test.YtoijegeioafbiaaQFnEntryLessx1
import Derived.Test.YtoijegeioafbiaaQFnEntryLessx2
namespace Go.Proofs.Ytoijegeioafbiaa.QFnEntryLess
open Go.RowKit Go.Proofs.YtoijegeioafbiaaW.PrintWords Go.Proofs.YtoijegeioafbiaaW.PrintLast Go.Proofs.YtoijegeioafbiaaW.PrintMore
attribute [local go_sem] max2_int min2_int max_two min_two max_three min_three max_four min_four   -- for this text's walks alone
set_option linter.unusedVariables false
set_option linter.unusedSimpArgs false

/-! ### laws_FnEntryLess: function 11 -/
mutual
def laws_FnEntryLess.j0 : Nat → List Int → List Int → Bool → Option (Bool)
  | 0, _, _, _ => none
  | k + 1, x0, x1, x18 => if x18 = true then (some true) else ((spec_DrawEntryLess.f k x0).bind fun bt211 => ((spec_DrawEntryLess.f k x1).bind fun bt223 => ((impl_EntryLess.f bt211.1 bt211.2.1 bt211.2.2.1 bt211.2.2.2.1 bt211.2.2.2.2.1 bt211.2.2.2.2.2.1 bt211.2.2.2.2.2.2.1 bt211.2.2.2.2.2.2.2.1 bt211.2.2.2.2.2.2.2.2.1 bt211.2.2.2.2.2.2.2.2.2).bind fun t235 => ((impl_EntryLess.f bt211.2.2.2.2.2.1 bt211.2.2.2.2.2.2.1 bt211.2.2.2.2.2.2.2.1 bt211.2.2.2.2.2.2.2.2.1 bt211.2.2.2.2.2.2.2.2.2 bt211.1 bt211.2.1 bt211.2.2.1 bt211.2.2.2.1 bt211.2.2.2.2.1).bind fun t236 => ((spec_EntryLess.f bt211.1 bt211.2.1 bt211.2.2.1 bt211.2.2.2.1 bt211.2.2.2.2.1 bt211.2.2.2.2.2.1 bt211.2.2.2.2.2.2.1 bt211.2.2.2.2.2.2.2.1 bt211.2.2.2.2.2.2.2.2.1 bt211.2.2.2.2.2.2.2.2.2).bind fun t237 => (if (t235 != t237) = true then (laws_FnEntryLess.j1 k t235 t236 true bt211.1 bt211.2.1 bt211.2.2.1 bt211.2.2.2.1 bt211.2.2.2.2.1 bt211.2.2.2.2.2.1 bt211.2.2.2.2.2.2.1 bt211.2.2.2.2.2.2.2.1 bt211.2.2.2.2.2.2.2.2.1 bt211.2.2.2.2.2.2.2.2.2 bt223.1 bt223.2.1 bt223.2.2.1 bt223.2.2.2.1 bt223.2.2.2.2.1) else ((spec_EntryLess.f bt211.2.2.2.2.2.1 bt211.2.2.2.2.2.2.1 bt211.2.2.2.2.2.2.2.1 bt211.2.2.2.2.2.2.2.2.1 bt211.2.2.2.2.2.2.2.2.2 bt211.1 bt211.2.1 bt211.2.2.1 bt211.2.2.2.1 bt211.2.2.2.2.1).bind fun t238 => (if (t236 != t238) = true then (laws_FnEntryLess.j1 k t235 t236 true bt211.1 bt211.2.1 bt211.2.2.1 bt211.2.2.2.1 bt211.2.2.2.2.1 bt211.2.2.2.2.2.1 bt211.2.2.2.2.2.2.1 bt211.2.2.2.2.2.2.2.1 bt211.2.2.2.2.2.2.2.2.1 bt211.2.2.2.2.2.2.2.2.2 bt223.1 bt223.2.1 bt223.2.2.1 bt223.2.2.2.1 bt223.2.2.2.2.1) else (if t235 = true then (laws_FnEntryLess.j1 k t235 t236 t236 bt211.1 bt211.2.1 bt211.2.2.1 bt211.2.2.2.1 bt211.2.2.2.2.1 bt211.2.2.2.2.2.1 bt211.2.2.2.2.2.2.1 bt211.2.2.2.2.2.2.2.1 bt211.2.2.2.2.2.2.2.2.1 bt211.2.2.2.2.2.2.2.2.2 bt223.1 bt223.2.1 bt223.2.2.1 bt223.2.2.2.1 bt223.2.2.2.2.1) else (laws_FnEntryLess.j1 k t235 t236 false bt211.1 bt211.2.1 bt211.2.2.1 bt211.2.2.2.1 bt211.2.2.2.2.1 bt211.2.2.2.2.2.1 bt211.2.2.2.2.2.2.1 bt211.2.2.2.2.2.2.2.1 bt211.2.2.2.2.2.2.2.2.1 bt211.2.2.2.2.2.2.2.2.2 bt223.1 bt223.2.1 bt223.2.2.1 bt223.2.2.2.1 bt223.2.2.2.2.1))))))))))
def laws_FnEntryLess.j1 : Nat → Bool → Bool → Bool → ByteArray → Int → Int → ByteArray → Int → ByteArray → Int → Int → ByteArray → Int → ByteArray → Int → Int → ByteArray → Int → Option (Bool)
  | 0, _, _, _, _, _, _, _, _, _, _, _, _, _, _, _, _, _, _ => none
  | k + 1, x9, x10, x52, x222000, x222001, x222002, x222003, x222004, x223000, x223001, x223002, x223003, x223004, x234000, x234001, x234002, x234003, x234004 => if x52 = true then (none) else (if x9 = true then ((impl_EntryLess.f x223000 x223001 x223002 x223003 x223004 x234000 x234001 x234002 x234003 x234004).bind fun t239 => (if t239 = true then ((impl_EntryLess.f x222000 x222001 x222002 x222003 x222004 x234000 x234001 x234002 x234003 x234004).bind fun t240 => (if t240 = true then (if x222000.toList = x223000.toList then (if (true == (x222001 != x223001)) = true then ((impl_EntryLess.f x222000 x222001 x222002 x222003 x222004 x222000 x222001 x222002 x222003 x222004).bind fun t241 => (some (!t241))) else (none)) else (if (true == true) = true then ((impl_EntryLess.f x222000 x222001 x222002 x222003 x222004 x222000 x222001 x222002 x222003 x222004).bind fun t242 => (some (!t242))) else (none))) else (none))) else (if x222000.toList = x223000.toList then (if (true == (x222001 != x223001)) = true then ((impl_EntryLess.f x222000 x222001 x222002 x222003 x222004 x222000 x222001 x222002 x222003 x222004).bind fun t243 => (some (!t243))) else (none)) else (if (true == true) = true then ((impl_EntryLess.f x222000 x222001 x222002 x222003 x222004 x222000 x222001 x222002 x222003 x222004).bind fun t244 => (some (!t244))) else (none))))) else (if x222000.toList = x223000.toList then (if (x10 == (x222001 != x223001)) = true then ((impl_EntryLess.f x222000 x222001 x222002 x222003 x222004 x222000 x222001 x222002 x222003 x222004).bind fun t245 => (some (!t245))) else (none)) else (if (x10 == true) = true then ((impl_EntryLess.f x222000 x222001 x222002 x222003 x222004 x222000 x222001 x222002 x222003 x222004).bind fun t246 => (some (!t246))) else (none))))
end
def laws_FnEntryLess.f (k : Nat) (l0 : List Int) (l1 : List Int) : Option (Bool) := if (l0.length : Int) > 1048576 then (laws_FnEntryLess.j0 k l0 l1 true) else (laws_FnEntryLess.j0 k l0 l1 (decide ((l1.length : Int) > 1048576)))
theorem laws_FnEntryLess.mono_l : ∀ k, (∀ y0 y1 y2, LeO (laws_FnEntryLess.j0 k y0 y1 y2) (laws_FnEntryLess.j0 (k + 1) y0 y1 y2)) ∧ (∀ y0 y1 y2 y3 y4 y5 y6 y7 y8 y9 y10 y11 y12 y13 y14 y15 y16 y17, LeO (laws_FnEntryLess.j1 k y0 y1 y2 y3 y4 y5 y6 y7 y8 y9 y10 y11 y12 y13 y14 y15 y16 y17) (laws_FnEntryLess.j1 (k + 1) y0 y1 y2 y3 y4 y5 y6 y7 y8 y9 y10 y11 y12 y13 y14 y15 y16 y17))
  | 0 => ⟨fun _ _ _ r h => by simp [laws_FnEntryLess.j0] at h, fun _ _ _ _ _ _ _ _ _ _ _ _ _ _ _ _ _ _ r h => by simp [laws_FnEntryLess.j1] at h⟩
  | k + 1 => by
    obtain ⟨ih0, ih1⟩ := laws_FnEntryLess.mono_l k
    refine ⟨?_, ?_⟩
    · intro y0 y1 y2
      unfold laws_FnEntryLess.j0
      repeat' first
      | (with_reducible exact ih0 _ _ _)
      | (with_reducible exact ih1 _ _ _ _ _ _ _ _ _ _ _ _ _ _ _ _ _ _)
      | (with_reducible exact spec_DrawEntryLess.mono _ _)
      | (with_reducible exact LeO.refl _)
      | (with_reducible exact LeO.none _)
      | (with_reducible refine LeO.ite ?_ ?_)
      | (with_reducible refine LeO.bind ?_ (fun _ => ?_))
      | exact ih0 _ _ _
      | exact ih1 _ _ _ _ _ _ _ _ _ _ _ _ _ _ _ _ _ _
      | exact spec_DrawEntryLess.mono _ _
      | exact LeO.none _
      | refine LeO.ite ?_ ?_
      | refine LeO.bind ?_ (fun _ => ?_)
    · intro y0 y1 y2 y3 y4 y5 y6 y7 y8 y9 y10 y11 y12 y13 y14 y15 y16 y17
      unfold laws_FnEntryLess.j1
      repeat' first
      | (with_reducible exact ih0 _ _ _)
      | (with_reducible exact ih1 _ _ _ _ _ _ _ _ _ _ _ _ _ _ _ _ _ _)
      | (with_reducible exact spec_DrawEntryLess.mono _ _)
      | (with_reducible exact LeO.refl _)
      | (with_reducible exact LeO.none _)
      | (with_reducible refine LeO.ite ?_ ?_)
      | (with_reducible refine LeO.bind ?_ (fun _ => ?_))
      | exact ih0 _ _ _
      | exact ih1 _ _ _ _ _ _ _ _ _ _ _ _ _ _ _ _ _ _
      | exact spec_DrawEntryLess.mono _ _
      | exact LeO.none _
      | refine LeO.ite ?_ ?_
      | refine LeO.bind ?_ (fun _ => ?_)
theorem laws_FnEntryLess.mono : ∀ a0 a1 k, LeO (laws_FnEntryLess.f k a0 a1) (laws_FnEntryLess.f (k + 1) a0 a1) := by
  intro a0 a1 k
  obtain ⟨ih0, ih1⟩ := laws_FnEntryLess.mono_l k
  unfold laws_FnEntryLess.f
  repeat' first
      | (with_reducible exact ih0 _ _ _)
      | (with_reducible exact ih1 _ _ _ _ _ _ _ _ _ _ _ _ _ _ _ _ _ _)
      | (with_reducible exact spec_DrawEntryLess.mono _ _)
      | (with_reducible exact LeO.refl _)
      | (with_reducible exact LeO.none _)
      | (with_reducible refine LeO.ite ?_ ?_)
      | (with_reducible refine LeO.bind ?_ (fun _ => ?_))
      | exact ih0 _ _ _
      | exact ih1 _ _ _ _ _ _ _ _ _ _ _ _ _ _ _ _ _ _
      | exact spec_DrawEntryLess.mono _ _
      | exact LeO.none _
      | refine LeO.ite ?_ ?_
      | refine LeO.bind ?_ (fun _ => ?_)
set_option maxHeartbeats 8000000 in
set_option maxRecDepth 100000 in
theorem laws_FnEntryLess.calls (k : Nat) (A0 : Option Addr) (c0 : Nat) (l0 : List Int) (A1 : Option Addr) (c1 : Nat) (l1 : List Int) (r : Bool) (w : World) (hr0 : Kd.C (Kd.int .u8) w A0 l0.length l0) (hc0 : l0.length ≤ c0) (hr1 : Kd.C (Kd.int .u8) w A1 l1.length l1) (hc1 : l1.length ≤ c1) (h : laws_FnEntryLess.f k l0 l1 = some r) :
    Calls Try.prog 11 #[.slice A0 l0.length c0, .slice A1 l1.length c1] w fun e w' => e = .returned (.bool r) ∧ Below w.heap.size w w' := by
  have hu28 := Try.underlying28
  have HR0 := Aside0.mk hr0
  have HC0 := Aside0.mk hc0
  clear hr0 hc0
  have HR1 := Aside0.mk hr1
  have HC1 := Aside0.mk hc1
  clear hr1 hc1
  have HB := Aside0.mk (Below.refl w.heap.size w)
  have H : (if (l0.length : Int) > 1048576 then (laws_FnEntryLess.j0 k l0 l1 true) else (laws_FnEntryLess.j0 k l0 l1 (decide ((l1.length : Int) > 1048576)))) = some r := h
  clear h
  have HC3 := Aside0.mk H
  clear H
  go_enter Try.func11, Try.ntmps11
  go_upto_region 1 with (fail)
  go_cut [18] (fun v18 wc => ∃ (kq : Nat) (x18_2 : Bool), v18 = .bool x18_2 ∧ Aside0 (laws_FnEntryLess.j0 kq l0 l1 x18_2 = some r) ∧ Aside0 (kq ≤ k) ∧ Aside0 (Below w.heap.size w wc))
  case first =>
    have H := HC3.out
    clear HC3
    by_cases c4 : (l0.length : Int) > 1048576
    · rw [if_pos c4] at H
      have c4b0 : decide (1048576 < (l0.length : Int)) = true := decide_eq_true c4
      have c4b1 : decide (1048576 < l0.length) = true := decide_eq_true (by omega)
      clear c4
      (first | rw [c4b0] | (simp only [i64_w, i32_w]; rw [c4b0]) | skip)
      have H' := Aside0.mk H
      clear H
      go_wp2
      go_meet
      case rel => exact ⟨_, (true), (by first | rfl | (simp; done) | (simp [*]; done)), H', ⟨by first | omega | exact Nat.le_refl _⟩, ⟨by repeat (first | (with_reducible first | exact HB.out | apply below_alloc | apply pw_below_drewN | apply below_drew1) | exact HB.out)⟩⟩
    · rw [if_neg c4] at H
      have c4b0 : decide (1048576 < (l0.length : Int)) = false := decide_eq_false c4
      have c4b1 : decide (1048576 < l0.length) = false := decide_eq_false (by omega)
      clear c4
      (first | rw [c4b0] | (simp only [i64_w, i32_w]; rw [c4b0]) | skip)
      have H' := Aside0.mk H
      clear H
      go_wp2
      go_meet
      case rel => exact ⟨_, (decide ((l1.length : Int) > 1048576)), (by first | rfl | (simp; done) | (simp [*]; done)), H', ⟨by first | omega | exact Nat.le_refl _⟩, ⟨by repeat (first | (with_reducible first | exact HB.out | apply below_alloc | apply pw_below_drewN | apply below_drew1) | exact HB.out)⟩⟩
  case rest =>
    clear HC3
    try clear c1
    try clear p2
    try clear c4
    try clear c4b0
    try clear c4b1
    obtain ⟨kq, x18_2, rfl, HA, HJ2, HB⟩ := hcut
    cases kq with
    | zero => exact absurd HA.out (by simp [laws_FnEntryLess.j0])
    | succ kj2 =>
      have H := HA.out
      clear HA
      simp only [laws_FnEntryLess.j0] at H
      by_cases c5 : x18_2 = true
      · subst c5
        have H1 : (some true) = some r := by rw [if_pos rfl] at H; exact H
        clear H
        have H := H1
        clear H1
        obtain rfl := Option.some.inj H
        go_wp2
        go_ret
        exact ⟨by first | rfl | (simp [errW_none, errW_some] <;> rfl) | (simp [*, errW_none, errW_some] <;> rfl), by repeat (first | (with_reducible first | exact HB.out | apply below_alloc | apply pw_below_drewN | apply below_drew1) | exact HB.out)⟩
      · replace c5 := Bool.eq_false_iff.mpr c5
        subst c5
        have H1 : ((spec_DrawEntryLess.f kj2 l0).bind fun bt211 => ((spec_DrawEntryLess.f kj2 l1).bind fun bt223 => ((impl_EntryLess.f bt211.1 bt211.2.1 bt211.2.2.1 bt211.2.2.2.1 bt211.2.2.2.2.1 bt211.2.2.2.2.2.1 bt211.2.2.2.2.2.2.1 bt211.2.2.2.2.2.2.2.1 bt211.2.2.2.2.2.2.2.2.1 bt211.2.2.2.2.2.2.2.2.2).bind fun t235 => ((impl_EntryLess.f bt211.2.2.2.2.2.1 bt211.2.2.2.2.2.2.1 bt211.2.2.2.2.2.2.2.1 bt211.2.2.2.2.2.2.2.2.1 bt211.2.2.2.2.2.2.2.2.2 bt211.1 bt211.2.1 bt211.2.2.1 bt211.2.2.2.1 bt211.2.2.2.2.1).bind fun t236 => ((spec_EntryLess.f bt211.1 bt211.2.1 bt211.2.2.1 bt211.2.2.2.1 bt211.2.2.2.2.1 bt211.2.2.2.2.2.1 bt211.2.2.2.2.2.2.1 bt211.2.2.2.2.2.2.2.1 bt211.2.2.2.2.2.2.2.2.1 bt211.2.2.2.2.2.2.2.2.2).bind fun t237 => (if (t235 != t237) = true then (laws_FnEntryLess.j1 kj2 t235 t236 true bt211.1 bt211.2.1 bt211.2.2.1 bt211.2.2.2.1 bt211.2.2.2.2.1 bt211.2.2.2.2.2.1 bt211.2.2.2.2.2.2.1 bt211.2.2.2.2.2.2.2.1 bt211.2.2.2.2.2.2.2.2.1 bt211.2.2.2.2.2.2.2.2.2 bt223.1 bt223.2.1 bt223.2.2.1 bt223.2.2.2.1 bt223.2.2.2.2.1) else ((spec_EntryLess.f bt211.2.2.2.2.2.1 bt211.2.2.2.2.2.2.1 bt211.2.2.2.2.2.2.2.1 bt211.2.2.2.2.2.2.2.2.1 bt211.2.2.2.2.2.2.2.2.2 bt211.1 bt211.2.1 bt211.2.2.1 bt211.2.2.2.1 bt211.2.2.2.2.1).bind fun t238 => (if (t236 != t238) = true then (laws_FnEntryLess.j1 kj2 t235 t236 true bt211.1 bt211.2.1 bt211.2.2.1 bt211.2.2.2.1 bt211.2.2.2.2.1 bt211.2.2.2.2.2.1 bt211.2.2.2.2.2.2.1 bt211.2.2.2.2.2.2.2.1 bt211.2.2.2.2.2.2.2.2.1 bt211.2.2.2.2.2.2.2.2.2 bt223.1 bt223.2.1 bt223.2.2.1 bt223.2.2.2.1 bt223.2.2.2.2.1) else (if t235 = true then (laws_FnEntryLess.j1 kj2 t235 t236 t236 bt211.1 bt211.2.1 bt211.2.2.1 bt211.2.2.2.1 bt211.2.2.2.2.1 bt211.2.2.2.2.2.1 bt211.2.2.2.2.2.2.1 bt211.2.2.2.2.2.2.2.1 bt211.2.2.2.2.2.2.2.2.1 bt211.2.2.2.2.2.2.2.2.2 bt223.1 bt223.2.1 bt223.2.2.1 bt223.2.2.2.1 bt223.2.2.2.2.1) else (laws_FnEntryLess.j1 kj2 t235 t236 false bt211.1 bt211.2.1 bt211.2.2.1 bt211.2.2.2.1 bt211.2.2.2.2.1 bt211.2.2.2.2.2.1 bt211.2.2.2.2.2.2.1 bt211.2.2.2.2.2.2.2.1 bt211.2.2.2.2.2.2.2.2.1 bt211.2.2.2.2.2.2.2.2.2 bt223.1 bt223.2.1 bt223.2.2.1 bt223.2.2.2.1 bt223.2.2.2.2.1)))))))))) = some r := by rw [if_neg (show ¬ (false = true) by decide)] at H; exact H
        clear H
        have H := H1
        clear H1
        replace H := Option.bind_eq_some_iff.mp H
        obtain ⟨⟨t211, t212, t213, t214, t215, t216, t217, t218, t219, t220⟩, A60, H⟩ := H
        replace H : ((spec_DrawEntryLess.f kj2 l1).bind fun bt223 => ((impl_EntryLess.f t211 t212 t213 t214 t215 t216 t217 t218 t219 t220).bind fun t235 => ((impl_EntryLess.f t216 t217 t218 t219 t220 t211 t212 t213 t214 t215).bind fun t236 => ((spec_EntryLess.f t211 t212 t213 t214 t215 t216 t217 t218 t219 t220).bind fun t237 => (if (t235 != t237) = true then (laws_FnEntryLess.j1 kj2 t235 t236 true t211 t212 t213 t214 t215 t216 t217 t218 t219 t220 bt223.1 bt223.2.1 bt223.2.2.1 bt223.2.2.2.1 bt223.2.2.2.2.1) else ((spec_EntryLess.f t216 t217 t218 t219 t220 t211 t212 t213 t214 t215).bind fun t238 => (if (t236 != t238) = true then (laws_FnEntryLess.j1 kj2 t235 t236 true t211 t212 t213 t214 t215 t216 t217 t218 t219 t220 bt223.1 bt223.2.1 bt223.2.2.1 bt223.2.2.2.1 bt223.2.2.2.2.1) else (if t235 = true then (laws_FnEntryLess.j1 kj2 t235 t236 t236 t211 t212 t213 t214 t215 t216 t217 t218 t219 t220 bt223.1 bt223.2.1 bt223.2.2.1 bt223.2.2.2.1 bt223.2.2.2.2.1) else (laws_FnEntryLess.j1 kj2 t235 t236 false t211 t212 t213 t214 t215 t216 t217 t218 t219 t220 bt223.1 bt223.2.1 bt223.2.2.1 bt223.2.2.2.1 bt223.2.2.2.2.1))))))))) = some r := H
        have A6 := Aside0.mk A60
        clear A60
        replace H := Option.bind_eq_some_iff.mp H
        obtain ⟨⟨t223, t224, t225, t226, t227, t228, t229, t230, t231, t232⟩, A70, H⟩ := H
        replace H : ((impl_EntryLess.f t211 t212 t213 t214 t215 t216 t217 t218 t219 t220).bind fun t235 => ((impl_EntryLess.f t216 t217 t218 t219 t220 t211 t212 t213 t214 t215).bind fun t236 => ((spec_EntryLess.f t211 t212 t213 t214 t215 t216 t217 t218 t219 t220).bind fun t237 => (if (t235 != t237) = true then (laws_FnEntryLess.j1 kj2 t235 t236 true t211 t212 t213 t214 t215 t216 t217 t218 t219 t220 t223 t224 t225 t226 t227) else ((spec_EntryLess.f t216 t217 t218 t219 t220 t211 t212 t213 t214 t215).bind fun t238 => (if (t236 != t238) = true then (laws_FnEntryLess.j1 kj2 t235 t236 true t211 t212 t213 t214 t215 t216 t217 t218 t219 t220 t223 t224 t225 t226 t227) else (if t235 = true then (laws_FnEntryLess.j1 kj2 t235 t236 t236 t211 t212 t213 t214 t215 t216 t217 t218 t219 t220 t223 t224 t225 t226 t227) else (laws_FnEntryLess.j1 kj2 t235 t236 false t211 t212 t213 t214 t215 t216 t217 t218 t219 t220 t223 t224 t225 t226 t227)))))))) = some r := H
        have A7 := Aside0.mk A70
        clear A70
        replace H := Option.bind_eq_some_iff.mp H
        obtain ⟨t235, A80, H⟩ := H
        replace H : ((impl_EntryLess.f t216 t217 t218 t219 t220 t211 t212 t213 t214 t215).bind fun t236 => ((spec_EntryLess.f t211 t212 t213 t214 t215 t216 t217 t218 t219 t220).bind fun t237 => (if (t235 != t237) = true then (laws_FnEntryLess.j1 kj2 t235 t236 true t211 t212 t213 t214 t215 t216 t217 t218 t219 t220 t223 t224 t225 t226 t227) else ((spec_EntryLess.f t216 t217 t218 t219 t220 t211 t212 t213 t214 t215).bind fun t238 => (if (t236 != t238) = true then (laws_FnEntryLess.j1 kj2 t235 t236 true t211 t212 t213 t214 t215 t216 t217 t218 t219 t220 t223 t224 t225 t226 t227) else (if t235 = true then (laws_FnEntryLess.j1 kj2 t235 t236 t236 t211 t212 t213 t214 t215 t216 t217 t218 t219 t220 t223 t224 t225 t226 t227) else (laws_FnEntryLess.j1 kj2 t235 t236 false t211 t212 t213 t214 t215 t216 t217 t218 t219 t220 t223 t224 t225 t226 t227))))))) = some r := H
        have A8 := Aside0.mk A80
        clear A80
        replace H := Option.bind_eq_some_iff.mp H
        obtain ⟨t236, A90, H⟩ := H
        replace H : ((spec_EntryLess.f t211 t212 t213 t214 t215 t216 t217 t218 t219 t220).bind fun t237 => (if (t235 != t237) = true then (laws_FnEntryLess.j1 kj2 t235 t236 true t211 t212 t213 t214 t215 t216 t217 t218 t219 t220 t223 t224 t225 t226 t227) else ((spec_EntryLess.f t216 t217 t218 t219 t220 t211 t212 t213 t214 t215).bind fun t238 => (if (t236 != t238) = true then (laws_FnEntryLess.j1 kj2 t235 t236 true t211 t212 t213 t214 t215 t216 t217 t218 t219 t220 t223 t224 t225 t226 t227) else (if t235 = true then (laws_FnEntryLess.j1 kj2 t235 t236 t236 t211 t212 t213 t214 t215 t216 t217 t218 t219 t220 t223 t224 t225 t226 t227) else (laws_FnEntryLess.j1 kj2 t235 t236 false t211 t212 t213 t214 t215 t216 t217 t218 t219 t220 t223 t224 t225 t226 t227)))))) = some r := H
        have A9 := Aside0.mk A90
        clear A90
        have HC10 := Aside0.mk H
        clear H
        go_upto_region 7 with (first | ((with_reducible refine gate_callee (f := 32) rfl ?_); refine goesL_ (some 21) rfl rfl Try.func32 (by kernel_rfl) rfl #[.slice A0 l0.length c0] rfl (by (try simp only [List.map_toArray, List.map_cons, List.map_nil]); first | done | rfl | (simp only [List.length_drop, List.length_take]; rfl)) ?_; (with_reducible refine (spec_DrawEntryLess.calls kj2 _ _ l0 t211 t212 t213 t214 t215 t216 t217 t218 t219 t220 _ ?side1 ?side2 A6.out).mono ?_); (case side1 => repeat (first | exact (Kd.C_below HR0.out HB.out) | (with_reducible refine Kd.C_alloc ?_ _) | (with_reducible refine Kd.C_drewN ?_ _) | (with_reducible refine Kd.C_drew ?_))); (case side2 => exact HC0.out); rintro e w11 ⟨rfl, hb⟩; refine ⟨_, rfl, ?_⟩; have n0_ := Aside0.mk (below_step (by repeat (first | (with_reducible first | exact HB.out | apply below_alloc | apply pw_below_drewN | apply below_drew1) | exact HB.out)) hb); clear HB; have HB := n0_; clear n0_; (try clear hb); (try clear hb2); (try clear hk); (try clear hi)) | ((with_reducible refine gate_dst (N := 5) rfl ?_); (try (refine gate_guard (by rfl) ?_; dsimp only)); refine box_event ?hg (N := 5) ?hd (cs := #[.string (⟨#[]⟩ : ByteArray), .int .i64 0, .int .i64 0, .string (⟨#[]⟩ : ByteArray), .int .i64 0]) (t := 28) ?hr ?_; (case hd => rfl); (case hg => rfl); (case hr => first | (go_simp; done) | (go_simp; rfl)); intro gb221 hg w12 hbox hb; have n0_ := Aside0.mk (below_step (by repeat (first | (with_reducible first | exact HB.out | apply below_alloc | apply pw_below_drewN | apply below_drew1) | exact HB.out)) hb); have n1_ := Aside0.mk (hbox); have n2_ := Aside0.mk ((by rw [hg]; exact (below_size (by repeat (first | (with_reducible first | exact HB.out | apply below_alloc | apply pw_below_drewN | apply below_drew1) | exact HB.out))) : w.heap.size ≤ gb221)); have n3_ := Aside0.mk ((by rw [hg]; exact (below_size (by repeat (first | (with_reducible first | exact HB.out | apply below_alloc | apply pw_below_drewN | apply below_drew1) | exact HB.out))) : w.heap.size ≤ gb221)); clear HB; have HB := n0_; have BK221 := n1_; have GW221 := n2_; have GE221 := n3_; clear n0_ n1_ n2_ n3_; clear hb hbox hg) | ((with_reducible refine gate_dst (N := 6) rfl ?_); (try (refine gate_guard (by rfl) ?_; dsimp only)); refine box_event ?hg (N := 6) ?hd (cs := #[.string (⟨#[]⟩ : ByteArray), .int .i64 0, .int .i64 0, .string (⟨#[]⟩ : ByteArray), .int .i64 0]) (t := 28) ?hr ?_; (case hd => rfl); (case hg => rfl); (case hr => first | (go_simp; done) | (go_simp; rfl)); intro gb222 hg w13 hbox hb; have n0_ := Aside0.mk (blk_below (g := gb221) (o := .cells #[.string (⟨#[]⟩ : ByteArray), .int .i64 0, .int .i64 0, .string (⟨#[]⟩ : ByteArray), .int .i64 0] 28 (0, 0)) (by (with_reducible repeat (first | refine blk_drewN ?_ _ | refine blk_drew ?_ | refine blk_alloc ?_ _)); exact BK221.out) hb); have n1_ := Aside0.mk (below_step (by repeat (first | (with_reducible first | exact HB.out | apply below_alloc | apply pw_below_drewN | apply below_drew1 | refine below_set ?_ GE221.out) | exact HB.out)) hb); have n2_ := Aside0.mk (hbox); have n3_ := Aside0.mk ((by rw [hg]; exact (below_size (by repeat (first | (with_reducible first | exact HB.out | apply below_alloc | apply pw_below_drewN | apply below_drew1 | refine below_set ?_ GE221.out) | exact HB.out))) : w.heap.size ≤ gb222)); have n4_ := Aside0.mk ((by rw [hg]; exact (below_size (by repeat (first | (with_reducible first | exact HB.out | apply below_alloc | apply pw_below_drewN | apply below_drew1 | refine below_set ?_ GE221.out) | exact HB.out))) : w.heap.size ≤ gb222)); have n5_ := Aside0.mk ((by rw [hg]; exact Nat.ne_of_lt (blk_lt (g := gb221) (o := .cells #[.string (⟨#[]⟩ : ByteArray), .int .i64 0, .int .i64 0, .string (⟨#[]⟩ : ByteArray), .int .i64 0] 28 (0, 0)) (by (with_reducible repeat (first | refine blk_drewN ?_ _ | refine blk_drew ?_ | refine blk_alloc ?_ _)); exact BK221.out)) : gb221 ≠ gb222)); have n6_ := Aside0.mk ((by rw [hg]; exact Nat.ne_of_gt (blk_lt (g := gb221) (o := .cells #[.string (⟨#[]⟩ : ByteArray), .int .i64 0, .int .i64 0, .string (⟨#[]⟩ : ByteArray), .int .i64 0] 28 (0, 0)) (by (with_reducible repeat (first | refine blk_drewN ?_ _ | refine blk_drew ?_ | refine blk_alloc ?_ _)); exact BK221.out)) : gb222 ≠ gb221)); clear BK221; clear HB; have BK221 := n0_; have HB := n1_; have BK222 := n2_; have GW222 := n3_; have GE222 := n4_; have NB221_222 := n5_; have NB222_221 := n6_; clear n0_ n1_ n2_ n3_ n4_ n5_ n6_; clear hb hbox hg; have hnb14 := NB221_222.out; have hnc14 := NB222_221.out; have hcz15_0 : w13.cell? ⟨gb221, 0, none⟩ = some (.string (⟨#[]⟩ : ByteArray)) := (blk_cell BK221.out 0).trans rfl; have hcz15_1 : w13.cell? ⟨gb221, 1, none⟩ = some (.int .i64 0) := (blk_cell BK221.out 1).trans rfl; have hcz15_2 : w13.cell? ⟨gb221, 2, none⟩ = some (.int .i64 0) := (blk_cell BK221.out 2).trans rfl; have hcz15_3 : w13.cell? ⟨gb221, 3, none⟩ = some (.string (⟨#[]⟩ : ByteArray)) := (blk_cell BK221.out 3).trans rfl; have hcz15_4 : w13.cell? ⟨gb221, 4, none⟩ = some (.int .i64 0) := (blk_cell BK221.out 4).trans rfl; have hfz15_0 := blk_frozen BK221.out 0; have hfz15_1 := blk_frozen BK221.out 1; have hfz15_2 := blk_frozen BK221.out 2; have hfz15_3 := blk_frozen BK221.out 3; have hfz15_4 := blk_frozen BK221.out 4; have hcz16_0 : w13.cell? ⟨gb222, 0, none⟩ = some (.string (⟨#[]⟩ : ByteArray)) := (blk_cell BK222.out 0).trans rfl; have hcz16_1 : w13.cell? ⟨gb222, 1, none⟩ = some (.int .i64 0) := (blk_cell BK222.out 1).trans rfl; have hcz16_2 : w13.cell? ⟨gb222, 2, none⟩ = some (.int .i64 0) := (blk_cell BK222.out 2).trans rfl; have hcz16_3 : w13.cell? ⟨gb222, 3, none⟩ = some (.string (⟨#[]⟩ : ByteArray)) := (blk_cell BK222.out 3).trans rfl; have hcz16_4 : w13.cell? ⟨gb222, 4, none⟩ = some (.int .i64 0) := (blk_cell BK222.out 4).trans rfl; have hfz16_0 := blk_frozen BK222.out 0; have hfz16_1 := blk_frozen BK222.out 1; have hfz16_2 := blk_frozen BK222.out 2; have hfz16_3 := blk_frozen BK222.out 3; have hfz16_4 := blk_frozen BK222.out 4) | ((with_reducible refine gate_callee (f := 32) rfl ?_); refine goesL_ (some 26) rfl rfl Try.func32 (by kernel_rfl) rfl #[.slice A1 l1.length c1] rfl (by (try simp only [List.map_toArray, List.map_cons, List.map_nil]); first | done | rfl | (simp only [List.length_drop, List.length_take]; rfl)) ?_; (with_reducible refine (spec_DrawEntryLess.calls kj2 _ _ l1 t223 t224 t225 t226 t227 t228 t229 t230 t231 t232 _ ?side1 ?side2 A7.out).mono ?_); (case side1 => exact Kd.C_below HR1.out (by repeat (first | (with_reducible first | exact HB.out | apply below_alloc | apply pw_below_drewN | apply below_drew1 | refine below_set ?_ GE221.out | refine below_set ?_ GE222.out) | exact HB.out))); (case side2 => exact HC1.out); rintro e w17 ⟨rfl, hb⟩; refine ⟨_, rfl, ?_⟩; have n0_ := Aside0.mk (blk_below (g := gb221) (o := .cells #[.string t211, .int .i64 t212, .int .i64 t213, .string t214, .int .i64 t215] 28 (0, 0)) (by (with_reducible repeat (first | refine blk_drewN ?_ _ | refine blk_drew ?_ | refine blk_alloc ?_ _)); refine blk_far ?_ NB221_222.out _; (with_reducible repeat (first | refine blk_drewN ?_ _ | refine blk_drew ?_ | refine blk_alloc ?_ _)); refine blk_far ?_ NB221_222.out _; (with_reducible repeat (first | refine blk_drewN ?_ _ | refine blk_drew ?_ | refine blk_alloc ?_ _)); refine blk_far ?_ NB221_222.out _; (with_reducible repeat (first | refine blk_drewN ?_ _ | refine blk_drew ?_ | refine blk_alloc ?_ _)); refine blk_far ?_ NB221_222.out _; (with_reducible repeat (first | refine blk_drewN ?_ _ | refine blk_drew ?_ | refine blk_alloc ?_ _)); refine blk_far ?_ NB221_222.out _; (with_reducible repeat (first | refine blk_drewN ?_ _ | refine blk_drew ?_ | refine blk_alloc ?_ _)); refine blk_put (cs := #[.string t211, .int .i64 t212, .int .i64 t213, .string t214, .int .i64 0]) ?_ 4 _ rfl; (with_reducible repeat (first | refine blk_drewN ?_ _ | refine blk_drew ?_ | refine blk_alloc ?_ _)); refine blk_put (cs := #[.string t211, .int .i64 t212, .int .i64 t213, .string (⟨#[]⟩ : ByteArray), .int .i64 0]) ?_ 3 _ rfl; (with_reducible repeat (first | refine blk_drewN ?_ _ | refine blk_drew ?_ | refine blk_alloc ?_ _)); refine blk_put (cs := #[.string t211, .int .i64 t212, .int .i64 0, .string (⟨#[]⟩ : ByteArray), .int .i64 0]) ?_ 2 _ rfl; (with_reducible repeat (first | refine blk_drewN ?_ _ | refine blk_drew ?_ | refine blk_alloc ?_ _)); refine blk_put (cs := #[.string t211, .int .i64 0, .int .i64 0, .string (⟨#[]⟩ : ByteArray), .int .i64 0]) ?_ 1 _ rfl; (with_reducible repeat (first | refine blk_drewN ?_ _ | refine blk_drew ?_ | refine blk_alloc ?_ _)); refine blk_put (cs := #[.string (⟨#[]⟩ : ByteArray), .int .i64 0, .int .i64 0, .string (⟨#[]⟩ : ByteArray), .int .i64 0]) ?_ 0 _ rfl; (with_reducible repeat (first | refine blk_drewN ?_ _ | refine blk_drew ?_ | refine blk_alloc ?_ _)); exact BK221.out) hb); have n1_ := Aside0.mk (blk_below (g := gb222) (o := .cells #[.string t216, .int .i64 t217, .int .i64 t218, .string t219, .int .i64 t220] 28 (0, 0)) (by (with_reducible repeat (first | refine blk_drewN ?_ _ | refine blk_drew ?_ | refine blk_alloc ?_ _)); refine blk_put (cs := #[.string t216, .int .i64 t217, .int .i64 t218, .string t219, .int .i64 0]) ?_ 4 _ rfl; (with_reducible repeat (first | refine blk_drewN ?_ _ | refine blk_drew ?_ | refine blk_alloc ?_ _)); refine blk_put (cs := #[.string t216, .int .i64 t217, .int .i64 t218, .string (⟨#[]⟩ : ByteArray), .int .i64 0]) ?_ 3 _ rfl; (with_reducible repeat (first | refine blk_drewN ?_ _ | refine blk_drew ?_ | refine blk_alloc ?_ _)); refine blk_put (cs := #[.string t216, .int .i64 t217, .int .i64 0, .string (⟨#[]⟩ : ByteArray), .int .i64 0]) ?_ 2 _ rfl; (with_reducible repeat (first | refine blk_drewN ?_ _ | refine blk_drew ?_ | refine blk_alloc ?_ _)); refine blk_put (cs := #[.string t216, .int .i64 0, .int .i64 0, .string (⟨#[]⟩ : ByteArray), .int .i64 0]) ?_ 1 _ rfl; (with_reducible repeat (first | refine blk_drewN ?_ _ | refine blk_drew ?_ | refine blk_alloc ?_ _)); refine blk_put (cs := #[.string (⟨#[]⟩ : ByteArray), .int .i64 0, .int .i64 0, .string (⟨#[]⟩ : ByteArray), .int .i64 0]) ?_ 0 _ rfl; (with_reducible repeat (first | refine blk_drewN ?_ _ | refine blk_drew ?_ | refine blk_alloc ?_ _)); refine blk_far ?_ NB222_221.out _; (with_reducible repeat (first | refine blk_drewN ?_ _ | refine blk_drew ?_ | refine blk_alloc ?_ _)); refine blk_far ?_ NB222_221.out _; (with_reducible repeat (first | refine blk_drewN ?_ _ | refine blk_drew ?_ | refine blk_alloc ?_ _)); refine blk_far ?_ NB222_221.out _; (with_reducible repeat (first | refine blk_drewN ?_ _ | refine blk_drew ?_ | refine blk_alloc ?_ _)); refine blk_far ?_ NB222_221.out _; (with_reducible repeat (first | refine blk_drewN ?_ _ | refine blk_drew ?_ | refine blk_alloc ?_ _)); refine blk_far ?_ NB222_221.out _; (with_reducible repeat (first | refine blk_drewN ?_ _ | refine blk_drew ?_ | refine blk_alloc ?_ _)); exact BK222.out) hb); have n2_ := Aside0.mk (below_step (by repeat (first | (with_reducible first | exact HB.out | apply below_alloc | apply pw_below_drewN | apply below_drew1 | refine below_set ?_ GE221.out | refine below_set ?_ GE222.out) | exact HB.out)) hb); clear BK221; clear BK222; clear HB; have BK221 := n0_; have BK222 := n1_; have HB := n2_; clear n0_ n1_ n2_; (try clear hb); (try clear hb2); (try clear hk); (try clear hi)) | ((with_reducible refine gate_dst (N := 7) rfl ?_); (try (refine gate_guard (by rfl) ?_; dsimp only)); refine box_event ?hg (N := 7) ?hd (cs := #[.string (⟨#[]⟩ : ByteArray), .int .i64 0, .int .i64 0, .string (⟨#[]⟩ : ByteArray), .int .i64 0]) (t := 28) ?hr ?_; (case hd => rfl); (case hg => rfl); (case hr => first | (go_simp; done) | (go_simp; rfl)); intro gb233 hg w18 hbox hb; have n0_ := Aside0.mk (blk_below (g := gb221) (o := .cells #[.string t211, .int .i64 t212, .int .i64 t213, .string t214, .int .i64 t215] 28 (0, 0)) (by (with_reducible repeat (first | refine blk_drewN ?_ _ | refine blk_drew ?_ | refine blk_alloc ?_ _)); exact BK221.out) hb); have n1_ := Aside0.mk (blk_below (g := gb222) (o := .cells #[.string t216, .int .i64 t217, .int .i64 t218, .string t219, .int .i64 t220] 28 (0, 0)) (by (with_reducible repeat (first | refine blk_drewN ?_ _ | refine blk_drew ?_ | refine blk_alloc ?_ _)); exact BK222.out) hb); have n2_ := Aside0.mk (below_step (by repeat (first | (with_reducible first | exact HB.out | apply below_alloc | apply pw_below_drewN | apply below_drew1 | refine below_set ?_ GE221.out | refine below_set ?_ GE222.out) | exact HB.out)) hb); have n3_ := Aside0.mk (hbox); have n4_ := Aside0.mk ((by rw [hg]; exact (below_size (by repeat (first | (with_reducible first | exact HB.out | apply below_alloc | apply pw_below_drewN | apply below_drew1 | refine below_set ?_ GE221.out | refine below_set ?_ GE222.out) | exact HB.out))) : w.heap.size ≤ gb233)); have n5_ := Aside0.mk ((by rw [hg]; exact (below_size (by repeat (first | (with_reducible first | exact HB.out | apply below_alloc | apply pw_below_drewN | apply below_drew1 | refine below_set ?_ GE221.out | refine below_set ?_ GE222.out) | exact HB.out))) : w.heap.size ≤ gb233)); have n6_ := Aside0.mk ((by rw [hg]; exact Nat.ne_of_lt (blk_lt (g := gb221) (o := .cells #[.string t211, .int .i64 t212, .int .i64 t213, .string t214, .int .i64 t215] 28 (0, 0)) (by (with_reducible repeat (first | refine blk_drewN ?_ _ | refine blk_drew ?_ | refine blk_alloc ?_ _)); exact BK221.out)) : gb221 ≠ gb233)); have n7_ := Aside0.mk ((by rw [hg]; exact Nat.ne_of_gt (blk_lt (g := gb221) (o := .cells #[.string t211, .int .i64 t212, .int .i64 t213, .string t214, .int .i64 t215] 28 (0, 0)) (by (with_reducible repeat (first | refine blk_drewN ?_ _ | refine blk_drew ?_ | refine blk_alloc ?_ _)); exact BK221.out)) : gb233 ≠ gb221)); have n8_ := Aside0.mk ((by rw [hg]; exact Nat.ne_of_lt (blk_lt (g := gb222) (o := .cells #[.string t216, .int .i64 t217, .int .i64 t218, .string t219, .int .i64 t220] 28 (0, 0)) (by (with_reducible repeat (first | refine blk_drewN ?_ _ | refine blk_drew ?_ | refine blk_alloc ?_ _)); exact BK222.out)) : gb222 ≠ gb233)); have n9_ := Aside0.mk ((by rw [hg]; exact Nat.ne_of_gt (blk_lt (g := gb222) (o := .cells #[.string t216, .int .i64 t217, .int .i64 t218, .string t219, .int .i64 t220] 28 (0, 0)) (by (with_reducible repeat (first | refine blk_drewN ?_ _ | refine blk_drew ?_ | refine blk_alloc ?_ _)); exact BK222.out)) : gb233 ≠ gb222)); clear BK221; clear BK222; clear HB; have BK221 := n0_; have BK222 := n1_; have HB := n2_; have BK233 := n3_; have GW233 := n4_; have GE233 := n5_; have NB221_233 := n6_; have NB233_221 := n7_; have NB222_233 := n8_; have NB233_222 := n9_; clear n0_ n1_ n2_ n3_ n4_ n5_ n6_ n7_ n8_ n9_; clear hb hbox hg) | ((with_reducible refine gate_dst (N := 8) rfl ?_); (try (refine gate_guard (by rfl) ?_; dsimp only)); refine box_event ?hg (N := 8) ?hd (cs := #[.string (⟨#[]⟩ : ByteArray), .int .i64 0, .int .i64 0, .string (⟨#[]⟩ : ByteArray), .int .i64 0]) (t := 28) ?hr ?_; (case hd => rfl); (case hg => rfl); (case hr => first | (go_simp; done) | (go_simp; rfl)); intro gb234 hg w19 hbox hb; have n0_ := Aside0.mk (blk_below (g := gb221) (o := .cells #[.string t211, .int .i64 t212, .int .i64 t213, .string t214, .int .i64 t215] 28 (0, 0)) (by (with_reducible repeat (first | refine blk_drewN ?_ _ | refine blk_drew ?_ | refine blk_alloc ?_ _)); exact BK221.out) hb); have n1_ := Aside0.mk (blk_below (g := gb222) (o := .cells #[.string t216, .int .i64 t217, .int .i64 t218, .string t219, .int .i64 t220] 28 (0, 0)) (by (with_reducible repeat (first | refine blk_drewN ?_ _ | refine blk_drew ?_ | refine blk_alloc ?_ _)); exact BK222.out) hb); have n2_ := Aside0.mk (blk_below (g := gb233) (o := .cells #[.string (⟨#[]⟩ : ByteArray), .int .i64 0, .int .i64 0, .string (⟨#[]⟩ : ByteArray), .int .i64 0] 28 (0, 0)) (by (with_reducible repeat (first | refine blk_drewN ?_ _ | refine blk_drew ?_ | refine blk_alloc ?_ _)); exact BK233.out) hb); have n3_ := Aside0.mk (below_step (by repeat (first | (with_reducible first | exact HB.out | apply below_alloc | apply pw_below_drewN | apply below_drew1 | refine below_set ?_ GE221.out | refine below_set ?_ GE222.out | refine below_set ?_ GE233.out) | exact HB.out)) hb); have n4_ := Aside0.mk (hbox); have n5_ := Aside0.mk ((by rw [hg]; exact (below_size (by repeat (first | (with_reducible first | exact HB.out | apply below_alloc | apply pw_below_drewN | apply below_drew1 | refine below_set ?_ GE221.out | refine below_set ?_ GE222.out | refine below_set ?_ GE233.out) | exact HB.out))) : w.heap.size ≤ gb234)); have n6_ := Aside0.mk ((by rw [hg]; exact (below_size (by repeat (first | (with_reducible first | exact HB.out | apply below_alloc | apply pw_below_drewN | apply below_drew1 | refine below_set ?_ GE221.out | refine below_set ?_ GE222.out | refine below_set ?_ GE233.out) | exact HB.out))) : w.heap.size ≤ gb234)); have n7_ := Aside0.mk ((by rw [hg]; exact Nat.ne_of_lt (blk_lt (g := gb221) (o := .cells #[.string t211, .int .i64 t212, .int .i64 t213, .string t214, .int .i64 t215] 28 (0, 0)) (by (with_reducible repeat (first | refine blk_drewN ?_ _ | refine blk_drew ?_ | refine blk_alloc ?_ _)); exact BK221.out)) : gb221 ≠ gb234)); have n8_ := Aside0.mk ((by rw [hg]; exact Nat.ne_of_gt (blk_lt (g := gb221) (o := .cells #[.string t211, .int .i64 t212, .int .i64 t213, .string t214, .int .i64 t215] 28 (0, 0)) (by (with_reducible repeat (first | refine blk_drewN ?_ _ | refine blk_drew ?_ | refine blk_alloc ?_ _)); exact BK221.out)) : gb234 ≠ gb221)); have n9_ := Aside0.mk ((by rw [hg]; exact Nat.ne_of_lt (blk_lt (g := gb222) (o := .cells #[.string t216, .int .i64 t217, .int .i64 t218, .string t219, .int .i64 t220] 28 (0, 0)) (by (with_reducible repeat (first | refine blk_drewN ?_ _ | refine blk_drew ?_ | refine blk_alloc ?_ _)); exact BK222.out)) : gb222 ≠ gb234)); have n10_ := Aside0.mk ((by rw [hg]; exact Nat.ne_of_gt (blk_lt (g := gb222) (o := .cells #[.string t216, .int .i64 t217, .int .i64 t218, .string t219, .int .i64 t220] 28 (0, 0)) (by (with_reducible repeat (first | refine blk_drewN ?_ _ | refine blk_drew ?_ | refine blk_alloc ?_ _)); exact BK222.out)) : gb234 ≠ gb222)); have n11_ := Aside0.mk ((by rw [hg]; exact Nat.ne_of_lt (blk_lt (g := gb233) (o := .cells #[.string (⟨#[]⟩ : ByteArray), .int .i64 0, .int .i64 0, .string (⟨#[]⟩ : ByteArray), .int .i64 0] 28 (0, 0)) (by (with_reducible repeat (first | refine blk_drewN ?_ _ | refine blk_drew ?_ | refine blk_alloc ?_ _)); exact BK233.out)) : gb233 ≠ gb234)); have n12_ := Aside0.mk ((by rw [hg]; exact Nat.ne_of_gt (blk_lt (g := gb233) (o := .cells #[.string (⟨#[]⟩ : ByteArray), .int .i64 0, .int .i64 0, .string (⟨#[]⟩ : ByteArray), .int .i64 0] 28 (0, 0)) (by (with_reducible repeat (first | refine blk_drewN ?_ _ | refine blk_drew ?_ | refine blk_alloc ?_ _)); exact BK233.out)) : gb234 ≠ gb233)); clear BK221; clear BK222; clear BK233; clear HB; have BK221 := n0_; have BK222 := n1_; have BK233 := n2_; have HB := n3_; have BK234 := n4_; have GW234 := n5_; have GE234 := n6_; have NB221_234 := n7_; have NB234_221 := n8_; have NB222_234 := n9_; have NB234_222 := n10_; have NB233_234 := n11_; have NB234_233 := n12_; clear n0_ n1_ n2_ n3_ n4_ n5_ n6_ n7_ n8_ n9_ n10_ n11_ n12_; clear hb hbox hg; have hnb20 := NB233_221.out; have hnc20 := NB221_233.out; have hnb21 := NB233_222.out; have hnc21 := NB222_233.out; have hnb22 := NB233_234.out; have hnc22 := NB234_233.out; have hcz23_0 : w19.cell? ⟨gb233, 0, none⟩ = some (.string (⟨#[]⟩ : ByteArray)) := (blk_cell BK233.out 0).trans rfl; have hcz23_1 : w19.cell? ⟨gb233, 1, none⟩ = some (.int .i64 0) := (blk_cell BK233.out 1).trans rfl; have hcz23_2 : w19.cell? ⟨gb233, 2, none⟩ = some (.int .i64 0) := (blk_cell BK233.out 2).trans rfl; have hcz23_3 : w19.cell? ⟨gb233, 3, none⟩ = some (.string (⟨#[]⟩ : ByteArray)) := (blk_cell BK233.out 3).trans rfl; have hcz23_4 : w19.cell? ⟨gb233, 4, none⟩ = some (.int .i64 0) := (blk_cell BK233.out 4).trans rfl; have hfz23_0 := blk_frozen BK233.out 0; have hfz23_1 := blk_frozen BK233.out 1; have hfz23_2 := blk_frozen BK233.out 2; have hfz23_3 := blk_frozen BK233.out 3; have hfz23_4 := blk_frozen BK233.out 4; have hnb24 := NB234_221.out; have hnc24 := NB221_234.out; have hnb25 := NB234_222.out; have hnc25 := NB222_234.out; have hcz26_0 : w19.cell? ⟨gb234, 0, none⟩ = some (.string (⟨#[]⟩ : ByteArray)) := (blk_cell BK234.out 0).trans rfl; have hcz26_1 : w19.cell? ⟨gb234, 1, none⟩ = some (.int .i64 0) := (blk_cell BK234.out 1).trans rfl; have hcz26_2 : w19.cell? ⟨gb234, 2, none⟩ = some (.int .i64 0) := (blk_cell BK234.out 2).trans rfl; have hcz26_3 : w19.cell? ⟨gb234, 3, none⟩ = some (.string (⟨#[]⟩ : ByteArray)) := (blk_cell BK234.out 3).trans rfl; have hcz26_4 : w19.cell? ⟨gb234, 4, none⟩ = some (.int .i64 0) := (blk_cell BK234.out 4).trans rfl; have hfz26_0 := blk_frozen BK234.out 0; have hfz26_1 := blk_frozen BK234.out 1; have hfz26_2 := blk_frozen BK234.out 2; have hfz26_3 := blk_frozen BK234.out 3; have hfz26_4 := blk_frozen BK234.out 4; have hcz27_0 : w19.cell? ⟨gb221, 0, none⟩ = some (.string t211) := (blk_cell BK221.out 0).trans rfl; have hcz27_1 : w19.cell? ⟨gb221, 1, none⟩ = some (.int .i64 t212) := (blk_cell BK221.out 1).trans rfl; have hcz27_2 : w19.cell? ⟨gb221, 2, none⟩ = some (.int .i64 t213) := (blk_cell BK221.out 2).trans rfl; have hcz27_3 : w19.cell? ⟨gb221, 3, none⟩ = some (.string t214) := (blk_cell BK221.out 3).trans rfl; have hcz27_4 : w19.cell? ⟨gb221, 4, none⟩ = some (.int .i64 t215) := (blk_cell BK221.out 4).trans rfl; have hfz27_0 := blk_frozen BK221.out 0; have hfz27_1 := blk_frozen BK221.out 1; have hfz27_2 := blk_frozen BK221.out 2; have hfz27_3 := blk_frozen BK221.out 3; have hfz27_4 := blk_frozen BK221.out 4; have hcz28_0 : w19.cell? ⟨gb222, 0, none⟩ = some (.string t216) := (blk_cell BK222.out 0).trans rfl; have hcz28_1 : w19.cell? ⟨gb222, 1, none⟩ = some (.int .i64 t217) := (blk_cell BK222.out 1).trans rfl; have hcz28_2 : w19.cell? ⟨gb222, 2, none⟩ = some (.int .i64 t218) := (blk_cell BK222.out 2).trans rfl; have hcz28_3 : w19.cell? ⟨gb222, 3, none⟩ = some (.string t219) := (blk_cell BK222.out 3).trans rfl; have hcz28_4 : w19.cell? ⟨gb222, 4, none⟩ = some (.int .i64 t220) := (blk_cell BK222.out 4).trans rfl; have hfz28_0 := blk_frozen BK222.out 0; have hfz28_1 := blk_frozen BK222.out 1; have hfz28_2 := blk_frozen BK222.out 2; have hfz28_3 := blk_frozen BK222.out 3; have hfz28_4 := blk_frozen BK222.out 4) | ((with_reducible refine gate_callee (f := 22) rfl ?_); refine goesL_ (some 31) rfl rfl Try.func22 (by kernel_rfl) rfl #[.agg #[.string t211, .int .i64 t212, .int .i64 t213, .string t214, .int .i64 t215], .agg #[.string t216, .int .i64 t217, .int .i64 t218, .string t219, .int .i64 t220]] rfl (by (try simp only [List.map_toArray, List.map_cons, List.map_nil]); first | done | rfl | (simp only [List.length_drop, List.length_take]; rfl)) ?_; (with_reducible refine (impl_EntryLess.calls t211 t212 t213 t214 t215 t216 t217 t218 t219 t220 t235 _ A8.out).mono ?_); rintro e w29 ⟨rfl, hb⟩; refine ⟨_, rfl, ?_⟩; have n0_ := Aside0.mk (blk_below (g := gb221) (o := .cells #[.string t211, .int .i64 t212, .int .i64 t213, .string t214, .int .i64 t215] 28 (0, 0)) (by (with_reducible repeat (first | refine blk_drewN ?_ _ | refine blk_drew ?_ | refine blk_alloc ?_ _)); refine blk_far ?_ NB221_234.out _; (with_reducible repeat (first | refine blk_drewN ?_ _ | refine blk_drew ?_ | refine blk_alloc ?_ _)); refine blk_far ?_ NB221_234.out _; (with_reducible repeat (first | refine blk_drewN ?_ _ | refine blk_drew ?_ | refine blk_alloc ?_ _)); refine blk_far ?_ NB221_234.out _; (with_reducible repeat (first | refine blk_drewN ?_ _ | refine blk_drew ?_ | refine blk_alloc ?_ _)); refine blk_far ?_ NB221_234.out _; (with_reducible repeat (first | refine blk_drewN ?_ _ | refine blk_drew ?_ | refine blk_alloc ?_ _)); refine blk_far ?_ NB221_234.out _; (with_reducible repeat (first | refine blk_drewN ?_ _ | refine blk_drew ?_ | refine blk_alloc ?_ _)); refine blk_far ?_ NB221_233.out _; (with_reducible repeat (first | refine blk_drewN ?_ _ | refine blk_drew ?_ | refine blk_alloc ?_ _)); refine blk_far ?_ NB221_233.out _; (with_reducible repeat (first | refine blk_drewN ?_ _ | refine blk_drew ?_ | refine blk_alloc ?_ _)); refine blk_far ?_ NB221_233.out _; (with_reducible repeat (first | refine blk_drewN ?_ _ | refine blk_drew ?_ | refine blk_alloc ?_ _)); refine blk_far ?_ NB221_233.out _; (with_reducible repeat (first | refine blk_drewN ?_ _ | refine blk_drew ?_ | refine blk_alloc ?_ _)); refine blk_far ?_ NB221_233.out _; (with_reducible repeat (first | refine blk_drewN ?_ _ | refine blk_drew ?_ | refine blk_alloc ?_ _)); exact BK221.out) hb); have n1_ := Aside0.mk (blk_below (g := gb222) (o := .cells #[.string t216, .int .i64 t217, .int .i64 t218, .string t219, .int .i64 t220] 28 (0, 0)) (by (with_reducible repeat (first | refine blk_drewN ?_ _ | refine blk_drew ?_ | refine blk_alloc ?_ _)); refine blk_far ?_ NB222_234.out _; (with_reducible repeat (first | refine blk_drewN ?_ _ | refine blk_drew ?_ | refine blk_alloc ?_ _)); refine blk_far ?_ NB222_234.out _; (with_reducible repeat (first | refine blk_drewN ?_ _ | refine blk_drew ?_ | refine blk_alloc ?_ _)); refine blk_far ?_ NB222_234.out _; (with_reducible repeat (first | refine blk_drewN ?_ _ | refine blk_drew ?_ | refine blk_alloc ?_ _)); refine blk_far ?_ NB222_234.out _; (with_reducible repeat (first | refine blk_drewN ?_ _ | refine blk_drew ?_ | refine blk_alloc ?_ _)); refine blk_far ?_ NB222_234.out _; (with_reducible repeat (first | refine blk_drewN ?_ _ | refine blk_drew ?_ | refine blk_alloc ?_ _)); refine blk_far ?_ NB222_233.out _; (with_reducible repeat (first | refine blk_drewN ?_ _ | refine blk_drew ?_ | refine blk_alloc ?_ _)); refine blk_far ?_ NB222_233.out _; (with_reducible repeat (first | refine blk_drewN ?_ _ | refine blk_drew ?_ | refine blk_alloc ?_ _)); refine blk_far ?_ NB222_233.out _; (with_reducible repeat (first | refine blk_drewN ?_ _ | refine blk_drew ?_ | refine blk_alloc ?_ _)); refine blk_far ?_ NB222_233.out _; (with_reducible repeat (first | refine blk_drewN ?_ _ | refine blk_drew ?_ | refine blk_alloc ?_ _)); refine blk_far ?_ NB222_233.out _; (with_reducible repeat (first | refine blk_drewN ?_ _ | refine blk_drew ?_ | refine blk_alloc ?_ _)); exact BK222.out) hb); have n2_ := Aside0.mk (blk_below (g := gb233) (o := .cells #[.string t223, .int .i64 t224, .int .i64 t225, .string t226, .int .i64 t227] 28 (0, 0)) (by (with_reducible repeat (first | refine blk_drewN ?_ _ | refine blk_drew ?_ | refine blk_alloc ?_ _)); refine blk_far ?_ NB233_234.out _; (with_reducible repeat (first | refine blk_drewN ?_ _ | refine blk_drew ?_ | refine blk_alloc ?_ _)); refine blk_far ?_ NB233_234.out _; (with_reducible repeat (first | refine blk_drewN ?_ _ | refine blk_drew ?_ | refine blk_alloc ?_ _)); refine blk_far ?_ NB233_234.out _; (with_reducible repeat (first | refine blk_drewN ?_ _ | refine blk_drew ?_ | refine blk_alloc ?_ _)); refine blk_far ?_ NB233_234.out _; (with_reducible repeat (first | refine blk_drewN ?_ _ | refine blk_drew ?_ | refine blk_alloc ?_ _)); refine blk_far ?_ NB233_234.out _; (with_reducible repeat (first | refine blk_drewN ?_ _ | refine blk_drew ?_ | refine blk_alloc ?_ _)); refine blk_put (cs := #[.string t223, .int .i64 t224, .int .i64 t225, .string t226, .int .i64 0]) ?_ 4 _ rfl; (with_reducible repeat (first | refine blk_drewN ?_ _ | refine blk_drew ?_ | refine blk_alloc ?_ _)); refine blk_put (cs := #[.string t223, .int .i64 t224, .int .i64 t225, .string (⟨#[]⟩ : ByteArray), .int .i64 0]) ?_ 3 _ rfl; (with_reducible repeat (first | refine blk_drewN ?_ _ | refine blk_drew ?_ | refine blk_alloc ?_ _)); refine blk_put (cs := #[.string t223, .int .i64 t224, .int .i64 0, .string (⟨#[]⟩ : ByteArray), .int .i64 0]) ?_ 2 _ rfl; (with_reducible repeat (first | refine blk_drewN ?_ _ | refine blk_drew ?_ | refine blk_alloc ?_ _)); refine blk_put (cs := #[.string t223, .int .i64 0, .int .i64 0, .string (⟨#[]⟩ : ByteArray), .int .i64 0]) ?_ 1 _ rfl; (with_reducible repeat (first | refine blk_drewN ?_ _ | refine blk_drew ?_ | refine blk_alloc ?_ _)); refine blk_put (cs := #[.string (⟨#[]⟩ : ByteArray), .int .i64 0, .int .i64 0, .string (⟨#[]⟩ : ByteArray), .int .i64 0]) ?_ 0 _ rfl; (with_reducible repeat (first | refine blk_drewN ?_ _ | refine blk_drew ?_ | refine blk_alloc ?_ _)); exact BK233.out) hb); have n3_ := Aside0.mk (blk_below (g := gb234) (o := .cells #[.string t228, .int .i64 t229, .int .i64 t230, .string t231, .int .i64 t232] 28 (0, 0)) (by (with_reducible repeat (first | refine blk_drewN ?_ _ | refine blk_drew ?_ | refine blk_alloc ?_ _)); refine blk_put (cs := #[.string t228, .int .i64 t229, .int .i64 t230, .string t231, .int .i64 0]) ?_ 4 _ rfl; (with_reducible repeat (first | refine blk_drewN ?_ _ | refine blk_drew ?_ | refine blk_alloc ?_ _)); refine blk_put (cs := #[.string t228, .int .i64 t229, .int .i64 t230, .string (⟨#[]⟩ : ByteArray), .int .i64 0]) ?_ 3 _ rfl; (with_reducible repeat (first | refine blk_drewN ?_ _ | refine blk_drew ?_ | refine blk_alloc ?_ _)); refine blk_put (cs := #[.string t228, .int .i64 t229, .int .i64 0, .string (⟨#[]⟩ : ByteArray), .int .i64 0]) ?_ 2 _ rfl; (with_reducible repeat (first | refine blk_drewN ?_ _ | refine blk_drew ?_ | refine blk_alloc ?_ _)); refine blk_put (cs := #[.string t228, .int .i64 0, .int .i64 0, .string (⟨#[]⟩ : ByteArray), .int .i64 0]) ?_ 1 _ rfl; (with_reducible repeat (first | refine blk_drewN ?_ _ | refine blk_drew ?_ | refine blk_alloc ?_ _)); refine blk_put (cs := #[.string (⟨#[]⟩ : ByteArray), .int .i64 0, .int .i64 0, .string (⟨#[]⟩ : ByteArray), .int .i64 0]) ?_ 0 _ rfl; (with_reducible repeat (first | refine blk_drewN ?_ _ | refine blk_drew ?_ | refine blk_alloc ?_ _)); refine blk_far ?_ NB234_233.out _; (with_reducible repeat (first | refine blk_drewN ?_ _ | refine blk_drew ?_ | refine blk_alloc ?_ _)); refine blk_far ?_ NB234_233.out _; (with_reducible repeat (first | refine blk_drewN ?_ _ | refine blk_drew ?_ | refine blk_alloc ?_ _)); refine blk_far ?_ NB234_233.out _; (with_reducible repeat (first | refine blk_drewN ?_ _ | refine blk_drew ?_ | refine blk_alloc ?_ _)); refine blk_far ?_ NB234_233.out _; (with_reducible repeat (first | refine blk_drewN ?_ _ | refine blk_drew ?_ | refine blk_alloc ?_ _)); refine blk_far ?_ NB234_233.out _; (with_reducible repeat (first | refine blk_drewN ?_ _ | refine blk_drew ?_ | refine blk_alloc ?_ _)); exact BK234.out) hb); have n4_ := Aside0.mk (below_step (by repeat (first | (with_reducible first | exact HB.out | apply below_alloc | apply pw_below_drewN | apply below_drew1 | refine below_set ?_ GE221.out | refine below_set ?_ GE222.out | refine below_set ?_ GE233.out | refine below_set ?_ GE234.out) | exact HB.out)) hb); clear BK221; clear BK222; clear BK233; clear BK234; clear HB; have BK221 := n0_; have BK222 := n1_; have BK233 := n2_; have BK234 := n3_; have HB := n4_; clear n0_ n1_ n2_ n3_ n4_; (try clear hb); (try clear hb2); (try clear hk); (try clear hi); have hcz30_0 : w29.cell? ⟨gb222, 0, none⟩ = some (.string t216) := (blk_cell BK222.out 0).trans rfl; have hcz30_1 : w29.cell? ⟨gb222, 1, none⟩ = some (.int .i64 t217) := (blk_cell BK222.out 1).trans rfl; have hcz30_2 : w29.cell? ⟨gb222, 2, none⟩ = some (.int .i64 t218) := (blk_cell BK222.out 2).trans rfl; have hcz30_3 : w29.cell? ⟨gb222, 3, none⟩ = some (.string t219) := (blk_cell BK222.out 3).trans rfl; have hcz30_4 : w29.cell? ⟨gb222, 4, none⟩ = some (.int .i64 t220) := (blk_cell BK222.out 4).trans rfl; have hfz30_0 := blk_frozen BK222.out 0; have hfz30_1 := blk_frozen BK222.out 1; have hfz30_2 := blk_frozen BK222.out 2; have hfz30_3 := blk_frozen BK222.out 3; have hfz30_4 := blk_frozen BK222.out 4; have hcz31_0 : w29.cell? ⟨gb221, 0, none⟩ = some (.string t211) := (blk_cell BK221.out 0).trans rfl; have hcz31_1 : w29.cell? ⟨gb221, 1, none⟩ = some (.int .i64 t212) := (blk_cell BK221.out 1).trans rfl; have hcz31_2 : w29.cell? ⟨gb221, 2, none⟩ = some (.int .i64 t213) := (blk_cell BK221.out 2).trans rfl; have hcz31_3 : w29.cell? ⟨gb221, 3, none⟩ = some (.string t214) := (blk_cell BK221.out 3).trans rfl; have hcz31_4 : w29.cell? ⟨gb221, 4, none⟩ = some (.int .i64 t215) := (blk_cell BK221.out 4).trans rfl; have hfz31_0 := blk_frozen BK221.out 0; have hfz31_1 := blk_frozen BK221.out 1; have hfz31_2 := blk_frozen BK221.out 2; have hfz31_3 := blk_frozen BK221.out 3; have hfz31_4 := blk_frozen BK221.out 4) | ((with_reducible refine gate_callee (f := 22) rfl ?_); refine goesL_ (some 34) rfl rfl Try.func22 (by kernel_rfl) rfl #[.agg #[.string t216, .int .i64 t217, .int .i64 t218, .string t219, .int .i64 t220], .agg #[.string t211, .int .i64 t212, .int .i64 t213, .string t214, .int .i64 t215]] rfl (by (try simp only [List.map_toArray, List.map_cons, List.map_nil]); first | done | rfl | (simp only [List.length_drop, List.length_take]; rfl)) ?_; (with_reducible refine (impl_EntryLess.calls t216 t217 t218 t219 t220 t211 t212 t213 t214 t215 t236 _ A9.out).mono ?_); rintro e w32 ⟨rfl, hb⟩; refine ⟨_, rfl, ?_⟩; have n0_ := Aside0.mk (blk_below (g := gb221) (o := .cells #[.string t211, .int .i64 t212, .int .i64 t213, .string t214, .int .i64 t215] 28 (0, 0)) (by (with_reducible repeat (first | refine blk_drewN ?_ _ | refine blk_drew ?_ | refine blk_alloc ?_ _)); exact BK221.out) hb); have n1_ := Aside0.mk (blk_below (g := gb222) (o := .cells #[.string t216, .int .i64 t217, .int .i64 t218, .string t219, .int .i64 t220] 28 (0, 0)) (by (with_reducible repeat (first | refine blk_drewN ?_ _ | refine blk_drew ?_ | refine blk_alloc ?_ _)); exact BK222.out) hb); have n2_ := Aside0.mk (blk_below (g := gb233) (o := .cells #[.string t223, .int .i64 t224, .int .i64 t225, .string t226, .int .i64 t227] 28 (0, 0)) (by (with_reducible repeat (first | refine blk_drewN ?_ _ | refine blk_drew ?_ | refine blk_alloc ?_ _)); exact BK233.out) hb); have n3_ := Aside0.mk (blk_below (g := gb234) (o := .cells #[.string t228, .int .i64 t229, .int .i64 t230, .string t231, .int .i64 t232] 28 (0, 0)) (by (with_reducible repeat (first | refine blk_drewN ?_ _ | refine blk_drew ?_ | refine blk_alloc ?_ _)); exact BK234.out) hb); have n4_ := Aside0.mk (below_step (by repeat (first | (with_reducible first | exact HB.out | apply below_alloc | apply pw_below_drewN | apply below_drew1 | refine below_set ?_ GE221.out | refine below_set ?_ GE222.out | refine below_set ?_ GE233.out | refine below_set ?_ GE234.out) | exact HB.out)) hb); clear BK221; clear BK222; clear BK233; clear BK234; clear HB; have BK221 := n0_; have BK222 := n1_; have BK233 := n2_; have BK234 := n3_; have HB := n4_; clear n0_ n1_ n2_ n3_ n4_; (try clear hb); (try clear hb2); (try clear hk); (try clear hi)))
        (try simp only [Act.put, List.setIfInBounds_toArray, List.set_cons_zero, List.set_cons_succ])
        go_cut [52] (fun v52 wc => ∃ (kq : Nat) (x52_9 : Bool), v52 = .bool x52_9 ∧ Aside0 (laws_FnEntryLess.j1 kq t235 t236 x52_9 t211 t212 t213 t214 t215 t216 t217 t218 t219 t220 t223 t224 t225 t226 t227 = some r) ∧ Aside0 (kq ≤ kj2) ∧ Aside0 (wc.heap[gb221]? = some (.cells #[.string t211, .int .i64 t212, .int .i64 t213, .string t214, .int .i64 t215] 28 (0, 0))) ∧ Aside0 (wc.heap[gb222]? = some (.cells #[.string t216, .int .i64 t217, .int .i64 t218, .string t219, .int .i64 t220] 28 (0, 0))) ∧ Aside0 (wc.heap[gb233]? = some (.cells #[.string t223, .int .i64 t224, .int .i64 t225, .string t226, .int .i64 t227] 28 (0, 0))) ∧ Aside0 (wc.heap[gb234]? = some (.cells #[.string t228, .int .i64 t229, .int .i64 t230, .string t231, .int .i64 t232] 28 (0, 0))) ∧ Aside0 (Below w.heap.size w wc))
        case first =>
          have H := HC10.out
          clear HC10
          replace H := Option.bind_eq_some_iff.mp H
          obtain ⟨t237, A330, H⟩ := H
          replace H : (if (t235 != t237) = true then (laws_FnEntryLess.j1 kj2 t235 t236 true t211 t212 t213 t214 t215 t216 t217 t218 t219 t220 t223 t224 t225 t226 t227) else ((spec_EntryLess.f t216 t217 t218 t219 t220 t211 t212 t213 t214 t215).bind fun t238 => (if (t236 != t238) = true then (laws_FnEntryLess.j1 kj2 t235 t236 true t211 t212 t213 t214 t215 t216 t217 t218 t219 t220 t223 t224 t225 t226 t227) else (if t235 = true then (laws_FnEntryLess.j1 kj2 t235 t236 t236 t211 t212 t213 t214 t215 t216 t217 t218 t219 t220 t223 t224 t225 t226 t227) else (laws_FnEntryLess.j1 kj2 t235 t236 false t211 t212 t213 t214 t215 t216 t217 t218 t219 t220 t223 t224 t225 t226 t227))))) = some r := H
          have A33 := Aside0.mk A330
          clear A330
          by_cases c34 : (t235 != t237) = true
          · rw [if_pos c34] at H
            have c34b0 : (t235 != t237) = true := c34
            (try (have c34b1 : decide (t235 = t237) = false := by (have h_ := c34; (try simp at h_); (try simp); (try exact h_))))
            (try (have c34b2 : (t235 == t237) = false := by (have h_ := c34; (try simp at h_); (try simp); (try exact h_))))
            (try (have c34b3 : ¬ (t235 = t237) := by (have h_ := c34; (try simp at h_); (try simp); (try exact h_))))
            clear c34
            (first | rw [c34b0] | (simp only [i64_w, i32_w]; rw [c34b0]) | skip)
            have H' := Aside0.mk H
            clear H
            have hnb35 := NB221_222.out
            have hnc35 := NB222_221.out
            have hnb36 := NB221_233.out
            have hnc36 := NB233_221.out
            have hnb37 := NB221_234.out
            have hnc37 := NB234_221.out
            have hcz38_0 : w32.cell? ⟨gb221, 0, none⟩ = some (.string t211) := (blk_cell BK221.out 0).trans rfl
            have hcz38_1 : w32.cell? ⟨gb221, 1, none⟩ = some (.int .i64 t212) := (blk_cell BK221.out 1).trans rfl
            have hcz38_2 : w32.cell? ⟨gb221, 2, none⟩ = some (.int .i64 t213) := (blk_cell BK221.out 2).trans rfl
            have hcz38_3 : w32.cell? ⟨gb221, 3, none⟩ = some (.string t214) := (blk_cell BK221.out 3).trans rfl
            have hcz38_4 : w32.cell? ⟨gb221, 4, none⟩ = some (.int .i64 t215) := (blk_cell BK221.out 4).trans rfl
            have hfz38_0 := blk_frozen BK221.out 0
            have hfz38_1 := blk_frozen BK221.out 1
            have hfz38_2 := blk_frozen BK221.out 2
            have hfz38_3 := blk_frozen BK221.out 3
            have hfz38_4 := blk_frozen BK221.out 4
            have hnb39 := NB222_233.out
            have hnc39 := NB233_222.out
            have hnb40 := NB222_234.out
            have hnc40 := NB234_222.out
            have hcz41_0 : w32.cell? ⟨gb222, 0, none⟩ = some (.string t216) := (blk_cell BK222.out 0).trans rfl
            have hcz41_1 : w32.cell? ⟨gb222, 1, none⟩ = some (.int .i64 t217) := (blk_cell BK222.out 1).trans rfl
            have hcz41_2 : w32.cell? ⟨gb222, 2, none⟩ = some (.int .i64 t218) := (blk_cell BK222.out 2).trans rfl
            have hcz41_3 : w32.cell? ⟨gb222, 3, none⟩ = some (.string t219) := (blk_cell BK222.out 3).trans rfl
            have hcz41_4 : w32.cell? ⟨gb222, 4, none⟩ = some (.int .i64 t220) := (blk_cell BK222.out 4).trans rfl
            have hfz41_0 := blk_frozen BK222.out 0
            have hfz41_1 := blk_frozen BK222.out 1
            have hfz41_2 := blk_frozen BK222.out 2
            have hfz41_3 := blk_frozen BK222.out 3
            have hfz41_4 := blk_frozen BK222.out 4
            go_wp2_with (first | ((with_reducible refine gate_callee (f := 20) rfl ?_); refine goesL_ (some 38) rfl rfl Try.func20 (by kernel_rfl) rfl #[.agg #[.string t211, .int .i64 t212, .int .i64 t213, .string t214, .int .i64 t215], .agg #[.string t216, .int .i64 t217, .int .i64 t218, .string t219, .int .i64 t220]] rfl (by (try simp only [List.map_toArray, List.map_cons, List.map_nil]); first | done | rfl | (simp only [List.length_drop, List.length_take]; rfl)) ?_; (with_reducible refine (spec_EntryLess.calls t211 t212 t213 t214 t215 t216 t217 t218 t219 t220 t237 _ A33.out).mono ?_); rintro e w42 ⟨rfl, hb⟩; refine ⟨_, rfl, ?_⟩; have n0_ := Aside0.mk (blk_below (g := gb221) (o := .cells #[.string t211, .int .i64 t212, .int .i64 t213, .string t214, .int .i64 t215] 28 (0, 0)) (by (with_reducible repeat (first | refine blk_drewN ?_ _ | refine blk_drew ?_ | refine blk_alloc ?_ _)); exact BK221.out) hb); have n1_ := Aside0.mk (blk_below (g := gb222) (o := .cells #[.string t216, .int .i64 t217, .int .i64 t218, .string t219, .int .i64 t220] 28 (0, 0)) (by (with_reducible repeat (first | refine blk_drewN ?_ _ | refine blk_drew ?_ | refine blk_alloc ?_ _)); exact BK222.out) hb); have n2_ := Aside0.mk (blk_below (g := gb233) (o := .cells #[.string t223, .int .i64 t224, .int .i64 t225, .string t226, .int .i64 t227] 28 (0, 0)) (by (with_reducible repeat (first | refine blk_drewN ?_ _ | refine blk_drew ?_ | refine blk_alloc ?_ _)); exact BK233.out) hb); have n3_ := Aside0.mk (blk_below (g := gb234) (o := .cells #[.string t228, .int .i64 t229, .int .i64 t230, .string t231, .int .i64 t232] 28 (0, 0)) (by (with_reducible repeat (first | refine blk_drewN ?_ _ | refine blk_drew ?_ | refine blk_alloc ?_ _)); exact BK234.out) hb); have n4_ := Aside0.mk (below_step (by repeat (first | (with_reducible first | exact HB.out | apply below_alloc | apply pw_below_drewN | apply below_drew1 | refine below_set ?_ GE221.out | refine below_set ?_ GE222.out | refine below_set ?_ GE233.out | refine below_set ?_ GE234.out) | exact HB.out)) hb); clear BK221; clear BK222; clear BK233; clear BK234; clear HB; have BK221 := n0_; have BK222 := n1_; have BK233 := n2_; have BK234 := n3_; have HB := n4_; clear n0_ n1_ n2_ n3_ n4_; (try clear hb); (try clear hb2); (try clear hk); (try clear hi)))
            go_meet
            case rel => exact ⟨_, (true), (by first | rfl | (simp; done) | (simp [*]; done)), H', ⟨by have := HJ2.out; first | omega | exact Nat.le_refl _⟩, ⟨by (with_reducible repeat (first | refine blk_drewN ?_ _ | refine blk_drew ?_ | refine blk_alloc ?_ _)); exact BK221.out⟩, ⟨by (with_reducible repeat (first | refine blk_drewN ?_ _ | refine blk_drew ?_ | refine blk_alloc ?_ _)); exact BK222.out⟩, ⟨by (with_reducible repeat (first | refine blk_drewN ?_ _ | refine blk_drew ?_ | refine blk_alloc ?_ _)); exact BK233.out⟩, ⟨by (with_reducible repeat (first | refine blk_drewN ?_ _ | refine blk_drew ?_ | refine blk_alloc ?_ _)); exact BK234.out⟩, ⟨by repeat (first | (with_reducible first | exact HB.out | apply below_alloc | apply pw_below_drewN | apply below_drew1 | refine below_set ?_ GE221.out | refine below_set ?_ GE222.out | refine below_set ?_ GE233.out | refine below_set ?_ GE234.out) | exact HB.out)⟩⟩
          · rw [if_neg c34] at H
            have c34b0 : (t235 != t237) = false := by (have h_ := c34; (try simp at h_); (try simp); (try exact h_))
            (try (have c34b1 : decide (t235 = t237) = true := by (have h_ := c34; (try simp at h_); (try simp); (try exact h_))))
            (try (have c34b2 : (t235 == t237) = true := by (have h_ := c34; (try simp at h_); (try simp); (try exact h_))))
            clear c34
            (first | rw [c34b0] | (simp only [i64_w, i32_w]; rw [c34b0]) | skip)
            replace H := Option.bind_eq_some_iff.mp H
            obtain ⟨t238, A430, H⟩ := H
            replace H : (if (t236 != t238) = true then (laws_FnEntryLess.j1 kj2 t235 t236 true t211 t212 t213 t214 t215 t216 t217 t218 t219 t220 t223 t224 t225 t226 t227) else (if t235 = true then (laws_FnEntryLess.j1 kj2 t235 t236 t236 t211 t212 t213 t214 t215 t216 t217 t218 t219 t220 t223 t224 t225 t226 t227) else (laws_FnEntryLess.j1 kj2 t235 t236 false t211 t212 t213 t214 t215 t216 t217 t218 t219 t220 t223 t224 t225 t226 t227))) = some r := H
            have A43 := Aside0.mk A430
            clear A430
            by_cases c44 : (t236 != t238) = true
            · rw [if_pos c44] at H
              have c44b0 : (t236 != t238) = true := c44
              (try (have c44b1 : decide (t236 = t238) = false := by (have h_ := c44; (try simp at h_); (try simp); (try exact h_))))
              (try (have c44b2 : (t236 == t238) = false := by (have h_ := c44; (try simp at h_); (try simp); (try exact h_))))
              (try (have c44b3 : ¬ (t236 = t238) := by (have h_ := c44; (try simp at h_); (try simp); (try exact h_))))
              clear c44
              have H' := Aside0.mk H
              clear H
              have hnb45 := NB221_222.out
              have hnc45 := NB222_221.out
              have hnb46 := NB221_233.out
              have hnc46 := NB233_221.out
              have hnb47 := NB221_234.out
              have hnc47 := NB234_221.out
              have hcz48_0 : w32.cell? ⟨gb221, 0, none⟩ = some (.string t211) := (blk_cell BK221.out 0).trans rfl
              have hcz48_1 : w32.cell? ⟨gb221, 1, none⟩ = some (.int .i64 t212) := (blk_cell BK221.out 1).trans rfl
              have hcz48_2 : w32.cell? ⟨gb221, 2, none⟩ = some (.int .i64 t213) := (blk_cell BK221.out 2).trans rfl
              have hcz48_3 : w32.cell? ⟨gb221, 3, none⟩ = some (.string t214) := (blk_cell BK221.out 3).trans rfl
              have hcz48_4 : w32.cell? ⟨gb221, 4, none⟩ = some (.int .i64 t215) := (blk_cell BK221.out 4).trans rfl
              have hfz48_0 := blk_frozen BK221.out 0
              have hfz48_1 := blk_frozen BK221.out 1
              have hfz48_2 := blk_frozen BK221.out 2
              have hfz48_3 := blk_frozen BK221.out 3
              have hfz48_4 := blk_frozen BK221.out 4
              have hnb49 := NB222_233.out
              have hnc49 := NB233_222.out
              have hnb50 := NB222_234.out
              have hnc50 := NB234_222.out
              have hcz51_0 : w32.cell? ⟨gb222, 0, none⟩ = some (.string t216) := (blk_cell BK222.out 0).trans rfl
              have hcz51_1 : w32.cell? ⟨gb222, 1, none⟩ = some (.int .i64 t217) := (blk_cell BK222.out 1).trans rfl
              have hcz51_2 : w32.cell? ⟨gb222, 2, none⟩ = some (.int .i64 t218) := (blk_cell BK222.out 2).trans rfl
              have hcz51_3 : w32.cell? ⟨gb222, 3, none⟩ = some (.string t219) := (blk_cell BK222.out 3).trans rfl
              have hcz51_4 : w32.cell? ⟨gb222, 4, none⟩ = some (.int .i64 t220) := (blk_cell BK222.out 4).trans rfl
              have hfz51_0 := blk_frozen BK222.out 0
              have hfz51_1 := blk_frozen BK222.out 1
              have hfz51_2 := blk_frozen BK222.out 2
              have hfz51_3 := blk_frozen BK222.out 3
              have hfz51_4 := blk_frozen BK222.out 4
              go_wp2_with (first | ((with_reducible refine gate_callee (f := 20) rfl ?_); refine goesL_ (some 38) rfl rfl Try.func20 (by kernel_rfl) rfl #[.agg #[.string t211, .int .i64 t212, .int .i64 t213, .string t214, .int .i64 t215], .agg #[.string t216, .int .i64 t217, .int .i64 t218, .string t219, .int .i64 t220]] rfl (by (try simp only [List.map_toArray, List.map_cons, List.map_nil]); first | done | rfl | (simp only [List.length_drop, List.length_take]; rfl)) ?_; (with_reducible refine (spec_EntryLess.calls t211 t212 t213 t214 t215 t216 t217 t218 t219 t220 t237 _ A33.out).mono ?_); rintro e w52 ⟨rfl, hb⟩; refine ⟨_, rfl, ?_⟩; have n0_ := Aside0.mk (blk_below (g := gb221) (o := .cells #[.string t211, .int .i64 t212, .int .i64 t213, .string t214, .int .i64 t215] 28 (0, 0)) (by (with_reducible repeat (first | refine blk_drewN ?_ _ | refine blk_drew ?_ | refine blk_alloc ?_ _)); exact BK221.out) hb); have n1_ := Aside0.mk (blk_below (g := gb222) (o := .cells #[.string t216, .int .i64 t217, .int .i64 t218, .string t219, .int .i64 t220] 28 (0, 0)) (by (with_reducible repeat (first | refine blk_drewN ?_ _ | refine blk_drew ?_ | refine blk_alloc ?_ _)); exact BK222.out) hb); have n2_ := Aside0.mk (blk_below (g := gb233) (o := .cells #[.string t223, .int .i64 t224, .int .i64 t225, .string t226, .int .i64 t227] 28 (0, 0)) (by (with_reducible repeat (first | refine blk_drewN ?_ _ | refine blk_drew ?_ | refine blk_alloc ?_ _)); exact BK233.out) hb); have n3_ := Aside0.mk (blk_below (g := gb234) (o := .cells #[.string t228, .int .i64 t229, .int .i64 t230, .string t231, .int .i64 t232] 28 (0, 0)) (by (with_reducible repeat (first | refine blk_drewN ?_ _ | refine blk_drew ?_ | refine blk_alloc ?_ _)); exact BK234.out) hb); have n4_ := Aside0.mk (below_step (by repeat (first | (with_reducible first | exact HB.out | apply below_alloc | apply pw_below_drewN | apply below_drew1 | refine below_set ?_ GE221.out | refine below_set ?_ GE222.out | refine below_set ?_ GE233.out | refine below_set ?_ GE234.out) | exact HB.out)) hb); clear BK221; clear BK222; clear BK233; clear BK234; clear HB; have BK221 := n0_; have BK222 := n1_; have BK233 := n2_; have BK234 := n3_; have HB := n4_; clear n0_ n1_ n2_ n3_ n4_; (try clear hb); (try clear hb2); (try clear hk); (try clear hi); have hcz53_0 : w52.cell? ⟨gb222, 0, none⟩ = some (.string t216) := (blk_cell BK222.out 0).trans rfl; have hcz53_1 : w52.cell? ⟨gb222, 1, none⟩ = some (.int .i64 t217) := (blk_cell BK222.out 1).trans rfl; have hcz53_2 : w52.cell? ⟨gb222, 2, none⟩ = some (.int .i64 t218) := (blk_cell BK222.out 2).trans rfl; have hcz53_3 : w52.cell? ⟨gb222, 3, none⟩ = some (.string t219) := (blk_cell BK222.out 3).trans rfl; have hcz53_4 : w52.cell? ⟨gb222, 4, none⟩ = some (.int .i64 t220) := (blk_cell BK222.out 4).trans rfl; have hfz53_0 := blk_frozen BK222.out 0; have hfz53_1 := blk_frozen BK222.out 1; have hfz53_2 := blk_frozen BK222.out 2; have hfz53_3 := blk_frozen BK222.out 3; have hfz53_4 := blk_frozen BK222.out 4; have hcz54_0 : w52.cell? ⟨gb221, 0, none⟩ = some (.string t211) := (blk_cell BK221.out 0).trans rfl; have hcz54_1 : w52.cell? ⟨gb221, 1, none⟩ = some (.int .i64 t212) := (blk_cell BK221.out 1).trans rfl; have hcz54_2 : w52.cell? ⟨gb221, 2, none⟩ = some (.int .i64 t213) := (blk_cell BK221.out 2).trans rfl; have hcz54_3 : w52.cell? ⟨gb221, 3, none⟩ = some (.string t214) := (blk_cell BK221.out 3).trans rfl; have hcz54_4 : w52.cell? ⟨gb221, 4, none⟩ = some (.int .i64 t215) := (blk_cell BK221.out 4).trans rfl; have hfz54_0 := blk_frozen BK221.out 0; have hfz54_1 := blk_frozen BK221.out 1; have hfz54_2 := blk_frozen BK221.out 2; have hfz54_3 := blk_frozen BK221.out 3; have hfz54_4 := blk_frozen BK221.out 4) | (go_at_call 20; (with_reducible refine (spec_EntryLess.calls t216 t217 t218 t219 t220 t211 t212 t213 t214 t215 t238 _ A43.out).mono ?_); rintro e w55 ⟨rfl, hb⟩; have n0_ := Aside0.mk (blk_below (g := gb221) (o := .cells #[.string t211, .int .i64 t212, .int .i64 t213, .string t214, .int .i64 t215] 28 (0, 0)) (by (with_reducible repeat (first | refine blk_drewN ?_ _ | refine blk_drew ?_ | refine blk_alloc ?_ _)); exact BK221.out) hb); have n1_ := Aside0.mk (blk_below (g := gb222) (o := .cells #[.string t216, .int .i64 t217, .int .i64 t218, .string t219, .int .i64 t220] 28 (0, 0)) (by (with_reducible repeat (first | refine blk_drewN ?_ _ | refine blk_drew ?_ | refine blk_alloc ?_ _)); exact BK222.out) hb); have n2_ := Aside0.mk (blk_below (g := gb233) (o := .cells #[.string t223, .int .i64 t224, .int .i64 t225, .string t226, .int .i64 t227] 28 (0, 0)) (by (with_reducible repeat (first | refine blk_drewN ?_ _ | refine blk_drew ?_ | refine blk_alloc ?_ _)); exact BK233.out) hb); have n3_ := Aside0.mk (blk_below (g := gb234) (o := .cells #[.string t228, .int .i64 t229, .int .i64 t230, .string t231, .int .i64 t232] 28 (0, 0)) (by (with_reducible repeat (first | refine blk_drewN ?_ _ | refine blk_drew ?_ | refine blk_alloc ?_ _)); exact BK234.out) hb); have n4_ := Aside0.mk (below_step (by repeat (first | (with_reducible first | exact HB.out | apply below_alloc | apply pw_below_drewN | apply below_drew1 | refine below_set ?_ GE221.out | refine below_set ?_ GE222.out | refine below_set ?_ GE233.out | refine below_set ?_ GE234.out) | exact HB.out)) hb); clear BK221; clear BK222; clear BK233; clear BK234; clear HB; have BK221 := n0_; have BK222 := n1_; have BK233 := n2_; have BK234 := n3_; have HB := n4_; clear n0_ n1_ n2_ n3_ n4_; (try clear hb); (try clear hb2); (try clear hk); (try clear hi)))
              go_meet
              case rel => exact ⟨_, (true), (by first | rfl | (simp; done) | (simp [*]; done)), H', ⟨by have := HJ2.out; first | omega | exact Nat.le_refl _⟩, ⟨by (with_reducible repeat (first | refine blk_drewN ?_ _ | refine blk_drew ?_ | refine blk_alloc ?_ _)); exact BK221.out⟩, ⟨by (with_reducible repeat (first | refine blk_drewN ?_ _ | refine blk_drew ?_ | refine blk_alloc ?_ _)); exact BK222.out⟩, ⟨by (with_reducible repeat (first | refine blk_drewN ?_ _ | refine blk_drew ?_ | refine blk_alloc ?_ _)); exact BK233.out⟩, ⟨by (with_reducible repeat (first | refine blk_drewN ?_ _ | refine blk_drew ?_ | refine blk_alloc ?_ _)); exact BK234.out⟩, ⟨by repeat (first | (with_reducible first | exact HB.out | apply below_alloc | apply pw_below_drewN | apply below_drew1 | refine below_set ?_ GE221.out | refine below_set ?_ GE222.out | refine below_set ?_ GE233.out | refine below_set ?_ GE234.out) | exact HB.out)⟩⟩
            · rw [if_neg c44] at H
              have c44b0 : (t236 != t238) = false := by (have h_ := c44; (try simp at h_); (try simp); (try exact h_))
              (try (have c44b1 : decide (t236 = t238) = true := by (have h_ := c44; (try simp at h_); (try simp); (try exact h_))))
              (try (have c44b2 : (t236 == t238) = true := by (have h_ := c44; (try simp at h_); (try simp); (try exact h_))))
              clear c44
              by_cases c56 : t235 = true
              · subst c56
                have H1 : (laws_FnEntryLess.j1 kj2 true t236 t236 t211 t212 t213 t214 t215 t216 t217 t218 t219 t220 t223 t224 t225 t226 t227) = some r := by rw [if_pos rfl] at H; exact H
                clear H
                have H := H1
                clear H1
                have H' := Aside0.mk H
                clear H
                have hnb57 := NB221_222.out
                have hnc57 := NB222_221.out
                have hnb58 := NB221_233.out
                have hnc58 := NB233_221.out
                have hnb59 := NB221_234.out
                have hnc59 := NB234_221.out
                have hcz60_0 : w32.cell? ⟨gb221, 0, none⟩ = some (.string t211) := (blk_cell BK221.out 0).trans rfl
                have hcz60_1 : w32.cell? ⟨gb221, 1, none⟩ = some (.int .i64 t212) := (blk_cell BK221.out 1).trans rfl
                have hcz60_2 : w32.cell? ⟨gb221, 2, none⟩ = some (.int .i64 t213) := (blk_cell BK221.out 2).trans rfl
                have hcz60_3 : w32.cell? ⟨gb221, 3, none⟩ = some (.string t214) := (blk_cell BK221.out 3).trans rfl
                have hcz60_4 : w32.cell? ⟨gb221, 4, none⟩ = some (.int .i64 t215) := (blk_cell BK221.out 4).trans rfl
                have hfz60_0 := blk_frozen BK221.out 0
                have hfz60_1 := blk_frozen BK221.out 1
                have hfz60_2 := blk_frozen BK221.out 2
                have hfz60_3 := blk_frozen BK221.out 3
                have hfz60_4 := blk_frozen BK221.out 4
                have hnb61 := NB222_233.out
                have hnc61 := NB233_222.out
                have hnb62 := NB222_234.out
                have hnc62 := NB234_222.out
                have hcz63_0 : w32.cell? ⟨gb222, 0, none⟩ = some (.string t216) := (blk_cell BK222.out 0).trans rfl
                have hcz63_1 : w32.cell? ⟨gb222, 1, none⟩ = some (.int .i64 t217) := (blk_cell BK222.out 1).trans rfl
                have hcz63_2 : w32.cell? ⟨gb222, 2, none⟩ = some (.int .i64 t218) := (blk_cell BK222.out 2).trans rfl
                have hcz63_3 : w32.cell? ⟨gb222, 3, none⟩ = some (.string t219) := (blk_cell BK222.out 3).trans rfl
                have hcz63_4 : w32.cell? ⟨gb222, 4, none⟩ = some (.int .i64 t220) := (blk_cell BK222.out 4).trans rfl
                have hfz63_0 := blk_frozen BK222.out 0
                have hfz63_1 := blk_frozen BK222.out 1
                have hfz63_2 := blk_frozen BK222.out 2
                have hfz63_3 := blk_frozen BK222.out 3
                have hfz63_4 := blk_frozen BK222.out 4
                go_wp2_with (first | ((with_reducible refine gate_callee (f := 20) rfl ?_); refine goesL_ (some 38) rfl rfl Try.func20 (by kernel_rfl) rfl #[.agg #[.string t211, .int .i64 t212, .int .i64 t213, .string t214, .int .i64 t215], .agg #[.string t216, .int .i64 t217, .int .i64 t218, .string t219, .int .i64 t220]] rfl (by (try simp only [List.map_toArray, List.map_cons, List.map_nil]); first | done | rfl | (simp only [List.length_drop, List.length_take]; rfl)) ?_; (with_reducible refine (spec_EntryLess.calls t211 t212 t213 t214 t215 t216 t217 t218 t219 t220 t237 _ A33.out).mono ?_); rintro e w64 ⟨rfl, hb⟩; refine ⟨_, rfl, ?_⟩; have n0_ := Aside0.mk (blk_below (g := gb221) (o := .cells #[.string t211, .int .i64 t212, .int .i64 t213, .string t214, .int .i64 t215] 28 (0, 0)) (by (with_reducible repeat (first | refine blk_drewN ?_ _ | refine blk_drew ?_ | refine blk_alloc ?_ _)); exact BK221.out) hb); have n1_ := Aside0.mk (blk_below (g := gb222) (o := .cells #[.string t216, .int .i64 t217, .int .i64 t218, .string t219, .int .i64 t220] 28 (0, 0)) (by (with_reducible repeat (first | refine blk_drewN ?_ _ | refine blk_drew ?_ | refine blk_alloc ?_ _)); exact BK222.out) hb); have n2_ := Aside0.mk (blk_below (g := gb233) (o := .cells #[.string t223, .int .i64 t224, .int .i64 t225, .string t226, .int .i64 t227] 28 (0, 0)) (by (with_reducible repeat (first | refine blk_drewN ?_ _ | refine blk_drew ?_ | refine blk_alloc ?_ _)); exact BK233.out) hb); have n3_ := Aside0.mk (blk_below (g := gb234) (o := .cells #[.string t228, .int .i64 t229, .int .i64 t230, .string t231, .int .i64 t232] 28 (0, 0)) (by (with_reducible repeat (first | refine blk_drewN ?_ _ | refine blk_drew ?_ | refine blk_alloc ?_ _)); exact BK234.out) hb); have n4_ := Aside0.mk (below_step (by repeat (first | (with_reducible first | exact HB.out | apply below_alloc | apply pw_below_drewN | apply below_drew1 | refine below_set ?_ GE221.out | refine below_set ?_ GE222.out | refine below_set ?_ GE233.out | refine below_set ?_ GE234.out) | exact HB.out)) hb); clear BK221; clear BK222; clear BK233; clear BK234; clear HB; have BK221 := n0_; have BK222 := n1_; have BK233 := n2_; have BK234 := n3_; have HB := n4_; clear n0_ n1_ n2_ n3_ n4_; (try clear hb); (try clear hb2); (try clear hk); (try clear hi); have hcz65_0 : w64.cell? ⟨gb222, 0, none⟩ = some (.string t216) := (blk_cell BK222.out 0).trans rfl; have hcz65_1 : w64.cell? ⟨gb222, 1, none⟩ = some (.int .i64 t217) := (blk_cell BK222.out 1).trans rfl; have hcz65_2 : w64.cell? ⟨gb222, 2, none⟩ = some (.int .i64 t218) := (blk_cell BK222.out 2).trans rfl; have hcz65_3 : w64.cell? ⟨gb222, 3, none⟩ = some (.string t219) := (blk_cell BK222.out 3).trans rfl; have hcz65_4 : w64.cell? ⟨gb222, 4, none⟩ = some (.int .i64 t220) := (blk_cell BK222.out 4).trans rfl; have hfz65_0 := blk_frozen BK222.out 0; have hfz65_1 := blk_frozen BK222.out 1; have hfz65_2 := blk_frozen BK222.out 2; have hfz65_3 := blk_frozen BK222.out 3; have hfz65_4 := blk_frozen BK222.out 4; have hcz66_0 : w64.cell? ⟨gb221, 0, none⟩ = some (.string t211) := (blk_cell BK221.out 0).trans rfl; have hcz66_1 : w64.cell? ⟨gb221, 1, none⟩ = some (.int .i64 t212) := (blk_cell BK221.out 1).trans rfl; have hcz66_2 : w64.cell? ⟨gb221, 2, none⟩ = some (.int .i64 t213) := (blk_cell BK221.out 2).trans rfl; have hcz66_3 : w64.cell? ⟨gb221, 3, none⟩ = some (.string t214) := (blk_cell BK221.out 3).trans rfl; have hcz66_4 : w64.cell? ⟨gb221, 4, none⟩ = some (.int .i64 t215) := (blk_cell BK221.out 4).trans rfl; have hfz66_0 := blk_frozen BK221.out 0; have hfz66_1 := blk_frozen BK221.out 1; have hfz66_2 := blk_frozen BK221.out 2; have hfz66_3 := blk_frozen BK221.out 3; have hfz66_4 := blk_frozen BK221.out 4) | (go_at_call 20; (with_reducible refine (spec_EntryLess.calls t216 t217 t218 t219 t220 t211 t212 t213 t214 t215 t238 _ A43.out).mono ?_); rintro e w67 ⟨rfl, hb⟩; have n0_ := Aside0.mk (blk_below (g := gb221) (o := .cells #[.string t211, .int .i64 t212, .int .i64 t213, .string t214, .int .i64 t215] 28 (0, 0)) (by (with_reducible repeat (first | refine blk_drewN ?_ _ | refine blk_drew ?_ | refine blk_alloc ?_ _)); exact BK221.out) hb); have n1_ := Aside0.mk (blk_below (g := gb222) (o := .cells #[.string t216, .int .i64 t217, .int .i64 t218, .string t219, .int .i64 t220] 28 (0, 0)) (by (with_reducible repeat (first | refine blk_drewN ?_ _ | refine blk_drew ?_ | refine blk_alloc ?_ _)); exact BK222.out) hb); have n2_ := Aside0.mk (blk_below (g := gb233) (o := .cells #[.string t223, .int .i64 t224, .int .i64 t225, .string t226, .int .i64 t227] 28 (0, 0)) (by (with_reducible repeat (first | refine blk_drewN ?_ _ | refine blk_drew ?_ | refine blk_alloc ?_ _)); exact BK233.out) hb); have n3_ := Aside0.mk (blk_below (g := gb234) (o := .cells #[.string t228, .int .i64 t229, .int .i64 t230, .string t231, .int .i64 t232] 28 (0, 0)) (by (with_reducible repeat (first | refine blk_drewN ?_ _ | refine blk_drew ?_ | refine blk_alloc ?_ _)); exact BK234.out) hb); have n4_ := Aside0.mk (below_step (by repeat (first | (with_reducible first | exact HB.out | apply below_alloc | apply pw_below_drewN | apply below_drew1 | refine below_set ?_ GE221.out | refine below_set ?_ GE222.out | refine below_set ?_ GE233.out | refine below_set ?_ GE234.out) | exact HB.out)) hb); clear BK221; clear BK222; clear BK233; clear BK234; clear HB; have BK221 := n0_; have BK222 := n1_; have BK233 := n2_; have BK234 := n3_; have HB := n4_; clear n0_ n1_ n2_ n3_ n4_; (try clear hb); (try clear hb2); (try clear hk); (try clear hi)))
                go_meet
                case rel => exact ⟨_, (t236), (by first | rfl | (simp; done) | (simp [*]; done)), H', ⟨by have := HJ2.out; first | omega | exact Nat.le_refl _⟩, ⟨by (with_reducible repeat (first | refine blk_drewN ?_ _ | refine blk_drew ?_ | refine blk_alloc ?_ _)); exact BK221.out⟩, ⟨by (with_reducible repeat (first | refine blk_drewN ?_ _ | refine blk_drew ?_ | refine blk_alloc ?_ _)); exact BK222.out⟩, ⟨by (with_reducible repeat (first | refine blk_drewN ?_ _ | refine blk_drew ?_ | refine blk_alloc ?_ _)); exact BK233.out⟩, ⟨by (with_reducible repeat (first | refine blk_drewN ?_ _ | refine blk_drew ?_ | refine blk_alloc ?_ _)); exact BK234.out⟩, ⟨by repeat (first | (with_reducible first | exact HB.out | apply below_alloc | apply pw_below_drewN | apply below_drew1 | refine below_set ?_ GE221.out | refine below_set ?_ GE222.out | refine below_set ?_ GE233.out | refine below_set ?_ GE234.out) | exact HB.out)⟩⟩
              · replace c56 := Bool.eq_false_iff.mpr c56
                subst c56
                have H1 : (laws_FnEntryLess.j1 kj2 false t236 false t211 t212 t213 t214 t215 t216 t217 t218 t219 t220 t223 t224 t225 t226 t227) = some r := by rw [if_neg (show ¬ (false = true) by decide)] at H; exact H
                clear H
                have H := H1
                clear H1
                have H' := Aside0.mk H
                clear H
                have hnb68 := NB221_222.out
                have hnc68 := NB222_221.out
                have hnb69 := NB221_233.out
                have hnc69 := NB233_221.out
                have hnb70 := NB221_234.out
                have hnc70 := NB234_221.out
                have hcz71_0 : w32.cell? ⟨gb221, 0, none⟩ = some (.string t211) := (blk_cell BK221.out 0).trans rfl
                have hcz71_1 : w32.cell? ⟨gb221, 1, none⟩ = some (.int .i64 t212) := (blk_cell BK221.out 1).trans rfl
                have hcz71_2 : w32.cell? ⟨gb221, 2, none⟩ = some (.int .i64 t213) := (blk_cell BK221.out 2).trans rfl
                have hcz71_3 : w32.cell? ⟨gb221, 3, none⟩ = some (.string t214) := (blk_cell BK221.out 3).trans rfl
                have hcz71_4 : w32.cell? ⟨gb221, 4, none⟩ = some (.int .i64 t215) := (blk_cell BK221.out 4).trans rfl
                have hfz71_0 := blk_frozen BK221.out 0
                have hfz71_1 := blk_frozen BK221.out 1
                have hfz71_2 := blk_frozen BK221.out 2
                have hfz71_3 := blk_frozen BK221.out 3
                have hfz71_4 := blk_frozen BK221.out 4
                have hnb72 := NB222_233.out
                have hnc72 := NB233_222.out
                have hnb73 := NB222_234.out
                have hnc73 := NB234_222.out
                have hcz74_0 : w32.cell? ⟨gb222, 0, none⟩ = some (.string t216) := (blk_cell BK222.out 0).trans rfl
                have hcz74_1 : w32.cell? ⟨gb222, 1, none⟩ = some (.int .i64 t217) := (blk_cell BK222.out 1).trans rfl
                have hcz74_2 : w32.cell? ⟨gb222, 2, none⟩ = some (.int .i64 t218) := (blk_cell BK222.out 2).trans rfl
                have hcz74_3 : w32.cell? ⟨gb222, 3, none⟩ = some (.string t219) := (blk_cell BK222.out 3).trans rfl
                have hcz74_4 : w32.cell? ⟨gb222, 4, none⟩ = some (.int .i64 t220) := (blk_cell BK222.out 4).trans rfl
                have hfz74_0 := blk_frozen BK222.out 0
                have hfz74_1 := blk_frozen BK222.out 1
                have hfz74_2 := blk_frozen BK222.out 2
                have hfz74_3 := blk_frozen BK222.out 3
                have hfz74_4 := blk_frozen BK222.out 4
                go_wp2_with (first | ((with_reducible refine gate_callee (f := 20) rfl ?_); refine goesL_ (some 38) rfl rfl Try.func20 (by kernel_rfl) rfl #[.agg #[.string t211, .int .i64 t212, .int .i64 t213, .string t214, .int .i64 t215], .agg #[.string t216, .int .i64 t217, .int .i64 t218, .string t219, .int .i64 t220]] rfl (by (try simp only [List.map_toArray, List.map_cons, List.map_nil]); first | done | rfl | (simp only [List.length_drop, List.length_take]; rfl)) ?_; (with_reducible refine (spec_EntryLess.calls t211 t212 t213 t214 t215 t216 t217 t218 t219 t220 t237 _ A33.out).mono ?_); rintro e w75 ⟨rfl, hb⟩; refine ⟨_, rfl, ?_⟩; have n0_ := Aside0.mk (blk_below (g := gb221) (o := .cells #[.string t211, .int .i64 t212, .int .i64 t213, .string t214, .int .i64 t215] 28 (0, 0)) (by (with_reducible repeat (first | refine blk_drewN ?_ _ | refine blk_drew ?_ | refine blk_alloc ?_ _)); exact BK221.out) hb); have n1_ := Aside0.mk (blk_below (g := gb222) (o := .cells #[.string t216, .int .i64 t217, .int .i64 t218, .string t219, .int .i64 t220] 28 (0, 0)) (by (with_reducible repeat (first | refine blk_drewN ?_ _ | refine blk_drew ?_ | refine blk_alloc ?_ _)); exact BK222.out) hb); have n2_ := Aside0.mk (blk_below (g := gb233) (o := .cells #[.string t223, .int .i64 t224, .int .i64 t225, .string t226, .int .i64 t227] 28 (0, 0)) (by (with_reducible repeat (first | refine blk_drewN ?_ _ | refine blk_drew ?_ | refine blk_alloc ?_ _)); exact BK233.out) hb); have n3_ := Aside0.mk (blk_below (g := gb234) (o := .cells #[.string t228, .int .i64 t229, .int .i64 t230, .string t231, .int .i64 t232] 28 (0, 0)) (by (with_reducible repeat (first | refine blk_drewN ?_ _ | refine blk_drew ?_ | refine blk_alloc ?_ _)); exact BK234.out) hb); have n4_ := Aside0.mk (below_step (by repeat (first | (with_reducible first | exact HB.out | apply below_alloc | apply pw_below_drewN | apply below_drew1 | refine below_set ?_ GE221.out | refine below_set ?_ GE222.out | refine below_set ?_ GE233.out | refine below_set ?_ GE234.out) | exact HB.out)) hb); clear BK221; clear BK222; clear BK233; clear BK234; clear HB; have BK221 := n0_; have BK222 := n1_; have BK233 := n2_; have BK234 := n3_; have HB := n4_; clear n0_ n1_ n2_ n3_ n4_; (try clear hb); (try clear hb2); (try clear hk); (try clear hi); have hcz76_0 : w75.cell? ⟨gb222, 0, none⟩ = some (.string t216) := (blk_cell BK222.out 0).trans rfl; have hcz76_1 : w75.cell? ⟨gb222, 1, none⟩ = some (.int .i64 t217) := (blk_cell BK222.out 1).trans rfl; have hcz76_2 : w75.cell? ⟨gb222, 2, none⟩ = some (.int .i64 t218) := (blk_cell BK222.out 2).trans rfl; have hcz76_3 : w75.cell? ⟨gb222, 3, none⟩ = some (.string t219) := (blk_cell BK222.out 3).trans rfl; have hcz76_4 : w75.cell? ⟨gb222, 4, none⟩ = some (.int .i64 t220) := (blk_cell BK222.out 4).trans rfl; have hfz76_0 := blk_frozen BK222.out 0; have hfz76_1 := blk_frozen BK222.out 1; have hfz76_2 := blk_frozen BK222.out 2; have hfz76_3 := blk_frozen BK222.out 3; have hfz76_4 := blk_frozen BK222.out 4; have hcz77_0 : w75.cell? ⟨gb221, 0, none⟩ = some (.string t211) := (blk_cell BK221.out 0).trans rfl; have hcz77_1 : w75.cell? ⟨gb221, 1, none⟩ = some (.int .i64 t212) := (blk_cell BK221.out 1).trans rfl; have hcz77_2 : w75.cell? ⟨gb221, 2, none⟩ = some (.int .i64 t213) := (blk_cell BK221.out 2).trans rfl; have hcz77_3 : w75.cell? ⟨gb221, 3, none⟩ = some (.string t214) := (blk_cell BK221.out 3).trans rfl; have hcz77_4 : w75.cell? ⟨gb221, 4, none⟩ = some (.int .i64 t215) := (blk_cell BK221.out 4).trans rfl; have hfz77_0 := blk_frozen BK221.out 0; have hfz77_1 := blk_frozen BK221.out 1; have hfz77_2 := blk_frozen BK221.out 2; have hfz77_3 := blk_frozen BK221.out 3; have hfz77_4 := blk_frozen BK221.out 4) | (go_at_call 20; (with_reducible refine (spec_EntryLess.calls t216 t217 t218 t219 t220 t211 t212 t213 t214 t215 t238 _ A43.out).mono ?_); rintro e w78 ⟨rfl, hb⟩; have n0_ := Aside0.mk (blk_below (g := gb221) (o := .cells #[.string t211, .int .i64 t212, .int .i64 t213, .string t214, .int .i64 t215] 28 (0, 0)) (by (with_reducible repeat (first | refine blk_drewN ?_ _ | refine blk_drew ?_ | refine blk_alloc ?_ _)); exact BK221.out) hb); have n1_ := Aside0.mk (blk_below (g := gb222) (o := .cells #[.string t216, .int .i64 t217, .int .i64 t218, .string t219, .int .i64 t220] 28 (0, 0)) (by (with_reducible repeat (first | refine blk_drewN ?_ _ | refine blk_drew ?_ | refine blk_alloc ?_ _)); exact BK222.out) hb); have n2_ := Aside0.mk (blk_below (g := gb233) (o := .cells #[.string t223, .int .i64 t224, .int .i64 t225, .string t226, .int .i64 t227] 28 (0, 0)) (by (with_reducible repeat (first | refine blk_drewN ?_ _ | refine blk_drew ?_ | refine blk_alloc ?_ _)); exact BK233.out) hb); have n3_ := Aside0.mk (blk_below (g := gb234) (o := .cells #[.string t228, .int .i64 t229, .int .i64 t230, .string t231, .int .i64 t232] 28 (0, 0)) (by (with_reducible repeat (first | refine blk_drewN ?_ _ | refine blk_drew ?_ | refine blk_alloc ?_ _)); exact BK234.out) hb); have n4_ := Aside0.mk (below_step (by repeat (first | (with_reducible first | exact HB.out | apply below_alloc | apply pw_below_drewN | apply below_drew1 | refine below_set ?_ GE221.out | refine below_set ?_ GE222.out | refine below_set ?_ GE233.out | refine below_set ?_ GE234.out) | exact HB.out)) hb); clear BK221; clear BK222; clear BK233; clear BK234; clear HB; have BK221 := n0_; have BK222 := n1_; have BK233 := n2_; have BK234 := n3_; have HB := n4_; clear n0_ n1_ n2_ n3_ n4_; (try clear hb); (try clear hb2); (try clear hk); (try clear hi)))
                go_meet
                case rel => exact ⟨_, (false), (by first | rfl | (simp; done) | (simp [*]; done)), H', ⟨by have := HJ2.out; first | omega | exact Nat.le_refl _⟩, ⟨by (with_reducible repeat (first | refine blk_drewN ?_ _ | refine blk_drew ?_ | refine blk_alloc ?_ _)); exact BK221.out⟩, ⟨by (with_reducible repeat (first | refine blk_drewN ?_ _ | refine blk_drew ?_ | refine blk_alloc ?_ _)); exact BK222.out⟩, ⟨by (with_reducible repeat (first | refine blk_drewN ?_ _ | refine blk_drew ?_ | refine blk_alloc ?_ _)); exact BK233.out⟩, ⟨by (with_reducible repeat (first | refine blk_drewN ?_ _ | refine blk_drew ?_ | refine blk_alloc ?_ _)); exact BK234.out⟩, ⟨by repeat (first | (with_reducible first | exact HB.out | apply below_alloc | apply pw_below_drewN | apply below_drew1 | refine below_set ?_ GE221.out | refine below_set ?_ GE222.out | refine below_set ?_ GE233.out | refine below_set ?_ GE234.out) | exact HB.out)⟩⟩
        case rest =>
          clear HC10
          try clear c1
          try clear c2
          try clear p2
          try clear c3
          try clear c4
          try clear c4b0
          try clear c4b1
          try clear c5
          try clear c6
          try clear c7
          try clear c11
          try clear c14
          try clear c20
          try clear c21
          try clear c22
          try clear c24
          try clear c25
          try clear c32
          try clear c34
          try clear c34b0
          try clear c34b1
          try clear c34b2
          try clear c35
          try clear c36
          try clear c37
          try clear c39
          try clear c40
          try clear c44
          try clear c44b0
          try clear c44b1
          try clear c44b2
          try clear c45
          try clear c46
          try clear c47
          try clear c49
          try clear c50
          try clear c56
          try clear c57
          try clear c58
          try clear c59
          try clear c61
          try clear c62
          try clear c68
          try clear c69
          try clear c70
          try clear c72
          try clear c73
          try clear hcz15_0
          try clear hcz15_1
          try clear hcz15_2
          try clear hcz15_3
          try clear hcz15_4
          try clear hcz16_0
          try clear hcz16_1
          try clear hcz16_2
          try clear hcz16_3
          try clear hcz16_4
          try clear hcz23_0
          try clear hcz23_1
          try clear hcz23_2
          try clear hcz23_3
          try clear hcz23_4
          try clear hcz26_0
          try clear hcz26_1
          try clear hcz26_2
          try clear hcz26_3
          try clear hcz26_4
          try clear hcz27_0
          try clear hcz27_1
          try clear hcz27_2
          try clear hcz27_3
          try clear hcz27_4
          try clear hcz28_0
          try clear hcz28_1
          try clear hcz28_2
          try clear hcz28_3
          try clear hcz28_4
          try clear hcz30_0
          try clear hcz30_1
          try clear hcz30_2
          try clear hcz30_3
          try clear hcz30_4
          try clear hcz31_0
          try clear hcz31_1
          try clear hcz31_2
          try clear hcz31_3
          try clear hcz31_4
          try clear hcz38_0
          try clear hcz38_1
          try clear hcz38_2
          try clear hcz38_3
          try clear hcz38_4
          try clear hcz41_0
          try clear hcz41_1
          try clear hcz41_2
          try clear hcz41_3
          try clear hcz41_4
          try clear hcz48_0
          try clear hcz48_1
          try clear hcz48_2
          try clear hcz48_3
          try clear hcz48_4
          try clear hcz51_0
          try clear hcz51_1
          try clear hcz51_2
          try clear hcz51_3
          try clear hcz51_4
          try clear hcz53_0
          try clear hcz53_1
          try clear hcz53_2
          try clear hcz53_3
          try clear hcz53_4
          try clear hcz54_0
          try clear hcz54_1
          try clear hcz54_2
          try clear hcz54_3
          try clear hcz54_4
          try clear hcz60_0
          try clear hcz60_1
          try clear hcz60_2
          try clear hcz60_3
          try clear hcz60_4
          try clear hcz63_0
          try clear hcz63_1
          try clear hcz63_2
          try clear hcz63_3
          try clear hcz63_4
          try clear hcz65_0
          try clear hcz65_1
          try clear hcz65_2
          try clear hcz65_3
          try clear hcz65_4
          try clear hcz66_0
          try clear hcz66_1
          try clear hcz66_2
          try clear hcz66_3
          try clear hcz66_4
          try clear hcz71_0
          try clear hcz71_1
          try clear hcz71_2
          try clear hcz71_3
          try clear hcz71_4
          try clear hcz74_0
          try clear hcz74_1
          try clear hcz74_2
          try clear hcz74_3
          try clear hcz74_4
          try clear hcz76_0
          try clear hcz76_1
          try clear hcz76_2
          try clear hcz76_3
          try clear hcz76_4
          try clear hcz77_0
          try clear hcz77_1
          try clear hcz77_2
          try clear hcz77_3
          try clear hcz77_4
          try clear hfz15_0
          try clear hfz15_1
          try clear hfz15_2
          try clear hfz15_3
          try clear hfz15_4
          try clear hfz16_0
          try clear hfz16_1
          try clear hfz16_2
          try clear hfz16_3
          try clear hfz16_4
          try clear hfz23_0
          try clear hfz23_1
          try clear hfz23_2
          try clear hfz23_3
          try clear hfz23_4
          try clear hfz26_0
          try clear hfz26_1
          try clear hfz26_2
          try clear hfz26_3
          try clear hfz26_4
          try clear hfz27_0
          try clear hfz27_1
          try clear hfz27_2
          try clear hfz27_3
          try clear hfz27_4
          try clear hfz28_0
          try clear hfz28_1
          try clear hfz28_2
          try clear hfz28_3
          try clear hfz28_4
          try clear hfz30_0
          try clear hfz30_1
          try clear hfz30_2
          try clear hfz30_3
          try clear hfz30_4
          try clear hfz31_0
          try clear hfz31_1
          try clear hfz31_2
          try clear hfz31_3
          try clear hfz31_4
          try clear hfz38_0
          try clear hfz38_1
          try clear hfz38_2
          try clear hfz38_3
          try clear hfz38_4
          try clear hfz41_0
          try clear hfz41_1
          try clear hfz41_2
          try clear hfz41_3
          try clear hfz41_4
          try clear hfz48_0
          try clear hfz48_1
          try clear hfz48_2
          try clear hfz48_3
          try clear hfz48_4
          try clear hfz51_0
          try clear hfz51_1
          try clear hfz51_2
          try clear hfz51_3
          try clear hfz51_4
          try clear hfz53_0
          try clear hfz53_1
          try clear hfz53_2
          try clear hfz53_3
          try clear hfz53_4
          try clear hfz54_0
          try clear hfz54_1
          try clear hfz54_2
          try clear hfz54_3
          try clear hfz54_4
          try clear hfz60_0
          try clear hfz60_1
          try clear hfz60_2
          try clear hfz60_3
          try clear hfz60_4
          try clear hfz63_0
          try clear hfz63_1
          try clear hfz63_2
          try clear hfz63_3
          try clear hfz63_4
          try clear hfz65_0
          try clear hfz65_1
          try clear hfz65_2
          try clear hfz65_3
          try clear hfz65_4
          try clear hfz66_0
          try clear hfz66_1
          try clear hfz66_2
          try clear hfz66_3
          try clear hfz66_4
          try clear hfz71_0
          try clear hfz71_1
          try clear hfz71_2
          try clear hfz71_3
          try clear hfz71_4
          try clear hfz74_0
          try clear hfz74_1
          try clear hfz74_2
          try clear hfz74_3
          try clear hfz74_4
          try clear hfz76_0
          try clear hfz76_1
          try clear hfz76_2
          try clear hfz76_3
          try clear hfz76_4
          try clear hfz77_0
          try clear hfz77_1
          try clear hfz77_2
          try clear hfz77_3
          try clear hfz77_4
          try clear p2
          obtain ⟨kq, x52_9, rfl, HA, HJ9, BK221, BK222, BK233, BK234, HB⟩ := hcut
          cases kq with
          | zero => exact absurd HA.out (by simp [laws_FnEntryLess.j1])
          | succ kj9 =>
            have H := HA.out
            clear HA
            simp only [laws_FnEntryLess.j1] at H
            by_cases c79 : x52_9 = true
            · subst c79
              have H1 : (none) = some r := by rw [if_pos rfl] at H; exact H
              clear H
              have H := H1
              clear H1
              exact absurd H (by simp)
            · replace c79 := Bool.eq_false_iff.mpr c79
              subst c79
              have H1 : (if t235 = true then ((impl_EntryLess.f t216 t217 t218 t219 t220 t223 t224 t225 t226 t227).bind fun t239 => (if t239 = true then ((impl_EntryLess.f t211 t212 t213 t214 t215 t223 t224 t225 t226 t227).bind fun t240 => (if t240 = true then (if t211.toList = t216.toList then (if (true == (t212 != t217)) = true then ((impl_EntryLess.f t211 t212 t213 t214 t215 t211 t212 t213 t214 t215).bind fun t241 => (some (!t241))) else (none)) else (if (true == true) = true then ((impl_EntryLess.f t211 t212 t213 t214 t215 t211 t212 t213 t214 t215).bind fun t242 => (some (!t242))) else (none))) else (none))) else (if t211.toList = t216.toList then (if (true == (t212 != t217)) = true then ((impl_EntryLess.f t211 t212 t213 t214 t215 t211 t212 t213 t214 t215).bind fun t243 => (some (!t243))) else (none)) else (if (true == true) = true then ((impl_EntryLess.f t211 t212 t213 t214 t215 t211 t212 t213 t214 t215).bind fun t244 => (some (!t244))) else (none))))) else (if t211.toList = t216.toList then (if (t236 == (t212 != t217)) = true then ((impl_EntryLess.f t211 t212 t213 t214 t215 t211 t212 t213 t214 t215).bind fun t245 => (some (!t245))) else (none)) else (if (t236 == true) = true then ((impl_EntryLess.f t211 t212 t213 t214 t215 t211 t212 t213 t214 t215).bind fun t246 => (some (!t246))) else (none)))) = some r := by rw [if_neg (show ¬ (false = true) by decide)] at H; exact H
              clear H
              have H := H1
              clear H1
              by_cases c80 : t235 = true
              · subst c80
                have H1 : ((impl_EntryLess.f t216 t217 t218 t219 t220 t223 t224 t225 t226 t227).bind fun t239 => (if t239 = true then ((impl_EntryLess.f t211 t212 t213 t214 t215 t223 t224 t225 t226 t227).bind fun t240 => (if t240 = true then (if t211.toList = t216.toList then (if (true == (t212 != t217)) = true then ((impl_EntryLess.f t211 t212 t213 t214 t215 t211 t212 t213 t214 t215).bind fun t241 => (some (!t241))) else (none)) else (if (true == true) = true then ((impl_EntryLess.f t211 t212 t213 t214 t215 t211 t212 t213 t214 t215).bind fun t242 => (some (!t242))) else (none))) else (none))) else (if t211.toList = t216.toList then (if (true == (t212 != t217)) = true then ((impl_EntryLess.f t211 t212 t213 t214 t215 t211 t212 t213 t214 t215).bind fun t243 => (some (!t243))) else (none)) else (if (true == true) = true then ((impl_EntryLess.f t211 t212 t213 t214 t215 t211 t212 t213 t214 t215).bind fun t244 => (some (!t244))) else (none))))) = some r := by rw [if_pos rfl] at H; exact H
                clear H
                have H := H1
                clear H1
                replace H := Option.bind_eq_some_iff.mp H
                obtain ⟨t239, A810, H⟩ := H
                replace H : (if t239 = true then ((impl_EntryLess.f t211 t212 t213 t214 t215 t223 t224 t225 t226 t227).bind fun t240 => (if t240 = true then (if t211.toList = t216.toList then (if (true == (t212 != t217)) = true then ((impl_EntryLess.f t211 t212 t213 t214 t215 t211 t212 t213 t214 t215).bind fun t241 => (some (!t241))) else (none)) else (if (true == true) = true then ((impl_EntryLess.f t211 t212 t213 t214 t215 t211 t212 t213 t214 t215).bind fun t242 => (some (!t242))) else (none))) else (none))) else (if t211.toList = t216.toList then (if (true == (t212 != t217)) = true then ((impl_EntryLess.f t211 t212 t213 t214 t215 t211 t212 t213 t214 t215).bind fun t243 => (some (!t243))) else (none)) else (if (true == true) = true then ((impl_EntryLess.f t211 t212 t213 t214 t215 t211 t212 t213 t214 t215).bind fun t244 => (some (!t244))) else (none)))) = some r := H
                have A81 := Aside0.mk A810
                clear A810
                by_cases c82 : t239 = true
                · subst c82
                  have H1 : ((impl_EntryLess.f t211 t212 t213 t214 t215 t223 t224 t225 t226 t227).bind fun t240 => (if t240 = true then (if t211.toList = t216.toList then (if (true == (t212 != t217)) = true then ((impl_EntryLess.f t211 t212 t213 t214 t215 t211 t212 t213 t214 t215).bind fun t241 => (some (!t241))) else (none)) else (if (true == true) = true then ((impl_EntryLess.f t211 t212 t213 t214 t215 t211 t212 t213 t214 t215).bind fun t242 => (some (!t242))) else (none))) else (none))) = some r := by rw [if_pos rfl] at H; exact H
                  clear H
                  have H := H1
                  clear H1
                  replace H := Option.bind_eq_some_iff.mp H
                  obtain ⟨t240, A830, H⟩ := H
                  replace H : (if t240 = true then (if t211.toList = t216.toList then (if (true == (t212 != t217)) = true then ((impl_EntryLess.f t211 t212 t213 t214 t215 t211 t212 t213 t214 t215).bind fun t241 => (some (!t241))) else (none)) else (if (true == true) = true then ((impl_EntryLess.f t211 t212 t213 t214 t215 t211 t212 t213 t214 t215).bind fun t242 => (some (!t242))) else (none))) else (none)) = some r := H
                  have A83 := Aside0.mk A830
                  clear A830
                  by_cases c84 : t240 = true
                  · subst c84
                    have H1 : (if t211.toList = t216.toList then (if (true == (t212 != t217)) = true then ((impl_EntryLess.f t211 t212 t213 t214 t215 t211 t212 t213 t214 t215).bind fun t241 => (some (!t241))) else (none)) else (if (true == true) = true then ((impl_EntryLess.f t211 t212 t213 t214 t215 t211 t212 t213 t214 t215).bind fun t242 => (some (!t242))) else (none))) = some r := by rw [if_pos rfl] at H; exact H
                    clear H
                    have H := H1
                    clear H1
                    by_cases c85 : t211.toList = t216.toList
                    · rw [if_pos c85] at H
                      have c85b0 : (t211.toList == t216.toList) = true := beq_iff_eq.mpr c85
                      have c85b1 : (t211.toList != t216.toList) = false := bne_eq_false_iff_eq.mpr c85
                      clear c85
                      by_cases c86 : (true == (t212 != t217)) = true
                      · rw [if_pos c86] at H
                        have c86b0 : (true == (t212 != t217)) = true := c86
                        (try (have c86b1 : decide (true = (t212 != t217)) = true := by (have h_ := c86; (try simp at h_); (try simp); (try exact h_))))
                        (try (have c86b2 : (true == (t212 != t217)) = true := by (have h_ := c86; (try simp at h_); (try simp); (try exact h_))))
                        clear c86
                        replace H := Option.bind_eq_some_iff.mp H
                        obtain ⟨t241, A870, H⟩ := H
                        replace H : (some (!t241)) = some r := H
                        have A87 := Aside0.mk A870
                        clear A870
                        obtain rfl := Option.some.inj H
                        have hnb88 := NB222_221.out
                        have hnc88 := NB221_222.out
                        have hnb89 := NB222_233.out
                        have hnc89 := NB233_222.out
                        have hnb90 := NB222_234.out
                        have hnc90 := NB234_222.out
                        have hcz91_0 : wc.cell? ⟨gb222, 0, none⟩ = some (.string t216) := (blk_cell BK222.out 0).trans rfl
                        have hcz91_1 : wc.cell? ⟨gb222, 1, none⟩ = some (.int .i64 t217) := (blk_cell BK222.out 1).trans rfl
                        have hcz91_2 : wc.cell? ⟨gb222, 2, none⟩ = some (.int .i64 t218) := (blk_cell BK222.out 2).trans rfl
                        have hcz91_3 : wc.cell? ⟨gb222, 3, none⟩ = some (.string t219) := (blk_cell BK222.out 3).trans rfl
                        have hcz91_4 : wc.cell? ⟨gb222, 4, none⟩ = some (.int .i64 t220) := (blk_cell BK222.out 4).trans rfl
                        have hfz91_0 := blk_frozen BK222.out 0
                        have hfz91_1 := blk_frozen BK222.out 1
                        have hfz91_2 := blk_frozen BK222.out 2
                        have hfz91_3 := blk_frozen BK222.out 3
                        have hfz91_4 := blk_frozen BK222.out 4
                        have hnb92 := NB233_221.out
                        have hnc92 := NB221_233.out
                        have hnb93 := NB233_234.out
                        have hnc93 := NB234_233.out
                        have hcz94_0 : wc.cell? ⟨gb233, 0, none⟩ = some (.string t223) := (blk_cell BK233.out 0).trans rfl
                        have hcz94_1 : wc.cell? ⟨gb233, 1, none⟩ = some (.int .i64 t224) := (blk_cell BK233.out 1).trans rfl
                        have hcz94_2 : wc.cell? ⟨gb233, 2, none⟩ = some (.int .i64 t225) := (blk_cell BK233.out 2).trans rfl
                        have hcz94_3 : wc.cell? ⟨gb233, 3, none⟩ = some (.string t226) := (blk_cell BK233.out 3).trans rfl
                        have hcz94_4 : wc.cell? ⟨gb233, 4, none⟩ = some (.int .i64 t227) := (blk_cell BK233.out 4).trans rfl
                        have hfz94_0 := blk_frozen BK233.out 0
                        have hfz94_1 := blk_frozen BK233.out 1
                        have hfz94_2 := blk_frozen BK233.out 2
                        have hfz94_3 := blk_frozen BK233.out 3
                        have hfz94_4 := blk_frozen BK233.out 4
                        go_wp2_with (first | (go_at_call 22; (with_reducible refine (impl_EntryLess.calls t216 t217 t218 t219 t220 t223 t224 t225 t226 t227 true _ A81.out).mono ?_); rintro e w95 ⟨rfl, hb⟩; have n0_ := Aside0.mk (blk_below (g := gb221) (o := .cells #[.string t211, .int .i64 t212, .int .i64 t213, .string t214, .int .i64 t215] 28 (0, 0)) (by (with_reducible repeat (first | refine blk_drewN ?_ _ | refine blk_drew ?_ | refine blk_alloc ?_ _)); exact BK221.out) hb); have n1_ := Aside0.mk (blk_below (g := gb222) (o := .cells #[.string t216, .int .i64 t217, .int .i64 t218, .string t219, .int .i64 t220] 28 (0, 0)) (by (with_reducible repeat (first | refine blk_drewN ?_ _ | refine blk_drew ?_ | refine blk_alloc ?_ _)); exact BK222.out) hb); have n2_ := Aside0.mk (blk_below (g := gb233) (o := .cells #[.string t223, .int .i64 t224, .int .i64 t225, .string t226, .int .i64 t227] 28 (0, 0)) (by (with_reducible repeat (first | refine blk_drewN ?_ _ | refine blk_drew ?_ | refine blk_alloc ?_ _)); exact BK233.out) hb); have n3_ := Aside0.mk (blk_below (g := gb234) (o := .cells #[.string t228, .int .i64 t229, .int .i64 t230, .string t231, .int .i64 t232] 28 (0, 0)) (by (with_reducible repeat (first | refine blk_drewN ?_ _ | refine blk_drew ?_ | refine blk_alloc ?_ _)); exact BK234.out) hb); have n4_ := Aside0.mk (below_step (by repeat (first | (with_reducible first | exact HB.out | apply below_alloc | apply pw_below_drewN | apply below_drew1 | refine below_set ?_ GE221.out | refine below_set ?_ GE222.out | refine below_set ?_ GE233.out | refine below_set ?_ GE234.out) | exact HB.out)) hb); clear BK221; clear BK222; clear BK233; clear BK234; clear HB; have BK221 := n0_; have BK222 := n1_; have BK233 := n2_; have BK234 := n3_; have HB := n4_; clear n0_ n1_ n2_ n3_ n4_; (try clear hb); (try clear hb2); (try clear hk); (try clear hi); have hnb96 := NB221_234.out; have hnc96 := NB234_221.out; have hcz97_0 : w95.cell? ⟨gb221, 0, none⟩ = some (.string t211) := (blk_cell BK221.out 0).trans rfl; have hcz97_1 : w95.cell? ⟨gb221, 1, none⟩ = some (.int .i64 t212) := (blk_cell BK221.out 1).trans rfl; have hcz97_2 : w95.cell? ⟨gb221, 2, none⟩ = some (.int .i64 t213) := (blk_cell BK221.out 2).trans rfl; have hcz97_3 : w95.cell? ⟨gb221, 3, none⟩ = some (.string t214) := (blk_cell BK221.out 3).trans rfl; have hcz97_4 : w95.cell? ⟨gb221, 4, none⟩ = some (.int .i64 t215) := (blk_cell BK221.out 4).trans rfl; have hfz97_0 := blk_frozen BK221.out 0; have hfz97_1 := blk_frozen BK221.out 1; have hfz97_2 := blk_frozen BK221.out 2; have hfz97_3 := blk_frozen BK221.out 3; have hfz97_4 := blk_frozen BK221.out 4; have hcz98_0 : w95.cell? ⟨gb233, 0, none⟩ = some (.string t223) := (blk_cell BK233.out 0).trans rfl; have hcz98_1 : w95.cell? ⟨gb233, 1, none⟩ = some (.int .i64 t224) := (blk_cell BK233.out 1).trans rfl; have hcz98_2 : w95.cell? ⟨gb233, 2, none⟩ = some (.int .i64 t225) := (blk_cell BK233.out 2).trans rfl; have hcz98_3 : w95.cell? ⟨gb233, 3, none⟩ = some (.string t226) := (blk_cell BK233.out 3).trans rfl; have hcz98_4 : w95.cell? ⟨gb233, 4, none⟩ = some (.int .i64 t227) := (blk_cell BK233.out 4).trans rfl; have hfz98_0 := blk_frozen BK233.out 0; have hfz98_1 := blk_frozen BK233.out 1; have hfz98_2 := blk_frozen BK233.out 2; have hfz98_3 := blk_frozen BK233.out 3; have hfz98_4 := blk_frozen BK233.out 4) | (go_at_call 22; (with_reducible refine (impl_EntryLess.calls t211 t212 t213 t214 t215 t223 t224 t225 t226 t227 true _ A83.out).mono ?_); rintro e w99 ⟨rfl, hb⟩; have n0_ := Aside0.mk (blk_below (g := gb221) (o := .cells #[.string t211, .int .i64 t212, .int .i64 t213, .string t214, .int .i64 t215] 28 (0, 0)) (by (with_reducible repeat (first | refine blk_drewN ?_ _ | refine blk_drew ?_ | refine blk_alloc ?_ _)); exact BK221.out) hb); have n1_ := Aside0.mk (blk_below (g := gb222) (o := .cells #[.string t216, .int .i64 t217, .int .i64 t218, .string t219, .int .i64 t220] 28 (0, 0)) (by (with_reducible repeat (first | refine blk_drewN ?_ _ | refine blk_drew ?_ | refine blk_alloc ?_ _)); exact BK222.out) hb); have n2_ := Aside0.mk (blk_below (g := gb233) (o := .cells #[.string t223, .int .i64 t224, .int .i64 t225, .string t226, .int .i64 t227] 28 (0, 0)) (by (with_reducible repeat (first | refine blk_drewN ?_ _ | refine blk_drew ?_ | refine blk_alloc ?_ _)); exact BK233.out) hb); have n3_ := Aside0.mk (blk_below (g := gb234) (o := .cells #[.string t228, .int .i64 t229, .int .i64 t230, .string t231, .int .i64 t232] 28 (0, 0)) (by (with_reducible repeat (first | refine blk_drewN ?_ _ | refine blk_drew ?_ | refine blk_alloc ?_ _)); exact BK234.out) hb); have n4_ := Aside0.mk (below_step (by repeat (first | (with_reducible first | exact HB.out | apply below_alloc | apply pw_below_drewN | apply below_drew1 | refine below_set ?_ GE221.out | refine below_set ?_ GE222.out | refine below_set ?_ GE233.out | refine below_set ?_ GE234.out) | exact HB.out)) hb); clear BK221; clear BK222; clear BK233; clear BK234; clear HB; have BK221 := n0_; have BK222 := n1_; have BK233 := n2_; have BK234 := n3_; have HB := n4_; clear n0_ n1_ n2_ n3_ n4_; (try clear hb); (try clear hb2); (try clear hk); (try clear hi); have hcz100_0 : w99.cell? ⟨gb221, 0, none⟩ = some (.string t211) := (blk_cell BK221.out 0).trans rfl; have hcz100_1 : w99.cell? ⟨gb221, 1, none⟩ = some (.int .i64 t212) := (blk_cell BK221.out 1).trans rfl; have hcz100_2 : w99.cell? ⟨gb221, 2, none⟩ = some (.int .i64 t213) := (blk_cell BK221.out 2).trans rfl; have hcz100_3 : w99.cell? ⟨gb221, 3, none⟩ = some (.string t214) := (blk_cell BK221.out 3).trans rfl; have hcz100_4 : w99.cell? ⟨gb221, 4, none⟩ = some (.int .i64 t215) := (blk_cell BK221.out 4).trans rfl; have hfz100_0 := blk_frozen BK221.out 0; have hfz100_1 := blk_frozen BK221.out 1; have hfz100_2 := blk_frozen BK221.out 2; have hfz100_3 := blk_frozen BK221.out 3; have hfz100_4 := blk_frozen BK221.out 4; have hcz101_0 : w99.cell? ⟨gb222, 0, none⟩ = some (.string t216) := (blk_cell BK222.out 0).trans rfl; have hcz101_1 : w99.cell? ⟨gb222, 1, none⟩ = some (.int .i64 t217) := (blk_cell BK222.out 1).trans rfl; have hcz101_2 : w99.cell? ⟨gb222, 2, none⟩ = some (.int .i64 t218) := (blk_cell BK222.out 2).trans rfl; have hcz101_3 : w99.cell? ⟨gb222, 3, none⟩ = some (.string t219) := (blk_cell BK222.out 3).trans rfl; have hcz101_4 : w99.cell? ⟨gb222, 4, none⟩ = some (.int .i64 t220) := (blk_cell BK222.out 4).trans rfl; have hfz101_0 := blk_frozen BK222.out 0; have hfz101_1 := blk_frozen BK222.out 1; have hfz101_2 := blk_frozen BK222.out 2; have hfz101_3 := blk_frozen BK222.out 3; have hfz101_4 := blk_frozen BK222.out 4) | (go_at_call 22; (with_reducible refine (impl_EntryLess.calls t211 t212 t213 t214 t215 t211 t212 t213 t214 t215 t241 _ A87.out).mono ?_); rintro e w102 ⟨rfl, hb⟩; have n0_ := Aside0.mk (blk_below (g := gb221) (o := .cells #[.string t211, .int .i64 t212, .int .i64 t213, .string t214, .int .i64 t215] 28 (0, 0)) (by (with_reducible repeat (first | refine blk_drewN ?_ _ | refine blk_drew ?_ | refine blk_alloc ?_ _)); exact BK221.out) hb); have n1_ := Aside0.mk (blk_below (g := gb222) (o := .cells #[.string t216, .int .i64 t217, .int .i64 t218, .string t219, .int .i64 t220] 28 (0, 0)) (by (with_reducible repeat (first | refine blk_drewN ?_ _ | refine blk_drew ?_ | refine blk_alloc ?_ _)); exact BK222.out) hb); have n2_ := Aside0.mk (blk_below (g := gb233) (o := .cells #[.string t223, .int .i64 t224, .int .i64 t225, .string t226, .int .i64 t227] 28 (0, 0)) (by (with_reducible repeat (first | refine blk_drewN ?_ _ | refine blk_drew ?_ | refine blk_alloc ?_ _)); exact BK233.out) hb); have n3_ := Aside0.mk (blk_below (g := gb234) (o := .cells #[.string t228, .int .i64 t229, .int .i64 t230, .string t231, .int .i64 t232] 28 (0, 0)) (by (with_reducible repeat (first | refine blk_drewN ?_ _ | refine blk_drew ?_ | refine blk_alloc ?_ _)); exact BK234.out) hb); have n4_ := Aside0.mk (below_step (by repeat (first | (with_reducible first | exact HB.out | apply below_alloc | apply pw_below_drewN | apply below_drew1 | refine below_set ?_ GE221.out | refine below_set ?_ GE222.out | refine below_set ?_ GE233.out | refine below_set ?_ GE234.out) | exact HB.out)) hb); clear BK221; clear BK222; clear BK233; clear BK234; clear HB; have BK221 := n0_; have BK222 := n1_; have BK233 := n2_; have BK234 := n3_; have HB := n4_; clear n0_ n1_ n2_ n3_ n4_; (try clear hb); (try clear hb2); (try clear hk); (try clear hi)))
                        go_ret
                        exact ⟨by first | rfl | (simp [errW_none, errW_some] <;> rfl) | (simp [*, errW_none, errW_some] <;> rfl), by repeat (first | (with_reducible first | exact HB.out | apply below_alloc | apply pw_below_drewN | apply below_drew1 | refine below_set ?_ GE221.out | refine below_set ?_ GE222.out | refine below_set ?_ GE233.out | refine below_set ?_ GE234.out) | exact HB.out)⟩
                      · rw [if_neg c86] at H
                        exact absurd H (by simp)
                    · rw [if_neg c85] at H
                      have c85b0 : (t211.toList == t216.toList) = false := beq_eq_false_iff_ne.mpr c85
                      have c85b1 : (t211.toList != t216.toList) = true := bne_iff_ne.mpr c85
                      by_cases c103 : (true == true) = true
                      · rw [if_pos c103] at H
                        have c103b0 : (true == true) = true := c103
                        (try (have c103b1 : decide (true = true) = true := by (have h_ := c103; (try simp at h_); (try simp); (try exact h_))))
                        (try (have c103b2 : (true == true) = true := by (have h_ := c103; (try simp at h_); (try simp); (try exact h_))))
                        clear c103
                        replace H := Option.bind_eq_some_iff.mp H
                        obtain ⟨t242, A1040, H⟩ := H
                        replace H : (some (!t242)) = some r := H
                        have A104 := Aside0.mk A1040
                        clear A1040
                        obtain rfl := Option.some.inj H
                        have hnb105 := NB222_221.out
                        have hnc105 := NB221_222.out
                        have hnb106 := NB222_233.out
                        have hnc106 := NB233_222.out
                        have hnb107 := NB222_234.out
                        have hnc107 := NB234_222.out
                        have hcz108_0 : wc.cell? ⟨gb222, 0, none⟩ = some (.string t216) := (blk_cell BK222.out 0).trans rfl
                        have hcz108_1 : wc.cell? ⟨gb222, 1, none⟩ = some (.int .i64 t217) := (blk_cell BK222.out 1).trans rfl
                        have hcz108_2 : wc.cell? ⟨gb222, 2, none⟩ = some (.int .i64 t218) := (blk_cell BK222.out 2).trans rfl
                        have hcz108_3 : wc.cell? ⟨gb222, 3, none⟩ = some (.string t219) := (blk_cell BK222.out 3).trans rfl
                        have hcz108_4 : wc.cell? ⟨gb222, 4, none⟩ = some (.int .i64 t220) := (blk_cell BK222.out 4).trans rfl
                        have hfz108_0 := blk_frozen BK222.out 0
                        have hfz108_1 := blk_frozen BK222.out 1
                        have hfz108_2 := blk_frozen BK222.out 2
                        have hfz108_3 := blk_frozen BK222.out 3
                        have hfz108_4 := blk_frozen BK222.out 4
                        have hnb109 := NB233_221.out
                        have hnc109 := NB221_233.out
                        have hnb110 := NB233_234.out
                        have hnc110 := NB234_233.out
                        have hcz111_0 : wc.cell? ⟨gb233, 0, none⟩ = some (.string t223) := (blk_cell BK233.out 0).trans rfl
                        have hcz111_1 : wc.cell? ⟨gb233, 1, none⟩ = some (.int .i64 t224) := (blk_cell BK233.out 1).trans rfl
                        have hcz111_2 : wc.cell? ⟨gb233, 2, none⟩ = some (.int .i64 t225) := (blk_cell BK233.out 2).trans rfl
                        have hcz111_3 : wc.cell? ⟨gb233, 3, none⟩ = some (.string t226) := (blk_cell BK233.out 3).trans rfl
                        have hcz111_4 : wc.cell? ⟨gb233, 4, none⟩ = some (.int .i64 t227) := (blk_cell BK233.out 4).trans rfl
                        have hfz111_0 := blk_frozen BK233.out 0
                        have hfz111_1 := blk_frozen BK233.out 1
                        have hfz111_2 := blk_frozen BK233.out 2
                        have hfz111_3 := blk_frozen BK233.out 3
                        have hfz111_4 := blk_frozen BK233.out 4
                        go_wp2_with (first | (go_at_call 22; (with_reducible refine (impl_EntryLess.calls t216 t217 t218 t219 t220 t223 t224 t225 t226 t227 true _ A81.out).mono ?_); rintro e w112 ⟨rfl, hb⟩; have n0_ := Aside0.mk (blk_below (g := gb221) (o := .cells #[.string t211, .int .i64 t212, .int .i64 t213, .string t214, .int .i64 t215] 28 (0, 0)) (by (with_reducible repeat (first | refine blk_drewN ?_ _ | refine blk_drew ?_ | refine blk_alloc ?_ _)); exact BK221.out) hb); have n1_ := Aside0.mk (blk_below (g := gb222) (o := .cells #[.string t216, .int .i64 t217, .int .i64 t218, .string t219, .int .i64 t220] 28 (0, 0)) (by (with_reducible repeat (first | refine blk_drewN ?_ _ | refine blk_drew ?_ | refine blk_alloc ?_ _)); exact BK222.out) hb); have n2_ := Aside0.mk (blk_below (g := gb233) (o := .cells #[.string t223, .int .i64 t224, .int .i64 t225, .string t226, .int .i64 t227] 28 (0, 0)) (by (with_reducible repeat (first | refine blk_drewN ?_ _ | refine blk_drew ?_ | refine blk_alloc ?_ _)); exact BK233.out) hb); have n3_ := Aside0.mk (blk_below (g := gb234) (o := .cells #[.string t228, .int .i64 t229, .int .i64 t230, .string t231, .int .i64 t232] 28 (0, 0)) (by (with_reducible repeat (first | refine blk_drewN ?_ _ | refine blk_drew ?_ | refine blk_alloc ?_ _)); exact BK234.out) hb); have n4_ := Aside0.mk (below_step (by repeat (first | (with_reducible first | exact HB.out | apply below_alloc | apply pw_below_drewN | apply below_drew1 | refine below_set ?_ GE221.out | refine below_set ?_ GE222.out | refine below_set ?_ GE233.out | refine below_set ?_ GE234.out) | exact HB.out)) hb); clear BK221; clear BK222; clear BK233; clear BK234; clear HB; have BK221 := n0_; have BK222 := n1_; have BK233 := n2_; have BK234 := n3_; have HB := n4_; clear n0_ n1_ n2_ n3_ n4_; (try clear hb); (try clear hb2); (try clear hk); (try clear hi); have hnb113 := NB221_234.out; have hnc113 := NB234_221.out; have hcz114_0 : w112.cell? ⟨gb221, 0, none⟩ = some (.string t211) := (blk_cell BK221.out 0).trans rfl; have hcz114_1 : w112.cell? ⟨gb221, 1, none⟩ = some (.int .i64 t212) := (blk_cell BK221.out 1).trans rfl; have hcz114_2 : w112.cell? ⟨gb221, 2, none⟩ = some (.int .i64 t213) := (blk_cell BK221.out 2).trans rfl; have hcz114_3 : w112.cell? ⟨gb221, 3, none⟩ = some (.string t214) := (blk_cell BK221.out 3).trans rfl; have hcz114_4 : w112.cell? ⟨gb221, 4, none⟩ = some (.int .i64 t215) := (blk_cell BK221.out 4).trans rfl; have hfz114_0 := blk_frozen BK221.out 0; have hfz114_1 := blk_frozen BK221.out 1; have hfz114_2 := blk_frozen BK221.out 2; have hfz114_3 := blk_frozen BK221.out 3; have hfz114_4 := blk_frozen BK221.out 4; have hcz115_0 : w112.cell? ⟨gb233, 0, none⟩ = some (.string t223) := (blk_cell BK233.out 0).trans rfl; have hcz115_1 : w112.cell? ⟨gb233, 1, none⟩ = some (.int .i64 t224) := (blk_cell BK233.out 1).trans rfl; have hcz115_2 : w112.cell? ⟨gb233, 2, none⟩ = some (.int .i64 t225) := (blk_cell BK233.out 2).trans rfl; have hcz115_3 : w112.cell? ⟨gb233, 3, none⟩ = some (.string t226) := (blk_cell BK233.out 3).trans rfl; have hcz115_4 : w112.cell? ⟨gb233, 4, none⟩ = some (.int .i64 t227) := (blk_cell BK233.out 4).trans rfl; have hfz115_0 := blk_frozen BK233.out 0; have hfz115_1 := blk_frozen BK233.out 1; have hfz115_2 := blk_frozen BK233.out 2; have hfz115_3 := blk_frozen BK233.out 3; have hfz115_4 := blk_frozen BK233.out 4) | (go_at_call 22; (with_reducible refine (impl_EntryLess.calls t211 t212 t213 t214 t215 t223 t224 t225 t226 t227 true _ A83.out).mono ?_); rintro e w116 ⟨rfl, hb⟩; have n0_ := Aside0.mk (blk_below (g := gb221) (o := .cells #[.string t211, .int .i64 t212, .int .i64 t213, .string t214, .int .i64 t215] 28 (0, 0)) (by (with_reducible repeat (first | refine blk_drewN ?_ _ | refine blk_drew ?_ | refine blk_alloc ?_ _)); exact BK221.out) hb); have n1_ := Aside0.mk (blk_below (g := gb222) (o := .cells #[.string t216, .int .i64 t217, .int .i64 t218, .string t219, .int .i64 t220] 28 (0, 0)) (by (with_reducible repeat (first | refine blk_drewN ?_ _ | refine blk_drew ?_ | refine blk_alloc ?_ _)); exact BK222.out) hb); have n2_ := Aside0.mk (blk_below (g := gb233) (o := .cells #[.string t223, .int .i64 t224, .int .i64 t225, .string t226, .int .i64 t227] 28 (0, 0)) (by (with_reducible repeat (first | refine blk_drewN ?_ _ | refine blk_drew ?_ | refine blk_alloc ?_ _)); exact BK233.out) hb); have n3_ := Aside0.mk (blk_below (g := gb234) (o := .cells #[.string t228, .int .i64 t229, .int .i64 t230, .string t231, .int .i64 t232] 28 (0, 0)) (by (with_reducible repeat (first | refine blk_drewN ?_ _ | refine blk_drew ?_ | refine blk_alloc ?_ _)); exact BK234.out) hb); have n4_ := Aside0.mk (below_step (by repeat (first | (with_reducible first | exact HB.out | apply below_alloc | apply pw_below_drewN | apply below_drew1 | refine below_set ?_ GE221.out | refine below_set ?_ GE222.out | refine below_set ?_ GE233.out | refine below_set ?_ GE234.out) | exact HB.out)) hb); clear BK221; clear BK222; clear BK233; clear BK234; clear HB; have BK221 := n0_; have BK222 := n1_; have BK233 := n2_; have BK234 := n3_; have HB := n4_; clear n0_ n1_ n2_ n3_ n4_; (try clear hb); (try clear hb2); (try clear hk); (try clear hi); have hcz117_0 : w116.cell? ⟨gb221, 0, none⟩ = some (.string t211) := (blk_cell BK221.out 0).trans rfl; have hcz117_1 : w116.cell? ⟨gb221, 1, none⟩ = some (.int .i64 t212) := (blk_cell BK221.out 1).trans rfl; have hcz117_2 : w116.cell? ⟨gb221, 2, none⟩ = some (.int .i64 t213) := (blk_cell BK221.out 2).trans rfl; have hcz117_3 : w116.cell? ⟨gb221, 3, none⟩ = some (.string t214) := (blk_cell BK221.out 3).trans rfl; have hcz117_4 : w116.cell? ⟨gb221, 4, none⟩ = some (.int .i64 t215) := (blk_cell BK221.out 4).trans rfl; have hfz117_0 := blk_frozen BK221.out 0; have hfz117_1 := blk_frozen BK221.out 1; have hfz117_2 := blk_frozen BK221.out 2; have hfz117_3 := blk_frozen BK221.out 3; have hfz117_4 := blk_frozen BK221.out 4; have hcz118_0 : w116.cell? ⟨gb222, 0, none⟩ = some (.string t216) := (blk_cell BK222.out 0).trans rfl; have hcz118_1 : w116.cell? ⟨gb222, 1, none⟩ = some (.int .i64 t217) := (blk_cell BK222.out 1).trans rfl; have hcz118_2 : w116.cell? ⟨gb222, 2, none⟩ = some (.int .i64 t218) := (blk_cell BK222.out 2).trans rfl; have hcz118_3 : w116.cell? ⟨gb222, 3, none⟩ = some (.string t219) := (blk_cell BK222.out 3).trans rfl; have hcz118_4 : w116.cell? ⟨gb222, 4, none⟩ = some (.int .i64 t220) := (blk_cell BK222.out 4).trans rfl; have hfz118_0 := blk_frozen BK222.out 0; have hfz118_1 := blk_frozen BK222.out 1; have hfz118_2 := blk_frozen BK222.out 2; have hfz118_3 := blk_frozen BK222.out 3; have hfz118_4 := blk_frozen BK222.out 4) | (go_at_call 22; (with_reducible refine (impl_EntryLess.calls t211 t212 t213 t214 t215 t211 t212 t213 t214 t215 t242 _ A104.out).mono ?_); rintro e w119 ⟨rfl, hb⟩; have n0_ := Aside0.mk (blk_below (g := gb221) (o := .cells #[.string t211, .int .i64 t212, .int .i64 t213, .string t214, .int .i64 t215] 28 (0, 0)) (by (with_reducible repeat (first | refine blk_drewN ?_ _ | refine blk_drew ?_ | refine blk_alloc ?_ _)); exact BK221.out) hb); have n1_ := Aside0.mk (blk_below (g := gb222) (o := .cells #[.string t216, .int .i64 t217, .int .i64 t218, .string t219, .int .i64 t220] 28 (0, 0)) (by (with_reducible repeat (first | refine blk_drewN ?_ _ | refine blk_drew ?_ | refine blk_alloc ?_ _)); exact BK222.out) hb); have n2_ := Aside0.mk (blk_below (g := gb233) (o := .cells #[.string t223, .int .i64 t224, .int .i64 t225, .string t226, .int .i64 t227] 28 (0, 0)) (by (with_reducible repeat (first | refine blk_drewN ?_ _ | refine blk_drew ?_ | refine blk_alloc ?_ _)); exact BK233.out) hb); have n3_ := Aside0.mk (blk_below (g := gb234) (o := .cells #[.string t228, .int .i64 t229, .int .i64 t230, .string t231, .int .i64 t232] 28 (0, 0)) (by (with_reducible repeat (first | refine blk_drewN ?_ _ | refine blk_drew ?_ | refine blk_alloc ?_ _)); exact BK234.out) hb); have n4_ := Aside0.mk (below_step (by repeat (first | (with_reducible first | exact HB.out | apply below_alloc | apply pw_below_drewN | apply below_drew1 | refine below_set ?_ GE221.out | refine below_set ?_ GE222.out | refine below_set ?_ GE233.out | refine below_set ?_ GE234.out) | exact HB.out)) hb); clear BK221; clear BK222; clear BK233; clear BK234; clear HB; have BK221 := n0_; have BK222 := n1_; have BK233 := n2_; have BK234 := n3_; have HB := n4_; clear n0_ n1_ n2_ n3_ n4_; (try clear hb); (try clear hb2); (try clear hk); (try clear hi)))
                        go_ret
                        exact ⟨by first | rfl | (simp [errW_none, errW_some] <;> rfl) | (simp [*, errW_none, errW_some] <;> rfl), by repeat (first | (with_reducible first | exact HB.out | apply below_alloc | apply pw_below_drewN | apply below_drew1 | refine below_set ?_ GE221.out | refine below_set ?_ GE222.out | refine below_set ?_ GE233.out | refine below_set ?_ GE234.out) | exact HB.out)⟩
                      · rw [if_neg c103] at H
                        exact absurd H (by simp)
                  · replace c84 := Bool.eq_false_iff.mpr c84
                    subst c84
                    have H1 : (none) = some r := by rw [if_neg (show ¬ (false = true) by decide)] at H; exact H
                    clear H
                    have H := H1
                    clear H1
                    exact absurd H (by simp)
                · replace c82 := Bool.eq_false_iff.mpr c82
                  subst c82
                  have H1 : (if t211.toList = t216.toList then (if (true == (t212 != t217)) = true then ((impl_EntryLess.f t211 t212 t213 t214 t215 t211 t212 t213 t214 t215).bind fun t243 => (some (!t243))) else (none)) else (if (true == true) = true then ((impl_EntryLess.f t211 t212 t213 t214 t215 t211 t212 t213 t214 t215).bind fun t244 => (some (!t244))) else (none))) = some r := by rw [if_neg (show ¬ (false = true) by decide)] at H; exact H
                  clear H
                  have H := H1
                  clear H1
                  by_cases c120 : t211.toList = t216.toList
                  · rw [if_pos c120] at H
                    have c120b0 : (t211.toList == t216.toList) = true := beq_iff_eq.mpr c120
                    have c120b1 : (t211.toList != t216.toList) = false := bne_eq_false_iff_eq.mpr c120
                    clear c120
                    by_cases c121 : (true == (t212 != t217)) = true
                    · rw [if_pos c121] at H
                      have c121b0 : (true == (t212 != t217)) = true := c121
                      (try (have c121b1 : decide (true = (t212 != t217)) = true := by (have h_ := c121; (try simp at h_); (try simp); (try exact h_))))
                      (try (have c121b2 : (true == (t212 != t217)) = true := by (have h_ := c121; (try simp at h_); (try simp); (try exact h_))))
                      clear c121
                      replace H := Option.bind_eq_some_iff.mp H
                      obtain ⟨t243, A1220, H⟩ := H
                      replace H : (some (!t243)) = some r := H
                      have A122 := Aside0.mk A1220
                      clear A1220
                      obtain rfl := Option.some.inj H
                      have hnb123 := NB222_221.out
                      have hnc123 := NB221_222.out
                      have hnb124 := NB222_233.out
                      have hnc124 := NB233_222.out
                      have hnb125 := NB222_234.out
                      have hnc125 := NB234_222.out
                      have hcz126_0 : wc.cell? ⟨gb222, 0, none⟩ = some (.string t216) := (blk_cell BK222.out 0).trans rfl
                      have hcz126_1 : wc.cell? ⟨gb222, 1, none⟩ = some (.int .i64 t217) := (blk_cell BK222.out 1).trans rfl
                      have hcz126_2 : wc.cell? ⟨gb222, 2, none⟩ = some (.int .i64 t218) := (blk_cell BK222.out 2).trans rfl
                      have hcz126_3 : wc.cell? ⟨gb222, 3, none⟩ = some (.string t219) := (blk_cell BK222.out 3).trans rfl
                      have hcz126_4 : wc.cell? ⟨gb222, 4, none⟩ = some (.int .i64 t220) := (blk_cell BK222.out 4).trans rfl
                      have hfz126_0 := blk_frozen BK222.out 0
                      have hfz126_1 := blk_frozen BK222.out 1
                      have hfz126_2 := blk_frozen BK222.out 2
                      have hfz126_3 := blk_frozen BK222.out 3
                      have hfz126_4 := blk_frozen BK222.out 4
                      have hnb127 := NB233_221.out
                      have hnc127 := NB221_233.out
                      have hnb128 := NB233_234.out
                      have hnc128 := NB234_233.out
                      have hcz129_0 : wc.cell? ⟨gb233, 0, none⟩ = some (.string t223) := (blk_cell BK233.out 0).trans rfl
                      have hcz129_1 : wc.cell? ⟨gb233, 1, none⟩ = some (.int .i64 t224) := (blk_cell BK233.out 1).trans rfl
                      have hcz129_2 : wc.cell? ⟨gb233, 2, none⟩ = some (.int .i64 t225) := (blk_cell BK233.out 2).trans rfl
                      have hcz129_3 : wc.cell? ⟨gb233, 3, none⟩ = some (.string t226) := (blk_cell BK233.out 3).trans rfl
                      have hcz129_4 : wc.cell? ⟨gb233, 4, none⟩ = some (.int .i64 t227) := (blk_cell BK233.out 4).trans rfl
                      have hfz129_0 := blk_frozen BK233.out 0
                      have hfz129_1 := blk_frozen BK233.out 1
                      have hfz129_2 := blk_frozen BK233.out 2
                      have hfz129_3 := blk_frozen BK233.out 3
                      have hfz129_4 := blk_frozen BK233.out 4
                      go_wp2_with (first | (go_at_call 22; (with_reducible refine (impl_EntryLess.calls t216 t217 t218 t219 t220 t223 t224 t225 t226 t227 false _ A81.out).mono ?_); rintro e w130 ⟨rfl, hb⟩; have n0_ := Aside0.mk (blk_below (g := gb221) (o := .cells #[.string t211, .int .i64 t212, .int .i64 t213, .string t214, .int .i64 t215] 28 (0, 0)) (by (with_reducible repeat (first | refine blk_drewN ?_ _ | refine blk_drew ?_ | refine blk_alloc ?_ _)); exact BK221.out) hb); have n1_ := Aside0.mk (blk_below (g := gb222) (o := .cells #[.string t216, .int .i64 t217, .int .i64 t218, .string t219, .int .i64 t220] 28 (0, 0)) (by (with_reducible repeat (first | refine blk_drewN ?_ _ | refine blk_drew ?_ | refine blk_alloc ?_ _)); exact BK222.out) hb); have n2_ := Aside0.mk (blk_below (g := gb233) (o := .cells #[.string t223, .int .i64 t224, .int .i64 t225, .string t226, .int .i64 t227] 28 (0, 0)) (by (with_reducible repeat (first | refine blk_drewN ?_ _ | refine blk_drew ?_ | refine blk_alloc ?_ _)); exact BK233.out) hb); have n3_ := Aside0.mk (blk_below (g := gb234) (o := .cells #[.string t228, .int .i64 t229, .int .i64 t230, .string t231, .int .i64 t232] 28 (0, 0)) (by (with_reducible repeat (first | refine blk_drewN ?_ _ | refine blk_drew ?_ | refine blk_alloc ?_ _)); exact BK234.out) hb); have n4_ := Aside0.mk (below_step (by repeat (first | (with_reducible first | exact HB.out | apply below_alloc | apply pw_below_drewN | apply below_drew1 | refine below_set ?_ GE221.out | refine below_set ?_ GE222.out | refine below_set ?_ GE233.out | refine below_set ?_ GE234.out) | exact HB.out)) hb); clear BK221; clear BK222; clear BK233; clear BK234; clear HB; have BK221 := n0_; have BK222 := n1_; have BK233 := n2_; have BK234 := n3_; have HB := n4_; clear n0_ n1_ n2_ n3_ n4_; (try clear hb); (try clear hb2); (try clear hk); (try clear hi); have hnb131 := NB221_234.out; have hnc131 := NB234_221.out; have hcz132_0 : w130.cell? ⟨gb221, 0, none⟩ = some (.string t211) := (blk_cell BK221.out 0).trans rfl; have hcz132_1 : w130.cell? ⟨gb221, 1, none⟩ = some (.int .i64 t212) := (blk_cell BK221.out 1).trans rfl; have hcz132_2 : w130.cell? ⟨gb221, 2, none⟩ = some (.int .i64 t213) := (blk_cell BK221.out 2).trans rfl; have hcz132_3 : w130.cell? ⟨gb221, 3, none⟩ = some (.string t214) := (blk_cell BK221.out 3).trans rfl; have hcz132_4 : w130.cell? ⟨gb221, 4, none⟩ = some (.int .i64 t215) := (blk_cell BK221.out 4).trans rfl; have hfz132_0 := blk_frozen BK221.out 0; have hfz132_1 := blk_frozen BK221.out 1; have hfz132_2 := blk_frozen BK221.out 2; have hfz132_3 := blk_frozen BK221.out 3; have hfz132_4 := blk_frozen BK221.out 4; have hcz133_0 : w130.cell? ⟨gb222, 0, none⟩ = some (.string t216) := (blk_cell BK222.out 0).trans rfl; have hcz133_1 : w130.cell? ⟨gb222, 1, none⟩ = some (.int .i64 t217) := (blk_cell BK222.out 1).trans rfl; have hcz133_2 : w130.cell? ⟨gb222, 2, none⟩ = some (.int .i64 t218) := (blk_cell BK222.out 2).trans rfl; have hcz133_3 : w130.cell? ⟨gb222, 3, none⟩ = some (.string t219) := (blk_cell BK222.out 3).trans rfl; have hcz133_4 : w130.cell? ⟨gb222, 4, none⟩ = some (.int .i64 t220) := (blk_cell BK222.out 4).trans rfl; have hfz133_0 := blk_frozen BK222.out 0; have hfz133_1 := blk_frozen BK222.out 1; have hfz133_2 := blk_frozen BK222.out 2; have hfz133_3 := blk_frozen BK222.out 3; have hfz133_4 := blk_frozen BK222.out 4) | (go_at_call 22; (with_reducible refine (impl_EntryLess.calls t211 t212 t213 t214 t215 t211 t212 t213 t214 t215 t243 _ A122.out).mono ?_); rintro e w134 ⟨rfl, hb⟩; have n0_ := Aside0.mk (blk_below (g := gb221) (o := .cells #[.string t211, .int .i64 t212, .int .i64 t213, .string t214, .int .i64 t215] 28 (0, 0)) (by (with_reducible repeat (first | refine blk_drewN ?_ _ | refine blk_drew ?_ | refine blk_alloc ?_ _)); exact BK221.out) hb); have n1_ := Aside0.mk (blk_below (g := gb222) (o := .cells #[.string t216, .int .i64 t217, .int .i64 t218, .string t219, .int .i64 t220] 28 (0, 0)) (by (with_reducible repeat (first | refine blk_drewN ?_ _ | refine blk_drew ?_ | refine blk_alloc ?_ _)); exact BK222.out) hb); have n2_ := Aside0.mk (blk_below (g := gb233) (o := .cells #[.string t223, .int .i64 t224, .int .i64 t225, .string t226, .int .i64 t227] 28 (0, 0)) (by (with_reducible repeat (first | refine blk_drewN ?_ _ | refine blk_drew ?_ | refine blk_alloc ?_ _)); exact BK233.out) hb); have n3_ := Aside0.mk (blk_below (g := gb234) (o := .cells #[.string t228, .int .i64 t229, .int .i64 t230, .string t231, .int .i64 t232] 28 (0, 0)) (by (with_reducible repeat (first | refine blk_drewN ?_ _ | refine blk_drew ?_ | refine blk_alloc ?_ _)); exact BK234.out) hb); have n4_ := Aside0.mk (below_step (by repeat (first | (with_reducible first | exact HB.out | apply below_alloc | apply pw_below_drewN | apply below_drew1 | refine below_set ?_ GE221.out | refine below_set ?_ GE222.out | refine below_set ?_ GE233.out | refine below_set ?_ GE234.out) | exact HB.out)) hb); clear BK221; clear BK222; clear BK233; clear BK234; clear HB; have BK221 := n0_; have BK222 := n1_; have BK233 := n2_; have BK234 := n3_; have HB := n4_; clear n0_ n1_ n2_ n3_ n4_; (try clear hb); (try clear hb2); (try clear hk); (try clear hi)))
                      go_ret
                      exact ⟨by first | rfl | (simp [errW_none, errW_some] <;> rfl) | (simp [*, errW_none, errW_some] <;> rfl), by repeat (first | (with_reducible first | exact HB.out | apply below_alloc | apply pw_below_drewN | apply below_drew1 | refine below_set ?_ GE221.out | refine below_set ?_ GE222.out | refine below_set ?_ GE233.out | refine below_set ?_ GE234.out) | exact HB.out)⟩
                    · rw [if_neg c121] at H
                      exact absurd H (by simp)
                  · rw [if_neg c120] at H
                    have c120b0 : (t211.toList == t216.toList) = false := beq_eq_false_iff_ne.mpr c120
                    have c120b1 : (t211.toList != t216.toList) = true := bne_iff_ne.mpr c120
                    by_cases c135 : (true == true) = true
                    · rw [if_pos c135] at H
                      have c135b0 : (true == true) = true := c135
                      (try (have c135b1 : decide (true = true) = true := by (have h_ := c135; (try simp at h_); (try simp); (try exact h_))))
                      (try (have c135b2 : (true == true) = true := by (have h_ := c135; (try simp at h_); (try simp); (try exact h_))))
                      clear c135
                      replace H := Option.bind_eq_some_iff.mp H
                      obtain ⟨t244, A1360, H⟩ := H
                      replace H : (some (!t244)) = some r := H
                      have A136 := Aside0.mk A1360
                      clear A1360
                      obtain rfl := Option.some.inj H
                      have hnb137 := NB222_221.out
                      have hnc137 := NB221_222.out
                      have hnb138 := NB222_233.out
                      have hnc138 := NB233_222.out
                      have hnb139 := NB222_234.out
                      have hnc139 := NB234_222.out
                      have hcz140_0 : wc.cell? ⟨gb222, 0, none⟩ = some (.string t216) := (blk_cell BK222.out 0).trans rfl
                      have hcz140_1 : wc.cell? ⟨gb222, 1, none⟩ = some (.int .i64 t217) := (blk_cell BK222.out 1).trans rfl
                      have hcz140_2 : wc.cell? ⟨gb222, 2, none⟩ = some (.int .i64 t218) := (blk_cell BK222.out 2).trans rfl
                      have hcz140_3 : wc.cell? ⟨gb222, 3, none⟩ = some (.string t219) := (blk_cell BK222.out 3).trans rfl
                      have hcz140_4 : wc.cell? ⟨gb222, 4, none⟩ = some (.int .i64 t220) := (blk_cell BK222.out 4).trans rfl
                      have hfz140_0 := blk_frozen BK222.out 0
                      have hfz140_1 := blk_frozen BK222.out 1
                      have hfz140_2 := blk_frozen BK222.out 2
                      have hfz140_3 := blk_frozen BK222.out 3
                      have hfz140_4 := blk_frozen BK222.out 4
                      have hnb141 := NB233_221.out
                      have hnc141 := NB221_233.out
                      have hnb142 := NB233_234.out
                      have hnc142 := NB234_233.out
                      have hcz143_0 : wc.cell? ⟨gb233, 0, none⟩ = some (.string t223) := (blk_cell BK233.out 0).trans rfl
                      have hcz143_1 : wc.cell? ⟨gb233, 1, none⟩ = some (.int .i64 t224) := (blk_cell BK233.out 1).trans rfl
                      have hcz143_2 : wc.cell? ⟨gb233, 2, none⟩ = some (.int .i64 t225) := (blk_cell BK233.out 2).trans rfl
                      have hcz143_3 : wc.cell? ⟨gb233, 3, none⟩ = some (.string t226) := (blk_cell BK233.out 3).trans rfl
                      have hcz143_4 : wc.cell? ⟨gb233, 4, none⟩ = some (.int .i64 t227) := (blk_cell BK233.out 4).trans rfl
                      have hfz143_0 := blk_frozen BK233.out 0
                      have hfz143_1 := blk_frozen BK233.out 1
                      have hfz143_2 := blk_frozen BK233.out 2
                      have hfz143_3 := blk_frozen BK233.out 3
                      have hfz143_4 := blk_frozen BK233.out 4
                      go_wp2_with (first | (go_at_call 22; (with_reducible refine (impl_EntryLess.calls t216 t217 t218 t219 t220 t223 t224 t225 t226 t227 false _ A81.out).mono ?_); rintro e w144 ⟨rfl, hb⟩; have n0_ := Aside0.mk (blk_below (g := gb221) (o := .cells #[.string t211, .int .i64 t212, .int .i64 t213, .string t214, .int .i64 t215] 28 (0, 0)) (by (with_reducible repeat (first | refine blk_drewN ?_ _ | refine blk_drew ?_ | refine blk_alloc ?_ _)); exact BK221.out) hb); have n1_ := Aside0.mk (blk_below (g := gb222) (o := .cells #[.string t216, .int .i64 t217, .int .i64 t218, .string t219, .int .i64 t220] 28 (0, 0)) (by (with_reducible repeat (first | refine blk_drewN ?_ _ | refine blk_drew ?_ | refine blk_alloc ?_ _)); exact BK222.out) hb); have n2_ := Aside0.mk (blk_below (g := gb233) (o := .cells #[.string t223, .int .i64 t224, .int .i64 t225, .string t226, .int .i64 t227] 28 (0, 0)) (by (with_reducible repeat (first | refine blk_drewN ?_ _ | refine blk_drew ?_ | refine blk_alloc ?_ _)); exact BK233.out) hb); have n3_ := Aside0.mk (blk_below (g := gb234) (o := .cells #[.string t228, .int .i64 t229, .int .i64 t230, .string t231, .int .i64 t232] 28 (0, 0)) (by (with_reducible repeat (first | refine blk_drewN ?_ _ | refine blk_drew ?_ | refine blk_alloc ?_ _)); exact BK234.out) hb); have n4_ := Aside0.mk (below_step (by repeat (first | (with_reducible first | exact HB.out | apply below_alloc | apply pw_below_drewN | apply below_drew1 | refine below_set ?_ GE221.out | refine below_set ?_ GE222.out | refine below_set ?_ GE233.out | refine below_set ?_ GE234.out) | exact HB.out)) hb); clear BK221; clear BK222; clear BK233; clear BK234; clear HB; have BK221 := n0_; have BK222 := n1_; have BK233 := n2_; have BK234 := n3_; have HB := n4_; clear n0_ n1_ n2_ n3_ n4_; (try clear hb); (try clear hb2); (try clear hk); (try clear hi); have hnb145 := NB221_234.out; have hnc145 := NB234_221.out; have hcz146_0 : w144.cell? ⟨gb221, 0, none⟩ = some (.string t211) := (blk_cell BK221.out 0).trans rfl; have hcz146_1 : w144.cell? ⟨gb221, 1, none⟩ = some (.int .i64 t212) := (blk_cell BK221.out 1).trans rfl; have hcz146_2 : w144.cell? ⟨gb221, 2, none⟩ = some (.int .i64 t213) := (blk_cell BK221.out 2).trans rfl; have hcz146_3 : w144.cell? ⟨gb221, 3, none⟩ = some (.string t214) := (blk_cell BK221.out 3).trans rfl; have hcz146_4 : w144.cell? ⟨gb221, 4, none⟩ = some (.int .i64 t215) := (blk_cell BK221.out 4).trans rfl; have hfz146_0 := blk_frozen BK221.out 0; have hfz146_1 := blk_frozen BK221.out 1; have hfz146_2 := blk_frozen BK221.out 2; have hfz146_3 := blk_frozen BK221.out 3; have hfz146_4 := blk_frozen BK221.out 4; have hcz147_0 : w144.cell? ⟨gb222, 0, none⟩ = some (.string t216) := (blk_cell BK222.out 0).trans rfl; have hcz147_1 : w144.cell? ⟨gb222, 1, none⟩ = some (.int .i64 t217) := (blk_cell BK222.out 1).trans rfl; have hcz147_2 : w144.cell? ⟨gb222, 2, none⟩ = some (.int .i64 t218) := (blk_cell BK222.out 2).trans rfl; have hcz147_3 : w144.cell? ⟨gb222, 3, none⟩ = some (.string t219) := (blk_cell BK222.out 3).trans rfl; have hcz147_4 : w144.cell? ⟨gb222, 4, none⟩ = some (.int .i64 t220) := (blk_cell BK222.out 4).trans rfl; have hfz147_0 := blk_frozen BK222.out 0; have hfz147_1 := blk_frozen BK222.out 1; have hfz147_2 := blk_frozen BK222.out 2; have hfz147_3 := blk_frozen BK222.out 3; have hfz147_4 := blk_frozen BK222.out 4) | (go_at_call 22; (with_reducible refine (impl_EntryLess.calls t211 t212 t213 t214 t215 t211 t212 t213 t214 t215 t244 _ A136.out).mono ?_); rintro e w148 ⟨rfl, hb⟩; have n0_ := Aside0.mk (blk_below (g := gb221) (o := .cells #[.string t211, .int .i64 t212, .int .i64 t213, .string t214, .int .i64 t215] 28 (0, 0)) (by (with_reducible repeat (first | refine blk_drewN ?_ _ | refine blk_drew ?_ | refine blk_alloc ?_ _)); exact BK221.out) hb); have n1_ := Aside0.mk (blk_below (g := gb222) (o := .cells #[.string t216, .int .i64 t217, .int .i64 t218, .string t219, .int .i64 t220] 28 (0, 0)) (by (with_reducible repeat (first | refine blk_drewN ?_ _ | refine blk_drew ?_ | refine blk_alloc ?_ _)); exact BK222.out) hb); have n2_ := Aside0.mk (blk_below (g := gb233) (o := .cells #[.string t223, .int .i64 t224, .int .i64 t225, .string t226, .int .i64 t227] 28 (0, 0)) (by (with_reducible repeat (first | refine blk_drewN ?_ _ | refine blk_drew ?_ | refine blk_alloc ?_ _)); exact BK233.out) hb); have n3_ := Aside0.mk (blk_below (g := gb234) (o := .cells #[.string t228, .int .i64 t229, .int .i64 t230, .string t231, .int .i64 t232] 28 (0, 0)) (by (with_reducible repeat (first | refine blk_drewN ?_ _ | refine blk_drew ?_ | refine blk_alloc ?_ _)); exact BK234.out) hb); have n4_ := Aside0.mk (below_step (by repeat (first | (with_reducible first | exact HB.out | apply below_alloc | apply pw_below_drewN | apply below_drew1 | refine below_set ?_ GE221.out | refine below_set ?_ GE222.out | refine below_set ?_ GE233.out | refine below_set ?_ GE234.out) | exact HB.out)) hb); clear BK221; clear BK222; clear BK233; clear BK234; clear HB; have BK221 := n0_; have BK222 := n1_; have BK233 := n2_; have BK234 := n3_; have HB := n4_; clear n0_ n1_ n2_ n3_ n4_; (try clear hb); (try clear hb2); (try clear hk); (try clear hi)))
                      go_ret
                      exact ⟨by first | rfl | (simp [errW_none, errW_some] <;> rfl) | (simp [*, errW_none, errW_some] <;> rfl), by repeat (first | (with_reducible first | exact HB.out | apply below_alloc | apply pw_below_drewN | apply below_drew1 | refine below_set ?_ GE221.out | refine below_set ?_ GE222.out | refine below_set ?_ GE233.out | refine below_set ?_ GE234.out) | exact HB.out)⟩
                    · rw [if_neg c135] at H
                      exact absurd H (by simp)
              · replace c80 := Bool.eq_false_iff.mpr c80
                subst c80
                have H1 : (if t211.toList = t216.toList then (if (t236 == (t212 != t217)) = true then ((impl_EntryLess.f t211 t212 t213 t214 t215 t211 t212 t213 t214 t215).bind fun t245 => (some (!t245))) else (none)) else (if (t236 == true) = true then ((impl_EntryLess.f t211 t212 t213 t214 t215 t211 t212 t213 t214 t215).bind fun t246 => (some (!t246))) else (none))) = some r := by rw [if_neg (show ¬ (false = true) by decide)] at H; exact H
                clear H
                have H := H1
                clear H1
                by_cases c149 : t211.toList = t216.toList
                · rw [if_pos c149] at H
                  have c149b0 : (t211.toList == t216.toList) = true := beq_iff_eq.mpr c149
                  have c149b1 : (t211.toList != t216.toList) = false := bne_eq_false_iff_eq.mpr c149
                  clear c149
                  by_cases c150 : (t236 == (t212 != t217)) = true
                  · rw [if_pos c150] at H
                    have c150b0 : (t236 == (t212 != t217)) = true := c150
                    (try (have c150b1 : decide (t236 = (t212 != t217)) = true := by (have h_ := c150; (try simp at h_); (try simp); (try exact h_))))
                    (try (have c150b2 : (t236 == (t212 != t217)) = true := by (have h_ := c150; (try simp at h_); (try simp); (try exact h_))))
                    clear c150
                    replace H := Option.bind_eq_some_iff.mp H
                    obtain ⟨t245, A1510, H⟩ := H
                    replace H : (some (!t245)) = some r := H
                    have A151 := Aside0.mk A1510
                    clear A1510
                    obtain rfl := Option.some.inj H
                    have hnb152 := NB221_222.out
                    have hnc152 := NB222_221.out
                    have hnb153 := NB221_233.out
                    have hnc153 := NB233_221.out
                    have hnb154 := NB221_234.out
                    have hnc154 := NB234_221.out
                    have hcz155_0 : wc.cell? ⟨gb221, 0, none⟩ = some (.string t211) := (blk_cell BK221.out 0).trans rfl
                    have hcz155_1 : wc.cell? ⟨gb221, 1, none⟩ = some (.int .i64 t212) := (blk_cell BK221.out 1).trans rfl
                    have hcz155_2 : wc.cell? ⟨gb221, 2, none⟩ = some (.int .i64 t213) := (blk_cell BK221.out 2).trans rfl
                    have hcz155_3 : wc.cell? ⟨gb221, 3, none⟩ = some (.string t214) := (blk_cell BK221.out 3).trans rfl
                    have hcz155_4 : wc.cell? ⟨gb221, 4, none⟩ = some (.int .i64 t215) := (blk_cell BK221.out 4).trans rfl
                    have hfz155_0 := blk_frozen BK221.out 0
                    have hfz155_1 := blk_frozen BK221.out 1
                    have hfz155_2 := blk_frozen BK221.out 2
                    have hfz155_3 := blk_frozen BK221.out 3
                    have hfz155_4 := blk_frozen BK221.out 4
                    have hnb156 := NB222_233.out
                    have hnc156 := NB233_222.out
                    have hnb157 := NB222_234.out
                    have hnc157 := NB234_222.out
                    have hcz158_0 : wc.cell? ⟨gb222, 0, none⟩ = some (.string t216) := (blk_cell BK222.out 0).trans rfl
                    have hcz158_1 : wc.cell? ⟨gb222, 1, none⟩ = some (.int .i64 t217) := (blk_cell BK222.out 1).trans rfl
                    have hcz158_2 : wc.cell? ⟨gb222, 2, none⟩ = some (.int .i64 t218) := (blk_cell BK222.out 2).trans rfl
                    have hcz158_3 : wc.cell? ⟨gb222, 3, none⟩ = some (.string t219) := (blk_cell BK222.out 3).trans rfl
                    have hcz158_4 : wc.cell? ⟨gb222, 4, none⟩ = some (.int .i64 t220) := (blk_cell BK222.out 4).trans rfl
                    have hfz158_0 := blk_frozen BK222.out 0
                    have hfz158_1 := blk_frozen BK222.out 1
                    have hfz158_2 := blk_frozen BK222.out 2
                    have hfz158_3 := blk_frozen BK222.out 3
                    have hfz158_4 := blk_frozen BK222.out 4
                    go_wp2_with (first | (go_at_call 22; (with_reducible refine (impl_EntryLess.calls t211 t212 t213 t214 t215 t211 t212 t213 t214 t215 t245 _ A151.out).mono ?_); rintro e w159 ⟨rfl, hb⟩; have n0_ := Aside0.mk (blk_below (g := gb221) (o := .cells #[.string t211, .int .i64 t212, .int .i64 t213, .string t214, .int .i64 t215] 28 (0, 0)) (by (with_reducible repeat (first | refine blk_drewN ?_ _ | refine blk_drew ?_ | refine blk_alloc ?_ _)); exact BK221.out) hb); have n1_ := Aside0.mk (blk_below (g := gb222) (o := .cells #[.string t216, .int .i64 t217, .int .i64 t218, .string t219, .int .i64 t220] 28 (0, 0)) (by (with_reducible repeat (first | refine blk_drewN ?_ _ | refine blk_drew ?_ | refine blk_alloc ?_ _)); exact BK222.out) hb); have n2_ := Aside0.mk (blk_below (g := gb233) (o := .cells #[.string t223, .int .i64 t224, .int .i64 t225, .string t226, .int .i64 t227] 28 (0, 0)) (by (with_reducible repeat (first | refine blk_drewN ?_ _ | refine blk_drew ?_ | refine blk_alloc ?_ _)); exact BK233.out) hb); have n3_ := Aside0.mk (blk_below (g := gb234) (o := .cells #[.string t228, .int .i64 t229, .int .i64 t230, .string t231, .int .i64 t232] 28 (0, 0)) (by (with_reducible repeat (first | refine blk_drewN ?_ _ | refine blk_drew ?_ | refine blk_alloc ?_ _)); exact BK234.out) hb); have n4_ := Aside0.mk (below_step (by repeat (first | (with_reducible first | exact HB.out | apply below_alloc | apply pw_below_drewN | apply below_drew1 | refine below_set ?_ GE221.out | refine below_set ?_ GE222.out | refine below_set ?_ GE233.out | refine below_set ?_ GE234.out) | exact HB.out)) hb); clear BK221; clear BK222; clear BK233; clear BK234; clear HB; have BK221 := n0_; have BK222 := n1_; have BK233 := n2_; have BK234 := n3_; have HB := n4_; clear n0_ n1_ n2_ n3_ n4_; (try clear hb); (try clear hb2); (try clear hk); (try clear hi)))
                    go_ret
                    exact ⟨by first | rfl | (simp [errW_none, errW_some] <;> rfl) | (simp [*, errW_none, errW_some] <;> rfl), by repeat (first | (with_reducible first | exact HB.out | apply below_alloc | apply pw_below_drewN | apply below_drew1 | refine below_set ?_ GE221.out | refine below_set ?_ GE222.out | refine below_set ?_ GE233.out | refine below_set ?_ GE234.out) | exact HB.out)⟩
                  · rw [if_neg c150] at H
                    exact absurd H (by simp)
                · rw [if_neg c149] at H
                  have c149b0 : (t211.toList == t216.toList) = false := beq_eq_false_iff_ne.mpr c149
                  have c149b1 : (t211.toList != t216.toList) = true := bne_iff_ne.mpr c149
                  by_cases c160 : (t236 == true) = true
                  · rw [if_pos c160] at H
                    have c160b0 : (t236 == true) = true := c160
                    (try (have c160b1 : decide (t236 = true) = true := by (have h_ := c160; (try simp at h_); (try simp); (try exact h_))))
                    (try (have c160b2 : (t236 == true) = true := by (have h_ := c160; (try simp at h_); (try simp); (try exact h_))))
                    clear c160
                    replace H := Option.bind_eq_some_iff.mp H
                    obtain ⟨t246, A1610, H⟩ := H
                    replace H : (some (!t246)) = some r := H
                    have A161 := Aside0.mk A1610
                    clear A1610
                    obtain rfl := Option.some.inj H
                    have hnb162 := NB221_222.out
                    have hnc162 := NB222_221.out
                    have hnb163 := NB221_233.out
                    have hnc163 := NB233_221.out
                    have hnb164 := NB221_234.out
                    have hnc164 := NB234_221.out
                    have hcz165_0 : wc.cell? ⟨gb221, 0, none⟩ = some (.string t211) := (blk_cell BK221.out 0).trans rfl
                    have hcz165_1 : wc.cell? ⟨gb221, 1, none⟩ = some (.int .i64 t212) := (blk_cell BK221.out 1).trans rfl
                    have hcz165_2 : wc.cell? ⟨gb221, 2, none⟩ = some (.int .i64 t213) := (blk_cell BK221.out 2).trans rfl
                    have hcz165_3 : wc.cell? ⟨gb221, 3, none⟩ = some (.string t214) := (blk_cell BK221.out 3).trans rfl
                    have hcz165_4 : wc.cell? ⟨gb221, 4, none⟩ = some (.int .i64 t215) := (blk_cell BK221.out 4).trans rfl
                    have hfz165_0 := blk_frozen BK221.out 0
                    have hfz165_1 := blk_frozen BK221.out 1
                    have hfz165_2 := blk_frozen BK221.out 2
                    have hfz165_3 := blk_frozen BK221.out 3
                    have hfz165_4 := blk_frozen BK221.out 4
                    have hnb166 := NB222_233.out
                    have hnc166 := NB233_222.out
                    have hnb167 := NB222_234.out
                    have hnc167 := NB234_222.out
                    have hcz168_0 : wc.cell? ⟨gb222, 0, none⟩ = some (.string t216) := (blk_cell BK222.out 0).trans rfl
                    have hcz168_1 : wc.cell? ⟨gb222, 1, none⟩ = some (.int .i64 t217) := (blk_cell BK222.out 1).trans rfl
                    have hcz168_2 : wc.cell? ⟨gb222, 2, none⟩ = some (.int .i64 t218) := (blk_cell BK222.out 2).trans rfl
                    have hcz168_3 : wc.cell? ⟨gb222, 3, none⟩ = some (.string t219) := (blk_cell BK222.out 3).trans rfl
                    have hcz168_4 : wc.cell? ⟨gb222, 4, none⟩ = some (.int .i64 t220) := (blk_cell BK222.out 4).trans rfl
                    have hfz168_0 := blk_frozen BK222.out 0
                    have hfz168_1 := blk_frozen BK222.out 1
                    have hfz168_2 := blk_frozen BK222.out 2
                    have hfz168_3 := blk_frozen BK222.out 3
                    have hfz168_4 := blk_frozen BK222.out 4
                    go_wp2_with (first | (go_at_call 22; (with_reducible refine (impl_EntryLess.calls t211 t212 t213 t214 t215 t211 t212 t213 t214 t215 t246 _ A161.out).mono ?_); rintro e w169 ⟨rfl, hb⟩; have n0_ := Aside0.mk (blk_below (g := gb221) (o := .cells #[.string t211, .int .i64 t212, .int .i64 t213, .string t214, .int .i64 t215] 28 (0, 0)) (by (with_reducible repeat (first | refine blk_drewN ?_ _ | refine blk_drew ?_ | refine blk_alloc ?_ _)); exact BK221.out) hb); have n1_ := Aside0.mk (blk_below (g := gb222) (o := .cells #[.string t216, .int .i64 t217, .int .i64 t218, .string t219, .int .i64 t220] 28 (0, 0)) (by (with_reducible repeat (first | refine blk_drewN ?_ _ | refine blk_drew ?_ | refine blk_alloc ?_ _)); exact BK222.out) hb); have n2_ := Aside0.mk (blk_below (g := gb233) (o := .cells #[.string t223, .int .i64 t224, .int .i64 t225, .string t226, .int .i64 t227] 28 (0, 0)) (by (with_reducible repeat (first | refine blk_drewN ?_ _ | refine blk_drew ?_ | refine blk_alloc ?_ _)); exact BK233.out) hb); have n3_ := Aside0.mk (blk_below (g := gb234) (o := .cells #[.string t228, .int .i64 t229, .int .i64 t230, .string t231, .int .i64 t232] 28 (0, 0)) (by (with_reducible repeat (first | refine blk_drewN ?_ _ | refine blk_drew ?_ | refine blk_alloc ?_ _)); exact BK234.out) hb); have n4_ := Aside0.mk (below_step (by repeat (first | (with_reducible first | exact HB.out | apply below_alloc | apply pw_below_drewN | apply below_drew1 | refine below_set ?_ GE221.out | refine below_set ?_ GE222.out | refine below_set ?_ GE233.out | refine below_set ?_ GE234.out) | exact HB.out)) hb); clear BK221; clear BK222; clear BK233; clear BK234; clear HB; have BK221 := n0_; have BK222 := n1_; have BK233 := n2_; have BK234 := n3_; have HB := n4_; clear n0_ n1_ n2_ n3_ n4_; (try clear hb); (try clear hb2); (try clear hk); (try clear hi)))
                    go_ret
                    exact ⟨by first | rfl | (simp [errW_none, errW_some] <;> rfl) | (simp [*, errW_none, errW_some] <;> rfl), by repeat (first | (with_reducible first | exact HB.out | apply below_alloc | apply pw_below_drewN | apply below_drew1 | refine below_set ?_ GE221.out | refine below_set ?_ GE222.out | refine below_set ?_ GE233.out | refine below_set ?_ GE234.out) | exact HB.out)⟩
                  · rw [if_neg c160] at H
                    exact absurd H (by simp)

/-- THE ONE PURE STATEMENT of laws_FnEntryLess: yours. -/
def laws_FnEntryLess.Pure : Prop := ∀ (l0 : List Int) (l1 : List Int), l0.length ≤ maxLen → l0.length * 1 ≤ 140737488351232 → (∀ x ∈ l0, (Lit.int .u8 x).wf = true) → l1.length ≤ maxLen → l1.length * 1 ≤ 140737488351232 → (∀ x ∈ l1, (Lit.int .u8 x).wf = true) → ∃ k, laws_FnEntryLess.f k l0 l1 = some true
theorem laws_FnEntryLess.walk (P : laws_FnEntryLess.Pure) (a0 : Option Addr) (len0 cap0 : Nat) (z0 : List Int) (a1 : Option Addr) (len1 cap1 : Nat) (z1 : List Int) (w : World) (w0 : (a0 = none ∧ len0 = 0 ∧ cap0 = 0 ∧ z0 = []) ∨ ∃ x, a0 = some x ∧ len0 ≤ cap0 ∧ cap0 ≤ maxLen ∧ z0.length = cap0 ∧ (∀ i, i < z0.length → w.cell? (x.add i) = some (.int .u8 (z0.getD i 0))) ∧ ∀ n ∈ z0, (Lit.int .u8 n).wf = true) (y0 : len0 * 1 ≤ 140737488351232) (w1 : (a1 = none ∧ len1 = 0 ∧ cap1 = 0 ∧ z1 = []) ∨ ∃ x, a1 = some x ∧ len1 ≤ cap1 ∧ cap1 ≤ maxLen ∧ z1.length = cap1 ∧ (∀ i, i < z1.length → w.cell? (x.add i) = some (.int .u8 (z1.getD i 0))) ∧ ∀ n ∈ z1, (Lit.int .u8 n).wf = true) (y1 : len1 * 1 ≤ 140737488351232) :
    Calls Try.prog 11 #[.slice a0 len0 cap0, .slice a1 len1 cap1] w fun e w' => e = .returned (.bool true) ∧ Below w.heap.size w w' := by
  obtain ⟨l0, rfl, hr0, hm0, hw0, hc0⟩ := ReadsInt.ofRowC w0
  obtain ⟨l1, rfl, hr1, hm1, hw1, hc1⟩ := ReadsInt.ofRowC w1
  obtain ⟨k, h⟩ := P l0 l1 hm0 y0 hw0 hm1 y1 hw1
  refine (laws_FnEntryLess.calls k _ _ l0 _ _ l1 true w (Kd.C_of_reads (d := (0 : Int)) (h1 := fun _ => rfl) hr0) hc0 (Kd.C_of_reads (d := (0 : Int)) (h1 := fun _ => rfl) hr1) hc1 h).mono ?_
  rintro e w' ⟨rfl, hd⟩
  exact ⟨rfl, hd⟩

end Go.Proofs.Ytoijegeioafbiaa.QFnEntryLess

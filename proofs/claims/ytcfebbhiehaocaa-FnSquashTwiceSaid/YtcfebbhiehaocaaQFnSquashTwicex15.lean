/- What the law FnSquashTwice reaches, function by function: what each computes, and that the machine's call comes to it. Laid by a program. -/
import Derived.Test.YtcfebbhiehaocaaQFnSquashTwicex0
import Derived.Test.YtcfebbhiehaocaaQFnSquashTwicex5
import Derived.Test.YtcfebbhiehaocaaQFnSquashTwicex6
import Derived.Test.YtcfebbhiehaocaaQFnSquashTwicex11
import Derived.Test.YtcfebbhiehaocaaQFnSquashTwicex14
namespace Go.Proofs.Ytcfebbhiehaocaa.QFnSquashTwice
open Go.RowKit Go.Proofs.YtcfebbhiehaocaaW.PrintWords Go.Proofs.YtcfebbhiehaocaaW.PrintLast Go.Proofs.YtcfebbhiehaocaaW.PrintMore
attribute [local go_sem] max2_int min2_int max_two min_two max_three min_three max_four min_four   -- for this text's walks alone
set_option linter.unusedVariables false
set_option linter.unusedSimpArgs false

/-! ### laws_FnSquashTwice: function 7 -/
mutual
def laws_FnSquashTwice.l0 : Nat → List (S48) → List Int → Bool → List (S48) → Int → Option (Bool)
  | 0, _, _, _, _, _ => none
  | k + 1, x3, x4, x5, x6, x7 => if x7 < (x6.length : Int) then (if 0 ≤ x7 then ((impl_EntryOk.f k ((rd_T48 x6 x7).f0) ((rd_T48 x6 x7).f1) ((rd_T48 x6 x7).f2) ((rd_T48 x6 x7).f3) ((rd_T48 x6 x7).f4)).bind fun t455 => (if t455 = true then (if x7 > 0 then (if 0 ≤ (wrap64 (x7 - 1)) then (if (wrap64 (x7 - 1)) < (x6.length : Int) then ((impl_EntryLess.f ((rd_T48 x6 (wrap64 (x7 - 1))).f0) ((rd_T48 x6 (wrap64 (x7 - 1))).f1) ((rd_T48 x6 (wrap64 (x7 - 1))).f2) ((rd_T48 x6 (wrap64 (x7 - 1))).f3) ((rd_T48 x6 (wrap64 (x7 - 1))).f4) ((rd_T48 x6 x7).f0) ((rd_T48 x6 x7).f1) ((rd_T48 x6 x7).f2) ((rd_T48 x6 x7).f3) ((rd_T48 x6 x7).f4)).bind fun t458 => (if t458 = true then (if ((rd_T48 x6 x7).f4) > 2000 then (none) else (if ((rd_T48 x6 x7).f4) < (-2000) then (none) else (laws_FnSquashTwice.l0 k x3 x4 x5 x6 (wrap64 (x7 + 1))))) else (none))) else (none)) else (none)) else (if ((rd_T48 x6 x7).f4) > 2000 then (if (x3.length : Int) > 0 then (if 0 < (x3.length : Int) then (if ((rd_T48 x3 0).f4) > 2000 then (some true) else (none)) else (none)) else (none)) else (if ((rd_T48 x6 x7).f4) < (-2000) then (if (x3.length : Int) > 0 then (if 0 < (x3.length : Int) then (if ((rd_T48 x3 0).f4) > 2000 then (none) else (some (decide (((rd_T48 x3 0).f4) < (-2000))))) else (none)) else (none)) else (laws_FnSquashTwice.l0 k x3 x4 x5 x6 (wrap64 (x7 + 1)))))) else (none))) else (none)) else ((impl_Squash.f k x6 ([] : List Int) x5).bind fun t466 => (laws_FnSquashTwice.l1 k x4 x5 x6 t466 1))
def laws_FnSquashTwice.l1 : Nat → List Int → Bool → List (S48) → List (S48) → Int → Option (Bool)
  | 0, _, _, _, _, _ => none
  | k + 1, x4, x5, x6, x8, x9 => if x9 < (x8.length : Int) then (if 0 ≤ x9 then (if 0 ≤ (wrap64 (x9 - 1)) then (if (wrap64 (x9 - 1)) < (x8.length : Int) then (if ((rd_T48 x8 x9).f0).toList = ((rd_T48 x8 (wrap64 (x9 - 1))).f0).toList then (none) else (laws_FnSquashTwice.l1 k x4 x5 x6 x8 (wrap64 (x9 + 1)))) else (none)) else (none)) else (none)) else ((impl_Squash.f k x6 x4 x5).bind fun t471 => ((laws_wpEnts.f k t471 x6).bind fun t474 => (some t474)))
end
def laws_FnSquashTwice.f (k : Nat) (l0 : List Int) : Option (Bool) := if (l0.length : Int) > 1048576 then (some true) else ((spec_DrawSquash.f k l0).bind fun bt440 => ((impl_Squash.f k bt440.1 bt440.2.1 bt440.2.2).bind fun t447 => ((spec_Squash.f k bt440.1 bt440.2.1 bt440.2.2).bind fun t450 => ((laws_wpEnts.f k t447 t450).bind fun t453 => (if t453 = true then (laws_FnSquashTwice.l0 k bt440.1 bt440.2.1 bt440.2.2 t447 0) else (none))))))
theorem laws_FnSquashTwice.mono_l : ∀ k, (∀ y0 y1 y2 y3 y4, LeO (laws_FnSquashTwice.l0 k y0 y1 y2 y3 y4) (laws_FnSquashTwice.l0 (k + 1) y0 y1 y2 y3 y4)) ∧ (∀ y0 y1 y2 y3 y4, LeO (laws_FnSquashTwice.l1 k y0 y1 y2 y3 y4) (laws_FnSquashTwice.l1 (k + 1) y0 y1 y2 y3 y4))
  | 0 => ⟨fun _ _ _ _ _ r h => by simp [laws_FnSquashTwice.l0] at h, fun _ _ _ _ _ r h => by simp [laws_FnSquashTwice.l1] at h⟩
  | k + 1 => by
    obtain ⟨ih0, ih1⟩ := laws_FnSquashTwice.mono_l k
    refine ⟨?_, ?_⟩
    · intro y0 y1 y2 y3 y4
      unfold laws_FnSquashTwice.l0
      repeat' first
      | (with_reducible exact ih0 _ _ _ _ _)
      | (with_reducible exact ih1 _ _ _ _ _)
      | (with_reducible exact impl_EntryOk.mono _ _ _ _ _ _)
      | (with_reducible exact impl_Squash.mono _ _ _ _)
      | (with_reducible exact laws_wpEnts.mono _ _ _)
      | (with_reducible exact spec_DrawSquash.mono _ _)
      | (with_reducible exact spec_Squash.mono _ _ _ _)
      | (with_reducible exact LeO.refl _)
      | (with_reducible exact LeO.none _)
      | (with_reducible refine LeO.ite ?_ ?_)
      | (with_reducible refine LeO.bind ?_ (fun _ => ?_))
      | exact ih0 _ _ _ _ _
      | exact ih1 _ _ _ _ _
      | exact impl_EntryOk.mono _ _ _ _ _ _
      | exact impl_Squash.mono _ _ _ _
      | exact laws_wpEnts.mono _ _ _
      | exact spec_DrawSquash.mono _ _
      | exact spec_Squash.mono _ _ _ _
      | exact LeO.none _
      | refine LeO.ite ?_ ?_
      | refine LeO.bind ?_ (fun _ => ?_)
    · intro y0 y1 y2 y3 y4
      unfold laws_FnSquashTwice.l1
      repeat' first
      | (with_reducible exact ih0 _ _ _ _ _)
      | (with_reducible exact ih1 _ _ _ _ _)
      | (with_reducible exact impl_EntryOk.mono _ _ _ _ _ _)
      | (with_reducible exact impl_Squash.mono _ _ _ _)
      | (with_reducible exact laws_wpEnts.mono _ _ _)
      | (with_reducible exact spec_DrawSquash.mono _ _)
      | (with_reducible exact spec_Squash.mono _ _ _ _)
      | (with_reducible exact LeO.refl _)
      | (with_reducible exact LeO.none _)
      | (with_reducible refine LeO.ite ?_ ?_)
      | (with_reducible refine LeO.bind ?_ (fun _ => ?_))
      | exact ih0 _ _ _ _ _
      | exact ih1 _ _ _ _ _
      | exact impl_EntryOk.mono _ _ _ _ _ _
      | exact impl_Squash.mono _ _ _ _
      | exact laws_wpEnts.mono _ _ _
      | exact spec_DrawSquash.mono _ _
      | exact spec_Squash.mono _ _ _ _
      | exact LeO.none _
      | refine LeO.ite ?_ ?_
      | refine LeO.bind ?_ (fun _ => ?_)
theorem laws_FnSquashTwice.mono : ∀ a0 k, LeO (laws_FnSquashTwice.f k a0) (laws_FnSquashTwice.f (k + 1) a0) := by
  intro a0 k
  obtain ⟨ih0, ih1⟩ := laws_FnSquashTwice.mono_l k
  unfold laws_FnSquashTwice.f
  repeat' first
      | (with_reducible exact ih0 _ _ _ _ _)
      | (with_reducible exact ih1 _ _ _ _ _)
      | (with_reducible exact impl_EntryOk.mono _ _ _ _ _ _)
      | (with_reducible exact impl_Squash.mono _ _ _ _)
      | (with_reducible exact laws_wpEnts.mono _ _ _)
      | (with_reducible exact spec_DrawSquash.mono _ _)
      | (with_reducible exact spec_Squash.mono _ _ _ _)
      | (with_reducible exact LeO.refl _)
      | (with_reducible exact LeO.none _)
      | (with_reducible refine LeO.ite ?_ ?_)
      | (with_reducible refine LeO.bind ?_ (fun _ => ?_))
      | exact ih0 _ _ _ _ _
      | exact ih1 _ _ _ _ _
      | exact impl_EntryOk.mono _ _ _ _ _ _
      | exact impl_Squash.mono _ _ _ _
      | exact laws_wpEnts.mono _ _ _
      | exact spec_DrawSquash.mono _ _
      | exact spec_Squash.mono _ _ _ _
      | exact LeO.none _
      | refine LeO.ite ?_ ?_
      | refine LeO.bind ?_ (fun _ => ?_)
def laws_FnSquashTwice.T10 : Bool × List (List Nat × List Nat) := (true, [([], []), ([], []), ([0, 1], [0, 1]), ([2], [2]), ([3], [3]), ([4], [4]), ([5, 4], [5]), ([6], [6]), ([7, 6], [6, 7]), ([8, 6, 6], [6, 8]), ([9], [9]), ([9], [9]), ([11, 9], [9, 11]), ([10, 12, 9], [9, 10, 12]), ([13, 9], [9, 13]), ([9], [9]), ([9], [9]), ([15, 16, 9], [9, 15, 16]), ([17, 9], [9, 17]), ([14, 18, 9, 9], [9, 14, 18]), ([19, 9], [9, 19]), ([9, 20, 6], [6, 9, 20]), ([6, 21], [6, 21]), ([22, 19], [22]), ([23], [23]), ([23], [23]), ([24, 25, 23], [23, 24, 25]), ([26, 23], [23, 26]), ([27, 23], [23, 27]), ([28, 23], [23, 28]), ([23, 29], [23, 29]), ([30, 23], [30]), ([31], [31]), ([31], [31]), ([32, 33, 31], [31, 32, 33]), ([34, 31], [31, 34]), ([35, 31], [31, 35]), ([36, 31], [31, 36]), ([31, 37], [31, 37])])
def laws_FnSquashTwice.B10 : List Nat := [0, 0, 3, 7, 15, 31, 63, 127, 255, 511, 1023, 1023, 3071, 8191, 16383, 1023, 1023, 99327, 230399, 524287, 1048575, 2097151, 4194303, 8388607, 16777215, 16777215, 67108863, 134217727, 268435455, 536870911, 1073741823, 2147483647, 4294967295, 4294967295, 17179869183, 34359738367, 68719476735, 137438953471, 274877906943]
theorem laws_FnSquashTwice.tab10 : rtab .any (opsOf Try.f7 10) = laws_FnSquashTwice.T10 := by kernel_rfl
theorem laws_FnSquashTwice.bits10 : waitsOk laws_FnSquashTwice.T10.2 laws_FnSquashTwice.B10 = true := by kernel_rfl
def laws_FnSquashTwice.T16 : Bool × List (List Nat × List Nat) := (true, [([], []), ([], []), ([0, 1], [0, 1]), ([2], [2]), ([3], [3]), ([], []), ([], []), ([6], [6]), ([5, 7], [5, 7]), ([8], [8]), ([9], [9]), ([4, 10], [4, 10])])
def laws_FnSquashTwice.B16 : List Nat := [0, 0, 3, 7, 15, 0, 0, 64, 224, 480, 992, 2047]
theorem laws_FnSquashTwice.tab16 : rtab .any (opsOf Try.f7 16) = laws_FnSquashTwice.T16 := by kernel_rfl
theorem laws_FnSquashTwice.bits16 : waitsOk laws_FnSquashTwice.T16.2 laws_FnSquashTwice.B16 = true := by kernel_rfl
theorem laws_FnSquashTwice_auHB {q : Prop} (h : q := by (repeat (first | (with_reducible first | exact HB.out | apply below_alloc | apply pw_below_drewN | apply below_drew1) | exact HB.out))) : q := h
set_option maxHeartbeats 8000000 in
set_option maxRecDepth 100000 in
theorem laws_FnSquashTwice.calls (k : Nat) (A0 : Option Addr) (c0 : Nat) (l0 : List Int) (r : Bool) (w : World) (hr0 : Kd.C (Kd.int .u8) w A0 l0.length l0) (hc0 : l0.length ≤ c0) (h : laws_FnSquashTwice.f k l0 = some r) :
  Calls Try.prog 7 #[.slice A0 l0.length c0] w fun e w' => e = .returned (.bool r) ∧ Below w.heap.size w w' := by
 have hu48 := Try.underlying48
 have HR0 := Aside0.mk hr0
 have HC0 := Aside0.mk hc0
 clear hr0 hc0
 have HB := Aside0.mk (Below.refl w.heap.size w)
 have H : (if (l0.length : Int) > 1048576 then (some true) else ((spec_DrawSquash.f k l0).bind fun bt440 => ((impl_Squash.f k bt440.1 bt440.2.1 bt440.2.2).bind fun t447 => ((spec_Squash.f k bt440.1 bt440.2.1 bt440.2.2).bind fun t450 => ((laws_wpEnts.f k t447 t450).bind fun t453 => (if t453 = true then (laws_FnSquashTwice.l0 k bt440.1 bt440.2.1 bt440.2.2 t447 0) else (none))))))) = some r := h
 clear h
 by_cases c2 : (l0.length : Int) > 1048576
 ·
  rw [if_pos c2] at H
  have c2b0 : decide (1048576 < (l0.length : Int)) = true := decide_eq_true c2
  have c2b1 : decide (1048576 < l0.length) = true := decide_eq_true (by omega)
  clear c2
  obtain rfl := Option.some.inj H
  go_enter Try.func7, Try.ntmps7
  go_wp2
  go_ret
  exact ⟨by first | rfl | (simp [errW_none, errW_some] <;> rfl) | (simp [*, errW_none, errW_some] <;> rfl), laws_FnSquashTwice_auHB⟩
 rw [if_neg c2] at H
 have c2b0 : decide (1048576 < (l0.length : Int)) = false := decide_eq_false c2
 have c2b1 : decide (1048576 < l0.length) = false := decide_eq_false (by omega)
 clear c2
 replace H := Option.bind_eq_some_iff.mp H
 obtain ⟨⟨t440, t441, t442⟩, A30, H⟩ := H
 replace H : ((impl_Squash.f k t440 t441 t442).bind fun t447 => ((spec_Squash.f k t440 t441 t442).bind fun t450 => ((laws_wpEnts.f k t447 t450).bind fun t453 => (if t453 = true then (laws_FnSquashTwice.l0 k t440 t441 t442 t447 0) else (none))))) = some r := H
 have A3 := Aside0.mk A30
 clear A30
 replace H := Option.bind_eq_some_iff.mp H
 obtain ⟨t447, A40, H⟩ := H
 replace H : ((spec_Squash.f k t440 t441 t442).bind fun t450 => ((laws_wpEnts.f k t447 t450).bind fun t453 => (if t453 = true then (laws_FnSquashTwice.l0 k t440 t441 t442 t447 0) else (none)))) = some r := H
 have A4 := Aside0.mk A40
 clear A40
 replace H := Option.bind_eq_some_iff.mp H
 obtain ⟨t450, A50, H⟩ := H
 replace H : ((laws_wpEnts.f k t447 t450).bind fun t453 => (if t453 = true then (laws_FnSquashTwice.l0 k t440 t441 t442 t447 0) else (none))) = some r := H
 have A5 := Aside0.mk A50
 clear A50
 replace H := Option.bind_eq_some_iff.mp H
 obtain ⟨t453, A60, H⟩ := H
 replace H : (if t453 = true then (laws_FnSquashTwice.l0 k t440 t441 t442 t447 0) else (none)) = some r := H
 have A6 := Aside0.mk A60
 clear A60
 by_cases c7 : t453 = true
 rotate_left
 ·
  replace c7 := Bool.eq_false_iff.mpr c7
  subst c7
  have H1 : (none) = some r := by rw [if_neg (show ¬ (false = true) by decide)] at H; exact H
  clear H
  have H := H1
  clear H1
  exact absurd H (by simp)
 subst c7
 have H1 : (laws_FnSquashTwice.l0 k t440 t441 t442 t447 0) = some r := by rw [if_pos rfl] at H; exact H
 clear H
 have H := H1
 clear H1
 have H' := Aside0.mk H
 clear H
 go_enter Try.func7, Try.ntmps7
 go_wp2_with (first | ((with_reducible refine gate_callee (f := 29) rfl ?_); refine goesL_ (some 15) rfl rfl Try.func29 (by kernel_rfl) rfl #[.slice A0 l0.length c0] rfl (by (try simp only [List.map_toArray, List.map_cons, List.map_nil]); first | done | rfl | (simp only [List.length_drop, List.length_take]; rfl)) ?_; (with_reducible refine (spec_DrawSquash.calls k _ _ l0 t440 t441 t442 _ ?side1 ?side2 A3.out).mono ?_); (case side1 => exact co_ HR0.out); (case side2 => exact HC0.out); rintro e w8 ⟨v443, v445, rfl, ho0, ho1, hb⟩; refine ⟨_, rfl, ?_⟩; have HO444 := Aside0.mk (Kd.R_lower ho0 (below_size (laws_FnSquashTwice_auHB))); have HO446 := Aside0.mk (Kd.R_lower ho1 (below_size (laws_FnSquashTwice_auHB))); replace HB := Aside0.mk (below_step (laws_FnSquashTwice_auHB) hb); (try clear hb); (try clear hb2); (try clear hk); (try clear hi); (try clear ho0); (try clear ho1); obtain ⟨Ao9, co9, eo9⟩ := Kd.R_slice HO444.out; subst eo9; obtain ⟨Ao10, co10, eo10⟩ := Kd.R_slice HO446.out; subst eo10) | ((with_reducible refine gate_callee (f := 13) rfl ?_); refine goesL_ (some 22) rfl rfl Try.func13 (by kernel_rfl) rfl #[.slice Ao9 t440.length co9, .slice Ao10 t441.length co10, .bool t442] rfl (by (try simp only [List.map_toArray, List.map_cons, List.map_nil]); first | done | rfl | (simp only [List.length_drop, List.length_take]; rfl)) ?_; (with_reducible refine (impl_Squash.calls k _ _ t440 _ _ t441 t442 t447 _ ?side1 ?side2 ?side3 ?side4 A4.out).mono ?_); (case side1 => exact co_ (Kd.R_reads' HO444.out).2.2); (case side2 => exact (Kd.R_reads' HO444.out).2.1); (case side3 => exact co_ (Kd.R_reads' HO446.out).2.2); (case side4 => exact (Kd.R_reads' HO446.out).2.1); rintro e w11 ⟨v448, rfl, ho0, hb⟩; refine ⟨_, rfl, ?_⟩; replace HO446 := Aside0.mk (Kd.R_below (lo_ HO446) hb); have HO449 := Aside0.mk (Kd.R_lower (Kd.R_new' ho0 (Kd.R_lt (lo_ HO444))) (below_size (laws_FnSquashTwice_auHB))); replace HO444 := Aside0.mk (Kd.R_elder' (lo_ HO444) (Kd.R_base ho0) hb); replace HB := Aside0.mk (below_step (laws_FnSquashTwice_auHB) hb); (try clear hb); (try clear hb2); (try clear hk); (try clear hi); (try clear ho0)) | ((with_reducible refine gate_callee (f := 10) rfl ?_); refine goesL_ (some 27) rfl rfl Try.func10 (by kernel_rfl) rfl #[.slice Ao9 t440.length co9, .slice Ao10 t441.length co10, .bool t442] rfl (by (try simp only [List.map_toArray, List.map_cons, List.map_nil]); first | done | rfl | (simp only [List.length_drop, List.length_take]; rfl)) ?_; (with_reducible refine (spec_Squash.calls k _ _ t440 _ _ t441 t442 t450 _ ?side1 ?side2 ?side3 ?side4 A5.out).mono ?_); (case side1 => exact co_ (Kd.R_reads' HO444.out).2.2); (case side2 => exact (Kd.R_reads' HO444.out).2.1); (case side3 => exact co_ (Kd.R_reads' HO446.out).2.2); (case side4 => exact (Kd.R_reads' HO446.out).2.1); rintro e w12 ⟨v451, rfl, ho0, hb⟩; refine ⟨_, rfl, ?_⟩; replace HO446 := Aside0.mk (Kd.R_below (lo_ HO446) hb); have HO452 := Aside0.mk (Kd.R_lower (Kd.R_new' (Kd.R_new' ho0 (Kd.R_lt (lo_ HO444))) (Kd.R_lt (lo_ HO449))) (below_size (laws_FnSquashTwice_auHB))); replace HO444 := Aside0.mk (Kd.R_elder' (lo_ HO444) (Kd.R_base ho0) hb); replace HO449 := Aside0.mk (Kd.R_elder' (lo_ HO449) (Kd.R_base ho0) hb); replace HB := Aside0.mk (below_step (laws_FnSquashTwice_auHB) hb); (try clear hb); (try clear hb2); (try clear hk); (try clear hi); (try clear ho0); obtain ⟨Ao13, co13, eo13⟩ := Kd.R_slice HO449.out; subst eo13; obtain ⟨Ao14, co14, eo14⟩ := Kd.R_slice HO452.out; subst eo14) | ((with_reducible refine gate_callee (f := 26) rfl ?_); refine goesL_ (some 28) rfl rfl Try.func26 (by kernel_rfl) rfl #[.slice Ao13 t447.length co13, .slice Ao14 t450.length co14] rfl (by (try simp only [List.map_toArray, List.map_cons, List.map_nil]); first | done | rfl | (simp only [List.length_drop, List.length_take]; rfl)) ?_; (with_reducible refine (laws_wpEnts.calls k _ _ t447 _ _ t450 true _ ?side1 ?side2 ?side3 ?side4 A6.out).mono ?_); (case side1 => exact co_ (Kd.R_reads' HO449.out).2.2); (case side2 => exact (Kd.R_reads' HO449.out).2.1); (case side3 => exact co_ (Kd.R_reads' HO452.out).2.2); (case side4 => exact (Kd.R_reads' HO452.out).2.1); rintro e w' ⟨rfl, ⟨nd, rfl⟩⟩; refine ⟨_, rfl, ?_⟩))
 (try simp only [Act.put, List.setIfInBounds_toArray, List.set_cons_zero, List.set_cons_succ])
 go_loopg [7] k (fun kq v7 w' => ∃ (x7_1 : Int), v7 = .int .i64 x7_1 ∧ Aside0 (laws_FnSquashTwice.l0 kq t440 t441 t442 t447 x7_1 = some r) ∧ Aside0 (kq ≤ k) ∧ Aside0 (Kd.R k48 48 w' w.heap.size (fun k_ => some k_ ≠ ((.slice Ao13 t447.length co13) : Value).ownBlock) (.slice Ao9 t440.length co9) t440) ∧ Aside0 (Kd.R (Kd.int .i64) 3 w' w.heap.size (fun _ => True) (.slice Ao10 t441.length co10) t441) ∧ Aside0 (Kd.R k48 48 w' w.heap.size (fun k_ => some k_ ≠ ((.slice Ao9 t440.length co9) : Value).ownBlock) (.slice Ao13 t447.length co13) t447) ∧ Aside0 (Below w.heap.size w w'))
 case atStart => exact ⟨(0), (by first | rfl | (simp; done) | (simp [*]; done)), H', ⟨Nat.le_refl _⟩, ⟨by (with_reducible repeat (first | apply Kd.R_alloc | apply Kd.R_drewN | apply Kd.R_drew)); exact Kd.R_mono HO444.out (fun _ hk => hk.1.2)⟩, ⟨by (with_reducible repeat (first | apply Kd.R_alloc | apply Kd.R_drewN | apply Kd.R_drew)); exact HO446.out⟩, ⟨by (with_reducible repeat (first | apply Kd.R_alloc | apply Kd.R_drewN | apply Kd.R_drew)); exact Kd.R_mono HO449.out (fun _ hk => hk.1.2)⟩, ⟨laws_FnSquashTwice_auHB⟩⟩
 case round =>
  clear H'
  try clear c1
  try clear c2
  try clear c2b0
  try clear c2b1
  try clear p2
  try clear c7
  try clear c10
  try clear c13
  obtain ⟨x7_1, rfl, HA, HK1, HO_3, HO_4, HO_6, HB⟩ := hrel
  cases gk with
  | zero => exact absurd HA.out (by simp [laws_FnSquashTwice.l0])
  | succ k1 =>
   have H := HA.out
   clear HA
   simp only [laws_FnSquashTwice.l0] at H
   by_cases c15 : x7_1 < (t447.length : Int)
   rotate_left
   ·
    rw [if_neg c15] at H
    have c15b0 : decide (x7_1 < (t447.length : Int)) = false := decide_eq_false c15
    clear c15
    replace H := Option.bind_eq_some_iff.mp H
    obtain ⟨t466, A440, H⟩ := H
    replace H : (laws_FnSquashTwice.l1 k1 t441 t442 t447 t466 1) = some r := H
    have A44 := Aside0.mk A440
    clear A440
    have H' := Aside0.mk H
    clear H
    go_wp2_with (first | ((with_reducible refine gate_callee (f := 13) rfl ?_); refine goesL_ (some 94) rfl rfl Try.func13 (by kernel_rfl) rfl #[.slice Ao13 t447.length co13, .slice none 0 0, .bool t442] rfl (by (try simp only [List.map_toArray, List.map_cons, List.map_nil]); first | done | rfl | (simp only [List.length_drop, List.length_take]; rfl)) ?_; (refine (impl_Squash.calls k1 _ _ t447 _ _ ([] : List Int) t442 t466 _ ?side1 ?side2 ?side3 ?side4 A44.out).mono ?_); (case side1 => exact co_ (Kd.R_reads' HO_6.out).2.2); (case side2 => exact (Kd.R_reads' HO_6.out).2.1); (case side3 => exact Kd.C_nil _ _); (case side4 => exact Nat.le_refl _); rintro e w45 ⟨v467, rfl, ho0, hb⟩; refine ⟨_, rfl, ?_⟩; replace HO_4 := Aside0.mk (Kd.R_below (lo_ HO_4) hb); have HO468 := Aside0.mk (Kd.R_lower (Kd.R_new' (Kd.R_new' ho0 (Kd.R_lt (lo_ HO_3))) (Kd.R_lt (lo_ HO_6))) (below_size (laws_FnSquashTwice_auHB))); replace HO_3 := Aside0.mk (Kd.R_elder' (lo_ HO_3) (Kd.R_base ho0) hb); replace HO_6 := Aside0.mk (Kd.R_elder' (lo_ HO_6) (Kd.R_base ho0) hb); replace HB := Aside0.mk (below_step (laws_FnSquashTwice_auHB) hb); (try clear hb); (try clear hb2); (try clear hk); (try clear hi); (try clear ho0)))
    (try simp only [Act.put, List.setIfInBounds_toArray, List.set_cons_zero, List.set_cons_succ])
    go_loopg [9] k1 (fun kq v9 w' => ∃ (x9_2 : Int), v9 = .int .i64 x9_2 ∧ Aside0 (laws_FnSquashTwice.l1 kq t441 t442 t447 t466 x9_2 = some r) ∧ Aside0 (kq ≤ k1) ∧ Aside0 (Kd.R (Kd.int .i64) 3 w' w.heap.size (fun _ => True) (.slice Ao10 t441.length co10) t441) ∧ Aside0 (Kd.R k48 48 w' w.heap.size (fun k_ => some k_ ≠ (v467 : Value).ownBlock) (.slice Ao13 t447.length co13) t447) ∧ Aside0 (Kd.R k48 48 w' w.heap.size (fun k_ => some k_ ≠ ((.slice Ao13 t447.length co13) : Value).ownBlock) v467 t466) ∧ Aside0 (Below w.heap.size w w'))
    case atStart => exact ⟨(1), (by first | rfl | (simp; done) | (simp [*]; done)), H', ⟨Nat.le_refl _⟩, ⟨by (with_reducible repeat (first | apply Kd.R_alloc | apply Kd.R_drewN | apply Kd.R_drew)); exact HO_4.out⟩, ⟨by (with_reducible repeat (first | apply Kd.R_alloc | apply Kd.R_drewN | apply Kd.R_drew)); exact Kd.R_mono HO_6.out (fun _ hk => hk.2)⟩, ⟨by (with_reducible repeat (first | apply Kd.R_alloc | apply Kd.R_drewN | apply Kd.R_drew)); exact Kd.R_mono HO468.out (fun _ hk => hk.2)⟩, ⟨laws_FnSquashTwice_auHB⟩⟩
    case round =>
     clear H'
     try clear c1
     try clear p2
     try clear c3
     try clear p4
     try clear q4
     try clear hx4
     try clear qi4
     try clear p6
     try clear c13
     try clear c15
     try clear c15b0
     try clear c16
     try clear c18
     try clear c30
     try clear c36
     try clear c36b0
     try clear c37
     try clear c38
     try clear p45
     try clear q45
     try clear hx45
     try clear hx454_0
     try clear hx454_1
     try clear hx454_2
     try clear hx454_3
     try clear hx454_4
     try clear hx461_0
     try clear hx461_1
     try clear hx461_2
     try clear hx461_3
     try clear hx461_4
     try clear hx463_0
     try clear hx463_1
     try clear hx463_2
     try clear hx463_3
     try clear hx463_4
     try clear hx464_0
     try clear hx464_1
     try clear hx464_2
     try clear hx464_3
     try clear hx464_4
     try clear hx465_0
     try clear hx465_1
     try clear hx465_2
     try clear hx465_3
     try clear hx465_4
     try clear p454
     try clear p461
     try clear p463
     try clear p464
     try clear p465
     try clear q454
     try clear q461
     try clear q463
     try clear q464
     try clear q465
     obtain ⟨x9_2, rfl, HA, HK2, HO_4, HO_6, HO_8, HB⟩ := hrel
     cases gk with
     | zero => exact absurd HA.out (by simp [laws_FnSquashTwice.l1])
     | succ k2 =>
      have H := HA.out
      clear HA
      simp only [laws_FnSquashTwice.l1] at H
      by_cases c46 : x9_2 < (t466.length : Int)
      rotate_left
      ·
       rw [if_neg c46] at H
       have c46b0 : decide (x9_2 < (t466.length : Int)) = false := decide_eq_false c46
       clear c46
       replace H := Option.bind_eq_some_iff.mp H
       obtain ⟨t471, A540, H⟩ := H
       replace H : ((laws_wpEnts.f k2 t471 t447).bind fun t474 => (some t474)) = some r := H
       have A54 := Aside0.mk A540
       clear A540
       replace H := Option.bind_eq_some_iff.mp H
       obtain ⟨t474, A550, H⟩ := H
       replace H : (some t474) = some r := H
       have A55 := Aside0.mk A550
       clear A550
       obtain rfl := Option.some.inj H
       obtain ⟨Ao56, co56, eo56⟩ := Kd.R_slice HO_8.out
       subst eo56
       go_wp2_with (first | ((with_reducible refine gate_callee (f := 13) rfl ?_); refine goesL_ (some 116) rfl rfl Try.func13 (by kernel_rfl) rfl #[.slice Ao13 t447.length co13, .slice Ao10 t441.length co10, .bool t442] rfl (by (try simp only [List.map_toArray, List.map_cons, List.map_nil]); first | done | rfl | (simp only [List.length_drop, List.length_take]; rfl)) ?_; (with_reducible refine (impl_Squash.calls k2 _ _ t447 _ _ t441 t442 t471 _ ?side1 ?side2 ?side3 ?side4 A54.out).mono ?_); (case side1 => exact co_ (Kd.R_reads' HO_6.out).2.2); (case side2 => exact (Kd.R_reads' HO_6.out).2.1); (case side3 => exact co_ (Kd.R_reads' HO_4.out).2.2); (case side4 => exact (Kd.R_reads' HO_4.out).2.1); rintro e w57 ⟨v472, rfl, ho0, hb⟩; refine ⟨_, rfl, ?_⟩; replace HO_4 := Aside0.mk (Kd.R_below (lo_ HO_4) hb); have HO473 := Aside0.mk (Kd.R_lower (Kd.R_new' (Kd.R_new' ho0 (Kd.R_lt (lo_ HO_6))) (Kd.R_lt (lo_ HO_8))) (below_size (laws_FnSquashTwice_auHB))); replace HO_6 := Aside0.mk (Kd.R_elder' (lo_ HO_6) (Kd.R_base ho0) hb); replace HO_8 := Aside0.mk (Kd.R_elder' (lo_ HO_8) (Kd.R_base ho0) hb); replace HB := Aside0.mk (below_step (laws_FnSquashTwice_auHB) hb); (try clear hb); (try clear hb2); (try clear hk); (try clear hi); (try clear ho0); obtain ⟨Ao58, co58, eo58⟩ := Kd.R_slice HO473.out; subst eo58) | ((with_reducible refine gate_callee (f := 26) rfl ?_); refine goesL_ (some 118) rfl rfl Try.func26 (by kernel_rfl) rfl #[.slice Ao58 t471.length co58, .slice Ao13 t447.length co13] rfl (by (try simp only [List.map_toArray, List.map_cons, List.map_nil]); first | done | rfl | (simp only [List.length_drop, List.length_take]; rfl)) ?_; (with_reducible refine (laws_wpEnts.calls k2 _ _ t471 _ _ t447 t474 _ ?side1 ?side2 ?side3 ?side4 A55.out).mono ?_); (case side1 => exact co_ (Kd.R_reads' HO473.out).2.2); (case side2 => exact (Kd.R_reads' HO473.out).2.1); (case side3 => exact co_ (Kd.R_reads' HO_6.out).2.2); (case side4 => exact (Kd.R_reads' HO_6.out).2.1); rintro e w' ⟨rfl, ⟨nd, rfl⟩⟩; refine ⟨_, rfl, ?_⟩))
       go_ret
       exact ⟨by first | rfl | (simp [errW_none, errW_some] <;> rfl) | (simp [*, errW_none, errW_some] <;> rfl), laws_FnSquashTwice_auHB⟩
      rw [if_pos c46] at H
      have c46b0 : decide (x9_2 < (t466.length : Int)) = true := decide_eq_true c46
      clear c46
      by_cases c47 : 0 ≤ x9_2
      rotate_left
      ·
       rw [if_neg c47] at H
       exact absurd H (by simp)
      rw [if_pos c47] at H
      have c47b0 : decide (0 ≤ x9_2) = true := decide_eq_true c47
      clear c47
      obtain ⟨ji48, hji48⟩ : ∃ j_ : Int, (wrap64 (x9_2 - 1)) = j_ := ⟨_, rfl⟩
      replace H : (if 0 ≤ (ji48) then (if (ji48) < (t466.length : Int) then (if ((rd_T48 t466 x9_2).f0).toList = ((rd_T48 t466 (ji48)).f0).toList then (none) else (laws_FnSquashTwice.l1 k2 t441 t442 t447 t466 (wrap64 (x9_2 + 1)))) else (none)) else (none)) = some r := by first | (rw [hji48] at H; exact H) | (simp only [hji48] at H ⊢; exact H)
      have hji48w : (IntKind.i64.wrap (x9_2 - 1)) = ji48 := (i64_w _).trans hji48
      by_cases c49 : 0 ≤ (ji48)
      rotate_left
      ·
       rw [if_neg c49] at H
       exact absurd H (by simp)
      rw [if_pos c49] at H
      have c49b0 : decide (0 ≤ (ji48)) = true := decide_eq_true c49
      clear c49
      by_cases c50 : (ji48) < (t466.length : Int)
      rotate_left
      ·
       rw [if_neg c50] at H
       exact absurd H (by simp)
      rw [if_pos c50] at H
      have c50b0 : decide ((ji48) < (t466.length : Int)) = true := decide_eq_true c50
      clear c50
      by_cases c51 : ((rd_T48 t466 x9_2).f0).toList = ((rd_T48 t466 (ji48)).f0).toList
      ·
       rw [if_pos c51] at H
       exact absurd H (by simp)
      rw [if_neg c51] at H
      have c51b0 : (((rd_T48 t466 x9_2).f0).toList == ((rd_T48 t466 (ji48)).f0).toList) = false := beq_eq_false_iff_ne.mpr c51
      have c51b1 : (((rd_T48 t466 x9_2).f0).toList != ((rd_T48 t466 (ji48)).f0).toList) = true := bne_iff_ne.mpr c51
      have H' := Aside0.mk H
      clear H
      obtain ⟨Ao52, co52, eo52⟩ := Kd.R_slice HO_8.out
      subst eo52
      try go_wp2
      replace HO_4 := Aside0.mk (Kd.R_drew HO_4.out)
      replace HO_6 := Aside0.mk (Kd.R_drew HO_6.out)
      replace HO_8 := Aside0.mk (Kd.R_drew HO_8.out)
      replace HB := Aside0.mk (below_drew1 HB.out)
      have p469 : 0 ≤ (x9_2 : Int) := of_decide_eq_true (by first | (with_reducible assumption) | assumption)
      have q469 : x9_2 < (t466.length : Int) := of_decide_eq_true (by first | (with_reducible assumption) | assumption)
      obtain ⟨ad469, e469, hx469_0, hx469_1, hx469_2, hx469_3, hx469_4⟩ := at_T48 (Kd.R_reads' HO_8.out).2.2 x9_2 p469 q469
      cases e469
      replace p469 := eq_true p469
      replace q469 := eq_true q469
      have p470 : 0 ≤ ((ji48) : Int) := of_decide_eq_true (by first | (with_reducible assumption) | assumption)
      have q470 : (ji48) < (t466.length : Int) := of_decide_eq_true (by first | (with_reducible assumption) | assumption)
      obtain ⟨ad470, e470, hx470_0, hx470_1, hx470_2, hx470_3, hx470_4⟩ := at_T48 (Kd.R_reads' HO_8.out).2.2 (ji48) p470 q470
      obtain rfl : ad469 = ad470 := (by injection e470)
      replace p470 := eq_true p470
      replace q470 := eq_true q470
      refine start_ (n := 12) (S := fun w' => w'.cell? (ad469.add ((x9_2).toNat * 5)) = some (.string ((rd_T48 t466 x9_2).f0)) ∧ w'.cell? ⟨(ad469.add ((x9_2).toNat * 5)).block, (ad469.add ((x9_2).toNat * 5)).off + 1, none⟩ = some (.int .i64 ((rd_T48 t466 x9_2).f1)) ∧ w'.cell? ⟨(ad469.add ((x9_2).toNat * 5)).block, (ad469.add ((x9_2).toNat * 5)).off + 2, none⟩ = some (.int .i64 ((rd_T48 t466 x9_2).f2)) ∧ w'.cell? ⟨(ad469.add ((x9_2).toNat * 5)).block, (ad469.add ((x9_2).toNat * 5)).off + 3, none⟩ = some (.string ((rd_T48 t466 x9_2).f3)) ∧ w'.cell? ⟨(ad469.add ((x9_2).toNat * 5)).block, (ad469.add ((x9_2).toNat * 5)).off + 4, none⟩ = some (.int .i64 ((rd_T48 t466 x9_2).f4)) ∧ w'.cell? (ad469.add (((ji48)).toNat * 5)) = some (.string ((rd_T48 t466 (ji48)).f0)) ∧ w'.cell? ⟨(ad469.add (((ji48)).toNat * 5)).block, (ad469.add (((ji48)).toNat * 5)).off + 1, none⟩ = some (.int .i64 ((rd_T48 t466 (ji48)).f1)) ∧ w'.cell? ⟨(ad469.add (((ji48)).toNat * 5)).block, (ad469.add (((ji48)).toNat * 5)).off + 2, none⟩ = some (.int .i64 ((rd_T48 t466 (ji48)).f2)) ∧ w'.cell? ⟨(ad469.add (((ji48)).toNat * 5)).block, (ad469.add (((ji48)).toNat * 5)).off + 3, none⟩ = some (.string ((rd_T48 t466 (ji48)).f3)) ∧ w'.cell? ⟨(ad469.add (((ji48)).toNat * 5)).block, (ad469.add (((ji48)).toNat * 5)).off + 4, none⟩ = some (.int .i64 ((rd_T48 t466 (ji48)).f4))) (ds := []) #[false, false, false, false, false, false, false, false, false, false, false, false] (by kernel_rfl) rfl rfl ⟨hx469_0, hx469_1, hx469_2, hx469_3, hx469_4, hx470_0, hx470_1, hx470_2, hx470_3, hx470_4⟩ (fun hHeld => ?_); refine with_tabW laws_FnSquashTwice.tab16 laws_FnSquashTwice.bits16 (fun HT_ HW_ => ?_)
      generalize wr.drew = w53 at HO_4 HO_6 HO_8 HB hx469_0 hx469_1 hx469_2 hx469_3 hx469_4 hx470_0 hx470_1 hx470_2 hx470_3 hx470_4 hHeld ⊢
      refine pu_ 0 (some 101) HT_ rfl rfl (by go_simp; rfl) (by kernel_rfl) rfl (by intro w'; go_simp; with_reducible rfl) (fun _ _ _ h => h) (by go_simp; rfl) ?_
      refine pu_ 1 (some 102) HT_ rfl rfl (by go_simp; rfl) (by kernel_rfl) rfl (by intro w'; go_simp; with_reducible rfl) (fun _ _ _ h => h) (by go_simp; rfl) ?_
      refine pu_ 2 (some 103) HT_ rfl rfl (by go_simp; rfl) (by kernel_rfl) rfl (by intro w'; go_simp; with_reducible rfl) (fun _ _ _ h => h) (by go_simp; rfl) ?_
      refine pu_ 3 (some 104) HT_ rfl rfl (by go_simp; rfl) (by kernel_rfl) rfl (by intro w'; go_simp; with_reducible rfl) (fun _ _ _ h => h) (by go_simp; rfl) ?_
      refine pu_ 5 (some 106) HT_ rfl rfl (by go_simp; rfl) (by kernel_rfl) rfl (by intro w'; go_simp; with_reducible rfl) (fun _ _ _ h => h) (by go_simp; rfl) ?_
      refine pu_ 6 (some 107) HT_ rfl rfl (by go_simp; rfl) (by kernel_rfl) rfl (by intro w'; go_simp; with_reducible rfl) (fun _ _ _ h => h) (by go_simp; rfl) ?_
      refine pu_ 7 (some 108) HT_ rfl rfl (by go_simp; rfl) (by kernel_rfl) rfl (by intro w'; go_simp; with_reducible rfl) (fun _ _ _ h => h) (by go_simp; rfl) ?_
      refine pu_ 8 (some 109) HT_ rfl rfl (by go_simp; rfl) (by kernel_rfl) rfl (by intro w'; go_simp; with_reducible rfl) (fun _ _ _ h => h) (by go_simp; rfl) ?_
      refine pu_ 9 (some 110) HT_ rfl rfl (by go_simp; rfl) (by kernel_rfl) rfl (by intro w'; go_simp; with_reducible rfl) (fun _ _ _ h => h) (by go_simp; rfl) ?_
      refine ta_ 4 (some 105) HT_ HW_ hHeld rfl rfl (by go_simp; rfl) (by kernel_rfl) rfl (by rintro w' ⟨s0, s1, s2, s3, s4, s5, s6, s7, s8, s9⟩; go_simp; with_reducible rfl) (fun _ _ _ h => h) (by go_simp; rfl) ?_
      refine ta_ 10 (some 111) HT_ HW_ hHeld rfl rfl (by go_simp; rfl) (by kernel_rfl) rfl (by rintro w' ⟨s0, s1, s2, s3, s4, s5, s6, s7, s8, s9⟩; go_simp; with_reducible rfl) (fun _ _ _ h => h) (by go_simp; rfl) ?_
      refine pu_ 11 (some 112) HT_ rfl rfl (by go_simp; rfl) (by kernel_rfl) rfl (by intro w'; go_simp; with_reducible rfl) (fun _ _ _ h => h) (by go_simp; rfl) ?_
      refine done_ (done_of HT_.out (by kernel_rfl)) ?_
      try go_wp2
      go_roundg k2
      case measure => have := HK1.out; have := HK2.out; omega
      case rel => exact ⟨(wrap64 (x9_2 + 1)), (by first | rfl | (simp; done) | (simp [*]; done)), H', ⟨by have := HK1.out; have := HK2.out; omega⟩, ⟨by (with_reducible repeat (first | apply Kd.R_alloc | apply Kd.R_drewN | apply Kd.R_drew)); exact HO_4.out⟩, ⟨by (with_reducible repeat (first | apply Kd.R_alloc | apply Kd.R_drewN | apply Kd.R_drew)); exact HO_6.out⟩, ⟨by (with_reducible repeat (first | apply Kd.R_alloc | apply Kd.R_drewN | apply Kd.R_drew)); exact HO_8.out⟩, ⟨laws_FnSquashTwice_auHB⟩⟩
   rw [if_pos c15] at H
   have c15b0 : decide (x7_1 < (t447.length : Int)) = true := decide_eq_true c15
   clear c15
   by_cases c16 : 0 ≤ x7_1
   rotate_left
   ·
    rw [if_neg c16] at H
    exact absurd H (by simp)
   rw [if_pos c16] at H
   have c16b0 : decide (0 ≤ x7_1) = true := decide_eq_true c16
   clear c16
   replace H := Option.bind_eq_some_iff.mp H
   obtain ⟨t455, A170, H⟩ := H
   replace H : (if t455 = true then (if x7_1 > 0 then (if 0 ≤ (wrap64 (x7_1 - 1)) then (if (wrap64 (x7_1 - 1)) < (t447.length : Int) then ((impl_EntryLess.f ((rd_T48 t447 (wrap64 (x7_1 - 1))).f0) ((rd_T48 t447 (wrap64 (x7_1 - 1))).f1) ((rd_T48 t447 (wrap64 (x7_1 - 1))).f2) ((rd_T48 t447 (wrap64 (x7_1 - 1))).f3) ((rd_T48 t447 (wrap64 (x7_1 - 1))).f4) ((rd_T48 t447 x7_1).f0) ((rd_T48 t447 x7_1).f1) ((rd_T48 t447 x7_1).f2) ((rd_T48 t447 x7_1).f3) ((rd_T48 t447 x7_1).f4)).bind fun t458 => (if t458 = true then (if ((rd_T48 t447 x7_1).f4) > 2000 then (none) else (if ((rd_T48 t447 x7_1).f4) < (-2000) then (none) else (laws_FnSquashTwice.l0 k1 t440 t441 t442 t447 (wrap64 (x7_1 + 1))))) else (none))) else (none)) else (none)) else (if ((rd_T48 t447 x7_1).f4) > 2000 then (if (t440.length : Int) > 0 then (if 0 < (t440.length : Int) then (if ((rd_T48 t440 0).f4) > 2000 then (some true) else (none)) else (none)) else (none)) else (if ((rd_T48 t447 x7_1).f4) < (-2000) then (if (t440.length : Int) > 0 then (if 0 < (t440.length : Int) then (if ((rd_T48 t440 0).f4) > 2000 then (none) else (some (decide (((rd_T48 t440 0).f4) < (-2000))))) else (none)) else (none)) else (laws_FnSquashTwice.l0 k1 t440 t441 t442 t447 (wrap64 (x7_1 + 1)))))) else (none)) = some r := H
   have A17 := Aside0.mk A170
   clear A170
   by_cases c18 : t455 = true
   rotate_left
   ·
    replace c18 := Bool.eq_false_iff.mpr c18
    subst c18
    have H1 : (none) = some r := by rw [if_neg (show ¬ (false = true) by decide)] at H; exact H
    clear H
    have H := H1
    clear H1
    exact absurd H (by simp)
   subst c18
   have H1 : (if x7_1 > 0 then (if 0 ≤ (wrap64 (x7_1 - 1)) then (if (wrap64 (x7_1 - 1)) < (t447.length : Int) then ((impl_EntryLess.f ((rd_T48 t447 (wrap64 (x7_1 - 1))).f0) ((rd_T48 t447 (wrap64 (x7_1 - 1))).f1) ((rd_T48 t447 (wrap64 (x7_1 - 1))).f2) ((rd_T48 t447 (wrap64 (x7_1 - 1))).f3) ((rd_T48 t447 (wrap64 (x7_1 - 1))).f4) ((rd_T48 t447 x7_1).f0) ((rd_T48 t447 x7_1).f1) ((rd_T48 t447 x7_1).f2) ((rd_T48 t447 x7_1).f3) ((rd_T48 t447 x7_1).f4)).bind fun t458 => (if t458 = true then (if ((rd_T48 t447 x7_1).f4) > 2000 then (none) else (if ((rd_T48 t447 x7_1).f4) < (-2000) then (none) else (laws_FnSquashTwice.l0 k1 t440 t441 t442 t447 (wrap64 (x7_1 + 1))))) else (none))) else (none)) else (none)) else (if ((rd_T48 t447 x7_1).f4) > 2000 then (if (t440.length : Int) > 0 then (if 0 < (t440.length : Int) then (if ((rd_T48 t440 0).f4) > 2000 then (some true) else (none)) else (none)) else (none)) else (if ((rd_T48 t447 x7_1).f4) < (-2000) then (if (t440.length : Int) > 0 then (if 0 < (t440.length : Int) then (if ((rd_T48 t440 0).f4) > 2000 then (none) else (some (decide (((rd_T48 t440 0).f4) < (-2000))))) else (none)) else (none)) else (laws_FnSquashTwice.l0 k1 t440 t441 t442 t447 (wrap64 (x7_1 + 1)))))) = some r := by rw [if_pos rfl] at H; exact H
   clear H
   have H := H1
   clear H1
   by_cases c19 : x7_1 > 0
   ·
    rw [if_pos c19] at H
    have c19b0 : decide (0 < x7_1) = true := decide_eq_true c19
    clear c19
    obtain ⟨ji20, hji20⟩ : ∃ j_ : Int, (wrap64 (x7_1 - 1)) = j_ := ⟨_, rfl⟩
    replace H : (if 0 ≤ (ji20) then (if (ji20) < (t447.length : Int) then ((impl_EntryLess.f ((rd_T48 t447 (ji20)).f0) ((rd_T48 t447 (ji20)).f1) ((rd_T48 t447 (ji20)).f2) ((rd_T48 t447 (ji20)).f3) ((rd_T48 t447 (ji20)).f4) ((rd_T48 t447 x7_1).f0) ((rd_T48 t447 x7_1).f1) ((rd_T48 t447 x7_1).f2) ((rd_T48 t447 x7_1).f3) ((rd_T48 t447 x7_1).f4)).bind fun t458 => (if t458 = true then (if ((rd_T48 t447 x7_1).f4) > 2000 then (none) else (if ((rd_T48 t447 x7_1).f4) < (-2000) then (none) else (laws_FnSquashTwice.l0 k1 t440 t441 t442 t447 (wrap64 (x7_1 + 1))))) else (none))) else (none)) else (none)) = some r := by first | (rw [hji20] at H; exact H) | (simp only [hji20] at H ⊢; exact H)
    (try rw [hji20] at A17)
    have hji20w : (IntKind.i64.wrap (x7_1 - 1)) = ji20 := (i64_w _).trans hji20
    by_cases c21 : 0 ≤ (ji20)
    rotate_left
    ·
     rw [if_neg c21] at H
     exact absurd H (by simp)
    rw [if_pos c21] at H
    have c21b0 : decide (0 ≤ (ji20)) = true := decide_eq_true c21
    clear c21
    by_cases c22 : (ji20) < (t447.length : Int)
    rotate_left
    ·
     rw [if_neg c22] at H
     exact absurd H (by simp)
    rw [if_pos c22] at H
    have c22b0 : decide ((ji20) < (t447.length : Int)) = true := decide_eq_true c22
    clear c22
    replace H := Option.bind_eq_some_iff.mp H
    obtain ⟨t458, A230, H⟩ := H
    replace H : (if t458 = true then (if ((rd_T48 t447 x7_1).f4) > 2000 then (none) else (if ((rd_T48 t447 x7_1).f4) < (-2000) then (none) else (laws_FnSquashTwice.l0 k1 t440 t441 t442 t447 (wrap64 (x7_1 + 1))))) else (none)) = some r := H
    have A23 := Aside0.mk A230
    clear A230
    by_cases c24 : t458 = true
    rotate_left
    ·
     replace c24 := Bool.eq_false_iff.mpr c24
     subst c24
     have H1 : (none) = some r := by rw [if_neg (show ¬ (false = true) by decide)] at H; exact H
     clear H
     have H := H1
     clear H1
     exact absurd H (by simp)
    subst c24
    have H1 : (if ((rd_T48 t447 x7_1).f4) > 2000 then (none) else (if ((rd_T48 t447 x7_1).f4) < (-2000) then (none) else (laws_FnSquashTwice.l0 k1 t440 t441 t442 t447 (wrap64 (x7_1 + 1))))) = some r := by rw [if_pos rfl] at H; exact H
    clear H
    have H := H1
    clear H1
    by_cases c25 : ((rd_T48 t447 x7_1).f4) > 2000
    ·
     rw [if_pos c25] at H
     exact absurd H (by simp)
    rw [if_neg c25] at H
    have c25b0 : decide (2000 < ((rd_T48 t447 x7_1).f4)) = false := decide_eq_false c25
    clear c25
    by_cases c26 : ((rd_T48 t447 x7_1).f4) < (-2000)
    ·
     rw [if_pos c26] at H
     exact absurd H (by simp)
    rw [if_neg c26] at H
    have c26b0 : decide (((rd_T48 t447 x7_1).f4) < (-2000)) = false := decide_eq_false c26
    clear c26
    have H' := Aside0.mk H
    clear H
    try go_wp2
    replace HO_3 := Aside0.mk (Kd.R_drew HO_3.out)
    replace HO_4 := Aside0.mk (Kd.R_drew HO_4.out)
    replace HO_6 := Aside0.mk (Kd.R_drew HO_6.out)
    replace HB := Aside0.mk (below_drew1 HB.out)
    have p454 : 0 ≤ (x7_1 : Int) := of_decide_eq_true (by first | (with_reducible assumption) | assumption)
    have q454 : x7_1 < (t447.length : Int) := of_decide_eq_true (by first | (with_reducible assumption) | assumption)
    obtain ⟨ad454, e454, hx454_0, hx454_1, hx454_2, hx454_3, hx454_4⟩ := at_T48 (Kd.R_reads' HO_6.out).2.2 x7_1 p454 q454
    cases e454
    replace p454 := eq_true p454
    replace q454 := eq_true q454
    have p456 : 0 ≤ ((ji20) : Int) := of_decide_eq_true (by first | (with_reducible assumption) | assumption)
    have q456 : (ji20) < (t447.length : Int) := of_decide_eq_true (by first | (with_reducible assumption) | assumption)
    obtain ⟨ad456, e456, hx456_0, hx456_1, hx456_2, hx456_3, hx456_4⟩ := at_T48 (Kd.R_reads' HO_6.out).2.2 (ji20) p456 q456
    obtain rfl : ad454 = ad456 := (by injection e456)
    replace p456 := eq_true p456
    replace q456 := eq_true q456
    have p457 : 0 ≤ (x7_1 : Int) := of_decide_eq_true (by first | (with_reducible assumption) | assumption)
    have q457 : x7_1 < (t447.length : Int) := of_decide_eq_true (by first | (with_reducible assumption) | assumption)
    obtain ⟨ad457, e457, hx457_0, hx457_1, hx457_2, hx457_3, hx457_4⟩ := at_T48 (Kd.R_reads' HO_6.out).2.2 x7_1 p457 q457
    obtain rfl : ad454 = ad457 := (by injection e457)
    replace p457 := eq_true p457
    replace q457 := eq_true q457
    have p459 : 0 ≤ (x7_1 : Int) := of_decide_eq_true (by first | (with_reducible assumption) | assumption)
    have q459 : x7_1 < (t447.length : Int) := of_decide_eq_true (by first | (with_reducible assumption) | assumption)
    obtain ⟨ad459, e459, hx459_0, hx459_1, hx459_2, hx459_3, hx459_4⟩ := at_T48 (Kd.R_reads' HO_6.out).2.2 x7_1 p459 q459
    obtain rfl : ad454 = ad459 := (by injection e459)
    replace p459 := eq_true p459
    replace q459 := eq_true q459
    have p460 : 0 ≤ (x7_1 : Int) := of_decide_eq_true (by first | (with_reducible assumption) | assumption)
    have q460 : x7_1 < (t447.length : Int) := of_decide_eq_true (by first | (with_reducible assumption) | assumption)
    obtain ⟨ad460, e460, hx460_0, hx460_1, hx460_2, hx460_3, hx460_4⟩ := at_T48 (Kd.R_reads' HO_6.out).2.2 x7_1 p460 q460
    obtain rfl : ad454 = ad460 := (by injection e460)
    replace p460 := eq_true p460
    replace q460 := eq_true q460
    refine start_ (n := 39) (S := fun w' => w'.cell? (ad454.add ((x7_1).toNat * 5)) = some (.string ((rd_T48 t447 x7_1).f0)) ∧ w'.cell? ⟨(ad454.add ((x7_1).toNat * 5)).block, (ad454.add ((x7_1).toNat * 5)).off + 1, none⟩ = some (.int .i64 ((rd_T48 t447 x7_1).f1)) ∧ w'.cell? ⟨(ad454.add ((x7_1).toNat * 5)).block, (ad454.add ((x7_1).toNat * 5)).off + 2, none⟩ = some (.int .i64 ((rd_T48 t447 x7_1).f2)) ∧ w'.cell? ⟨(ad454.add ((x7_1).toNat * 5)).block, (ad454.add ((x7_1).toNat * 5)).off + 3, none⟩ = some (.string ((rd_T48 t447 x7_1).f3)) ∧ w'.cell? ⟨(ad454.add ((x7_1).toNat * 5)).block, (ad454.add ((x7_1).toNat * 5)).off + 4, none⟩ = some (.int .i64 ((rd_T48 t447 x7_1).f4)) ∧ w'.cell? (ad454.add (((ji20)).toNat * 5)) = some (.string ((rd_T48 t447 (ji20)).f0)) ∧ w'.cell? ⟨(ad454.add (((ji20)).toNat * 5)).block, (ad454.add (((ji20)).toNat * 5)).off + 1, none⟩ = some (.int .i64 ((rd_T48 t447 (ji20)).f1)) ∧ w'.cell? ⟨(ad454.add (((ji20)).toNat * 5)).block, (ad454.add (((ji20)).toNat * 5)).off + 2, none⟩ = some (.int .i64 ((rd_T48 t447 (ji20)).f2)) ∧ w'.cell? ⟨(ad454.add (((ji20)).toNat * 5)).block, (ad454.add (((ji20)).toNat * 5)).off + 3, none⟩ = some (.string ((rd_T48 t447 (ji20)).f3)) ∧ w'.cell? ⟨(ad454.add (((ji20)).toNat * 5)).block, (ad454.add (((ji20)).toNat * 5)).off + 4, none⟩ = some (.int .i64 ((rd_T48 t447 (ji20)).f4)) ∧ w'.cell? (ad454.add ((x7_1).toNat * 5)) = some (.string ((rd_T48 t447 x7_1).f0)) ∧ w'.cell? ⟨(ad454.add ((x7_1).toNat * 5)).block, (ad454.add ((x7_1).toNat * 5)).off + 1, none⟩ = some (.int .i64 ((rd_T48 t447 x7_1).f1)) ∧ w'.cell? ⟨(ad454.add ((x7_1).toNat * 5)).block, (ad454.add ((x7_1).toNat * 5)).off + 2, none⟩ = some (.int .i64 ((rd_T48 t447 x7_1).f2)) ∧ w'.cell? ⟨(ad454.add ((x7_1).toNat * 5)).block, (ad454.add ((x7_1).toNat * 5)).off + 3, none⟩ = some (.string ((rd_T48 t447 x7_1).f3)) ∧ w'.cell? ⟨(ad454.add ((x7_1).toNat * 5)).block, (ad454.add ((x7_1).toNat * 5)).off + 4, none⟩ = some (.int .i64 ((rd_T48 t447 x7_1).f4)) ∧ w'.cell? (ad454.add ((x7_1).toNat * 5)) = some (.string ((rd_T48 t447 x7_1).f0)) ∧ w'.cell? ⟨(ad454.add ((x7_1).toNat * 5)).block, (ad454.add ((x7_1).toNat * 5)).off + 1, none⟩ = some (.int .i64 ((rd_T48 t447 x7_1).f1)) ∧ w'.cell? ⟨(ad454.add ((x7_1).toNat * 5)).block, (ad454.add ((x7_1).toNat * 5)).off + 2, none⟩ = some (.int .i64 ((rd_T48 t447 x7_1).f2)) ∧ w'.cell? ⟨(ad454.add ((x7_1).toNat * 5)).block, (ad454.add ((x7_1).toNat * 5)).off + 3, none⟩ = some (.string ((rd_T48 t447 x7_1).f3)) ∧ w'.cell? ⟨(ad454.add ((x7_1).toNat * 5)).block, (ad454.add ((x7_1).toNat * 5)).off + 4, none⟩ = some (.int .i64 ((rd_T48 t447 x7_1).f4)) ∧ w'.cell? (ad454.add ((x7_1).toNat * 5)) = some (.string ((rd_T48 t447 x7_1).f0)) ∧ w'.cell? ⟨(ad454.add ((x7_1).toNat * 5)).block, (ad454.add ((x7_1).toNat * 5)).off + 1, none⟩ = some (.int .i64 ((rd_T48 t447 x7_1).f1)) ∧ w'.cell? ⟨(ad454.add ((x7_1).toNat * 5)).block, (ad454.add ((x7_1).toNat * 5)).off + 2, none⟩ = some (.int .i64 ((rd_T48 t447 x7_1).f2)) ∧ w'.cell? ⟨(ad454.add ((x7_1).toNat * 5)).block, (ad454.add ((x7_1).toNat * 5)).off + 3, none⟩ = some (.string ((rd_T48 t447 x7_1).f3)) ∧ w'.cell? ⟨(ad454.add ((x7_1).toNat * 5)).block, (ad454.add ((x7_1).toNat * 5)).off + 4, none⟩ = some (.int .i64 ((rd_T48 t447 x7_1).f4))) (ds := []) #[false, false, false, false, false, false, false, false, false, false, false, false, false, false, false, false, false, false, false, false, false, false, false, false, false, false, false, false, false, false, false, false, false, false, false, false, false, false, false] (by kernel_rfl) rfl rfl ⟨hx454_0, hx454_1, hx454_2, hx454_3, hx454_4, hx456_0, hx456_1, hx456_2, hx456_3, hx456_4, hx457_0, hx457_1, hx457_2, hx457_3, hx457_4, hx459_0, hx459_1, hx459_2, hx459_3, hx459_4, hx460_0, hx460_1, hx460_2, hx460_3, hx460_4⟩ (fun hHeld => ?_); refine with_tabW laws_FnSquashTwice.tab10 laws_FnSquashTwice.bits10 (fun HT_ HW_ => ?_)
    generalize wr.drew = w27 at HO_3 HO_4 HO_6 HB hx454_0 hx454_1 hx454_2 hx454_3 hx454_4 hx456_0 hx456_1 hx456_2 hx456_3 hx456_4 hx457_0 hx457_1 hx457_2 hx457_3 hx457_4 hx459_0 hx459_1 hx459_2 hx459_3 hx459_4 hx460_0 hx460_1 hx460_2 hx460_3 hx460_4 hHeld ⊢
    refine pu_ 0 (some 36) HT_ rfl rfl (by go_simp; rfl) (by kernel_rfl) rfl (by intro w'; go_simp; with_reducible rfl) (fun _ _ _ h => h) (by go_simp; rfl) ?_
    refine pu_ 1 (some 37) HT_ rfl rfl (by go_simp; rfl) (by kernel_rfl) rfl (by intro w'; go_simp; with_reducible rfl) (fun _ _ _ h => h) (by go_simp; rfl) ?_
    refine pu_ 2 (some 38) HT_ rfl rfl (by go_simp; rfl) (by kernel_rfl) rfl (by intro w'; go_simp; with_reducible rfl) (fun _ _ _ h => h) (by go_simp; rfl) ?_
    refine ta_ 3 (some 39) HT_ HW_ hHeld rfl rfl (by go_simp; rfl) (by kernel_rfl) rfl (by rintro w' ⟨s0, s1, s2, s3, s4, s5, s6, s7, s8, s9, s10, s11, s12, s13, s14, s15, s16, s17, s18, s19, s20, s21, s22, s23, s24⟩; go_simp; with_reducible rfl) (fun _ _ _ h => h) (by go_simp; rfl) ?_
    refine one_ (i := 4) (N := some 40) #[true, true, true, true, true, false, false, false, false, false, false, false, false, false, false, false, false, false, false, false, false, false, false, false, false, false, false, false, false, false, false, false, false, false, false, false, false, false, false] rfl rfl (one_of HT_.out (by kernel_rfl)) (by decide) (fun K hK => ?_)
    refine goes_ Try.func30 (by kernel_rfl) rfl #[.agg #[.string ((rd_T48 t447 x7_1).f0), .int .i64 ((rd_T48 t447 x7_1).f1), .int .i64 ((rd_T48 t447 x7_1).f2), .string ((rd_T48 t447 x7_1).f3), .int .i64 ((rd_T48 t447 x7_1).f4)]] (by rfl) rfl rfl (by (try simp only [List.map_toArray, List.map_cons, List.map_nil]); first | done | rfl | (simp only [List.length_drop, List.length_take]; rfl)) ?_
    with_reducible refine (impl_EntryOk.calls k1 ((rd_T48 t447 x7_1).f0) ((rd_T48 t447 x7_1).f1) ((rd_T48 t447 x7_1).f2) ((rd_T48 t447 x7_1).f3) ((rd_T48 t447 x7_1).f4) true _ A17.out).mono ?_
    rintro e w28 ⟨rfl, hb⟩
    have HS0_ := (hb.cell (World.block_lt_of_cell? _ _ (hHeld.1))).trans (hHeld.1)
    have HS1_ := (hb.cell (World.block_lt_of_cell? _ _ (hHeld.2.1))).trans (hHeld.2.1)
    have HS2_ := (hb.cell (World.block_lt_of_cell? _ _ (hHeld.2.2.1))).trans (hHeld.2.2.1)
    have HS3_ := (hb.cell (World.block_lt_of_cell? _ _ (hHeld.2.2.2.1))).trans (hHeld.2.2.2.1)
    have HS4_ := (hb.cell (World.block_lt_of_cell? _ _ (hHeld.2.2.2.2.1))).trans (hHeld.2.2.2.2.1)
    have HS5_ := (hb.cell (World.block_lt_of_cell? _ _ (hHeld.2.2.2.2.2.1))).trans (hHeld.2.2.2.2.2.1)
    have HS6_ := (hb.cell (World.block_lt_of_cell? _ _ (hHeld.2.2.2.2.2.2.1))).trans (hHeld.2.2.2.2.2.2.1)
    have HS7_ := (hb.cell (World.block_lt_of_cell? _ _ (hHeld.2.2.2.2.2.2.2.1))).trans (hHeld.2.2.2.2.2.2.2.1)
    have HS8_ := (hb.cell (World.block_lt_of_cell? _ _ (hHeld.2.2.2.2.2.2.2.2.1))).trans (hHeld.2.2.2.2.2.2.2.2.1)
    have HS9_ := (hb.cell (World.block_lt_of_cell? _ _ (hHeld.2.2.2.2.2.2.2.2.2.1))).trans (hHeld.2.2.2.2.2.2.2.2.2.1)
    have HS10_ := (hb.cell (World.block_lt_of_cell? _ _ (hHeld.2.2.2.2.2.2.2.2.2.2.1))).trans (hHeld.2.2.2.2.2.2.2.2.2.2.1)
    have HS11_ := (hb.cell (World.block_lt_of_cell? _ _ (hHeld.2.2.2.2.2.2.2.2.2.2.2.1))).trans (hHeld.2.2.2.2.2.2.2.2.2.2.2.1)
    have HS12_ := (hb.cell (World.block_lt_of_cell? _ _ (hHeld.2.2.2.2.2.2.2.2.2.2.2.2.1))).trans (hHeld.2.2.2.2.2.2.2.2.2.2.2.2.1)
    have HS13_ := (hb.cell (World.block_lt_of_cell? _ _ (hHeld.2.2.2.2.2.2.2.2.2.2.2.2.2.1))).trans (hHeld.2.2.2.2.2.2.2.2.2.2.2.2.2.1)
    have HS14_ := (hb.cell (World.block_lt_of_cell? _ _ (hHeld.2.2.2.2.2.2.2.2.2.2.2.2.2.2.1))).trans (hHeld.2.2.2.2.2.2.2.2.2.2.2.2.2.2.1)
    have HS15_ := (hb.cell (World.block_lt_of_cell? _ _ (hHeld.2.2.2.2.2.2.2.2.2.2.2.2.2.2.2.1))).trans (hHeld.2.2.2.2.2.2.2.2.2.2.2.2.2.2.2.1)
    have HS16_ := (hb.cell (World.block_lt_of_cell? _ _ (hHeld.2.2.2.2.2.2.2.2.2.2.2.2.2.2.2.2.1))).trans (hHeld.2.2.2.2.2.2.2.2.2.2.2.2.2.2.2.2.1)
    have HS17_ := (hb.cell (World.block_lt_of_cell? _ _ (hHeld.2.2.2.2.2.2.2.2.2.2.2.2.2.2.2.2.2.1))).trans (hHeld.2.2.2.2.2.2.2.2.2.2.2.2.2.2.2.2.2.1)
    have HS18_ := (hb.cell (World.block_lt_of_cell? _ _ (hHeld.2.2.2.2.2.2.2.2.2.2.2.2.2.2.2.2.2.2.1))).trans (hHeld.2.2.2.2.2.2.2.2.2.2.2.2.2.2.2.2.2.2.1)
    have HS19_ := (hb.cell (World.block_lt_of_cell? _ _ (hHeld.2.2.2.2.2.2.2.2.2.2.2.2.2.2.2.2.2.2.2.1))).trans (hHeld.2.2.2.2.2.2.2.2.2.2.2.2.2.2.2.2.2.2.2.1)
    have HS20_ := (hb.cell (World.block_lt_of_cell? _ _ (hHeld.2.2.2.2.2.2.2.2.2.2.2.2.2.2.2.2.2.2.2.2.1))).trans (hHeld.2.2.2.2.2.2.2.2.2.2.2.2.2.2.2.2.2.2.2.2.1)
    have HS21_ := (hb.cell (World.block_lt_of_cell? _ _ (hHeld.2.2.2.2.2.2.2.2.2.2.2.2.2.2.2.2.2.2.2.2.2.1))).trans (hHeld.2.2.2.2.2.2.2.2.2.2.2.2.2.2.2.2.2.2.2.2.2.1)
    have HS22_ := (hb.cell (World.block_lt_of_cell? _ _ (hHeld.2.2.2.2.2.2.2.2.2.2.2.2.2.2.2.2.2.2.2.2.2.2.1))).trans (hHeld.2.2.2.2.2.2.2.2.2.2.2.2.2.2.2.2.2.2.2.2.2.2.1)
    have HS23_ := (hb.cell (World.block_lt_of_cell? _ _ (hHeld.2.2.2.2.2.2.2.2.2.2.2.2.2.2.2.2.2.2.2.2.2.2.2.1))).trans (hHeld.2.2.2.2.2.2.2.2.2.2.2.2.2.2.2.2.2.2.2.2.2.2.2.1)
    have HS24_ := (hb.cell (World.block_lt_of_cell? _ _ (hHeld.2.2.2.2.2.2.2.2.2.2.2.2.2.2.2.2.2.2.2.2.2.2.2.2))).trans (hHeld.2.2.2.2.2.2.2.2.2.2.2.2.2.2.2.2.2.2.2.2.2.2.2.2)
    refine ⟨_, rfl, ?_⟩
    replace HO_3 := Aside0.mk (Kd.R_below (lo_ HO_3) hb)
    replace HO_4 := Aside0.mk (Kd.R_below (lo_ HO_4) hb)
    replace HO_6 := Aside0.mk (Kd.R_below (lo_ HO_6) hb)
    replace HB := Aside0.mk (below_step (laws_FnSquashTwice_auHB) hb)
    (try clear hb)
    (try clear hb2)
    (try clear hk)
    (try clear hi)
    refine hK.out _ _ ⟨HS0_, HS1_, HS2_, HS3_, HS4_, HS5_, HS6_, HS7_, HS8_, HS9_, HS10_, HS11_, HS12_, HS13_, HS14_, HS15_, HS16_, HS17_, HS18_, HS19_, HS20_, HS21_, HS22_, HS23_, HS24_⟩ (fun hHeld => ?_)
    clear hK K
    refine norm_ (a' := ?_) ?_ ?_
    rotate_left
    ·
     show Act.put _ (some 40) _ = _
     simp only [Act.put, List.setIfInBounds_toArray, List.set_cons_zero, List.set_cons_succ, i64_w, i32_w]
     rfl
    refine pu_ 5 (some 41) HT_ rfl rfl (by go_simp; rfl) (by kernel_rfl) rfl (by intro w'; go_simp; with_reducible rfl) (fun _ _ _ h => h) (by go_simp; rfl) ?_
    refine pu_ 6 (some 42) HT_ rfl rfl (by go_simp; rfl) (by kernel_rfl) rfl (by intro w'; go_simp; with_reducible rfl) (fun _ _ _ h => h) (by go_simp; rfl) ?_
    refine pu_ 7 (some 43) HT_ rfl rfl (by go_simp; rfl) (by kernel_rfl) rfl (by intro w'; go_simp; with_reducible rfl) (fun _ _ _ h => h) (by go_simp; rfl) ?_
    refine pu_ 8 (some 44) HT_ rfl rfl (by go_simp; rfl) (by kernel_rfl) rfl (by intro w'; go_simp; with_reducible rfl) (fun _ _ _ h => h) (by go_simp; rfl) ?_
    refine pu_ 9 (some 45) HT_ rfl rfl (by go_simp; rfl) (by kernel_rfl) rfl (by intro w'; go_simp; with_reducible rfl) (fun _ _ _ h => h) (by go_simp; rfl) ?_
    refine pu_ 10 (some 46) HT_ rfl rfl (by go_simp; rfl) (by kernel_rfl) rfl (by intro w'; go_simp; with_reducible rfl) (fun _ _ _ h => h) (by go_simp; rfl) ?_
    refine pu_ 11 (some 47) HT_ rfl rfl (by go_simp; rfl) (by kernel_rfl) rfl (by intro w'; go_simp; with_reducible rfl) (fun _ _ _ h => h) (by go_simp; rfl) ?_
    refine pu_ 12 (some 48) HT_ rfl rfl (by go_simp; rfl) (by kernel_rfl) rfl (by intro w'; go_simp; with_reducible rfl) (fun _ _ _ h => h) (by go_simp; rfl) ?_
    refine pu_ 13 (some 49) HT_ rfl rfl (by go_simp; rfl) (by kernel_rfl) rfl (by intro w'; go_simp; with_reducible rfl) (fun _ _ _ h => h) (by go_simp; rfl) ?_
    refine pu_ 15 (some 51) HT_ rfl rfl (by go_simp; rfl) (by kernel_rfl) rfl (by intro w'; go_simp; with_reducible rfl) (fun _ _ _ h => h) (by go_simp; rfl) ?_
    refine pu_ 16 (some 52) HT_ rfl rfl (by go_simp; rfl) (by kernel_rfl) rfl (by intro w'; go_simp; with_reducible rfl) (fun _ _ _ h => h) (by go_simp; rfl) ?_
    refine pu_ 17 (some 53) HT_ rfl rfl (by go_simp; rfl) (by kernel_rfl) rfl (by intro w'; go_simp; with_reducible rfl) (fun _ _ _ h => h) (by go_simp; rfl) ?_
    refine ta_ 14 (some 50) HT_ HW_ hHeld rfl rfl (by go_simp; rfl) (by kernel_rfl) rfl (by rintro w' ⟨s0, s1, s2, s3, s4, s5, s6, s7, s8, s9, s10, s11, s12, s13, s14, s15, s16, s17, s18, s19, s20, s21, s22, s23, s24⟩; go_simp; with_reducible rfl) (fun _ _ _ h => h) (by go_simp; rfl) ?_
    refine ta_ 18 (some 54) HT_ HW_ hHeld rfl rfl (by go_simp; rfl) (by kernel_rfl) rfl (by rintro w' ⟨s0, s1, s2, s3, s4, s5, s6, s7, s8, s9, s10, s11, s12, s13, s14, s15, s16, s17, s18, s19, s20, s21, s22, s23, s24⟩; go_simp; with_reducible rfl) (fun _ _ _ h => h) (by go_simp; rfl) ?_
    refine one_ (i := 19) (N := some 55) #[true, true, true, true, true, true, true, true, true, true, true, true, true, true, true, true, true, true, true, true, false, false, false, false, false, false, false, false, false, false, false, false, false, false, false, false, false, false, false] rfl rfl (one_of HT_.out (by kernel_rfl)) (by decide) (fun K hK => ?_)
    refine goes_ Try.func28 (by kernel_rfl) rfl #[.agg #[.string ((rd_T48 t447 (ji20)).f0), .int .i64 ((rd_T48 t447 (ji20)).f1), .int .i64 ((rd_T48 t447 (ji20)).f2), .string ((rd_T48 t447 (ji20)).f3), .int .i64 ((rd_T48 t447 (ji20)).f4)], .agg #[.string ((rd_T48 t447 x7_1).f0), .int .i64 ((rd_T48 t447 x7_1).f1), .int .i64 ((rd_T48 t447 x7_1).f2), .string ((rd_T48 t447 x7_1).f3), .int .i64 ((rd_T48 t447 x7_1).f4)]] (by rfl) rfl rfl (by (try simp only [List.map_toArray, List.map_cons, List.map_nil]); first | done | (simp only [hji20]; rfl) | rfl | (simp only [List.length_drop, List.length_take]; rfl)) ?_
    with_reducible refine (impl_EntryLess.calls ((rd_T48 t447 (ji20)).f0) ((rd_T48 t447 (ji20)).f1) ((rd_T48 t447 (ji20)).f2) ((rd_T48 t447 (ji20)).f3) ((rd_T48 t447 (ji20)).f4) ((rd_T48 t447 x7_1).f0) ((rd_T48 t447 x7_1).f1) ((rd_T48 t447 x7_1).f2) ((rd_T48 t447 x7_1).f3) ((rd_T48 t447 x7_1).f4) true _ A23.out).mono ?_
    rintro e w29 ⟨rfl, hb⟩
    have HS0_ := (hb.cell (World.block_lt_of_cell? _ _ (hHeld.1))).trans (hHeld.1)
    have HS1_ := (hb.cell (World.block_lt_of_cell? _ _ (hHeld.2.1))).trans (hHeld.2.1)
    have HS2_ := (hb.cell (World.block_lt_of_cell? _ _ (hHeld.2.2.1))).trans (hHeld.2.2.1)
    have HS3_ := (hb.cell (World.block_lt_of_cell? _ _ (hHeld.2.2.2.1))).trans (hHeld.2.2.2.1)
    have HS4_ := (hb.cell (World.block_lt_of_cell? _ _ (hHeld.2.2.2.2.1))).trans (hHeld.2.2.2.2.1)
    have HS5_ := (hb.cell (World.block_lt_of_cell? _ _ (hHeld.2.2.2.2.2.1))).trans (hHeld.2.2.2.2.2.1)
    have HS6_ := (hb.cell (World.block_lt_of_cell? _ _ (hHeld.2.2.2.2.2.2.1))).trans (hHeld.2.2.2.2.2.2.1)
    have HS7_ := (hb.cell (World.block_lt_of_cell? _ _ (hHeld.2.2.2.2.2.2.2.1))).trans (hHeld.2.2.2.2.2.2.2.1)
    have HS8_ := (hb.cell (World.block_lt_of_cell? _ _ (hHeld.2.2.2.2.2.2.2.2.1))).trans (hHeld.2.2.2.2.2.2.2.2.1)
    have HS9_ := (hb.cell (World.block_lt_of_cell? _ _ (hHeld.2.2.2.2.2.2.2.2.2.1))).trans (hHeld.2.2.2.2.2.2.2.2.2.1)
    have HS10_ := (hb.cell (World.block_lt_of_cell? _ _ (hHeld.2.2.2.2.2.2.2.2.2.2.1))).trans (hHeld.2.2.2.2.2.2.2.2.2.2.1)
    have HS11_ := (hb.cell (World.block_lt_of_cell? _ _ (hHeld.2.2.2.2.2.2.2.2.2.2.2.1))).trans (hHeld.2.2.2.2.2.2.2.2.2.2.2.1)
    have HS12_ := (hb.cell (World.block_lt_of_cell? _ _ (hHeld.2.2.2.2.2.2.2.2.2.2.2.2.1))).trans (hHeld.2.2.2.2.2.2.2.2.2.2.2.2.1)
    have HS13_ := (hb.cell (World.block_lt_of_cell? _ _ (hHeld.2.2.2.2.2.2.2.2.2.2.2.2.2.1))).trans (hHeld.2.2.2.2.2.2.2.2.2.2.2.2.2.1)
    have HS14_ := (hb.cell (World.block_lt_of_cell? _ _ (hHeld.2.2.2.2.2.2.2.2.2.2.2.2.2.2.1))).trans (hHeld.2.2.2.2.2.2.2.2.2.2.2.2.2.2.1)
    have HS15_ := (hb.cell (World.block_lt_of_cell? _ _ (hHeld.2.2.2.2.2.2.2.2.2.2.2.2.2.2.2.1))).trans (hHeld.2.2.2.2.2.2.2.2.2.2.2.2.2.2.2.1)
    have HS16_ := (hb.cell (World.block_lt_of_cell? _ _ (hHeld.2.2.2.2.2.2.2.2.2.2.2.2.2.2.2.2.1))).trans (hHeld.2.2.2.2.2.2.2.2.2.2.2.2.2.2.2.2.1)
    have HS17_ := (hb.cell (World.block_lt_of_cell? _ _ (hHeld.2.2.2.2.2.2.2.2.2.2.2.2.2.2.2.2.2.1))).trans (hHeld.2.2.2.2.2.2.2.2.2.2.2.2.2.2.2.2.2.1)
    have HS18_ := (hb.cell (World.block_lt_of_cell? _ _ (hHeld.2.2.2.2.2.2.2.2.2.2.2.2.2.2.2.2.2.2.1))).trans (hHeld.2.2.2.2.2.2.2.2.2.2.2.2.2.2.2.2.2.2.1)
    have HS19_ := (hb.cell (World.block_lt_of_cell? _ _ (hHeld.2.2.2.2.2.2.2.2.2.2.2.2.2.2.2.2.2.2.2.1))).trans (hHeld.2.2.2.2.2.2.2.2.2.2.2.2.2.2.2.2.2.2.2.1)
    have HS20_ := (hb.cell (World.block_lt_of_cell? _ _ (hHeld.2.2.2.2.2.2.2.2.2.2.2.2.2.2.2.2.2.2.2.2.1))).trans (hHeld.2.2.2.2.2.2.2.2.2.2.2.2.2.2.2.2.2.2.2.2.1)
    have HS21_ := (hb.cell (World.block_lt_of_cell? _ _ (hHeld.2.2.2.2.2.2.2.2.2.2.2.2.2.2.2.2.2.2.2.2.2.1))).trans (hHeld.2.2.2.2.2.2.2.2.2.2.2.2.2.2.2.2.2.2.2.2.2.1)
    have HS22_ := (hb.cell (World.block_lt_of_cell? _ _ (hHeld.2.2.2.2.2.2.2.2.2.2.2.2.2.2.2.2.2.2.2.2.2.2.1))).trans (hHeld.2.2.2.2.2.2.2.2.2.2.2.2.2.2.2.2.2.2.2.2.2.2.1)
    have HS23_ := (hb.cell (World.block_lt_of_cell? _ _ (hHeld.2.2.2.2.2.2.2.2.2.2.2.2.2.2.2.2.2.2.2.2.2.2.2.1))).trans (hHeld.2.2.2.2.2.2.2.2.2.2.2.2.2.2.2.2.2.2.2.2.2.2.2.1)
    have HS24_ := (hb.cell (World.block_lt_of_cell? _ _ (hHeld.2.2.2.2.2.2.2.2.2.2.2.2.2.2.2.2.2.2.2.2.2.2.2.2))).trans (hHeld.2.2.2.2.2.2.2.2.2.2.2.2.2.2.2.2.2.2.2.2.2.2.2.2)
    refine ⟨_, rfl, ?_⟩
    replace HO_3 := Aside0.mk (Kd.R_below (lo_ HO_3) hb)
    replace HO_4 := Aside0.mk (Kd.R_below (lo_ HO_4) hb)
    replace HO_6 := Aside0.mk (Kd.R_below (lo_ HO_6) hb)
    replace HB := Aside0.mk (below_step (laws_FnSquashTwice_auHB) hb)
    (try clear hb)
    (try clear hb2)
    (try clear hk)
    (try clear hi)
    refine hK.out _ _ ⟨HS0_, HS1_, HS2_, HS3_, HS4_, HS5_, HS6_, HS7_, HS8_, HS9_, HS10_, HS11_, HS12_, HS13_, HS14_, HS15_, HS16_, HS17_, HS18_, HS19_, HS20_, HS21_, HS22_, HS23_, HS24_⟩ (fun hHeld => ?_)
    clear hK K
    refine norm_ (a' := ?_) ?_ ?_
    rotate_left
    ·
     show Act.put _ (some 55) _ = _
     simp only [Act.put, List.setIfInBounds_toArray, List.set_cons_zero, List.set_cons_succ, i64_w, i32_w]
     rfl
    refine pu_ 20 (some 56) HT_ rfl rfl (by go_simp; rfl) (by kernel_rfl) rfl (by intro w'; go_simp; with_reducible rfl) (fun _ _ _ h => h) (by go_simp; rfl) ?_
    refine pu_ 21 (some 57) HT_ rfl rfl (by go_simp; rfl) (by kernel_rfl) rfl (by intro w'; go_simp; with_reducible rfl) (fun _ _ _ h => h) (by go_simp; rfl) ?_
    refine pu_ 22 (some 58) HT_ rfl rfl (by go_simp; rfl) (by kernel_rfl) rfl (by intro w'; go_simp; with_reducible rfl) (fun _ _ _ h => h) (by go_simp; rfl) ?_
    refine pu_ 23 (some 59) HT_ rfl rfl (by go_simp; rfl) (by kernel_rfl) rfl (by intro w'; go_simp; with_reducible rfl) (fun _ _ _ h => h) (by go_simp; rfl) ?_
    refine pu_ 24 (some 60) HT_ rfl rfl (by go_simp; rfl) (by kernel_rfl) rfl (by intro w'; go_simp; with_reducible rfl) (fun _ _ _ h => h) (by go_simp; rfl) ?_
    refine pu_ 25 (some 61) HT_ rfl rfl (by go_simp; rfl) (by kernel_rfl) rfl (by intro w'; go_simp; with_reducible rfl) (fun _ _ _ h => h) (by go_simp; rfl) ?_
    refine pu_ 26 (some 62) HT_ rfl rfl (by go_simp; rfl) (by kernel_rfl) rfl (by intro w'; go_simp; with_reducible rfl) (fun _ _ _ h => h) (by go_simp; rfl) ?_
    refine pu_ 27 (some 63) HT_ rfl rfl (by go_simp; rfl) (by kernel_rfl) rfl (by intro w'; go_simp; with_reducible rfl) (fun _ _ _ h => h) (by go_simp; rfl) ?_
    refine ta_ 28 (some 64) HT_ HW_ hHeld rfl rfl (by go_simp; rfl) (by kernel_rfl) rfl (by rintro w' ⟨s0, s1, s2, s3, s4, s5, s6, s7, s8, s9, s10, s11, s12, s13, s14, s15, s16, s17, s18, s19, s20, s21, s22, s23, s24⟩; go_simp; with_reducible rfl) (fun _ _ _ h => h) (by go_simp; rfl) ?_
    refine pu_ 29 (some 65) HT_ rfl rfl (by go_simp; rfl) (by kernel_rfl) rfl (by intro w'; go_simp; with_reducible rfl) (fun _ _ _ h => h) (by go_simp; rfl) ?_
    refine pu_ 30 (some 66) HT_ rfl rfl (by go_simp; rfl) (by kernel_rfl) rfl (by intro w'; go_simp; with_reducible rfl) (fun _ _ _ h => h) (by go_simp; rfl) ?_
    refine pu_ 31 (some 67) HT_ rfl rfl (by go_simp; rfl) (by kernel_rfl) rfl (by intro w'; go_simp; with_reducible rfl) (fun _ _ _ h => h) (by go_simp; rfl) ?_
    refine pu_ 32 (some 68) HT_ rfl rfl (by go_simp; rfl) (by kernel_rfl) rfl (by intro w'; go_simp; with_reducible rfl) (fun _ _ _ h => h) (by go_simp; rfl) ?_
    refine pu_ 33 (some 69) HT_ rfl rfl (by go_simp; rfl) (by kernel_rfl) rfl (by intro w'; go_simp; with_reducible rfl) (fun _ _ _ h => h) (by go_simp; rfl) ?_
    refine pu_ 34 (some 70) HT_ rfl rfl (by go_simp; rfl) (by kernel_rfl) rfl (by intro w'; go_simp; with_reducible rfl) (fun _ _ _ h => h) (by go_simp; rfl) ?_
    refine pu_ 35 (some 71) HT_ rfl rfl (by go_simp; rfl) (by kernel_rfl) rfl (by intro w'; go_simp; with_reducible rfl) (fun _ _ _ h => h) (by go_simp; rfl) ?_
    refine ta_ 36 (some 72) HT_ HW_ hHeld rfl rfl (by go_simp; rfl) (by kernel_rfl) rfl (by rintro w' ⟨s0, s1, s2, s3, s4, s5, s6, s7, s8, s9, s10, s11, s12, s13, s14, s15, s16, s17, s18, s19, s20, s21, s22, s23, s24⟩; go_simp; with_reducible rfl) (fun _ _ _ h => h) (by go_simp; rfl) ?_
    refine pu_ 37 (some 73) HT_ rfl rfl (by go_simp; rfl) (by kernel_rfl) rfl (by intro w'; go_simp; with_reducible rfl) (fun _ _ _ h => h) (by go_simp; rfl) ?_
    refine pu_ 38 (some 74) HT_ rfl rfl (by go_simp; rfl) (by kernel_rfl) rfl (by intro w'; go_simp; with_reducible rfl) (fun _ _ _ h => h) (by go_simp; rfl) ?_
    refine done_ (done_of HT_.out (by kernel_rfl)) ?_
    try go_wp2
    go_roundg k1
    case measure => have := HK1.out; omega
    case rel => exact ⟨(wrap64 (x7_1 + 1)), (by first | rfl | (simp; done) | (simp [*]; done)), H', ⟨by have := HK1.out; omega⟩, ⟨by (with_reducible repeat (first | apply Kd.R_alloc | apply Kd.R_drewN | apply Kd.R_drew)); exact HO_3.out⟩, ⟨by (with_reducible repeat (first | apply Kd.R_alloc | apply Kd.R_drewN | apply Kd.R_drew)); exact HO_4.out⟩, ⟨by (with_reducible repeat (first | apply Kd.R_alloc | apply Kd.R_drewN | apply Kd.R_drew)); exact HO_6.out⟩, ⟨laws_FnSquashTwice_auHB⟩⟩
   rw [if_neg c19] at H
   have c19b0 : decide (0 < x7_1) = false := decide_eq_false c19
   clear c19
   by_cases c30 : ((rd_T48 t447 x7_1).f4) > 2000
   ·
    rw [if_pos c30] at H
    have c30b0 : decide (2000 < ((rd_T48 t447 x7_1).f4)) = true := decide_eq_true c30
    clear c30
    by_cases c31 : (t440.length : Int) > 0
    rotate_left
    ·
     rw [if_neg c31] at H
     exact absurd H (by simp)
    rw [if_pos c31] at H
    have c31b0 : decide (0 < (t440.length : Int)) = true := decide_eq_true c31
    have c31b1 : decide (0 < t440.length) = true := decide_eq_true (by omega)
    clear c31
    by_cases c32 : 0 < (t440.length : Int)
    rotate_left
    ·
     rw [if_neg c32] at H
     exact absurd H (by simp)
    rw [if_pos c32] at H
    have c32b0 : decide (0 < (t440.length : Int)) = true := decide_eq_true c32
    have c32b1 : decide (0 < t440.length) = true := decide_eq_true (by omega)
    clear c32
    by_cases c33 : ((rd_T48 t440 0).f4) > 2000
    rotate_left
    ·
     rw [if_neg c33] at H
     exact absurd H (by simp)
    rw [if_pos c33] at H
    have c33b0 : decide (2000 < ((rd_T48 t440 0).f4)) = true := decide_eq_true c33
    clear c33
    obtain rfl := Option.some.inj H
    try go_wp2
    replace HO_3 := Aside0.mk (Kd.R_drew HO_3.out)
    replace HO_4 := Aside0.mk (Kd.R_drew HO_4.out)
    replace HO_6 := Aside0.mk (Kd.R_drew HO_6.out)
    replace HB := Aside0.mk (below_drew1 HB.out)
    have p454 : 0 ≤ (x7_1 : Int) := of_decide_eq_true (by first | (with_reducible assumption) | assumption)
    have q454 : x7_1 < (t447.length : Int) := of_decide_eq_true (by first | (with_reducible assumption) | assumption)
    obtain ⟨ad454, e454, hx454_0, hx454_1, hx454_2, hx454_3, hx454_4⟩ := at_T48 (Kd.R_reads' HO_6.out).2.2 x7_1 p454 q454
    cases e454
    replace p454 := eq_true p454
    replace q454 := eq_true q454
    have p461 : 0 ≤ (x7_1 : Int) := of_decide_eq_true (by first | (with_reducible assumption) | assumption)
    have q461 : x7_1 < (t447.length : Int) := of_decide_eq_true (by first | (with_reducible assumption) | assumption)
    obtain ⟨ad461, e461, hx461_0, hx461_1, hx461_2, hx461_3, hx461_4⟩ := at_T48 (Kd.R_reads' HO_6.out).2.2 x7_1 p461 q461
    obtain rfl : ad454 = ad461 := (by injection e461)
    replace p461 := eq_true p461
    replace q461 := eq_true q461
    refine start_ (n := 39) (S := fun w' => w'.cell? (ad454.add ((x7_1).toNat * 5)) = some (.string ((rd_T48 t447 x7_1).f0)) ∧ w'.cell? ⟨(ad454.add ((x7_1).toNat * 5)).block, (ad454.add ((x7_1).toNat * 5)).off + 1, none⟩ = some (.int .i64 ((rd_T48 t447 x7_1).f1)) ∧ w'.cell? ⟨(ad454.add ((x7_1).toNat * 5)).block, (ad454.add ((x7_1).toNat * 5)).off + 2, none⟩ = some (.int .i64 ((rd_T48 t447 x7_1).f2)) ∧ w'.cell? ⟨(ad454.add ((x7_1).toNat * 5)).block, (ad454.add ((x7_1).toNat * 5)).off + 3, none⟩ = some (.string ((rd_T48 t447 x7_1).f3)) ∧ w'.cell? ⟨(ad454.add ((x7_1).toNat * 5)).block, (ad454.add ((x7_1).toNat * 5)).off + 4, none⟩ = some (.int .i64 ((rd_T48 t447 x7_1).f4)) ∧ w'.cell? (ad454.add ((x7_1).toNat * 5)) = some (.string ((rd_T48 t447 x7_1).f0)) ∧ w'.cell? ⟨(ad454.add ((x7_1).toNat * 5)).block, (ad454.add ((x7_1).toNat * 5)).off + 1, none⟩ = some (.int .i64 ((rd_T48 t447 x7_1).f1)) ∧ w'.cell? ⟨(ad454.add ((x7_1).toNat * 5)).block, (ad454.add ((x7_1).toNat * 5)).off + 2, none⟩ = some (.int .i64 ((rd_T48 t447 x7_1).f2)) ∧ w'.cell? ⟨(ad454.add ((x7_1).toNat * 5)).block, (ad454.add ((x7_1).toNat * 5)).off + 3, none⟩ = some (.string ((rd_T48 t447 x7_1).f3)) ∧ w'.cell? ⟨(ad454.add ((x7_1).toNat * 5)).block, (ad454.add ((x7_1).toNat * 5)).off + 4, none⟩ = some (.int .i64 ((rd_T48 t447 x7_1).f4))) (ds := []) #[false, false, false, false, false, false, false, false, false, false, false, false, false, false, false, false, false, false, false, false, false, false, false, false, false, false, false, false, false, false, false, false, false, false, false, false, false, false, false] (by kernel_rfl) rfl rfl ⟨hx454_0, hx454_1, hx454_2, hx454_3, hx454_4, hx461_0, hx461_1, hx461_2, hx461_3, hx461_4⟩ (fun hHeld => ?_); refine with_tabW laws_FnSquashTwice.tab10 laws_FnSquashTwice.bits10 (fun HT_ HW_ => ?_)
    generalize wr.drew = w34 at HO_3 HO_4 HO_6 HB hx454_0 hx454_1 hx454_2 hx454_3 hx454_4 hx461_0 hx461_1 hx461_2 hx461_3 hx461_4 hHeld ⊢
    refine pu_ 0 (some 36) HT_ rfl rfl (by go_simp; rfl) (by kernel_rfl) rfl (by intro w'; go_simp; with_reducible rfl) (fun _ _ _ h => h) (by go_simp; rfl) ?_
    refine pu_ 1 (some 37) HT_ rfl rfl (by go_simp; rfl) (by kernel_rfl) rfl (by intro w'; go_simp; with_reducible rfl) (fun _ _ _ h => h) (by go_simp; rfl) ?_
    refine pu_ 2 (some 38) HT_ rfl rfl (by go_simp; rfl) (by kernel_rfl) rfl (by intro w'; go_simp; with_reducible rfl) (fun _ _ _ h => h) (by go_simp; rfl) ?_
    refine ta_ 3 (some 39) HT_ HW_ hHeld rfl rfl (by go_simp; rfl) (by kernel_rfl) rfl (by rintro w' ⟨s0, s1, s2, s3, s4, s5, s6, s7, s8, s9⟩; go_simp; with_reducible rfl) (fun _ _ _ h => h) (by go_simp; rfl) ?_
    refine one_ (i := 4) (N := some 40) #[true, true, true, true, true, false, false, false, false, false, false, false, false, false, false, false, false, false, false, false, false, false, false, false, false, false, false, false, false, false, false, false, false, false, false, false, false, false, false] rfl rfl (one_of HT_.out (by kernel_rfl)) (by decide) (fun K hK => ?_)
    refine goes_ Try.func30 (by kernel_rfl) rfl #[.agg #[.string ((rd_T48 t447 x7_1).f0), .int .i64 ((rd_T48 t447 x7_1).f1), .int .i64 ((rd_T48 t447 x7_1).f2), .string ((rd_T48 t447 x7_1).f3), .int .i64 ((rd_T48 t447 x7_1).f4)]] (by rfl) rfl rfl (by (try simp only [List.map_toArray, List.map_cons, List.map_nil]); first | done | rfl | (simp only [List.length_drop, List.length_take]; rfl)) ?_
    with_reducible refine (impl_EntryOk.calls k1 ((rd_T48 t447 x7_1).f0) ((rd_T48 t447 x7_1).f1) ((rd_T48 t447 x7_1).f2) ((rd_T48 t447 x7_1).f3) ((rd_T48 t447 x7_1).f4) true _ A17.out).mono ?_
    rintro e w35 ⟨rfl, hb⟩
    have HS0_ := (hb.cell (World.block_lt_of_cell? _ _ (hHeld.1))).trans (hHeld.1)
    have HS1_ := (hb.cell (World.block_lt_of_cell? _ _ (hHeld.2.1))).trans (hHeld.2.1)
    have HS2_ := (hb.cell (World.block_lt_of_cell? _ _ (hHeld.2.2.1))).trans (hHeld.2.2.1)
    have HS3_ := (hb.cell (World.block_lt_of_cell? _ _ (hHeld.2.2.2.1))).trans (hHeld.2.2.2.1)
    have HS4_ := (hb.cell (World.block_lt_of_cell? _ _ (hHeld.2.2.2.2.1))).trans (hHeld.2.2.2.2.1)
    have HS5_ := (hb.cell (World.block_lt_of_cell? _ _ (hHeld.2.2.2.2.2.1))).trans (hHeld.2.2.2.2.2.1)
    have HS6_ := (hb.cell (World.block_lt_of_cell? _ _ (hHeld.2.2.2.2.2.2.1))).trans (hHeld.2.2.2.2.2.2.1)
    have HS7_ := (hb.cell (World.block_lt_of_cell? _ _ (hHeld.2.2.2.2.2.2.2.1))).trans (hHeld.2.2.2.2.2.2.2.1)
    have HS8_ := (hb.cell (World.block_lt_of_cell? _ _ (hHeld.2.2.2.2.2.2.2.2.1))).trans (hHeld.2.2.2.2.2.2.2.2.1)
    have HS9_ := (hb.cell (World.block_lt_of_cell? _ _ (hHeld.2.2.2.2.2.2.2.2.2))).trans (hHeld.2.2.2.2.2.2.2.2.2)
    refine ⟨_, rfl, ?_⟩
    replace HO_3 := Aside0.mk (Kd.R_below (lo_ HO_3) hb)
    replace HO_4 := Aside0.mk (Kd.R_below (lo_ HO_4) hb)
    replace HO_6 := Aside0.mk (Kd.R_below (lo_ HO_6) hb)
    replace HB := Aside0.mk (below_step (laws_FnSquashTwice_auHB) hb)
    (try clear hb)
    (try clear hb2)
    (try clear hk)
    (try clear hi)
    refine hK.out _ _ ⟨HS0_, HS1_, HS2_, HS3_, HS4_, HS5_, HS6_, HS7_, HS8_, HS9_⟩ (fun hHeld => ?_)
    clear hK K
    refine norm_ (a' := ?_) ?_ ?_
    rotate_left
    ·
     show Act.put _ (some 40) _ = _
     simp only [Act.put, List.setIfInBounds_toArray, List.set_cons_zero, List.set_cons_succ, i64_w, i32_w]
     rfl
    refine pu_ 5 (some 41) HT_ rfl rfl (by go_simp; rfl) (by kernel_rfl) rfl (by intro w'; go_simp; with_reducible rfl) (fun _ _ _ h => h) (by go_simp; rfl) ?_
    refine pu_ 6 (some 42) HT_ rfl rfl (by go_simp; rfl) (by kernel_rfl) rfl (by intro w'; go_simp; with_reducible rfl) (fun _ _ _ h => h) (by go_simp; rfl) ?_
    refine pu_ 7 (some 43) HT_ rfl rfl (by go_simp; rfl) (by kernel_rfl) rfl (by intro w'; go_simp; with_reducible rfl) (fun _ _ _ h => h) (by go_simp; rfl) ?_
    refine pu_ 8 (some 44) HT_ rfl rfl (by go_simp; rfl) (by kernel_rfl) rfl (by intro w'; go_simp; with_reducible rfl) (fun _ _ _ h => h) (by go_simp; rfl) ?_
    refine pu_ 9 (some 45) HT_ rfl rfl (by go_simp; rfl) (by kernel_rfl) rfl (by intro w'; go_simp; with_reducible rfl) (fun _ _ _ h => h) (by go_simp; rfl) ?_
    refine pure_ (i := 10) (N := some 46) (v := undef) (a' := ?_) #[true, true, true, true, true, true, true, true, true, true, true, false, false, false, false, false, false, false, false, false, false, false, false, false, false, false, false, false, false, false, false, false, false, false, false, false, false, false, false] rfl rfl (any_of HT_.out (by kernel_rfl)) (fun _ _ _ h => h) (Or.inr ⟨by rfl, rfl⟩) ?_ ?_
    rotate_left
    ·
     simp only [Act.put, List.setIfInBounds_toArray, List.set_cons_zero, List.set_cons_succ, i64_w, i32_w]
     rfl
    refine pure_ (i := 11) (N := some 47) (v := undef) (a' := ?_) #[true, true, true, true, true, true, true, true, true, true, true, true, false, false, false, false, false, false, false, false, false, false, false, false, false, false, false, false, false, false, false, false, false, false, false, false, false, false, false] rfl rfl (any_of HT_.out (by kernel_rfl)) (fun _ _ _ h => h) (Or.inr ⟨by rfl, rfl⟩) ?_ ?_
    rotate_left
    ·
     simp only [Act.put, List.setIfInBounds_toArray, List.set_cons_zero, List.set_cons_succ, i64_w, i32_w]
     rfl
    refine pure_ (i := 12) (N := some 48) (v := undef) (a' := ?_) #[true, true, true, true, true, true, true, true, true, true, true, true, true, false, false, false, false, false, false, false, false, false, false, false, false, false, false, false, false, false, false, false, false, false, false, false, false, false, false] rfl rfl (any_of HT_.out (by kernel_rfl)) (fun _ _ _ h => h) (Or.inr ⟨by rfl, rfl⟩) ?_ ?_
    rotate_left
    ·
     simp only [Act.put, List.setIfInBounds_toArray, List.set_cons_zero, List.set_cons_succ, i64_w, i32_w]
     rfl
    refine pure_ (i := 13) (N := some 49) (v := undef) (a' := ?_) #[true, true, true, true, true, true, true, true, true, true, true, true, true, true, false, false, false, false, false, false, false, false, false, false, false, false, false, false, false, false, false, false, false, false, false, false, false, false, false] rfl rfl (any_of HT_.out (by kernel_rfl)) (fun _ _ _ h => h) (Or.inr ⟨by rfl, rfl⟩) ?_ ?_
    rotate_left
    ·
     simp only [Act.put, List.setIfInBounds_toArray, List.set_cons_zero, List.set_cons_succ, i64_w, i32_w]
     rfl
    refine pure_ (i := 14) (N := some 50) (v := undef) (a' := ?_) #[true, true, true, true, true, true, true, true, true, true, true, true, true, true, true, false, false, false, false, false, false, false, false, false, false, false, false, false, false, false, false, false, false, false, false, false, false, false, false] rfl rfl (any_of HT_.out (by kernel_rfl)) (fun _ _ _ h => h) (Or.inr ⟨by rfl, rfl⟩) ?_ ?_
    rotate_left
    ·
     simp only [Act.put, List.setIfInBounds_toArray, List.set_cons_zero, List.set_cons_succ, i64_w, i32_w]
     rfl
    refine pure_ (i := 15) (N := some 51) (v := undef) (a' := ?_) #[true, true, true, true, true, true, true, true, true, true, true, true, true, true, true, true, false, false, false, false, false, false, false, false, false, false, false, false, false, false, false, false, false, false, false, false, false, false, false] rfl rfl (any_of HT_.out (by kernel_rfl)) (fun _ _ _ h => h) (Or.inr ⟨by rfl, rfl⟩) ?_ ?_
    rotate_left
    ·
     simp only [Act.put, List.setIfInBounds_toArray, List.set_cons_zero, List.set_cons_succ, i64_w, i32_w]
     rfl
    refine pure_ (i := 16) (N := some 52) (v := undef) (a' := ?_) #[true, true, true, true, true, true, true, true, true, true, true, true, true, true, true, true, true, false, false, false, false, false, false, false, false, false, false, false, false, false, false, false, false, false, false, false, false, false, false] rfl rfl (any_of HT_.out (by kernel_rfl)) (fun _ _ _ h => h) (Or.inr ⟨by rfl, rfl⟩) ?_ ?_
    rotate_left
    ·
     simp only [Act.put, List.setIfInBounds_toArray, List.set_cons_zero, List.set_cons_succ, i64_w, i32_w]
     rfl
    refine pure_ (i := 17) (N := some 53) (v := undef) (a' := ?_) #[true, true, true, true, true, true, true, true, true, true, true, true, true, true, true, true, true, true, false, false, false, false, false, false, false, false, false, false, false, false, false, false, false, false, false, false, false, false, false] rfl rfl (any_of HT_.out (by kernel_rfl)) (fun _ _ _ h => h) (Or.inr ⟨by rfl, rfl⟩) ?_ ?_
    rotate_left
    ·
     simp only [Act.put, List.setIfInBounds_toArray, List.set_cons_zero, List.set_cons_succ, i64_w, i32_w]
     rfl
    refine pure_ (i := 18) (N := some 54) (v := undef) (a' := ?_) #[true, true, true, true, true, true, true, true, true, true, true, true, true, true, true, true, true, true, true, false, false, false, false, false, false, false, false, false, false, false, false, false, false, false, false, false, false, false, false] rfl rfl (any_of HT_.out (by kernel_rfl)) (fun _ _ _ h => h) (Or.inr ⟨by rfl, rfl⟩) ?_ ?_
    rotate_left
    ·
     simp only [Act.put, List.setIfInBounds_toArray, List.set_cons_zero, List.set_cons_succ, i64_w, i32_w]
     rfl
    refine pure_ (i := 19) (N := some 55) (v := undef) (a' := ?_) #[true, true, true, true, true, true, true, true, true, true, true, true, true, true, true, true, true, true, true, true, false, false, false, false, false, false, false, false, false, false, false, false, false, false, false, false, false, false, false] rfl rfl (any_of HT_.out (by kernel_rfl)) (fun _ _ _ h => h) (Or.inr ⟨by rfl, rfl⟩) ?_ ?_
    rotate_left
    ·
     simp only [Act.put, List.setIfInBounds_toArray, List.set_cons_zero, List.set_cons_succ, i64_w, i32_w]
     rfl
    refine pure_ (i := 20) (N := some 56) (v := undef) (a' := ?_) #[true, true, true, true, true, true, true, true, true, true, true, true, true, true, true, true, true, true, true, true, true, false, false, false, false, false, false, false, false, false, false, false, false, false, false, false, false, false, false] rfl rfl (any_of HT_.out (by kernel_rfl)) (fun _ _ _ h => h) (Or.inr ⟨by rfl, rfl⟩) ?_ ?_
    rotate_left
    ·
     simp only [Act.put, List.setIfInBounds_toArray, List.set_cons_zero, List.set_cons_succ, i64_w, i32_w]
     rfl
    refine pu_ 21 (some 57) HT_ rfl rfl (by go_simp; rfl) (by kernel_rfl) rfl (by intro w'; go_simp; with_reducible rfl) (fun _ _ _ h => h) (by go_simp; rfl) ?_
    refine pu_ 22 (some 58) HT_ rfl rfl (by go_simp; rfl) (by kernel_rfl) rfl (by intro w'; go_simp; with_reducible rfl) (fun _ _ _ h => h) (by go_simp; rfl) ?_
    refine pu_ 23 (some 59) HT_ rfl rfl (by go_simp; rfl) (by kernel_rfl) rfl (by intro w'; go_simp; with_reducible rfl) (fun _ _ _ h => h) (by go_simp; rfl) ?_
    refine pu_ 24 (some 60) HT_ rfl rfl (by go_simp; rfl) (by kernel_rfl) rfl (by intro w'; go_simp; with_reducible rfl) (fun _ _ _ h => h) (by go_simp; rfl) ?_
    refine pu_ 25 (some 61) HT_ rfl rfl (by go_simp; rfl) (by kernel_rfl) rfl (by intro w'; go_simp; with_reducible rfl) (fun _ _ _ h => h) (by go_simp; rfl) ?_
    refine pu_ 26 (some 62) HT_ rfl rfl (by go_simp; rfl) (by kernel_rfl) rfl (by intro w'; go_simp; with_reducible rfl) (fun _ _ _ h => h) (by go_simp; rfl) ?_
    refine pu_ 27 (some 63) HT_ rfl rfl (by go_simp; rfl) (by kernel_rfl) rfl (by intro w'; go_simp; with_reducible rfl) (fun _ _ _ h => h) (by go_simp; rfl) ?_
    refine ta_ 28 (some 64) HT_ HW_ hHeld rfl rfl (by go_simp; rfl) (by kernel_rfl) rfl (by rintro w' ⟨s0, s1, s2, s3, s4, s5, s6, s7, s8, s9⟩; go_simp; with_reducible rfl) (fun _ _ _ h => h) (by go_simp; rfl) ?_
    refine pu_ 29 (some 65) HT_ rfl rfl (by go_simp; rfl) (by kernel_rfl) rfl (by intro w'; go_simp; with_reducible rfl) (fun _ _ _ h => h) (by go_simp; rfl) ?_
    refine pu_ 30 (some 66) HT_ rfl rfl (by go_simp; rfl) (by kernel_rfl) rfl (by intro w'; go_simp; with_reducible rfl) (fun _ _ _ h => h) (by go_simp; rfl) ?_
    refine pu_ 31 (some 67) HT_ rfl rfl (by go_simp; rfl) (by kernel_rfl) rfl (by intro w'; go_simp; with_reducible rfl) (fun _ _ _ h => h) (by go_simp; rfl) ?_
    refine pure_ (i := 32) (N := some 68) (v := undef) (a' := ?_) #[true, true, true, true, true, true, true, true, true, true, true, true, true, true, true, true, true, true, true, true, true, true, true, true, true, true, true, true, true, true, true, true, true, false, false, false, false, false, false] rfl rfl (any_of HT_.out (by kernel_rfl)) (fun _ _ _ h => h) (Or.inr ⟨by rfl, rfl⟩) ?_ ?_
    rotate_left
    ·
     simp only [Act.put, List.setIfInBounds_toArray, List.set_cons_zero, List.set_cons_succ, i64_w, i32_w]
     rfl
    refine pure_ (i := 33) (N := some 69) (v := undef) (a' := ?_) #[true, true, true, true, true, true, true, true, true, true, true, true, true, true, true, true, true, true, true, true, true, true, true, true, true, true, true, true, true, true, true, true, true, true, false, false, false, false, false] rfl rfl (any_of HT_.out (by kernel_rfl)) (fun _ _ _ h => h) (Or.inr ⟨by rfl, rfl⟩) ?_ ?_
    rotate_left
    ·
     simp only [Act.put, List.setIfInBounds_toArray, List.set_cons_zero, List.set_cons_succ, i64_w, i32_w]
     rfl
    refine pure_ (i := 34) (N := some 70) (v := undef) (a' := ?_) #[true, true, true, true, true, true, true, true, true, true, true, true, true, true, true, true, true, true, true, true, true, true, true, true, true, true, true, true, true, true, true, true, true, true, true, false, false, false, false] rfl rfl (any_of HT_.out (by kernel_rfl)) (fun _ _ _ h => h) (Or.inr ⟨by rfl, rfl⟩) ?_ ?_
    rotate_left
    ·
     simp only [Act.put, List.setIfInBounds_toArray, List.set_cons_zero, List.set_cons_succ, i64_w, i32_w]
     rfl
    refine pure_ (i := 35) (N := some 71) (v := undef) (a' := ?_) #[true, true, true, true, true, true, true, true, true, true, true, true, true, true, true, true, true, true, true, true, true, true, true, true, true, true, true, true, true, true, true, true, true, true, true, true, false, false, false] rfl rfl (any_of HT_.out (by kernel_rfl)) (fun _ _ _ h => h) (Or.inr ⟨by rfl, rfl⟩) ?_ ?_
    rotate_left
    ·
     simp only [Act.put, List.setIfInBounds_toArray, List.set_cons_zero, List.set_cons_succ, i64_w, i32_w]
     rfl
    refine pure_ (i := 36) (N := some 72) (v := undef) (a' := ?_) #[true, true, true, true, true, true, true, true, true, true, true, true, true, true, true, true, true, true, true, true, true, true, true, true, true, true, true, true, true, true, true, true, true, true, true, true, true, false, false] rfl rfl (any_of HT_.out (by kernel_rfl)) (fun _ _ _ h => h) (Or.inr ⟨by rfl, rfl⟩) ?_ ?_
    rotate_left
    ·
     simp only [Act.put, List.setIfInBounds_toArray, List.set_cons_zero, List.set_cons_succ, i64_w, i32_w]
     rfl
    refine pure_ (i := 37) (N := some 73) (v := undef) (a' := ?_) #[true, true, true, true, true, true, true, true, true, true, true, true, true, true, true, true, true, true, true, true, true, true, true, true, true, true, true, true, true, true, true, true, true, true, true, true, true, true, false] rfl rfl (any_of HT_.out (by kernel_rfl)) (fun _ _ _ h => h) (Or.inr ⟨by rfl, rfl⟩) ?_ ?_
    rotate_left
    ·
     simp only [Act.put, List.setIfInBounds_toArray, List.set_cons_zero, List.set_cons_succ, i64_w, i32_w]
     rfl
    refine pu_ 38 (some 74) HT_ rfl rfl (by go_simp; rfl) (by kernel_rfl) rfl (by intro w'; go_simp; with_reducible rfl) (fun _ _ _ h => h) (by go_simp; rfl) ?_
    refine done_ (done_of HT_.out (by kernel_rfl)) ?_
    have p462 : 0 ≤ (0 : Int) := (by omega)
    have q462 : 0 < (t440.length : Int) := of_decide_eq_true (by first | (with_reducible assumption) | assumption)
    obtain ⟨ad462, e462, hx462_0, hx462_1, hx462_2, hx462_3, hx462_4⟩ := at_T48 (Kd.R_reads' HO_3.out).2.2 0 p462 q462
    cases e462
    have qi462 : (0 < t440.length) = True := eq_true (by omega)
    (try rw [show ((0 : Int)).toNat = 0 from rfl] at hx462_0)
    (try rw [show 0 * 5 = 0 from rfl] at hx462_0)
    (try rw [Addr.add_zero'] at hx462_0)
    (try rw [show ((0 : Int)).toNat = 0 from rfl] at hx462_1)
    (try rw [show 0 * 5 = 0 from rfl] at hx462_1)
    (try rw [Addr.add_zero'] at hx462_1)
    (try rw [show ((0 : Int)).toNat = 0 from rfl] at hx462_2)
    (try rw [show 0 * 5 = 0 from rfl] at hx462_2)
    (try rw [Addr.add_zero'] at hx462_2)
    (try rw [show ((0 : Int)).toNat = 0 from rfl] at hx462_3)
    (try rw [show 0 * 5 = 0 from rfl] at hx462_3)
    (try rw [Addr.add_zero'] at hx462_3)
    (try rw [show ((0 : Int)).toNat = 0 from rfl] at hx462_4)
    (try rw [show 0 * 5 = 0 from rfl] at hx462_4)
    (try rw [Addr.add_zero'] at hx462_4)
    replace p462 := eq_true p462
    replace q462 := eq_true q462
    try go_wp2
    go_ret
    exact ⟨by first | rfl | (simp [errW_none, errW_some] <;> rfl) | (simp [*, errW_none, errW_some] <;> rfl), laws_FnSquashTwice_auHB⟩
   rw [if_neg c30] at H
   have c30b0 : decide (2000 < ((rd_T48 t447 x7_1).f4)) = false := decide_eq_false c30
   clear c30
   by_cases c36 : ((rd_T48 t447 x7_1).f4) < (-2000)
   rotate_left
   ·
    rw [if_neg c36] at H
    have c36b0 : decide (((rd_T48 t447 x7_1).f4) < (-2000)) = false := decide_eq_false c36
    clear c36
    have H' := Aside0.mk H
    clear H
    try go_wp2
    replace HO_3 := Aside0.mk (Kd.R_drew HO_3.out)
    replace HO_4 := Aside0.mk (Kd.R_drew HO_4.out)
    replace HO_6 := Aside0.mk (Kd.R_drew HO_6.out)
    replace HB := Aside0.mk (below_drew1 HB.out)
    have p454 : 0 ≤ (x7_1 : Int) := of_decide_eq_true (by first | (with_reducible assumption) | assumption)
    have q454 : x7_1 < (t447.length : Int) := of_decide_eq_true (by first | (with_reducible assumption) | assumption)
    obtain ⟨ad454, e454, hx454_0, hx454_1, hx454_2, hx454_3, hx454_4⟩ := at_T48 (Kd.R_reads' HO_6.out).2.2 x7_1 p454 q454
    cases e454
    replace p454 := eq_true p454
    replace q454 := eq_true q454
    have p461 : 0 ≤ (x7_1 : Int) := of_decide_eq_true (by first | (with_reducible assumption) | assumption)
    have q461 : x7_1 < (t447.length : Int) := of_decide_eq_true (by first | (with_reducible assumption) | assumption)
    obtain ⟨ad461, e461, hx461_0, hx461_1, hx461_2, hx461_3, hx461_4⟩ := at_T48 (Kd.R_reads' HO_6.out).2.2 x7_1 p461 q461
    obtain rfl : ad454 = ad461 := (by injection e461)
    replace p461 := eq_true p461
    replace q461 := eq_true q461
    have p463 : 0 ≤ (x7_1 : Int) := of_decide_eq_true (by first | (with_reducible assumption) | assumption)
    have q463 : x7_1 < (t447.length : Int) := of_decide_eq_true (by first | (with_reducible assumption) | assumption)
    obtain ⟨ad463, e463, hx463_0, hx463_1, hx463_2, hx463_3, hx463_4⟩ := at_T48 (Kd.R_reads' HO_6.out).2.2 x7_1 p463 q463
    obtain rfl : ad454 = ad463 := (by injection e463)
    replace p463 := eq_true p463
    replace q463 := eq_true q463
    refine start_ (n := 39) (S := fun w' => w'.cell? (ad454.add ((x7_1).toNat * 5)) = some (.string ((rd_T48 t447 x7_1).f0)) ∧ w'.cell? ⟨(ad454.add ((x7_1).toNat * 5)).block, (ad454.add ((x7_1).toNat * 5)).off + 1, none⟩ = some (.int .i64 ((rd_T48 t447 x7_1).f1)) ∧ w'.cell? ⟨(ad454.add ((x7_1).toNat * 5)).block, (ad454.add ((x7_1).toNat * 5)).off + 2, none⟩ = some (.int .i64 ((rd_T48 t447 x7_1).f2)) ∧ w'.cell? ⟨(ad454.add ((x7_1).toNat * 5)).block, (ad454.add ((x7_1).toNat * 5)).off + 3, none⟩ = some (.string ((rd_T48 t447 x7_1).f3)) ∧ w'.cell? ⟨(ad454.add ((x7_1).toNat * 5)).block, (ad454.add ((x7_1).toNat * 5)).off + 4, none⟩ = some (.int .i64 ((rd_T48 t447 x7_1).f4)) ∧ w'.cell? (ad454.add ((x7_1).toNat * 5)) = some (.string ((rd_T48 t447 x7_1).f0)) ∧ w'.cell? ⟨(ad454.add ((x7_1).toNat * 5)).block, (ad454.add ((x7_1).toNat * 5)).off + 1, none⟩ = some (.int .i64 ((rd_T48 t447 x7_1).f1)) ∧ w'.cell? ⟨(ad454.add ((x7_1).toNat * 5)).block, (ad454.add ((x7_1).toNat * 5)).off + 2, none⟩ = some (.int .i64 ((rd_T48 t447 x7_1).f2)) ∧ w'.cell? ⟨(ad454.add ((x7_1).toNat * 5)).block, (ad454.add ((x7_1).toNat * 5)).off + 3, none⟩ = some (.string ((rd_T48 t447 x7_1).f3)) ∧ w'.cell? ⟨(ad454.add ((x7_1).toNat * 5)).block, (ad454.add ((x7_1).toNat * 5)).off + 4, none⟩ = some (.int .i64 ((rd_T48 t447 x7_1).f4)) ∧ w'.cell? (ad454.add ((x7_1).toNat * 5)) = some (.string ((rd_T48 t447 x7_1).f0)) ∧ w'.cell? ⟨(ad454.add ((x7_1).toNat * 5)).block, (ad454.add ((x7_1).toNat * 5)).off + 1, none⟩ = some (.int .i64 ((rd_T48 t447 x7_1).f1)) ∧ w'.cell? ⟨(ad454.add ((x7_1).toNat * 5)).block, (ad454.add ((x7_1).toNat * 5)).off + 2, none⟩ = some (.int .i64 ((rd_T48 t447 x7_1).f2)) ∧ w'.cell? ⟨(ad454.add ((x7_1).toNat * 5)).block, (ad454.add ((x7_1).toNat * 5)).off + 3, none⟩ = some (.string ((rd_T48 t447 x7_1).f3)) ∧ w'.cell? ⟨(ad454.add ((x7_1).toNat * 5)).block, (ad454.add ((x7_1).toNat * 5)).off + 4, none⟩ = some (.int .i64 ((rd_T48 t447 x7_1).f4))) (ds := []) #[false, false, false, false, false, false, false, false, false, false, false, false, false, false, false, false, false, false, false, false, false, false, false, false, false, false, false, false, false, false, false, false, false, false, false, false, false, false, false] (by kernel_rfl) rfl rfl ⟨hx454_0, hx454_1, hx454_2, hx454_3, hx454_4, hx461_0, hx461_1, hx461_2, hx461_3, hx461_4, hx463_0, hx463_1, hx463_2, hx463_3, hx463_4⟩ (fun hHeld => ?_); refine with_tabW laws_FnSquashTwice.tab10 laws_FnSquashTwice.bits10 (fun HT_ HW_ => ?_)
    generalize wr.drew = w42 at HO_3 HO_4 HO_6 HB hx454_0 hx454_1 hx454_2 hx454_3 hx454_4 hx461_0 hx461_1 hx461_2 hx461_3 hx461_4 hx463_0 hx463_1 hx463_2 hx463_3 hx463_4 hHeld ⊢
    refine pu_ 0 (some 36) HT_ rfl rfl (by go_simp; rfl) (by kernel_rfl) rfl (by intro w'; go_simp; with_reducible rfl) (fun _ _ _ h => h) (by go_simp; rfl) ?_
    refine pu_ 1 (some 37) HT_ rfl rfl (by go_simp; rfl) (by kernel_rfl) rfl (by intro w'; go_simp; with_reducible rfl) (fun _ _ _ h => h) (by go_simp; rfl) ?_
    refine pu_ 2 (some 38) HT_ rfl rfl (by go_simp; rfl) (by kernel_rfl) rfl (by intro w'; go_simp; with_reducible rfl) (fun _ _ _ h => h) (by go_simp; rfl) ?_
    refine ta_ 3 (some 39) HT_ HW_ hHeld rfl rfl (by go_simp; rfl) (by kernel_rfl) rfl (by rintro w' ⟨s0, s1, s2, s3, s4, s5, s6, s7, s8, s9, s10, s11, s12, s13, s14⟩; go_simp; with_reducible rfl) (fun _ _ _ h => h) (by go_simp; rfl) ?_
    refine one_ (i := 4) (N := some 40) #[true, true, true, true, true, false, false, false, false, false, false, false, false, false, false, false, false, false, false, false, false, false, false, false, false, false, false, false, false, false, false, false, false, false, false, false, false, false, false] rfl rfl (one_of HT_.out (by kernel_rfl)) (by decide) (fun K hK => ?_)
    refine goes_ Try.func30 (by kernel_rfl) rfl #[.agg #[.string ((rd_T48 t447 x7_1).f0), .int .i64 ((rd_T48 t447 x7_1).f1), .int .i64 ((rd_T48 t447 x7_1).f2), .string ((rd_T48 t447 x7_1).f3), .int .i64 ((rd_T48 t447 x7_1).f4)]] (by rfl) rfl rfl (by (try simp only [List.map_toArray, List.map_cons, List.map_nil]); first | done | rfl | (simp only [List.length_drop, List.length_take]; rfl)) ?_
    with_reducible refine (impl_EntryOk.calls k1 ((rd_T48 t447 x7_1).f0) ((rd_T48 t447 x7_1).f1) ((rd_T48 t447 x7_1).f2) ((rd_T48 t447 x7_1).f3) ((rd_T48 t447 x7_1).f4) true _ A17.out).mono ?_
    rintro e w43 ⟨rfl, hb⟩
    have HS0_ := (hb.cell (World.block_lt_of_cell? _ _ (hHeld.1))).trans (hHeld.1)
    have HS1_ := (hb.cell (World.block_lt_of_cell? _ _ (hHeld.2.1))).trans (hHeld.2.1)
    have HS2_ := (hb.cell (World.block_lt_of_cell? _ _ (hHeld.2.2.1))).trans (hHeld.2.2.1)
    have HS3_ := (hb.cell (World.block_lt_of_cell? _ _ (hHeld.2.2.2.1))).trans (hHeld.2.2.2.1)
    have HS4_ := (hb.cell (World.block_lt_of_cell? _ _ (hHeld.2.2.2.2.1))).trans (hHeld.2.2.2.2.1)
    have HS5_ := (hb.cell (World.block_lt_of_cell? _ _ (hHeld.2.2.2.2.2.1))).trans (hHeld.2.2.2.2.2.1)
    have HS6_ := (hb.cell (World.block_lt_of_cell? _ _ (hHeld.2.2.2.2.2.2.1))).trans (hHeld.2.2.2.2.2.2.1)
    have HS7_ := (hb.cell (World.block_lt_of_cell? _ _ (hHeld.2.2.2.2.2.2.2.1))).trans (hHeld.2.2.2.2.2.2.2.1)
    have HS8_ := (hb.cell (World.block_lt_of_cell? _ _ (hHeld.2.2.2.2.2.2.2.2.1))).trans (hHeld.2.2.2.2.2.2.2.2.1)
    have HS9_ := (hb.cell (World.block_lt_of_cell? _ _ (hHeld.2.2.2.2.2.2.2.2.2.1))).trans (hHeld.2.2.2.2.2.2.2.2.2.1)
    have HS10_ := (hb.cell (World.block_lt_of_cell? _ _ (hHeld.2.2.2.2.2.2.2.2.2.2.1))).trans (hHeld.2.2.2.2.2.2.2.2.2.2.1)
    have HS11_ := (hb.cell (World.block_lt_of_cell? _ _ (hHeld.2.2.2.2.2.2.2.2.2.2.2.1))).trans (hHeld.2.2.2.2.2.2.2.2.2.2.2.1)
    have HS12_ := (hb.cell (World.block_lt_of_cell? _ _ (hHeld.2.2.2.2.2.2.2.2.2.2.2.2.1))).trans (hHeld.2.2.2.2.2.2.2.2.2.2.2.2.1)
    have HS13_ := (hb.cell (World.block_lt_of_cell? _ _ (hHeld.2.2.2.2.2.2.2.2.2.2.2.2.2.1))).trans (hHeld.2.2.2.2.2.2.2.2.2.2.2.2.2.1)
    have HS14_ := (hb.cell (World.block_lt_of_cell? _ _ (hHeld.2.2.2.2.2.2.2.2.2.2.2.2.2.2))).trans (hHeld.2.2.2.2.2.2.2.2.2.2.2.2.2.2)
    refine ⟨_, rfl, ?_⟩
    replace HO_3 := Aside0.mk (Kd.R_below (lo_ HO_3) hb)
    replace HO_4 := Aside0.mk (Kd.R_below (lo_ HO_4) hb)
    replace HO_6 := Aside0.mk (Kd.R_below (lo_ HO_6) hb)
    replace HB := Aside0.mk (below_step (laws_FnSquashTwice_auHB) hb)
    (try clear hb)
    (try clear hb2)
    (try clear hk)
    (try clear hi)
    refine hK.out _ _ ⟨HS0_, HS1_, HS2_, HS3_, HS4_, HS5_, HS6_, HS7_, HS8_, HS9_, HS10_, HS11_, HS12_, HS13_, HS14_⟩ (fun hHeld => ?_)
    clear hK K
    refine norm_ (a' := ?_) ?_ ?_
    rotate_left
    ·
     show Act.put _ (some 40) _ = _
     simp only [Act.put, List.setIfInBounds_toArray, List.set_cons_zero, List.set_cons_succ, i64_w, i32_w]
     rfl
    refine pu_ 5 (some 41) HT_ rfl rfl (by go_simp; rfl) (by kernel_rfl) rfl (by intro w'; go_simp; with_reducible rfl) (fun _ _ _ h => h) (by go_simp; rfl) ?_
    refine pu_ 6 (some 42) HT_ rfl rfl (by go_simp; rfl) (by kernel_rfl) rfl (by intro w'; go_simp; with_reducible rfl) (fun _ _ _ h => h) (by go_simp; rfl) ?_
    refine pu_ 7 (some 43) HT_ rfl rfl (by go_simp; rfl) (by kernel_rfl) rfl (by intro w'; go_simp; with_reducible rfl) (fun _ _ _ h => h) (by go_simp; rfl) ?_
    refine pu_ 8 (some 44) HT_ rfl rfl (by go_simp; rfl) (by kernel_rfl) rfl (by intro w'; go_simp; with_reducible rfl) (fun _ _ _ h => h) (by go_simp; rfl) ?_
    refine pu_ 9 (some 45) HT_ rfl rfl (by go_simp; rfl) (by kernel_rfl) rfl (by intro w'; go_simp; with_reducible rfl) (fun _ _ _ h => h) (by go_simp; rfl) ?_
    refine pure_ (i := 10) (N := some 46) (v := undef) (a' := ?_) #[true, true, true, true, true, true, true, true, true, true, true, false, false, false, false, false, false, false, false, false, false, false, false, false, false, false, false, false, false, false, false, false, false, false, false, false, false, false, false] rfl rfl (any_of HT_.out (by kernel_rfl)) (fun _ _ _ h => h) (Or.inr ⟨by rfl, rfl⟩) ?_ ?_
    rotate_left
    ·
     simp only [Act.put, List.setIfInBounds_toArray, List.set_cons_zero, List.set_cons_succ, i64_w, i32_w]
     rfl
    refine pure_ (i := 11) (N := some 47) (v := undef) (a' := ?_) #[true, true, true, true, true, true, true, true, true, true, true, true, false, false, false, false, false, false, false, false, false, false, false, false, false, false, false, false, false, false, false, false, false, false, false, false, false, false, false] rfl rfl (any_of HT_.out (by kernel_rfl)) (fun _ _ _ h => h) (Or.inr ⟨by rfl, rfl⟩) ?_ ?_
    rotate_left
    ·
     simp only [Act.put, List.setIfInBounds_toArray, List.set_cons_zero, List.set_cons_succ, i64_w, i32_w]
     rfl
    refine pure_ (i := 12) (N := some 48) (v := undef) (a' := ?_) #[true, true, true, true, true, true, true, true, true, true, true, true, true, false, false, false, false, false, false, false, false, false, false, false, false, false, false, false, false, false, false, false, false, false, false, false, false, false, false] rfl rfl (any_of HT_.out (by kernel_rfl)) (fun _ _ _ h => h) (Or.inr ⟨by rfl, rfl⟩) ?_ ?_
    rotate_left
    ·
     simp only [Act.put, List.setIfInBounds_toArray, List.set_cons_zero, List.set_cons_succ, i64_w, i32_w]
     rfl
    refine pure_ (i := 13) (N := some 49) (v := undef) (a' := ?_) #[true, true, true, true, true, true, true, true, true, true, true, true, true, true, false, false, false, false, false, false, false, false, false, false, false, false, false, false, false, false, false, false, false, false, false, false, false, false, false] rfl rfl (any_of HT_.out (by kernel_rfl)) (fun _ _ _ h => h) (Or.inr ⟨by rfl, rfl⟩) ?_ ?_
    rotate_left
    ·
     simp only [Act.put, List.setIfInBounds_toArray, List.set_cons_zero, List.set_cons_succ, i64_w, i32_w]
     rfl
    refine pure_ (i := 14) (N := some 50) (v := undef) (a' := ?_) #[true, true, true, true, true, true, true, true, true, true, true, true, true, true, true, false, false, false, false, false, false, false, false, false, false, false, false, false, false, false, false, false, false, false, false, false, false, false, false] rfl rfl (any_of HT_.out (by kernel_rfl)) (fun _ _ _ h => h) (Or.inr ⟨by rfl, rfl⟩) ?_ ?_
    rotate_left
    ·
     simp only [Act.put, List.setIfInBounds_toArray, List.set_cons_zero, List.set_cons_succ, i64_w, i32_w]
     rfl
    refine pure_ (i := 15) (N := some 51) (v := undef) (a' := ?_) #[true, true, true, true, true, true, true, true, true, true, true, true, true, true, true, true, false, false, false, false, false, false, false, false, false, false, false, false, false, false, false, false, false, false, false, false, false, false, false] rfl rfl (any_of HT_.out (by kernel_rfl)) (fun _ _ _ h => h) (Or.inr ⟨by rfl, rfl⟩) ?_ ?_
    rotate_left
    ·
     simp only [Act.put, List.setIfInBounds_toArray, List.set_cons_zero, List.set_cons_succ, i64_w, i32_w]
     rfl
    refine pure_ (i := 16) (N := some 52) (v := undef) (a' := ?_) #[true, true, true, true, true, true, true, true, true, true, true, true, true, true, true, true, true, false, false, false, false, false, false, false, false, false, false, false, false, false, false, false, false, false, false, false, false, false, false] rfl rfl (any_of HT_.out (by kernel_rfl)) (fun _ _ _ h => h) (Or.inr ⟨by rfl, rfl⟩) ?_ ?_
    rotate_left
    ·
     simp only [Act.put, List.setIfInBounds_toArray, List.set_cons_zero, List.set_cons_succ, i64_w, i32_w]
     rfl
    refine pure_ (i := 17) (N := some 53) (v := undef) (a' := ?_) #[true, true, true, true, true, true, true, true, true, true, true, true, true, true, true, true, true, true, false, false, false, false, false, false, false, false, false, false, false, false, false, false, false, false, false, false, false, false, false] rfl rfl (any_of HT_.out (by kernel_rfl)) (fun _ _ _ h => h) (Or.inr ⟨by rfl, rfl⟩) ?_ ?_
    rotate_left
    ·
     simp only [Act.put, List.setIfInBounds_toArray, List.set_cons_zero, List.set_cons_succ, i64_w, i32_w]
     rfl
    refine pure_ (i := 18) (N := some 54) (v := undef) (a' := ?_) #[true, true, true, true, true, true, true, true, true, true, true, true, true, true, true, true, true, true, true, false, false, false, false, false, false, false, false, false, false, false, false, false, false, false, false, false, false, false, false] rfl rfl (any_of HT_.out (by kernel_rfl)) (fun _ _ _ h => h) (Or.inr ⟨by rfl, rfl⟩) ?_ ?_
    rotate_left
    ·
     simp only [Act.put, List.setIfInBounds_toArray, List.set_cons_zero, List.set_cons_succ, i64_w, i32_w]
     rfl
    refine pure_ (i := 19) (N := some 55) (v := undef) (a' := ?_) #[true, true, true, true, true, true, true, true, true, true, true, true, true, true, true, true, true, true, true, true, false, false, false, false, false, false, false, false, false, false, false, false, false, false, false, false, false, false, false] rfl rfl (any_of HT_.out (by kernel_rfl)) (fun _ _ _ h => h) (Or.inr ⟨by rfl, rfl⟩) ?_ ?_
    rotate_left
    ·
     simp only [Act.put, List.setIfInBounds_toArray, List.set_cons_zero, List.set_cons_succ, i64_w, i32_w]
     rfl
    refine pure_ (i := 20) (N := some 56) (v := undef) (a' := ?_) #[true, true, true, true, true, true, true, true, true, true, true, true, true, true, true, true, true, true, true, true, true, false, false, false, false, false, false, false, false, false, false, false, false, false, false, false, false, false, false] rfl rfl (any_of HT_.out (by kernel_rfl)) (fun _ _ _ h => h) (Or.inr ⟨by rfl, rfl⟩) ?_ ?_
    rotate_left
    ·
     simp only [Act.put, List.setIfInBounds_toArray, List.set_cons_zero, List.set_cons_succ, i64_w, i32_w]
     rfl
    refine pu_ 21 (some 57) HT_ rfl rfl (by go_simp; rfl) (by kernel_rfl) rfl (by intro w'; go_simp; with_reducible rfl) (fun _ _ _ h => h) (by go_simp; rfl) ?_
    refine pu_ 22 (some 58) HT_ rfl rfl (by go_simp; rfl) (by kernel_rfl) rfl (by intro w'; go_simp; with_reducible rfl) (fun _ _ _ h => h) (by go_simp; rfl) ?_
    refine pu_ 23 (some 59) HT_ rfl rfl (by go_simp; rfl) (by kernel_rfl) rfl (by intro w'; go_simp; with_reducible rfl) (fun _ _ _ h => h) (by go_simp; rfl) ?_
    refine pu_ 24 (some 60) HT_ rfl rfl (by go_simp; rfl) (by kernel_rfl) rfl (by intro w'; go_simp; with_reducible rfl) (fun _ _ _ h => h) (by go_simp; rfl) ?_
    refine pu_ 25 (some 61) HT_ rfl rfl (by go_simp; rfl) (by kernel_rfl) rfl (by intro w'; go_simp; with_reducible rfl) (fun _ _ _ h => h) (by go_simp; rfl) ?_
    refine pu_ 26 (some 62) HT_ rfl rfl (by go_simp; rfl) (by kernel_rfl) rfl (by intro w'; go_simp; with_reducible rfl) (fun _ _ _ h => h) (by go_simp; rfl) ?_
    refine pu_ 27 (some 63) HT_ rfl rfl (by go_simp; rfl) (by kernel_rfl) rfl (by intro w'; go_simp; with_reducible rfl) (fun _ _ _ h => h) (by go_simp; rfl) ?_
    refine ta_ 28 (some 64) HT_ HW_ hHeld rfl rfl (by go_simp; rfl) (by kernel_rfl) rfl (by rintro w' ⟨s0, s1, s2, s3, s4, s5, s6, s7, s8, s9, s10, s11, s12, s13, s14⟩; go_simp; with_reducible rfl) (fun _ _ _ h => h) (by go_simp; rfl) ?_
    refine pu_ 29 (some 65) HT_ rfl rfl (by go_simp; rfl) (by kernel_rfl) rfl (by intro w'; go_simp; with_reducible rfl) (fun _ _ _ h => h) (by go_simp; rfl) ?_
    refine pu_ 30 (some 66) HT_ rfl rfl (by go_simp; rfl) (by kernel_rfl) rfl (by intro w'; go_simp; with_reducible rfl) (fun _ _ _ h => h) (by go_simp; rfl) ?_
    refine pu_ 31 (some 67) HT_ rfl rfl (by go_simp; rfl) (by kernel_rfl) rfl (by intro w'; go_simp; with_reducible rfl) (fun _ _ _ h => h) (by go_simp; rfl) ?_
    refine pu_ 32 (some 68) HT_ rfl rfl (by go_simp; rfl) (by kernel_rfl) rfl (by intro w'; go_simp; with_reducible rfl) (fun _ _ _ h => h) (by go_simp; rfl) ?_
    refine pu_ 33 (some 69) HT_ rfl rfl (by go_simp; rfl) (by kernel_rfl) rfl (by intro w'; go_simp; with_reducible rfl) (fun _ _ _ h => h) (by go_simp; rfl) ?_
    refine pu_ 34 (some 70) HT_ rfl rfl (by go_simp; rfl) (by kernel_rfl) rfl (by intro w'; go_simp; with_reducible rfl) (fun _ _ _ h => h) (by go_simp; rfl) ?_
    refine pu_ 35 (some 71) HT_ rfl rfl (by go_simp; rfl) (by kernel_rfl) rfl (by intro w'; go_simp; with_reducible rfl) (fun _ _ _ h => h) (by go_simp; rfl) ?_
    refine ta_ 36 (some 72) HT_ HW_ hHeld rfl rfl (by go_simp; rfl) (by kernel_rfl) rfl (by rintro w' ⟨s0, s1, s2, s3, s4, s5, s6, s7, s8, s9, s10, s11, s12, s13, s14⟩; go_simp; with_reducible rfl) (fun _ _ _ h => h) (by go_simp; rfl) ?_
    refine pu_ 37 (some 73) HT_ rfl rfl (by go_simp; rfl) (by kernel_rfl) rfl (by intro w'; go_simp; with_reducible rfl) (fun _ _ _ h => h) (by go_simp; rfl) ?_
    refine pu_ 38 (some 74) HT_ rfl rfl (by go_simp; rfl) (by kernel_rfl) rfl (by intro w'; go_simp; with_reducible rfl) (fun _ _ _ h => h) (by go_simp; rfl) ?_
    refine done_ (done_of HT_.out (by kernel_rfl)) ?_
    try go_wp2
    go_roundg k1
    case measure => have := HK1.out; omega
    case rel => exact ⟨(wrap64 (x7_1 + 1)), (by first | rfl | (simp; done) | (simp [*]; done)), H', ⟨by have := HK1.out; omega⟩, ⟨by (with_reducible repeat (first | apply Kd.R_alloc | apply Kd.R_drewN | apply Kd.R_drew)); exact HO_3.out⟩, ⟨by (with_reducible repeat (first | apply Kd.R_alloc | apply Kd.R_drewN | apply Kd.R_drew)); exact HO_4.out⟩, ⟨by (with_reducible repeat (first | apply Kd.R_alloc | apply Kd.R_drewN | apply Kd.R_drew)); exact HO_6.out⟩, ⟨laws_FnSquashTwice_auHB⟩⟩
   rw [if_pos c36] at H
   have c36b0 : decide (((rd_T48 t447 x7_1).f4) < (-2000)) = true := decide_eq_true c36
   clear c36
   by_cases c37 : (t440.length : Int) > 0
   rotate_left
   ·
    rw [if_neg c37] at H
    exact absurd H (by simp)
   rw [if_pos c37] at H
   have c37b0 : decide (0 < (t440.length : Int)) = true := decide_eq_true c37
   have c37b1 : decide (0 < t440.length) = true := decide_eq_true (by omega)
   clear c37
   by_cases c38 : 0 < (t440.length : Int)
   rotate_left
   ·
    rw [if_neg c38] at H
    exact absurd H (by simp)
   rw [if_pos c38] at H
   have c38b0 : decide (0 < (t440.length : Int)) = true := decide_eq_true c38
   have c38b1 : decide (0 < t440.length) = true := decide_eq_true (by omega)
   clear c38
   by_cases c39 : ((rd_T48 t440 0).f4) > 2000
   ·
    rw [if_pos c39] at H
    exact absurd H (by simp)
   rw [if_neg c39] at H
   have c39b0 : decide (2000 < ((rd_T48 t440 0).f4)) = false := decide_eq_false c39
   clear c39
   obtain rfl := Option.some.inj H
   try go_wp2
   replace HO_3 := Aside0.mk (Kd.R_drew HO_3.out)
   replace HO_4 := Aside0.mk (Kd.R_drew HO_4.out)
   replace HO_6 := Aside0.mk (Kd.R_drew HO_6.out)
   replace HB := Aside0.mk (below_drew1 HB.out)
   have p454 : 0 ≤ (x7_1 : Int) := of_decide_eq_true (by first | (with_reducible assumption) | assumption)
   have q454 : x7_1 < (t447.length : Int) := of_decide_eq_true (by first | (with_reducible assumption) | assumption)
   obtain ⟨ad454, e454, hx454_0, hx454_1, hx454_2, hx454_3, hx454_4⟩ := at_T48 (Kd.R_reads' HO_6.out).2.2 x7_1 p454 q454
   cases e454
   replace p454 := eq_true p454
   replace q454 := eq_true q454
   have p461 : 0 ≤ (x7_1 : Int) := of_decide_eq_true (by first | (with_reducible assumption) | assumption)
   have q461 : x7_1 < (t447.length : Int) := of_decide_eq_true (by first | (with_reducible assumption) | assumption)
   obtain ⟨ad461, e461, hx461_0, hx461_1, hx461_2, hx461_3, hx461_4⟩ := at_T48 (Kd.R_reads' HO_6.out).2.2 x7_1 p461 q461
   obtain rfl : ad454 = ad461 := (by injection e461)
   replace p461 := eq_true p461
   replace q461 := eq_true q461
   have p463 : 0 ≤ (x7_1 : Int) := of_decide_eq_true (by first | (with_reducible assumption) | assumption)
   have q463 : x7_1 < (t447.length : Int) := of_decide_eq_true (by first | (with_reducible assumption) | assumption)
   obtain ⟨ad463, e463, hx463_0, hx463_1, hx463_2, hx463_3, hx463_4⟩ := at_T48 (Kd.R_reads' HO_6.out).2.2 x7_1 p463 q463
   obtain rfl : ad454 = ad463 := (by injection e463)
   replace p463 := eq_true p463
   replace q463 := eq_true q463
   refine start_ (n := 39) (S := fun w' => w'.cell? (ad454.add ((x7_1).toNat * 5)) = some (.string ((rd_T48 t447 x7_1).f0)) ∧ w'.cell? ⟨(ad454.add ((x7_1).toNat * 5)).block, (ad454.add ((x7_1).toNat * 5)).off + 1, none⟩ = some (.int .i64 ((rd_T48 t447 x7_1).f1)) ∧ w'.cell? ⟨(ad454.add ((x7_1).toNat * 5)).block, (ad454.add ((x7_1).toNat * 5)).off + 2, none⟩ = some (.int .i64 ((rd_T48 t447 x7_1).f2)) ∧ w'.cell? ⟨(ad454.add ((x7_1).toNat * 5)).block, (ad454.add ((x7_1).toNat * 5)).off + 3, none⟩ = some (.string ((rd_T48 t447 x7_1).f3)) ∧ w'.cell? ⟨(ad454.add ((x7_1).toNat * 5)).block, (ad454.add ((x7_1).toNat * 5)).off + 4, none⟩ = some (.int .i64 ((rd_T48 t447 x7_1).f4)) ∧ w'.cell? (ad454.add ((x7_1).toNat * 5)) = some (.string ((rd_T48 t447 x7_1).f0)) ∧ w'.cell? ⟨(ad454.add ((x7_1).toNat * 5)).block, (ad454.add ((x7_1).toNat * 5)).off + 1, none⟩ = some (.int .i64 ((rd_T48 t447 x7_1).f1)) ∧ w'.cell? ⟨(ad454.add ((x7_1).toNat * 5)).block, (ad454.add ((x7_1).toNat * 5)).off + 2, none⟩ = some (.int .i64 ((rd_T48 t447 x7_1).f2)) ∧ w'.cell? ⟨(ad454.add ((x7_1).toNat * 5)).block, (ad454.add ((x7_1).toNat * 5)).off + 3, none⟩ = some (.string ((rd_T48 t447 x7_1).f3)) ∧ w'.cell? ⟨(ad454.add ((x7_1).toNat * 5)).block, (ad454.add ((x7_1).toNat * 5)).off + 4, none⟩ = some (.int .i64 ((rd_T48 t447 x7_1).f4)) ∧ w'.cell? (ad454.add ((x7_1).toNat * 5)) = some (.string ((rd_T48 t447 x7_1).f0)) ∧ w'.cell? ⟨(ad454.add ((x7_1).toNat * 5)).block, (ad454.add ((x7_1).toNat * 5)).off + 1, none⟩ = some (.int .i64 ((rd_T48 t447 x7_1).f1)) ∧ w'.cell? ⟨(ad454.add ((x7_1).toNat * 5)).block, (ad454.add ((x7_1).toNat * 5)).off + 2, none⟩ = some (.int .i64 ((rd_T48 t447 x7_1).f2)) ∧ w'.cell? ⟨(ad454.add ((x7_1).toNat * 5)).block, (ad454.add ((x7_1).toNat * 5)).off + 3, none⟩ = some (.string ((rd_T48 t447 x7_1).f3)) ∧ w'.cell? ⟨(ad454.add ((x7_1).toNat * 5)).block, (ad454.add ((x7_1).toNat * 5)).off + 4, none⟩ = some (.int .i64 ((rd_T48 t447 x7_1).f4))) (ds := []) #[false, false, false, false, false, false, false, false, false, false, false, false, false, false, false, false, false, false, false, false, false, false, false, false, false, false, false, false, false, false, false, false, false, false, false, false, false, false, false] (by kernel_rfl) rfl rfl ⟨hx454_0, hx454_1, hx454_2, hx454_3, hx454_4, hx461_0, hx461_1, hx461_2, hx461_3, hx461_4, hx463_0, hx463_1, hx463_2, hx463_3, hx463_4⟩ (fun hHeld => ?_); refine with_tabW laws_FnSquashTwice.tab10 laws_FnSquashTwice.bits10 (fun HT_ HW_ => ?_)
   generalize wr.drew = w40 at HO_3 HO_4 HO_6 HB hx454_0 hx454_1 hx454_2 hx454_3 hx454_4 hx461_0 hx461_1 hx461_2 hx461_3 hx461_4 hx463_0 hx463_1 hx463_2 hx463_3 hx463_4 hHeld ⊢
   refine pu_ 0 (some 36) HT_ rfl rfl (by go_simp; rfl) (by kernel_rfl) rfl (by intro w'; go_simp; with_reducible rfl) (fun _ _ _ h => h) (by go_simp; rfl) ?_
   refine pu_ 1 (some 37) HT_ rfl rfl (by go_simp; rfl) (by kernel_rfl) rfl (by intro w'; go_simp; with_reducible rfl) (fun _ _ _ h => h) (by go_simp; rfl) ?_
   refine pu_ 2 (some 38) HT_ rfl rfl (by go_simp; rfl) (by kernel_rfl) rfl (by intro w'; go_simp; with_reducible rfl) (fun _ _ _ h => h) (by go_simp; rfl) ?_
   refine ta_ 3 (some 39) HT_ HW_ hHeld rfl rfl (by go_simp; rfl) (by kernel_rfl) rfl (by rintro w' ⟨s0, s1, s2, s3, s4, s5, s6, s7, s8, s9, s10, s11, s12, s13, s14⟩; go_simp; with_reducible rfl) (fun _ _ _ h => h) (by go_simp; rfl) ?_
   refine one_ (i := 4) (N := some 40) #[true, true, true, true, true, false, false, false, false, false, false, false, false, false, false, false, false, false, false, false, false, false, false, false, false, false, false, false, false, false, false, false, false, false, false, false, false, false, false] rfl rfl (one_of HT_.out (by kernel_rfl)) (by decide) (fun K hK => ?_)
   refine goes_ Try.func30 (by kernel_rfl) rfl #[.agg #[.string ((rd_T48 t447 x7_1).f0), .int .i64 ((rd_T48 t447 x7_1).f1), .int .i64 ((rd_T48 t447 x7_1).f2), .string ((rd_T48 t447 x7_1).f3), .int .i64 ((rd_T48 t447 x7_1).f4)]] (by rfl) rfl rfl (by (try simp only [List.map_toArray, List.map_cons, List.map_nil]); first | done | rfl | (simp only [List.length_drop, List.length_take]; rfl)) ?_
   with_reducible refine (impl_EntryOk.calls k1 ((rd_T48 t447 x7_1).f0) ((rd_T48 t447 x7_1).f1) ((rd_T48 t447 x7_1).f2) ((rd_T48 t447 x7_1).f3) ((rd_T48 t447 x7_1).f4) true _ A17.out).mono ?_
   rintro e w41 ⟨rfl, hb⟩
   have HS0_ := (hb.cell (World.block_lt_of_cell? _ _ (hHeld.1))).trans (hHeld.1)
   have HS1_ := (hb.cell (World.block_lt_of_cell? _ _ (hHeld.2.1))).trans (hHeld.2.1)
   have HS2_ := (hb.cell (World.block_lt_of_cell? _ _ (hHeld.2.2.1))).trans (hHeld.2.2.1)
   have HS3_ := (hb.cell (World.block_lt_of_cell? _ _ (hHeld.2.2.2.1))).trans (hHeld.2.2.2.1)
   have HS4_ := (hb.cell (World.block_lt_of_cell? _ _ (hHeld.2.2.2.2.1))).trans (hHeld.2.2.2.2.1)
   have HS5_ := (hb.cell (World.block_lt_of_cell? _ _ (hHeld.2.2.2.2.2.1))).trans (hHeld.2.2.2.2.2.1)
   have HS6_ := (hb.cell (World.block_lt_of_cell? _ _ (hHeld.2.2.2.2.2.2.1))).trans (hHeld.2.2.2.2.2.2.1)
   have HS7_ := (hb.cell (World.block_lt_of_cell? _ _ (hHeld.2.2.2.2.2.2.2.1))).trans (hHeld.2.2.2.2.2.2.2.1)
   have HS8_ := (hb.cell (World.block_lt_of_cell? _ _ (hHeld.2.2.2.2.2.2.2.2.1))).trans (hHeld.2.2.2.2.2.2.2.2.1)
   have HS9_ := (hb.cell (World.block_lt_of_cell? _ _ (hHeld.2.2.2.2.2.2.2.2.2.1))).trans (hHeld.2.2.2.2.2.2.2.2.2.1)
   have HS10_ := (hb.cell (World.block_lt_of_cell? _ _ (hHeld.2.2.2.2.2.2.2.2.2.2.1))).trans (hHeld.2.2.2.2.2.2.2.2.2.2.1)
   have HS11_ := (hb.cell (World.block_lt_of_cell? _ _ (hHeld.2.2.2.2.2.2.2.2.2.2.2.1))).trans (hHeld.2.2.2.2.2.2.2.2.2.2.2.1)
   have HS12_ := (hb.cell (World.block_lt_of_cell? _ _ (hHeld.2.2.2.2.2.2.2.2.2.2.2.2.1))).trans (hHeld.2.2.2.2.2.2.2.2.2.2.2.2.1)
   have HS13_ := (hb.cell (World.block_lt_of_cell? _ _ (hHeld.2.2.2.2.2.2.2.2.2.2.2.2.2.1))).trans (hHeld.2.2.2.2.2.2.2.2.2.2.2.2.2.1)
   have HS14_ := (hb.cell (World.block_lt_of_cell? _ _ (hHeld.2.2.2.2.2.2.2.2.2.2.2.2.2.2))).trans (hHeld.2.2.2.2.2.2.2.2.2.2.2.2.2.2)
   refine ⟨_, rfl, ?_⟩
   replace HO_3 := Aside0.mk (Kd.R_below (lo_ HO_3) hb)
   replace HO_4 := Aside0.mk (Kd.R_below (lo_ HO_4) hb)
   replace HO_6 := Aside0.mk (Kd.R_below (lo_ HO_6) hb)
   replace HB := Aside0.mk (below_step (laws_FnSquashTwice_auHB) hb)
   (try clear hb)
   (try clear hb2)
   (try clear hk)
   (try clear hi)
   refine hK.out _ _ ⟨HS0_, HS1_, HS2_, HS3_, HS4_, HS5_, HS6_, HS7_, HS8_, HS9_, HS10_, HS11_, HS12_, HS13_, HS14_⟩ (fun hHeld => ?_)
   clear hK K
   refine norm_ (a' := ?_) ?_ ?_
   rotate_left
   ·
    show Act.put _ (some 40) _ = _
    simp only [Act.put, List.setIfInBounds_toArray, List.set_cons_zero, List.set_cons_succ, i64_w, i32_w]
    rfl
   refine pu_ 5 (some 41) HT_ rfl rfl (by go_simp; rfl) (by kernel_rfl) rfl (by intro w'; go_simp; with_reducible rfl) (fun _ _ _ h => h) (by go_simp; rfl) ?_
   refine pu_ 6 (some 42) HT_ rfl rfl (by go_simp; rfl) (by kernel_rfl) rfl (by intro w'; go_simp; with_reducible rfl) (fun _ _ _ h => h) (by go_simp; rfl) ?_
   refine pu_ 7 (some 43) HT_ rfl rfl (by go_simp; rfl) (by kernel_rfl) rfl (by intro w'; go_simp; with_reducible rfl) (fun _ _ _ h => h) (by go_simp; rfl) ?_
   refine pu_ 8 (some 44) HT_ rfl rfl (by go_simp; rfl) (by kernel_rfl) rfl (by intro w'; go_simp; with_reducible rfl) (fun _ _ _ h => h) (by go_simp; rfl) ?_
   refine pu_ 9 (some 45) HT_ rfl rfl (by go_simp; rfl) (by kernel_rfl) rfl (by intro w'; go_simp; with_reducible rfl) (fun _ _ _ h => h) (by go_simp; rfl) ?_
   refine pure_ (i := 10) (N := some 46) (v := undef) (a' := ?_) #[true, true, true, true, true, true, true, true, true, true, true, false, false, false, false, false, false, false, false, false, false, false, false, false, false, false, false, false, false, false, false, false, false, false, false, false, false, false, false] rfl rfl (any_of HT_.out (by kernel_rfl)) (fun _ _ _ h => h) (Or.inr ⟨by rfl, rfl⟩) ?_ ?_
   rotate_left
   ·
    simp only [Act.put, List.setIfInBounds_toArray, List.set_cons_zero, List.set_cons_succ, i64_w, i32_w]
    rfl
   refine pure_ (i := 11) (N := some 47) (v := undef) (a' := ?_) #[true, true, true, true, true, true, true, true, true, true, true, true, false, false, false, false, false, false, false, false, false, false, false, false, false, false, false, false, false, false, false, false, false, false, false, false, false, false, false] rfl rfl (any_of HT_.out (by kernel_rfl)) (fun _ _ _ h => h) (Or.inr ⟨by rfl, rfl⟩) ?_ ?_
   rotate_left
   ·
    simp only [Act.put, List.setIfInBounds_toArray, List.set_cons_zero, List.set_cons_succ, i64_w, i32_w]
    rfl
   refine pure_ (i := 12) (N := some 48) (v := undef) (a' := ?_) #[true, true, true, true, true, true, true, true, true, true, true, true, true, false, false, false, false, false, false, false, false, false, false, false, false, false, false, false, false, false, false, false, false, false, false, false, false, false, false] rfl rfl (any_of HT_.out (by kernel_rfl)) (fun _ _ _ h => h) (Or.inr ⟨by rfl, rfl⟩) ?_ ?_
   rotate_left
   ·
    simp only [Act.put, List.setIfInBounds_toArray, List.set_cons_zero, List.set_cons_succ, i64_w, i32_w]
    rfl
   refine pure_ (i := 13) (N := some 49) (v := undef) (a' := ?_) #[true, true, true, true, true, true, true, true, true, true, true, true, true, true, false, false, false, false, false, false, false, false, false, false, false, false, false, false, false, false, false, false, false, false, false, false, false, false, false] rfl rfl (any_of HT_.out (by kernel_rfl)) (fun _ _ _ h => h) (Or.inr ⟨by rfl, rfl⟩) ?_ ?_
   rotate_left
   ·
    simp only [Act.put, List.setIfInBounds_toArray, List.set_cons_zero, List.set_cons_succ, i64_w, i32_w]
    rfl
   refine pure_ (i := 14) (N := some 50) (v := undef) (a' := ?_) #[true, true, true, true, true, true, true, true, true, true, true, true, true, true, true, false, false, false, false, false, false, false, false, false, false, false, false, false, false, false, false, false, false, false, false, false, false, false, false] rfl rfl (any_of HT_.out (by kernel_rfl)) (fun _ _ _ h => h) (Or.inr ⟨by rfl, rfl⟩) ?_ ?_
   rotate_left
   ·
    simp only [Act.put, List.setIfInBounds_toArray, List.set_cons_zero, List.set_cons_succ, i64_w, i32_w]
    rfl
   refine pure_ (i := 15) (N := some 51) (v := undef) (a' := ?_) #[true, true, true, true, true, true, true, true, true, true, true, true, true, true, true, true, false, false, false, false, false, false, false, false, false, false, false, false, false, false, false, false, false, false, false, false, false, false, false] rfl rfl (any_of HT_.out (by kernel_rfl)) (fun _ _ _ h => h) (Or.inr ⟨by rfl, rfl⟩) ?_ ?_
   rotate_left
   ·
    simp only [Act.put, List.setIfInBounds_toArray, List.set_cons_zero, List.set_cons_succ, i64_w, i32_w]
    rfl
   refine pure_ (i := 16) (N := some 52) (v := undef) (a' := ?_) #[true, true, true, true, true, true, true, true, true, true, true, true, true, true, true, true, true, false, false, false, false, false, false, false, false, false, false, false, false, false, false, false, false, false, false, false, false, false, false] rfl rfl (any_of HT_.out (by kernel_rfl)) (fun _ _ _ h => h) (Or.inr ⟨by rfl, rfl⟩) ?_ ?_
   rotate_left
   ·
    simp only [Act.put, List.setIfInBounds_toArray, List.set_cons_zero, List.set_cons_succ, i64_w, i32_w]
    rfl
   refine pure_ (i := 17) (N := some 53) (v := undef) (a' := ?_) #[true, true, true, true, true, true, true, true, true, true, true, true, true, true, true, true, true, true, false, false, false, false, false, false, false, false, false, false, false, false, false, false, false, false, false, false, false, false, false] rfl rfl (any_of HT_.out (by kernel_rfl)) (fun _ _ _ h => h) (Or.inr ⟨by rfl, rfl⟩) ?_ ?_
   rotate_left
   ·
    simp only [Act.put, List.setIfInBounds_toArray, List.set_cons_zero, List.set_cons_succ, i64_w, i32_w]
    rfl
   refine pure_ (i := 18) (N := some 54) (v := undef) (a' := ?_) #[true, true, true, true, true, true, true, true, true, true, true, true, true, true, true, true, true, true, true, false, false, false, false, false, false, false, false, false, false, false, false, false, false, false, false, false, false, false, false] rfl rfl (any_of HT_.out (by kernel_rfl)) (fun _ _ _ h => h) (Or.inr ⟨by rfl, rfl⟩) ?_ ?_
   rotate_left
   ·
    simp only [Act.put, List.setIfInBounds_toArray, List.set_cons_zero, List.set_cons_succ, i64_w, i32_w]
    rfl
   refine pure_ (i := 19) (N := some 55) (v := undef) (a' := ?_) #[true, true, true, true, true, true, true, true, true, true, true, true, true, true, true, true, true, true, true, true, false, false, false, false, false, false, false, false, false, false, false, false, false, false, false, false, false, false, false] rfl rfl (any_of HT_.out (by kernel_rfl)) (fun _ _ _ h => h) (Or.inr ⟨by rfl, rfl⟩) ?_ ?_
   rotate_left
   ·
    simp only [Act.put, List.setIfInBounds_toArray, List.set_cons_zero, List.set_cons_succ, i64_w, i32_w]
    rfl
   refine pure_ (i := 20) (N := some 56) (v := undef) (a' := ?_) #[true, true, true, true, true, true, true, true, true, true, true, true, true, true, true, true, true, true, true, true, true, false, false, false, false, false, false, false, false, false, false, false, false, false, false, false, false, false, false] rfl rfl (any_of HT_.out (by kernel_rfl)) (fun _ _ _ h => h) (Or.inr ⟨by rfl, rfl⟩) ?_ ?_
   rotate_left
   ·
    simp only [Act.put, List.setIfInBounds_toArray, List.set_cons_zero, List.set_cons_succ, i64_w, i32_w]
    rfl
   refine pu_ 21 (some 57) HT_ rfl rfl (by go_simp; rfl) (by kernel_rfl) rfl (by intro w'; go_simp; with_reducible rfl) (fun _ _ _ h => h) (by go_simp; rfl) ?_
   refine pu_ 22 (some 58) HT_ rfl rfl (by go_simp; rfl) (by kernel_rfl) rfl (by intro w'; go_simp; with_reducible rfl) (fun _ _ _ h => h) (by go_simp; rfl) ?_
   refine pu_ 23 (some 59) HT_ rfl rfl (by go_simp; rfl) (by kernel_rfl) rfl (by intro w'; go_simp; with_reducible rfl) (fun _ _ _ h => h) (by go_simp; rfl) ?_
   refine pu_ 24 (some 60) HT_ rfl rfl (by go_simp; rfl) (by kernel_rfl) rfl (by intro w'; go_simp; with_reducible rfl) (fun _ _ _ h => h) (by go_simp; rfl) ?_
   refine pu_ 25 (some 61) HT_ rfl rfl (by go_simp; rfl) (by kernel_rfl) rfl (by intro w'; go_simp; with_reducible rfl) (fun _ _ _ h => h) (by go_simp; rfl) ?_
   refine pu_ 26 (some 62) HT_ rfl rfl (by go_simp; rfl) (by kernel_rfl) rfl (by intro w'; go_simp; with_reducible rfl) (fun _ _ _ h => h) (by go_simp; rfl) ?_
   refine pu_ 27 (some 63) HT_ rfl rfl (by go_simp; rfl) (by kernel_rfl) rfl (by intro w'; go_simp; with_reducible rfl) (fun _ _ _ h => h) (by go_simp; rfl) ?_
   refine ta_ 28 (some 64) HT_ HW_ hHeld rfl rfl (by go_simp; rfl) (by kernel_rfl) rfl (by rintro w' ⟨s0, s1, s2, s3, s4, s5, s6, s7, s8, s9, s10, s11, s12, s13, s14⟩; go_simp; with_reducible rfl) (fun _ _ _ h => h) (by go_simp; rfl) ?_
   refine pu_ 29 (some 65) HT_ rfl rfl (by go_simp; rfl) (by kernel_rfl) rfl (by intro w'; go_simp; with_reducible rfl) (fun _ _ _ h => h) (by go_simp; rfl) ?_
   refine pu_ 30 (some 66) HT_ rfl rfl (by go_simp; rfl) (by kernel_rfl) rfl (by intro w'; go_simp; with_reducible rfl) (fun _ _ _ h => h) (by go_simp; rfl) ?_
   refine pu_ 31 (some 67) HT_ rfl rfl (by go_simp; rfl) (by kernel_rfl) rfl (by intro w'; go_simp; with_reducible rfl) (fun _ _ _ h => h) (by go_simp; rfl) ?_
   refine pu_ 32 (some 68) HT_ rfl rfl (by go_simp; rfl) (by kernel_rfl) rfl (by intro w'; go_simp; with_reducible rfl) (fun _ _ _ h => h) (by go_simp; rfl) ?_
   refine pu_ 33 (some 69) HT_ rfl rfl (by go_simp; rfl) (by kernel_rfl) rfl (by intro w'; go_simp; with_reducible rfl) (fun _ _ _ h => h) (by go_simp; rfl) ?_
   refine pu_ 34 (some 70) HT_ rfl rfl (by go_simp; rfl) (by kernel_rfl) rfl (by intro w'; go_simp; with_reducible rfl) (fun _ _ _ h => h) (by go_simp; rfl) ?_
   refine pu_ 35 (some 71) HT_ rfl rfl (by go_simp; rfl) (by kernel_rfl) rfl (by intro w'; go_simp; with_reducible rfl) (fun _ _ _ h => h) (by go_simp; rfl) ?_
   refine ta_ 36 (some 72) HT_ HW_ hHeld rfl rfl (by go_simp; rfl) (by kernel_rfl) rfl (by rintro w' ⟨s0, s1, s2, s3, s4, s5, s6, s7, s8, s9, s10, s11, s12, s13, s14⟩; go_simp; with_reducible rfl) (fun _ _ _ h => h) (by go_simp; rfl) ?_
   refine pu_ 37 (some 73) HT_ rfl rfl (by go_simp; rfl) (by kernel_rfl) rfl (by intro w'; go_simp; with_reducible rfl) (fun _ _ _ h => h) (by go_simp; rfl) ?_
   refine pu_ 38 (some 74) HT_ rfl rfl (by go_simp; rfl) (by kernel_rfl) rfl (by intro w'; go_simp; with_reducible rfl) (fun _ _ _ h => h) (by go_simp; rfl) ?_
   refine done_ (done_of HT_.out (by kernel_rfl)) ?_
   have p464 : 0 ≤ (0 : Int) := (by omega)
   have q464 : 0 < (t440.length : Int) := of_decide_eq_true (by first | (with_reducible assumption) | assumption)
   obtain ⟨ad464, e464, hx464_0, hx464_1, hx464_2, hx464_3, hx464_4⟩ := at_T48 (Kd.R_reads' HO_3.out).2.2 0 p464 q464
   cases e464
   have qi464 : (0 < t440.length) = True := eq_true (by omega)
   (try rw [show ((0 : Int)).toNat = 0 from rfl] at hx464_0)
   (try rw [show 0 * 5 = 0 from rfl] at hx464_0)
   (try rw [Addr.add_zero'] at hx464_0)
   (try rw [show ((0 : Int)).toNat = 0 from rfl] at hx464_1)
   (try rw [show 0 * 5 = 0 from rfl] at hx464_1)
   (try rw [Addr.add_zero'] at hx464_1)
   (try rw [show ((0 : Int)).toNat = 0 from rfl] at hx464_2)
   (try rw [show 0 * 5 = 0 from rfl] at hx464_2)
   (try rw [Addr.add_zero'] at hx464_2)
   (try rw [show ((0 : Int)).toNat = 0 from rfl] at hx464_3)
   (try rw [show 0 * 5 = 0 from rfl] at hx464_3)
   (try rw [Addr.add_zero'] at hx464_3)
   (try rw [show ((0 : Int)).toNat = 0 from rfl] at hx464_4)
   (try rw [show 0 * 5 = 0 from rfl] at hx464_4)
   (try rw [Addr.add_zero'] at hx464_4)
   replace p464 := eq_true p464
   replace q464 := eq_true q464
   have p465 : 0 ≤ (0 : Int) := (by omega)
   have q465 : 0 < (t440.length : Int) := of_decide_eq_true (by first | (with_reducible assumption) | assumption)
   obtain ⟨ad465, e465, hx465_0, hx465_1, hx465_2, hx465_3, hx465_4⟩ := at_T48 (Kd.R_reads' HO_3.out).2.2 0 p465 q465
   obtain rfl : ad464 = ad465 := (by injection e465)
   have qi465 : (0 < t440.length) = True := eq_true (by omega)
   (try rw [show ((0 : Int)).toNat = 0 from rfl] at hx465_0)
   (try rw [show 0 * 5 = 0 from rfl] at hx465_0)
   (try rw [Addr.add_zero'] at hx465_0)
   (try rw [show ((0 : Int)).toNat = 0 from rfl] at hx465_1)
   (try rw [show 0 * 5 = 0 from rfl] at hx465_1)
   (try rw [Addr.add_zero'] at hx465_1)
   (try rw [show ((0 : Int)).toNat = 0 from rfl] at hx465_2)
   (try rw [show 0 * 5 = 0 from rfl] at hx465_2)
   (try rw [Addr.add_zero'] at hx465_2)
   (try rw [show ((0 : Int)).toNat = 0 from rfl] at hx465_3)
   (try rw [show 0 * 5 = 0 from rfl] at hx465_3)
   (try rw [Addr.add_zero'] at hx465_3)
   (try rw [show ((0 : Int)).toNat = 0 from rfl] at hx465_4)
   (try rw [show 0 * 5 = 0 from rfl] at hx465_4)
   (try rw [Addr.add_zero'] at hx465_4)
   replace p465 := eq_true p465
   replace q465 := eq_true q465
   try go_wp2
   go_ret
   exact ⟨by first | rfl | (simp [errW_none, errW_some] <;> rfl) | (simp [*, errW_none, errW_some] <;> rfl), laws_FnSquashTwice_auHB⟩

/-- THE ONE PURE STATEMENT of laws_FnSquashTwice: yours. -/
def laws_FnSquashTwice.Pure : Prop := ∀ (l0 : List Int), l0.length ≤ maxLen → l0.length * 1 ≤ 140737488351232 → (∀ x ∈ l0, (Lit.int .u8 x).wf = true) → ∃ k, laws_FnSquashTwice.f k l0 = some true
theorem laws_FnSquashTwice.walk (P : laws_FnSquashTwice.Pure) (a0 : Option Addr) (len0 cap0 : Nat) (z0 : List Int) (w : World) (w0 : (a0 = none ∧ len0 = 0 ∧ cap0 = 0 ∧ z0 = []) ∨ ∃ x, a0 = some x ∧ len0 ≤ cap0 ∧ cap0 ≤ maxLen ∧ z0.length = cap0 ∧ (∀ i, i < z0.length → w.cell? (x.add i) = some (.int .u8 (z0.getD i 0))) ∧ ∀ n ∈ z0, (Lit.int .u8 n).wf = true) (y0 : len0 * 1 ≤ 140737488351232) :
  Calls Try.prog 7 #[.slice a0 len0 cap0] w fun e w' => e = .returned (.bool true) ∧ Below w.heap.size w w' := by
 obtain ⟨l0, rfl, hr0, hm0, hw0, hc0⟩ := ReadsInt.ofRowC w0
 obtain ⟨k, h⟩ := P l0 hm0 y0 hw0
 refine (laws_FnSquashTwice.calls k _ _ l0 true w (Kd.C_of_reads (d := (0 : Int)) (h1 := fun _ => rfl) hr0) hc0 h).mono ?_
 rintro e w' ⟨rfl, hd⟩
 exact ⟨rfl, hd⟩


end Go.Proofs.Ytcfebbhiehaocaa.QFnSquashTwice

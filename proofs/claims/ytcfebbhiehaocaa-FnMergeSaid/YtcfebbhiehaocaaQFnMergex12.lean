/- What the law FnMerge reaches, function by function: what each computes, and that the machine's call comes to it. Laid by a program. -/
import Derived.Test.YtcfebbhiehaocaaQFnMergex0
import Derived.Test.YtcfebbhiehaocaaQFnMergex1
import Derived.Test.YtcfebbhiehaocaaQFnMergex3
import Derived.Test.YtcfebbhiehaocaaQFnMergex8
import Derived.Test.YtcfebbhiehaocaaQFnMergex9
import Derived.Test.YtcfebbhiehaocaaQFnMergex11
namespace Go.Proofs.Ytcfebbhiehaocaa.QFnMerge
open Go.RowKit Go.Proofs.YtcfebbhiehaocaaW.PrintWords Go.Proofs.YtcfebbhiehaocaaW.PrintLast Go.Proofs.YtcfebbhiehaocaaW.PrintMore
attribute [local go_sem] max2_int min2_int max_two min_two max_three min_three max_four min_four   -- for this text's walks alone
set_option linter.unusedVariables false
set_option linter.unusedSimpArgs false

attribute [local go_sem high] eqA48
/-! ### laws_FnMerge: function 5 -/
mutual
def laws_FnMerge.l0 : Nat → List (List (S48)) → List (S48) → Int → List (List (S48)) → Int → Option (Bool)
  | 0, _, _, _, _, _ => none
  | k + 1, x3, x4, x5, x6, x7 => if x7 ≥ 0 then (if 0 ≤ x7 then (if x7 < (x3.length : Int) then (if x6.length < 5864062014805 then (laws_FnMerge.l1 k x3 x4 (wrap64 (x5 + ((rd_L4 x3 x7).length : Int))) (x6 ++ [rd_L4 x3 x7]) x7 0) else (none)) else (none)) else (none)) else (laws_FnMerge.l3 k x4 x5 x6 1)
def laws_FnMerge.l1 : Nat → List (List (S48)) → List (S48) → Int → List (List (S48)) → Int → Int → Option (Bool)
  | 0, _, _, _, _, _, _ => none
  | k + 1, x3, x4, x5, x6, x7, x8 => if 0 ≤ x7 then (if x7 < (x3.length : Int) then (if x8 < ((rd_L4 x3 x7).length : Int) then (laws_FnMerge.l2 k x3 x4 x5 x6 x7 x8 false 0) else (laws_FnMerge.l0 k x3 x4 x5 x6 (wrap64 (x7 - 1)))) else (none)) else (none)
def laws_FnMerge.l2 : Nat → List (List (S48)) → List (S48) → Int → List (List (S48)) → Int → Int → Bool → Int → Option (Bool)
  | 0, _, _, _, _, _, _, _, _ => none
  | k + 1, x3, x4, x5, x6, x7, x8, x9, x10 => if x10 < (x4.length : Int) then (if x9 = true then (laws_FnMerge.l2 k x3 x4 x5 x6 x7 x8 true (wrap64 (x10 + 1))) else (if 0 ≤ x10 then (if 0 ≤ x7 then (if x7 < (x3.length : Int) then (if 0 ≤ x8 then (if x8 < ((rd_L4 x3 x7).length : Int) then (laws_FnMerge.l2 k x3 x4 x5 x6 x7 x8 ((((rd_T48 x4 x10).f0).toList) == (((rd_T48 (rd_L4 x3 x7) x8).f0).toList) && (((rd_T48 x4 x10).f1) == ((rd_T48 (rd_L4 x3 x7) x8).f1) && (((rd_T48 x4 x10).f2) == ((rd_T48 (rd_L4 x3 x7) x8).f2) && ((((rd_T48 x4 x10).f3).toList) == (((rd_T48 (rd_L4 x3 x7) x8).f3).toList) && (((rd_T48 x4 x10).f4) == ((rd_T48 (rd_L4 x3 x7) x8).f4)))))) (wrap64 (x10 + 1))) else (none)) else (none)) else (none)) else (none)) else (none))) else (if x9 = true then (laws_FnMerge.l1 k x3 x4 x5 x6 x7 (wrap64 (x8 + 1))) else (none))
def laws_FnMerge.l3 : Nat → List (S48) → Int → List (List (S48)) → Int → Option (Bool)
  | 0, _, _, _, _ => none
  | k + 1, x4, x5, x6, x11 => if x11 < (x4.length : Int) then (if 0 ≤ (wrap64 (x11 - 1)) then (if (wrap64 (x11 - 1)) < (x4.length : Int) then (if 0 ≤ x11 then ((impl_EntryLess.f ((rd_T48 x4 (wrap64 (x11 - 1))).f0) ((rd_T48 x4 (wrap64 (x11 - 1))).f1) ((rd_T48 x4 (wrap64 (x11 - 1))).f2) ((rd_T48 x4 (wrap64 (x11 - 1))).f3) ((rd_T48 x4 (wrap64 (x11 - 1))).f4) ((rd_T48 x4 x11).f0) ((rd_T48 x4 x11).f1) ((rd_T48 x4 x11).f2) ((rd_T48 x4 x11).f3) ((rd_T48 x4 x11).f4)).bind fun t321 => (if t321 = true then (laws_FnMerge.l3 k x4 x5 x6 (wrap64 (x11 + 1))) else (none))) else (none)) else (none)) else (none)) else (if x5 = (x4.length : Int) then ((impl_MergeAll.f k x6).bind fun t322 => ((laws_wpEnts.f k t322 x4).bind fun t325 => (if t325 = true then ((impl_MergeAll.f k (([x4] : List (List (S48))))).bind fun t329 => ((laws_wpEnts.f k t329 x4).bind fun t332 => (some t332))) else (none)))) else (none))
end
def laws_FnMerge.f (k : Nat) (l0 : List Int) : Option (Bool) := if (l0.length : Int) > 1048576 then (some true) else ((spec_DrawMergeAll.f k l0).bind fun t297 => ((impl_MergeAll.f k t297).bind fun t300 => ((spec_MergeAll.f k t297).bind fun t303 => ((laws_wpEnts.f k t300 t303).bind fun t306 => (if t306 = true then (laws_FnMerge.l0 k t297 t300 0 (([] : List (List (S48)))) (wrap64 ((t297.length : Int) - 1))) else (none))))))
theorem laws_FnMerge.mono_l : ∀ k, (∀ y0 y1 y2 y3 y4, LeO (laws_FnMerge.l0 k y0 y1 y2 y3 y4) (laws_FnMerge.l0 (k + 1) y0 y1 y2 y3 y4)) ∧ (∀ y0 y1 y2 y3 y4 y5, LeO (laws_FnMerge.l1 k y0 y1 y2 y3 y4 y5) (laws_FnMerge.l1 (k + 1) y0 y1 y2 y3 y4 y5)) ∧ (∀ y0 y1 y2 y3 y4 y5 y6 y7, LeO (laws_FnMerge.l2 k y0 y1 y2 y3 y4 y5 y6 y7) (laws_FnMerge.l2 (k + 1) y0 y1 y2 y3 y4 y5 y6 y7)) ∧ (∀ y0 y1 y2 y3, LeO (laws_FnMerge.l3 k y0 y1 y2 y3) (laws_FnMerge.l3 (k + 1) y0 y1 y2 y3))
  | 0 => ⟨fun _ _ _ _ _ r h => by simp [laws_FnMerge.l0] at h, fun _ _ _ _ _ _ r h => by simp [laws_FnMerge.l1] at h, fun _ _ _ _ _ _ _ _ r h => by simp [laws_FnMerge.l2] at h, fun _ _ _ _ r h => by simp [laws_FnMerge.l3] at h⟩
  | k + 1 => by
    obtain ⟨ih0, ih1, ih2, ih3⟩ := laws_FnMerge.mono_l k
    refine ⟨?_, ?_, ?_, ?_⟩
    · intro y0 y1 y2 y3 y4
      unfold laws_FnMerge.l0
      repeat' first
      | (with_reducible exact ih0 _ _ _ _ _)
      | (with_reducible exact ih1 _ _ _ _ _ _)
      | (with_reducible exact ih2 _ _ _ _ _ _ _ _)
      | (with_reducible exact ih3 _ _ _ _)
      | (with_reducible exact impl_MergeAll.mono _ _)
      | (with_reducible exact laws_wpEnts.mono _ _ _)
      | (with_reducible exact spec_DrawMergeAll.mono _ _)
      | (with_reducible exact spec_MergeAll.mono _ _)
      | (with_reducible exact LeO.refl _)
      | (with_reducible exact LeO.none _)
      | (with_reducible refine LeO.ite ?_ ?_)
      | (with_reducible refine LeO.bind ?_ (fun _ => ?_))
      | exact ih0 _ _ _ _ _
      | exact ih1 _ _ _ _ _ _
      | exact ih2 _ _ _ _ _ _ _ _
      | exact ih3 _ _ _ _
      | exact impl_MergeAll.mono _ _
      | exact laws_wpEnts.mono _ _ _
      | exact spec_DrawMergeAll.mono _ _
      | exact spec_MergeAll.mono _ _
      | exact LeO.none _
      | refine LeO.ite ?_ ?_
      | refine LeO.bind ?_ (fun _ => ?_)
    · intro y0 y1 y2 y3 y4 y5
      unfold laws_FnMerge.l1
      repeat' first
      | (with_reducible exact ih0 _ _ _ _ _)
      | (with_reducible exact ih1 _ _ _ _ _ _)
      | (with_reducible exact ih2 _ _ _ _ _ _ _ _)
      | (with_reducible exact ih3 _ _ _ _)
      | (with_reducible exact impl_MergeAll.mono _ _)
      | (with_reducible exact laws_wpEnts.mono _ _ _)
      | (with_reducible exact spec_DrawMergeAll.mono _ _)
      | (with_reducible exact spec_MergeAll.mono _ _)
      | (with_reducible exact LeO.refl _)
      | (with_reducible exact LeO.none _)
      | (with_reducible refine LeO.ite ?_ ?_)
      | (with_reducible refine LeO.bind ?_ (fun _ => ?_))
      | exact ih0 _ _ _ _ _
      | exact ih1 _ _ _ _ _ _
      | exact ih2 _ _ _ _ _ _ _ _
      | exact ih3 _ _ _ _
      | exact impl_MergeAll.mono _ _
      | exact laws_wpEnts.mono _ _ _
      | exact spec_DrawMergeAll.mono _ _
      | exact spec_MergeAll.mono _ _
      | exact LeO.none _
      | refine LeO.ite ?_ ?_
      | refine LeO.bind ?_ (fun _ => ?_)
    · intro y0 y1 y2 y3 y4 y5 y6 y7
      unfold laws_FnMerge.l2
      repeat' first
      | (with_reducible exact ih0 _ _ _ _ _)
      | (with_reducible exact ih1 _ _ _ _ _ _)
      | (with_reducible exact ih2 _ _ _ _ _ _ _ _)
      | (with_reducible exact ih3 _ _ _ _)
      | (with_reducible exact impl_MergeAll.mono _ _)
      | (with_reducible exact laws_wpEnts.mono _ _ _)
      | (with_reducible exact spec_DrawMergeAll.mono _ _)
      | (with_reducible exact spec_MergeAll.mono _ _)
      | (with_reducible exact LeO.refl _)
      | (with_reducible exact LeO.none _)
      | (with_reducible refine LeO.ite ?_ ?_)
      | (with_reducible refine LeO.bind ?_ (fun _ => ?_))
      | exact ih0 _ _ _ _ _
      | exact ih1 _ _ _ _ _ _
      | exact ih2 _ _ _ _ _ _ _ _
      | exact ih3 _ _ _ _
      | exact impl_MergeAll.mono _ _
      | exact laws_wpEnts.mono _ _ _
      | exact spec_DrawMergeAll.mono _ _
      | exact spec_MergeAll.mono _ _
      | exact LeO.none _
      | refine LeO.ite ?_ ?_
      | refine LeO.bind ?_ (fun _ => ?_)
    · intro y0 y1 y2 y3
      unfold laws_FnMerge.l3
      repeat' first
      | (with_reducible exact ih0 _ _ _ _ _)
      | (with_reducible exact ih1 _ _ _ _ _ _)
      | (with_reducible exact ih2 _ _ _ _ _ _ _ _)
      | (with_reducible exact ih3 _ _ _ _)
      | (with_reducible exact impl_MergeAll.mono _ _)
      | (with_reducible exact laws_wpEnts.mono _ _ _)
      | (with_reducible exact spec_DrawMergeAll.mono _ _)
      | (with_reducible exact spec_MergeAll.mono _ _)
      | (with_reducible exact LeO.refl _)
      | (with_reducible exact LeO.none _)
      | (with_reducible refine LeO.ite ?_ ?_)
      | (with_reducible refine LeO.bind ?_ (fun _ => ?_))
      | exact ih0 _ _ _ _ _
      | exact ih1 _ _ _ _ _ _
      | exact ih2 _ _ _ _ _ _ _ _
      | exact ih3 _ _ _ _
      | exact impl_MergeAll.mono _ _
      | exact laws_wpEnts.mono _ _ _
      | exact spec_DrawMergeAll.mono _ _
      | exact spec_MergeAll.mono _ _
      | exact LeO.none _
      | refine LeO.ite ?_ ?_
      | refine LeO.bind ?_ (fun _ => ?_)
theorem laws_FnMerge.mono : ∀ a0 k, LeO (laws_FnMerge.f k a0) (laws_FnMerge.f (k + 1) a0) := by
  intro a0 k
  obtain ⟨ih0, ih1, ih2, ih3⟩ := laws_FnMerge.mono_l k
  unfold laws_FnMerge.f
  repeat' first
      | (with_reducible exact ih0 _ _ _ _ _)
      | (with_reducible exact ih1 _ _ _ _ _ _)
      | (with_reducible exact ih2 _ _ _ _ _ _ _ _)
      | (with_reducible exact ih3 _ _ _ _)
      | (with_reducible exact impl_MergeAll.mono _ _)
      | (with_reducible exact laws_wpEnts.mono _ _ _)
      | (with_reducible exact spec_DrawMergeAll.mono _ _)
      | (with_reducible exact spec_MergeAll.mono _ _)
      | (with_reducible exact LeO.refl _)
      | (with_reducible exact LeO.none _)
      | (with_reducible refine LeO.ite ?_ ?_)
      | (with_reducible refine LeO.bind ?_ (fun _ => ?_))
      | exact ih0 _ _ _ _ _
      | exact ih1 _ _ _ _ _ _
      | exact ih2 _ _ _ _ _ _ _ _
      | exact ih3 _ _ _ _
      | exact impl_MergeAll.mono _ _
      | exact laws_wpEnts.mono _ _ _
      | exact spec_DrawMergeAll.mono _ _
      | exact spec_MergeAll.mono _ _
      | exact LeO.none _
      | refine LeO.ite ?_ ?_
      | refine LeO.bind ?_ (fun _ => ?_)
def laws_FnMerge.T21 : Bool × List (List Nat × List Nat) := (true, [([], []), ([0], [0]), ([1], [1]), ([1], [1]), ([2, 3, 1], [1, 2, 3]), ([4, 1], [1, 4]), ([1], [1]), ([1], [1]), ([6, 7, 1], [1, 6, 7]), ([8, 1], [1, 8]), ([1], [1]), ([9, 10, 1], [1, 9, 10]), ([11, 1], [1, 11]), ([5, 12, 1], [1, 5, 12]), ([1, 13], [1, 13]), ([14, 1, 0, 1, 2, 3, 4, 5, 6, 7, 8, 9, 10, 11, 12, 13, 14], [0, 14])])
def laws_FnMerge.B21 : List Nat := [0, 1, 3, 3, 15, 31, 3, 3, 195, 451, 3, 1987, 4035, 8191, 16383, 32767]
theorem laws_FnMerge.tab21 : rtab .any (opsOf Try.f5 21) = laws_FnMerge.T21 := by kernel_rfl
theorem laws_FnMerge.bits21 : waitsOk laws_FnMerge.T21.2 laws_FnMerge.B21 = true := by kernel_rfl
def laws_FnMerge.T27 : Bool × List (List Nat × List Nat) := (true, [([], []), ([], []), ([1], [1]), ([0, 2], [0, 2]), ([3], [3]), ([], []), ([], []), ([5, 6], [5, 6]), ([7], [7]), ([4, 8], [4, 8]), ([9], [9])])
def laws_FnMerge.B27 : List Nat := [0, 0, 2, 7, 15, 0, 0, 96, 224, 511, 1023]
theorem laws_FnMerge.tab27 : rtab .any (opsOf Try.f5 27) = laws_FnMerge.T27 := by kernel_rfl
theorem laws_FnMerge.bits27 : waitsOk laws_FnMerge.T27.2 laws_FnMerge.B27 = true := by kernel_rfl
theorem laws_FnMerge_auHB {q : Prop} (h : q := by (repeat (first | (with_reducible first | exact HB.out | apply below_alloc | apply pw_below_drewN | apply below_drew1) | exact HB.out))) : q := h
set_option maxHeartbeats 8000000 in
set_option maxRecDepth 100000 in
theorem laws_FnMerge.calls (k : Nat) (A0 : Option Addr) (c0 : Nat) (l0 : List Int) (r : Bool) (w : World) (hr0 : Kd.C (Kd.int .u8) w A0 l0.length l0) (hc0 : l0.length ≤ c0) (h : laws_FnMerge.f k l0 = some r) :
  Calls Try.prog 5 #[.slice A0 l0.length c0] w fun e w' => e = .returned (.bool r) ∧ Below w.heap.size w w' := by
 have hu48 := Try.underlying48
 have HR0 := Aside0.mk hr0
 have HC0 := Aside0.mk hc0
 clear hr0 hc0
 have HB := Aside0.mk (Below.refl w.heap.size w)
 have H : (if (l0.length : Int) > 1048576 then (some true) else ((spec_DrawMergeAll.f k l0).bind fun t297 => ((impl_MergeAll.f k t297).bind fun t300 => ((spec_MergeAll.f k t297).bind fun t303 => ((laws_wpEnts.f k t300 t303).bind fun t306 => (if t306 = true then (laws_FnMerge.l0 k t297 t300 0 (([] : List (List (S48)))) (wrap64 ((t297.length : Int) - 1))) else (none))))))) = some r := h
 clear h
 by_cases c2 : (l0.length : Int) > 1048576
 ·
  rw [if_pos c2] at H
  have c2b0 : decide (1048576 < (l0.length : Int)) = true := decide_eq_true c2
  have c2b1 : decide (1048576 < l0.length) = true := decide_eq_true (by omega)
  clear c2
  obtain rfl := Option.some.inj H
  go_enter Try.func5, Try.ntmps5
  go_wp2
  go_ret
  exact ⟨by first | rfl | (simp [errW_none, errW_some] <;> rfl) | (simp [*, errW_none, errW_some] <;> rfl), laws_FnMerge_auHB⟩
 ·
  rw [if_neg c2] at H
  have c2b0 : decide (1048576 < (l0.length : Int)) = false := decide_eq_false c2
  have c2b1 : decide (1048576 < l0.length) = false := decide_eq_false (by omega)
  clear c2
  replace H := Option.bind_eq_some_iff.mp H
  obtain ⟨t297, A30, H⟩ := H
  replace H : ((impl_MergeAll.f k t297).bind fun t300 => ((spec_MergeAll.f k t297).bind fun t303 => ((laws_wpEnts.f k t300 t303).bind fun t306 => (if t306 = true then (laws_FnMerge.l0 k t297 t300 0 (([] : List (List (S48)))) (wrap64 ((t297.length : Int) - 1))) else (none))))) = some r := H
  have A3 := Aside0.mk A30
  clear A30
  replace H := Option.bind_eq_some_iff.mp H
  obtain ⟨t300, A40, H⟩ := H
  replace H : ((spec_MergeAll.f k t297).bind fun t303 => ((laws_wpEnts.f k t300 t303).bind fun t306 => (if t306 = true then (laws_FnMerge.l0 k t297 t300 0 (([] : List (List (S48)))) (wrap64 ((t297.length : Int) - 1))) else (none)))) = some r := H
  have A4 := Aside0.mk A40
  clear A40
  replace H := Option.bind_eq_some_iff.mp H
  obtain ⟨t303, A50, H⟩ := H
  replace H : ((laws_wpEnts.f k t300 t303).bind fun t306 => (if t306 = true then (laws_FnMerge.l0 k t297 t300 0 (([] : List (List (S48)))) (wrap64 ((t297.length : Int) - 1))) else (none))) = some r := H
  have A5 := Aside0.mk A50
  clear A50
  replace H := Option.bind_eq_some_iff.mp H
  obtain ⟨t306, A60, H⟩ := H
  replace H : (if t306 = true then (laws_FnMerge.l0 k t297 t300 0 (([] : List (List (S48)))) (wrap64 ((t297.length : Int) - 1))) else (none)) = some r := H
  have A6 := Aside0.mk A60
  clear A60
  by_cases c7 : t306 = true
  ·
   subst c7
   have H1 : (laws_FnMerge.l0 k t297 t300 0 (([] : List (List (S48)))) (wrap64 ((t297.length : Int) - 1))) = some r := by rw [if_pos rfl] at H; exact H
   clear H
   have H := H1
   clear H1
   obtain ⟨y307, hy307⟩ : ∃ y_ : List (List (S48)), y_ = (([] : List (List (S48)))) := ⟨_, rfl⟩
   replace H : (laws_FnMerge.l0 k t297 t300 0 y307 (wrap64 ((t297.length : Int) - 1))) = some r := by first | (rw [hy307]; with_reducible exact H) | (have H2_ := (Option.bind_some _ _).symm.trans H; rw [hy307]; with_reducible exact H2_) | (have H2_ := (Option.bind_some _ _).symm.trans H; with_reducible exact H2_) | with_reducible exact H | (rw [hy307]; exact H) | exact H
   have Ny307 := Aside0.mk hy307
   clear hy307
   have H' := Aside0.mk H
   clear H
   go_enter Try.func5, Try.ntmps5
   go_wp2_with (first | ((with_reducible refine gate_callee (f := 24) rfl ?_); refine goesL_ (some 16) rfl rfl Try.func24 (by kernel_rfl) rfl #[.slice A0 l0.length c0] rfl (by (try simp only [List.map_toArray, List.map_cons, List.map_nil]); first | done | rfl | (simp only [List.length_drop, List.length_take]; rfl)) ?_; (with_reducible refine (spec_DrawMergeAll.calls k _ _ l0 t297 _ ?side1 ?side2 A3.out).mono ?_); (case side1 => repeat (first | exact HR0.out | (with_reducible refine Kd.C_alloc ?_ _) | (with_reducible refine Kd.C_drewN ?_ _) | (with_reducible refine Kd.C_drew ?_))); (case side2 => exact HC0.out); rintro e w8 ⟨v298, rfl, ho0, hb⟩; refine ⟨_, rfl, ?_⟩; have n0_ := Aside0.mk (Kd.N_lower (Kd.N_mono (ok' := fun k_ => True) (Kd.S_N (Kd.S_bound ho0)) (fun k_ hk_ => trivial)) (below_size (laws_FnMerge_auHB))); have n1_ := Aside0.mk (below_step (laws_FnMerge_auHB) hb); clear HB; have HO299 := n0_; have HB := n1_; clear n0_ n1_; (try clear hb); (try clear hb2); (try clear hk); (try clear hi); (try clear ho0); obtain ⟨Ao9, co9, eo9⟩ := Kd.N_slice HO299.out; subst eo9) | ((with_reducible refine gate_callee (f := 25) rfl ?_); refine goesL_ (some 18) rfl rfl Try.func25 (by kernel_rfl) rfl #[.slice Ao9 t297.length co9] rfl (by (try simp only [List.map_toArray, List.map_cons, List.map_nil]); first | done | rfl | (simp only [List.length_drop, List.length_take]; rfl)) ?_; (with_reducible refine (impl_MergeAll.calls k _ _ t297 t300 _ ?side1 ?side2 A4.out).mono ?_); (case side1 => repeat (first | exact (Kd.N_reads' HO299.out).2.2 | (with_reducible refine Kd.C_alloc ?_ _) | (with_reducible refine Kd.C_drewN ?_ _) | (with_reducible refine Kd.C_drew ?_))); (case side2 => exact (Kd.N_reads' HO299.out).2.1); rintro e w10 ⟨v301, rfl, ho0, hb⟩; refine ⟨_, rfl, ?_⟩; have n0_ := Aside0.mk (Kd.N_elder' (by (with_reducible repeat (first | apply Kd.N_alloc | apply Kd.N_drewN | apply Kd.N_drew)); exact HO299.out) (Kd.R_base ho0) hb); have n1_ := Aside0.mk (Kd.R_lower ho0 (below_size (laws_FnMerge_auHB))); have n2_ := Aside0.mk (below_step (laws_FnMerge_auHB) hb); clear HO299; clear HB; have HO299 := n0_; have HO302 := n1_; have HB := n2_; clear n0_ n1_ n2_; (try clear hb); (try clear hb2); (try clear hk); (try clear hi); (try clear ho0)) | ((with_reducible refine gate_callee (f := 27) rfl ?_); refine goesL_ (some 21) rfl rfl Try.func27 (by kernel_rfl) rfl #[.slice Ao9 t297.length co9] rfl (by (try simp only [List.map_toArray, List.map_cons, List.map_nil]); first | done | rfl | (simp only [List.length_drop, List.length_take]; rfl)) ?_; (with_reducible refine (spec_MergeAll.calls k _ _ t297 t303 _ ?side1 ?side2 A5.out).mono ?_); (case side1 => repeat (first | exact (Kd.N_reads' HO299.out).2.2 | (with_reducible refine Kd.C_alloc ?_ _) | (with_reducible refine Kd.C_drewN ?_ _) | (with_reducible refine Kd.C_drew ?_))); (case side2 => exact (Kd.N_reads' HO299.out).2.1); rintro e w11 ⟨v304, rfl, ho0, hb⟩; refine ⟨_, rfl, ?_⟩; have n0_ := Aside0.mk (Kd.N_elder' (by (with_reducible repeat (first | apply Kd.N_alloc | apply Kd.N_drewN | apply Kd.N_drew)); exact HO299.out) (Kd.R_base ho0) hb); have n1_ := Aside0.mk (Kd.R_elder' (by (with_reducible repeat (first | apply Kd.R_alloc | apply Kd.R_drewN | apply Kd.R_drew)); exact HO302.out) (Kd.R_base ho0) hb); have n2_ := Aside0.mk (Kd.R_lower (Kd.R_new' ho0 (Kd.R_lt (by (with_reducible repeat (first | apply Kd.R_alloc | apply Kd.R_drewN | apply Kd.R_drew)); exact HO302.out))) (below_size (laws_FnMerge_auHB))); have n3_ := Aside0.mk (below_step (laws_FnMerge_auHB) hb); clear HO299; clear HO302; clear HB; have HO299 := n0_; have HO302 := n1_; have HO305 := n2_; have HB := n3_; clear n0_ n1_ n2_ n3_; (try clear hb); (try clear hb2); (try clear hk); (try clear hi); (try clear ho0); obtain ⟨Ao12, co12, eo12⟩ := Kd.R_slice HO302.out; subst eo12; obtain ⟨Ao13, co13, eo13⟩ := Kd.R_slice HO305.out; subst eo13) | ((with_reducible refine gate_callee (f := 26) rfl ?_); refine goesL_ (some 22) rfl rfl Try.func26 (by kernel_rfl) rfl #[.slice Ao12 t300.length co12, .slice Ao13 t303.length co13] rfl (by (try simp only [List.map_toArray, List.map_cons, List.map_nil]); first | done | rfl | (simp only [List.length_drop, List.length_take]; rfl)) ?_; (with_reducible refine (laws_wpEnts.calls k _ _ t300 _ _ t303 true _ ?side1 ?side2 ?side3 ?side4 A6.out).mono ?_); (case side1 => repeat (first | exact (Kd.R_reads' HO302.out).2.2 | (with_reducible refine Kd.C_alloc ?_ _) | (with_reducible refine Kd.C_drewN ?_ _) | (with_reducible refine Kd.C_drew ?_))); (case side2 => exact (Kd.R_reads' HO302.out).2.1); (case side3 => repeat (first | exact (Kd.R_reads' HO305.out).2.2 | (with_reducible refine Kd.C_alloc ?_ _) | (with_reducible refine Kd.C_drewN ?_ _) | (with_reducible refine Kd.C_drew ?_))); (case side4 => exact (Kd.R_reads' HO305.out).2.1); rintro e w' ⟨rfl, ⟨nd, rfl⟩⟩; refine ⟨_, rfl, ?_⟩) | ((with_reducible refine gate_dst (N := 24) rfl ?_); (try (refine gate_guard (by rfl) ?_; dsimp only)); refine Kd.N_lit (Kd.slice 48 k48) _ 25 ?hg (N' := 24) ?hd (xs := ([] : List (List (S48)))) (inner := []) (ok := (fun k_ => some k_ ≠ (.slice Ao9 t297.length co9 : Value).ownBlock ∧ some k_ ≠ (.slice Ao12 t300.length co12 : Value).ownBlock ∧ some k_ ≠ (.slice Ao13 t303.length co13 : Value).ownBlock)) (okp := (fun k_ => some k_ ≠ (.slice Ao9 t297.length co9 : Value).ownBlock ∧ some k_ ≠ (.slice Ao12 t300.length co12 : Value).ownBlock ∧ some k_ ≠ (.slice Ao13 t303.length co13 : Value).ownBlock)) ?hr ?hp (fun _ hk => hk) ((show ∀ k_, w11.heap.size ≤ k_ → (fun k_ => some k_ ≠ (.slice Ao9 t297.length co9 : Value).ownBlock ∧ some k_ ≠ (.slice Ao12 t300.length co12 : Value).ownBlock ∧ some k_ ≠ (.slice Ao13 t303.length co13 : Value).ownBlock) k_ from fun k_ hk => ⟨Kd.fresh' (Kd.N_lt (by (with_reducible repeat (first | apply Kd.N_alloc | apply Kd.N_drewN | apply Kd.N_drew)); exact HO299.out)) k_ hk, Kd.fresh' (Kd.R_lt (by (with_reducible repeat (first | apply Kd.R_alloc | apply Kd.R_drewN | apply Kd.R_drew)); exact HO302.out)) k_ hk, Kd.fresh' (Kd.R_lt (by (with_reducible repeat (first | apply Kd.R_alloc | apply Kd.R_drewN | apply Kd.R_drew)); exact HO305.out)) k_ hk⟩) _ (Nat.le_refl _)) (Below.refl _ _) (Nat.le_refl _) (by simp) ?_; (case hd => rfl); (case hg => rfl); (case hr => first | (go_simp; done) | (go_simp; rfl)); (case hp => exact (Reps.none _ _)); intro v308 w14 ho15 hb hg_ hnew_; clear hg_ hnew_; (first | rw [← Ny307.out] at ho15 | (simp only [Int.reduceToNat] at ho15; rw [← Ny307.out] at ho15)); have n0_ := Aside0.mk (Kd.N_elder' (by (with_reducible repeat (first | apply Kd.N_alloc | apply Kd.N_drewN | apply Kd.N_drew)); exact HO299.out) (Kd.N_base ho15) hb); have n1_ := Aside0.mk (Kd.R_below (by (with_reducible repeat (first | apply Kd.R_alloc | apply Kd.R_drewN | apply Kd.R_drew)); exact HO302.out) hb); have n2_ := Aside0.mk (Kd.R_below (by (with_reducible repeat (first | apply Kd.R_alloc | apply Kd.R_drewN | apply Kd.R_drew)); exact HO305.out) hb); have n3_ := Aside0.mk (Kd.N_lower ho15 (below_size (laws_FnMerge_auHB))); have n4_ := Aside0.mk (below_step (laws_FnMerge_auHB) hb); clear HO299; clear HO302; clear HO305; clear HB; have HO299 := n0_; have HO302 := n1_; have HO305 := n2_; have HO309 := n3_; have HB := n4_; clear n0_ n1_ n2_ n3_ n4_; clear hb ho15))
   (try simp only [Act.put, List.setIfInBounds_toArray, List.set_cons_zero, List.set_cons_succ])
   go_loopg [5, 6, 7] k (fun kq v5 v6 v7 w' => ∃ (x5_1 : Int) (x6_1 : List (List (S48))) (x7_1 : Int), v5 = .int .i64 x5_1 ∧ v7 = .int .i64 x7_1 ∧ Aside0 (laws_FnMerge.l0 kq t297 t300 x5_1 x6_1 x7_1 = some r) ∧ Aside0 (kq ≤ k) ∧ Aside0 (Kd.N (Kd.slice 48 k48) 25 w' w.heap.size (fun k_ => some k_ ≠ ((.slice Ao12 t300.length co12) : Value).ownBlock ∧ some k_ ≠ (v6 : Value).ownBlock) (.slice Ao9 t297.length co9) t297) ∧ Aside0 (Kd.R k48 48 w' w.heap.size (fun _ => True) (.slice Ao12 t300.length co12) t300) ∧ Aside0 (Kd.N (Kd.slice 48 k48) 25 w' w.heap.size (fun k_ => some k_ ≠ ((.slice Ao9 t297.length co9) : Value).ownBlock ∧ some k_ ≠ ((.slice Ao12 t300.length co12) : Value).ownBlock) v6 x6_1) ∧ Aside0 (Below w.heap.size w w'))
   case atStart => exact ⟨(0), (y307), (wrap64 ((t297.length : Int) - 1)), (by first | rfl | (simp; done) | (simp [*]; done)), (by first | rfl | (simp; done) | (simp [*]; done)), H', ⟨Nat.le_refl _⟩, ⟨by (with_reducible repeat (first | apply Kd.N_alloc | apply Kd.N_drewN | apply Kd.N_drew)); exact Kd.N_mono HO299.out (fun _ hk => ⟨hk.1.1.2, hk.2⟩)⟩, ⟨by (with_reducible repeat (first | apply Kd.R_alloc | apply Kd.R_drewN | apply Kd.R_drew)); exact Kd.R_mono HO302.out (fun _ hk => trivial)⟩, ⟨by (with_reducible repeat (first | apply Kd.N_alloc | apply Kd.N_drewN | apply Kd.N_drew)); exact Kd.N_mono HO309.out (fun _ hk => ⟨hk.1, hk.2.1⟩)⟩, ⟨laws_FnMerge_auHB⟩⟩
   case round =>
    clear H'
    try clear c2
    try clear c2b0
    try clear c2b1
    try clear p2
    try clear c5
    try clear p6
    try clear c7
    obtain ⟨x5_1, x6_1, x7_1, rfl, rfl, HA, HK1, HO_3, HO_4, HO_6, HB⟩ := hrel
    cases gk with
    | zero => exact absurd HA.out (by simp [laws_FnMerge.l0])
    | succ k1 =>
     have H := HA.out
     clear HA
     simp only [laws_FnMerge.l0] at H
     by_cases c16 : x7_1 ≥ 0
     ·
      rw [if_pos c16] at H
      have c16b0 : decide (0 ≤ x7_1) = true := decide_eq_true c16
      clear c16
      by_cases c17 : 0 ≤ x7_1
      ·
       rw [if_pos c17] at H
       have c17b0 : decide (0 ≤ x7_1) = true := decide_eq_true c17
       clear c17
       by_cases c18 : x7_1 < (t297.length : Int)
       ·
        rw [if_pos c18] at H
        have c18b0 : decide (x7_1 < (t297.length : Int)) = true := decide_eq_true c18
        clear c18
        by_cases c19 : x6_1.length < 5864062014805
        ·
         rw [if_pos c19] at H
         have LMc19 := Aside0.mk c19
         clear c19
         obtain ⟨y312, hy312⟩ : ∃ y_ : List (List (S48)), y_ = (x6_1 ++ [rd_L4 t297 x7_1]) := ⟨_, rfl⟩
         replace H : (laws_FnMerge.l1 k1 t297 t300 (wrap64 (x5_1 + ((rd_L4 t297 x7_1).length : Int))) y312 x7_1 0) = some r := by first | (rw [hy312]; with_reducible exact H) | (have H2_ := (Option.bind_some _ _).symm.trans H; rw [hy312]; with_reducible exact H2_) | (have H2_ := (Option.bind_some _ _).symm.trans H; with_reducible exact H2_) | with_reducible exact H | (rw [hy312]; exact H) | exact H
         have Ny312 := Aside0.mk hy312
         clear hy312
         have H' := Aside0.mk H
         clear H
         have p310 : 0 ≤ (x7_1 : Int) := of_decide_eq_true (by first | (with_reducible assumption) | assumption)
         have q310 : x7_1 < (t297.length : Int) := of_decide_eq_true (by first | (with_reducible assumption) | assumption)
         obtain ⟨ad310, A310_0, c310_0, e310, hx310_0, hl310_0, hi310_0⟩ := at_L4 (Kd.N_reads' HO_3.out).2.2 x7_1 p310 q310
         cases e310
         obtain ⟨ce310, hce310, hMe310, hcc310⟩ := Kd.N_get HO_3.out [] x7_1 p310 (by first | exact q310 | exact of_decide_eq_true (by first | (with_reducible assumption) | assumption) | (have e_ := (Kd.N_reads' HO_3.out).1; omega))
         obtain ⟨ua310_0, uc310_0, rfl, ul310_0, ge310_0⟩ := Kd.FK_slice_open hMe310
         have hv310_0 := hcc310 0 _ rfl
         rw [Nat.add_zero, show ((Kd.slice 48 k48)).sz = 1 from rfl, Nat.mul_one] at hv310_0
         replace hv310_0 := Option.some.inj (hv310_0.symm.trans hx310_0)
         injection hv310_0 with hva_ hvn_ hvc_
         rw [hva_] at ge310_0
         rw [hvc_] at ul310_0
         have HL310_0 := Aside0.mk (show Kd.V k48 48 _ w.heap.size _ _ (rd_L4 t297 x7_1) from Kd.V_mk ul310_0 ge310_0)
         clear hva_ hvn_ hvc_ ge310_0 ul310_0
         clear hcc310 hce310
         have HR310_0 := Aside0.mk hi310_0
         have HC310_0 := Aside0.mk hl310_0
         clear hi310_0 hl310_0
         replace p310 := eq_true p310
         replace q310 := eq_true q310
         have p311 : 0 ≤ (x7_1 : Int) := of_decide_eq_true (by first | (with_reducible assumption) | assumption)
         have q311 : x7_1 < (t297.length : Int) := of_decide_eq_true (by first | (with_reducible assumption) | assumption)
         obtain ⟨ad311, A311_0, c311_0, e311, hx311_0, hl311_0, hi311_0⟩ := at_L4 (Kd.N_reads' HO_3.out).2.2 x7_1 p311 q311
         obtain rfl : ad310 = ad311 := (by injection e311)
         obtain ⟨ce311, hce311, hMe311, hcc311⟩ := Kd.N_get HO_3.out [] x7_1 p311 (by first | exact q311 | exact of_decide_eq_true (by first | (with_reducible assumption) | assumption) | (have e_ := (Kd.N_reads' HO_3.out).1; omega))
         obtain ⟨ua311_0, uc311_0, rfl, ul311_0, ge311_0⟩ := Kd.FK_slice_open hMe311
         have hv311_0 := hcc311 0 _ rfl
         rw [Nat.add_zero, show ((Kd.slice 48 k48)).sz = 1 from rfl, Nat.mul_one] at hv311_0
         replace hv311_0 := Option.some.inj (hv311_0.symm.trans hx311_0)
         injection hv311_0 with hva_ hvn_ hvc_
         rw [hva_] at ge311_0
         rw [hvc_] at ul311_0
         have HL311_0 := Aside0.mk (show Kd.V k48 48 _ w.heap.size _ _ (rd_L4 t297 x7_1) from Kd.V_mk ul311_0 ge311_0)
         clear hva_ hvn_ hvc_ ge311_0 ul311_0
         clear hcc311 hce311
         have HR311_0 := Aside0.mk hi311_0
         have HC311_0 := Aside0.mk hl311_0
         clear hi311_0 hl311_0
         replace p311 := eq_true p311
         replace q311 := eq_true q311
         have ea_ := Option.some.inj (hx310_0.symm.trans hx311_0)
         injection ea_ with ea_ en_ ec_
         subst ea_
         subst ec_
         clear en_
         go_wp2_with (first | ((with_reducible refine gate_builtin (b := .append) (xs := #[.tmp 39, .tmp 44]) rfl ?_); (try (refine gate_guard (by rfl) ?_; dsimp only)); at_builtin; refine Kd.N_append (Kd.slice 48 k48) (w0 := w) w.heap.size rfl (.tmp 39) (.tmp 44) 44 25 (.slice none 0 0) 24 rfl Try.underlying44 info25 rfl (by decide) (by omega) u6 x6_1 (rd_L4 t297 x7_1) [.slice A310_0 (rd_L4 t297 x7_1).length c310_0] (fun k_ => some k_ ≠ (.slice (some ad310) t297.length co9 : Value).ownBlock ∧ some k_ ≠ (.slice Ao12 t300.length co12 : Value).ownBlock) (fun k_ => ((fun k_ => some k_ ≠ (.slice (some ad310) t297.length co9 : Value).ownBlock ∧ some k_ ≠ (.slice Ao12 t300.length co12 : Value).ownBlock)) k_ ∧ some k_ ≠ (u6 : Value).ownBlock) rfl rfl ?aP (fun _ hk => hk) ?aF ?aO ?aB ?aS ?aL ?_; (case aP => exact (Kd.FK_slice_mk (Kd.V_reads' (Kd.V_mono (e := 48) (base := w.heap.size) (ok' := (fun k_ => ((fun k_ => some k_ ≠ (.slice (some ad310) t297.length co9 : Value).ownBlock ∧ some k_ ≠ (.slice Ao12 t300.length co12 : Value).ownBlock)) k_ ∧ some k_ ≠ (u6 : Value).ownBlock)) (HL311_0.out) (fun k_ hk => ⟨⟨hk.2, hk.1.1⟩, hk.1.2⟩))).2.1 (Kd.V_F (Kd.V_mono (e := 48) (base := w.heap.size) (ok' := (fun k_ => ((fun k_ => some k_ ≠ (.slice (some ad310) t297.length co9 : Value).ownBlock ∧ some k_ ≠ (.slice Ao12 t300.length co12 : Value).ownBlock)) k_ ∧ some k_ ≠ (u6 : Value).ownBlock)) (HL311_0.out) (fun k_ hk => ⟨⟨hk.2, hk.1.1⟩, hk.1.2⟩))))); (case aB => exact (laws_FnMerge_auHB)); (case aF => exact (fun k_ hk => ⟨Kd.fresh' (Kd.N_lt (by (with_reducible repeat (first | apply Kd.N_alloc | apply Kd.N_drewN | apply Kd.N_drew)); exact HO_3.out)) k_ hk, Kd.fresh' (Kd.R_lt (by (with_reducible repeat (first | apply Kd.R_alloc | apply Kd.R_drewN | apply Kd.R_drew)); exact HO_4.out)) k_ hk⟩)); (case aO => exact (by (with_reducible repeat (first | apply Kd.N_alloc | apply Kd.N_drewN | apply Kd.N_drew)); exact HO_6.out)); (case aS => exact (below_size (laws_FnMerge_auHB))); (case aL => have := LMc19.out; omega); intro v313 w20 ho hb hg hat; rw [← Ny312.out] at ho; have n0_ := Aside0.mk (Kd.N_afterv (ok := (fun k_ => some k_ ≠ (.slice Ao12 t300.length co12 : Value).ownBlock)) (by (with_reducible repeat (first | apply Kd.N_alloc | apply Kd.N_drewN | apply Kd.N_drew)); exact HO_3.out) hg hat); have n1_ := Aside0.mk (Kd.R_over' (by (with_reducible repeat (first | apply Kd.R_alloc | apply Kd.R_drewN | apply Kd.R_drew)); exact HO_4.out) (Kd.N_typed (by (with_reducible repeat (first | apply Kd.N_alloc | apply Kd.N_drewN | apply Kd.N_drew)); exact HO_6.out)) (by decide) hg); have n2_ := Aside0.mk (Kd.V_afterv (ok := (fun k_ => some k_ ≠ (.slice (some ad310) t297.length co9 : Value).ownBlock ∧ some k_ ≠ (.slice Ao12 t300.length co12 : Value).ownBlock)) (by (with_reducible repeat (first | apply Kd.V_alloc | apply Kd.V_drewN | apply Kd.V_drew)); exact Kd.V_mono HL310_0.out (fun _ hk => ⟨⟨hk.2, hk.1.1⟩, hk.1.2⟩)) hg hat); have n3_ := Aside0.mk (Kd.V_afterv (ok := (fun k_ => some k_ ≠ (.slice (some ad310) t297.length co9 : Value).ownBlock ∧ some k_ ≠ (.slice Ao12 t300.length co12 : Value).ownBlock)) (by (with_reducible repeat (first | apply Kd.V_alloc | apply Kd.V_drewN | apply Kd.V_drew)); exact Kd.V_mono HL311_0.out (fun _ hk => ⟨⟨hk.2, hk.1.1⟩, hk.1.2⟩)) hg hat); have n4_ := Aside0.mk (hb); have n5_ := Aside0.mk (ho); clear HO_3; clear HO_4; clear HL310_0; clear HL311_0; clear HB; clear HO_6; have HO_3 := n0_; have HO_4 := n1_; have HL310_0 := n2_; have HL311_0 := n3_; have HB := n4_; have HO314 := n5_; clear n0_ n1_ n2_ n3_ n4_ n5_; clear ho hb hg hat))
         go_loopg [8] k1 (fun kq v8 w' => ∃ (x8_2 : Int), v8 = .int .i64 x8_2 ∧ Aside0 (laws_FnMerge.l1 kq t297 t300 (wrap64 (x5_1 + ((rd_L4 t297 x7_1).length : Int))) y312 x7_1 x8_2 = some r) ∧ Aside0 (kq ≤ k1) ∧ Aside0 (Kd.N (Kd.slice 48 k48) 25 w' w.heap.size (fun k_ => some k_ ≠ ((.slice Ao12 t300.length co12) : Value).ownBlock ∧ some k_ ≠ (v313 : Value).ownBlock) (.slice (some ad310) t297.length co9) t297) ∧ Aside0 (Kd.R k48 48 w' w.heap.size (fun _ => True) (.slice Ao12 t300.length co12) t300) ∧ Aside0 (Kd.N (Kd.slice 48 k48) 25 w' w.heap.size (fun k_ => some k_ ≠ ((.slice (some ad310) t297.length co9) : Value).ownBlock ∧ some k_ ≠ ((.slice Ao12 t300.length co12) : Value).ownBlock) v313 y312) ∧ Aside0 (Below w.heap.size w w'))
         case atStart => exact ⟨(0), (by first | rfl | (simp; done) | (simp [*]; done)), H', ⟨Nat.le_refl _⟩, ⟨by (with_reducible repeat (first | apply Kd.N_alloc | apply Kd.N_drewN | apply Kd.N_drew)); exact HO_3.out⟩, ⟨by (with_reducible repeat (first | apply Kd.R_alloc | apply Kd.R_drewN | apply Kd.R_drew)); exact HO_4.out⟩, ⟨by (with_reducible repeat (first | apply Kd.N_alloc | apply Kd.N_drewN | apply Kd.N_drew)); exact HO314.out⟩, ⟨laws_FnMerge_auHB⟩⟩
         case round =>
          clear H'
          try clear c1
          try clear c2
          try clear c2b0
          try clear c2b1
          try clear p2
          try clear c3
          try clear p3
          try clear q3
          try clear hx3
          try clear c5
          try clear p6
          try clear c7
          try clear c16
          try clear c16b0
          try clear c17
          try clear c17b0
          try clear c18
          try clear c18b0
          try clear c19
          try clear hx310_0
          try clear hx311_0
          try clear p2
          try clear p310
          try clear p311
          try clear p6
          try clear q310
          try clear q311
          obtain ⟨x8_2, rfl, HA, HK2, HO_3, HO_4, HO_6, HB⟩ := hrel
          cases gk with
          | zero => exact absurd HA.out (by simp [laws_FnMerge.l1])
          | succ k2 =>
           have H := HA.out
           clear HA
           simp only [laws_FnMerge.l1] at H
           by_cases c21 : 0 ≤ x7_1
           ·
            rw [if_pos c21] at H
            have c21b0 : decide (0 ≤ x7_1) = true := decide_eq_true c21
            clear c21
            by_cases c22 : x7_1 < (t297.length : Int)
            ·
             rw [if_pos c22] at H
             have c22b0 : decide (x7_1 < (t297.length : Int)) = true := decide_eq_true c22
             clear c22
             by_cases c23 : x8_2 < ((rd_L4 t297 x7_1).length : Int)
             ·
              rw [if_pos c23] at H
              have c23b0 : decide (x8_2 < ((rd_L4 t297 x7_1).length : Int)) = true := decide_eq_true c23
              clear c23
              have H' := Aside0.mk H
              clear H
              have p315 : 0 ≤ (x7_1 : Int) := of_decide_eq_true (by first | (with_reducible assumption) | assumption)
              have q315 : x7_1 < (t297.length : Int) := of_decide_eq_true (by first | (with_reducible assumption) | assumption)
              obtain ⟨ad315, A315_0, c315_0, e315, hx315_0, hl315_0, hi315_0⟩ := at_L4 (Kd.N_reads' HO_3.out).2.2 x7_1 p315 q315
              obtain rfl : ad310 = ad315 := (by injection e315)
              obtain ⟨ce315, hce315, hMe315, hcc315⟩ := Kd.N_get HO_3.out [] x7_1 p315 (by first | exact q315 | exact of_decide_eq_true (by first | (with_reducible assumption) | assumption) | (have e_ := (Kd.N_reads' HO_3.out).1; omega))
              obtain ⟨ua315_0, uc315_0, rfl, ul315_0, ge315_0⟩ := Kd.FK_slice_open hMe315
              have hv315_0 := hcc315 0 _ rfl
              rw [Nat.add_zero, show ((Kd.slice 48 k48)).sz = 1 from rfl, Nat.mul_one] at hv315_0
              replace hv315_0 := Option.some.inj (hv315_0.symm.trans hx315_0)
              injection hv315_0 with hva_ hvn_ hvc_
              rw [hva_] at ge315_0
              rw [hvc_] at ul315_0
              have HL315_0 := Aside0.mk (show Kd.V k48 48 _ w.heap.size _ _ (rd_L4 t297 x7_1) from Kd.V_mk ul315_0 ge315_0)
              clear hva_ hvn_ hvc_ ge315_0 ul315_0
              clear hcc315 hce315
              have HR315_0 := Aside0.mk hi315_0
              have HC315_0 := Aside0.mk hl315_0
              clear hi315_0 hl315_0
              replace p315 := eq_true p315
              replace q315 := eq_true q315
              go_wp2
              go_loopg [9, 10] k2 (fun kq v9 v10 w' => ∃ (x9_3 : Bool) (x10_3 : Int), v9 = .bool x9_3 ∧ v10 = .int .i64 x10_3 ∧ Aside0 (laws_FnMerge.l2 kq t297 t300 (wrap64 (x5_1 + ((rd_L4 t297 x7_1).length : Int))) y312 x7_1 x8_2 x9_3 x10_3 = some r) ∧ Aside0 (kq ≤ k2) ∧ Aside0 (Kd.N (Kd.slice 48 k48) 25 w' w.heap.size (fun k_ => some k_ ≠ ((.slice Ao12 t300.length co12) : Value).ownBlock ∧ some k_ ≠ (v313 : Value).ownBlock) (.slice (some ad310) t297.length co9) t297) ∧ Aside0 (Kd.R k48 48 w' w.heap.size (fun _ => True) (.slice Ao12 t300.length co12) t300) ∧ Aside0 (Kd.N (Kd.slice 48 k48) 25 w' w.heap.size (fun k_ => some k_ ≠ ((.slice (some ad310) t297.length co9) : Value).ownBlock ∧ some k_ ≠ ((.slice Ao12 t300.length co12) : Value).ownBlock) v313 y312) ∧ Aside0 (Kd.C k48 w' A315_0 (rd_L4 t297 x7_1).length (rd_L4 t297 x7_1)) ∧ Aside0 (Below w.heap.size w w'))
              case atStart => exact ⟨(false), (0), (by first | rfl | (simp; done) | (simp [*]; done)), (by first | rfl | (simp; done) | (simp [*]; done)), H', ⟨Nat.le_refl _⟩, ⟨by (with_reducible repeat (first | apply Kd.N_alloc | apply Kd.N_drewN | apply Kd.N_drew)); exact HO_3.out⟩, ⟨by (with_reducible repeat (first | apply Kd.R_alloc | apply Kd.R_drewN | apply Kd.R_drew)); exact HO_4.out⟩, ⟨by (with_reducible repeat (first | apply Kd.N_alloc | apply Kd.N_drewN | apply Kd.N_drew)); exact HO_6.out⟩, ⟨by repeat (first | (with_reducible exact HR315_0.out) | (with_reducible refine Kd.C_alloc ?_ _) | (with_reducible refine Kd.C_drewN ?_ _) | (with_reducible refine Kd.C_drew ?_) | exact HR315_0.out)⟩, ⟨laws_FnMerge_auHB⟩⟩
              case round =>
               clear H'
               try clear c1
               try clear c2
               try clear c2b0
               try clear c2b1
               try clear p2
               try clear c3
               try clear p3
               try clear q3
               try clear hx3
               try clear c5
               try clear p6
               try clear c7
               try clear c16
               try clear c16b0
               try clear c17
               try clear c17b0
               try clear c18
               try clear c18b0
               try clear c19
               try clear c21
               try clear c21b0
               try clear c22
               try clear c22b0
               try clear c23
               try clear c23b0
               try clear hx310_0
               try clear hx311_0
               try clear hx315_0
               try clear p2
               try clear p3
               try clear p310
               try clear p311
               try clear p315
               try clear p6
               try clear q3
               try clear q310
               try clear q311
               try clear q315
               obtain ⟨x9_3, x10_3, rfl, rfl, HA, HK3, HO_3, HO_4, HO_6, HR315_0, HB⟩ := hrel
               cases gk with
               | zero => exact absurd HA.out (by simp [laws_FnMerge.l2])
               | succ k3 =>
                have H := HA.out
                clear HA
                simp only [laws_FnMerge.l2] at H
                by_cases c24 : x10_3 < (t300.length : Int)
                ·
                 rw [if_pos c24] at H
                 have c24b0 : decide (x10_3 < (t300.length : Int)) = true := decide_eq_true c24
                 clear c24
                 by_cases c25 : x9_3 = true
                 ·
                  subst c25
                  have H1 : (laws_FnMerge.l2 k3 t297 t300 (wrap64 (x5_1 + ((rd_L4 t297 x7_1).length : Int))) y312 x7_1 x8_2 true (wrap64 (x10_3 + 1))) = some r := by rw [if_pos rfl] at H; exact H
                  clear H
                  have H := H1
                  clear H1
                  have H' := Aside0.mk H
                  clear H
                  try go_wp2
                  have n0_ := Aside0.mk (Kd.N_drew HO_3.out)
                  have n1_ := Aside0.mk (Kd.R_drew HO_4.out)
                  have n2_ := Aside0.mk (Kd.N_drew HO_6.out)
                  have n3_ := Aside0.mk (Kd.C_drew HR315_0.out)
                  have n4_ := Aside0.mk (below_drew1 HB.out)
                  clear HO_3
                  clear HO_4
                  clear HO_6
                  clear HR315_0
                  clear HB
                  have HO_3 := n0_
                  have HO_4 := n1_
                  have HO_6 := n2_
                  have HR315_0 := n3_
                  have HB := n4_
                  clear n0_ n1_ n2_ n3_ n4_
                  refine start_ (n := 16) (S := fun w' => True) (ds := []) #[false, false, false, false, false, false, false, false, false, false, false, false, false, false, false, false] (by kernel_rfl) rfl rfl trivial (fun hHeld => ?_); refine with_tabW laws_FnMerge.tab21 laws_FnMerge.bits21 (fun HT_ HW_ => ?_)
                  generalize wr.drew = w26 at HO_3 HO_4 HO_6 HR315_0 HB hHeld ⊢
                  refine pure_ (i := 0) (N := some 61) (v := ?_) (a' := ?_) #[true, false, false, false, false, false, false, false, false, false, false, false, false, false, false, false] rfl rfl (any_of HT_.out (by kernel_rfl)) (fun _ _ _ h => h) (Or.inl ⟨by rfl, ?_⟩) ?_ ?_
                  rotate_left
                  ·
                   intro w'
                   go_simp
                   with_reducible rfl
                  rotate_left
                  ·
                   simp only [Act.put, List.setIfInBounds_toArray, List.set_cons_zero, List.set_cons_succ, i64_w, i32_w]
                   rfl
                  refine pure_ (i := 1) (N := some 62) (v := ?_) (a' := ?_) #[true, true, false, false, false, false, false, false, false, false, false, false, false, false, false, false] rfl rfl (any_of HT_.out (by kernel_rfl)) (fun _ _ _ h => h) (Or.inl ⟨by rfl, ?_⟩) ?_ ?_
                  rotate_left
                  ·
                   intro w'
                   go_simp
                   with_reducible rfl
                  rotate_left
                  ·
                   simp only [Act.put, List.setIfInBounds_toArray, List.set_cons_zero, List.set_cons_succ, i64_w, i32_w]
                   rfl
                  refine pure_ (i := 2) (N := some 63) (v := undef) (a' := ?_) #[true, true, true, false, false, false, false, false, false, false, false, false, false, false, false, false] rfl rfl (any_of HT_.out (by kernel_rfl)) (fun _ _ _ h => h) (Or.inr ⟨by rfl, rfl⟩) ?_ ?_
                  rotate_left
                  ·
                   simp only [Act.put, List.setIfInBounds_toArray, List.set_cons_zero, List.set_cons_succ, i64_w, i32_w]
                   rfl
                  refine pure_ (i := 3) (N := some 64) (v := undef) (a' := ?_) #[true, true, true, true, false, false, false, false, false, false, false, false, false, false, false, false] rfl rfl (any_of HT_.out (by kernel_rfl)) (fun _ _ _ h => h) (Or.inr ⟨by rfl, rfl⟩) ?_ ?_
                  rotate_left
                  ·
                   simp only [Act.put, List.setIfInBounds_toArray, List.set_cons_zero, List.set_cons_succ, i64_w, i32_w]
                   rfl
                  refine pure_ (i := 4) (N := some 65) (v := undef) (a' := ?_) #[true, true, true, true, true, false, false, false, false, false, false, false, false, false, false, false] rfl rfl (any_of HT_.out (by kernel_rfl)) (fun _ _ _ h => h) (Or.inr ⟨by rfl, rfl⟩) ?_ ?_
                  rotate_left
                  ·
                   simp only [Act.put, List.setIfInBounds_toArray, List.set_cons_zero, List.set_cons_succ, i64_w, i32_w]
                   rfl
                  refine pure_ (i := 5) (N := some 66) (v := undef) (a' := ?_) #[true, true, true, true, true, true, false, false, false, false, false, false, false, false, false, false] rfl rfl (any_of HT_.out (by kernel_rfl)) (fun _ _ _ h => h) (Or.inr ⟨by rfl, rfl⟩) ?_ ?_
                  rotate_left
                  ·
                   simp only [Act.put, List.setIfInBounds_toArray, List.set_cons_zero, List.set_cons_succ, i64_w, i32_w]
                   rfl
                  refine pure_ (i := 6) (N := some 67) (v := undef) (a' := ?_) #[true, true, true, true, true, true, true, false, false, false, false, false, false, false, false, false] rfl rfl (any_of HT_.out (by kernel_rfl)) (fun _ _ _ h => h) (Or.inr ⟨by rfl, rfl⟩) ?_ ?_
                  rotate_left
                  ·
                   simp only [Act.put, List.setIfInBounds_toArray, List.set_cons_zero, List.set_cons_succ, i64_w, i32_w]
                   rfl
                  refine pure_ (i := 7) (N := some 68) (v := undef) (a' := ?_) #[true, true, true, true, true, true, true, true, false, false, false, false, false, false, false, false] rfl rfl (any_of HT_.out (by kernel_rfl)) (fun _ _ _ h => h) (Or.inr ⟨by rfl, rfl⟩) ?_ ?_
                  rotate_left
                  ·
                   simp only [Act.put, List.setIfInBounds_toArray, List.set_cons_zero, List.set_cons_succ, i64_w, i32_w]
                   rfl
                  refine pure_ (i := 8) (N := some 69) (v := undef) (a' := ?_) #[true, true, true, true, true, true, true, true, true, false, false, false, false, false, false, false] rfl rfl (any_of HT_.out (by kernel_rfl)) (fun _ _ _ h => h) (Or.inr ⟨by rfl, rfl⟩) ?_ ?_
                  rotate_left
                  ·
                   simp only [Act.put, List.setIfInBounds_toArray, List.set_cons_zero, List.set_cons_succ, i64_w, i32_w]
                   rfl
                  refine pure_ (i := 9) (N := some 70) (v := undef) (a' := ?_) #[true, true, true, true, true, true, true, true, true, true, false, false, false, false, false, false] rfl rfl (any_of HT_.out (by kernel_rfl)) (fun _ _ _ h => h) (Or.inr ⟨by rfl, rfl⟩) ?_ ?_
                  rotate_left
                  ·
                   simp only [Act.put, List.setIfInBounds_toArray, List.set_cons_zero, List.set_cons_succ, i64_w, i32_w]
                   rfl
                  refine pure_ (i := 10) (N := some 71) (v := undef) (a' := ?_) #[true, true, true, true, true, true, true, true, true, true, true, false, false, false, false, false] rfl rfl (any_of HT_.out (by kernel_rfl)) (fun _ _ _ h => h) (Or.inr ⟨by rfl, rfl⟩) ?_ ?_
                  rotate_left
                  ·
                   simp only [Act.put, List.setIfInBounds_toArray, List.set_cons_zero, List.set_cons_succ, i64_w, i32_w]
                   rfl
                  refine pure_ (i := 11) (N := some 72) (v := undef) (a' := ?_) #[true, true, true, true, true, true, true, true, true, true, true, true, false, false, false, false] rfl rfl (any_of HT_.out (by kernel_rfl)) (fun _ _ _ h => h) (Or.inr ⟨by rfl, rfl⟩) ?_ ?_
                  rotate_left
                  ·
                   simp only [Act.put, List.setIfInBounds_toArray, List.set_cons_zero, List.set_cons_succ, i64_w, i32_w]
                   rfl
                  refine pure_ (i := 12) (N := some 73) (v := undef) (a' := ?_) #[true, true, true, true, true, true, true, true, true, true, true, true, true, false, false, false] rfl rfl (any_of HT_.out (by kernel_rfl)) (fun _ _ _ h => h) (Or.inr ⟨by rfl, rfl⟩) ?_ ?_
                  rotate_left
                  ·
                   simp only [Act.put, List.setIfInBounds_toArray, List.set_cons_zero, List.set_cons_succ, i64_w, i32_w]
                   rfl
                  refine pure_ (i := 13) (N := some 74) (v := undef) (a' := ?_) #[true, true, true, true, true, true, true, true, true, true, true, true, true, true, false, false] rfl rfl (any_of HT_.out (by kernel_rfl)) (fun _ _ _ h => h) (Or.inr ⟨by rfl, rfl⟩) ?_ ?_
                  rotate_left
                  ·
                   simp only [Act.put, List.setIfInBounds_toArray, List.set_cons_zero, List.set_cons_succ, i64_w, i32_w]
                   rfl
                  refine pure_ (i := 14) (N := some 75) (v := ?_) (a' := ?_) #[true, true, true, true, true, true, true, true, true, true, true, true, true, true, true, false] rfl rfl (any_of HT_.out (by kernel_rfl)) (fun _ _ _ h => h) (Or.inl ⟨by rfl, ?_⟩) ?_ ?_
                  rotate_left
                  ·
                   intro w'
                   go_simp
                   with_reducible rfl
                  rotate_left
                  ·
                   simp only [Act.put, List.setIfInBounds_toArray, List.set_cons_zero, List.set_cons_succ, i64_w, i32_w]
                   rfl
                  refine pure_ (i := 15) (N := some 9) (v := ?_) (a' := ?_) #[true, true, true, true, true, true, true, true, true, true, true, true, true, true, true, true] rfl rfl (any_of HT_.out (by kernel_rfl)) (fun _ _ _ h => h) (Or.inl ⟨by rfl, ?_⟩) ?_ ?_
                  rotate_left
                  ·
                   intro w'
                   go_simp
                   with_reducible rfl
                  rotate_left
                  ·
                   simp only [Act.put, List.setIfInBounds_toArray, List.set_cons_zero, List.set_cons_succ, i64_w, i32_w]
                   rfl
                  refine done_ (done_of HT_.out (by kernel_rfl)) ?_
                  try go_wp2
                  go_roundg k3
                  case measure => have := HK1.out; have := HK2.out; have := HK3.out; omega
                  case rel => exact ⟨(true), (wrap64 (x10_3 + 1)), (by first | rfl | (simp; done) | (simp [*]; done)), (by first | rfl | (simp; done) | (simp [*]; done)), H', ⟨by have := HK1.out; have := HK2.out; have := HK3.out; omega⟩, ⟨by (with_reducible repeat (first | apply Kd.N_alloc | apply Kd.N_drewN | apply Kd.N_drew)); exact HO_3.out⟩, ⟨by (with_reducible repeat (first | apply Kd.R_alloc | apply Kd.R_drewN | apply Kd.R_drew)); exact HO_4.out⟩, ⟨by (with_reducible repeat (first | apply Kd.N_alloc | apply Kd.N_drewN | apply Kd.N_drew)); exact HO_6.out⟩, ⟨by repeat (first | (with_reducible exact HR315_0.out) | (with_reducible refine Kd.C_alloc ?_ _) | (with_reducible refine Kd.C_drewN ?_ _) | (with_reducible refine Kd.C_drew ?_) | exact HR315_0.out)⟩, ⟨laws_FnMerge_auHB⟩⟩
                 ·
                  replace c25 := Bool.eq_false_iff.mpr c25
                  subst c25
                  have H1 : (if 0 ≤ x10_3 then (if 0 ≤ x7_1 then (if x7_1 < (t297.length : Int) then (if 0 ≤ x8_2 then (if x8_2 < ((rd_L4 t297 x7_1).length : Int) then (laws_FnMerge.l2 k3 t297 t300 (wrap64 (x5_1 + ((rd_L4 t297 x7_1).length : Int))) y312 x7_1 x8_2 ((((rd_T48 t300 x10_3).f0).toList) == (((rd_T48 (rd_L4 t297 x7_1) x8_2).f0).toList) && (((rd_T48 t300 x10_3).f1) == ((rd_T48 (rd_L4 t297 x7_1) x8_2).f1) && (((rd_T48 t300 x10_3).f2) == ((rd_T48 (rd_L4 t297 x7_1) x8_2).f2) && ((((rd_T48 t300 x10_3).f3).toList) == (((rd_T48 (rd_L4 t297 x7_1) x8_2).f3).toList) && (((rd_T48 t300 x10_3).f4) == ((rd_T48 (rd_L4 t297 x7_1) x8_2).f4)))))) (wrap64 (x10_3 + 1))) else (none)) else (none)) else (none)) else (none)) else (none)) = some r := by rw [if_neg (show ¬ (false = true) by decide)] at H; exact H
                  clear H
                  have H := H1
                  clear H1
                  by_cases c27 : 0 ≤ x10_3
                  ·
                   rw [if_pos c27] at H
                   have c27b0 : decide (0 ≤ x10_3) = true := decide_eq_true c27
                   clear c27
                   by_cases c28 : 0 ≤ x7_1
                   ·
                    rw [if_pos c28] at H
                    have c28b0 : decide (0 ≤ x7_1) = true := decide_eq_true c28
                    clear c28
                    by_cases c29 : x7_1 < (t297.length : Int)
                    ·
                     rw [if_pos c29] at H
                     have c29b0 : decide (x7_1 < (t297.length : Int)) = true := decide_eq_true c29
                     clear c29
                     by_cases c30 : 0 ≤ x8_2
                     ·
                      rw [if_pos c30] at H
                      have c30b0 : decide (0 ≤ x8_2) = true := decide_eq_true c30
                      clear c30
                      by_cases c31 : x8_2 < ((rd_L4 t297 x7_1).length : Int)
                      ·
                       rw [if_pos c31] at H
                       have c31b0 : decide (x8_2 < ((rd_L4 t297 x7_1).length : Int)) = true := decide_eq_true c31
                       clear c31
                       have H' := Aside0.mk H
                       clear H
                       try go_wp2
                       have n0_ := Aside0.mk (Kd.N_drew HO_3.out)
                       have n1_ := Aside0.mk (Kd.R_drew HO_4.out)
                       have n2_ := Aside0.mk (Kd.N_drew HO_6.out)
                       have n3_ := Aside0.mk (Kd.C_drew HR315_0.out)
                       have n4_ := Aside0.mk (below_drew1 HB.out)
                       clear HO_3
                       clear HO_4
                       clear HO_6
                       clear HR315_0
                       clear HB
                       have HO_3 := n0_
                       have HO_4 := n1_
                       have HO_6 := n2_
                       have HR315_0 := n3_
                       have HB := n4_
                       clear n0_ n1_ n2_ n3_ n4_
                       have p316 : 0 ≤ (x10_3 : Int) := of_decide_eq_true (by first | (with_reducible assumption) | assumption)
                       have q316 : x10_3 < (t300.length : Int) := of_decide_eq_true (by first | (with_reducible assumption) | assumption)
                       obtain ⟨ad316, e316, hx316_0, hx316_1, hx316_2, hx316_3, hx316_4⟩ := at_T48 (Kd.R_reads' HO_4.out).2.2 x10_3 p316 q316
                       cases e316
                       replace p316 := eq_true p316
                       replace q316 := eq_true q316
                       have p317 : 0 ≤ (x7_1 : Int) := of_decide_eq_true (by first | (with_reducible assumption) | assumption)
                       have q317 : x7_1 < (t297.length : Int) := of_decide_eq_true (by first | (with_reducible assumption) | assumption)
                       obtain ⟨ad317, A317_0, c317_0, e317, hx317_0, hl317_0, hi317_0⟩ := at_L4 (Kd.N_reads' HO_3.out).2.2 x7_1 p317 q317
                       obtain rfl : ad310 = ad317 := (by injection e317)
                       obtain ⟨ce317, hce317, hMe317, hcc317⟩ := Kd.N_get HO_3.out [] x7_1 p317 (by first | exact q317 | exact of_decide_eq_true (by first | (with_reducible assumption) | assumption) | (have e_ := (Kd.N_reads' HO_3.out).1; omega))
                       obtain ⟨ua317_0, uc317_0, rfl, ul317_0, ge317_0⟩ := Kd.FK_slice_open hMe317
                       have hv317_0 := hcc317 0 _ rfl
                       rw [Nat.add_zero, show ((Kd.slice 48 k48)).sz = 1 from rfl, Nat.mul_one] at hv317_0
                       replace hv317_0 := Option.some.inj (hv317_0.symm.trans hx317_0)
                       injection hv317_0 with hva_ hvn_ hvc_
                       rw [hva_] at ge317_0
                       rw [hvc_] at ul317_0
                       have HL317_0 := Aside0.mk (show Kd.V k48 48 _ w.heap.size _ _ (rd_L4 t297 x7_1) from Kd.V_mk ul317_0 ge317_0)
                       clear hva_ hvn_ hvc_ ge317_0 ul317_0
                       clear hcc317 hce317
                       have HR317_0 := Aside0.mk hi317_0
                       have HC317_0 := Aside0.mk hl317_0
                       clear hi317_0 hl317_0
                       replace p317 := eq_true p317
                       replace q317 := eq_true q317
                       have p318 : 0 ≤ (x8_2 : Int) := of_decide_eq_true (by first | (with_reducible assumption) | assumption)
                       have q318 : x8_2 < ((rd_L4 t297 x7_1).length : Int) := of_decide_eq_true (by first | (with_reducible assumption) | assumption)
                       obtain ⟨ad318, e318, hx318_0, hx318_1, hx318_2, hx318_3, hx318_4⟩ := at_T48 (by repeat (first | (with_reducible exact HR317_0.out) | (with_reducible refine Kd.C_alloc ?_ _) | (with_reducible refine Kd.C_drewN ?_ _) | (with_reducible refine Kd.C_drew ?_) | exact HR317_0.out)) x8_2 p318 q318
                       cases e318
                       replace p318 := eq_true p318
                       replace q318 := eq_true q318
                       refine start_ (n := 16) (S := fun w' => w'.cell? (ad316.add ((x10_3).toNat * 5)) = some (.string ((rd_T48 t300 x10_3).f0)) ∧ w'.cell? ⟨(ad316.add ((x10_3).toNat * 5)).block, (ad316.add ((x10_3).toNat * 5)).off + 1, none⟩ = some (.int .i64 ((rd_T48 t300 x10_3).f1)) ∧ w'.cell? ⟨(ad316.add ((x10_3).toNat * 5)).block, (ad316.add ((x10_3).toNat * 5)).off + 2, none⟩ = some (.int .i64 ((rd_T48 t300 x10_3).f2)) ∧ w'.cell? ⟨(ad316.add ((x10_3).toNat * 5)).block, (ad316.add ((x10_3).toNat * 5)).off + 3, none⟩ = some (.string ((rd_T48 t300 x10_3).f3)) ∧ w'.cell? ⟨(ad316.add ((x10_3).toNat * 5)).block, (ad316.add ((x10_3).toNat * 5)).off + 4, none⟩ = some (.int .i64 ((rd_T48 t300 x10_3).f4)) ∧ w'.cell? (ad310.add (x7_1).toNat) = some (.slice (some ad318) (rd_L4 t297 x7_1).length c317_0) ∧ w'.cell? (ad318.add ((x8_2).toNat * 5)) = some (.string ((rd_T48 (rd_L4 t297 x7_1) x8_2).f0)) ∧ w'.cell? ⟨(ad318.add ((x8_2).toNat * 5)).block, (ad318.add ((x8_2).toNat * 5)).off + 1, none⟩ = some (.int .i64 ((rd_T48 (rd_L4 t297 x7_1) x8_2).f1)) ∧ w'.cell? ⟨(ad318.add ((x8_2).toNat * 5)).block, (ad318.add ((x8_2).toNat * 5)).off + 2, none⟩ = some (.int .i64 ((rd_T48 (rd_L4 t297 x7_1) x8_2).f2)) ∧ w'.cell? ⟨(ad318.add ((x8_2).toNat * 5)).block, (ad318.add ((x8_2).toNat * 5)).off + 3, none⟩ = some (.string ((rd_T48 (rd_L4 t297 x7_1) x8_2).f3)) ∧ w'.cell? ⟨(ad318.add ((x8_2).toNat * 5)).block, (ad318.add ((x8_2).toNat * 5)).off + 4, none⟩ = some (.int .i64 ((rd_T48 (rd_L4 t297 x7_1) x8_2).f4))) (ds := []) #[false, false, false, false, false, false, false, false, false, false, false, false, false, false, false, false] (by kernel_rfl) rfl rfl ⟨hx316_0, hx316_1, hx316_2, hx316_3, hx316_4, hx317_0, hx318_0, hx318_1, hx318_2, hx318_3, hx318_4⟩ (fun hHeld => ?_); refine with_tabW laws_FnMerge.tab21 laws_FnMerge.bits21 (fun HT_ HW_ => ?_)
                       generalize wr.drew = w32 at HO_3 HO_4 HO_6 HR315_0 HB HL317_0 HR317_0 hx316_0 hx316_1 hx316_2 hx316_3 hx316_4 hx317_0 hx318_0 hx318_1 hx318_2 hx318_3 hx318_4 hHeld ⊢
                       refine pure_ (i := 0) (N := some 61) (v := ?_) (a' := ?_) #[true, false, false, false, false, false, false, false, false, false, false, false, false, false, false, false] rfl rfl (any_of HT_.out (by kernel_rfl)) (fun _ _ _ h => h) (Or.inl ⟨by rfl, ?_⟩) ?_ ?_
                       rotate_left
                       ·
                        intro w'
                        go_simp
                        with_reducible rfl
                       rotate_left
                       ·
                        simp only [Act.put, List.setIfInBounds_toArray, List.set_cons_zero, List.set_cons_succ, i64_w, i32_w]
                        rfl
                       refine pure_ (i := 1) (N := some 62) (v := ?_) (a' := ?_) #[true, true, false, false, false, false, false, false, false, false, false, false, false, false, false, false] rfl rfl (any_of HT_.out (by kernel_rfl)) (fun _ _ _ h => h) (Or.inl ⟨by rfl, ?_⟩) ?_ ?_
                       rotate_left
                       ·
                        intro w'
                        go_simp
                        with_reducible rfl
                       rotate_left
                       ·
                        simp only [Act.put, List.setIfInBounds_toArray, List.set_cons_zero, List.set_cons_succ, i64_w, i32_w]
                        rfl
                       refine pure_ (i := 2) (N := some 63) (v := ?_) (a' := ?_) #[true, true, true, false, false, false, false, false, false, false, false, false, false, false, false, false] rfl rfl (any_of HT_.out (by kernel_rfl)) (fun _ _ _ h => h) (Or.inl ⟨by rfl, ?_⟩) ?_ ?_
                       rotate_left
                       ·
                        intro w'
                        go_simp
                        with_reducible rfl
                       rotate_left
                       ·
                        simp only [Act.put, List.setIfInBounds_toArray, List.set_cons_zero, List.set_cons_succ, i64_w, i32_w]
                        rfl
                       refine pure_ (i := 3) (N := some 64) (v := ?_) (a' := ?_) #[true, true, true, true, false, false, false, false, false, false, false, false, false, false, false, false] rfl rfl (any_of HT_.out (by kernel_rfl)) (fun _ _ _ h => h) (Or.inl ⟨by rfl, ?_⟩) ?_ ?_
                       rotate_left
                       ·
                        intro w'
                        go_simp
                        with_reducible rfl
                       rotate_left
                       ·
                        simp only [Act.put, List.setIfInBounds_toArray, List.set_cons_zero, List.set_cons_succ, i64_w, i32_w]
                        rfl
                       refine pure_ (i := 4) (N := some 65) (v := ?_) (a' := ?_) #[true, true, true, true, true, false, false, false, false, false, false, false, false, false, false, false] rfl rfl (any_of HT_.out (by kernel_rfl)) (fun _ _ _ h => h) (Or.inl ⟨by rfl, ?_⟩) ?_ ?_
                       rotate_left
                       ·
                        intro w'
                        go_simp
                        with_reducible rfl
                       rotate_left
                       ·
                        simp only [Act.put, List.setIfInBounds_toArray, List.set_cons_zero, List.set_cons_succ, i64_w, i32_w]
                        rfl
                       refine pure_ (i := 6) (N := some 67) (v := ?_) (a' := ?_) #[true, true, true, true, true, false, true, false, false, false, false, false, false, false, false, false] rfl rfl (any_of HT_.out (by kernel_rfl)) (fun _ _ _ h => h) (Or.inl ⟨by rfl, ?_⟩) ?_ ?_
                       rotate_left
                       ·
                        intro w'
                        go_simp
                        with_reducible rfl
                       rotate_left
                       ·
                        simp only [Act.put, List.setIfInBounds_toArray, List.set_cons_zero, List.set_cons_succ, i64_w, i32_w]
                        rfl
                       refine pure_ (i := 7) (N := some 68) (v := ?_) (a' := ?_) #[true, true, true, true, true, false, true, true, false, false, false, false, false, false, false, false] rfl rfl (any_of HT_.out (by kernel_rfl)) (fun _ _ _ h => h) (Or.inl ⟨by rfl, ?_⟩) ?_ ?_
                       rotate_left
                       ·
                        intro w'
                        go_simp
                        with_reducible rfl
                       rotate_left
                       ·
                        simp only [Act.put, List.setIfInBounds_toArray, List.set_cons_zero, List.set_cons_succ, i64_w, i32_w]
                        rfl
                       refine pure_ (i := 8) (N := some 69) (v := ?_) (a' := ?_) #[true, true, true, true, true, false, true, true, true, false, false, false, false, false, false, false] rfl rfl (any_of HT_.out (by kernel_rfl)) (fun _ _ _ h => h) (Or.inl ⟨by rfl, ?_⟩) ?_ ?_
                       rotate_left
                       ·
                        intro w'
                        go_simp
                        with_reducible rfl
                       rotate_left
                       ·
                        simp only [Act.put, List.setIfInBounds_toArray, List.set_cons_zero, List.set_cons_succ, i64_w, i32_w]
                        rfl
                       refine pure_ (i := 10) (N := some 71) (v := ?_) (a' := ?_) #[true, true, true, true, true, false, true, true, true, false, true, false, false, false, false, false] rfl rfl (any_of HT_.out (by kernel_rfl)) (fun _ _ _ h => h) (Or.inl ⟨by rfl, ?_⟩) ?_ ?_
                       rotate_left
                       ·
                        intro w'
                        go_simp
                        with_reducible rfl
                       rotate_left
                       ·
                        simp only [Act.put, List.setIfInBounds_toArray, List.set_cons_zero, List.set_cons_succ, i64_w, i32_w]
                        rfl
                       refine take_ (i := 5) (N := some 66) (v := ?_) (a' := ?_) #[true, true, true, true, true, true, true, true, true, false, true, false, false, false, false, false] rfl rfl (take_ofW HT_.out HW_.out (by kernel_rfl)) (fun _ _ _ h => h) (Or.inl ⟨by rfl, ?_⟩) hHeld ?_ ?_
                       rotate_left
                       ·
                        rintro w' ⟨s0, s1, s2, s3, s4, s5, s6, s7, s8, s9, s10⟩
                        go_simp
                        with_reducible rfl
                       rotate_left
                       ·
                        simp only [Act.put, List.setIfInBounds_toArray, List.set_cons_zero, List.set_cons_succ, i64_w, i32_w]
                        rfl
                       refine take_ (i := 9) (N := some 70) (v := ?_) (a' := ?_) #[true, true, true, true, true, true, true, true, true, true, true, false, false, false, false, false] rfl rfl (take_ofW HT_.out HW_.out (by kernel_rfl)) (fun _ _ _ h => h) (Or.inl ⟨by rfl, ?_⟩) hHeld ?_ ?_
                       rotate_left
                       ·
                        rintro w' ⟨s0, s1, s2, s3, s4, s5, s6, s7, s8, s9, s10⟩
                        go_simp
                        with_reducible rfl
                       rotate_left
                       ·
                        simp only [Act.put, List.setIfInBounds_toArray, List.set_cons_zero, List.set_cons_succ, i64_w, i32_w]
                        rfl
                       refine pure_ (i := 11) (N := some 72) (v := ?_) (a' := ?_) #[true, true, true, true, true, true, true, true, true, true, true, true, false, false, false, false] rfl rfl (any_of HT_.out (by kernel_rfl)) (fun _ _ _ h => h) (Or.inl ⟨by rfl, ?_⟩) ?_ ?_
                       rotate_left
                       ·
                        intro w'
                        go_simp
                        with_reducible rfl
                       rotate_left
                       ·
                        simp only [Act.put, List.setIfInBounds_toArray, List.set_cons_zero, List.set_cons_succ, i64_w, i32_w]
                        rfl
                       refine take_ (i := 12) (N := some 73) (v := ?_) (a' := ?_) #[true, true, true, true, true, true, true, true, true, true, true, true, true, false, false, false] rfl rfl (take_ofW HT_.out HW_.out (by kernel_rfl)) (fun _ _ _ h => h) (Or.inl ⟨by rfl, ?_⟩) hHeld ?_ ?_
                       rotate_left
                       ·
                        rintro w' ⟨s0, s1, s2, s3, s4, s5, s6, s7, s8, s9, s10⟩
                        go_simp
                        with_reducible rfl
                       rotate_left
                       ·
                        simp only [Act.put, List.setIfInBounds_toArray, List.set_cons_zero, List.set_cons_succ, i64_w, i32_w]
                        rfl
                       refine pure_ (i := 13) (N := some 74) (v := ?_) (a' := ?_) #[true, true, true, true, true, true, true, true, true, true, true, true, true, true, false, false] rfl rfl (any_of HT_.out (by kernel_rfl)) (fun _ _ _ h => h) (Or.inl ⟨by rfl, ?_⟩) ?_ ?_
                       rotate_left
                       ·
                        intro w'
                        go_simp
                        with_reducible rfl
                       rotate_left
                       ·
                        simp only [Act.put, List.setIfInBounds_toArray, List.set_cons_zero, List.set_cons_succ, i64_w, i32_w]
                        rfl
                       refine pure_ (i := 14) (N := some 75) (v := ?_) (a' := ?_) #[true, true, true, true, true, true, true, true, true, true, true, true, true, true, true, false] rfl rfl (any_of HT_.out (by kernel_rfl)) (fun _ _ _ h => h) (Or.inl ⟨by rfl, ?_⟩) ?_ ?_
                       rotate_left
                       ·
                        intro w'
                        go_simp
                        with_reducible rfl
                       rotate_left
                       ·
                        simp only [Act.put, List.setIfInBounds_toArray, List.set_cons_zero, List.set_cons_succ, i64_w, i32_w]
                        rfl
                       refine pure_ (i := 15) (N := some 9) (v := ?_) (a' := ?_) #[true, true, true, true, true, true, true, true, true, true, true, true, true, true, true, true] rfl rfl (any_of HT_.out (by kernel_rfl)) (fun _ _ _ h => h) (Or.inl ⟨by rfl, ?_⟩) ?_ ?_
                       rotate_left
                       ·
                        intro w'
                        go_simp
                        with_reducible rfl
                       rotate_left
                       ·
                        simp only [Act.put, List.setIfInBounds_toArray, List.set_cons_zero, List.set_cons_succ, i64_w, i32_w]
                        rfl
                       refine done_ (done_of HT_.out (by kernel_rfl)) ?_
                       try go_wp2
                       go_roundg k3
                       case measure => have := HK1.out; have := HK2.out; have := HK3.out; omega
                       case rel => exact ⟨(((((rd_T48 t300 x10_3).f0).toList) == (((rd_T48 (rd_L4 t297 x7_1) x8_2).f0).toList) && (((rd_T48 t300 x10_3).f1) == ((rd_T48 (rd_L4 t297 x7_1) x8_2).f1) && (((rd_T48 t300 x10_3).f2) == ((rd_T48 (rd_L4 t297 x7_1) x8_2).f2) && ((((rd_T48 t300 x10_3).f3).toList) == (((rd_T48 (rd_L4 t297 x7_1) x8_2).f3).toList) && (((rd_T48 t300 x10_3).f4) == ((rd_T48 (rd_L4 t297 x7_1) x8_2).f4))))))), (wrap64 (x10_3 + 1)), (by first | rfl | (simp; done) | (simp [*]; done)), (by first | rfl | (simp; done) | (simp [*]; done)), H', ⟨by have := HK1.out; have := HK2.out; have := HK3.out; omega⟩, ⟨by (with_reducible repeat (first | apply Kd.N_alloc | apply Kd.N_drewN | apply Kd.N_drew)); exact HO_3.out⟩, ⟨by (with_reducible repeat (first | apply Kd.R_alloc | apply Kd.R_drewN | apply Kd.R_drew)); exact HO_4.out⟩, ⟨by (with_reducible repeat (first | apply Kd.N_alloc | apply Kd.N_drewN | apply Kd.N_drew)); exact HO_6.out⟩, ⟨by repeat (first | (with_reducible exact HR315_0.out) | (with_reducible refine Kd.C_alloc ?_ _) | (with_reducible refine Kd.C_drewN ?_ _) | (with_reducible refine Kd.C_drew ?_) | exact HR315_0.out)⟩, ⟨laws_FnMerge_auHB⟩⟩
                      ·
                       rw [if_neg c31] at H
                       exact absurd H (by simp)
                     ·
                      rw [if_neg c30] at H
                      exact absurd H (by simp)
                    ·
                     rw [if_neg c29] at H
                     exact absurd H (by simp)
                   ·
                    rw [if_neg c28] at H
                    exact absurd H (by simp)
                  ·
                   rw [if_neg c27] at H
                   exact absurd H (by simp)
                ·
                 rw [if_neg c24] at H
                 have c24b0 : decide (x10_3 < (t300.length : Int)) = false := decide_eq_false c24
                 clear c24
                 by_cases c33 : x9_3 = true
                 ·
                  subst c33
                  have H1 : (laws_FnMerge.l1 k3 t297 t300 (wrap64 (x5_1 + ((rd_L4 t297 x7_1).length : Int))) y312 x7_1 (wrap64 (x8_2 + 1))) = some r := by rw [if_pos rfl] at H; exact H
                  clear H
                  have H := H1
                  clear H1
                  have H' := Aside0.mk H
                  clear H
                  go_wp2
                  go_roundg k3
                  case measure => have := HK1.out; have := HK2.out; have := HK3.out; omega
                  case rel => exact ⟨(wrap64 (x8_2 + 1)), (by first | rfl | (simp; done) | (simp [*]; done)), H', ⟨by have := HK1.out; have := HK2.out; have := HK3.out; omega⟩, ⟨by (with_reducible repeat (first | apply Kd.N_alloc | apply Kd.N_drewN | apply Kd.N_drew)); exact HO_3.out⟩, ⟨by (with_reducible repeat (first | apply Kd.R_alloc | apply Kd.R_drewN | apply Kd.R_drew)); exact HO_4.out⟩, ⟨by (with_reducible repeat (first | apply Kd.N_alloc | apply Kd.N_drewN | apply Kd.N_drew)); exact HO_6.out⟩, ⟨laws_FnMerge_auHB⟩⟩
                 ·
                  replace c33 := Bool.eq_false_iff.mpr c33
                  subst c33
                  have H1 : (none) = some r := by rw [if_neg (show ¬ (false = true) by decide)] at H; exact H
                  clear H
                  have H := H1
                  clear H1
                  exact absurd H (by simp)
             ·
              rw [if_neg c23] at H
              have c23b0 : decide (x8_2 < ((rd_L4 t297 x7_1).length : Int)) = false := decide_eq_false c23
              clear c23
              have H' := Aside0.mk H
              clear H
              have p315 : 0 ≤ (x7_1 : Int) := of_decide_eq_true (by first | (with_reducible assumption) | assumption)
              have q315 : x7_1 < (t297.length : Int) := of_decide_eq_true (by first | (with_reducible assumption) | assumption)
              obtain ⟨ad315, A315_0, c315_0, e315, hx315_0, hl315_0, hi315_0⟩ := at_L4 (Kd.N_reads' HO_3.out).2.2 x7_1 p315 q315
              obtain rfl : ad310 = ad315 := (by injection e315)
              obtain ⟨ce315, hce315, hMe315, hcc315⟩ := Kd.N_get HO_3.out [] x7_1 p315 (by first | exact q315 | exact of_decide_eq_true (by first | (with_reducible assumption) | assumption) | (have e_ := (Kd.N_reads' HO_3.out).1; omega))
              obtain ⟨ua315_0, uc315_0, rfl, ul315_0, ge315_0⟩ := Kd.FK_slice_open hMe315
              have hv315_0 := hcc315 0 _ rfl
              rw [Nat.add_zero, show ((Kd.slice 48 k48)).sz = 1 from rfl, Nat.mul_one] at hv315_0
              replace hv315_0 := Option.some.inj (hv315_0.symm.trans hx315_0)
              injection hv315_0 with hva_ hvn_ hvc_
              rw [hva_] at ge315_0
              rw [hvc_] at ul315_0
              have HL315_0 := Aside0.mk (show Kd.V k48 48 _ w.heap.size _ _ (rd_L4 t297 x7_1) from Kd.V_mk ul315_0 ge315_0)
              clear hva_ hvn_ hvc_ ge315_0 ul315_0
              clear hcc315 hce315
              have HR315_0 := Aside0.mk hi315_0
              have HC315_0 := Aside0.mk hl315_0
              clear hi315_0 hl315_0
              replace p315 := eq_true p315
              replace q315 := eq_true q315
              go_wp2
              go_roundg k2
              case measure => have := HK1.out; have := HK2.out; omega
              case rel => exact ⟨((wrap64 (x5_1 + ((rd_L4 t297 x7_1).length : Int)))), (y312), (wrap64 (x7_1 - 1)), (by first | rfl | (simp; done) | (simp [*]; done)), (by first | rfl | (simp; done) | (simp [*]; done)), H', ⟨by have := HK1.out; have := HK2.out; omega⟩, ⟨by (with_reducible repeat (first | apply Kd.N_alloc | apply Kd.N_drewN | apply Kd.N_drew)); exact HO_3.out⟩, ⟨by (with_reducible repeat (first | apply Kd.R_alloc | apply Kd.R_drewN | apply Kd.R_drew)); exact HO_4.out⟩, ⟨by (with_reducible repeat (first | apply Kd.N_alloc | apply Kd.N_drewN | apply Kd.N_drew)); exact HO_6.out⟩, ⟨laws_FnMerge_auHB⟩⟩
            ·
             rw [if_neg c22] at H
             exact absurd H (by simp)
           ·
            rw [if_neg c21] at H
            exact absurd H (by simp)
        ·
         rw [if_neg c19] at H
         exact absurd H (by simp)
       ·
        rw [if_neg c18] at H
        exact absurd H (by simp)
      ·
       rw [if_neg c17] at H
       exact absurd H (by simp)
     ·
      rw [if_neg c16] at H
      have c16b0 : decide (0 ≤ x7_1) = false := decide_eq_false c16
      clear c16
      have H' := Aside0.mk H
      clear H
      go_wp2
      go_loopg [11] k1 (fun kq v11 w' => ∃ (x11_2 : Int), v11 = .int .i64 x11_2 ∧ Aside0 (laws_FnMerge.l3 kq t300 x5_1 x6_1 x11_2 = some r) ∧ Aside0 (kq ≤ k1) ∧ Aside0 (Kd.R k48 48 w' w.heap.size (fun _ => True) (.slice Ao12 t300.length co12) t300) ∧ Aside0 (Kd.N (Kd.slice 48 k48) 25 w' w.heap.size (fun k_ => some k_ ≠ ((.slice Ao12 t300.length co12) : Value).ownBlock) u6 x6_1) ∧ Aside0 (Below w.heap.size w w'))
      case atStart => exact ⟨(1), (by first | rfl | (simp; done) | (simp [*]; done)), H', ⟨Nat.le_refl _⟩, ⟨by (with_reducible repeat (first | apply Kd.R_alloc | apply Kd.R_drewN | apply Kd.R_drew)); exact HO_4.out⟩, ⟨by (with_reducible repeat (first | apply Kd.N_alloc | apply Kd.N_drewN | apply Kd.N_drew)); exact Kd.N_mono HO_6.out (fun _ hk => hk.2)⟩, ⟨laws_FnMerge_auHB⟩⟩
      case round =>
       clear H'
       try clear c1
       try clear c2
       try clear c2b0
       try clear c2b1
       try clear p2
       try clear c3
       try clear p3
       try clear q3
       try clear hx3
       try clear c5
       try clear p6
       try clear c7
       try clear c16
       try clear c16b0
       try clear c17
       try clear c17b0
       try clear c18
       try clear c18b0
       try clear c19
       try clear c21
       try clear c21b0
       try clear c22
       try clear c22b0
       try clear c23
       try clear c23b0
       try clear c24
       try clear c24b0
       try clear c25
       try clear c27
       try clear c27b0
       try clear c28
       try clear c28b0
       try clear c29
       try clear c29b0
       try clear c30
       try clear c30b0
       try clear c31
       try clear c31b0
       try clear p31
       try clear q31
       try clear hx31
       try clear c33
       try clear hx310_0
       try clear hx311_0
       try clear hx315_0
       try clear hx316_0
       try clear hx316_1
       try clear hx316_2
       try clear hx316_3
       try clear hx316_4
       try clear hx317_0
       try clear hx318_0
       try clear hx318_1
       try clear hx318_2
       try clear hx318_3
       try clear hx318_4
       try clear p2
       try clear p3
       try clear p310
       try clear p311
       try clear p315
       try clear p316
       try clear p317
       try clear p318
       try clear p6
       try clear q3
       try clear q310
       try clear q311
       try clear q315
       try clear q316
       try clear q317
       try clear q318
       obtain ⟨x11_2, rfl, HA, HK2, HO_4, HO_6, HB⟩ := hrel
       cases gk with
       | zero => exact absurd HA.out (by simp [laws_FnMerge.l3])
       | succ k2 =>
        have H := HA.out
        clear HA
        simp only [laws_FnMerge.l3] at H
        by_cases c34 : x11_2 < (t300.length : Int)
        ·
         rw [if_pos c34] at H
         have c34b0 : decide (x11_2 < (t300.length : Int)) = true := decide_eq_true c34
         clear c34
         obtain ⟨ji35, hji35⟩ : ∃ j_ : Int, (wrap64 (x11_2 - 1)) = j_ := ⟨_, rfl⟩
         replace H : (if 0 ≤ (ji35) then (if (ji35) < (t300.length : Int) then (if 0 ≤ x11_2 then ((impl_EntryLess.f ((rd_T48 t300 (ji35)).f0) ((rd_T48 t300 (ji35)).f1) ((rd_T48 t300 (ji35)).f2) ((rd_T48 t300 (ji35)).f3) ((rd_T48 t300 (ji35)).f4) ((rd_T48 t300 x11_2).f0) ((rd_T48 t300 x11_2).f1) ((rd_T48 t300 x11_2).f2) ((rd_T48 t300 x11_2).f3) ((rd_T48 t300 x11_2).f4)).bind fun t321 => (if t321 = true then (laws_FnMerge.l3 k2 t300 x5_1 x6_1 (wrap64 (x11_2 + 1))) else (none))) else (none)) else (none)) else (none)) = some r := by first | (rw [hji35] at H; exact H) | (simp only [hji35] at H ⊢; exact H)
         have hji35w : (IntKind.i64.wrap (x11_2 - 1)) = ji35 := (i64_w _).trans hji35
         by_cases c36 : 0 ≤ (ji35)
         ·
          rw [if_pos c36] at H
          have c36b0 : decide (0 ≤ (ji35)) = true := decide_eq_true c36
          clear c36
          by_cases c37 : (ji35) < (t300.length : Int)
          ·
           rw [if_pos c37] at H
           have c37b0 : decide ((ji35) < (t300.length : Int)) = true := decide_eq_true c37
           clear c37
           by_cases c38 : 0 ≤ x11_2
           ·
            rw [if_pos c38] at H
            have c38b0 : decide (0 ≤ x11_2) = true := decide_eq_true c38
            clear c38
            replace H := Option.bind_eq_some_iff.mp H
            obtain ⟨t321, A390, H⟩ := H
            replace H : (if t321 = true then (laws_FnMerge.l3 k2 t300 x5_1 x6_1 (wrap64 (x11_2 + 1))) else (none)) = some r := H
            have A39 := Aside0.mk A390
            clear A390
            by_cases c40 : t321 = true
            ·
             subst c40
             have H1 : (laws_FnMerge.l3 k2 t300 x5_1 x6_1 (wrap64 (x11_2 + 1))) = some r := by rw [if_pos rfl] at H; exact H
             clear H
             have H := H1
             clear H1
             have H' := Aside0.mk H
             clear H
             try go_wp2
             have n0_ := Aside0.mk (Kd.R_drew HO_4.out)
             have n1_ := Aside0.mk (Kd.N_drew HO_6.out)
             have n2_ := Aside0.mk (below_drew1 HB.out)
             clear HO_4
             clear HO_6
             clear HB
             have HO_4 := n0_
             have HO_6 := n1_
             have HB := n2_
             clear n0_ n1_ n2_
             have p319 : 0 ≤ ((ji35) : Int) := of_decide_eq_true (by first | (with_reducible assumption) | assumption)
             have q319 : (ji35) < (t300.length : Int) := of_decide_eq_true (by first | (with_reducible assumption) | assumption)
             obtain ⟨ad319, e319, hx319_0, hx319_1, hx319_2, hx319_3, hx319_4⟩ := at_T48 (Kd.R_reads' HO_4.out).2.2 (ji35) p319 q319
             cases e319
             replace p319 := eq_true p319
             replace q319 := eq_true q319
             have p320 : 0 ≤ (x11_2 : Int) := of_decide_eq_true (by first | (with_reducible assumption) | assumption)
             have q320 : x11_2 < (t300.length : Int) := of_decide_eq_true (by first | (with_reducible assumption) | assumption)
             obtain ⟨ad320, e320, hx320_0, hx320_1, hx320_2, hx320_3, hx320_4⟩ := at_T48 (Kd.R_reads' HO_4.out).2.2 x11_2 p320 q320
             obtain rfl : ad319 = ad320 := (by injection e320)
             replace p320 := eq_true p320
             replace q320 := eq_true q320
             refine start_ (n := 11) (S := fun w' => w'.cell? (ad319.add (((ji35)).toNat * 5)) = some (.string ((rd_T48 t300 (ji35)).f0)) ∧ w'.cell? ⟨(ad319.add (((ji35)).toNat * 5)).block, (ad319.add (((ji35)).toNat * 5)).off + 1, none⟩ = some (.int .i64 ((rd_T48 t300 (ji35)).f1)) ∧ w'.cell? ⟨(ad319.add (((ji35)).toNat * 5)).block, (ad319.add (((ji35)).toNat * 5)).off + 2, none⟩ = some (.int .i64 ((rd_T48 t300 (ji35)).f2)) ∧ w'.cell? ⟨(ad319.add (((ji35)).toNat * 5)).block, (ad319.add (((ji35)).toNat * 5)).off + 3, none⟩ = some (.string ((rd_T48 t300 (ji35)).f3)) ∧ w'.cell? ⟨(ad319.add (((ji35)).toNat * 5)).block, (ad319.add (((ji35)).toNat * 5)).off + 4, none⟩ = some (.int .i64 ((rd_T48 t300 (ji35)).f4)) ∧ w'.cell? (ad319.add ((x11_2).toNat * 5)) = some (.string ((rd_T48 t300 x11_2).f0)) ∧ w'.cell? ⟨(ad319.add ((x11_2).toNat * 5)).block, (ad319.add ((x11_2).toNat * 5)).off + 1, none⟩ = some (.int .i64 ((rd_T48 t300 x11_2).f1)) ∧ w'.cell? ⟨(ad319.add ((x11_2).toNat * 5)).block, (ad319.add ((x11_2).toNat * 5)).off + 2, none⟩ = some (.int .i64 ((rd_T48 t300 x11_2).f2)) ∧ w'.cell? ⟨(ad319.add ((x11_2).toNat * 5)).block, (ad319.add ((x11_2).toNat * 5)).off + 3, none⟩ = some (.string ((rd_T48 t300 x11_2).f3)) ∧ w'.cell? ⟨(ad319.add ((x11_2).toNat * 5)).block, (ad319.add ((x11_2).toNat * 5)).off + 4, none⟩ = some (.int .i64 ((rd_T48 t300 x11_2).f4))) (ds := []) #[false, false, false, false, false, false, false, false, false, false, false] (by kernel_rfl) rfl rfl ⟨hx319_0, hx319_1, hx319_2, hx319_3, hx319_4, hx320_0, hx320_1, hx320_2, hx320_3, hx320_4⟩ (fun hHeld => ?_); refine with_tabW laws_FnMerge.tab27 laws_FnMerge.bits27 (fun HT_ HW_ => ?_)
             generalize wr.drew = w41 at HO_4 HO_6 HB hx319_0 hx319_1 hx319_2 hx319_3 hx319_4 hx320_0 hx320_1 hx320_2 hx320_3 hx320_4 hHeld ⊢
             refine pure_ (i := 0) (N := some 84) (v := ?_) (a' := ?_) #[true, false, false, false, false, false, false, false, false, false, false] rfl rfl (any_of HT_.out (by kernel_rfl)) (fun _ _ _ h => h) (Or.inl ⟨by rfl, ?_⟩) ?_ ?_
             rotate_left
             ·
              intro w'
              go_simp
              with_reducible rfl
             rotate_left
             ·
              simp only [Act.put, List.setIfInBounds_toArray, List.set_cons_zero, List.set_cons_succ, i64_w, i32_w]
              rfl
             refine pure_ (i := 1) (N := some 85) (v := ?_) (a' := ?_) #[true, true, false, false, false, false, false, false, false, false, false] rfl rfl (any_of HT_.out (by kernel_rfl)) (fun _ _ _ h => h) (Or.inl ⟨by rfl, ?_⟩) ?_ ?_
             rotate_left
             ·
              intro w'
              go_simp
              with_reducible rfl
             rotate_left
             ·
              simp only [Act.put, List.setIfInBounds_toArray, List.set_cons_zero, List.set_cons_succ, i64_w, i32_w]
              rfl
             refine pure_ (i := 2) (N := some 86) (v := ?_) (a' := ?_) #[true, true, true, false, false, false, false, false, false, false, false] rfl rfl (any_of HT_.out (by kernel_rfl)) (fun _ _ _ h => h) (Or.inl ⟨by rfl, ?_⟩) ?_ ?_
             rotate_left
             ·
              intro w'
              go_simp
              with_reducible rfl
             rotate_left
             ·
              simp only [Act.put, List.setIfInBounds_toArray, List.set_cons_zero, List.set_cons_succ, i64_w, i32_w]
              rfl
             refine pure_ (i := 3) (N := some 87) (v := ?_) (a' := ?_) #[true, true, true, true, false, false, false, false, false, false, false] rfl rfl (any_of HT_.out (by kernel_rfl)) (fun _ _ _ h => h) (Or.inl ⟨by rfl, ?_⟩) ?_ ?_
             rotate_left
             ·
              intro w'
              go_simp
              with_reducible rfl
             rotate_left
             ·
              simp only [Act.put, List.setIfInBounds_toArray, List.set_cons_zero, List.set_cons_succ, i64_w, i32_w]
              rfl
             refine pure_ (i := 5) (N := some 89) (v := ?_) (a' := ?_) #[true, true, true, true, false, true, false, false, false, false, false] rfl rfl (any_of HT_.out (by kernel_rfl)) (fun _ _ _ h => h) (Or.inl ⟨by rfl, ?_⟩) ?_ ?_
             rotate_left
             ·
              intro w'
              go_simp
              with_reducible rfl
             rotate_left
             ·
              simp only [Act.put, List.setIfInBounds_toArray, List.set_cons_zero, List.set_cons_succ, i64_w, i32_w]
              rfl
             refine pure_ (i := 6) (N := some 90) (v := ?_) (a' := ?_) #[true, true, true, true, false, true, true, false, false, false, false] rfl rfl (any_of HT_.out (by kernel_rfl)) (fun _ _ _ h => h) (Or.inl ⟨by rfl, ?_⟩) ?_ ?_
             rotate_left
             ·
              intro w'
              go_simp
              with_reducible rfl
             rotate_left
             ·
              simp only [Act.put, List.setIfInBounds_toArray, List.set_cons_zero, List.set_cons_succ, i64_w, i32_w]
              rfl
             refine pure_ (i := 7) (N := some 91) (v := ?_) (a' := ?_) #[true, true, true, true, false, true, true, true, false, false, false] rfl rfl (any_of HT_.out (by kernel_rfl)) (fun _ _ _ h => h) (Or.inl ⟨by rfl, ?_⟩) ?_ ?_
             rotate_left
             ·
              intro w'
              go_simp
              with_reducible rfl
             rotate_left
             ·
              simp only [Act.put, List.setIfInBounds_toArray, List.set_cons_zero, List.set_cons_succ, i64_w, i32_w]
              rfl
             refine take_ (i := 4) (N := some 88) (v := ?_) (a' := ?_) #[true, true, true, true, true, true, true, true, false, false, false] rfl rfl (take_ofW HT_.out HW_.out (by kernel_rfl)) (fun _ _ _ h => h) (Or.inl ⟨by rfl, ?_⟩) hHeld ?_ ?_
             rotate_left
             ·
              rintro w' ⟨s0, s1, s2, s3, s4, s5, s6, s7, s8, s9⟩
              go_simp
              with_reducible rfl
             rotate_left
             ·
              simp only [Act.put, List.setIfInBounds_toArray, List.set_cons_zero, List.set_cons_succ, i64_w, i32_w]
              rfl
             refine take_ (i := 8) (N := some 92) (v := ?_) (a' := ?_) #[true, true, true, true, true, true, true, true, true, false, false] rfl rfl (take_ofW HT_.out HW_.out (by kernel_rfl)) (fun _ _ _ h => h) (Or.inl ⟨by rfl, ?_⟩) hHeld ?_ ?_
             rotate_left
             ·
              rintro w' ⟨s0, s1, s2, s3, s4, s5, s6, s7, s8, s9⟩
              go_simp
              with_reducible rfl
             rotate_left
             ·
              simp only [Act.put, List.setIfInBounds_toArray, List.set_cons_zero, List.set_cons_succ, i64_w, i32_w]
              rfl
             refine one_ (i := 9) (N := some 93) #[true, true, true, true, true, true, true, true, true, true, false] rfl rfl (one_of HT_.out (by kernel_rfl)) (by decide) (fun K hK => ?_)
             refine goes_ Try.func28 (by kernel_rfl) rfl #[.agg #[.string ((rd_T48 t300 (ji35)).f0), .int .i64 ((rd_T48 t300 (ji35)).f1), .int .i64 ((rd_T48 t300 (ji35)).f2), .string ((rd_T48 t300 (ji35)).f3), .int .i64 ((rd_T48 t300 (ji35)).f4)], .agg #[.string ((rd_T48 t300 x11_2).f0), .int .i64 ((rd_T48 t300 x11_2).f1), .int .i64 ((rd_T48 t300 x11_2).f2), .string ((rd_T48 t300 x11_2).f3), .int .i64 ((rd_T48 t300 x11_2).f4)]] (by rfl) rfl rfl (by (try simp only [List.map_toArray, List.map_cons, List.map_nil]); first | done | (simp only [hji35]; rfl) | rfl | (simp only [List.length_drop, List.length_take]; rfl)) ?_
             with_reducible refine (impl_EntryLess.calls ((rd_T48 t300 (ji35)).f0) ((rd_T48 t300 (ji35)).f1) ((rd_T48 t300 (ji35)).f2) ((rd_T48 t300 (ji35)).f3) ((rd_T48 t300 (ji35)).f4) ((rd_T48 t300 x11_2).f0) ((rd_T48 t300 x11_2).f1) ((rd_T48 t300 x11_2).f2) ((rd_T48 t300 x11_2).f3) ((rd_T48 t300 x11_2).f4) true _ A39.out).mono ?_
             rintro e w42 ⟨rfl, hb⟩
             have HS0_ := (hb.cell (World.block_lt_of_cell? _ _ (hHeld.1))).trans (hHeld.1)
             have HS1_ := (hb.cell (World.block_lt_of_cell? _ _ (hHeld.2.1))).trans (hHeld.2.1)
             have HS2_ := (hb.cell (World.block_lt_of_cell? _ _ (hHeld.2.2.1))).trans (hHeld.2.2.1)
             have HS3_ := (hb.cell (World.block_lt_of_cell? _ _ (hHeld.2.2.2.1))).trans (hHeld.2.2.2.1)
             have HS4_ := (hb.cell (World.block_lt_of_cell? _ _ (hHeld.2.2.2.2.1))).trans (hHeld.2.2.2.2.1)
             have HS5_ := (hb.cell (World.block_lt_of_cell? _ _ (hHeld.2.2.2.2.2.1))).trans (hHeld.2.2.2.2.2.1)
             have HS6_ := (hb.cell (World.block_lt_of_cell? _ _ (hHeld.2.2.2.2.2.2.1))).trans (hHeld.2.2.2.2.2.2.1)
             have HS7_ := (hb.cell (World.block_lt_of_cell? _ _ (hHeld.2.2.2.2.2.2.2.1))).trans (hHeld.2.2.2.2.2.2.2.1)
             have HS8_ := (hb.cell (World.block_lt_of_cell? _ _ (hHeld.2.2.2.2.2.2.2.2.1))).trans (hHeld.2.2.2.2.2.2.2.2.1)
             have HS9_ := (hb.cell (World.block_lt_of_cell? _ _ (hHeld.2.2.2.2.2.2.2.2.2))).trans (hHeld.2.2.2.2.2.2.2.2.2)
             refine ⟨_, rfl, ?_⟩
             have n0_ := Aside0.mk (Kd.R_below (by (with_reducible repeat (first | apply Kd.R_alloc | apply Kd.R_drewN | apply Kd.R_drew)); exact HO_4.out) hb)
             have n1_ := Aside0.mk (Kd.N_below (by (with_reducible repeat (first | apply Kd.N_alloc | apply Kd.N_drewN | apply Kd.N_drew)); exact HO_6.out) hb)
             have n2_ := Aside0.mk (below_step (laws_FnMerge_auHB) hb)
             clear HO_4
             clear HO_6
             clear HB
             have HO_4 := n0_
             have HO_6 := n1_
             have HB := n2_
             clear n0_ n1_ n2_
             (try clear hb)
             (try clear hb2)
             (try clear hk)
             (try clear hi)
             refine hK.out _ _ ⟨HS0_, HS1_, HS2_, HS3_, HS4_, HS5_, HS6_, HS7_, HS8_, HS9_⟩ (fun hHeld => ?_)
             clear hK K
             refine norm_ (a' := ?_) ?_ ?_
             rotate_left
             ·
              show Act.put _ (some 93) _ = _
              simp only [Act.put, List.setIfInBounds_toArray, List.set_cons_zero, List.set_cons_succ, i64_w, i32_w]
              rfl
             refine pure_ (i := 10) (N := some 94) (v := ?_) (a' := ?_) #[true, true, true, true, true, true, true, true, true, true, true] rfl rfl (any_of HT_.out (by kernel_rfl)) (fun _ _ _ h => h) (Or.inl ⟨by rfl, ?_⟩) ?_ ?_
             rotate_left
             ·
              intro w'
              go_simp
              with_reducible rfl
             rotate_left
             ·
              simp only [Act.put, List.setIfInBounds_toArray, List.set_cons_zero, List.set_cons_succ, i64_w, i32_w]
              rfl
             refine done_ (done_of HT_.out (by kernel_rfl)) ?_
             try go_wp2
             go_roundg k2
             case measure => have := HK1.out; have := HK2.out; omega
             case rel => exact ⟨(wrap64 (x11_2 + 1)), (by first | rfl | (simp; done) | (simp [*]; done)), H', ⟨by have := HK1.out; have := HK2.out; omega⟩, ⟨by (with_reducible repeat (first | apply Kd.R_alloc | apply Kd.R_drewN | apply Kd.R_drew)); exact HO_4.out⟩, ⟨by (with_reducible repeat (first | apply Kd.N_alloc | apply Kd.N_drewN | apply Kd.N_drew)); exact HO_6.out⟩, ⟨laws_FnMerge_auHB⟩⟩
            ·
             replace c40 := Bool.eq_false_iff.mpr c40
             subst c40
             have H1 : (none) = some r := by rw [if_neg (show ¬ (false = true) by decide)] at H; exact H
             clear H
             have H := H1
             clear H1
             exact absurd H (by simp)
           ·
            rw [if_neg c38] at H
            exact absurd H (by simp)
          ·
           rw [if_neg c37] at H
           exact absurd H (by simp)
         ·
          rw [if_neg c36] at H
          exact absurd H (by simp)
        ·
         rw [if_neg c34] at H
         have c34b0 : decide (x11_2 < (t300.length : Int)) = false := decide_eq_false c34
         clear c34
         by_cases c43 : x5_1 = (t300.length : Int)
         ·
          rw [if_pos c43] at H
          have c43b0 : (x5_1 == (t300.length : Int)) = true := beq_iff_eq.mpr c43
          have c43b1 : (x5_1 != (t300.length : Int)) = false := bne_eq_false_iff_eq.mpr c43
          clear c43
          replace H := Option.bind_eq_some_iff.mp H
          obtain ⟨t322, A440, H⟩ := H
          replace H : ((laws_wpEnts.f k2 t322 t300).bind fun t325 => (if t325 = true then ((impl_MergeAll.f k2 (([t300] : List (List (S48))))).bind fun t329 => ((laws_wpEnts.f k2 t329 t300).bind fun t332 => (some t332))) else (none))) = some r := H
          have A44 := Aside0.mk A440
          clear A440
          replace H := Option.bind_eq_some_iff.mp H
          obtain ⟨t325, A450, H⟩ := H
          replace H : (if t325 = true then ((impl_MergeAll.f k2 (([t300] : List (List (S48))))).bind fun t329 => ((laws_wpEnts.f k2 t329 t300).bind fun t332 => (some t332))) else (none)) = some r := H
          have A45 := Aside0.mk A450
          clear A450
          by_cases c46 : t325 = true
          ·
           subst c46
           have H1 : ((impl_MergeAll.f k2 (([t300] : List (List (S48))))).bind fun t329 => ((laws_wpEnts.f k2 t329 t300).bind fun t332 => (some t332))) = some r := by rw [if_pos rfl] at H; exact H
           clear H
           have H := H1
           clear H1
           obtain ⟨y326, hy326⟩ : ∃ y_ : List (List (S48)), y_ = (([t300] : List (List (S48)))) := ⟨_, rfl⟩
           replace H : ((impl_MergeAll.f k2 y326).bind fun t329 => ((laws_wpEnts.f k2 t329 t300).bind fun t332 => (some t332))) = some r := by first | (rw [hy326]; with_reducible exact H) | (have H2_ := (Option.bind_some _ _).symm.trans H; rw [hy326]; with_reducible exact H2_) | (have H2_ := (Option.bind_some _ _).symm.trans H; with_reducible exact H2_) | with_reducible exact H | (rw [hy326]; exact H) | exact H
           have Ny326 := Aside0.mk hy326
           clear hy326
           replace H := Option.bind_eq_some_iff.mp H
           obtain ⟨t329, A470, H⟩ := H
           replace H : ((laws_wpEnts.f k2 t329 t300).bind fun t332 => (some t332)) = some r := H
           have A47 := Aside0.mk A470
           clear A470
           replace H := Option.bind_eq_some_iff.mp H
           obtain ⟨t332, A480, H⟩ := H
           replace H : (some t332) = some r := H
           have A48 := Aside0.mk A480
           clear A480
           obtain rfl := Option.some.inj H
           obtain ⟨Ao49, co49, eo49⟩ := Kd.N_slice HO_6.out
           subst eo49
           go_wp2_with (first | (go_at_call 25; (with_reducible refine (impl_MergeAll.calls k2 _ _ x6_1 t322 _ ?side1 ?side2 A44.out).mono ?_); (case side1 => repeat (first | exact (Kd.N_reads' HO_6.out).2.2 | (with_reducible refine Kd.C_alloc ?_ _) | (with_reducible refine Kd.C_drewN ?_ _) | (with_reducible refine Kd.C_drew ?_))); (case side2 => exact (Kd.N_reads' HO_6.out).2.1); rintro e w50 ⟨v323, rfl, ho0, hb⟩; have n0_ := Aside0.mk (Kd.R_elder' (by (with_reducible repeat (first | apply Kd.R_alloc | apply Kd.R_drewN | apply Kd.R_drew)); exact HO_4.out) (Kd.R_base ho0) hb); have n1_ := Aside0.mk (Kd.N_elder' (by (with_reducible repeat (first | apply Kd.N_alloc | apply Kd.N_drewN | apply Kd.N_drew)); exact HO_6.out) (Kd.R_base ho0) hb); have n2_ := Aside0.mk (Kd.R_lower (Kd.R_new' ho0 (Kd.R_lt (by (with_reducible repeat (first | apply Kd.R_alloc | apply Kd.R_drewN | apply Kd.R_drew)); exact HO_4.out))) (below_size (laws_FnMerge_auHB))); have n3_ := Aside0.mk (below_step (laws_FnMerge_auHB) hb); clear HO_4; clear HO_6; clear HB; have HO_4 := n0_; have HO_6 := n1_; have HO324 := n2_; have HB := n3_; clear n0_ n1_ n2_ n3_; (try clear hb); (try clear hb2); (try clear hk); (try clear hi); (try clear ho0); obtain ⟨Ao51, co51, eo51⟩ := Kd.R_slice HO324.out; subst eo51) | (go_at_call 26; (with_reducible refine (laws_wpEnts.calls k2 _ _ t322 _ _ t300 true _ ?side1 ?side2 ?side3 ?side4 A45.out).mono ?_); (case side1 => repeat (first | exact (Kd.R_reads' HO324.out).2.2 | (with_reducible refine Kd.C_alloc ?_ _) | (with_reducible refine Kd.C_drewN ?_ _) | (with_reducible refine Kd.C_drew ?_))); (case side2 => exact (Kd.R_reads' HO324.out).2.1); (case side3 => repeat (first | exact (Kd.R_reads' HO_4.out).2.2 | (with_reducible refine Kd.C_alloc ?_ _) | (with_reducible refine Kd.C_drewN ?_ _) | (with_reducible refine Kd.C_drew ?_))); (case side4 => exact (Kd.R_reads' HO_4.out).2.1); rintro e w' ⟨rfl, ⟨nd, rfl⟩⟩) | ((with_reducible refine gate_dst (N := 107) rfl ?_); (try (refine gate_guard (by rfl) ?_; dsimp only)); refine Kd.N_lit (Kd.slice 48 k48) _ 25 ?hg (N' := 107) ?hd (xs := ([t300] : List (List (S48)))) (inner := [.slice Ao12 t300.length co12]) (ok := (fun k_ => some k_ ≠ (.slice Ao49 x6_1.length co49 : Value).ownBlock ∧ some k_ ≠ (.slice Ao51 t322.length co51 : Value).ownBlock)) (okp := (fun k_ => some k_ ≠ (.slice Ao49 x6_1.length co49 : Value).ownBlock ∧ some k_ ≠ (.slice Ao51 t322.length co51 : Value).ownBlock)) ?hr ?hp (fun _ hk => hk) ((show ∀ k_, w50.heap.size ≤ k_ → (fun k_ => some k_ ≠ (.slice Ao49 x6_1.length co49 : Value).ownBlock ∧ some k_ ≠ (.slice Ao51 t322.length co51 : Value).ownBlock) k_ from fun k_ hk => ⟨Kd.fresh' (Kd.N_lt (by (with_reducible repeat (first | apply Kd.N_alloc | apply Kd.N_drewN | apply Kd.N_drew)); exact HO_6.out)) k_ hk, Kd.fresh' (Kd.R_lt (by (with_reducible repeat (first | apply Kd.R_alloc | apply Kd.R_drewN | apply Kd.R_drew)); exact HO324.out)) k_ hk⟩) _ (Nat.le_refl _)) (Below.refl _ _) (Nat.le_refl _) (by simp) ?_; (case hd => rfl); (case hg => rfl); (case hr => first | (go_simp; done) | (go_simp; rfl)); (case hp => exact (Reps.one (show Kd.FK (Kd.slice 48 k48) _ _ t300 [.slice Ao12 t300.length co12] from (Kd.FK_slice_mk (Kd.R_reads' (Kd.R_mono (ok' := (fun k_ => some k_ ≠ (.slice Ao49 x6_1.length co49 : Value).ownBlock ∧ some k_ ≠ (.slice Ao51 t322.length co51 : Value).ownBlock)) (Kd.R_apart' (HO_4.out) (Kd.N_typed HO_6.out) (by decide)) (fun k_ hk => ⟨hk.2, hk.1.2⟩))).2.1 (Kd.R_F (Kd.R_mono (ok' := (fun k_ => some k_ ≠ (.slice Ao49 x6_1.length co49 : Value).ownBlock ∧ some k_ ≠ (.slice Ao51 t322.length co51 : Value).ownBlock)) (Kd.R_apart' (HO_4.out) (Kd.N_typed HO_6.out) (by decide)) (fun k_ hk => ⟨hk.2, hk.1.2⟩))))) (Reps.none _ _))); intro v327 w52 ho53 hb hg_ hnew_; clear hg_ hnew_; (first | rw [← Ny326.out] at ho53 | (simp only [Int.reduceToNat] at ho53; rw [← Ny326.out] at ho53)); have n0_ := Aside0.mk (Kd.N_elder' (by (with_reducible repeat (first | apply Kd.N_alloc | apply Kd.N_drewN | apply Kd.N_drew)); exact HO_6.out) (Kd.N_base ho53) hb); have n1_ := Aside0.mk (Kd.R_below (by (with_reducible repeat (first | apply Kd.R_alloc | apply Kd.R_drewN | apply Kd.R_drew)); exact HO324.out) hb); have n2_ := Aside0.mk (Kd.N_lower ho53 (below_size (laws_FnMerge_auHB))); have n3_ := Aside0.mk (below_step (laws_FnMerge_auHB) hb); have HC4 := Aside0.mk (Kd.C_below (by (with_reducible repeat (first | refine Kd.C_alloc ?_ _ | refine Kd.C_drewN ?_ _ | refine Kd.C_drew ?_)); exact (Kd.R_reads' HO_4.out).2.2) hb); have HL4 := Aside0.mk (Kd.R_reads' HO_4.out).2.1; clear HO_6; clear HO324; clear HB; clear HO_4; have HO_6 := n0_; have HO324 := n1_; have HO328 := n2_; have HB := n3_; clear n0_ n1_ n2_ n3_; clear hb ho53; obtain ⟨Ao54, co54, eo54⟩ := Kd.N_slice HO328.out; subst eo54) | (go_at_call 25; (with_reducible refine (impl_MergeAll.calls k2 _ _ y326 t329 _ ?side1 ?side2 A47.out).mono ?_); (case side1 => repeat (first | exact (Kd.N_reads' HO328.out).2.2 | (with_reducible refine Kd.C_alloc ?_ _) | (with_reducible refine Kd.C_drewN ?_ _) | (with_reducible refine Kd.C_drew ?_))); (case side2 => exact (Kd.N_reads' HO328.out).2.1); rintro e w55 ⟨v330, rfl, ho0, hb⟩; have n0_ := Aside0.mk (Kd.N_elder' (by (with_reducible repeat (first | apply Kd.N_alloc | apply Kd.N_drewN | apply Kd.N_drew)); exact HO_6.out) (Kd.R_base ho0) hb); have n1_ := Aside0.mk (Kd.R_elder' (by (with_reducible repeat (first | apply Kd.R_alloc | apply Kd.R_drewN | apply Kd.R_drew)); exact HO324.out) (Kd.R_base ho0) hb); have n2_ := Aside0.mk (Kd.N_elder' (by (with_reducible repeat (first | apply Kd.N_alloc | apply Kd.N_drewN | apply Kd.N_drew)); exact HO328.out) (Kd.R_base ho0) hb); have n3_ := Aside0.mk (Kd.R_lower (Kd.R_new' ho0 (Kd.R_lt (by (with_reducible repeat (first | apply Kd.R_alloc | apply Kd.R_drewN | apply Kd.R_drew)); exact HO324.out))) (below_size (laws_FnMerge_auHB))); have n4_ := Aside0.mk (below_step (laws_FnMerge_auHB) hb); have HC5 := Aside0.mk (Kd.C_below (by (with_reducible repeat (first | refine Kd.C_alloc ?_ _ | refine Kd.C_drewN ?_ _ | refine Kd.C_drew ?_)); exact HC4.out) hb); clear HO_6; clear HO324; clear HO328; clear HB; have HO_6 := n0_; have HO324 := n1_; have HO328 := n2_; have HO331 := n3_; have HB := n4_; clear n0_ n1_ n2_ n3_ n4_; (try clear hb); (try clear hb2); (try clear hk); (try clear hi); (try clear ho0); obtain ⟨Ao56, co56, eo56⟩ := Kd.R_slice HO331.out; subst eo56) | (go_at_call 26; (with_reducible refine (laws_wpEnts.calls k2 _ _ t329 _ _ t300 t332 _ ?side1 ?side2 ?side3 ?side4 A48.out).mono ?_); (case side1 => repeat (first | exact (Kd.R_reads' HO331.out).2.2 | (with_reducible refine Kd.C_alloc ?_ _) | (with_reducible refine Kd.C_drewN ?_ _) | (with_reducible refine Kd.C_drew ?_))); (case side2 => exact (Kd.R_reads' HO331.out).2.1); (case side3 => repeat (first | exact HC5.out | (with_reducible refine Kd.C_alloc ?_ _) | (with_reducible refine Kd.C_drewN ?_ _) | (with_reducible refine Kd.C_drew ?_))); (case side4 => exact HL4.out); rintro e w' ⟨rfl, ⟨nd, rfl⟩⟩))
           go_ret
           exact ⟨by first | rfl | (simp [errW_none, errW_some] <;> rfl) | (simp [*, errW_none, errW_some] <;> rfl), laws_FnMerge_auHB⟩
          ·
           replace c46 := Bool.eq_false_iff.mpr c46
           subst c46
           have H1 : (none) = some r := by rw [if_neg (show ¬ (false = true) by decide)] at H; exact H
           clear H
           have H := H1
           clear H1
           exact absurd H (by simp)
         ·
          rw [if_neg c43] at H
          exact absurd H (by simp)
  ·
   replace c7 := Bool.eq_false_iff.mpr c7
   subst c7
   have H1 : (none) = some r := by rw [if_neg (show ¬ (false = true) by decide)] at H; exact H
   clear H
   have H := H1
   clear H1
   exact absurd H (by simp)

/-- THE ONE PURE STATEMENT of laws_FnMerge: yours. -/
def laws_FnMerge.Pure : Prop := ∀ (l0 : List Int), l0.length ≤ maxLen → l0.length * 1 ≤ 140737488351232 → (∀ x ∈ l0, (Lit.int .u8 x).wf = true) → ∃ k, laws_FnMerge.f k l0 = some true
theorem laws_FnMerge.walk (P : laws_FnMerge.Pure) (a0 : Option Addr) (len0 cap0 : Nat) (z0 : List Int) (w : World) (w0 : (a0 = none ∧ len0 = 0 ∧ cap0 = 0 ∧ z0 = []) ∨ ∃ x, a0 = some x ∧ len0 ≤ cap0 ∧ cap0 ≤ maxLen ∧ z0.length = cap0 ∧ (∀ i, i < z0.length → w.cell? (x.add i) = some (.int .u8 (z0.getD i 0))) ∧ ∀ n ∈ z0, (Lit.int .u8 n).wf = true) (y0 : len0 * 1 ≤ 140737488351232) :
  Calls Try.prog 5 #[.slice a0 len0 cap0] w fun e w' => e = .returned (.bool true) ∧ Below w.heap.size w w' := by
 obtain ⟨l0, rfl, hr0, hm0, hw0, hc0⟩ := ReadsInt.ofRowC w0
 obtain ⟨k, h⟩ := P l0 hm0 y0 hw0
 refine (laws_FnMerge.calls k _ _ l0 true w (Kd.C_of_reads (d := (0 : Int)) (h1 := fun _ => rfl) hr0) hc0 h).mono ?_
 rintro e w' ⟨rfl, hd⟩
 exact ⟨rfl, hd⟩


end Go.Proofs.Ytcfebbhiehaocaa.QFnMerge

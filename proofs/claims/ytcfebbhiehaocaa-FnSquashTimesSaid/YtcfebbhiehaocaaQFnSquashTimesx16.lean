/- What the law FnSquashTimes reaches, function by function: what each computes, and that the machine's call comes to it. Laid by a program. -/
import Derived.Test.YtcfebbhiehaocaaQFnSquashTimesx0
import Derived.Test.YtcfebbhiehaocaaQFnSquashTimesx6
import Derived.Test.YtcfebbhiehaocaaQFnSquashTimesx12
import Derived.Test.YtcfebbhiehaocaaQFnSquashTimesx15
namespace Go.Proofs.Ytcfebbhiehaocaa.QFnSquashTimes
open Go.RowKit Go.Proofs.YtcfebbhiehaocaaW.PrintWords Go.Proofs.YtcfebbhiehaocaaW.PrintLast Go.Proofs.YtcfebbhiehaocaaW.PrintMore
attribute [local go_sem] max2_int min2_int max_two min_two max_three min_three max_four min_four   -- for this text's walks alone
set_option linter.unusedVariables false
set_option linter.unusedSimpArgs false

/-! ### laws_FnSquashTimes: function 6 -/
theorem f6_own_ {k : Nat} {A : Option Addr} {n c m d : Nat} (h : some k ≠ (Value.slice A n c).ownBlock) : some k ≠ (Value.slice A m d).ownBlock := by cases A <;> exact h
def laws_FnSquashTimes.l0 : Nat → List (S48) → List Int → Bool → List (S48) → List Int → Int → Option (Bool)
  | 0, _, _, _, _, _, _ => none
  | k + 1, x3, x4, x5, x6, x7, x8 => if x8 ≥ 0 then (if 0 ≤ x8 then (if x8 < (x4.length : Int) then ((some (([rd x4 x8, rd x4 x8] : List Int) : List Int)).bind fun y469 => (if x7.length + y469.length < 17592186044416 then (laws_FnSquashTimes.l0 k x3 x4 x5 x6 (x7 ++ y469) (wrap64 (x8 - 1))) else (none))) else (none)) else (none)) else (if x7.length < 17592186044416 then ((impl_Squash.f k x3 (x7 ++ [100007]) x5).bind fun t478 => ((laws_wpEnts.f k t478 x6).bind fun t481 => (some t481))) else (none))
def laws_FnSquashTimes.f (k : Nat) (l0 : List Int) : Option (Bool) := if (l0.length : Int) > 1048576 then (some true) else ((spec_DrawSquash.f k l0).bind fun bt450 => ((impl_Squash.f k bt450.1 bt450.2.1 bt450.2.2).bind fun t457 => ((spec_Squash.f k bt450.1 bt450.2.1 bt450.2.2).bind fun t460 => ((laws_wpEnts.f k t457 t460).bind fun t463 => (if t463 = true then (laws_FnSquashTimes.l0 k bt450.1 bt450.2.1 bt450.2.2 t457 (([0, (-5)] : List Int)) (wrap64 ((bt450.2.1.length : Int) - 1))) else (none))))))
theorem laws_FnSquashTimes.mono_l : ∀ k, (∀ y0 y1 y2 y3 y4 y5, LeO (laws_FnSquashTimes.l0 k y0 y1 y2 y3 y4 y5) (laws_FnSquashTimes.l0 (k + 1) y0 y1 y2 y3 y4 y5))
  | 0 => fun _ _ _ _ _ _ r h => by simp [laws_FnSquashTimes.l0] at h
  | k + 1 => by
    have ih0 := laws_FnSquashTimes.mono_l k
    · intro y0 y1 y2 y3 y4 y5
      unfold laws_FnSquashTimes.l0
      repeat' first
      | (with_reducible exact ih0 _ _ _ _ _ _)
      | (with_reducible exact impl_Squash.mono _ _ _ _)
      | (with_reducible exact laws_wpEnts.mono _ _ _)
      | (with_reducible exact spec_DrawSquash.mono _ _)
      | (with_reducible exact spec_Squash.mono _ _ _ _)
      | (with_reducible exact LeO.refl _)
      | (with_reducible exact LeO.none _)
      | (with_reducible refine LeO.ite ?_ ?_)
      | (with_reducible refine LeO.bind ?_ (fun _ => ?_))
      | exact ih0 _ _ _ _ _ _
      | exact impl_Squash.mono _ _ _ _
      | exact laws_wpEnts.mono _ _ _
      | exact spec_DrawSquash.mono _ _
      | exact spec_Squash.mono _ _ _ _
      | exact LeO.none _
      | refine LeO.ite ?_ ?_
      | refine LeO.bind ?_ (fun _ => ?_)
theorem laws_FnSquashTimes.mono : ∀ a0 k, LeO (laws_FnSquashTimes.f k a0) (laws_FnSquashTimes.f (k + 1) a0) := by
  intro a0 k
  have ih0 := laws_FnSquashTimes.mono_l k
  unfold laws_FnSquashTimes.f
  repeat' first
      | (with_reducible exact ih0 _ _ _ _ _ _)
      | (with_reducible exact impl_Squash.mono _ _ _ _)
      | (with_reducible exact laws_wpEnts.mono _ _ _)
      | (with_reducible exact spec_DrawSquash.mono _ _)
      | (with_reducible exact spec_Squash.mono _ _ _ _)
      | (with_reducible exact LeO.refl _)
      | (with_reducible exact LeO.none _)
      | (with_reducible refine LeO.ite ?_ ?_)
      | (with_reducible refine LeO.bind ?_ (fun _ => ?_))
      | exact ih0 _ _ _ _ _ _
      | exact impl_Squash.mono _ _ _ _
      | exact laws_wpEnts.mono _ _ _
      | exact spec_DrawSquash.mono _ _
      | exact spec_Squash.mono _ _ _ _
      | exact LeO.none _
      | refine LeO.ite ?_ ?_
      | refine LeO.bind ?_ (fun _ => ?_)
def laws_FnSquashTimes.T11 : Bool × List (List Nat × List Nat) := (true, [([], []), ([], []), ([], []), ([1, 2], [1, 2]), ([3], [3]), ([], []), ([], []), ([5, 6], [5, 6]), ([7], [7]), ([4, 8], [4, 8]), ([0, 9], [0, 9]), ([10, 10, 0, 1, 2, 3, 4, 5, 6, 7, 8, 9, 10], [0, 10])])
def laws_FnSquashTimes.B11 : List Nat := [0, 0, 0, 6, 14, 0, 0, 96, 224, 510, 1023, 2047]
theorem laws_FnSquashTimes.tab11 : rtab .any (opsOf Try.f6 11) = laws_FnSquashTimes.T11 := by kernel_rfl
theorem laws_FnSquashTimes.bits11 : waitsOk laws_FnSquashTimes.T11.2 laws_FnSquashTimes.B11 = true := by kernel_rfl
theorem laws_FnSquashTimes_auHB {q : Prop} (h : q := by (repeat (first | (with_reducible first | exact HB.out | apply below_alloc | apply pw_below_drewN | apply below_drew1) | exact HB.out))) : q := h
set_option maxHeartbeats 8000000 in
set_option maxRecDepth 100000 in
theorem laws_FnSquashTimes.calls (k : Nat) (A0 : Option Addr) (c0 : Nat) (l0 : List Int) (r : Bool) (w : World) (hr0 : Kd.C (Kd.int .u8) w A0 l0.length l0) (hc0 : l0.length ≤ c0) (h : laws_FnSquashTimes.f k l0 = some r) :
  Calls Try.prog 6 #[.slice A0 l0.length c0] w fun e w' => e = .returned (.bool r) ∧ Below w.heap.size w w' := by
 have HR0 := Aside0.mk hr0
 have HC0 := Aside0.mk hc0
 clear hr0 hc0
 have HB := Aside0.mk (Below.refl w.heap.size w)
 have H : (if (l0.length : Int) > 1048576 then (some true) else ((spec_DrawSquash.f k l0).bind fun bt450 => ((impl_Squash.f k bt450.1 bt450.2.1 bt450.2.2).bind fun t457 => ((spec_Squash.f k bt450.1 bt450.2.1 bt450.2.2).bind fun t460 => ((laws_wpEnts.f k t457 t460).bind fun t463 => (if t463 = true then (laws_FnSquashTimes.l0 k bt450.1 bt450.2.1 bt450.2.2 t457 (([0, (-5)] : List Int)) (wrap64 ((bt450.2.1.length : Int) - 1))) else (none))))))) = some r := h
 clear h
 by_cases c2 : (l0.length : Int) > 1048576
 ·
  rw [if_pos c2] at H
  have c2b0 : decide (1048576 < (l0.length : Int)) = true := decide_eq_true c2
  have c2b1 : decide (1048576 < l0.length) = true := decide_eq_true (by omega)
  clear c2
  obtain rfl := Option.some.inj H
  go_enter Try.func6, Try.ntmps6
  go_wp2
  go_ret
  exact ⟨by first | rfl | (simp [errW_none, errW_some] <;> rfl) | (simp [*, errW_none, errW_some] <;> rfl), laws_FnSquashTimes_auHB⟩
 ·
  rw [if_neg c2] at H
  have c2b0 : decide (1048576 < (l0.length : Int)) = false := decide_eq_false c2
  have c2b1 : decide (1048576 < l0.length) = false := decide_eq_false (by omega)
  clear c2
  replace H := Option.bind_eq_some_iff.mp H
  obtain ⟨⟨t450, t451, t452⟩, A30, H⟩ := H
  replace H : ((impl_Squash.f k t450 t451 t452).bind fun t457 => ((spec_Squash.f k t450 t451 t452).bind fun t460 => ((laws_wpEnts.f k t457 t460).bind fun t463 => (if t463 = true then (laws_FnSquashTimes.l0 k t450 t451 t452 t457 (([0, (-5)] : List Int)) (wrap64 ((t451.length : Int) - 1))) else (none))))) = some r := H
  have A3 := Aside0.mk A30
  clear A30
  replace H := Option.bind_eq_some_iff.mp H
  obtain ⟨t457, A40, H⟩ := H
  replace H : ((spec_Squash.f k t450 t451 t452).bind fun t460 => ((laws_wpEnts.f k t457 t460).bind fun t463 => (if t463 = true then (laws_FnSquashTimes.l0 k t450 t451 t452 t457 (([0, (-5)] : List Int)) (wrap64 ((t451.length : Int) - 1))) else (none)))) = some r := H
  have A4 := Aside0.mk A40
  clear A40
  replace H := Option.bind_eq_some_iff.mp H
  obtain ⟨t460, A50, H⟩ := H
  replace H : ((laws_wpEnts.f k t457 t460).bind fun t463 => (if t463 = true then (laws_FnSquashTimes.l0 k t450 t451 t452 t457 (([0, (-5)] : List Int)) (wrap64 ((t451.length : Int) - 1))) else (none))) = some r := H
  have A5 := Aside0.mk A50
  clear A50
  replace H := Option.bind_eq_some_iff.mp H
  obtain ⟨t463, A60, H⟩ := H
  replace H : (if t463 = true then (laws_FnSquashTimes.l0 k t450 t451 t452 t457 (([0, (-5)] : List Int)) (wrap64 ((t451.length : Int) - 1))) else (none)) = some r := H
  have A6 := Aside0.mk A60
  clear A60
  by_cases c7 : t463 = true
  ·
   subst c7
   have H1 : (laws_FnSquashTimes.l0 k t450 t451 t452 t457 (([0, (-5)] : List Int)) (wrap64 ((t451.length : Int) - 1))) = some r := by rw [if_pos rfl] at H; exact H
   clear H
   have H := H1
   clear H1
   obtain ⟨y464, hy464⟩ : ∃ y_ : List Int, y_ = (([0, (-5)] : List Int)) := ⟨_, rfl⟩
   replace H : (laws_FnSquashTimes.l0 k t450 t451 t452 t457 y464 (wrap64 ((t451.length : Int) - 1))) = some r := by first | (rw [hy464]; with_reducible exact H) | (have H2_ := (Option.bind_some _ _).symm.trans H; rw [hy464]; with_reducible exact H2_) | (have H2_ := (Option.bind_some _ _).symm.trans H; with_reducible exact H2_) | with_reducible exact H | (rw [hy464]; exact H) | exact H
   have Ny464 := Aside0.mk hy464
   clear hy464
   have H' := Aside0.mk H
   clear H
   go_enter Try.func6, Try.ntmps6
   go_wp2_with (first | ((with_reducible refine gate_callee (f := 29) rfl ?_); refine goesL_ (some 14) rfl rfl Try.func29 (by kernel_rfl) rfl #[.slice A0 l0.length c0] rfl (by (try simp only [List.map_toArray, List.map_cons, List.map_nil]); first | done | rfl | (simp only [List.length_drop, List.length_take]; rfl)) ?_; (with_reducible refine (spec_DrawSquash.calls k _ _ l0 t450 t451 t452 _ ?side1 ?side2 A3.out).mono ?_); (case side1 => repeat (first | exact HR0.out | (with_reducible refine Kd.C_alloc ?_ _) | (with_reducible refine Kd.C_drewN ?_ _) | (with_reducible refine Kd.C_drew ?_))); (case side2 => exact HC0.out); rintro e w8 ⟨v453, v455, rfl, ho0, ho1, hb⟩; refine ⟨_, rfl, ?_⟩; have HO454 := Aside0.mk (Kd.R_lower ho0 (below_size (laws_FnSquashTimes_auHB))); have HO456 := Aside0.mk (Kd.R_lower ho1 (below_size (laws_FnSquashTimes_auHB))); replace HB := Aside0.mk (below_step (laws_FnSquashTimes_auHB) hb); (try clear hb); (try clear hb2); (try clear hk); (try clear hi); (try clear ho0); (try clear ho1); obtain ⟨Ao9, co9, eo9⟩ := Kd.R_slice HO454.out; subst eo9; obtain ⟨Ao10, co10, eo10⟩ := Kd.R_slice HO456.out; subst eo10) | ((with_reducible refine gate_callee (f := 13) rfl ?_); refine goesL_ (some 21) rfl rfl Try.func13 (by kernel_rfl) rfl #[.slice Ao9 t450.length co9, .slice Ao10 t451.length co10, .bool t452] rfl (by (try simp only [List.map_toArray, List.map_cons, List.map_nil]); first | done | rfl | (simp only [List.length_drop, List.length_take]; rfl)) ?_; (with_reducible refine (impl_Squash.calls k _ _ t450 _ _ t451 t452 t457 _ ?side1 ?side2 ?side3 ?side4 A4.out).mono ?_); (case side1 => repeat (first | exact (Kd.R_reads' HO454.out).2.2 | (with_reducible refine Kd.C_alloc ?_ _) | (with_reducible refine Kd.C_drewN ?_ _) | (with_reducible refine Kd.C_drew ?_))); (case side2 => exact (Kd.R_reads' HO454.out).2.1); (case side3 => repeat (first | exact (Kd.R_reads' HO456.out).2.2 | (with_reducible refine Kd.C_alloc ?_ _) | (with_reducible refine Kd.C_drewN ?_ _) | (with_reducible refine Kd.C_drew ?_))); (case side4 => exact (Kd.R_reads' HO456.out).2.1); rintro e w11 ⟨v458, rfl, ho0, hb⟩; refine ⟨_, rfl, ?_⟩; replace HO456 := Aside0.mk (Kd.R_below (by (with_reducible repeat (first | apply Kd.R_alloc | apply Kd.R_drewN | apply Kd.R_drew)); exact HO456.out) hb); have HO459 := Aside0.mk (Kd.R_lower (Kd.R_new' ho0 (Kd.R_lt (by (with_reducible repeat (first | apply Kd.R_alloc | apply Kd.R_drewN | apply Kd.R_drew)); exact HO454.out))) (below_size (laws_FnSquashTimes_auHB))); replace HO454 := Aside0.mk (Kd.R_elder' (by (with_reducible repeat (first | apply Kd.R_alloc | apply Kd.R_drewN | apply Kd.R_drew)); exact HO454.out) (Kd.R_base ho0) hb); replace HB := Aside0.mk (below_step (laws_FnSquashTimes_auHB) hb); (try clear hb); (try clear hb2); (try clear hk); (try clear hi); (try clear ho0)) | ((with_reducible refine gate_callee (f := 10) rfl ?_); refine goesL_ (some 26) rfl rfl Try.func10 (by kernel_rfl) rfl #[.slice Ao9 t450.length co9, .slice Ao10 t451.length co10, .bool t452] rfl (by (try simp only [List.map_toArray, List.map_cons, List.map_nil]); first | done | rfl | (simp only [List.length_drop, List.length_take]; rfl)) ?_; (with_reducible refine (spec_Squash.calls k _ _ t450 _ _ t451 t452 t460 _ ?side1 ?side2 ?side3 ?side4 A5.out).mono ?_); (case side1 => repeat (first | exact (Kd.R_reads' HO454.out).2.2 | (with_reducible refine Kd.C_alloc ?_ _) | (with_reducible refine Kd.C_drewN ?_ _) | (with_reducible refine Kd.C_drew ?_))); (case side2 => exact (Kd.R_reads' HO454.out).2.1); (case side3 => repeat (first | exact (Kd.R_reads' HO456.out).2.2 | (with_reducible refine Kd.C_alloc ?_ _) | (with_reducible refine Kd.C_drewN ?_ _) | (with_reducible refine Kd.C_drew ?_))); (case side4 => exact (Kd.R_reads' HO456.out).2.1); rintro e w12 ⟨v461, rfl, ho0, hb⟩; refine ⟨_, rfl, ?_⟩; replace HO456 := Aside0.mk (Kd.R_below (by (with_reducible repeat (first | apply Kd.R_alloc | apply Kd.R_drewN | apply Kd.R_drew)); exact HO456.out) hb); have HO462 := Aside0.mk (Kd.R_lower (Kd.R_new' (Kd.R_new' ho0 (Kd.R_lt (by (with_reducible repeat (first | apply Kd.R_alloc | apply Kd.R_drewN | apply Kd.R_drew)); exact HO454.out))) (Kd.R_lt (by (with_reducible repeat (first | apply Kd.R_alloc | apply Kd.R_drewN | apply Kd.R_drew)); exact HO459.out))) (below_size (laws_FnSquashTimes_auHB))); replace HO454 := Aside0.mk (Kd.R_elder' (by (with_reducible repeat (first | apply Kd.R_alloc | apply Kd.R_drewN | apply Kd.R_drew)); exact HO454.out) (Kd.R_base ho0) hb); replace HO459 := Aside0.mk (Kd.R_elder' (by (with_reducible repeat (first | apply Kd.R_alloc | apply Kd.R_drewN | apply Kd.R_drew)); exact HO459.out) (Kd.R_base ho0) hb); replace HB := Aside0.mk (below_step (laws_FnSquashTimes_auHB) hb); (try clear hb); (try clear hb2); (try clear hk); (try clear hi); (try clear ho0); obtain ⟨Ao13, co13, eo13⟩ := Kd.R_slice HO459.out; subst eo13; obtain ⟨Ao14, co14, eo14⟩ := Kd.R_slice HO462.out; subst eo14) | ((with_reducible refine gate_callee (f := 26) rfl ?_); refine goesL_ (some 27) rfl rfl Try.func26 (by kernel_rfl) rfl #[.slice Ao13 t457.length co13, .slice Ao14 t460.length co14] rfl (by (try simp only [List.map_toArray, List.map_cons, List.map_nil]); first | done | rfl | (simp only [List.length_drop, List.length_take]; rfl)) ?_; (with_reducible refine (laws_wpEnts.calls k _ _ t457 _ _ t460 true _ ?side1 ?side2 ?side3 ?side4 A6.out).mono ?_); (case side1 => repeat (first | exact (Kd.R_reads' HO459.out).2.2 | (with_reducible refine Kd.C_alloc ?_ _) | (with_reducible refine Kd.C_drewN ?_ _) | (with_reducible refine Kd.C_drew ?_))); (case side2 => exact (Kd.R_reads' HO459.out).2.1); (case side3 => repeat (first | exact (Kd.R_reads' HO462.out).2.2 | (with_reducible refine Kd.C_alloc ?_ _) | (with_reducible refine Kd.C_drewN ?_ _) | (with_reducible refine Kd.C_drew ?_))); (case side4 => exact (Kd.R_reads' HO462.out).2.1); rintro e w' ⟨rfl, ⟨nd, rfl⟩⟩; refine ⟨_, rfl, ?_⟩) | ((with_reducible refine gate_dst (N := 29) rfl ?_); refine Kd.R_lit (Kd.int .i64) _ 3 ?hg (N := 29) ?hd (xs := ([0, (-5)] : List Int)) (inner := [.int .i64 0, .int .i64 (-5)]) (ok := fun _ => True) (okp := fun _ => True) ?hr ?hp (fun _ hk => hk) trivial (Below.refl _ _) (Nat.le_refl _) (by simp) ?_; (case hd => rfl); (case hg => rfl); (case hr => first | (go_simp; done) | (go_simp; rfl)); (case hp => exact (Reps.one (show Kd.M (Kd.int .i64) _ _ _ 0 [.int .i64 0] from rfl) (Reps.one (show Kd.M (Kd.int .i64) _ _ _ (-5) [.int .i64 (-5)] from rfl) (Reps.none _ _)))); intro v465 w15 ho16 hb hg_ hnew_; clear hg_ hnew_; (first | rw [← Ny464.out] at ho16 | (simp only [Int.reduceToNat] at ho16; rw [← Ny464.out] at ho16)); replace HO454 := Aside0.mk (Kd.R_below (by (with_reducible repeat (first | apply Kd.R_alloc | apply Kd.R_drewN | apply Kd.R_drew)); exact HO454.out) hb); replace HO459 := Aside0.mk (Kd.R_below (by (with_reducible repeat (first | apply Kd.R_alloc | apply Kd.R_drewN | apply Kd.R_drew)); exact HO459.out) hb); replace HO462 := Aside0.mk (Kd.R_below (by (with_reducible repeat (first | apply Kd.R_alloc | apply Kd.R_drewN | apply Kd.R_drew)); exact HO462.out) hb); have HO466 := Aside0.mk (Kd.R_lower (Kd.R_new' ho16 (Kd.R_lt (by (with_reducible repeat (first | apply Kd.R_alloc | apply Kd.R_drewN | apply Kd.R_drew)); exact HO456.out))) (below_size (laws_FnSquashTimes_auHB))); replace HO456 := Aside0.mk (Kd.R_elder' (by (with_reducible repeat (first | apply Kd.R_alloc | apply Kd.R_drewN | apply Kd.R_drew)); exact HO456.out) (Kd.R_base ho16) hb); replace HB := Aside0.mk (below_step (laws_FnSquashTimes_auHB) hb); clear hb ho16))
   (try simp only [Act.put, List.setIfInBounds_toArray, List.set_cons_zero, List.set_cons_succ])
   go_loopg [7, 8] k (fun kq v7 v8 w' => ∃ (x7_1 : List Int) (x8_1 : Int), v8 = .int .i64 x8_1 ∧ Aside0 (laws_FnSquashTimes.l0 kq t450 t451 t452 t457 x7_1 x8_1 = some r) ∧ Aside0 (kq ≤ k) ∧ Aside0 (Kd.R k48 48 w' w.heap.size (fun k_ => some k_ ≠ ((.slice Ao13 t457.length co13) : Value).ownBlock) (.slice Ao9 t450.length co9) t450) ∧ Aside0 (Kd.R (Kd.int .i64) 3 w' w.heap.size (fun k_ => some k_ ≠ (v7 : Value).ownBlock) (.slice Ao10 t451.length co10) t451) ∧ Aside0 (Kd.R k48 48 w' w.heap.size (fun k_ => some k_ ≠ ((.slice Ao9 t450.length co9) : Value).ownBlock) (.slice Ao13 t457.length co13) t457) ∧ Aside0 (Kd.R (Kd.int .i64) 3 w' w.heap.size (fun k_ => some k_ ≠ ((.slice Ao10 t451.length co10) : Value).ownBlock) v7 x7_1) ∧ Aside0 (Below w.heap.size w w'))
   case atStart => exact ⟨(y464), (wrap64 ((t451.length : Int) - 1)), (by first | rfl | (simp; done) | (simp [*]; done)), H', ⟨Nat.le_refl _⟩, ⟨by (with_reducible repeat (first | apply Kd.R_alloc | apply Kd.R_drewN | apply Kd.R_drew)); exact Kd.R_mono HO454.out (fun _ hk => hk.1.2)⟩, ⟨by (with_reducible repeat (first | apply Kd.R_alloc | apply Kd.R_drewN | apply Kd.R_drew)); exact Kd.R_mono HO456.out (fun _ hk => hk.2)⟩, ⟨by (with_reducible repeat (first | apply Kd.R_alloc | apply Kd.R_drewN | apply Kd.R_drew)); exact Kd.R_mono HO459.out (fun _ hk => hk.1.2)⟩, ⟨by (with_reducible repeat (first | apply Kd.R_alloc | apply Kd.R_drewN | apply Kd.R_drew)); exact Kd.R_mono HO466.out (fun _ hk => hk.2)⟩, ⟨laws_FnSquashTimes_auHB⟩⟩
   case round =>
    clear H'
    try clear c1
    try clear c2
    try clear c2b0
    try clear c2b1
    try clear p2
    try clear c6
    try clear p6
    try clear c7
    try clear c10
    try clear c13
    obtain ⟨x7_1, x8_1, rfl, HA, HK1, HO_3, HO_4, HO_6, HO_7, HB⟩ := hrel
    cases gk with
    | zero => exact absurd HA.out (by simp [laws_FnSquashTimes.l0])
    | succ k1 =>
     have H := HA.out
     clear HA
     simp only [laws_FnSquashTimes.l0] at H
     by_cases c17 : x8_1 ≥ 0
     ·
      rw [if_pos c17] at H
      have c17b0 : decide (0 ≤ x8_1) = true := decide_eq_true c17
      clear c17
      by_cases c18 : 0 ≤ x8_1
      ·
       rw [if_pos c18] at H
       have c18b0 : decide (0 ≤ x8_1) = true := decide_eq_true c18
       clear c18
       by_cases c19 : x8_1 < (t451.length : Int)
       ·
        rw [if_pos c19] at H
        have c19b0 : decide (x8_1 < (t451.length : Int)) = true := decide_eq_true c19
        clear c19
        obtain ⟨y469, hy469⟩ : ∃ y_ : List Int, y_ = (([rd t451 x8_1, rd t451 x8_1] : List Int)) := ⟨_, rfl⟩
        replace H : (if x7_1.length + y469.length < 17592186044416 then (laws_FnSquashTimes.l0 k1 t450 t451 t452 t457 (x7_1 ++ y469) (wrap64 (x8_1 - 1))) else (none)) = some r := by first | (rw [hy469]; with_reducible exact H) | (have H2_ := (Option.bind_some _ _).symm.trans H; rw [hy469]; with_reducible exact H2_) | (have H2_ := (Option.bind_some _ _).symm.trans H; with_reducible exact H2_) | with_reducible exact H | (rw [hy469]; exact H) | exact H
        have Ny469 := Aside0.mk hy469
        clear hy469
        by_cases c20 : x7_1.length + y469.length < 17592186044416
        ·
         rw [if_pos c20] at H
         have LMc20 := Aside0.mk c20
         clear c20
         obtain ⟨y472, hy472⟩ : ∃ y_ : List Int, y_ = (x7_1 ++ y469) := ⟨_, rfl⟩
         replace H : (laws_FnSquashTimes.l0 k1 t450 t451 t452 t457 y472 (wrap64 (x8_1 - 1))) = some r := by first | (rw [hy472]; with_reducible exact H) | (have H2_ := (Option.bind_some _ _).symm.trans H; rw [hy472]; with_reducible exact H2_) | (have H2_ := (Option.bind_some _ _).symm.trans H; with_reducible exact H2_) | with_reducible exact H | (rw [hy472]; exact H) | exact H
         have Ny472 := Aside0.mk hy472
         clear hy472
         have H' := Aside0.mk H
         clear H
         try go_wp2
         replace HO_3 := Aside0.mk (Kd.R_drew HO_3.out)
         replace HO_4 := Aside0.mk (Kd.R_drew HO_4.out)
         replace HO_6 := Aside0.mk (Kd.R_drew HO_6.out)
         replace HO_7 := Aside0.mk (Kd.R_drew HO_7.out)
         replace HB := Aside0.mk (below_drew1 HB.out)
         have p467 : 0 ≤ (x8_1 : Int) := of_decide_eq_true (by first | (with_reducible assumption) | assumption)
         have q467 : x8_1 < (t451.length : Int) := of_decide_eq_true (by first | (with_reducible assumption) | assumption)
         obtain ⟨ad467, e467, hx467_0⟩ := Kd.at_int (Kd.R_reads' HO_4.out).2.2 x8_1 p467 q467
         cases e467
         replace p467 := eq_true p467
         replace q467 := eq_true q467
         have p468 : 0 ≤ (x8_1 : Int) := of_decide_eq_true (by first | (with_reducible assumption) | assumption)
         have q468 : x8_1 < (t451.length : Int) := of_decide_eq_true (by first | (with_reducible assumption) | assumption)
         obtain ⟨ad468, e468, hx468_0⟩ := Kd.at_int (Kd.R_reads' HO_4.out).2.2 x8_1 p468 q468
         obtain rfl : ad467 = ad468 := (by injection e468)
         replace p468 := eq_true p468
         replace q468 := eq_true q468
         refine start_ (n := 12) (S := fun w' => w'.cell? (ad467.add (x8_1).toNat) = some (.int .i64 (rd t451 x8_1)) ∧ w'.cell? (ad467.add (x8_1).toNat) = some (.int .i64 (rd t451 x8_1))) (ds := [10]) #[false, false, false, false, false, false, false, false, false, false, false, false] (by kernel_rfl) rfl rfl ⟨hx467_0, hx468_0⟩ (fun hHeld => ?_); refine with_tabW laws_FnSquashTimes.tab11 laws_FnSquashTimes.bits11 (fun HT_ HW_ => ?_)
         generalize wr.drew = w21 at HO_3 HO_4 HO_6 HO_7 HB hx467_0 hx468_0 hHeld ⊢
         refine pu_ 0 (some 37) HT_ rfl rfl (by go_simp; rfl) (by kernel_rfl) rfl (by intro w'; go_simp; with_reducible rfl) (fun _ _ _ h => h) (by go_simp; rfl) ?_
         refine pu_ 1 (some 38) HT_ rfl rfl (by go_simp; rfl) (by kernel_rfl) rfl (by intro w'; go_simp; with_reducible rfl) (fun _ _ _ h => h) (by go_simp; rfl) ?_
         refine pu_ 2 (some 39) HT_ rfl rfl (by go_simp; rfl) (by kernel_rfl) rfl (by intro w'; go_simp; with_reducible rfl) (fun _ _ _ h => h) (by go_simp; rfl) ?_
         refine pu_ 3 (some 40) HT_ rfl rfl (by go_simp; rfl) (by kernel_rfl) rfl (by intro w'; go_simp; with_reducible rfl) (fun _ _ _ h => h) (by go_simp; rfl) ?_
         refine pu_ 5 (some 42) HT_ rfl rfl (by go_simp; rfl) (by kernel_rfl) rfl (by intro w'; go_simp; with_reducible rfl) (fun _ _ _ h => h) (by go_simp; rfl) ?_
         refine pu_ 6 (some 43) HT_ rfl rfl (by go_simp; rfl) (by kernel_rfl) rfl (by intro w'; go_simp; with_reducible rfl) (fun _ _ _ h => h) (by go_simp; rfl) ?_
         refine pu_ 7 (some 44) HT_ rfl rfl (by go_simp; rfl) (by kernel_rfl) rfl (by intro w'; go_simp; with_reducible rfl) (fun _ _ _ h => h) (by go_simp; rfl) ?_
         refine ta_ 4 (some 41) HT_ HW_ hHeld rfl rfl (by go_simp; rfl) (by kernel_rfl) rfl (by rintro w' ⟨s0, s1⟩; go_simp; with_reducible rfl) (fun _ _ _ h => h) (by go_simp; rfl) ?_
         refine ta_ 8 (some 45) HT_ HW_ hHeld rfl rfl (by go_simp; rfl) (by kernel_rfl) rfl (by rintro w' ⟨s0, s1⟩; go_simp; with_reducible rfl) (fun _ _ _ h => h) (by go_simp; rfl) ?_
         refine one_ (i := 9) (N := some 46) #[true, true, true, true, true, true, true, true, true, true, false, false] rfl rfl (one_of HT_.out (by kernel_rfl)) (by decide) (fun K hK => ?_)
         refine Kd.R_lit_step (Kd.int .i64) _ 3 ?hg (N := 46) ?hd (xs := ([rd t451 x8_1, rd t451 x8_1] : List Int)) (inner := [.int .i64 (rd t451 x8_1), .int .i64 (rd t451 x8_1)]) (ok := fun _ => True) (okp := fun _ => True) ?hr ?hp (fun _ hk => hk) trivial (Below.refl _ _) (Nat.le_refl _) (by simp) ?_; (case hd => rfl); (case hg => rfl); (case hr => first | (go_simp; done) | (go_simp; rfl)); (case hp => exact (Reps.one (show Kd.M (Kd.int .i64) _ _ _ (rd t451 x8_1) [.int .i64 (rd t451 x8_1)] from rfl) (Reps.one (show Kd.M (Kd.int .i64) _ _ _ (rd t451 x8_1) [.int .i64 (rd t451 x8_1)] from rfl) (Reps.none _ _))))
         intro v470 w22 ho23 hb hg_ hnew_
         have HS0_ := (hb.cell (World.block_lt_of_cell? _ _ (hHeld.1))).trans (hHeld.1)
         have HS1_ := (hb.cell (World.block_lt_of_cell? _ _ (hHeld.2))).trans (hHeld.2)
         clear hg_ hnew_
         (first | rw [← Ny469.out] at ho23 | (simp only [Int.reduceToNat] at ho23; rw [← Ny469.out] at ho23))
         replace HO_3 := Aside0.mk (Kd.R_below (by (with_reducible repeat (first | apply Kd.R_alloc | apply Kd.R_drewN | apply Kd.R_drew)); exact HO_3.out) hb)
         replace HO_6 := Aside0.mk (Kd.R_below (by (with_reducible repeat (first | apply Kd.R_alloc | apply Kd.R_drewN | apply Kd.R_drew)); exact HO_6.out) hb)
         have HO471 := Aside0.mk (Kd.R_lower (Kd.R_new' (Kd.R_new' ho23 (Kd.R_lt (by (with_reducible repeat (first | apply Kd.R_alloc | apply Kd.R_drewN | apply Kd.R_drew)); exact HO_4.out))) (Kd.R_lt (by (with_reducible repeat (first | apply Kd.R_alloc | apply Kd.R_drewN | apply Kd.R_drew)); exact HO_7.out))) (below_size (laws_FnSquashTimes_auHB)))
         replace HO_4 := Aside0.mk (Kd.R_elder' (by (with_reducible repeat (first | apply Kd.R_alloc | apply Kd.R_drewN | apply Kd.R_drew)); exact HO_4.out) (Kd.R_base ho23) hb)
         replace HO_7 := Aside0.mk (Kd.R_elder' (by (with_reducible repeat (first | apply Kd.R_alloc | apply Kd.R_drewN | apply Kd.R_drew)); exact HO_7.out) (Kd.R_base ho23) hb)
         replace HB := Aside0.mk (below_step (laws_FnSquashTimes_auHB) hb)
         clear hb ho23
         obtain ⟨Ao25, co25, eo25⟩ := Kd.R_slice HO471.out
         (first | subst eo25 | (injection eo25 with f1_ f2_ f3_; have f4_ := f1_.symm; have f5_ := f3_.symm; clear f1_ f2_ f3_; subst f4_; subst f5_))
         refine hK.out _ _ ⟨HS0_, HS1_⟩ (fun hHeld => ?_)
         clear hK K
         refine norm_ (a' := ?_) ?_ ?_
         rotate_left
         ·
          show Act.put _ (some 46) _ = _
          simp only [Act.put, List.setIfInBounds_toArray, List.set_cons_zero, List.set_cons_succ, i64_w, i32_w]
          rfl
         refine last_ (i := 10) (N := some 47) #[true, true, true, true, true, true, true, true, true, true, true, false] rfl rfl (one_of HT_.out (by kernel_rfl)) (by decide) (fun K hK => ?_)
         refine Kd.R_append_rows_step (Kd.int .i64) (w0 := w) w.heap.size (by rfl) (.tmp 37) (.tmp 46) 23 3 (.int .i64 0) 8 rfl Try.underlying23 info3 rfl (by decide) (by omega) u7 x7_1 y469 _ _ _ (fun k_ => some k_ ≠ (.slice (some ad467) t451.length co10 : Value).ownBlock ∧ some k_ ≠ (.slice Ao25 y469.length co25 : Value).ownBlock) (fun _ => False) rfl rfl ?aO ?aR (fun _ _ h => h) (fun _ h => h.elim) ?aF ?aB ?aS ?aL ?_
         (case aR => repeat (first | exact (Kd.R_reads' HO471.out).2.2 | (with_reducible refine Kd.C_alloc ?_ _) | (with_reducible refine Kd.C_drewN ?_ _) | (with_reducible refine Kd.C_drew ?_)))
         (case aB => exact (laws_FnSquashTimes_auHB))
         (case aF => exact (fun k_ hk => ⟨Kd.fresh' (Kd.R_lt (by (with_reducible repeat (first | apply Kd.R_alloc | apply Kd.R_drewN | apply Kd.R_drew)); exact HO_4.out)) k_ hk, Kd.fresh' (Kd.R_lt (by (with_reducible repeat (first | apply Kd.R_alloc | apply Kd.R_drewN | apply Kd.R_drew)); exact HO471.out)) k_ hk⟩))
         (case aO => exact (by (with_reducible repeat (first | apply Kd.R_alloc | apply Kd.R_drewN | apply Kd.R_drew)); exact HO_7.out))
         (case aS => exact (below_size (laws_FnSquashTimes_auHB)))
         (case aL => have := LMc20.out; omega)
         intro v473 w24 ho hb hg hat
         rw [← Ny472.out] at ho
         have n0_ := Aside0.mk (Kd.R_over' (by (with_reducible repeat (first | apply Kd.R_alloc | apply Kd.R_drewN | apply Kd.R_drew)); exact HO_3.out) (Kd.R_typed (by (with_reducible repeat (first | apply Kd.R_alloc | apply Kd.R_drewN | apply Kd.R_drew)); exact HO_7.out)) (by decide) hg)
         have n1_ := Aside0.mk (Kd.R_after (ok := (fun k_ => some k_ ≠ (.slice Ao25 y469.length co25 : Value).ownBlock)) (by (with_reducible repeat (first | apply Kd.R_alloc | apply Kd.R_drewN | apply Kd.R_drew)); exact Kd.R_mono HO_4.out (fun _ hk => ⟨hk.2, hk.1⟩)) hg hat)
         have n2_ := Aside0.mk (Kd.R_over' (by (with_reducible repeat (first | apply Kd.R_alloc | apply Kd.R_drewN | apply Kd.R_drew)); exact HO_6.out) (Kd.R_typed (by (with_reducible repeat (first | apply Kd.R_alloc | apply Kd.R_drewN | apply Kd.R_drew)); exact HO_7.out)) (by decide) hg)
         have n3_ := Aside0.mk (Kd.R_after (ok := (fun k_ => some k_ ≠ (.slice (some ad467) t451.length co10 : Value).ownBlock)) (by (with_reducible repeat (first | apply Kd.R_alloc | apply Kd.R_drewN | apply Kd.R_drew)); exact Kd.R_mono HO471.out (fun _ hk => ⟨hk.1.2, hk.2⟩)) hg hat)
         have n4_ := Aside0.mk (hb)
         have n5_ := Aside0.mk (ho)
         clear HO_3
         clear HO_4
         clear HO_6
         clear HO471
         clear HB
         clear HO_7
         have HO_3 := n0_
         have HO_4 := n1_
         have HO_6 := n2_
         have HO471 := n3_
         have HB := n4_
         have HO474 := n5_
         clear n0_ n1_ n2_ n3_ n4_ n5_
         clear ho hb hg hat
         refine hK.out _ _ ?_
         clear hK K
         refine norm_ (a' := ?_) ?_ ?_
         rotate_left
         ·
          show Act.put _ (some 47) _ = _
          simp only [Act.put, List.setIfInBounds_toArray, List.set_cons_zero, List.set_cons_succ, i64_w, i32_w]
          rfl
         refine pu_ 11 (some 7) HT_ rfl rfl (by go_simp; rfl) (by kernel_rfl) rfl (by intro w'; go_simp; with_reducible rfl) (fun _ _ _ h => h) (by go_simp; rfl) ?_
         refine done_ (done_of HT_.out (by kernel_rfl)) ?_
         try go_wp2
         go_roundg k1
         case measure => have := HK1.out; omega
         case rel => exact ⟨(y472), (wrap64 (x8_1 - 1)), (by first | rfl | (simp; done) | (simp [*]; done)), H', ⟨by have := HK1.out; omega⟩, ⟨by (with_reducible repeat (first | apply Kd.R_alloc | apply Kd.R_drewN | apply Kd.R_drew)); exact HO_3.out⟩, ⟨by (with_reducible repeat (first | apply Kd.R_alloc | apply Kd.R_drewN | apply Kd.R_drew)); exact Kd.R_mono HO_4.out (fun _ hk => hk.2)⟩, ⟨by (with_reducible repeat (first | apply Kd.R_alloc | apply Kd.R_drewN | apply Kd.R_drew)); exact HO_6.out⟩, ⟨by (with_reducible repeat (first | apply Kd.R_alloc | apply Kd.R_drewN | apply Kd.R_drew)); exact Kd.R_mono HO474.out (fun _ hk => hk.1)⟩, ⟨laws_FnSquashTimes_auHB⟩⟩
        ·
         rw [if_neg c20] at H
         exact absurd H (by simp)
       ·
        rw [if_neg c19] at H
        exact absurd H (by simp)
      ·
       rw [if_neg c18] at H
       exact absurd H (by simp)
     ·
      rw [if_neg c17] at H
      have c17b0 : decide (0 ≤ x8_1) = false := decide_eq_false c17
      clear c17
      by_cases c26 : x7_1.length < 17592186044416
      ·
       rw [if_pos c26] at H
       have LMc26 := Aside0.mk c26
       clear c26
       obtain ⟨y475, hy475⟩ : ∃ y_ : List Int, y_ = (x7_1 ++ [100007]) := ⟨_, rfl⟩
       replace H : ((impl_Squash.f k1 t450 y475 t452).bind fun t478 => ((laws_wpEnts.f k1 t478 t457).bind fun t481 => (some t481))) = some r := by first | (rw [hy475]; with_reducible exact H) | (have H2_ := (Option.bind_some _ _).symm.trans H; rw [hy475]; with_reducible exact H2_) | (have H2_ := (Option.bind_some _ _).symm.trans H; with_reducible exact H2_) | with_reducible exact H | (rw [hy475]; exact H) | exact H
       have Ny475 := Aside0.mk hy475
       clear hy475
       replace H := Option.bind_eq_some_iff.mp H
       obtain ⟨t478, A270, H⟩ := H
       replace H : ((laws_wpEnts.f k1 t478 t457).bind fun t481 => (some t481)) = some r := H
       have A27 := Aside0.mk A270
       clear A270
       replace H := Option.bind_eq_some_iff.mp H
       obtain ⟨t481, A280, H⟩ := H
       replace H : (some t481) = some r := H
       have A28 := Aside0.mk A280
       clear A280
       obtain rfl := Option.some.inj H
       go_wp2_with (first | ((with_reducible refine gate_builtin (b := .append) (xs := #[.tmp 48, .tmp 49]) rfl ?_); at_builtin; refine Kd.R_append (Kd.int .i64) (w0 := w) w.heap.size rfl (.tmp 48) (.tmp 49) 23 3 (.int .i64 0) 8 rfl Try.underlying23 info3 rfl (by decide) (by omega) u7 x7_1 100007 [.int .i64 100007] (fun k_ => some k_ ≠ (.slice Ao10 t451.length co10 : Value).ownBlock) (fun _ => False) rfl rfl ?aP (fun _ hk => hk.elim) ?aF ?aO ?aB ?aS ?aL ?_; (case aP => exact rfl); (case aB => exact (laws_FnSquashTimes_auHB)); (case aF => exact (fun k_ hk => Kd.fresh' (Kd.R_lt (by (with_reducible repeat (first | apply Kd.R_alloc | apply Kd.R_drewN | apply Kd.R_drew)); exact HO_4.out)) k_ hk)); (case aO => exact (by (with_reducible repeat (first | apply Kd.R_alloc | apply Kd.R_drewN | apply Kd.R_drew)); exact HO_7.out)); (case aS => exact (below_size (laws_FnSquashTimes_auHB))); (case aL => have := LMc26.out; omega); intro v476 w29 ho hb hg hat; rw [← Ny475.out] at ho; have n0_ := Aside0.mk (Kd.R_over' (by (with_reducible repeat (first | apply Kd.R_alloc | apply Kd.R_drewN | apply Kd.R_drew)); exact HO_3.out) (Kd.R_typed (by (with_reducible repeat (first | apply Kd.R_alloc | apply Kd.R_drewN | apply Kd.R_drew)); exact HO_7.out)) (by decide) hg); have n1_ := Aside0.mk (Kd.R_after (ok := (fun _ => True)) (by (with_reducible repeat (first | apply Kd.R_alloc | apply Kd.R_drewN | apply Kd.R_drew)); exact Kd.R_mono HO_4.out (fun _ hk => ⟨trivial, by first | exact hk | exact f6_own_ hk⟩)) hg hat); have n2_ := Aside0.mk (Kd.R_over' (by (with_reducible repeat (first | apply Kd.R_alloc | apply Kd.R_drewN | apply Kd.R_drew)); exact HO_6.out) (Kd.R_typed (by (with_reducible repeat (first | apply Kd.R_alloc | apply Kd.R_drewN | apply Kd.R_drew)); exact HO_7.out)) (by decide) hg); have n3_ := Aside0.mk (hb); have n4_ := Aside0.mk (ho); clear HO_3; clear HO_4; clear HO_6; clear HB; clear HO_7; have HO_3 := n0_; have HO_4 := n1_; have HO_6 := n2_; have HB := n3_; have HO477 := n4_; clear n0_ n1_ n2_ n3_ n4_; clear ho hb hg hat; obtain ⟨Ao30, co30, eo30⟩ := Kd.R_slice HO477.out; subst eo30) | ((with_reducible refine gate_callee (f := 13) rfl ?_); refine goesL_ (some 54) rfl rfl Try.func13 (by kernel_rfl) rfl #[.slice Ao9 t450.length co9, .slice Ao30 y475.length co30, .bool t452] rfl (by (try simp only [List.map_toArray, List.map_cons, List.map_nil]); first | done | rfl | (simp only [List.length_drop, List.length_take]; rfl)) ?_; (with_reducible refine (impl_Squash.calls k1 _ _ t450 _ _ y475 t452 t478 _ ?side1 ?side2 ?side3 ?side4 A27.out).mono ?_); (case side1 => repeat (first | exact (Kd.R_reads' HO_3.out).2.2 | (with_reducible refine Kd.C_alloc ?_ _) | (with_reducible refine Kd.C_drewN ?_ _) | (with_reducible refine Kd.C_drew ?_))); (case side2 => exact (Kd.R_reads' HO_3.out).2.1); (case side3 => repeat (first | exact (Kd.R_reads' HO477.out).2.2 | (with_reducible refine Kd.C_alloc ?_ _) | (with_reducible refine Kd.C_drewN ?_ _) | (with_reducible refine Kd.C_drew ?_))); (case side4 => exact (Kd.R_reads' HO477.out).2.1); rintro e w31 ⟨v479, rfl, ho0, hb⟩; refine ⟨_, rfl, ?_⟩; replace HO_4 := Aside0.mk (Kd.R_below (by (with_reducible repeat (first | apply Kd.R_alloc | apply Kd.R_drewN | apply Kd.R_drew)); exact HO_4.out) hb); replace HO477 := Aside0.mk (Kd.R_below (by (with_reducible repeat (first | apply Kd.R_alloc | apply Kd.R_drewN | apply Kd.R_drew)); exact HO477.out) hb); have HO480 := Aside0.mk (Kd.R_lower (Kd.R_new' (Kd.R_new' ho0 (Kd.R_lt (by (with_reducible repeat (first | apply Kd.R_alloc | apply Kd.R_drewN | apply Kd.R_drew)); exact HO_3.out))) (Kd.R_lt (by (with_reducible repeat (first | apply Kd.R_alloc | apply Kd.R_drewN | apply Kd.R_drew)); exact HO_6.out))) (below_size (laws_FnSquashTimes_auHB))); replace HO_3 := Aside0.mk (Kd.R_elder' (by (with_reducible repeat (first | apply Kd.R_alloc | apply Kd.R_drewN | apply Kd.R_drew)); exact HO_3.out) (Kd.R_base ho0) hb); replace HO_6 := Aside0.mk (Kd.R_elder' (by (with_reducible repeat (first | apply Kd.R_alloc | apply Kd.R_drewN | apply Kd.R_drew)); exact HO_6.out) (Kd.R_base ho0) hb); replace HB := Aside0.mk (below_step (laws_FnSquashTimes_auHB) hb); (try clear hb); (try clear hb2); (try clear hk); (try clear hi); (try clear ho0); obtain ⟨Ao32, co32, eo32⟩ := Kd.R_slice HO480.out; subst eo32) | ((with_reducible refine gate_callee (f := 26) rfl ?_); refine goesL_ (some 56) rfl rfl Try.func26 (by kernel_rfl) rfl #[.slice Ao32 t478.length co32, .slice Ao13 t457.length co13] rfl (by (try simp only [List.map_toArray, List.map_cons, List.map_nil]); first | done | rfl | (simp only [List.length_drop, List.length_take]; rfl)) ?_; (with_reducible refine (laws_wpEnts.calls k1 _ _ t478 _ _ t457 t481 _ ?side1 ?side2 ?side3 ?side4 A28.out).mono ?_); (case side1 => repeat (first | exact (Kd.R_reads' HO480.out).2.2 | (with_reducible refine Kd.C_alloc ?_ _) | (with_reducible refine Kd.C_drewN ?_ _) | (with_reducible refine Kd.C_drew ?_))); (case side2 => exact (Kd.R_reads' HO480.out).2.1); (case side3 => repeat (first | exact (Kd.R_reads' HO_6.out).2.2 | (with_reducible refine Kd.C_alloc ?_ _) | (with_reducible refine Kd.C_drewN ?_ _) | (with_reducible refine Kd.C_drew ?_))); (case side4 => exact (Kd.R_reads' HO_6.out).2.1); rintro e w' ⟨rfl, ⟨nd, rfl⟩⟩; refine ⟨_, rfl, ?_⟩))
       go_ret
       exact ⟨by first | rfl | (simp [errW_none, errW_some] <;> rfl) | (simp [*, errW_none, errW_some] <;> rfl), laws_FnSquashTimes_auHB⟩
      ·
       rw [if_neg c26] at H
       exact absurd H (by simp)
  ·
   replace c7 := Bool.eq_false_iff.mpr c7
   subst c7
   have H1 : (none) = some r := by rw [if_neg (show ¬ (false = true) by decide)] at H; exact H
   clear H
   have H := H1
   clear H1
   exact absurd H (by simp)

/-- THE ONE PURE STATEMENT of laws_FnSquashTimes: yours. -/
def laws_FnSquashTimes.Pure : Prop := ∀ (l0 : List Int), l0.length ≤ maxLen → l0.length * 1 ≤ 140737488351232 → (∀ x ∈ l0, (Lit.int .u8 x).wf = true) → ∃ k, laws_FnSquashTimes.f k l0 = some true
theorem laws_FnSquashTimes.walk (P : laws_FnSquashTimes.Pure) (a0 : Option Addr) (len0 cap0 : Nat) (z0 : List Int) (w : World) (w0 : (a0 = none ∧ len0 = 0 ∧ cap0 = 0 ∧ z0 = []) ∨ ∃ x, a0 = some x ∧ len0 ≤ cap0 ∧ cap0 ≤ maxLen ∧ z0.length = cap0 ∧ (∀ i, i < z0.length → w.cell? (x.add i) = some (.int .u8 (z0.getD i 0))) ∧ ∀ n ∈ z0, (Lit.int .u8 n).wf = true) (y0 : len0 * 1 ≤ 140737488351232) :
  Calls Try.prog 6 #[.slice a0 len0 cap0] w fun e w' => e = .returned (.bool true) ∧ Below w.heap.size w w' := by
 obtain ⟨l0, rfl, hr0, hm0, hw0, hc0⟩ := ReadsInt.ofRowC w0
 obtain ⟨k, h⟩ := P l0 hm0 y0 hw0
 refine (laws_FnSquashTimes.calls k _ _ l0 true w (Kd.C_of_reads (d := (0 : Int)) (h1 := fun _ => rfl) hr0) hc0 h).mono ?_
 rintro e w' ⟨rfl, hd⟩
 exact ⟨rfl, hd⟩


end Go.Proofs.Ytcfebbhiehaocaa.QFnSquashTimes

/- What the law FnCellNext reaches, function by function: what each computes, and that the machine's call comes to it. Laid by a program. -/
import Derived.Test.YtbdckemcagaldaaQFnCellNextx0
import Derived.Test.YtbdckemcagaldaaQFnCellNextx1
import Derived.Test.YtbdckemcagaldaaQFnCellNextx2
import Derived.Test.YtbdckemcagaldaaQFnCellNextx4
import Derived.Test.YtbdckemcagaldaaQFnCellNextx6
import Derived.Test.YtbdckemcagaldaaQFnCellNextx7
namespace Go.Proofs.Ytbdckemcagaldaa.QFnCellNext
open Go.RowKit Go.Proofs.YtbdckemcagaldaaW.PrintWords Go.Proofs.YtbdckemcagaldaaW.PrintLast Go.Proofs.YtbdckemcagaldaaW.PrintMore
attribute [local go_sem] max2_int min2_int max_two min_two max_three min_three max_four min_four   -- for this text's walks alone
set_option linter.unusedVariables false
set_option linter.unusedSimpArgs false

attribute [local go_sem high] eqA28
/-! ### laws_FnCellNext: function 7 -/
def laws_FnCellNext.l0 : Nat → List (S31) → ByteArray → Int → Int → Bool → ByteArray → Int → Bool → ByteArray → Int → Option (Bool)
  | 0, _, _, _, _, _, _, _, _, _, _ => none
  | k + 1, x3, x4, x5, x8, x280000, x280001, x280002, x287000, x287001, x287002 => if x8 < (x3.length : Int) then (if 0 ≤ x8 then (if ((rd_T31 x3 x8).f0).toList = x4.toList then (if ((rd_T31 x3 x8).f1) = x5 then ((impl_CellDo.f x287000 x287001 x287002 ((rd_T31 x3 x8).f0) ((rd_T31 x3 x8).f1) ((rd_T31 x3 x8).f2) ((rd_T31 x3 x8).f3) ((rd_T31 x3 x8).f4)).bind fun bt290 => (laws_FnCellNext.l0 k x3 x4 x5 (wrap64 (x8 + 1)) x280000 x280001 x280002 bt290.1 bt290.2.1 bt290.2.2)) else (laws_FnCellNext.l0 k x3 x4 x5 (wrap64 (x8 + 1)) x280000 x280001 x280002 x287000 x287001 x287002)) else (laws_FnCellNext.l0 k x3 x4 x5 (wrap64 (x8 + 1)) x280000 x280001 x280002 x287000 x287001 x287002)) else (none)) else (some (x280000 == x287000 && (x280001.toList == x287001.toList && (x280002 == x287002))))
def laws_FnCellNext.f (k : Nat) (l0 : List Int) : Option (Bool) := if (l0.length : Int) > 1048576 then (some true) else ((spec_DrawCellAll.f k l0).bind fun bt271 => ((impl_CellAll.f k bt271.1 bt271.2.1 bt271.2.2).bind fun bt276 => ((spec_CellAll.f k bt271.1 bt271.2.1 bt271.2.2).bind fun bt280 => (if (!(bt276.1 == bt280.1) || (!(bt276.2.1.toList == bt280.2.1.toList) || (!(bt276.2.2 == bt280.2.2)))) = true then (none) else ((impl_CellAll.f k bt271.1 bt271.2.1 (wrap64 (bt271.2.2 - 1))).bind fun bt283 => (laws_FnCellNext.l0 k bt271.1 bt271.2.1 bt271.2.2 0 bt276.1 bt276.2.1 bt276.2.2 bt283.1 bt283.2.1 bt283.2.2))))))
theorem laws_FnCellNext.mono_l : ∀ k, (∀ y0 y1 y2 y3 y4 y5 y6 y7 y8 y9, LeO (laws_FnCellNext.l0 k y0 y1 y2 y3 y4 y5 y6 y7 y8 y9) (laws_FnCellNext.l0 (k + 1) y0 y1 y2 y3 y4 y5 y6 y7 y8 y9))
  | 0 => fun _ _ _ _ _ _ _ _ _ _ r h => by simp [laws_FnCellNext.l0] at h
  | k + 1 => by
    have ih0 := laws_FnCellNext.mono_l k
    · intro y0 y1 y2 y3 y4 y5 y6 y7 y8 y9
      unfold laws_FnCellNext.l0
      repeat' first
      | (with_reducible exact ih0 _ _ _ _ _ _ _ _ _ _)
      | (with_reducible exact impl_CellAll.mono _ _ _ _)
      | (with_reducible exact spec_CellAll.mono _ _ _ _)
      | (with_reducible exact spec_DrawCellAll.mono _ _)
      | (with_reducible exact LeO.refl _)
      | (with_reducible exact LeO.none _)
      | (with_reducible refine LeO.ite ?_ ?_)
      | (with_reducible refine LeO.bind ?_ (fun _ => ?_))
      | exact ih0 _ _ _ _ _ _ _ _ _ _
      | exact impl_CellAll.mono _ _ _ _
      | exact spec_CellAll.mono _ _ _ _
      | exact spec_DrawCellAll.mono _ _
      | exact LeO.none _
      | refine LeO.ite ?_ ?_
      | refine LeO.bind ?_ (fun _ => ?_)
theorem laws_FnCellNext.mono : ∀ a0 k, LeO (laws_FnCellNext.f k a0) (laws_FnCellNext.f (k + 1) a0) := by
  intro a0 k
  have ih0 := laws_FnCellNext.mono_l k
  unfold laws_FnCellNext.f
  repeat' first
      | (with_reducible exact ih0 _ _ _ _ _ _ _ _ _ _)
      | (with_reducible exact impl_CellAll.mono _ _ _ _)
      | (with_reducible exact spec_CellAll.mono _ _ _ _)
      | (with_reducible exact spec_DrawCellAll.mono _ _)
      | (with_reducible exact LeO.refl _)
      | (with_reducible exact LeO.none _)
      | (with_reducible refine LeO.ite ?_ ?_)
      | (with_reducible refine LeO.bind ?_ (fun _ => ?_))
      | exact ih0 _ _ _ _ _ _ _ _ _ _
      | exact impl_CellAll.mono _ _ _ _
      | exact spec_CellAll.mono _ _ _ _
      | exact spec_DrawCellAll.mono _ _
      | exact LeO.none _
      | refine LeO.ite ?_ ?_
      | refine LeO.bind ?_ (fun _ => ?_)
set_option maxHeartbeats 8000000 in
set_option maxRecDepth 100000 in
theorem laws_FnCellNext.calls (k : Nat) (A0 : Option Addr) (c0 : Nat) (l0 : List Int) (r : Bool) (w : World) (hr0 : Kd.C (Kd.int .u8) w A0 l0.length l0) (hc0 : l0.length ≤ c0) (h : laws_FnCellNext.f k l0 = some r) :
    Calls Try.prog 7 #[.slice A0 l0.length c0] w fun e w' => e = .returned (.bool r) ∧ Below w.heap.size w w' := by
  have hu28 := Try.underlying28
  have hu31 := Try.underlying31
  have HR0 := Aside0.mk hr0
  have HC0 := Aside0.mk hc0
  clear hr0 hc0
  have HB := Aside0.mk (Below.refl w.heap.size w)
  have H : (if (l0.length : Int) > 1048576 then (some true) else ((spec_DrawCellAll.f k l0).bind fun bt271 => ((impl_CellAll.f k bt271.1 bt271.2.1 bt271.2.2).bind fun bt276 => ((spec_CellAll.f k bt271.1 bt271.2.1 bt271.2.2).bind fun bt280 => (if (!(bt276.1 == bt280.1) || (!(bt276.2.1.toList == bt280.2.1.toList) || (!(bt276.2.2 == bt280.2.2)))) = true then (none) else ((impl_CellAll.f k bt271.1 bt271.2.1 (wrap64 (bt271.2.2 - 1))).bind fun bt283 => (laws_FnCellNext.l0 k bt271.1 bt271.2.1 bt271.2.2 0 bt276.1 bt276.2.1 bt276.2.2 bt283.1 bt283.2.1 bt283.2.2))))))) = some r := h
  clear h
  by_cases c2 : (l0.length : Int) > 1048576
  · rw [if_pos c2] at H
    have c2b0 : decide (1048576 < (l0.length : Int)) = true := decide_eq_true c2
    have c2b1 : decide (1048576 < l0.length) = true := decide_eq_true (by omega)
    clear c2
    obtain rfl := Option.some.inj H
    go_enter Try.func7, Try.ntmps7
    go_wp2
    go_ret
    exact ⟨by first | rfl | (simp [errW_none, errW_some] <;> rfl) | (simp [*, errW_none, errW_some] <;> rfl), by repeat (first | (with_reducible first | exact HB.out | apply below_alloc | apply pw_below_drewN | apply below_drew1) | exact HB.out)⟩
  · rw [if_neg c2] at H
    have c2b0 : decide (1048576 < (l0.length : Int)) = false := decide_eq_false c2
    have c2b1 : decide (1048576 < l0.length) = false := decide_eq_false (by omega)
    clear c2
    replace H := Option.bind_eq_some_iff.mp H
    obtain ⟨⟨t271, t272, t273⟩, A30, H⟩ := H
    replace H : ((impl_CellAll.f k t271 t272 t273).bind fun bt276 => ((spec_CellAll.f k t271 t272 t273).bind fun bt280 => (if (!(bt276.1 == bt280.1) || (!(bt276.2.1.toList == bt280.2.1.toList) || (!(bt276.2.2 == bt280.2.2)))) = true then (none) else ((impl_CellAll.f k t271 t272 (wrap64 (t273 - 1))).bind fun bt283 => (laws_FnCellNext.l0 k t271 t272 t273 0 bt276.1 bt276.2.1 bt276.2.2 bt283.1 bt283.2.1 bt283.2.2))))) = some r := H
    have A3 := Aside0.mk A30
    clear A30
    replace H := Option.bind_eq_some_iff.mp H
    obtain ⟨⟨t276, t277, t278⟩, A40, H⟩ := H
    replace H : ((spec_CellAll.f k t271 t272 t273).bind fun bt280 => (if (!(t276 == bt280.1) || (!(t277.toList == bt280.2.1.toList) || (!(t278 == bt280.2.2)))) = true then (none) else ((impl_CellAll.f k t271 t272 (wrap64 (t273 - 1))).bind fun bt283 => (laws_FnCellNext.l0 k t271 t272 t273 0 t276 t277 t278 bt283.1 bt283.2.1 bt283.2.2)))) = some r := H
    have A4 := Aside0.mk A40
    clear A40
    replace H := Option.bind_eq_some_iff.mp H
    obtain ⟨⟨t280, t281, t282⟩, A50, H⟩ := H
    replace H : (if (!(t276 == t280) || (!(t277.toList == t281.toList) || (!(t278 == t282)))) = true then (none) else ((impl_CellAll.f k t271 t272 (wrap64 (t273 - 1))).bind fun bt283 => (laws_FnCellNext.l0 k t271 t272 t273 0 t276 t277 t278 bt283.1 bt283.2.1 bt283.2.2))) = some r := H
    have A5 := Aside0.mk A50
    clear A50
    by_cases c6 : (!(t276 == t280) || (!(t277.toList == t281.toList) || (!(t278 == t282)))) = true
    · rw [if_pos c6] at H
      exact absurd H (by simp)
    · rw [if_neg c6] at H
      have c6b0 : (!(t276 == t280) || (!(t277.toList == t281.toList) || (!(t278 == t282)))) = false := by (have h_ := c6; (try simp at h_); (try simp); (try exact h_))
      clear c6
      replace H := Option.bind_eq_some_iff.mp H
      obtain ⟨⟨t283, t284, t285⟩, A70, H⟩ := H
      replace H : (laws_FnCellNext.l0 k t271 t272 t273 0 t276 t277 t278 t283 t284 t285) = some r := H
      have A7 := Aside0.mk A70
      clear A70
      have H' := Aside0.mk H
      clear H
      go_enter Try.func7, Try.ntmps7
      try go_wp2_with (first | ((with_reducible refine gate_callee (f := 22) rfl ?_); refine goesL_ (some 14) rfl rfl Try.func22 (by kernel_rfl) rfl #[.slice A0 l0.length c0] rfl (by (try simp only [List.map_toArray, List.map_cons, List.map_nil]); first | done | rfl | (simp only [List.length_drop, List.length_take]; rfl)) ?_; (with_reducible refine (spec_DrawCellAll.calls k _ _ l0 t271 t272 t273 _ ?side1 ?side2 A3.out).mono ?_); (case side1 => repeat (first | exact HR0.out | (with_reducible refine Kd.C_alloc ?_ _) | (with_reducible refine Kd.C_drewN ?_ _) | (with_reducible refine Kd.C_drew ?_))); (case side2 => exact HC0.out); rintro e w8 ⟨v274, rfl, ho0, hb⟩; refine ⟨_, rfl, ?_⟩; have n0_ := Aside0.mk (Kd.R_lower ho0 (below_size (by repeat (first | (with_reducible first | exact HB.out | apply below_alloc | apply pw_below_drewN | apply below_drew1) | exact HB.out)))); have n1_ := Aside0.mk (below_step (by repeat (first | (with_reducible first | exact HB.out | apply below_alloc | apply pw_below_drewN | apply below_drew1) | exact HB.out)) hb); clear HB; have HO275 := n0_; have HB := n1_; clear n0_ n1_; (try clear hb); (try clear hb2); (try clear hk); (try clear hi); (try clear ho0); obtain ⟨Ao9, co9, eo9⟩ := Kd.R_slice HO275.out; subst eo9) | ((with_reducible refine gate_callee (f := 19) rfl ?_); refine goesL_ (some 21) rfl rfl Try.func19 (by kernel_rfl) rfl #[.slice Ao9 t271.length co9, .string t272, .int .i64 t273] rfl (by (try simp only [List.map_toArray, List.map_cons, List.map_nil]); first | done | rfl | (simp only [List.length_drop, List.length_take]; rfl)) ?_; (with_reducible refine (impl_CellAll.calls k _ _ t271 t272 t273 t276 t277 t278 _ ?side1 ?side2 A4.out).mono ?_); (case side1 => repeat (first | exact (Kd.R_reads' HO275.out).2.2 | (with_reducible refine Kd.C_alloc ?_ _) | (with_reducible refine Kd.C_drewN ?_ _) | (with_reducible refine Kd.C_drew ?_))); (case side2 => exact (Kd.R_reads' HO275.out).2.1); rintro e w10 ⟨rfl, hb⟩; refine ⟨_, rfl, ?_⟩; have n0_ := Aside0.mk (Kd.R_below (by (with_reducible repeat (first | apply Kd.R_alloc | apply Kd.R_drewN | apply Kd.R_drew)); exact HO275.out) hb); have n1_ := Aside0.mk (below_step (by repeat (first | (with_reducible first | exact HB.out | apply below_alloc | apply pw_below_drewN | apply below_drew1) | exact HB.out)) hb); clear HO275; clear HB; have HO275 := n0_; have HB := n1_; clear n0_ n1_; (try clear hb); (try clear hb2); (try clear hk); (try clear hi)) | ((with_reducible refine gate_dst (N := 6) rfl ?_); refine box_event ?hg (N := 6) ?hd (cs := #[.bool false, .string (⟨#[]⟩ : ByteArray), .int .i64 0]) (t := 28) ?hr ?_; (case hd => rfl); (case hg => rfl); (case hr => first | (go_simp; done) | (go_simp; rfl)); intro gb279 hg w11 hbox hb; have n0_ := Aside0.mk (Kd.R_below (by (with_reducible repeat (first | apply Kd.R_alloc | apply Kd.R_drewN | apply Kd.R_drew)); exact HO275.out) hb); have n1_ := Aside0.mk (below_step (by repeat (first | (with_reducible first | exact HB.out | apply below_alloc | apply pw_below_drewN | apply below_drew1) | exact HB.out)) hb); have n2_ := Aside0.mk (hbox); have n3_ := Aside0.mk ((by rw [hg]; exact (below_size (by repeat (first | (with_reducible first | exact HB.out | apply below_alloc | apply pw_below_drewN | apply below_drew1) | exact HB.out))) : w.heap.size ≤ gb279)); have n4_ := Aside0.mk ((by rw [hg]; exact (below_size (by repeat (first | (with_reducible first | exact HB.out | apply below_alloc | apply pw_below_drewN | apply below_drew1) | exact HB.out))) : w.heap.size ≤ gb279)); clear HO275; clear HB; have HO275 := n0_; have HB := n1_; have BK279 := n2_; have GW279 := n3_; have GE279 := n4_; clear n0_ n1_ n2_ n3_ n4_; clear hb hbox hg; have hcz12_0 : w11.cell? ⟨gb279, 0, none⟩ = some (.bool false) := (blk_cell BK279.out 0).trans rfl; have hcz12_1 : w11.cell? ⟨gb279, 1, none⟩ = some (.string (⟨#[]⟩ : ByteArray)) := (blk_cell BK279.out 1).trans rfl; have hcz12_2 : w11.cell? ⟨gb279, 2, none⟩ = some (.int .i64 0) := (blk_cell BK279.out 2).trans rfl; have hfz12_0 := blk_frozen BK279.out 0; have hfz12_1 := blk_frozen BK279.out 1; have hfz12_2 := blk_frozen BK279.out 2))
      have n0_ : Aside0 (Kd.R k31 31 (((w11.setCell ⟨gb279, 0, none⟩ (.bool t276)).setCell ⟨gb279, 1, none⟩ (.string t277)).setCell ⟨gb279, 2, none⟩ (.int .i64 t278)) w.heap.size (fun _ => True) (.slice Ao9 t271.length co9) t271) := ⟨by (with_reducible repeat (first | apply Kd.R_alloc | apply Kd.R_drewN | apply Kd.R_drew)); exact Kd.R_mono (Kd.R_far (p := ⟨gb279, 2, none⟩) (Kd.R_far (p := ⟨gb279, 1, none⟩) (Kd.R_far (p := ⟨gb279, 0, none⟩) (Kd.R_types HO275.out BK279.out (by decide)) (fun _ hk => hk.2) (.bool t276)) (fun _ hk => hk.2) (.string t277)) (fun _ hk => hk.2) (.int .i64 t278)) (fun _ hk => trivial)⟩
      have n1_ : Aside0 ((((w11.setCell ⟨gb279, 0, none⟩ (.bool t276)).setCell ⟨gb279, 1, none⟩ (.string t277)).setCell ⟨gb279, 2, none⟩ (.int .i64 t278)).heap[gb279]? = some (.cells #[.bool t276, .string t277, .int .i64 t278] 28 (0, 0))) := ⟨by (with_reducible repeat (first | refine blk_drewN ?_ _ | refine blk_drew ?_ | refine blk_alloc ?_ _)); refine blk_put (cs := #[.bool t276, .string t277, .int .i64 0]) ?_ 2 _ rfl; (with_reducible repeat (first | refine blk_drewN ?_ _ | refine blk_drew ?_ | refine blk_alloc ?_ _)); refine blk_put (cs := #[.bool t276, .string (⟨#[]⟩ : ByteArray), .int .i64 0]) ?_ 1 _ rfl; (with_reducible repeat (first | refine blk_drewN ?_ _ | refine blk_drew ?_ | refine blk_alloc ?_ _)); refine blk_put (cs := #[.bool false, .string (⟨#[]⟩ : ByteArray), .int .i64 0]) ?_ 0 _ rfl; (with_reducible repeat (first | refine blk_drewN ?_ _ | refine blk_drew ?_ | refine blk_alloc ?_ _)); exact BK279.out⟩
      have n2_ : Aside0 (Below w.heap.size w (((w11.setCell ⟨gb279, 0, none⟩ (.bool t276)).setCell ⟨gb279, 1, none⟩ (.string t277)).setCell ⟨gb279, 2, none⟩ (.int .i64 t278))) := ⟨by repeat (first | (with_reducible first | exact HB.out | apply below_alloc | apply pw_below_drewN | apply below_drew1 | refine below_set ?_ GE279.out) | exact HB.out)⟩
      (try clear HO275)
      (try clear BK279)
      (try clear HB)
      generalize (((w11.setCell ⟨gb279, 0, none⟩ (.bool t276)).setCell ⟨gb279, 1, none⟩ (.string t277)).setCell ⟨gb279, 2, none⟩ (.int .i64 t278)) = w13 at n0_ n1_ n2_ ⊢
      have HO275 := n0_
      have BK279 := n1_
      have HB := n2_
      clear n0_ n1_ n2_
      have n0_ := Aside0.mk (Kd.R_drew HO275.out)
      have n1_ := Aside0.mk (blk_drew BK279.out)
      have n2_ := Aside0.mk (below_drew1 HB.out)
      clear HO275
      clear BK279
      clear HB
      have HO275 := n0_
      have BK279 := n1_
      have HB := n2_
      clear n0_ n1_ n2_
      refine start_ (n := 6) (S := fun w' => w'.cell? ⟨gb279, 0, none⟩ = some (.bool t276) ∧ w'.cell? ⟨gb279, 1, none⟩ = some (.string t277) ∧ w'.cell? ⟨gb279, 2, none⟩ = some (.int .i64 t278)) (ds := []) #[false, false, false, false, false, false] (by kernel_rfl) rfl rfl ⟨(blk_cell BK279.out 0).trans rfl, (blk_cell BK279.out 1).trans rfl, (blk_cell BK279.out 2).trans rfl⟩ (fun hHeld => ?_)
      generalize w13.drew = w14 at HO275 BK279 HB hHeld ⊢
      refine pure_ (i := 1) (N := some 23) (v := ?_) (a' := ?_) #[false, true, false, false, false, false] rfl rfl (by kernel_rfl) (fun _ _ _ h => h) (Or.inl ⟨by rfl, ?_⟩) ?_ ?_
      rotate_left
      · intro w'
        go_simp
        with_reducible rfl
      rotate_left
      · simp only [Act.put, List.setIfInBounds_toArray, List.set_cons_zero, List.set_cons_succ, i64_w, i32_w]
        rfl
      refine pure_ (i := 2) (N := some 24) (v := ?_) (a' := ?_) #[false, true, true, false, false, false] rfl rfl (by kernel_rfl) (fun _ _ _ h => h) (Or.inl ⟨by rfl, ?_⟩) ?_ ?_
      rotate_left
      · intro w'
        go_simp
        with_reducible rfl
      rotate_left
      · simp only [Act.put, List.setIfInBounds_toArray, List.set_cons_zero, List.set_cons_succ, i64_w, i32_w]
        rfl
      refine pure_ (i := 3) (N := some 25) (v := ?_) (a' := ?_) #[false, true, true, true, false, false] rfl rfl (by kernel_rfl) (fun _ _ _ h => h) (Or.inl ⟨by rfl, ?_⟩) ?_ ?_
      rotate_left
      · intro w'
        go_simp
        with_reducible rfl
      rotate_left
      · simp only [Act.put, List.setIfInBounds_toArray, List.set_cons_zero, List.set_cons_succ, i64_w, i32_w]
        rfl
      refine take_ (i := 0) (N := some 22) (v := ?_) (a' := ?_) #[true, true, true, true, false, false] rfl rfl (by kernel_rfl) (fun _ _ _ h => h) (Or.inl ⟨by rfl, ?_⟩) hHeld ?_ ?_
      rotate_left
      · rintro w' ⟨s0, s1, s2⟩
        go_simp
        with_reducible rfl
      rotate_left
      · simp only [Act.put, List.setIfInBounds_toArray, List.set_cons_zero, List.set_cons_succ, i64_w, i32_w]
        rfl
      refine one_ (i := 4) (N := some 26) #[true, true, true, true, true, false] rfl rfl (by kernel_rfl) (by decide) (fun K hK => ?_)
      refine goes_ Try.func17 (by kernel_rfl) rfl #[.slice Ao9 t271.length co9, .string t272, .int .i64 t273] (by rfl) rfl rfl (by (try simp only [List.map_toArray, List.map_cons, List.map_nil]); first | done | rfl | (simp only [List.length_drop, List.length_take]; rfl)) ?_
      with_reducible refine (spec_CellAll.calls k _ _ t271 t272 t273 t280 t281 t282 _ ?side1 ?side2 A5.out).mono ?_
      (case side1 => repeat (first | exact (Kd.R_reads' HO275.out).2.2 | (with_reducible refine Kd.C_alloc ?_ _) | (with_reducible refine Kd.C_drewN ?_ _) | (with_reducible refine Kd.C_drew ?_)))
      (case side2 => exact (Kd.R_reads' HO275.out).2.1)
      rintro e w15 ⟨rfl, hb⟩
      refine ⟨_, rfl, ?_⟩
      have n0_ := Aside0.mk (Kd.R_below (by (with_reducible repeat (first | apply Kd.R_alloc | apply Kd.R_drewN | apply Kd.R_drew)); exact HO275.out) hb)
      have n1_ := Aside0.mk (blk_below (g := gb279) (o := .cells #[.bool t276, .string t277, .int .i64 t278] 28 (0, 0)) (by (with_reducible repeat (first | refine blk_drewN ?_ _ | refine blk_drew ?_ | refine blk_alloc ?_ _)); exact BK279.out) hb)
      have n2_ := Aside0.mk (below_step (by repeat (first | (with_reducible first | exact HB.out | apply below_alloc | apply pw_below_drewN | apply below_drew1 | refine below_set ?_ GE279.out) | exact HB.out)) hb)
      clear HO275
      clear BK279
      clear HB
      have HO275 := n0_
      have BK279 := n1_
      have HB := n2_
      clear n0_ n1_ n2_
      (try clear hb)
      (try clear hb2)
      (try clear hk)
      (try clear hi)
      refine hK.out _ _ ⟨(blk_cell BK279.out 0).trans rfl, (blk_cell BK279.out 1).trans rfl, (blk_cell BK279.out 2).trans rfl⟩ (fun hHeld => ?_)
      clear hK K
      refine norm_ (a' := ?_) ?_ ?_
      rotate_left
      · show Act.put _ (some 26) _ = _
        simp only [Act.put, List.setIfInBounds_toArray, List.set_cons_zero, List.set_cons_succ, i64_w, i32_w]
        rfl
      refine pure_ (i := 5) (N := some 27) (v := ?_) (a' := ?_) #[true, true, true, true, true, true] rfl rfl (by kernel_rfl) (fun _ _ _ h => h) (Or.inl ⟨by rfl, ?_⟩) ?_ ?_
      rotate_left
      · intro w'
        go_simp
        with_reducible rfl
      rotate_left
      · simp only [Act.put, List.setIfInBounds_toArray, List.set_cons_zero, List.set_cons_succ, i64_w, i32_w]
        rfl
      refine done_ (by kernel_rfl) ?_
      try go_wp2_with (first | ((with_reducible refine gate_callee (f := 19) rfl ?_); refine goesL_ (some 32) rfl rfl Try.func19 (by kernel_rfl) rfl #[.slice Ao9 t271.length co9, .string t272, .int .i64 (wrap64 (t273 - 1))] rfl (by (try simp only [List.map_toArray, List.map_cons, List.map_nil]); first | done | rfl | (simp only [List.length_drop, List.length_take]; rfl)) ?_; (with_reducible refine (impl_CellAll.calls k _ _ t271 t272 (wrap64 (t273 - 1)) t283 t284 t285 _ ?side1 ?side2 A7.out).mono ?_); (case side1 => repeat (first | exact (Kd.R_reads' HO275.out).2.2 | (with_reducible refine Kd.C_alloc ?_ _) | (with_reducible refine Kd.C_drewN ?_ _) | (with_reducible refine Kd.C_drew ?_))); (case side2 => exact (Kd.R_reads' HO275.out).2.1); rintro e w16 ⟨rfl, hb⟩; refine ⟨_, rfl, ?_⟩; have n0_ := Aside0.mk (Kd.R_below (by (with_reducible repeat (first | apply Kd.R_alloc | apply Kd.R_drewN | apply Kd.R_drew)); exact HO275.out) hb); have n1_ := Aside0.mk (blk_below (g := gb279) (o := .cells #[.bool t276, .string t277, .int .i64 t278] 28 (0, 0)) (by (with_reducible repeat (first | refine blk_drewN ?_ _ | refine blk_drew ?_ | refine blk_alloc ?_ _)); exact BK279.out) hb); have n2_ := Aside0.mk (below_step (by repeat (first | (with_reducible first | exact HB.out | apply below_alloc | apply pw_below_drewN | apply below_drew1 | refine below_set ?_ GE279.out) | exact HB.out)) hb); clear HO275; clear BK279; clear HB; have HO275 := n0_; have BK279 := n1_; have HB := n2_; clear n0_ n1_ n2_; (try clear hb); (try clear hb2); (try clear hk); (try clear hi)) | ((with_reducible refine gate_dst (N := 7) rfl ?_); refine box_event ?hg (N := 7) ?hd (cs := #[.bool false, .string (⟨#[]⟩ : ByteArray), .int .i64 0]) (t := 28) ?hr ?_; (case hd => rfl); (case hg => rfl); (case hr => first | (go_simp; done) | (go_simp; rfl)); intro gb286 hg w17 hbox hb; have n0_ := Aside0.mk (Kd.R_below (by (with_reducible repeat (first | apply Kd.R_alloc | apply Kd.R_drewN | apply Kd.R_drew)); exact HO275.out) hb); have n1_ := Aside0.mk (blk_below (g := gb279) (o := .cells #[.bool t276, .string t277, .int .i64 t278] 28 (0, 0)) (by (with_reducible repeat (first | refine blk_drewN ?_ _ | refine blk_drew ?_ | refine blk_alloc ?_ _)); exact BK279.out) hb); have n2_ := Aside0.mk (below_step (by repeat (first | (with_reducible first | exact HB.out | apply below_alloc | apply pw_below_drewN | apply below_drew1 | refine below_set ?_ GE279.out) | exact HB.out)) hb); have n3_ := Aside0.mk (hbox); have n4_ := Aside0.mk ((by rw [hg]; exact (below_size (by repeat (first | (with_reducible first | exact HB.out | apply below_alloc | apply pw_below_drewN | apply below_drew1 | refine below_set ?_ GE279.out) | exact HB.out))) : w.heap.size ≤ gb286)); have n5_ := Aside0.mk ((by rw [hg]; exact (below_size (by repeat (first | (with_reducible first | exact HB.out | apply below_alloc | apply pw_below_drewN | apply below_drew1 | refine below_set ?_ GE279.out) | exact HB.out))) : w.heap.size ≤ gb286)); have n6_ := Aside0.mk ((by rw [hg]; exact Nat.ne_of_lt (blk_lt (g := gb279) (o := .cells #[.bool t276, .string t277, .int .i64 t278] 28 (0, 0)) (by (with_reducible repeat (first | refine blk_drewN ?_ _ | refine blk_drew ?_ | refine blk_alloc ?_ _)); exact BK279.out)) : gb279 ≠ gb286)); have n7_ := Aside0.mk ((by rw [hg]; exact Nat.ne_of_gt (blk_lt (g := gb279) (o := .cells #[.bool t276, .string t277, .int .i64 t278] 28 (0, 0)) (by (with_reducible repeat (first | refine blk_drewN ?_ _ | refine blk_drew ?_ | refine blk_alloc ?_ _)); exact BK279.out)) : gb286 ≠ gb279)); clear HO275; clear BK279; clear HB; have HO275 := n0_; have BK279 := n1_; have HB := n2_; have BK286 := n3_; have GW286 := n4_; have GE286 := n5_; have NB279_286 := n6_; have NB286_279 := n7_; clear n0_ n1_ n2_ n3_ n4_ n5_ n6_ n7_; clear hb hbox hg; have hnb18 := NB286_279.out; have hnc18 := NB279_286.out; have hcz19_0 : w17.cell? ⟨gb286, 0, none⟩ = some (.bool false) := (blk_cell BK286.out 0).trans rfl; have hcz19_1 : w17.cell? ⟨gb286, 1, none⟩ = some (.string (⟨#[]⟩ : ByteArray)) := (blk_cell BK286.out 1).trans rfl; have hcz19_2 : w17.cell? ⟨gb286, 2, none⟩ = some (.int .i64 0) := (blk_cell BK286.out 2).trans rfl; have hfz19_0 := blk_frozen BK286.out 0; have hfz19_1 := blk_frozen BK286.out 1; have hfz19_2 := blk_frozen BK286.out 2))
      (try simp only [Act.put, List.setIfInBounds_toArray, List.set_cons_zero, List.set_cons_succ])
      go_loopg [8] k (fun kq v8 w' => ∃ (x8_1 : Int) (x287000_1 : Bool) (x287001_1 : ByteArray) (x287002_1 : Int), v8 = .int .i64 x8_1 ∧ Aside0 (laws_FnCellNext.l0 kq t271 t272 t273 x8_1 t276 t277 t278 x287000_1 x287001_1 x287002_1 = some r) ∧ Aside0 (kq ≤ k) ∧ Aside0 (Kd.R k31 31 w' w.heap.size (fun _ => True) (.slice Ao9 t271.length co9) t271) ∧ Aside0 (w'.heap[gb279]? = some (.cells #[.bool t276, .string t277, .int .i64 t278] 28 (0, 0))) ∧ Aside0 (w'.heap[gb286]? = some (.cells #[.bool x287000_1, .string x287001_1, .int .i64 x287002_1] 28 (0, 0))) ∧ Aside0 (Below w.heap.size w w'))
      case atStart => exact ⟨(0), (t283), (t284), (t285), (by first | rfl | (simp; done) | (simp [*]; done)), H', ⟨Nat.le_refl _⟩, ⟨by (with_reducible repeat (first | apply Kd.R_alloc | apply Kd.R_drewN | apply Kd.R_drew)); exact Kd.R_mono (Kd.R_far (p := ⟨gb286, 2, none⟩) (Kd.R_far (p := ⟨gb286, 1, none⟩) (Kd.R_far (p := ⟨gb286, 0, none⟩) (Kd.R_types HO275.out BK286.out (by decide)) (fun _ hk => hk.2) (.bool t283)) (fun _ hk => hk.2) (.string t284)) (fun _ hk => hk.2) (.int .i64 t285)) (fun _ hk => trivial)⟩, ⟨by (with_reducible repeat (first | refine blk_drewN ?_ _ | refine blk_drew ?_ | refine blk_alloc ?_ _)); refine blk_far ?_ NB279_286.out _; (with_reducible repeat (first | refine blk_drewN ?_ _ | refine blk_drew ?_ | refine blk_alloc ?_ _)); refine blk_far ?_ NB279_286.out _; (with_reducible repeat (first | refine blk_drewN ?_ _ | refine blk_drew ?_ | refine blk_alloc ?_ _)); refine blk_far ?_ NB279_286.out _; (with_reducible repeat (first | refine blk_drewN ?_ _ | refine blk_drew ?_ | refine blk_alloc ?_ _)); exact BK279.out⟩, ⟨by (with_reducible repeat (first | refine blk_drewN ?_ _ | refine blk_drew ?_ | refine blk_alloc ?_ _)); refine blk_put (cs := #[.bool t283, .string t284, .int .i64 0]) ?_ 2 _ rfl; (with_reducible repeat (first | refine blk_drewN ?_ _ | refine blk_drew ?_ | refine blk_alloc ?_ _)); refine blk_put (cs := #[.bool t283, .string (⟨#[]⟩ : ByteArray), .int .i64 0]) ?_ 1 _ rfl; (with_reducible repeat (first | refine blk_drewN ?_ _ | refine blk_drew ?_ | refine blk_alloc ?_ _)); refine blk_put (cs := #[.bool false, .string (⟨#[]⟩ : ByteArray), .int .i64 0]) ?_ 0 _ rfl; (with_reducible repeat (first | refine blk_drewN ?_ _ | refine blk_drew ?_ | refine blk_alloc ?_ _)); exact BK286.out⟩, ⟨by repeat (first | (with_reducible first | exact HB.out | apply below_alloc | apply pw_below_drewN | apply below_drew1 | refine below_set ?_ GE279.out | refine below_set ?_ GE286.out) | exact HB.out)⟩⟩
      case round =>
        clear H'
        try clear c1
        try clear c2
        try clear c2b0
        try clear c2b1
        try clear p2
        try clear c6
        try clear c6b0
        try clear p6
        try clear c7
        try clear c17
        try clear c18
        try clear c19
        try clear hcz12_0
        try clear hcz12_1
        try clear hcz12_2
        try clear hcz19_0
        try clear hcz19_1
        try clear hcz19_2
        try clear hfz12_0
        try clear hfz12_1
        try clear hfz12_2
        try clear hfz19_0
        try clear hfz19_1
        try clear hfz19_2
        obtain ⟨x8_1, x287000_1, x287001_1, x287002_1, rfl, HA, HK1, HO_3, BK279, BK286, HB⟩ := hrel
        cases gk with
        | zero => exact absurd HA.out (by simp [laws_FnCellNext.l0])
        | succ k1 =>
          have H := HA.out
          clear HA
          simp only [laws_FnCellNext.l0] at H
          by_cases c20 : x8_1 < (t271.length : Int)
          · rw [if_pos c20] at H
            have c20b0 : decide (x8_1 < (t271.length : Int)) = true := decide_eq_true c20
            clear c20
            by_cases c21 : 0 ≤ x8_1
            · rw [if_pos c21] at H
              have c21b0 : decide (0 ≤ x8_1) = true := decide_eq_true c21
              clear c21
              by_cases c22 : ((rd_T31 t271 x8_1).f0).toList = t272.toList
              · rw [if_pos c22] at H
                have c22b0 : (((rd_T31 t271 x8_1).f0).toList == t272.toList) = true := beq_iff_eq.mpr c22
                have c22b1 : (((rd_T31 t271 x8_1).f0).toList != t272.toList) = false := bne_eq_false_iff_eq.mpr c22
                clear c22
                by_cases c23 : ((rd_T31 t271 x8_1).f1) = t273
                · rw [if_pos c23] at H
                  have c23b0 : (((rd_T31 t271 x8_1).f1) == t273) = true := beq_iff_eq.mpr c23
                  have c23b1 : (((rd_T31 t271 x8_1).f1) != t273) = false := bne_eq_false_iff_eq.mpr c23
                  clear c23
                  replace H := Option.bind_eq_some_iff.mp H
                  obtain ⟨⟨t290, t291, t292⟩, A240, H⟩ := H
                  replace H : (laws_FnCellNext.l0 k1 t271 t272 t273 (wrap64 (x8_1 + 1)) t276 t277 t278 t290 t291 t292) = some r := H
                  have A24 := Aside0.mk A240
                  clear A240
                  have H' := Aside0.mk H
                  clear H
                  have p287 : 0 ≤ (x8_1 : Int) := of_decide_eq_true (by first | (with_reducible assumption) | assumption)
                  have q287 : x8_1 < (t271.length : Int) := of_decide_eq_true (by first | (with_reducible assumption) | assumption)
                  obtain ⟨ad287, e287, hx287_0, hx287_1, hx287_2, hx287_3, hx287_4⟩ := at_T31 (Kd.R_reads' HO_3.out).2.2 x8_1 p287 q287
                  cases e287
                  replace p287 := eq_true p287
                  replace q287 := eq_true q287
                  have p288 : 0 ≤ (x8_1 : Int) := of_decide_eq_true (by first | (with_reducible assumption) | assumption)
                  have q288 : x8_1 < (t271.length : Int) := of_decide_eq_true (by first | (with_reducible assumption) | assumption)
                  obtain ⟨ad288, e288, hx288_0, hx288_1, hx288_2, hx288_3, hx288_4⟩ := at_T31 (Kd.R_reads' HO_3.out).2.2 x8_1 p288 q288
                  obtain rfl : ad287 = ad288 := (by injection e288)
                  replace p288 := eq_true p288
                  replace q288 := eq_true q288
                  try go_wp2
                  have n0_ := Aside0.mk (Kd.R_drew HO_3.out)
                  have n1_ := Aside0.mk (blk_drew BK279.out)
                  have n2_ := Aside0.mk (blk_drew BK286.out)
                  have n3_ := Aside0.mk (below_drew1 HB.out)
                  clear HO_3
                  clear BK279
                  clear BK286
                  clear HB
                  have HO_3 := n0_
                  have BK279 := n1_
                  have BK286 := n2_
                  have HB := n3_
                  clear n0_ n1_ n2_ n3_
                  have p289 : 0 ≤ (x8_1 : Int) := of_decide_eq_true (by first | (with_reducible assumption) | assumption)
                  have q289 : x8_1 < (t271.length : Int) := of_decide_eq_true (by first | (with_reducible assumption) | assumption)
                  obtain ⟨ad289, e289, hx289_0, hx289_1, hx289_2, hx289_3, hx289_4⟩ := at_T31 (Kd.R_reads' HO_3.out).2.2 x8_1 p289 q289
                  obtain rfl : ad287 = ad289 := (by injection e289)
                  replace p289 := eq_true p289
                  replace q289 := eq_true q289
                  refine start_ (n := 7) (S := fun w' => w'.cell? ⟨gb286, 0, none⟩ = some (.bool x287000_1) ∧ w'.cell? ⟨gb286, 1, none⟩ = some (.string x287001_1) ∧ w'.cell? ⟨gb286, 2, none⟩ = some (.int .i64 x287002_1) ∧ w'.cell? (ad287.add ((x8_1).toNat * 5)) = some (.string ((rd_T31 t271 x8_1).f0)) ∧ w'.cell? ⟨(ad287.add ((x8_1).toNat * 5)).block, (ad287.add ((x8_1).toNat * 5)).off + 1, none⟩ = some (.int .i64 ((rd_T31 t271 x8_1).f1)) ∧ w'.cell? ⟨(ad287.add ((x8_1).toNat * 5)).block, (ad287.add ((x8_1).toNat * 5)).off + 2, none⟩ = some (.int .i64 ((rd_T31 t271 x8_1).f2)) ∧ w'.cell? ⟨(ad287.add ((x8_1).toNat * 5)).block, (ad287.add ((x8_1).toNat * 5)).off + 3, none⟩ = some (.string ((rd_T31 t271 x8_1).f3)) ∧ w'.cell? ⟨(ad287.add ((x8_1).toNat * 5)).block, (ad287.add ((x8_1).toNat * 5)).off + 4, none⟩ = some (.int .i64 ((rd_T31 t271 x8_1).f4))) (ds := [6]) #[false, false, false, false, false, false, false] (by kernel_rfl) rfl rfl ⟨(blk_cell BK286.out 0).trans rfl, (blk_cell BK286.out 1).trans rfl, (blk_cell BK286.out 2).trans rfl, hx289_0, hx289_1, hx289_2, hx289_3, hx289_4⟩ (fun hHeld => ?_)
                  generalize wr.drew = w25 at HO_3 BK279 BK286 HB hx289_0 hx289_1 hx289_2 hx289_3 hx289_4 hHeld ⊢
                  refine pure_ (i := 1) (N := some 56) (v := ?_) (a' := ?_) #[false, true, false, false, false, false, false] rfl rfl (by kernel_rfl) (fun _ _ _ h => h) (Or.inl ⟨by rfl, ?_⟩) ?_ ?_
                  rotate_left
                  · intro w'
                    go_simp
                    with_reducible rfl
                  rotate_left
                  · simp only [Act.put, List.setIfInBounds_toArray, List.set_cons_zero, List.set_cons_succ, i64_w, i32_w]
                    rfl
                  refine pure_ (i := 2) (N := some 57) (v := ?_) (a' := ?_) #[false, true, true, false, false, false, false] rfl rfl (by kernel_rfl) (fun _ _ _ h => h) (Or.inl ⟨by rfl, ?_⟩) ?_ ?_
                  rotate_left
                  · intro w'
                    go_simp
                    with_reducible rfl
                  rotate_left
                  · simp only [Act.put, List.setIfInBounds_toArray, List.set_cons_zero, List.set_cons_succ, i64_w, i32_w]
                    rfl
                  refine pure_ (i := 3) (N := some 58) (v := ?_) (a' := ?_) #[false, true, true, true, false, false, false] rfl rfl (by kernel_rfl) (fun _ _ _ h => h) (Or.inl ⟨by rfl, ?_⟩) ?_ ?_
                  rotate_left
                  · intro w'
                    go_simp
                    with_reducible rfl
                  rotate_left
                  · simp only [Act.put, List.setIfInBounds_toArray, List.set_cons_zero, List.set_cons_succ, i64_w, i32_w]
                    rfl
                  refine take_ (i := 0) (N := some 55) (v := ?_) (a' := ?_) #[true, true, true, true, false, false, false] rfl rfl (by kernel_rfl) (fun _ _ _ h => h) (Or.inl ⟨by rfl, ?_⟩) hHeld ?_ ?_
                  rotate_left
                  · rintro w' ⟨s0, s1, s2, s3, s4, s5, s6, s7⟩
                    go_simp
                    with_reducible rfl
                  rotate_left
                  · simp only [Act.put, List.setIfInBounds_toArray, List.set_cons_zero, List.set_cons_succ, i64_w, i32_w]
                    rfl
                  refine take_ (i := 4) (N := some 59) (v := ?_) (a' := ?_) #[true, true, true, true, true, false, false] rfl rfl (by kernel_rfl) (fun _ _ _ h => h) (Or.inl ⟨by rfl, ?_⟩) hHeld ?_ ?_
                  rotate_left
                  · rintro w' ⟨s0, s1, s2, s3, s4, s5, s6, s7⟩
                    go_simp
                    with_reducible rfl
                  rotate_left
                  · simp only [Act.put, List.setIfInBounds_toArray, List.set_cons_zero, List.set_cons_succ, i64_w, i32_w]
                    rfl
                  refine one_ (i := 5) (N := some 60) #[true, true, true, true, true, true, false] rfl rfl (by kernel_rfl) (by decide) (fun K hK => ?_)
                  refine goes_ Try.func14 (by kernel_rfl) rfl #[.agg #[.bool x287000_1, .string x287001_1, .int .i64 x287002_1], .agg #[.string ((rd_T31 t271 x8_1).f0), .int .i64 ((rd_T31 t271 x8_1).f1), .int .i64 ((rd_T31 t271 x8_1).f2), .string ((rd_T31 t271 x8_1).f3), .int .i64 ((rd_T31 t271 x8_1).f4)]] (by rfl) rfl rfl (by (try simp only [List.map_toArray, List.map_cons, List.map_nil]); first | done | rfl | (simp only [List.length_drop, List.length_take]; rfl)) ?_
                  with_reducible refine (impl_CellDo.calls x287000_1 x287001_1 x287002_1 ((rd_T31 t271 x8_1).f0) ((rd_T31 t271 x8_1).f1) ((rd_T31 t271 x8_1).f2) ((rd_T31 t271 x8_1).f3) ((rd_T31 t271 x8_1).f4) t290 t291 t292 _ A24.out).mono ?_
                  rintro e w26 ⟨rfl, hb⟩
                  have HS3_ := (hb.cell (World.block_lt_of_cell? _ _ (hHeld.2.2.2.1))).trans (hHeld.2.2.2.1)
                  have HS4_ := (hb.cell (World.block_lt_of_cell? _ _ (hHeld.2.2.2.2.1))).trans (hHeld.2.2.2.2.1)
                  have HS5_ := (hb.cell (World.block_lt_of_cell? _ _ (hHeld.2.2.2.2.2.1))).trans (hHeld.2.2.2.2.2.1)
                  have HS6_ := (hb.cell (World.block_lt_of_cell? _ _ (hHeld.2.2.2.2.2.2.1))).trans (hHeld.2.2.2.2.2.2.1)
                  have HS7_ := (hb.cell (World.block_lt_of_cell? _ _ (hHeld.2.2.2.2.2.2.2))).trans (hHeld.2.2.2.2.2.2.2)
                  refine ⟨_, rfl, ?_⟩
                  have n0_ := Aside0.mk (Kd.R_below (by (with_reducible repeat (first | apply Kd.R_alloc | apply Kd.R_drewN | apply Kd.R_drew)); exact HO_3.out) hb)
                  have n1_ := Aside0.mk (blk_below (g := gb279) (o := .cells #[.bool t276, .string t277, .int .i64 t278] 28 (0, 0)) (by (with_reducible repeat (first | refine blk_drewN ?_ _ | refine blk_drew ?_ | refine blk_alloc ?_ _)); exact BK279.out) hb)
                  have n2_ := Aside0.mk (blk_below (g := gb286) (o := .cells #[.bool x287000_1, .string x287001_1, .int .i64 x287002_1] 28 (0, 0)) (by (with_reducible repeat (first | refine blk_drewN ?_ _ | refine blk_drew ?_ | refine blk_alloc ?_ _)); exact BK286.out) hb)
                  have n3_ := Aside0.mk (below_step (by repeat (first | (with_reducible first | exact HB.out | apply below_alloc | apply pw_below_drewN | apply below_drew1 | refine below_set ?_ GE279.out | refine below_set ?_ GE286.out) | exact HB.out)) hb)
                  clear HO_3
                  clear BK279
                  clear BK286
                  clear HB
                  have HO_3 := n0_
                  have BK279 := n1_
                  have BK286 := n2_
                  have HB := n3_
                  clear n0_ n1_ n2_ n3_
                  (try clear hb)
                  (try clear hb2)
                  (try clear hk)
                  (try clear hi)
                  refine hK.out _ _ ⟨(blk_cell BK286.out 0).trans rfl, (blk_cell BK286.out 1).trans rfl, (blk_cell BK286.out 2).trans rfl, HS3_, HS4_, HS5_, HS6_, HS7_⟩ (fun hHeld => ?_)
                  clear hK K
                  refine norm_ (a' := ?_) ?_ ?_
                  rotate_left
                  · show Act.put _ (some 60) _ = _
                    simp only [Act.put, List.setIfInBounds_toArray, List.set_cons_zero, List.set_cons_succ, i64_w, i32_w]
                    rfl
                  refine last_ (i := 6) (N := none) #[true, true, true, true, true, true, true] rfl rfl (by kernel_rfl) (by decide) (fun K hK => ?_)
                  have hs27 : w26.cell? ⟨gb286, 0, none⟩ = some (.bool x287000_1) := (blk_cell BK286.out 0).trans rfl
                  have hfs27 := blk_frozen BK286.out 0
                  have hns27_0 := NB279_286.out
                  have hms27_0 := NB286_279.out
                  have hs28 : w26.cell? ⟨gb286, 1, none⟩ = some (.string x287001_1) := (blk_cell BK286.out 1).trans rfl
                  have hfs28 := blk_frozen BK286.out 1
                  have hns28_0 := NB279_286.out
                  have hms28_0 := NB286_279.out
                  have hs29 : w26.cell? ⟨gb286, 2, none⟩ = some (.int .i64 x287002_1) := (blk_cell BK286.out 2).trans rfl
                  have hfs29 := blk_frozen BK286.out 2
                  have hns29_0 := NB279_286.out
                  have hms29_0 := NB286_279.out
                  refine skip_ (w1 := ?_) (by rfl) rfl ?_ ?_
                  rotate_left
                  · go_simp
                    rfl
                  refine hK.out _ _ ?_
                  clear hK K
                  refine done_ (by kernel_rfl) ?_
                  try go_wp2
                  go_roundg k1
                  case measure => have := HK1.out; omega
                  case rel => exact ⟨(wrap64 (x8_1 + 1)), (t290), (t291), (t292), (by first | rfl | (simp; done) | (simp [*]; done)), H', ⟨by have := HK1.out; omega⟩, ⟨by (with_reducible repeat (first | apply Kd.R_alloc | apply Kd.R_drewN | apply Kd.R_drew)); exact Kd.R_mono (Kd.R_far (p := ⟨gb286, 2, none⟩) (Kd.R_far (p := ⟨gb286, 1, none⟩) (Kd.R_far (p := ⟨gb286, 0, none⟩) (Kd.R_types HO_3.out BK286.out (by decide)) (fun _ hk => hk.2) (.bool t290)) (fun _ hk => hk.2) (.string t291)) (fun _ hk => hk.2) (.int .i64 t292)) (fun _ hk => trivial)⟩, ⟨by (with_reducible repeat (first | refine blk_drewN ?_ _ | refine blk_drew ?_ | refine blk_alloc ?_ _)); refine blk_far ?_ NB279_286.out _; (with_reducible repeat (first | refine blk_drewN ?_ _ | refine blk_drew ?_ | refine blk_alloc ?_ _)); refine blk_far ?_ NB279_286.out _; (with_reducible repeat (first | refine blk_drewN ?_ _ | refine blk_drew ?_ | refine blk_alloc ?_ _)); refine blk_far ?_ NB279_286.out _; (with_reducible repeat (first | refine blk_drewN ?_ _ | refine blk_drew ?_ | refine blk_alloc ?_ _)); exact BK279.out⟩, ⟨by (with_reducible repeat (first | refine blk_drewN ?_ _ | refine blk_drew ?_ | refine blk_alloc ?_ _)); refine blk_put (cs := #[.bool t290, .string t291, .int .i64 x287002_1]) ?_ 2 _ rfl; (with_reducible repeat (first | refine blk_drewN ?_ _ | refine blk_drew ?_ | refine blk_alloc ?_ _)); refine blk_put (cs := #[.bool t290, .string x287001_1, .int .i64 x287002_1]) ?_ 1 _ rfl; (with_reducible repeat (first | refine blk_drewN ?_ _ | refine blk_drew ?_ | refine blk_alloc ?_ _)); refine blk_put (cs := #[.bool x287000_1, .string x287001_1, .int .i64 x287002_1]) ?_ 0 _ rfl; (with_reducible repeat (first | refine blk_drewN ?_ _ | refine blk_drew ?_ | refine blk_alloc ?_ _)); exact BK286.out⟩, ⟨by repeat (first | (with_reducible first | exact HB.out | apply below_alloc | apply pw_below_drewN | apply below_drew1 | refine below_set ?_ GE279.out | refine below_set ?_ GE286.out) | exact HB.out)⟩⟩
                · rw [if_neg c23] at H
                  have c23b0 : (((rd_T31 t271 x8_1).f1) == t273) = false := beq_eq_false_iff_ne.mpr c23
                  have c23b1 : (((rd_T31 t271 x8_1).f1) != t273) = true := bne_iff_ne.mpr c23
                  have H' := Aside0.mk H
                  clear H
                  have p287 : 0 ≤ (x8_1 : Int) := of_decide_eq_true (by first | (with_reducible assumption) | assumption)
                  have q287 : x8_1 < (t271.length : Int) := of_decide_eq_true (by first | (with_reducible assumption) | assumption)
                  obtain ⟨ad287, e287, hx287_0, hx287_1, hx287_2, hx287_3, hx287_4⟩ := at_T31 (Kd.R_reads' HO_3.out).2.2 x8_1 p287 q287
                  cases e287
                  replace p287 := eq_true p287
                  replace q287 := eq_true q287
                  have p288 : 0 ≤ (x8_1 : Int) := of_decide_eq_true (by first | (with_reducible assumption) | assumption)
                  have q288 : x8_1 < (t271.length : Int) := of_decide_eq_true (by first | (with_reducible assumption) | assumption)
                  obtain ⟨ad288, e288, hx288_0, hx288_1, hx288_2, hx288_3, hx288_4⟩ := at_T31 (Kd.R_reads' HO_3.out).2.2 x8_1 p288 q288
                  obtain rfl : ad287 = ad288 := (by injection e288)
                  replace p288 := eq_true p288
                  replace q288 := eq_true q288
                  go_wp2
                  go_roundg k1
                  case measure => have := HK1.out; omega
                  case rel => exact ⟨(wrap64 (x8_1 + 1)), (x287000_1), (x287001_1), (x287002_1), (by first | rfl | (simp; done) | (simp [*]; done)), H', ⟨by have := HK1.out; omega⟩, ⟨by (with_reducible repeat (first | apply Kd.R_alloc | apply Kd.R_drewN | apply Kd.R_drew)); exact HO_3.out⟩, ⟨by (with_reducible repeat (first | refine blk_drewN ?_ _ | refine blk_drew ?_ | refine blk_alloc ?_ _)); exact BK279.out⟩, ⟨by (with_reducible repeat (first | refine blk_drewN ?_ _ | refine blk_drew ?_ | refine blk_alloc ?_ _)); exact BK286.out⟩, ⟨by repeat (first | (with_reducible first | exact HB.out | apply below_alloc | apply pw_below_drewN | apply below_drew1 | refine below_set ?_ GE279.out | refine below_set ?_ GE286.out) | exact HB.out)⟩⟩
              · rw [if_neg c22] at H
                have c22b0 : (((rd_T31 t271 x8_1).f0).toList == t272.toList) = false := beq_eq_false_iff_ne.mpr c22
                have c22b1 : (((rd_T31 t271 x8_1).f0).toList != t272.toList) = true := bne_iff_ne.mpr c22
                have H' := Aside0.mk H
                clear H
                have p287 : 0 ≤ (x8_1 : Int) := of_decide_eq_true (by first | (with_reducible assumption) | assumption)
                have q287 : x8_1 < (t271.length : Int) := of_decide_eq_true (by first | (with_reducible assumption) | assumption)
                obtain ⟨ad287, e287, hx287_0, hx287_1, hx287_2, hx287_3, hx287_4⟩ := at_T31 (Kd.R_reads' HO_3.out).2.2 x8_1 p287 q287
                cases e287
                replace p287 := eq_true p287
                replace q287 := eq_true q287
                go_wp2
                go_roundg k1
                case measure => have := HK1.out; omega
                case rel => exact ⟨(wrap64 (x8_1 + 1)), (x287000_1), (x287001_1), (x287002_1), (by first | rfl | (simp; done) | (simp [*]; done)), H', ⟨by have := HK1.out; omega⟩, ⟨by (with_reducible repeat (first | apply Kd.R_alloc | apply Kd.R_drewN | apply Kd.R_drew)); exact HO_3.out⟩, ⟨by (with_reducible repeat (first | refine blk_drewN ?_ _ | refine blk_drew ?_ | refine blk_alloc ?_ _)); exact BK279.out⟩, ⟨by (with_reducible repeat (first | refine blk_drewN ?_ _ | refine blk_drew ?_ | refine blk_alloc ?_ _)); exact BK286.out⟩, ⟨by repeat (first | (with_reducible first | exact HB.out | apply below_alloc | apply pw_below_drewN | apply below_drew1 | refine below_set ?_ GE279.out | refine below_set ?_ GE286.out) | exact HB.out)⟩⟩
            · rw [if_neg c21] at H
              exact absurd H (by simp)
          · rw [if_neg c20] at H
            have c20b0 : decide (x8_1 < (t271.length : Int)) = false := decide_eq_false c20
            clear c20
            obtain rfl := Option.some.inj H
            have hnb30 := NB279_286.out
            have hnc30 := NB286_279.out
            have hcz31_0 : wr.cell? ⟨gb279, 0, none⟩ = some (.bool t276) := (blk_cell BK279.out 0).trans rfl
            have hcz31_1 : wr.cell? ⟨gb279, 1, none⟩ = some (.string t277) := (blk_cell BK279.out 1).trans rfl
            have hcz31_2 : wr.cell? ⟨gb279, 2, none⟩ = some (.int .i64 t278) := (blk_cell BK279.out 2).trans rfl
            have hfz31_0 := blk_frozen BK279.out 0
            have hfz31_1 := blk_frozen BK279.out 1
            have hfz31_2 := blk_frozen BK279.out 2
            have hcz32_0 : wr.cell? ⟨gb286, 0, none⟩ = some (.bool x287000_1) := (blk_cell BK286.out 0).trans rfl
            have hcz32_1 : wr.cell? ⟨gb286, 1, none⟩ = some (.string x287001_1) := (blk_cell BK286.out 1).trans rfl
            have hcz32_2 : wr.cell? ⟨gb286, 2, none⟩ = some (.int .i64 x287002_1) := (blk_cell BK286.out 2).trans rfl
            have hfz32_0 := blk_frozen BK286.out 0
            have hfz32_1 := blk_frozen BK286.out 1
            have hfz32_2 := blk_frozen BK286.out 2
            go_wp2
            go_ret
            exact ⟨by first | rfl | (simp [errW_none, errW_some] <;> rfl) | (simp [*, errW_none, errW_some] <;> rfl), by repeat (first | (with_reducible first | exact HB.out | apply below_alloc | apply pw_below_drewN | apply below_drew1 | refine below_set ?_ GE279.out | refine below_set ?_ GE286.out) | exact HB.out)⟩

/-- THE ONE PURE STATEMENT of laws_FnCellNext: yours. -/
def laws_FnCellNext.Pure : Prop := ∀ (l0 : List Int), l0.length ≤ maxLen → l0.length * 1 ≤ 140737488351232 → (∀ x ∈ l0, (Lit.int .u8 x).wf = true) → ∃ k, laws_FnCellNext.f k l0 = some true
theorem laws_FnCellNext.walk (P : laws_FnCellNext.Pure) (a0 : Option Addr) (len0 cap0 : Nat) (z0 : List Int) (w : World) (w0 : (a0 = none ∧ len0 = 0 ∧ cap0 = 0 ∧ z0 = []) ∨ ∃ x, a0 = some x ∧ len0 ≤ cap0 ∧ cap0 ≤ maxLen ∧ z0.length = cap0 ∧ (∀ i, i < z0.length → w.cell? (x.add i) = some (.int .u8 (z0.getD i 0))) ∧ ∀ n ∈ z0, (Lit.int .u8 n).wf = true) (y0 : len0 * 1 ≤ 140737488351232) :
    Calls Try.prog 7 #[.slice a0 len0 cap0] w fun e w' => e = .returned (.bool true) ∧ Below w.heap.size w w' := by
  obtain ⟨l0, rfl, hr0, hm0, hw0, hc0⟩ := ReadsInt.ofRowC w0
  obtain ⟨k, h⟩ := P l0 hm0 y0 hw0
  refine (laws_FnCellNext.calls k _ _ l0 true w (Kd.C_of_reads (d := (0 : Int)) (h1 := fun _ => rfl) hr0) hc0 h).mono ?_
  rintro e w' ⟨rfl, hd⟩
  exact ⟨rfl, hd⟩

end Go.Proofs.Ytbdckemcagaldaa.QFnCellNext

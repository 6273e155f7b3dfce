/- What the law FnPost reaches, function by function: what each computes, and that the machine's call comes to it. Laid by a program. -/
import Derived.Test.YtdjohhobmipagaaDoorQFnPostx0
import Derived.Test.YtdjohhobmipagaaDoorQFnPostx1
import Derived.Test.YtdjohhobmipagaaDoorQFnPostx3
import Derived.Test.YtdjohhobmipagaaDoorQFnPostx8
import Derived.Test.YtdjohhobmipagaaDoorQFnPostx9
import Derived.Test.YtdjohhobmipagaaDoorQFnPostx10
import Derived.Test.YtdjohhobmipagaaDoorQFnPostx11
namespace Go.Proofs.YtdjohhobmipagaaDoor.QFnPost
open Go.RowKit Go.Proofs.YtdjohhobmipagaaDoorW.PrintWords Go.Proofs.YtdjohhobmipagaaDoorW.PrintLast Go.Proofs.YtdjohhobmipagaaDoorW.PrintMore
attribute [local go_sem] max2_int min2_int max_two min_two max_three min_three max_four min_four   -- for this text's walks alone
set_option linter.unusedVariables false
set_option linter.unusedSimpArgs false

attribute [local go_sem high] eqA45
/-! ### spec_DrawPostOk: function 36 -/
def spec_DrawPostOk.f (k : Nat) (l0 : List Int) : Option (Int × (List (S45))) := (spec_l9Open.f l0).bind fun bt279 => ((spec_l1Post.f k bt279.1 bt279.2).bind fun bt282 => ((spec_l1Bent.f k bt279.1 bt282.2.2 bt282.1 bt282.2.1).bind fun bt287 => (some (bt287.1, bt287.2.1))))
theorem spec_DrawPostOk.mono : ∀ a0 k, LeO (spec_DrawPostOk.f k a0) (spec_DrawPostOk.f (k + 1) a0) := by
  intro a0 k
  unfold spec_DrawPostOk.f
  repeat' first
      | (with_reducible exact spec_l1Bent.mono _ _ _ _ _)
      | (with_reducible exact spec_l1Post.mono _ _ _)
      | (with_reducible exact LeO.refl _)
      | (with_reducible exact LeO.none _)
      | (with_reducible refine LeO.ite ?_ ?_)
      | (with_reducible refine LeO.bind ?_ (fun _ => ?_))
      | exact spec_l1Bent.mono _ _ _ _ _
      | exact spec_l1Post.mono _ _ _
      | exact LeO.none _
      | refine LeO.ite ?_ ?_
      | refine LeO.bind ?_ (fun _ => ?_)
set_option maxHeartbeats 8000000 in
set_option maxRecDepth 100000 in
theorem spec_DrawPostOk.calls (k : Nat) (A0 : Option Addr) (c0 : Nat) (l0 : List Int) (r1 : Int) (r2 : List (S45)) (w : World) (hr0 : Kd.C (Kd.int .u8) w A0 l0.length l0) (hc0 : l0.length ≤ c0) (h : spec_DrawPostOk.f k l0 = some (r1, r2)) :
    Calls Tryd.prog 36 #[.slice A0 l0.length c0] w fun e w' => ∃ v1_ : Value, e = .returned (.agg #[.int .i64 r1, v1_]) ∧ Kd.R k45 45 w' w.heap.size (fun _ => True) v1_ r2 ∧ Below w.heap.size w w' := by
  have hu29 := Tryd.underlying29
  have HR0 := Aside0.mk hr0
  have HC0 := Aside0.mk hc0
  clear hr0 hc0
  have HB := Aside0.mk (Below.refl w.heap.size w)
  have H : ((spec_l9Open.f l0).bind fun bt279 => ((spec_l1Post.f k bt279.1 bt279.2).bind fun bt282 => ((spec_l1Bent.f k bt279.1 bt282.2.2 bt282.1 bt282.2.1).bind fun bt287 => (some (bt287.1, bt287.2.1))))) = some (r1, r2) := h
  clear h
  replace H := Option.bind_eq_some_iff.mp H
  obtain ⟨⟨t279, t280⟩, A20, H⟩ := H
  replace H : ((spec_l1Post.f k t279 t280).bind fun bt282 => ((spec_l1Bent.f k t279 bt282.2.2 bt282.1 bt282.2.1).bind fun bt287 => (some (bt287.1, bt287.2.1)))) = some (r1, r2) := H
  have A2 := Aside0.mk A20
  clear A20
  replace H := Option.bind_eq_some_iff.mp H
  obtain ⟨⟨t282, t283, t286⟩, A30, H⟩ := H
  replace H : ((spec_l1Bent.f k t279 t286 t282 t283).bind fun bt287 => (some (bt287.1, bt287.2.1))) = some (r1, r2) := H
  have A3 := Aside0.mk A30
  clear A30
  replace H := Option.bind_eq_some_iff.mp H
  obtain ⟨⟨t287, t288, t291⟩, A40, H⟩ := H
  replace H : (some (t287, t288)) = some (r1, r2) := H
  have A4 := Aside0.mk A40
  clear A40
  simp only [Option.some.injEq, Prod.mk.injEq] at H
  obtain ⟨rfl, rfl⟩ := H
  go_enter Tryd.func36, Tryd.ntmps36
  go_wp2_with (first | ((with_reducible refine gate_dst (N := 2) rfl ?_); refine box_event ?hg (N := 2) ?hd (cs := #[.int .i64 0, .slice none 0 0]) (t := 29) ?hr ?_; (case hd => rfl); (case hg => rfl); (case hr => first | (go_simp; done) | (go_simp; rfl)); intro gb278 hg w5 hbox hb; have BK278 := Aside0.mk (hbox); have GW278 := Aside0.mk ((by rw [hg]; exact (below_size (by repeat (first | (with_reducible first | exact HB.out | apply below_alloc | apply pw_below_drewN | apply below_drew1) | exact HB.out))) : w.heap.size ≤ gb278)); have GE278 := Aside0.mk ((by rw [hg]; exact (below_size (by repeat (first | (with_reducible first | exact HB.out | apply below_alloc | apply pw_below_drewN | apply below_drew1) | exact HB.out))) : w.heap.size ≤ gb278)); replace HB := Aside0.mk (below_step (by repeat (first | (with_reducible first | exact HB.out | apply below_alloc | apply pw_below_drewN | apply below_drew1) | exact HB.out)) hb); clear hb hbox hg) | ((with_reducible refine gate_callee (f := 39) rfl ?_); refine goesL_ (some 5) rfl rfl Tryd.func39 (by kernel_rfl) rfl #[.slice A0 l0.length c0] rfl (by (try simp only [List.map_toArray, List.map_cons, List.map_nil]); first | done | rfl | (simp only [List.length_drop, List.length_take]; rfl)) ?_; (with_reducible refine (spec_l9Open.calls _ _ l0 t279 t280 w _ ?side1 ?side2 ?side3 A2.out).mono ?_); (case side1 => repeat (first | (with_reducible first | exact HB.out | apply below_alloc | apply pw_below_drewN | apply below_drew1 | refine below_set ?_ GE278.out) | exact HB.out)); (case side2 => exact HR0.out); (case side3 => exact HC0.out); rintro e w6 ⟨g281, rfl, hi, hb, hb2⟩; refine ⟨_, rfl, ?_⟩; replace HB := Aside0.mk (hb); have HI281 := Aside0.mk (hi); have NB281_278 := Aside0.mk (IsS84.ne_blk hi (blk_below (g := gb278) (o := .cells #[.int .i64 0, .slice none 0 0] 29 (0, 0)) (by (with_reducible repeat (first | refine blk_drewN ?_ _ | refine blk_drew ?_ | refine blk_alloc ?_ _)); exact BK278.out) hb2) (by decide)); have NB278_281 := Aside0.mk (Ne.symm (IsS84.ne_blk hi (blk_below (g := gb278) (o := .cells #[.int .i64 0, .slice none 0 0] 29 (0, 0)) (by (with_reducible repeat (first | refine blk_drewN ?_ _ | refine blk_drew ?_ | refine blk_alloc ?_ _)); exact BK278.out) hb2) (by decide))); replace BK278 := Aside0.mk (blk_below (g := gb278) (o := .cells #[.int .i64 0, .slice none 0 0] 29 (0, 0)) (by (with_reducible repeat (first | refine blk_drewN ?_ _ | refine blk_drew ?_ | refine blk_alloc ?_ _)); exact BK278.out) hb2); (try clear hb); (try clear hb2); (try clear hk); (try clear hi)) | ((with_reducible refine gate_callee (f := 40) rfl ?_); refine goesL_ (some 8) rfl rfl Tryd.func40 (by kernel_rfl) rfl #[.pointer (some ⟨g281, 0, none⟩)] rfl (by (try simp only [List.map_toArray, List.map_cons, List.map_nil]); first | done | rfl | (simp only [List.length_drop, List.length_take]; rfl)) ?_; (with_reducible refine (spec_l1Post.calls k g281 t279 t280 t282 t283 t286 w _ ?side1 ?side2 A3.out).mono ?_); (case side1 => repeat (first | (with_reducible first | exact HI281.out | apply IsS84.alloc | apply IsS84.drewN | apply IsS84.drew | apply IsS84.set_1 | refine IsS84.far ?_ NB281_278.out _) | exact HI281.out)); (case side2 => repeat (first | (with_reducible first | exact HB.out | apply below_alloc | apply pw_below_drewN | apply below_drew1 | refine below_set ?_ (IsS84.ge HI281.out) | refine below_set ?_ GE278.out) | exact HB.out)); rintro e w7 ⟨v284, rfl, ho0, hi, hb, hk⟩; refine ⟨_, rfl, ?_⟩; replace BK278 := Aside0.mk (KeepBut.blk hk (g' := gb278) (o := .cells #[.int .i64 0, .slice none 0 0] 29 (0, 0)) (by (with_reducible repeat (first | refine blk_drewN ?_ _ | refine blk_drew ?_ | refine blk_alloc ?_ _)); exact BK278.out) NB278_281.out (by simp)); have HO285 := Aside0.mk (Kd.R_lower ho0 (below_size (by repeat (first | (with_reducible first | exact HB.out | apply below_alloc | apply pw_below_drewN | apply below_drew1 | refine below_set ?_ (IsS84.ge HI281.out) | refine below_set ?_ GE278.out) | exact HB.out)))); replace HB := Aside0.mk (hb); replace HI281 := Aside0.mk (hi); (try clear hb); (try clear hb2); (try clear hk); (try clear hi); (try clear ho0); obtain ⟨Ao8, co8, eo8⟩ := Kd.R_slice HO285.out; subst eo8) | ((with_reducible refine gate_callee (f := 53) rfl ?_); refine goesL_ (some 9) rfl rfl Tryd.func53 (by kernel_rfl) rfl #[.pointer (some ⟨g281, 0, none⟩), .agg #[.int .i64 t282, .slice Ao8 t283.length co8]] rfl (by (try simp only [List.map_toArray, List.map_cons, List.map_nil]); first | done | rfl | (simp only [List.length_drop, List.length_take]; rfl)) ?_; (with_reducible refine (spec_l1Bent.calls k g281 t279 t286 t282 _ _ t283 t287 t288 t291 w _ ?side1 ?side2 ?side3 ?side4 A4.out).mono ?_); (case side1 => repeat (first | (with_reducible first | exact HI281.out | apply IsS84.alloc | apply IsS84.drewN | apply IsS84.drew | apply IsS84.set_1 | refine IsS84.far ?_ NB281_278.out _) | exact HI281.out)); (case side2 => repeat (first | (with_reducible first | exact HB.out | apply below_alloc | apply pw_below_drewN | apply below_drew1 | refine below_set ?_ (IsS84.ge HI281.out) | refine below_set ?_ GE278.out) | exact HB.out)); (case side3 => exact Kd.C_foot_own (IsS84.apart (show IsS84 w _ g281 t279 t286 from by repeat (first | (with_reducible first | exact HI281.out | apply IsS84.alloc | apply IsS84.drewN | apply IsS84.drew | apply IsS84.set_1 | refine IsS84.far ?_ NB281_278.out _) | exact HI281.out)) (lo_ HO285) (by decide)) (fun _ h_ => h_.2)); (case side4 => exact (Kd.R_reads' HO285.out).2.1); rintro e w9 ⟨v289, rfl, ho0, hi, hb, hk⟩; refine ⟨_, rfl, ?_⟩; replace BK278 := Aside0.mk (KeepBut.blk hk (g' := gb278) (o := .cells #[.int .i64 0, .slice none 0 0] 29 (0, 0)) (by (with_reducible repeat (first | refine blk_drewN ?_ _ | refine blk_drew ?_ | refine blk_alloc ?_ _)); exact BK278.out) NB278_281.out (by simp)); have HO290 := Aside0.mk (Kd.R_lower (Kd.R_new' ho0 (Kd.R_lt (lo_ HO285))) (below_size (by repeat (first | (with_reducible first | exact HB.out | apply below_alloc | apply pw_below_drewN | apply below_drew1 | refine below_set ?_ (IsS84.ge HI281.out) | refine below_set ?_ GE278.out) | exact HB.out)))); replace HO285 := Aside0.mk (Kd.R_mono (Kd.R_told (Kd.R_oldK (IsS84.apart (show IsS84 w _ g281 t279 t286 from by repeat (first | (with_reducible first | exact HI281.out | apply IsS84.alloc | apply IsS84.drewN | apply IsS84.drew | apply IsS84.set_1 | refine IsS84.far ?_ NB281_278.out _) | exact HI281.out)) (lo_ HO285) (by decide)) hk) (Kd.R_base ho0)) (fun _ h_ => h_.1)); replace HB := Aside0.mk (hb); replace HI281 := Aside0.mk (hi); (try clear hb); (try clear hb2); (try clear hk); (try clear hi); (try clear ho0); have hnb10 := NB278_281.out; have hnc10 := NB281_278.out; have hcz11_0 : w9.cell? ⟨gb278, 0, none⟩ = some (.int .i64 0) := (blk_cell BK278.out 0).trans rfl; have hcz11_1 : w9.cell? ⟨gb278, 1, none⟩ = some (.slice none 0 0) := (blk_cell BK278.out 1).trans rfl; have hfz11_0 := blk_frozen BK278.out 0; have hfz11_1 := blk_frozen BK278.out 1; obtain ⟨Ao12, co12, eo12⟩ := Kd.R_slice HO290.out; subst eo12))
  refine bodyPost_ret (results_cell_row rfl _ _ gb278 29 #[.int .i64 t287, .slice Ao12 t288.length co12] (0, 0) _ rfl (by (with_reducible repeat (first | refine blk_drewN ?_ _ | refine blk_drew ?_ | refine blk_alloc ?_ _)); refine blk_put (cs := #[.int .i64 t287, .slice none 0 0]) ?_ 1 _ rfl; (with_reducible repeat (first | refine blk_drewN ?_ _ | refine blk_drew ?_ | refine blk_alloc ?_ _)); refine blk_put (cs := #[.int .i64 0, .slice none 0 0]) ?_ 0 _ rfl; (with_reducible repeat (first | refine blk_drewN ?_ _ | refine blk_drew ?_ | refine blk_alloc ?_ _)); exact BK278.out) Tryd.underlying29 rfl (by kernel_rfl)) rfl ?_
  exact ⟨_, by first | rfl | (simp [errW_none, errW_some] <;> rfl) | (simp [*, errW_none, errW_some] <;> rfl), by (with_reducible repeat (first | apply Kd.R_alloc | apply Kd.R_drewN | apply Kd.R_drew)); exact Kd.R_mono (Kd.R_far (p := ⟨gb278, 1, none⟩) (Kd.R_far (p := ⟨gb278, 0, none⟩) (Kd.R_types HO290.out BK278.out (by decide)) (fun _ hk => hk.2) (.int .i64 t287)) (fun _ hk => hk.2) (.slice Ao12 t288.length co12)) (fun _ hk => trivial), by repeat (first | (with_reducible first | exact HB.out | apply below_alloc | apply pw_below_drewN | apply below_drew1 | refine below_set ?_ (IsS84.ge HI281.out) | refine below_set ?_ GE278.out) | exact HB.out)⟩

/-! ### spec_DrawPostText: function 15 -/
def spec_DrawPostText.f (k : Nat) (l0 : List Int) : Option (Int × (List (S45))) := (spec_DrawPostOk.f k l0).bind fun bt293 => (some (bt293.1, bt293.2))
theorem spec_DrawPostText.mono : ∀ a0 k, LeO (spec_DrawPostText.f k a0) (spec_DrawPostText.f (k + 1) a0) := by
  intro a0 k
  unfold spec_DrawPostText.f
  repeat' first
      | (with_reducible exact spec_DrawPostOk.mono _ _)
      | (with_reducible exact LeO.refl _)
      | (with_reducible exact LeO.none _)
      | (with_reducible refine LeO.ite ?_ ?_)
      | (with_reducible refine LeO.bind ?_ (fun _ => ?_))
      | exact spec_DrawPostOk.mono _ _
      | exact LeO.none _
      | refine LeO.ite ?_ ?_
      | refine LeO.bind ?_ (fun _ => ?_)
set_option maxHeartbeats 8000000 in
set_option maxRecDepth 100000 in
theorem spec_DrawPostText.calls (k : Nat) (A0 : Option Addr) (c0 : Nat) (l0 : List Int) (r1 : Int) (r2 : List (S45)) (w : World) (hr0 : Kd.C (Kd.int .u8) w A0 l0.length l0) (hc0 : l0.length ≤ c0) (h : spec_DrawPostText.f k l0 = some (r1, r2)) :
    Calls Tryd.prog 15 #[.slice A0 l0.length c0] w fun e w' => ∃ v1_ : Value, e = .returned (.agg #[.int .i64 r1, v1_]) ∧ Kd.R k45 45 w' w.heap.size (fun _ => True) v1_ r2 ∧ Below w.heap.size w w' := by
  have hu29 := Tryd.underlying29
  have HR0 := Aside0.mk hr0
  have HC0 := Aside0.mk hc0
  clear hr0 hc0
  have HB := Aside0.mk (Below.refl w.heap.size w)
  have H : ((spec_DrawPostOk.f k l0).bind fun bt293 => (some (bt293.1, bt293.2))) = some (r1, r2) := h
  clear h
  replace H := Option.bind_eq_some_iff.mp H
  obtain ⟨⟨t293, t294⟩, A20, H⟩ := H
  replace H : (some (t293, t294)) = some (r1, r2) := H
  have A2 := Aside0.mk A20
  clear A20
  simp only [Option.some.injEq, Prod.mk.injEq] at H
  obtain ⟨rfl, rfl⟩ := H
  go_enter Tryd.func15, Tryd.ntmps15
  go_wp2_with (first | ((with_reducible refine gate_dst (N := 2) rfl ?_); refine box_event ?hg (N := 2) ?hd (cs := #[.int .i64 0, .slice none 0 0]) (t := 29) ?hr ?_; (case hd => rfl); (case hg => rfl); (case hr => first | (go_simp; done) | (go_simp; rfl)); intro gb292 hg w3 hbox hb; have BK292 := Aside0.mk (hbox); have GW292 := Aside0.mk ((by rw [hg]; exact (below_size (by repeat (first | (with_reducible first | exact HB.out | apply below_alloc | apply pw_below_drewN | apply below_drew1) | exact HB.out))) : w.heap.size ≤ gb292)); have GE292 := Aside0.mk ((by rw [hg]; exact (below_size (by repeat (first | (with_reducible first | exact HB.out | apply below_alloc | apply pw_below_drewN | apply below_drew1) | exact HB.out))) : w.heap.size ≤ gb292)); replace HB := Aside0.mk (below_step (by repeat (first | (with_reducible first | exact HB.out | apply below_alloc | apply pw_below_drewN | apply below_drew1) | exact HB.out)) hb); clear hb hbox hg) | ((with_reducible refine gate_callee (f := 36) rfl ?_); refine goesL_ (some 4) rfl rfl Tryd.func36 (by kernel_rfl) rfl #[.slice A0 l0.length c0] rfl (by (try simp only [List.map_toArray, List.map_cons, List.map_nil]); first | done | rfl | (simp only [List.length_drop, List.length_take]; rfl)) ?_; (with_reducible refine (spec_DrawPostOk.calls k _ _ l0 t293 t294 _ ?side1 ?side2 A2.out).mono ?_); (case side1 => repeat (first | exact (Kd.C_below HR0.out HB.out) | (with_reducible refine Kd.C_alloc ?_ _) | (with_reducible refine Kd.C_drewN ?_ _) | (with_reducible refine Kd.C_drew ?_))); (case side2 => exact HC0.out); rintro e w4 ⟨v295, rfl, ho0, hb⟩; refine ⟨_, rfl, ?_⟩; have HO296 := Aside0.mk (Kd.R_lower ho0 (below_size (by repeat (first | (with_reducible first | exact HB.out | apply below_alloc | apply pw_below_drewN | apply below_drew1 | refine below_set ?_ GE292.out) | exact HB.out)))); replace BK292 := Aside0.mk (blk_below (g := gb292) (o := .cells #[.int .i64 0, .slice none 0 0] 29 (0, 0)) (by (with_reducible repeat (first | refine blk_drewN ?_ _ | refine blk_drew ?_ | refine blk_alloc ?_ _)); exact BK292.out) hb); replace HB := Aside0.mk (below_step (by repeat (first | (with_reducible first | exact HB.out | apply below_alloc | apply pw_below_drewN | apply below_drew1 | refine below_set ?_ GE292.out) | exact HB.out)) hb); (try clear hb); (try clear hb2); (try clear hk); (try clear hi); (try clear ho0); have hcz5_0 : w4.cell? ⟨gb292, 0, none⟩ = some (.int .i64 0) := (blk_cell BK292.out 0).trans rfl; have hcz5_1 : w4.cell? ⟨gb292, 1, none⟩ = some (.slice none 0 0) := (blk_cell BK292.out 1).trans rfl; have hfz5_0 := blk_frozen BK292.out 0; have hfz5_1 := blk_frozen BK292.out 1; obtain ⟨Ao6, co6, eo6⟩ := Kd.R_slice HO296.out; subst eo6))
  refine bodyPost_ret (results_cell_row rfl _ _ gb292 29 #[.int .i64 t293, .slice Ao6 t294.length co6] (0, 0) _ rfl (by (with_reducible repeat (first | refine blk_drewN ?_ _ | refine blk_drew ?_ | refine blk_alloc ?_ _)); refine blk_put (cs := #[.int .i64 t293, .slice none 0 0]) ?_ 1 _ rfl; (with_reducible repeat (first | refine blk_drewN ?_ _ | refine blk_drew ?_ | refine blk_alloc ?_ _)); refine blk_put (cs := #[.int .i64 0, .slice none 0 0]) ?_ 0 _ rfl; (with_reducible repeat (first | refine blk_drewN ?_ _ | refine blk_drew ?_ | refine blk_alloc ?_ _)); exact BK292.out) Tryd.underlying29 rfl (by kernel_rfl)) rfl ?_
  exact ⟨_, by first | rfl | (simp [errW_none, errW_some] <;> rfl) | (simp [*, errW_none, errW_some] <;> rfl), by (with_reducible repeat (first | apply Kd.R_alloc | apply Kd.R_drewN | apply Kd.R_drew)); exact Kd.R_mono (Kd.R_far (p := ⟨gb292, 1, none⟩) (Kd.R_far (p := ⟨gb292, 0, none⟩) (Kd.R_types HO296.out BK292.out (by decide)) (fun _ hk => hk.2) (.int .i64 t293)) (fun _ hk => hk.2) (.slice Ao6 t294.length co6)) (fun _ hk => trivial), by repeat (first | (with_reducible first | exact HB.out | apply below_alloc | apply pw_below_drewN | apply below_drew1 | refine below_set ?_ GE292.out) | exact HB.out)⟩

/-! ### impl_PostSame: function 18 -/
mutual
def impl_PostSame.j0 : Nat → Bool → Int → List (S45) → Int → List (S45) → Option (Bool)
  | 0, _, _, _, _, _ => none
  | k + 1, x20, x298000, x298001, x299000, x299001 => if x20 = true then (some false) else (impl_PostSame.l0 k x298001 (x298001.length : Int) 0 x299000 x299001)
def impl_PostSame.l0 : Nat → List (S45) → Int → Int → Int → List (S45) → Option (Bool)
  | 0, _, _, _, _, _ => none
  | k + 1, x22, x23, x24, x299000, x299001 => if x24 < x23 then (if 0 ≤ x24 then (if x24 < (x22.length : Int) then (if x24 < (x299001.length : Int) then (if (!((((rd_T45 x22 x24).f0).toList) == (((rd_T45 x299001 x24).f0).toList)) || (!(((rd_T45 x22 x24).f1) == ((rd_T45 x299001 x24).f1)) || (!(((rd_T45 x22 x24).f2) == ((rd_T45 x299001 x24).f2))))) = true then (some false) else (impl_PostSame.l0 k x22 x23 (wrap64 (x24 + 1)) x299000 x299001)) else (none)) else (none)) else (none)) else (some true)
end
def impl_PostSame.f (k : Nat) (a0_0 : Int) (l0_1 : List (S45)) (a1_0 : Int) (l1_1 : List (S45)) : Option (Bool) := if a0_0 = a1_0 then (impl_PostSame.j0 k ((l0_1.length : Int) != (l1_1.length : Int)) a0_0 l0_1 a1_0 l1_1) else (impl_PostSame.j0 k true a0_0 l0_1 a1_0 l1_1)
theorem impl_PostSame.mono_l : ∀ k, (∀ y0 y1 y2 y3 y4, LeO (impl_PostSame.j0 k y0 y1 y2 y3 y4) (impl_PostSame.j0 (k + 1) y0 y1 y2 y3 y4)) ∧ (∀ y0 y1 y2 y3 y4, LeO (impl_PostSame.l0 k y0 y1 y2 y3 y4) (impl_PostSame.l0 (k + 1) y0 y1 y2 y3 y4))
  | 0 => ⟨fun _ _ _ _ _ r h => by simp [impl_PostSame.j0] at h, fun _ _ _ _ _ r h => by simp [impl_PostSame.l0] at h⟩
  | k + 1 => by
    obtain ⟨ih0, ih1⟩ := impl_PostSame.mono_l k
    refine ⟨?_, ?_⟩
    · intro y0 y1 y2 y3 y4
      unfold impl_PostSame.j0
      repeat' first
      | (with_reducible exact ih0 _ _ _ _ _)
      | (with_reducible exact ih1 _ _ _ _ _)
      | (with_reducible exact LeO.refl _)
      | (with_reducible exact LeO.none _)
      | (with_reducible refine LeO.ite ?_ ?_)
      | (with_reducible refine LeO.bind ?_ (fun _ => ?_))
      | exact ih0 _ _ _ _ _
      | exact ih1 _ _ _ _ _
      | exact LeO.none _
      | refine LeO.ite ?_ ?_
      | refine LeO.bind ?_ (fun _ => ?_)
    · intro y0 y1 y2 y3 y4
      unfold impl_PostSame.l0
      repeat' first
      | (with_reducible exact ih0 _ _ _ _ _)
      | (with_reducible exact ih1 _ _ _ _ _)
      | (with_reducible exact LeO.refl _)
      | (with_reducible exact LeO.none _)
      | (with_reducible refine LeO.ite ?_ ?_)
      | (with_reducible refine LeO.bind ?_ (fun _ => ?_))
      | exact ih0 _ _ _ _ _
      | exact ih1 _ _ _ _ _
      | exact LeO.none _
      | refine LeO.ite ?_ ?_
      | refine LeO.bind ?_ (fun _ => ?_)
theorem impl_PostSame.mono : ∀ a0 a1 a2 a3 k, LeO (impl_PostSame.f k a0 a1 a2 a3) (impl_PostSame.f (k + 1) a0 a1 a2 a3) := by
  intro a0 a1 a2 a3 k
  obtain ⟨ih0, ih1⟩ := impl_PostSame.mono_l k
  unfold impl_PostSame.f
  repeat' first
      | (with_reducible exact ih0 _ _ _ _ _)
      | (with_reducible exact ih1 _ _ _ _ _)
      | (with_reducible exact LeO.refl _)
      | (with_reducible exact LeO.none _)
      | (with_reducible refine LeO.ite ?_ ?_)
      | (with_reducible refine LeO.bind ?_ (fun _ => ?_))
      | exact ih0 _ _ _ _ _
      | exact ih1 _ _ _ _ _
      | exact LeO.none _
      | refine LeO.ite ?_ ?_
      | refine LeO.bind ?_ (fun _ => ?_)
theorem impl_PostSame_vb {p q : Prop} (h : Aside0 p) (k : p → q := by (intro hz; (with_reducible repeat (first | refine blk_drewN ?_ _ | refine blk_drew ?_ | refine blk_alloc ?_ _)); exact hz)) : q := k h.out
theorem impl_PostSame_auHB {q : Prop} (h : q := by (repeat (first | (with_reducible first | exact HB.out | apply below_alloc | apply pw_below_drewN | apply below_drew1 | refine below_set ?_ GE297.out | refine below_set ?_ GE298.out | refine below_set ?_ GE300.out) | exact HB.out))) : q := h
set_option maxHeartbeats 8000000 in
set_option maxRecDepth 100000 in
theorem impl_PostSame.calls (k : Nat) (a0_0 : Int) (A0_1 : Option Addr) (c0_1 : Nat) (l0_1 : List (S45)) (a1_0 : Int) (A1_1 : Option Addr) (c1_1 : Nat) (l1_1 : List (S45)) (r : Bool) (w : World) (hr0_1 : Kd.C k45 w A0_1 l0_1.length l0_1) (hc0_1 : l0_1.length ≤ c0_1) (hr1_1 : Kd.C k45 w A1_1 l1_1.length l1_1) (hc1_1 : l1_1.length ≤ c1_1) (h : impl_PostSame.f k a0_0 l0_1 a1_0 l1_1 = some r) :
  Calls Tryd.prog 18 #[.agg #[.int .i64 a0_0, .slice A0_1 l0_1.length c0_1], .agg #[.int .i64 a1_0, .slice A1_1 l1_1.length c1_1]] w fun e w' => e = .returned (.bool r) ∧ Below w.heap.size w w' := by
 have hu29 := Tryd.underlying29
 have hu45 := Tryd.underlying45
 have HR0_1 := Aside0.mk hr0_1
 have HC0_1 := Aside0.mk hc0_1
 clear hr0_1 hc0_1
 have HR1_1 := Aside0.mk hr1_1
 have HC1_1 := Aside0.mk hc1_1
 clear hr1_1 hc1_1
 have HB := Aside0.mk (Below.refl w.heap.size w)
 have H : (if a0_0 = a1_0 then (impl_PostSame.j0 k ((l0_1.length : Int) != (l1_1.length : Int)) a0_0 l0_1 a1_0 l1_1) else (impl_PostSame.j0 k true a0_0 l0_1 a1_0 l1_1)) = some r := h
 clear h
 have HC3 := Aside0.mk H
 clear H
 go_enter Tryd.func18, Tryd.ntmps18
 go_upto_region 1 with (first | ((with_reducible refine gate_dst (N := 2) rfl ?_); (try (refine gate_guard (by rfl) ?_; dsimp only)); refine box_event ?hg (N := 2) ?hd (cs := #[.int .i64 a0_0, .slice A0_1 l0_1.length c0_1]) (t := 29) ?hr ?_; (case hd => rfl); (case hg => rfl); (case hr => first | (go_simp; done) | (go_simp; rfl)); intro gb297 hg w4 hbox hb; have BK297 := Aside0.mk (hbox); have GW297 := Aside0.mk ((by rw [hg]; exact (below_size (impl_PostSame_auHB)) : w.heap.size ≤ gb297)); have GE297 := Aside0.mk ((by rw [hg]; exact (below_size (impl_PostSame_auHB)) : w.heap.size ≤ gb297)); replace HB := Aside0.mk (below_step (impl_PostSame_auHB) hb); clear hb hbox hg) | ((with_reducible refine gate_dst (N := 3) rfl ?_); (try (refine gate_guard (by rfl) ?_; dsimp only)); refine box_event ?hg (N := 3) ?hd (cs := #[.int .i64 a1_0, .slice A1_1 l1_1.length c1_1]) (t := 29) ?hr ?_; (case hd => rfl); (case hg => rfl); (case hr => first | (go_simp; done) | (go_simp; rfl)); intro gb298 hg w5 hbox hb; have BK298 := Aside0.mk (hbox); have GW298 := Aside0.mk ((by rw [hg]; exact (below_size (impl_PostSame_auHB)) : w.heap.size ≤ gb298)); have GE298 := Aside0.mk ((by rw [hg]; exact (below_size (impl_PostSame_auHB)) : w.heap.size ≤ gb298)); replace HB := Aside0.mk (below_step (impl_PostSame_auHB) hb); have NB297_298 := Aside0.mk ((by rw [hg]; exact Nat.ne_of_lt (blk_lt (g := gb297) (o := .cells #[.int .i64 a0_0, .slice A0_1 l0_1.length c0_1] 29 (0, 0)) (impl_PostSame_vb BK297)) : gb297 ≠ gb298)); have NB298_297 := Aside0.mk ((by rw [hg]; exact Nat.ne_of_gt (blk_lt (g := gb297) (o := .cells #[.int .i64 a0_0, .slice A0_1 l0_1.length c0_1] 29 (0, 0)) (impl_PostSame_vb BK297)) : gb298 ≠ gb297)); replace BK297 := Aside0.mk (blk_below (g := gb297) (o := .cells #[.int .i64 a0_0, .slice A0_1 l0_1.length c0_1] 29 (0, 0)) (impl_PostSame_vb BK297) hb); clear hb hbox hg))
 repeat (go_quiet (first | ((with_reducible refine gate_dst (N := 2) rfl ?_); (try (refine gate_guard (by rfl) ?_; dsimp only)); refine box_event ?hg (N := 2) ?hd (cs := #[.int .i64 a0_0, .slice A0_1 l0_1.length c0_1]) (t := 29) ?hr ?_; (case hd => rfl); (case hg => rfl); (case hr => first | (go_simp; done) | (go_simp; rfl)); intro gb297 hg w4 hbox hb; have BK297 := Aside0.mk (hbox); have GW297 := Aside0.mk ((by rw [hg]; exact (below_size (impl_PostSame_auHB)) : w.heap.size ≤ gb297)); have GE297 := Aside0.mk ((by rw [hg]; exact (below_size (impl_PostSame_auHB)) : w.heap.size ≤ gb297)); replace HB := Aside0.mk (below_step (impl_PostSame_auHB) hb); clear hb hbox hg) | ((with_reducible refine gate_dst (N := 3) rfl ?_); (try (refine gate_guard (by rfl) ?_; dsimp only)); refine box_event ?hg (N := 3) ?hd (cs := #[.int .i64 a1_0, .slice A1_1 l1_1.length c1_1]) (t := 29) ?hr ?_; (case hd => rfl); (case hg => rfl); (case hr => first | (go_simp; done) | (go_simp; rfl)); intro gb298 hg w5 hbox hb; have BK298 := Aside0.mk (hbox); have GW298 := Aside0.mk ((by rw [hg]; exact (below_size (impl_PostSame_auHB)) : w.heap.size ≤ gb298)); have GE298 := Aside0.mk ((by rw [hg]; exact (below_size (impl_PostSame_auHB)) : w.heap.size ≤ gb298)); replace HB := Aside0.mk (below_step (impl_PostSame_auHB) hb); have NB297_298 := Aside0.mk ((by rw [hg]; exact Nat.ne_of_lt (blk_lt (g := gb297) (o := .cells #[.int .i64 a0_0, .slice A0_1 l0_1.length c0_1] 29 (0, 0)) (impl_PostSame_vb BK297)) : gb297 ≠ gb298)); have NB298_297 := Aside0.mk ((by rw [hg]; exact Nat.ne_of_gt (blk_lt (g := gb297) (o := .cells #[.int .i64 a0_0, .slice A0_1 l0_1.length c0_1] 29 (0, 0)) (impl_PostSame_vb BK297)) : gb298 ≠ gb297)); replace BK297 := Aside0.mk (blk_below (g := gb297) (o := .cells #[.int .i64 a0_0, .slice A0_1 l0_1.length c0_1] 29 (0, 0)) (impl_PostSame_vb BK297) hb); clear hb hbox hg)); go_upto_region 1 with (first | ((with_reducible refine gate_dst (N := 2) rfl ?_); (try (refine gate_guard (by rfl) ?_; dsimp only)); refine box_event ?hg (N := 2) ?hd (cs := #[.int .i64 a0_0, .slice A0_1 l0_1.length c0_1]) (t := 29) ?hr ?_; (case hd => rfl); (case hg => rfl); (case hr => first | (go_simp; done) | (go_simp; rfl)); intro gb297 hg w4 hbox hb; have BK297 := Aside0.mk (hbox); have GW297 := Aside0.mk ((by rw [hg]; exact (below_size (impl_PostSame_auHB)) : w.heap.size ≤ gb297)); have GE297 := Aside0.mk ((by rw [hg]; exact (below_size (impl_PostSame_auHB)) : w.heap.size ≤ gb297)); replace HB := Aside0.mk (below_step (impl_PostSame_auHB) hb); clear hb hbox hg) | ((with_reducible refine gate_dst (N := 3) rfl ?_); (try (refine gate_guard (by rfl) ?_; dsimp only)); refine box_event ?hg (N := 3) ?hd (cs := #[.int .i64 a1_0, .slice A1_1 l1_1.length c1_1]) (t := 29) ?hr ?_; (case hd => rfl); (case hg => rfl); (case hr => first | (go_simp; done) | (go_simp; rfl)); intro gb298 hg w5 hbox hb; have BK298 := Aside0.mk (hbox); have GW298 := Aside0.mk ((by rw [hg]; exact (below_size (impl_PostSame_auHB)) : w.heap.size ≤ gb298)); have GE298 := Aside0.mk ((by rw [hg]; exact (below_size (impl_PostSame_auHB)) : w.heap.size ≤ gb298)); replace HB := Aside0.mk (below_step (impl_PostSame_auHB) hb); have NB297_298 := Aside0.mk ((by rw [hg]; exact Nat.ne_of_lt (blk_lt (g := gb297) (o := .cells #[.int .i64 a0_0, .slice A0_1 l0_1.length c0_1] 29 (0, 0)) (impl_PostSame_vb BK297)) : gb297 ≠ gb298)); have NB298_297 := Aside0.mk ((by rw [hg]; exact Nat.ne_of_gt (blk_lt (g := gb297) (o := .cells #[.int .i64 a0_0, .slice A0_1 l0_1.length c0_1] 29 (0, 0)) (impl_PostSame_vb BK297)) : gb298 ≠ gb297)); replace BK297 := Aside0.mk (blk_below (g := gb297) (o := .cells #[.int .i64 a0_0, .slice A0_1 l0_1.length c0_1] 29 (0, 0)) (impl_PostSame_vb BK297) hb); clear hb hbox hg)))
 (try simp only [Act.put, List.setIfInBounds_toArray, List.set_cons_zero, List.set_cons_succ])
 go_cut [20] (fun v20 wc => ∃ (kq : Nat) (x20_2 : Bool), v20 = .bool x20_2 ∧ Aside0 (impl_PostSame.j0 kq x20_2 a0_0 l0_1 a1_0 l1_1 = some r) ∧ Aside0 (kq ≤ k) ∧ Aside0 (wc.heap[gb297]? = some (.cells #[.int .i64 a0_0, (.slice A0_1 l0_1.length c0_1)] 29 (0, 0))) ∧ Aside0 (wc.heap[gb298]? = some (.cells #[.int .i64 a1_0, (.slice A1_1 l1_1.length c1_1)] 29 (0, 0))) ∧ Aside0 (Below w.heap.size w wc))
 case first =>
  have H := HC3.out
  clear HC3
  by_cases c6 : a0_0 = a1_0
  rotate_left
  ·
   rw [if_neg c6] at H
   have c6b0 : (a0_0 == a1_0) = false := beq_eq_false_iff_ne.mpr c6
   have c6b1 : (a0_0 != a1_0) = true := bne_iff_ne.mpr c6
   (first | rw [c6b0] | (simp only [i64_w, i32_w]; rw [c6b0]) | skip)
   have H' := Aside0.mk H
   clear H
   have hnb10 := NB297_298.out
   have hnc10 := NB298_297.out
   have hcz11_0 : w5.cell? ⟨gb297, 0, none⟩ = some (.int .i64 a0_0) := (blk_cell BK297.out 0).trans rfl
   have hcz11_1 : w5.cell? ⟨gb297, 1, none⟩ = some (.slice A0_1 l0_1.length c0_1) := (blk_cell BK297.out 1).trans rfl
   have hfz11_0 := blk_frozen BK297.out 0
   have hfz11_1 := blk_frozen BK297.out 1
   have hcz12_0 : w5.cell? ⟨gb298, 0, none⟩ = some (.int .i64 a1_0) := (blk_cell BK298.out 0).trans rfl
   have hcz12_1 : w5.cell? ⟨gb298, 1, none⟩ = some (.slice A1_1 l1_1.length c1_1) := (blk_cell BK298.out 1).trans rfl
   have hfz12_0 := blk_frozen BK298.out 0
   have hfz12_1 := blk_frozen BK298.out 1
   go_wp2
   repeat (go_quiet (fail); try go_wp2)
   go_meet
   case rel => exact ⟨_, (true), (by first | rfl | (simp; done) | (simp [*]; done)), H', ⟨by first | omega | exact Nat.le_refl _⟩, ⟨by (with_reducible repeat (first | refine blk_drewN ?_ _ | refine blk_drew ?_ | refine blk_alloc ?_ _)); exact BK297.out⟩, ⟨by (with_reducible repeat (first | refine blk_drewN ?_ _ | refine blk_drew ?_ | refine blk_alloc ?_ _)); exact BK298.out⟩, ⟨impl_PostSame_auHB⟩⟩
  rw [if_pos c6] at H
  have c6b0 : (a0_0 == a1_0) = true := beq_iff_eq.mpr c6
  have c6b1 : (a0_0 != a1_0) = false := bne_eq_false_iff_eq.mpr c6
  clear c6
  (first | rw [c6b0] | (simp only [i64_w, i32_w]; rw [c6b0]) | skip)
  have H' := Aside0.mk H
  clear H
  have hnb7 := NB297_298.out
  have hnc7 := NB298_297.out
  have hcz8_0 : w5.cell? ⟨gb297, 0, none⟩ = some (.int .i64 a0_0) := (blk_cell BK297.out 0).trans rfl
  have hcz8_1 : w5.cell? ⟨gb297, 1, none⟩ = some (.slice A0_1 l0_1.length c0_1) := (blk_cell BK297.out 1).trans rfl
  have hfz8_0 := blk_frozen BK297.out 0
  have hfz8_1 := blk_frozen BK297.out 1
  have hcz9_0 : w5.cell? ⟨gb298, 0, none⟩ = some (.int .i64 a1_0) := (blk_cell BK298.out 0).trans rfl
  have hcz9_1 : w5.cell? ⟨gb298, 1, none⟩ = some (.slice A1_1 l1_1.length c1_1) := (blk_cell BK298.out 1).trans rfl
  have hfz9_0 := blk_frozen BK298.out 0
  have hfz9_1 := blk_frozen BK298.out 1
  go_wp2
  repeat (go_quiet (fail); try go_wp2)
  go_meet
  case rel => exact ⟨_, (((l0_1.length : Int) != (l1_1.length : Int))), (by first | rfl | (simp; done) | (simp [*]; done)), H', ⟨by first | omega | exact Nat.le_refl _⟩, ⟨by (with_reducible repeat (first | refine blk_drewN ?_ _ | refine blk_drew ?_ | refine blk_alloc ?_ _)); exact BK297.out⟩, ⟨by (with_reducible repeat (first | refine blk_drewN ?_ _ | refine blk_drew ?_ | refine blk_alloc ?_ _)); exact BK298.out⟩, ⟨impl_PostSame_auHB⟩⟩
 case rest =>
  clear HC3
  try clear c1
  try clear p2
  try clear c6
  try clear c6b0
  try clear c6b1
  try clear c7
  try clear c10
  try clear hcz11_0
  try clear hcz11_1
  try clear hcz12_0
  try clear hcz12_1
  try clear hcz8_0
  try clear hcz8_1
  try clear hcz9_0
  try clear hcz9_1
  try clear hfz11_0
  try clear hfz11_1
  try clear hfz12_0
  try clear hfz12_1
  try clear hfz8_0
  try clear hfz8_1
  try clear hfz9_0
  try clear hfz9_1
  obtain ⟨kq, x20_2, rfl, HA, HJ2, BK297, BK298, HB⟩ := hcut
  cases kq with
  | zero => exact absurd HA.out (by simp [impl_PostSame.j0])
  | succ kj2 =>
   have H := HA.out
   clear HA
   simp only [impl_PostSame.j0] at H
   by_cases c13 : x20_2 = true
   ·
    subst c13
    have H1 : (some false) = some r := by rw [if_pos rfl] at H; exact H
    clear H
    have H := H1
    clear H1
    obtain rfl := Option.some.inj H
    go_wp2
    repeat (go_quiet (fail); try go_wp2)
    go_ret
    exact ⟨by first | rfl | (simp [errW_none, errW_some] <;> rfl) | (simp [*, errW_none, errW_some] <;> rfl), impl_PostSame_auHB⟩
   replace c13 := Bool.eq_false_iff.mpr c13
   subst c13
   have H1 : (impl_PostSame.l0 kj2 l0_1 (l0_1.length : Int) 0 a1_0 l1_1) = some r := by rw [if_neg (show ¬ (false = true) by decide)] at H; exact H
   clear H
   have H := H1
   clear H1
   have H' := Aside0.mk H
   clear H
   have hnb14 := NB297_298.out
   have hnc14 := NB298_297.out
   have hcz15_0 : wc.cell? ⟨gb297, 0, none⟩ = some (.int .i64 a0_0) := (blk_cell BK297.out 0).trans rfl
   have hcz15_1 : wc.cell? ⟨gb297, 1, none⟩ = some (.slice A0_1 l0_1.length c0_1) := (blk_cell BK297.out 1).trans rfl
   have hfz15_0 := blk_frozen BK297.out 0
   have hfz15_1 := blk_frozen BK297.out 1
   go_wp2
   repeat (go_quiet (fail); try go_wp2)
   go_loopg [24] kj2 (fun kq v24 w' => ∃ (x24_2 : Int), v24 = .int .i64 x24_2 ∧ Aside0 (impl_PostSame.l0 kq l0_1 (l0_1.length : Int) x24_2 a1_0 l1_1 = some r) ∧ Aside0 (kq ≤ kj2) ∧ Aside0 (w'.heap[gb297]? = some (.cells #[.int .i64 a0_0, (.slice A0_1 l0_1.length c0_1)] 29 (0, 0))) ∧ Aside0 (w'.heap[gb298]? = some (.cells #[.int .i64 a1_0, (.slice A1_1 l1_1.length c1_1)] 29 (0, 0))) ∧ Aside0 (Below w.heap.size w w'))
   case atStart => exact ⟨(0), (by first | rfl | (simp; done) | (simp [*]; done)), H', ⟨Nat.le_refl _⟩, ⟨by (with_reducible repeat (first | refine blk_drewN ?_ _ | refine blk_drew ?_ | refine blk_alloc ?_ _)); exact BK297.out⟩, ⟨by (with_reducible repeat (first | refine blk_drewN ?_ _ | refine blk_drew ?_ | refine blk_alloc ?_ _)); exact BK298.out⟩, ⟨impl_PostSame_auHB⟩⟩
   case round =>
    clear H'
    try clear c1
    try clear p2
    try clear c6
    try clear c6b0
    try clear c6b1
    try clear c7
    try clear c10
    try clear c13
    try clear c14
    try clear hcz11_0
    try clear hcz11_1
    try clear hcz12_0
    try clear hcz12_1
    try clear hcz15_0
    try clear hcz15_1
    try clear hcz8_0
    try clear hcz8_1
    try clear hcz9_0
    try clear hcz9_1
    try clear hfz11_0
    try clear hfz11_1
    try clear hfz12_0
    try clear hfz12_1
    try clear hfz15_0
    try clear hfz15_1
    try clear hfz8_0
    try clear hfz8_1
    try clear hfz9_0
    try clear hfz9_1
    try clear p2
    obtain ⟨x24_2, rfl, HA, HK2, BK297, BK298, HB⟩ := hrel
    cases gk with
    | zero => exact absurd HA.out (by simp [impl_PostSame.l0])
    | succ k2 =>
     have H := HA.out
     clear HA
     simp only [impl_PostSame.l0] at H
     by_cases c16 : x24_2 < (l0_1.length : Int)
     rotate_left
     ·
      rw [if_neg c16] at H
      have c16b0 : decide (x24_2 < (l0_1.length : Int)) = false := decide_eq_false c16
      clear c16
      obtain rfl := Option.some.inj H
      go_wp2
      repeat (go_quiet (fail); try go_wp2)
      go_ret
      exact ⟨by first | rfl | (simp [errW_none, errW_some] <;> rfl) | (simp [*, errW_none, errW_some] <;> rfl), impl_PostSame_auHB⟩
     rw [if_pos c16] at H
     have c16b0 : decide (x24_2 < (l0_1.length : Int)) = true := decide_eq_true c16
     clear c16
     by_cases c17 : 0 ≤ x24_2
     rotate_left
     ·
      rw [if_neg c17] at H
      exact absurd H (by simp)
     rw [if_pos c17] at H
     have c17b0 : decide (0 ≤ x24_2) = true := decide_eq_true c17
     clear c17
     by_cases c18 : x24_2 < (l0_1.length : Int)
     rotate_left
     ·
      rw [if_neg c18] at H
      exact absurd H (by simp)
     rw [if_pos c18] at H
     have c18b0 : decide (x24_2 < (l0_1.length : Int)) = true := decide_eq_true c18
     clear c18
     by_cases c19 : x24_2 < (l1_1.length : Int)
     rotate_left
     ·
      rw [if_neg c19] at H
      exact absurd H (by simp)
     rw [if_pos c19] at H
     have c19b0 : decide (x24_2 < (l1_1.length : Int)) = true := decide_eq_true c19
     clear c19
     by_cases c20 : (!((((rd_T45 l0_1 x24_2).f0).toList) == (((rd_T45 l1_1 x24_2).f0).toList)) || (!(((rd_T45 l0_1 x24_2).f1) == ((rd_T45 l1_1 x24_2).f1)) || (!(((rd_T45 l0_1 x24_2).f2) == ((rd_T45 l1_1 x24_2).f2))))) = true
     ·
      rw [if_pos c20] at H
      have c20b0 : (!((((rd_T45 l0_1 x24_2).f0).toList) == (((rd_T45 l1_1 x24_2).f0).toList)) || (!(((rd_T45 l0_1 x24_2).f1) == ((rd_T45 l1_1 x24_2).f1)) || (!(((rd_T45 l0_1 x24_2).f2) == ((rd_T45 l1_1 x24_2).f2))))) = true := c20
      clear c20
      obtain rfl := Option.some.inj H
      have p299 : 0 ≤ (x24_2 : Int) := of_decide_eq_true (by first | (with_reducible assumption) | assumption)
      have q299 : x24_2 < (l0_1.length : Int) := of_decide_eq_true (by first | (with_reducible assumption) | assumption)
      obtain ⟨ad299, e299, hx299_0, hx299_1, hx299_2⟩ := at_T45 HR0_1.out x24_2 p299 q299
      cases e299
      replace hx299_0 := (HB.out.cell (World.block_lt_of_cell? w _ hx299_0)).trans hx299_0
      replace hx299_1 := (HB.out.cell (World.block_lt_of_cell? w _ hx299_1)).trans hx299_1
      replace hx299_2 := (HB.out.cell (World.block_lt_of_cell? w _ hx299_2)).trans hx299_2
      replace p299 := eq_true p299
      replace q299 := eq_true q299
      go_wp2_with (first | ((with_reducible refine gate_dst (N := 6) rfl ?_); (try (refine gate_guard (by rfl) ?_; dsimp only)); refine box_event ?hg (N := 6) ?hd (cs := #[.string (⟨#[]⟩ : ByteArray), .int .i64 0, .int .i64 0]) (t := 45) ?hr ?_; (case hd => rfl); (case hg => rfl); (case hr => first | (go_simp; done) | (go_simp; rfl)); intro gb300 hg w21 hbox hb; have BK300 := Aside0.mk (hbox); have GW300 := Aside0.mk ((by rw [hg]; exact (below_size (impl_PostSame_auHB)) : w.heap.size ≤ gb300)); have GE300 := Aside0.mk ((by rw [hg]; exact (below_size (impl_PostSame_auHB)) : w.heap.size ≤ gb300)); replace HB := Aside0.mk (below_step (impl_PostSame_auHB) hb); have NB297_300 := Aside0.mk ((by rw [hg]; exact Nat.ne_of_lt (blk_lt (g := gb297) (o := .cells #[.int .i64 a0_0, .slice (some ad299) l0_1.length c0_1] 29 (0, 0)) (impl_PostSame_vb BK297)) : gb297 ≠ gb300)); have NB300_297 := Aside0.mk ((by rw [hg]; exact Nat.ne_of_gt (blk_lt (g := gb297) (o := .cells #[.int .i64 a0_0, .slice (some ad299) l0_1.length c0_1] 29 (0, 0)) (impl_PostSame_vb BK297)) : gb300 ≠ gb297)); replace BK297 := Aside0.mk (blk_below (g := gb297) (o := .cells #[.int .i64 a0_0, .slice (some ad299) l0_1.length c0_1] 29 (0, 0)) (impl_PostSame_vb BK297) hb); have NB298_300 := Aside0.mk ((by rw [hg]; exact Nat.ne_of_lt (blk_lt (g := gb298) (o := .cells #[.int .i64 a1_0, .slice A1_1 l1_1.length c1_1] 29 (0, 0)) (impl_PostSame_vb BK298)) : gb298 ≠ gb300)); have NB300_298 := Aside0.mk ((by rw [hg]; exact Nat.ne_of_gt (blk_lt (g := gb298) (o := .cells #[.int .i64 a1_0, .slice A1_1 l1_1.length c1_1] 29 (0, 0)) (impl_PostSame_vb BK298)) : gb300 ≠ gb298)); replace BK298 := Aside0.mk (blk_below (g := gb298) (o := .cells #[.int .i64 a1_0, .slice A1_1 l1_1.length c1_1] 29 (0, 0)) (impl_PostSame_vb BK298) hb); clear hb hbox hg; have hnb22 := NB300_297.out; have hnc22 := NB297_300.out; have hnb23 := NB300_298.out; have hnc23 := NB298_300.out; have hcz24_0 : w21.cell? ⟨gb300, 0, none⟩ = some (.string (⟨#[]⟩ : ByteArray)) := (blk_cell BK300.out 0).trans rfl; have hcz24_1 : w21.cell? ⟨gb300, 1, none⟩ = some (.int .i64 0) := (blk_cell BK300.out 1).trans rfl; have hcz24_2 : w21.cell? ⟨gb300, 2, none⟩ = some (.int .i64 0) := (blk_cell BK300.out 2).trans rfl; have hfz24_0 := blk_frozen BK300.out 0; have hfz24_1 := blk_frozen BK300.out 1; have hfz24_2 := blk_frozen BK300.out 2; have hnb25 := NB298_297.out; have hnc25 := NB297_298.out; have hcz26_0 : w21.cell? ⟨gb298, 0, none⟩ = some (.int .i64 a1_0) := (blk_cell BK298.out 0).trans rfl; have hcz26_1 : w21.cell? ⟨gb298, 1, none⟩ = some (.slice A1_1 l1_1.length c1_1) := (blk_cell BK298.out 1).trans rfl; have hfz26_0 := blk_frozen BK298.out 0; have hfz26_1 := blk_frozen BK298.out 1; have p301 : 0 ≤ (x24_2 : Int) := of_decide_eq_true (by first | (with_reducible assumption) | assumption); have q301 : x24_2 < (l1_1.length : Int) := of_decide_eq_true (by first | (with_reducible assumption) | assumption); obtain ⟨ad301, e301, hx301_0, hx301_1, hx301_2⟩ := at_T45 HR1_1.out x24_2 p301 q301; cases e301; have hn301_0 : ad301.block ≠ gb300 := Nat.ne_of_lt (Nat.lt_of_lt_of_le (by have := World.block_lt_of_cell? _ _ hx301_0; first | rwa [add_block] at this | exact this) GW300.out); have hn301_1 : ad301.block ≠ gb300 := Nat.ne_of_lt (Nat.lt_of_lt_of_le (by have := World.block_lt_of_cell? _ _ hx301_0; first | rwa [add_block] at this | exact this) GW300.out); have hn301_2 : ad301.block ≠ gb300 := Nat.ne_of_lt (Nat.lt_of_lt_of_le (by have := World.block_lt_of_cell? _ _ hx301_0; first | rwa [add_block] at this | exact this) GW300.out); replace hx301_0 := (HB.out.cell (World.block_lt_of_cell? w _ hx301_0)).trans hx301_0; replace hx301_1 := (HB.out.cell (World.block_lt_of_cell? w _ hx301_1)).trans hx301_1; replace hx301_2 := (HB.out.cell (World.block_lt_of_cell? w _ hx301_2)).trans hx301_2; replace hx301_0 := (cell_far (p := ⟨gb300, 0, none⟩) (by first | (rw [add_block]; exact hn301_0) | (show (Addr.add _ _).block ≠ _; rw [add_block]; exact hn301_0) | exact hn301_0) (.string ((rd_T45 l0_1 x24_2).f0))).trans hx301_0; replace hx301_1 := (cell_far (p := ⟨gb300, 0, none⟩) (by first | (rw [add_block]; exact hn301_0) | (show (Addr.add _ _).block ≠ _; rw [add_block]; exact hn301_0) | exact hn301_0) (.string ((rd_T45 l0_1 x24_2).f0))).trans hx301_1; replace hx301_2 := (cell_far (p := ⟨gb300, 0, none⟩) (by first | (rw [add_block]; exact hn301_0) | (show (Addr.add _ _).block ≠ _; rw [add_block]; exact hn301_0) | exact hn301_0) (.string ((rd_T45 l0_1 x24_2).f0))).trans hx301_2; replace hx301_0 := (cell_far (p := ⟨gb300, 1, none⟩) (by first | (rw [add_block]; exact hn301_1) | (show (Addr.add _ _).block ≠ _; rw [add_block]; exact hn301_1) | exact hn301_1) (.int .i64 ((rd_T45 l0_1 x24_2).f1))).trans hx301_0; replace hx301_1 := (cell_far (p := ⟨gb300, 1, none⟩) (by first | (rw [add_block]; exact hn301_1) | (show (Addr.add _ _).block ≠ _; rw [add_block]; exact hn301_1) | exact hn301_1) (.int .i64 ((rd_T45 l0_1 x24_2).f1))).trans hx301_1; replace hx301_2 := (cell_far (p := ⟨gb300, 1, none⟩) (by first | (rw [add_block]; exact hn301_1) | (show (Addr.add _ _).block ≠ _; rw [add_block]; exact hn301_1) | exact hn301_1) (.int .i64 ((rd_T45 l0_1 x24_2).f1))).trans hx301_2; replace hx301_0 := (cell_far (p := ⟨gb300, 2, none⟩) (by first | (rw [add_block]; exact hn301_2) | (show (Addr.add _ _).block ≠ _; rw [add_block]; exact hn301_2) | exact hn301_2) (.int .i64 ((rd_T45 l0_1 x24_2).f2))).trans hx301_0; replace hx301_1 := (cell_far (p := ⟨gb300, 2, none⟩) (by first | (rw [add_block]; exact hn301_2) | (show (Addr.add _ _).block ≠ _; rw [add_block]; exact hn301_2) | exact hn301_2) (.int .i64 ((rd_T45 l0_1 x24_2).f2))).trans hx301_1; replace hx301_2 := (cell_far (p := ⟨gb300, 2, none⟩) (by first | (rw [add_block]; exact hn301_2) | (show (Addr.add _ _).block ≠ _; rw [add_block]; exact hn301_2) | exact hn301_2) (.int .i64 ((rd_T45 l0_1 x24_2).f2))).trans hx301_2; (try have hy301_0 := fun (n_ : Nat) => (show (((((w21.drewN n_).setCell ⟨gb300, 0, none⟩ (.string ((rd_T45 l0_1 x24_2).f0))).setCell ⟨gb300, 1, none⟩ (.int .i64 ((rd_T45 l0_1 x24_2).f1))).setCell ⟨gb300, 2, none⟩ (.int .i64 ((rd_T45 l0_1 x24_2).f2)))).cell? _ = some _ from hx301_0)); (try have hy301_1 := fun (n_ : Nat) => (show (((((w21.drewN n_).setCell ⟨gb300, 0, none⟩ (.string ((rd_T45 l0_1 x24_2).f0))).setCell ⟨gb300, 1, none⟩ (.int .i64 ((rd_T45 l0_1 x24_2).f1))).setCell ⟨gb300, 2, none⟩ (.int .i64 ((rd_T45 l0_1 x24_2).f2)))).cell? _ = some _ from hx301_1)); (try have hy301_2 := fun (n_ : Nat) => (show (((((w21.drewN n_).setCell ⟨gb300, 0, none⟩ (.string ((rd_T45 l0_1 x24_2).f0))).setCell ⟨gb300, 1, none⟩ (.int .i64 ((rd_T45 l0_1 x24_2).f1))).setCell ⟨gb300, 2, none⟩ (.int .i64 ((rd_T45 l0_1 x24_2).f2)))).cell? _ = some _ from hx301_2)); clear hn301_0; clear hn301_1; clear hn301_2; replace p301 := eq_true p301; replace q301 := eq_true q301))
      repeat (go_quiet (fail); try go_wp2)
      go_ret
      exact ⟨by first | rfl | (simp [errW_none, errW_some] <;> rfl) | (simp [*, errW_none, errW_some] <;> rfl), impl_PostSame_auHB⟩
     rw [if_neg c20] at H
     have c20b0 : (!((((rd_T45 l0_1 x24_2).f0).toList) == (((rd_T45 l1_1 x24_2).f0).toList)) || (!(((rd_T45 l0_1 x24_2).f1) == ((rd_T45 l1_1 x24_2).f1)) || (!(((rd_T45 l0_1 x24_2).f2) == ((rd_T45 l1_1 x24_2).f2))))) = false := by (have h_ := c20; (try simp at h_); (try simp); (try exact h_))
     clear c20
     have H' := Aside0.mk H
     clear H
     have p299 : 0 ≤ (x24_2 : Int) := of_decide_eq_true (by first | (with_reducible assumption) | assumption)
     have q299 : x24_2 < (l0_1.length : Int) := of_decide_eq_true (by first | (with_reducible assumption) | assumption)
     obtain ⟨ad299, e299, hx299_0, hx299_1, hx299_2⟩ := at_T45 HR0_1.out x24_2 p299 q299
     cases e299
     replace hx299_0 := (HB.out.cell (World.block_lt_of_cell? w _ hx299_0)).trans hx299_0
     replace hx299_1 := (HB.out.cell (World.block_lt_of_cell? w _ hx299_1)).trans hx299_1
     replace hx299_2 := (HB.out.cell (World.block_lt_of_cell? w _ hx299_2)).trans hx299_2
     replace p299 := eq_true p299
     replace q299 := eq_true q299
     go_wp2_with (first | ((with_reducible refine gate_dst (N := 6) rfl ?_); (try (refine gate_guard (by rfl) ?_; dsimp only)); refine box_event ?hg (N := 6) ?hd (cs := #[.string (⟨#[]⟩ : ByteArray), .int .i64 0, .int .i64 0]) (t := 45) ?hr ?_; (case hd => rfl); (case hg => rfl); (case hr => first | (go_simp; done) | (go_simp; rfl)); intro gb300 hg w27 hbox hb; have BK300 := Aside0.mk (hbox); have GW300 := Aside0.mk ((by rw [hg]; exact (below_size (impl_PostSame_auHB)) : w.heap.size ≤ gb300)); have GE300 := Aside0.mk ((by rw [hg]; exact (below_size (impl_PostSame_auHB)) : w.heap.size ≤ gb300)); replace HB := Aside0.mk (below_step (impl_PostSame_auHB) hb); have NB297_300 := Aside0.mk ((by rw [hg]; exact Nat.ne_of_lt (blk_lt (g := gb297) (o := .cells #[.int .i64 a0_0, .slice (some ad299) l0_1.length c0_1] 29 (0, 0)) (impl_PostSame_vb BK297)) : gb297 ≠ gb300)); have NB300_297 := Aside0.mk ((by rw [hg]; exact Nat.ne_of_gt (blk_lt (g := gb297) (o := .cells #[.int .i64 a0_0, .slice (some ad299) l0_1.length c0_1] 29 (0, 0)) (impl_PostSame_vb BK297)) : gb300 ≠ gb297)); replace BK297 := Aside0.mk (blk_below (g := gb297) (o := .cells #[.int .i64 a0_0, .slice (some ad299) l0_1.length c0_1] 29 (0, 0)) (impl_PostSame_vb BK297) hb); have NB298_300 := Aside0.mk ((by rw [hg]; exact Nat.ne_of_lt (blk_lt (g := gb298) (o := .cells #[.int .i64 a1_0, .slice A1_1 l1_1.length c1_1] 29 (0, 0)) (impl_PostSame_vb BK298)) : gb298 ≠ gb300)); have NB300_298 := Aside0.mk ((by rw [hg]; exact Nat.ne_of_gt (blk_lt (g := gb298) (o := .cells #[.int .i64 a1_0, .slice A1_1 l1_1.length c1_1] 29 (0, 0)) (impl_PostSame_vb BK298)) : gb300 ≠ gb298)); replace BK298 := Aside0.mk (blk_below (g := gb298) (o := .cells #[.int .i64 a1_0, .slice A1_1 l1_1.length c1_1] 29 (0, 0)) (impl_PostSame_vb BK298) hb); clear hb hbox hg; have hnb28 := NB300_297.out; have hnc28 := NB297_300.out; have hnb29 := NB300_298.out; have hnc29 := NB298_300.out; have hcz30_0 : w27.cell? ⟨gb300, 0, none⟩ = some (.string (⟨#[]⟩ : ByteArray)) := (blk_cell BK300.out 0).trans rfl; have hcz30_1 : w27.cell? ⟨gb300, 1, none⟩ = some (.int .i64 0) := (blk_cell BK300.out 1).trans rfl; have hcz30_2 : w27.cell? ⟨gb300, 2, none⟩ = some (.int .i64 0) := (blk_cell BK300.out 2).trans rfl; have hfz30_0 := blk_frozen BK300.out 0; have hfz30_1 := blk_frozen BK300.out 1; have hfz30_2 := blk_frozen BK300.out 2; have hnb31 := NB298_297.out; have hnc31 := NB297_298.out; have hcz32_0 : w27.cell? ⟨gb298, 0, none⟩ = some (.int .i64 a1_0) := (blk_cell BK298.out 0).trans rfl; have hcz32_1 : w27.cell? ⟨gb298, 1, none⟩ = some (.slice A1_1 l1_1.length c1_1) := (blk_cell BK298.out 1).trans rfl; have hfz32_0 := blk_frozen BK298.out 0; have hfz32_1 := blk_frozen BK298.out 1; have p301 : 0 ≤ (x24_2 : Int) := of_decide_eq_true (by first | (with_reducible assumption) | assumption); have q301 : x24_2 < (l1_1.length : Int) := of_decide_eq_true (by first | (with_reducible assumption) | assumption); obtain ⟨ad301, e301, hx301_0, hx301_1, hx301_2⟩ := at_T45 HR1_1.out x24_2 p301 q301; cases e301; have hn301_0 : ad301.block ≠ gb300 := Nat.ne_of_lt (Nat.lt_of_lt_of_le (by have := World.block_lt_of_cell? _ _ hx301_0; first | rwa [add_block] at this | exact this) GW300.out); have hn301_1 : ad301.block ≠ gb300 := Nat.ne_of_lt (Nat.lt_of_lt_of_le (by have := World.block_lt_of_cell? _ _ hx301_0; first | rwa [add_block] at this | exact this) GW300.out); have hn301_2 : ad301.block ≠ gb300 := Nat.ne_of_lt (Nat.lt_of_lt_of_le (by have := World.block_lt_of_cell? _ _ hx301_0; first | rwa [add_block] at this | exact this) GW300.out); replace hx301_0 := (HB.out.cell (World.block_lt_of_cell? w _ hx301_0)).trans hx301_0; replace hx301_1 := (HB.out.cell (World.block_lt_of_cell? w _ hx301_1)).trans hx301_1; replace hx301_2 := (HB.out.cell (World.block_lt_of_cell? w _ hx301_2)).trans hx301_2; replace hx301_0 := (cell_far (p := ⟨gb300, 0, none⟩) (by first | (rw [add_block]; exact hn301_0) | (show (Addr.add _ _).block ≠ _; rw [add_block]; exact hn301_0) | exact hn301_0) (.string ((rd_T45 l0_1 x24_2).f0))).trans hx301_0; replace hx301_1 := (cell_far (p := ⟨gb300, 0, none⟩) (by first | (rw [add_block]; exact hn301_0) | (show (Addr.add _ _).block ≠ _; rw [add_block]; exact hn301_0) | exact hn301_0) (.string ((rd_T45 l0_1 x24_2).f0))).trans hx301_1; replace hx301_2 := (cell_far (p := ⟨gb300, 0, none⟩) (by first | (rw [add_block]; exact hn301_0) | (show (Addr.add _ _).block ≠ _; rw [add_block]; exact hn301_0) | exact hn301_0) (.string ((rd_T45 l0_1 x24_2).f0))).trans hx301_2; replace hx301_0 := (cell_far (p := ⟨gb300, 1, none⟩) (by first | (rw [add_block]; exact hn301_1) | (show (Addr.add _ _).block ≠ _; rw [add_block]; exact hn301_1) | exact hn301_1) (.int .i64 ((rd_T45 l0_1 x24_2).f1))).trans hx301_0; replace hx301_1 := (cell_far (p := ⟨gb300, 1, none⟩) (by first | (rw [add_block]; exact hn301_1) | (show (Addr.add _ _).block ≠ _; rw [add_block]; exact hn301_1) | exact hn301_1) (.int .i64 ((rd_T45 l0_1 x24_2).f1))).trans hx301_1; replace hx301_2 := (cell_far (p := ⟨gb300, 1, none⟩) (by first | (rw [add_block]; exact hn301_1) | (show (Addr.add _ _).block ≠ _; rw [add_block]; exact hn301_1) | exact hn301_1) (.int .i64 ((rd_T45 l0_1 x24_2).f1))).trans hx301_2; replace hx301_0 := (cell_far (p := ⟨gb300, 2, none⟩) (by first | (rw [add_block]; exact hn301_2) | (show (Addr.add _ _).block ≠ _; rw [add_block]; exact hn301_2) | exact hn301_2) (.int .i64 ((rd_T45 l0_1 x24_2).f2))).trans hx301_0; replace hx301_1 := (cell_far (p := ⟨gb300, 2, none⟩) (by first | (rw [add_block]; exact hn301_2) | (show (Addr.add _ _).block ≠ _; rw [add_block]; exact hn301_2) | exact hn301_2) (.int .i64 ((rd_T45 l0_1 x24_2).f2))).trans hx301_1; replace hx301_2 := (cell_far (p := ⟨gb300, 2, none⟩) (by first | (rw [add_block]; exact hn301_2) | (show (Addr.add _ _).block ≠ _; rw [add_block]; exact hn301_2) | exact hn301_2) (.int .i64 ((rd_T45 l0_1 x24_2).f2))).trans hx301_2; (try have hy301_0 := fun (n_ : Nat) => (show (((((w27.drewN n_).setCell ⟨gb300, 0, none⟩ (.string ((rd_T45 l0_1 x24_2).f0))).setCell ⟨gb300, 1, none⟩ (.int .i64 ((rd_T45 l0_1 x24_2).f1))).setCell ⟨gb300, 2, none⟩ (.int .i64 ((rd_T45 l0_1 x24_2).f2)))).cell? _ = some _ from hx301_0)); (try have hy301_1 := fun (n_ : Nat) => (show (((((w27.drewN n_).setCell ⟨gb300, 0, none⟩ (.string ((rd_T45 l0_1 x24_2).f0))).setCell ⟨gb300, 1, none⟩ (.int .i64 ((rd_T45 l0_1 x24_2).f1))).setCell ⟨gb300, 2, none⟩ (.int .i64 ((rd_T45 l0_1 x24_2).f2)))).cell? _ = some _ from hx301_1)); (try have hy301_2 := fun (n_ : Nat) => (show (((((w27.drewN n_).setCell ⟨gb300, 0, none⟩ (.string ((rd_T45 l0_1 x24_2).f0))).setCell ⟨gb300, 1, none⟩ (.int .i64 ((rd_T45 l0_1 x24_2).f1))).setCell ⟨gb300, 2, none⟩ (.int .i64 ((rd_T45 l0_1 x24_2).f2)))).cell? _ = some _ from hx301_2)); clear hn301_0; clear hn301_1; clear hn301_2; replace p301 := eq_true p301; replace q301 := eq_true q301))
     repeat (go_quiet (fail); try go_wp2)
     go_roundg k2
     case measure => have := HJ2.out; have := HK2.out; omega
     case rel => exact ⟨(wrap64 (x24_2 + 1)), (by first | rfl | (simp; done) | (simp [*]; done)), H', ⟨by have := HJ2.out; have := HK2.out; omega⟩, ⟨by (with_reducible repeat (first | refine blk_drewN ?_ _ | refine blk_drew ?_ | refine blk_alloc ?_ _)); refine blk_far ?_ NB297_300.out _; (with_reducible repeat (first | refine blk_drewN ?_ _ | refine blk_drew ?_ | refine blk_alloc ?_ _)); refine blk_far ?_ NB297_300.out _; (with_reducible repeat (first | refine blk_drewN ?_ _ | refine blk_drew ?_ | refine blk_alloc ?_ _)); refine blk_far ?_ NB297_300.out _; (with_reducible repeat (first | refine blk_drewN ?_ _ | refine blk_drew ?_ | refine blk_alloc ?_ _)); exact BK297.out⟩, ⟨by (with_reducible repeat (first | refine blk_drewN ?_ _ | refine blk_drew ?_ | refine blk_alloc ?_ _)); refine blk_far ?_ NB298_300.out _; (with_reducible repeat (first | refine blk_drewN ?_ _ | refine blk_drew ?_ | refine blk_alloc ?_ _)); refine blk_far ?_ NB298_300.out _; (with_reducible repeat (first | refine blk_drewN ?_ _ | refine blk_drew ?_ | refine blk_alloc ?_ _)); refine blk_far ?_ NB298_300.out _; (with_reducible repeat (first | refine blk_drewN ?_ _ | refine blk_drew ?_ | refine blk_alloc ?_ _)); exact BK298.out⟩, ⟨impl_PostSame_auHB⟩⟩

/-! ### spec_DrawPostRead: function 19 -/
def spec_DrawPostRead.f (k : Nat) (l0 : List Int) : Option (ByteArray) := (spec_l9Open.f l0).bind fun bt302 => ((spec_l1Post.f k bt302.1 bt302.2).bind fun bt305 => ((spec_PostText.f k bt305.1 bt305.2.1).bind fun t310 => ((spec_l9Rd_pick.f k bt302.1 bt305.2.2 2).bind fun bt311 => (if bt311.1 = 0 then (some t310) else ((spec_l9Rd_pick.f k bt302.1 bt311.2 (t310.size : Int)).bind fun bt313 => (if 0 ≤ bt313.1 then (if bt313.1 ≤ (t310.size : Int) then ((spec_l9Rd_of.f k bt302.1 bt313.2 (([(⟨#[]⟩ : ByteArray), (⟨#[48]⟩ : ByteArray), (⟨#[32]⟩ : ByteArray), (⟨#[58]⟩ : ByteArray), (⟨#[45]⟩ : ByteArray), (⟨#[49]⟩ : ByteArray), (⟨#[97]⟩ : ByteArray)] : List ByteArray))).bind fun bt318 => (if (t310.extract 0 (bt313.1 : Int).toNat).size + bt318.1.size ≤ 9223372036854775807 then ((spec_l9Rd_pick.f k bt302.1 bt318.2 2).bind fun bt320 => (if 0 ≤ (wrap64 (bt313.1 + bt320.1)) then (if (wrap64 (bt313.1 + bt320.1)) ≤ (t310.size : Int) then (if ((t310.extract 0 (bt313.1 : Int).toNat) ++ bt318.1).size + (t310.extract ((wrap64 (bt313.1 + bt320.1)) : Int).toNat t310.size).size ≤ 9223372036854775807 then (some (((t310.extract 0 (bt313.1 : Int).toNat) ++ bt318.1) ++ (t310.extract ((wrap64 (bt313.1 + bt320.1)) : Int).toNat t310.size))) else (none)) else (none)) else (none))) else (none))) else (none)) else (none)))))))
theorem spec_DrawPostRead.mono : ∀ a0 k, LeO (spec_DrawPostRead.f k a0) (spec_DrawPostRead.f (k + 1) a0) := by
  intro a0 k
  unfold spec_DrawPostRead.f
  repeat' first
      | (with_reducible exact spec_PostText.mono _ _ _)
      | (with_reducible exact spec_l1Post.mono _ _ _)
      | (with_reducible exact spec_l9Rd_of.mono _ _ _ _)
      | (with_reducible exact spec_l9Rd_pick.mono _ _ _ _)
      | (with_reducible exact LeO.refl _)
      | (with_reducible exact LeO.none _)
      | (with_reducible refine LeO.ite ?_ ?_)
      | (with_reducible refine LeO.bind ?_ (fun _ => ?_))
      | exact spec_PostText.mono _ _ _
      | exact spec_l1Post.mono _ _ _
      | exact spec_l9Rd_of.mono _ _ _ _
      | exact spec_l9Rd_pick.mono _ _ _ _
      | exact LeO.none _
      | refine LeO.ite ?_ ?_
      | refine LeO.bind ?_ (fun _ => ?_)
def spec_DrawPostRead.T6 : Bool × List (List Nat × List Nat) := (true, [([], []), ([], []), ([0, 1], [0, 1]), ([], []), ([], []), ([3, 4], [3, 4]), ([2, 5], [2, 5]), ([], []), ([], []), ([], []), ([9, 5], [9]), ([8, 10], [8, 10]), ([7, 11], [7, 11]), ([6, 12], [6, 12]), ([13, 10, 0, 1, 2, 3, 4, 5, 6, 7, 8, 9, 10, 11, 12, 13], [13])])
def spec_DrawPostRead.B6 : List Nat := [0, 0, 3, 0, 0, 24, 63, 0, 0, 0, 568, 1848, 4024, 8191, 16383]
theorem spec_DrawPostRead.tab6 : rtab .any (opsOf Tryd.f19 6) = spec_DrawPostRead.T6 := by kernel_rfl
theorem spec_DrawPostRead.bits6 : waitsOk spec_DrawPostRead.T6.2 spec_DrawPostRead.B6 = true := by kernel_rfl
theorem spec_DrawPostRead_auHB {q : Prop} (h : q := by (repeat (first | (with_reducible first | exact HB.out | apply below_alloc | apply pw_below_drewN | apply below_drew1 | refine below_set ?_ (IsS84.ge HI304.out)) | exact HB.out))) : q := h
theorem spec_DrawPostRead_auHI304 {q : Prop} (h : q := by (repeat (first | (with_reducible first | exact HI304.out | apply IsS84.alloc | apply IsS84.drewN | apply IsS84.drew | apply IsS84.set_1) | exact HI304.out))) : q := h
set_option maxHeartbeats 8000000 in
set_option maxRecDepth 100000 in
theorem spec_DrawPostRead.calls (k : Nat) (A0 : Option Addr) (c0 : Nat) (l0 : List Int) (r : ByteArray) (w : World) (hr0 : Kd.C (Kd.int .u8) w A0 l0.length l0) (hc0 : l0.length ≤ c0) (h : spec_DrawPostRead.f k l0 = some r) :
  Calls Tryd.prog 19 #[.slice A0 l0.length c0] w fun e w' => e = .returned (.string r) ∧ Below w.heap.size w w' := by
 have HR0 := Aside0.mk hr0
 have HC0 := Aside0.mk hc0
 clear hr0 hc0
 have HB := Aside0.mk (Below.refl w.heap.size w)
 have H : ((spec_l9Open.f l0).bind fun bt302 => ((spec_l1Post.f k bt302.1 bt302.2).bind fun bt305 => ((spec_PostText.f k bt305.1 bt305.2.1).bind fun t310 => ((spec_l9Rd_pick.f k bt302.1 bt305.2.2 2).bind fun bt311 => (if bt311.1 = 0 then (some t310) else ((spec_l9Rd_pick.f k bt302.1 bt311.2 (t310.size : Int)).bind fun bt313 => (if 0 ≤ bt313.1 then (if bt313.1 ≤ (t310.size : Int) then ((spec_l9Rd_of.f k bt302.1 bt313.2 (([(⟨#[]⟩ : ByteArray), (⟨#[48]⟩ : ByteArray), (⟨#[32]⟩ : ByteArray), (⟨#[58]⟩ : ByteArray), (⟨#[45]⟩ : ByteArray), (⟨#[49]⟩ : ByteArray), (⟨#[97]⟩ : ByteArray)] : List ByteArray))).bind fun bt318 => (if (t310.extract 0 (bt313.1 : Int).toNat).size + bt318.1.size ≤ 9223372036854775807 then ((spec_l9Rd_pick.f k bt302.1 bt318.2 2).bind fun bt320 => (if 0 ≤ (wrap64 (bt313.1 + bt320.1)) then (if (wrap64 (bt313.1 + bt320.1)) ≤ (t310.size : Int) then (if ((t310.extract 0 (bt313.1 : Int).toNat) ++ bt318.1).size + (t310.extract ((wrap64 (bt313.1 + bt320.1)) : Int).toNat t310.size).size ≤ 9223372036854775807 then (some (((t310.extract 0 (bt313.1 : Int).toNat) ++ bt318.1) ++ (t310.extract ((wrap64 (bt313.1 + bt320.1)) : Int).toNat t310.size))) else (none)) else (none)) else (none))) else (none))) else (none)) else (none)))))))) = some r := h
 clear h
 replace H := Option.bind_eq_some_iff.mp H
 obtain ⟨⟨t302, t303⟩, A20, H⟩ := H
 replace H : ((spec_l1Post.f k t302 t303).bind fun bt305 => ((spec_PostText.f k bt305.1 bt305.2.1).bind fun t310 => ((spec_l9Rd_pick.f k t302 bt305.2.2 2).bind fun bt311 => (if bt311.1 = 0 then (some t310) else ((spec_l9Rd_pick.f k t302 bt311.2 (t310.size : Int)).bind fun bt313 => (if 0 ≤ bt313.1 then (if bt313.1 ≤ (t310.size : Int) then ((spec_l9Rd_of.f k t302 bt313.2 (([(⟨#[]⟩ : ByteArray), (⟨#[48]⟩ : ByteArray), (⟨#[32]⟩ : ByteArray), (⟨#[58]⟩ : ByteArray), (⟨#[45]⟩ : ByteArray), (⟨#[49]⟩ : ByteArray), (⟨#[97]⟩ : ByteArray)] : List ByteArray))).bind fun bt318 => (if (t310.extract 0 (bt313.1 : Int).toNat).size + bt318.1.size ≤ 9223372036854775807 then ((spec_l9Rd_pick.f k t302 bt318.2 2).bind fun bt320 => (if 0 ≤ (wrap64 (bt313.1 + bt320.1)) then (if (wrap64 (bt313.1 + bt320.1)) ≤ (t310.size : Int) then (if ((t310.extract 0 (bt313.1 : Int).toNat) ++ bt318.1).size + (t310.extract ((wrap64 (bt313.1 + bt320.1)) : Int).toNat t310.size).size ≤ 9223372036854775807 then (some (((t310.extract 0 (bt313.1 : Int).toNat) ++ bt318.1) ++ (t310.extract ((wrap64 (bt313.1 + bt320.1)) : Int).toNat t310.size))) else (none)) else (none)) else (none))) else (none))) else (none)) else (none))))))) = some r := H
 have A2 := Aside0.mk A20
 clear A20
 replace H := Option.bind_eq_some_iff.mp H
 obtain ⟨⟨t305, t306, t309⟩, A30, H⟩ := H
 replace H : ((spec_PostText.f k t305 t306).bind fun t310 => ((spec_l9Rd_pick.f k t302 t309 2).bind fun bt311 => (if bt311.1 = 0 then (some t310) else ((spec_l9Rd_pick.f k t302 bt311.2 (t310.size : Int)).bind fun bt313 => (if 0 ≤ bt313.1 then (if bt313.1 ≤ (t310.size : Int) then ((spec_l9Rd_of.f k t302 bt313.2 (([(⟨#[]⟩ : ByteArray), (⟨#[48]⟩ : ByteArray), (⟨#[32]⟩ : ByteArray), (⟨#[58]⟩ : ByteArray), (⟨#[45]⟩ : ByteArray), (⟨#[49]⟩ : ByteArray), (⟨#[97]⟩ : ByteArray)] : List ByteArray))).bind fun bt318 => (if (t310.extract 0 (bt313.1 : Int).toNat).size + bt318.1.size ≤ 9223372036854775807 then ((spec_l9Rd_pick.f k t302 bt318.2 2).bind fun bt320 => (if 0 ≤ (wrap64 (bt313.1 + bt320.1)) then (if (wrap64 (bt313.1 + bt320.1)) ≤ (t310.size : Int) then (if ((t310.extract 0 (bt313.1 : Int).toNat) ++ bt318.1).size + (t310.extract ((wrap64 (bt313.1 + bt320.1)) : Int).toNat t310.size).size ≤ 9223372036854775807 then (some (((t310.extract 0 (bt313.1 : Int).toNat) ++ bt318.1) ++ (t310.extract ((wrap64 (bt313.1 + bt320.1)) : Int).toNat t310.size))) else (none)) else (none)) else (none))) else (none))) else (none)) else (none)))))) = some r := H
 have A3 := Aside0.mk A30
 clear A30
 replace H := Option.bind_eq_some_iff.mp H
 obtain ⟨t310, A40, H⟩ := H
 replace H : ((spec_l9Rd_pick.f k t302 t309 2).bind fun bt311 => (if bt311.1 = 0 then (some t310) else ((spec_l9Rd_pick.f k t302 bt311.2 (t310.size : Int)).bind fun bt313 => (if 0 ≤ bt313.1 then (if bt313.1 ≤ (t310.size : Int) then ((spec_l9Rd_of.f k t302 bt313.2 (([(⟨#[]⟩ : ByteArray), (⟨#[48]⟩ : ByteArray), (⟨#[32]⟩ : ByteArray), (⟨#[58]⟩ : ByteArray), (⟨#[45]⟩ : ByteArray), (⟨#[49]⟩ : ByteArray), (⟨#[97]⟩ : ByteArray)] : List ByteArray))).bind fun bt318 => (if (t310.extract 0 (bt313.1 : Int).toNat).size + bt318.1.size ≤ 9223372036854775807 then ((spec_l9Rd_pick.f k t302 bt318.2 2).bind fun bt320 => (if 0 ≤ (wrap64 (bt313.1 + bt320.1)) then (if (wrap64 (bt313.1 + bt320.1)) ≤ (t310.size : Int) then (if ((t310.extract 0 (bt313.1 : Int).toNat) ++ bt318.1).size + (t310.extract ((wrap64 (bt313.1 + bt320.1)) : Int).toNat t310.size).size ≤ 9223372036854775807 then (some (((t310.extract 0 (bt313.1 : Int).toNat) ++ bt318.1) ++ (t310.extract ((wrap64 (bt313.1 + bt320.1)) : Int).toNat t310.size))) else (none)) else (none)) else (none))) else (none))) else (none)) else (none))))) = some r := H
 have A4 := Aside0.mk A40
 clear A40
 replace H := Option.bind_eq_some_iff.mp H
 obtain ⟨⟨t311, t312⟩, A50, H⟩ := H
 replace H : (if t311 = 0 then (some t310) else ((spec_l9Rd_pick.f k t302 t312 (t310.size : Int)).bind fun bt313 => (if 0 ≤ bt313.1 then (if bt313.1 ≤ (t310.size : Int) then ((spec_l9Rd_of.f k t302 bt313.2 (([(⟨#[]⟩ : ByteArray), (⟨#[48]⟩ : ByteArray), (⟨#[32]⟩ : ByteArray), (⟨#[58]⟩ : ByteArray), (⟨#[45]⟩ : ByteArray), (⟨#[49]⟩ : ByteArray), (⟨#[97]⟩ : ByteArray)] : List ByteArray))).bind fun bt318 => (if (t310.extract 0 (bt313.1 : Int).toNat).size + bt318.1.size ≤ 9223372036854775807 then ((spec_l9Rd_pick.f k t302 bt318.2 2).bind fun bt320 => (if 0 ≤ (wrap64 (bt313.1 + bt320.1)) then (if (wrap64 (bt313.1 + bt320.1)) ≤ (t310.size : Int) then (if ((t310.extract 0 (bt313.1 : Int).toNat) ++ bt318.1).size + (t310.extract ((wrap64 (bt313.1 + bt320.1)) : Int).toNat t310.size).size ≤ 9223372036854775807 then (some (((t310.extract 0 (bt313.1 : Int).toNat) ++ bt318.1) ++ (t310.extract ((wrap64 (bt313.1 + bt320.1)) : Int).toNat t310.size))) else (none)) else (none)) else (none))) else (none))) else (none)) else (none)))) = some r := H
 have A5 := Aside0.mk A50
 clear A50
 by_cases c6 : t311 = 0
 ·
  rw [if_pos c6] at H
  have c6b0 : (t311 == 0) = true := beq_iff_eq.mpr c6
  have c6b1 : (t311 != 0) = false := bne_eq_false_iff_eq.mpr c6
  clear c6
  obtain rfl := Option.some.inj H
  go_enter Tryd.func19, Tryd.ntmps19
  go_wp2_with (first | ((with_reducible refine gate_callee (f := 39) rfl ?_); refine goesL_ (some 7) rfl rfl Tryd.func39 (by kernel_rfl) rfl #[.slice A0 l0.length c0] rfl (by (try simp only [List.map_toArray, List.map_cons, List.map_nil]); first | done | rfl | (simp only [List.length_drop, List.length_take]; rfl)) ?_; (with_reducible refine (spec_l9Open.calls _ _ l0 t302 t303 w _ ?side1 ?side2 ?side3 A2.out).mono ?_); (case side1 => exact spec_DrawPostRead_auHB); (case side2 => exact HR0.out); (case side3 => exact HC0.out); rintro e w7 ⟨g304, rfl, hi, hb, hb2⟩; refine ⟨_, rfl, ?_⟩; replace HB := Aside0.mk (hb); have HI304 := Aside0.mk (hi); (try clear hb); (try clear hb2); (try clear hk); (try clear hi)) | ((with_reducible refine gate_callee (f := 40) rfl ?_); refine goesL_ (some 9) rfl rfl Tryd.func40 (by kernel_rfl) rfl #[.pointer (some ⟨g304, 0, none⟩)] rfl (by (try simp only [List.map_toArray, List.map_cons, List.map_nil]); first | done | rfl | (simp only [List.length_drop, List.length_take]; rfl)) ?_; (with_reducible refine (spec_l1Post.calls k g304 t302 t303 t305 t306 t309 w _ ?side1 ?side2 A3.out).mono ?_); (case side1 => exact spec_DrawPostRead_auHI304); (case side2 => exact spec_DrawPostRead_auHB); rintro e w8 ⟨v307, rfl, ho0, hi, hb, hk⟩; refine ⟨_, rfl, ?_⟩; have HO308 := Aside0.mk (Kd.R_lower ho0 (below_size (spec_DrawPostRead_auHB))); replace HB := Aside0.mk (hb); replace HI304 := Aside0.mk (hi); (try clear hb); (try clear hb2); (try clear hk); (try clear hi); (try clear ho0); obtain ⟨Ao9, co9, eo9⟩ := Kd.R_slice HO308.out; subst eo9) | ((with_reducible refine gate_callee (f := 7) rfl ?_); refine goesL_ (some 10) rfl rfl Tryd.func7 (by kernel_rfl) rfl #[.agg #[.int .i64 t305, .slice Ao9 t306.length co9]] rfl (by (try simp only [List.map_toArray, List.map_cons, List.map_nil]); first | done | rfl | (simp only [List.length_drop, List.length_take]; rfl)) ?_; (with_reducible refine (spec_PostText.calls k t305 _ _ t306 t310 _ ?side1 ?side2 A4.out).mono ?_); (case side1 => exact co_ (Kd.R_reads' HO308.out).2.2); (case side2 => exact (Kd.R_reads' HO308.out).2.1); rintro e w10 ⟨rfl, hb⟩; refine ⟨_, rfl, ?_⟩; replace HO308 := Aside0.mk (Kd.R_below (lo_ HO308) hb); replace HI304 := Aside0.mk (IsS84.below (spec_DrawPostRead_auHI304) hb); replace HB := Aside0.mk (below_step (spec_DrawPostRead_auHB) hb); (try clear hb); (try clear hb2); (try clear hk); (try clear hi)) | ((with_reducible refine gate_callee (f := 41) rfl ?_); refine goesL_ (some 12) rfl rfl Tryd.func41 (by kernel_rfl) rfl #[.pointer (some ⟨g304, 0, none⟩), .int .i64 2] rfl (by (try simp only [List.map_toArray, List.map_cons, List.map_nil]); first | done | rfl | (simp only [List.length_drop, List.length_take]; rfl)) ?_; (with_reducible refine (spec_l9Rd_pick.calls k g304 t302 t309 2 t311 t312 w _ ?side1 ?side2 A5.out).mono ?_); (case side1 => exact spec_DrawPostRead_auHI304); (case side2 => exact spec_DrawPostRead_auHB); rintro e w11 ⟨rfl, hi, hb, hk⟩; refine ⟨_, rfl, ?_⟩; replace HO308 := Aside0.mk (Kd.R_mono (Kd.R_keep (IsS84.apart (show IsS84 w _ g304 t302 t309 from spec_DrawPostRead_auHI304) (lo_ HO308) (by decide)) hk (fun _ h => h.2)) (fun _ h => h.1)); replace HB := Aside0.mk (hb); replace HI304 := Aside0.mk (hi); (try clear hb); (try clear hb2); (try clear hk); (try clear hi)))
  go_ret
  exact ⟨by first | rfl | (simp [errW_none, errW_some] <;> rfl) | (simp [*, errW_none, errW_some] <;> rfl), spec_DrawPostRead_auHB⟩
 rw [if_neg c6] at H
 have c6b0 : (t311 == 0) = false := beq_eq_false_iff_ne.mpr c6
 have c6b1 : (t311 != 0) = true := bne_iff_ne.mpr c6
 replace H := Option.bind_eq_some_iff.mp H
 obtain ⟨⟨t313, t314⟩, A120, H⟩ := H
 replace H : (if 0 ≤ t313 then (if t313 ≤ (t310.size : Int) then ((spec_l9Rd_of.f k t302 t314 (([(⟨#[]⟩ : ByteArray), (⟨#[48]⟩ : ByteArray), (⟨#[32]⟩ : ByteArray), (⟨#[58]⟩ : ByteArray), (⟨#[45]⟩ : ByteArray), (⟨#[49]⟩ : ByteArray), (⟨#[97]⟩ : ByteArray)] : List ByteArray))).bind fun bt318 => (if (t310.extract 0 (t313 : Int).toNat).size + bt318.1.size ≤ 9223372036854775807 then ((spec_l9Rd_pick.f k t302 bt318.2 2).bind fun bt320 => (if 0 ≤ (wrap64 (t313 + bt320.1)) then (if (wrap64 (t313 + bt320.1)) ≤ (t310.size : Int) then (if ((t310.extract 0 (t313 : Int).toNat) ++ bt318.1).size + (t310.extract ((wrap64 (t313 + bt320.1)) : Int).toNat t310.size).size ≤ 9223372036854775807 then (some (((t310.extract 0 (t313 : Int).toNat) ++ bt318.1) ++ (t310.extract ((wrap64 (t313 + bt320.1)) : Int).toNat t310.size))) else (none)) else (none)) else (none))) else (none))) else (none)) else (none)) = some r := H
 have A12 := Aside0.mk A120
 clear A120
 by_cases c13 : 0 ≤ t313
 rotate_left
 ·
  rw [if_neg c13] at H
  exact absurd H (by simp)
 rw [if_pos c13] at H
 have c13b0 := eq_true c13
 have c13b1 : decide (0 ≤ t313) = true := decide_eq_true c13
 clear c13
 by_cases c14 : t313 ≤ (t310.size : Int)
 rotate_left
 ·
  rw [if_neg c14] at H
  exact absurd H (by simp)
 rw [if_pos c14] at H
 have c14b0 := eq_true c14
 have c14b1 : decide (t313 ≤ (t310.size : Int)) = true := decide_eq_true c14
 clear c14
 obtain ⟨y315, hy315⟩ : ∃ y_ : List ByteArray, y_ = (([(⟨#[]⟩ : ByteArray), (⟨#[48]⟩ : ByteArray), (⟨#[32]⟩ : ByteArray), (⟨#[58]⟩ : ByteArray), (⟨#[45]⟩ : ByteArray), (⟨#[49]⟩ : ByteArray), (⟨#[97]⟩ : ByteArray)] : List ByteArray)) := ⟨_, rfl⟩
 replace H : ((spec_l9Rd_of.f k t302 t314 y315).bind fun bt318 => (if (t310.extract 0 (t313 : Int).toNat).size + bt318.1.size ≤ 9223372036854775807 then ((spec_l9Rd_pick.f k t302 bt318.2 2).bind fun bt320 => (if 0 ≤ (wrap64 (t313 + bt320.1)) then (if (wrap64 (t313 + bt320.1)) ≤ (t310.size : Int) then (if ((t310.extract 0 (t313 : Int).toNat) ++ bt318.1).size + (t310.extract ((wrap64 (t313 + bt320.1)) : Int).toNat t310.size).size ≤ 9223372036854775807 then (some (((t310.extract 0 (t313 : Int).toNat) ++ bt318.1) ++ (t310.extract ((wrap64 (t313 + bt320.1)) : Int).toNat t310.size))) else (none)) else (none)) else (none))) else (none))) = some r := by first | (rw [hy315]; with_reducible exact H) | (have H2_ := (Option.bind_some _ _).symm.trans H; rw [hy315]; with_reducible exact H2_) | (have H2_ := (Option.bind_some _ _).symm.trans H; with_reducible exact H2_) | with_reducible exact H | (rw [hy315]; exact H) | exact H
 have Ny315 := Aside0.mk hy315
 clear hy315
 replace H := Option.bind_eq_some_iff.mp H
 obtain ⟨⟨t318, t319⟩, A150, H⟩ := H
 replace H : (if (t310.extract 0 (t313 : Int).toNat).size + t318.size ≤ 9223372036854775807 then ((spec_l9Rd_pick.f k t302 t319 2).bind fun bt320 => (if 0 ≤ (wrap64 (t313 + bt320.1)) then (if (wrap64 (t313 + bt320.1)) ≤ (t310.size : Int) then (if ((t310.extract 0 (t313 : Int).toNat) ++ t318).size + (t310.extract ((wrap64 (t313 + bt320.1)) : Int).toNat t310.size).size ≤ 9223372036854775807 then (some (((t310.extract 0 (t313 : Int).toNat) ++ t318) ++ (t310.extract ((wrap64 (t313 + bt320.1)) : Int).toNat t310.size))) else (none)) else (none)) else (none))) else (none)) = some r := H
 have A15 := Aside0.mk A150
 clear A150
 by_cases c16 : (t310.extract 0 (t313 : Int).toNat).size + t318.size ≤ 9223372036854775807
 rotate_left
 ·
  rw [if_neg c16] at H
  exact absurd H (by simp)
 rw [if_pos c16] at H
 have c16b0 := eq_true c16
 have c16b1 : decide ((t310.extract 0 (t313 : Int).toNat).size + t318.size ≤ 9223372036854775807) = true := decide_eq_true c16
 try have c16b2 : (9223372036854775807 < (t310.extract 0 (t313 : Int).toNat).size + t318.size) = False := eq_false (Nat.not_lt.2 c16)
 (try (have c16b2e : (9223372036854775807 < t313.toNat + t318.size) = False := eq_false (by have h_ := c16; simp only [ByteArray.size_append, ByteArray.size_extract] at h_; have q0_ : (t313 : Int) ≤ (t310.size : Int) := of_eq_true (by assumption); omega)))
 replace H := Option.bind_eq_some_iff.mp H
 obtain ⟨⟨t320, t321⟩, A170, H⟩ := H
 replace H : (if 0 ≤ (wrap64 (t313 + t320)) then (if (wrap64 (t313 + t320)) ≤ (t310.size : Int) then (if ((t310.extract 0 (t313 : Int).toNat) ++ t318).size + (t310.extract ((wrap64 (t313 + t320)) : Int).toNat t310.size).size ≤ 9223372036854775807 then (some (((t310.extract 0 (t313 : Int).toNat) ++ t318) ++ (t310.extract ((wrap64 (t313 + t320)) : Int).toNat t310.size))) else (none)) else (none)) else (none)) = some r := H
 have A17 := Aside0.mk A170
 clear A170
 obtain ⟨ji18, hji18⟩ : ∃ j_ : Int, (wrap64 (t313 + t320)) = j_ := ⟨_, rfl⟩
 replace H : (if 0 ≤ (ji18) then (if (ji18) ≤ (t310.size : Int) then (if ((t310.extract 0 (t313 : Int).toNat) ++ t318).size + (t310.extract ((ji18) : Int).toNat t310.size).size ≤ 9223372036854775807 then (some (((t310.extract 0 (t313 : Int).toNat) ++ t318) ++ (t310.extract ((ji18) : Int).toNat t310.size))) else (none)) else (none)) else (none)) = some r := by first | (rw [hji18] at H; exact H) | (simp only [hji18] at H ⊢; exact H)
 (try rw [hji18] at A2)
 (try rw [hji18] at A3)
 (try rw [hji18] at A4)
 (try rw [hji18] at A5)
 (try rw [hji18] at A12)
 (try rw [hji18] at A15)
 (try rw [hji18] at A17)
 have hji18w : (IntKind.i64.wrap (t313 + t320)) = ji18 := (i64_w _).trans hji18
 by_cases c19 : 0 ≤ (ji18)
 rotate_left
 ·
  rw [if_neg c19] at H
  exact absurd H (by simp)
 rw [if_pos c19] at H
 have c19b0 := eq_true c19
 have c19b1 : decide (0 ≤ (ji18)) = true := decide_eq_true c19
 clear c19
 by_cases c20 : (ji18) ≤ (t310.size : Int)
 rotate_left
 ·
  rw [if_neg c20] at H
  exact absurd H (by simp)
 rw [if_pos c20] at H
 have c20b0 := eq_true c20
 have c20b1 : decide ((ji18) ≤ (t310.size : Int)) = true := decide_eq_true c20
 clear c20
 by_cases c21 : ((t310.extract 0 (t313 : Int).toNat) ++ t318).size + (t310.extract ((ji18) : Int).toNat t310.size).size ≤ 9223372036854775807
 rotate_left
 ·
  rw [if_neg c21] at H
  exact absurd H (by simp)
 rw [if_pos c21] at H
 have c21b0 := eq_true c21
 have c21b1 : decide (((t310.extract 0 (t313 : Int).toNat) ++ t318).size + (t310.extract ((ji18) : Int).toNat t310.size).size ≤ 9223372036854775807) = true := decide_eq_true c21
 try have c21b2 : (9223372036854775807 < ((t310.extract 0 (t313 : Int).toNat) ++ t318).size + (t310.extract ((ji18) : Int).toNat t310.size).size) = False := eq_false (Nat.not_lt.2 c21)
 (try (have c21b2s : (9223372036854775807 < ((t310.extract 0 (t313 : Int).toNat) ++ t318).size + (t310.extract ((ji18) : Int).toNat t310.size).size) = False := eq_false (Nat.not_lt.2 c21); simp only [ByteArray.size_append] at c21b2s))
 (try (have c21b2e : (9223372036854775807 < (t313.toNat + t318.size) + (t310.size - ji18.toNat)) = False := eq_false (by have h_ := c21; simp only [ByteArray.size_append, ByteArray.size_extract] at h_; have q0_ : (t313 : Int) ≤ (t310.size : Int) := of_eq_true (by assumption); omega)))
 obtain rfl := Option.some.inj H
 go_enter Tryd.func19, Tryd.ntmps19
 try go_wp2_with (first | ((with_reducible refine gate_callee (f := 39) rfl ?_); refine goesL_ (some 7) rfl rfl Tryd.func39 (by kernel_rfl) rfl #[.slice A0 l0.length c0] rfl (by (try simp only [List.map_toArray, List.map_cons, List.map_nil]); first | done | rfl | (simp only [List.length_drop, List.length_take]; rfl)) ?_; (with_reducible refine (spec_l9Open.calls _ _ l0 t302 t303 w _ ?side1 ?side2 ?side3 A2.out).mono ?_); (case side1 => exact spec_DrawPostRead_auHB); (case side2 => exact HR0.out); (case side3 => exact HC0.out); rintro e w22 ⟨g304, rfl, hi, hb, hb2⟩; refine ⟨_, rfl, ?_⟩; replace HB := Aside0.mk (hb); have HI304 := Aside0.mk (hi); (try clear hb); (try clear hb2); (try clear hk); (try clear hi)) | ((with_reducible refine gate_callee (f := 40) rfl ?_); refine goesL_ (some 9) rfl rfl Tryd.func40 (by kernel_rfl) rfl #[.pointer (some ⟨g304, 0, none⟩)] rfl (by (try simp only [List.map_toArray, List.map_cons, List.map_nil]); first | done | rfl | (simp only [List.length_drop, List.length_take]; rfl)) ?_; (with_reducible refine (spec_l1Post.calls k g304 t302 t303 t305 t306 t309 w _ ?side1 ?side2 A3.out).mono ?_); (case side1 => exact spec_DrawPostRead_auHI304); (case side2 => exact spec_DrawPostRead_auHB); rintro e w23 ⟨v307, rfl, ho0, hi, hb, hk⟩; refine ⟨_, rfl, ?_⟩; have HO308 := Aside0.mk (Kd.R_lower ho0 (below_size (spec_DrawPostRead_auHB))); replace HB := Aside0.mk (hb); replace HI304 := Aside0.mk (hi); (try clear hb); (try clear hb2); (try clear hk); (try clear hi); (try clear ho0); obtain ⟨Ao24, co24, eo24⟩ := Kd.R_slice HO308.out; subst eo24) | ((with_reducible refine gate_callee (f := 7) rfl ?_); refine goesL_ (some 10) rfl rfl Tryd.func7 (by kernel_rfl) rfl #[.agg #[.int .i64 t305, .slice Ao24 t306.length co24]] rfl (by (try simp only [List.map_toArray, List.map_cons, List.map_nil]); first | done | rfl | (simp only [List.length_drop, List.length_take]; rfl)) ?_; (with_reducible refine (spec_PostText.calls k t305 _ _ t306 t310 _ ?side1 ?side2 A4.out).mono ?_); (case side1 => exact co_ (Kd.R_reads' HO308.out).2.2); (case side2 => exact (Kd.R_reads' HO308.out).2.1); rintro e w25 ⟨rfl, hb⟩; refine ⟨_, rfl, ?_⟩; replace HO308 := Aside0.mk (Kd.R_below (lo_ HO308) hb); replace HI304 := Aside0.mk (IsS84.below (spec_DrawPostRead_auHI304) hb); replace HB := Aside0.mk (below_step (spec_DrawPostRead_auHB) hb); (try clear hb); (try clear hb2); (try clear hk); (try clear hi)) | ((with_reducible refine gate_callee (f := 41) rfl ?_); refine goesL_ (some 12) rfl rfl Tryd.func41 (by kernel_rfl) rfl #[.pointer (some ⟨g304, 0, none⟩), .int .i64 2] rfl (by (try simp only [List.map_toArray, List.map_cons, List.map_nil]); first | done | rfl | (simp only [List.length_drop, List.length_take]; rfl)) ?_; (with_reducible refine (spec_l9Rd_pick.calls k g304 t302 t309 2 t311 t312 w _ ?side1 ?side2 A5.out).mono ?_); (case side1 => exact spec_DrawPostRead_auHI304); (case side2 => exact spec_DrawPostRead_auHB); rintro e w26 ⟨rfl, hi, hb, hk⟩; refine ⟨_, rfl, ?_⟩; replace HO308 := Aside0.mk (Kd.R_mono (Kd.R_keep (IsS84.apart (show IsS84 w _ g304 t302 t309 from spec_DrawPostRead_auHI304) (lo_ HO308) (by decide)) hk (fun _ h => h.2)) (fun _ h => h.1)); replace HB := Aside0.mk (hb); replace HI304 := Aside0.mk (hi); (try clear hb); (try clear hb2); (try clear hk); (try clear hi)) | ((with_reducible refine gate_callee (f := 41) rfl ?_); refine goesL_ (some 18) rfl rfl Tryd.func41 (by kernel_rfl) rfl #[.pointer (some ⟨g304, 0, none⟩), .int .i64 (t310.size : Int)] rfl (by (try simp only [List.map_toArray, List.map_cons, List.map_nil]); first | done | rfl | (simp only [List.length_drop, List.length_take]; rfl)) ?_; (with_reducible refine (spec_l9Rd_pick.calls k g304 t302 t312 (t310.size : Int) t313 t314 w _ ?side1 ?side2 A12.out).mono ?_); (case side1 => exact spec_DrawPostRead_auHI304); (case side2 => exact spec_DrawPostRead_auHB); rintro e w27 ⟨rfl, hi, hb, hk⟩; refine ⟨_, rfl, ?_⟩; replace HO308 := Aside0.mk (Kd.R_mono (Kd.R_keep (IsS84.apart (show IsS84 w _ g304 t302 t312 from spec_DrawPostRead_auHI304) (lo_ HO308) (by decide)) hk (fun _ h => h.2)) (fun _ h => h.1)); replace HB := Aside0.mk (hb); replace HI304 := Aside0.mk (hi); (try clear hb); (try clear hb2); (try clear hk); (try clear hi)))
 replace HO308 := Aside0.mk (Kd.R_drew HO308.out)
 replace HI304 := Aside0.mk (IsS84.drew HI304.out)
 replace HB := Aside0.mk (below_drew1 HB.out)
 refine start_ (n := 15) (S := fun w' => True) (ds := []) #[false, false, false, false, false, false, false, false, false, false, false, false, false, false, false] (by kernel_rfl) rfl rfl trivial (fun hHeld => ?_); refine with_tabW spec_DrawPostRead.tab6 spec_DrawPostRead.bits6 (fun HT_ HW_ => ?_)
 generalize w27.drew = w28 at HO308 HI304 HB hHeld ⊢
 refine pu_ 0 (some 19) HT_ rfl rfl (by go_simp; rfl) (by kernel_rfl) rfl (by intro w'; go_simp; with_reducible rfl) (fun _ _ _ h => h) (by go_simp; rfl) ?_
 refine pu_ 1 (some 20) HT_ rfl rfl (by go_simp; rfl) (by kernel_rfl) rfl (by intro w'; go_simp; with_reducible rfl) (fun _ _ _ h => h) (by go_simp; rfl) ?_
 refine pu_ 2 (some 21) HT_ rfl rfl (by go_simp; rfl) (by kernel_rfl) rfl (by intro w'; go_simp; with_reducible rfl) (fun _ _ _ h => h) (by go_simp; rfl) ?_
 refine pu_ 3 (some 22) HT_ rfl rfl (by go_simp; rfl) (by kernel_rfl) rfl (by intro w'; go_simp; with_reducible rfl) (fun _ _ _ h => h) (by go_simp; rfl) ?_
 refine pu_ 7 (some 26) HT_ rfl rfl (by go_simp; rfl) (by kernel_rfl) rfl (by intro w'; go_simp; with_reducible rfl) (fun _ _ _ h => h) (by go_simp; rfl) ?_
 refine pu_ 8 (some 27) HT_ rfl rfl (by go_simp; rfl) (by kernel_rfl) rfl (by intro w'; go_simp; with_reducible rfl) (fun _ _ _ h => h) (by go_simp; rfl) ?_
 refine pu_ 9 (some 28) HT_ rfl rfl (by go_simp; rfl) (by kernel_rfl) rfl (by intro w'; go_simp; with_reducible rfl) (fun _ _ _ h => h) (by go_simp; rfl) ?_
 refine one_ (i := 4) (N := some 23) #[true, true, true, true, true, false, false, true, true, true, false, false, false, false, false] rfl rfl (one_of HT_.out (by kernel_rfl)) (by decide) (fun K hK => ?_)
 refine Kd.R_lit_step Kd.string _ 9 ?hg (N := 23) ?hd (xs := ([(⟨#[]⟩ : ByteArray), (⟨#[48]⟩ : ByteArray), (⟨#[32]⟩ : ByteArray), (⟨#[58]⟩ : ByteArray), (⟨#[45]⟩ : ByteArray), (⟨#[49]⟩ : ByteArray), (⟨#[97]⟩ : ByteArray)] : List ByteArray)) (inner := [.string (⟨#[]⟩ : ByteArray), .string (⟨#[48]⟩ : ByteArray), .string (⟨#[32]⟩ : ByteArray), .string (⟨#[58]⟩ : ByteArray), .string (⟨#[45]⟩ : ByteArray), .string (⟨#[49]⟩ : ByteArray), .string (⟨#[97]⟩ : ByteArray)]) (ok := fun _ => True) (okp := fun _ => True) ?hr ?hp (fun _ hk => hk) trivial (Below.refl _ _) (Nat.le_refl _) (by simp) ?_; (case hd => rfl); (case hg => rfl); (case hr => first | (go_simp; done) | (go_simp; rfl)); (case hp => exact (Reps.one (show Kd.M Kd.string _ _ _ (⟨#[]⟩ : ByteArray) [.string (⟨#[]⟩ : ByteArray)] from rfl) (Reps.one (show Kd.M Kd.string _ _ _ (⟨#[48]⟩ : ByteArray) [.string (⟨#[48]⟩ : ByteArray)] from rfl) (Reps.one (show Kd.M Kd.string _ _ _ (⟨#[32]⟩ : ByteArray) [.string (⟨#[32]⟩ : ByteArray)] from rfl) (Reps.one (show Kd.M Kd.string _ _ _ (⟨#[58]⟩ : ByteArray) [.string (⟨#[58]⟩ : ByteArray)] from rfl) (Reps.one (show Kd.M Kd.string _ _ _ (⟨#[45]⟩ : ByteArray) [.string (⟨#[45]⟩ : ByteArray)] from rfl) (Reps.one (show Kd.M Kd.string _ _ _ (⟨#[49]⟩ : ByteArray) [.string (⟨#[49]⟩ : ByteArray)] from rfl) (Reps.one (show Kd.M Kd.string _ _ _ (⟨#[97]⟩ : ByteArray) [.string (⟨#[97]⟩ : ByteArray)] from rfl) (Reps.none _ _)))))))))
 intro v316 w29 ho30 hb hg_ hnew_
 clear hg_ hnew_
 (first | rw [← Ny315.out] at ho30 | (simp only [Int.reduceToNat] at ho30; rw [← Ny315.out] at ho30))
 replace HO308 := Aside0.mk (Kd.R_below (lo_ HO308) hb)
 have HO317 := Aside0.mk (Kd.R_lower ho30 (below_size (spec_DrawPostRead_auHB)))
 replace HI304 := Aside0.mk (IsS84.below (spec_DrawPostRead_auHI304) hb)
 replace HB := Aside0.mk (below_step (spec_DrawPostRead_auHB) hb)
 clear hb ho30
 obtain ⟨Ao31, co31, eo31⟩ := Kd.R_slice HO317.out
 (first | subst eo31 | (injection eo31 with f1_ f2_ f3_; have f4_ := f1_.symm; have f5_ := f3_.symm; clear f1_ f2_ f3_; subst f4_; subst f5_))
 refine hK.out _ _ trivial (fun hHeld => ?_)
 clear hK K
 refine norm_ (a' := ?_) ?_ ?_
 rotate_left
 ·
  show Act.put _ (some 23) _ = _
  simp only [Act.put, List.setIfInBounds_toArray, List.set_cons_zero, List.set_cons_succ, i64_w, i32_w]
  rfl
 refine one_ (i := 5) (N := some 24) #[true, true, true, true, true, true, false, true, true, true, false, false, false, false, false] rfl rfl (one_of HT_.out (by kernel_rfl)) (by decide) (fun K hK => ?_)
 refine goes_ Tryd.func42 (by kernel_rfl) rfl #[.pointer (some ⟨g304, 0, none⟩), .slice Ao31 y315.length co31] (by rfl) rfl rfl (by (try simp only [List.map_toArray, List.map_cons, List.map_nil]); first | done | rfl | (simp only [List.length_drop, List.length_take]; rfl)) ?_
 with_reducible refine (spec_l9Rd_of.calls k g304 t302 t314 _ _ y315 t318 t319 w _ ?side1 ?side2 ?side3 ?side4 ?side5 A15.out).mono ?_
 (case side1 => exact spec_DrawPostRead_auHI304)
 (case side2 => exact spec_DrawPostRead_auHB)
 (case side3 => exact co_ (Kd.R_reads' HO317.out).2.2)
 (case side4 => exact (Kd.R_reads' HO317.out).2.1)
 (case side5 => exact far_slice (IsS84.own_ne HI304.out HO317.out (by decide)))
 rintro e w32 ⟨rfl, hi, hb, hk⟩
 refine ⟨_, rfl, ?_⟩
 replace HO308 := Aside0.mk (Kd.R_mono (Kd.R_keep (IsS84.apart (show IsS84 w _ g304 t302 t314 from spec_DrawPostRead_auHI304) (lo_ HO308) (by decide)) hk (fun _ h => h.2)) (fun _ h => h.1))
 replace HO317 := Aside0.mk (Kd.R_mono (Kd.R_keep (IsS84.apart (show IsS84 w _ g304 t302 t314 from spec_DrawPostRead_auHI304) (lo_ HO317) (by decide)) hk (fun _ h => h.2)) (fun _ h => h.1))
 replace HB := Aside0.mk (hb)
 replace HI304 := Aside0.mk (hi)
 (try clear hb)
 (try clear hb2)
 (try clear hk)
 (try clear hi)
 refine hK.out _ _ trivial (fun hHeld => ?_)
 clear hK K
 refine norm_ (a' := ?_) ?_ ?_
 rotate_left
 ·
  show Act.put _ (some 24) _ = _
  simp only [Act.put, List.setIfInBounds_toArray, List.set_cons_zero, List.set_cons_succ, i64_w, i32_w]
  rfl
 refine pu_ 6 (some 25) HT_ rfl rfl (by go_simp; rfl) (by kernel_rfl) rfl (by intro w'; go_simp; with_reducible rfl) (fun _ _ _ h => h) (by go_simp; rfl) ?_
 refine one_ (i := 10) (N := some 29) #[true, true, true, true, true, true, true, true, true, true, true, false, false, false, false] rfl rfl (one_of HT_.out (by kernel_rfl)) (by decide) (fun K hK => ?_)
 refine goes_ Tryd.func41 (by kernel_rfl) rfl #[.pointer (some ⟨g304, 0, none⟩), .int .i64 2] (by rfl) rfl rfl (by (try simp only [List.map_toArray, List.map_cons, List.map_nil]); first | done | rfl | (simp only [List.length_drop, List.length_take]; rfl)) ?_
 with_reducible refine (spec_l9Rd_pick.calls k g304 t302 t319 2 t320 t321 w _ ?side1 ?side2 A17.out).mono ?_
 (case side1 => exact spec_DrawPostRead_auHI304)
 (case side2 => exact spec_DrawPostRead_auHB)
 rintro e w33 ⟨rfl, hi, hb, hk⟩
 refine ⟨_, rfl, ?_⟩
 replace HO308 := Aside0.mk (Kd.R_mono (Kd.R_keep (IsS84.apart (show IsS84 w _ g304 t302 t319 from spec_DrawPostRead_auHI304) (lo_ HO308) (by decide)) hk (fun _ h => h.2)) (fun _ h => h.1))
 replace HO317 := Aside0.mk (Kd.R_mono (Kd.R_keep (IsS84.apart (show IsS84 w _ g304 t302 t319 from spec_DrawPostRead_auHI304) (lo_ HO317) (by decide)) hk (fun _ h => h.2)) (fun _ h => h.1))
 replace HB := Aside0.mk (hb)
 replace HI304 := Aside0.mk (hi)
 (try clear hb)
 (try clear hb2)
 (try clear hk)
 (try clear hi)
 refine hK.out _ _ trivial (fun hHeld => ?_)
 clear hK K
 refine norm_ (a' := ?_) ?_ ?_
 rotate_left
 ·
  show Act.put _ (some 29) _ = _
  simp only [Act.put, List.setIfInBounds_toArray, List.set_cons_zero, List.set_cons_succ, i64_w, i32_w]
  rfl
 refine pu_ 11 (some 30) HT_ rfl rfl (by go_simp; rfl) (by kernel_rfl) rfl (by intro w'; go_simp; with_reducible rfl) (fun _ _ _ h => h) (by go_simp; rfl) ?_
 refine pu_ 12 (some 31) HT_ rfl rfl (by go_simp; rfl) (by kernel_rfl) rfl (by intro w'; go_simp; with_reducible rfl) (fun _ _ _ h => h) (by go_simp; rfl) ?_
 refine pu_ 13 (some 32) HT_ rfl rfl (by go_simp; rfl) (by kernel_rfl) rfl (by intro w'; go_simp; with_reducible rfl) (fun _ _ _ h => h) (by go_simp; rfl) ?_
 refine pu_ 14 (some 2) HT_ rfl rfl (by go_simp; rfl) (by kernel_rfl) rfl (by intro w'; go_simp; with_reducible rfl) (fun _ _ _ h => h) (by go_simp; rfl) ?_
 refine done_ (done_of HT_.out (by kernel_rfl)) ?_
 try go_wp2
 go_ret
 exact ⟨by first | rfl | (simp [errW_none, errW_some] <;> rfl) | (simp only [← hji18]; first | rfl | (simp [errW_none, errW_some] <;> rfl)) | (simp [*, errW_none, errW_some] <;> rfl), spec_DrawPostRead_auHB⟩


end Go.Proofs.YtdjohhobmipagaaDoor.QFnPost

/- What the law FnPostBent reaches, function by function: what each computes, and that the machine's call comes to it. Laid by a program. -/
import Derived.Test.YtemnggadcgmmkaaQFnPostBentxR8
namespace Go.Proofs.Ytemnggadcgmmkaa.QFnPostBent
open Go.RowKit Go.Proofs.YtemnggadcgmmkaaW.PrintWords Go.Proofs.YtemnggadcgmmkaaW.PrintLast Go.Proofs.YtemnggadcgmmkaaW.PrintMore
attribute [local go_sem] max2_int min2_int max_two min_two max_three min_three max_four min_four   -- for this text's walks alone
set_option linter.unusedVariables false
set_option linter.unusedSimpArgs false
set_option maxHeartbeats 8000000 in
set_option maxRecDepth 100000 in
theorem laws_FnPostBent.calls (k : Nat) (A0 : Option Addr) (c0 : Nat) (l0 : List Int) (r : Bool) (w : World) (hr0 : Kd.C (Kd.int .u8) w A0 l0.length l0) (hc0 : l0.length ≤ c0) (h : laws_FnPostBent.f k l0 = some r) :
  Calls Try.prog 3 #[.slice A0 l0.length c0] w fun e w' => e = .returned (.bool r) ∧ Below w.heap.size w w' := by
 have hu25 := Try.underlying25
 have hu29 := Try.underlying29
 have HR0 := Aside0.mk hr0
 have HC0 := Aside0.mk hc0
 clear hr0 hc0
 have HB := Aside0.mk (Below.refl w.heap.size w)
 have H : (if (l0.length : Int) > 1048576 then (some true) else ((spec_DrawPostSame.f k l0).bind fun bt294 => ((spec_DrawLegOk.f k l0).bind fun bt304 => ((spec_DrawAcctOk.f k l0).bind fun t308 => ((impl_PostSame.f k bt294.1 bt294.2.1 bt294.2.2.1 bt294.2.2.2).bind fun t309 => ((spec_PostSame.f k bt294.1 bt294.2.1 bt294.2.2.1 bt294.2.2.2).bind fun t310 => (if (t309 != t310) = true then (none) else ((impl_PostSame.f k bt294.1 bt294.2.1 bt294.2.2.1 bt294.2.2.2).bind fun t311 => ((impl_PostSame.f k bt294.2.2.1 bt294.2.2.2 bt294.1 bt294.2.1).bind fun t312 => (if (t311 != t312) = true then (none) else ((impl_LegOk.f k bt304.1 bt304.2.1 bt304.2.2).bind fun t313 => ((spec_LegOk.f k bt304.1 bt304.2.1 bt304.2.2).bind fun t314 => (if (t313 != t314) = true then (none) else ((impl_AcctOk.f k t308).bind fun t315 => ((spec_AcctOk.f k t308).bind fun t316 => (if (t315 != t316) = true then (none) else ((impl_PostSame.f k bt294.1 bt294.2.1 bt294.1 bt294.2.1).bind fun t317 => (laws_FnPostBent.j0 k (!t317) bt294.1 bt294.2.1)))))))))))))))))) = some r := h
 clear h
 by_cases c2 : (l0.length : Int) > 1048576
 ·
  rw [if_pos c2] at H
  have c2b0 : decide (1048576 < (l0.length : Int)) = true := decide_eq_true c2
  have c2b1 : decide (1048576 < l0.length) = true := decide_eq_true (by omega)
  clear c2
  obtain rfl := Option.some.inj H
  go_enter Try.func3, Try.ntmps3
  go_wp2
  go_ret
  exact ⟨by first | rfl | (simp [errW_none, errW_some] <;> rfl) | (simp [*, errW_none, errW_some] <;> rfl), laws_FnPostBent_auHB⟩
 rw [if_neg c2] at H
 have c2b0 : decide (1048576 < (l0.length : Int)) = false := decide_eq_false c2
 have c2b1 : decide (1048576 < l0.length) = false := decide_eq_false (by omega)
 clear c2
 replace H := Option.bind_eq_some_iff.mp H
 obtain ⟨⟨t294, t295, t298, t299⟩, A30, H⟩ := H
 replace H : ((spec_DrawLegOk.f k l0).bind fun bt304 => ((spec_DrawAcctOk.f k l0).bind fun t308 => ((impl_PostSame.f k t294 t295 t298 t299).bind fun t309 => ((spec_PostSame.f k t294 t295 t298 t299).bind fun t310 => (if (t309 != t310) = true then (none) else ((impl_PostSame.f k t294 t295 t298 t299).bind fun t311 => ((impl_PostSame.f k t298 t299 t294 t295).bind fun t312 => (if (t311 != t312) = true then (none) else ((impl_LegOk.f k bt304.1 bt304.2.1 bt304.2.2).bind fun t313 => ((spec_LegOk.f k bt304.1 bt304.2.1 bt304.2.2).bind fun t314 => (if (t313 != t314) = true then (none) else ((impl_AcctOk.f k t308).bind fun t315 => ((spec_AcctOk.f k t308).bind fun t316 => (if (t315 != t316) = true then (none) else ((impl_PostSame.f k t294 t295 t294 t295).bind fun t317 => (laws_FnPostBent.j0 k (!t317) t294 t295)))))))))))))))) = some r := H
 have A3 := Aside0.mk A30
 clear A30
 replace H := Option.bind_eq_some_iff.mp H
 obtain ⟨⟨t304, t305, t306⟩, A40, H⟩ := H
 replace H : ((spec_DrawAcctOk.f k l0).bind fun t308 => ((impl_PostSame.f k t294 t295 t298 t299).bind fun t309 => ((spec_PostSame.f k t294 t295 t298 t299).bind fun t310 => (if (t309 != t310) = true then (none) else ((impl_PostSame.f k t294 t295 t298 t299).bind fun t311 => ((impl_PostSame.f k t298 t299 t294 t295).bind fun t312 => (if (t311 != t312) = true then (none) else ((impl_LegOk.f k t304 t305 t306).bind fun t313 => ((spec_LegOk.f k t304 t305 t306).bind fun t314 => (if (t313 != t314) = true then (none) else ((impl_AcctOk.f k t308).bind fun t315 => ((spec_AcctOk.f k t308).bind fun t316 => (if (t315 != t316) = true then (none) else ((impl_PostSame.f k t294 t295 t294 t295).bind fun t317 => (laws_FnPostBent.j0 k (!t317) t294 t295))))))))))))))) = some r := H
 have A4 := Aside0.mk A40
 clear A40
 replace H := Option.bind_eq_some_iff.mp H
 obtain ⟨t308, A50, H⟩ := H
 replace H : ((impl_PostSame.f k t294 t295 t298 t299).bind fun t309 => ((spec_PostSame.f k t294 t295 t298 t299).bind fun t310 => (if (t309 != t310) = true then (none) else ((impl_PostSame.f k t294 t295 t298 t299).bind fun t311 => ((impl_PostSame.f k t298 t299 t294 t295).bind fun t312 => (if (t311 != t312) = true then (none) else ((impl_LegOk.f k t304 t305 t306).bind fun t313 => ((spec_LegOk.f k t304 t305 t306).bind fun t314 => (if (t313 != t314) = true then (none) else ((impl_AcctOk.f k t308).bind fun t315 => ((spec_AcctOk.f k t308).bind fun t316 => (if (t315 != t316) = true then (none) else ((impl_PostSame.f k t294 t295 t294 t295).bind fun t317 => (laws_FnPostBent.j0 k (!t317) t294 t295)))))))))))))) = some r := H
 have A5 := Aside0.mk A50
 clear A50
 have HC6 := Aside0.mk H
 clear H
 go_enter Try.func3, Try.ntmps3
 go_upto_region 6 with (first | ((with_reducible refine gate_callee (f := 5) rfl ?_); refine goesL_ (some 16) rfl rfl Try.func5 (by kernel_rfl) rfl #[.slice A0 l0.length c0] rfl (by (try simp only [List.map_toArray, List.map_cons, List.map_nil]); first | done | rfl | (simp only [List.length_drop, List.length_take]; rfl)) ?_; (with_reducible refine (spec_DrawPostSame.calls k _ _ l0 t294 t295 t298 t299 _ ?side1 ?side2 A3.out).mono ?_); (case side1 => exact co_ HR0.out); (case side2 => exact HC0.out); rintro e w7 ⟨v296, v300, rfl, ho0, ho1, hb⟩; refine ⟨_, rfl, ?_⟩; have HO297 := Aside0.mk (Kd.R_lower ho0 (below_size (laws_FnPostBent_auHB))); have HO301 := Aside0.mk (Kd.R_lower ho1 (below_size (laws_FnPostBent_auHB))); replace HB := Aside0.mk (below_step (laws_FnPostBent_auHB) hb); (try clear hb); (try clear hb2); (try clear hk); (try clear hi); (try clear ho0); (try clear ho1)) | ((with_reducible refine gate_dst (N := 3) rfl ?_); (try (refine gate_guard (by rfl) ?_; dsimp only)); refine box_event ?hg (N := 3) ?hd (cs := #[.int .i64 0, .slice none 0 0]) (t := 25) ?hr ?_; (case hd => rfl); (case hg => rfl); (case hr => first | (go_simp; done) | (go_simp; rfl)); intro gb302 hg w8 hbox hb; replace HO297 := Aside0.mk (Kd.R_below (lo_ HO297) hb); replace HO301 := Aside0.mk (Kd.R_below (lo_ HO301) hb); have BK302 := Aside0.mk (hbox); have GW302 := Aside0.mk ((by rw [hg]; exact (below_size (laws_FnPostBent_auHB)) : w.heap.size ≤ gb302)); have GE302 := Aside0.mk ((by rw [hg]; exact (below_size (laws_FnPostBent_auHB)) : w.heap.size ≤ gb302)); replace HB := Aside0.mk (below_step (laws_FnPostBent_auHB) hb); clear hb hbox hg) | ((with_reducible refine gate_dst (N := 4) rfl ?_); (try (refine gate_guard (by rfl) ?_; dsimp only)); refine box_event ?hg (N := 4) ?hd (cs := #[.int .i64 0, .slice none 0 0]) (t := 25) ?hr ?_; (case hd => rfl); (case hg => rfl); (case hr => first | (go_simp; done) | (go_simp; rfl)); intro gb303 hg w9 hbox hb; replace HO297 := Aside0.mk (Kd.R_below (lo_ HO297) hb); replace HO301 := Aside0.mk (Kd.R_below (lo_ HO301) hb); have BK303 := Aside0.mk (hbox); have GW303 := Aside0.mk ((by rw [hg]; exact (below_size (laws_FnPostBent_auHB)) : w.heap.size ≤ gb303)); have GE303 := Aside0.mk ((by rw [hg]; exact (below_size (laws_FnPostBent_auHB)) : w.heap.size ≤ gb303)); replace HB := Aside0.mk (below_step (laws_FnPostBent_auHB) hb); have NB302_303 := Aside0.mk ((by rw [hg]; exact Nat.ne_of_lt (blk_lt (g := gb302) (o := .cells #[.int .i64 0, .slice none 0 0] 25 (0, 0)) (laws_FnPostBent_vb BK302)) : gb302 ≠ gb303)); have NB303_302 := Aside0.mk ((by rw [hg]; exact Nat.ne_of_gt (blk_lt (g := gb302) (o := .cells #[.int .i64 0, .slice none 0 0] 25 (0, 0)) (laws_FnPostBent_vb BK302)) : gb303 ≠ gb302)); replace BK302 := Aside0.mk (blk_below (g := gb302) (o := .cells #[.int .i64 0, .slice none 0 0] 25 (0, 0)) (laws_FnPostBent_vb BK302) hb); clear hb hbox hg; have hnb10 := NB302_303.out; have hnc10 := NB303_302.out; have hcz11_0 : w9.cell? ⟨gb302, 0, none⟩ = some (.int .i64 0) := (blk_cell BK302.out 0).trans rfl; have hcz11_1 : w9.cell? ⟨gb302, 1, none⟩ = some (.slice none 0 0) := (blk_cell BK302.out 1).trans rfl; have hfz11_0 := blk_frozen BK302.out 0; have hfz11_1 := blk_frozen BK302.out 1; obtain ⟨Ao12, co12, eo12⟩ := Kd.R_slice HO297.out; subst eo12; have hcz13_0 : w9.cell? ⟨gb303, 0, none⟩ = some (.int .i64 0) := (blk_cell BK303.out 0).trans rfl; have hcz13_1 : w9.cell? ⟨gb303, 1, none⟩ = some (.slice none 0 0) := (blk_cell BK303.out 1).trans rfl; have hfz13_0 := blk_frozen BK303.out 0; have hfz13_1 := blk_frozen BK303.out 1; obtain ⟨Ao14, co14, eo14⟩ := Kd.R_slice HO301.out; subst eo14) | ((with_reducible refine gate_callee (f := 6) rfl ?_); refine goesL_ (some 20) rfl rfl Try.func6 (by kernel_rfl) rfl #[.slice A0 l0.length c0] rfl (by (try simp only [List.map_toArray, List.map_cons, List.map_nil]); first | done | rfl | (simp only [List.length_drop, List.length_take]; rfl)) ?_; (with_reducible refine (spec_DrawLegOk.calls k _ _ l0 t304 t305 t306 _ ?side1 ?side2 A4.out).mono ?_); (case side1 => exact Kd.C_below HR0.out (laws_FnPostBent_auHB)); (case side2 => exact HC0.out); rintro e w15 ⟨rfl, hb⟩; refine ⟨_, rfl, ?_⟩; replace HO297 := Aside0.mk (Kd.R_below (by (with_reducible repeat (first | apply Kd.R_alloc | apply Kd.R_drewN | apply Kd.R_drew)); exact (Kd.R_mono (Kd.R_mono (Kd.R_far (p := ⟨gb303, 1, none⟩) (Kd.R_far (p := ⟨gb303, 0, none⟩) (Kd.R_far (p := ⟨gb302, 1, none⟩) (Kd.R_far (p := ⟨gb302, 0, none⟩) (Kd.R_types (Kd.R_types HO297.out BK302.out (by decide)) BK303.out (by decide)) (fun _ hk => hk.1.2) (.int .i64 t294)) (fun _ hk => hk.1.2) (.slice Ao12 t295.length co12)) (fun _ hk => hk.2) (.int .i64 t298)) (fun _ hk => hk.2) (.slice Ao14 t299.length co14)) (fun _ h_ => h_.1)) (fun _ h_ => h_.1))) hb); replace HO301 := Aside0.mk (Kd.R_below (by (with_reducible repeat (first | apply Kd.R_alloc | apply Kd.R_drewN | apply Kd.R_drew)); exact (Kd.R_mono (Kd.R_mono (Kd.R_far (p := ⟨gb303, 1, none⟩) (Kd.R_far (p := ⟨gb303, 0, none⟩) (Kd.R_far (p := ⟨gb302, 1, none⟩) (Kd.R_far (p := ⟨gb302, 0, none⟩) (Kd.R_types (Kd.R_types HO301.out BK302.out (by decide)) BK303.out (by decide)) (fun _ hk => hk.1.2) (.int .i64 t294)) (fun _ hk => hk.1.2) (.slice Ao12 t295.length co12)) (fun _ hk => hk.2) (.int .i64 t298)) (fun _ hk => hk.2) (.slice Ao14 t299.length co14)) (fun _ h_ => h_.1)) (fun _ h_ => h_.1))) hb); replace BK302 := Aside0.mk (blk_below (g := gb302) (o := .cells #[.int .i64 t294, .slice Ao12 t295.length co12] 25 (0, 0)) (by (with_reducible repeat (first | refine blk_drewN ?_ _ | refine blk_drew ?_ | refine blk_alloc ?_ _)); refine blk_far ?_ NB302_303.out _; (with_reducible repeat (first | refine blk_drewN ?_ _ | refine blk_drew ?_ | refine blk_alloc ?_ _)); refine blk_far ?_ NB302_303.out _; (with_reducible repeat (first | refine blk_drewN ?_ _ | refine blk_drew ?_ | refine blk_alloc ?_ _)); refine blk_put (cs := #[.int .i64 t294, .slice none 0 0]) ?_ 1 _ rfl; (with_reducible repeat (first | refine blk_drewN ?_ _ | refine blk_drew ?_ | refine blk_alloc ?_ _)); refine blk_put (cs := #[.int .i64 0, .slice none 0 0]) ?_ 0 _ rfl; (with_reducible repeat (first | refine blk_drewN ?_ _ | refine blk_drew ?_ | refine blk_alloc ?_ _)); exact BK302.out) hb); replace BK303 := Aside0.mk (blk_below (g := gb303) (o := .cells #[.int .i64 t298, .slice Ao14 t299.length co14] 25 (0, 0)) (by (with_reducible repeat (first | refine blk_drewN ?_ _ | refine blk_drew ?_ | refine blk_alloc ?_ _)); refine blk_put (cs := #[.int .i64 t298, .slice none 0 0]) ?_ 1 _ rfl; (with_reducible repeat (first | refine blk_drewN ?_ _ | refine blk_drew ?_ | refine blk_alloc ?_ _)); refine blk_put (cs := #[.int .i64 0, .slice none 0 0]) ?_ 0 _ rfl; (with_reducible repeat (first | refine blk_drewN ?_ _ | refine blk_drew ?_ | refine blk_alloc ?_ _)); refine blk_far ?_ NB303_302.out _; (with_reducible repeat (first | refine blk_drewN ?_ _ | refine blk_drew ?_ | refine blk_alloc ?_ _)); refine blk_far ?_ NB303_302.out _; (with_reducible repeat (first | refine blk_drewN ?_ _ | refine blk_drew ?_ | refine blk_alloc ?_ _)); exact BK303.out) hb); replace HB := Aside0.mk (below_step (laws_FnPostBent_auHB) hb); (try clear hb); (try clear hb2); (try clear hk); (try clear hi)) | ((with_reducible refine gate_dst (N := 5) rfl ?_); (try (refine gate_guard (by rfl) ?_; dsimp only)); refine box_event ?hg (N := 5) ?hd (cs := #[.string (⟨#[]⟩ : ByteArray), .int .i64 0, .int .i64 0]) (t := 29) ?hr ?_; (case hd => rfl); (case hg => rfl); (case hr => first | (go_simp; done) | (go_simp; rfl)); intro gb307 hg w16 hbox hb; replace HO297 := Aside0.mk (Kd.R_below (Kd.R_elderB (lo_ HO297) gb307 (Nat.le_of_eq hg.symm)) hb); replace HO301 := Aside0.mk (Kd.R_below (Kd.R_elderB (lo_ HO301) gb307 (Nat.le_of_eq hg.symm)) hb); have BK307 := Aside0.mk (hbox); have GW307 := Aside0.mk ((by rw [hg]; exact (below_size (laws_FnPostBent_auHB)) : w.heap.size ≤ gb307)); have GE307 := Aside0.mk ((by rw [hg]; exact (below_size (laws_FnPostBent_auHB)) : w.heap.size ≤ gb307)); replace HB := Aside0.mk (below_step (laws_FnPostBent_auHB) hb); have NB302_307 := Aside0.mk ((by rw [hg]; exact Nat.ne_of_lt (blk_lt (g := gb302) (o := .cells #[.int .i64 t294, .slice Ao12 t295.length co12] 25 (0, 0)) (laws_FnPostBent_vb BK302)) : gb302 ≠ gb307)); have NB307_302 := Aside0.mk ((by rw [hg]; exact Nat.ne_of_gt (blk_lt (g := gb302) (o := .cells #[.int .i64 t294, .slice Ao12 t295.length co12] 25 (0, 0)) (laws_FnPostBent_vb BK302)) : gb307 ≠ gb302)); replace BK302 := Aside0.mk (blk_below (g := gb302) (o := .cells #[.int .i64 t294, .slice Ao12 t295.length co12] 25 (0, 0)) (laws_FnPostBent_vb BK302) hb); have NB303_307 := Aside0.mk ((by rw [hg]; exact Nat.ne_of_lt (blk_lt (g := gb303) (o := .cells #[.int .i64 t298, .slice Ao14 t299.length co14] 25 (0, 0)) (laws_FnPostBent_vb BK303)) : gb303 ≠ gb307)); have NB307_303 := Aside0.mk ((by rw [hg]; exact Nat.ne_of_gt (blk_lt (g := gb303) (o := .cells #[.int .i64 t298, .slice Ao14 t299.length co14] 25 (0, 0)) (laws_FnPostBent_vb BK303)) : gb307 ≠ gb303)); replace BK303 := Aside0.mk (blk_below (g := gb303) (o := .cells #[.int .i64 t298, .slice Ao14 t299.length co14] 25 (0, 0)) (laws_FnPostBent_vb BK303) hb); clear hb hbox hg; have hnb17 := NB307_302.out; have hnc17 := NB302_307.out; have hnb18 := NB307_303.out; have hnc18 := NB303_307.out; have hcz19_0 : w16.cell? ⟨gb307, 0, none⟩ = some (.string (⟨#[]⟩ : ByteArray)) := (blk_cell BK307.out 0).trans rfl; have hcz19_1 : w16.cell? ⟨gb307, 1, none⟩ = some (.int .i64 0) := (blk_cell BK307.out 1).trans rfl; have hcz19_2 : w16.cell? ⟨gb307, 2, none⟩ = some (.int .i64 0) := (blk_cell BK307.out 2).trans rfl; have hfz19_0 := blk_frozen BK307.out 0; have hfz19_1 := blk_frozen BK307.out 1; have hfz19_2 := blk_frozen BK307.out 2) | ((with_reducible refine gate_callee (f := 7) rfl ?_); refine goesL_ (some 22) rfl rfl Try.func7 (by kernel_rfl) rfl #[.slice A0 l0.length c0] rfl (by (try simp only [List.map_toArray, List.map_cons, List.map_nil]); first | done | rfl | (simp only [List.length_drop, List.length_take]; rfl)) ?_; (with_reducible refine (spec_DrawAcctOk.calls k _ _ l0 t308 _ ?side1 ?side2 A5.out).mono ?_); (case side1 => exact Kd.C_below HR0.out (laws_FnPostBent_auHB)); (case side2 => exact HC0.out); rintro e w20 ⟨rfl, hb⟩; refine ⟨_, rfl, ?_⟩; replace HO297 := Aside0.mk (Kd.R_below (by (with_reducible repeat (first | apply Kd.R_alloc | apply Kd.R_drewN | apply Kd.R_drew)); exact (Kd.R_mono (Kd.R_far (p := ⟨gb307, 2, none⟩) (Kd.R_far (p := ⟨gb307, 1, none⟩) (Kd.R_far (p := ⟨gb307, 0, none⟩) (Kd.R_mono HO297.out (fun k_ hk => (⟨hk, hk.2⟩ : _ ∧ k_ ≠ gb307))) (fun _ hk => hk.2) (.string t304)) (fun _ hk => hk.2) (.int .i64 t305)) (fun _ hk => hk.2) (.int .i64 t306)) (fun _ h_ => h_.1))) hb); replace HO301 := Aside0.mk (Kd.R_below (by (with_reducible repeat (first | apply Kd.R_alloc | apply Kd.R_drewN | apply Kd.R_drew)); exact (Kd.R_mono (Kd.R_far (p := ⟨gb307, 2, none⟩) (Kd.R_far (p := ⟨gb307, 1, none⟩) (Kd.R_far (p := ⟨gb307, 0, none⟩) (Kd.R_mono HO301.out (fun k_ hk => (⟨hk, hk.2⟩ : _ ∧ k_ ≠ gb307))) (fun _ hk => hk.2) (.string t304)) (fun _ hk => hk.2) (.int .i64 t305)) (fun _ hk => hk.2) (.int .i64 t306)) (fun _ h_ => h_.1))) hb); replace BK302 := Aside0.mk (blk_below (g := gb302) (o := .cells #[.int .i64 t294, .slice Ao12 t295.length co12] 25 (0, 0)) (by (with_reducible repeat (first | refine blk_drewN ?_ _ | refine blk_drew ?_ | refine blk_alloc ?_ _)); refine blk_far ?_ NB302_307.out _; (with_reducible repeat (first | refine blk_drewN ?_ _ | refine blk_drew ?_ | refine blk_alloc ?_ _)); refine blk_far ?_ NB302_307.out _; (with_reducible repeat (first | refine blk_drewN ?_ _ | refine blk_drew ?_ | refine blk_alloc ?_ _)); refine blk_far ?_ NB302_307.out _; (with_reducible repeat (first | refine blk_drewN ?_ _ | refine blk_drew ?_ | refine blk_alloc ?_ _)); exact BK302.out) hb); replace BK303 := Aside0.mk (blk_below (g := gb303) (o := .cells #[.int .i64 t298, .slice Ao14 t299.length co14] 25 (0, 0)) (by (with_reducible repeat (first | refine blk_drewN ?_ _ | refine blk_drew ?_ | refine blk_alloc ?_ _)); refine blk_far ?_ NB303_307.out _; (with_reducible repeat (first | refine blk_drewN ?_ _ | refine blk_drew ?_ | refine blk_alloc ?_ _)); refine blk_far ?_ NB303_307.out _; (with_reducible repeat (first | refine blk_drewN ?_ _ | refine blk_drew ?_ | refine blk_alloc ?_ _)); refine blk_far ?_ NB303_307.out _; (with_reducible repeat (first | refine blk_drewN ?_ _ | refine blk_drew ?_ | refine blk_alloc ?_ _)); exact BK303.out) hb); replace BK307 := Aside0.mk (blk_below (g := gb307) (o := .cells #[.string t304, .int .i64 t305, .int .i64 t306] 29 (0, 0)) (by (with_reducible repeat (first | refine blk_drewN ?_ _ | refine blk_drew ?_ | refine blk_alloc ?_ _)); refine blk_put (cs := #[.string t304, .int .i64 t305, .int .i64 0]) ?_ 2 _ rfl; (with_reducible repeat (first | refine blk_drewN ?_ _ | refine blk_drew ?_ | refine blk_alloc ?_ _)); refine blk_put (cs := #[.string t304, .int .i64 0, .int .i64 0]) ?_ 1 _ rfl; (with_reducible repeat (first | refine blk_drewN ?_ _ | refine blk_drew ?_ | refine blk_alloc ?_ _)); refine blk_put (cs := #[.string (⟨#[]⟩ : ByteArray), .int .i64 0, .int .i64 0]) ?_ 0 _ rfl; (with_reducible repeat (first | refine blk_drewN ?_ _ | refine blk_drew ?_ | refine blk_alloc ?_ _)); exact BK307.out) hb); replace HB := Aside0.mk (below_step (laws_FnPostBent_auHB) hb); (try clear hb); (try clear hb2); (try clear hk); (try clear hi)))
 (try simp only [Act.put, List.setIfInBounds_toArray, List.set_cons_zero, List.set_cons_succ])
 go_cut [58] (fun v58 wc => ∃ (kq : Nat) (x58_5 : Bool), v58 = .bool x58_5 ∧ Aside0 (laws_FnPostBent.j0 kq x58_5 t294 t295 = some r) ∧ Aside0 (kq ≤ k) ∧ Aside0 (Kd.R k29 29 wc w.heap.size (fun k_ => some k_ ≠ ((.slice Ao14 t299.length co14) : Value).ownBlock ∧ k_ ≠ gb307) (.slice Ao12 t295.length co12) t295) ∧ Aside0 (Kd.R k29 29 wc w.heap.size (fun k_ => some k_ ≠ ((.slice Ao12 t295.length co12) : Value).ownBlock ∧ k_ ≠ gb307) (.slice Ao14 t299.length co14) t299) ∧ Aside0 (wc.heap[gb302]? = some (.cells #[.int .i64 t294, (.slice Ao12 t295.length co12)] 25 (0, 0))) ∧ Aside0 (wc.heap[gb303]? = some (.cells #[.int .i64 t298, (.slice Ao14 t299.length co14)] 25 (0, 0))) ∧ Aside0 (wc.heap[gb307]? = some (.cells #[.string t304, .int .i64 t305, .int .i64 t306] 29 (0, 0))) ∧ Aside0 (Below w.heap.size w wc))
 case first =>
  have H := HC6.out
  clear HC6
  replace H := Option.bind_eq_some_iff.mp H
  obtain ⟨t309, A210, H⟩ := H
  replace H : ((spec_PostSame.f k t294 t295 t298 t299).bind fun t310 => (if (t309 != t310) = true then (none) else ((impl_PostSame.f k t294 t295 t298 t299).bind fun t311 => ((impl_PostSame.f k t298 t299 t294 t295).bind fun t312 => (if (t311 != t312) = true then (none) else ((impl_LegOk.f k t304 t305 t306).bind fun t313 => ((spec_LegOk.f k t304 t305 t306).bind fun t314 => (if (t313 != t314) = true then (none) else ((impl_AcctOk.f k t308).bind fun t315 => ((spec_AcctOk.f k t308).bind fun t316 => (if (t315 != t316) = true then (none) else ((impl_PostSame.f k t294 t295 t294 t295).bind fun t317 => (laws_FnPostBent.j0 k (!t317) t294 t295))))))))))))) = some r := H
  have A21 := Aside0.mk A210
  clear A210
  replace H := Option.bind_eq_some_iff.mp H
  obtain ⟨t310, A220, H⟩ := H
  replace H : (if (t309 != t310) = true then (none) else ((impl_PostSame.f k t294 t295 t298 t299).bind fun t311 => ((impl_PostSame.f k t298 t299 t294 t295).bind fun t312 => (if (t311 != t312) = true then (none) else ((impl_LegOk.f k t304 t305 t306).bind fun t313 => ((spec_LegOk.f k t304 t305 t306).bind fun t314 => (if (t313 != t314) = true then (none) else ((impl_AcctOk.f k t308).bind fun t315 => ((spec_AcctOk.f k t308).bind fun t316 => (if (t315 != t316) = true then (none) else ((impl_PostSame.f k t294 t295 t294 t295).bind fun t317 => (laws_FnPostBent.j0 k (!t317) t294 t295)))))))))))) = some r := H
  have A22 := Aside0.mk A220
  clear A220
  by_cases c23 : (t309 != t310) = true
  ·
   rw [if_pos c23] at H
   exact absurd H (by simp)
  rw [if_neg c23] at H
  have c23b0 : (t309 != t310) = false := by (have h_ := c23; (try simp at h_); (try simp); (try exact h_))
  (try (have c23b1 : decide (t309 = t310) = true := by (have h_ := c23; (try simp at h_); (try simp); (try exact h_))))
  (try (have c23b2 : (t309 == t310) = true := by (have h_ := c23; (try simp at h_); (try simp); (try exact h_))))
  clear c23
  (first | rw [c23b0] | (simp only [i64_w, i32_w]; rw [c23b0]) | skip)
  replace H := Option.bind_eq_some_iff.mp H
  obtain ⟨t311, A240, H⟩ := H
  replace H : ((impl_PostSame.f k t298 t299 t294 t295).bind fun t312 => (if (t311 != t312) = true then (none) else ((impl_LegOk.f k t304 t305 t306).bind fun t313 => ((spec_LegOk.f k t304 t305 t306).bind fun t314 => (if (t313 != t314) = true then (none) else ((impl_AcctOk.f k t308).bind fun t315 => ((spec_AcctOk.f k t308).bind fun t316 => (if (t315 != t316) = true then (none) else ((impl_PostSame.f k t294 t295 t294 t295).bind fun t317 => (laws_FnPostBent.j0 k (!t317) t294 t295)))))))))) = some r := H
  have A24 := Aside0.mk A240
  clear A240
  replace H := Option.bind_eq_some_iff.mp H
  obtain ⟨t312, A250, H⟩ := H
  replace H : (if (t311 != t312) = true then (none) else ((impl_LegOk.f k t304 t305 t306).bind fun t313 => ((spec_LegOk.f k t304 t305 t306).bind fun t314 => (if (t313 != t314) = true then (none) else ((impl_AcctOk.f k t308).bind fun t315 => ((spec_AcctOk.f k t308).bind fun t316 => (if (t315 != t316) = true then (none) else ((impl_PostSame.f k t294 t295 t294 t295).bind fun t317 => (laws_FnPostBent.j0 k (!t317) t294 t295))))))))) = some r := H
  have A25 := Aside0.mk A250
  clear A250
  by_cases c26 : (t311 != t312) = true
  ·
   rw [if_pos c26] at H
   exact absurd H (by simp)
  rw [if_neg c26] at H
  have c26b0 : (t311 != t312) = false := by (have h_ := c26; (try simp at h_); (try simp); (try exact h_))
  (try (have c26b1 : decide (t311 = t312) = true := by (have h_ := c26; (try simp at h_); (try simp); (try exact h_))))
  (try (have c26b2 : (t311 == t312) = true := by (have h_ := c26; (try simp at h_); (try simp); (try exact h_))))
  clear c26
  replace H := Option.bind_eq_some_iff.mp H
  obtain ⟨t313, A270, H⟩ := H
  replace H : ((spec_LegOk.f k t304 t305 t306).bind fun t314 => (if (t313 != t314) = true then (none) else ((impl_AcctOk.f k t308).bind fun t315 => ((spec_AcctOk.f k t308).bind fun t316 => (if (t315 != t316) = true then (none) else ((impl_PostSame.f k t294 t295 t294 t295).bind fun t317 => (laws_FnPostBent.j0 k (!t317) t294 t295))))))) = some r := H
  have A27 := Aside0.mk A270
  clear A270
  replace H := Option.bind_eq_some_iff.mp H
  obtain ⟨t314, A280, H⟩ := H
  replace H : (if (t313 != t314) = true then (none) else ((impl_AcctOk.f k t308).bind fun t315 => ((spec_AcctOk.f k t308).bind fun t316 => (if (t315 != t316) = true then (none) else ((impl_PostSame.f k t294 t295 t294 t295).bind fun t317 => (laws_FnPostBent.j0 k (!t317) t294 t295)))))) = some r := H
  have A28 := Aside0.mk A280
  clear A280
  by_cases c29 : (t313 != t314) = true
  ·
   rw [if_pos c29] at H
   exact absurd H (by simp)
  rw [if_neg c29] at H
  have c29b0 : (t313 != t314) = false := by (have h_ := c29; (try simp at h_); (try simp); (try exact h_))
  (try (have c29b1 : decide (t313 = t314) = true := by (have h_ := c29; (try simp at h_); (try simp); (try exact h_))))
  (try (have c29b2 : (t313 == t314) = true := by (have h_ := c29; (try simp at h_); (try simp); (try exact h_))))
  clear c29
  replace H := Option.bind_eq_some_iff.mp H
  obtain ⟨t315, A300, H⟩ := H
  replace H : ((spec_AcctOk.f k t308).bind fun t316 => (if (t315 != t316) = true then (none) else ((impl_PostSame.f k t294 t295 t294 t295).bind fun t317 => (laws_FnPostBent.j0 k (!t317) t294 t295)))) = some r := H
  have A30 := Aside0.mk A300
  clear A300
  replace H := Option.bind_eq_some_iff.mp H
  obtain ⟨t316, A310, H⟩ := H
  replace H : (if (t315 != t316) = true then (none) else ((impl_PostSame.f k t294 t295 t294 t295).bind fun t317 => (laws_FnPostBent.j0 k (!t317) t294 t295))) = some r := H
  have A31 := Aside0.mk A310
  clear A310
  by_cases c32 : (t315 != t316) = true
  ·
   rw [if_pos c32] at H
   exact absurd H (by simp)
  rw [if_neg c32] at H
  have c32b0 : (t315 != t316) = false := by (have h_ := c32; (try simp at h_); (try simp); (try exact h_))
  (try (have c32b1 : decide (t315 = t316) = true := by (have h_ := c32; (try simp at h_); (try simp); (try exact h_))))
  (try (have c32b2 : (t315 == t316) = true := by (have h_ := c32; (try simp at h_); (try simp); (try exact h_))))
  clear c32
  replace H := Option.bind_eq_some_iff.mp H
  obtain ⟨t317, A330, H⟩ := H
  replace H : (laws_FnPostBent.j0 k (!t317) t294 t295) = some r := H
  have A33 := Aside0.mk A330
  clear A330
  have H' := Aside0.mk H
  clear H
  try go_wp2
  replace HO297 := Aside0.mk (Kd.R_drew HO297.out)
  replace HO301 := Aside0.mk (Kd.R_drew HO301.out)
  replace BK302 := Aside0.mk (blk_drew BK302.out)
  replace BK303 := Aside0.mk (blk_drew BK303.out)
  replace BK307 := Aside0.mk (blk_drew BK307.out)
  replace HB := Aside0.mk (below_drew1 HB.out)
  refine start_ (n := 36) (S := fun w' => w'.cell? ⟨gb302, 0, none⟩ = some (.int .i64 t294) ∧ w'.cell? ⟨gb302, 1, none⟩ = some (.slice Ao12 t295.length co12) ∧ w'.cell? ⟨gb303, 0, none⟩ = some (.int .i64 t298) ∧ w'.cell? ⟨gb303, 1, none⟩ = some (.slice Ao14 t299.length co14) ∧ w'.cell? ⟨gb307, 0, none⟩ = some (.string t304) ∧ w'.cell? ⟨gb307, 1, none⟩ = some (.int .i64 t305) ∧ w'.cell? ⟨gb307, 2, none⟩ = some (.int .i64 t306)) (ds := []) #[false, false, false, false, false, false, false, false, false, false, false, false, false, false, false, false, false, false, false, false, false, false, false, false, false, false, false, false, false, false, false, false, false, false, false, false] (by kernel_rfl) rfl rfl ⟨(blk_cell BK302.out 0).trans rfl, (blk_cell BK302.out 1).trans rfl, (blk_cell BK303.out 0).trans rfl, (blk_cell BK303.out 1).trans rfl, (blk_cell BK307.out 0).trans rfl, (blk_cell BK307.out 1).trans rfl, (blk_cell BK307.out 2).trans rfl⟩ (fun hHeld => ?_); refine with_tabW laws_FnPostBent.tab6 laws_FnPostBent.bits6 (fun HT_ HW_ => ?_)
  generalize w20.drew = w34 at HO297 HO301 BK302 BK303 BK307 HB hHeld ⊢
  refine ta_ 0 (some 23) HT_ HW_ hHeld rfl rfl (by go_simp; rfl) (by kernel_rfl) rfl (by rintro w' ⟨s0, s1, s2, s3, s4, s5, s6⟩; go_simp; with_reducible rfl) (fun _ _ _ h => h) (by go_simp; rfl) ?_
  refine ta_ 1 (some 24) HT_ HW_ hHeld rfl rfl (by go_simp; rfl) (by kernel_rfl) rfl (by rintro w' ⟨s0, s1, s2, s3, s4, s5, s6⟩; go_simp; with_reducible rfl) (fun _ _ _ h => h) (by go_simp; rfl) ?_
  refine ta_ 3 (some 26) HT_ HW_ hHeld rfl rfl (by go_simp; rfl) (by kernel_rfl) rfl (by rintro w' ⟨s0, s1, s2, s3, s4, s5, s6⟩; go_simp; with_reducible rfl) (fun _ _ _ h => h) (by go_simp; rfl) ?_
  refine ta_ 4 (some 27) HT_ HW_ hHeld rfl rfl (by go_simp; rfl) (by kernel_rfl) rfl (by rintro w' ⟨s0, s1, s2, s3, s4, s5, s6⟩; go_simp; with_reducible rfl) (fun _ _ _ h => h) (by go_simp; rfl) ?_
  refine one_ (i := 2) (N := some 25) #[true, true, true, true, true, false, false, false, false, false, false, false, false, false, false, false, false, false, false, false, false, false, false, false, false, false, false, false, false, false, false, false, false, false, false, false] rfl rfl (one_of HT_.out (by kernel_rfl)) (by decide) (fun K hK => ?_)
  refine goes_ Try.func8 (by kernel_rfl) rfl #[.agg #[.int .i64 t294, .slice Ao12 t295.length co12], .agg #[.int .i64 t298, .slice Ao14 t299.length co14]] (by rfl) rfl rfl (by (try simp only [List.map_toArray, List.map_cons, List.map_nil]); first | done | rfl | (simp only [List.length_drop, List.length_take]; rfl)) ?_
  with_reducible refine (impl_PostSame.calls k t294 _ _ t295 t298 _ _ t299 t309 _ ?side1 ?side2 ?side3 ?side4 A21.out).mono ?_
  (case side1 => exact co_ (Kd.R_reads' HO297.out).2.2)
  (case side2 => exact (Kd.R_reads' HO297.out).2.1)
  (case side3 => exact co_ (Kd.R_reads' HO301.out).2.2)
  (case side4 => exact (Kd.R_reads' HO301.out).2.1)
  rintro e w35 ⟨rfl, hb⟩
  refine ⟨_, rfl, ?_⟩
  replace HO297 := Aside0.mk (Kd.R_below (lo_ HO297) hb)
  replace HO301 := Aside0.mk (Kd.R_below (lo_ HO301) hb)
  replace BK302 := Aside0.mk (blk_below (g := gb302) (o := .cells #[.int .i64 t294, .slice Ao12 t295.length co12] 25 (0, 0)) (laws_FnPostBent_vb BK302) hb)
  replace BK303 := Aside0.mk (blk_below (g := gb303) (o := .cells #[.int .i64 t298, .slice Ao14 t299.length co14] 25 (0, 0)) (laws_FnPostBent_vb BK303) hb)
  replace BK307 := Aside0.mk (blk_below (g := gb307) (o := .cells #[.string t304, .int .i64 t305, .int .i64 t306] 29 (0, 0)) (laws_FnPostBent_vb BK307) hb)
  replace HB := Aside0.mk (below_step (laws_FnPostBent_auHB) hb)
  (try clear hb)
  (try clear hb2)
  (try clear hk)
  (try clear hi)
  refine hK.out _ _ ⟨(blk_cell BK302.out 0).trans rfl, (blk_cell BK302.out 1).trans rfl, (blk_cell BK303.out 0).trans rfl, (blk_cell BK303.out 1).trans rfl, (blk_cell BK307.out 0).trans rfl, (blk_cell BK307.out 1).trans rfl, (blk_cell BK307.out 2).trans rfl⟩ (fun hHeld => ?_)
  clear hK K
  refine norm_ (a' := ?_) ?_ ?_
  rotate_left
  ·
   show Act.put _ (some 25) _ = _
   simp only [Act.put, List.setIfInBounds_toArray, List.set_cons_zero, List.set_cons_succ, i64_w, i32_w]
   rfl
  refine one_ (i := 5) (N := some 28) #[true, true, true, true, true, true, false, false, false, false, false, false, false, false, false, false, false, false, false, false, false, false, false, false, false, false, false, false, false, false, false, false, false, false, false, false] rfl rfl (one_of HT_.out (by kernel_rfl)) (by decide) (fun K hK => ?_)
  refine goes_ Try.func9 (by kernel_rfl) rfl #[.agg #[.int .i64 t294, .slice Ao12 t295.length co12], .agg #[.int .i64 t298, .slice Ao14 t299.length co14]] (by rfl) rfl rfl (by (try simp only [List.map_toArray, List.map_cons, List.map_nil]); first | done | rfl | (simp only [List.length_drop, List.length_take]; rfl)) ?_
  with_reducible refine (spec_PostSame.calls k t294 _ _ t295 t298 _ _ t299 t310 _ ?side1 ?side2 ?side3 ?side4 A22.out).mono ?_
  (case side1 => exact co_ (Kd.R_reads' HO297.out).2.2)
  (case side2 => exact (Kd.R_reads' HO297.out).2.1)
  (case side3 => exact co_ (Kd.R_reads' HO301.out).2.2)
  (case side4 => exact (Kd.R_reads' HO301.out).2.1)
  rintro e w36 ⟨rfl, hb⟩
  refine ⟨_, rfl, ?_⟩
  replace HO297 := Aside0.mk (Kd.R_below (lo_ HO297) hb)
  replace HO301 := Aside0.mk (Kd.R_below (lo_ HO301) hb)
  replace BK302 := Aside0.mk (blk_below (g := gb302) (o := .cells #[.int .i64 t294, .slice Ao12 t295.length co12] 25 (0, 0)) (laws_FnPostBent_vb BK302) hb)
  replace BK303 := Aside0.mk (blk_below (g := gb303) (o := .cells #[.int .i64 t298, .slice Ao14 t299.length co14] 25 (0, 0)) (laws_FnPostBent_vb BK303) hb)
  replace BK307 := Aside0.mk (blk_below (g := gb307) (o := .cells #[.string t304, .int .i64 t305, .int .i64 t306] 29 (0, 0)) (laws_FnPostBent_vb BK307) hb)
  replace HB := Aside0.mk (below_step (laws_FnPostBent_auHB) hb)
  (try clear hb)
  (try clear hb2)
  (try clear hk)
  (try clear hi)
  refine hK.out _ _ ⟨(blk_cell BK302.out 0).trans rfl, (blk_cell BK302.out 1).trans rfl, (blk_cell BK303.out 0).trans rfl, (blk_cell BK303.out 1).trans rfl, (blk_cell BK307.out 0).trans rfl, (blk_cell BK307.out 1).trans rfl, (blk_cell BK307.out 2).trans rfl⟩ (fun hHeld => ?_)
  clear hK K
  refine norm_ (a' := ?_) ?_ ?_
  rotate_left
  ·
   show Act.put _ (some 28) _ = _
   simp only [Act.put, List.setIfInBounds_toArray, List.set_cons_zero, List.set_cons_succ, i64_w, i32_w]
   rfl
  refine pu_ 6 (some 29) HT_ rfl rfl (by go_simp; rfl) (by kernel_rfl) rfl (by intro w'; go_simp; with_reducible rfl) (fun _ _ _ h => h) (by go_simp; rfl) ?_
  refine pu_ 7 (some 30) HT_ rfl rfl (by go_simp; rfl) (by kernel_rfl) rfl (by intro w'; go_simp; with_reducible rfl) (fun _ _ _ h => h) (by go_simp; rfl) ?_
  refine ta_ 8 (some 31) HT_ HW_ hHeld rfl rfl (by go_simp; rfl) (by kernel_rfl) rfl (by rintro w' ⟨s0, s1, s2, s3, s4, s5, s6⟩; go_simp; with_reducible rfl) (fun _ _ _ h => h) (by go_simp; rfl) ?_
  refine ta_ 9 (some 32) HT_ HW_ hHeld rfl rfl (by go_simp; rfl) (by kernel_rfl) rfl (by rintro w' ⟨s0, s1, s2, s3, s4, s5, s6⟩; go_simp; with_reducible rfl) (fun _ _ _ h => h) (by go_simp; rfl) ?_
  refine ta_ 11 (some 34) HT_ HW_ hHeld rfl rfl (by go_simp; rfl) (by kernel_rfl) rfl (by rintro w' ⟨s0, s1, s2, s3, s4, s5, s6⟩; go_simp; with_reducible rfl) (fun _ _ _ h => h) (by go_simp; rfl) ?_
  refine ta_ 12 (some 35) HT_ HW_ hHeld rfl rfl (by go_simp; rfl) (by kernel_rfl) rfl (by rintro w' ⟨s0, s1, s2, s3, s4, s5, s6⟩; go_simp; with_reducible rfl) (fun _ _ _ h => h) (by go_simp; rfl) ?_
  refine one_ (i := 10) (N := some 33) #[true, true, true, true, true, true, true, true, true, true, true, true, true, false, false, false, false, false, false, false, false, false, false, false, false, false, false, false, false, false, false, false, false, false, false, false] rfl rfl (one_of HT_.out (by kernel_rfl)) (by decide) (fun K hK => ?_)
  refine goes_ Try.func8 (by kernel_rfl) rfl #[.agg #[.int .i64 t294, .slice Ao12 t295.length co12], .agg #[.int .i64 t298, .slice Ao14 t299.length co14]] (by rfl) rfl rfl (by (try simp only [List.map_toArray, List.map_cons, List.map_nil]); first | done | rfl | (simp only [List.length_drop, List.length_take]; rfl)) ?_
  with_reducible refine (impl_PostSame.calls k t294 _ _ t295 t298 _ _ t299 t311 _ ?side1 ?side2 ?side3 ?side4 A24.out).mono ?_
  (case side1 => exact co_ (Kd.R_reads' HO297.out).2.2)
  (case side2 => exact (Kd.R_reads' HO297.out).2.1)
  (case side3 => exact co_ (Kd.R_reads' HO301.out).2.2)
  (case side4 => exact (Kd.R_reads' HO301.out).2.1)
  rintro e w37 ⟨rfl, hb⟩
  refine ⟨_, rfl, ?_⟩
  replace HO297 := Aside0.mk (Kd.R_below (lo_ HO297) hb)
  replace HO301 := Aside0.mk (Kd.R_below (lo_ HO301) hb)
  replace BK302 := Aside0.mk (blk_below (g := gb302) (o := .cells #[.int .i64 t294, .slice Ao12 t295.length co12] 25 (0, 0)) (laws_FnPostBent_vb BK302) hb)
  replace BK303 := Aside0.mk (blk_below (g := gb303) (o := .cells #[.int .i64 t298, .slice Ao14 t299.length co14] 25 (0, 0)) (laws_FnPostBent_vb BK303) hb)
  replace BK307 := Aside0.mk (blk_below (g := gb307) (o := .cells #[.string t304, .int .i64 t305, .int .i64 t306] 29 (0, 0)) (laws_FnPostBent_vb BK307) hb)
  replace HB := Aside0.mk (below_step (laws_FnPostBent_auHB) hb)
  (try clear hb)
  (try clear hb2)
  (try clear hk)
  (try clear hi)
  refine hK.out _ _ ⟨(blk_cell BK302.out 0).trans rfl, (blk_cell BK302.out 1).trans rfl, (blk_cell BK303.out 0).trans rfl, (blk_cell BK303.out 1).trans rfl, (blk_cell BK307.out 0).trans rfl, (blk_cell BK307.out 1).trans rfl, (blk_cell BK307.out 2).trans rfl⟩ (fun hHeld => ?_)
  clear hK K
  refine norm_ (a' := ?_) ?_ ?_
  rotate_left
  ·
   show Act.put _ (some 33) _ = _
   simp only [Act.put, List.setIfInBounds_toArray, List.set_cons_zero, List.set_cons_succ, i64_w, i32_w]
   rfl
  refine one_ (i := 13) (N := some 36) #[true, true, true, true, true, true, true, true, true, true, true, true, true, true, false, false, false, false, false, false, false, false, false, false, false, false, false, false, false, false, false, false, false, false, false, false] rfl rfl (one_of HT_.out (by kernel_rfl)) (by decide) (fun K hK => ?_)
  refine goes_ Try.func8 (by kernel_rfl) rfl #[.agg #[.int .i64 t298, .slice Ao14 t299.length co14], .agg #[.int .i64 t294, .slice Ao12 t295.length co12]] (by rfl) rfl rfl (by (try simp only [List.map_toArray, List.map_cons, List.map_nil]); first | done | rfl | (simp only [List.length_drop, List.length_take]; rfl)) ?_
  with_reducible refine (impl_PostSame.calls k t298 _ _ t299 t294 _ _ t295 t312 _ ?side1 ?side2 ?side3 ?side4 A25.out).mono ?_
  (case side1 => exact co_ (Kd.R_reads' HO301.out).2.2)
  (case side2 => exact (Kd.R_reads' HO301.out).2.1)
  (case side3 => exact co_ (Kd.R_reads' HO297.out).2.2)
  (case side4 => exact (Kd.R_reads' HO297.out).2.1)
  rintro e w38 ⟨rfl, hb⟩
  refine ⟨_, rfl, ?_⟩
  replace HO297 := Aside0.mk (Kd.R_below (lo_ HO297) hb)
  replace HO301 := Aside0.mk (Kd.R_below (lo_ HO301) hb)
  replace BK302 := Aside0.mk (blk_below (g := gb302) (o := .cells #[.int .i64 t294, .slice Ao12 t295.length co12] 25 (0, 0)) (laws_FnPostBent_vb BK302) hb)
  replace BK303 := Aside0.mk (blk_below (g := gb303) (o := .cells #[.int .i64 t298, .slice Ao14 t299.length co14] 25 (0, 0)) (laws_FnPostBent_vb BK303) hb)
  replace BK307 := Aside0.mk (blk_below (g := gb307) (o := .cells #[.string t304, .int .i64 t305, .int .i64 t306] 29 (0, 0)) (laws_FnPostBent_vb BK307) hb)
  replace HB := Aside0.mk (below_step (laws_FnPostBent_auHB) hb)
  (try clear hb)
  (try clear hb2)
  (try clear hk)
  (try clear hi)
  refine hK.out _ _ ⟨(blk_cell BK302.out 0).trans rfl, (blk_cell BK302.out 1).trans rfl, (blk_cell BK303.out 0).trans rfl, (blk_cell BK303.out 1).trans rfl, (blk_cell BK307.out 0).trans rfl, (blk_cell BK307.out 1).trans rfl, (blk_cell BK307.out 2).trans rfl⟩ (fun hHeld => ?_)
  clear hK K
  refine norm_ (a' := ?_) ?_ ?_
  rotate_left
  ·
   show Act.put _ (some 36) _ = _
   simp only [Act.put, List.setIfInBounds_toArray, List.set_cons_zero, List.set_cons_succ, i64_w, i32_w]
   rfl
  refine pu_ 14 (some 37) HT_ rfl rfl (by go_simp; rfl) (by kernel_rfl) rfl (by intro w'; go_simp; with_reducible rfl) (fun _ _ _ h => h) (by go_simp; rfl) ?_
  refine pu_ 15 (some 38) HT_ rfl rfl (by go_simp; rfl) (by kernel_rfl) rfl (by intro w'; go_simp; with_reducible rfl) (fun _ _ _ h => h) (by go_simp; rfl) ?_
  refine pu_ 16 (some 39) HT_ rfl rfl (by go_simp; rfl) (by kernel_rfl) rfl (by intro w'; go_simp; with_reducible rfl) (fun _ _ _ h => h) (by go_simp; rfl) ?_
  refine ta_ 17 (some 40) HT_ HW_ hHeld rfl rfl (by go_simp; rfl) (by kernel_rfl) rfl (by rintro w' ⟨s0, s1, s2, s3, s4, s5, s6⟩; go_simp; with_reducible rfl) (fun _ _ _ h => h) (by go_simp; rfl) ?_
  refine ta_ 19 (some 42) HT_ HW_ hHeld rfl rfl (by go_simp; rfl) (by kernel_rfl) rfl (by rintro w' ⟨s0, s1, s2, s3, s4, s5, s6⟩; go_simp; with_reducible rfl) (fun _ _ _ h => h) (by go_simp; rfl) ?_
  refine one_ (i := 18) (N := some 41) #[true, true, true, true, true, true, true, true, true, true, true, true, true, true, true, true, true, true, true, true, false, false, false, false, false, false, false, false, false, false, false, false, false, false, false, false] rfl rfl (one_of HT_.out (by kernel_rfl)) (by decide) (fun K hK => ?_)
  refine goes_ Try.func10 (by kernel_rfl) rfl #[.agg #[.string t304, .int .i64 t305, .int .i64 t306]] (by rfl) rfl rfl (by (try simp only [List.map_toArray, List.map_cons, List.map_nil]); first | done | rfl | (simp only [List.length_drop, List.length_take]; rfl)) ?_
  with_reducible refine (impl_LegOk.calls k t304 t305 t306 t313 _ A27.out).mono ?_
  rintro e w39 ⟨rfl, hb⟩
  refine ⟨_, rfl, ?_⟩
  replace HO297 := Aside0.mk (Kd.R_below (lo_ HO297) hb)
  replace HO301 := Aside0.mk (Kd.R_below (lo_ HO301) hb)
  replace BK302 := Aside0.mk (blk_below (g := gb302) (o := .cells #[.int .i64 t294, .slice Ao12 t295.length co12] 25 (0, 0)) (laws_FnPostBent_vb BK302) hb)
  replace BK303 := Aside0.mk (blk_below (g := gb303) (o := .cells #[.int .i64 t298, .slice Ao14 t299.length co14] 25 (0, 0)) (laws_FnPostBent_vb BK303) hb)
  replace BK307 := Aside0.mk (blk_below (g := gb307) (o := .cells #[.string t304, .int .i64 t305, .int .i64 t306] 29 (0, 0)) (laws_FnPostBent_vb BK307) hb)
  replace HB := Aside0.mk (below_step (laws_FnPostBent_auHB) hb)
  (try clear hb)
  (try clear hb2)
  (try clear hk)
  (try clear hi)
  refine hK.out _ _ ⟨(blk_cell BK302.out 0).trans rfl, (blk_cell BK302.out 1).trans rfl, (blk_cell BK303.out 0).trans rfl, (blk_cell BK303.out 1).trans rfl, (blk_cell BK307.out 0).trans rfl, (blk_cell BK307.out 1).trans rfl, (blk_cell BK307.out 2).trans rfl⟩ (fun hHeld => ?_)
  clear hK K
  refine norm_ (a' := ?_) ?_ ?_
  rotate_left
  ·
   show Act.put _ (some 41) _ = _
   simp only [Act.put, List.setIfInBounds_toArray, List.set_cons_zero, List.set_cons_succ, i64_w, i32_w]
   rfl
  refine one_ (i := 20) (N := some 43) #[true, true, true, true, true, true, true, true, true, true, true, true, true, true, true, true, true, true, true, true, true, false, false, false, false, false, false, false, false, false, false, false, false, false, false, false] rfl rfl (one_of HT_.out (by kernel_rfl)) (by decide) (fun K hK => ?_)
  refine goes_ Try.func11 (by kernel_rfl) rfl #[.agg #[.string t304, .int .i64 t305, .int .i64 t306]] (by rfl) rfl rfl (by (try simp only [List.map_toArray, List.map_cons, List.map_nil]); first | done | rfl | (simp only [List.length_drop, List.length_take]; rfl)) ?_
  with_reducible refine (spec_LegOk.calls k t304 t305 t306 t314 _ A28.out).mono ?_
  rintro e w40 ⟨rfl, hb⟩
  refine ⟨_, rfl, ?_⟩
  replace HO297 := Aside0.mk (Kd.R_below (lo_ HO297) hb)
  replace HO301 := Aside0.mk (Kd.R_below (lo_ HO301) hb)
  replace BK302 := Aside0.mk (blk_below (g := gb302) (o := .cells #[.int .i64 t294, .slice Ao12 t295.length co12] 25 (0, 0)) (laws_FnPostBent_vb BK302) hb)
  replace BK303 := Aside0.mk (blk_below (g := gb303) (o := .cells #[.int .i64 t298, .slice Ao14 t299.length co14] 25 (0, 0)) (laws_FnPostBent_vb BK303) hb)
  replace BK307 := Aside0.mk (blk_below (g := gb307) (o := .cells #[.string t304, .int .i64 t305, .int .i64 t306] 29 (0, 0)) (laws_FnPostBent_vb BK307) hb)
  replace HB := Aside0.mk (below_step (laws_FnPostBent_auHB) hb)
  (try clear hb)
  (try clear hb2)
  (try clear hk)
  (try clear hi)
  refine hK.out _ _ ⟨(blk_cell BK302.out 0).trans rfl, (blk_cell BK302.out 1).trans rfl, (blk_cell BK303.out 0).trans rfl, (blk_cell BK303.out 1).trans rfl, (blk_cell BK307.out 0).trans rfl, (blk_cell BK307.out 1).trans rfl, (blk_cell BK307.out 2).trans rfl⟩ (fun hHeld => ?_)
  clear hK K
  refine norm_ (a' := ?_) ?_ ?_
  rotate_left
  ·
   show Act.put _ (some 43) _ = _
   simp only [Act.put, List.setIfInBounds_toArray, List.set_cons_zero, List.set_cons_succ, i64_w, i32_w]
   rfl
  refine pu_ 21 (some 44) HT_ rfl rfl (by go_simp; rfl) (by kernel_rfl) rfl (by intro w'; go_simp; with_reducible rfl) (fun _ _ _ h => h) (by go_simp; rfl) ?_
  refine pu_ 22 (some 45) HT_ rfl rfl (by go_simp; rfl) (by kernel_rfl) rfl (by intro w'; go_simp; with_reducible rfl) (fun _ _ _ h => h) (by go_simp; rfl) ?_
  refine pu_ 23 (some 46) HT_ rfl rfl (by go_simp; rfl) (by kernel_rfl) rfl (by intro w'; go_simp; with_reducible rfl) (fun _ _ _ h => h) (by go_simp; rfl) ?_
  refine pu_ 24 (some 47) HT_ rfl rfl (by go_simp; rfl) (by kernel_rfl) rfl (by intro w'; go_simp; with_reducible rfl) (fun _ _ _ h => h) (by go_simp; rfl) ?_
  refine pu_ 26 (some 49) HT_ rfl rfl (by go_simp; rfl) (by kernel_rfl) rfl (by intro w'; go_simp; with_reducible rfl) (fun _ _ _ h => h) (by go_simp; rfl) ?_
  refine one_ (i := 25) (N := some 48) #[true, true, true, true, true, true, true, true, true, true, true, true, true, true, true, true, true, true, true, true, true, true, true, true, true, true, true, false, false, false, false, false, false, false, false, false] rfl rfl (one_of HT_.out (by kernel_rfl)) (by decide) (fun K hK => ?_)
  refine goes_ Try.func12 (by kernel_rfl) rfl #[.string t308] (by rfl) rfl rfl (by (try simp only [List.map_toArray, List.map_cons, List.map_nil]); first | done | rfl | (simp only [List.length_drop, List.length_take]; rfl)) ?_
  with_reducible refine (impl_AcctOk.calls k t308 t315 _ A30.out).mono ?_
  rintro e w' ⟨rfl, ⟨nd, rfl⟩⟩
  refine ⟨_, rfl, ?_⟩
  refine hK.out _ _ ⟨(blk_cell BK302.out 0).trans rfl, (blk_cell BK302.out 1).trans rfl, (blk_cell BK303.out 0).trans rfl, (blk_cell BK303.out 1).trans rfl, (blk_cell BK307.out 0).trans rfl, (blk_cell BK307.out 1).trans rfl, (blk_cell BK307.out 2).trans rfl⟩ (fun hHeld => ?_)
  clear hK K
  refine norm_ (a' := ?_) ?_ ?_
  rotate_left
  ·
   show Act.put _ (some 48) _ = _
   simp only [Act.put, List.setIfInBounds_toArray, List.set_cons_zero, List.set_cons_succ, i64_w, i32_w]
   rfl
  refine one_ (i := 27) (N := some 50) #[true, true, true, true, true, true, true, true, true, true, true, true, true, true, true, true, true, true, true, true, true, true, true, true, true, true, true, true, false, false, false, false, false, false, false, false] rfl rfl (one_of HT_.out (by kernel_rfl)) (by decide) (fun K hK => ?_)
  refine goes_ Try.func13 (by kernel_rfl) rfl #[.string t308] (by rfl) rfl rfl (by (try simp only [List.map_toArray, List.map_cons, List.map_nil]); first | done | rfl | (simp only [List.length_drop, List.length_take]; rfl)) ?_
  with_reducible refine (spec_AcctOk.calls k t308 t316 _ A31.out).mono ?_
  rintro e w' ⟨rfl, ⟨nd, rfl⟩⟩
  refine ⟨_, rfl, ?_⟩
  refine hK.out _ _ ⟨(blk_cell BK302.out 0).trans rfl, (blk_cell BK302.out 1).trans rfl, (blk_cell BK303.out 0).trans rfl, (blk_cell BK303.out 1).trans rfl, (blk_cell BK307.out 0).trans rfl, (blk_cell BK307.out 1).trans rfl, (blk_cell BK307.out 2).trans rfl⟩ (fun hHeld => ?_)
  clear hK K
  refine norm_ (a' := ?_) ?_ ?_
  rotate_left
  ·
   show Act.put _ (some 50) _ = _
   simp only [Act.put, List.setIfInBounds_toArray, List.set_cons_zero, List.set_cons_succ, i64_w, i32_w]
   rfl
  refine pu_ 28 (some 51) HT_ rfl rfl (by go_simp; rfl) (by kernel_rfl) rfl (by intro w'; go_simp; with_reducible rfl) (fun _ _ _ h => h) (by go_simp; rfl) ?_
  refine pu_ 29 (some 52) HT_ rfl rfl (by go_simp; rfl) (by kernel_rfl) rfl (by intro w'; go_simp; with_reducible rfl) (fun _ _ _ h => h) (by go_simp; rfl) ?_
  refine pu_ 30 (some 53) HT_ rfl rfl (by go_simp; rfl) (by kernel_rfl) rfl (by intro w'; go_simp; with_reducible rfl) (fun _ _ _ h => h) (by go_simp; rfl) ?_
  refine ta_ 31 (some 54) HT_ HW_ hHeld rfl rfl (by go_simp; rfl) (by kernel_rfl) rfl (by rintro w' ⟨s0, s1, s2, s3, s4, s5, s6⟩; go_simp; with_reducible rfl) (fun _ _ _ h => h) (by go_simp; rfl) ?_
  refine ta_ 32 (some 55) HT_ HW_ hHeld rfl rfl (by go_simp; rfl) (by kernel_rfl) rfl (by rintro w' ⟨s0, s1, s2, s3, s4, s5, s6⟩; go_simp; with_reducible rfl) (fun _ _ _ h => h) (by go_simp; rfl) ?_
  refine one_ (i := 33) (N := some 56) #[true, true, true, true, true, true, true, true, true, true, true, true, true, true, true, true, true, true, true, true, true, true, true, true, true, true, true, true, true, true, true, true, true, true, false, false] rfl rfl (one_of HT_.out (by kernel_rfl)) (by decide) (fun K hK => ?_)
  refine goes_ Try.func8 (by kernel_rfl) rfl #[.agg #[.int .i64 t294, .slice Ao12 t295.length co12], .agg #[.int .i64 t294, .slice Ao12 t295.length co12]] (by rfl) rfl rfl (by (try simp only [List.map_toArray, List.map_cons, List.map_nil]); first | done | rfl | (simp only [List.length_drop, List.length_take]; rfl)) ?_
  with_reducible refine (impl_PostSame.calls k t294 _ _ t295 t294 _ _ t295 t317 _ ?side1 ?side2 ?side3 ?side4 A33.out).mono ?_
  (case side1 => exact co_ (Kd.R_reads' HO297.out).2.2)
  (case side2 => exact (Kd.R_reads' HO297.out).2.1)
  (case side3 => exact co_ (Kd.R_reads' HO297.out).2.2)
  (case side4 => exact (Kd.R_reads' HO297.out).2.1)
  rintro e w41 ⟨rfl, hb⟩
  refine ⟨_, rfl, ?_⟩
  replace HO297 := Aside0.mk (Kd.R_below (lo_ HO297) hb)
  replace HO301 := Aside0.mk (Kd.R_below (lo_ HO301) hb)
  replace BK302 := Aside0.mk (blk_below (g := gb302) (o := .cells #[.int .i64 t294, .slice Ao12 t295.length co12] 25 (0, 0)) (laws_FnPostBent_vb BK302) hb)
  replace BK303 := Aside0.mk (blk_below (g := gb303) (o := .cells #[.int .i64 t298, .slice Ao14 t299.length co14] 25 (0, 0)) (laws_FnPostBent_vb BK303) hb)
  replace BK307 := Aside0.mk (blk_below (g := gb307) (o := .cells #[.string t304, .int .i64 t305, .int .i64 t306] 29 (0, 0)) (laws_FnPostBent_vb BK307) hb)
  replace HB := Aside0.mk (below_step (laws_FnPostBent_auHB) hb)
  (try clear hb)
  (try clear hb2)
  (try clear hk)
  (try clear hi)
  refine hK.out _ _ ⟨(blk_cell BK302.out 0).trans rfl, (blk_cell BK302.out 1).trans rfl, (blk_cell BK303.out 0).trans rfl, (blk_cell BK303.out 1).trans rfl, (blk_cell BK307.out 0).trans rfl, (blk_cell BK307.out 1).trans rfl, (blk_cell BK307.out 2).trans rfl⟩ (fun hHeld => ?_)
  clear hK K
  refine norm_ (a' := ?_) ?_ ?_
  rotate_left
  ·
   show Act.put _ (some 56) _ = _
   simp only [Act.put, List.setIfInBounds_toArray, List.set_cons_zero, List.set_cons_succ, i64_w, i32_w]
   rfl
  refine pu_ 34 (some 57) HT_ rfl rfl (by go_simp; rfl) (by kernel_rfl) rfl (by intro w'; go_simp; with_reducible rfl) (fun _ _ _ h => h) (by go_simp; rfl) ?_
  refine pu_ 35 (some 58) HT_ rfl rfl (by go_simp; rfl) (by kernel_rfl) rfl (by intro w'; go_simp; with_reducible rfl) (fun _ _ _ h => h) (by go_simp; rfl) ?_
  refine done_ (done_of HT_.out (by kernel_rfl)) ?_
  try go_wp2
  go_meet
  case rel => exact ⟨_, (!t317), (by first | rfl | (simp; done) | (simp [*]; done)), H', ⟨by first | omega | exact Nat.le_refl _⟩, ⟨by (with_reducible repeat (first | apply Kd.R_alloc | apply Kd.R_drewN | apply Kd.R_drew)); exact HO297.out⟩, ⟨by (with_reducible repeat (first | apply Kd.R_alloc | apply Kd.R_drewN | apply Kd.R_drew)); exact HO301.out⟩, ⟨by (with_reducible repeat (first | refine blk_drewN ?_ _ | refine blk_drew ?_ | refine blk_alloc ?_ _)); exact BK302.out⟩, ⟨by (with_reducible repeat (first | refine blk_drewN ?_ _ | refine blk_drew ?_ | refine blk_alloc ?_ _)); exact BK303.out⟩, ⟨by (with_reducible repeat (first | refine blk_drewN ?_ _ | refine blk_drew ?_ | refine blk_alloc ?_ _)); exact BK307.out⟩, ⟨laws_FnPostBent_auHB⟩⟩
 case rest =>
  rename_i K1 a1 K0 a0
  clear HC6
  try clear c1
  try clear c2
  try clear p2
  try clear c3
  try clear c8
  try clear c9
  try clear c10
  try clear c11
  try clear c12
  try clear c13
  try clear c23
  try clear c23b0
  try clear c23b1
  try clear c23b2
  try clear c26
  try clear c26b0
  try clear c26b1
  try clear c26b2
  try clear c29
  try clear c29b0
  try clear c29b1
  try clear c29b2
  try clear c32
  try clear c32b0
  try clear c32b1
  try clear c32b2
  obtain ⟨kq, x58_5, rfl, HA, HJ5, HO_303001, HO_304001, BK302, BK303, BK307, HB⟩ := hcut
  cases kq with
  | zero => exact absurd HA.out (by simp [laws_FnPostBent.j0])
  | succ kj5 =>
   have H := HA.out
   clear HA
   simp only [laws_FnPostBent.j0] at H
   by_cases c42 : x58_5 = true
   ·
    subst c42
    have H1 : (none) = some r := by rw [if_pos rfl] at H; exact H
    clear H
    have H := H1
    clear H1
    exact absurd H (by simp)
   replace c42 := Bool.eq_false_iff.mpr c42
   subst c42
   have H1 : ((impl_PostOk.f kj5 t294 t295).bind fun t318 => (if t318 = true then ((some (([] : List (S29)) : List (S29))).bind fun y321 => (if y321.length + t295.length < 4398046511104 then ((some (y321 ++ t295 : List (S29))).bind fun y324 => ((some (([(⟨(⟨#[97]⟩ : ByteArray), 1, 0⟩ : S29)] : List (S29)) : List (S29))).bind fun y327 => (if y324.length + y327.length < 4398046511104 then ((some (y324 ++ y327 : List (S29))).bind fun y330 => ((some (([] : List (S29)) : List (S29))).bind fun y334 => (if y334.length + t295.length < 4398046511104 then ((some (y334 ++ t295 : List (S29))).bind fun y337 => (if y337.length + t295.length < 4398046511104 then ((some (y337 ++ t295 : List (S29))).bind fun y340 => (if y340.length + y340.length < 4398046511104 then ((some (y340 ++ y340 : List (S29))).bind fun y344 => ((impl_PostOk.f kj5 t294 ([] : List (S29))).bind fun t347 => (if t347 = true then (none) else ((impl_PostOk.f kj5 100 t295).bind fun t348 => (if t348 = true then (none) else ((impl_PostOk.f kj5 t294 y330).bind fun t349 => (if t349 = true then (none) else (if (y344.length : Int) ≤ 4 then ((impl_PostSame.f kj5 t294 t295 100 t295).bind fun t350 => (if t350 = true then (none) else ((impl_PostSame.f kj5 t294 t295 t294 y330).bind fun t351 => (some (!t351))))) else ((impl_PostOk.f kj5 t294 y344).bind fun t352 => (if t352 = true then (none) else ((impl_PostSame.f kj5 t294 t295 100 t295).bind fun t353 => (if t353 = true then (none) else ((impl_PostSame.f kj5 t294 t295 t294 y330).bind fun t354 => (some (!t354))))))))))))))) else (none))) else (none))) else (none)))) else (none)))) else (none))) else (some true))) = some r := by rw [if_neg (show ¬ (false = true) by decide)] at H; exact H
   clear H
   have H := H1
   clear H1
   refine a0 _ _ ?_
   refine wp_cond_false rfl (wp_skip ?_)
   refine a1 _ _ ?_
   exact laws_FnPostBent.rest8 (k := k) (A0 := A0) (c0 := c0) (l0 := l0) (r := r) (w := w) (t294 := t294) (t295 := t295) (t298 := t298) (t299 := t299) (t304 := t304) (t305 := t305) (t306 := t306) (t308 := t308) (gb302 := gb302) (gb303 := gb303) (NB302_303 := NB302_303) (NB303_302 := NB303_302) (Ao12 := Ao12) (co12 := co12) (Ao14 := Ao14) (co14 := co14) (gb307 := gb307) (NB302_307 := NB302_307) (NB307_302 := NB307_302) (wc := wc) (u11 := u11) (u12 := u12) (u13 := u13) (u14 := u14) (u15 := u15) (u16 := u16) (u17 := u17) (u18 := u18) (u19 := u19) (u20 := u20) (u21 := u21) (u22 := u22) (u23 := u23) (u24 := u24) (u25 := u25) (u26 := u26) (u27 := u27) (u28 := u28) (u29 := u29) (u30 := u30) (u31 := u31) (u32 := u32) (u33 := u33) (u34 := u34) (u35 := u35) (u36 := u36) (u37 := u37) (u38 := u38) (u39 := u39) (u40 := u40) (u41 := u41) (u42 := u42) (u43 := u43) (u44 := u44) (u45 := u45) (u46 := u46) (u47 := u47) (u48 := u48) (u49 := u49) (u50 := u50) (u51 := u51) (u52 := u52) (u53 := u53) (u54 := u54) (u55 := u55) (u56 := u56) (u57 := u57) (u59 := u59) (u60 := u60) (u61 := u61) (u62 := u62) (u63 := u63) (u64 := u64) (u65 := u65) (u66 := u66) (u67 := u67) (u68 := u68) (u69 := u69) (u70 := u70) (u71 := u71) (u72 := u72) (u73 := u73) (u74 := u74) (u75 := u75) (u76 := u76) (u77 := u77) (u78 := u78) (u79 := u79) (u80 := u80) (u81 := u81) (u82 := u82) (u83 := u83) (u84 := u84) (u85 := u85) (u86 := u86) (u87 := u87) (u88 := u88) (u89 := u89) (u90 := u90) (u91 := u91) (u92 := u92) (u93 := u93) (u94 := u94) (u95 := u95) (u96 := u96) (u97 := u97) (u98 := u98) (u99 := u99) (u100 := u100) (u101 := u101) (u102 := u102) (u103 := u103) (u104 := u104) (u105 := u105) (u106 := u106) (u107 := u107) (u108 := u108) (u109 := u109) (u110 := u110) (u111 := u111) (u112 := u112) (u113 := u113) (u114 := u114) (u115 := u115) (u116 := u116) (u117 := u117) (u118 := u118) (u119 := u119) (u120 := u120) (u121 := u121) (u122 := u122) (u123 := u123) (u124 := u124) (u125 := u125) (u126 := u126) (u127 := u127) (u128 := u128) (u129 := u129) (HO_303001 := HO_303001) (HO_304001 := HO_304001) (BK302 := BK302) (BK303 := BK303) (BK307 := BK307) (HB := HB) (kj5 := kj5) (H := H)

/-- THE ONE PURE STATEMENT of laws_FnPostBent: yours. -/
def laws_FnPostBent.Pure : Prop := ∀ (l0 : List Int), l0.length ≤ maxLen → l0.length * 1 ≤ 140737488351232 → (∀ x ∈ l0, (Lit.int .u8 x).wf = true) → ∃ k, laws_FnPostBent.f k l0 = some true
theorem laws_FnPostBent.walk (P : laws_FnPostBent.Pure) (a0 : Option Addr) (len0 cap0 : Nat) (z0 : List Int) (w : World) (w0 : (a0 = none ∧ len0 = 0 ∧ cap0 = 0 ∧ z0 = []) ∨ ∃ x, a0 = some x ∧ len0 ≤ cap0 ∧ cap0 ≤ maxLen ∧ z0.length = cap0 ∧ (∀ i, i < z0.length → w.cell? (x.add i) = some (.int .u8 (z0.getD i 0))) ∧ ∀ n ∈ z0, (Lit.int .u8 n).wf = true) (y0 : len0 * 1 ≤ 140737488351232) :
  Calls Try.prog 3 #[.slice a0 len0 cap0] w fun e w' => e = .returned (.bool true) ∧ Below w.heap.size w w' := by
 obtain ⟨l0, rfl, hr0, hm0, hw0, hc0⟩ := ReadsInt.ofRowC w0
 obtain ⟨k, h⟩ := P l0 hm0 y0 hw0
 refine (laws_FnPostBent.calls k _ _ l0 true w (Kd.C_of_reads (d := (0 : Int)) (h1 := fun _ => rfl) hr0) hc0 h).mono ?_
 rintro e w' ⟨rfl, hd⟩
 exact ⟨rfl, hd⟩


end Go.Proofs.Ytemnggadcgmmkaa.QFnPostBent


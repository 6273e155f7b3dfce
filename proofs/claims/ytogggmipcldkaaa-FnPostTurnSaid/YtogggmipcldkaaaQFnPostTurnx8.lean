/- What the law FnPostTurn reaches, function by function: what each computes, and that the machine's call comes to it. Laid by a program. -/
import Derived.Test.YtogggmipcldkaaaQFnPostTurnx0
import Derived.Test.YtogggmipcldkaaaQFnPostTurnx1
import Derived.Test.YtogggmipcldkaaaQFnPostTurnx3
import Derived.Test.YtogggmipcldkaaaQFnPostTurnx7
namespace Go.Proofs.Ytogggmipcldkaaa.QFnPostTurn
open Go.RowKit Go.Proofs.YtogggmipcldkaaaW.PrintWords Go.Proofs.YtogggmipcldkaaaW.PrintLast Go.Proofs.YtogggmipcldkaaaW.PrintMore
attribute [local go_sem] max2_int min2_int max_two min_two max_three min_three max_four min_four   -- for this text's walks alone
set_option linter.unusedVariables false
set_option linter.unusedSimpArgs false

/-! ### laws_FnPostTurn: function 10 -/
def laws_FnPostTurn.l0 : Nat → ByteArray → Int → Int → Int → Int → List (S41) → Int → List (S41) → Int → List (S41) → Option (Bool)
  | 0, _, _, _, _, _, _, _, _, _, _ => none
  | k + 1, x4, x5, x6, x9, x269000, x269001, x273000, x273001, x274000, x274001 => if x9 ≥ 0 then (if 0 ≤ x9 then (if x9 < (x269001.length : Int) then (if x273001.length < 4398046511104 then (if x274001.length < 4398046511104 then (laws_FnPostTurn.l0 k x4 x5 x6 (wrap64 (x9 - 1)) x269000 x269001 x273000 (x273001 ++ [(⟨(rd_T41 x269001 x9).f0, (rd_T41 x269001 x9).f1, (rd_T41 x269001 x9).f2⟩ : S41)]) x274000 (x274001 ++ [(⟨(rd_T41 x269001 x9).f0, (rd_T41 x269001 x9).f1, wrap64 (-((rd_T41 x269001 x9).f2))⟩ : S41)])) else (none)) else (none)) else (none)) else (none)) else ((impl_PostTo.f k x273000 x273001 x4 x5).bind fun t282 => (if t282 = x6 then ((impl_PostTo.f k x274000 x274001 x4 x5).bind fun t283 => (if t283 = (wrap64 (-x6)) then ((impl_PostFair.f k x273000 x273001).bind fun t284 => ((impl_PostFair.f k x269000 x269001).bind fun t285 => (if (t284 == t285) = true then ((impl_PostFair.f k x274000 x274001).bind fun t286 => ((impl_PostFair.f k x269000 x269001).bind fun t287 => (some (t286 == t287)))) else (none)))) else (none))) else (none)))
def laws_FnPostTurn.f (k : Nat) (l0 : List Int) : Option (Bool) := if (l0.length : Int) > 1048576 then (some true) else ((spec_DrawPostTo.f k l0).bind fun bt262 => ((impl_PostTo.f k bt262.1 bt262.2.1 bt262.2.2.1 bt262.2.2.2).bind fun t269 => ((spec_PostTo.f k bt262.1 bt262.2.1 bt262.2.2.1 bt262.2.2.2).bind fun t270 => (if t269 = t270 then ((spec_PostOk.f k bt262.1 bt262.2.1).bind fun t271 => (if t271 = true then (laws_FnPostTurn.l0 k bt262.2.2.1 bt262.2.2.2 t269 (wrap64 ((bt262.2.1.length : Int) - 1)) bt262.1 bt262.2.1 bt262.1 ([] : List (S41)) bt262.1 ([] : List (S41))) else ((spec_PostTo.f k bt262.1 bt262.2.1 bt262.2.2.1 bt262.2.2.2).bind fun t288 => (some (t269 == t288))))) else ((spec_PostTo.f k bt262.1 bt262.2.1 bt262.2.2.1 bt262.2.2.2).bind fun t289 => (some (t269 == t289)))))))
theorem laws_FnPostTurn.mono_l : ∀ k, (∀ y0 y1 y2 y3 y4 y5 y6 y7 y8 y9, LeO (laws_FnPostTurn.l0 k y0 y1 y2 y3 y4 y5 y6 y7 y8 y9) (laws_FnPostTurn.l0 (k + 1) y0 y1 y2 y3 y4 y5 y6 y7 y8 y9))
  | 0 => fun _ _ _ _ _ _ _ _ _ _ r h => by simp [laws_FnPostTurn.l0] at h
  | k + 1 => by
    have ih0 := laws_FnPostTurn.mono_l k
    · intro y0 y1 y2 y3 y4 y5 y6 y7 y8 y9
      unfold laws_FnPostTurn.l0
      repeat' first
      | (with_reducible exact ih0 _ _ _ _ _ _ _ _ _ _)
      | (with_reducible exact impl_PostFair.mono _ _ _)
      | (with_reducible exact impl_PostTo.mono _ _ _ _ _)
      | (with_reducible exact spec_DrawPostTo.mono _ _)
      | (with_reducible exact spec_PostOk.mono _ _ _)
      | (with_reducible exact spec_PostTo.mono _ _ _ _ _)
      | (with_reducible exact LeO.refl _)
      | (with_reducible exact LeO.none _)
      | (with_reducible refine LeO.ite ?_ ?_)
      | (with_reducible refine LeO.bind ?_ (fun _ => ?_))
      | exact ih0 _ _ _ _ _ _ _ _ _ _
      | exact impl_PostFair.mono _ _ _
      | exact impl_PostTo.mono _ _ _ _ _
      | exact spec_DrawPostTo.mono _ _
      | exact spec_PostOk.mono _ _ _
      | exact spec_PostTo.mono _ _ _ _ _
      | exact LeO.none _
      | refine LeO.ite ?_ ?_
      | refine LeO.bind ?_ (fun _ => ?_)
theorem laws_FnPostTurn.mono : ∀ a0 k, LeO (laws_FnPostTurn.f k a0) (laws_FnPostTurn.f (k + 1) a0) := by
  intro a0 k
  have ih0 := laws_FnPostTurn.mono_l k
  unfold laws_FnPostTurn.f
  repeat' first
      | (with_reducible exact ih0 _ _ _ _ _ _ _ _ _ _)
      | (with_reducible exact impl_PostFair.mono _ _ _)
      | (with_reducible exact impl_PostTo.mono _ _ _ _ _)
      | (with_reducible exact spec_DrawPostTo.mono _ _)
      | (with_reducible exact spec_PostOk.mono _ _ _)
      | (with_reducible exact spec_PostTo.mono _ _ _ _ _)
      | (with_reducible exact LeO.refl _)
      | (with_reducible exact LeO.none _)
      | (with_reducible refine LeO.ite ?_ ?_)
      | (with_reducible refine LeO.bind ?_ (fun _ => ?_))
      | exact ih0 _ _ _ _ _ _ _ _ _ _
      | exact impl_PostFair.mono _ _ _
      | exact impl_PostTo.mono _ _ _ _ _
      | exact spec_DrawPostTo.mono _ _
      | exact spec_PostOk.mono _ _ _
      | exact spec_PostTo.mono _ _ _ _ _
      | exact LeO.none _
      | refine LeO.ite ?_ ?_
      | refine LeO.bind ?_ (fun _ => ?_)
def laws_FnPostTurn.T16 : Bool × List (List Nat × List Nat) := (true, [([], []), ([], []), ([], []), ([0, 1, 2], [0, 1, 2]), ([], []), ([3, 4], [3, 4]), ([5, 3], [5]), ([6], [6]), ([6], [6]), ([6], [6]), ([7, 8, 9, 6, 6], [6, 7, 8, 9]), ([6], [6]), ([11, 6], [6, 11]), ([10, 12, 6], [6, 10, 12]), ([6, 13], [6, 13]), ([14, 10], [14]), ([15], [15]), ([16, 15, 15], [15, 16]), ([15], [15]), ([18, 17, 15], [15, 18]), ([17, 19, 15], [15, 17, 19]), ([15, 20], [15, 20]), ([21, 19], [21]), ([22], [22]), ([23, 22, 22], [22, 23]), ([22], [22]), ([25, 24, 22], [22, 25]), ([24, 26, 22], [22, 24, 26]), ([22, 27], [22, 27]), ([28, 26, 0, 1, 2, 3, 4, 5, 6, 7, 8, 9, 10, 11, 12, 13, 14, 15, 16, 17, 18, 19, 20, 21, 22, 23, 24, 25, 26, 27, 28], [28])])
def laws_FnPostTurn.B16 : List Nat := [0, 0, 0, 7, 0, 31, 63, 127, 127, 127, 1023, 127, 2175, 8191, 16383, 32767, 65535, 131071, 65535, 524287, 1048575, 2097151, 4194303, 8388607, 16777215, 8388607, 67108863, 134217727, 268435455, 536870911]
theorem laws_FnPostTurn.tab16 : rtab .any (opsOf Try.f10 16) = laws_FnPostTurn.T16 := by kernel_rfl
theorem laws_FnPostTurn.bits16 : waitsOk laws_FnPostTurn.T16.2 laws_FnPostTurn.B16 = true := by kernel_rfl
theorem laws_FnPostTurn_vb {p q : Prop} (h : Aside0 p) (k : p → q := by (intro hz; (with_reducible repeat (first | refine blk_drewN ?_ _ | refine blk_drew ?_ | refine blk_alloc ?_ _)); exact hz)) : q := k h.out
theorem laws_FnPostTurn_auHB {q : Prop} (h : q := by (repeat (first | (with_reducible first | exact HB.out | apply below_alloc | apply pw_below_drewN | apply below_drew1 | refine below_set ?_ GE268.out | refine below_set ?_ GE272.out | refine below_set ?_ GE273.out | refine below_set ?_ GE275.out) | exact HB.out))) : q := h
set_option maxHeartbeats 8000000 in
set_option maxRecDepth 100000 in
theorem laws_FnPostTurn.calls (k : Nat) (A0 : Option Addr) (c0 : Nat) (l0 : List Int) (r : Bool) (w : World) (hr0 : Kd.C (Kd.int .u8) w A0 l0.length l0) (hc0 : l0.length ≤ c0) (h : laws_FnPostTurn.f k l0 = some r) :
  Calls Try.prog 10 #[.slice A0 l0.length c0] w fun e w' => e = .returned (.bool r) ∧ Below w.heap.size w w' := by
 have hu29 := Try.underlying29
 have hu41 := Try.underlying41
 have HR0 := Aside0.mk hr0
 have HC0 := Aside0.mk hc0
 clear hr0 hc0
 have HB := Aside0.mk (Below.refl w.heap.size w)
 have H : (if (l0.length : Int) > 1048576 then (some true) else ((spec_DrawPostTo.f k l0).bind fun bt262 => ((impl_PostTo.f k bt262.1 bt262.2.1 bt262.2.2.1 bt262.2.2.2).bind fun t269 => ((spec_PostTo.f k bt262.1 bt262.2.1 bt262.2.2.1 bt262.2.2.2).bind fun t270 => (if t269 = t270 then ((spec_PostOk.f k bt262.1 bt262.2.1).bind fun t271 => (if t271 = true then (laws_FnPostTurn.l0 k bt262.2.2.1 bt262.2.2.2 t269 (wrap64 ((bt262.2.1.length : Int) - 1)) bt262.1 bt262.2.1 bt262.1 ([] : List (S41)) bt262.1 ([] : List (S41))) else ((spec_PostTo.f k bt262.1 bt262.2.1 bt262.2.2.1 bt262.2.2.2).bind fun t288 => (some (t269 == t288))))) else ((spec_PostTo.f k bt262.1 bt262.2.1 bt262.2.2.1 bt262.2.2.2).bind fun t289 => (some (t269 == t289)))))))) = some r := h
 clear h
 by_cases c2 : (l0.length : Int) > 1048576
 ·
  rw [if_pos c2] at H
  have c2b0 : decide (1048576 < (l0.length : Int)) = true := decide_eq_true c2
  have c2b1 : decide (1048576 < l0.length) = true := decide_eq_true (by omega)
  clear c2
  obtain rfl := Option.some.inj H
  go_enter Try.func10, Try.ntmps10
  go_wp2
  go_ret
  exact ⟨by first | rfl | (simp [errW_none, errW_some] <;> rfl) | (simp [*, errW_none, errW_some] <;> rfl), laws_FnPostTurn_auHB⟩
 ·
  rw [if_neg c2] at H
  have c2b0 : decide (1048576 < (l0.length : Int)) = false := decide_eq_false c2
  have c2b1 : decide (1048576 < l0.length) = false := decide_eq_false (by omega)
  clear c2
  replace H := Option.bind_eq_some_iff.mp H
  obtain ⟨⟨t262, t263, t266, t267⟩, A30, H⟩ := H
  replace H : ((impl_PostTo.f k t262 t263 t266 t267).bind fun t269 => ((spec_PostTo.f k t262 t263 t266 t267).bind fun t270 => (if t269 = t270 then ((spec_PostOk.f k t262 t263).bind fun t271 => (if t271 = true then (laws_FnPostTurn.l0 k t266 t267 t269 (wrap64 ((t263.length : Int) - 1)) t262 t263 t262 ([] : List (S41)) t262 ([] : List (S41))) else ((spec_PostTo.f k t262 t263 t266 t267).bind fun t288 => (some (t269 == t288))))) else ((spec_PostTo.f k t262 t263 t266 t267).bind fun t289 => (some (t269 == t289)))))) = some r := H
  have A3 := Aside0.mk A30
  clear A30
  replace H := Option.bind_eq_some_iff.mp H
  obtain ⟨t269, A40, H⟩ := H
  replace H : ((spec_PostTo.f k t262 t263 t266 t267).bind fun t270 => (if t269 = t270 then ((spec_PostOk.f k t262 t263).bind fun t271 => (if t271 = true then (laws_FnPostTurn.l0 k t266 t267 t269 (wrap64 ((t263.length : Int) - 1)) t262 t263 t262 ([] : List (S41)) t262 ([] : List (S41))) else ((spec_PostTo.f k t262 t263 t266 t267).bind fun t288 => (some (t269 == t288))))) else ((spec_PostTo.f k t262 t263 t266 t267).bind fun t289 => (some (t269 == t289))))) = some r := H
  have A4 := Aside0.mk A40
  clear A40
  replace H := Option.bind_eq_some_iff.mp H
  obtain ⟨t270, A50, H⟩ := H
  replace H : (if t269 = t270 then ((spec_PostOk.f k t262 t263).bind fun t271 => (if t271 = true then (laws_FnPostTurn.l0 k t266 t267 t269 (wrap64 ((t263.length : Int) - 1)) t262 t263 t262 ([] : List (S41)) t262 ([] : List (S41))) else ((spec_PostTo.f k t262 t263 t266 t267).bind fun t288 => (some (t269 == t288))))) else ((spec_PostTo.f k t262 t263 t266 t267).bind fun t289 => (some (t269 == t289)))) = some r := H
  have A5 := Aside0.mk A50
  clear A50
  by_cases c6 : t269 = t270
  ·
   rw [if_pos c6] at H
   have c6b0 : (t269 == t270) = true := beq_iff_eq.mpr c6
   have c6b1 : (t269 != t270) = false := bne_eq_false_iff_eq.mpr c6
   clear c6
   replace H := Option.bind_eq_some_iff.mp H
   obtain ⟨t271, A70, H⟩ := H
   replace H : (if t271 = true then (laws_FnPostTurn.l0 k t266 t267 t269 (wrap64 ((t263.length : Int) - 1)) t262 t263 t262 ([] : List (S41)) t262 ([] : List (S41))) else ((spec_PostTo.f k t262 t263 t266 t267).bind fun t288 => (some (t269 == t288)))) = some r := H
   have A7 := Aside0.mk A70
   clear A70
   by_cases c8 : t271 = true
   ·
    subst c8
    have H1 : (laws_FnPostTurn.l0 k t266 t267 t269 (wrap64 ((t263.length : Int) - 1)) t262 t263 t262 ([] : List (S41)) t262 ([] : List (S41))) = some r := by rw [if_pos rfl] at H; exact H
    clear H
    have H := H1
    clear H1
    have H' := Aside0.mk H
    clear H
    go_enter Try.func10, Try.ntmps10
    go_wp2_with (first | ((with_reducible refine gate_callee (f := 33) rfl ?_); refine goesL_ (some 16) rfl rfl Try.func33 (by kernel_rfl) rfl #[.slice A0 l0.length c0] rfl (by (try simp only [List.map_toArray, List.map_cons, List.map_nil]); first | done | rfl | (simp only [List.length_drop, List.length_take]; rfl)) ?_; (with_reducible refine (spec_DrawPostTo.calls k _ _ l0 t262 t263 t266 t267 _ ?side1 ?side2 A3.out).mono ?_); (case side1 => repeat (first | exact HR0.out | (with_reducible refine Kd.C_alloc ?_ _) | (with_reducible refine Kd.C_drewN ?_ _) | (with_reducible refine Kd.C_drew ?_))); (case side2 => exact HC0.out); rintro e w9 ⟨v264, rfl, ho0, hb⟩; refine ⟨_, rfl, ?_⟩; have n0_ := Aside0.mk (Kd.R_lower ho0 (below_size (laws_FnPostTurn_auHB))); have n1_ := Aside0.mk (below_step (laws_FnPostTurn_auHB) hb); clear HB; have HO265 := n0_; have HB := n1_; clear n0_ n1_; (try clear hb); (try clear hb2); (try clear hk); (try clear hi); (try clear ho0)) | ((with_reducible refine gate_dst (N := 3) rfl ?_); refine box_event ?hg (N := 3) ?hd (cs := #[.int .i64 0, .slice none 0 0]) (t := 29) ?hr ?_; (case hd => rfl); (case hg => rfl); (case hr => first | (go_simp; done) | (go_simp; rfl)); intro gb268 hg w10 hbox hb; have n0_ := Aside0.mk (Kd.R_below (by (with_reducible repeat (first | apply Kd.R_alloc | apply Kd.R_drewN | apply Kd.R_drew)); exact HO265.out) hb); have n1_ := Aside0.mk (below_step (laws_FnPostTurn_auHB) hb); have n2_ := Aside0.mk (hbox); have n3_ := Aside0.mk ((by rw [hg]; exact (below_size (laws_FnPostTurn_auHB)) : w.heap.size ≤ gb268)); have n4_ := Aside0.mk ((by rw [hg]; exact (below_size (laws_FnPostTurn_auHB)) : w.heap.size ≤ gb268)); clear HO265; clear HB; have HO265 := n0_; have HB := n1_; have BK268 := n2_; have GW268 := n3_; have GE268 := n4_; clear n0_ n1_ n2_ n3_ n4_; clear hb hbox hg; have hcz11_0 : w10.cell? ⟨gb268, 0, none⟩ = some (.int .i64 0) := (blk_cell BK268.out 0).trans rfl; have hcz11_1 : w10.cell? ⟨gb268, 1, none⟩ = some (.slice none 0 0) := (blk_cell BK268.out 1).trans rfl; have hfz11_0 := blk_frozen BK268.out 0; have hfz11_1 := blk_frozen BK268.out 1; obtain ⟨Ao12, co12, eo12⟩ := Kd.R_slice HO265.out; subst eo12) | ((with_reducible refine gate_callee (f := 18) rfl ?_); refine goesL_ (some 23) rfl rfl Try.func18 (by kernel_rfl) rfl #[.agg #[.int .i64 t262, .slice Ao12 t263.length co12], .string t266, .int .i64 t267] rfl (by (try simp only [List.map_toArray, List.map_cons, List.map_nil]); first | done | rfl | (simp only [List.length_drop, List.length_take]; rfl)) ?_; (with_reducible refine (impl_PostTo.calls k t262 _ _ t263 t266 t267 t269 _ ?side1 ?side2 A4.out).mono ?_); (case side1 => refine (Kd.R_reads' (e := 41) (base := w.heap.size) (ok := fun k_ => True) (n := t263.length) (c := co12) ?_).2.2; exact (by (with_reducible repeat (first | apply Kd.R_alloc | apply Kd.R_drewN | apply Kd.R_drew)); exact (Kd.R_mono (Kd.R_far (p := ⟨gb268, 1, none⟩) (Kd.R_far (p := ⟨gb268, 0, none⟩) (Kd.R_types HO265.out BK268.out (by decide)) (fun _ hk => hk.2) (.int .i64 t262)) (fun _ hk => hk.2) (.slice Ao12 t263.length co12)) (fun _ h_ => h_.1)))); (case side2 => exact (Kd.R_reads' HO265.out).2.1); rintro e w13 ⟨rfl, hb⟩; refine ⟨_, rfl, ?_⟩; have n0_ := Aside0.mk (Kd.R_below (by (with_reducible repeat (first | apply Kd.R_alloc | apply Kd.R_drewN | apply Kd.R_drew)); exact (Kd.R_mono (Kd.R_far (p := ⟨gb268, 1, none⟩) (Kd.R_far (p := ⟨gb268, 0, none⟩) (Kd.R_types HO265.out BK268.out (by decide)) (fun _ hk => hk.2) (.int .i64 t262)) (fun _ hk => hk.2) (.slice Ao12 t263.length co12)) (fun _ h_ => h_.1))) hb); have n1_ := Aside0.mk (blk_below (g := gb268) (o := .cells #[.int .i64 t262, .slice Ao12 t263.length co12] 29 (0, 0)) (by (with_reducible repeat (first | refine blk_drewN ?_ _ | refine blk_drew ?_ | refine blk_alloc ?_ _)); refine blk_put (cs := #[.int .i64 t262, .slice none 0 0]) ?_ 1 _ rfl; (with_reducible repeat (first | refine blk_drewN ?_ _ | refine blk_drew ?_ | refine blk_alloc ?_ _)); refine blk_put (cs := #[.int .i64 0, .slice none 0 0]) ?_ 0 _ rfl; (with_reducible repeat (first | refine blk_drewN ?_ _ | refine blk_drew ?_ | refine blk_alloc ?_ _)); exact BK268.out) hb); have n2_ := Aside0.mk (below_step (laws_FnPostTurn_auHB) hb); clear HO265; clear BK268; clear HB; have HO265 := n0_; have BK268 := n1_; have HB := n2_; clear n0_ n1_ n2_; (try clear hb); (try clear hb2); (try clear hk); (try clear hi); have hcz14_0 : w13.cell? ⟨gb268, 0, none⟩ = some (.int .i64 t262) := (blk_cell BK268.out 0).trans rfl; have hcz14_1 : w13.cell? ⟨gb268, 1, none⟩ = some (.slice Ao12 t263.length co12) := (blk_cell BK268.out 1).trans rfl; have hfz14_0 := blk_frozen BK268.out 0; have hfz14_1 := blk_frozen BK268.out 1) | ((with_reducible refine gate_callee (f := 17) rfl ?_); refine goesL_ (some 28) rfl rfl Try.func17 (by kernel_rfl) rfl #[.agg #[.int .i64 t262, .slice Ao12 t263.length co12], .string t266, .int .i64 t267] rfl (by (try simp only [List.map_toArray, List.map_cons, List.map_nil]); first | done | rfl | (simp only [List.length_drop, List.length_take]; rfl)) ?_; (with_reducible refine (spec_PostTo.calls k t262 _ _ t263 t266 t267 t270 _ ?side1 ?side2 A5.out).mono ?_); (case side1 => repeat (first | exact (Kd.R_reads' HO265.out).2.2 | (with_reducible refine Kd.C_alloc ?_ _) | (with_reducible refine Kd.C_drewN ?_ _) | (with_reducible refine Kd.C_drew ?_))); (case side2 => exact (Kd.R_reads' HO265.out).2.1); rintro e w15 ⟨rfl, hb⟩; refine ⟨_, rfl, ?_⟩; have n0_ := Aside0.mk (Kd.R_below (by (with_reducible repeat (first | apply Kd.R_alloc | apply Kd.R_drewN | apply Kd.R_drew)); exact HO265.out) hb); have n1_ := Aside0.mk (blk_below (g := gb268) (o := .cells #[.int .i64 t262, .slice Ao12 t263.length co12] 29 (0, 0)) (laws_FnPostTurn_vb BK268) hb); have n2_ := Aside0.mk (below_step (laws_FnPostTurn_auHB) hb); clear HO265; clear BK268; clear HB; have HO265 := n0_; have BK268 := n1_; have HB := n2_; clear n0_ n1_ n2_; (try clear hb); (try clear hb2); (try clear hk); (try clear hi); have hcz16_0 : w15.cell? ⟨gb268, 0, none⟩ = some (.int .i64 t262) := (blk_cell BK268.out 0).trans rfl; have hcz16_1 : w15.cell? ⟨gb268, 1, none⟩ = some (.slice Ao12 t263.length co12) := (blk_cell BK268.out 1).trans rfl; have hfz16_0 := blk_frozen BK268.out 0; have hfz16_1 := blk_frozen BK268.out 1) | (go_at_call 21; (with_reducible refine (spec_PostOk.calls k t262 _ _ t263 true _ ?side1 ?side2 A7.out).mono ?_); (case side1 => repeat (first | exact (Kd.R_reads' HO265.out).2.2 | (with_reducible refine Kd.C_alloc ?_ _) | (with_reducible refine Kd.C_drewN ?_ _) | (with_reducible refine Kd.C_drew ?_))); (case side2 => exact (Kd.R_reads' HO265.out).2.1); rintro e w17 ⟨rfl, hb⟩; have n0_ := Aside0.mk (Kd.R_below (by (with_reducible repeat (first | apply Kd.R_alloc | apply Kd.R_drewN | apply Kd.R_drew)); exact HO265.out) hb); have n1_ := Aside0.mk (blk_below (g := gb268) (o := .cells #[.int .i64 t262, .slice Ao12 t263.length co12] 29 (0, 0)) (laws_FnPostTurn_vb BK268) hb); have n2_ := Aside0.mk (below_step (laws_FnPostTurn_auHB) hb); clear HO265; clear BK268; clear HB; have HO265 := n0_; have BK268 := n1_; have HB := n2_; clear n0_ n1_ n2_; (try clear hb); (try clear hb2); (try clear hk); (try clear hi); have hcz18_0 : w17.cell? ⟨gb268, 0, none⟩ = some (.int .i64 t262) := (blk_cell BK268.out 0).trans rfl; have hcz18_1 : w17.cell? ⟨gb268, 1, none⟩ = some (.slice Ao12 t263.length co12) := (blk_cell BK268.out 1).trans rfl; have hfz18_0 := blk_frozen BK268.out 0; have hfz18_1 := blk_frozen BK268.out 1) | ((with_reducible refine gate_dst (N := 7) rfl ?_); refine box_event ?hg (N := 7) ?hd (cs := #[.int .i64 0, .slice none 0 0]) (t := 29) ?hr ?_; (case hd => rfl); (case hg => rfl); (case hr => first | (go_simp; done) | (go_simp; rfl)); intro gb272 hg w19 hbox hb; have n0_ := Aside0.mk (Kd.R_below (by (with_reducible repeat (first | apply Kd.R_alloc | apply Kd.R_drewN | apply Kd.R_drew)); exact HO265.out) hb); have n1_ := Aside0.mk (blk_below (g := gb268) (o := .cells #[.int .i64 t262, .slice Ao12 t263.length co12] 29 (0, 0)) (laws_FnPostTurn_vb BK268) hb); have n2_ := Aside0.mk (below_step (laws_FnPostTurn_auHB) hb); have n3_ := Aside0.mk (hbox); have n4_ := Aside0.mk ((by rw [hg]; exact (below_size (laws_FnPostTurn_auHB)) : w.heap.size ≤ gb272)); have n5_ := Aside0.mk ((by rw [hg]; exact (below_size (laws_FnPostTurn_auHB)) : w.heap.size ≤ gb272)); have n6_ := Aside0.mk ((by rw [hg]; exact Nat.ne_of_lt (blk_lt (g := gb268) (o := .cells #[.int .i64 t262, .slice Ao12 t263.length co12] 29 (0, 0)) (laws_FnPostTurn_vb BK268)) : gb268 ≠ gb272)); have n7_ := Aside0.mk ((by rw [hg]; exact Nat.ne_of_gt (blk_lt (g := gb268) (o := .cells #[.int .i64 t262, .slice Ao12 t263.length co12] 29 (0, 0)) (laws_FnPostTurn_vb BK268)) : gb272 ≠ gb268)); clear HO265; clear BK268; clear HB; have HO265 := n0_; have BK268 := n1_; have HB := n2_; have BK272 := n3_; have GW272 := n4_; have GE272 := n5_; have NB268_272 := n6_; have NB272_268 := n7_; clear n0_ n1_ n2_ n3_ n4_ n5_ n6_ n7_; clear hb hbox hg; have hnb20 := NB272_268.out; have hnc20 := NB268_272.out; have hcz21_0 : w19.cell? ⟨gb272, 0, none⟩ = some (.int .i64 0) := (blk_cell BK272.out 0).trans rfl; have hcz21_1 : w19.cell? ⟨gb272, 1, none⟩ = some (.slice none 0 0) := (blk_cell BK272.out 1).trans rfl; have hfz21_0 := blk_frozen BK272.out 0; have hfz21_1 := blk_frozen BK272.out 1; have hcz22_0 : w19.cell? ⟨gb268, 0, none⟩ = some (.int .i64 t262) := (blk_cell BK268.out 0).trans rfl; have hcz22_1 : w19.cell? ⟨gb268, 1, none⟩ = some (.slice Ao12 t263.length co12) := (blk_cell BK268.out 1).trans rfl; have hfz22_0 := blk_frozen BK268.out 0; have hfz22_1 := blk_frozen BK268.out 1) | ((with_reducible refine gate_dst (N := 8) rfl ?_); refine box_event ?hg (N := 8) ?hd (cs := #[.int .i64 0, .slice none 0 0]) (t := 29) ?hr ?_; (case hd => rfl); (case hg => rfl); (case hr => first | (go_simp; done) | (go_simp; rfl)); intro gb273 hg w23 hbox hb; have n0_ := Aside0.mk (Kd.R_below (by (with_reducible repeat (first | apply Kd.R_alloc | apply Kd.R_drewN | apply Kd.R_drew)); exact (Kd.R_mono (Kd.R_far (p := ⟨gb272, 1, none⟩) (Kd.R_far (p := ⟨gb272, 0, none⟩) (Kd.R_types HO265.out BK272.out (by decide)) (fun _ hk => hk.2) (.int .i64 t262)) (fun _ hk => hk.2) (.slice none 0 0)) (fun _ h_ => h_.1))) hb); have n1_ := Aside0.mk (blk_below (g := gb268) (o := .cells #[.int .i64 t262, .slice Ao12 t263.length co12] 29 (0, 0)) (by (with_reducible repeat (first | refine blk_drewN ?_ _ | refine blk_drew ?_ | refine blk_alloc ?_ _)); refine blk_far ?_ NB268_272.out _; (with_reducible repeat (first | refine blk_drewN ?_ _ | refine blk_drew ?_ | refine blk_alloc ?_ _)); refine blk_far ?_ NB268_272.out _; (with_reducible repeat (first | refine blk_drewN ?_ _ | refine blk_drew ?_ | refine blk_alloc ?_ _)); exact BK268.out) hb); have n2_ := Aside0.mk (blk_below (g := gb272) (o := .cells #[.int .i64 t262, .slice none 0 0] 29 (0, 0)) (by (with_reducible repeat (first | refine blk_drewN ?_ _ | refine blk_drew ?_ | refine blk_alloc ?_ _)); refine blk_put (cs := #[.int .i64 t262, .slice none 0 0]) ?_ 1 _ rfl; (with_reducible repeat (first | refine blk_drewN ?_ _ | refine blk_drew ?_ | refine blk_alloc ?_ _)); refine blk_put (cs := #[.int .i64 0, .slice none 0 0]) ?_ 0 _ rfl; (with_reducible repeat (first | refine blk_drewN ?_ _ | refine blk_drew ?_ | refine blk_alloc ?_ _)); exact BK272.out) hb); have n3_ := Aside0.mk (below_step (laws_FnPostTurn_auHB) hb); have n4_ := Aside0.mk (hbox); have n5_ := Aside0.mk ((by rw [hg]; exact (below_size (laws_FnPostTurn_auHB)) : w.heap.size ≤ gb273)); have n6_ := Aside0.mk ((by rw [hg]; exact (below_size (laws_FnPostTurn_auHB)) : w.heap.size ≤ gb273)); have n7_ := Aside0.mk ((by rw [hg]; exact Nat.ne_of_lt (blk_lt (g := gb268) (o := .cells #[.int .i64 t262, .slice Ao12 t263.length co12] 29 (0, 0)) (by (with_reducible repeat (first | refine blk_drewN ?_ _ | refine blk_drew ?_ | refine blk_alloc ?_ _)); refine blk_far ?_ NB268_272.out _; (with_reducible repeat (first | refine blk_drewN ?_ _ | refine blk_drew ?_ | refine blk_alloc ?_ _)); refine blk_far ?_ NB268_272.out _; (with_reducible repeat (first | refine blk_drewN ?_ _ | refine blk_drew ?_ | refine blk_alloc ?_ _)); exact BK268.out)) : gb268 ≠ gb273)); have n8_ := Aside0.mk ((by rw [hg]; exact Nat.ne_of_gt (blk_lt (g := gb268) (o := .cells #[.int .i64 t262, .slice Ao12 t263.length co12] 29 (0, 0)) (by (with_reducible repeat (first | refine blk_drewN ?_ _ | refine blk_drew ?_ | refine blk_alloc ?_ _)); refine blk_far ?_ NB268_272.out _; (with_reducible repeat (first | refine blk_drewN ?_ _ | refine blk_drew ?_ | refine blk_alloc ?_ _)); refine blk_far ?_ NB268_272.out _; (with_reducible repeat (first | refine blk_drewN ?_ _ | refine blk_drew ?_ | refine blk_alloc ?_ _)); exact BK268.out)) : gb273 ≠ gb268)); have n9_ := Aside0.mk ((by rw [hg]; exact Nat.ne_of_lt (blk_lt (g := gb272) (o := .cells #[.int .i64 t262, .slice none 0 0] 29 (0, 0)) (by (with_reducible repeat (first | refine blk_drewN ?_ _ | refine blk_drew ?_ | refine blk_alloc ?_ _)); refine blk_put (cs := #[.int .i64 t262, .slice none 0 0]) ?_ 1 _ rfl; (with_reducible repeat (first | refine blk_drewN ?_ _ | refine blk_drew ?_ | refine blk_alloc ?_ _)); refine blk_put (cs := #[.int .i64 0, .slice none 0 0]) ?_ 0 _ rfl; (with_reducible repeat (first | refine blk_drewN ?_ _ | refine blk_drew ?_ | refine blk_alloc ?_ _)); exact BK272.out)) : gb272 ≠ gb273)); have n10_ := Aside0.mk ((by rw [hg]; exact Nat.ne_of_gt (blk_lt (g := gb272) (o := .cells #[.int .i64 t262, .slice none 0 0] 29 (0, 0)) (by (with_reducible repeat (first | refine blk_drewN ?_ _ | refine blk_drew ?_ | refine blk_alloc ?_ _)); refine blk_put (cs := #[.int .i64 t262, .slice none 0 0]) ?_ 1 _ rfl; (with_reducible repeat (first | refine blk_drewN ?_ _ | refine blk_drew ?_ | refine blk_alloc ?_ _)); refine blk_put (cs := #[.int .i64 0, .slice none 0 0]) ?_ 0 _ rfl; (with_reducible repeat (first | refine blk_drewN ?_ _ | refine blk_drew ?_ | refine blk_alloc ?_ _)); exact BK272.out)) : gb273 ≠ gb272)); clear HO265; clear BK268; clear BK272; clear HB; have HO265 := n0_; have BK268 := n1_; have BK272 := n2_; have HB := n3_; have BK273 := n4_; have GW273 := n5_; have GE273 := n6_; have NB268_273 := n7_; have NB273_268 := n8_; have NB272_273 := n9_; have NB273_272 := n10_; clear n0_ n1_ n2_ n3_ n4_ n5_ n6_ n7_ n8_ n9_ n10_; clear hb hbox hg; have hnb24 := NB273_268.out; have hnc24 := NB268_273.out; have hnb25 := NB273_272.out; have hnc25 := NB272_273.out; have hcz26_0 : w23.cell? ⟨gb273, 0, none⟩ = some (.int .i64 0) := (blk_cell BK273.out 0).trans rfl; have hcz26_1 : w23.cell? ⟨gb273, 1, none⟩ = some (.slice none 0 0) := (blk_cell BK273.out 1).trans rfl; have hfz26_0 := blk_frozen BK273.out 0; have hfz26_1 := blk_frozen BK273.out 1; have hcz27_0 : w23.cell? ⟨gb268, 0, none⟩ = some (.int .i64 t262) := (blk_cell BK268.out 0).trans rfl; have hcz27_1 : w23.cell? ⟨gb268, 1, none⟩ = some (.slice Ao12 t263.length co12) := (blk_cell BK268.out 1).trans rfl; have hfz27_0 := blk_frozen BK268.out 0; have hfz27_1 := blk_frozen BK268.out 1))
    go_loopg [9] k (fun kq v9 w' => ∃ (x9_1 : Int) (x273001_1 : List (S41)) (x274001_1 : List (S41)) (u273001 : Value) (u274001 : Value), v9 = .int .i64 x9_1 ∧ Aside0 (laws_FnPostTurn.l0 kq t266 t267 t269 x9_1 t262 t263 t262 x273001_1 t262 x274001_1 = some r) ∧ Aside0 (kq ≤ k) ∧ Aside0 (Kd.R k41 41 w' w.heap.size (fun k_ => some k_ ≠ (u273001 : Value).ownBlock ∧ some k_ ≠ (u274001 : Value).ownBlock) (.slice Ao12 t263.length co12) t263) ∧ Aside0 (Kd.R k41 41 w' w.heap.size (fun k_ => some k_ ≠ ((.slice Ao12 t263.length co12) : Value).ownBlock ∧ some k_ ≠ (u274001 : Value).ownBlock) u273001 x273001_1) ∧ Aside0 (Kd.R k41 41 w' w.heap.size (fun k_ => some k_ ≠ ((.slice Ao12 t263.length co12) : Value).ownBlock ∧ some k_ ≠ (u273001 : Value).ownBlock) u274001 x274001_1) ∧ Aside0 (w'.heap[gb268]? = some (.cells #[.int .i64 t262, (.slice Ao12 t263.length co12)] 29 (0, 0))) ∧ Aside0 (w'.heap[gb272]? = some (.cells #[.int .i64 t262, u273001] 29 (0, 0))) ∧ Aside0 (w'.heap[gb273]? = some (.cells #[.int .i64 t262, u274001] 29 (0, 0))) ∧ Aside0 (Below w.heap.size w w'))
    case atStart => exact ⟨(wrap64 ((t263.length : Int) - 1)), (([] : List (S41))), (([] : List (S41))), (.slice none 0 0), (.slice none 0 0), (by first | rfl | (simp; done) | (simp [*]; done)), H', ⟨Nat.le_refl _⟩, ⟨by (with_reducible repeat (first | apply Kd.R_alloc | apply Kd.R_drewN | apply Kd.R_drew)); exact Kd.R_mono (Kd.R_far (p := ⟨gb273, 1, none⟩) (Kd.R_far (p := ⟨gb273, 0, none⟩) (Kd.R_types HO265.out BK273.out (by decide)) (fun _ hk => hk.2) (.int .i64 t262)) (fun _ hk => hk.2) (.slice none 0 0)) (fun _ hk => ⟨(by simp [Value.ownBlock]), (by simp [Value.ownBlock])⟩)⟩, ⟨by first | exact Kd.R_nil _ _ _ _ _ | exact Kd.N_nil _ _ _ _ _ | exact Kd.V_nil _ _ _ _ _ | exact Kd.Q_nil _ _ _ _ _ | exact Kd.S_nil _ _ _ _ _⟩, ⟨by first | exact Kd.R_nil _ _ _ _ _ | exact Kd.N_nil _ _ _ _ _ | exact Kd.V_nil _ _ _ _ _ | exact Kd.Q_nil _ _ _ _ _ | exact Kd.S_nil _ _ _ _ _⟩, ⟨by (with_reducible repeat (first | refine blk_drewN ?_ _ | refine blk_drew ?_ | refine blk_alloc ?_ _)); refine blk_far ?_ NB268_273.out _; (with_reducible repeat (first | refine blk_drewN ?_ _ | refine blk_drew ?_ | refine blk_alloc ?_ _)); refine blk_far ?_ NB268_273.out _; (with_reducible repeat (first | refine blk_drewN ?_ _ | refine blk_drew ?_ | refine blk_alloc ?_ _)); exact BK268.out⟩, ⟨by (with_reducible repeat (first | refine blk_drewN ?_ _ | refine blk_drew ?_ | refine blk_alloc ?_ _)); refine blk_far ?_ NB272_273.out _; (with_reducible repeat (first | refine blk_drewN ?_ _ | refine blk_drew ?_ | refine blk_alloc ?_ _)); refine blk_far ?_ NB272_273.out _; (with_reducible repeat (first | refine blk_drewN ?_ _ | refine blk_drew ?_ | refine blk_alloc ?_ _)); exact BK272.out⟩, ⟨by (with_reducible repeat (first | refine blk_drewN ?_ _ | refine blk_drew ?_ | refine blk_alloc ?_ _)); refine blk_put (cs := #[.int .i64 t262, .slice none 0 0]) ?_ 1 _ rfl; (with_reducible repeat (first | refine blk_drewN ?_ _ | refine blk_drew ?_ | refine blk_alloc ?_ _)); refine blk_put (cs := #[.int .i64 0, .slice none 0 0]) ?_ 0 _ rfl; (with_reducible repeat (first | refine blk_drewN ?_ _ | refine blk_drew ?_ | refine blk_alloc ?_ _)); exact BK273.out⟩, ⟨laws_FnPostTurn_auHB⟩⟩
    case round =>
     clear H'
     try clear c1
     try clear c2
     try clear c2b0
     try clear c2b1
     try clear p2
     try clear c3
     try clear c6
     try clear c6b0
     try clear c6b1
     try clear p6
     try clear c8
     try clear c10
     try clear c17
     try clear c18
     try clear c20
     try clear c24
     try clear c25
     try clear hcz11_0
     try clear hcz11_1
     try clear hcz14_0
     try clear hcz14_1
     try clear hcz16_0
     try clear hcz16_1
     try clear hcz18_0
     try clear hcz18_1
     try clear hcz21_0
     try clear hcz21_1
     try clear hcz22_0
     try clear hcz22_1
     try clear hcz26_0
     try clear hcz26_1
     try clear hcz27_0
     try clear hcz27_1
     try clear hfz11_0
     try clear hfz11_1
     try clear hfz14_0
     try clear hfz14_1
     try clear hfz16_0
     try clear hfz16_1
     try clear hfz18_0
     try clear hfz18_1
     try clear hfz21_0
     try clear hfz21_1
     try clear hfz22_0
     try clear hfz22_1
     try clear hfz26_0
     try clear hfz26_1
     try clear hfz27_0
     try clear hfz27_1
     obtain ⟨x9_1, x273001_1, x274001_1, u273001, u274001, rfl, HA, HK1, HO_269001, HO_273001, HO_274001, BK268, BK272, BK273, HB⟩ := hrel
     cases gk with
     | zero => exact absurd HA.out (by simp [laws_FnPostTurn.l0])
     | succ k1 =>
      have H := HA.out
      clear HA
      simp only [laws_FnPostTurn.l0] at H
      by_cases c28 : x9_1 ≥ 0
      ·
       rw [if_pos c28] at H
       have c28b0 : decide (0 ≤ x9_1) = true := decide_eq_true c28
       clear c28
       by_cases c29 : 0 ≤ x9_1
       ·
        rw [if_pos c29] at H
        have c29b0 : decide (0 ≤ x9_1) = true := decide_eq_true c29
        clear c29
        by_cases c30 : x9_1 < (t263.length : Int)
        ·
         rw [if_pos c30] at H
         have c30b0 : decide (x9_1 < (t263.length : Int)) = true := decide_eq_true c30
         clear c30
         by_cases c31 : x273001_1.length < 4398046511104
         ·
          rw [if_pos c31] at H
          have LMc31 := Aside0.mk c31
          clear c31
          obtain ⟨y276, hy276⟩ : ∃ y_ : List (S41), y_ = (x273001_1 ++ [(⟨(rd_T41 t263 x9_1).f0, (rd_T41 t263 x9_1).f1, (rd_T41 t263 x9_1).f2⟩ : S41)]) := ⟨_, rfl⟩
          replace H : (if x274001_1.length < 4398046511104 then (laws_FnPostTurn.l0 k1 t266 t267 t269 (wrap64 (x9_1 - 1)) t262 t263 t262 y276 t262 (x274001_1 ++ [(⟨(rd_T41 t263 x9_1).f0, (rd_T41 t263 x9_1).f1, wrap64 (-((rd_T41 t263 x9_1).f2))⟩ : S41)])) else (none)) = some r := by first | (rw [hy276]; with_reducible exact H) | (have H2_ := (Option.bind_some _ _).symm.trans H; rw [hy276]; with_reducible exact H2_) | (have H2_ := (Option.bind_some _ _).symm.trans H; with_reducible exact H2_) | with_reducible exact H | (rw [hy276]; exact H) | exact H
          have Ny276 := Aside0.mk hy276
          clear hy276
          by_cases c32 : x274001_1.length < 4398046511104
          ·
           rw [if_pos c32] at H
           have LMc32 := Aside0.mk c32
           clear c32
           obtain ⟨y279, hy279⟩ : ∃ y_ : List (S41), y_ = (x274001_1 ++ [(⟨(rd_T41 t263 x9_1).f0, (rd_T41 t263 x9_1).f1, wrap64 (-((rd_T41 t263 x9_1).f2))⟩ : S41)]) := ⟨_, rfl⟩
           replace H : (laws_FnPostTurn.l0 k1 t266 t267 t269 (wrap64 (x9_1 - 1)) t262 t263 t262 y276 t262 y279) = some r := by first | (rw [hy279]; with_reducible exact H) | (have H2_ := (Option.bind_some _ _).symm.trans H; rw [hy279]; with_reducible exact H2_) | (have H2_ := (Option.bind_some _ _).symm.trans H; with_reducible exact H2_) | with_reducible exact H | (rw [hy279]; exact H) | exact H
           have Ny279 := Aside0.mk hy279
           clear hy279
           have H' := Aside0.mk H
           clear H
           have hnb33 := NB268_272.out
           have hnc33 := NB272_268.out
           have hnb34 := NB268_273.out
           have hnc34 := NB273_268.out
           have hcz35_0 : wr.cell? ⟨gb268, 0, none⟩ = some (.int .i64 t262) := (blk_cell BK268.out 0).trans rfl
           have hcz35_1 : wr.cell? ⟨gb268, 1, none⟩ = some (.slice Ao12 t263.length co12) := (blk_cell BK268.out 1).trans rfl
           have hfz35_0 := blk_frozen BK268.out 0
           have hfz35_1 := blk_frozen BK268.out 1
           have p274 : 0 ≤ (x9_1 : Int) := of_decide_eq_true (by first | (with_reducible assumption) | assumption)
           have q274 : x9_1 < (t263.length : Int) := of_decide_eq_true (by first | (with_reducible assumption) | assumption)
           obtain ⟨ad274, e274, hx274_0, hx274_1, hx274_2⟩ := at_T41 (Kd.R_reads' HO_269001.out).2.2 x9_1 p274 q274
           cases e274
           replace p274 := eq_true p274
           replace q274 := eq_true q274
           go_wp2_with (first | ((with_reducible refine gate_dst (N := 10) rfl ?_); refine box_event ?hg (N := 10) ?hd (cs := #[.string (⟨#[]⟩ : ByteArray), .int .i64 0, .int .i64 0]) (t := 41) ?hr ?_; (case hd => rfl); (case hg => rfl); (case hr => first | (go_simp; done) | (go_simp; rfl)); intro gb275 hg w36 hbox hb; have n0_ := Aside0.mk (Kd.R_below (Kd.R_elderB (by (with_reducible repeat (first | apply Kd.R_alloc | apply Kd.R_drewN | apply Kd.R_drew)); exact HO_269001.out) gb275 (Nat.le_of_eq hg.symm)) hb); have n1_ := Aside0.mk (Kd.R_below (Kd.R_elderB (by (with_reducible repeat (first | apply Kd.R_alloc | apply Kd.R_drewN | apply Kd.R_drew)); exact HO_273001.out) gb275 (Nat.le_of_eq hg.symm)) hb); have n2_ := Aside0.mk (Kd.R_below (Kd.R_elderB (by (with_reducible repeat (first | apply Kd.R_alloc | apply Kd.R_drewN | apply Kd.R_drew)); exact HO_274001.out) gb275 (Nat.le_of_eq hg.symm)) hb); have n3_ := Aside0.mk (blk_below (g := gb268) (o := .cells #[.int .i64 t262, .slice (some ad274) t263.length co12] 29 (0, 0)) (laws_FnPostTurn_vb BK268) hb); have n4_ := Aside0.mk (blk_below (g := gb272) (o := .cells #[.int .i64 t262, u273001] 29 (0, 0)) (laws_FnPostTurn_vb BK272) hb); have n5_ := Aside0.mk (blk_below (g := gb273) (o := .cells #[.int .i64 t262, u274001] 29 (0, 0)) (laws_FnPostTurn_vb BK273) hb); have n6_ := Aside0.mk (below_step (laws_FnPostTurn_auHB) hb); have n7_ := Aside0.mk (hbox); have n8_ := Aside0.mk ((by rw [hg]; exact (below_size (laws_FnPostTurn_auHB)) : w.heap.size ≤ gb275)); have n9_ := Aside0.mk ((by rw [hg]; exact (below_size (laws_FnPostTurn_auHB)) : w.heap.size ≤ gb275)); have n10_ := Aside0.mk ((by rw [hg]; exact Nat.ne_of_lt (blk_lt (g := gb268) (o := .cells #[.int .i64 t262, .slice (some ad274) t263.length co12] 29 (0, 0)) (laws_FnPostTurn_vb BK268)) : gb268 ≠ gb275)); have n11_ := Aside0.mk ((by rw [hg]; exact Nat.ne_of_gt (blk_lt (g := gb268) (o := .cells #[.int .i64 t262, .slice (some ad274) t263.length co12] 29 (0, 0)) (laws_FnPostTurn_vb BK268)) : gb275 ≠ gb268)); have n12_ := Aside0.mk ((by rw [hg]; exact Nat.ne_of_lt (blk_lt (g := gb272) (o := .cells #[.int .i64 t262, u273001] 29 (0, 0)) (laws_FnPostTurn_vb BK272)) : gb272 ≠ gb275)); have n13_ := Aside0.mk ((by rw [hg]; exact Nat.ne_of_gt (blk_lt (g := gb272) (o := .cells #[.int .i64 t262, u273001] 29 (0, 0)) (laws_FnPostTurn_vb BK272)) : gb275 ≠ gb272)); have n14_ := Aside0.mk ((by rw [hg]; exact Nat.ne_of_lt (blk_lt (g := gb273) (o := .cells #[.int .i64 t262, u274001] 29 (0, 0)) (laws_FnPostTurn_vb BK273)) : gb273 ≠ gb275)); have n15_ := Aside0.mk ((by rw [hg]; exact Nat.ne_of_gt (blk_lt (g := gb273) (o := .cells #[.int .i64 t262, u274001] 29 (0, 0)) (laws_FnPostTurn_vb BK273)) : gb275 ≠ gb273)); clear HO_269001; clear HO_273001; clear HO_274001; clear BK268; clear BK272; clear BK273; clear HB; have HO_269001 := n0_; have HO_273001 := n1_; have HO_274001 := n2_; have BK268 := n3_; have BK272 := n4_; have BK273 := n5_; have HB := n6_; have BK275 := n7_; have GW275 := n8_; have GE275 := n9_; have NB268_275 := n10_; have NB275_268 := n11_; have NB272_275 := n12_; have NB275_272 := n13_; have NB273_275 := n14_; have NB275_273 := n15_; clear n0_ n1_ n2_ n3_ n4_ n5_ n6_ n7_ n8_ n9_ n10_ n11_ n12_ n13_ n14_ n15_; clear hb hbox hg; have hnb37 := NB275_268.out; have hnc37 := NB268_275.out; have hnb38 := NB275_272.out; have hnc38 := NB272_275.out; have hnb39 := NB275_273.out; have hnc39 := NB273_275.out; have hcz40_0 : w36.cell? ⟨gb275, 0, none⟩ = some (.string (⟨#[]⟩ : ByteArray)) := (blk_cell BK275.out 0).trans rfl; have hcz40_1 : w36.cell? ⟨gb275, 1, none⟩ = some (.int .i64 0) := (blk_cell BK275.out 1).trans rfl; have hcz40_2 : w36.cell? ⟨gb275, 2, none⟩ = some (.int .i64 0) := (blk_cell BK275.out 2).trans rfl; have hfz40_0 := blk_frozen BK275.out 0; have hfz40_1 := blk_frozen BK275.out 1; have hfz40_2 := blk_frozen BK275.out 2; have hnb41 := NB272_273.out; have hnc41 := NB273_272.out; have hcz42_0 : w36.cell? ⟨gb272, 0, none⟩ = some (.int .i64 t262) := (blk_cell BK272.out 0).trans rfl; have hcz42_1 : w36.cell? ⟨gb272, 1, none⟩ = some (u273001) := (blk_cell BK272.out 1).trans rfl; have hfz42_0 := blk_frozen BK272.out 0; have hfz42_1 := blk_frozen BK272.out 1) | ((with_reducible refine gate_builtin (b := .append) (xs := #[.tmp 61, .tmp 63]) rfl ?_); at_builtin; refine Kd.R_append k41 (w0 := w) w.heap.size rfl (.tmp 61) (.tmp 63) 27 41 (.agg #[(.string ⟨#[]⟩), (.int .i64 0), (.int .i64 0)]) 32 rfl Try.underlying27 info41 rfl (by decide) (by omega) u273001 x273001_1 (⟨(rd_T41 t263 x9_1).f0, (rd_T41 t263 x9_1).f1, (rd_T41 t263 x9_1).f2⟩ : S41) [.string ((rd_T41 t263 x9_1).f0), .int .i64 ((rd_T41 t263 x9_1).f1), .int .i64 ((rd_T41 t263 x9_1).f2)] (fun k_ => some k_ ≠ (.slice (some ad274) t263.length co12 : Value).ownBlock ∧ some k_ ≠ (u274001 : Value).ownBlock ∧ k_ ≠ gb275) (fun _ => False) rfl (by first | (go_simp; done) | (go_simp; rfl)) ?aP (fun _ hk => hk.elim) ?aF ?aO ?aB ?aS ?aL ?_; (case aP => exact k41_mkM _ _ _ (⟨(rd_T41 t263 x9_1).f0, (rd_T41 t263 x9_1).f1, (rd_T41 t263 x9_1).f2⟩ : S41)); (case aB => exact (laws_FnPostTurn_auHB)); (case aF => exact (fun k_ hk => ⟨Kd.fresh' (Kd.R_lt (by (with_reducible repeat (first | apply Kd.R_alloc | apply Kd.R_drewN | apply Kd.R_drew)); exact (Kd.R_mono (Kd.R_far (p := ⟨gb275, 2, none⟩) (Kd.R_far (p := ⟨gb275, 1, none⟩) (Kd.R_far (p := ⟨gb275, 0, none⟩) (Kd.R_mono HO_269001.out (fun k_ hk => (⟨hk, hk.2⟩ : _ ∧ k_ ≠ gb275))) (fun _ hk => hk.2) (.string ((rd_T41 t263 x9_1).f0))) (fun _ hk => hk.2) (.int .i64 ((rd_T41 t263 x9_1).f1))) (fun _ hk => hk.2) (.int .i64 ((rd_T41 t263 x9_1).f2))) (fun _ h_ => h_.1)))) k_ hk, Kd.fresh' (Kd.R_lt (by (with_reducible repeat (first | apply Kd.R_alloc | apply Kd.R_drewN | apply Kd.R_drew)); exact (Kd.R_mono (Kd.R_far (p := ⟨gb275, 2, none⟩) (Kd.R_far (p := ⟨gb275, 1, none⟩) (Kd.R_far (p := ⟨gb275, 0, none⟩) (Kd.R_mono HO_274001.out (fun k_ hk => (⟨hk, hk.2⟩ : _ ∧ k_ ≠ gb275))) (fun _ hk => hk.2) (.string ((rd_T41 t263 x9_1).f0))) (fun _ hk => hk.2) (.int .i64 ((rd_T41 t263 x9_1).f1))) (fun _ hk => hk.2) (.int .i64 ((rd_T41 t263 x9_1).f2))) (fun _ h_ => h_.1)))) k_ hk, Kd.freshB (g := gb275) (o := .cells #[.string ((rd_T41 t263 x9_1).f0), .int .i64 ((rd_T41 t263 x9_1).f1), .int .i64 ((rd_T41 t263 x9_1).f2)] 41 (0, 0)) (by (with_reducible repeat (first | refine blk_drewN ?_ _ | refine blk_drew ?_ | refine blk_alloc ?_ _)); refine blk_put (cs := #[.string ((rd_T41 t263 x9_1).f0), .int .i64 ((rd_T41 t263 x9_1).f1), .int .i64 0]) ?_ 2 _ rfl; (with_reducible repeat (first | refine blk_drewN ?_ _ | refine blk_drew ?_ | refine blk_alloc ?_ _)); refine blk_put (cs := #[.string ((rd_T41 t263 x9_1).f0), .int .i64 0, .int .i64 0]) ?_ 1 _ rfl; (with_reducible repeat (first | refine blk_drewN ?_ _ | refine blk_drew ?_ | refine blk_alloc ?_ _)); refine blk_put (cs := #[.string (⟨#[]⟩ : ByteArray), .int .i64 0, .int .i64 0]) ?_ 0 _ rfl; (with_reducible repeat (first | refine blk_drewN ?_ _ | refine blk_drew ?_ | refine blk_alloc ?_ _)); exact BK275.out) k_ hk⟩)); (case aO => exact (by (with_reducible repeat (first | apply Kd.R_alloc | apply Kd.R_drewN | apply Kd.R_drew)); exact Kd.R_mono (Kd.R_far (p := ⟨gb275, 2, none⟩) (Kd.R_far (p := ⟨gb275, 1, none⟩) (Kd.R_far (p := ⟨gb275, 0, none⟩) (Kd.R_mono HO_273001.out (fun k_ hk => (⟨hk, hk.2⟩ : _ ∧ k_ ≠ gb275))) (fun _ hk => hk.2) (.string ((rd_T41 t263 x9_1).f0))) (fun _ hk => hk.2) (.int .i64 ((rd_T41 t263 x9_1).f1))) (fun _ hk => hk.2) (.int .i64 ((rd_T41 t263 x9_1).f2))) (fun _ hk => ⟨hk.1.1.1, ⟨hk.1.1.2, hk.1.2⟩⟩))); (case aS => exact (below_size (laws_FnPostTurn_auHB))); (case aL => have := LMc31.out; omega); intro v277 w43 ho hb hg hat; rw [← Ny276.out] at ho; have n0_ := Aside0.mk (Kd.R_after (ok := (fun k_ => some k_ ≠ (u274001 : Value).ownBlock ∧ k_ ≠ gb275)) (by (with_reducible repeat (first | apply Kd.R_alloc | apply Kd.R_drewN | apply Kd.R_drew)); exact Kd.R_mono (Kd.R_far (p := ⟨gb275, 2, none⟩) (Kd.R_far (p := ⟨gb275, 1, none⟩) (Kd.R_far (p := ⟨gb275, 0, none⟩) (Kd.R_mono HO_269001.out (fun k_ hk => (⟨hk, hk.2⟩ : _ ∧ k_ ≠ gb275))) (fun _ hk => hk.2) (.string ((rd_T41 t263 x9_1).f0))) (fun _ hk => hk.2) (.int .i64 ((rd_T41 t263 x9_1).f1))) (fun _ hk => hk.2) (.int .i64 ((rd_T41 t263 x9_1).f2))) (fun _ hk => ⟨⟨hk.1.1.2, hk.1.2⟩, hk.1.1.1⟩)) hg hat); have n1_ := Aside0.mk (Kd.R_after (ok := (fun k_ => some k_ ≠ (.slice (some ad274) t263.length co12 : Value).ownBlock ∧ k_ ≠ gb275)) (by (with_reducible repeat (first | apply Kd.R_alloc | apply Kd.R_drewN | apply Kd.R_drew)); exact Kd.R_mono (Kd.R_far (p := ⟨gb275, 2, none⟩) (Kd.R_far (p := ⟨gb275, 1, none⟩) (Kd.R_far (p := ⟨gb275, 0, none⟩) (Kd.R_mono HO_274001.out (fun k_ hk => (⟨hk, hk.2⟩ : _ ∧ k_ ≠ gb275))) (fun _ hk => hk.2) (.string ((rd_T41 t263 x9_1).f0))) (fun _ hk => hk.2) (.int .i64 ((rd_T41 t263 x9_1).f1))) (fun _ hk => hk.2) (.int .i64 ((rd_T41 t263 x9_1).f2))) (fun _ hk => ⟨⟨hk.1.1.1, hk.1.2⟩, hk.1.1.2⟩)) hg hat); have n2_ := Aside0.mk (blk_grown (g := gb268) (o := .cells #[.int .i64 t262, .slice (some ad274) t263.length co12] 29 (0, 0)) (by (with_reducible repeat (first | refine blk_drewN ?_ _ | refine blk_drew ?_ | refine blk_alloc ?_ _)); refine blk_far ?_ NB268_275.out _; (with_reducible repeat (first | refine blk_drewN ?_ _ | refine blk_drew ?_ | refine blk_alloc ?_ _)); refine blk_far ?_ NB268_275.out _; (with_reducible repeat (first | refine blk_drewN ?_ _ | refine blk_drew ?_ | refine blk_alloc ?_ _)); refine blk_far ?_ NB268_275.out _; (with_reducible repeat (first | refine blk_drewN ?_ _ | refine blk_drew ?_ | refine blk_alloc ?_ _)); exact BK268.out) hg (Kd.R_ne HO_273001.out BK268.out (by decide))); have n3_ := Aside0.mk (blk_grown (g := gb272) (o := .cells #[.int .i64 t262, u273001] 29 (0, 0)) (by (with_reducible repeat (first | refine blk_drewN ?_ _ | refine blk_drew ?_ | refine blk_alloc ?_ _)); refine blk_far ?_ NB272_275.out _; (with_reducible repeat (first | refine blk_drewN ?_ _ | refine blk_drew ?_ | refine blk_alloc ?_ _)); refine blk_far ?_ NB272_275.out _; (with_reducible repeat (first | refine blk_drewN ?_ _ | refine blk_drew ?_ | refine blk_alloc ?_ _)); refine blk_far ?_ NB272_275.out _; (with_reducible repeat (first | refine blk_drewN ?_ _ | refine blk_drew ?_ | refine blk_alloc ?_ _)); exact BK272.out) hg (Kd.R_ne HO_273001.out BK272.out (by decide))); have n4_ := Aside0.mk (blk_grown (g := gb273) (o := .cells #[.int .i64 t262, u274001] 29 (0, 0)) (by (with_reducible repeat (first | refine blk_drewN ?_ _ | refine blk_drew ?_ | refine blk_alloc ?_ _)); refine blk_far ?_ NB273_275.out _; (with_reducible repeat (first | refine blk_drewN ?_ _ | refine blk_drew ?_ | refine blk_alloc ?_ _)); refine blk_far ?_ NB273_275.out _; (with_reducible repeat (first | refine blk_drewN ?_ _ | refine blk_drew ?_ | refine blk_alloc ?_ _)); refine blk_far ?_ NB273_275.out _; (with_reducible repeat (first | refine blk_drewN ?_ _ | refine blk_drew ?_ | refine blk_alloc ?_ _)); exact BK273.out) hg (Kd.R_ne HO_273001.out BK273.out (by decide))); have n5_ := Aside0.mk (blk_grown (g := gb275) (o := .cells #[.string ((rd_T41 t263 x9_1).f0), .int .i64 ((rd_T41 t263 x9_1).f1), .int .i64 ((rd_T41 t263 x9_1).f2)] 41 (0, 0)) (by (with_reducible repeat (first | refine blk_drewN ?_ _ | refine blk_drew ?_ | refine blk_alloc ?_ _)); refine blk_put (cs := #[.string ((rd_T41 t263 x9_1).f0), .int .i64 ((rd_T41 t263 x9_1).f1), .int .i64 0]) ?_ 2 _ rfl; (with_reducible repeat (first | refine blk_drewN ?_ _ | refine blk_drew ?_ | refine blk_alloc ?_ _)); refine blk_put (cs := #[.string ((rd_T41 t263 x9_1).f0), .int .i64 0, .int .i64 0]) ?_ 1 _ rfl; (with_reducible repeat (first | refine blk_drewN ?_ _ | refine blk_drew ?_ | refine blk_alloc ?_ _)); refine blk_put (cs := #[.string (⟨#[]⟩ : ByteArray), .int .i64 0, .int .i64 0]) ?_ 0 _ rfl; (with_reducible repeat (first | refine blk_drewN ?_ _ | refine blk_drew ?_ | refine blk_alloc ?_ _)); exact BK275.out) hg (Kd.R_away HO_273001.out (fun _ hk => hk.2))); have n6_ := Aside0.mk (hb); have n7_ := Aside0.mk (ho); clear HO_269001; clear HO_274001; clear BK268; clear BK272; clear BK273; clear BK275; clear HB; clear HO_273001; have HO_269001 := n0_; have HO_274001 := n1_; have BK268 := n2_; have BK272 := n3_; have BK273 := n4_; have BK275 := n5_; have HB := n6_; have HO278 := n7_; clear n0_ n1_ n2_ n3_ n4_ n5_ n6_ n7_; clear ho hb hg hat; obtain ⟨Ao44, co44, eo44⟩ := Kd.R_slice HO278.out; subst eo44; have hcz45_0 : w43.cell? ⟨gb272, 0, none⟩ = some (.int .i64 t262) := (blk_cell BK272.out 0).trans rfl; have hcz45_1 : w43.cell? ⟨gb272, 1, none⟩ = some (u273001) := (blk_cell BK272.out 1).trans rfl; have hfz45_0 := blk_frozen BK272.out 0; have hfz45_1 := blk_frozen BK272.out 1; have hcz46_0 : w43.cell? ⟨gb275, 0, none⟩ = some (.string ((rd_T41 t263 x9_1).f0)) := (blk_cell BK275.out 0).trans rfl; have hcz46_1 : w43.cell? ⟨gb275, 1, none⟩ = some (.int .i64 ((rd_T41 t263 x9_1).f1)) := (blk_cell BK275.out 1).trans rfl; have hcz46_2 : w43.cell? ⟨gb275, 2, none⟩ = some (.int .i64 ((rd_T41 t263 x9_1).f2)) := (blk_cell BK275.out 2).trans rfl; have hfz46_0 := blk_frozen BK275.out 0; have hfz46_1 := blk_frozen BK275.out 1; have hfz46_2 := blk_frozen BK275.out 2; have hcz47_0 : w43.cell? ⟨gb273, 0, none⟩ = some (.int .i64 t262) := (blk_cell BK273.out 0).trans rfl; have hcz47_1 : w43.cell? ⟨gb273, 1, none⟩ = some (u274001) := (blk_cell BK273.out 1).trans rfl; have hfz47_0 := blk_frozen BK273.out 0; have hfz47_1 := blk_frozen BK273.out 1) | ((with_reducible refine gate_builtin (b := .append) (xs := #[.tmp 71, .tmp 73]) rfl ?_); at_builtin; refine Kd.R_append k41 (w0 := w) w.heap.size rfl (.tmp 71) (.tmp 73) 27 41 (.agg #[(.string ⟨#[]⟩), (.int .i64 0), (.int .i64 0)]) 32 rfl Try.underlying27 info41 rfl (by decide) (by omega) u274001 x274001_1 (⟨(rd_T41 t263 x9_1).f0, (rd_T41 t263 x9_1).f1, wrap64 (-((rd_T41 t263 x9_1).f2))⟩ : S41) [.string ((rd_T41 t263 x9_1).f0), .int .i64 ((rd_T41 t263 x9_1).f1), .int .i64 (wrap64 (-((rd_T41 t263 x9_1).f2)))] (fun k_ => some k_ ≠ (.slice (some ad274) t263.length co12 : Value).ownBlock ∧ some k_ ≠ (.slice Ao44 y276.length co44 : Value).ownBlock ∧ k_ ≠ gb275) (fun _ => False) rfl (by first | (go_simp; done) | (go_simp; rfl)) ?aP (fun _ hk => hk.elim) ?aF ?aO ?aB ?aS ?aL ?_; (case aP => exact k41_mkM _ _ _ (⟨(rd_T41 t263 x9_1).f0, (rd_T41 t263 x9_1).f1, wrap64 (-((rd_T41 t263 x9_1).f2))⟩ : S41)); (case aB => exact (laws_FnPostTurn_auHB)); (case aF => exact (fun k_ hk => ⟨Kd.fresh' (Kd.R_lt (by (with_reducible repeat (first | apply Kd.R_alloc | apply Kd.R_drewN | apply Kd.R_drew)); exact (Kd.R_mono (Kd.R_mono (Kd.R_far (p := ⟨gb275, 2, none⟩) (Kd.R_far (p := ⟨gb272, 1, none⟩) (Kd.R_mono (Kd.R_types HO_269001.out BK272.out (by decide)) (fun k_ hk => (⟨hk, hk.1.1.2⟩ : _ ∧ k_ ≠ gb275))) (fun _ hk => hk.1.2) (.slice Ao44 y276.length co44)) (fun _ hk => hk.2) (.int .i64 (wrap64 (-((rd_T41 t263 x9_1).f2))))) (fun _ h_ => h_.1)) (fun _ h_ => h_.1)))) k_ hk, Kd.fresh' (Kd.R_lt (by (with_reducible repeat (first | apply Kd.R_alloc | apply Kd.R_drewN | apply Kd.R_drew)); exact (Kd.R_mono (Kd.R_mono (Kd.R_far (p := ⟨gb275, 2, none⟩) (Kd.R_far (p := ⟨gb272, 1, none⟩) (Kd.R_mono (Kd.R_types HO278.out BK272.out (by decide)) (fun k_ hk => (⟨hk, hk.1.2.2⟩ : _ ∧ k_ ≠ gb275))) (fun _ hk => hk.1.2) (.slice Ao44 y276.length co44)) (fun _ hk => hk.2) (.int .i64 (wrap64 (-((rd_T41 t263 x9_1).f2))))) (fun _ h_ => h_.1)) (fun _ h_ => h_.1)))) k_ hk, Kd.freshB (g := gb275) (o := .cells #[.string ((rd_T41 t263 x9_1).f0), .int .i64 ((rd_T41 t263 x9_1).f1), .int .i64 (wrap64 (-((rd_T41 t263 x9_1).f2)))] 41 (0, 0)) (by (with_reducible repeat (first | refine blk_drewN ?_ _ | refine blk_drew ?_ | refine blk_alloc ?_ _)); refine blk_put (cs := #[.string ((rd_T41 t263 x9_1).f0), .int .i64 ((rd_T41 t263 x9_1).f1), .int .i64 ((rd_T41 t263 x9_1).f2)]) ?_ 2 _ rfl; (with_reducible repeat (first | refine blk_drewN ?_ _ | refine blk_drew ?_ | refine blk_alloc ?_ _)); refine blk_far ?_ NB275_272.out _; (with_reducible repeat (first | refine blk_drewN ?_ _ | refine blk_drew ?_ | refine blk_alloc ?_ _)); exact BK275.out) k_ hk⟩)); (case aO => exact (by (with_reducible repeat (first | apply Kd.R_alloc | apply Kd.R_drewN | apply Kd.R_drew)); exact Kd.R_mono (Kd.R_far (p := ⟨gb275, 2, none⟩) (Kd.R_far (p := ⟨gb272, 1, none⟩) (Kd.R_mono (Kd.R_types HO_274001.out BK272.out (by decide)) (fun k_ hk => (⟨hk, hk.1.1.2⟩ : _ ∧ k_ ≠ gb275))) (fun _ hk => hk.1.2) (.slice Ao44 y276.length co44)) (fun _ hk => hk.2) (.int .i64 (wrap64 (-((rd_T41 t263 x9_1).f2))))) (fun _ hk => ⟨hk.1.1.1.1, ⟨hk.1.1.2, hk.1.1.1.2⟩⟩))); (case aS => exact (below_size (laws_FnPostTurn_auHB))); (case aL => have := LMc32.out; omega); intro v280 w48 ho hb hg hat; rw [← Ny279.out] at ho; have n0_ := Aside0.mk (Kd.R_after (ok := (fun k_ => some k_ ≠ (.slice Ao44 y276.length co44 : Value).ownBlock ∧ k_ ≠ gb275)) (by (with_reducible repeat (first | apply Kd.R_alloc | apply Kd.R_drewN | apply Kd.R_drew)); exact Kd.R_mono (Kd.R_far (p := ⟨gb275, 2, none⟩) (Kd.R_far (p := ⟨gb272, 1, none⟩) (Kd.R_mono (Kd.R_types HO_269001.out BK272.out (by decide)) (fun k_ hk => (⟨hk, hk.1.1.2⟩ : _ ∧ k_ ≠ gb275))) (fun _ hk => hk.1.2) (.slice Ao44 y276.length co44)) (fun _ hk => hk.2) (.int .i64 (wrap64 (-((rd_T41 t263 x9_1).f2))))) (fun _ hk => ⟨⟨hk.1.1.2, hk.1.1.1.2⟩, hk.1.1.1.1⟩)) hg hat); have n1_ := Aside0.mk (blk_grown (g := gb268) (o := .cells #[.int .i64 t262, .slice (some ad274) t263.length co12] 29 (0, 0)) (by (with_reducible repeat (first | refine blk_drewN ?_ _ | refine blk_drew ?_ | refine blk_alloc ?_ _)); refine blk_far ?_ NB268_275.out _; (with_reducible repeat (first | refine blk_drewN ?_ _ | refine blk_drew ?_ | refine blk_alloc ?_ _)); refine blk_far ?_ NB268_272.out _; (with_reducible repeat (first | refine blk_drewN ?_ _ | refine blk_drew ?_ | refine blk_alloc ?_ _)); exact BK268.out) hg (Kd.R_ne HO_274001.out BK268.out (by decide))); have n2_ := Aside0.mk (blk_grown (g := gb272) (o := .cells #[.int .i64 t262, .slice Ao44 y276.length co44] 29 (0, 0)) (by (with_reducible repeat (first | refine blk_drewN ?_ _ | refine blk_drew ?_ | refine blk_alloc ?_ _)); refine blk_far ?_ NB272_275.out _; (with_reducible repeat (first | refine blk_drewN ?_ _ | refine blk_drew ?_ | refine blk_alloc ?_ _)); refine blk_put (cs := #[.int .i64 t262, u273001]) ?_ 1 _ rfl; (with_reducible repeat (first | refine blk_drewN ?_ _ | refine blk_drew ?_ | refine blk_alloc ?_ _)); exact BK272.out) hg (Kd.R_ne HO_274001.out BK272.out (by decide))); have n3_ := Aside0.mk (blk_grown (g := gb273) (o := .cells #[.int .i64 t262, u274001] 29 (0, 0)) (by (with_reducible repeat (first | refine blk_drewN ?_ _ | refine blk_drew ?_ | refine blk_alloc ?_ _)); refine blk_far ?_ NB273_275.out _; (with_reducible repeat (first | refine blk_drewN ?_ _ | refine blk_drew ?_ | refine blk_alloc ?_ _)); refine blk_far ?_ NB273_272.out _; (with_reducible repeat (first | refine blk_drewN ?_ _ | refine blk_drew ?_ | refine blk_alloc ?_ _)); exact BK273.out) hg (Kd.R_ne HO_274001.out BK273.out (by decide))); have n4_ := Aside0.mk (blk_grown (g := gb275) (o := .cells #[.string ((rd_T41 t263 x9_1).f0), .int .i64 ((rd_T41 t263 x9_1).f1), .int .i64 (wrap64 (-((rd_T41 t263 x9_1).f2)))] 41 (0, 0)) (by (with_reducible repeat (first | refine blk_drewN ?_ _ | refine blk_drew ?_ | refine blk_alloc ?_ _)); refine blk_put (cs := #[.string ((rd_T41 t263 x9_1).f0), .int .i64 ((rd_T41 t263 x9_1).f1), .int .i64 ((rd_T41 t263 x9_1).f2)]) ?_ 2 _ rfl; (with_reducible repeat (first | refine blk_drewN ?_ _ | refine blk_drew ?_ | refine blk_alloc ?_ _)); refine blk_far ?_ NB275_272.out _; (with_reducible repeat (first | refine blk_drewN ?_ _ | refine blk_drew ?_ | refine blk_alloc ?_ _)); exact BK275.out) hg (Kd.R_away HO_274001.out (fun _ hk => hk.1.2))); have n5_ := Aside0.mk (Kd.R_after (ok := (fun k_ => some k_ ≠ (.slice (some ad274) t263.length co12 : Value).ownBlock ∧ k_ ≠ gb275)) (by (with_reducible repeat (first | apply Kd.R_alloc | apply Kd.R_drewN | apply Kd.R_drew)); exact Kd.R_mono (Kd.R_far (p := ⟨gb275, 2, none⟩) (Kd.R_far (p := ⟨gb272, 1, none⟩) (Kd.R_mono (Kd.R_types HO278.out BK272.out (by decide)) (fun k_ hk => (⟨hk, hk.1.2.2⟩ : _ ∧ k_ ≠ gb275))) (fun _ hk => hk.1.2) (.slice Ao44 y276.length co44)) (fun _ hk => hk.2) (.int .i64 (wrap64 (-((rd_T41 t263 x9_1).f2))))) (fun _ hk => ⟨⟨hk.1.1.1, hk.1.1.2.2⟩, hk.1.1.2.1⟩)) hg hat); have n6_ := Aside0.mk (hb); have n7_ := Aside0.mk (ho); clear HO_269001; clear BK268; clear BK272; clear BK273; clear BK275; clear HO278; clear HB; clear HO_274001; have HO_269001 := n0_; have BK268 := n1_; have BK272 := n2_; have BK273 := n3_; have BK275 := n4_; have HO278 := n5_; have HB := n6_; have HO281 := n7_; clear n0_ n1_ n2_ n3_ n4_ n5_ n6_ n7_; clear ho hb hg hat; obtain ⟨Ao49, co49, eo49⟩ := Kd.R_slice HO281.out; subst eo49; have hcz50_0 : w48.cell? ⟨gb273, 0, none⟩ = some (.int .i64 t262) := (blk_cell BK273.out 0).trans rfl; have hcz50_1 : w48.cell? ⟨gb273, 1, none⟩ = some (u274001) := (blk_cell BK273.out 1).trans rfl; have hfz50_0 := blk_frozen BK273.out 0; have hfz50_1 := blk_frozen BK273.out 1))
           go_roundg k1
           case measure => have := HK1.out; omega
           case rel => exact ⟨(wrap64 (x9_1 - 1)), (y276), (y279), (.slice Ao44 y276.length co44), (.slice Ao49 y279.length co49), (by first | rfl | (simp; done) | (simp [*]; done)), H', ⟨by have := HK1.out; omega⟩, ⟨by (with_reducible repeat (first | apply Kd.R_alloc | apply Kd.R_drewN | apply Kd.R_drew)); exact Kd.R_mono (Kd.R_far (p := ⟨gb273, 1, none⟩) (Kd.R_types HO_269001.out BK273.out (by decide)) (fun _ hk => hk.2) (.slice Ao49 y279.length co49)) (fun _ hk => ⟨hk.1.1.1, hk.1.2⟩)⟩, ⟨by (with_reducible repeat (first | apply Kd.R_alloc | apply Kd.R_drewN | apply Kd.R_drew)); exact Kd.R_mono (Kd.R_far (p := ⟨gb273, 1, none⟩) (Kd.R_types HO278.out BK273.out (by decide)) (fun _ hk => hk.2) (.slice Ao49 y279.length co49)) (fun _ hk => ⟨hk.1.1.1, hk.1.2⟩)⟩, ⟨by (with_reducible repeat (first | apply Kd.R_alloc | apply Kd.R_drewN | apply Kd.R_drew)); exact Kd.R_mono (Kd.R_far (p := ⟨gb273, 1, none⟩) (Kd.R_types HO281.out BK273.out (by decide)) (fun _ hk => hk.2) (.slice Ao49 y279.length co49)) (fun _ hk => ⟨hk.1.1, hk.1.2.1⟩)⟩, ⟨by (with_reducible repeat (first | refine blk_drewN ?_ _ | refine blk_drew ?_ | refine blk_alloc ?_ _)); refine blk_far ?_ NB268_273.out _; (with_reducible repeat (first | refine blk_drewN ?_ _ | refine blk_drew ?_ | refine blk_alloc ?_ _)); exact BK268.out⟩, ⟨by (with_reducible repeat (first | refine blk_drewN ?_ _ | refine blk_drew ?_ | refine blk_alloc ?_ _)); refine blk_far ?_ NB272_273.out _; (with_reducible repeat (first | refine blk_drewN ?_ _ | refine blk_drew ?_ | refine blk_alloc ?_ _)); exact BK272.out⟩, ⟨by (with_reducible repeat (first | refine blk_drewN ?_ _ | refine blk_drew ?_ | refine blk_alloc ?_ _)); refine blk_put (cs := #[.int .i64 t262, u274001]) ?_ 1 _ rfl; (with_reducible repeat (first | refine blk_drewN ?_ _ | refine blk_drew ?_ | refine blk_alloc ?_ _)); exact BK273.out⟩, ⟨laws_FnPostTurn_auHB⟩⟩
          ·
           rw [if_neg c32] at H
           exact absurd H (by simp)
         ·
          rw [if_neg c31] at H
          exact absurd H (by simp)
        ·
         rw [if_neg c30] at H
         exact absurd H (by simp)
       ·
        rw [if_neg c29] at H
        exact absurd H (by simp)
      ·
       rw [if_neg c28] at H
       have c28b0 : decide (0 ≤ x9_1) = false := decide_eq_false c28
       clear c28
       replace H := Option.bind_eq_some_iff.mp H
       obtain ⟨t282, A510, H⟩ := H
       replace H : (if t282 = t269 then ((impl_PostTo.f k1 t262 x274001_1 t266 t267).bind fun t283 => (if t283 = (wrap64 (-t269)) then ((impl_PostFair.f k1 t262 x273001_1).bind fun t284 => ((impl_PostFair.f k1 t262 t263).bind fun t285 => (if (t284 == t285) = true then ((impl_PostFair.f k1 t262 x274001_1).bind fun t286 => ((impl_PostFair.f k1 t262 t263).bind fun t287 => (some (t286 == t287)))) else (none)))) else (none))) else (none)) = some r := H
       have A51 := Aside0.mk A510
       clear A510
       by_cases c52 : t282 = t269
       ·
        rw [if_pos c52] at H
        have c52b0 : (t282 == t269) = true := beq_iff_eq.mpr c52
        have c52b1 : (t282 != t269) = false := bne_eq_false_iff_eq.mpr c52
        clear c52
        replace H := Option.bind_eq_some_iff.mp H
        obtain ⟨t283, A530, H⟩ := H
        replace H : (if t283 = (wrap64 (-t269)) then ((impl_PostFair.f k1 t262 x273001_1).bind fun t284 => ((impl_PostFair.f k1 t262 t263).bind fun t285 => (if (t284 == t285) = true then ((impl_PostFair.f k1 t262 x274001_1).bind fun t286 => ((impl_PostFair.f k1 t262 t263).bind fun t287 => (some (t286 == t287)))) else (none)))) else (none)) = some r := H
        have A53 := Aside0.mk A530
        clear A530
        by_cases c54 : t283 = (wrap64 (-t269))
        ·
         rw [if_pos c54] at H
         have c54b0 : (t283 == (wrap64 (-t269))) = true := beq_iff_eq.mpr c54
         have c54b1 : (t283 != (wrap64 (-t269))) = false := bne_eq_false_iff_eq.mpr c54
         clear c54
         replace H := Option.bind_eq_some_iff.mp H
         obtain ⟨t284, A550, H⟩ := H
         replace H : ((impl_PostFair.f k1 t262 t263).bind fun t285 => (if (t284 == t285) = true then ((impl_PostFair.f k1 t262 x274001_1).bind fun t286 => ((impl_PostFair.f k1 t262 t263).bind fun t287 => (some (t286 == t287)))) else (none))) = some r := H
         have A55 := Aside0.mk A550
         clear A550
         replace H := Option.bind_eq_some_iff.mp H
         obtain ⟨t285, A560, H⟩ := H
         replace H : (if (t284 == t285) = true then ((impl_PostFair.f k1 t262 x274001_1).bind fun t286 => ((impl_PostFair.f k1 t262 t263).bind fun t287 => (some (t286 == t287)))) else (none)) = some r := H
         have A56 := Aside0.mk A560
         clear A560
         by_cases c57 : (t284 == t285) = true
         ·
          rw [if_pos c57] at H
          have c57b0 : (t284 == t285) = true := c57
          (try (have c57b1 : decide (t284 = t285) = true := by (have h_ := c57; (try simp at h_); (try simp); (try exact h_))))
          (try (have c57b2 : (t284 == t285) = true := by (have h_ := c57; (try simp at h_); (try simp); (try exact h_))))
          clear c57
          replace H := Option.bind_eq_some_iff.mp H
          obtain ⟨t286, A580, H⟩ := H
          replace H : ((impl_PostFair.f k1 t262 t263).bind fun t287 => (some (t286 == t287))) = some r := H
          have A58 := Aside0.mk A580
          clear A580
          replace H := Option.bind_eq_some_iff.mp H
          obtain ⟨t287, A590, H⟩ := H
          replace H : (some (t286 == t287)) = some r := H
          have A59 := Aside0.mk A590
          clear A590
          obtain rfl := Option.some.inj H
          try go_wp2
          have n0_ := Aside0.mk (Kd.R_drew HO_269001.out)
          have n1_ := Aside0.mk (Kd.R_drew HO_273001.out)
          have n2_ := Aside0.mk (Kd.R_drew HO_274001.out)
          have n3_ := Aside0.mk (blk_drew BK268.out)
          have n4_ := Aside0.mk (blk_drew BK272.out)
          have n5_ := Aside0.mk (blk_drew BK273.out)
          have n6_ := Aside0.mk (below_drew1 HB.out)
          clear HO_269001
          clear HO_273001
          clear HO_274001
          clear BK268
          clear BK272
          clear BK273
          clear HB
          have HO_269001 := n0_
          have HO_273001 := n1_
          have HO_274001 := n2_
          have BK268 := n3_
          have BK272 := n4_
          have BK273 := n5_
          have HB := n6_
          clear n0_ n1_ n2_ n3_ n4_ n5_ n6_
          obtain ⟨Ao61, co61, eo61⟩ := Kd.R_slice HO_273001.out
          (first | subst eo61 | (injection eo61 with f1_ f2_ f3_; have f4_ := f1_.symm; have f5_ := f3_.symm; clear f1_ f2_ f3_; subst f4_; subst f5_))
          refine start_ (n := 30) (S := fun w' => w'.cell? ⟨gb272, 0, none⟩ = some (.int .i64 t262) ∧ w'.cell? ⟨gb272, 1, none⟩ = some (.slice Ao61 x273001_1.length co61) ∧ w'.cell? ⟨gb273, 0, none⟩ = some (.int .i64 t262) ∧ w'.cell? ⟨gb273, 1, none⟩ = some (u274001) ∧ w'.cell? ⟨gb268, 0, none⟩ = some (.int .i64 t262) ∧ w'.cell? ⟨gb268, 1, none⟩ = some (.slice Ao12 t263.length co12)) (ds := []) #[false, false, false, false, false, false, false, false, false, false, false, false, false, false, false, false, false, false, false, false, false, false, false, false, false, false, false, false, false, false] (by kernel_rfl) rfl rfl ⟨(blk_cell BK272.out 0).trans rfl, (blk_cell BK272.out 1).trans rfl, (blk_cell BK273.out 0).trans rfl, (blk_cell BK273.out 1).trans rfl, (blk_cell BK268.out 0).trans rfl, (blk_cell BK268.out 1).trans rfl⟩ (fun hHeld => ?_); refine with_tabW laws_FnPostTurn.tab16 laws_FnPostTurn.bits16 (fun HT_ HW_ => ?_)
          generalize wr.drew = w60 at HO_269001 HO_273001 HO_274001 BK268 BK272 BK273 HB hHeld ⊢
          refine pure_ (i := 1) (N := some 77) (v := ?_) (a' := ?_) #[false, true, false, false, false, false, false, false, false, false, false, false, false, false, false, false, false, false, false, false, false, false, false, false, false, false, false, false, false, false] rfl rfl (any_of HT_.out (by kernel_rfl)) (fun _ _ _ h => h) (Or.inl ⟨by rfl, ?_⟩) ?_ ?_
          rotate_left
          ·
           intro w'
           go_simp
           with_reducible rfl
          rotate_left
          ·
           simp only [Act.put, List.setIfInBounds_toArray, List.set_cons_zero, List.set_cons_succ, i64_w, i32_w]
           rfl
          refine pure_ (i := 2) (N := some 78) (v := ?_) (a' := ?_) #[false, true, true, false, false, false, false, false, false, false, false, false, false, false, false, false, false, false, false, false, false, false, false, false, false, false, false, false, false, false] rfl rfl (any_of HT_.out (by kernel_rfl)) (fun _ _ _ h => h) (Or.inl ⟨by rfl, ?_⟩) ?_ ?_
          rotate_left
          ·
           intro w'
           go_simp
           with_reducible rfl
          rotate_left
          ·
           simp only [Act.put, List.setIfInBounds_toArray, List.set_cons_zero, List.set_cons_succ, i64_w, i32_w]
           rfl
          refine pure_ (i := 4) (N := some 80) (v := ?_) (a' := ?_) #[false, true, true, false, true, false, false, false, false, false, false, false, false, false, false, false, false, false, false, false, false, false, false, false, false, false, false, false, false, false] rfl rfl (any_of HT_.out (by kernel_rfl)) (fun _ _ _ h => h) (Or.inl ⟨by rfl, ?_⟩) ?_ ?_
          rotate_left
          ·
           intro w'
           go_simp
           with_reducible rfl
          rotate_left
          ·
           simp only [Act.put, List.setIfInBounds_toArray, List.set_cons_zero, List.set_cons_succ, i64_w, i32_w]
           rfl
          refine take_ (i := 0) (N := some 76) (v := ?_) (a' := ?_) #[true, true, true, false, true, false, false, false, false, false, false, false, false, false, false, false, false, false, false, false, false, false, false, false, false, false, false, false, false, false] rfl rfl (take_ofW HT_.out HW_.out (by kernel_rfl)) (fun _ _ _ h => h) (Or.inl ⟨by rfl, ?_⟩) hHeld ?_ ?_
          rotate_left
          ·
           rintro w' ⟨s0, s1, s2, s3, s4, s5⟩
           go_simp
           with_reducible rfl
          rotate_left
          ·
           simp only [Act.put, List.setIfInBounds_toArray, List.set_cons_zero, List.set_cons_succ, i64_w, i32_w]
           rfl
          refine one_ (i := 3) (N := some 79) #[true, true, true, true, true, false, false, false, false, false, false, false, false, false, false, false, false, false, false, false, false, false, false, false, false, false, false, false, false, false] rfl rfl (one_of HT_.out (by kernel_rfl)) (by decide) (fun K hK => ?_)
          refine goes_ Try.func18 (by kernel_rfl) rfl #[.agg #[.int .i64 t262, .slice Ao61 x273001_1.length co61], .string t266, .int .i64 t267] (by rfl) rfl rfl (by (try simp only [List.map_toArray, List.map_cons, List.map_nil]); first | done | rfl | (simp only [List.length_drop, List.length_take]; rfl)) ?_
          with_reducible refine (impl_PostTo.calls k1 t262 _ _ x273001_1 t266 t267 t282 _ ?side1 ?side2 A51.out).mono ?_
          (case side1 => repeat (first | exact (Kd.R_reads' HO_273001.out).2.2 | (with_reducible refine Kd.C_alloc ?_ _) | (with_reducible refine Kd.C_drewN ?_ _) | (with_reducible refine Kd.C_drew ?_)))
          (case side2 => exact (Kd.R_reads' HO_273001.out).2.1)
          rintro e w62 ⟨rfl, hb⟩
          refine ⟨_, rfl, ?_⟩
          have n0_ := Aside0.mk (Kd.R_below (by (with_reducible repeat (first | apply Kd.R_alloc | apply Kd.R_drewN | apply Kd.R_drew)); exact HO_269001.out) hb)
          have n1_ := Aside0.mk (Kd.R_below (by (with_reducible repeat (first | apply Kd.R_alloc | apply Kd.R_drewN | apply Kd.R_drew)); exact HO_273001.out) hb)
          have n2_ := Aside0.mk (Kd.R_below (by (with_reducible repeat (first | apply Kd.R_alloc | apply Kd.R_drewN | apply Kd.R_drew)); exact HO_274001.out) hb)
          have n3_ := Aside0.mk (blk_below (g := gb268) (o := .cells #[.int .i64 t262, .slice Ao12 t263.length co12] 29 (0, 0)) (laws_FnPostTurn_vb BK268) hb)
          have n4_ := Aside0.mk (blk_below (g := gb272) (o := .cells #[.int .i64 t262, .slice Ao61 x273001_1.length co61] 29 (0, 0)) (laws_FnPostTurn_vb BK272) hb)
          have n5_ := Aside0.mk (blk_below (g := gb273) (o := .cells #[.int .i64 t262, u274001] 29 (0, 0)) (laws_FnPostTurn_vb BK273) hb)
          have n6_ := Aside0.mk (below_step (laws_FnPostTurn_auHB) hb)
          clear HO_269001
          clear HO_273001
          clear HO_274001
          clear BK268
          clear BK272
          clear BK273
          clear HB
          have HO_269001 := n0_
          have HO_273001 := n1_
          have HO_274001 := n2_
          have BK268 := n3_
          have BK272 := n4_
          have BK273 := n5_
          have HB := n6_
          clear n0_ n1_ n2_ n3_ n4_ n5_ n6_
          (try clear hb)
          (try clear hb2)
          (try clear hk)
          (try clear hi)
          obtain ⟨Ao63, co63, eo63⟩ := Kd.R_slice HO_274001.out
          (first | subst eo63 | (injection eo63 with f1_ f2_ f3_; have f4_ := f1_.symm; have f5_ := f3_.symm; clear f1_ f2_ f3_; subst f4_; subst f5_))
          refine hK.out _ _ ⟨(blk_cell BK272.out 0).trans rfl, (blk_cell BK272.out 1).trans rfl, (blk_cell BK273.out 0).trans rfl, (blk_cell BK273.out 1).trans rfl, (blk_cell BK268.out 0).trans rfl, (blk_cell BK268.out 1).trans rfl⟩ (fun hHeld => ?_)
          clear hK K
          refine norm_ (a' := ?_) ?_ ?_
          rotate_left
          ·
           show Act.put _ (some 79) _ = _
           simp only [Act.put, List.setIfInBounds_toArray, List.set_cons_zero, List.set_cons_succ, i64_w, i32_w]
           rfl
          refine pure_ (i := 5) (N := some 81) (v := ?_) (a' := ?_) #[true, true, true, true, true, true, false, false, false, false, false, false, false, false, false, false, false, false, false, false, false, false, false, false, false, false, false, false, false, false] rfl rfl (any_of HT_.out (by kernel_rfl)) (fun _ _ _ h => h) (Or.inl ⟨by rfl, ?_⟩) ?_ ?_
          rotate_left
          ·
           intro w'
           go_simp
           with_reducible rfl
          rotate_left
          ·
           simp only [Act.put, List.setIfInBounds_toArray, List.set_cons_zero, List.set_cons_succ, i64_w, i32_w]
           rfl
          refine pure_ (i := 6) (N := some 82) (v := ?_) (a' := ?_) #[true, true, true, true, true, true, true, false, false, false, false, false, false, false, false, false, false, false, false, false, false, false, false, false, false, false, false, false, false, false] rfl rfl (any_of HT_.out (by kernel_rfl)) (fun _ _ _ h => h) (Or.inl ⟨by rfl, ?_⟩) ?_ ?_
          rotate_left
          ·
           intro w'
           go_simp
           with_reducible rfl
          rotate_left
          ·
           simp only [Act.put, List.setIfInBounds_toArray, List.set_cons_zero, List.set_cons_succ, i64_w, i32_w]
           rfl
          refine pure_ (i := 8) (N := some 84) (v := ?_) (a' := ?_) #[true, true, true, true, true, true, true, false, true, false, false, false, false, false, false, false, false, false, false, false, false, false, false, false, false, false, false, false, false, false] rfl rfl (any_of HT_.out (by kernel_rfl)) (fun _ _ _ h => h) (Or.inl ⟨by rfl, ?_⟩) ?_ ?_
          rotate_left
          ·
           intro w'
           go_simp
           with_reducible rfl
          rotate_left
          ·
           simp only [Act.put, List.setIfInBounds_toArray, List.set_cons_zero, List.set_cons_succ, i64_w, i32_w]
           rfl
          refine pure_ (i := 9) (N := some 85) (v := ?_) (a' := ?_) #[true, true, true, true, true, true, true, false, true, true, false, false, false, false, false, false, false, false, false, false, false, false, false, false, false, false, false, false, false, false] rfl rfl (any_of HT_.out (by kernel_rfl)) (fun _ _ _ h => h) (Or.inl ⟨by rfl, ?_⟩) ?_ ?_
          rotate_left
          ·
           intro w'
           go_simp
           with_reducible rfl
          rotate_left
          ·
           simp only [Act.put, List.setIfInBounds_toArray, List.set_cons_zero, List.set_cons_succ, i64_w, i32_w]
           rfl
          refine pure_ (i := 11) (N := some 87) (v := ?_) (a' := ?_) #[true, true, true, true, true, true, true, false, true, true, false, true, false, false, false, false, false, false, false, false, false, false, false, false, false, false, false, false, false, false] rfl rfl (any_of HT_.out (by kernel_rfl)) (fun _ _ _ h => h) (Or.inl ⟨by rfl, ?_⟩) ?_ ?_
          rotate_left
          ·
           intro w'
           go_simp
           with_reducible rfl
          rotate_left
          ·
           simp only [Act.put, List.setIfInBounds_toArray, List.set_cons_zero, List.set_cons_succ, i64_w, i32_w]
           rfl
          refine pure_ (i := 12) (N := some 88) (v := ?_) (a' := ?_) #[true, true, true, true, true, true, true, false, true, true, false, true, true, false, false, false, false, false, false, false, false, false, false, false, false, false, false, false, false, false] rfl rfl (any_of HT_.out (by kernel_rfl)) (fun _ _ _ h => h) (Or.inl ⟨by rfl, ?_⟩) ?_ ?_
          rotate_left
          ·
           intro w'
           go_simp
           with_reducible rfl
          rotate_left
          ·
           simp only [Act.put, List.setIfInBounds_toArray, List.set_cons_zero, List.set_cons_succ, i64_w, i32_w]
           rfl
          refine take_ (i := 7) (N := some 83) (v := ?_) (a' := ?_) #[true, true, true, true, true, true, true, true, true, true, false, true, true, false, false, false, false, false, false, false, false, false, false, false, false, false, false, false, false, false] rfl rfl (take_ofW HT_.out HW_.out (by kernel_rfl)) (fun _ _ _ h => h) (Or.inl ⟨by rfl, ?_⟩) hHeld ?_ ?_
          rotate_left
          ·
           rintro w' ⟨s0, s1, s2, s3, s4, s5⟩
           go_simp
           with_reducible rfl
          rotate_left
          ·
           simp only [Act.put, List.setIfInBounds_toArray, List.set_cons_zero, List.set_cons_succ, i64_w, i32_w]
           rfl
          refine one_ (i := 10) (N := some 86) #[true, true, true, true, true, true, true, true, true, true, true, true, true, false, false, false, false, false, false, false, false, false, false, false, false, false, false, false, false, false] rfl rfl (one_of HT_.out (by kernel_rfl)) (by decide) (fun K hK => ?_)
          refine goes_ Try.func18 (by kernel_rfl) rfl #[.agg #[.int .i64 t262, .slice Ao63 x274001_1.length co63], .string t266, .int .i64 t267] (by rfl) rfl rfl (by (try simp only [List.map_toArray, List.map_cons, List.map_nil]); first | done | rfl | (simp only [List.length_drop, List.length_take]; rfl)) ?_
          with_reducible refine (impl_PostTo.calls k1 t262 _ _ x274001_1 t266 t267 t283 _ ?side1 ?side2 A53.out).mono ?_
          (case side1 => repeat (first | exact (Kd.R_reads' HO_274001.out).2.2 | (with_reducible refine Kd.C_alloc ?_ _) | (with_reducible refine Kd.C_drewN ?_ _) | (with_reducible refine Kd.C_drew ?_)))
          (case side2 => exact (Kd.R_reads' HO_274001.out).2.1)
          rintro e w64 ⟨rfl, hb⟩
          refine ⟨_, rfl, ?_⟩
          have n0_ := Aside0.mk (Kd.R_below (by (with_reducible repeat (first | apply Kd.R_alloc | apply Kd.R_drewN | apply Kd.R_drew)); exact HO_269001.out) hb)
          have n1_ := Aside0.mk (Kd.R_below (by (with_reducible repeat (first | apply Kd.R_alloc | apply Kd.R_drewN | apply Kd.R_drew)); exact HO_273001.out) hb)
          have n2_ := Aside0.mk (Kd.R_below (by (with_reducible repeat (first | apply Kd.R_alloc | apply Kd.R_drewN | apply Kd.R_drew)); exact HO_274001.out) hb)
          have n3_ := Aside0.mk (blk_below (g := gb268) (o := .cells #[.int .i64 t262, .slice Ao12 t263.length co12] 29 (0, 0)) (laws_FnPostTurn_vb BK268) hb)
          have n4_ := Aside0.mk (blk_below (g := gb272) (o := .cells #[.int .i64 t262, .slice Ao61 x273001_1.length co61] 29 (0, 0)) (laws_FnPostTurn_vb BK272) hb)
          have n5_ := Aside0.mk (blk_below (g := gb273) (o := .cells #[.int .i64 t262, .slice Ao63 x274001_1.length co63] 29 (0, 0)) (laws_FnPostTurn_vb BK273) hb)
          have n6_ := Aside0.mk (below_step (laws_FnPostTurn_auHB) hb)
          clear HO_269001
          clear HO_273001
          clear HO_274001
          clear BK268
          clear BK272
          clear BK273
          clear HB
          have HO_269001 := n0_
          have HO_273001 := n1_
          have HO_274001 := n2_
          have BK268 := n3_
          have BK272 := n4_
          have BK273 := n5_
          have HB := n6_
          clear n0_ n1_ n2_ n3_ n4_ n5_ n6_
          (try clear hb)
          (try clear hb2)
          (try clear hk)
          (try clear hi)
          refine hK.out _ _ ⟨(blk_cell BK272.out 0).trans rfl, (blk_cell BK272.out 1).trans rfl, (blk_cell BK273.out 0).trans rfl, (blk_cell BK273.out 1).trans rfl, (blk_cell BK268.out 0).trans rfl, (blk_cell BK268.out 1).trans rfl⟩ (fun hHeld => ?_)
          clear hK K
          refine norm_ (a' := ?_) ?_ ?_
          rotate_left
          ·
           show Act.put _ (some 86) _ = _
           simp only [Act.put, List.setIfInBounds_toArray, List.set_cons_zero, List.set_cons_succ, i64_w, i32_w]
           rfl
          refine pure_ (i := 13) (N := some 89) (v := ?_) (a' := ?_) #[true, true, true, true, true, true, true, true, true, true, true, true, true, true, false, false, false, false, false, false, false, false, false, false, false, false, false, false, false, false] rfl rfl (any_of HT_.out (by kernel_rfl)) (fun _ _ _ h => h) (Or.inl ⟨by rfl, ?_⟩) ?_ ?_
          rotate_left
          ·
           intro w'
           go_simp
           with_reducible rfl
          rotate_left
          ·
           simp only [Act.put, List.setIfInBounds_toArray, List.set_cons_zero, List.set_cons_succ, i64_w, i32_w]
           rfl
          refine pure_ (i := 14) (N := some 90) (v := ?_) (a' := ?_) #[true, true, true, true, true, true, true, true, true, true, true, true, true, true, true, false, false, false, false, false, false, false, false, false, false, false, false, false, false, false] rfl rfl (any_of HT_.out (by kernel_rfl)) (fun _ _ _ h => h) (Or.inl ⟨by rfl, ?_⟩) ?_ ?_
          rotate_left
          ·
           intro w'
           go_simp
           with_reducible rfl
          rotate_left
          ·
           simp only [Act.put, List.setIfInBounds_toArray, List.set_cons_zero, List.set_cons_succ, i64_w, i32_w]
           rfl
          refine pure_ (i := 15) (N := some 91) (v := ?_) (a' := ?_) #[true, true, true, true, true, true, true, true, true, true, true, true, true, true, true, true, false, false, false, false, false, false, false, false, false, false, false, false, false, false] rfl rfl (any_of HT_.out (by kernel_rfl)) (fun _ _ _ h => h) (Or.inl ⟨by rfl, ?_⟩) ?_ ?_
          rotate_left
          ·
           intro w'
           go_simp
           with_reducible rfl
          rotate_left
          ·
           simp only [Act.put, List.setIfInBounds_toArray, List.set_cons_zero, List.set_cons_succ, i64_w, i32_w]
           rfl
          refine take_ (i := 16) (N := some 92) (v := ?_) (a' := ?_) #[true, true, true, true, true, true, true, true, true, true, true, true, true, true, true, true, true, false, false, false, false, false, false, false, false, false, false, false, false, false] rfl rfl (take_ofW HT_.out HW_.out (by kernel_rfl)) (fun _ _ _ h => h) (Or.inl ⟨by rfl, ?_⟩) hHeld ?_ ?_
          rotate_left
          ·
           rintro w' ⟨s0, s1, s2, s3, s4, s5⟩
           go_simp
           with_reducible rfl
          rotate_left
          ·
           simp only [Act.put, List.setIfInBounds_toArray, List.set_cons_zero, List.set_cons_succ, i64_w, i32_w]
           rfl
          refine take_ (i := 18) (N := some 94) (v := ?_) (a' := ?_) #[true, true, true, true, true, true, true, true, true, true, true, true, true, true, true, true, true, false, true, false, false, false, false, false, false, false, false, false, false, false] rfl rfl (take_ofW HT_.out HW_.out (by kernel_rfl)) (fun _ _ _ h => h) (Or.inl ⟨by rfl, ?_⟩) hHeld ?_ ?_
          rotate_left
          ·
           rintro w' ⟨s0, s1, s2, s3, s4, s5⟩
           go_simp
           with_reducible rfl
          rotate_left
          ·
           simp only [Act.put, List.setIfInBounds_toArray, List.set_cons_zero, List.set_cons_succ, i64_w, i32_w]
           rfl
          refine one_ (i := 17) (N := some 93) #[true, true, true, true, true, true, true, true, true, true, true, true, true, true, true, true, true, true, true, false, false, false, false, false, false, false, false, false, false, false] rfl rfl (one_of HT_.out (by kernel_rfl)) (by decide) (fun K hK => ?_)
          refine goes_ Try.func20 (by kernel_rfl) rfl #[.agg #[.int .i64 t262, .slice Ao61 x273001_1.length co61]] (by rfl) rfl rfl (by (try simp only [List.map_toArray, List.map_cons, List.map_nil]); first | done | rfl | (simp only [List.length_drop, List.length_take]; rfl)) ?_
          with_reducible refine (impl_PostFair.calls k1 t262 _ _ x273001_1 t284 _ ?side1 ?side2 A55.out).mono ?_
          (case side1 => repeat (first | exact (Kd.R_reads' HO_273001.out).2.2 | (with_reducible refine Kd.C_alloc ?_ _) | (with_reducible refine Kd.C_drewN ?_ _) | (with_reducible refine Kd.C_drew ?_)))
          (case side2 => exact (Kd.R_reads' HO_273001.out).2.1)
          rintro e w65 ⟨rfl, hb⟩
          refine ⟨_, rfl, ?_⟩
          have n0_ := Aside0.mk (Kd.R_below (by (with_reducible repeat (first | apply Kd.R_alloc | apply Kd.R_drewN | apply Kd.R_drew)); exact HO_269001.out) hb)
          have n1_ := Aside0.mk (Kd.R_below (by (with_reducible repeat (first | apply Kd.R_alloc | apply Kd.R_drewN | apply Kd.R_drew)); exact HO_273001.out) hb)
          have n2_ := Aside0.mk (Kd.R_below (by (with_reducible repeat (first | apply Kd.R_alloc | apply Kd.R_drewN | apply Kd.R_drew)); exact HO_274001.out) hb)
          have n3_ := Aside0.mk (blk_below (g := gb268) (o := .cells #[.int .i64 t262, .slice Ao12 t263.length co12] 29 (0, 0)) (laws_FnPostTurn_vb BK268) hb)
          have n4_ := Aside0.mk (blk_below (g := gb272) (o := .cells #[.int .i64 t262, .slice Ao61 x273001_1.length co61] 29 (0, 0)) (laws_FnPostTurn_vb BK272) hb)
          have n5_ := Aside0.mk (blk_below (g := gb273) (o := .cells #[.int .i64 t262, .slice Ao63 x274001_1.length co63] 29 (0, 0)) (laws_FnPostTurn_vb BK273) hb)
          have n6_ := Aside0.mk (below_step (laws_FnPostTurn_auHB) hb)
          clear HO_269001
          clear HO_273001
          clear HO_274001
          clear BK268
          clear BK272
          clear BK273
          clear HB
          have HO_269001 := n0_
          have HO_273001 := n1_
          have HO_274001 := n2_
          have BK268 := n3_
          have BK272 := n4_
          have BK273 := n5_
          have HB := n6_
          clear n0_ n1_ n2_ n3_ n4_ n5_ n6_
          (try clear hb)
          (try clear hb2)
          (try clear hk)
          (try clear hi)
          refine hK.out _ _ ⟨(blk_cell BK272.out 0).trans rfl, (blk_cell BK272.out 1).trans rfl, (blk_cell BK273.out 0).trans rfl, (blk_cell BK273.out 1).trans rfl, (blk_cell BK268.out 0).trans rfl, (blk_cell BK268.out 1).trans rfl⟩ (fun hHeld => ?_)
          clear hK K
          refine norm_ (a' := ?_) ?_ ?_
          rotate_left
          ·
           show Act.put _ (some 93) _ = _
           simp only [Act.put, List.setIfInBounds_toArray, List.set_cons_zero, List.set_cons_succ, i64_w, i32_w]
           rfl
          refine one_ (i := 19) (N := some 95) #[true, true, true, true, true, true, true, true, true, true, true, true, true, true, true, true, true, true, true, true, false, false, false, false, false, false, false, false, false, false] rfl rfl (one_of HT_.out (by kernel_rfl)) (by decide) (fun K hK => ?_)
          refine goes_ Try.func20 (by kernel_rfl) rfl #[.agg #[.int .i64 t262, .slice Ao12 t263.length co12]] (by rfl) rfl rfl (by (try simp only [List.map_toArray, List.map_cons, List.map_nil]); first | done | rfl | (simp only [List.length_drop, List.length_take]; rfl)) ?_
          with_reducible refine (impl_PostFair.calls k1 t262 _ _ t263 t285 _ ?side1 ?side2 A56.out).mono ?_
          (case side1 => repeat (first | exact (Kd.R_reads' HO_269001.out).2.2 | (with_reducible refine Kd.C_alloc ?_ _) | (with_reducible refine Kd.C_drewN ?_ _) | (with_reducible refine Kd.C_drew ?_)))
          (case side2 => exact (Kd.R_reads' HO_269001.out).2.1)
          rintro e w66 ⟨rfl, hb⟩
          refine ⟨_, rfl, ?_⟩
          have n0_ := Aside0.mk (Kd.R_below (by (with_reducible repeat (first | apply Kd.R_alloc | apply Kd.R_drewN | apply Kd.R_drew)); exact HO_269001.out) hb)
          have n1_ := Aside0.mk (Kd.R_below (by (with_reducible repeat (first | apply Kd.R_alloc | apply Kd.R_drewN | apply Kd.R_drew)); exact HO_273001.out) hb)
          have n2_ := Aside0.mk (Kd.R_below (by (with_reducible repeat (first | apply Kd.R_alloc | apply Kd.R_drewN | apply Kd.R_drew)); exact HO_274001.out) hb)
          have n3_ := Aside0.mk (blk_below (g := gb268) (o := .cells #[.int .i64 t262, .slice Ao12 t263.length co12] 29 (0, 0)) (laws_FnPostTurn_vb BK268) hb)
          have n4_ := Aside0.mk (blk_below (g := gb272) (o := .cells #[.int .i64 t262, .slice Ao61 x273001_1.length co61] 29 (0, 0)) (laws_FnPostTurn_vb BK272) hb)
          have n5_ := Aside0.mk (blk_below (g := gb273) (o := .cells #[.int .i64 t262, .slice Ao63 x274001_1.length co63] 29 (0, 0)) (laws_FnPostTurn_vb BK273) hb)
          have n6_ := Aside0.mk (below_step (laws_FnPostTurn_auHB) hb)
          clear HO_269001
          clear HO_273001
          clear HO_274001
          clear BK268
          clear BK272
          clear BK273
          clear HB
          have HO_269001 := n0_
          have HO_273001 := n1_
          have HO_274001 := n2_
          have BK268 := n3_
          have BK272 := n4_
          have BK273 := n5_
          have HB := n6_
          clear n0_ n1_ n2_ n3_ n4_ n5_ n6_
          (try clear hb)
          (try clear hb2)
          (try clear hk)
          (try clear hi)
          refine hK.out _ _ ⟨(blk_cell BK272.out 0).trans rfl, (blk_cell BK272.out 1).trans rfl, (blk_cell BK273.out 0).trans rfl, (blk_cell BK273.out 1).trans rfl, (blk_cell BK268.out 0).trans rfl, (blk_cell BK268.out 1).trans rfl⟩ (fun hHeld => ?_)
          clear hK K
          refine norm_ (a' := ?_) ?_ ?_
          rotate_left
          ·
           show Act.put _ (some 95) _ = _
           simp only [Act.put, List.setIfInBounds_toArray, List.set_cons_zero, List.set_cons_succ, i64_w, i32_w]
           rfl
          refine pure_ (i := 20) (N := some 96) (v := ?_) (a' := ?_) #[true, true, true, true, true, true, true, true, true, true, true, true, true, true, true, true, true, true, true, true, true, false, false, false, false, false, false, false, false, false] rfl rfl (any_of HT_.out (by kernel_rfl)) (fun _ _ _ h => h) (Or.inl ⟨by rfl, ?_⟩) ?_ ?_
          rotate_left
          ·
           intro w'
           go_simp
           with_reducible rfl
          rotate_left
          ·
           simp only [Act.put, List.setIfInBounds_toArray, List.set_cons_zero, List.set_cons_succ, i64_w, i32_w]
           rfl
          refine pure_ (i := 21) (N := some 97) (v := ?_) (a' := ?_) #[true, true, true, true, true, true, true, true, true, true, true, true, true, true, true, true, true, true, true, true, true, true, false, false, false, false, false, false, false, false] rfl rfl (any_of HT_.out (by kernel_rfl)) (fun _ _ _ h => h) (Or.inl ⟨by rfl, ?_⟩) ?_ ?_
          rotate_left
          ·
           intro w'
           go_simp
           with_reducible rfl
          rotate_left
          ·
           simp only [Act.put, List.setIfInBounds_toArray, List.set_cons_zero, List.set_cons_succ, i64_w, i32_w]
           rfl
          refine pure_ (i := 22) (N := some 98) (v := ?_) (a' := ?_) #[true, true, true, true, true, true, true, true, true, true, true, true, true, true, true, true, true, true, true, true, true, true, true, false, false, false, false, false, false, false] rfl rfl (any_of HT_.out (by kernel_rfl)) (fun _ _ _ h => h) (Or.inl ⟨by rfl, ?_⟩) ?_ ?_
          rotate_left
          ·
           intro w'
           go_simp
           with_reducible rfl
          rotate_left
          ·
           simp only [Act.put, List.setIfInBounds_toArray, List.set_cons_zero, List.set_cons_succ, i64_w, i32_w]
           rfl
          refine take_ (i := 23) (N := some 99) (v := ?_) (a' := ?_) #[true, true, true, true, true, true, true, true, true, true, true, true, true, true, true, true, true, true, true, true, true, true, true, true, false, false, false, false, false, false] rfl rfl (take_ofW HT_.out HW_.out (by kernel_rfl)) (fun _ _ _ h => h) (Or.inl ⟨by rfl, ?_⟩) hHeld ?_ ?_
          rotate_left
          ·
           rintro w' ⟨s0, s1, s2, s3, s4, s5⟩
           go_simp
           with_reducible rfl
          rotate_left
          ·
           simp only [Act.put, List.setIfInBounds_toArray, List.set_cons_zero, List.set_cons_succ, i64_w, i32_w]
           rfl
          refine take_ (i := 25) (N := some 101) (v := ?_) (a' := ?_) #[true, true, true, true, true, true, true, true, true, true, true, true, true, true, true, true, true, true, true, true, true, true, true, true, false, true, false, false, false, false] rfl rfl (take_ofW HT_.out HW_.out (by kernel_rfl)) (fun _ _ _ h => h) (Or.inl ⟨by rfl, ?_⟩) hHeld ?_ ?_
          rotate_left
          ·
           rintro w' ⟨s0, s1, s2, s3, s4, s5⟩
           go_simp
           with_reducible rfl
          rotate_left
          ·
           simp only [Act.put, List.setIfInBounds_toArray, List.set_cons_zero, List.set_cons_succ, i64_w, i32_w]
           rfl
          refine one_ (i := 24) (N := some 100) #[true, true, true, true, true, true, true, true, true, true, true, true, true, true, true, true, true, true, true, true, true, true, true, true, true, true, false, false, false, false] rfl rfl (one_of HT_.out (by kernel_rfl)) (by decide) (fun K hK => ?_)
          refine goes_ Try.func20 (by kernel_rfl) rfl #[.agg #[.int .i64 t262, .slice Ao63 x274001_1.length co63]] (by rfl) rfl rfl (by (try simp only [List.map_toArray, List.map_cons, List.map_nil]); first | done | rfl | (simp only [List.length_drop, List.length_take]; rfl)) ?_
          with_reducible refine (impl_PostFair.calls k1 t262 _ _ x274001_1 t286 _ ?side1 ?side2 A58.out).mono ?_
          (case side1 => repeat (first | exact (Kd.R_reads' HO_274001.out).2.2 | (with_reducible refine Kd.C_alloc ?_ _) | (with_reducible refine Kd.C_drewN ?_ _) | (with_reducible refine Kd.C_drew ?_)))
          (case side2 => exact (Kd.R_reads' HO_274001.out).2.1)
          rintro e w67 ⟨rfl, hb⟩
          refine ⟨_, rfl, ?_⟩
          have n0_ := Aside0.mk (Kd.R_below (by (with_reducible repeat (first | apply Kd.R_alloc | apply Kd.R_drewN | apply Kd.R_drew)); exact HO_269001.out) hb)
          have n1_ := Aside0.mk (Kd.R_below (by (with_reducible repeat (first | apply Kd.R_alloc | apply Kd.R_drewN | apply Kd.R_drew)); exact HO_273001.out) hb)
          have n2_ := Aside0.mk (Kd.R_below (by (with_reducible repeat (first | apply Kd.R_alloc | apply Kd.R_drewN | apply Kd.R_drew)); exact HO_274001.out) hb)
          have n3_ := Aside0.mk (blk_below (g := gb268) (o := .cells #[.int .i64 t262, .slice Ao12 t263.length co12] 29 (0, 0)) (laws_FnPostTurn_vb BK268) hb)
          have n4_ := Aside0.mk (blk_below (g := gb272) (o := .cells #[.int .i64 t262, .slice Ao61 x273001_1.length co61] 29 (0, 0)) (laws_FnPostTurn_vb BK272) hb)
          have n5_ := Aside0.mk (blk_below (g := gb273) (o := .cells #[.int .i64 t262, .slice Ao63 x274001_1.length co63] 29 (0, 0)) (laws_FnPostTurn_vb BK273) hb)
          have n6_ := Aside0.mk (below_step (laws_FnPostTurn_auHB) hb)
          clear HO_269001
          clear HO_273001
          clear HO_274001
          clear BK268
          clear BK272
          clear BK273
          clear HB
          have HO_269001 := n0_
          have HO_273001 := n1_
          have HO_274001 := n2_
          have BK268 := n3_
          have BK272 := n4_
          have BK273 := n5_
          have HB := n6_
          clear n0_ n1_ n2_ n3_ n4_ n5_ n6_
          (try clear hb)
          (try clear hb2)
          (try clear hk)
          (try clear hi)
          refine hK.out _ _ ⟨(blk_cell BK272.out 0).trans rfl, (blk_cell BK272.out 1).trans rfl, (blk_cell BK273.out 0).trans rfl, (blk_cell BK273.out 1).trans rfl, (blk_cell BK268.out 0).trans rfl, (blk_cell BK268.out 1).trans rfl⟩ (fun hHeld => ?_)
          clear hK K
          refine norm_ (a' := ?_) ?_ ?_
          rotate_left
          ·
           show Act.put _ (some 100) _ = _
           simp only [Act.put, List.setIfInBounds_toArray, List.set_cons_zero, List.set_cons_succ, i64_w, i32_w]
           rfl
          refine one_ (i := 26) (N := some 102) #[true, true, true, true, true, true, true, true, true, true, true, true, true, true, true, true, true, true, true, true, true, true, true, true, true, true, true, false, false, false] rfl rfl (one_of HT_.out (by kernel_rfl)) (by decide) (fun K hK => ?_)
          refine goes_ Try.func20 (by kernel_rfl) rfl #[.agg #[.int .i64 t262, .slice Ao12 t263.length co12]] (by rfl) rfl rfl (by (try simp only [List.map_toArray, List.map_cons, List.map_nil]); first | done | rfl | (simp only [List.length_drop, List.length_take]; rfl)) ?_
          with_reducible refine (impl_PostFair.calls k1 t262 _ _ t263 t287 _ ?side1 ?side2 A59.out).mono ?_
          (case side1 => repeat (first | exact (Kd.R_reads' HO_269001.out).2.2 | (with_reducible refine Kd.C_alloc ?_ _) | (with_reducible refine Kd.C_drewN ?_ _) | (with_reducible refine Kd.C_drew ?_)))
          (case side2 => exact (Kd.R_reads' HO_269001.out).2.1)
          rintro e w68 ⟨rfl, hb⟩
          refine ⟨_, rfl, ?_⟩
          have n0_ := Aside0.mk (Kd.R_below (by (with_reducible repeat (first | apply Kd.R_alloc | apply Kd.R_drewN | apply Kd.R_drew)); exact HO_269001.out) hb)
          have n1_ := Aside0.mk (Kd.R_below (by (with_reducible repeat (first | apply Kd.R_alloc | apply Kd.R_drewN | apply Kd.R_drew)); exact HO_273001.out) hb)
          have n2_ := Aside0.mk (Kd.R_below (by (with_reducible repeat (first | apply Kd.R_alloc | apply Kd.R_drewN | apply Kd.R_drew)); exact HO_274001.out) hb)
          have n3_ := Aside0.mk (blk_below (g := gb268) (o := .cells #[.int .i64 t262, .slice Ao12 t263.length co12] 29 (0, 0)) (laws_FnPostTurn_vb BK268) hb)
          have n4_ := Aside0.mk (blk_below (g := gb272) (o := .cells #[.int .i64 t262, .slice Ao61 x273001_1.length co61] 29 (0, 0)) (laws_FnPostTurn_vb BK272) hb)
          have n5_ := Aside0.mk (blk_below (g := gb273) (o := .cells #[.int .i64 t262, .slice Ao63 x274001_1.length co63] 29 (0, 0)) (laws_FnPostTurn_vb BK273) hb)
          have n6_ := Aside0.mk (below_step (laws_FnPostTurn_auHB) hb)
          clear HO_269001
          clear HO_273001
          clear HO_274001
          clear BK268
          clear BK272
          clear BK273
          clear HB
          have HO_269001 := n0_
          have HO_273001 := n1_
          have HO_274001 := n2_
          have BK268 := n3_
          have BK272 := n4_
          have BK273 := n5_
          have HB := n6_
          clear n0_ n1_ n2_ n3_ n4_ n5_ n6_
          (try clear hb)
          (try clear hb2)
          (try clear hk)
          (try clear hi)
          refine hK.out _ _ ⟨(blk_cell BK272.out 0).trans rfl, (blk_cell BK272.out 1).trans rfl, (blk_cell BK273.out 0).trans rfl, (blk_cell BK273.out 1).trans rfl, (blk_cell BK268.out 0).trans rfl, (blk_cell BK268.out 1).trans rfl⟩ (fun hHeld => ?_)
          clear hK K
          refine norm_ (a' := ?_) ?_ ?_
          rotate_left
          ·
           show Act.put _ (some 102) _ = _
           simp only [Act.put, List.setIfInBounds_toArray, List.set_cons_zero, List.set_cons_succ, i64_w, i32_w]
           rfl
          refine pure_ (i := 27) (N := some 103) (v := ?_) (a' := ?_) #[true, true, true, true, true, true, true, true, true, true, true, true, true, true, true, true, true, true, true, true, true, true, true, true, true, true, true, true, false, false] rfl rfl (any_of HT_.out (by kernel_rfl)) (fun _ _ _ h => h) (Or.inl ⟨by rfl, ?_⟩) ?_ ?_
          rotate_left
          ·
           intro w'
           go_simp
           with_reducible rfl
          rotate_left
          ·
           simp only [Act.put, List.setIfInBounds_toArray, List.set_cons_zero, List.set_cons_succ, i64_w, i32_w]
           rfl
          refine pure_ (i := 28) (N := some 104) (v := ?_) (a' := ?_) #[true, true, true, true, true, true, true, true, true, true, true, true, true, true, true, true, true, true, true, true, true, true, true, true, true, true, true, true, true, false] rfl rfl (any_of HT_.out (by kernel_rfl)) (fun _ _ _ h => h) (Or.inl ⟨by rfl, ?_⟩) ?_ ?_
          rotate_left
          ·
           intro w'
           go_simp
           with_reducible rfl
          rotate_left
          ·
           simp only [Act.put, List.setIfInBounds_toArray, List.set_cons_zero, List.set_cons_succ, i64_w, i32_w]
           rfl
          refine pure_ (i := 29) (N := some 2) (v := ?_) (a' := ?_) #[true, true, true, true, true, true, true, true, true, true, true, true, true, true, true, true, true, true, true, true, true, true, true, true, true, true, true, true, true, true] rfl rfl (any_of HT_.out (by kernel_rfl)) (fun _ _ _ h => h) (Or.inl ⟨by rfl, ?_⟩) ?_ ?_
          rotate_left
          ·
           intro w'
           go_simp
           with_reducible rfl
          rotate_left
          ·
           simp only [Act.put, List.setIfInBounds_toArray, List.set_cons_zero, List.set_cons_succ, i64_w, i32_w]
           rfl
          refine done_ (done_of HT_.out (by kernel_rfl)) ?_
          try go_wp2
          go_ret
          exact ⟨by first | rfl | (simp [errW_none, errW_some] <;> rfl) | (simp [*, errW_none, errW_some] <;> rfl), laws_FnPostTurn_auHB⟩
         ·
          rw [if_neg c57] at H
          have c57b0 : (t284 == t285) = false := by (have h_ := c57; (try simp at h_); (try simp); (try exact h_))
          (try (have c57b1 : decide (t284 = t285) = false := by (have h_ := c57; (try simp at h_); (try simp); (try exact h_))))
          (try (have c57b2 : (t284 == t285) = false := by (have h_ := c57; (try simp at h_); (try simp); (try exact h_))))
          (try (have c57b3 : ¬ (t284 = t285) := by (have h_ := c57; (try simp at h_); (try simp); (try exact h_))))
          clear c57
          exact absurd H (by simp)
        ·
         rw [if_neg c54] at H
         have c54b0 : (t283 == (wrap64 (-t269))) = false := beq_eq_false_iff_ne.mpr c54
         have c54b1 : (t283 != (wrap64 (-t269))) = true := bne_iff_ne.mpr c54
         exact absurd H (by simp)
       ·
        rw [if_neg c52] at H
        have c52b0 : (t282 == t269) = false := beq_eq_false_iff_ne.mpr c52
        have c52b1 : (t282 != t269) = true := bne_iff_ne.mpr c52
        exact absurd H (by simp)
   ·
    replace c8 := Bool.eq_false_iff.mpr c8
    subst c8
    have H1 : ((spec_PostTo.f k t262 t263 t266 t267).bind fun t288 => (some (t269 == t288))) = some r := by rw [if_neg (show ¬ (false = true) by decide)] at H; exact H
    clear H
    have H := H1
    clear H1
    replace H := Option.bind_eq_some_iff.mp H
    obtain ⟨t288, A690, H⟩ := H
    replace H : (some (t269 == t288)) = some r := H
    have A69 := Aside0.mk A690
    clear A690
    obtain rfl := Option.some.inj H
    go_enter Try.func10, Try.ntmps10
    go_wp2_with (first | ((with_reducible refine gate_callee (f := 33) rfl ?_); refine goesL_ (some 16) rfl rfl Try.func33 (by kernel_rfl) rfl #[.slice A0 l0.length c0] rfl (by (try simp only [List.map_toArray, List.map_cons, List.map_nil]); first | done | rfl | (simp only [List.length_drop, List.length_take]; rfl)) ?_; (with_reducible refine (spec_DrawPostTo.calls k _ _ l0 t262 t263 t266 t267 _ ?side1 ?side2 A3.out).mono ?_); (case side1 => repeat (first | exact HR0.out | (with_reducible refine Kd.C_alloc ?_ _) | (with_reducible refine Kd.C_drewN ?_ _) | (with_reducible refine Kd.C_drew ?_))); (case side2 => exact HC0.out); rintro e w70 ⟨v264, rfl, ho0, hb⟩; refine ⟨_, rfl, ?_⟩; have n0_ := Aside0.mk (Kd.R_lower ho0 (below_size (laws_FnPostTurn_auHB))); have n1_ := Aside0.mk (below_step (laws_FnPostTurn_auHB) hb); clear HB; have HO265 := n0_; have HB := n1_; clear n0_ n1_; (try clear hb); (try clear hb2); (try clear hk); (try clear hi); (try clear ho0)) | ((with_reducible refine gate_dst (N := 3) rfl ?_); refine box_event ?hg (N := 3) ?hd (cs := #[.int .i64 0, .slice none 0 0]) (t := 29) ?hr ?_; (case hd => rfl); (case hg => rfl); (case hr => first | (go_simp; done) | (go_simp; rfl)); intro gb268 hg w71 hbox hb; have n0_ := Aside0.mk (Kd.R_below (by (with_reducible repeat (first | apply Kd.R_alloc | apply Kd.R_drewN | apply Kd.R_drew)); exact HO265.out) hb); have n1_ := Aside0.mk (below_step (laws_FnPostTurn_auHB) hb); have n2_ := Aside0.mk (hbox); have n3_ := Aside0.mk ((by rw [hg]; exact (below_size (laws_FnPostTurn_auHB)) : w.heap.size ≤ gb268)); have n4_ := Aside0.mk ((by rw [hg]; exact (below_size (laws_FnPostTurn_auHB)) : w.heap.size ≤ gb268)); clear HO265; clear HB; have HO265 := n0_; have HB := n1_; have BK268 := n2_; have GW268 := n3_; have GE268 := n4_; clear n0_ n1_ n2_ n3_ n4_; clear hb hbox hg; have hcz72_0 : w71.cell? ⟨gb268, 0, none⟩ = some (.int .i64 0) := (blk_cell BK268.out 0).trans rfl; have hcz72_1 : w71.cell? ⟨gb268, 1, none⟩ = some (.slice none 0 0) := (blk_cell BK268.out 1).trans rfl; have hfz72_0 := blk_frozen BK268.out 0; have hfz72_1 := blk_frozen BK268.out 1; obtain ⟨Ao73, co73, eo73⟩ := Kd.R_slice HO265.out; subst eo73) | ((with_reducible refine gate_callee (f := 18) rfl ?_); refine goesL_ (some 23) rfl rfl Try.func18 (by kernel_rfl) rfl #[.agg #[.int .i64 t262, .slice Ao73 t263.length co73], .string t266, .int .i64 t267] rfl (by (try simp only [List.map_toArray, List.map_cons, List.map_nil]); first | done | rfl | (simp only [List.length_drop, List.length_take]; rfl)) ?_; (with_reducible refine (impl_PostTo.calls k t262 _ _ t263 t266 t267 t269 _ ?side1 ?side2 A4.out).mono ?_); (case side1 => refine (Kd.R_reads' (e := 41) (base := w.heap.size) (ok := fun k_ => True) (n := t263.length) (c := co73) ?_).2.2; exact (by (with_reducible repeat (first | apply Kd.R_alloc | apply Kd.R_drewN | apply Kd.R_drew)); exact (Kd.R_mono (Kd.R_far (p := ⟨gb268, 1, none⟩) (Kd.R_far (p := ⟨gb268, 0, none⟩) (Kd.R_types HO265.out BK268.out (by decide)) (fun _ hk => hk.2) (.int .i64 t262)) (fun _ hk => hk.2) (.slice Ao73 t263.length co73)) (fun _ h_ => h_.1)))); (case side2 => exact (Kd.R_reads' HO265.out).2.1); rintro e w74 ⟨rfl, hb⟩; refine ⟨_, rfl, ?_⟩; have n0_ := Aside0.mk (Kd.R_below (by (with_reducible repeat (first | apply Kd.R_alloc | apply Kd.R_drewN | apply Kd.R_drew)); exact (Kd.R_mono (Kd.R_far (p := ⟨gb268, 1, none⟩) (Kd.R_far (p := ⟨gb268, 0, none⟩) (Kd.R_types HO265.out BK268.out (by decide)) (fun _ hk => hk.2) (.int .i64 t262)) (fun _ hk => hk.2) (.slice Ao73 t263.length co73)) (fun _ h_ => h_.1))) hb); have n1_ := Aside0.mk (blk_below (g := gb268) (o := .cells #[.int .i64 t262, .slice Ao73 t263.length co73] 29 (0, 0)) (by (with_reducible repeat (first | refine blk_drewN ?_ _ | refine blk_drew ?_ | refine blk_alloc ?_ _)); refine blk_put (cs := #[.int .i64 t262, .slice none 0 0]) ?_ 1 _ rfl; (with_reducible repeat (first | refine blk_drewN ?_ _ | refine blk_drew ?_ | refine blk_alloc ?_ _)); refine blk_put (cs := #[.int .i64 0, .slice none 0 0]) ?_ 0 _ rfl; (with_reducible repeat (first | refine blk_drewN ?_ _ | refine blk_drew ?_ | refine blk_alloc ?_ _)); exact BK268.out) hb); have n2_ := Aside0.mk (below_step (laws_FnPostTurn_auHB) hb); clear HO265; clear BK268; clear HB; have HO265 := n0_; have BK268 := n1_; have HB := n2_; clear n0_ n1_ n2_; (try clear hb); (try clear hb2); (try clear hk); (try clear hi); have hcz75_0 : w74.cell? ⟨gb268, 0, none⟩ = some (.int .i64 t262) := (blk_cell BK268.out 0).trans rfl; have hcz75_1 : w74.cell? ⟨gb268, 1, none⟩ = some (.slice Ao73 t263.length co73) := (blk_cell BK268.out 1).trans rfl; have hfz75_0 := blk_frozen BK268.out 0; have hfz75_1 := blk_frozen BK268.out 1) | ((with_reducible refine gate_callee (f := 17) rfl ?_); refine goesL_ (some 28) rfl rfl Try.func17 (by kernel_rfl) rfl #[.agg #[.int .i64 t262, .slice Ao73 t263.length co73], .string t266, .int .i64 t267] rfl (by (try simp only [List.map_toArray, List.map_cons, List.map_nil]); first | done | rfl | (simp only [List.length_drop, List.length_take]; rfl)) ?_; (with_reducible refine (spec_PostTo.calls k t262 _ _ t263 t266 t267 t270 _ ?side1 ?side2 A5.out).mono ?_); (case side1 => repeat (first | exact (Kd.R_reads' HO265.out).2.2 | (with_reducible refine Kd.C_alloc ?_ _) | (with_reducible refine Kd.C_drewN ?_ _) | (with_reducible refine Kd.C_drew ?_))); (case side2 => exact (Kd.R_reads' HO265.out).2.1); rintro e w76 ⟨rfl, hb⟩; refine ⟨_, rfl, ?_⟩; have n0_ := Aside0.mk (Kd.R_below (by (with_reducible repeat (first | apply Kd.R_alloc | apply Kd.R_drewN | apply Kd.R_drew)); exact HO265.out) hb); have n1_ := Aside0.mk (blk_below (g := gb268) (o := .cells #[.int .i64 t262, .slice Ao73 t263.length co73] 29 (0, 0)) (laws_FnPostTurn_vb BK268) hb); have n2_ := Aside0.mk (below_step (laws_FnPostTurn_auHB) hb); clear HO265; clear BK268; clear HB; have HO265 := n0_; have BK268 := n1_; have HB := n2_; clear n0_ n1_ n2_; (try clear hb); (try clear hb2); (try clear hk); (try clear hi); have hcz77_0 : w76.cell? ⟨gb268, 0, none⟩ = some (.int .i64 t262) := (blk_cell BK268.out 0).trans rfl; have hcz77_1 : w76.cell? ⟨gb268, 1, none⟩ = some (.slice Ao73 t263.length co73) := (blk_cell BK268.out 1).trans rfl; have hfz77_0 := blk_frozen BK268.out 0; have hfz77_1 := blk_frozen BK268.out 1) | (go_at_call 21; (with_reducible refine (spec_PostOk.calls k t262 _ _ t263 false _ ?side1 ?side2 A7.out).mono ?_); (case side1 => repeat (first | exact (Kd.R_reads' HO265.out).2.2 | (with_reducible refine Kd.C_alloc ?_ _) | (with_reducible refine Kd.C_drewN ?_ _) | (with_reducible refine Kd.C_drew ?_))); (case side2 => exact (Kd.R_reads' HO265.out).2.1); rintro e w78 ⟨rfl, hb⟩; have n0_ := Aside0.mk (Kd.R_below (by (with_reducible repeat (first | apply Kd.R_alloc | apply Kd.R_drewN | apply Kd.R_drew)); exact HO265.out) hb); have n1_ := Aside0.mk (blk_below (g := gb268) (o := .cells #[.int .i64 t262, .slice Ao73 t263.length co73] 29 (0, 0)) (laws_FnPostTurn_vb BK268) hb); have n2_ := Aside0.mk (below_step (laws_FnPostTurn_auHB) hb); clear HO265; clear BK268; clear HB; have HO265 := n0_; have BK268 := n1_; have HB := n2_; clear n0_ n1_ n2_; (try clear hb); (try clear hb2); (try clear hk); (try clear hi); have hcz79_0 : w78.cell? ⟨gb268, 0, none⟩ = some (.int .i64 t262) := (blk_cell BK268.out 0).trans rfl; have hcz79_1 : w78.cell? ⟨gb268, 1, none⟩ = some (.slice Ao73 t263.length co73) := (blk_cell BK268.out 1).trans rfl; have hfz79_0 := blk_frozen BK268.out 0; have hfz79_1 := blk_frozen BK268.out 1) | ((with_reducible refine gate_callee (f := 17) rfl ?_); refine goesL_ (some 39) rfl rfl Try.func17 (by kernel_rfl) rfl #[.agg #[.int .i64 t262, .slice Ao73 t263.length co73], .string t266, .int .i64 t267] rfl (by (try simp only [List.map_toArray, List.map_cons, List.map_nil]); first | done | rfl | (simp only [List.length_drop, List.length_take]; rfl)) ?_; (with_reducible refine (spec_PostTo.calls k t262 _ _ t263 t266 t267 t288 _ ?side1 ?side2 A69.out).mono ?_); (case side1 => repeat (first | exact (Kd.R_reads' HO265.out).2.2 | (with_reducible refine Kd.C_alloc ?_ _) | (with_reducible refine Kd.C_drewN ?_ _) | (with_reducible refine Kd.C_drew ?_))); (case side2 => exact (Kd.R_reads' HO265.out).2.1); rintro e w80 ⟨rfl, hb⟩; refine ⟨_, rfl, ?_⟩; have n0_ := Aside0.mk (Kd.R_below (by (with_reducible repeat (first | apply Kd.R_alloc | apply Kd.R_drewN | apply Kd.R_drew)); exact HO265.out) hb); have n1_ := Aside0.mk (blk_below (g := gb268) (o := .cells #[.int .i64 t262, .slice Ao73 t263.length co73] 29 (0, 0)) (laws_FnPostTurn_vb BK268) hb); have n2_ := Aside0.mk (below_step (laws_FnPostTurn_auHB) hb); clear HO265; clear BK268; clear HB; have HO265 := n0_; have BK268 := n1_; have HB := n2_; clear n0_ n1_ n2_; (try clear hb); (try clear hb2); (try clear hk); (try clear hi)))
    go_ret
    exact ⟨by first | rfl | (simp [errW_none, errW_some] <;> rfl) | (simp [*, errW_none, errW_some] <;> rfl), laws_FnPostTurn_auHB⟩
  ·
   rw [if_neg c6] at H
   have c6b0 : (t269 == t270) = false := beq_eq_false_iff_ne.mpr c6
   have c6b1 : (t269 != t270) = true := bne_iff_ne.mpr c6
   replace H := Option.bind_eq_some_iff.mp H
   obtain ⟨t289, A810, H⟩ := H
   replace H : (some (t269 == t289)) = some r := H
   have A81 := Aside0.mk A810
   clear A810
   obtain rfl := Option.some.inj H
   go_enter Try.func10, Try.ntmps10
   go_wp2_with (first | ((with_reducible refine gate_callee (f := 33) rfl ?_); refine goesL_ (some 16) rfl rfl Try.func33 (by kernel_rfl) rfl #[.slice A0 l0.length c0] rfl (by (try simp only [List.map_toArray, List.map_cons, List.map_nil]); first | done | rfl | (simp only [List.length_drop, List.length_take]; rfl)) ?_; (with_reducible refine (spec_DrawPostTo.calls k _ _ l0 t262 t263 t266 t267 _ ?side1 ?side2 A3.out).mono ?_); (case side1 => repeat (first | exact HR0.out | (with_reducible refine Kd.C_alloc ?_ _) | (with_reducible refine Kd.C_drewN ?_ _) | (with_reducible refine Kd.C_drew ?_))); (case side2 => exact HC0.out); rintro e w82 ⟨v264, rfl, ho0, hb⟩; refine ⟨_, rfl, ?_⟩; have n0_ := Aside0.mk (Kd.R_lower ho0 (below_size (laws_FnPostTurn_auHB))); have n1_ := Aside0.mk (below_step (laws_FnPostTurn_auHB) hb); clear HB; have HO265 := n0_; have HB := n1_; clear n0_ n1_; (try clear hb); (try clear hb2); (try clear hk); (try clear hi); (try clear ho0)) | ((with_reducible refine gate_dst (N := 3) rfl ?_); refine box_event ?hg (N := 3) ?hd (cs := #[.int .i64 0, .slice none 0 0]) (t := 29) ?hr ?_; (case hd => rfl); (case hg => rfl); (case hr => first | (go_simp; done) | (go_simp; rfl)); intro gb268 hg w83 hbox hb; have n0_ := Aside0.mk (Kd.R_below (by (with_reducible repeat (first | apply Kd.R_alloc | apply Kd.R_drewN | apply Kd.R_drew)); exact HO265.out) hb); have n1_ := Aside0.mk (below_step (laws_FnPostTurn_auHB) hb); have n2_ := Aside0.mk (hbox); have n3_ := Aside0.mk ((by rw [hg]; exact (below_size (laws_FnPostTurn_auHB)) : w.heap.size ≤ gb268)); have n4_ := Aside0.mk ((by rw [hg]; exact (below_size (laws_FnPostTurn_auHB)) : w.heap.size ≤ gb268)); clear HO265; clear HB; have HO265 := n0_; have HB := n1_; have BK268 := n2_; have GW268 := n3_; have GE268 := n4_; clear n0_ n1_ n2_ n3_ n4_; clear hb hbox hg; have hcz84_0 : w83.cell? ⟨gb268, 0, none⟩ = some (.int .i64 0) := (blk_cell BK268.out 0).trans rfl; have hcz84_1 : w83.cell? ⟨gb268, 1, none⟩ = some (.slice none 0 0) := (blk_cell BK268.out 1).trans rfl; have hfz84_0 := blk_frozen BK268.out 0; have hfz84_1 := blk_frozen BK268.out 1; obtain ⟨Ao85, co85, eo85⟩ := Kd.R_slice HO265.out; subst eo85) | ((with_reducible refine gate_callee (f := 18) rfl ?_); refine goesL_ (some 23) rfl rfl Try.func18 (by kernel_rfl) rfl #[.agg #[.int .i64 t262, .slice Ao85 t263.length co85], .string t266, .int .i64 t267] rfl (by (try simp only [List.map_toArray, List.map_cons, List.map_nil]); first | done | rfl | (simp only [List.length_drop, List.length_take]; rfl)) ?_; (with_reducible refine (impl_PostTo.calls k t262 _ _ t263 t266 t267 t269 _ ?side1 ?side2 A4.out).mono ?_); (case side1 => refine (Kd.R_reads' (e := 41) (base := w.heap.size) (ok := fun k_ => True) (n := t263.length) (c := co85) ?_).2.2; exact (by (with_reducible repeat (first | apply Kd.R_alloc | apply Kd.R_drewN | apply Kd.R_drew)); exact (Kd.R_mono (Kd.R_far (p := ⟨gb268, 1, none⟩) (Kd.R_far (p := ⟨gb268, 0, none⟩) (Kd.R_types HO265.out BK268.out (by decide)) (fun _ hk => hk.2) (.int .i64 t262)) (fun _ hk => hk.2) (.slice Ao85 t263.length co85)) (fun _ h_ => h_.1)))); (case side2 => exact (Kd.R_reads' HO265.out).2.1); rintro e w86 ⟨rfl, hb⟩; refine ⟨_, rfl, ?_⟩; have n0_ := Aside0.mk (Kd.R_below (by (with_reducible repeat (first | apply Kd.R_alloc | apply Kd.R_drewN | apply Kd.R_drew)); exact (Kd.R_mono (Kd.R_far (p := ⟨gb268, 1, none⟩) (Kd.R_far (p := ⟨gb268, 0, none⟩) (Kd.R_types HO265.out BK268.out (by decide)) (fun _ hk => hk.2) (.int .i64 t262)) (fun _ hk => hk.2) (.slice Ao85 t263.length co85)) (fun _ h_ => h_.1))) hb); have n1_ := Aside0.mk (blk_below (g := gb268) (o := .cells #[.int .i64 t262, .slice Ao85 t263.length co85] 29 (0, 0)) (by (with_reducible repeat (first | refine blk_drewN ?_ _ | refine blk_drew ?_ | refine blk_alloc ?_ _)); refine blk_put (cs := #[.int .i64 t262, .slice none 0 0]) ?_ 1 _ rfl; (with_reducible repeat (first | refine blk_drewN ?_ _ | refine blk_drew ?_ | refine blk_alloc ?_ _)); refine blk_put (cs := #[.int .i64 0, .slice none 0 0]) ?_ 0 _ rfl; (with_reducible repeat (first | refine blk_drewN ?_ _ | refine blk_drew ?_ | refine blk_alloc ?_ _)); exact BK268.out) hb); have n2_ := Aside0.mk (below_step (laws_FnPostTurn_auHB) hb); clear HO265; clear BK268; clear HB; have HO265 := n0_; have BK268 := n1_; have HB := n2_; clear n0_ n1_ n2_; (try clear hb); (try clear hb2); (try clear hk); (try clear hi); have hcz87_0 : w86.cell? ⟨gb268, 0, none⟩ = some (.int .i64 t262) := (blk_cell BK268.out 0).trans rfl; have hcz87_1 : w86.cell? ⟨gb268, 1, none⟩ = some (.slice Ao85 t263.length co85) := (blk_cell BK268.out 1).trans rfl; have hfz87_0 := blk_frozen BK268.out 0; have hfz87_1 := blk_frozen BK268.out 1) | ((with_reducible refine gate_callee (f := 17) rfl ?_); refine goesL_ (some 28) rfl rfl Try.func17 (by kernel_rfl) rfl #[.agg #[.int .i64 t262, .slice Ao85 t263.length co85], .string t266, .int .i64 t267] rfl (by (try simp only [List.map_toArray, List.map_cons, List.map_nil]); first | done | rfl | (simp only [List.length_drop, List.length_take]; rfl)) ?_; (with_reducible refine (spec_PostTo.calls k t262 _ _ t263 t266 t267 t270 _ ?side1 ?side2 A5.out).mono ?_); (case side1 => repeat (first | exact (Kd.R_reads' HO265.out).2.2 | (with_reducible refine Kd.C_alloc ?_ _) | (with_reducible refine Kd.C_drewN ?_ _) | (with_reducible refine Kd.C_drew ?_))); (case side2 => exact (Kd.R_reads' HO265.out).2.1); rintro e w88 ⟨rfl, hb⟩; refine ⟨_, rfl, ?_⟩; have n0_ := Aside0.mk (Kd.R_below (by (with_reducible repeat (first | apply Kd.R_alloc | apply Kd.R_drewN | apply Kd.R_drew)); exact HO265.out) hb); have n1_ := Aside0.mk (blk_below (g := gb268) (o := .cells #[.int .i64 t262, .slice Ao85 t263.length co85] 29 (0, 0)) (laws_FnPostTurn_vb BK268) hb); have n2_ := Aside0.mk (below_step (laws_FnPostTurn_auHB) hb); clear HO265; clear BK268; clear HB; have HO265 := n0_; have BK268 := n1_; have HB := n2_; clear n0_ n1_ n2_; (try clear hb); (try clear hb2); (try clear hk); (try clear hi); have hcz89_0 : w88.cell? ⟨gb268, 0, none⟩ = some (.int .i64 t262) := (blk_cell BK268.out 0).trans rfl; have hcz89_1 : w88.cell? ⟨gb268, 1, none⟩ = some (.slice Ao85 t263.length co85) := (blk_cell BK268.out 1).trans rfl; have hfz89_0 := blk_frozen BK268.out 0; have hfz89_1 := blk_frozen BK268.out 1) | ((with_reducible refine gate_callee (f := 17) rfl ?_); refine goesL_ (some 39) rfl rfl Try.func17 (by kernel_rfl) rfl #[.agg #[.int .i64 t262, .slice Ao85 t263.length co85], .string t266, .int .i64 t267] rfl (by (try simp only [List.map_toArray, List.map_cons, List.map_nil]); first | done | rfl | (simp only [List.length_drop, List.length_take]; rfl)) ?_; (with_reducible refine (spec_PostTo.calls k t262 _ _ t263 t266 t267 t289 _ ?side1 ?side2 A81.out).mono ?_); (case side1 => repeat (first | exact (Kd.R_reads' HO265.out).2.2 | (with_reducible refine Kd.C_alloc ?_ _) | (with_reducible refine Kd.C_drewN ?_ _) | (with_reducible refine Kd.C_drew ?_))); (case side2 => exact (Kd.R_reads' HO265.out).2.1); rintro e w90 ⟨rfl, hb⟩; refine ⟨_, rfl, ?_⟩; have n0_ := Aside0.mk (Kd.R_below (by (with_reducible repeat (first | apply Kd.R_alloc | apply Kd.R_drewN | apply Kd.R_drew)); exact HO265.out) hb); have n1_ := Aside0.mk (blk_below (g := gb268) (o := .cells #[.int .i64 t262, .slice Ao85 t263.length co85] 29 (0, 0)) (laws_FnPostTurn_vb BK268) hb); have n2_ := Aside0.mk (below_step (laws_FnPostTurn_auHB) hb); clear HO265; clear BK268; clear HB; have HO265 := n0_; have BK268 := n1_; have HB := n2_; clear n0_ n1_ n2_; (try clear hb); (try clear hb2); (try clear hk); (try clear hi)))
   go_ret
   exact ⟨by first | rfl | (simp [errW_none, errW_some] <;> rfl) | (simp [*, errW_none, errW_some] <;> rfl), laws_FnPostTurn_auHB⟩

/-- THE ONE PURE STATEMENT of laws_FnPostTurn: yours. -/
def laws_FnPostTurn.Pure : Prop := ∀ (l0 : List Int), l0.length ≤ maxLen → l0.length * 1 ≤ 140737488351232 → (∀ x ∈ l0, (Lit.int .u8 x).wf = true) → ∃ k, laws_FnPostTurn.f k l0 = some true
theorem laws_FnPostTurn.walk (P : laws_FnPostTurn.Pure) (a0 : Option Addr) (len0 cap0 : Nat) (z0 : List Int) (w : World) (w0 : (a0 = none ∧ len0 = 0 ∧ cap0 = 0 ∧ z0 = []) ∨ ∃ x, a0 = some x ∧ len0 ≤ cap0 ∧ cap0 ≤ maxLen ∧ z0.length = cap0 ∧ (∀ i, i < z0.length → w.cell? (x.add i) = some (.int .u8 (z0.getD i 0))) ∧ ∀ n ∈ z0, (Lit.int .u8 n).wf = true) (y0 : len0 * 1 ≤ 140737488351232) :
  Calls Try.prog 10 #[.slice a0 len0 cap0] w fun e w' => e = .returned (.bool true) ∧ Below w.heap.size w w' := by
 obtain ⟨l0, rfl, hr0, hm0, hw0, hc0⟩ := ReadsInt.ofRowC w0
 obtain ⟨k, h⟩ := P l0 hm0 y0 hw0
 refine (laws_FnPostTurn.calls k _ _ l0 true w (Kd.C_of_reads (d := (0 : Int)) (h1 := fun _ => rfl) hr0) hc0 h).mono ?_
 rintro e w' ⟨rfl, hd⟩
 exact ⟨rfl, hd⟩

end Go.Proofs.Ytogggmipcldkaaa.QFnPostTurn

/- What the law FnPost reaches, function by function: what each computes, and that the machine's call comes to it. Laid by a program. -/
import Derived.Test.YtdjohhobmipagaaDoorQFnPostx0
import Derived.Test.YtdjohhobmipagaaDoorQFnPostx2
import Derived.Test.YtdjohhobmipagaaDoorQFnPostx3
import Derived.Test.YtdjohhobmipagaaDoorQFnPostx4
import Derived.Test.YtdjohhobmipagaaDoorQFnPostx5
import Derived.Test.YtdjohhobmipagaaDoorQFnPostx7
import Derived.Test.YtdjohhobmipagaaDoorQFnPostx8
import Derived.Test.YtdjohhobmipagaaDoorQFnPostx12
namespace Go.Proofs.YtdjohhobmipagaaDoor.QFnPost
open Go.RowKit Go.Proofs.YtdjohhobmipagaaDoorW.PrintWords Go.Proofs.YtdjohhobmipagaaDoorW.PrintLast Go.Proofs.YtdjohhobmipagaaDoorW.PrintMore
attribute [local go_sem] max2_int min2_int max_two min_two max_three min_three max_four min_four   -- for this text's walks alone
set_option linter.unusedVariables false
set_option linter.unusedSimpArgs false

/-! ### laws_FnPost: function 5 -/
mutual
def laws_FnPost.j0 : Nat → List Int → List Int → Bool → Option (Bool)
  | 0, _, _, _ => none
  | k + 1, x0, x1, x21 => if x21 = true then (some true) else ((spec_DrawPostText.f k x0).bind fun bt322 => ((impl_PostText.f k bt322.1 bt322.2).bind fun t327 => ((impl_PostRead.f k t327).bind fun bt328 => ((spec_PostText.f k bt322.1 bt322.2).bind fun t334 => (if t327.toList = t334.toList then ((impl_PostOk.f k bt322.1 bt322.2).bind fun t335 => ((spec_PostOk.f k bt322.1 bt322.2).bind fun t336 => (if (t335 != t336) = true then (laws_FnPost.j1 k x1 true) else ((spec_PostOk.f k bt322.1 bt322.2).bind fun t337 => (if (bt328.2.2 != t337) = true then (laws_FnPost.j1 k x1 true) else (if bt328.2.2 = true then ((impl_PostSame.f k bt328.1 bt328.2.1 bt322.1 bt322.2).bind fun t338 => (laws_FnPost.j1 k x1 (!t338))) else (laws_FnPost.j1 k x1 false))))))) else (laws_FnPost.j1 k x1 true))))))
def laws_FnPost.j1 : Nat → List Int → Bool → Option (Bool)
  | 0, _, _ => none
  | k + 1, x1, x56 => if x56 = true then (none) else ((spec_DrawPostRead.f k x1).bind fun t339 => ((impl_PostRead.f k t339).bind fun bt340 => ((spec_PostRead.f k t339).bind fun bt346 => (if (bt340.2.2 == bt346.2.2) = true then ((impl_PostSame.f k bt340.1 bt340.2.1 bt346.1 bt346.2.1).bind fun t352 => (if t352 = true then (if bt340.2.2 = true then ((impl_PostText.f k bt340.1 bt340.2.1).bind fun t353 => (if t353.toList = t339.toList then ((impl_PostOk.f k bt340.1 bt340.2.1).bind fun t354 => (some t354)) else (none))) else (some true)) else (none))) else (none)))))
end
def laws_FnPost.f (k : Nat) (l0 : List Int) (l1 : List Int) : Option (Bool) := if (l0.length : Int) > 1048576 then (laws_FnPost.j0 k l0 l1 true) else (laws_FnPost.j0 k l0 l1 (decide ((l1.length : Int) > 1048576)))
theorem laws_FnPost.mono_l : ∀ k, (∀ y0 y1 y2, LeO (laws_FnPost.j0 k y0 y1 y2) (laws_FnPost.j0 (k + 1) y0 y1 y2)) ∧ (∀ y0 y1, LeO (laws_FnPost.j1 k y0 y1) (laws_FnPost.j1 (k + 1) y0 y1))
  | 0 => ⟨fun _ _ _ r h => by simp [laws_FnPost.j0] at h, fun _ _ r h => by simp [laws_FnPost.j1] at h⟩
  | k + 1 => by
    obtain ⟨ih0, ih1⟩ := laws_FnPost.mono_l k
    refine ⟨?_, ?_⟩
    · intro y0 y1 y2
      unfold laws_FnPost.j0
      repeat' first
      | (with_reducible exact ih0 _ _ _)
      | (with_reducible exact ih1 _ _)
      | (with_reducible exact impl_PostOk.mono _ _ _)
      | (with_reducible exact impl_PostRead.mono _ _)
      | (with_reducible exact impl_PostSame.mono _ _ _ _ _)
      | (with_reducible exact impl_PostText.mono _ _ _)
      | (with_reducible exact spec_DrawPostRead.mono _ _)
      | (with_reducible exact spec_DrawPostText.mono _ _)
      | (with_reducible exact spec_PostOk.mono _ _ _)
      | (with_reducible exact spec_PostRead.mono _ _)
      | (with_reducible exact spec_PostText.mono _ _ _)
      | (with_reducible exact LeO.refl _)
      | (with_reducible exact LeO.none _)
      | (with_reducible refine LeO.ite ?_ ?_)
      | (with_reducible refine LeO.bind ?_ (fun _ => ?_))
      | exact ih0 _ _ _
      | exact ih1 _ _
      | exact impl_PostOk.mono _ _ _
      | exact impl_PostRead.mono _ _
      | exact impl_PostSame.mono _ _ _ _ _
      | exact impl_PostText.mono _ _ _
      | exact spec_DrawPostRead.mono _ _
      | exact spec_DrawPostText.mono _ _
      | exact spec_PostOk.mono _ _ _
      | exact spec_PostRead.mono _ _
      | exact spec_PostText.mono _ _ _
      | exact LeO.none _
      | refine LeO.ite ?_ ?_
      | refine LeO.bind ?_ (fun _ => ?_)
    · intro y0 y1
      unfold laws_FnPost.j1
      repeat' first
      | (with_reducible exact ih0 _ _ _)
      | (with_reducible exact ih1 _ _)
      | (with_reducible exact impl_PostOk.mono _ _ _)
      | (with_reducible exact impl_PostRead.mono _ _)
      | (with_reducible exact impl_PostSame.mono _ _ _ _ _)
      | (with_reducible exact impl_PostText.mono _ _ _)
      | (with_reducible exact spec_DrawPostRead.mono _ _)
      | (with_reducible exact spec_DrawPostText.mono _ _)
      | (with_reducible exact spec_PostOk.mono _ _ _)
      | (with_reducible exact spec_PostRead.mono _ _)
      | (with_reducible exact spec_PostText.mono _ _ _)
      | (with_reducible exact LeO.refl _)
      | (with_reducible exact LeO.none _)
      | (with_reducible refine LeO.ite ?_ ?_)
      | (with_reducible refine LeO.bind ?_ (fun _ => ?_))
      | exact ih0 _ _ _
      | exact ih1 _ _
      | exact impl_PostOk.mono _ _ _
      | exact impl_PostRead.mono _ _
      | exact impl_PostSame.mono _ _ _ _ _
      | exact impl_PostText.mono _ _ _
      | exact spec_DrawPostRead.mono _ _
      | exact spec_DrawPostText.mono _ _
      | exact spec_PostOk.mono _ _ _
      | exact spec_PostRead.mono _ _
      | exact spec_PostText.mono _ _ _
      | exact LeO.none _
      | refine LeO.ite ?_ ?_
      | refine LeO.bind ?_ (fun _ => ?_)
theorem laws_FnPost.mono : ∀ a0 a1 k, LeO (laws_FnPost.f k a0 a1) (laws_FnPost.f (k + 1) a0 a1) := by
  intro a0 a1 k
  obtain ⟨ih0, ih1⟩ := laws_FnPost.mono_l k
  unfold laws_FnPost.f
  repeat' first
      | (with_reducible exact ih0 _ _ _)
      | (with_reducible exact ih1 _ _)
      | (with_reducible exact impl_PostOk.mono _ _ _)
      | (with_reducible exact impl_PostRead.mono _ _)
      | (with_reducible exact impl_PostSame.mono _ _ _ _ _)
      | (with_reducible exact impl_PostText.mono _ _ _)
      | (with_reducible exact spec_DrawPostRead.mono _ _)
      | (with_reducible exact spec_DrawPostText.mono _ _)
      | (with_reducible exact spec_PostOk.mono _ _ _)
      | (with_reducible exact spec_PostRead.mono _ _)
      | (with_reducible exact spec_PostText.mono _ _ _)
      | (with_reducible exact LeO.refl _)
      | (with_reducible exact LeO.none _)
      | (with_reducible refine LeO.ite ?_ ?_)
      | (with_reducible refine LeO.bind ?_ (fun _ => ?_))
      | exact ih0 _ _ _
      | exact ih1 _ _
      | exact impl_PostOk.mono _ _ _
      | exact impl_PostRead.mono _ _
      | exact impl_PostSame.mono _ _ _ _ _
      | exact impl_PostText.mono _ _ _
      | exact spec_DrawPostRead.mono _ _
      | exact spec_DrawPostText.mono _ _
      | exact spec_PostOk.mono _ _ _
      | exact spec_PostRead.mono _ _
      | exact spec_PostText.mono _ _ _
      | exact LeO.none _
      | refine LeO.ite ?_ ?_
      | refine LeO.bind ?_ (fun _ => ?_)
def laws_FnPost.T6 : Bool × List (List Nat × List Nat) := (true, [([], []), ([], []), ([1], [1]), ([0, 2], [0, 2]), ([3, 2], [3]), ([4], [4]), ([5, 4, 4], [4, 5]), ([4], [4]), ([7, 6, 4], [4, 7]), ([6, 8, 4], [4, 6, 8]), ([4, 9], [4, 9]), ([10, 8], [10]), ([11], [11]), ([11], [11]), ([13, 11, 11], [11, 13]), ([12, 14, 11], [11, 12, 14]), ([11, 15], [11, 15]), ([16, 14], [16]), ([17], [17]), ([18, 17, 17], [17, 18]), ([19], [19]), ([19], [19]), ([20, 21, 19, 19], [19, 20, 21]), ([22, 19], [19, 22]), ([19, 23, 17], [17, 19, 23]), ([17, 24], [17, 24])])
def laws_FnPost.B6 : List Nat := [0, 0, 2, 7, 15, 31, 63, 31, 255, 511, 1023, 2047, 4095, 4095, 12287, 32767, 65535, 131071, 262143, 524287, 1048575, 1048575, 4194303, 8388607, 16777215, 33554431]
theorem laws_FnPost.tab6 : rtab .any (opsOf Tryd.f5 6) = laws_FnPost.T6 := by kernel_rfl
theorem laws_FnPost.bits6 : waitsOk laws_FnPost.T6.2 laws_FnPost.B6 = true := by kernel_rfl
theorem laws_FnPost_vb {p q : Prop} (h : Aside0 p) (k : p → q := by (intro hz; (with_reducible repeat (first | refine blk_drewN ?_ _ | refine blk_drew ?_ | refine blk_alloc ?_ _)); exact hz)) : q := k h.out
theorem laws_FnPost_auHB {q : Prop} (h : q := by (repeat (first | (with_reducible first | exact HB.out | apply below_alloc | apply pw_below_drewN | apply below_drew1 | refine below_set ?_ GE326.out | refine below_set ?_ GE333.out | refine below_set ?_ GE345.out | refine below_set ?_ GE351.out) | exact HB.out))) : q := h
set_option maxHeartbeats 8000000 in
set_option maxRecDepth 100000 in
theorem laws_FnPost.calls (k : Nat) (A0 : Option Addr) (c0 : Nat) (l0 : List Int) (A1 : Option Addr) (c1 : Nat) (l1 : List Int) (r : Bool) (w : World) (htab : Tab w) (hr0 : Kd.C (Kd.int .u8) w A0 l0.length l0) (hc0 : l0.length ≤ c0) (hr1 : Kd.C (Kd.int .u8) w A1 l1.length l1) (hc1 : l1.length ≤ c1) (h : laws_FnPost.f k l0 l1 = some r) :
  Calls Tryd.prog 5 #[.slice A0 l0.length c0, .slice A1 l1.length c1] w fun e w' => e = .returned (.bool r) ∧ Below w.heap.size w w' := by
 have HTAB := Aside0.mk htab
 clear htab
 have hu29 := Tryd.underlying29
 have HR0 := Aside0.mk hr0
 have HC0 := Aside0.mk hc0
 clear hr0 hc0
 have HR1 := Aside0.mk hr1
 have HC1 := Aside0.mk hc1
 clear hr1 hc1
 have HB := Aside0.mk (Below.refl w.heap.size w)
 have H : (if (l0.length : Int) > 1048576 then (laws_FnPost.j0 k l0 l1 true) else (laws_FnPost.j0 k l0 l1 (decide ((l1.length : Int) > 1048576)))) = some r := h
 clear h
 have HC3 := Aside0.mk H
 clear H
 go_enter Tryd.func5, Tryd.ntmps5
 go_upto_region 1 with (fail)
 go_cut [21] (fun v21 wc => ∃ (kq : Nat) (x21_2 : Bool), v21 = .bool x21_2 ∧ Aside0 (laws_FnPost.j0 kq l0 l1 x21_2 = some r) ∧ Aside0 (kq ≤ k) ∧ Aside0 (Below w.heap.size w wc))
 case first =>
  have H := HC3.out
  clear HC3
  by_cases c4 : (l0.length : Int) > 1048576
  ·
   rw [if_pos c4] at H
   have c4b0 : decide (1048576 < (l0.length : Int)) = true := decide_eq_true c4
   have c4b1 : decide (1048576 < l0.length) = true := decide_eq_true (by omega)
   clear c4
   (first | rw [c4b0] | (simp only [i64_w, i32_w]; rw [c4b0]) | skip)
   have H' := Aside0.mk H
   clear H
   go_wp2
   go_meet
   case rel => exact ⟨_, (true), (by first | rfl | (simp; done) | (simp [*]; done)), H', ⟨by first | omega | exact Nat.le_refl _⟩, ⟨laws_FnPost_auHB⟩⟩
  rw [if_neg c4] at H
  have c4b0 : decide (1048576 < (l0.length : Int)) = false := decide_eq_false c4
  have c4b1 : decide (1048576 < l0.length) = false := decide_eq_false (by omega)
  clear c4
  (first | rw [c4b0] | (simp only [i64_w, i32_w]; rw [c4b0]) | skip)
  have H' := Aside0.mk H
  clear H
  go_wp2
  go_meet
  case rel => exact ⟨_, (decide ((l1.length : Int) > 1048576)), (by first | rfl | (simp; done) | (simp [*]; done)), H', ⟨by first | omega | exact Nat.le_refl _⟩, ⟨laws_FnPost_auHB⟩⟩
 case rest =>
  clear HC3
  try clear c1
  try clear p2
  try clear c4
  try clear c4b0
  try clear c4b1
  obtain ⟨kq, x21_2, rfl, HA, HJ2, HB⟩ := hcut
  cases kq with
  | zero => exact absurd HA.out (by simp [laws_FnPost.j0])
  | succ kj2 =>
   have H := HA.out
   clear HA
   simp only [laws_FnPost.j0] at H
   by_cases c5 : x21_2 = true
   ·
    subst c5
    have H1 : (some true) = some r := by rw [if_pos rfl] at H; exact H
    clear H
    have H := H1
    clear H1
    obtain rfl := Option.some.inj H
    go_wp2
    go_ret
    exact ⟨by first | rfl | (simp [errW_none, errW_some] <;> rfl) | (simp [*, errW_none, errW_some] <;> rfl), laws_FnPost_auHB⟩
   replace c5 := Bool.eq_false_iff.mpr c5
   subst c5
   have H1 : ((spec_DrawPostText.f kj2 l0).bind fun bt322 => ((impl_PostText.f kj2 bt322.1 bt322.2).bind fun t327 => ((impl_PostRead.f kj2 t327).bind fun bt328 => ((spec_PostText.f kj2 bt322.1 bt322.2).bind fun t334 => (if t327.toList = t334.toList then ((impl_PostOk.f kj2 bt322.1 bt322.2).bind fun t335 => ((spec_PostOk.f kj2 bt322.1 bt322.2).bind fun t336 => (if (t335 != t336) = true then (laws_FnPost.j1 kj2 l1 true) else ((spec_PostOk.f kj2 bt322.1 bt322.2).bind fun t337 => (if (bt328.2.2 != t337) = true then (laws_FnPost.j1 kj2 l1 true) else (if bt328.2.2 = true then ((impl_PostSame.f kj2 bt328.1 bt328.2.1 bt322.1 bt322.2).bind fun t338 => (laws_FnPost.j1 kj2 l1 (!t338))) else (laws_FnPost.j1 kj2 l1 false))))))) else (laws_FnPost.j1 kj2 l1 true)))))) = some r := by rw [if_neg (show ¬ (false = true) by decide)] at H; exact H
   clear H
   have H := H1
   clear H1
   replace H := Option.bind_eq_some_iff.mp H
   obtain ⟨⟨t322, t323⟩, A60, H⟩ := H
   replace H : ((impl_PostText.f kj2 t322 t323).bind fun t327 => ((impl_PostRead.f kj2 t327).bind fun bt328 => ((spec_PostText.f kj2 t322 t323).bind fun t334 => (if t327.toList = t334.toList then ((impl_PostOk.f kj2 t322 t323).bind fun t335 => ((spec_PostOk.f kj2 t322 t323).bind fun t336 => (if (t335 != t336) = true then (laws_FnPost.j1 kj2 l1 true) else ((spec_PostOk.f kj2 t322 t323).bind fun t337 => (if (bt328.2.2 != t337) = true then (laws_FnPost.j1 kj2 l1 true) else (if bt328.2.2 = true then ((impl_PostSame.f kj2 bt328.1 bt328.2.1 t322 t323).bind fun t338 => (laws_FnPost.j1 kj2 l1 (!t338))) else (laws_FnPost.j1 kj2 l1 false))))))) else (laws_FnPost.j1 kj2 l1 true))))) = some r := H
   have A6 := Aside0.mk A60
   clear A60
   replace H := Option.bind_eq_some_iff.mp H
   obtain ⟨t327, A70, H⟩ := H
   replace H : ((impl_PostRead.f kj2 t327).bind fun bt328 => ((spec_PostText.f kj2 t322 t323).bind fun t334 => (if t327.toList = t334.toList then ((impl_PostOk.f kj2 t322 t323).bind fun t335 => ((spec_PostOk.f kj2 t322 t323).bind fun t336 => (if (t335 != t336) = true then (laws_FnPost.j1 kj2 l1 true) else ((spec_PostOk.f kj2 t322 t323).bind fun t337 => (if (bt328.2.2 != t337) = true then (laws_FnPost.j1 kj2 l1 true) else (if bt328.2.2 = true then ((impl_PostSame.f kj2 bt328.1 bt328.2.1 t322 t323).bind fun t338 => (laws_FnPost.j1 kj2 l1 (!t338))) else (laws_FnPost.j1 kj2 l1 false))))))) else (laws_FnPost.j1 kj2 l1 true)))) = some r := H
   have A7 := Aside0.mk A70
   clear A70
   replace H := Option.bind_eq_some_iff.mp H
   obtain ⟨⟨t328, t329, t332⟩, A80, H⟩ := H
   replace H : ((spec_PostText.f kj2 t322 t323).bind fun t334 => (if t327.toList = t334.toList then ((impl_PostOk.f kj2 t322 t323).bind fun t335 => ((spec_PostOk.f kj2 t322 t323).bind fun t336 => (if (t335 != t336) = true then (laws_FnPost.j1 kj2 l1 true) else ((spec_PostOk.f kj2 t322 t323).bind fun t337 => (if (t332 != t337) = true then (laws_FnPost.j1 kj2 l1 true) else (if t332 = true then ((impl_PostSame.f kj2 t328 t329 t322 t323).bind fun t338 => (laws_FnPost.j1 kj2 l1 (!t338))) else (laws_FnPost.j1 kj2 l1 false))))))) else (laws_FnPost.j1 kj2 l1 true))) = some r := H
   have A8 := Aside0.mk A80
   clear A80
   have HC9 := Aside0.mk H
   clear H
   go_upto_region 6 with (first | ((with_reducible refine gate_callee (f := 15) rfl ?_); refine goesL_ (some 23) rfl rfl Tryd.func15 (by kernel_rfl) rfl #[.slice A0 l0.length c0] rfl (by (try simp only [List.map_toArray, List.map_cons, List.map_nil]); first | done | rfl | (simp only [List.length_drop, List.length_take]; rfl)) ?_; (with_reducible refine (spec_DrawPostText.calls kj2 _ _ l0 t322 t323 _ ?side1 ?side2 A6.out).mono ?_); (case side1 => repeat (first | exact (Kd.C_below HR0.out HB.out) | (with_reducible refine Kd.C_alloc ?_ _) | (with_reducible refine Kd.C_drewN ?_ _) | (with_reducible refine Kd.C_drew ?_))); (case side2 => exact HC0.out); rintro e w10 ⟨v324, rfl, ho0, hb⟩; refine ⟨_, rfl, ?_⟩; have HO325 := Aside0.mk (Kd.R_lower ho0 (below_size (laws_FnPost_auHB))); replace HB := Aside0.mk (below_step (laws_FnPost_auHB) hb); (try clear hb); (try clear hb2); (try clear hk); (try clear hi); (try clear ho0)) | ((with_reducible refine gate_dst (N := 5) rfl ?_); (try (refine gate_guard (by rfl) ?_; dsimp only)); refine box_event ?hg (N := 5) ?hd (cs := #[.int .i64 0, .slice none 0 0]) (t := 29) ?hr ?_; (case hd => rfl); (case hg => rfl); (case hr => first | (go_simp; done) | (go_simp; rfl)); intro gb326 hg w11 hbox hb; replace HO325 := Aside0.mk (Kd.R_below (lo_ HO325) hb); have BK326 := Aside0.mk (hbox); have GW326 := Aside0.mk ((by rw [hg]; exact (below_size (laws_FnPost_auHB)) : w.heap.size ≤ gb326)); have GE326 := Aside0.mk ((by rw [hg]; exact (below_size (laws_FnPost_auHB)) : w.heap.size ≤ gb326)); replace HB := Aside0.mk (below_step (laws_FnPost_auHB) hb); clear hb hbox hg; have hcz12_0 : w11.cell? ⟨gb326, 0, none⟩ = some (.int .i64 0) := (blk_cell BK326.out 0).trans rfl; have hcz12_1 : w11.cell? ⟨gb326, 1, none⟩ = some (.slice none 0 0) := (blk_cell BK326.out 1).trans rfl; have hfz12_0 := blk_frozen BK326.out 0; have hfz12_1 := blk_frozen BK326.out 1; obtain ⟨Ao13, co13, eo13⟩ := Kd.R_slice HO325.out; subst eo13) | ((with_reducible refine gate_callee (f := 9) rfl ?_); refine goesL_ (some 25) rfl rfl Tryd.func9 (by kernel_rfl) rfl #[.agg #[.int .i64 t322, .slice Ao13 t323.length co13]] rfl (by (try simp only [List.map_toArray, List.map_cons, List.map_nil]); first | done | rfl | (simp only [List.length_drop, List.length_take]; rfl)) ?_; (with_reducible refine (impl_PostText.calls kj2 t322 _ _ t323 t327 _ (HTAB.out.below (by first | exact laws_FnPost_auHB | (repeat (first | (with_reducible first | exact HB.out | apply below_alloc | apply pw_below_drewN | apply below_drew1 | refine below_set ?_ GE326.out | refine below_set ?_ GE333.out | refine below_set ?_ GE345.out | refine below_set ?_ GE351.out) | exact HB.out)))) ?side1 ?side2 A7.out).mono ?_); (case side1 => refine (Kd.R_reads' (e := 45) (base := w.heap.size) (ok := fun k_ => True) (n := t323.length) (c := co13) ?_).2.2; exact (by (with_reducible repeat (first | apply Kd.R_alloc | apply Kd.R_drewN | apply Kd.R_drew)); exact (Kd.R_mono (Kd.R_far (p := ⟨gb326, 1, none⟩) (Kd.R_far (p := ⟨gb326, 0, none⟩) (Kd.R_types HO325.out BK326.out (by decide)) (fun _ hk => hk.2) (.int .i64 t322)) (fun _ hk => hk.2) (.slice Ao13 t323.length co13)) (fun _ h_ => h_.1)))); (case side2 => exact (Kd.R_reads' HO325.out).2.1); rintro e w14 ⟨rfl, hb⟩; refine ⟨_, rfl, ?_⟩; replace HO325 := Aside0.mk (Kd.R_below (by (with_reducible repeat (first | apply Kd.R_alloc | apply Kd.R_drewN | apply Kd.R_drew)); exact (Kd.R_mono (Kd.R_far (p := ⟨gb326, 1, none⟩) (Kd.R_far (p := ⟨gb326, 0, none⟩) (Kd.R_types HO325.out BK326.out (by decide)) (fun _ hk => hk.2) (.int .i64 t322)) (fun _ hk => hk.2) (.slice Ao13 t323.length co13)) (fun _ h_ => h_.1))) hb); replace BK326 := Aside0.mk (blk_below (g := gb326) (o := .cells #[.int .i64 t322, .slice Ao13 t323.length co13] 29 (0, 0)) (by (with_reducible repeat (first | refine blk_drewN ?_ _ | refine blk_drew ?_ | refine blk_alloc ?_ _)); refine blk_put (cs := #[.int .i64 t322, .slice none 0 0]) ?_ 1 _ rfl; (with_reducible repeat (first | refine blk_drewN ?_ _ | refine blk_drew ?_ | refine blk_alloc ?_ _)); refine blk_put (cs := #[.int .i64 0, .slice none 0 0]) ?_ 0 _ rfl; (with_reducible repeat (first | refine blk_drewN ?_ _ | refine blk_drew ?_ | refine blk_alloc ?_ _)); exact BK326.out) hb); replace HB := Aside0.mk (below_step (laws_FnPost_auHB) hb); (try clear hb); (try clear hb2); (try clear hk); (try clear hi)) | ((with_reducible refine gate_callee (f := 12) rfl ?_); refine goesL_ (some 28) rfl rfl Tryd.func12 (by kernel_rfl) rfl #[.string t327] rfl (by (try simp only [List.map_toArray, List.map_cons, List.map_nil]); first | done | rfl | (simp only [List.length_drop, List.length_take]; rfl)) ?_; (with_reducible refine (impl_PostRead.calls kj2 t327 t328 t329 t332 _ (HTAB.out.below (by first | exact laws_FnPost_auHB | (repeat (first | (with_reducible first | exact HB.out | apply below_alloc | apply pw_below_drewN | apply below_drew1 | refine below_set ?_ GE326.out | refine below_set ?_ GE333.out | refine below_set ?_ GE345.out | refine below_set ?_ GE351.out) | exact HB.out)))) A8.out).mono ?_); rintro e w15 ⟨v330, rfl, ho0, hb⟩; refine ⟨_, rfl, ?_⟩; have HO331 := Aside0.mk (Kd.R_lower (Kd.R_new' ho0 (Kd.R_lt (lo_ HO325))) (below_size (laws_FnPost_auHB))); replace HO325 := Aside0.mk (Kd.R_elder' (lo_ HO325) (Kd.R_base ho0) hb); replace BK326 := Aside0.mk (blk_below (g := gb326) (o := .cells #[.int .i64 t322, .slice Ao13 t323.length co13] 29 (0, 0)) (laws_FnPost_vb BK326) hb); replace HB := Aside0.mk (below_step (laws_FnPost_auHB) hb); (try clear hb); (try clear hb2); (try clear hk); (try clear hi); (try clear ho0)) | ((with_reducible refine gate_dst (N := 7) rfl ?_); (try (refine gate_guard (by rfl) ?_; dsimp only)); refine box_event ?hg (N := 7) ?hd (cs := #[.int .i64 0, .slice none 0 0]) (t := 29) ?hr ?_; (case hd => rfl); (case hg => rfl); (case hr => first | (go_simp; done) | (go_simp; rfl)); intro gb333 hg w16 hbox hb; replace HO325 := Aside0.mk (Kd.R_below (lo_ HO325) hb); replace HO331 := Aside0.mk (Kd.R_below (lo_ HO331) hb); have BK333 := Aside0.mk (hbox); have GW333 := Aside0.mk ((by rw [hg]; exact (below_size (laws_FnPost_auHB)) : w.heap.size ≤ gb333)); have GE333 := Aside0.mk ((by rw [hg]; exact (below_size (laws_FnPost_auHB)) : w.heap.size ≤ gb333)); replace HB := Aside0.mk (below_step (laws_FnPost_auHB) hb); have NB326_333 := Aside0.mk ((by rw [hg]; exact Nat.ne_of_lt (blk_lt (g := gb326) (o := .cells #[.int .i64 t322, .slice Ao13 t323.length co13] 29 (0, 0)) (laws_FnPost_vb BK326)) : gb326 ≠ gb333)); have NB333_326 := Aside0.mk ((by rw [hg]; exact Nat.ne_of_gt (blk_lt (g := gb326) (o := .cells #[.int .i64 t322, .slice Ao13 t323.length co13] 29 (0, 0)) (laws_FnPost_vb BK326)) : gb333 ≠ gb326)); replace BK326 := Aside0.mk (blk_below (g := gb326) (o := .cells #[.int .i64 t322, .slice Ao13 t323.length co13] 29 (0, 0)) (laws_FnPost_vb BK326) hb); clear hb hbox hg; have hnb17 := NB333_326.out; have hnc17 := NB326_333.out; have hcz18_0 : w16.cell? ⟨gb333, 0, none⟩ = some (.int .i64 0) := (blk_cell BK333.out 0).trans rfl; have hcz18_1 : w16.cell? ⟨gb333, 1, none⟩ = some (.slice none 0 0) := (blk_cell BK333.out 1).trans rfl; have hfz18_0 := blk_frozen BK333.out 0; have hfz18_1 := blk_frozen BK333.out 1; obtain ⟨Ao19, co19, eo19⟩ := Kd.R_slice HO331.out; subst eo19))
   (try simp only [Act.put, List.setIfInBounds_toArray, List.set_cons_zero, List.set_cons_succ])
   go_cut [56] (fun v56 wc => ∃ (kq : Nat) (x56_8 : Bool), v56 = .bool x56_8 ∧ Aside0 (laws_FnPost.j1 kq l1 x56_8 = some r) ∧ Aside0 (kq ≤ kj2) ∧ Aside0 (Kd.R k45 45 wc w.heap.size (fun k_ => some k_ ≠ ((.slice Ao19 t329.length co19) : Value).ownBlock) (.slice Ao13 t323.length co13) t323) ∧ Aside0 (Kd.R k45 45 wc w.heap.size (fun k_ => some k_ ≠ ((.slice Ao13 t323.length co13) : Value).ownBlock) (.slice Ao19 t329.length co19) t329) ∧ Aside0 (wc.heap[gb326]? = some (.cells #[.int .i64 t322, (.slice Ao13 t323.length co13)] 29 (0, 0))) ∧ Aside0 (wc.heap[gb333]? = some (.cells #[.int .i64 t328, (.slice Ao19 t329.length co19)] 29 (0, 0))) ∧ Aside0 (Below w.heap.size w wc))
   case first =>
    have H := HC9.out
    clear HC9
    replace H := Option.bind_eq_some_iff.mp H
    obtain ⟨t334, A200, H⟩ := H
    replace H : (if t327.toList = t334.toList then ((impl_PostOk.f kj2 t322 t323).bind fun t335 => ((spec_PostOk.f kj2 t322 t323).bind fun t336 => (if (t335 != t336) = true then (laws_FnPost.j1 kj2 l1 true) else ((spec_PostOk.f kj2 t322 t323).bind fun t337 => (if (t332 != t337) = true then (laws_FnPost.j1 kj2 l1 true) else (if t332 = true then ((impl_PostSame.f kj2 t328 t329 t322 t323).bind fun t338 => (laws_FnPost.j1 kj2 l1 (!t338))) else (laws_FnPost.j1 kj2 l1 false))))))) else (laws_FnPost.j1 kj2 l1 true)) = some r := H
    have A20 := Aside0.mk A200
    clear A200
    by_cases c21 : t327.toList = t334.toList
    rotate_left
    ·
     rw [if_neg c21] at H
     have c21b0 : (t327.toList == t334.toList) = false := beq_eq_false_iff_ne.mpr c21
     have c21b1 : (t327.toList != t334.toList) = true := bne_iff_ne.mpr c21
     (first | rw [c21b0] | (simp only [i64_w, i32_w]; rw [c21b0]) | skip)
     have H' := Aside0.mk H
     clear H
     try go_wp2
     have n0_ : Aside0 (Kd.R k45 45 ((w16.setCell ⟨gb333, 0, none⟩ (.int .i64 t328)).setCell ⟨gb333, 1, none⟩ (.slice Ao19 t329.length co19)) w.heap.size (fun k_ => some k_ ≠ (.slice Ao19 t329.length co19 : Value).ownBlock) (.slice Ao13 t323.length co13) t323) := ⟨by (with_reducible repeat (first | apply Kd.R_alloc | apply Kd.R_drewN | apply Kd.R_drew)); exact Kd.R_mono (Kd.R_far (p := ⟨gb333, 1, none⟩) (Kd.R_far (p := ⟨gb333, 0, none⟩) (Kd.R_types HO325.out BK333.out (by decide)) (fun _ hk => hk.2) (.int .i64 t328)) (fun _ hk => hk.2) (.slice Ao19 t329.length co19)) (fun _ hk => hk.1.2)⟩
     have n1_ : Aside0 (Kd.R k45 45 ((w16.setCell ⟨gb333, 0, none⟩ (.int .i64 t328)).setCell ⟨gb333, 1, none⟩ (.slice Ao19 t329.length co19)) w.heap.size (fun k_ => some k_ ≠ (.slice Ao13 t323.length co13 : Value).ownBlock) (.slice Ao19 t329.length co19) t329) := ⟨by (with_reducible repeat (first | apply Kd.R_alloc | apply Kd.R_drewN | apply Kd.R_drew)); exact Kd.R_mono (Kd.R_far (p := ⟨gb333, 1, none⟩) (Kd.R_far (p := ⟨gb333, 0, none⟩) (Kd.R_types HO331.out BK333.out (by decide)) (fun _ hk => hk.2) (.int .i64 t328)) (fun _ hk => hk.2) (.slice Ao19 t329.length co19)) (fun _ hk => hk.1.2)⟩
     have n2_ : Aside0 (((w16.setCell ⟨gb333, 0, none⟩ (.int .i64 t328)).setCell ⟨gb333, 1, none⟩ (.slice Ao19 t329.length co19)).heap[gb326]? = some (.cells #[.int .i64 t322, .slice Ao13 t323.length co13] 29 (0, 0))) := ⟨by (with_reducible repeat (first | refine blk_drewN ?_ _ | refine blk_drew ?_ | refine blk_alloc ?_ _)); refine blk_far ?_ NB326_333.out _; (with_reducible repeat (first | refine blk_drewN ?_ _ | refine blk_drew ?_ | refine blk_alloc ?_ _)); refine blk_far ?_ NB326_333.out _; (with_reducible repeat (first | refine blk_drewN ?_ _ | refine blk_drew ?_ | refine blk_alloc ?_ _)); exact BK326.out⟩
     have n3_ : Aside0 (((w16.setCell ⟨gb333, 0, none⟩ (.int .i64 t328)).setCell ⟨gb333, 1, none⟩ (.slice Ao19 t329.length co19)).heap[gb333]? = some (.cells #[.int .i64 t328, .slice Ao19 t329.length co19] 29 (0, 0))) := ⟨by (with_reducible repeat (first | refine blk_drewN ?_ _ | refine blk_drew ?_ | refine blk_alloc ?_ _)); refine blk_put (cs := #[.int .i64 t328, .slice none 0 0]) ?_ 1 _ rfl; (with_reducible repeat (first | refine blk_drewN ?_ _ | refine blk_drew ?_ | refine blk_alloc ?_ _)); refine blk_put (cs := #[.int .i64 0, .slice none 0 0]) ?_ 0 _ rfl; (with_reducible repeat (first | refine blk_drewN ?_ _ | refine blk_drew ?_ | refine blk_alloc ?_ _)); exact BK333.out⟩
     have n4_ : Aside0 (Below w.heap.size w ((w16.setCell ⟨gb333, 0, none⟩ (.int .i64 t328)).setCell ⟨gb333, 1, none⟩ (.slice Ao19 t329.length co19))) := ⟨laws_FnPost_auHB⟩
     (try clear HO325)
     (try clear HO331)
     (try clear BK326)
     (try clear BK333)
     (try clear HB)
     generalize ((w16.setCell ⟨gb333, 0, none⟩ (.int .i64 t328)).setCell ⟨gb333, 1, none⟩ (.slice Ao19 t329.length co19)) = w53 at n0_ n1_ n2_ n3_ n4_ ⊢
     have HO325 := n0_
     have HO331 := n1_
     have BK326 := n2_
     have BK333 := n3_
     have HB := n4_
     clear n0_ n1_ n2_ n3_ n4_
     replace HO325 := Aside0.mk (Kd.R_drew HO325.out)
     replace HO331 := Aside0.mk (Kd.R_drew HO331.out)
     replace BK326 := Aside0.mk (blk_drew BK326.out)
     replace BK333 := Aside0.mk (blk_drew BK333.out)
     replace HB := Aside0.mk (below_drew1 HB.out)
     refine start_ (n := 26) (S := fun w' => w'.cell? ⟨gb326, 0, none⟩ = some (.int .i64 t322) ∧ w'.cell? ⟨gb326, 1, none⟩ = some (.slice Ao13 t323.length co13)) (ds := []) #[false, false, false, false, false, false, false, false, false, false, false, false, false, false, false, false, false, false, false, false, false, false, false, false, false, false] (by kernel_rfl) rfl rfl ⟨(blk_cell BK326.out 0).trans rfl, (blk_cell BK326.out 1).trans rfl⟩ (fun hHeld => ?_); refine with_tabW laws_FnPost.tab6 laws_FnPost.bits6 (fun HT_ HW_ => ?_)
     generalize w53.drew = w54 at HO325 HO331 BK326 BK333 HB hHeld ⊢
     refine pu_ 0 (some 31) HT_ rfl rfl (by go_simp; rfl) (by kernel_rfl) rfl (by intro w'; go_simp; with_reducible rfl) (fun _ _ _ h => h) (by go_simp; rfl) ?_
     refine ta_ 1 (some 32) HT_ HW_ hHeld rfl rfl (by go_simp; rfl) (by kernel_rfl) rfl (by rintro w' ⟨s0, s1⟩; go_simp; with_reducible rfl) (fun _ _ _ h => h) (by go_simp; rfl) ?_
     refine one_ (i := 2) (N := some 33) #[true, true, true, false, false, false, false, false, false, false, false, false, false, false, false, false, false, false, false, false, false, false, false, false, false, false] rfl rfl (one_of HT_.out (by kernel_rfl)) (by decide) (fun K hK => ?_)
     refine goes_ Tryd.func7 (by kernel_rfl) rfl #[.agg #[.int .i64 t322, .slice Ao13 t323.length co13]] (by rfl) rfl rfl (by (try simp only [List.map_toArray, List.map_cons, List.map_nil]); first | done | rfl | (simp only [List.length_drop, List.length_take]; rfl)) ?_
     with_reducible refine (spec_PostText.calls kj2 t322 _ _ t323 t334 _ ?side1 ?side2 A20.out).mono ?_
     (case side1 => exact co_ (Kd.R_reads' HO325.out).2.2)
     (case side2 => exact (Kd.R_reads' HO325.out).2.1)
     rintro e w55 ⟨rfl, hb⟩
     refine ⟨_, rfl, ?_⟩
     replace HO325 := Aside0.mk (Kd.R_below (lo_ HO325) hb)
     replace HO331 := Aside0.mk (Kd.R_below (lo_ HO331) hb)
     replace BK326 := Aside0.mk (blk_below (g := gb326) (o := .cells #[.int .i64 t322, .slice Ao13 t323.length co13] 29 (0, 0)) (laws_FnPost_vb BK326) hb)
     replace BK333 := Aside0.mk (blk_below (g := gb333) (o := .cells #[.int .i64 t328, .slice Ao19 t329.length co19] 29 (0, 0)) (laws_FnPost_vb BK333) hb)
     replace HB := Aside0.mk (below_step (laws_FnPost_auHB) hb)
     (try clear hb)
     (try clear hb2)
     (try clear hk)
     (try clear hi)
     refine hK.out _ _ ⟨(blk_cell BK326.out 0).trans rfl, (blk_cell BK326.out 1).trans rfl⟩ (fun hHeld => ?_)
     clear hK K
     refine norm_ (a' := ?_) ?_ ?_
     rotate_left
     ·
      show Act.put _ (some 33) _ = _
      simp only [Act.put, List.setIfInBounds_toArray, List.set_cons_zero, List.set_cons_succ, i64_w, i32_w]
      rfl
     refine pu_ 3 (some 34) HT_ rfl rfl (by go_simp; rfl) (by kernel_rfl) rfl (by intro w'; go_simp; with_reducible rfl) (fun _ _ _ h => h) (by go_simp; rfl) ?_
     refine pu_ 4 (some 35) HT_ rfl rfl (by go_simp; rfl) (by kernel_rfl) rfl (by intro w'; go_simp; with_reducible rfl) (fun _ _ _ h => h) (by go_simp; rfl) ?_
     refine pure_ (i := 5) (N := some 36) (v := undef) (a' := ?_) #[true, true, true, true, true, true, false, false, false, false, false, false, false, false, false, false, false, false, false, false, false, false, false, false, false, false] rfl rfl (any_of HT_.out (by kernel_rfl)) (fun _ _ _ h => h) (Or.inr ⟨by rfl, rfl⟩) ?_ ?_
     rotate_left
     ·
      simp only [Act.put, List.setIfInBounds_toArray, List.set_cons_zero, List.set_cons_succ, i64_w, i32_w]
      rfl
     refine pure_ (i := 6) (N := some 37) (v := undef) (a' := ?_) #[true, true, true, true, true, true, true, false, false, false, false, false, false, false, false, false, false, false, false, false, false, false, false, false, false, false] rfl rfl (any_of HT_.out (by kernel_rfl)) (fun _ _ _ h => h) (Or.inr ⟨by rfl, rfl⟩) ?_ ?_
     rotate_left
     ·
      simp only [Act.put, List.setIfInBounds_toArray, List.set_cons_zero, List.set_cons_succ, i64_w, i32_w]
      rfl
     refine pure_ (i := 7) (N := some 38) (v := undef) (a' := ?_) #[true, true, true, true, true, true, true, true, false, false, false, false, false, false, false, false, false, false, false, false, false, false, false, false, false, false] rfl rfl (any_of HT_.out (by kernel_rfl)) (fun _ _ _ h => h) (Or.inr ⟨by rfl, rfl⟩) ?_ ?_
     rotate_left
     ·
      simp only [Act.put, List.setIfInBounds_toArray, List.set_cons_zero, List.set_cons_succ, i64_w, i32_w]
      rfl
     refine pure_ (i := 8) (N := some 39) (v := undef) (a' := ?_) #[true, true, true, true, true, true, true, true, true, false, false, false, false, false, false, false, false, false, false, false, false, false, false, false, false, false] rfl rfl (any_of HT_.out (by kernel_rfl)) (fun _ _ _ h => h) (Or.inr ⟨by rfl, rfl⟩) ?_ ?_
     rotate_left
     ·
      simp only [Act.put, List.setIfInBounds_toArray, List.set_cons_zero, List.set_cons_succ, i64_w, i32_w]
      rfl
     refine pure_ (i := 9) (N := some 40) (v := undef) (a' := ?_) #[true, true, true, true, true, true, true, true, true, true, false, false, false, false, false, false, false, false, false, false, false, false, false, false, false, false] rfl rfl (any_of HT_.out (by kernel_rfl)) (fun _ _ _ h => h) (Or.inr ⟨by rfl, rfl⟩) ?_ ?_
     rotate_left
     ·
      simp only [Act.put, List.setIfInBounds_toArray, List.set_cons_zero, List.set_cons_succ, i64_w, i32_w]
      rfl
     refine pu_ 10 (some 41) HT_ rfl rfl (by go_simp; rfl) (by kernel_rfl) rfl (by intro w'; go_simp; with_reducible rfl) (fun _ _ _ h => h) (by go_simp; rfl) ?_
     refine pu_ 11 (some 42) HT_ rfl rfl (by go_simp; rfl) (by kernel_rfl) rfl (by intro w'; go_simp; with_reducible rfl) (fun _ _ _ h => h) (by go_simp; rfl) ?_
     refine pure_ (i := 12) (N := some 43) (v := undef) (a' := ?_) #[true, true, true, true, true, true, true, true, true, true, true, true, true, false, false, false, false, false, false, false, false, false, false, false, false, false] rfl rfl (any_of HT_.out (by kernel_rfl)) (fun _ _ _ h => h) (Or.inr ⟨by rfl, rfl⟩) ?_ ?_
     rotate_left
     ·
      simp only [Act.put, List.setIfInBounds_toArray, List.set_cons_zero, List.set_cons_succ, i64_w, i32_w]
      rfl
     refine pure_ (i := 13) (N := some 44) (v := undef) (a' := ?_) #[true, true, true, true, true, true, true, true, true, true, true, true, true, true, false, false, false, false, false, false, false, false, false, false, false, false] rfl rfl (any_of HT_.out (by kernel_rfl)) (fun _ _ _ h => h) (Or.inr ⟨by rfl, rfl⟩) ?_ ?_
     rotate_left
     ·
      simp only [Act.put, List.setIfInBounds_toArray, List.set_cons_zero, List.set_cons_succ, i64_w, i32_w]
      rfl
     refine pure_ (i := 14) (N := some 45) (v := undef) (a' := ?_) #[true, true, true, true, true, true, true, true, true, true, true, true, true, true, true, false, false, false, false, false, false, false, false, false, false, false] rfl rfl (any_of HT_.out (by kernel_rfl)) (fun _ _ _ h => h) (Or.inr ⟨by rfl, rfl⟩) ?_ ?_
     rotate_left
     ·
      simp only [Act.put, List.setIfInBounds_toArray, List.set_cons_zero, List.set_cons_succ, i64_w, i32_w]
      rfl
     refine pure_ (i := 15) (N := some 46) (v := undef) (a' := ?_) #[true, true, true, true, true, true, true, true, true, true, true, true, true, true, true, true, false, false, false, false, false, false, false, false, false, false] rfl rfl (any_of HT_.out (by kernel_rfl)) (fun _ _ _ h => h) (Or.inr ⟨by rfl, rfl⟩) ?_ ?_
     rotate_left
     ·
      simp only [Act.put, List.setIfInBounds_toArray, List.set_cons_zero, List.set_cons_succ, i64_w, i32_w]
      rfl
     refine pu_ 16 (some 47) HT_ rfl rfl (by go_simp; rfl) (by kernel_rfl) rfl (by intro w'; go_simp; with_reducible rfl) (fun _ _ _ h => h) (by go_simp; rfl) ?_
     refine pu_ 17 (some 48) HT_ rfl rfl (by go_simp; rfl) (by kernel_rfl) rfl (by intro w'; go_simp; with_reducible rfl) (fun _ _ _ h => h) (by go_simp; rfl) ?_
     refine pure_ (i := 18) (N := some 49) (v := undef) (a' := ?_) #[true, true, true, true, true, true, true, true, true, true, true, true, true, true, true, true, true, true, true, false, false, false, false, false, false, false] rfl rfl (any_of HT_.out (by kernel_rfl)) (fun _ _ _ h => h) (Or.inr ⟨by rfl, rfl⟩) ?_ ?_
     rotate_left
     ·
      simp only [Act.put, List.setIfInBounds_toArray, List.set_cons_zero, List.set_cons_succ, i64_w, i32_w]
      rfl
     refine pure_ (i := 19) (N := some 50) (v := undef) (a' := ?_) #[true, true, true, true, true, true, true, true, true, true, true, true, true, true, true, true, true, true, true, true, false, false, false, false, false, false] rfl rfl (any_of HT_.out (by kernel_rfl)) (fun _ _ _ h => h) (Or.inr ⟨by rfl, rfl⟩) ?_ ?_
     rotate_left
     ·
      simp only [Act.put, List.setIfInBounds_toArray, List.set_cons_zero, List.set_cons_succ, i64_w, i32_w]
      rfl
     refine pure_ (i := 20) (N := some 51) (v := undef) (a' := ?_) #[true, true, true, true, true, true, true, true, true, true, true, true, true, true, true, true, true, true, true, true, true, false, false, false, false, false] rfl rfl (any_of HT_.out (by kernel_rfl)) (fun _ _ _ h => h) (Or.inr ⟨by rfl, rfl⟩) ?_ ?_
     rotate_left
     ·
      simp only [Act.put, List.setIfInBounds_toArray, List.set_cons_zero, List.set_cons_succ, i64_w, i32_w]
      rfl
     refine pure_ (i := 21) (N := some 52) (v := undef) (a' := ?_) #[true, true, true, true, true, true, true, true, true, true, true, true, true, true, true, true, true, true, true, true, true, true, false, false, false, false] rfl rfl (any_of HT_.out (by kernel_rfl)) (fun _ _ _ h => h) (Or.inr ⟨by rfl, rfl⟩) ?_ ?_
     rotate_left
     ·
      simp only [Act.put, List.setIfInBounds_toArray, List.set_cons_zero, List.set_cons_succ, i64_w, i32_w]
      rfl
     refine pure_ (i := 22) (N := some 53) (v := undef) (a' := ?_) #[true, true, true, true, true, true, true, true, true, true, true, true, true, true, true, true, true, true, true, true, true, true, true, false, false, false] rfl rfl (any_of HT_.out (by kernel_rfl)) (fun _ _ _ h => h) (Or.inr ⟨by rfl, rfl⟩) ?_ ?_
     rotate_left
     ·
      simp only [Act.put, List.setIfInBounds_toArray, List.set_cons_zero, List.set_cons_succ, i64_w, i32_w]
      rfl
     refine pure_ (i := 23) (N := some 54) (v := undef) (a' := ?_) #[true, true, true, true, true, true, true, true, true, true, true, true, true, true, true, true, true, true, true, true, true, true, true, true, false, false] rfl rfl (any_of HT_.out (by kernel_rfl)) (fun _ _ _ h => h) (Or.inr ⟨by rfl, rfl⟩) ?_ ?_
     rotate_left
     ·
      simp only [Act.put, List.setIfInBounds_toArray, List.set_cons_zero, List.set_cons_succ, i64_w, i32_w]
      rfl
     refine pure_ (i := 24) (N := some 55) (v := undef) (a' := ?_) #[true, true, true, true, true, true, true, true, true, true, true, true, true, true, true, true, true, true, true, true, true, true, true, true, true, false] rfl rfl (any_of HT_.out (by kernel_rfl)) (fun _ _ _ h => h) (Or.inr ⟨by rfl, rfl⟩) ?_ ?_
     rotate_left
     ·
      simp only [Act.put, List.setIfInBounds_toArray, List.set_cons_zero, List.set_cons_succ, i64_w, i32_w]
      rfl
     refine pu_ 25 (some 56) HT_ rfl rfl (by go_simp; rfl) (by kernel_rfl) rfl (by intro w'; go_simp; with_reducible rfl) (fun _ _ _ h => h) (by go_simp; rfl) ?_
     refine done_ (done_of HT_.out (by kernel_rfl)) ?_
     try go_wp2
     go_meet
     case rel => exact ⟨_, (true), (by first | rfl | (simp; done) | (simp [*]; done)), H', ⟨by have := HJ2.out; first | omega | exact Nat.le_refl _⟩, ⟨by (with_reducible repeat (first | apply Kd.R_alloc | apply Kd.R_drewN | apply Kd.R_drew)); exact HO325.out⟩, ⟨by (with_reducible repeat (first | apply Kd.R_alloc | apply Kd.R_drewN | apply Kd.R_drew)); exact HO331.out⟩, ⟨by (with_reducible repeat (first | refine blk_drewN ?_ _ | refine blk_drew ?_ | refine blk_alloc ?_ _)); exact BK326.out⟩, ⟨by (with_reducible repeat (first | refine blk_drewN ?_ _ | refine blk_drew ?_ | refine blk_alloc ?_ _)); exact BK333.out⟩, ⟨laws_FnPost_auHB⟩⟩
    rw [if_pos c21] at H
    have c21b0 : (t327.toList == t334.toList) = true := beq_iff_eq.mpr c21
    have c21b1 : (t327.toList != t334.toList) = false := bne_eq_false_iff_eq.mpr c21
    clear c21
    (first | rw [c21b0] | (simp only [i64_w, i32_w]; rw [c21b0]) | skip)
    replace H := Option.bind_eq_some_iff.mp H
    obtain ⟨t335, A220, H⟩ := H
    replace H : ((spec_PostOk.f kj2 t322 t323).bind fun t336 => (if (t335 != t336) = true then (laws_FnPost.j1 kj2 l1 true) else ((spec_PostOk.f kj2 t322 t323).bind fun t337 => (if (t332 != t337) = true then (laws_FnPost.j1 kj2 l1 true) else (if t332 = true then ((impl_PostSame.f kj2 t328 t329 t322 t323).bind fun t338 => (laws_FnPost.j1 kj2 l1 (!t338))) else (laws_FnPost.j1 kj2 l1 false)))))) = some r := H
    have A22 := Aside0.mk A220
    clear A220
    replace H := Option.bind_eq_some_iff.mp H
    obtain ⟨t336, A230, H⟩ := H
    replace H : (if (t335 != t336) = true then (laws_FnPost.j1 kj2 l1 true) else ((spec_PostOk.f kj2 t322 t323).bind fun t337 => (if (t332 != t337) = true then (laws_FnPost.j1 kj2 l1 true) else (if t332 = true then ((impl_PostSame.f kj2 t328 t329 t322 t323).bind fun t338 => (laws_FnPost.j1 kj2 l1 (!t338))) else (laws_FnPost.j1 kj2 l1 false))))) = some r := H
    have A23 := Aside0.mk A230
    clear A230
    by_cases c24 : (t335 != t336) = true
    ·
     rw [if_pos c24] at H
     have c24b0 : (t335 != t336) = true := c24
     (try (have c24b1 : decide (t335 = t336) = false := by (have h_ := c24; (try simp at h_); (try simp); (try exact h_))))
     (try (have c24b2 : (t335 == t336) = false := by (have h_ := c24; (try simp at h_); (try simp); (try exact h_))))
     (try (have c24b3 : ¬ (t335 = t336) := by (have h_ := c24; (try simp at h_); (try simp); (try exact h_))))
     clear c24
     have H' := Aside0.mk H
     clear H
     try go_wp2
     have n0_ : Aside0 (Kd.R k45 45 ((w16.setCell ⟨gb333, 0, none⟩ (.int .i64 t328)).setCell ⟨gb333, 1, none⟩ (.slice Ao19 t329.length co19)) w.heap.size (fun k_ => some k_ ≠ (.slice Ao19 t329.length co19 : Value).ownBlock) (.slice Ao13 t323.length co13) t323) := ⟨by (with_reducible repeat (first | apply Kd.R_alloc | apply Kd.R_drewN | apply Kd.R_drew)); exact Kd.R_mono (Kd.R_far (p := ⟨gb333, 1, none⟩) (Kd.R_far (p := ⟨gb333, 0, none⟩) (Kd.R_types HO325.out BK333.out (by decide)) (fun _ hk => hk.2) (.int .i64 t328)) (fun _ hk => hk.2) (.slice Ao19 t329.length co19)) (fun _ hk => hk.1.2)⟩
     have n1_ : Aside0 (Kd.R k45 45 ((w16.setCell ⟨gb333, 0, none⟩ (.int .i64 t328)).setCell ⟨gb333, 1, none⟩ (.slice Ao19 t329.length co19)) w.heap.size (fun k_ => some k_ ≠ (.slice Ao13 t323.length co13 : Value).ownBlock) (.slice Ao19 t329.length co19) t329) := ⟨by (with_reducible repeat (first | apply Kd.R_alloc | apply Kd.R_drewN | apply Kd.R_drew)); exact Kd.R_mono (Kd.R_far (p := ⟨gb333, 1, none⟩) (Kd.R_far (p := ⟨gb333, 0, none⟩) (Kd.R_types HO331.out BK333.out (by decide)) (fun _ hk => hk.2) (.int .i64 t328)) (fun _ hk => hk.2) (.slice Ao19 t329.length co19)) (fun _ hk => hk.1.2)⟩
     have n2_ : Aside0 (((w16.setCell ⟨gb333, 0, none⟩ (.int .i64 t328)).setCell ⟨gb333, 1, none⟩ (.slice Ao19 t329.length co19)).heap[gb326]? = some (.cells #[.int .i64 t322, .slice Ao13 t323.length co13] 29 (0, 0))) := ⟨by (with_reducible repeat (first | refine blk_drewN ?_ _ | refine blk_drew ?_ | refine blk_alloc ?_ _)); refine blk_far ?_ NB326_333.out _; (with_reducible repeat (first | refine blk_drewN ?_ _ | refine blk_drew ?_ | refine blk_alloc ?_ _)); refine blk_far ?_ NB326_333.out _; (with_reducible repeat (first | refine blk_drewN ?_ _ | refine blk_drew ?_ | refine blk_alloc ?_ _)); exact BK326.out⟩
     have n3_ : Aside0 (((w16.setCell ⟨gb333, 0, none⟩ (.int .i64 t328)).setCell ⟨gb333, 1, none⟩ (.slice Ao19 t329.length co19)).heap[gb333]? = some (.cells #[.int .i64 t328, .slice Ao19 t329.length co19] 29 (0, 0))) := ⟨by (with_reducible repeat (first | refine blk_drewN ?_ _ | refine blk_drew ?_ | refine blk_alloc ?_ _)); refine blk_put (cs := #[.int .i64 t328, .slice none 0 0]) ?_ 1 _ rfl; (with_reducible repeat (first | refine blk_drewN ?_ _ | refine blk_drew ?_ | refine blk_alloc ?_ _)); refine blk_put (cs := #[.int .i64 0, .slice none 0 0]) ?_ 0 _ rfl; (with_reducible repeat (first | refine blk_drewN ?_ _ | refine blk_drew ?_ | refine blk_alloc ?_ _)); exact BK333.out⟩
     have n4_ : Aside0 (Below w.heap.size w ((w16.setCell ⟨gb333, 0, none⟩ (.int .i64 t328)).setCell ⟨gb333, 1, none⟩ (.slice Ao19 t329.length co19))) := ⟨laws_FnPost_auHB⟩
     (try clear HO325)
     (try clear HO331)
     (try clear BK326)
     (try clear BK333)
     (try clear HB)
     generalize ((w16.setCell ⟨gb333, 0, none⟩ (.int .i64 t328)).setCell ⟨gb333, 1, none⟩ (.slice Ao19 t329.length co19)) = w25 at n0_ n1_ n2_ n3_ n4_ ⊢
     have HO325 := n0_
     have HO331 := n1_
     have BK326 := n2_
     have BK333 := n3_
     have HB := n4_
     clear n0_ n1_ n2_ n3_ n4_
     replace HO325 := Aside0.mk (Kd.R_drew HO325.out)
     replace HO331 := Aside0.mk (Kd.R_drew HO331.out)
     replace BK326 := Aside0.mk (blk_drew BK326.out)
     replace BK333 := Aside0.mk (blk_drew BK333.out)
     replace HB := Aside0.mk (below_drew1 HB.out)
     refine start_ (n := 26) (S := fun w' => w'.cell? ⟨gb326, 0, none⟩ = some (.int .i64 t322) ∧ w'.cell? ⟨gb326, 1, none⟩ = some (.slice Ao13 t323.length co13)) (ds := []) #[false, false, false, false, false, false, false, false, false, false, false, false, false, false, false, false, false, false, false, false, false, false, false, false, false, false] (by kernel_rfl) rfl rfl ⟨(blk_cell BK326.out 0).trans rfl, (blk_cell BK326.out 1).trans rfl⟩ (fun hHeld => ?_); refine with_tabW laws_FnPost.tab6 laws_FnPost.bits6 (fun HT_ HW_ => ?_)
     generalize w25.drew = w26 at HO325 HO331 BK326 BK333 HB hHeld ⊢
     refine pu_ 0 (some 31) HT_ rfl rfl (by go_simp; rfl) (by kernel_rfl) rfl (by intro w'; go_simp; with_reducible rfl) (fun _ _ _ h => h) (by go_simp; rfl) ?_
     refine ta_ 1 (some 32) HT_ HW_ hHeld rfl rfl (by go_simp; rfl) (by kernel_rfl) rfl (by rintro w' ⟨s0, s1⟩; go_simp; with_reducible rfl) (fun _ _ _ h => h) (by go_simp; rfl) ?_
     refine one_ (i := 2) (N := some 33) #[true, true, true, false, false, false, false, false, false, false, false, false, false, false, false, false, false, false, false, false, false, false, false, false, false, false] rfl rfl (one_of HT_.out (by kernel_rfl)) (by decide) (fun K hK => ?_)
     refine goes_ Tryd.func7 (by kernel_rfl) rfl #[.agg #[.int .i64 t322, .slice Ao13 t323.length co13]] (by rfl) rfl rfl (by (try simp only [List.map_toArray, List.map_cons, List.map_nil]); first | done | rfl | (simp only [List.length_drop, List.length_take]; rfl)) ?_
     with_reducible refine (spec_PostText.calls kj2 t322 _ _ t323 t334 _ ?side1 ?side2 A20.out).mono ?_
     (case side1 => exact co_ (Kd.R_reads' HO325.out).2.2)
     (case side2 => exact (Kd.R_reads' HO325.out).2.1)
     rintro e w27 ⟨rfl, hb⟩
     refine ⟨_, rfl, ?_⟩
     replace HO325 := Aside0.mk (Kd.R_below (lo_ HO325) hb)
     replace HO331 := Aside0.mk (Kd.R_below (lo_ HO331) hb)
     replace BK326 := Aside0.mk (blk_below (g := gb326) (o := .cells #[.int .i64 t322, .slice Ao13 t323.length co13] 29 (0, 0)) (laws_FnPost_vb BK326) hb)
     replace BK333 := Aside0.mk (blk_below (g := gb333) (o := .cells #[.int .i64 t328, .slice Ao19 t329.length co19] 29 (0, 0)) (laws_FnPost_vb BK333) hb)
     replace HB := Aside0.mk (below_step (laws_FnPost_auHB) hb)
     (try clear hb)
     (try clear hb2)
     (try clear hk)
     (try clear hi)
     refine hK.out _ _ ⟨(blk_cell BK326.out 0).trans rfl, (blk_cell BK326.out 1).trans rfl⟩ (fun hHeld => ?_)
     clear hK K
     refine norm_ (a' := ?_) ?_ ?_
     rotate_left
     ·
      show Act.put _ (some 33) _ = _
      simp only [Act.put, List.setIfInBounds_toArray, List.set_cons_zero, List.set_cons_succ, i64_w, i32_w]
      rfl
     refine pu_ 3 (some 34) HT_ rfl rfl (by go_simp; rfl) (by kernel_rfl) rfl (by intro w'; go_simp; with_reducible rfl) (fun _ _ _ h => h) (by go_simp; rfl) ?_
     refine pu_ 4 (some 35) HT_ rfl rfl (by go_simp; rfl) (by kernel_rfl) rfl (by intro w'; go_simp; with_reducible rfl) (fun _ _ _ h => h) (by go_simp; rfl) ?_
     refine ta_ 5 (some 36) HT_ HW_ hHeld rfl rfl (by go_simp; rfl) (by kernel_rfl) rfl (by rintro w' ⟨s0, s1⟩; go_simp; with_reducible rfl) (fun _ _ _ h => h) (by go_simp; rfl) ?_
     refine ta_ 7 (some 38) HT_ HW_ hHeld rfl rfl (by go_simp; rfl) (by kernel_rfl) rfl (by rintro w' ⟨s0, s1⟩; go_simp; with_reducible rfl) (fun _ _ _ h => h) (by go_simp; rfl) ?_
     refine one_ (i := 6) (N := some 37) #[true, true, true, true, true, true, true, true, false, false, false, false, false, false, false, false, false, false, false, false, false, false, false, false, false, false] rfl rfl (one_of HT_.out (by kernel_rfl)) (by decide) (fun K hK => ?_)
     refine goes_ Tryd.func16 (by kernel_rfl) rfl #[.agg #[.int .i64 t322, .slice Ao13 t323.length co13]] (by rfl) rfl rfl (by (try simp only [List.map_toArray, List.map_cons, List.map_nil]); first | done | rfl | (simp only [List.length_drop, List.length_take]; rfl)) ?_
     with_reducible refine (impl_PostOk.calls kj2 t322 _ _ t323 t335 _ ?side1 ?side2 A22.out).mono ?_
     (case side1 => exact co_ (Kd.R_reads' HO325.out).2.2)
     (case side2 => exact (Kd.R_reads' HO325.out).2.1)
     rintro e w28 ⟨rfl, hb⟩
     refine ⟨_, rfl, ?_⟩
     replace HO325 := Aside0.mk (Kd.R_below (lo_ HO325) hb)
     replace HO331 := Aside0.mk (Kd.R_below (lo_ HO331) hb)
     replace BK326 := Aside0.mk (blk_below (g := gb326) (o := .cells #[.int .i64 t322, .slice Ao13 t323.length co13] 29 (0, 0)) (laws_FnPost_vb BK326) hb)
     replace BK333 := Aside0.mk (blk_below (g := gb333) (o := .cells #[.int .i64 t328, .slice Ao19 t329.length co19] 29 (0, 0)) (laws_FnPost_vb BK333) hb)
     replace HB := Aside0.mk (below_step (laws_FnPost_auHB) hb)
     (try clear hb)
     (try clear hb2)
     (try clear hk)
     (try clear hi)
     refine hK.out _ _ ⟨(blk_cell BK326.out 0).trans rfl, (blk_cell BK326.out 1).trans rfl⟩ (fun hHeld => ?_)
     clear hK K
     refine norm_ (a' := ?_) ?_ ?_
     rotate_left
     ·
      show Act.put _ (some 37) _ = _
      simp only [Act.put, List.setIfInBounds_toArray, List.set_cons_zero, List.set_cons_succ, i64_w, i32_w]
      rfl
     refine one_ (i := 8) (N := some 39) #[true, true, true, true, true, true, true, true, true, false, false, false, false, false, false, false, false, false, false, false, false, false, false, false, false, false] rfl rfl (one_of HT_.out (by kernel_rfl)) (by decide) (fun K hK => ?_)
     refine goes_ Tryd.func17 (by kernel_rfl) rfl #[.agg #[.int .i64 t322, .slice Ao13 t323.length co13]] (by rfl) rfl rfl (by (try simp only [List.map_toArray, List.map_cons, List.map_nil]); first | done | rfl | (simp only [List.length_drop, List.length_take]; rfl)) ?_
     with_reducible refine (spec_PostOk.calls kj2 t322 _ _ t323 t336 _ ?side1 ?side2 A23.out).mono ?_
     (case side1 => exact co_ (Kd.R_reads' HO325.out).2.2)
     (case side2 => exact (Kd.R_reads' HO325.out).2.1)
     rintro e w29 ⟨rfl, hb⟩
     refine ⟨_, rfl, ?_⟩
     replace HO325 := Aside0.mk (Kd.R_below (lo_ HO325) hb)
     replace HO331 := Aside0.mk (Kd.R_below (lo_ HO331) hb)
     replace BK326 := Aside0.mk (blk_below (g := gb326) (o := .cells #[.int .i64 t322, .slice Ao13 t323.length co13] 29 (0, 0)) (laws_FnPost_vb BK326) hb)
     replace BK333 := Aside0.mk (blk_below (g := gb333) (o := .cells #[.int .i64 t328, .slice Ao19 t329.length co19] 29 (0, 0)) (laws_FnPost_vb BK333) hb)
     replace HB := Aside0.mk (below_step (laws_FnPost_auHB) hb)
     (try clear hb)
     (try clear hb2)
     (try clear hk)
     (try clear hi)
     refine hK.out _ _ ⟨(blk_cell BK326.out 0).trans rfl, (blk_cell BK326.out 1).trans rfl⟩ (fun hHeld => ?_)
     clear hK K
     refine norm_ (a' := ?_) ?_ ?_
     rotate_left
     ·
      show Act.put _ (some 39) _ = _
      simp only [Act.put, List.setIfInBounds_toArray, List.set_cons_zero, List.set_cons_succ, i64_w, i32_w]
      rfl
     refine pu_ 9 (some 40) HT_ rfl rfl (by go_simp; rfl) (by kernel_rfl) rfl (by intro w'; go_simp; with_reducible rfl) (fun _ _ _ h => h) (by go_simp; rfl) ?_
     refine pu_ 10 (some 41) HT_ rfl rfl (by go_simp; rfl) (by kernel_rfl) rfl (by intro w'; go_simp; with_reducible rfl) (fun _ _ _ h => h) (by go_simp; rfl) ?_
     refine pu_ 11 (some 42) HT_ rfl rfl (by go_simp; rfl) (by kernel_rfl) rfl (by intro w'; go_simp; with_reducible rfl) (fun _ _ _ h => h) (by go_simp; rfl) ?_
     refine pure_ (i := 12) (N := some 43) (v := undef) (a' := ?_) #[true, true, true, true, true, true, true, true, true, true, true, true, true, false, false, false, false, false, false, false, false, false, false, false, false, false] rfl rfl (any_of HT_.out (by kernel_rfl)) (fun _ _ _ h => h) (Or.inr ⟨by rfl, rfl⟩) ?_ ?_
     rotate_left
     ·
      simp only [Act.put, List.setIfInBounds_toArray, List.set_cons_zero, List.set_cons_succ, i64_w, i32_w]
      rfl
     refine pure_ (i := 13) (N := some 44) (v := undef) (a' := ?_) #[true, true, true, true, true, true, true, true, true, true, true, true, true, true, false, false, false, false, false, false, false, false, false, false, false, false] rfl rfl (any_of HT_.out (by kernel_rfl)) (fun _ _ _ h => h) (Or.inr ⟨by rfl, rfl⟩) ?_ ?_
     rotate_left
     ·
      simp only [Act.put, List.setIfInBounds_toArray, List.set_cons_zero, List.set_cons_succ, i64_w, i32_w]
      rfl
     refine pure_ (i := 14) (N := some 45) (v := undef) (a' := ?_) #[true, true, true, true, true, true, true, true, true, true, true, true, true, true, true, false, false, false, false, false, false, false, false, false, false, false] rfl rfl (any_of HT_.out (by kernel_rfl)) (fun _ _ _ h => h) (Or.inr ⟨by rfl, rfl⟩) ?_ ?_
     rotate_left
     ·
      simp only [Act.put, List.setIfInBounds_toArray, List.set_cons_zero, List.set_cons_succ, i64_w, i32_w]
      rfl
     refine pure_ (i := 15) (N := some 46) (v := undef) (a' := ?_) #[true, true, true, true, true, true, true, true, true, true, true, true, true, true, true, true, false, false, false, false, false, false, false, false, false, false] rfl rfl (any_of HT_.out (by kernel_rfl)) (fun _ _ _ h => h) (Or.inr ⟨by rfl, rfl⟩) ?_ ?_
     rotate_left
     ·
      simp only [Act.put, List.setIfInBounds_toArray, List.set_cons_zero, List.set_cons_succ, i64_w, i32_w]
      rfl
     refine pu_ 16 (some 47) HT_ rfl rfl (by go_simp; rfl) (by kernel_rfl) rfl (by intro w'; go_simp; with_reducible rfl) (fun _ _ _ h => h) (by go_simp; rfl) ?_
     refine pu_ 17 (some 48) HT_ rfl rfl (by go_simp; rfl) (by kernel_rfl) rfl (by intro w'; go_simp; with_reducible rfl) (fun _ _ _ h => h) (by go_simp; rfl) ?_
     refine pure_ (i := 18) (N := some 49) (v := undef) (a' := ?_) #[true, true, true, true, true, true, true, true, true, true, true, true, true, true, true, true, true, true, true, false, false, false, false, false, false, false] rfl rfl (any_of HT_.out (by kernel_rfl)) (fun _ _ _ h => h) (Or.inr ⟨by rfl, rfl⟩) ?_ ?_
     rotate_left
     ·
      simp only [Act.put, List.setIfInBounds_toArray, List.set_cons_zero, List.set_cons_succ, i64_w, i32_w]
      rfl
     refine pure_ (i := 19) (N := some 50) (v := undef) (a' := ?_) #[true, true, true, true, true, true, true, true, true, true, true, true, true, true, true, true, true, true, true, true, false, false, false, false, false, false] rfl rfl (any_of HT_.out (by kernel_rfl)) (fun _ _ _ h => h) (Or.inr ⟨by rfl, rfl⟩) ?_ ?_
     rotate_left
     ·
      simp only [Act.put, List.setIfInBounds_toArray, List.set_cons_zero, List.set_cons_succ, i64_w, i32_w]
      rfl
     refine pure_ (i := 20) (N := some 51) (v := undef) (a' := ?_) #[true, true, true, true, true, true, true, true, true, true, true, true, true, true, true, true, true, true, true, true, true, false, false, false, false, false] rfl rfl (any_of HT_.out (by kernel_rfl)) (fun _ _ _ h => h) (Or.inr ⟨by rfl, rfl⟩) ?_ ?_
     rotate_left
     ·
      simp only [Act.put, List.setIfInBounds_toArray, List.set_cons_zero, List.set_cons_succ, i64_w, i32_w]
      rfl
     refine pure_ (i := 21) (N := some 52) (v := undef) (a' := ?_) #[true, true, true, true, true, true, true, true, true, true, true, true, true, true, true, true, true, true, true, true, true, true, false, false, false, false] rfl rfl (any_of HT_.out (by kernel_rfl)) (fun _ _ _ h => h) (Or.inr ⟨by rfl, rfl⟩) ?_ ?_
     rotate_left
     ·
      simp only [Act.put, List.setIfInBounds_toArray, List.set_cons_zero, List.set_cons_succ, i64_w, i32_w]
      rfl
     refine pure_ (i := 22) (N := some 53) (v := undef) (a' := ?_) #[true, true, true, true, true, true, true, true, true, true, true, true, true, true, true, true, true, true, true, true, true, true, true, false, false, false] rfl rfl (any_of HT_.out (by kernel_rfl)) (fun _ _ _ h => h) (Or.inr ⟨by rfl, rfl⟩) ?_ ?_
     rotate_left
     ·
      simp only [Act.put, List.setIfInBounds_toArray, List.set_cons_zero, List.set_cons_succ, i64_w, i32_w]
      rfl
     refine pure_ (i := 23) (N := some 54) (v := undef) (a' := ?_) #[true, true, true, true, true, true, true, true, true, true, true, true, true, true, true, true, true, true, true, true, true, true, true, true, false, false] rfl rfl (any_of HT_.out (by kernel_rfl)) (fun _ _ _ h => h) (Or.inr ⟨by rfl, rfl⟩) ?_ ?_
     rotate_left
     ·
      simp only [Act.put, List.setIfInBounds_toArray, List.set_cons_zero, List.set_cons_succ, i64_w, i32_w]
      rfl
     refine pure_ (i := 24) (N := some 55) (v := undef) (a' := ?_) #[true, true, true, true, true, true, true, true, true, true, true, true, true, true, true, true, true, true, true, true, true, true, true, true, true, false] rfl rfl (any_of HT_.out (by kernel_rfl)) (fun _ _ _ h => h) (Or.inr ⟨by rfl, rfl⟩) ?_ ?_
     rotate_left
     ·
      simp only [Act.put, List.setIfInBounds_toArray, List.set_cons_zero, List.set_cons_succ, i64_w, i32_w]
      rfl
     refine pu_ 25 (some 56) HT_ rfl rfl (by go_simp; rfl) (by kernel_rfl) rfl (by intro w'; go_simp; with_reducible rfl) (fun _ _ _ h => h) (by go_simp; rfl) ?_
     refine done_ (done_of HT_.out (by kernel_rfl)) ?_
     try go_wp2
     go_meet
     case rel => exact ⟨_, (true), (by first | rfl | (simp; done) | (simp [*]; done)), H', ⟨by have := HJ2.out; first | omega | exact Nat.le_refl _⟩, ⟨by (with_reducible repeat (first | apply Kd.R_alloc | apply Kd.R_drewN | apply Kd.R_drew)); exact HO325.out⟩, ⟨by (with_reducible repeat (first | apply Kd.R_alloc | apply Kd.R_drewN | apply Kd.R_drew)); exact HO331.out⟩, ⟨by (with_reducible repeat (first | refine blk_drewN ?_ _ | refine blk_drew ?_ | refine blk_alloc ?_ _)); exact BK326.out⟩, ⟨by (with_reducible repeat (first | refine blk_drewN ?_ _ | refine blk_drew ?_ | refine blk_alloc ?_ _)); exact BK333.out⟩, ⟨laws_FnPost_auHB⟩⟩
    rw [if_neg c24] at H
    have c24b0 : (t335 != t336) = false := by (have h_ := c24; (try simp at h_); (try simp); (try exact h_))
    (try (have c24b1 : decide (t335 = t336) = true := by (have h_ := c24; (try simp at h_); (try simp); (try exact h_))))
    (try (have c24b2 : (t335 == t336) = true := by (have h_ := c24; (try simp at h_); (try simp); (try exact h_))))
    clear c24
    replace H := Option.bind_eq_some_iff.mp H
    obtain ⟨t337, A300, H⟩ := H
    replace H : (if (t332 != t337) = true then (laws_FnPost.j1 kj2 l1 true) else (if t332 = true then ((impl_PostSame.f kj2 t328 t329 t322 t323).bind fun t338 => (laws_FnPost.j1 kj2 l1 (!t338))) else (laws_FnPost.j1 kj2 l1 false))) = some r := H
    have A30 := Aside0.mk A300
    clear A300
    by_cases c31 : (t332 != t337) = true
    ·
     rw [if_pos c31] at H
     have c31b0 : (t332 != t337) = true := c31
     (try (have c31b1 : decide (t332 = t337) = false := by (have h_ := c31; (try simp at h_); (try simp); (try exact h_))))
     (try (have c31b2 : (t332 == t337) = false := by (have h_ := c31; (try simp at h_); (try simp); (try exact h_))))
     (try (have c31b3 : ¬ (t332 = t337) := by (have h_ := c31; (try simp at h_); (try simp); (try exact h_))))
     clear c31
     have H' := Aside0.mk H
     clear H
     try go_wp2
     have n0_ : Aside0 (Kd.R k45 45 ((w16.setCell ⟨gb333, 0, none⟩ (.int .i64 t328)).setCell ⟨gb333, 1, none⟩ (.slice Ao19 t329.length co19)) w.heap.size (fun k_ => some k_ ≠ (.slice Ao19 t329.length co19 : Value).ownBlock) (.slice Ao13 t323.length co13) t323) := ⟨by (with_reducible repeat (first | apply Kd.R_alloc | apply Kd.R_drewN | apply Kd.R_drew)); exact Kd.R_mono (Kd.R_far (p := ⟨gb333, 1, none⟩) (Kd.R_far (p := ⟨gb333, 0, none⟩) (Kd.R_types HO325.out BK333.out (by decide)) (fun _ hk => hk.2) (.int .i64 t328)) (fun _ hk => hk.2) (.slice Ao19 t329.length co19)) (fun _ hk => hk.1.2)⟩
     have n1_ : Aside0 (Kd.R k45 45 ((w16.setCell ⟨gb333, 0, none⟩ (.int .i64 t328)).setCell ⟨gb333, 1, none⟩ (.slice Ao19 t329.length co19)) w.heap.size (fun k_ => some k_ ≠ (.slice Ao13 t323.length co13 : Value).ownBlock) (.slice Ao19 t329.length co19) t329) := ⟨by (with_reducible repeat (first | apply Kd.R_alloc | apply Kd.R_drewN | apply Kd.R_drew)); exact Kd.R_mono (Kd.R_far (p := ⟨gb333, 1, none⟩) (Kd.R_far (p := ⟨gb333, 0, none⟩) (Kd.R_types HO331.out BK333.out (by decide)) (fun _ hk => hk.2) (.int .i64 t328)) (fun _ hk => hk.2) (.slice Ao19 t329.length co19)) (fun _ hk => hk.1.2)⟩
     have n2_ : Aside0 (((w16.setCell ⟨gb333, 0, none⟩ (.int .i64 t328)).setCell ⟨gb333, 1, none⟩ (.slice Ao19 t329.length co19)).heap[gb326]? = some (.cells #[.int .i64 t322, .slice Ao13 t323.length co13] 29 (0, 0))) := ⟨by (with_reducible repeat (first | refine blk_drewN ?_ _ | refine blk_drew ?_ | refine blk_alloc ?_ _)); refine blk_far ?_ NB326_333.out _; (with_reducible repeat (first | refine blk_drewN ?_ _ | refine blk_drew ?_ | refine blk_alloc ?_ _)); refine blk_far ?_ NB326_333.out _; (with_reducible repeat (first | refine blk_drewN ?_ _ | refine blk_drew ?_ | refine blk_alloc ?_ _)); exact BK326.out⟩
     have n3_ : Aside0 (((w16.setCell ⟨gb333, 0, none⟩ (.int .i64 t328)).setCell ⟨gb333, 1, none⟩ (.slice Ao19 t329.length co19)).heap[gb333]? = some (.cells #[.int .i64 t328, .slice Ao19 t329.length co19] 29 (0, 0))) := ⟨by (with_reducible repeat (first | refine blk_drewN ?_ _ | refine blk_drew ?_ | refine blk_alloc ?_ _)); refine blk_put (cs := #[.int .i64 t328, .slice none 0 0]) ?_ 1 _ rfl; (with_reducible repeat (first | refine blk_drewN ?_ _ | refine blk_drew ?_ | refine blk_alloc ?_ _)); refine blk_put (cs := #[.int .i64 0, .slice none 0 0]) ?_ 0 _ rfl; (with_reducible repeat (first | refine blk_drewN ?_ _ | refine blk_drew ?_ | refine blk_alloc ?_ _)); exact BK333.out⟩
     have n4_ : Aside0 (Below w.heap.size w ((w16.setCell ⟨gb333, 0, none⟩ (.int .i64 t328)).setCell ⟨gb333, 1, none⟩ (.slice Ao19 t329.length co19))) := ⟨laws_FnPost_auHB⟩
     (try clear HO325)
     (try clear HO331)
     (try clear BK326)
     (try clear BK333)
     (try clear HB)
     generalize ((w16.setCell ⟨gb333, 0, none⟩ (.int .i64 t328)).setCell ⟨gb333, 1, none⟩ (.slice Ao19 t329.length co19)) = w32 at n0_ n1_ n2_ n3_ n4_ ⊢
     have HO325 := n0_
     have HO331 := n1_
     have BK326 := n2_
     have BK333 := n3_
     have HB := n4_
     clear n0_ n1_ n2_ n3_ n4_
     replace HO325 := Aside0.mk (Kd.R_drew HO325.out)
     replace HO331 := Aside0.mk (Kd.R_drew HO331.out)
     replace BK326 := Aside0.mk (blk_drew BK326.out)
     replace BK333 := Aside0.mk (blk_drew BK333.out)
     replace HB := Aside0.mk (below_drew1 HB.out)
     refine start_ (n := 26) (S := fun w' => w'.cell? ⟨gb326, 0, none⟩ = some (.int .i64 t322) ∧ w'.cell? ⟨gb326, 1, none⟩ = some (.slice Ao13 t323.length co13)) (ds := []) #[false, false, false, false, false, false, false, false, false, false, false, false, false, false, false, false, false, false, false, false, false, false, false, false, false, false] (by kernel_rfl) rfl rfl ⟨(blk_cell BK326.out 0).trans rfl, (blk_cell BK326.out 1).trans rfl⟩ (fun hHeld => ?_); refine with_tabW laws_FnPost.tab6 laws_FnPost.bits6 (fun HT_ HW_ => ?_)
     generalize w32.drew = w33 at HO325 HO331 BK326 BK333 HB hHeld ⊢
     refine pu_ 0 (some 31) HT_ rfl rfl (by go_simp; rfl) (by kernel_rfl) rfl (by intro w'; go_simp; with_reducible rfl) (fun _ _ _ h => h) (by go_simp; rfl) ?_
     refine ta_ 1 (some 32) HT_ HW_ hHeld rfl rfl (by go_simp; rfl) (by kernel_rfl) rfl (by rintro w' ⟨s0, s1⟩; go_simp; with_reducible rfl) (fun _ _ _ h => h) (by go_simp; rfl) ?_
     refine one_ (i := 2) (N := some 33) #[true, true, true, false, false, false, false, false, false, false, false, false, false, false, false, false, false, false, false, false, false, false, false, false, false, false] rfl rfl (one_of HT_.out (by kernel_rfl)) (by decide) (fun K hK => ?_)
     refine goes_ Tryd.func7 (by kernel_rfl) rfl #[.agg #[.int .i64 t322, .slice Ao13 t323.length co13]] (by rfl) rfl rfl (by (try simp only [List.map_toArray, List.map_cons, List.map_nil]); first | done | rfl | (simp only [List.length_drop, List.length_take]; rfl)) ?_
     with_reducible refine (spec_PostText.calls kj2 t322 _ _ t323 t334 _ ?side1 ?side2 A20.out).mono ?_
     (case side1 => exact co_ (Kd.R_reads' HO325.out).2.2)
     (case side2 => exact (Kd.R_reads' HO325.out).2.1)
     rintro e w34 ⟨rfl, hb⟩
     refine ⟨_, rfl, ?_⟩
     replace HO325 := Aside0.mk (Kd.R_below (lo_ HO325) hb)
     replace HO331 := Aside0.mk (Kd.R_below (lo_ HO331) hb)
     replace BK326 := Aside0.mk (blk_below (g := gb326) (o := .cells #[.int .i64 t322, .slice Ao13 t323.length co13] 29 (0, 0)) (laws_FnPost_vb BK326) hb)
     replace BK333 := Aside0.mk (blk_below (g := gb333) (o := .cells #[.int .i64 t328, .slice Ao19 t329.length co19] 29 (0, 0)) (laws_FnPost_vb BK333) hb)
     replace HB := Aside0.mk (below_step (laws_FnPost_auHB) hb)
     (try clear hb)
     (try clear hb2)
     (try clear hk)
     (try clear hi)
     refine hK.out _ _ ⟨(blk_cell BK326.out 0).trans rfl, (blk_cell BK326.out 1).trans rfl⟩ (fun hHeld => ?_)
     clear hK K
     refine norm_ (a' := ?_) ?_ ?_
     rotate_left
     ·
      show Act.put _ (some 33) _ = _
      simp only [Act.put, List.setIfInBounds_toArray, List.set_cons_zero, List.set_cons_succ, i64_w, i32_w]
      rfl
     refine pu_ 3 (some 34) HT_ rfl rfl (by go_simp; rfl) (by kernel_rfl) rfl (by intro w'; go_simp; with_reducible rfl) (fun _ _ _ h => h) (by go_simp; rfl) ?_
     refine pu_ 4 (some 35) HT_ rfl rfl (by go_simp; rfl) (by kernel_rfl) rfl (by intro w'; go_simp; with_reducible rfl) (fun _ _ _ h => h) (by go_simp; rfl) ?_
     refine ta_ 5 (some 36) HT_ HW_ hHeld rfl rfl (by go_simp; rfl) (by kernel_rfl) rfl (by rintro w' ⟨s0, s1⟩; go_simp; with_reducible rfl) (fun _ _ _ h => h) (by go_simp; rfl) ?_
     refine ta_ 7 (some 38) HT_ HW_ hHeld rfl rfl (by go_simp; rfl) (by kernel_rfl) rfl (by rintro w' ⟨s0, s1⟩; go_simp; with_reducible rfl) (fun _ _ _ h => h) (by go_simp; rfl) ?_
     refine one_ (i := 6) (N := some 37) #[true, true, true, true, true, true, true, true, false, false, false, false, false, false, false, false, false, false, false, false, false, false, false, false, false, false] rfl rfl (one_of HT_.out (by kernel_rfl)) (by decide) (fun K hK => ?_)
     refine goes_ Tryd.func16 (by kernel_rfl) rfl #[.agg #[.int .i64 t322, .slice Ao13 t323.length co13]] (by rfl) rfl rfl (by (try simp only [List.map_toArray, List.map_cons, List.map_nil]); first | done | rfl | (simp only [List.length_drop, List.length_take]; rfl)) ?_
     with_reducible refine (impl_PostOk.calls kj2 t322 _ _ t323 t335 _ ?side1 ?side2 A22.out).mono ?_
     (case side1 => exact co_ (Kd.R_reads' HO325.out).2.2)
     (case side2 => exact (Kd.R_reads' HO325.out).2.1)
     rintro e w35 ⟨rfl, hb⟩
     refine ⟨_, rfl, ?_⟩
     replace HO325 := Aside0.mk (Kd.R_below (lo_ HO325) hb)
     replace HO331 := Aside0.mk (Kd.R_below (lo_ HO331) hb)
     replace BK326 := Aside0.mk (blk_below (g := gb326) (o := .cells #[.int .i64 t322, .slice Ao13 t323.length co13] 29 (0, 0)) (laws_FnPost_vb BK326) hb)
     replace BK333 := Aside0.mk (blk_below (g := gb333) (o := .cells #[.int .i64 t328, .slice Ao19 t329.length co19] 29 (0, 0)) (laws_FnPost_vb BK333) hb)
     replace HB := Aside0.mk (below_step (laws_FnPost_auHB) hb)
     (try clear hb)
     (try clear hb2)
     (try clear hk)
     (try clear hi)
     refine hK.out _ _ ⟨(blk_cell BK326.out 0).trans rfl, (blk_cell BK326.out 1).trans rfl⟩ (fun hHeld => ?_)
     clear hK K
     refine norm_ (a' := ?_) ?_ ?_
     rotate_left
     ·
      show Act.put _ (some 37) _ = _
      simp only [Act.put, List.setIfInBounds_toArray, List.set_cons_zero, List.set_cons_succ, i64_w, i32_w]
      rfl
     refine one_ (i := 8) (N := some 39) #[true, true, true, true, true, true, true, true, true, false, false, false, false, false, false, false, false, false, false, false, false, false, false, false, false, false] rfl rfl (one_of HT_.out (by kernel_rfl)) (by decide) (fun K hK => ?_)
     refine goes_ Tryd.func17 (by kernel_rfl) rfl #[.agg #[.int .i64 t322, .slice Ao13 t323.length co13]] (by rfl) rfl rfl (by (try simp only [List.map_toArray, List.map_cons, List.map_nil]); first | done | rfl | (simp only [List.length_drop, List.length_take]; rfl)) ?_
     with_reducible refine (spec_PostOk.calls kj2 t322 _ _ t323 t336 _ ?side1 ?side2 A23.out).mono ?_
     (case side1 => exact co_ (Kd.R_reads' HO325.out).2.2)
     (case side2 => exact (Kd.R_reads' HO325.out).2.1)
     rintro e w36 ⟨rfl, hb⟩
     refine ⟨_, rfl, ?_⟩
     replace HO325 := Aside0.mk (Kd.R_below (lo_ HO325) hb)
     replace HO331 := Aside0.mk (Kd.R_below (lo_ HO331) hb)
     replace BK326 := Aside0.mk (blk_below (g := gb326) (o := .cells #[.int .i64 t322, .slice Ao13 t323.length co13] 29 (0, 0)) (laws_FnPost_vb BK326) hb)
     replace BK333 := Aside0.mk (blk_below (g := gb333) (o := .cells #[.int .i64 t328, .slice Ao19 t329.length co19] 29 (0, 0)) (laws_FnPost_vb BK333) hb)
     replace HB := Aside0.mk (below_step (laws_FnPost_auHB) hb)
     (try clear hb)
     (try clear hb2)
     (try clear hk)
     (try clear hi)
     refine hK.out _ _ ⟨(blk_cell BK326.out 0).trans rfl, (blk_cell BK326.out 1).trans rfl⟩ (fun hHeld => ?_)
     clear hK K
     refine norm_ (a' := ?_) ?_ ?_
     rotate_left
     ·
      show Act.put _ (some 39) _ = _
      simp only [Act.put, List.setIfInBounds_toArray, List.set_cons_zero, List.set_cons_succ, i64_w, i32_w]
      rfl
     refine pu_ 9 (some 40) HT_ rfl rfl (by go_simp; rfl) (by kernel_rfl) rfl (by intro w'; go_simp; with_reducible rfl) (fun _ _ _ h => h) (by go_simp; rfl) ?_
     refine pu_ 10 (some 41) HT_ rfl rfl (by go_simp; rfl) (by kernel_rfl) rfl (by intro w'; go_simp; with_reducible rfl) (fun _ _ _ h => h) (by go_simp; rfl) ?_
     refine pu_ 11 (some 42) HT_ rfl rfl (by go_simp; rfl) (by kernel_rfl) rfl (by intro w'; go_simp; with_reducible rfl) (fun _ _ _ h => h) (by go_simp; rfl) ?_
     refine pu_ 12 (some 43) HT_ rfl rfl (by go_simp; rfl) (by kernel_rfl) rfl (by intro w'; go_simp; with_reducible rfl) (fun _ _ _ h => h) (by go_simp; rfl) ?_
     refine ta_ 13 (some 44) HT_ HW_ hHeld rfl rfl (by go_simp; rfl) (by kernel_rfl) rfl (by rintro w' ⟨s0, s1⟩; go_simp; with_reducible rfl) (fun _ _ _ h => h) (by go_simp; rfl) ?_
     refine one_ (i := 14) (N := some 45) #[true, true, true, true, true, true, true, true, true, true, true, true, true, true, true, false, false, false, false, false, false, false, false, false, false, false] rfl rfl (one_of HT_.out (by kernel_rfl)) (by decide) (fun K hK => ?_)
     refine goes_ Tryd.func17 (by kernel_rfl) rfl #[.agg #[.int .i64 t322, .slice Ao13 t323.length co13]] (by rfl) rfl rfl (by (try simp only [List.map_toArray, List.map_cons, List.map_nil]); first | done | rfl | (simp only [List.length_drop, List.length_take]; rfl)) ?_
     with_reducible refine (spec_PostOk.calls kj2 t322 _ _ t323 t337 _ ?side1 ?side2 A30.out).mono ?_
     (case side1 => exact co_ (Kd.R_reads' HO325.out).2.2)
     (case side2 => exact (Kd.R_reads' HO325.out).2.1)
     rintro e w37 ⟨rfl, hb⟩
     refine ⟨_, rfl, ?_⟩
     replace HO325 := Aside0.mk (Kd.R_below (lo_ HO325) hb)
     replace HO331 := Aside0.mk (Kd.R_below (lo_ HO331) hb)
     replace BK326 := Aside0.mk (blk_below (g := gb326) (o := .cells #[.int .i64 t322, .slice Ao13 t323.length co13] 29 (0, 0)) (laws_FnPost_vb BK326) hb)
     replace BK333 := Aside0.mk (blk_below (g := gb333) (o := .cells #[.int .i64 t328, .slice Ao19 t329.length co19] 29 (0, 0)) (laws_FnPost_vb BK333) hb)
     replace HB := Aside0.mk (below_step (laws_FnPost_auHB) hb)
     (try clear hb)
     (try clear hb2)
     (try clear hk)
     (try clear hi)
     refine hK.out _ _ ⟨(blk_cell BK326.out 0).trans rfl, (blk_cell BK326.out 1).trans rfl⟩ (fun hHeld => ?_)
     clear hK K
     refine norm_ (a' := ?_) ?_ ?_
     rotate_left
     ·
      show Act.put _ (some 45) _ = _
      simp only [Act.put, List.setIfInBounds_toArray, List.set_cons_zero, List.set_cons_succ, i64_w, i32_w]
      rfl
     refine pu_ 15 (some 46) HT_ rfl rfl (by go_simp; rfl) (by kernel_rfl) rfl (by intro w'; go_simp; with_reducible rfl) (fun _ _ _ h => h) (by go_simp; rfl) ?_
     refine pu_ 16 (some 47) HT_ rfl rfl (by go_simp; rfl) (by kernel_rfl) rfl (by intro w'; go_simp; with_reducible rfl) (fun _ _ _ h => h) (by go_simp; rfl) ?_
     refine pu_ 17 (some 48) HT_ rfl rfl (by go_simp; rfl) (by kernel_rfl) rfl (by intro w'; go_simp; with_reducible rfl) (fun _ _ _ h => h) (by go_simp; rfl) ?_
     refine pure_ (i := 18) (N := some 49) (v := undef) (a' := ?_) #[true, true, true, true, true, true, true, true, true, true, true, true, true, true, true, true, true, true, true, false, false, false, false, false, false, false] rfl rfl (any_of HT_.out (by kernel_rfl)) (fun _ _ _ h => h) (Or.inr ⟨by rfl, rfl⟩) ?_ ?_
     rotate_left
     ·
      simp only [Act.put, List.setIfInBounds_toArray, List.set_cons_zero, List.set_cons_succ, i64_w, i32_w]
      rfl
     refine pure_ (i := 19) (N := some 50) (v := undef) (a' := ?_) #[true, true, true, true, true, true, true, true, true, true, true, true, true, true, true, true, true, true, true, true, false, false, false, false, false, false] rfl rfl (any_of HT_.out (by kernel_rfl)) (fun _ _ _ h => h) (Or.inr ⟨by rfl, rfl⟩) ?_ ?_
     rotate_left
     ·
      simp only [Act.put, List.setIfInBounds_toArray, List.set_cons_zero, List.set_cons_succ, i64_w, i32_w]
      rfl
     refine pure_ (i := 20) (N := some 51) (v := undef) (a' := ?_) #[true, true, true, true, true, true, true, true, true, true, true, true, true, true, true, true, true, true, true, true, true, false, false, false, false, false] rfl rfl (any_of HT_.out (by kernel_rfl)) (fun _ _ _ h => h) (Or.inr ⟨by rfl, rfl⟩) ?_ ?_
     rotate_left
     ·
      simp only [Act.put, List.setIfInBounds_toArray, List.set_cons_zero, List.set_cons_succ, i64_w, i32_w]
      rfl
     refine pure_ (i := 21) (N := some 52) (v := undef) (a' := ?_) #[true, true, true, true, true, true, true, true, true, true, true, true, true, true, true, true, true, true, true, true, true, true, false, false, false, false] rfl rfl (any_of HT_.out (by kernel_rfl)) (fun _ _ _ h => h) (Or.inr ⟨by rfl, rfl⟩) ?_ ?_
     rotate_left
     ·
      simp only [Act.put, List.setIfInBounds_toArray, List.set_cons_zero, List.set_cons_succ, i64_w, i32_w]
      rfl
     refine pure_ (i := 22) (N := some 53) (v := undef) (a' := ?_) #[true, true, true, true, true, true, true, true, true, true, true, true, true, true, true, true, true, true, true, true, true, true, true, false, false, false] rfl rfl (any_of HT_.out (by kernel_rfl)) (fun _ _ _ h => h) (Or.inr ⟨by rfl, rfl⟩) ?_ ?_
     rotate_left
     ·
      simp only [Act.put, List.setIfInBounds_toArray, List.set_cons_zero, List.set_cons_succ, i64_w, i32_w]
      rfl
     refine pure_ (i := 23) (N := some 54) (v := undef) (a' := ?_) #[true, true, true, true, true, true, true, true, true, true, true, true, true, true, true, true, true, true, true, true, true, true, true, true, false, false] rfl rfl (any_of HT_.out (by kernel_rfl)) (fun _ _ _ h => h) (Or.inr ⟨by rfl, rfl⟩) ?_ ?_
     rotate_left
     ·
      simp only [Act.put, List.setIfInBounds_toArray, List.set_cons_zero, List.set_cons_succ, i64_w, i32_w]
      rfl
     refine pure_ (i := 24) (N := some 55) (v := undef) (a' := ?_) #[true, true, true, true, true, true, true, true, true, true, true, true, true, true, true, true, true, true, true, true, true, true, true, true, true, false] rfl rfl (any_of HT_.out (by kernel_rfl)) (fun _ _ _ h => h) (Or.inr ⟨by rfl, rfl⟩) ?_ ?_
     rotate_left
     ·
      simp only [Act.put, List.setIfInBounds_toArray, List.set_cons_zero, List.set_cons_succ, i64_w, i32_w]
      rfl
     refine pu_ 25 (some 56) HT_ rfl rfl (by go_simp; rfl) (by kernel_rfl) rfl (by intro w'; go_simp; with_reducible rfl) (fun _ _ _ h => h) (by go_simp; rfl) ?_
     refine done_ (done_of HT_.out (by kernel_rfl)) ?_
     try go_wp2
     go_meet
     case rel => exact ⟨_, (true), (by first | rfl | (simp; done) | (simp [*]; done)), H', ⟨by have := HJ2.out; first | omega | exact Nat.le_refl _⟩, ⟨by (with_reducible repeat (first | apply Kd.R_alloc | apply Kd.R_drewN | apply Kd.R_drew)); exact HO325.out⟩, ⟨by (with_reducible repeat (first | apply Kd.R_alloc | apply Kd.R_drewN | apply Kd.R_drew)); exact HO331.out⟩, ⟨by (with_reducible repeat (first | refine blk_drewN ?_ _ | refine blk_drew ?_ | refine blk_alloc ?_ _)); exact BK326.out⟩, ⟨by (with_reducible repeat (first | refine blk_drewN ?_ _ | refine blk_drew ?_ | refine blk_alloc ?_ _)); exact BK333.out⟩, ⟨laws_FnPost_auHB⟩⟩
    rw [if_neg c31] at H
    have c31b0 : (t332 != t337) = false := by (have h_ := c31; (try simp at h_); (try simp); (try exact h_))
    (try (have c31b1 : decide (t332 = t337) = true := by (have h_ := c31; (try simp at h_); (try simp); (try exact h_))))
    (try (have c31b2 : (t332 == t337) = true := by (have h_ := c31; (try simp at h_); (try simp); (try exact h_))))
    clear c31
    by_cases c38 : t332 = true
    rotate_left
    ·
     replace c38 := Bool.eq_false_iff.mpr c38
     subst c38
     have H1 : (laws_FnPost.j1 kj2 l1 false) = some r := by rw [if_neg (show ¬ (false = true) by decide)] at H; exact H
     clear H
     have H := H1
     clear H1
     have H' := Aside0.mk H
     clear H
     try go_wp2
     have n0_ : Aside0 (Kd.R k45 45 ((w16.setCell ⟨gb333, 0, none⟩ (.int .i64 t328)).setCell ⟨gb333, 1, none⟩ (.slice Ao19 t329.length co19)) w.heap.size (fun k_ => some k_ ≠ (.slice Ao19 t329.length co19 : Value).ownBlock) (.slice Ao13 t323.length co13) t323) := ⟨by (with_reducible repeat (first | apply Kd.R_alloc | apply Kd.R_drewN | apply Kd.R_drew)); exact Kd.R_mono (Kd.R_far (p := ⟨gb333, 1, none⟩) (Kd.R_far (p := ⟨gb333, 0, none⟩) (Kd.R_types HO325.out BK333.out (by decide)) (fun _ hk => hk.2) (.int .i64 t328)) (fun _ hk => hk.2) (.slice Ao19 t329.length co19)) (fun _ hk => hk.1.2)⟩
     have n1_ : Aside0 (Kd.R k45 45 ((w16.setCell ⟨gb333, 0, none⟩ (.int .i64 t328)).setCell ⟨gb333, 1, none⟩ (.slice Ao19 t329.length co19)) w.heap.size (fun k_ => some k_ ≠ (.slice Ao13 t323.length co13 : Value).ownBlock) (.slice Ao19 t329.length co19) t329) := ⟨by (with_reducible repeat (first | apply Kd.R_alloc | apply Kd.R_drewN | apply Kd.R_drew)); exact Kd.R_mono (Kd.R_far (p := ⟨gb333, 1, none⟩) (Kd.R_far (p := ⟨gb333, 0, none⟩) (Kd.R_types HO331.out BK333.out (by decide)) (fun _ hk => hk.2) (.int .i64 t328)) (fun _ hk => hk.2) (.slice Ao19 t329.length co19)) (fun _ hk => hk.1.2)⟩
     have n2_ : Aside0 (((w16.setCell ⟨gb333, 0, none⟩ (.int .i64 t328)).setCell ⟨gb333, 1, none⟩ (.slice Ao19 t329.length co19)).heap[gb326]? = some (.cells #[.int .i64 t322, .slice Ao13 t323.length co13] 29 (0, 0))) := ⟨by (with_reducible repeat (first | refine blk_drewN ?_ _ | refine blk_drew ?_ | refine blk_alloc ?_ _)); refine blk_far ?_ NB326_333.out _; (with_reducible repeat (first | refine blk_drewN ?_ _ | refine blk_drew ?_ | refine blk_alloc ?_ _)); refine blk_far ?_ NB326_333.out _; (with_reducible repeat (first | refine blk_drewN ?_ _ | refine blk_drew ?_ | refine blk_alloc ?_ _)); exact BK326.out⟩
     have n3_ : Aside0 (((w16.setCell ⟨gb333, 0, none⟩ (.int .i64 t328)).setCell ⟨gb333, 1, none⟩ (.slice Ao19 t329.length co19)).heap[gb333]? = some (.cells #[.int .i64 t328, .slice Ao19 t329.length co19] 29 (0, 0))) := ⟨by (with_reducible repeat (first | refine blk_drewN ?_ _ | refine blk_drew ?_ | refine blk_alloc ?_ _)); refine blk_put (cs := #[.int .i64 t328, .slice none 0 0]) ?_ 1 _ rfl; (with_reducible repeat (first | refine blk_drewN ?_ _ | refine blk_drew ?_ | refine blk_alloc ?_ _)); refine blk_put (cs := #[.int .i64 0, .slice none 0 0]) ?_ 0 _ rfl; (with_reducible repeat (first | refine blk_drewN ?_ _ | refine blk_drew ?_ | refine blk_alloc ?_ _)); exact BK333.out⟩
     have n4_ : Aside0 (Below w.heap.size w ((w16.setCell ⟨gb333, 0, none⟩ (.int .i64 t328)).setCell ⟨gb333, 1, none⟩ (.slice Ao19 t329.length co19))) := ⟨laws_FnPost_auHB⟩
     (try clear HO325)
     (try clear HO331)
     (try clear BK326)
     (try clear BK333)
     (try clear HB)
     generalize ((w16.setCell ⟨gb333, 0, none⟩ (.int .i64 t328)).setCell ⟨gb333, 1, none⟩ (.slice Ao19 t329.length co19)) = w47 at n0_ n1_ n2_ n3_ n4_ ⊢
     have HO325 := n0_
     have HO331 := n1_
     have BK326 := n2_
     have BK333 := n3_
     have HB := n4_
     clear n0_ n1_ n2_ n3_ n4_
     replace HO325 := Aside0.mk (Kd.R_drew HO325.out)
     replace HO331 := Aside0.mk (Kd.R_drew HO331.out)
     replace BK326 := Aside0.mk (blk_drew BK326.out)
     replace BK333 := Aside0.mk (blk_drew BK333.out)
     replace HB := Aside0.mk (below_drew1 HB.out)
     refine start_ (n := 26) (S := fun w' => w'.cell? ⟨gb326, 0, none⟩ = some (.int .i64 t322) ∧ w'.cell? ⟨gb326, 1, none⟩ = some (.slice Ao13 t323.length co13)) (ds := []) #[false, false, false, false, false, false, false, false, false, false, false, false, false, false, false, false, false, false, false, false, false, false, false, false, false, false] (by kernel_rfl) rfl rfl ⟨(blk_cell BK326.out 0).trans rfl, (blk_cell BK326.out 1).trans rfl⟩ (fun hHeld => ?_); refine with_tabW laws_FnPost.tab6 laws_FnPost.bits6 (fun HT_ HW_ => ?_)
     generalize w47.drew = w48 at HO325 HO331 BK326 BK333 HB hHeld ⊢
     refine pu_ 0 (some 31) HT_ rfl rfl (by go_simp; rfl) (by kernel_rfl) rfl (by intro w'; go_simp; with_reducible rfl) (fun _ _ _ h => h) (by go_simp; rfl) ?_
     refine ta_ 1 (some 32) HT_ HW_ hHeld rfl rfl (by go_simp; rfl) (by kernel_rfl) rfl (by rintro w' ⟨s0, s1⟩; go_simp; with_reducible rfl) (fun _ _ _ h => h) (by go_simp; rfl) ?_
     refine one_ (i := 2) (N := some 33) #[true, true, true, false, false, false, false, false, false, false, false, false, false, false, false, false, false, false, false, false, false, false, false, false, false, false] rfl rfl (one_of HT_.out (by kernel_rfl)) (by decide) (fun K hK => ?_)
     refine goes_ Tryd.func7 (by kernel_rfl) rfl #[.agg #[.int .i64 t322, .slice Ao13 t323.length co13]] (by rfl) rfl rfl (by (try simp only [List.map_toArray, List.map_cons, List.map_nil]); first | done | rfl | (simp only [List.length_drop, List.length_take]; rfl)) ?_
     with_reducible refine (spec_PostText.calls kj2 t322 _ _ t323 t334 _ ?side1 ?side2 A20.out).mono ?_
     (case side1 => exact co_ (Kd.R_reads' HO325.out).2.2)
     (case side2 => exact (Kd.R_reads' HO325.out).2.1)
     rintro e w49 ⟨rfl, hb⟩
     refine ⟨_, rfl, ?_⟩
     replace HO325 := Aside0.mk (Kd.R_below (lo_ HO325) hb)
     replace HO331 := Aside0.mk (Kd.R_below (lo_ HO331) hb)
     replace BK326 := Aside0.mk (blk_below (g := gb326) (o := .cells #[.int .i64 t322, .slice Ao13 t323.length co13] 29 (0, 0)) (laws_FnPost_vb BK326) hb)
     replace BK333 := Aside0.mk (blk_below (g := gb333) (o := .cells #[.int .i64 t328, .slice Ao19 t329.length co19] 29 (0, 0)) (laws_FnPost_vb BK333) hb)
     replace HB := Aside0.mk (below_step (laws_FnPost_auHB) hb)
     (try clear hb)
     (try clear hb2)
     (try clear hk)
     (try clear hi)
     refine hK.out _ _ ⟨(blk_cell BK326.out 0).trans rfl, (blk_cell BK326.out 1).trans rfl⟩ (fun hHeld => ?_)
     clear hK K
     refine norm_ (a' := ?_) ?_ ?_
     rotate_left
     ·
      show Act.put _ (some 33) _ = _
      simp only [Act.put, List.setIfInBounds_toArray, List.set_cons_zero, List.set_cons_succ, i64_w, i32_w]
      rfl
     refine pu_ 3 (some 34) HT_ rfl rfl (by go_simp; rfl) (by kernel_rfl) rfl (by intro w'; go_simp; with_reducible rfl) (fun _ _ _ h => h) (by go_simp; rfl) ?_
     refine pu_ 4 (some 35) HT_ rfl rfl (by go_simp; rfl) (by kernel_rfl) rfl (by intro w'; go_simp; with_reducible rfl) (fun _ _ _ h => h) (by go_simp; rfl) ?_
     refine ta_ 5 (some 36) HT_ HW_ hHeld rfl rfl (by go_simp; rfl) (by kernel_rfl) rfl (by rintro w' ⟨s0, s1⟩; go_simp; with_reducible rfl) (fun _ _ _ h => h) (by go_simp; rfl) ?_
     refine ta_ 7 (some 38) HT_ HW_ hHeld rfl rfl (by go_simp; rfl) (by kernel_rfl) rfl (by rintro w' ⟨s0, s1⟩; go_simp; with_reducible rfl) (fun _ _ _ h => h) (by go_simp; rfl) ?_
     refine one_ (i := 6) (N := some 37) #[true, true, true, true, true, true, true, true, false, false, false, false, false, false, false, false, false, false, false, false, false, false, false, false, false, false] rfl rfl (one_of HT_.out (by kernel_rfl)) (by decide) (fun K hK => ?_)
     refine goes_ Tryd.func16 (by kernel_rfl) rfl #[.agg #[.int .i64 t322, .slice Ao13 t323.length co13]] (by rfl) rfl rfl (by (try simp only [List.map_toArray, List.map_cons, List.map_nil]); first | done | rfl | (simp only [List.length_drop, List.length_take]; rfl)) ?_
     with_reducible refine (impl_PostOk.calls kj2 t322 _ _ t323 t335 _ ?side1 ?side2 A22.out).mono ?_
     (case side1 => exact co_ (Kd.R_reads' HO325.out).2.2)
     (case side2 => exact (Kd.R_reads' HO325.out).2.1)
     rintro e w50 ⟨rfl, hb⟩
     refine ⟨_, rfl, ?_⟩
     replace HO325 := Aside0.mk (Kd.R_below (lo_ HO325) hb)
     replace HO331 := Aside0.mk (Kd.R_below (lo_ HO331) hb)
     replace BK326 := Aside0.mk (blk_below (g := gb326) (o := .cells #[.int .i64 t322, .slice Ao13 t323.length co13] 29 (0, 0)) (laws_FnPost_vb BK326) hb)
     replace BK333 := Aside0.mk (blk_below (g := gb333) (o := .cells #[.int .i64 t328, .slice Ao19 t329.length co19] 29 (0, 0)) (laws_FnPost_vb BK333) hb)
     replace HB := Aside0.mk (below_step (laws_FnPost_auHB) hb)
     (try clear hb)
     (try clear hb2)
     (try clear hk)
     (try clear hi)
     refine hK.out _ _ ⟨(blk_cell BK326.out 0).trans rfl, (blk_cell BK326.out 1).trans rfl⟩ (fun hHeld => ?_)
     clear hK K
     refine norm_ (a' := ?_) ?_ ?_
     rotate_left
     ·
      show Act.put _ (some 37) _ = _
      simp only [Act.put, List.setIfInBounds_toArray, List.set_cons_zero, List.set_cons_succ, i64_w, i32_w]
      rfl
     refine one_ (i := 8) (N := some 39) #[true, true, true, true, true, true, true, true, true, false, false, false, false, false, false, false, false, false, false, false, false, false, false, false, false, false] rfl rfl (one_of HT_.out (by kernel_rfl)) (by decide) (fun K hK => ?_)
     refine goes_ Tryd.func17 (by kernel_rfl) rfl #[.agg #[.int .i64 t322, .slice Ao13 t323.length co13]] (by rfl) rfl rfl (by (try simp only [List.map_toArray, List.map_cons, List.map_nil]); first | done | rfl | (simp only [List.length_drop, List.length_take]; rfl)) ?_
     with_reducible refine (spec_PostOk.calls kj2 t322 _ _ t323 t336 _ ?side1 ?side2 A23.out).mono ?_
     (case side1 => exact co_ (Kd.R_reads' HO325.out).2.2)
     (case side2 => exact (Kd.R_reads' HO325.out).2.1)
     rintro e w51 ⟨rfl, hb⟩
     refine ⟨_, rfl, ?_⟩
     replace HO325 := Aside0.mk (Kd.R_below (lo_ HO325) hb)
     replace HO331 := Aside0.mk (Kd.R_below (lo_ HO331) hb)
     replace BK326 := Aside0.mk (blk_below (g := gb326) (o := .cells #[.int .i64 t322, .slice Ao13 t323.length co13] 29 (0, 0)) (laws_FnPost_vb BK326) hb)
     replace BK333 := Aside0.mk (blk_below (g := gb333) (o := .cells #[.int .i64 t328, .slice Ao19 t329.length co19] 29 (0, 0)) (laws_FnPost_vb BK333) hb)
     replace HB := Aside0.mk (below_step (laws_FnPost_auHB) hb)
     (try clear hb)
     (try clear hb2)
     (try clear hk)
     (try clear hi)
     refine hK.out _ _ ⟨(blk_cell BK326.out 0).trans rfl, (blk_cell BK326.out 1).trans rfl⟩ (fun hHeld => ?_)
     clear hK K
     refine norm_ (a' := ?_) ?_ ?_
     rotate_left
     ·
      show Act.put _ (some 39) _ = _
      simp only [Act.put, List.setIfInBounds_toArray, List.set_cons_zero, List.set_cons_succ, i64_w, i32_w]
      rfl
     refine pu_ 9 (some 40) HT_ rfl rfl (by go_simp; rfl) (by kernel_rfl) rfl (by intro w'; go_simp; with_reducible rfl) (fun _ _ _ h => h) (by go_simp; rfl) ?_
     refine pu_ 10 (some 41) HT_ rfl rfl (by go_simp; rfl) (by kernel_rfl) rfl (by intro w'; go_simp; with_reducible rfl) (fun _ _ _ h => h) (by go_simp; rfl) ?_
     refine pu_ 11 (some 42) HT_ rfl rfl (by go_simp; rfl) (by kernel_rfl) rfl (by intro w'; go_simp; with_reducible rfl) (fun _ _ _ h => h) (by go_simp; rfl) ?_
     refine pu_ 12 (some 43) HT_ rfl rfl (by go_simp; rfl) (by kernel_rfl) rfl (by intro w'; go_simp; with_reducible rfl) (fun _ _ _ h => h) (by go_simp; rfl) ?_
     refine ta_ 13 (some 44) HT_ HW_ hHeld rfl rfl (by go_simp; rfl) (by kernel_rfl) rfl (by rintro w' ⟨s0, s1⟩; go_simp; with_reducible rfl) (fun _ _ _ h => h) (by go_simp; rfl) ?_
     refine one_ (i := 14) (N := some 45) #[true, true, true, true, true, true, true, true, true, true, true, true, true, true, true, false, false, false, false, false, false, false, false, false, false, false] rfl rfl (one_of HT_.out (by kernel_rfl)) (by decide) (fun K hK => ?_)
     refine goes_ Tryd.func17 (by kernel_rfl) rfl #[.agg #[.int .i64 t322, .slice Ao13 t323.length co13]] (by rfl) rfl rfl (by (try simp only [List.map_toArray, List.map_cons, List.map_nil]); first | done | rfl | (simp only [List.length_drop, List.length_take]; rfl)) ?_
     with_reducible refine (spec_PostOk.calls kj2 t322 _ _ t323 t337 _ ?side1 ?side2 A30.out).mono ?_
     (case side1 => exact co_ (Kd.R_reads' HO325.out).2.2)
     (case side2 => exact (Kd.R_reads' HO325.out).2.1)
     rintro e w52 ⟨rfl, hb⟩
     refine ⟨_, rfl, ?_⟩
     replace HO325 := Aside0.mk (Kd.R_below (lo_ HO325) hb)
     replace HO331 := Aside0.mk (Kd.R_below (lo_ HO331) hb)
     replace BK326 := Aside0.mk (blk_below (g := gb326) (o := .cells #[.int .i64 t322, .slice Ao13 t323.length co13] 29 (0, 0)) (laws_FnPost_vb BK326) hb)
     replace BK333 := Aside0.mk (blk_below (g := gb333) (o := .cells #[.int .i64 t328, .slice Ao19 t329.length co19] 29 (0, 0)) (laws_FnPost_vb BK333) hb)
     replace HB := Aside0.mk (below_step (laws_FnPost_auHB) hb)
     (try clear hb)
     (try clear hb2)
     (try clear hk)
     (try clear hi)
     refine hK.out _ _ ⟨(blk_cell BK326.out 0).trans rfl, (blk_cell BK326.out 1).trans rfl⟩ (fun hHeld => ?_)
     clear hK K
     refine norm_ (a' := ?_) ?_ ?_
     rotate_left
     ·
      show Act.put _ (some 45) _ = _
      simp only [Act.put, List.setIfInBounds_toArray, List.set_cons_zero, List.set_cons_succ, i64_w, i32_w]
      rfl
     refine pu_ 15 (some 46) HT_ rfl rfl (by go_simp; rfl) (by kernel_rfl) rfl (by intro w'; go_simp; with_reducible rfl) (fun _ _ _ h => h) (by go_simp; rfl) ?_
     refine pu_ 16 (some 47) HT_ rfl rfl (by go_simp; rfl) (by kernel_rfl) rfl (by intro w'; go_simp; with_reducible rfl) (fun _ _ _ h => h) (by go_simp; rfl) ?_
     refine pu_ 17 (some 48) HT_ rfl rfl (by go_simp; rfl) (by kernel_rfl) rfl (by intro w'; go_simp; with_reducible rfl) (fun _ _ _ h => h) (by go_simp; rfl) ?_
     refine pu_ 18 (some 49) HT_ rfl rfl (by go_simp; rfl) (by kernel_rfl) rfl (by intro w'; go_simp; with_reducible rfl) (fun _ _ _ h => h) (by go_simp; rfl) ?_
     refine pu_ 19 (some 50) HT_ rfl rfl (by go_simp; rfl) (by kernel_rfl) rfl (by intro w'; go_simp; with_reducible rfl) (fun _ _ _ h => h) (by go_simp; rfl) ?_
     refine pure_ (i := 20) (N := some 51) (v := undef) (a' := ?_) #[true, true, true, true, true, true, true, true, true, true, true, true, true, true, true, true, true, true, true, true, true, false, false, false, false, false] rfl rfl (any_of HT_.out (by kernel_rfl)) (fun _ _ _ h => h) (Or.inr ⟨by rfl, rfl⟩) ?_ ?_
     rotate_left
     ·
      simp only [Act.put, List.setIfInBounds_toArray, List.set_cons_zero, List.set_cons_succ, i64_w, i32_w]
      rfl
     refine pure_ (i := 21) (N := some 52) (v := undef) (a' := ?_) #[true, true, true, true, true, true, true, true, true, true, true, true, true, true, true, true, true, true, true, true, true, true, false, false, false, false] rfl rfl (any_of HT_.out (by kernel_rfl)) (fun _ _ _ h => h) (Or.inr ⟨by rfl, rfl⟩) ?_ ?_
     rotate_left
     ·
      simp only [Act.put, List.setIfInBounds_toArray, List.set_cons_zero, List.set_cons_succ, i64_w, i32_w]
      rfl
     refine pure_ (i := 22) (N := some 53) (v := undef) (a' := ?_) #[true, true, true, true, true, true, true, true, true, true, true, true, true, true, true, true, true, true, true, true, true, true, true, false, false, false] rfl rfl (any_of HT_.out (by kernel_rfl)) (fun _ _ _ h => h) (Or.inr ⟨by rfl, rfl⟩) ?_ ?_
     rotate_left
     ·
      simp only [Act.put, List.setIfInBounds_toArray, List.set_cons_zero, List.set_cons_succ, i64_w, i32_w]
      rfl
     refine pure_ (i := 23) (N := some 54) (v := undef) (a' := ?_) #[true, true, true, true, true, true, true, true, true, true, true, true, true, true, true, true, true, true, true, true, true, true, true, true, false, false] rfl rfl (any_of HT_.out (by kernel_rfl)) (fun _ _ _ h => h) (Or.inr ⟨by rfl, rfl⟩) ?_ ?_
     rotate_left
     ·
      simp only [Act.put, List.setIfInBounds_toArray, List.set_cons_zero, List.set_cons_succ, i64_w, i32_w]
      rfl
     refine pu_ 24 (some 55) HT_ rfl rfl (by go_simp; rfl) (by kernel_rfl) rfl (by intro w'; go_simp; with_reducible rfl) (fun _ _ _ h => h) (by go_simp; rfl) ?_
     refine pu_ 25 (some 56) HT_ rfl rfl (by go_simp; rfl) (by kernel_rfl) rfl (by intro w'; go_simp; with_reducible rfl) (fun _ _ _ h => h) (by go_simp; rfl) ?_
     refine done_ (done_of HT_.out (by kernel_rfl)) ?_
     try go_wp2
     go_meet
     case rel => exact ⟨_, (false), (by first | rfl | (simp; done) | (simp [*]; done)), H', ⟨by have := HJ2.out; first | omega | exact Nat.le_refl _⟩, ⟨by (with_reducible repeat (first | apply Kd.R_alloc | apply Kd.R_drewN | apply Kd.R_drew)); exact HO325.out⟩, ⟨by (with_reducible repeat (first | apply Kd.R_alloc | apply Kd.R_drewN | apply Kd.R_drew)); exact HO331.out⟩, ⟨by (with_reducible repeat (first | refine blk_drewN ?_ _ | refine blk_drew ?_ | refine blk_alloc ?_ _)); exact BK326.out⟩, ⟨by (with_reducible repeat (first | refine blk_drewN ?_ _ | refine blk_drew ?_ | refine blk_alloc ?_ _)); exact BK333.out⟩, ⟨laws_FnPost_auHB⟩⟩
    subst c38
    have H1 : ((impl_PostSame.f kj2 t328 t329 t322 t323).bind fun t338 => (laws_FnPost.j1 kj2 l1 (!t338))) = some r := by rw [if_pos rfl] at H; exact H
    clear H
    have H := H1
    clear H1
    replace H := Option.bind_eq_some_iff.mp H
    obtain ⟨t338, A390, H⟩ := H
    replace H : (laws_FnPost.j1 kj2 l1 (!t338)) = some r := H
    have A39 := Aside0.mk A390
    clear A390
    have H' := Aside0.mk H
    clear H
    try go_wp2
    have n0_ : Aside0 (Kd.R k45 45 ((w16.setCell ⟨gb333, 0, none⟩ (.int .i64 t328)).setCell ⟨gb333, 1, none⟩ (.slice Ao19 t329.length co19)) w.heap.size (fun k_ => some k_ ≠ (.slice Ao19 t329.length co19 : Value).ownBlock) (.slice Ao13 t323.length co13) t323) := ⟨by (with_reducible repeat (first | apply Kd.R_alloc | apply Kd.R_drewN | apply Kd.R_drew)); exact Kd.R_mono (Kd.R_far (p := ⟨gb333, 1, none⟩) (Kd.R_far (p := ⟨gb333, 0, none⟩) (Kd.R_types HO325.out BK333.out (by decide)) (fun _ hk => hk.2) (.int .i64 t328)) (fun _ hk => hk.2) (.slice Ao19 t329.length co19)) (fun _ hk => hk.1.2)⟩
    have n1_ : Aside0 (Kd.R k45 45 ((w16.setCell ⟨gb333, 0, none⟩ (.int .i64 t328)).setCell ⟨gb333, 1, none⟩ (.slice Ao19 t329.length co19)) w.heap.size (fun k_ => some k_ ≠ (.slice Ao13 t323.length co13 : Value).ownBlock) (.slice Ao19 t329.length co19) t329) := ⟨by (with_reducible repeat (first | apply Kd.R_alloc | apply Kd.R_drewN | apply Kd.R_drew)); exact Kd.R_mono (Kd.R_far (p := ⟨gb333, 1, none⟩) (Kd.R_far (p := ⟨gb333, 0, none⟩) (Kd.R_types HO331.out BK333.out (by decide)) (fun _ hk => hk.2) (.int .i64 t328)) (fun _ hk => hk.2) (.slice Ao19 t329.length co19)) (fun _ hk => hk.1.2)⟩
    have n2_ : Aside0 (((w16.setCell ⟨gb333, 0, none⟩ (.int .i64 t328)).setCell ⟨gb333, 1, none⟩ (.slice Ao19 t329.length co19)).heap[gb326]? = some (.cells #[.int .i64 t322, .slice Ao13 t323.length co13] 29 (0, 0))) := ⟨by (with_reducible repeat (first | refine blk_drewN ?_ _ | refine blk_drew ?_ | refine blk_alloc ?_ _)); refine blk_far ?_ NB326_333.out _; (with_reducible repeat (first | refine blk_drewN ?_ _ | refine blk_drew ?_ | refine blk_alloc ?_ _)); refine blk_far ?_ NB326_333.out _; (with_reducible repeat (first | refine blk_drewN ?_ _ | refine blk_drew ?_ | refine blk_alloc ?_ _)); exact BK326.out⟩
    have n3_ : Aside0 (((w16.setCell ⟨gb333, 0, none⟩ (.int .i64 t328)).setCell ⟨gb333, 1, none⟩ (.slice Ao19 t329.length co19)).heap[gb333]? = some (.cells #[.int .i64 t328, .slice Ao19 t329.length co19] 29 (0, 0))) := ⟨by (with_reducible repeat (first | refine blk_drewN ?_ _ | refine blk_drew ?_ | refine blk_alloc ?_ _)); refine blk_put (cs := #[.int .i64 t328, .slice none 0 0]) ?_ 1 _ rfl; (with_reducible repeat (first | refine blk_drewN ?_ _ | refine blk_drew ?_ | refine blk_alloc ?_ _)); refine blk_put (cs := #[.int .i64 0, .slice none 0 0]) ?_ 0 _ rfl; (with_reducible repeat (first | refine blk_drewN ?_ _ | refine blk_drew ?_ | refine blk_alloc ?_ _)); exact BK333.out⟩
    have n4_ : Aside0 (Below w.heap.size w ((w16.setCell ⟨gb333, 0, none⟩ (.int .i64 t328)).setCell ⟨gb333, 1, none⟩ (.slice Ao19 t329.length co19))) := ⟨laws_FnPost_auHB⟩
    (try clear HO325)
    (try clear HO331)
    (try clear BK326)
    (try clear BK333)
    (try clear HB)
    generalize ((w16.setCell ⟨gb333, 0, none⟩ (.int .i64 t328)).setCell ⟨gb333, 1, none⟩ (.slice Ao19 t329.length co19)) = w40 at n0_ n1_ n2_ n3_ n4_ ⊢
    have HO325 := n0_
    have HO331 := n1_
    have BK326 := n2_
    have BK333 := n3_
    have HB := n4_
    clear n0_ n1_ n2_ n3_ n4_
    replace HO325 := Aside0.mk (Kd.R_drew HO325.out)
    replace HO331 := Aside0.mk (Kd.R_drew HO331.out)
    replace BK326 := Aside0.mk (blk_drew BK326.out)
    replace BK333 := Aside0.mk (blk_drew BK333.out)
    replace HB := Aside0.mk (below_drew1 HB.out)
    refine start_ (n := 26) (S := fun w' => w'.cell? ⟨gb326, 0, none⟩ = some (.int .i64 t322) ∧ w'.cell? ⟨gb326, 1, none⟩ = some (.slice Ao13 t323.length co13) ∧ w'.cell? ⟨gb333, 0, none⟩ = some (.int .i64 t328) ∧ w'.cell? ⟨gb333, 1, none⟩ = some (.slice Ao19 t329.length co19)) (ds := []) #[false, false, false, false, false, false, false, false, false, false, false, false, false, false, false, false, false, false, false, false, false, false, false, false, false, false] (by kernel_rfl) rfl rfl ⟨(blk_cell BK326.out 0).trans rfl, (blk_cell BK326.out 1).trans rfl, (blk_cell BK333.out 0).trans rfl, (blk_cell BK333.out 1).trans rfl⟩ (fun hHeld => ?_); refine with_tabW laws_FnPost.tab6 laws_FnPost.bits6 (fun HT_ HW_ => ?_)
    generalize w40.drew = w41 at HO325 HO331 BK326 BK333 HB hHeld ⊢
    refine pu_ 0 (some 31) HT_ rfl rfl (by go_simp; rfl) (by kernel_rfl) rfl (by intro w'; go_simp; with_reducible rfl) (fun _ _ _ h => h) (by go_simp; rfl) ?_
    refine ta_ 1 (some 32) HT_ HW_ hHeld rfl rfl (by go_simp; rfl) (by kernel_rfl) rfl (by rintro w' ⟨s0, s1, s2, s3⟩; go_simp; with_reducible rfl) (fun _ _ _ h => h) (by go_simp; rfl) ?_
    refine one_ (i := 2) (N := some 33) #[true, true, true, false, false, false, false, false, false, false, false, false, false, false, false, false, false, false, false, false, false, false, false, false, false, false] rfl rfl (one_of HT_.out (by kernel_rfl)) (by decide) (fun K hK => ?_)
    refine goes_ Tryd.func7 (by kernel_rfl) rfl #[.agg #[.int .i64 t322, .slice Ao13 t323.length co13]] (by rfl) rfl rfl (by (try simp only [List.map_toArray, List.map_cons, List.map_nil]); first | done | rfl | (simp only [List.length_drop, List.length_take]; rfl)) ?_
    with_reducible refine (spec_PostText.calls kj2 t322 _ _ t323 t334 _ ?side1 ?side2 A20.out).mono ?_
    (case side1 => exact co_ (Kd.R_reads' HO325.out).2.2)
    (case side2 => exact (Kd.R_reads' HO325.out).2.1)
    rintro e w42 ⟨rfl, hb⟩
    refine ⟨_, rfl, ?_⟩
    replace HO325 := Aside0.mk (Kd.R_below (lo_ HO325) hb)
    replace HO331 := Aside0.mk (Kd.R_below (lo_ HO331) hb)
    replace BK326 := Aside0.mk (blk_below (g := gb326) (o := .cells #[.int .i64 t322, .slice Ao13 t323.length co13] 29 (0, 0)) (laws_FnPost_vb BK326) hb)
    replace BK333 := Aside0.mk (blk_below (g := gb333) (o := .cells #[.int .i64 t328, .slice Ao19 t329.length co19] 29 (0, 0)) (laws_FnPost_vb BK333) hb)
    replace HB := Aside0.mk (below_step (laws_FnPost_auHB) hb)
    (try clear hb)
    (try clear hb2)
    (try clear hk)
    (try clear hi)
    refine hK.out _ _ ⟨(blk_cell BK326.out 0).trans rfl, (blk_cell BK326.out 1).trans rfl, (blk_cell BK333.out 0).trans rfl, (blk_cell BK333.out 1).trans rfl⟩ (fun hHeld => ?_)
    clear hK K
    refine norm_ (a' := ?_) ?_ ?_
    rotate_left
    ·
     show Act.put _ (some 33) _ = _
     simp only [Act.put, List.setIfInBounds_toArray, List.set_cons_zero, List.set_cons_succ, i64_w, i32_w]
     rfl
    refine pu_ 3 (some 34) HT_ rfl rfl (by go_simp; rfl) (by kernel_rfl) rfl (by intro w'; go_simp; with_reducible rfl) (fun _ _ _ h => h) (by go_simp; rfl) ?_
    refine pu_ 4 (some 35) HT_ rfl rfl (by go_simp; rfl) (by kernel_rfl) rfl (by intro w'; go_simp; with_reducible rfl) (fun _ _ _ h => h) (by go_simp; rfl) ?_
    refine ta_ 5 (some 36) HT_ HW_ hHeld rfl rfl (by go_simp; rfl) (by kernel_rfl) rfl (by rintro w' ⟨s0, s1, s2, s3⟩; go_simp; with_reducible rfl) (fun _ _ _ h => h) (by go_simp; rfl) ?_
    refine ta_ 7 (some 38) HT_ HW_ hHeld rfl rfl (by go_simp; rfl) (by kernel_rfl) rfl (by rintro w' ⟨s0, s1, s2, s3⟩; go_simp; with_reducible rfl) (fun _ _ _ h => h) (by go_simp; rfl) ?_
    refine one_ (i := 6) (N := some 37) #[true, true, true, true, true, true, true, true, false, false, false, false, false, false, false, false, false, false, false, false, false, false, false, false, false, false] rfl rfl (one_of HT_.out (by kernel_rfl)) (by decide) (fun K hK => ?_)
    refine goes_ Tryd.func16 (by kernel_rfl) rfl #[.agg #[.int .i64 t322, .slice Ao13 t323.length co13]] (by rfl) rfl rfl (by (try simp only [List.map_toArray, List.map_cons, List.map_nil]); first | done | rfl | (simp only [List.length_drop, List.length_take]; rfl)) ?_
    with_reducible refine (impl_PostOk.calls kj2 t322 _ _ t323 t335 _ ?side1 ?side2 A22.out).mono ?_
    (case side1 => exact co_ (Kd.R_reads' HO325.out).2.2)
    (case side2 => exact (Kd.R_reads' HO325.out).2.1)
    rintro e w43 ⟨rfl, hb⟩
    refine ⟨_, rfl, ?_⟩
    replace HO325 := Aside0.mk (Kd.R_below (lo_ HO325) hb)
    replace HO331 := Aside0.mk (Kd.R_below (lo_ HO331) hb)
    replace BK326 := Aside0.mk (blk_below (g := gb326) (o := .cells #[.int .i64 t322, .slice Ao13 t323.length co13] 29 (0, 0)) (laws_FnPost_vb BK326) hb)
    replace BK333 := Aside0.mk (blk_below (g := gb333) (o := .cells #[.int .i64 t328, .slice Ao19 t329.length co19] 29 (0, 0)) (laws_FnPost_vb BK333) hb)
    replace HB := Aside0.mk (below_step (laws_FnPost_auHB) hb)
    (try clear hb)
    (try clear hb2)
    (try clear hk)
    (try clear hi)
    refine hK.out _ _ ⟨(blk_cell BK326.out 0).trans rfl, (blk_cell BK326.out 1).trans rfl, (blk_cell BK333.out 0).trans rfl, (blk_cell BK333.out 1).trans rfl⟩ (fun hHeld => ?_)
    clear hK K
    refine norm_ (a' := ?_) ?_ ?_
    rotate_left
    ·
     show Act.put _ (some 37) _ = _
     simp only [Act.put, List.setIfInBounds_toArray, List.set_cons_zero, List.set_cons_succ, i64_w, i32_w]
     rfl
    refine one_ (i := 8) (N := some 39) #[true, true, true, true, true, true, true, true, true, false, false, false, false, false, false, false, false, false, false, false, false, false, false, false, false, false] rfl rfl (one_of HT_.out (by kernel_rfl)) (by decide) (fun K hK => ?_)
    refine goes_ Tryd.func17 (by kernel_rfl) rfl #[.agg #[.int .i64 t322, .slice Ao13 t323.length co13]] (by rfl) rfl rfl (by (try simp only [List.map_toArray, List.map_cons, List.map_nil]); first | done | rfl | (simp only [List.length_drop, List.length_take]; rfl)) ?_
    with_reducible refine (spec_PostOk.calls kj2 t322 _ _ t323 t336 _ ?side1 ?side2 A23.out).mono ?_
    (case side1 => exact co_ (Kd.R_reads' HO325.out).2.2)
    (case side2 => exact (Kd.R_reads' HO325.out).2.1)
    rintro e w44 ⟨rfl, hb⟩
    refine ⟨_, rfl, ?_⟩
    replace HO325 := Aside0.mk (Kd.R_below (lo_ HO325) hb)
    replace HO331 := Aside0.mk (Kd.R_below (lo_ HO331) hb)
    replace BK326 := Aside0.mk (blk_below (g := gb326) (o := .cells #[.int .i64 t322, .slice Ao13 t323.length co13] 29 (0, 0)) (laws_FnPost_vb BK326) hb)
    replace BK333 := Aside0.mk (blk_below (g := gb333) (o := .cells #[.int .i64 t328, .slice Ao19 t329.length co19] 29 (0, 0)) (laws_FnPost_vb BK333) hb)
    replace HB := Aside0.mk (below_step (laws_FnPost_auHB) hb)
    (try clear hb)
    (try clear hb2)
    (try clear hk)
    (try clear hi)
    refine hK.out _ _ ⟨(blk_cell BK326.out 0).trans rfl, (blk_cell BK326.out 1).trans rfl, (blk_cell BK333.out 0).trans rfl, (blk_cell BK333.out 1).trans rfl⟩ (fun hHeld => ?_)
    clear hK K
    refine norm_ (a' := ?_) ?_ ?_
    rotate_left
    ·
     show Act.put _ (some 39) _ = _
     simp only [Act.put, List.setIfInBounds_toArray, List.set_cons_zero, List.set_cons_succ, i64_w, i32_w]
     rfl
    refine pu_ 9 (some 40) HT_ rfl rfl (by go_simp; rfl) (by kernel_rfl) rfl (by intro w'; go_simp; with_reducible rfl) (fun _ _ _ h => h) (by go_simp; rfl) ?_
    refine pu_ 10 (some 41) HT_ rfl rfl (by go_simp; rfl) (by kernel_rfl) rfl (by intro w'; go_simp; with_reducible rfl) (fun _ _ _ h => h) (by go_simp; rfl) ?_
    refine pu_ 11 (some 42) HT_ rfl rfl (by go_simp; rfl) (by kernel_rfl) rfl (by intro w'; go_simp; with_reducible rfl) (fun _ _ _ h => h) (by go_simp; rfl) ?_
    refine pu_ 12 (some 43) HT_ rfl rfl (by go_simp; rfl) (by kernel_rfl) rfl (by intro w'; go_simp; with_reducible rfl) (fun _ _ _ h => h) (by go_simp; rfl) ?_
    refine ta_ 13 (some 44) HT_ HW_ hHeld rfl rfl (by go_simp; rfl) (by kernel_rfl) rfl (by rintro w' ⟨s0, s1, s2, s3⟩; go_simp; with_reducible rfl) (fun _ _ _ h => h) (by go_simp; rfl) ?_
    refine one_ (i := 14) (N := some 45) #[true, true, true, true, true, true, true, true, true, true, true, true, true, true, true, false, false, false, false, false, false, false, false, false, false, false] rfl rfl (one_of HT_.out (by kernel_rfl)) (by decide) (fun K hK => ?_)
    refine goes_ Tryd.func17 (by kernel_rfl) rfl #[.agg #[.int .i64 t322, .slice Ao13 t323.length co13]] (by rfl) rfl rfl (by (try simp only [List.map_toArray, List.map_cons, List.map_nil]); first | done | rfl | (simp only [List.length_drop, List.length_take]; rfl)) ?_
    with_reducible refine (spec_PostOk.calls kj2 t322 _ _ t323 t337 _ ?side1 ?side2 A30.out).mono ?_
    (case side1 => exact co_ (Kd.R_reads' HO325.out).2.2)
    (case side2 => exact (Kd.R_reads' HO325.out).2.1)
    rintro e w45 ⟨rfl, hb⟩
    refine ⟨_, rfl, ?_⟩
    replace HO325 := Aside0.mk (Kd.R_below (lo_ HO325) hb)
    replace HO331 := Aside0.mk (Kd.R_below (lo_ HO331) hb)
    replace BK326 := Aside0.mk (blk_below (g := gb326) (o := .cells #[.int .i64 t322, .slice Ao13 t323.length co13] 29 (0, 0)) (laws_FnPost_vb BK326) hb)
    replace BK333 := Aside0.mk (blk_below (g := gb333) (o := .cells #[.int .i64 t328, .slice Ao19 t329.length co19] 29 (0, 0)) (laws_FnPost_vb BK333) hb)
    replace HB := Aside0.mk (below_step (laws_FnPost_auHB) hb)
    (try clear hb)
    (try clear hb2)
    (try clear hk)
    (try clear hi)
    refine hK.out _ _ ⟨(blk_cell BK326.out 0).trans rfl, (blk_cell BK326.out 1).trans rfl, (blk_cell BK333.out 0).trans rfl, (blk_cell BK333.out 1).trans rfl⟩ (fun hHeld => ?_)
    clear hK K
    refine norm_ (a' := ?_) ?_ ?_
    rotate_left
    ·
     show Act.put _ (some 45) _ = _
     simp only [Act.put, List.setIfInBounds_toArray, List.set_cons_zero, List.set_cons_succ, i64_w, i32_w]
     rfl
    refine pu_ 15 (some 46) HT_ rfl rfl (by go_simp; rfl) (by kernel_rfl) rfl (by intro w'; go_simp; with_reducible rfl) (fun _ _ _ h => h) (by go_simp; rfl) ?_
    refine pu_ 16 (some 47) HT_ rfl rfl (by go_simp; rfl) (by kernel_rfl) rfl (by intro w'; go_simp; with_reducible rfl) (fun _ _ _ h => h) (by go_simp; rfl) ?_
    refine pu_ 17 (some 48) HT_ rfl rfl (by go_simp; rfl) (by kernel_rfl) rfl (by intro w'; go_simp; with_reducible rfl) (fun _ _ _ h => h) (by go_simp; rfl) ?_
    refine pu_ 18 (some 49) HT_ rfl rfl (by go_simp; rfl) (by kernel_rfl) rfl (by intro w'; go_simp; with_reducible rfl) (fun _ _ _ h => h) (by go_simp; rfl) ?_
    refine pu_ 19 (some 50) HT_ rfl rfl (by go_simp; rfl) (by kernel_rfl) rfl (by intro w'; go_simp; with_reducible rfl) (fun _ _ _ h => h) (by go_simp; rfl) ?_
    refine ta_ 20 (some 51) HT_ HW_ hHeld rfl rfl (by go_simp; rfl) (by kernel_rfl) rfl (by rintro w' ⟨s0, s1, s2, s3⟩; go_simp; with_reducible rfl) (fun _ _ _ h => h) (by go_simp; rfl) ?_
    refine ta_ 21 (some 52) HT_ HW_ hHeld rfl rfl (by go_simp; rfl) (by kernel_rfl) rfl (by rintro w' ⟨s0, s1, s2, s3⟩; go_simp; with_reducible rfl) (fun _ _ _ h => h) (by go_simp; rfl) ?_
    refine one_ (i := 22) (N := some 53) #[true, true, true, true, true, true, true, true, true, true, true, true, true, true, true, true, true, true, true, true, true, true, true, false, false, false] rfl rfl (one_of HT_.out (by kernel_rfl)) (by decide) (fun K hK => ?_)
    refine goes_ Tryd.func18 (by kernel_rfl) rfl #[.agg #[.int .i64 t328, .slice Ao19 t329.length co19], .agg #[.int .i64 t322, .slice Ao13 t323.length co13]] (by rfl) rfl rfl (by (try simp only [List.map_toArray, List.map_cons, List.map_nil]); first | done | rfl | (simp only [List.length_drop, List.length_take]; rfl)) ?_
    with_reducible refine (impl_PostSame.calls kj2 t328 _ _ t329 t322 _ _ t323 t338 _ ?side1 ?side2 ?side3 ?side4 A39.out).mono ?_
    (case side1 => exact co_ (Kd.R_reads' HO331.out).2.2)
    (case side2 => exact (Kd.R_reads' HO331.out).2.1)
    (case side3 => exact co_ (Kd.R_reads' HO325.out).2.2)
    (case side4 => exact (Kd.R_reads' HO325.out).2.1)
    rintro e w46 ⟨rfl, hb⟩
    refine ⟨_, rfl, ?_⟩
    replace HO325 := Aside0.mk (Kd.R_below (lo_ HO325) hb)
    replace HO331 := Aside0.mk (Kd.R_below (lo_ HO331) hb)
    replace BK326 := Aside0.mk (blk_below (g := gb326) (o := .cells #[.int .i64 t322, .slice Ao13 t323.length co13] 29 (0, 0)) (laws_FnPost_vb BK326) hb)
    replace BK333 := Aside0.mk (blk_below (g := gb333) (o := .cells #[.int .i64 t328, .slice Ao19 t329.length co19] 29 (0, 0)) (laws_FnPost_vb BK333) hb)
    replace HB := Aside0.mk (below_step (laws_FnPost_auHB) hb)
    (try clear hb)
    (try clear hb2)
    (try clear hk)
    (try clear hi)
    refine hK.out _ _ ⟨(blk_cell BK326.out 0).trans rfl, (blk_cell BK326.out 1).trans rfl, (blk_cell BK333.out 0).trans rfl, (blk_cell BK333.out 1).trans rfl⟩ (fun hHeld => ?_)
    clear hK K
    refine norm_ (a' := ?_) ?_ ?_
    rotate_left
    ·
     show Act.put _ (some 53) _ = _
     simp only [Act.put, List.setIfInBounds_toArray, List.set_cons_zero, List.set_cons_succ, i64_w, i32_w]
     rfl
    refine pu_ 23 (some 54) HT_ rfl rfl (by go_simp; rfl) (by kernel_rfl) rfl (by intro w'; go_simp; with_reducible rfl) (fun _ _ _ h => h) (by go_simp; rfl) ?_
    refine pu_ 24 (some 55) HT_ rfl rfl (by go_simp; rfl) (by kernel_rfl) rfl (by intro w'; go_simp; with_reducible rfl) (fun _ _ _ h => h) (by go_simp; rfl) ?_
    refine pu_ 25 (some 56) HT_ rfl rfl (by go_simp; rfl) (by kernel_rfl) rfl (by intro w'; go_simp; with_reducible rfl) (fun _ _ _ h => h) (by go_simp; rfl) ?_
    refine done_ (done_of HT_.out (by kernel_rfl)) ?_
    try go_wp2
    go_meet
    case rel => exact ⟨_, (!t338), (by first | rfl | (simp; done) | (simp [*]; done)), H', ⟨by have := HJ2.out; first | omega | exact Nat.le_refl _⟩, ⟨by (with_reducible repeat (first | apply Kd.R_alloc | apply Kd.R_drewN | apply Kd.R_drew)); exact HO325.out⟩, ⟨by (with_reducible repeat (first | apply Kd.R_alloc | apply Kd.R_drewN | apply Kd.R_drew)); exact HO331.out⟩, ⟨by (with_reducible repeat (first | refine blk_drewN ?_ _ | refine blk_drew ?_ | refine blk_alloc ?_ _)); exact BK326.out⟩, ⟨by (with_reducible repeat (first | refine blk_drewN ?_ _ | refine blk_drew ?_ | refine blk_alloc ?_ _)); exact BK333.out⟩, ⟨laws_FnPost_auHB⟩⟩
   case rest =>
    clear HC9
    try clear c1
    try clear c2
    try clear p2
    try clear c3
    try clear c7
    try clear c16
    try clear c17
    try clear c21
    try clear c21b0
    try clear c21b1
    try clear c38
    obtain ⟨kq, x56_8, rfl, HA, HJ8, HO_327001, HO_334001, BK326, BK333, HB⟩ := hcut
    cases kq with
    | zero => exact absurd HA.out (by simp [laws_FnPost.j1])
    | succ kj8 =>
     have H := HA.out
     clear HA
     simp only [laws_FnPost.j1] at H
     by_cases c56 : x56_8 = true
     ·
      subst c56
      have H1 : (none) = some r := by rw [if_pos rfl] at H; exact H
      clear H
      have H := H1
      clear H1
      exact absurd H (by simp)
     replace c56 := Bool.eq_false_iff.mpr c56
     subst c56
     have H1 : ((spec_DrawPostRead.f kj8 l1).bind fun t339 => ((impl_PostRead.f kj8 t339).bind fun bt340 => ((spec_PostRead.f kj8 t339).bind fun bt346 => (if (bt340.2.2 == bt346.2.2) = true then ((impl_PostSame.f kj8 bt340.1 bt340.2.1 bt346.1 bt346.2.1).bind fun t352 => (if t352 = true then (if bt340.2.2 = true then ((impl_PostText.f kj8 bt340.1 bt340.2.1).bind fun t353 => (if t353.toList = t339.toList then ((impl_PostOk.f kj8 bt340.1 bt340.2.1).bind fun t354 => (some t354)) else (none))) else (some true)) else (none))) else (none))))) = some r := by rw [if_neg (show ¬ (false = true) by decide)] at H; exact H
     clear H
     have H := H1
     clear H1
     replace H := Option.bind_eq_some_iff.mp H
     obtain ⟨t339, A570, H⟩ := H
     replace H : ((impl_PostRead.f kj8 t339).bind fun bt340 => ((spec_PostRead.f kj8 t339).bind fun bt346 => (if (bt340.2.2 == bt346.2.2) = true then ((impl_PostSame.f kj8 bt340.1 bt340.2.1 bt346.1 bt346.2.1).bind fun t352 => (if t352 = true then (if bt340.2.2 = true then ((impl_PostText.f kj8 bt340.1 bt340.2.1).bind fun t353 => (if t353.toList = t339.toList then ((impl_PostOk.f kj8 bt340.1 bt340.2.1).bind fun t354 => (some t354)) else (none))) else (some true)) else (none))) else (none)))) = some r := H
     have A57 := Aside0.mk A570
     clear A570
     replace H := Option.bind_eq_some_iff.mp H
     obtain ⟨⟨t340, t341, t344⟩, A580, H⟩ := H
     replace H : ((spec_PostRead.f kj8 t339).bind fun bt346 => (if (t344 == bt346.2.2) = true then ((impl_PostSame.f kj8 t340 t341 bt346.1 bt346.2.1).bind fun t352 => (if t352 = true then (if t344 = true then ((impl_PostText.f kj8 t340 t341).bind fun t353 => (if t353.toList = t339.toList then ((impl_PostOk.f kj8 t340 t341).bind fun t354 => (some t354)) else (none))) else (some true)) else (none))) else (none))) = some r := H
     have A58 := Aside0.mk A580
     clear A580
     replace H := Option.bind_eq_some_iff.mp H
     obtain ⟨⟨t346, t347, t350⟩, A590, H⟩ := H
     replace H : (if (t344 == t350) = true then ((impl_PostSame.f kj8 t340 t341 t346 t347).bind fun t352 => (if t352 = true then (if t344 = true then ((impl_PostText.f kj8 t340 t341).bind fun t353 => (if t353.toList = t339.toList then ((impl_PostOk.f kj8 t340 t341).bind fun t354 => (some t354)) else (none))) else (some true)) else (none))) else (none)) = some r := H
     have A59 := Aside0.mk A590
     clear A590
     by_cases c60 : (t344 == t350) = true
     rotate_left
     ·
      rw [if_neg c60] at H
      exact absurd H (by simp)
     rw [if_pos c60] at H
     have c60b0 : (t344 == t350) = true := c60
     (try (have c60b1 : decide (t344 = t350) = true := by (have h_ := c60; (try simp at h_); (try simp); (try exact h_))))
     (try (have c60b2 : (t344 == t350) = true := by (have h_ := c60; (try simp at h_); (try simp); (try exact h_))))
     clear c60
     replace H := Option.bind_eq_some_iff.mp H
     obtain ⟨t352, A610, H⟩ := H
     replace H : (if t352 = true then (if t344 = true then ((impl_PostText.f kj8 t340 t341).bind fun t353 => (if t353.toList = t339.toList then ((impl_PostOk.f kj8 t340 t341).bind fun t354 => (some t354)) else (none))) else (some true)) else (none)) = some r := H
     have A61 := Aside0.mk A610
     clear A610
     by_cases c62 : t352 = true
     rotate_left
     ·
      replace c62 := Bool.eq_false_iff.mpr c62
      subst c62
      have H1 : (none) = some r := by rw [if_neg (show ¬ (false = true) by decide)] at H; exact H
      clear H
      have H := H1
      clear H1
      exact absurd H (by simp)
     subst c62
     have H1 : (if t344 = true then ((impl_PostText.f kj8 t340 t341).bind fun t353 => (if t353.toList = t339.toList then ((impl_PostOk.f kj8 t340 t341).bind fun t354 => (some t354)) else (none))) else (some true)) = some r := by rw [if_pos rfl] at H; exact H
     clear H
     have H := H1
     clear H1
     by_cases c63 : t344 = true
     rotate_left
     ·
      replace c63 := Bool.eq_false_iff.mpr c63
      subst c63
      have H1 : (some true) = some r := by rw [if_neg (show ¬ (false = true) by decide)] at H; exact H
      clear H
      have H := H1
      clear H1
      obtain rfl := Option.some.inj H
      go_wp2_with (first | ((with_reducible refine gate_callee (f := 19) rfl ?_); refine goesL_ (some 58) rfl rfl Tryd.func19 (by kernel_rfl) rfl #[.slice A1 l1.length c1] rfl (by (try simp only [List.map_toArray, List.map_cons, List.map_nil]); first | done | rfl | (simp only [List.length_drop, List.length_take]; rfl)) ?_; (with_reducible refine (spec_DrawPostRead.calls kj8 _ _ l1 t339 _ ?side1 ?side2 A57.out).mono ?_); (case side1 => repeat (first | exact (Kd.C_below HR1.out HB.out) | (with_reducible refine Kd.C_alloc ?_ _) | (with_reducible refine Kd.C_drewN ?_ _) | (with_reducible refine Kd.C_drew ?_))); (case side2 => exact HC1.out); rintro e w87 ⟨rfl, hb⟩; refine ⟨_, rfl, ?_⟩; replace HO_327001 := Aside0.mk (Kd.R_below (lo_ HO_327001) hb); replace HO_334001 := Aside0.mk (Kd.R_below (lo_ HO_334001) hb); replace BK326 := Aside0.mk (blk_below (g := gb326) (o := .cells #[.int .i64 t322, .slice Ao13 t323.length co13] 29 (0, 0)) (laws_FnPost_vb BK326) hb); replace BK333 := Aside0.mk (blk_below (g := gb333) (o := .cells #[.int .i64 t328, .slice Ao19 t329.length co19] 29 (0, 0)) (laws_FnPost_vb BK333) hb); replace HB := Aside0.mk (below_step (laws_FnPost_auHB) hb); (try clear hb); (try clear hb2); (try clear hk); (try clear hi)) | ((with_reducible refine gate_callee (f := 12) rfl ?_); refine goesL_ (some 61) rfl rfl Tryd.func12 (by kernel_rfl) rfl #[.string t339] rfl (by (try simp only [List.map_toArray, List.map_cons, List.map_nil]); first | done | rfl | (simp only [List.length_drop, List.length_take]; rfl)) ?_; (with_reducible refine (impl_PostRead.calls kj8 t339 t340 t341 false _ (HTAB.out.below (by first | exact laws_FnPost_auHB | (repeat (first | (with_reducible first | exact HB.out | apply below_alloc | apply pw_below_drewN | apply below_drew1 | refine below_set ?_ GE326.out | refine below_set ?_ GE333.out | refine below_set ?_ GE345.out | refine below_set ?_ GE351.out) | exact HB.out)))) A58.out).mono ?_); rintro e w88 ⟨v342, rfl, ho0, hb⟩; refine ⟨_, rfl, ?_⟩; have HO343 := Aside0.mk (Kd.R_lower (Kd.R_new' (Kd.R_new' ho0 (Kd.R_lt (lo_ HO_327001))) (Kd.R_lt (lo_ HO_334001))) (below_size (laws_FnPost_auHB))); replace HO_327001 := Aside0.mk (Kd.R_elder' (lo_ HO_327001) (Kd.R_base ho0) hb); replace HO_334001 := Aside0.mk (Kd.R_elder' (lo_ HO_334001) (Kd.R_base ho0) hb); replace BK326 := Aside0.mk (blk_below (g := gb326) (o := .cells #[.int .i64 t322, .slice Ao13 t323.length co13] 29 (0, 0)) (laws_FnPost_vb BK326) hb); replace BK333 := Aside0.mk (blk_below (g := gb333) (o := .cells #[.int .i64 t328, .slice Ao19 t329.length co19] 29 (0, 0)) (laws_FnPost_vb BK333) hb); replace HB := Aside0.mk (below_step (laws_FnPost_auHB) hb); (try clear hb); (try clear hb2); (try clear hk); (try clear hi); (try clear ho0)) | ((with_reducible refine gate_dst (N := 10) rfl ?_); (try (refine gate_guard (by rfl) ?_; dsimp only)); refine box_event ?hg (N := 10) ?hd (cs := #[.int .i64 0, .slice none 0 0]) (t := 29) ?hr ?_; (case hd => rfl); (case hg => rfl); (case hr => first | (go_simp; done) | (go_simp; rfl)); intro gb345 hg w89 hbox hb; replace HO_327001 := Aside0.mk (Kd.R_below (lo_ HO_327001) hb); replace HO_334001 := Aside0.mk (Kd.R_below (lo_ HO_334001) hb); replace HO343 := Aside0.mk (Kd.R_below (lo_ HO343) hb); have BK345 := Aside0.mk (hbox); have GW345 := Aside0.mk ((by rw [hg]; exact (below_size (laws_FnPost_auHB)) : w.heap.size ≤ gb345)); have GE345 := Aside0.mk ((by rw [hg]; exact (below_size (laws_FnPost_auHB)) : w.heap.size ≤ gb345)); replace HB := Aside0.mk (below_step (laws_FnPost_auHB) hb); have NB326_345 := Aside0.mk ((by rw [hg]; exact Nat.ne_of_lt (blk_lt (g := gb326) (o := .cells #[.int .i64 t322, .slice Ao13 t323.length co13] 29 (0, 0)) (laws_FnPost_vb BK326)) : gb326 ≠ gb345)); have NB345_326 := Aside0.mk ((by rw [hg]; exact Nat.ne_of_gt (blk_lt (g := gb326) (o := .cells #[.int .i64 t322, .slice Ao13 t323.length co13] 29 (0, 0)) (laws_FnPost_vb BK326)) : gb345 ≠ gb326)); replace BK326 := Aside0.mk (blk_below (g := gb326) (o := .cells #[.int .i64 t322, .slice Ao13 t323.length co13] 29 (0, 0)) (laws_FnPost_vb BK326) hb); have NB333_345 := Aside0.mk ((by rw [hg]; exact Nat.ne_of_lt (blk_lt (g := gb333) (o := .cells #[.int .i64 t328, .slice Ao19 t329.length co19] 29 (0, 0)) (laws_FnPost_vb BK333)) : gb333 ≠ gb345)); have NB345_333 := Aside0.mk ((by rw [hg]; exact Nat.ne_of_gt (blk_lt (g := gb333) (o := .cells #[.int .i64 t328, .slice Ao19 t329.length co19] 29 (0, 0)) (laws_FnPost_vb BK333)) : gb345 ≠ gb333)); replace BK333 := Aside0.mk (blk_below (g := gb333) (o := .cells #[.int .i64 t328, .slice Ao19 t329.length co19] 29 (0, 0)) (laws_FnPost_vb BK333) hb); clear hb hbox hg; have hnb90 := NB345_326.out; have hnc90 := NB326_345.out; have hnb91 := NB345_333.out; have hnc91 := NB333_345.out; have hcz92_0 : w89.cell? ⟨gb345, 0, none⟩ = some (.int .i64 0) := (blk_cell BK345.out 0).trans rfl; have hcz92_1 : w89.cell? ⟨gb345, 1, none⟩ = some (.slice none 0 0) := (blk_cell BK345.out 1).trans rfl; have hfz92_0 := blk_frozen BK345.out 0; have hfz92_1 := blk_frozen BK345.out 1; obtain ⟨Ao93, co93, eo93⟩ := Kd.R_slice HO343.out; subst eo93) | ((with_reducible refine gate_callee (f := 11) rfl ?_); refine goesL_ (some 66) rfl rfl Tryd.func11 (by kernel_rfl) rfl #[.string t339] rfl (by (try simp only [List.map_toArray, List.map_cons, List.map_nil]); first | done | rfl | (simp only [List.length_drop, List.length_take]; rfl)) ?_; (with_reducible refine (spec_PostRead.calls kj8 t339 t346 t347 t350 _ A59.out).mono ?_); rintro e w94 ⟨v348, rfl, ho0, hb⟩; refine ⟨_, rfl, ?_⟩; have HO349 := Aside0.mk (Kd.R_lower (Kd.R_new' (Kd.R_new' (Kd.R_new' ho0 (Kd.R_lt (by (with_reducible repeat (first | apply Kd.R_alloc | apply Kd.R_drewN | apply Kd.R_drew)); exact (Kd.R_mono (Kd.R_far (p := ⟨gb345, 1, none⟩) (Kd.R_far (p := ⟨gb345, 0, none⟩) (Kd.R_types HO_327001.out BK345.out (by decide)) (fun _ hk => hk.2) (.int .i64 t340)) (fun _ hk => hk.2) (.slice Ao93 t341.length co93)) (fun _ h_ => h_.1))))) (Kd.R_lt (by (with_reducible repeat (first | apply Kd.R_alloc | apply Kd.R_drewN | apply Kd.R_drew)); exact (Kd.R_mono (Kd.R_far (p := ⟨gb345, 1, none⟩) (Kd.R_far (p := ⟨gb345, 0, none⟩) (Kd.R_types HO_334001.out BK345.out (by decide)) (fun _ hk => hk.2) (.int .i64 t340)) (fun _ hk => hk.2) (.slice Ao93 t341.length co93)) (fun _ h_ => h_.1))))) (Kd.R_lt (by (with_reducible repeat (first | apply Kd.R_alloc | apply Kd.R_drewN | apply Kd.R_drew)); exact (Kd.R_mono (Kd.R_far (p := ⟨gb345, 1, none⟩) (Kd.R_far (p := ⟨gb345, 0, none⟩) (Kd.R_types HO343.out BK345.out (by decide)) (fun _ hk => hk.2) (.int .i64 t340)) (fun _ hk => hk.2) (.slice Ao93 t341.length co93)) (fun _ h_ => h_.1))))) (below_size (laws_FnPost_auHB))); replace HO_327001 := Aside0.mk (Kd.R_elder' (by (with_reducible repeat (first | apply Kd.R_alloc | apply Kd.R_drewN | apply Kd.R_drew)); exact (Kd.R_mono (Kd.R_far (p := ⟨gb345, 1, none⟩) (Kd.R_far (p := ⟨gb345, 0, none⟩) (Kd.R_types HO_327001.out BK345.out (by decide)) (fun _ hk => hk.2) (.int .i64 t340)) (fun _ hk => hk.2) (.slice Ao93 t341.length co93)) (fun _ h_ => h_.1))) (Kd.R_base ho0) hb); replace HO_334001 := Aside0.mk (Kd.R_elder' (by (with_reducible repeat (first | apply Kd.R_alloc | apply Kd.R_drewN | apply Kd.R_drew)); exact (Kd.R_mono (Kd.R_far (p := ⟨gb345, 1, none⟩) (Kd.R_far (p := ⟨gb345, 0, none⟩) (Kd.R_types HO_334001.out BK345.out (by decide)) (fun _ hk => hk.2) (.int .i64 t340)) (fun _ hk => hk.2) (.slice Ao93 t341.length co93)) (fun _ h_ => h_.1))) (Kd.R_base ho0) hb); replace HO343 := Aside0.mk (Kd.R_elder' (by (with_reducible repeat (first | apply Kd.R_alloc | apply Kd.R_drewN | apply Kd.R_drew)); exact (Kd.R_mono (Kd.R_far (p := ⟨gb345, 1, none⟩) (Kd.R_far (p := ⟨gb345, 0, none⟩) (Kd.R_types HO343.out BK345.out (by decide)) (fun _ hk => hk.2) (.int .i64 t340)) (fun _ hk => hk.2) (.slice Ao93 t341.length co93)) (fun _ h_ => h_.1))) (Kd.R_base ho0) hb); replace BK326 := Aside0.mk (blk_below (g := gb326) (o := .cells #[.int .i64 t322, .slice Ao13 t323.length co13] 29 (0, 0)) (by (with_reducible repeat (first | refine blk_drewN ?_ _ | refine blk_drew ?_ | refine blk_alloc ?_ _)); refine blk_far ?_ NB326_345.out _; (with_reducible repeat (first | refine blk_drewN ?_ _ | refine blk_drew ?_ | refine blk_alloc ?_ _)); refine blk_far ?_ NB326_345.out _; (with_reducible repeat (first | refine blk_drewN ?_ _ | refine blk_drew ?_ | refine blk_alloc ?_ _)); exact BK326.out) hb); replace BK333 := Aside0.mk (blk_below (g := gb333) (o := .cells #[.int .i64 t328, .slice Ao19 t329.length co19] 29 (0, 0)) (by (with_reducible repeat (first | refine blk_drewN ?_ _ | refine blk_drew ?_ | refine blk_alloc ?_ _)); refine blk_far ?_ NB333_345.out _; (with_reducible repeat (first | refine blk_drewN ?_ _ | refine blk_drew ?_ | refine blk_alloc ?_ _)); refine blk_far ?_ NB333_345.out _; (with_reducible repeat (first | refine blk_drewN ?_ _ | refine blk_drew ?_ | refine blk_alloc ?_ _)); exact BK333.out) hb); replace BK345 := Aside0.mk (blk_below (g := gb345) (o := .cells #[.int .i64 t340, .slice Ao93 t341.length co93] 29 (0, 0)) (by (with_reducible repeat (first | refine blk_drewN ?_ _ | refine blk_drew ?_ | refine blk_alloc ?_ _)); refine blk_put (cs := #[.int .i64 t340, .slice none 0 0]) ?_ 1 _ rfl; (with_reducible repeat (first | refine blk_drewN ?_ _ | refine blk_drew ?_ | refine blk_alloc ?_ _)); refine blk_put (cs := #[.int .i64 0, .slice none 0 0]) ?_ 0 _ rfl; (with_reducible repeat (first | refine blk_drewN ?_ _ | refine blk_drew ?_ | refine blk_alloc ?_ _)); exact BK345.out) hb); replace HB := Aside0.mk (below_step (laws_FnPost_auHB) hb); (try clear hb); (try clear hb2); (try clear hk); (try clear hi); (try clear ho0)) | ((with_reducible refine gate_dst (N := 12) rfl ?_); (try (refine gate_guard (by rfl) ?_; dsimp only)); refine box_event ?hg (N := 12) ?hd (cs := #[.int .i64 0, .slice none 0 0]) (t := 29) ?hr ?_; (case hd => rfl); (case hg => rfl); (case hr => first | (go_simp; done) | (go_simp; rfl)); intro gb351 hg w95 hbox hb; replace HO_327001 := Aside0.mk (Kd.R_below (lo_ HO_327001) hb); replace HO_334001 := Aside0.mk (Kd.R_below (lo_ HO_334001) hb); replace HO343 := Aside0.mk (Kd.R_below (lo_ HO343) hb); replace HO349 := Aside0.mk (Kd.R_below (lo_ HO349) hb); have BK351 := Aside0.mk (hbox); have GW351 := Aside0.mk ((by rw [hg]; exact (below_size (laws_FnPost_auHB)) : w.heap.size ≤ gb351)); have GE351 := Aside0.mk ((by rw [hg]; exact (below_size (laws_FnPost_auHB)) : w.heap.size ≤ gb351)); replace HB := Aside0.mk (below_step (laws_FnPost_auHB) hb); have NB326_351 := Aside0.mk ((by rw [hg]; exact Nat.ne_of_lt (blk_lt (g := gb326) (o := .cells #[.int .i64 t322, .slice Ao13 t323.length co13] 29 (0, 0)) (laws_FnPost_vb BK326)) : gb326 ≠ gb351)); have NB351_326 := Aside0.mk ((by rw [hg]; exact Nat.ne_of_gt (blk_lt (g := gb326) (o := .cells #[.int .i64 t322, .slice Ao13 t323.length co13] 29 (0, 0)) (laws_FnPost_vb BK326)) : gb351 ≠ gb326)); replace BK326 := Aside0.mk (blk_below (g := gb326) (o := .cells #[.int .i64 t322, .slice Ao13 t323.length co13] 29 (0, 0)) (laws_FnPost_vb BK326) hb); have NB333_351 := Aside0.mk ((by rw [hg]; exact Nat.ne_of_lt (blk_lt (g := gb333) (o := .cells #[.int .i64 t328, .slice Ao19 t329.length co19] 29 (0, 0)) (laws_FnPost_vb BK333)) : gb333 ≠ gb351)); have NB351_333 := Aside0.mk ((by rw [hg]; exact Nat.ne_of_gt (blk_lt (g := gb333) (o := .cells #[.int .i64 t328, .slice Ao19 t329.length co19] 29 (0, 0)) (laws_FnPost_vb BK333)) : gb351 ≠ gb333)); replace BK333 := Aside0.mk (blk_below (g := gb333) (o := .cells #[.int .i64 t328, .slice Ao19 t329.length co19] 29 (0, 0)) (laws_FnPost_vb BK333) hb); have NB345_351 := Aside0.mk ((by rw [hg]; exact Nat.ne_of_lt (blk_lt (g := gb345) (o := .cells #[.int .i64 t340, .slice Ao93 t341.length co93] 29 (0, 0)) (laws_FnPost_vb BK345)) : gb345 ≠ gb351)); have NB351_345 := Aside0.mk ((by rw [hg]; exact Nat.ne_of_gt (blk_lt (g := gb345) (o := .cells #[.int .i64 t340, .slice Ao93 t341.length co93] 29 (0, 0)) (laws_FnPost_vb BK345)) : gb351 ≠ gb345)); replace BK345 := Aside0.mk (blk_below (g := gb345) (o := .cells #[.int .i64 t340, .slice Ao93 t341.length co93] 29 (0, 0)) (laws_FnPost_vb BK345) hb); clear hb hbox hg; have hnb96 := NB351_326.out; have hnc96 := NB326_351.out; have hnb97 := NB351_333.out; have hnc97 := NB333_351.out; have hnb98 := NB351_345.out; have hnc98 := NB345_351.out; have hcz99_0 : w95.cell? ⟨gb351, 0, none⟩ = some (.int .i64 0) := (blk_cell BK351.out 0).trans rfl; have hcz99_1 : w95.cell? ⟨gb351, 1, none⟩ = some (.slice none 0 0) := (blk_cell BK351.out 1).trans rfl; have hfz99_0 := blk_frozen BK351.out 0; have hfz99_1 := blk_frozen BK351.out 1; obtain ⟨Ao100, co100, eo100⟩ := Kd.R_slice HO349.out; subst eo100; have hcz101_0 : w95.cell? ⟨gb345, 0, none⟩ = some (.int .i64 t340) := (blk_cell BK345.out 0).trans rfl; have hcz101_1 : w95.cell? ⟨gb345, 1, none⟩ = some (.slice Ao93 t341.length co93) := (blk_cell BK345.out 1).trans rfl; have hfz101_0 := blk_frozen BK345.out 0; have hfz101_1 := blk_frozen BK345.out 1) | (go_at_call 18; (with_reducible refine (impl_PostSame.calls kj8 t340 _ _ t341 t346 _ _ t347 true _ ?side1 ?side2 ?side3 ?side4 A61.out).mono ?_); (case side1 => refine (Kd.R_reads' (e := 45) (base := w.heap.size) (ok := fun k_ => (((True ∧ some k_ ≠ (.slice Ao13 t323.length co13 : Value).ownBlock) ∧ some k_ ≠ (.slice Ao19 t329.length co19 : Value).ownBlock) ∧ some k_ ≠ (.slice Ao100 t347.length co100 : Value).ownBlock)) (n := t341.length) (c := co93) ?_).2.2; exact (by (with_reducible repeat (first | apply Kd.R_alloc | apply Kd.R_drewN | apply Kd.R_drew)); exact (Kd.R_mono (Kd.R_far (p := ⟨gb351, 1, none⟩) (Kd.R_far (p := ⟨gb351, 0, none⟩) (Kd.R_types HO343.out BK351.out (by decide)) (fun _ hk => hk.2) (.int .i64 t346)) (fun _ hk => hk.2) (.slice Ao100 t347.length co100)) (fun _ h_ => h_.1)))); (case side2 => exact (Kd.R_reads' HO343.out).2.1); (case side3 => refine (Kd.R_reads' (e := 45) (base := w.heap.size) (ok := fun k_ => (((True ∧ some k_ ≠ (.slice Ao13 t323.length co13 : Value).ownBlock) ∧ some k_ ≠ (.slice Ao19 t329.length co19 : Value).ownBlock) ∧ some k_ ≠ (.slice Ao93 t341.length co93 : Value).ownBlock)) (n := t347.length) (c := co100) ?_).2.2; exact (by (with_reducible repeat (first | apply Kd.R_alloc | apply Kd.R_drewN | apply Kd.R_drew)); exact (Kd.R_mono (Kd.R_far (p := ⟨gb351, 1, none⟩) (Kd.R_far (p := ⟨gb351, 0, none⟩) (Kd.R_types HO349.out BK351.out (by decide)) (fun _ hk => hk.2) (.int .i64 t346)) (fun _ hk => hk.2) (.slice Ao100 t347.length co100)) (fun _ h_ => h_.1)))); (case side4 => exact (Kd.R_reads' HO349.out).2.1); rintro e w102 ⟨rfl, hb⟩; replace HO_327001 := Aside0.mk (Kd.R_below (by (with_reducible repeat (first | apply Kd.R_alloc | apply Kd.R_drewN | apply Kd.R_drew)); exact (Kd.R_mono (Kd.R_far (p := ⟨gb351, 1, none⟩) (Kd.R_far (p := ⟨gb351, 0, none⟩) (Kd.R_types HO_327001.out BK351.out (by decide)) (fun _ hk => hk.2) (.int .i64 t346)) (fun _ hk => hk.2) (.slice Ao100 t347.length co100)) (fun _ h_ => h_.1))) hb); replace HO_334001 := Aside0.mk (Kd.R_below (by (with_reducible repeat (first | apply Kd.R_alloc | apply Kd.R_drewN | apply Kd.R_drew)); exact (Kd.R_mono (Kd.R_far (p := ⟨gb351, 1, none⟩) (Kd.R_far (p := ⟨gb351, 0, none⟩) (Kd.R_types HO_334001.out BK351.out (by decide)) (fun _ hk => hk.2) (.int .i64 t346)) (fun _ hk => hk.2) (.slice Ao100 t347.length co100)) (fun _ h_ => h_.1))) hb); replace HO343 := Aside0.mk (Kd.R_below (by (with_reducible repeat (first | apply Kd.R_alloc | apply Kd.R_drewN | apply Kd.R_drew)); exact (Kd.R_mono (Kd.R_far (p := ⟨gb351, 1, none⟩) (Kd.R_far (p := ⟨gb351, 0, none⟩) (Kd.R_types HO343.out BK351.out (by decide)) (fun _ hk => hk.2) (.int .i64 t346)) (fun _ hk => hk.2) (.slice Ao100 t347.length co100)) (fun _ h_ => h_.1))) hb); replace HO349 := Aside0.mk (Kd.R_below (by (with_reducible repeat (first | apply Kd.R_alloc | apply Kd.R_drewN | apply Kd.R_drew)); exact (Kd.R_mono (Kd.R_far (p := ⟨gb351, 1, none⟩) (Kd.R_far (p := ⟨gb351, 0, none⟩) (Kd.R_types HO349.out BK351.out (by decide)) (fun _ hk => hk.2) (.int .i64 t346)) (fun _ hk => hk.2) (.slice Ao100 t347.length co100)) (fun _ h_ => h_.1))) hb); replace BK326 := Aside0.mk (blk_below (g := gb326) (o := .cells #[.int .i64 t322, .slice Ao13 t323.length co13] 29 (0, 0)) (by (with_reducible repeat (first | refine blk_drewN ?_ _ | refine blk_drew ?_ | refine blk_alloc ?_ _)); refine blk_far ?_ NB326_351.out _; (with_reducible repeat (first | refine blk_drewN ?_ _ | refine blk_drew ?_ | refine blk_alloc ?_ _)); refine blk_far ?_ NB326_351.out _; (with_reducible repeat (first | refine blk_drewN ?_ _ | refine blk_drew ?_ | refine blk_alloc ?_ _)); exact BK326.out) hb); replace BK333 := Aside0.mk (blk_below (g := gb333) (o := .cells #[.int .i64 t328, .slice Ao19 t329.length co19] 29 (0, 0)) (by (with_reducible repeat (first | refine blk_drewN ?_ _ | refine blk_drew ?_ | refine blk_alloc ?_ _)); refine blk_far ?_ NB333_351.out _; (with_reducible repeat (first | refine blk_drewN ?_ _ | refine blk_drew ?_ | refine blk_alloc ?_ _)); refine blk_far ?_ NB333_351.out _; (with_reducible repeat (first | refine blk_drewN ?_ _ | refine blk_drew ?_ | refine blk_alloc ?_ _)); exact BK333.out) hb); replace BK345 := Aside0.mk (blk_below (g := gb345) (o := .cells #[.int .i64 t340, .slice Ao93 t341.length co93] 29 (0, 0)) (by (with_reducible repeat (first | refine blk_drewN ?_ _ | refine blk_drew ?_ | refine blk_alloc ?_ _)); refine blk_far ?_ NB345_351.out _; (with_reducible repeat (first | refine blk_drewN ?_ _ | refine blk_drew ?_ | refine blk_alloc ?_ _)); refine blk_far ?_ NB345_351.out _; (with_reducible repeat (first | refine blk_drewN ?_ _ | refine blk_drew ?_ | refine blk_alloc ?_ _)); exact BK345.out) hb); replace BK351 := Aside0.mk (blk_below (g := gb351) (o := .cells #[.int .i64 t346, .slice Ao100 t347.length co100] 29 (0, 0)) (by (with_reducible repeat (first | refine blk_drewN ?_ _ | refine blk_drew ?_ | refine blk_alloc ?_ _)); refine blk_put (cs := #[.int .i64 t346, .slice none 0 0]) ?_ 1 _ rfl; (with_reducible repeat (first | refine blk_drewN ?_ _ | refine blk_drew ?_ | refine blk_alloc ?_ _)); refine blk_put (cs := #[.int .i64 0, .slice none 0 0]) ?_ 0 _ rfl; (with_reducible repeat (first | refine blk_drewN ?_ _ | refine blk_drew ?_ | refine blk_alloc ?_ _)); exact BK351.out) hb); replace HB := Aside0.mk (below_step (laws_FnPost_auHB) hb); (try clear hb); (try clear hb2); (try clear hk); (try clear hi)))
      go_ret
      exact ⟨by first | rfl | (simp [errW_none, errW_some] <;> rfl) | (simp [*, errW_none, errW_some] <;> rfl), laws_FnPost_auHB⟩
     subst c63
     have H1 : ((impl_PostText.f kj8 t340 t341).bind fun t353 => (if t353.toList = t339.toList then ((impl_PostOk.f kj8 t340 t341).bind fun t354 => (some t354)) else (none))) = some r := by rw [if_pos rfl] at H; exact H
     clear H
     have H := H1
     clear H1
     replace H := Option.bind_eq_some_iff.mp H
     obtain ⟨t353, A640, H⟩ := H
     replace H : (if t353.toList = t339.toList then ((impl_PostOk.f kj8 t340 t341).bind fun t354 => (some t354)) else (none)) = some r := H
     have A64 := Aside0.mk A640
     clear A640
     by_cases c65 : t353.toList = t339.toList
     rotate_left
     ·
      rw [if_neg c65] at H
      exact absurd H (by simp)
     rw [if_pos c65] at H
     have c65b0 : (t353.toList == t339.toList) = true := beq_iff_eq.mpr c65
     have c65b1 : (t353.toList != t339.toList) = false := bne_eq_false_iff_eq.mpr c65
     clear c65
     replace H := Option.bind_eq_some_iff.mp H
     obtain ⟨t354, A660, H⟩ := H
     replace H : (some t354) = some r := H
     have A66 := Aside0.mk A660
     clear A660
     obtain rfl := Option.some.inj H
     go_wp2_with (first | ((with_reducible refine gate_callee (f := 19) rfl ?_); refine goesL_ (some 58) rfl rfl Tryd.func19 (by kernel_rfl) rfl #[.slice A1 l1.length c1] rfl (by (try simp only [List.map_toArray, List.map_cons, List.map_nil]); first | done | rfl | (simp only [List.length_drop, List.length_take]; rfl)) ?_; (with_reducible refine (spec_DrawPostRead.calls kj8 _ _ l1 t339 _ ?side1 ?side2 A57.out).mono ?_); (case side1 => repeat (first | exact (Kd.C_below HR1.out HB.out) | (with_reducible refine Kd.C_alloc ?_ _) | (with_reducible refine Kd.C_drewN ?_ _) | (with_reducible refine Kd.C_drew ?_))); (case side2 => exact HC1.out); rintro e w67 ⟨rfl, hb⟩; refine ⟨_, rfl, ?_⟩; replace HO_327001 := Aside0.mk (Kd.R_below (lo_ HO_327001) hb); replace HO_334001 := Aside0.mk (Kd.R_below (lo_ HO_334001) hb); replace BK326 := Aside0.mk (blk_below (g := gb326) (o := .cells #[.int .i64 t322, .slice Ao13 t323.length co13] 29 (0, 0)) (laws_FnPost_vb BK326) hb); replace BK333 := Aside0.mk (blk_below (g := gb333) (o := .cells #[.int .i64 t328, .slice Ao19 t329.length co19] 29 (0, 0)) (laws_FnPost_vb BK333) hb); replace HB := Aside0.mk (below_step (laws_FnPost_auHB) hb); (try clear hb); (try clear hb2); (try clear hk); (try clear hi)) | ((with_reducible refine gate_callee (f := 12) rfl ?_); refine goesL_ (some 61) rfl rfl Tryd.func12 (by kernel_rfl) rfl #[.string t339] rfl (by (try simp only [List.map_toArray, List.map_cons, List.map_nil]); first | done | rfl | (simp only [List.length_drop, List.length_take]; rfl)) ?_; (with_reducible refine (impl_PostRead.calls kj8 t339 t340 t341 true _ (HTAB.out.below (by first | exact laws_FnPost_auHB | (repeat (first | (with_reducible first | exact HB.out | apply below_alloc | apply pw_below_drewN | apply below_drew1 | refine below_set ?_ GE326.out | refine below_set ?_ GE333.out | refine below_set ?_ GE345.out | refine below_set ?_ GE351.out) | exact HB.out)))) A58.out).mono ?_); rintro e w68 ⟨v342, rfl, ho0, hb⟩; refine ⟨_, rfl, ?_⟩; have HO343 := Aside0.mk (Kd.R_lower (Kd.R_new' (Kd.R_new' ho0 (Kd.R_lt (lo_ HO_327001))) (Kd.R_lt (lo_ HO_334001))) (below_size (laws_FnPost_auHB))); replace HO_327001 := Aside0.mk (Kd.R_elder' (lo_ HO_327001) (Kd.R_base ho0) hb); replace HO_334001 := Aside0.mk (Kd.R_elder' (lo_ HO_334001) (Kd.R_base ho0) hb); replace BK326 := Aside0.mk (blk_below (g := gb326) (o := .cells #[.int .i64 t322, .slice Ao13 t323.length co13] 29 (0, 0)) (laws_FnPost_vb BK326) hb); replace BK333 := Aside0.mk (blk_below (g := gb333) (o := .cells #[.int .i64 t328, .slice Ao19 t329.length co19] 29 (0, 0)) (laws_FnPost_vb BK333) hb); replace HB := Aside0.mk (below_step (laws_FnPost_auHB) hb); (try clear hb); (try clear hb2); (try clear hk); (try clear hi); (try clear ho0)) | ((with_reducible refine gate_dst (N := 10) rfl ?_); (try (refine gate_guard (by rfl) ?_; dsimp only)); refine box_event ?hg (N := 10) ?hd (cs := #[.int .i64 0, .slice none 0 0]) (t := 29) ?hr ?_; (case hd => rfl); (case hg => rfl); (case hr => first | (go_simp; done) | (go_simp; rfl)); intro gb345 hg w69 hbox hb; replace HO_327001 := Aside0.mk (Kd.R_below (lo_ HO_327001) hb); replace HO_334001 := Aside0.mk (Kd.R_below (lo_ HO_334001) hb); replace HO343 := Aside0.mk (Kd.R_below (lo_ HO343) hb); have BK345 := Aside0.mk (hbox); have GW345 := Aside0.mk ((by rw [hg]; exact (below_size (laws_FnPost_auHB)) : w.heap.size ≤ gb345)); have GE345 := Aside0.mk ((by rw [hg]; exact (below_size (laws_FnPost_auHB)) : w.heap.size ≤ gb345)); replace HB := Aside0.mk (below_step (laws_FnPost_auHB) hb); have NB326_345 := Aside0.mk ((by rw [hg]; exact Nat.ne_of_lt (blk_lt (g := gb326) (o := .cells #[.int .i64 t322, .slice Ao13 t323.length co13] 29 (0, 0)) (laws_FnPost_vb BK326)) : gb326 ≠ gb345)); have NB345_326 := Aside0.mk ((by rw [hg]; exact Nat.ne_of_gt (blk_lt (g := gb326) (o := .cells #[.int .i64 t322, .slice Ao13 t323.length co13] 29 (0, 0)) (laws_FnPost_vb BK326)) : gb345 ≠ gb326)); replace BK326 := Aside0.mk (blk_below (g := gb326) (o := .cells #[.int .i64 t322, .slice Ao13 t323.length co13] 29 (0, 0)) (laws_FnPost_vb BK326) hb); have NB333_345 := Aside0.mk ((by rw [hg]; exact Nat.ne_of_lt (blk_lt (g := gb333) (o := .cells #[.int .i64 t328, .slice Ao19 t329.length co19] 29 (0, 0)) (laws_FnPost_vb BK333)) : gb333 ≠ gb345)); have NB345_333 := Aside0.mk ((by rw [hg]; exact Nat.ne_of_gt (blk_lt (g := gb333) (o := .cells #[.int .i64 t328, .slice Ao19 t329.length co19] 29 (0, 0)) (laws_FnPost_vb BK333)) : gb345 ≠ gb333)); replace BK333 := Aside0.mk (blk_below (g := gb333) (o := .cells #[.int .i64 t328, .slice Ao19 t329.length co19] 29 (0, 0)) (laws_FnPost_vb BK333) hb); clear hb hbox hg; have hnb70 := NB345_326.out; have hnc70 := NB326_345.out; have hnb71 := NB345_333.out; have hnc71 := NB333_345.out; have hcz72_0 : w69.cell? ⟨gb345, 0, none⟩ = some (.int .i64 0) := (blk_cell BK345.out 0).trans rfl; have hcz72_1 : w69.cell? ⟨gb345, 1, none⟩ = some (.slice none 0 0) := (blk_cell BK345.out 1).trans rfl; have hfz72_0 := blk_frozen BK345.out 0; have hfz72_1 := blk_frozen BK345.out 1; obtain ⟨Ao73, co73, eo73⟩ := Kd.R_slice HO343.out; subst eo73) | ((with_reducible refine gate_callee (f := 11) rfl ?_); refine goesL_ (some 66) rfl rfl Tryd.func11 (by kernel_rfl) rfl #[.string t339] rfl (by (try simp only [List.map_toArray, List.map_cons, List.map_nil]); first | done | rfl | (simp only [List.length_drop, List.length_take]; rfl)) ?_; (with_reducible refine (spec_PostRead.calls kj8 t339 t346 t347 t350 _ A59.out).mono ?_); rintro e w74 ⟨v348, rfl, ho0, hb⟩; refine ⟨_, rfl, ?_⟩; have HO349 := Aside0.mk (Kd.R_lower (Kd.R_new' (Kd.R_new' (Kd.R_new' ho0 (Kd.R_lt (by (with_reducible repeat (first | apply Kd.R_alloc | apply Kd.R_drewN | apply Kd.R_drew)); exact (Kd.R_mono (Kd.R_far (p := ⟨gb345, 1, none⟩) (Kd.R_far (p := ⟨gb345, 0, none⟩) (Kd.R_types HO_327001.out BK345.out (by decide)) (fun _ hk => hk.2) (.int .i64 t340)) (fun _ hk => hk.2) (.slice Ao73 t341.length co73)) (fun _ h_ => h_.1))))) (Kd.R_lt (by (with_reducible repeat (first | apply Kd.R_alloc | apply Kd.R_drewN | apply Kd.R_drew)); exact (Kd.R_mono (Kd.R_far (p := ⟨gb345, 1, none⟩) (Kd.R_far (p := ⟨gb345, 0, none⟩) (Kd.R_types HO_334001.out BK345.out (by decide)) (fun _ hk => hk.2) (.int .i64 t340)) (fun _ hk => hk.2) (.slice Ao73 t341.length co73)) (fun _ h_ => h_.1))))) (Kd.R_lt (by (with_reducible repeat (first | apply Kd.R_alloc | apply Kd.R_drewN | apply Kd.R_drew)); exact (Kd.R_mono (Kd.R_far (p := ⟨gb345, 1, none⟩) (Kd.R_far (p := ⟨gb345, 0, none⟩) (Kd.R_types HO343.out BK345.out (by decide)) (fun _ hk => hk.2) (.int .i64 t340)) (fun _ hk => hk.2) (.slice Ao73 t341.length co73)) (fun _ h_ => h_.1))))) (below_size (laws_FnPost_auHB))); replace HO_327001 := Aside0.mk (Kd.R_elder' (by (with_reducible repeat (first | apply Kd.R_alloc | apply Kd.R_drewN | apply Kd.R_drew)); exact (Kd.R_mono (Kd.R_far (p := ⟨gb345, 1, none⟩) (Kd.R_far (p := ⟨gb345, 0, none⟩) (Kd.R_types HO_327001.out BK345.out (by decide)) (fun _ hk => hk.2) (.int .i64 t340)) (fun _ hk => hk.2) (.slice Ao73 t341.length co73)) (fun _ h_ => h_.1))) (Kd.R_base ho0) hb); replace HO_334001 := Aside0.mk (Kd.R_elder' (by (with_reducible repeat (first | apply Kd.R_alloc | apply Kd.R_drewN | apply Kd.R_drew)); exact (Kd.R_mono (Kd.R_far (p := ⟨gb345, 1, none⟩) (Kd.R_far (p := ⟨gb345, 0, none⟩) (Kd.R_types HO_334001.out BK345.out (by decide)) (fun _ hk => hk.2) (.int .i64 t340)) (fun _ hk => hk.2) (.slice Ao73 t341.length co73)) (fun _ h_ => h_.1))) (Kd.R_base ho0) hb); replace HO343 := Aside0.mk (Kd.R_elder' (by (with_reducible repeat (first | apply Kd.R_alloc | apply Kd.R_drewN | apply Kd.R_drew)); exact (Kd.R_mono (Kd.R_far (p := ⟨gb345, 1, none⟩) (Kd.R_far (p := ⟨gb345, 0, none⟩) (Kd.R_types HO343.out BK345.out (by decide)) (fun _ hk => hk.2) (.int .i64 t340)) (fun _ hk => hk.2) (.slice Ao73 t341.length co73)) (fun _ h_ => h_.1))) (Kd.R_base ho0) hb); replace BK326 := Aside0.mk (blk_below (g := gb326) (o := .cells #[.int .i64 t322, .slice Ao13 t323.length co13] 29 (0, 0)) (by (with_reducible repeat (first | refine blk_drewN ?_ _ | refine blk_drew ?_ | refine blk_alloc ?_ _)); refine blk_far ?_ NB326_345.out _; (with_reducible repeat (first | refine blk_drewN ?_ _ | refine blk_drew ?_ | refine blk_alloc ?_ _)); refine blk_far ?_ NB326_345.out _; (with_reducible repeat (first | refine blk_drewN ?_ _ | refine blk_drew ?_ | refine blk_alloc ?_ _)); exact BK326.out) hb); replace BK333 := Aside0.mk (blk_below (g := gb333) (o := .cells #[.int .i64 t328, .slice Ao19 t329.length co19] 29 (0, 0)) (by (with_reducible repeat (first | refine blk_drewN ?_ _ | refine blk_drew ?_ | refine blk_alloc ?_ _)); refine blk_far ?_ NB333_345.out _; (with_reducible repeat (first | refine blk_drewN ?_ _ | refine blk_drew ?_ | refine blk_alloc ?_ _)); refine blk_far ?_ NB333_345.out _; (with_reducible repeat (first | refine blk_drewN ?_ _ | refine blk_drew ?_ | refine blk_alloc ?_ _)); exact BK333.out) hb); replace BK345 := Aside0.mk (blk_below (g := gb345) (o := .cells #[.int .i64 t340, .slice Ao73 t341.length co73] 29 (0, 0)) (by (with_reducible repeat (first | refine blk_drewN ?_ _ | refine blk_drew ?_ | refine blk_alloc ?_ _)); refine blk_put (cs := #[.int .i64 t340, .slice none 0 0]) ?_ 1 _ rfl; (with_reducible repeat (first | refine blk_drewN ?_ _ | refine blk_drew ?_ | refine blk_alloc ?_ _)); refine blk_put (cs := #[.int .i64 0, .slice none 0 0]) ?_ 0 _ rfl; (with_reducible repeat (first | refine blk_drewN ?_ _ | refine blk_drew ?_ | refine blk_alloc ?_ _)); exact BK345.out) hb); replace HB := Aside0.mk (below_step (laws_FnPost_auHB) hb); (try clear hb); (try clear hb2); (try clear hk); (try clear hi); (try clear ho0)) | ((with_reducible refine gate_dst (N := 12) rfl ?_); (try (refine gate_guard (by rfl) ?_; dsimp only)); refine box_event ?hg (N := 12) ?hd (cs := #[.int .i64 0, .slice none 0 0]) (t := 29) ?hr ?_; (case hd => rfl); (case hg => rfl); (case hr => first | (go_simp; done) | (go_simp; rfl)); intro gb351 hg w75 hbox hb; replace HO_327001 := Aside0.mk (Kd.R_below (lo_ HO_327001) hb); replace HO_334001 := Aside0.mk (Kd.R_below (lo_ HO_334001) hb); replace HO343 := Aside0.mk (Kd.R_below (lo_ HO343) hb); replace HO349 := Aside0.mk (Kd.R_below (lo_ HO349) hb); have BK351 := Aside0.mk (hbox); have GW351 := Aside0.mk ((by rw [hg]; exact (below_size (laws_FnPost_auHB)) : w.heap.size ≤ gb351)); have GE351 := Aside0.mk ((by rw [hg]; exact (below_size (laws_FnPost_auHB)) : w.heap.size ≤ gb351)); replace HB := Aside0.mk (below_step (laws_FnPost_auHB) hb); have NB326_351 := Aside0.mk ((by rw [hg]; exact Nat.ne_of_lt (blk_lt (g := gb326) (o := .cells #[.int .i64 t322, .slice Ao13 t323.length co13] 29 (0, 0)) (laws_FnPost_vb BK326)) : gb326 ≠ gb351)); have NB351_326 := Aside0.mk ((by rw [hg]; exact Nat.ne_of_gt (blk_lt (g := gb326) (o := .cells #[.int .i64 t322, .slice Ao13 t323.length co13] 29 (0, 0)) (laws_FnPost_vb BK326)) : gb351 ≠ gb326)); replace BK326 := Aside0.mk (blk_below (g := gb326) (o := .cells #[.int .i64 t322, .slice Ao13 t323.length co13] 29 (0, 0)) (laws_FnPost_vb BK326) hb); have NB333_351 := Aside0.mk ((by rw [hg]; exact Nat.ne_of_lt (blk_lt (g := gb333) (o := .cells #[.int .i64 t328, .slice Ao19 t329.length co19] 29 (0, 0)) (laws_FnPost_vb BK333)) : gb333 ≠ gb351)); have NB351_333 := Aside0.mk ((by rw [hg]; exact Nat.ne_of_gt (blk_lt (g := gb333) (o := .cells #[.int .i64 t328, .slice Ao19 t329.length co19] 29 (0, 0)) (laws_FnPost_vb BK333)) : gb351 ≠ gb333)); replace BK333 := Aside0.mk (blk_below (g := gb333) (o := .cells #[.int .i64 t328, .slice Ao19 t329.length co19] 29 (0, 0)) (laws_FnPost_vb BK333) hb); have NB345_351 := Aside0.mk ((by rw [hg]; exact Nat.ne_of_lt (blk_lt (g := gb345) (o := .cells #[.int .i64 t340, .slice Ao73 t341.length co73] 29 (0, 0)) (laws_FnPost_vb BK345)) : gb345 ≠ gb351)); have NB351_345 := Aside0.mk ((by rw [hg]; exact Nat.ne_of_gt (blk_lt (g := gb345) (o := .cells #[.int .i64 t340, .slice Ao73 t341.length co73] 29 (0, 0)) (laws_FnPost_vb BK345)) : gb351 ≠ gb345)); replace BK345 := Aside0.mk (blk_below (g := gb345) (o := .cells #[.int .i64 t340, .slice Ao73 t341.length co73] 29 (0, 0)) (laws_FnPost_vb BK345) hb); clear hb hbox hg; have hnb76 := NB351_326.out; have hnc76 := NB326_351.out; have hnb77 := NB351_333.out; have hnc77 := NB333_351.out; have hnb78 := NB351_345.out; have hnc78 := NB345_351.out; have hcz79_0 : w75.cell? ⟨gb351, 0, none⟩ = some (.int .i64 0) := (blk_cell BK351.out 0).trans rfl; have hcz79_1 : w75.cell? ⟨gb351, 1, none⟩ = some (.slice none 0 0) := (blk_cell BK351.out 1).trans rfl; have hfz79_0 := blk_frozen BK351.out 0; have hfz79_1 := blk_frozen BK351.out 1; obtain ⟨Ao80, co80, eo80⟩ := Kd.R_slice HO349.out; subst eo80; have hcz81_0 : w75.cell? ⟨gb345, 0, none⟩ = some (.int .i64 t340) := (blk_cell BK345.out 0).trans rfl; have hcz81_1 : w75.cell? ⟨gb345, 1, none⟩ = some (.slice Ao73 t341.length co73) := (blk_cell BK345.out 1).trans rfl; have hfz81_0 := blk_frozen BK345.out 0; have hfz81_1 := blk_frozen BK345.out 1) | (go_at_call 18; (with_reducible refine (impl_PostSame.calls kj8 t340 _ _ t341 t346 _ _ t347 true _ ?side1 ?side2 ?side3 ?side4 A61.out).mono ?_); (case side1 => refine (Kd.R_reads' (e := 45) (base := w.heap.size) (ok := fun k_ => (((True ∧ some k_ ≠ (.slice Ao13 t323.length co13 : Value).ownBlock) ∧ some k_ ≠ (.slice Ao19 t329.length co19 : Value).ownBlock) ∧ some k_ ≠ (.slice Ao80 t347.length co80 : Value).ownBlock)) (n := t341.length) (c := co73) ?_).2.2; exact (by (with_reducible repeat (first | apply Kd.R_alloc | apply Kd.R_drewN | apply Kd.R_drew)); exact (Kd.R_mono (Kd.R_far (p := ⟨gb351, 1, none⟩) (Kd.R_far (p := ⟨gb351, 0, none⟩) (Kd.R_types HO343.out BK351.out (by decide)) (fun _ hk => hk.2) (.int .i64 t346)) (fun _ hk => hk.2) (.slice Ao80 t347.length co80)) (fun _ h_ => h_.1)))); (case side2 => exact (Kd.R_reads' HO343.out).2.1); (case side3 => refine (Kd.R_reads' (e := 45) (base := w.heap.size) (ok := fun k_ => (((True ∧ some k_ ≠ (.slice Ao13 t323.length co13 : Value).ownBlock) ∧ some k_ ≠ (.slice Ao19 t329.length co19 : Value).ownBlock) ∧ some k_ ≠ (.slice Ao73 t341.length co73 : Value).ownBlock)) (n := t347.length) (c := co80) ?_).2.2; exact (by (with_reducible repeat (first | apply Kd.R_alloc | apply Kd.R_drewN | apply Kd.R_drew)); exact (Kd.R_mono (Kd.R_far (p := ⟨gb351, 1, none⟩) (Kd.R_far (p := ⟨gb351, 0, none⟩) (Kd.R_types HO349.out BK351.out (by decide)) (fun _ hk => hk.2) (.int .i64 t346)) (fun _ hk => hk.2) (.slice Ao80 t347.length co80)) (fun _ h_ => h_.1)))); (case side4 => exact (Kd.R_reads' HO349.out).2.1); rintro e w82 ⟨rfl, hb⟩; replace HO_327001 := Aside0.mk (Kd.R_below (by (with_reducible repeat (first | apply Kd.R_alloc | apply Kd.R_drewN | apply Kd.R_drew)); exact (Kd.R_mono (Kd.R_far (p := ⟨gb351, 1, none⟩) (Kd.R_far (p := ⟨gb351, 0, none⟩) (Kd.R_types HO_327001.out BK351.out (by decide)) (fun _ hk => hk.2) (.int .i64 t346)) (fun _ hk => hk.2) (.slice Ao80 t347.length co80)) (fun _ h_ => h_.1))) hb); replace HO_334001 := Aside0.mk (Kd.R_below (by (with_reducible repeat (first | apply Kd.R_alloc | apply Kd.R_drewN | apply Kd.R_drew)); exact (Kd.R_mono (Kd.R_far (p := ⟨gb351, 1, none⟩) (Kd.R_far (p := ⟨gb351, 0, none⟩) (Kd.R_types HO_334001.out BK351.out (by decide)) (fun _ hk => hk.2) (.int .i64 t346)) (fun _ hk => hk.2) (.slice Ao80 t347.length co80)) (fun _ h_ => h_.1))) hb); replace HO343 := Aside0.mk (Kd.R_below (by (with_reducible repeat (first | apply Kd.R_alloc | apply Kd.R_drewN | apply Kd.R_drew)); exact (Kd.R_mono (Kd.R_far (p := ⟨gb351, 1, none⟩) (Kd.R_far (p := ⟨gb351, 0, none⟩) (Kd.R_types HO343.out BK351.out (by decide)) (fun _ hk => hk.2) (.int .i64 t346)) (fun _ hk => hk.2) (.slice Ao80 t347.length co80)) (fun _ h_ => h_.1))) hb); replace HO349 := Aside0.mk (Kd.R_below (by (with_reducible repeat (first | apply Kd.R_alloc | apply Kd.R_drewN | apply Kd.R_drew)); exact (Kd.R_mono (Kd.R_far (p := ⟨gb351, 1, none⟩) (Kd.R_far (p := ⟨gb351, 0, none⟩) (Kd.R_types HO349.out BK351.out (by decide)) (fun _ hk => hk.2) (.int .i64 t346)) (fun _ hk => hk.2) (.slice Ao80 t347.length co80)) (fun _ h_ => h_.1))) hb); replace BK326 := Aside0.mk (blk_below (g := gb326) (o := .cells #[.int .i64 t322, .slice Ao13 t323.length co13] 29 (0, 0)) (by (with_reducible repeat (first | refine blk_drewN ?_ _ | refine blk_drew ?_ | refine blk_alloc ?_ _)); refine blk_far ?_ NB326_351.out _; (with_reducible repeat (first | refine blk_drewN ?_ _ | refine blk_drew ?_ | refine blk_alloc ?_ _)); refine blk_far ?_ NB326_351.out _; (with_reducible repeat (first | refine blk_drewN ?_ _ | refine blk_drew ?_ | refine blk_alloc ?_ _)); exact BK326.out) hb); replace BK333 := Aside0.mk (blk_below (g := gb333) (o := .cells #[.int .i64 t328, .slice Ao19 t329.length co19] 29 (0, 0)) (by (with_reducible repeat (first | refine blk_drewN ?_ _ | refine blk_drew ?_ | refine blk_alloc ?_ _)); refine blk_far ?_ NB333_351.out _; (with_reducible repeat (first | refine blk_drewN ?_ _ | refine blk_drew ?_ | refine blk_alloc ?_ _)); refine blk_far ?_ NB333_351.out _; (with_reducible repeat (first | refine blk_drewN ?_ _ | refine blk_drew ?_ | refine blk_alloc ?_ _)); exact BK333.out) hb); replace BK345 := Aside0.mk (blk_below (g := gb345) (o := .cells #[.int .i64 t340, .slice Ao73 t341.length co73] 29 (0, 0)) (by (with_reducible repeat (first | refine blk_drewN ?_ _ | refine blk_drew ?_ | refine blk_alloc ?_ _)); refine blk_far ?_ NB345_351.out _; (with_reducible repeat (first | refine blk_drewN ?_ _ | refine blk_drew ?_ | refine blk_alloc ?_ _)); refine blk_far ?_ NB345_351.out _; (with_reducible repeat (first | refine blk_drewN ?_ _ | refine blk_drew ?_ | refine blk_alloc ?_ _)); exact BK345.out) hb); replace BK351 := Aside0.mk (blk_below (g := gb351) (o := .cells #[.int .i64 t346, .slice Ao80 t347.length co80] 29 (0, 0)) (by (with_reducible repeat (first | refine blk_drewN ?_ _ | refine blk_drew ?_ | refine blk_alloc ?_ _)); refine blk_put (cs := #[.int .i64 t346, .slice none 0 0]) ?_ 1 _ rfl; (with_reducible repeat (first | refine blk_drewN ?_ _ | refine blk_drew ?_ | refine blk_alloc ?_ _)); refine blk_put (cs := #[.int .i64 0, .slice none 0 0]) ?_ 0 _ rfl; (with_reducible repeat (first | refine blk_drewN ?_ _ | refine blk_drew ?_ | refine blk_alloc ?_ _)); exact BK351.out) hb); replace HB := Aside0.mk (below_step (laws_FnPost_auHB) hb); (try clear hb); (try clear hb2); (try clear hk); (try clear hi); have hcz83_0 : w82.cell? ⟨gb345, 0, none⟩ = some (.int .i64 t340) := (blk_cell BK345.out 0).trans rfl; have hcz83_1 : w82.cell? ⟨gb345, 1, none⟩ = some (.slice Ao73 t341.length co73) := (blk_cell BK345.out 1).trans rfl; have hfz83_0 := blk_frozen BK345.out 0; have hfz83_1 := blk_frozen BK345.out 1) | (go_at_call 9; (with_reducible refine (impl_PostText.calls kj8 t340 _ _ t341 t353 _ (HTAB.out.below (by first | exact laws_FnPost_auHB | (repeat (first | (with_reducible first | exact HB.out | apply below_alloc | apply pw_below_drewN | apply below_drew1 | refine below_set ?_ GE326.out | refine below_set ?_ GE333.out | refine below_set ?_ GE345.out | refine below_set ?_ GE351.out) | exact HB.out)))) ?side1 ?side2 A64.out).mono ?_); (case side1 => exact co_ (Kd.R_reads' HO343.out).2.2); (case side2 => exact (Kd.R_reads' HO343.out).2.1); rintro e w84 ⟨rfl, hb⟩; replace HO_327001 := Aside0.mk (Kd.R_below (lo_ HO_327001) hb); replace HO_334001 := Aside0.mk (Kd.R_below (lo_ HO_334001) hb); replace HO343 := Aside0.mk (Kd.R_below (lo_ HO343) hb); replace HO349 := Aside0.mk (Kd.R_below (lo_ HO349) hb); replace BK326 := Aside0.mk (blk_below (g := gb326) (o := .cells #[.int .i64 t322, .slice Ao13 t323.length co13] 29 (0, 0)) (laws_FnPost_vb BK326) hb); replace BK333 := Aside0.mk (blk_below (g := gb333) (o := .cells #[.int .i64 t328, .slice Ao19 t329.length co19] 29 (0, 0)) (laws_FnPost_vb BK333) hb); replace BK345 := Aside0.mk (blk_below (g := gb345) (o := .cells #[.int .i64 t340, .slice Ao73 t341.length co73] 29 (0, 0)) (laws_FnPost_vb BK345) hb); replace BK351 := Aside0.mk (blk_below (g := gb351) (o := .cells #[.int .i64 t346, .slice Ao80 t347.length co80] 29 (0, 0)) (laws_FnPost_vb BK351) hb); replace HB := Aside0.mk (below_step (laws_FnPost_auHB) hb); (try clear hb); (try clear hb2); (try clear hk); (try clear hi); have hcz85_0 : w84.cell? ⟨gb345, 0, none⟩ = some (.int .i64 t340) := (blk_cell BK345.out 0).trans rfl; have hcz85_1 : w84.cell? ⟨gb345, 1, none⟩ = some (.slice Ao73 t341.length co73) := (blk_cell BK345.out 1).trans rfl; have hfz85_0 := blk_frozen BK345.out 0; have hfz85_1 := blk_frozen BK345.out 1) | (go_at_call 16; (with_reducible refine (impl_PostOk.calls kj8 t340 _ _ t341 t354 _ ?side1 ?side2 A66.out).mono ?_); (case side1 => exact co_ (Kd.R_reads' HO343.out).2.2); (case side2 => exact (Kd.R_reads' HO343.out).2.1); rintro e w86 ⟨rfl, hb⟩; replace HO_327001 := Aside0.mk (Kd.R_below (lo_ HO_327001) hb); replace HO_334001 := Aside0.mk (Kd.R_below (lo_ HO_334001) hb); replace HO343 := Aside0.mk (Kd.R_below (lo_ HO343) hb); replace HO349 := Aside0.mk (Kd.R_below (lo_ HO349) hb); replace BK326 := Aside0.mk (blk_below (g := gb326) (o := .cells #[.int .i64 t322, .slice Ao13 t323.length co13] 29 (0, 0)) (laws_FnPost_vb BK326) hb); replace BK333 := Aside0.mk (blk_below (g := gb333) (o := .cells #[.int .i64 t328, .slice Ao19 t329.length co19] 29 (0, 0)) (laws_FnPost_vb BK333) hb); replace BK345 := Aside0.mk (blk_below (g := gb345) (o := .cells #[.int .i64 t340, .slice Ao73 t341.length co73] 29 (0, 0)) (laws_FnPost_vb BK345) hb); replace BK351 := Aside0.mk (blk_below (g := gb351) (o := .cells #[.int .i64 t346, .slice Ao80 t347.length co80] 29 (0, 0)) (laws_FnPost_vb BK351) hb); replace HB := Aside0.mk (below_step (laws_FnPost_auHB) hb); (try clear hb); (try clear hb2); (try clear hk); (try clear hi)))
     go_ret
     exact ⟨by first | rfl | (simp [errW_none, errW_some] <;> rfl) | (simp [*, errW_none, errW_some] <;> rfl), laws_FnPost_auHB⟩


end Go.Proofs.YtdjohhobmipagaaDoor.QFnPost

/- What the law FnPost reaches, function by function: what each computes, and that the machine's call comes to it. Laid by a program. -/
import Derived.Test.YtdjohhobmipagaaDoorQFnPostx0
import Derived.Test.YtdjohhobmipagaaDoorQFnPostx2
namespace Go.Proofs.YtdjohhobmipagaaDoor.QFnPost
open Go.RowKit Go.Proofs.YtdjohhobmipagaaDoorW.PrintWords Go.Proofs.YtdjohhobmipagaaDoorW.PrintLast Go.Proofs.YtdjohhobmipagaaDoorW.PrintMore
attribute [local go_sem] max2_int min2_int max_two min_two max_three min_three max_four min_four   -- for this text's walks alone
set_option linter.unusedVariables false
set_option linter.unusedSimpArgs false

/-! ### spec_PostText: function 7 -/
def spec_PostText.l0 : Nat → ByteArray → Int → Int → List (S45) → Option (ByteArray)
  | 0, _, _, _, _ => none
  | k + 1, x3, x4, x114000, x114001 => if x4 < (x114001.length : Int) then (if x3.size + 1 ≤ 9223372036854775807 then (if 0 ≤ x4 then (if (x3 ++ (⟨#[32]⟩ : ByteArray)).size + ((rd_T45 x114001 x4).f0).size ≤ 9223372036854775807 then (if ((x3 ++ (⟨#[32]⟩ : ByteArray)) ++ ((rd_T45 x114001 x4).f0)).size + 1 ≤ 9223372036854775807 then ((spec_l9Dec.f k ((rd_T45 x114001 x4).f1)).bind fun t118 => (if (((x3 ++ (⟨#[32]⟩ : ByteArray)) ++ ((rd_T45 x114001 x4).f0)) ++ (⟨#[58]⟩ : ByteArray)).size + t118.size ≤ 9223372036854775807 then (if ((((x3 ++ (⟨#[32]⟩ : ByteArray)) ++ ((rd_T45 x114001 x4).f0)) ++ (⟨#[58]⟩ : ByteArray)) ++ t118).size + 1 ≤ 9223372036854775807 then ((spec_l9Dec.f k ((rd_T45 x114001 x4).f2)).bind fun t120 => (if (((((x3 ++ (⟨#[32]⟩ : ByteArray)) ++ ((rd_T45 x114001 x4).f0)) ++ (⟨#[58]⟩ : ByteArray)) ++ t118) ++ (⟨#[58]⟩ : ByteArray)).size + t120.size ≤ 9223372036854775807 then (spec_PostText.l0 k ((((((x3 ++ (⟨#[32]⟩ : ByteArray)) ++ ((rd_T45 x114001 x4).f0)) ++ (⟨#[58]⟩ : ByteArray)) ++ t118) ++ (⟨#[58]⟩ : ByteArray)) ++ t120) (wrap64 (x4 + 1)) x114000 x114001) else (none))) else (none)) else (none))) else (none)) else (none)) else (none)) else (none)) else (some x3)
def spec_PostText.f (k : Nat) (a0_0 : Int) (l0_1 : List (S45)) : Option (ByteArray) := (spec_PostOk.f k a0_0 l0_1).bind fun t114 => (if t114 = true then ((spec_l9Dec.f k a0_0).bind fun t115 => (spec_PostText.l0 k t115 0 a0_0 l0_1)) else (some (⟨#[]⟩ : ByteArray)))
theorem spec_PostText.mono_l : ∀ k, (∀ y0 y1 y2 y3, LeO (spec_PostText.l0 k y0 y1 y2 y3) (spec_PostText.l0 (k + 1) y0 y1 y2 y3))
  | 0 => fun _ _ _ _ r h => by simp [spec_PostText.l0] at h
  | k + 1 => by
    have ih0 := spec_PostText.mono_l k
    · intro y0 y1 y2 y3
      unfold spec_PostText.l0
      repeat' first
      | (with_reducible exact ih0 _ _ _ _)
      | (with_reducible exact spec_PostOk.mono _ _ _)
      | (with_reducible exact spec_l9Dec.mono _ _)
      | (with_reducible exact LeO.refl _)
      | (with_reducible exact LeO.none _)
      | (with_reducible refine LeO.ite ?_ ?_)
      | (with_reducible refine LeO.bind ?_ (fun _ => ?_))
      | exact ih0 _ _ _ _
      | exact spec_PostOk.mono _ _ _
      | exact spec_l9Dec.mono _ _
      | exact LeO.none _
      | refine LeO.ite ?_ ?_
      | refine LeO.bind ?_ (fun _ => ?_)
theorem spec_PostText.mono : ∀ a0 a1 k, LeO (spec_PostText.f k a0 a1) (spec_PostText.f (k + 1) a0 a1) := by
  intro a0 a1 k
  have ih0 := spec_PostText.mono_l k
  unfold spec_PostText.f
  repeat' first
      | (with_reducible exact ih0 _ _ _ _)
      | (with_reducible exact spec_PostOk.mono _ _ _)
      | (with_reducible exact spec_l9Dec.mono _ _)
      | (with_reducible exact LeO.refl _)
      | (with_reducible exact LeO.none _)
      | (with_reducible refine LeO.ite ?_ ?_)
      | (with_reducible refine LeO.bind ?_ (fun _ => ?_))
      | exact ih0 _ _ _ _
      | exact spec_PostOk.mono _ _ _
      | exact spec_l9Dec.mono _ _
      | exact LeO.none _
      | refine LeO.ite ?_ ?_
      | refine LeO.bind ?_ (fun _ => ?_)
def spec_PostText.T7 : Bool × List (List Nat × List Nat) := (true, [([], []), ([0], [0]), ([], []), ([2], [2]), ([], []), ([3, 4], [3, 4]), ([5], [5]), ([6], [6]), ([1, 7], [1, 7]), ([8], [8]), ([], []), ([10], [10]), ([], []), ([11, 12], [11, 12]), ([13], [13]), ([14], [14]), ([15], [15]), ([9, 16], [9, 16]), ([17], [17]), ([], []), ([19], [19]), ([], []), ([20, 21], [20, 21]), ([22], [22]), ([23], [23]), ([24, 16], [24]), ([18, 25], [18, 25]), ([26, 25, 0, 1, 2, 3, 4, 5, 6, 7, 8, 9, 10, 11, 12, 13, 14, 15, 16, 17, 18, 19, 20, 21, 22, 23, 24, 25, 26], [0, 26])])
def spec_PostText.B7 : List Nat := [0, 1, 0, 4, 0, 28, 60, 124, 255, 511, 0, 1024, 0, 7168, 15360, 31744, 64512, 131071, 262143, 0, 524288, 0, 3670016, 7864320, 16252928, 33160192, 67108863, 134217727]
theorem spec_PostText.tab7 : rtab .any (opsOf Tryd.f7 7) = spec_PostText.T7 := by kernel_rfl
theorem spec_PostText.bits7 : waitsOk spec_PostText.T7.2 spec_PostText.B7 = true := by kernel_rfl
theorem spec_PostText_vb {p q : Prop} (h : Aside0 p) (k : p → q := by (intro hz; (with_reducible repeat (first | refine blk_drewN ?_ _ | refine blk_drew ?_ | refine blk_alloc ?_ _)); exact hz)) : q := k h.out
theorem spec_PostText_auHB {q : Prop} (h : q := by (repeat (first | (with_reducible first | exact HB.out | apply below_alloc | apply pw_below_drewN | apply below_drew1 | refine below_set ?_ GE113.out) | exact HB.out))) : q := h
set_option maxHeartbeats 8000000 in
set_option maxRecDepth 100000 in
theorem spec_PostText.calls (k : Nat) (a0_0 : Int) (A0_1 : Option Addr) (c0_1 : Nat) (l0_1 : List (S45)) (r : ByteArray) (w : World) (hr0_1 : Kd.C k45 w A0_1 l0_1.length l0_1) (hc0_1 : l0_1.length ≤ c0_1) (h : spec_PostText.f k a0_0 l0_1 = some r) :
  Calls Tryd.prog 7 #[.agg #[.int .i64 a0_0, .slice A0_1 l0_1.length c0_1]] w fun e w' => e = .returned (.string r) ∧ Below w.heap.size w w' := by
 have hu29 := Tryd.underlying29
 have HR0_1 := Aside0.mk hr0_1
 have HC0_1 := Aside0.mk hc0_1
 clear hr0_1 hc0_1
 have HB := Aside0.mk (Below.refl w.heap.size w)
 have H : ((spec_PostOk.f k a0_0 l0_1).bind fun t114 => (if t114 = true then ((spec_l9Dec.f k a0_0).bind fun t115 => (spec_PostText.l0 k t115 0 a0_0 l0_1)) else (some (⟨#[]⟩ : ByteArray)))) = some r := h
 clear h
 replace H := Option.bind_eq_some_iff.mp H
 obtain ⟨t114, A20, H⟩ := H
 replace H : (if t114 = true then ((spec_l9Dec.f k a0_0).bind fun t115 => (spec_PostText.l0 k t115 0 a0_0 l0_1)) else (some (⟨#[]⟩ : ByteArray))) = some r := H
 have A2 := Aside0.mk A20
 clear A20
 by_cases c3 : t114 = true
 rotate_left
 ·
  replace c3 := Bool.eq_false_iff.mpr c3
  subst c3
  have H1 : (some (⟨#[]⟩ : ByteArray)) = some r := by rw [if_neg (show ¬ (false = true) by decide)] at H; exact H
  clear H
  have H := H1
  clear H1
  obtain rfl := Option.some.inj H
  go_enter Tryd.func7, Tryd.ntmps7
  go_wp2_with (first | ((with_reducible refine gate_dst (N := 1) rfl ?_); refine box_event ?hg (N := 1) ?hd (cs := #[.int .i64 a0_0, .slice A0_1 l0_1.length c0_1]) (t := 29) ?hr ?_; (case hd => rfl); (case hg => rfl); (case hr => first | (go_simp; done) | (go_simp; rfl)); intro gb113 hg w25 hbox hb; have BK113 := Aside0.mk (hbox); have GW113 := Aside0.mk ((by rw [hg]; exact (below_size (spec_PostText_auHB)) : w.heap.size ≤ gb113)); have GE113 := Aside0.mk ((by rw [hg]; exact (below_size (spec_PostText_auHB)) : w.heap.size ≤ gb113)); replace HB := Aside0.mk (below_step (spec_PostText_auHB) hb); clear hb hbox hg; have hcz26_0 : w25.cell? ⟨gb113, 0, none⟩ = some (.int .i64 a0_0) := (blk_cell BK113.out 0).trans rfl; have hcz26_1 : w25.cell? ⟨gb113, 1, none⟩ = some (.slice A0_1 l0_1.length c0_1) := (blk_cell BK113.out 1).trans rfl; have hfz26_0 := blk_frozen BK113.out 0; have hfz26_1 := blk_frozen BK113.out 1) | ((with_reducible refine gate_callee (f := 17) rfl ?_); refine goesL_ (some 6) rfl rfl Tryd.func17 (by kernel_rfl) rfl #[.agg #[.int .i64 a0_0, .slice A0_1 l0_1.length c0_1]] rfl (by (try simp only [List.map_toArray, List.map_cons, List.map_nil]); first | done | rfl | (simp only [List.length_drop, List.length_take]; rfl)) ?_; (with_reducible refine (spec_PostOk.calls k a0_0 _ _ l0_1 false _ ?side1 ?side2 A2.out).mono ?_); (case side1 => repeat (first | exact (Kd.C_below HR0_1.out HB.out) | (with_reducible refine Kd.C_alloc ?_ _) | (with_reducible refine Kd.C_drewN ?_ _) | (with_reducible refine Kd.C_drew ?_))); (case side2 => exact HC0_1.out); rintro e w27 ⟨rfl, hb⟩; refine ⟨_, rfl, ?_⟩; replace BK113 := Aside0.mk (blk_below (g := gb113) (o := .cells #[.int .i64 a0_0, .slice A0_1 l0_1.length c0_1] 29 (0, 0)) (spec_PostText_vb BK113) hb); replace HB := Aside0.mk (below_step (spec_PostText_auHB) hb); (try clear hb); (try clear hb2); (try clear hk); (try clear hi)))
  go_ret
  exact ⟨by first | rfl | (simp [errW_none, errW_some] <;> rfl) | (simp [*, errW_none, errW_some] <;> rfl), spec_PostText_auHB⟩
 subst c3
 have H1 : ((spec_l9Dec.f k a0_0).bind fun t115 => (spec_PostText.l0 k t115 0 a0_0 l0_1)) = some r := by rw [if_pos rfl] at H; exact H
 clear H
 have H := H1
 clear H1
 replace H := Option.bind_eq_some_iff.mp H
 obtain ⟨t115, A40, H⟩ := H
 replace H : (spec_PostText.l0 k t115 0 a0_0 l0_1) = some r := H
 have A4 := Aside0.mk A40
 clear A40
 have H' := Aside0.mk H
 clear H
 go_enter Tryd.func7, Tryd.ntmps7
 go_wp2_with (first | ((with_reducible refine gate_dst (N := 1) rfl ?_); refine box_event ?hg (N := 1) ?hd (cs := #[.int .i64 a0_0, .slice A0_1 l0_1.length c0_1]) (t := 29) ?hr ?_; (case hd => rfl); (case hg => rfl); (case hr => first | (go_simp; done) | (go_simp; rfl)); intro gb113 hg w5 hbox hb; have BK113 := Aside0.mk (hbox); have GW113 := Aside0.mk ((by rw [hg]; exact (below_size (spec_PostText_auHB)) : w.heap.size ≤ gb113)); have GE113 := Aside0.mk ((by rw [hg]; exact (below_size (spec_PostText_auHB)) : w.heap.size ≤ gb113)); replace HB := Aside0.mk (below_step (spec_PostText_auHB) hb); clear hb hbox hg; have hcz6_0 : w5.cell? ⟨gb113, 0, none⟩ = some (.int .i64 a0_0) := (blk_cell BK113.out 0).trans rfl; have hcz6_1 : w5.cell? ⟨gb113, 1, none⟩ = some (.slice A0_1 l0_1.length c0_1) := (blk_cell BK113.out 1).trans rfl; have hfz6_0 := blk_frozen BK113.out 0; have hfz6_1 := blk_frozen BK113.out 1) | ((with_reducible refine gate_callee (f := 17) rfl ?_); refine goesL_ (some 6) rfl rfl Tryd.func17 (by kernel_rfl) rfl #[.agg #[.int .i64 a0_0, .slice A0_1 l0_1.length c0_1]] rfl (by (try simp only [List.map_toArray, List.map_cons, List.map_nil]); first | done | rfl | (simp only [List.length_drop, List.length_take]; rfl)) ?_; (with_reducible refine (spec_PostOk.calls k a0_0 _ _ l0_1 true _ ?side1 ?side2 A2.out).mono ?_); (case side1 => repeat (first | exact (Kd.C_below HR0_1.out HB.out) | (with_reducible refine Kd.C_alloc ?_ _) | (with_reducible refine Kd.C_drewN ?_ _) | (with_reducible refine Kd.C_drew ?_))); (case side2 => exact HC0_1.out); rintro e w7 ⟨rfl, hb⟩; refine ⟨_, rfl, ?_⟩; replace BK113 := Aside0.mk (blk_below (g := gb113) (o := .cells #[.int .i64 a0_0, .slice A0_1 l0_1.length c0_1] 29 (0, 0)) (spec_PostText_vb BK113) hb); replace HB := Aside0.mk (below_step (spec_PostText_auHB) hb); (try clear hb); (try clear hb2); (try clear hk); (try clear hi); have hcz8_0 : w7.cell? ⟨gb113, 0, none⟩ = some (.int .i64 a0_0) := (blk_cell BK113.out 0).trans rfl; have hcz8_1 : w7.cell? ⟨gb113, 1, none⟩ = some (.slice A0_1 l0_1.length c0_1) := (blk_cell BK113.out 1).trans rfl; have hfz8_0 := blk_frozen BK113.out 0; have hfz8_1 := blk_frozen BK113.out 1) | ((with_reducible refine gate_callee (f := 21) rfl ?_); refine goesL_ (some 10) rfl rfl Tryd.func21 (by kernel_rfl) rfl #[.int .i64 a0_0] rfl (by (try simp only [List.map_toArray, List.map_cons, List.map_nil]); first | done | rfl | (simp only [List.length_drop, List.length_take]; rfl)) ?_; (with_reducible refine (spec_l9Dec.calls k a0_0 t115 _ A4.out).mono ?_); rintro e w9 ⟨rfl, hb⟩; refine ⟨_, rfl, ?_⟩; replace BK113 := Aside0.mk (blk_below (g := gb113) (o := .cells #[.int .i64 a0_0, .slice A0_1 l0_1.length c0_1] 29 (0, 0)) (spec_PostText_vb BK113) hb); replace HB := Aside0.mk (below_step (spec_PostText_auHB) hb); (try clear hb); (try clear hb2); (try clear hk); (try clear hi)))
 go_loopg [3, 4] k (fun kq v3 v4 w' => ∃ (x3_1 : ByteArray) (x4_1 : Int), v3 = .string x3_1 ∧ v4 = .int .i64 x4_1 ∧ Aside0 (spec_PostText.l0 kq x3_1 x4_1 a0_0 l0_1 = some r) ∧ Aside0 (kq ≤ k) ∧ Aside0 (w'.heap[gb113]? = some (.cells #[.int .i64 a0_0, (.slice A0_1 l0_1.length c0_1)] 29 (0, 0))) ∧ Aside0 (Below w.heap.size w w'))
 case atStart => exact ⟨(t115), (0), (by first | rfl | (simp; done) | (simp [*]; done)), (by first | rfl | (simp; done) | (simp [*]; done)), H', ⟨Nat.le_refl _⟩, ⟨by (with_reducible repeat (first | refine blk_drewN ?_ _ | refine blk_drew ?_ | refine blk_alloc ?_ _)); exact BK113.out⟩, ⟨spec_PostText_auHB⟩⟩
 case round =>
  clear H'
  try clear c1
  try clear c2
  try clear p2
  try clear c3
  try clear c7
  try clear hcz6_0
  try clear hcz6_1
  try clear hcz8_0
  try clear hcz8_1
  try clear hfz6_0
  try clear hfz6_1
  try clear hfz8_0
  try clear hfz8_1
  obtain ⟨x3_1, x4_1, rfl, rfl, HA, HK1, BK113, HB⟩ := hrel
  cases gk with
  | zero => exact absurd HA.out (by simp [spec_PostText.l0])
  | succ k1 =>
   have H := HA.out
   clear HA
   simp only [spec_PostText.l0] at H
   by_cases c10 : x4_1 < (l0_1.length : Int)
   rotate_left
   ·
    rw [if_neg c10] at H
    have c10b0 : decide (x4_1 < (l0_1.length : Int)) = false := decide_eq_false c10
    clear c10
    obtain rfl := Option.some.inj H
    have hcz24_0 : wr.cell? ⟨gb113, 0, none⟩ = some (.int .i64 a0_0) := (blk_cell BK113.out 0).trans rfl
    have hcz24_1 : wr.cell? ⟨gb113, 1, none⟩ = some (.slice A0_1 l0_1.length c0_1) := (blk_cell BK113.out 1).trans rfl
    have hfz24_0 := blk_frozen BK113.out 0
    have hfz24_1 := blk_frozen BK113.out 1
    go_wp2
    go_ret
    exact ⟨by first | rfl | (simp [errW_none, errW_some] <;> rfl) | (simp [*, errW_none, errW_some] <;> rfl), spec_PostText_auHB⟩
   rw [if_pos c10] at H
   have c10b0 : decide (x4_1 < (l0_1.length : Int)) = true := decide_eq_true c10
   clear c10
   by_cases c11 : x3_1.size + 1 ≤ 9223372036854775807
   rotate_left
   ·
    rw [if_neg c11] at H
    exact absurd H (by simp)
   rw [if_pos c11] at H
   have c11b0 := eq_true c11
   have c11b1 : decide (x3_1.size + 1 ≤ 9223372036854775807) = true := decide_eq_true c11
   try have c11b2 : (9223372036854775807 < x3_1.size + 1) = False := eq_false (Nat.not_lt.2 c11)
   by_cases c12 : 0 ≤ x4_1
   rotate_left
   ·
    rw [if_neg c12] at H
    exact absurd H (by simp)
   rw [if_pos c12] at H
   have c12b0 : decide (0 ≤ x4_1) = true := decide_eq_true c12
   clear c12
   by_cases c13 : (x3_1 ++ (⟨#[32]⟩ : ByteArray)).size + ((rd_T45 l0_1 x4_1).f0).size ≤ 9223372036854775807
   rotate_left
   ·
    rw [if_neg c13] at H
    exact absurd H (by simp)
   rw [if_pos c13] at H
   have c13b0 := eq_true c13
   have c13b1 : decide ((x3_1 ++ (⟨#[32]⟩ : ByteArray)).size + ((rd_T45 l0_1 x4_1).f0).size ≤ 9223372036854775807) = true := decide_eq_true c13
   try have c13b2 : (9223372036854775807 < (x3_1 ++ (⟨#[32]⟩ : ByteArray)).size + ((rd_T45 l0_1 x4_1).f0).size) = False := eq_false (Nat.not_lt.2 c13)
   (try (have c13b2s : (9223372036854775807 < (x3_1 ++ (⟨#[32]⟩ : ByteArray)).size + ((rd_T45 l0_1 x4_1).f0).size) = False := eq_false (Nat.not_lt.2 c13); simp only [ByteArray.size_append, show (⟨#[32]⟩ : ByteArray).size = 1 from rfl] at c13b2s))
   by_cases c14 : ((x3_1 ++ (⟨#[32]⟩ : ByteArray)) ++ ((rd_T45 l0_1 x4_1).f0)).size + 1 ≤ 9223372036854775807
   rotate_left
   ·
    rw [if_neg c14] at H
    exact absurd H (by simp)
   rw [if_pos c14] at H
   have c14b0 := eq_true c14
   have c14b1 : decide (((x3_1 ++ (⟨#[32]⟩ : ByteArray)) ++ ((rd_T45 l0_1 x4_1).f0)).size + 1 ≤ 9223372036854775807) = true := decide_eq_true c14
   try have c14b2 : (9223372036854775807 < ((x3_1 ++ (⟨#[32]⟩ : ByteArray)) ++ ((rd_T45 l0_1 x4_1).f0)).size + 1) = False := eq_false (Nat.not_lt.2 c14)
   (try (have c14b2s : (9223372036854775807 < ((x3_1 ++ (⟨#[32]⟩ : ByteArray)) ++ ((rd_T45 l0_1 x4_1).f0)).size + 1) = False := eq_false (Nat.not_lt.2 c14); simp only [ByteArray.size_append, show (⟨#[32]⟩ : ByteArray).size = 1 from rfl] at c14b2s))
   replace H := Option.bind_eq_some_iff.mp H
   obtain ⟨t118, A150, H⟩ := H
   replace H : (if (((x3_1 ++ (⟨#[32]⟩ : ByteArray)) ++ ((rd_T45 l0_1 x4_1).f0)) ++ (⟨#[58]⟩ : ByteArray)).size + t118.size ≤ 9223372036854775807 then (if ((((x3_1 ++ (⟨#[32]⟩ : ByteArray)) ++ ((rd_T45 l0_1 x4_1).f0)) ++ (⟨#[58]⟩ : ByteArray)) ++ t118).size + 1 ≤ 9223372036854775807 then ((spec_l9Dec.f k1 ((rd_T45 l0_1 x4_1).f2)).bind fun t120 => (if (((((x3_1 ++ (⟨#[32]⟩ : ByteArray)) ++ ((rd_T45 l0_1 x4_1).f0)) ++ (⟨#[58]⟩ : ByteArray)) ++ t118) ++ (⟨#[58]⟩ : ByteArray)).size + t120.size ≤ 9223372036854775807 then (spec_PostText.l0 k1 ((((((x3_1 ++ (⟨#[32]⟩ : ByteArray)) ++ ((rd_T45 l0_1 x4_1).f0)) ++ (⟨#[58]⟩ : ByteArray)) ++ t118) ++ (⟨#[58]⟩ : ByteArray)) ++ t120) (wrap64 (x4_1 + 1)) a0_0 l0_1) else (none))) else (none)) else (none)) = some r := H
   have A15 := Aside0.mk A150
   clear A150
   by_cases c16 : (((x3_1 ++ (⟨#[32]⟩ : ByteArray)) ++ ((rd_T45 l0_1 x4_1).f0)) ++ (⟨#[58]⟩ : ByteArray)).size + t118.size ≤ 9223372036854775807
   rotate_left
   ·
    rw [if_neg c16] at H
    exact absurd H (by simp)
   rw [if_pos c16] at H
   have c16b0 := eq_true c16
   have c16b1 : decide ((((x3_1 ++ (⟨#[32]⟩ : ByteArray)) ++ ((rd_T45 l0_1 x4_1).f0)) ++ (⟨#[58]⟩ : ByteArray)).size + t118.size ≤ 9223372036854775807) = true := decide_eq_true c16
   try have c16b2 : (9223372036854775807 < (((x3_1 ++ (⟨#[32]⟩ : ByteArray)) ++ ((rd_T45 l0_1 x4_1).f0)) ++ (⟨#[58]⟩ : ByteArray)).size + t118.size) = False := eq_false (Nat.not_lt.2 c16)
   (try (have c16b2s : (9223372036854775807 < (((x3_1 ++ (⟨#[32]⟩ : ByteArray)) ++ ((rd_T45 l0_1 x4_1).f0)) ++ (⟨#[58]⟩ : ByteArray)).size + t118.size) = False := eq_false (Nat.not_lt.2 c16); simp only [ByteArray.size_append, show (⟨#[32]⟩ : ByteArray).size = 1 from rfl, show (⟨#[58]⟩ : ByteArray).size = 1 from rfl] at c16b2s))
   by_cases c17 : ((((x3_1 ++ (⟨#[32]⟩ : ByteArray)) ++ ((rd_T45 l0_1 x4_1).f0)) ++ (⟨#[58]⟩ : ByteArray)) ++ t118).size + 1 ≤ 9223372036854775807
   rotate_left
   ·
    rw [if_neg c17] at H
    exact absurd H (by simp)
   rw [if_pos c17] at H
   have c17b0 := eq_true c17
   have c17b1 : decide (((((x3_1 ++ (⟨#[32]⟩ : ByteArray)) ++ ((rd_T45 l0_1 x4_1).f0)) ++ (⟨#[58]⟩ : ByteArray)) ++ t118).size + 1 ≤ 9223372036854775807) = true := decide_eq_true c17
   try have c17b2 : (9223372036854775807 < ((((x3_1 ++ (⟨#[32]⟩ : ByteArray)) ++ ((rd_T45 l0_1 x4_1).f0)) ++ (⟨#[58]⟩ : ByteArray)) ++ t118).size + 1) = False := eq_false (Nat.not_lt.2 c17)
   (try (have c17b2s : (9223372036854775807 < ((((x3_1 ++ (⟨#[32]⟩ : ByteArray)) ++ ((rd_T45 l0_1 x4_1).f0)) ++ (⟨#[58]⟩ : ByteArray)) ++ t118).size + 1) = False := eq_false (Nat.not_lt.2 c17); simp only [ByteArray.size_append, show (⟨#[32]⟩ : ByteArray).size = 1 from rfl, show (⟨#[58]⟩ : ByteArray).size = 1 from rfl] at c17b2s))
   replace H := Option.bind_eq_some_iff.mp H
   obtain ⟨t120, A180, H⟩ := H
   replace H : (if (((((x3_1 ++ (⟨#[32]⟩ : ByteArray)) ++ ((rd_T45 l0_1 x4_1).f0)) ++ (⟨#[58]⟩ : ByteArray)) ++ t118) ++ (⟨#[58]⟩ : ByteArray)).size + t120.size ≤ 9223372036854775807 then (spec_PostText.l0 k1 ((((((x3_1 ++ (⟨#[32]⟩ : ByteArray)) ++ ((rd_T45 l0_1 x4_1).f0)) ++ (⟨#[58]⟩ : ByteArray)) ++ t118) ++ (⟨#[58]⟩ : ByteArray)) ++ t120) (wrap64 (x4_1 + 1)) a0_0 l0_1) else (none)) = some r := H
   have A18 := Aside0.mk A180
   clear A180
   by_cases c19 : (((((x3_1 ++ (⟨#[32]⟩ : ByteArray)) ++ ((rd_T45 l0_1 x4_1).f0)) ++ (⟨#[58]⟩ : ByteArray)) ++ t118) ++ (⟨#[58]⟩ : ByteArray)).size + t120.size ≤ 9223372036854775807
   rotate_left
   ·
    rw [if_neg c19] at H
    exact absurd H (by simp)
   rw [if_pos c19] at H
   have c19b0 := eq_true c19
   have c19b1 : decide ((((((x3_1 ++ (⟨#[32]⟩ : ByteArray)) ++ ((rd_T45 l0_1 x4_1).f0)) ++ (⟨#[58]⟩ : ByteArray)) ++ t118) ++ (⟨#[58]⟩ : ByteArray)).size + t120.size ≤ 9223372036854775807) = true := decide_eq_true c19
   try have c19b2 : (9223372036854775807 < (((((x3_1 ++ (⟨#[32]⟩ : ByteArray)) ++ ((rd_T45 l0_1 x4_1).f0)) ++ (⟨#[58]⟩ : ByteArray)) ++ t118) ++ (⟨#[58]⟩ : ByteArray)).size + t120.size) = False := eq_false (Nat.not_lt.2 c19)
   (try (have c19b2s : (9223372036854775807 < (((((x3_1 ++ (⟨#[32]⟩ : ByteArray)) ++ ((rd_T45 l0_1 x4_1).f0)) ++ (⟨#[58]⟩ : ByteArray)) ++ t118) ++ (⟨#[58]⟩ : ByteArray)).size + t120.size) = False := eq_false (Nat.not_lt.2 c19); simp only [ByteArray.size_append, show (⟨#[32]⟩ : ByteArray).size = 1 from rfl, show (⟨#[58]⟩ : ByteArray).size = 1 from rfl] at c19b2s))
   have H' := Aside0.mk H
   clear H
   have hcz20_0 : wr.cell? ⟨gb113, 0, none⟩ = some (.int .i64 a0_0) := (blk_cell BK113.out 0).trans rfl
   have hcz20_1 : wr.cell? ⟨gb113, 1, none⟩ = some (.slice A0_1 l0_1.length c0_1) := (blk_cell BK113.out 1).trans rfl
   have hfz20_0 := blk_frozen BK113.out 0
   have hfz20_1 := blk_frozen BK113.out 1
   try go_wp2
   replace BK113 := Aside0.mk (blk_drew BK113.out)
   replace HB := Aside0.mk (below_drew1 HB.out)
   have p116 : 0 ≤ (x4_1 : Int) := of_decide_eq_true (by first | (with_reducible assumption) | assumption)
   have q116 : x4_1 < (l0_1.length : Int) := of_decide_eq_true (by first | (with_reducible assumption) | assumption)
   obtain ⟨ad116, e116, hx116_0, hx116_1, hx116_2⟩ := at_T45 HR0_1.out x4_1 p116 q116
   have hw116_2 := hx116_2
   have hw116_1 := hx116_1
   have hw116_0 := hx116_0
   cases e116
   replace hx116_0 := (HB.out.cell (World.block_lt_of_cell? w _ hx116_0)).trans hx116_0
   replace hx116_1 := (HB.out.cell (World.block_lt_of_cell? w _ hx116_1)).trans hx116_1
   replace hx116_2 := (HB.out.cell (World.block_lt_of_cell? w _ hx116_2)).trans hx116_2
   replace p116 := eq_true p116
   replace q116 := eq_true q116
   have p117 : 0 ≤ (x4_1 : Int) := of_decide_eq_true (by first | (with_reducible assumption) | assumption)
   have q117 : x4_1 < (l0_1.length : Int) := of_decide_eq_true (by first | (with_reducible assumption) | assumption)
   obtain ⟨ad117, e117, hx117_0, hx117_1, hx117_2⟩ := at_T45 HR0_1.out x4_1 p117 q117
   have hw117_2 := hx117_2
   have hw117_1 := hx117_1
   have hw117_0 := hx117_0
   obtain rfl : ad116 = ad117 := (by injection e117)
   replace hx117_0 := (HB.out.cell (World.block_lt_of_cell? w _ hx117_0)).trans hx117_0
   replace hx117_1 := (HB.out.cell (World.block_lt_of_cell? w _ hx117_1)).trans hx117_1
   replace hx117_2 := (HB.out.cell (World.block_lt_of_cell? w _ hx117_2)).trans hx117_2
   replace p117 := eq_true p117
   replace q117 := eq_true q117
   have p119 : 0 ≤ (x4_1 : Int) := of_decide_eq_true (by first | (with_reducible assumption) | assumption)
   have q119 : x4_1 < (l0_1.length : Int) := of_decide_eq_true (by first | (with_reducible assumption) | assumption)
   obtain ⟨ad119, e119, hx119_0, hx119_1, hx119_2⟩ := at_T45 HR0_1.out x4_1 p119 q119
   have hw119_2 := hx119_2
   have hw119_1 := hx119_1
   have hw119_0 := hx119_0
   obtain rfl : ad116 = ad119 := (by injection e119)
   replace hx119_0 := (HB.out.cell (World.block_lt_of_cell? w _ hx119_0)).trans hx119_0
   replace hx119_1 := (HB.out.cell (World.block_lt_of_cell? w _ hx119_1)).trans hx119_1
   replace hx119_2 := (HB.out.cell (World.block_lt_of_cell? w _ hx119_2)).trans hx119_2
   replace p119 := eq_true p119
   replace q119 := eq_true q119
   refine start_ (n := 28) (S := fun w' => w'.cell? ⟨gb113, 0, none⟩ = some (.int .i64 a0_0) ∧ w'.cell? ⟨gb113, 1, none⟩ = some (.slice (some ad116) l0_1.length c0_1) ∧ w'.cell? (ad116.add ((x4_1).toNat * 3)) = some (.string ((rd_T45 l0_1 x4_1).f0)) ∧ w'.cell? ⟨(ad116.add ((x4_1).toNat * 3)).block, (ad116.add ((x4_1).toNat * 3)).off + 1, none⟩ = some (.int .i64 ((rd_T45 l0_1 x4_1).f1)) ∧ w'.cell? ⟨(ad116.add ((x4_1).toNat * 3)).block, (ad116.add ((x4_1).toNat * 3)).off + 2, none⟩ = some (.int .i64 ((rd_T45 l0_1 x4_1).f2)) ∧ w'.cell? (ad116.add ((x4_1).toNat * 3)) = some (.string ((rd_T45 l0_1 x4_1).f0)) ∧ w'.cell? ⟨(ad116.add ((x4_1).toNat * 3)).block, (ad116.add ((x4_1).toNat * 3)).off + 1, none⟩ = some (.int .i64 ((rd_T45 l0_1 x4_1).f1)) ∧ w'.cell? ⟨(ad116.add ((x4_1).toNat * 3)).block, (ad116.add ((x4_1).toNat * 3)).off + 2, none⟩ = some (.int .i64 ((rd_T45 l0_1 x4_1).f2)) ∧ w'.cell? (ad116.add ((x4_1).toNat * 3)) = some (.string ((rd_T45 l0_1 x4_1).f0)) ∧ w'.cell? ⟨(ad116.add ((x4_1).toNat * 3)).block, (ad116.add ((x4_1).toNat * 3)).off + 1, none⟩ = some (.int .i64 ((rd_T45 l0_1 x4_1).f1)) ∧ w'.cell? ⟨(ad116.add ((x4_1).toNat * 3)).block, (ad116.add ((x4_1).toNat * 3)).off + 2, none⟩ = some (.int .i64 ((rd_T45 l0_1 x4_1).f2))) (ds := []) #[false, false, false, false, false, false, false, false, false, false, false, false, false, false, false, false, false, false, false, false, false, false, false, false, false, false, false, false] (by kernel_rfl) rfl rfl ⟨(blk_cell BK113.out 0).trans rfl, (blk_cell BK113.out 1).trans rfl, ((HB.out.cell (World.block_lt_of_cell? w _ hw116_0)).trans hw116_0), ((HB.out.cell (World.block_lt_of_cell? w _ hw116_1)).trans hw116_1), ((HB.out.cell (World.block_lt_of_cell? w _ hw116_2)).trans hw116_2), ((HB.out.cell (World.block_lt_of_cell? w _ hw117_0)).trans hw117_0), ((HB.out.cell (World.block_lt_of_cell? w _ hw117_1)).trans hw117_1), ((HB.out.cell (World.block_lt_of_cell? w _ hw117_2)).trans hw117_2), ((HB.out.cell (World.block_lt_of_cell? w _ hw119_0)).trans hw119_0), ((HB.out.cell (World.block_lt_of_cell? w _ hw119_1)).trans hw119_1), ((HB.out.cell (World.block_lt_of_cell? w _ hw119_2)).trans hw119_2)⟩ (fun hHeld => ?_); refine with_tabW spec_PostText.tab7 spec_PostText.bits7 (fun HT_ HW_ => ?_)
   generalize wr.drew = w21 at BK113 HB hx116_0 hx116_1 hx116_2 hx117_0 hx117_1 hx117_2 hx119_0 hx119_1 hx119_2 hHeld ⊢
   refine pu_ 0 (some 18) HT_ rfl rfl (by go_simp; rfl) (by kernel_rfl) rfl (by intro w'; go_simp; with_reducible rfl) (fun _ _ _ h => h) (by go_simp; rfl) ?_
   refine pu_ 1 (some 19) HT_ rfl rfl (by go_simp; rfl) (by kernel_rfl) rfl (by intro w'; go_simp; with_reducible rfl) (fun _ _ _ h => h) (by go_simp; rfl) ?_
   refine pu_ 2 (some 20) HT_ rfl rfl (by go_simp; rfl) (by kernel_rfl) rfl (by intro w'; go_simp; with_reducible rfl) (fun _ _ _ h => h) (by go_simp; rfl) ?_
   refine pu_ 4 (some 22) HT_ rfl rfl (by go_simp; rfl) (by kernel_rfl) rfl (by intro w'; go_simp; with_reducible rfl) (fun _ _ _ h => h) (by go_simp; rfl) ?_
   refine pu_ 10 (some 28) HT_ rfl rfl (by go_simp; rfl) (by kernel_rfl) rfl (by intro w'; go_simp; with_reducible rfl) (fun _ _ _ h => h) (by go_simp; rfl) ?_
   refine pu_ 12 (some 30) HT_ rfl rfl (by go_simp; rfl) (by kernel_rfl) rfl (by intro w'; go_simp; with_reducible rfl) (fun _ _ _ h => h) (by go_simp; rfl) ?_
   refine pu_ 19 (some 37) HT_ rfl rfl (by go_simp; rfl) (by kernel_rfl) rfl (by intro w'; go_simp; with_reducible rfl) (fun _ _ _ h => h) (by go_simp; rfl) ?_
   refine pu_ 21 (some 39) HT_ rfl rfl (by go_simp; rfl) (by kernel_rfl) rfl (by intro w'; go_simp; with_reducible rfl) (fun _ _ _ h => h) (by go_simp; rfl) ?_
   refine ta_ 3 (some 21) HT_ HW_ hHeld rfl rfl (by go_simp; rfl) (by kernel_rfl) rfl (by rintro w' ⟨s0, s1, s2, s3, s4, s5, s6, s7, s8, s9, s10⟩; go_simp; with_reducible rfl) (fun _ _ _ h => h) (by go_simp; rfl) ?_
   refine pu_ 5 (some 23) HT_ rfl rfl (by go_simp; rfl) (by kernel_rfl) rfl (by intro w'; go_simp; with_reducible rfl) (fun _ _ _ h => h) (by go_simp; rfl) ?_
   refine pu_ 6 (some 24) HT_ rfl rfl (by go_simp; rfl) (by kernel_rfl) rfl (by intro w'; go_simp; with_reducible rfl) (fun _ _ _ h => h) (by go_simp; rfl) ?_
   refine ta_ 7 (some 25) HT_ HW_ hHeld rfl rfl (by go_simp; rfl) (by kernel_rfl) rfl (by rintro w' ⟨s0, s1, s2, s3, s4, s5, s6, s7, s8, s9, s10⟩; go_simp; with_reducible rfl) (fun _ _ _ h => h) (by go_simp; rfl) ?_
   refine pu_ 8 (some 26) HT_ rfl rfl (by go_simp; rfl) (by kernel_rfl) rfl (by intro w'; go_simp; with_reducible rfl) (fun _ _ _ h => h) (by go_simp; rfl) ?_
   refine pu_ 9 (some 27) HT_ rfl rfl (by go_simp; rfl) (by kernel_rfl) rfl (by intro w'; go_simp; with_reducible rfl) (fun _ _ _ h => h) (by go_simp; rfl) ?_
   refine ta_ 11 (some 29) HT_ HW_ hHeld rfl rfl (by go_simp; rfl) (by kernel_rfl) rfl (by rintro w' ⟨s0, s1, s2, s3, s4, s5, s6, s7, s8, s9, s10⟩; go_simp; with_reducible rfl) (fun _ _ _ h => h) (by go_simp; rfl) ?_
   refine pu_ 13 (some 31) HT_ rfl rfl (by go_simp; rfl) (by kernel_rfl) rfl (by intro w'; go_simp; with_reducible rfl) (fun _ _ _ h => h) (by go_simp; rfl) ?_
   refine pu_ 14 (some 32) HT_ rfl rfl (by go_simp; rfl) (by kernel_rfl) rfl (by intro w'; go_simp; with_reducible rfl) (fun _ _ _ h => h) (by go_simp; rfl) ?_
   refine ta_ 15 (some 33) HT_ HW_ hHeld rfl rfl (by go_simp; rfl) (by kernel_rfl) rfl (by rintro w' ⟨s0, s1, s2, s3, s4, s5, s6, s7, s8, s9, s10⟩; go_simp; with_reducible rfl) (fun _ _ _ h => h) (by go_simp; rfl) ?_
   refine ta_ 20 (some 38) HT_ HW_ hHeld rfl rfl (by go_simp; rfl) (by kernel_rfl) rfl (by rintro w' ⟨s0, s1, s2, s3, s4, s5, s6, s7, s8, s9, s10⟩; go_simp; with_reducible rfl) (fun _ _ _ h => h) (by go_simp; rfl) ?_
   refine pu_ 22 (some 40) HT_ rfl rfl (by go_simp; rfl) (by kernel_rfl) rfl (by intro w'; go_simp; with_reducible rfl) (fun _ _ _ h => h) (by go_simp; rfl) ?_
   refine pu_ 23 (some 41) HT_ rfl rfl (by go_simp; rfl) (by kernel_rfl) rfl (by intro w'; go_simp; with_reducible rfl) (fun _ _ _ h => h) (by go_simp; rfl) ?_
   refine ta_ 24 (some 42) HT_ HW_ hHeld rfl rfl (by go_simp; rfl) (by kernel_rfl) rfl (by rintro w' ⟨s0, s1, s2, s3, s4, s5, s6, s7, s8, s9, s10⟩; go_simp; with_reducible rfl) (fun _ _ _ h => h) (by go_simp; rfl) ?_
   refine one_ (i := 16) (N := some 34) #[true, true, true, true, true, true, true, true, true, true, true, true, true, true, true, true, true, false, false, true, true, true, true, true, true, false, false, false] rfl rfl (one_of HT_.out (by kernel_rfl)) (by decide) (fun K hK => ?_)
   refine goes_ Tryd.func21 (by kernel_rfl) rfl #[.int .i64 ((rd_T45 l0_1 x4_1).f1)] (by rfl) rfl rfl (by (try simp only [List.map_toArray, List.map_cons, List.map_nil]); first | done | rfl | (simp only [List.length_drop, List.length_take]; rfl)) ?_
   with_reducible refine (spec_l9Dec.calls k1 ((rd_T45 l0_1 x4_1).f1) t118 _ A15.out).mono ?_
   rintro e w22 ⟨rfl, hb⟩
   refine ⟨_, rfl, ?_⟩
   replace BK113 := Aside0.mk (blk_below (g := gb113) (o := .cells #[.int .i64 a0_0, .slice (some ad116) l0_1.length c0_1] 29 (0, 0)) (spec_PostText_vb BK113) hb)
   replace HB := Aside0.mk (below_step (spec_PostText_auHB) hb)
   (try clear hb)
   (try clear hb2)
   (try clear hk)
   (try clear hi)
   refine hK.out _ _ ⟨(blk_cell BK113.out 0).trans rfl, (blk_cell BK113.out 1).trans rfl, ((HB.out.cell (World.block_lt_of_cell? w _ hw116_0)).trans hw116_0), ((HB.out.cell (World.block_lt_of_cell? w _ hw116_1)).trans hw116_1), ((HB.out.cell (World.block_lt_of_cell? w _ hw116_2)).trans hw116_2), ((HB.out.cell (World.block_lt_of_cell? w _ hw117_0)).trans hw117_0), ((HB.out.cell (World.block_lt_of_cell? w _ hw117_1)).trans hw117_1), ((HB.out.cell (World.block_lt_of_cell? w _ hw117_2)).trans hw117_2), ((HB.out.cell (World.block_lt_of_cell? w _ hw119_0)).trans hw119_0), ((HB.out.cell (World.block_lt_of_cell? w _ hw119_1)).trans hw119_1), ((HB.out.cell (World.block_lt_of_cell? w _ hw119_2)).trans hw119_2)⟩ (fun hHeld => ?_)
   clear hK K
   refine norm_ (a' := ?_) ?_ ?_
   rotate_left
   ·
    show Act.put _ (some 34) _ = _
    simp only [Act.put, List.setIfInBounds_toArray, List.set_cons_zero, List.set_cons_succ, i64_w, i32_w]
    rfl
   refine pu_ 17 (some 35) HT_ rfl rfl (by go_simp; rfl) (by kernel_rfl) rfl (by intro w'; go_simp; with_reducible rfl) (fun _ _ _ h => h) (by go_simp; rfl) ?_
   refine pu_ 18 (some 36) HT_ rfl rfl (by go_simp; rfl) (by kernel_rfl) rfl (by intro w'; go_simp; with_reducible rfl) (fun _ _ _ h => h) (by go_simp; rfl) ?_
   refine one_ (i := 25) (N := some 43) #[true, true, true, true, true, true, true, true, true, true, true, true, true, true, true, true, true, true, true, true, true, true, true, true, true, true, false, false] rfl rfl (one_of HT_.out (by kernel_rfl)) (by decide) (fun K hK => ?_)
   refine goes_ Tryd.func21 (by kernel_rfl) rfl #[.int .i64 ((rd_T45 l0_1 x4_1).f2)] (by rfl) rfl rfl (by (try simp only [List.map_toArray, List.map_cons, List.map_nil]); first | done | rfl | (simp only [List.length_drop, List.length_take]; rfl)) ?_
   with_reducible refine (spec_l9Dec.calls k1 ((rd_T45 l0_1 x4_1).f2) t120 _ A18.out).mono ?_
   rintro e w23 ⟨rfl, hb⟩
   refine ⟨_, rfl, ?_⟩
   replace BK113 := Aside0.mk (blk_below (g := gb113) (o := .cells #[.int .i64 a0_0, .slice (some ad116) l0_1.length c0_1] 29 (0, 0)) (spec_PostText_vb BK113) hb)
   replace HB := Aside0.mk (below_step (spec_PostText_auHB) hb)
   (try clear hb)
   (try clear hb2)
   (try clear hk)
   (try clear hi)
   refine hK.out _ _ ⟨(blk_cell BK113.out 0).trans rfl, (blk_cell BK113.out 1).trans rfl, ((HB.out.cell (World.block_lt_of_cell? w _ hw116_0)).trans hw116_0), ((HB.out.cell (World.block_lt_of_cell? w _ hw116_1)).trans hw116_1), ((HB.out.cell (World.block_lt_of_cell? w _ hw116_2)).trans hw116_2), ((HB.out.cell (World.block_lt_of_cell? w _ hw117_0)).trans hw117_0), ((HB.out.cell (World.block_lt_of_cell? w _ hw117_1)).trans hw117_1), ((HB.out.cell (World.block_lt_of_cell? w _ hw117_2)).trans hw117_2), ((HB.out.cell (World.block_lt_of_cell? w _ hw119_0)).trans hw119_0), ((HB.out.cell (World.block_lt_of_cell? w _ hw119_1)).trans hw119_1), ((HB.out.cell (World.block_lt_of_cell? w _ hw119_2)).trans hw119_2)⟩ (fun hHeld => ?_)
   clear hK K
   refine norm_ (a' := ?_) ?_ ?_
   rotate_left
   ·
    show Act.put _ (some 43) _ = _
    simp only [Act.put, List.setIfInBounds_toArray, List.set_cons_zero, List.set_cons_succ, i64_w, i32_w]
    rfl
   refine pu_ 26 (some 44) HT_ rfl rfl (by go_simp; rfl) (by kernel_rfl) rfl (by intro w'; go_simp; with_reducible rfl) (fun _ _ _ h => h) (by go_simp; rfl) ?_
   refine pu_ 27 (some 3) HT_ rfl rfl (by go_simp; rfl) (by kernel_rfl) rfl (by intro w'; go_simp; with_reducible rfl) (fun _ _ _ h => h) (by go_simp; rfl) ?_
   refine done_ (done_of HT_.out (by kernel_rfl)) ?_
   try go_wp2
   go_roundg k1
   case measure => have := HK1.out; omega
   case rel => exact ⟨((((((x3_1 ++ (⟨#[32]⟩ : ByteArray)) ++ ((rd_T45 l0_1 x4_1).f0)) ++ (⟨#[58]⟩ : ByteArray)) ++ t118) ++ (⟨#[58]⟩ : ByteArray)) ++ t120), (wrap64 (x4_1 + 1)), (by first | rfl | (simp; done) | (simp [*]; done)), (by first | rfl | (simp; done) | (simp [*]; done)), H', ⟨by have := HK1.out; omega⟩, ⟨by (with_reducible repeat (first | refine blk_drewN ?_ _ | refine blk_drew ?_ | refine blk_alloc ?_ _)); exact BK113.out⟩, ⟨spec_PostText_auHB⟩⟩

/-! ### impl_AcctOk: function 54 -/
mutual
def impl_AcctOk.j0 : Nat → ByteArray → Bool → Option (Bool)
  | 0, _, _ => none
  | k + 1, x0, x11 => if x11 = true then (some false) else (impl_AcctOk.l0 k x0 (x0.size : Int) 0)
def impl_AcctOk.l0 : Nat → ByteArray → Int → Int → Option (Bool)
  | 0, _, _, _ => none
  | k + 1, x0, x13, x14 => if x14 < x13 then (if 0 ≤ x14 then (if x14 < (x0.size : Int) then (if (bt x0 x14) < 97 then (some false) else (if (bt x0 x14) > 122 then (some false) else (impl_AcctOk.l0 k x0 x13 (wrap64 (x14 + 1))))) else (none)) else (none)) else (some true)
end
def impl_AcctOk.f (k : Nat) (a0 : ByteArray) : Option (Bool) := if (a0.size : Int) < 1 then (impl_AcctOk.j0 k a0 true) else (impl_AcctOk.j0 k a0 (decide ((a0.size : Int) > 4)))
theorem impl_AcctOk.mono_l : ∀ k, (∀ y0 y1, LeO (impl_AcctOk.j0 k y0 y1) (impl_AcctOk.j0 (k + 1) y0 y1)) ∧ (∀ y0 y1 y2, LeO (impl_AcctOk.l0 k y0 y1 y2) (impl_AcctOk.l0 (k + 1) y0 y1 y2))
  | 0 => ⟨fun _ _ r h => by simp [impl_AcctOk.j0] at h, fun _ _ _ r h => by simp [impl_AcctOk.l0] at h⟩
  | k + 1 => by
    obtain ⟨ih0, ih1⟩ := impl_AcctOk.mono_l k
    refine ⟨?_, ?_⟩
    · intro y0 y1
      unfold impl_AcctOk.j0
      repeat' first
      | (with_reducible exact ih0 _ _)
      | (with_reducible exact ih1 _ _ _)
      | (with_reducible exact LeO.refl _)
      | (with_reducible exact LeO.none _)
      | (with_reducible refine LeO.ite ?_ ?_)
      | (with_reducible refine LeO.bind ?_ (fun _ => ?_))
      | exact ih0 _ _
      | exact ih1 _ _ _
      | exact LeO.none _
      | refine LeO.ite ?_ ?_
      | refine LeO.bind ?_ (fun _ => ?_)
    · intro y0 y1 y2
      unfold impl_AcctOk.l0
      repeat' first
      | (with_reducible exact ih0 _ _)
      | (with_reducible exact ih1 _ _ _)
      | (with_reducible exact LeO.refl _)
      | (with_reducible exact LeO.none _)
      | (with_reducible refine LeO.ite ?_ ?_)
      | (with_reducible refine LeO.bind ?_ (fun _ => ?_))
      | exact ih0 _ _
      | exact ih1 _ _ _
      | exact LeO.none _
      | refine LeO.ite ?_ ?_
      | refine LeO.bind ?_ (fun _ => ?_)
theorem impl_AcctOk.mono : ∀ a0 k, LeO (impl_AcctOk.f k a0) (impl_AcctOk.f (k + 1) a0) := by
  intro a0 k
  obtain ⟨ih0, ih1⟩ := impl_AcctOk.mono_l k
  unfold impl_AcctOk.f
  repeat' first
      | (with_reducible exact ih0 _ _)
      | (with_reducible exact ih1 _ _ _)
      | (with_reducible exact LeO.refl _)
      | (with_reducible exact LeO.none _)
      | (with_reducible refine LeO.ite ?_ ?_)
      | (with_reducible refine LeO.bind ?_ (fun _ => ?_))
      | exact ih0 _ _
      | exact ih1 _ _ _
      | exact LeO.none _
      | refine LeO.ite ?_ ?_
      | refine LeO.bind ?_ (fun _ => ?_)
set_option maxHeartbeats 8000000 in
set_option maxRecDepth 100000 in
theorem impl_AcctOk.calls (k : Nat) (a0 : ByteArray) (r : Bool) (w : World) (h : impl_AcctOk.f k a0 = some r) :
    Calls Tryd.prog 54 #[.string a0] w fun e w' => e = .returned (.bool r) ∧ Drawn0 w w' := by
  have H : (if (a0.size : Int) < 1 then (impl_AcctOk.j0 k a0 true) else (impl_AcctOk.j0 k a0 (decide ((a0.size : Int) > 4)))) = some r := h
  clear h
  have HC2 := Aside0.mk H
  clear H
  go_enter Tryd.func54, Tryd.ntmps54
  go_upto_region 1 with (fail)
  go_cut [11] (fun v11 wc => ∃ (kq : Nat) (x11_1 : Bool), v11 = .bool x11_1 ∧ Aside0 (impl_AcctOk.j0 kq a0 x11_1 = some r) ∧ Aside0 (kq ≤ k) ∧ Drawn0 w wc)
  case first =>
    have H := HC2.out
    clear HC2
    by_cases c3 : (a0.size : Int) < 1
    · rw [if_pos c3] at H
      have c3b0 : decide ((a0.size : Int) < 1) = true := decide_eq_true c3
      have c3b1 : decide (a0.size < 1) = true := decide_eq_true (by omega)
      clear c3
      (first | rw [c3b0] | (simp only [i64_w, i32_w]; rw [c3b0]) | skip)
      have H' := Aside0.mk H
      clear H
      go_wp2
      go_meet
      case rel => exact ⟨_, (true), (by first | rfl | (simp; done) | (simp [*]; done)), H', ⟨by first | omega | exact Nat.le_refl _⟩, by repeat (first | exact Drawn0.refl _ | apply Drawn0.step)⟩
    · rw [if_neg c3] at H
      have c3b0 : decide ((a0.size : Int) < 1) = false := decide_eq_false c3
      have c3b1 : decide (a0.size < 1) = false := decide_eq_false (by omega)
      clear c3
      (first | rw [c3b0] | (simp only [i64_w, i32_w]; rw [c3b0]) | skip)
      have H' := Aside0.mk H
      clear H
      go_wp2
      go_meet
      case rel => exact ⟨_, (decide ((a0.size : Int) > 4)), (by first | rfl | (simp; done) | (simp [*]; done)), H', ⟨by first | omega | exact Nat.le_refl _⟩, by repeat (first | exact Drawn0.refl _ | apply Drawn0.step)⟩
  case rest =>
    clear HC2
    try clear p2
    try clear c3
    try clear c3b0
    try clear c3b1
    obtain ⟨kq, x11_1, rfl, HA, HJ1, ⟨mc1, rfl⟩⟩ := hcut
    cases kq with
    | zero => exact absurd HA.out (by simp [impl_AcctOk.j0])
    | succ kj1 =>
      have H := HA.out
      clear HA
      simp only [impl_AcctOk.j0] at H
      by_cases c4 : x11_1 = true
      · subst c4
        have H1 : (some false) = some r := by rw [if_pos rfl] at H; exact H
        clear H
        have H := H1
        clear H1
        obtain rfl := Option.some.inj H
        go_wp2
        go_ret
        exact ⟨by first | rfl | (simp; done) | (simp [*]; done), by repeat (first | exact Drawn0.refl _ | apply Drawn0.step)⟩
      · replace c4 := Bool.eq_false_iff.mpr c4
        subst c4
        have H1 : (impl_AcctOk.l0 kj1 a0 (a0.size : Int) 0) = some r := by rw [if_neg (show ¬ (false = true) by decide)] at H; exact H
        clear H
        have H := H1
        clear H1
        have H' := Aside0.mk H
        clear H
        go_wp2
        go_loopg [14] kj1 (fun kq v14 w' => ∃ (x14_2 : Int), v14 = .int .i64 x14_2 ∧ Aside0 (impl_AcctOk.l0 kq a0 (a0.size : Int) x14_2 = some r) ∧ Aside0 (kq ≤ kj1) ∧ Drawn0 w w')
        case atStart => exact ⟨(0), (by first | rfl | (simp; done) | (simp [*]; done)), H', ⟨Nat.le_refl _⟩, by repeat (first | exact Drawn0.refl _ | apply Drawn0.step)⟩
        case round =>
          clear H'
          try clear c1
          try clear p2
          try clear c3
          try clear c3b0
          try clear c3b1
          try clear c4
          try clear p2
          obtain ⟨x14_2, rfl, HA, HK2, ⟨m2, rfl⟩⟩ := hrel
          cases gk with
          | zero => exact absurd HA.out (by simp [impl_AcctOk.l0])
          | succ k2 =>
            have H := HA.out
            clear HA
            simp only [impl_AcctOk.l0] at H
            by_cases c5 : x14_2 < (a0.size : Int)
            · rw [if_pos c5] at H
              have c5b0 : decide (x14_2 < (a0.size : Int)) = true := decide_eq_true c5
              clear c5
              by_cases c6 : 0 ≤ x14_2
              · rw [if_pos c6] at H
                have c6b0 : decide (0 ≤ x14_2) = true := decide_eq_true c6
                clear c6
                by_cases c7 : x14_2 < (a0.size : Int)
                · rw [if_pos c7] at H
                  have c7b0 : decide (x14_2 < (a0.size : Int)) = true := decide_eq_true c7
                  clear c7
                  by_cases c9 : (bt a0 x14_2) < 97
                  · rw [if_pos c9] at H
                    have c9b0 : decide ((bt a0 x14_2) < 97) = true := decide_eq_true c9
                    clear c9
                    obtain rfl := Option.some.inj H
                    have p8 : 0 ≤ (x14_2 : Int) := of_decide_eq_true (by first | (with_reducible assumption) | assumption)
                    have q8 : x14_2 < (a0.size : Int) := of_decide_eq_true (by first | (with_reducible assumption) | assumption)
                    have hx8 := bt_at a0 x14_2
                    replace p8 := eq_true p8
                    replace q8 := eq_true q8
                    go_wp2
                    go_ret
                    exact ⟨by first | rfl | (simp; done) | (simp [*]; done), by repeat (first | exact Drawn0.refl _ | apply Drawn0.step)⟩
                  · rw [if_neg c9] at H
                    have c9b0 : decide ((bt a0 x14_2) < 97) = false := decide_eq_false c9
                    clear c9
                    by_cases c11 : (bt a0 x14_2) > 122
                    · rw [if_pos c11] at H
                      have c11b0 : decide (122 < (bt a0 x14_2)) = true := decide_eq_true c11
                      clear c11
                      obtain rfl := Option.some.inj H
                      have p8 : 0 ≤ (x14_2 : Int) := of_decide_eq_true (by first | (with_reducible assumption) | assumption)
                      have q8 : x14_2 < (a0.size : Int) := of_decide_eq_true (by first | (with_reducible assumption) | assumption)
                      have hx8 := bt_at a0 x14_2
                      replace p8 := eq_true p8
                      replace q8 := eq_true q8
                      have p10 : 0 ≤ (x14_2 : Int) := of_decide_eq_true (by first | (with_reducible assumption) | assumption)
                      have q10 : x14_2 < (a0.size : Int) := of_decide_eq_true (by first | (with_reducible assumption) | assumption)
                      have hx10 := bt_at a0 x14_2
                      replace p10 := eq_true p10
                      replace q10 := eq_true q10
                      go_wp2
                      go_ret
                      exact ⟨by first | rfl | (simp; done) | (simp [*]; done), by repeat (first | exact Drawn0.refl _ | apply Drawn0.step)⟩
                    · rw [if_neg c11] at H
                      have c11b0 : decide (122 < (bt a0 x14_2)) = false := decide_eq_false c11
                      clear c11
                      have H' := Aside0.mk H
                      clear H
                      have p8 : 0 ≤ (x14_2 : Int) := of_decide_eq_true (by first | (with_reducible assumption) | assumption)
                      have q8 : x14_2 < (a0.size : Int) := of_decide_eq_true (by first | (with_reducible assumption) | assumption)
                      have hx8 := bt_at a0 x14_2
                      replace p8 := eq_true p8
                      replace q8 := eq_true q8
                      have p10 : 0 ≤ (x14_2 : Int) := of_decide_eq_true (by first | (with_reducible assumption) | assumption)
                      have q10 : x14_2 < (a0.size : Int) := of_decide_eq_true (by first | (with_reducible assumption) | assumption)
                      have hx10 := bt_at a0 x14_2
                      replace p10 := eq_true p10
                      replace q10 := eq_true q10
                      go_wp2
                      go_roundg k2
                      case measure => have := HJ1.out; have := HK2.out; omega
                      case rel => exact ⟨(wrap64 (x14_2 + 1)), (by first | rfl | (simp; done) | (simp [*]; done)), H', ⟨by have := HJ1.out; have := HK2.out; omega⟩, by repeat (first | exact Drawn0.refl _ | apply Drawn0.step)⟩
                · rw [if_neg c7] at H
                  exact absurd H (by simp)
              · rw [if_neg c6] at H
                exact absurd H (by simp)
            · rw [if_neg c5] at H
              have c5b0 : decide (x14_2 < (a0.size : Int)) = false := decide_eq_false c5
              clear c5
              obtain rfl := Option.some.inj H
              go_wp2
              go_ret
              exact ⟨by first | rfl | (simp; done) | (simp [*]; done), by repeat (first | exact Drawn0.refl _ | apply Drawn0.step)⟩

/-! ### impl_LegOk: function 37 -/
def impl_LegOk.f (k : Nat) (a0_0 : ByteArray) (a0_1 : Int) (a0_2 : Int) : Option (Bool) := (impl_AcctOk.f k a0_0).bind fun t122 => (if t122 = true then (if a0_1 ≥ 1 then (if a0_1 ≤ 3 then (if a0_2 ≥ (-1000) then (if a0_2 ≤ 1000 then (some (a0_2 != 0)) else (some false)) else (some false)) else (some false)) else (some false)) else (some false))
theorem impl_LegOk.mono : ∀ a0 a1 a2 k, LeO (impl_LegOk.f k a0 a1 a2) (impl_LegOk.f (k + 1) a0 a1 a2) := by
  intro a0 a1 a2 k
  unfold impl_LegOk.f
  repeat' first
      | (with_reducible exact impl_AcctOk.mono _ _)
      | (with_reducible exact LeO.refl _)
      | (with_reducible exact LeO.none _)
      | (with_reducible refine LeO.ite ?_ ?_)
      | (with_reducible refine LeO.bind ?_ (fun _ => ?_))
      | exact impl_AcctOk.mono _ _
      | exact LeO.none _
      | refine LeO.ite ?_ ?_
      | refine LeO.bind ?_ (fun _ => ?_)
theorem impl_LegOk_auHB {q : Prop} (h : q := by (repeat (first | (with_reducible first | exact HB.out | apply below_alloc | apply pw_below_drewN | apply below_drew1 | refine below_set ?_ GE121.out) | exact HB.out))) : q := h
set_option maxHeartbeats 8000000 in
set_option maxRecDepth 100000 in
theorem impl_LegOk.calls (k : Nat) (a0_0 : ByteArray) (a0_1 : Int) (a0_2 : Int) (r : Bool) (w : World) (h : impl_LegOk.f k a0_0 a0_1 a0_2 = some r) :
  Calls Tryd.prog 37 #[.agg #[.string a0_0, .int .i64 a0_1, .int .i64 a0_2]] w fun e w' => e = .returned (.bool r) ∧ Below w.heap.size w w' := by
 have hu45 := Tryd.underlying45
 have HB := Aside0.mk (Below.refl w.heap.size w)
 have H : ((impl_AcctOk.f k a0_0).bind fun t122 => (if t122 = true then (if a0_1 ≥ 1 then (if a0_1 ≤ 3 then (if a0_2 ≥ (-1000) then (if a0_2 ≤ 1000 then (some (a0_2 != 0)) else (some false)) else (some false)) else (some false)) else (some false)) else (some false))) = some r := h
 clear h
 replace H := Option.bind_eq_some_iff.mp H
 obtain ⟨t122, A20, H⟩ := H
 replace H : (if t122 = true then (if a0_1 ≥ 1 then (if a0_1 ≤ 3 then (if a0_2 ≥ (-1000) then (if a0_2 ≤ 1000 then (some (a0_2 != 0)) else (some false)) else (some false)) else (some false)) else (some false)) else (some false)) = some r := H
 have A2 := Aside0.mk A20
 clear A20
 by_cases c3 : t122 = true
 rotate_left
 ·
  replace c3 := Bool.eq_false_iff.mpr c3
  subst c3
  have H1 : (some false) = some r := by rw [if_neg (show ¬ (false = true) by decide)] at H; exact H
  clear H
  have H := H1
  clear H1
  obtain rfl := Option.some.inj H
  go_enter Tryd.func37, Tryd.ntmps37
  go_wp2_with (first | ((with_reducible refine gate_dst (N := 1) rfl ?_); refine box_event ?hg (N := 1) ?hd (cs := #[.string a0_0, .int .i64 a0_1, .int .i64 a0_2]) (t := 45) ?hr ?_; (case hd => rfl); (case hg => rfl); (case hr => first | (go_simp; done) | (go_simp; rfl)); intro gb121 hg w18 hbox hb; have BK121 := Aside0.mk (hbox); have GW121 := Aside0.mk ((by rw [hg]; exact (below_size (impl_LegOk_auHB)) : w.heap.size ≤ gb121)); have GE121 := Aside0.mk ((by rw [hg]; exact (below_size (impl_LegOk_auHB)) : w.heap.size ≤ gb121)); replace HB := Aside0.mk (below_step (impl_LegOk_auHB) hb); clear hb hbox hg; have hcz19_0 : w18.cell? ⟨gb121, 0, none⟩ = some (.string a0_0) := (blk_cell BK121.out 0).trans rfl; have hcz19_1 : w18.cell? ⟨gb121, 1, none⟩ = some (.int .i64 a0_1) := (blk_cell BK121.out 1).trans rfl; have hcz19_2 : w18.cell? ⟨gb121, 2, none⟩ = some (.int .i64 a0_2) := (blk_cell BK121.out 2).trans rfl; have hfz19_0 := blk_frozen BK121.out 0; have hfz19_1 := blk_frozen BK121.out 1; have hfz19_2 := blk_frozen BK121.out 2) | ((with_reducible refine gate_callee (f := 54) rfl ?_); refine goesL_ (some 5) rfl rfl Tryd.func54 (by kernel_rfl) rfl #[.string a0_0] rfl (by (try simp only [List.map_toArray, List.map_cons, List.map_nil]); first | done | rfl | (simp only [List.length_drop, List.length_take]; rfl)) ?_; (with_reducible refine (impl_AcctOk.calls k a0_0 false _ A2.out).mono ?_); rintro e w' ⟨rfl, ⟨nd, rfl⟩⟩; refine ⟨_, rfl, ?_⟩))
  go_ret
  exact ⟨by first | rfl | (simp [errW_none, errW_some] <;> rfl) | (simp [*, errW_none, errW_some] <;> rfl), impl_LegOk_auHB⟩
 subst c3
 have H1 : (if a0_1 ≥ 1 then (if a0_1 ≤ 3 then (if a0_2 ≥ (-1000) then (if a0_2 ≤ 1000 then (some (a0_2 != 0)) else (some false)) else (some false)) else (some false)) else (some false)) = some r := by rw [if_pos rfl] at H; exact H
 clear H
 have H := H1
 clear H1
 by_cases c4 : a0_1 ≥ 1
 rotate_left
 ·
  rw [if_neg c4] at H
  have c4b0 : decide (1 ≤ a0_1) = false := decide_eq_false c4
  clear c4
  obtain rfl := Option.some.inj H
  go_enter Tryd.func37, Tryd.ntmps37
  go_wp2_with (first | ((with_reducible refine gate_dst (N := 1) rfl ?_); refine box_event ?hg (N := 1) ?hd (cs := #[.string a0_0, .int .i64 a0_1, .int .i64 a0_2]) (t := 45) ?hr ?_; (case hd => rfl); (case hg => rfl); (case hr => first | (go_simp; done) | (go_simp; rfl)); intro gb121 hg w16 hbox hb; have BK121 := Aside0.mk (hbox); have GW121 := Aside0.mk ((by rw [hg]; exact (below_size (impl_LegOk_auHB)) : w.heap.size ≤ gb121)); have GE121 := Aside0.mk ((by rw [hg]; exact (below_size (impl_LegOk_auHB)) : w.heap.size ≤ gb121)); replace HB := Aside0.mk (below_step (impl_LegOk_auHB) hb); clear hb hbox hg; have hcz17_0 : w16.cell? ⟨gb121, 0, none⟩ = some (.string a0_0) := (blk_cell BK121.out 0).trans rfl; have hcz17_1 : w16.cell? ⟨gb121, 1, none⟩ = some (.int .i64 a0_1) := (blk_cell BK121.out 1).trans rfl; have hcz17_2 : w16.cell? ⟨gb121, 2, none⟩ = some (.int .i64 a0_2) := (blk_cell BK121.out 2).trans rfl; have hfz17_0 := blk_frozen BK121.out 0; have hfz17_1 := blk_frozen BK121.out 1; have hfz17_2 := blk_frozen BK121.out 2) | ((with_reducible refine gate_callee (f := 54) rfl ?_); refine goesL_ (some 5) rfl rfl Tryd.func54 (by kernel_rfl) rfl #[.string a0_0] rfl (by (try simp only [List.map_toArray, List.map_cons, List.map_nil]); first | done | rfl | (simp only [List.length_drop, List.length_take]; rfl)) ?_; (with_reducible refine (impl_AcctOk.calls k a0_0 true _ A2.out).mono ?_); rintro e w' ⟨rfl, ⟨nd, rfl⟩⟩; refine ⟨_, rfl, ?_⟩))
  go_ret
  exact ⟨by first | rfl | (simp [errW_none, errW_some] <;> rfl) | (simp [*, errW_none, errW_some] <;> rfl), impl_LegOk_auHB⟩
 rw [if_pos c4] at H
 have c4b0 : decide (1 ≤ a0_1) = true := decide_eq_true c4
 clear c4
 by_cases c5 : a0_1 ≤ 3
 rotate_left
 ·
  rw [if_neg c5] at H
  have c5b0 : decide (a0_1 ≤ 3) = false := decide_eq_false c5
  clear c5
  obtain rfl := Option.some.inj H
  go_enter Tryd.func37, Tryd.ntmps37
  go_wp2_with (first | ((with_reducible refine gate_dst (N := 1) rfl ?_); refine box_event ?hg (N := 1) ?hd (cs := #[.string a0_0, .int .i64 a0_1, .int .i64 a0_2]) (t := 45) ?hr ?_; (case hd => rfl); (case hg => rfl); (case hr => first | (go_simp; done) | (go_simp; rfl)); intro gb121 hg w14 hbox hb; have BK121 := Aside0.mk (hbox); have GW121 := Aside0.mk ((by rw [hg]; exact (below_size (impl_LegOk_auHB)) : w.heap.size ≤ gb121)); have GE121 := Aside0.mk ((by rw [hg]; exact (below_size (impl_LegOk_auHB)) : w.heap.size ≤ gb121)); replace HB := Aside0.mk (below_step (impl_LegOk_auHB) hb); clear hb hbox hg; have hcz15_0 : w14.cell? ⟨gb121, 0, none⟩ = some (.string a0_0) := (blk_cell BK121.out 0).trans rfl; have hcz15_1 : w14.cell? ⟨gb121, 1, none⟩ = some (.int .i64 a0_1) := (blk_cell BK121.out 1).trans rfl; have hcz15_2 : w14.cell? ⟨gb121, 2, none⟩ = some (.int .i64 a0_2) := (blk_cell BK121.out 2).trans rfl; have hfz15_0 := blk_frozen BK121.out 0; have hfz15_1 := blk_frozen BK121.out 1; have hfz15_2 := blk_frozen BK121.out 2) | ((with_reducible refine gate_callee (f := 54) rfl ?_); refine goesL_ (some 5) rfl rfl Tryd.func54 (by kernel_rfl) rfl #[.string a0_0] rfl (by (try simp only [List.map_toArray, List.map_cons, List.map_nil]); first | done | rfl | (simp only [List.length_drop, List.length_take]; rfl)) ?_; (with_reducible refine (impl_AcctOk.calls k a0_0 true _ A2.out).mono ?_); rintro e w' ⟨rfl, ⟨nd, rfl⟩⟩; refine ⟨_, rfl, ?_⟩))
  go_ret
  exact ⟨by first | rfl | (simp [errW_none, errW_some] <;> rfl) | (simp [*, errW_none, errW_some] <;> rfl), impl_LegOk_auHB⟩
 rw [if_pos c5] at H
 have c5b0 : decide (a0_1 ≤ 3) = true := decide_eq_true c5
 clear c5
 by_cases c6 : a0_2 ≥ (-1000)
 rotate_left
 ·
  rw [if_neg c6] at H
  have c6b0 : decide ((-1000) ≤ a0_2) = false := decide_eq_false c6
  clear c6
  obtain rfl := Option.some.inj H
  go_enter Tryd.func37, Tryd.ntmps37
  go_wp2_with (first | ((with_reducible refine gate_dst (N := 1) rfl ?_); refine box_event ?hg (N := 1) ?hd (cs := #[.string a0_0, .int .i64 a0_1, .int .i64 a0_2]) (t := 45) ?hr ?_; (case hd => rfl); (case hg => rfl); (case hr => first | (go_simp; done) | (go_simp; rfl)); intro gb121 hg w12 hbox hb; have BK121 := Aside0.mk (hbox); have GW121 := Aside0.mk ((by rw [hg]; exact (below_size (impl_LegOk_auHB)) : w.heap.size ≤ gb121)); have GE121 := Aside0.mk ((by rw [hg]; exact (below_size (impl_LegOk_auHB)) : w.heap.size ≤ gb121)); replace HB := Aside0.mk (below_step (impl_LegOk_auHB) hb); clear hb hbox hg; have hcz13_0 : w12.cell? ⟨gb121, 0, none⟩ = some (.string a0_0) := (blk_cell BK121.out 0).trans rfl; have hcz13_1 : w12.cell? ⟨gb121, 1, none⟩ = some (.int .i64 a0_1) := (blk_cell BK121.out 1).trans rfl; have hcz13_2 : w12.cell? ⟨gb121, 2, none⟩ = some (.int .i64 a0_2) := (blk_cell BK121.out 2).trans rfl; have hfz13_0 := blk_frozen BK121.out 0; have hfz13_1 := blk_frozen BK121.out 1; have hfz13_2 := blk_frozen BK121.out 2) | ((with_reducible refine gate_callee (f := 54) rfl ?_); refine goesL_ (some 5) rfl rfl Tryd.func54 (by kernel_rfl) rfl #[.string a0_0] rfl (by (try simp only [List.map_toArray, List.map_cons, List.map_nil]); first | done | rfl | (simp only [List.length_drop, List.length_take]; rfl)) ?_; (with_reducible refine (impl_AcctOk.calls k a0_0 true _ A2.out).mono ?_); rintro e w' ⟨rfl, ⟨nd, rfl⟩⟩; refine ⟨_, rfl, ?_⟩))
  go_ret
  exact ⟨by first | rfl | (simp [errW_none, errW_some] <;> rfl) | (simp [*, errW_none, errW_some] <;> rfl), impl_LegOk_auHB⟩
 rw [if_pos c6] at H
 have c6b0 : decide ((-1000) ≤ a0_2) = true := decide_eq_true c6
 clear c6
 by_cases c7 : a0_2 ≤ 1000
 ·
  rw [if_pos c7] at H
  have c7b0 : decide (a0_2 ≤ 1000) = true := decide_eq_true c7
  clear c7
  obtain rfl := Option.some.inj H
  go_enter Tryd.func37, Tryd.ntmps37
  go_wp2_with (first | ((with_reducible refine gate_dst (N := 1) rfl ?_); refine box_event ?hg (N := 1) ?hd (cs := #[.string a0_0, .int .i64 a0_1, .int .i64 a0_2]) (t := 45) ?hr ?_; (case hd => rfl); (case hg => rfl); (case hr => first | (go_simp; done) | (go_simp; rfl)); intro gb121 hg w8 hbox hb; have BK121 := Aside0.mk (hbox); have GW121 := Aside0.mk ((by rw [hg]; exact (below_size (impl_LegOk_auHB)) : w.heap.size ≤ gb121)); have GE121 := Aside0.mk ((by rw [hg]; exact (below_size (impl_LegOk_auHB)) : w.heap.size ≤ gb121)); replace HB := Aside0.mk (below_step (impl_LegOk_auHB) hb); clear hb hbox hg; have hcz9_0 : w8.cell? ⟨gb121, 0, none⟩ = some (.string a0_0) := (blk_cell BK121.out 0).trans rfl; have hcz9_1 : w8.cell? ⟨gb121, 1, none⟩ = some (.int .i64 a0_1) := (blk_cell BK121.out 1).trans rfl; have hcz9_2 : w8.cell? ⟨gb121, 2, none⟩ = some (.int .i64 a0_2) := (blk_cell BK121.out 2).trans rfl; have hfz9_0 := blk_frozen BK121.out 0; have hfz9_1 := blk_frozen BK121.out 1; have hfz9_2 := blk_frozen BK121.out 2) | ((with_reducible refine gate_callee (f := 54) rfl ?_); refine goesL_ (some 5) rfl rfl Tryd.func54 (by kernel_rfl) rfl #[.string a0_0] rfl (by (try simp only [List.map_toArray, List.map_cons, List.map_nil]); first | done | rfl | (simp only [List.length_drop, List.length_take]; rfl)) ?_; (with_reducible refine (impl_AcctOk.calls k a0_0 true _ A2.out).mono ?_); rintro e w' ⟨rfl, ⟨nd, rfl⟩⟩; refine ⟨_, rfl, ?_⟩))
  go_ret
  exact ⟨by first | rfl | (simp [errW_none, errW_some] <;> rfl) | (simp [*, errW_none, errW_some] <;> rfl), impl_LegOk_auHB⟩
 rw [if_neg c7] at H
 have c7b0 : decide (a0_2 ≤ 1000) = false := decide_eq_false c7
 clear c7
 obtain rfl := Option.some.inj H
 go_enter Tryd.func37, Tryd.ntmps37
 go_wp2_with (first | ((with_reducible refine gate_dst (N := 1) rfl ?_); refine box_event ?hg (N := 1) ?hd (cs := #[.string a0_0, .int .i64 a0_1, .int .i64 a0_2]) (t := 45) ?hr ?_; (case hd => rfl); (case hg => rfl); (case hr => first | (go_simp; done) | (go_simp; rfl)); intro gb121 hg w10 hbox hb; have BK121 := Aside0.mk (hbox); have GW121 := Aside0.mk ((by rw [hg]; exact (below_size (impl_LegOk_auHB)) : w.heap.size ≤ gb121)); have GE121 := Aside0.mk ((by rw [hg]; exact (below_size (impl_LegOk_auHB)) : w.heap.size ≤ gb121)); replace HB := Aside0.mk (below_step (impl_LegOk_auHB) hb); clear hb hbox hg; have hcz11_0 : w10.cell? ⟨gb121, 0, none⟩ = some (.string a0_0) := (blk_cell BK121.out 0).trans rfl; have hcz11_1 : w10.cell? ⟨gb121, 1, none⟩ = some (.int .i64 a0_1) := (blk_cell BK121.out 1).trans rfl; have hcz11_2 : w10.cell? ⟨gb121, 2, none⟩ = some (.int .i64 a0_2) := (blk_cell BK121.out 2).trans rfl; have hfz11_0 := blk_frozen BK121.out 0; have hfz11_1 := blk_frozen BK121.out 1; have hfz11_2 := blk_frozen BK121.out 2) | ((with_reducible refine gate_callee (f := 54) rfl ?_); refine goesL_ (some 5) rfl rfl Tryd.func54 (by kernel_rfl) rfl #[.string a0_0] rfl (by (try simp only [List.map_toArray, List.map_cons, List.map_nil]); first | done | rfl | (simp only [List.length_drop, List.length_take]; rfl)) ?_; (with_reducible refine (impl_AcctOk.calls k a0_0 true _ A2.out).mono ?_); rintro e w' ⟨rfl, ⟨nd, rfl⟩⟩; refine ⟨_, rfl, ?_⟩))
 go_ret
 exact ⟨by first | rfl | (simp [errW_none, errW_some] <;> rfl) | (simp [*, errW_none, errW_some] <;> rfl), impl_LegOk_auHB⟩


end Go.Proofs.YtdjohhobmipagaaDoor.QFnPost

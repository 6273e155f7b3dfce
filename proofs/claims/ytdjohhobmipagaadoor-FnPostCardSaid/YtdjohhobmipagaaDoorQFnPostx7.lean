/- What the law FnPost reaches, function by function: what each computes, and that the machine's call comes to it. Laid by a program. -/
import Derived.Test.YtdjohhobmipagaaDoorQFnPostx0
import Derived.Test.YtdjohhobmipagaaDoorQFnPostx2
import Derived.Test.YtdjohhobmipagaaDoorQFnPostx3
import Derived.Test.YtdjohhobmipagaaDoorQFnPostx5
import Derived.Test.YtdjohhobmipagaaDoorQFnPostx6
namespace Go.Proofs.YtdjohhobmipagaaDoor.QFnPost
open Go.RowKit Go.Proofs.YtdjohhobmipagaaDoorW.PrintWords Go.Proofs.YtdjohhobmipagaaDoorW.PrintLast Go.Proofs.YtdjohhobmipagaaDoorW.PrintMore
attribute [local go_sem] max2_int min2_int max_two min_two max_three min_three max_four min_four   -- for this text's walks alone
set_option linter.unusedVariables false
set_option linter.unusedSimpArgs false

/-! ### spec_PostRead: function 11 -/
mutual
def spec_PostRead.j1 : Nat → ByteArray → Bool → Int → List (S45) → Option (Int × (List (S45)) × Bool)
  | 0, _, _, _, _ => none
  | k + 1, x0, x6, x155000, x155001 => if x6 = true then ((spec_PostOk.f k x155000 x155001).bind fun t167 => (if t167 = true then ((spec_PostText.f k x155000 x155001).bind fun t168 => (spec_PostRead.j2 k (t168.toList != x0.toList) x155000 x155001)) else (spec_PostRead.j2 k true x155000 x155001))) else (spec_PostRead.j2 k true x155000 x155001)
def spec_PostRead.j2 : Nat → Bool → Int → List (S45) → Option (Int × (List (S45)) × Bool)
  | 0, _, _, _ => none
  | k + 1, x62, x155000, x155001 => if x62 = true then (some (0, ([] : List (S45)), false)) else (some (x155000, x155001, true))
def spec_PostRead.l0 : Nat → ByteArray → List ByteArray → Bool → Int → Int → List (S45) → Option (Int × (List (S45)) × Bool)
  | 0, _, _, _, _, _, _ => none
  | k + 1, x0, x4, x6, x8, x155000, x155001 => if x8 < (x4.length : Int) then (if x8 ≤ 5 then (if 0 ≤ x8 then ((spec_l1Leg.f k (rdOf ByteArray.empty x4 x8)).bind fun bt156 => (if x6 = true then (if x155001.length < 4398046511104 then (spec_PostRead.l0 k x0 x4 bt156.2.2.2 (wrap64 (x8 + 1)) x155000 (x155001 ++ [(⟨bt156.1, bt156.2.1, bt156.2.2.1⟩ : S45)])) else (none)) else (if x155001.length < 4398046511104 then (spec_PostRead.l0 k x0 x4 false (wrap64 (x8 + 1)) x155000 (x155001 ++ [(⟨bt156.1, bt156.2.1, bt156.2.2.1⟩ : S45)])) else (none)))) else (none)) else (spec_PostRead.j1 k x0 x6 x155000 x155001)) else (spec_PostRead.j1 k x0 x6 x155000 x155001)
end
def spec_PostRead.f (k : Nat) (a0 : ByteArray) : Option (Int × (List (S45)) × Bool) := (spec_l9Cut.f k a0 32).bind fun t148 => (if 0 < (t148.length : Int) then ((spec_l9Num.f k (rdOf ByteArray.empty t148 0)).bind fun bt152 => (spec_PostRead.l0 k a0 t148 bt152.2 1 bt152.1 ([] : List (S45)))) else (none))
theorem spec_PostRead.mono_l : ∀ k, (∀ y0 y1 y2 y3, LeO (spec_PostRead.j1 k y0 y1 y2 y3) (spec_PostRead.j1 (k + 1) y0 y1 y2 y3)) ∧ (∀ y0 y1 y2, LeO (spec_PostRead.j2 k y0 y1 y2) (spec_PostRead.j2 (k + 1) y0 y1 y2)) ∧ (∀ y0 y1 y2 y3 y4 y5, LeO (spec_PostRead.l0 k y0 y1 y2 y3 y4 y5) (spec_PostRead.l0 (k + 1) y0 y1 y2 y3 y4 y5))
  | 0 => ⟨fun _ _ _ _ r h => by simp [spec_PostRead.j1] at h, fun _ _ _ r h => by simp [spec_PostRead.j2] at h, fun _ _ _ _ _ _ r h => by simp [spec_PostRead.l0] at h⟩
  | k + 1 => by
    obtain ⟨ih0, ih1, ih2⟩ := spec_PostRead.mono_l k
    refine ⟨?_, ?_, ?_⟩
    · intro y0 y1 y2 y3
      unfold spec_PostRead.j1
      repeat' first
      | (with_reducible exact ih0 _ _ _ _)
      | (with_reducible exact ih1 _ _ _)
      | (with_reducible exact ih2 _ _ _ _ _ _)
      | (with_reducible exact spec_PostOk.mono _ _ _)
      | (with_reducible exact spec_PostText.mono _ _ _)
      | (with_reducible exact spec_l1Leg.mono _ _)
      | (with_reducible exact spec_l9Cut.mono _ _ _)
      | (with_reducible exact spec_l9Num.mono _ _)
      | (with_reducible exact LeO.refl _)
      | (with_reducible exact LeO.none _)
      | (with_reducible refine LeO.ite ?_ ?_)
      | (with_reducible refine LeO.bind ?_ (fun _ => ?_))
      | exact ih0 _ _ _ _
      | exact ih1 _ _ _
      | exact ih2 _ _ _ _ _ _
      | exact spec_PostOk.mono _ _ _
      | exact spec_PostText.mono _ _ _
      | exact spec_l1Leg.mono _ _
      | exact spec_l9Cut.mono _ _ _
      | exact spec_l9Num.mono _ _
      | exact LeO.none _
      | refine LeO.ite ?_ ?_
      | refine LeO.bind ?_ (fun _ => ?_)
    · intro y0 y1 y2
      unfold spec_PostRead.j2
      repeat' first
      | (with_reducible exact ih0 _ _ _ _)
      | (with_reducible exact ih1 _ _ _)
      | (with_reducible exact ih2 _ _ _ _ _ _)
      | (with_reducible exact spec_PostOk.mono _ _ _)
      | (with_reducible exact spec_PostText.mono _ _ _)
      | (with_reducible exact spec_l1Leg.mono _ _)
      | (with_reducible exact spec_l9Cut.mono _ _ _)
      | (with_reducible exact spec_l9Num.mono _ _)
      | (with_reducible exact LeO.refl _)
      | (with_reducible exact LeO.none _)
      | (with_reducible refine LeO.ite ?_ ?_)
      | (with_reducible refine LeO.bind ?_ (fun _ => ?_))
      | exact ih0 _ _ _ _
      | exact ih1 _ _ _
      | exact ih2 _ _ _ _ _ _
      | exact spec_PostOk.mono _ _ _
      | exact spec_PostText.mono _ _ _
      | exact spec_l1Leg.mono _ _
      | exact spec_l9Cut.mono _ _ _
      | exact spec_l9Num.mono _ _
      | exact LeO.none _
      | refine LeO.ite ?_ ?_
      | refine LeO.bind ?_ (fun _ => ?_)
    · intro y0 y1 y2 y3 y4 y5
      unfold spec_PostRead.l0
      repeat' first
      | (with_reducible exact ih0 _ _ _ _)
      | (with_reducible exact ih1 _ _ _)
      | (with_reducible exact ih2 _ _ _ _ _ _)
      | (with_reducible exact spec_PostOk.mono _ _ _)
      | (with_reducible exact spec_PostText.mono _ _ _)
      | (with_reducible exact spec_l1Leg.mono _ _)
      | (with_reducible exact spec_l9Cut.mono _ _ _)
      | (with_reducible exact spec_l9Num.mono _ _)
      | (with_reducible exact LeO.refl _)
      | (with_reducible exact LeO.none _)
      | (with_reducible refine LeO.ite ?_ ?_)
      | (with_reducible refine LeO.bind ?_ (fun _ => ?_))
      | exact ih0 _ _ _ _
      | exact ih1 _ _ _
      | exact ih2 _ _ _ _ _ _
      | exact spec_PostOk.mono _ _ _
      | exact spec_PostText.mono _ _ _
      | exact spec_l1Leg.mono _ _
      | exact spec_l9Cut.mono _ _ _
      | exact spec_l9Num.mono _ _
      | exact LeO.none _
      | refine LeO.ite ?_ ?_
      | refine LeO.bind ?_ (fun _ => ?_)
theorem spec_PostRead.mono : ∀ a0 k, LeO (spec_PostRead.f k a0) (spec_PostRead.f (k + 1) a0) := by
  intro a0 k
  obtain ⟨ih0, ih1, ih2⟩ := spec_PostRead.mono_l k
  unfold spec_PostRead.f
  repeat' first
      | (with_reducible exact ih0 _ _ _ _)
      | (with_reducible exact ih1 _ _ _)
      | (with_reducible exact ih2 _ _ _ _ _ _)
      | (with_reducible exact spec_PostOk.mono _ _ _)
      | (with_reducible exact spec_PostText.mono _ _ _)
      | (with_reducible exact spec_l1Leg.mono _ _)
      | (with_reducible exact spec_l9Cut.mono _ _ _)
      | (with_reducible exact spec_l9Num.mono _ _)
      | (with_reducible exact LeO.refl _)
      | (with_reducible exact LeO.none _)
      | (with_reducible refine LeO.ite ?_ ?_)
      | (with_reducible refine LeO.bind ?_ (fun _ => ?_))
      | exact ih0 _ _ _ _
      | exact ih1 _ _ _
      | exact ih2 _ _ _ _ _ _
      | exact spec_PostOk.mono _ _ _
      | exact spec_PostText.mono _ _ _
      | exact spec_l1Leg.mono _ _
      | exact spec_l9Cut.mono _ _ _
      | exact spec_l9Num.mono _ _
      | exact LeO.none _
      | refine LeO.ite ?_ ?_
      | refine LeO.bind ?_ (fun _ => ?_)
theorem spec_PostRead_vb {p q : Prop} (h : Aside0 p) (k : p → q := by (intro hz; (with_reducible repeat (first | refine blk_drewN ?_ _ | refine blk_drew ?_ | refine blk_alloc ?_ _)); exact hz)) : q := k h.out
theorem spec_PostRead_auHB {q : Prop} (h : q := by (repeat (first | (with_reducible first | exact HB.out | apply below_alloc | apply pw_below_drewN | apply below_drew1 | refine below_set ?_ GE147.out | refine below_set ?_ GE154.out | refine below_set ?_ GE160.out) | exact HB.out))) : q := h
set_option maxHeartbeats 8000000 in
set_option maxRecDepth 100000 in
theorem spec_PostRead.calls (k : Nat) (a0 : ByteArray) (r1 : Int) (r2 : List (S45)) (r3 : Bool) (w : World) (h : spec_PostRead.f k a0 = some (r1, r2, r3)) :
  Calls Tryd.prog 11 #[.string a0] w fun e w' => ∃ v1_ : Value, e = .returned (.tuple #[.agg #[.int .i64 r1, v1_], .bool r3]) ∧ Kd.R k45 45 w' w.heap.size (fun _ => True) v1_ r2 ∧ Below w.heap.size w w' := by
 have hu29 := Tryd.underlying29
 have hu45 := Tryd.underlying45
 have HB := Aside0.mk (Below.refl w.heap.size w)
 have H : ((spec_l9Cut.f k a0 32).bind fun t148 => (if 0 < (t148.length : Int) then ((spec_l9Num.f k (rdOf ByteArray.empty t148 0)).bind fun bt152 => (spec_PostRead.l0 k a0 t148 bt152.2 1 bt152.1 ([] : List (S45)))) else (none))) = some (r1, r2, r3) := h
 clear h
 replace H := Option.bind_eq_some_iff.mp H
 obtain ⟨t148, A20, H⟩ := H
 replace H : (if 0 < (t148.length : Int) then ((spec_l9Num.f k (rdOf ByteArray.empty t148 0)).bind fun bt152 => (spec_PostRead.l0 k a0 t148 bt152.2 1 bt152.1 ([] : List (S45)))) else (none)) = some (r1, r2, r3) := H
 have A2 := Aside0.mk A20
 clear A20
 by_cases c3 : 0 < (t148.length : Int)
 rotate_left
 ·
  rw [if_neg c3] at H
  exact absurd H (by simp)
 rw [if_pos c3] at H
 have c3b0 : decide (0 < (t148.length : Int)) = true := decide_eq_true c3
 have c3b1 : decide (0 < t148.length) = true := decide_eq_true (by omega)
 clear c3
 replace H := Option.bind_eq_some_iff.mp H
 obtain ⟨⟨t152, t153⟩, A40, H⟩ := H
 replace H : (spec_PostRead.l0 k a0 t148 t153 1 t152 ([] : List (S45))) = some (r1, r2, r3) := H
 have A4 := Aside0.mk A40
 clear A40
 have HC5 := Aside0.mk H
 clear H
 go_enter Tryd.func11, Tryd.ntmps11
 go_upto_block 0 with (first | ((with_reducible refine gate_dst (N := 2) rfl ?_); refine box_event ?hg (N := 2) ?hd (cs := #[.int .i64 0, .slice none 0 0]) (t := 29) ?hr ?_; (case hd => rfl); (case hg => rfl); (case hr => first | (go_simp; done) | (go_simp; rfl)); intro gb147 hg w6 hbox hb; have BK147 := Aside0.mk (hbox); have GW147 := Aside0.mk ((by rw [hg]; exact (below_size (spec_PostRead_auHB)) : w.heap.size ≤ gb147)); have GE147 := Aside0.mk ((by rw [hg]; exact (below_size (spec_PostRead_auHB)) : w.heap.size ≤ gb147)); replace HB := Aside0.mk (below_step (spec_PostRead_auHB) hb); clear hb hbox hg) | ((with_reducible refine gate_callee (f := 28) rfl ?_); refine goesL_ (some 12) rfl rfl Tryd.func28 (by kernel_rfl) rfl #[.string a0, .int .u8 32] rfl (by (try simp only [List.map_toArray, List.map_cons, List.map_nil]); first | done | rfl | (simp only [List.length_drop, List.length_take]; rfl)) ?_; (with_reducible refine (spec_l9Cut.calls k a0 32 t148 _ A2.out).mono ?_); rintro e w7 ⟨v149, rfl, ho0, hb⟩; refine ⟨_, rfl, ?_⟩; have HO150 := Aside0.mk (Kd.R_lower ho0 (below_size (spec_PostRead_auHB))); replace BK147 := Aside0.mk (blk_below (g := gb147) (o := .cells #[.int .i64 0, .slice none 0 0] 29 (0, 0)) (spec_PostRead_vb BK147) hb); replace HB := Aside0.mk (below_step (spec_PostRead_auHB) hb); (try clear hb); (try clear hb2); (try clear hk); (try clear hi); (try clear ho0); obtain ⟨Ao8, co8, eo8⟩ := Kd.R_slice HO150.out; subst eo8; have p151 : 0 ≤ (0 : Int) := (by omega); have q151 : 0 < (t148.length : Int) := of_decide_eq_true (by first | (with_reducible assumption) | assumption); obtain ⟨ad151, e151, hx151_0⟩ := Kd.at_string (Kd.R_reads' HO150.out).2.2 0 p151 q151; cases e151; have qi151 : (0 < t148.length) = True := eq_true (by omega); (try rw [show ((0 : Int)).toNat = 0 from rfl] at hx151_0); (try rw [Addr.add_zero'] at hx151_0); replace p151 := eq_true p151; replace q151 := eq_true q151) | ((with_reducible refine gate_callee (f := 29) rfl ?_); refine goesL_ (some 17) rfl rfl Tryd.func29 (by kernel_rfl) rfl #[.string (rdOf ByteArray.empty t148 0)] rfl (by (try simp only [List.map_toArray, List.map_cons, List.map_nil]); first | done | rfl | (simp only [List.length_drop, List.length_take]; rfl)) ?_; (with_reducible refine (spec_l9Num.calls k (rdOf ByteArray.empty t148 0) t152 t153 _ A4.out).mono ?_); rintro e w' ⟨rfl, ⟨nd, rfl⟩⟩; refine ⟨_, rfl, ?_⟩; (try (rw [drewN_self w7]; generalize hq_ : World.drewN w7 _ = w7; have n0_ : Aside0 (Kd.R Kd.string 9 w7 w.heap.size (fun _ => True) (.slice (some ad151) t148.length co8) t148) := ⟨by rw [← hq_]; exact (lo_ HO150)⟩; have n1_ : Aside0 (w7.heap[gb147]? = some (.cells #[.int .i64 0, .slice none 0 0] 29 (0, 0))) := ⟨by rw [← hq_]; exact (spec_PostRead_vb BK147)⟩; have n2_ : Aside0 (Below w.heap.size w w7) := ⟨by rw [← hq_]; exact (spec_PostRead_auHB)⟩; clear HO150 BK147 HB hq_; have HO150 := n0_; have BK147 := n1_; have HB := n2_; clear n0_ n1_ n2_))) | ((with_reducible refine gate_dst (N := 7) rfl ?_); refine box_event ?hg (N := 7) ?hd (cs := #[.int .i64 0, .slice none 0 0]) (t := 29) ?hr ?_; (case hd => rfl); (case hg => rfl); (case hr => first | (go_simp; done) | (go_simp; rfl)); intro gb154 hg w9 hbox hb; replace HO150 := Aside0.mk (Kd.R_below (lo_ HO150) hb); have BK154 := Aside0.mk (hbox); have GW154 := Aside0.mk ((by rw [hg]; exact (below_size (spec_PostRead_auHB)) : w.heap.size ≤ gb154)); have GE154 := Aside0.mk ((by rw [hg]; exact (below_size (spec_PostRead_auHB)) : w.heap.size ≤ gb154)); replace HB := Aside0.mk (below_step (spec_PostRead_auHB) hb); have NB147_154 := Aside0.mk ((by rw [hg]; exact Nat.ne_of_lt (blk_lt (g := gb147) (o := .cells #[.int .i64 0, .slice none 0 0] 29 (0, 0)) (spec_PostRead_vb BK147)) : gb147 ≠ gb154)); have NB154_147 := Aside0.mk ((by rw [hg]; exact Nat.ne_of_gt (blk_lt (g := gb147) (o := .cells #[.int .i64 0, .slice none 0 0] 29 (0, 0)) (spec_PostRead_vb BK147)) : gb154 ≠ gb147)); replace BK147 := Aside0.mk (blk_below (g := gb147) (o := .cells #[.int .i64 0, .slice none 0 0] 29 (0, 0)) (spec_PostRead_vb BK147) hb); clear hb hbox hg; have hnb10 := NB154_147.out; have hnc10 := NB147_154.out; have hcz11_0 : w9.cell? ⟨gb154, 0, none⟩ = some (.int .i64 0) := (blk_cell BK154.out 0).trans rfl; have hcz11_1 : w9.cell? ⟨gb154, 1, none⟩ = some (.slice none 0 0) := (blk_cell BK154.out 1).trans rfl; have hfz11_0 := blk_frozen BK154.out 0; have hfz11_1 := blk_frozen BK154.out 1))
 (try simp only [Act.put, List.setIfInBounds_toArray, List.set_cons_zero, List.set_cons_succ])
 go_cut [6] (fun v6 wc => ∃ (kq : Nat) (x6_4 : Bool) (x155001_4 : List (S45)) (u155001 : Value), v6 = .bool x6_4 ∧ Aside0 (spec_PostRead.j1 kq a0 x6_4 t152 x155001_4 = some (r1, r2, r3)) ∧ Aside0 (kq ≤ k) ∧ Aside0 (Kd.R k45 45 wc w.heap.size (fun _ => True) u155001 x155001_4) ∧ Aside0 (wc.heap[gb147]? = some (.cells #[.int .i64 0, (.slice none 0 0)] 29 (0, 0))) ∧ Aside0 (wc.heap[gb154]? = some (.cells #[.int .i64 t152, u155001] 29 (0, 0))) ∧ Aside0 (Below w.heap.size w wc))
 case first =>
  have H := HC5.out
  clear HC5
  have H' := Aside0.mk H
  clear H
  go_wp2
  go_loopg [6, 8] k (fun kq v6 v8 w' => ∃ (x6_1 : Bool) (x8_1 : Int) (x155001_1 : List (S45)) (u155001 : Value), v6 = .bool x6_1 ∧ v8 = .int .i64 x8_1 ∧ Aside0 (spec_PostRead.l0 kq a0 t148 x6_1 x8_1 t152 x155001_1 = some (r1, r2, r3)) ∧ Aside0 (kq ≤ k) ∧ Aside0 (Kd.R Kd.string 9 w' w.heap.size (fun _ => True) (.slice (some ad151) t148.length co8) t148) ∧ Aside0 (Kd.R k45 45 w' w.heap.size (fun _ => True) u155001 x155001_1) ∧ Aside0 (w'.heap[gb147]? = some (.cells #[.int .i64 0, (.slice none 0 0)] 29 (0, 0))) ∧ Aside0 (w'.heap[gb154]? = some (.cells #[.int .i64 t152, u155001] 29 (0, 0))) ∧ Aside0 (Below w.heap.size w w'))
  case atStart => exact ⟨(t153), (1), (([] : List (S45))), (.slice none 0 0), (by first | rfl | (simp; done) | (simp [*]; done)), (by first | rfl | (simp; done) | (simp [*]; done)), H', ⟨Nat.le_refl _⟩, ⟨by (with_reducible repeat (first | apply Kd.R_alloc | apply Kd.R_drewN | apply Kd.R_drew)); exact Kd.R_mono (Kd.R_far (p := ⟨gb154, 1, none⟩) (Kd.R_far (p := ⟨gb154, 0, none⟩) (Kd.R_types HO150.out BK154.out (by decide)) (fun _ hk => hk.2) (.int .i64 t152)) (fun _ hk => hk.2) (.slice none 0 0)) (fun _ hk => trivial)⟩, ⟨by first | exact Kd.R_nil _ _ _ _ _ | exact Kd.N_nil _ _ _ _ _ | exact Kd.V_nil _ _ _ _ _ | exact Kd.Q_nil _ _ _ _ _ | exact Kd.S_nil _ _ _ _ _⟩, ⟨by (with_reducible repeat (first | refine blk_drewN ?_ _ | refine blk_drew ?_ | refine blk_alloc ?_ _)); refine blk_far ?_ NB147_154.out _; (with_reducible repeat (first | refine blk_drewN ?_ _ | refine blk_drew ?_ | refine blk_alloc ?_ _)); refine blk_far ?_ NB147_154.out _; (with_reducible repeat (first | refine blk_drewN ?_ _ | refine blk_drew ?_ | refine blk_alloc ?_ _)); exact BK147.out⟩, ⟨by (with_reducible repeat (first | refine blk_drewN ?_ _ | refine blk_drew ?_ | refine blk_alloc ?_ _)); refine blk_put (cs := #[.int .i64 t152, .slice none 0 0]) ?_ 1 _ rfl; (with_reducible repeat (first | refine blk_drewN ?_ _ | refine blk_drew ?_ | refine blk_alloc ?_ _)); refine blk_put (cs := #[.int .i64 0, .slice none 0 0]) ?_ 0 _ rfl; (with_reducible repeat (first | refine blk_drewN ?_ _ | refine blk_drew ?_ | refine blk_alloc ?_ _)); exact BK154.out⟩, ⟨spec_PostRead_auHB⟩⟩
  case round =>
   clear H'
   try clear c1
   try clear p1
   try clear q1
   try clear hx1
   try clear qi1
   try clear c2
   try clear p2
   try clear c3
   try clear c3b0
   try clear c3b1
   try clear c10
   try clear c11
   try clear hcz11_0
   try clear hcz11_1
   try clear hfz11_0
   try clear hfz11_1
   try clear hx151_0
   try clear p151
   try clear q151
   obtain ⟨x6_1, x8_1, x155001_1, u155001, rfl, rfl, HA, HK1, HO_4, HO_155001, BK147, BK154, HB⟩ := hrel
   cases gk with
   | zero => exact absurd HA.out (by simp [spec_PostRead.l0])
   | succ k1 =>
    have H := HA.out
    clear HA
    simp only [spec_PostRead.l0] at H
    by_cases c12 : x8_1 < (t148.length : Int)
    rotate_left
    ·
     rw [if_neg c12] at H
     have c12b0 : decide (x8_1 < (t148.length : Int)) = false := decide_eq_false c12
     clear c12
     (first | rw [c12b0] | (simp only [i64_w, i32_w]; rw [c12b0]) | skip)
     have H' := Aside0.mk H
     clear H
     go_wp2
     go_meet
     case rel => exact ⟨_, (x6_1), (x155001_1), (u155001), (by first | rfl | (simp; done) | (simp [*]; done)), H', ⟨by have := HK1.out; first | omega | exact Nat.le_refl _⟩, ⟨by (with_reducible repeat (first | apply Kd.R_alloc | apply Kd.R_drewN | apply Kd.R_drew)); exact HO_155001.out⟩, ⟨by (with_reducible repeat (first | refine blk_drewN ?_ _ | refine blk_drew ?_ | refine blk_alloc ?_ _)); exact BK147.out⟩, ⟨by (with_reducible repeat (first | refine blk_drewN ?_ _ | refine blk_drew ?_ | refine blk_alloc ?_ _)); exact BK154.out⟩, ⟨spec_PostRead_auHB⟩⟩
    rw [if_pos c12] at H
    have c12b0 : decide (x8_1 < (t148.length : Int)) = true := decide_eq_true c12
    clear c12
    (first | rw [c12b0] | (simp only [i64_w, i32_w]; rw [c12b0]) | skip)
    by_cases c13 : x8_1 ≤ 5
    rotate_left
    ·
     rw [if_neg c13] at H
     have c13b0 : decide (x8_1 ≤ 5) = false := decide_eq_false c13
     clear c13
     have H' := Aside0.mk H
     clear H
     go_wp2
     go_meet
     case rel => exact ⟨_, (x6_1), (x155001_1), (u155001), (by first | rfl | (simp; done) | (simp [*]; done)), H', ⟨by have := HK1.out; first | omega | exact Nat.le_refl _⟩, ⟨by (with_reducible repeat (first | apply Kd.R_alloc | apply Kd.R_drewN | apply Kd.R_drew)); exact HO_155001.out⟩, ⟨by (with_reducible repeat (first | refine blk_drewN ?_ _ | refine blk_drew ?_ | refine blk_alloc ?_ _)); exact BK147.out⟩, ⟨by (with_reducible repeat (first | refine blk_drewN ?_ _ | refine blk_drew ?_ | refine blk_alloc ?_ _)); exact BK154.out⟩, ⟨spec_PostRead_auHB⟩⟩
    rw [if_pos c13] at H
    have c13b0 : decide (x8_1 ≤ 5) = true := decide_eq_true c13
    clear c13
    by_cases c14 : 0 ≤ x8_1
    rotate_left
    ·
     rw [if_neg c14] at H
     exact absurd H (by simp)
    rw [if_pos c14] at H
    have c14b0 : decide (0 ≤ x8_1) = true := decide_eq_true c14
    clear c14
    replace H := Option.bind_eq_some_iff.mp H
    obtain ⟨⟨t156, t157, t158, t159⟩, A150, H⟩ := H
    replace H : (if x6_1 = true then (if x155001_1.length < 4398046511104 then (spec_PostRead.l0 k1 a0 t148 t159 (wrap64 (x8_1 + 1)) t152 (x155001_1 ++ [(⟨t156, t157, t158⟩ : S45)])) else (none)) else (if x155001_1.length < 4398046511104 then (spec_PostRead.l0 k1 a0 t148 false (wrap64 (x8_1 + 1)) t152 (x155001_1 ++ [(⟨t156, t157, t158⟩ : S45)])) else (none))) = some (r1, r2, r3) := H
    have A15 := Aside0.mk A150
    clear A150
    by_cases c16 : x6_1 = true
    ·
     subst c16
     have H1 : (if x155001_1.length < 4398046511104 then (spec_PostRead.l0 k1 a0 t148 t159 (wrap64 (x8_1 + 1)) t152 (x155001_1 ++ [(⟨t156, t157, t158⟩ : S45)])) else (none)) = some (r1, r2, r3) := by rw [if_pos rfl] at H; exact H
     clear H
     have H := H1
     clear H1
     by_cases c17 : x155001_1.length < 4398046511104
     rotate_left
     ·
      rw [if_neg c17] at H
      exact absurd H (by simp)
     rw [if_pos c17] at H
     have LMc17 := Aside0.mk c17
     clear c17
     obtain ⟨y161, hy161⟩ : ∃ y_ : List (S45), y_ = (x155001_1 ++ [(⟨t156, t157, t158⟩ : S45)]) := ⟨_, rfl⟩
     replace H : (spec_PostRead.l0 k1 a0 t148 t159 (wrap64 (x8_1 + 1)) t152 y161) = some (r1, r2, r3) := by first | (rw [hy161]; with_reducible exact H) | (have H2_ := (Option.bind_some _ _).symm.trans H; rw [hy161]; with_reducible exact H2_) | (have H2_ := (Option.bind_some _ _).symm.trans H; with_reducible exact H2_) | with_reducible exact H | (rw [hy161]; exact H) | exact H
     have Ny161 := Aside0.mk hy161
     clear hy161
     have H' := Aside0.mk H
     clear H
     have p155 : 0 ≤ (x8_1 : Int) := of_decide_eq_true (by first | (with_reducible assumption) | assumption)
     have q155 : x8_1 < (t148.length : Int) := of_decide_eq_true (by first | (with_reducible assumption) | assumption)
     obtain ⟨ad155, e155, hx155_0⟩ := Kd.at_string (Kd.R_reads' HO_4.out).2.2 x8_1 p155 q155
     obtain rfl : ad151 = ad155 := (by injection e155)
     replace p155 := eq_true p155
     replace q155 := eq_true q155
     go_wp2_with (first | ((with_reducible refine gate_callee (f := 30) rfl ?_); refine goesL_ (some 37) rfl rfl Tryd.func30 (by kernel_rfl) rfl #[.string (rdOf ByteArray.empty t148 x8_1)] rfl (by (try simp only [List.map_toArray, List.map_cons, List.map_nil]); first | done | rfl | (simp only [List.length_drop, List.length_take]; rfl)) ?_; (with_reducible refine (spec_l1Leg.calls k1 (rdOf ByteArray.empty t148 x8_1) t156 t157 t158 t159 _ A15.out).mono ?_); rintro e w18 ⟨rfl, hb⟩; refine ⟨_, rfl, ?_⟩; replace HO_4 := Aside0.mk (Kd.R_below (lo_ HO_4) hb); replace HO_155001 := Aside0.mk (Kd.R_below (lo_ HO_155001) hb); replace BK147 := Aside0.mk (blk_below (g := gb147) (o := .cells #[.int .i64 0, .slice none 0 0] 29 (0, 0)) (spec_PostRead_vb BK147) hb); replace BK154 := Aside0.mk (blk_below (g := gb154) (o := .cells #[.int .i64 t152, u155001] 29 (0, 0)) (spec_PostRead_vb BK154) hb); replace HB := Aside0.mk (below_step (spec_PostRead_auHB) hb); (try clear hb); (try clear hb2); (try clear hk); (try clear hi)) | ((with_reducible refine gate_dst (N := 9) rfl ?_); refine box_event ?hg (N := 9) ?hd (cs := #[.string (⟨#[]⟩ : ByteArray), .int .i64 0, .int .i64 0]) (t := 45) ?hr ?_; (case hd => rfl); (case hg => rfl); (case hr => first | (go_simp; done) | (go_simp; rfl)); intro gb160 hg w19 hbox hb; replace HO_4 := Aside0.mk (Kd.R_below (lo_ HO_4) hb); replace HO_155001 := Aside0.mk (Kd.R_below (Kd.R_elderB (lo_ HO_155001) gb160 (Nat.le_of_eq hg.symm)) hb); have BK160 := Aside0.mk (hbox); have GW160 := Aside0.mk ((by rw [hg]; exact (below_size (spec_PostRead_auHB)) : w.heap.size ≤ gb160)); have GE160 := Aside0.mk ((by rw [hg]; exact (below_size (spec_PostRead_auHB)) : w.heap.size ≤ gb160)); replace HB := Aside0.mk (below_step (spec_PostRead_auHB) hb); have NB147_160 := Aside0.mk ((by rw [hg]; exact Nat.ne_of_lt (blk_lt (g := gb147) (o := .cells #[.int .i64 0, .slice none 0 0] 29 (0, 0)) (spec_PostRead_vb BK147)) : gb147 ≠ gb160)); have NB160_147 := Aside0.mk ((by rw [hg]; exact Nat.ne_of_gt (blk_lt (g := gb147) (o := .cells #[.int .i64 0, .slice none 0 0] 29 (0, 0)) (spec_PostRead_vb BK147)) : gb160 ≠ gb147)); replace BK147 := Aside0.mk (blk_below (g := gb147) (o := .cells #[.int .i64 0, .slice none 0 0] 29 (0, 0)) (spec_PostRead_vb BK147) hb); have NB154_160 := Aside0.mk ((by rw [hg]; exact Nat.ne_of_lt (blk_lt (g := gb154) (o := .cells #[.int .i64 t152, u155001] 29 (0, 0)) (spec_PostRead_vb BK154)) : gb154 ≠ gb160)); have NB160_154 := Aside0.mk ((by rw [hg]; exact Nat.ne_of_gt (blk_lt (g := gb154) (o := .cells #[.int .i64 t152, u155001] 29 (0, 0)) (spec_PostRead_vb BK154)) : gb160 ≠ gb154)); replace BK154 := Aside0.mk (blk_below (g := gb154) (o := .cells #[.int .i64 t152, u155001] 29 (0, 0)) (spec_PostRead_vb BK154) hb); clear hb hbox hg; have hnb20 := NB160_147.out; have hnc20 := NB147_160.out; have hnb21 := NB160_154.out; have hnc21 := NB154_160.out; have hcz22_0 : w19.cell? ⟨gb160, 0, none⟩ = some (.string (⟨#[]⟩ : ByteArray)) := (blk_cell BK160.out 0).trans rfl; have hcz22_1 : w19.cell? ⟨gb160, 1, none⟩ = some (.int .i64 0) := (blk_cell BK160.out 1).trans rfl; have hcz22_2 : w19.cell? ⟨gb160, 2, none⟩ = some (.int .i64 0) := (blk_cell BK160.out 2).trans rfl; have hfz22_0 := blk_frozen BK160.out 0; have hfz22_1 := blk_frozen BK160.out 1; have hfz22_2 := blk_frozen BK160.out 2; have hnb23 := NB154_147.out; have hnc23 := NB147_154.out; have hcz24_0 : w19.cell? ⟨gb154, 0, none⟩ = some (.int .i64 t152) := (blk_cell BK154.out 0).trans rfl; have hcz24_1 : w19.cell? ⟨gb154, 1, none⟩ = some (u155001) := (blk_cell BK154.out 1).trans rfl; have hfz24_0 := blk_frozen BK154.out 0; have hfz24_1 := blk_frozen BK154.out 1) | ((with_reducible refine gate_builtin (b := .append) (xs := #[.tmp 45, .tmp 47]) rfl ?_); at_builtin; refine Kd.R_append k45 (w0 := w) w.heap.size rfl (.tmp 45) (.tmp 47) 27 45 (.agg #[(.string ⟨#[]⟩), (.int .i64 0), (.int .i64 0)]) 32 rfl Tryd.underlying27 info45 rfl (by decide) (by omega) u155001 x155001_1 (⟨t156, t157, t158⟩ : S45) [.string t156, .int .i64 t157, .int .i64 t158] (fun k_ => k_ ≠ gb160) (fun _ => False) rfl (by first | (go_simp; done) | (go_simp; rfl)) ?aP (fun _ hk => hk.elim) ?aF ?aO ?aB ?aS ?aL ?_; (case aP => exact k45_mkM _ _ _ (⟨t156, t157, t158⟩ : S45)); (case aB => exact (spec_PostRead_auHB)); (case aF => exact (fun k_ hk => Kd.freshB (g := gb160) (o := .cells #[.string t156, .int .i64 t157, .int .i64 t158] 45 (0, 0)) (by (with_reducible repeat (first | refine blk_drewN ?_ _ | refine blk_drew ?_ | refine blk_alloc ?_ _)); refine blk_put (cs := #[.string t156, .int .i64 t157, .int .i64 0]) ?_ 2 _ rfl; (with_reducible repeat (first | refine blk_drewN ?_ _ | refine blk_drew ?_ | refine blk_alloc ?_ _)); refine blk_put (cs := #[.string t156, .int .i64 0, .int .i64 0]) ?_ 1 _ rfl; (with_reducible repeat (first | refine blk_drewN ?_ _ | refine blk_drew ?_ | refine blk_alloc ?_ _)); refine blk_put (cs := #[.string (⟨#[]⟩ : ByteArray), .int .i64 0, .int .i64 0]) ?_ 0 _ rfl; (with_reducible repeat (first | refine blk_drewN ?_ _ | refine blk_drew ?_ | refine blk_alloc ?_ _)); exact BK160.out) k_ hk)); (case aO => exact (by (with_reducible repeat (first | apply Kd.R_alloc | apply Kd.R_drewN | apply Kd.R_drew)); exact Kd.R_mono (Kd.R_far (p := ⟨gb160, 2, none⟩) (Kd.R_far (p := ⟨gb160, 1, none⟩) (Kd.R_far (p := ⟨gb160, 0, none⟩) (Kd.R_mono HO_155001.out (fun k_ hk => (⟨hk, hk.2⟩ : _ ∧ k_ ≠ gb160))) (fun _ hk => hk.2) (.string t156)) (fun _ hk => hk.2) (.int .i64 t157)) (fun _ hk => hk.2) (.int .i64 t158)) (fun _ hk => hk.1.2))); (case aS => exact (below_size (spec_PostRead_auHB))); (case aL => have := LMc17.out; omega); intro v162 w25 ho hb hg hat; rw [← Ny161.out] at ho; have n0_ := Aside0.mk (Kd.R_over' (by (with_reducible repeat (first | apply Kd.R_alloc | apply Kd.R_drewN | apply Kd.R_drew)); exact (Kd.R_mono (Kd.R_far (p := ⟨gb160, 2, none⟩) (Kd.R_far (p := ⟨gb160, 1, none⟩) (Kd.R_far (p := ⟨gb160, 0, none⟩) (Kd.R_types HO_4.out BK160.out (by decide)) (fun _ hk => hk.2) (.string t156)) (fun _ hk => hk.2) (.int .i64 t157)) (fun _ hk => hk.2) (.int .i64 t158)) (fun _ h_ => h_.1))) (Kd.R_typed (by (with_reducible repeat (first | apply Kd.R_alloc | apply Kd.R_drewN | apply Kd.R_drew)); exact (Kd.R_mono (Kd.R_far (p := ⟨gb160, 2, none⟩) (Kd.R_far (p := ⟨gb160, 1, none⟩) (Kd.R_far (p := ⟨gb160, 0, none⟩) (Kd.R_mono HO_155001.out (fun k_ hk => (⟨hk, hk.2⟩ : _ ∧ k_ ≠ gb160))) (fun _ hk => hk.2) (.string t156)) (fun _ hk => hk.2) (.int .i64 t157)) (fun _ hk => hk.2) (.int .i64 t158)) (fun _ h_ => h_.1)))) (by decide) hg); have n1_ := Aside0.mk (blk_grown (g := gb147) (o := .cells #[.int .i64 0, .slice none 0 0] 29 (0, 0)) (by (with_reducible repeat (first | refine blk_drewN ?_ _ | refine blk_drew ?_ | refine blk_alloc ?_ _)); refine blk_far ?_ NB147_160.out _; (with_reducible repeat (first | refine blk_drewN ?_ _ | refine blk_drew ?_ | refine blk_alloc ?_ _)); refine blk_far ?_ NB147_160.out _; (with_reducible repeat (first | refine blk_drewN ?_ _ | refine blk_drew ?_ | refine blk_alloc ?_ _)); refine blk_far ?_ NB147_160.out _; (with_reducible repeat (first | refine blk_drewN ?_ _ | refine blk_drew ?_ | refine blk_alloc ?_ _)); exact BK147.out) hg (Kd.R_ne HO_155001.out BK147.out (by decide))); have n2_ := Aside0.mk (blk_grown (g := gb154) (o := .cells #[.int .i64 t152, u155001] 29 (0, 0)) (by (with_reducible repeat (first | refine blk_drewN ?_ _ | refine blk_drew ?_ | refine blk_alloc ?_ _)); refine blk_far ?_ NB154_160.out _; (with_reducible repeat (first | refine blk_drewN ?_ _ | refine blk_drew ?_ | refine blk_alloc ?_ _)); refine blk_far ?_ NB154_160.out _; (with_reducible repeat (first | refine blk_drewN ?_ _ | refine blk_drew ?_ | refine blk_alloc ?_ _)); refine blk_far ?_ NB154_160.out _; (with_reducible repeat (first | refine blk_drewN ?_ _ | refine blk_drew ?_ | refine blk_alloc ?_ _)); exact BK154.out) hg (Kd.R_ne HO_155001.out BK154.out (by decide))); have n3_ := Aside0.mk (blk_grown (g := gb160) (o := .cells #[.string t156, .int .i64 t157, .int .i64 t158] 45 (0, 0)) (by (with_reducible repeat (first | refine blk_drewN ?_ _ | refine blk_drew ?_ | refine blk_alloc ?_ _)); refine blk_put (cs := #[.string t156, .int .i64 t157, .int .i64 0]) ?_ 2 _ rfl; (with_reducible repeat (first | refine blk_drewN ?_ _ | refine blk_drew ?_ | refine blk_alloc ?_ _)); refine blk_put (cs := #[.string t156, .int .i64 0, .int .i64 0]) ?_ 1 _ rfl; (with_reducible repeat (first | refine blk_drewN ?_ _ | refine blk_drew ?_ | refine blk_alloc ?_ _)); refine blk_put (cs := #[.string (⟨#[]⟩ : ByteArray), .int .i64 0, .int .i64 0]) ?_ 0 _ rfl; (with_reducible repeat (first | refine blk_drewN ?_ _ | refine blk_drew ?_ | refine blk_alloc ?_ _)); exact BK160.out) hg (Kd.R_away HO_155001.out (fun _ hk => hk.2))); have n4_ := Aside0.mk (hb); have n5_ := Aside0.mk (ho); clear HO_4; clear BK147; clear BK154; clear BK160; clear HB; clear HO_155001; have HO_4 := n0_; have BK147 := n1_; have BK154 := n2_; have BK160 := n3_; have HB := n4_; have HO163 := n5_; clear n0_ n1_ n2_ n3_ n4_ n5_; clear ho hb hg hat; obtain ⟨Ao26, co26, eo26⟩ := Kd.R_slice HO163.out; subst eo26; have hcz27_0 : w25.cell? ⟨gb154, 0, none⟩ = some (.int .i64 t152) := (blk_cell BK154.out 0).trans rfl; have hcz27_1 : w25.cell? ⟨gb154, 1, none⟩ = some (u155001) := (blk_cell BK154.out 1).trans rfl; have hfz27_0 := blk_frozen BK154.out 0; have hfz27_1 := blk_frozen BK154.out 1))
     go_roundg k1
     case measure => have := HK1.out; omega
     case rel => exact ⟨(t159), (wrap64 (x8_1 + 1)), (y161), (.slice Ao26 y161.length co26), (by first | rfl | (simp; done) | (simp [*]; done)), (by first | rfl | (simp; done) | (simp [*]; done)), H', ⟨by have := HK1.out; omega⟩, ⟨by (with_reducible repeat (first | apply Kd.R_alloc | apply Kd.R_drewN | apply Kd.R_drew)); exact Kd.R_mono (Kd.R_far (p := ⟨gb154, 1, none⟩) (Kd.R_types HO_4.out BK154.out (by decide)) (fun _ hk => hk.2) (.slice Ao26 y161.length co26)) (fun _ hk => trivial)⟩, ⟨by (with_reducible repeat (first | apply Kd.R_alloc | apply Kd.R_drewN | apply Kd.R_drew)); exact Kd.R_mono (Kd.R_far (p := ⟨gb154, 1, none⟩) (Kd.R_types HO163.out BK154.out (by decide)) (fun _ hk => hk.2) (.slice Ao26 y161.length co26)) (fun _ hk => trivial)⟩, ⟨by (with_reducible repeat (first | refine blk_drewN ?_ _ | refine blk_drew ?_ | refine blk_alloc ?_ _)); refine blk_far ?_ NB147_154.out _; (with_reducible repeat (first | refine blk_drewN ?_ _ | refine blk_drew ?_ | refine blk_alloc ?_ _)); exact BK147.out⟩, ⟨by (with_reducible repeat (first | refine blk_drewN ?_ _ | refine blk_drew ?_ | refine blk_alloc ?_ _)); refine blk_put (cs := #[.int .i64 t152, u155001]) ?_ 1 _ rfl; (with_reducible repeat (first | refine blk_drewN ?_ _ | refine blk_drew ?_ | refine blk_alloc ?_ _)); exact BK154.out⟩, ⟨spec_PostRead_auHB⟩⟩
    replace c16 := Bool.eq_false_iff.mpr c16
    subst c16
    have H1 : (if x155001_1.length < 4398046511104 then (spec_PostRead.l0 k1 a0 t148 false (wrap64 (x8_1 + 1)) t152 (x155001_1 ++ [(⟨t156, t157, t158⟩ : S45)])) else (none)) = some (r1, r2, r3) := by rw [if_neg (show ¬ (false = true) by decide)] at H; exact H
    clear H
    have H := H1
    clear H1
    by_cases c28 : x155001_1.length < 4398046511104
    rotate_left
    ·
     rw [if_neg c28] at H
     exact absurd H (by simp)
    rw [if_pos c28] at H
    have LMc28 := Aside0.mk c28
    clear c28
    obtain ⟨y164, hy164⟩ : ∃ y_ : List (S45), y_ = (x155001_1 ++ [(⟨t156, t157, t158⟩ : S45)]) := ⟨_, rfl⟩
    replace H : (spec_PostRead.l0 k1 a0 t148 false (wrap64 (x8_1 + 1)) t152 y164) = some (r1, r2, r3) := by first | (rw [hy164]; with_reducible exact H) | (have H2_ := (Option.bind_some _ _).symm.trans H; rw [hy164]; with_reducible exact H2_) | (have H2_ := (Option.bind_some _ _).symm.trans H; with_reducible exact H2_) | with_reducible exact H | (rw [hy164]; exact H) | exact H
    have Ny164 := Aside0.mk hy164
    clear hy164
    have H' := Aside0.mk H
    clear H
    have p155 : 0 ≤ (x8_1 : Int) := of_decide_eq_true (by first | (with_reducible assumption) | assumption)
    have q155 : x8_1 < (t148.length : Int) := of_decide_eq_true (by first | (with_reducible assumption) | assumption)
    obtain ⟨ad155, e155, hx155_0⟩ := Kd.at_string (Kd.R_reads' HO_4.out).2.2 x8_1 p155 q155
    obtain rfl : ad151 = ad155 := (by injection e155)
    replace p155 := eq_true p155
    replace q155 := eq_true q155
    go_wp2_with (first | ((with_reducible refine gate_callee (f := 30) rfl ?_); refine goesL_ (some 37) rfl rfl Tryd.func30 (by kernel_rfl) rfl #[.string (rdOf ByteArray.empty t148 x8_1)] rfl (by (try simp only [List.map_toArray, List.map_cons, List.map_nil]); first | done | rfl | (simp only [List.length_drop, List.length_take]; rfl)) ?_; (with_reducible refine (spec_l1Leg.calls k1 (rdOf ByteArray.empty t148 x8_1) t156 t157 t158 t159 _ A15.out).mono ?_); rintro e w29 ⟨rfl, hb⟩; refine ⟨_, rfl, ?_⟩; replace HO_4 := Aside0.mk (Kd.R_below (lo_ HO_4) hb); replace HO_155001 := Aside0.mk (Kd.R_below (lo_ HO_155001) hb); replace BK147 := Aside0.mk (blk_below (g := gb147) (o := .cells #[.int .i64 0, .slice none 0 0] 29 (0, 0)) (spec_PostRead_vb BK147) hb); replace BK154 := Aside0.mk (blk_below (g := gb154) (o := .cells #[.int .i64 t152, u155001] 29 (0, 0)) (spec_PostRead_vb BK154) hb); replace HB := Aside0.mk (below_step (spec_PostRead_auHB) hb); (try clear hb); (try clear hb2); (try clear hk); (try clear hi)) | ((with_reducible refine gate_dst (N := 9) rfl ?_); refine box_event ?hg (N := 9) ?hd (cs := #[.string (⟨#[]⟩ : ByteArray), .int .i64 0, .int .i64 0]) (t := 45) ?hr ?_; (case hd => rfl); (case hg => rfl); (case hr => first | (go_simp; done) | (go_simp; rfl)); intro gb160 hg w30 hbox hb; replace HO_4 := Aside0.mk (Kd.R_below (lo_ HO_4) hb); replace HO_155001 := Aside0.mk (Kd.R_below (Kd.R_elderB (lo_ HO_155001) gb160 (Nat.le_of_eq hg.symm)) hb); have BK160 := Aside0.mk (hbox); have GW160 := Aside0.mk ((by rw [hg]; exact (below_size (spec_PostRead_auHB)) : w.heap.size ≤ gb160)); have GE160 := Aside0.mk ((by rw [hg]; exact (below_size (spec_PostRead_auHB)) : w.heap.size ≤ gb160)); replace HB := Aside0.mk (below_step (spec_PostRead_auHB) hb); have NB147_160 := Aside0.mk ((by rw [hg]; exact Nat.ne_of_lt (blk_lt (g := gb147) (o := .cells #[.int .i64 0, .slice none 0 0] 29 (0, 0)) (spec_PostRead_vb BK147)) : gb147 ≠ gb160)); have NB160_147 := Aside0.mk ((by rw [hg]; exact Nat.ne_of_gt (blk_lt (g := gb147) (o := .cells #[.int .i64 0, .slice none 0 0] 29 (0, 0)) (spec_PostRead_vb BK147)) : gb160 ≠ gb147)); replace BK147 := Aside0.mk (blk_below (g := gb147) (o := .cells #[.int .i64 0, .slice none 0 0] 29 (0, 0)) (spec_PostRead_vb BK147) hb); have NB154_160 := Aside0.mk ((by rw [hg]; exact Nat.ne_of_lt (blk_lt (g := gb154) (o := .cells #[.int .i64 t152, u155001] 29 (0, 0)) (spec_PostRead_vb BK154)) : gb154 ≠ gb160)); have NB160_154 := Aside0.mk ((by rw [hg]; exact Nat.ne_of_gt (blk_lt (g := gb154) (o := .cells #[.int .i64 t152, u155001] 29 (0, 0)) (spec_PostRead_vb BK154)) : gb160 ≠ gb154)); replace BK154 := Aside0.mk (blk_below (g := gb154) (o := .cells #[.int .i64 t152, u155001] 29 (0, 0)) (spec_PostRead_vb BK154) hb); clear hb hbox hg; have hnb31 := NB160_147.out; have hnc31 := NB147_160.out; have hnb32 := NB160_154.out; have hnc32 := NB154_160.out; have hcz33_0 : w30.cell? ⟨gb160, 0, none⟩ = some (.string (⟨#[]⟩ : ByteArray)) := (blk_cell BK160.out 0).trans rfl; have hcz33_1 : w30.cell? ⟨gb160, 1, none⟩ = some (.int .i64 0) := (blk_cell BK160.out 1).trans rfl; have hcz33_2 : w30.cell? ⟨gb160, 2, none⟩ = some (.int .i64 0) := (blk_cell BK160.out 2).trans rfl; have hfz33_0 := blk_frozen BK160.out 0; have hfz33_1 := blk_frozen BK160.out 1; have hfz33_2 := blk_frozen BK160.out 2; have hnb34 := NB154_147.out; have hnc34 := NB147_154.out; have hcz35_0 : w30.cell? ⟨gb154, 0, none⟩ = some (.int .i64 t152) := (blk_cell BK154.out 0).trans rfl; have hcz35_1 : w30.cell? ⟨gb154, 1, none⟩ = some (u155001) := (blk_cell BK154.out 1).trans rfl; have hfz35_0 := blk_frozen BK154.out 0; have hfz35_1 := blk_frozen BK154.out 1) | ((with_reducible refine gate_builtin (b := .append) (xs := #[.tmp 45, .tmp 47]) rfl ?_); at_builtin; refine Kd.R_append k45 (w0 := w) w.heap.size rfl (.tmp 45) (.tmp 47) 27 45 (.agg #[(.string ⟨#[]⟩), (.int .i64 0), (.int .i64 0)]) 32 rfl Tryd.underlying27 info45 rfl (by decide) (by omega) u155001 x155001_1 (⟨t156, t157, t158⟩ : S45) [.string t156, .int .i64 t157, .int .i64 t158] (fun k_ => k_ ≠ gb160) (fun _ => False) rfl (by first | (go_simp; done) | (go_simp; rfl)) ?aP (fun _ hk => hk.elim) ?aF ?aO ?aB ?aS ?aL ?_; (case aP => exact k45_mkM _ _ _ (⟨t156, t157, t158⟩ : S45)); (case aB => exact (spec_PostRead_auHB)); (case aF => exact (fun k_ hk => Kd.freshB (g := gb160) (o := .cells #[.string t156, .int .i64 t157, .int .i64 t158] 45 (0, 0)) (by (with_reducible repeat (first | refine blk_drewN ?_ _ | refine blk_drew ?_ | refine blk_alloc ?_ _)); refine blk_put (cs := #[.string t156, .int .i64 t157, .int .i64 0]) ?_ 2 _ rfl; (with_reducible repeat (first | refine blk_drewN ?_ _ | refine blk_drew ?_ | refine blk_alloc ?_ _)); refine blk_put (cs := #[.string t156, .int .i64 0, .int .i64 0]) ?_ 1 _ rfl; (with_reducible repeat (first | refine blk_drewN ?_ _ | refine blk_drew ?_ | refine blk_alloc ?_ _)); refine blk_put (cs := #[.string (⟨#[]⟩ : ByteArray), .int .i64 0, .int .i64 0]) ?_ 0 _ rfl; (with_reducible repeat (first | refine blk_drewN ?_ _ | refine blk_drew ?_ | refine blk_alloc ?_ _)); exact BK160.out) k_ hk)); (case aO => exact (by (with_reducible repeat (first | apply Kd.R_alloc | apply Kd.R_drewN | apply Kd.R_drew)); exact Kd.R_mono (Kd.R_far (p := ⟨gb160, 2, none⟩) (Kd.R_far (p := ⟨gb160, 1, none⟩) (Kd.R_far (p := ⟨gb160, 0, none⟩) (Kd.R_mono HO_155001.out (fun k_ hk => (⟨hk, hk.2⟩ : _ ∧ k_ ≠ gb160))) (fun _ hk => hk.2) (.string t156)) (fun _ hk => hk.2) (.int .i64 t157)) (fun _ hk => hk.2) (.int .i64 t158)) (fun _ hk => hk.1.2))); (case aS => exact (below_size (spec_PostRead_auHB))); (case aL => have := LMc28.out; omega); intro v165 w36 ho hb hg hat; rw [← Ny164.out] at ho; have n0_ := Aside0.mk (Kd.R_over' (by (with_reducible repeat (first | apply Kd.R_alloc | apply Kd.R_drewN | apply Kd.R_drew)); exact (Kd.R_mono (Kd.R_far (p := ⟨gb160, 2, none⟩) (Kd.R_far (p := ⟨gb160, 1, none⟩) (Kd.R_far (p := ⟨gb160, 0, none⟩) (Kd.R_types HO_4.out BK160.out (by decide)) (fun _ hk => hk.2) (.string t156)) (fun _ hk => hk.2) (.int .i64 t157)) (fun _ hk => hk.2) (.int .i64 t158)) (fun _ h_ => h_.1))) (Kd.R_typed (by (with_reducible repeat (first | apply Kd.R_alloc | apply Kd.R_drewN | apply Kd.R_drew)); exact (Kd.R_mono (Kd.R_far (p := ⟨gb160, 2, none⟩) (Kd.R_far (p := ⟨gb160, 1, none⟩) (Kd.R_far (p := ⟨gb160, 0, none⟩) (Kd.R_mono HO_155001.out (fun k_ hk => (⟨hk, hk.2⟩ : _ ∧ k_ ≠ gb160))) (fun _ hk => hk.2) (.string t156)) (fun _ hk => hk.2) (.int .i64 t157)) (fun _ hk => hk.2) (.int .i64 t158)) (fun _ h_ => h_.1)))) (by decide) hg); have n1_ := Aside0.mk (blk_grown (g := gb147) (o := .cells #[.int .i64 0, .slice none 0 0] 29 (0, 0)) (by (with_reducible repeat (first | refine blk_drewN ?_ _ | refine blk_drew ?_ | refine blk_alloc ?_ _)); refine blk_far ?_ NB147_160.out _; (with_reducible repeat (first | refine blk_drewN ?_ _ | refine blk_drew ?_ | refine blk_alloc ?_ _)); refine blk_far ?_ NB147_160.out _; (with_reducible repeat (first | refine blk_drewN ?_ _ | refine blk_drew ?_ | refine blk_alloc ?_ _)); refine blk_far ?_ NB147_160.out _; (with_reducible repeat (first | refine blk_drewN ?_ _ | refine blk_drew ?_ | refine blk_alloc ?_ _)); exact BK147.out) hg (Kd.R_ne HO_155001.out BK147.out (by decide))); have n2_ := Aside0.mk (blk_grown (g := gb154) (o := .cells #[.int .i64 t152, u155001] 29 (0, 0)) (by (with_reducible repeat (first | refine blk_drewN ?_ _ | refine blk_drew ?_ | refine blk_alloc ?_ _)); refine blk_far ?_ NB154_160.out _; (with_reducible repeat (first | refine blk_drewN ?_ _ | refine blk_drew ?_ | refine blk_alloc ?_ _)); refine blk_far ?_ NB154_160.out _; (with_reducible repeat (first | refine blk_drewN ?_ _ | refine blk_drew ?_ | refine blk_alloc ?_ _)); refine blk_far ?_ NB154_160.out _; (with_reducible repeat (first | refine blk_drewN ?_ _ | refine blk_drew ?_ | refine blk_alloc ?_ _)); exact BK154.out) hg (Kd.R_ne HO_155001.out BK154.out (by decide))); have n3_ := Aside0.mk (blk_grown (g := gb160) (o := .cells #[.string t156, .int .i64 t157, .int .i64 t158] 45 (0, 0)) (by (with_reducible repeat (first | refine blk_drewN ?_ _ | refine blk_drew ?_ | refine blk_alloc ?_ _)); refine blk_put (cs := #[.string t156, .int .i64 t157, .int .i64 0]) ?_ 2 _ rfl; (with_reducible repeat (first | refine blk_drewN ?_ _ | refine blk_drew ?_ | refine blk_alloc ?_ _)); refine blk_put (cs := #[.string t156, .int .i64 0, .int .i64 0]) ?_ 1 _ rfl; (with_reducible repeat (first | refine blk_drewN ?_ _ | refine blk_drew ?_ | refine blk_alloc ?_ _)); refine blk_put (cs := #[.string (⟨#[]⟩ : ByteArray), .int .i64 0, .int .i64 0]) ?_ 0 _ rfl; (with_reducible repeat (first | refine blk_drewN ?_ _ | refine blk_drew ?_ | refine blk_alloc ?_ _)); exact BK160.out) hg (Kd.R_away HO_155001.out (fun _ hk => hk.2))); have n4_ := Aside0.mk (hb); have n5_ := Aside0.mk (ho); clear HO_4; clear BK147; clear BK154; clear BK160; clear HB; clear HO_155001; have HO_4 := n0_; have BK147 := n1_; have BK154 := n2_; have BK160 := n3_; have HB := n4_; have HO166 := n5_; clear n0_ n1_ n2_ n3_ n4_ n5_; clear ho hb hg hat; obtain ⟨Ao37, co37, eo37⟩ := Kd.R_slice HO166.out; subst eo37; have hcz38_0 : w36.cell? ⟨gb154, 0, none⟩ = some (.int .i64 t152) := (blk_cell BK154.out 0).trans rfl; have hcz38_1 : w36.cell? ⟨gb154, 1, none⟩ = some (u155001) := (blk_cell BK154.out 1).trans rfl; have hfz38_0 := blk_frozen BK154.out 0; have hfz38_1 := blk_frozen BK154.out 1))
    go_roundg k1
    case measure => have := HK1.out; omega
    case rel => exact ⟨(false), (wrap64 (x8_1 + 1)), (y164), (.slice Ao37 y164.length co37), (by first | rfl | (simp; done) | (simp [*]; done)), (by first | rfl | (simp; done) | (simp [*]; done)), H', ⟨by have := HK1.out; omega⟩, ⟨by (with_reducible repeat (first | apply Kd.R_alloc | apply Kd.R_drewN | apply Kd.R_drew)); exact Kd.R_mono (Kd.R_far (p := ⟨gb154, 1, none⟩) (Kd.R_types HO_4.out BK154.out (by decide)) (fun _ hk => hk.2) (.slice Ao37 y164.length co37)) (fun _ hk => trivial)⟩, ⟨by (with_reducible repeat (first | apply Kd.R_alloc | apply Kd.R_drewN | apply Kd.R_drew)); exact Kd.R_mono (Kd.R_far (p := ⟨gb154, 1, none⟩) (Kd.R_types HO166.out BK154.out (by decide)) (fun _ hk => hk.2) (.slice Ao37 y164.length co37)) (fun _ hk => trivial)⟩, ⟨by (with_reducible repeat (first | refine blk_drewN ?_ _ | refine blk_drew ?_ | refine blk_alloc ?_ _)); refine blk_far ?_ NB147_154.out _; (with_reducible repeat (first | refine blk_drewN ?_ _ | refine blk_drew ?_ | refine blk_alloc ?_ _)); exact BK147.out⟩, ⟨by (with_reducible repeat (first | refine blk_drewN ?_ _ | refine blk_drew ?_ | refine blk_alloc ?_ _)); refine blk_put (cs := #[.int .i64 t152, u155001]) ?_ 1 _ rfl; (with_reducible repeat (first | refine blk_drewN ?_ _ | refine blk_drew ?_ | refine blk_alloc ?_ _)); exact BK154.out⟩, ⟨spec_PostRead_auHB⟩⟩
 case rest =>
  clear HC5
  try clear c1
  try clear p1
  try clear q1
  try clear hx1
  try clear qi1
  try clear c2
  try clear p2
  try clear c3
  try clear c3b0
  try clear c3b1
  try clear p6
  try clear c10
  try clear c11
  try clear c12
  try clear c12b0
  try clear c13
  try clear c13b0
  try clear c14
  try clear c14b0
  try clear p15
  try clear q15
  try clear hx15
  try clear qi15
  try clear c16
  try clear c17
  try clear c20
  try clear c21
  try clear c23
  try clear c28
  try clear c29
  try clear c30
  try clear c31
  try clear c32
  try clear c34
  try clear hcz11_0
  try clear hcz11_1
  try clear hcz22_0
  try clear hcz22_1
  try clear hcz22_2
  try clear hcz24_0
  try clear hcz24_1
  try clear hcz27_0
  try clear hcz27_1
  try clear hcz33_0
  try clear hcz33_1
  try clear hcz33_2
  try clear hcz35_0
  try clear hcz35_1
  try clear hcz38_0
  try clear hcz38_1
  try clear hfz11_0
  try clear hfz11_1
  try clear hfz22_0
  try clear hfz22_1
  try clear hfz22_2
  try clear hfz24_0
  try clear hfz24_1
  try clear hfz27_0
  try clear hfz27_1
  try clear hfz33_0
  try clear hfz33_1
  try clear hfz33_2
  try clear hfz35_0
  try clear hfz35_1
  try clear hfz38_0
  try clear hfz38_1
  try clear hx151_0
  try clear hx155_0
  try clear p1
  try clear p151
  try clear p155
  try clear p2
  try clear q1
  try clear q151
  try clear q155
  obtain ⟨kq, x6_4, x155001_4, u155001, rfl, HA, HJ4, HO_155001, BK147, BK154, HB⟩ := hcut
  cases kq with
  | zero => exact absurd HA.out (by simp [spec_PostRead.j1])
  | succ kj4 =>
   have H := HA.out
   clear HA
   simp only [spec_PostRead.j1] at H
   have HC39 := Aside0.mk H
   clear H
   go_upto_region 10 with (fail)
   go_cut [62] (fun v62 wc => ∃ (kq : Nat) (x62_38 : Bool), v62 = .bool x62_38 ∧ Aside0 (spec_PostRead.j2 kq x62_38 t152 x155001_4 = some (r1, r2, r3)) ∧ Aside0 (kq ≤ kj4) ∧ Aside0 (Kd.R k45 45 wc w.heap.size (fun _ => True) u155001 x155001_4) ∧ Aside0 (wc.heap[gb147]? = some (.cells #[.int .i64 0, (.slice none 0 0)] 29 (0, 0))) ∧ Aside0 (wc.heap[gb154]? = some (.cells #[.int .i64 t152, u155001] 29 (0, 0))) ∧ Aside0 (Below w.heap.size w wc))
   case first =>
    have H := HC39.out
    clear HC39
    by_cases c40 : x6_4 = true
    rotate_left
    ·
     replace c40 := Bool.eq_false_iff.mpr c40
     subst c40
     have H1 : (spec_PostRead.j2 kj4 true t152 x155001_4) = some (r1, r2, r3) := by rw [if_neg (show ¬ (false = true) by decide)] at H; exact H
     clear H
     have H := H1
     clear H1
     have H' := Aside0.mk H
     clear H
     go_wp2
     go_meet
     case rel => exact ⟨_, (true), (by first | rfl | (simp; done) | (simp [*]; done)), H', ⟨by have := HJ4.out; first | omega | exact Nat.le_refl _⟩, ⟨by (with_reducible repeat (first | apply Kd.R_alloc | apply Kd.R_drewN | apply Kd.R_drew)); exact HO_155001.out⟩, ⟨by (with_reducible repeat (first | refine blk_drewN ?_ _ | refine blk_drew ?_ | refine blk_alloc ?_ _)); exact BK147.out⟩, ⟨by (with_reducible repeat (first | refine blk_drewN ?_ _ | refine blk_drew ?_ | refine blk_alloc ?_ _)); exact BK154.out⟩, ⟨spec_PostRead_auHB⟩⟩
    subst c40
    have H1 : ((spec_PostOk.f kj4 t152 x155001_4).bind fun t167 => (if t167 = true then ((spec_PostText.f kj4 t152 x155001_4).bind fun t168 => (spec_PostRead.j2 kj4 (t168.toList != a0.toList) t152 x155001_4)) else (spec_PostRead.j2 kj4 true t152 x155001_4))) = some (r1, r2, r3) := by rw [if_pos rfl] at H; exact H
    clear H
    have H := H1
    clear H1
    replace H := Option.bind_eq_some_iff.mp H
    obtain ⟨t167, A410, H⟩ := H
    replace H : (if t167 = true then ((spec_PostText.f kj4 t152 x155001_4).bind fun t168 => (spec_PostRead.j2 kj4 (t168.toList != a0.toList) t152 x155001_4)) else (spec_PostRead.j2 kj4 true t152 x155001_4)) = some (r1, r2, r3) := H
    have A41 := Aside0.mk A410
    clear A410
    by_cases c42 : t167 = true
    rotate_left
    ·
     replace c42 := Bool.eq_false_iff.mpr c42
     subst c42
     have H1 : (spec_PostRead.j2 kj4 true t152 x155001_4) = some (r1, r2, r3) := by rw [if_neg (show ¬ (false = true) by decide)] at H; exact H
     clear H
     have H := H1
     clear H1
     have H' := Aside0.mk H
     clear H
     have hnb50 := NB154_147.out
     have hnc50 := NB147_154.out
     have hcz51_0 : wc.cell? ⟨gb154, 0, none⟩ = some (.int .i64 t152) := (blk_cell BK154.out 0).trans rfl
     have hcz51_1 : wc.cell? ⟨gb154, 1, none⟩ = some (u155001) := (blk_cell BK154.out 1).trans rfl
     have hfz51_0 := blk_frozen BK154.out 0
     have hfz51_1 := blk_frozen BK154.out 1
     obtain ⟨Ao52, co52, eo52⟩ := Kd.R_slice HO_155001.out
     subst eo52
     go_wp2_with (first | (go_at_call 17; (with_reducible refine (spec_PostOk.calls kj4 t152 _ _ x155001_4 false _ ?side1 ?side2 A41.out).mono ?_); (case side1 => exact co_ (Kd.R_reads' HO_155001.out).2.2); (case side2 => exact (Kd.R_reads' HO_155001.out).2.1); rintro e w53 ⟨rfl, hb⟩; replace HO_155001 := Aside0.mk (Kd.R_below (lo_ HO_155001) hb); replace BK147 := Aside0.mk (blk_below (g := gb147) (o := .cells #[.int .i64 0, .slice none 0 0] 29 (0, 0)) (spec_PostRead_vb BK147) hb); replace BK154 := Aside0.mk (blk_below (g := gb154) (o := .cells #[.int .i64 t152, .slice Ao52 x155001_4.length co52] 29 (0, 0)) (spec_PostRead_vb BK154) hb); replace HB := Aside0.mk (below_step (spec_PostRead_auHB) hb); (try clear hb); (try clear hb2); (try clear hk); (try clear hi)))
     go_meet
     case rel => exact ⟨_, (true), (by first | rfl | (simp; done) | (simp [*]; done)), H', ⟨by have := HJ4.out; first | omega | exact Nat.le_refl _⟩, ⟨by (with_reducible repeat (first | apply Kd.R_alloc | apply Kd.R_drewN | apply Kd.R_drew)); exact HO_155001.out⟩, ⟨by (with_reducible repeat (first | refine blk_drewN ?_ _ | refine blk_drew ?_ | refine blk_alloc ?_ _)); exact BK147.out⟩, ⟨by (with_reducible repeat (first | refine blk_drewN ?_ _ | refine blk_drew ?_ | refine blk_alloc ?_ _)); exact BK154.out⟩, ⟨spec_PostRead_auHB⟩⟩
    subst c42
    have H1 : ((spec_PostText.f kj4 t152 x155001_4).bind fun t168 => (spec_PostRead.j2 kj4 (t168.toList != a0.toList) t152 x155001_4)) = some (r1, r2, r3) := by rw [if_pos rfl] at H; exact H
    clear H
    have H := H1
    clear H1
    replace H := Option.bind_eq_some_iff.mp H
    obtain ⟨t168, A430, H⟩ := H
    replace H : (spec_PostRead.j2 kj4 (t168.toList != a0.toList) t152 x155001_4) = some (r1, r2, r3) := H
    have A43 := Aside0.mk A430
    clear A430
    have H' := Aside0.mk H
    clear H
    have hnb44 := NB154_147.out
    have hnc44 := NB147_154.out
    have hcz45_0 : wc.cell? ⟨gb154, 0, none⟩ = some (.int .i64 t152) := (blk_cell BK154.out 0).trans rfl
    have hcz45_1 : wc.cell? ⟨gb154, 1, none⟩ = some (u155001) := (blk_cell BK154.out 1).trans rfl
    have hfz45_0 := blk_frozen BK154.out 0
    have hfz45_1 := blk_frozen BK154.out 1
    obtain ⟨Ao46, co46, eo46⟩ := Kd.R_slice HO_155001.out
    subst eo46
    go_wp2_with (first | (go_at_call 17; (with_reducible refine (spec_PostOk.calls kj4 t152 _ _ x155001_4 true _ ?side1 ?side2 A41.out).mono ?_); (case side1 => exact co_ (Kd.R_reads' HO_155001.out).2.2); (case side2 => exact (Kd.R_reads' HO_155001.out).2.1); rintro e w47 ⟨rfl, hb⟩; replace HO_155001 := Aside0.mk (Kd.R_below (lo_ HO_155001) hb); replace BK147 := Aside0.mk (blk_below (g := gb147) (o := .cells #[.int .i64 0, .slice none 0 0] 29 (0, 0)) (spec_PostRead_vb BK147) hb); replace BK154 := Aside0.mk (blk_below (g := gb154) (o := .cells #[.int .i64 t152, .slice Ao46 x155001_4.length co46] 29 (0, 0)) (spec_PostRead_vb BK154) hb); replace HB := Aside0.mk (below_step (spec_PostRead_auHB) hb); (try clear hb); (try clear hb2); (try clear hk); (try clear hi); have hcz48_0 : w47.cell? ⟨gb154, 0, none⟩ = some (.int .i64 t152) := (blk_cell BK154.out 0).trans rfl; have hcz48_1 : w47.cell? ⟨gb154, 1, none⟩ = some (.slice Ao46 x155001_4.length co46) := (blk_cell BK154.out 1).trans rfl; have hfz48_0 := blk_frozen BK154.out 0; have hfz48_1 := blk_frozen BK154.out 1) | (go_at_call 7; (with_reducible refine (spec_PostText.calls kj4 t152 _ _ x155001_4 t168 _ ?side1 ?side2 A43.out).mono ?_); (case side1 => exact co_ (Kd.R_reads' HO_155001.out).2.2); (case side2 => exact (Kd.R_reads' HO_155001.out).2.1); rintro e w49 ⟨rfl, hb⟩; replace HO_155001 := Aside0.mk (Kd.R_below (lo_ HO_155001) hb); replace BK147 := Aside0.mk (blk_below (g := gb147) (o := .cells #[.int .i64 0, .slice none 0 0] 29 (0, 0)) (spec_PostRead_vb BK147) hb); replace BK154 := Aside0.mk (blk_below (g := gb154) (o := .cells #[.int .i64 t152, .slice Ao46 x155001_4.length co46] 29 (0, 0)) (spec_PostRead_vb BK154) hb); replace HB := Aside0.mk (below_step (spec_PostRead_auHB) hb); (try clear hb); (try clear hb2); (try clear hk); (try clear hi)))
    go_meet
    case rel => exact ⟨_, ((t168.toList != a0.toList)), (by first | rfl | (simp; done) | (simp [*]; done)), H', ⟨by have := HJ4.out; first | omega | exact Nat.le_refl _⟩, ⟨by (with_reducible repeat (first | apply Kd.R_alloc | apply Kd.R_drewN | apply Kd.R_drew)); exact HO_155001.out⟩, ⟨by (with_reducible repeat (first | refine blk_drewN ?_ _ | refine blk_drew ?_ | refine blk_alloc ?_ _)); exact BK147.out⟩, ⟨by (with_reducible repeat (first | refine blk_drewN ?_ _ | refine blk_drew ?_ | refine blk_alloc ?_ _)); exact BK154.out⟩, ⟨spec_PostRead_auHB⟩⟩
   case rest =>
    clear HC39
    try clear c1
    try clear p1
    try clear q1
    try clear hx1
    try clear qi1
    try clear c2
    try clear p2
    try clear c3
    try clear c3b0
    try clear c3b1
    try clear c4
    try clear c5
    try clear p6
    try clear c10
    try clear c11
    try clear c12
    try clear c12b0
    try clear c13
    try clear c13b0
    try clear c14
    try clear c14b0
    try clear p15
    try clear q15
    try clear hx15
    try clear qi15
    try clear c16
    try clear c17
    try clear c20
    try clear c21
    try clear c23
    try clear c28
    try clear c29
    try clear c30
    try clear c31
    try clear c32
    try clear c34
    try clear c40
    try clear c42
    try clear c44
    try clear c50
    try clear hcz11_0
    try clear hcz11_1
    try clear hcz22_0
    try clear hcz22_1
    try clear hcz22_2
    try clear hcz24_0
    try clear hcz24_1
    try clear hcz27_0
    try clear hcz27_1
    try clear hcz33_0
    try clear hcz33_1
    try clear hcz33_2
    try clear hcz35_0
    try clear hcz35_1
    try clear hcz38_0
    try clear hcz38_1
    try clear hcz45_0
    try clear hcz45_1
    try clear hcz48_0
    try clear hcz48_1
    try clear hcz51_0
    try clear hcz51_1
    try clear hfz11_0
    try clear hfz11_1
    try clear hfz22_0
    try clear hfz22_1
    try clear hfz22_2
    try clear hfz24_0
    try clear hfz24_1
    try clear hfz27_0
    try clear hfz27_1
    try clear hfz33_0
    try clear hfz33_1
    try clear hfz33_2
    try clear hfz35_0
    try clear hfz35_1
    try clear hfz38_0
    try clear hfz38_1
    try clear hfz45_0
    try clear hfz45_1
    try clear hfz48_0
    try clear hfz48_1
    try clear hfz51_0
    try clear hfz51_1
    try clear hx151_0
    try clear hx155_0
    try clear p1
    try clear p15
    try clear p151
    try clear p155
    try clear p2
    try clear p6
    try clear q1
    try clear q15
    try clear q151
    try clear q155
    obtain ⟨kq, x62_38, rfl, HA, HJ38, HO_155001, BK147, BK154, HB⟩ := hcut
    cases kq with
    | zero => exact absurd HA.out (by simp [spec_PostRead.j2])
    | succ kj38 =>
     have H := HA.out
     clear HA
     simp only [spec_PostRead.j2] at H
     by_cases c54 : x62_38 = true
     ·
      subst c54
      have H1 : (some (0, ([] : List (S45)), false)) = some (r1, r2, r3) := by rw [if_pos rfl] at H; exact H
      clear H
      have H := H1
      clear H1
      simp only [Option.some.injEq, Prod.mk.injEq] at H
      obtain ⟨rfl, rfl, rfl⟩ := H
      have hnb55 := NB147_154.out
      have hnc55 := NB154_147.out
      have hcz56_0 : wc.cell? ⟨gb147, 0, none⟩ = some (.int .i64 0) := (blk_cell BK147.out 0).trans rfl
      have hcz56_1 : wc.cell? ⟨gb147, 1, none⟩ = some (.slice none 0 0) := (blk_cell BK147.out 1).trans rfl
      have hfz56_0 := blk_frozen BK147.out 0
      have hfz56_1 := blk_frozen BK147.out 1
      go_wp2
      refine bodyPost_ret (results_ct rfl _ _ gb147 29 #[.int .i64 0, .slice none 0 0] (0, 0) _ rfl (by (with_reducible repeat (first | refine blk_drewN ?_ _ | refine blk_drew ?_ | refine blk_alloc ?_ _)); refine blk_put (cs := #[.int .i64 0, .slice none 0 0]) ?_ 1 _ rfl; (with_reducible repeat (first | refine blk_drewN ?_ _ | refine blk_drew ?_ | refine blk_alloc ?_ _)); refine blk_put (cs := #[.int .i64 0, .slice none 0 0]) ?_ 0 _ rfl; (with_reducible repeat (first | refine blk_drewN ?_ _ | refine blk_drew ?_ | refine blk_alloc ?_ _)); exact BK147.out) Tryd.underlying29 rfl (by kernel_rfl)) rfl ?_
      exact ⟨_, by first | rfl | (simp [errW_none, errW_some] <;> rfl) | (simp [*, errW_none, errW_some] <;> rfl), by first | exact Kd.R_nil _ _ _ _ _ | exact Kd.N_nil _ _ _ _ _ | exact Kd.V_nil _ _ _ _ _ | exact Kd.Q_nil _ _ _ _ _ | exact Kd.S_nil _ _ _ _ _, spec_PostRead_auHB⟩
     replace c54 := Bool.eq_false_iff.mpr c54
     subst c54
     have H1 : (some (t152, x155001_4, true)) = some (r1, r2, r3) := by rw [if_neg (show ¬ (false = true) by decide)] at H; exact H
     clear H
     have H := H1
     clear H1
     simp only [Option.some.injEq, Prod.mk.injEq] at H
     obtain ⟨rfl, rfl, rfl⟩ := H
     have hnb57 := NB154_147.out
     have hnc57 := NB147_154.out
     have hcz58_0 : wc.cell? ⟨gb154, 0, none⟩ = some (.int .i64 t152) := (blk_cell BK154.out 0).trans rfl
     have hcz58_1 : wc.cell? ⟨gb154, 1, none⟩ = some (u155001) := (blk_cell BK154.out 1).trans rfl
     have hfz58_0 := blk_frozen BK154.out 0
     have hfz58_1 := blk_frozen BK154.out 1
     have hcz59_0 : wc.cell? ⟨gb147, 0, none⟩ = some (.int .i64 0) := (blk_cell BK147.out 0).trans rfl
     have hcz59_1 : wc.cell? ⟨gb147, 1, none⟩ = some (.slice none 0 0) := (blk_cell BK147.out 1).trans rfl
     have hfz59_0 := blk_frozen BK147.out 0
     have hfz59_1 := blk_frozen BK147.out 1
     obtain ⟨Ao60, co60, eo60⟩ := Kd.R_slice HO_155001.out
     subst eo60
     go_wp2
     refine bodyPost_ret (results_ct rfl _ _ gb147 29 #[.int .i64 t152, .slice Ao60 x155001_4.length co60] (0, 0) _ rfl (by (with_reducible repeat (first | refine blk_drewN ?_ _ | refine blk_drew ?_ | refine blk_alloc ?_ _)); refine blk_put (cs := #[.int .i64 t152, .slice none 0 0]) ?_ 1 _ rfl; (with_reducible repeat (first | refine blk_drewN ?_ _ | refine blk_drew ?_ | refine blk_alloc ?_ _)); refine blk_put (cs := #[.int .i64 0, .slice none 0 0]) ?_ 0 _ rfl; (with_reducible repeat (first | refine blk_drewN ?_ _ | refine blk_drew ?_ | refine blk_alloc ?_ _)); exact BK147.out) Tryd.underlying29 rfl (by kernel_rfl)) rfl ?_
     exact ⟨_, by first | rfl | (simp [errW_none, errW_some] <;> rfl) | (simp [*, errW_none, errW_some] <;> rfl), by (with_reducible repeat (first | apply Kd.R_alloc | apply Kd.R_drewN | apply Kd.R_drew)); exact Kd.R_mono (Kd.R_far (p := ⟨gb147, 1, none⟩) (Kd.R_far (p := ⟨gb147, 0, none⟩) (Kd.R_types HO_155001.out BK147.out (by decide)) (fun _ hk => hk.2) (.int .i64 t152)) (fun _ hk => hk.2) (.slice Ao60 x155001_4.length co60)) (fun _ hk => trivial), spec_PostRead_auHB⟩

/-! ### impl_pieces: function 31 -/
section
attribute [local go_sem] Oper.semAt_some
theorem noGoto_normal {Q : Exit → Act → World → Prop} {a : Act} {w : World} : Exit.noGoto Q .normal a w = Q .normal a w := rfl
theorem noGoto_exit {Q : Exit → Act → World → Prop} {a : Act} {w : World} (id : Nat) : Exit.noGoto Q (.exit id) a w = Q (.exit id) a w := rfl
theorem noGoto_ret {Q : Exit → Act → World → Prop} {a : Act} {w : World} : Exit.noGoto Q .ret a w = Q .ret a w := rfl
attribute [local go_sem] noGoto_normal noGoto_exit noGoto_ret
/-! #### Words between spaces -/
def okByte (b : UInt8) : Bool := decide (b.toNat = 32) || (decide (97 ≤ b.toNat) && decide (b.toNat ≤ 122)) || (decide (48 ≤ b.toNat) && decide (b.toNat ≤ 57)) || decide (b.toNat = 58) || decide (b.toNat = 45)
/-- From a place on: the words so far, where the next one begins. -/
def piecesFrom (s : ByteArray) : Nat → Nat → Nat → List ByteArray → List ByteArray × Bool
  | 0, _, start, words => (words ++ [s.extract start s.size], true)
  | d + 1, pos, start, words => if okByte (s.get! pos) = true then (if (s.get! pos).toNat = 32 then piecesFrom s d (pos + 1) (pos + 1) (words ++ [s.extract start pos]) else piecesFrom s d (pos + 1) start words) else ([], false)
def piecesOf (s : ByteArray) : List ByteArray × Bool := piecesFrom s s.size 0 0 []
theorem dec_ascii (s : ByteArray) (i : Nat) (h : (s.get! i).toNat < 128) : Utf8.decode s i = ((s.get! i).toNat, 1) := by
  simp [Utf8.decode, h]
theorem dec_high (s : ByteArray) (i : Nat) (h : 128 ≤ (s.get! i).toNat) : 128 ≤ (Utf8.decode s i).1 := by
  unfold Utf8.decode Utf8.runeError
  simp only [Nat.add_zero]
  repeat' split
  all_goals first | omega | (simp only; omega) | (simp_all; done) | (simp_all; omega)
theorem info_str : (Tryd.prog.info? 9).map (fun i => (i.zero, i.size, i.bytes)) = some (some (.string ⟨#[]⟩), Kd.string.sz, 16) := by kernel_rfl
theorem w64i {n : Nat} (h : n ≤ 1048576) : Value.int .i64 (wrap64 ((n : Int) + 1)) = .int .i64 ((n + 1 : Nat) : Int) := by
  have e : wrap64 ((n : Int) + 1) = (n : Int) + 1 := by unfold wrap64; omega
  rw [e]
  rfl
set_option maxRecDepth 100000 in
set_option maxHeartbeats 4000000 in
theorem pieces_calls (s : ByteArray) (hs : s.size ≤ 1048576) (w : World) :
    Calls Tryd.prog 31 #[.string s] w fun e w' => ∃ v, e = .returned (.tuple #[v, .bool (piecesOf s).2]) ∧ Kd.R Kd.string 9 w' w.heap.size (fun _ => True) v (piecesOf s).1 ∧ Below w.heap.size w w' := by
  have HS := Aside0.mk hs
  clear hs
  go_enter Tryd.func31, Tryd.ntmps31
  go_wp2
  apply wp_scope_straight
  go_wp2
  apply wp_label
  go_wp2
  go_loopw [4, 5] (fun v4 v5 wr => ∃ (d pos start : Nat) (words : List ByteArray), v5 = .int .i64 (start : Nat) ∧ piecesFrom s d pos start words = piecesOf s ∧ pos + d = s.size ∧ start ≤ pos ∧ words.length ≤ pos ∧ Kd.R Kd.string 9 wr w.heap.size (fun k_ => k_ ≠ w.heap.size) v4 words ∧ wr.heap[w.heap.size]? = some (.stringIter s pos) ∧ Below w.heap.size w wr) (fun _ _ wr => s.size - wr.iterPos w.heap.size)
  case atStart =>
    exact ⟨s.size, 0, 0, [], rfl, rfl, by omega, Nat.le_refl _, Nat.le_refl _, Kd.R_nil _ _ _ _ _, World.iter_heap w s 0, (Below.refl _ w).alloc (Nat.le_refl _) _⟩
  case round =>
    obtain ⟨d, pos, start, words, rfl, hp, hd, hst, hwl, hRw, hit, hB⟩ := hrel
    have hsz : w.heap.size < wr.heap.size := (Array.getElem?_eq_some_iff.1 hit).1
    have hsl := HS.out
    cases d with
    | zero =>
      have hpos : ¬ pos < s.size := by omega
      have hnx : ∀ ty, (Instr.next (.pointer (some ⟨w.heap.size, 0, none⟩)) true ty).run Tryd.prog wr = _ := fun ty => Lib.run_next_end_at wr w.heap.size s pos ty hit hpos
      have q1 : decide ((0 : Int) ≤ (start : Int)) = true := decide_eq_true (by omega)
      have q2 : decide ((start : Int) ≤ (s.size : Int)) = true := decide_eq_true (by omega)
      have q3 : ((0 : Int) ≤ (start : Int)) = True := eq_true (by omega)
      have q4 : ((start : Int) ≤ (s.size : Int)) = True := eq_true (by omega)
      have q5 : decide (start ≤ s.size) = true := decide_eq_true (by omega)
      have HP := Aside0.mk hp
      have HRW := Aside0.mk hRw
      have HB := Aside0.mk hB
      have HWL := Aside0.mk hwl
      have HD := Aside0.mk hd
      have HST := Aside0.mk hst
      have HSZ := Aside0.mk hsz
      clear hp hRw hB hwl hd hst hpos hsz hsl hit
      go_wp2_with (first | ((with_reducible refine gate_builtin (b := .append) (xs := #[.tmp 43, .tmp 47]) rfl ?_); at_builtin; refine Kd.R_append Kd.string (w0 := w) w.heap.size rfl (.tmp 43) (.tmp 47) 59 9 (.string ⟨#[]⟩) 16 rfl Tryd.underlying59 info_str rfl (by decide) (by omega) u4 words (s.extract start s.size) [.string (s.extract start s.size)] (fun k_ => k_ ≠ w.heap.size) (fun _ => False) rfl rfl ?aP (fun _ hk => hk.elim) ?aF ?aO ?aB ?aS ?aL ?_; (case aP => exact rfl); (case aB => exact HB.out); (case aF => exact fun k hk => (by have := HSZ.out; omega)); (case aO => exact HRW.out); (case aS => exact HB.out.size); (case aL => have h1 := HWL.out; have h2 := HD.out; have h3 := HS.out; omega); intro v1 w3 ho hb hg hat; refine Hid.out ?_))
      have HO := Aside0.mk ho
      have HB3 := Aside0.mk hb
      clear ho hb hg hat
      refine Lib.hid ?_
      go_wp2
      rw [noGoto_ret]; refine bodyPost_ret (results_tmp2 rfl _ _ _) rfl ?_
      have hp := HP.out
      simp only [piecesFrom] at hp
      exact ⟨_, by rw [← hp]; rfl, by rw [← hp]; exact Kd.R_mono HO.out (fun _ _ => trivial), HB3.out⟩
    | succ d =>
      have hpos : pos < s.size := by omega
      have hnx0 : ∀ ty, (Instr.next (.pointer (some ⟨w.heap.size, 0, none⟩)) true ty).run Tryd.prog wr = _ := fun ty => Lib.run_next_any_at wr w.heap.size s pos ty hit hpos
      obtain ⟨R, hR⟩ : ∃ R : Int, ((Utf8.decode s pos).1 : Int) = R := ⟨_, rfl⟩
      obtain ⟨wd, hwd⟩ : ∃ wd : Nat, (Utf8.decode s pos).2 = wd := ⟨_, rfl⟩
      obtain ⟨W2, hW2⟩ : ∃ W2, wr.iterAt w.heap.size s (pos + wd) = W2 := ⟨_, rfl⟩
      have hR2 : Kd.R Kd.string 9 W2 w.heap.size (fun k_ => k_ ≠ w.heap.size) u4 words := by rw [← hW2]; exact Kd.R_move hRw (fun j hj => Lib.iterAt_other wr _ j s _ hj)
      have hsw : wr.heap.size ≤ W2.heap.size := by rw [← hW2, Lib.iterAt_size]; exact Nat.le_refl _
      have HSW := Aside0.mk hsw
      have hit2 : W2.heap[w.heap.size]? = some (.stringIter s (pos + wd)) := by rw [← hW2]; exact Lib.iterAt_heap wr w.heap.size s pos (pos + wd) hit
      have hB2 : Below w.heap.size w W2 := by rw [← hW2]; exact Lib.below_iterAt hB (k := w.heap.size) (Nat.le_refl _) s (pos + wd)
      rw [hR, hwd, hW2] at hnx0
      have hmu : wr.iterPos w.heap.size = pos := by simp [World.iterPos, hit]
      simp only [piecesFrom] at hp
      have key : (okByte (s.get! pos) = true → ((s.get! pos).toNat : Int) = R ∧ wd = 1) ∧ (okByte (s.get! pos) = false → R < 0 ∨ 122 < R ∨ (58 < R ∧ R < 97) ∨ (R < 48 ∧ R ≠ 45 ∧ R ≠ 32)) := by
        rw [← hR, ← hwd]
        constructor
        · intro h
          have hlow : (s.get! pos).toNat < 128 := by
            simp only [okByte, Bool.or_eq_true, Bool.and_eq_true, decide_eq_true_eq] at h
            omega
          rw [dec_ascii s pos hlow]
          exact ⟨rfl, rfl⟩
        · intro h
          by_cases hlow : (s.get! pos).toNat < 128
          · rw [dec_ascii s pos hlow]
            simp only [okByte, Bool.or_eq_false_iff, Bool.and_eq_false_iff, decide_eq_false_iff_not] at h
            simp only
            omega
          · have := dec_high s pos (by omega)
            exact .inr (.inl (by omega))
      have HIT := Aside0.mk hit2
      have HRW := Aside0.mk hR2
      have HB := Aside0.mk hB2
      have HWL := Aside0.mk hwl
      have HD := Aside0.mk hd
      have HST := Aside0.mk hst
      have HMU := Aside0.mk hmu
      have HSZ := Aside0.mk hsz
      have HSL := Aside0.mk hsl
      clear hR hwd hW2 hRw hit hB hR2 hit2 hB2 hpos hmu hsz hsl hwl hd hst
      cases hok : okByte (s.get! pos) with
      | false =>
        have hcase := key.2 hok
        have hpe : ([], false) = piecesOf s := by rw [hok, if_neg (by decide)] at hp; exact hp
        have HPE := Aside0.mk hpe
        clear hp key hok hpe
        rcases hcase with hcase | hcase | hcase | hcase
        · have b0 : decide (97 ≤ R) = false := decide_eq_false (by omega)
          have b2 : decide (48 ≤ R) = false := decide_eq_false (by omega)
          have b4 : (R == 58) = false := beq_eq_false_iff_ne.2 (by omega)
          have b5 : (R == 45) = false := beq_eq_false_iff_ne.2 (by omega)
          have b32 : (R == 32) = false := beq_eq_false_iff_ne.2 (by omega)
          clear hcase
          go_wp2
          rw [noGoto_ret]; refine bodyPost_ret (results_tmp2 rfl _ _ _) rfl ?_
          exact ⟨_, by rw [← HPE.out]; rfl, by rw [← HPE.out]; exact Kd.R_nil _ _ _ _ _, HB.out⟩
        · have b0 : decide (97 ≤ R) = true := decide_eq_true (by omega)
          have b1 : decide (R ≤ 122) = false := decide_eq_false (by omega)
          have b2 : decide (48 ≤ R) = true := decide_eq_true (by omega)
          have b3 : decide (R ≤ 57) = false := decide_eq_false (by omega)
          have b4 : (R == 58) = false := beq_eq_false_iff_ne.2 (by omega)
          have b5 : (R == 45) = false := beq_eq_false_iff_ne.2 (by omega)
          have b32 : (R == 32) = false := beq_eq_false_iff_ne.2 (by omega)
          clear hcase
          go_wp2
          rw [noGoto_ret]; refine bodyPost_ret (results_tmp2 rfl _ _ _) rfl ?_
          exact ⟨_, by rw [← HPE.out]; rfl, by rw [← HPE.out]; exact Kd.R_nil _ _ _ _ _, HB.out⟩
        · have b0 : decide (97 ≤ R) = false := decide_eq_false (by omega)
          have b2 : decide (48 ≤ R) = true := decide_eq_true (by omega)
          have b3 : decide (R ≤ 57) = false := decide_eq_false (by omega)
          have b4 : (R == 58) = false := beq_eq_false_iff_ne.2 (by omega)
          have b5 : (R == 45) = false := beq_eq_false_iff_ne.2 (by omega)
          have b32 : (R == 32) = false := beq_eq_false_iff_ne.2 (by omega)
          clear hcase
          go_wp2
          rw [noGoto_ret]; refine bodyPost_ret (results_tmp2 rfl _ _ _) rfl ?_
          exact ⟨_, by rw [← HPE.out]; rfl, by rw [← HPE.out]; exact Kd.R_nil _ _ _ _ _, HB.out⟩
        · have b0 : decide (97 ≤ R) = false := decide_eq_false (by omega)
          have b2 : decide (48 ≤ R) = false := decide_eq_false (by omega)
          have b4 : (R == 58) = false := beq_eq_false_iff_ne.2 (by omega)
          have b5 : (R == 45) = false := beq_eq_false_iff_ne.2 (by omega)
          have b32 : (R == 32) = false := beq_eq_false_iff_ne.2 (by omega)
          clear hcase
          go_wp2
          rw [noGoto_ret]; refine bodyPost_ret (results_tmp2 rfl _ _ _) rfl ?_
          exact ⟨_, by rw [← HPE.out]; rfl, by rw [← HPE.out]; exact Kd.R_nil _ _ _ _ _, HB.out⟩
      | true =>
        obtain ⟨hr, rfl⟩ := key.1 hok
        rw [if_pos hok] at hp
        have hok' := hok
        simp only [okByte, Bool.or_eq_true, Bool.and_eq_true, decide_eq_true_eq] at hok'
        by_cases h32 : (s.get! pos).toNat = 32
        · rw [if_pos h32] at hp
          have HP := Aside0.mk hp
          have e32 : R = 32 := by omega
          clear key hok hok' hp h32 hr
          subst e32
          have hst := HST.out
          have hd := HD.out
          have q1 : decide ((0 : Int) ≤ (start : Int)) = true := decide_eq_true (by omega)
          have q2 : decide ((start : Int) ≤ (pos : Int)) = true := decide_eq_true (by omega)
          have q3 : ((0 : Int) ≤ (start : Int)) = True := eq_true (by omega)
          have q4 : ((start : Int) ≤ (pos : Int)) = True := eq_true (by omega)
          have q5 : decide ((pos : Int) ≤ (s.size : Int)) = true := decide_eq_true (by omega)
          have q6 : ((pos : Int) ≤ (s.size : Int)) = True := eq_true (by omega)
          clear hst hd
          go_wp2_with (first | ((with_reducible refine gate_builtin (b := .append) (xs := #[.tmp 17, .tmp 22]) rfl ?_); at_builtin; refine Kd.R_append Kd.string (w0 := w) w.heap.size rfl (.tmp 17) (.tmp 22) 59 9 (.string ⟨#[]⟩) 16 rfl Tryd.underlying59 info_str rfl (by decide) (by omega) u4 words (s.extract start pos) [.string (s.extract start pos)] (fun k_ => k_ ≠ w.heap.size) (fun _ => False) rfl rfl ?aP (fun _ hk => hk.elim) ?aF ?aO ?aB ?aS ?aL ?_; (case aP => exact rfl); (case aB => exact HB.out); (case aF => exact fun k hk => (by have := Nat.lt_of_lt_of_le HSZ.out HSW.out; omega)); (case aO => exact HRW.out); (case aS => exact HB.out.size); (case aL => have h1 := HWL.out; have h2 := HD.out; have h3 := HS.out; omega); intro v1 w3 ho hb hg hat; refine Hid.out ?_))
          have hitA : w3.heap[w.heap.size]? = some (.stringIter s (pos + 1)) := (hg.block w.heap.size (by have := HSZ.out; have := HSW.out; omega) (Kd.R_away HRW.out (fun _ hk => hk))).trans HIT.out
          have HO := Aside0.mk ho
          have HB3 := Aside0.mk hb
          have HITA := Aside0.mk hitA
          clear ho hb hg hat hitA
          refine Lib.hid ?_
          go_wp2
          go_roundw
          case rel => exact ⟨d, pos + 1, pos + 1, words ++ [s.extract start pos], (by first | rfl | (simp; done) | (rw [w64i (by have := HD.out; have := HSL.out; omega)])), HP.out, by have := HD.out; omega, Nat.le_refl _, by have := HWL.out; simp; omega, HO.out, HITA.out, HB3.out⟩
          case measure => have h1 := HITA.out; have h2 := HMU.out; have h3 := HD.out; simp only [World.iterPos, h1] at h2 ⊢; omega
        · rw [if_neg h32] at hp
          have HP := Aside0.mk hp
          have hcase : (97 ≤ R ∧ R ≤ 122) ∨ (48 ≤ R ∧ R ≤ 57) ∨ R = 58 ∨ R = 45 := by omega
          clear key hok hok' hp h32 hr
          rcases hcase with hcase | hcase | hcase | hcase
          · have b0 : decide (97 ≤ R) = true := decide_eq_true (by omega)
            have b1 : decide (R ≤ 122) = true := decide_eq_true (by omega)
            have b32 : (R == 32) = false := beq_eq_false_iff_ne.2 (by omega)
            clear hcase
            go_wp2
            go_roundw
            case rel => exact ⟨d, pos + 1, start, words, rfl, HP.out, by have := HD.out; omega, by have := HST.out; omega, by have := HWL.out; omega, HRW.out, HIT.out, HB.out⟩
            case measure => have h1 := HIT.out; have h2 := HMU.out; have h3 := HD.out; simp only [World.iterPos, h1] at h2 ⊢; omega
          · have b0 : decide (97 ≤ R) = false := decide_eq_false (by omega)
            have b2 : decide (48 ≤ R) = true := decide_eq_true (by omega)
            have b3 : decide (R ≤ 57) = true := decide_eq_true (by omega)
            have b32 : (R == 32) = false := beq_eq_false_iff_ne.2 (by omega)
            clear hcase
            go_wp2
            go_roundw
            case rel => exact ⟨d, pos + 1, start, words, rfl, HP.out, by have := HD.out; omega, by have := HST.out; omega, by have := HWL.out; omega, HRW.out, HIT.out, HB.out⟩
            case measure => have h1 := HIT.out; have h2 := HMU.out; have h3 := HD.out; simp only [World.iterPos, h1] at h2 ⊢; omega
          · have b0 : decide (97 ≤ R) = false := decide_eq_false (by omega)
            have b2 : decide (48 ≤ R) = true := decide_eq_true (by omega)
            have b3 : decide (R ≤ 57) = false := decide_eq_false (by omega)
            have b4 : (R == 58) = true := beq_iff_eq.2 (by omega)
            have b32 : (R == 32) = false := beq_eq_false_iff_ne.2 (by omega)
            clear hcase
            go_wp2
            go_roundw
            case rel => exact ⟨d, pos + 1, start, words, rfl, HP.out, by have := HD.out; omega, by have := HST.out; omega, by have := HWL.out; omega, HRW.out, HIT.out, HB.out⟩
            case measure => have h1 := HIT.out; have h2 := HMU.out; have h3 := HD.out; simp only [World.iterPos, h1] at h2 ⊢; omega
          · have b0 : decide (97 ≤ R) = false := decide_eq_false (by omega)
            have b2 : decide (48 ≤ R) = false := decide_eq_false (by omega)
            have b4 : (R == 58) = false := beq_eq_false_iff_ne.2 (by omega)
            have b5 : (R == 45) = true := beq_iff_eq.2 (by omega)
            have b32 : (R == 32) = false := beq_eq_false_iff_ne.2 (by omega)
            clear hcase
            go_wp2
            go_roundw
            case rel => exact ⟨d, pos + 1, start, words, rfl, HP.out, by have := HD.out; omega, by have := HST.out; omega, by have := HWL.out; omega, HRW.out, HIT.out, HB.out⟩
            case measure => have h1 := HIT.out; have h2 := HMU.out; have h3 := HD.out; simp only [World.iterPos, h1] at h2 ⊢; omega
end

end Go.Proofs.YtdjohhobmipagaaDoor.QFnPost

/- What the law FnSquashTwice reaches, function by function: what each computes, and that the machine's call comes to it. Laid by a program. -/
import Derived.Test.YtcfebbhiehaocaaQFnSquashTwicex0
namespace Go.Proofs.Ytcfebbhiehaocaa.QFnSquashTwice
open Go.RowKit Go.Proofs.YtcfebbhiehaocaaW.PrintWords Go.Proofs.YtcfebbhiehaocaaW.PrintLast Go.Proofs.YtcfebbhiehaocaaW.PrintMore
attribute [local go_sem] max2_int min2_int max_two min_two max_three min_three max_four min_four   -- for this text's walks alone
set_option linter.unusedVariables false
set_option linter.unusedSimpArgs false

/-! ### impl_parted: function 80 -/
def impl_parted.l0 : Nat → List Int → Int → Int → ByteArray → Int → Int → ByteArray → Int → ByteArray → Int → Int → ByteArray → Int → Option (Bool)
  | 0, _, _, _, _, _, _, _, _, _, _, _, _, _ => none
  | k + 1, x9, x10, x11, x227000, x227001, x227002, x227003, x227004, x228000, x228001, x228002, x228003, x228004 => if x11 < x10 then (if 0 ≤ x11 then (if x11 < (x9.length : Int) then (if (rd x9 x11) ≥ x228001 then (if (rd x9 x11) < x227001 then (some true) else (impl_parted.l0 k x9 x10 (wrap64 (x11 + 1)) x227000 x227001 x227002 x227003 x227004 x228000 x228001 x228002 x228003 x228004)) else (impl_parted.l0 k x9 x10 (wrap64 (x11 + 1)) x227000 x227001 x227002 x227003 x227004 x228000 x228001 x228002 x228003 x228004)) else (none)) else (none)) else (some false)
def impl_parted.f (k : Nat) (a0_0 : ByteArray) (a0_1 : Int) (a0_2 : Int) (a0_3 : ByteArray) (a0_4 : Int) (a1_0 : ByteArray) (a1_1 : Int) (a1_2 : Int) (a1_3 : ByteArray) (a1_4 : Int) (l2 : List Int) : Option (Bool) := impl_parted.l0 k l2 (l2.length : Int) 0 a0_0 a0_1 a0_2 a0_3 a0_4 a1_0 a1_1 a1_2 a1_3 a1_4
theorem impl_parted.mono_l : ∀ k, (∀ y0 y1 y2 y3 y4 y5 y6 y7 y8 y9 y10 y11 y12, LeO (impl_parted.l0 k y0 y1 y2 y3 y4 y5 y6 y7 y8 y9 y10 y11 y12) (impl_parted.l0 (k + 1) y0 y1 y2 y3 y4 y5 y6 y7 y8 y9 y10 y11 y12))
  | 0 => fun _ _ _ _ _ _ _ _ _ _ _ _ _ r h => by simp [impl_parted.l0] at h
  | k + 1 => by
    have ih0 := impl_parted.mono_l k
    · intro y0 y1 y2 y3 y4 y5 y6 y7 y8 y9 y10 y11 y12
      unfold impl_parted.l0
      repeat' first
      | (with_reducible exact ih0 _ _ _ _ _ _ _ _ _ _ _ _ _)
      | (with_reducible exact LeO.refl _)
      | (with_reducible exact LeO.none _)
      | (with_reducible refine LeO.ite ?_ ?_)
      | (with_reducible refine LeO.bind ?_ (fun _ => ?_))
      | exact ih0 _ _ _ _ _ _ _ _ _ _ _ _ _
      | exact LeO.none _
      | refine LeO.ite ?_ ?_
      | refine LeO.bind ?_ (fun _ => ?_)
theorem impl_parted.mono : ∀ a0 a1 a2 a3 a4 a5 a6 a7 a8 a9 a10 k, LeO (impl_parted.f k a0 a1 a2 a3 a4 a5 a6 a7 a8 a9 a10) (impl_parted.f (k + 1) a0 a1 a2 a3 a4 a5 a6 a7 a8 a9 a10) := by
  intro a0 a1 a2 a3 a4 a5 a6 a7 a8 a9 a10 k
  have ih0 := impl_parted.mono_l k
  unfold impl_parted.f
  repeat' first
      | (with_reducible exact ih0 _ _ _ _ _ _ _ _ _ _ _ _ _)
      | (with_reducible exact LeO.refl _)
      | (with_reducible exact LeO.none _)
      | (with_reducible refine LeO.ite ?_ ?_)
      | (with_reducible refine LeO.bind ?_ (fun _ => ?_))
      | exact ih0 _ _ _ _ _ _ _ _ _ _ _ _ _
      | exact LeO.none _
      | refine LeO.ite ?_ ?_
      | refine LeO.bind ?_ (fun _ => ?_)
theorem impl_parted_vb {p q : Prop} (h : Aside0 p) (k : p → q := by (intro hz; (with_reducible repeat (first | refine blk_drewN ?_ _ | refine blk_drew ?_ | refine blk_alloc ?_ _)); exact hz)) : q := k h.out
theorem impl_parted_auHB {q : Prop} (h : q := by (repeat (first | (with_reducible first | exact HB.out | apply below_alloc | apply pw_below_drewN | apply below_drew1 | refine below_set ?_ GE226.out | refine below_set ?_ GE227.out) | exact HB.out))) : q := h
set_option maxHeartbeats 8000000 in
set_option maxRecDepth 100000 in
theorem impl_parted.calls (k : Nat) (a0_0 : ByteArray) (a0_1 : Int) (a0_2 : Int) (a0_3 : ByteArray) (a0_4 : Int) (a1_0 : ByteArray) (a1_1 : Int) (a1_2 : Int) (a1_3 : ByteArray) (a1_4 : Int) (A2 : Option Addr) (c2 : Nat) (l2 : List Int) (r : Bool) (w : World) (hr2 : Kd.C (Kd.int .i64) w A2 l2.length l2) (hc2 : l2.length ≤ c2) (h : impl_parted.f k a0_0 a0_1 a0_2 a0_3 a0_4 a1_0 a1_1 a1_2 a1_3 a1_4 l2 = some r) :
  Calls Try.prog 80 #[.agg #[.string a0_0, .int .i64 a0_1, .int .i64 a0_2, .string a0_3, .int .i64 a0_4], .agg #[.string a1_0, .int .i64 a1_1, .int .i64 a1_2, .string a1_3, .int .i64 a1_4], .slice A2 l2.length c2] w fun e w' => e = .returned (.bool r) ∧ Below w.heap.size w w' := by
 have hu48 := Try.underlying48
 have HR2 := Aside0.mk hr2
 have HC2 := Aside0.mk hc2
 clear hr2 hc2
 have HB := Aside0.mk (Below.refl w.heap.size w)
 have H : (impl_parted.l0 k l2 (l2.length : Int) 0 a0_0 a0_1 a0_2 a0_3 a0_4 a1_0 a1_1 a1_2 a1_3 a1_4) = some r := h
 clear h
 have H' := Aside0.mk H
 clear H
 go_enter Try.func80, Try.ntmps80
 go_wp2_with (first | ((with_reducible refine gate_dst (N := 3) rfl ?_); refine box_event ?hg (N := 3) ?hd (cs := #[.string a0_0, .int .i64 a0_1, .int .i64 a0_2, .string a0_3, .int .i64 a0_4]) (t := 48) ?hr ?_; (case hd => rfl); (case hg => rfl); (case hr => first | (go_simp; done) | (go_simp; rfl)); intro gb226 hg w4 hbox hb; have BK226 := Aside0.mk (hbox); have GW226 := Aside0.mk ((by rw [hg]; exact (below_size (impl_parted_auHB)) : w.heap.size ≤ gb226)); have GE226 := Aside0.mk ((by rw [hg]; exact (below_size (impl_parted_auHB)) : w.heap.size ≤ gb226)); replace HB := Aside0.mk (below_step (impl_parted_auHB) hb); clear hb hbox hg) | ((with_reducible refine gate_dst (N := 4) rfl ?_); refine box_event ?hg (N := 4) ?hd (cs := #[.string a1_0, .int .i64 a1_1, .int .i64 a1_2, .string a1_3, .int .i64 a1_4]) (t := 48) ?hr ?_; (case hd => rfl); (case hg => rfl); (case hr => first | (go_simp; done) | (go_simp; rfl)); intro gb227 hg w5 hbox hb; have BK227 := Aside0.mk (hbox); have GW227 := Aside0.mk ((by rw [hg]; exact (below_size (impl_parted_auHB)) : w.heap.size ≤ gb227)); have GE227 := Aside0.mk ((by rw [hg]; exact (below_size (impl_parted_auHB)) : w.heap.size ≤ gb227)); replace HB := Aside0.mk (below_step (impl_parted_auHB) hb); have NB226_227 := Aside0.mk ((by rw [hg]; exact Nat.ne_of_lt (blk_lt (g := gb226) (o := .cells #[.string a0_0, .int .i64 a0_1, .int .i64 a0_2, .string a0_3, .int .i64 a0_4] 48 (0, 0)) (impl_parted_vb BK226)) : gb226 ≠ gb227)); have NB227_226 := Aside0.mk ((by rw [hg]; exact Nat.ne_of_gt (blk_lt (g := gb226) (o := .cells #[.string a0_0, .int .i64 a0_1, .int .i64 a0_2, .string a0_3, .int .i64 a0_4] 48 (0, 0)) (impl_parted_vb BK226)) : gb227 ≠ gb226)); replace BK226 := Aside0.mk (blk_below (g := gb226) (o := .cells #[.string a0_0, .int .i64 a0_1, .int .i64 a0_2, .string a0_3, .int .i64 a0_4] 48 (0, 0)) (impl_parted_vb BK226) hb); clear hb hbox hg))
 go_loopg [11] k (fun kq v11 w' => ∃ (x11_1 : Int), v11 = .int .i64 x11_1 ∧ Aside0 (impl_parted.l0 kq l2 (l2.length : Int) x11_1 a0_0 a0_1 a0_2 a0_3 a0_4 a1_0 a1_1 a1_2 a1_3 a1_4 = some r) ∧ Aside0 (kq ≤ k) ∧ Aside0 (w'.heap[gb226]? = some (.cells #[.string a0_0, .int .i64 a0_1, .int .i64 a0_2, .string a0_3, .int .i64 a0_4] 48 (0, 0))) ∧ Aside0 (w'.heap[gb227]? = some (.cells #[.string a1_0, .int .i64 a1_1, .int .i64 a1_2, .string a1_3, .int .i64 a1_4] 48 (0, 0))) ∧ Aside0 (Below w.heap.size w w'))
 case atStart => exact ⟨(0), (by first | rfl | (simp; done) | (simp [*]; done)), H', ⟨Nat.le_refl _⟩, ⟨by (with_reducible repeat (first | refine blk_drewN ?_ _ | refine blk_drew ?_ | refine blk_alloc ?_ _)); exact BK226.out⟩, ⟨by (with_reducible repeat (first | refine blk_drewN ?_ _ | refine blk_drew ?_ | refine blk_alloc ?_ _)); exact BK227.out⟩, ⟨impl_parted_auHB⟩⟩
 case round =>
  clear H'
  try clear c2
  try clear p2
  obtain ⟨x11_1, rfl, HA, HK1, BK226, BK227, HB⟩ := hrel
  cases gk with
  | zero => exact absurd HA.out (by simp [impl_parted.l0])
  | succ k1 =>
   have H := HA.out
   clear HA
   simp only [impl_parted.l0] at H
   by_cases c6 : x11_1 < (l2.length : Int)
   rotate_left
   ·
    rw [if_neg c6] at H
    have c6b0 : decide (x11_1 < (l2.length : Int)) = false := decide_eq_false c6
    clear c6
    obtain rfl := Option.some.inj H
    go_wp2
    go_ret
    exact ⟨by first | rfl | (simp [errW_none, errW_some] <;> rfl) | (simp [*, errW_none, errW_some] <;> rfl), impl_parted_auHB⟩
   rw [if_pos c6] at H
   have c6b0 : decide (x11_1 < (l2.length : Int)) = true := decide_eq_true c6
   clear c6
   by_cases c7 : 0 ≤ x11_1
   rotate_left
   ·
    rw [if_neg c7] at H
    exact absurd H (by simp)
   rw [if_pos c7] at H
   have c7b0 : decide (0 ≤ x11_1) = true := decide_eq_true c7
   clear c7
   by_cases c8 : x11_1 < (l2.length : Int)
   rotate_left
   ·
    rw [if_neg c8] at H
    exact absurd H (by simp)
   rw [if_pos c8] at H
   have c8b0 : decide (x11_1 < (l2.length : Int)) = true := decide_eq_true c8
   clear c8
   by_cases c9 : (rd l2 x11_1) ≥ a1_1
   rotate_left
   ·
    rw [if_neg c9] at H
    have c9b0 : decide (a1_1 ≤ (rd l2 x11_1)) = false := decide_eq_false c9
    clear c9
    have H' := Aside0.mk H
    clear H
    have p228 : 0 ≤ (x11_1 : Int) := of_decide_eq_true (by first | (with_reducible assumption) | assumption)
    have q228 : x11_1 < (l2.length : Int) := of_decide_eq_true (by first | (with_reducible assumption) | assumption)
    obtain ⟨ad228, e228, hx228_0⟩ := Kd.at_int HR2.out x11_1 p228 q228
    cases e228
    replace hx228_0 := (HB.out.cell (World.block_lt_of_cell? w _ hx228_0)).trans hx228_0
    replace p228 := eq_true p228
    replace q228 := eq_true q228
    have hnb17 := NB227_226.out
    have hnc17 := NB226_227.out
    have hcz18_0 : wr.cell? ⟨gb227, 0, none⟩ = some (.string a1_0) := (blk_cell BK227.out 0).trans rfl
    have hcz18_1 : wr.cell? ⟨gb227, 1, none⟩ = some (.int .i64 a1_1) := (blk_cell BK227.out 1).trans rfl
    have hcz18_2 : wr.cell? ⟨gb227, 2, none⟩ = some (.int .i64 a1_2) := (blk_cell BK227.out 2).trans rfl
    have hcz18_3 : wr.cell? ⟨gb227, 3, none⟩ = some (.string a1_3) := (blk_cell BK227.out 3).trans rfl
    have hcz18_4 : wr.cell? ⟨gb227, 4, none⟩ = some (.int .i64 a1_4) := (blk_cell BK227.out 4).trans rfl
    have hfz18_0 := blk_frozen BK227.out 0
    have hfz18_1 := blk_frozen BK227.out 1
    have hfz18_2 := blk_frozen BK227.out 2
    have hfz18_3 := blk_frozen BK227.out 3
    have hfz18_4 := blk_frozen BK227.out 4
    go_wp2
    go_roundg k1
    case measure => have := HK1.out; omega
    case rel => exact ⟨(wrap64 (x11_1 + 1)), (by first | rfl | (simp; done) | (simp [*]; done)), H', ⟨by have := HK1.out; omega⟩, ⟨by (with_reducible repeat (first | refine blk_drewN ?_ _ | refine blk_drew ?_ | refine blk_alloc ?_ _)); exact BK226.out⟩, ⟨by (with_reducible repeat (first | refine blk_drewN ?_ _ | refine blk_drew ?_ | refine blk_alloc ?_ _)); exact BK227.out⟩, ⟨impl_parted_auHB⟩⟩
   rw [if_pos c9] at H
   have c9b0 : decide (a1_1 ≤ (rd l2 x11_1)) = true := decide_eq_true c9
   clear c9
   by_cases c10 : (rd l2 x11_1) < a0_1
   ·
    rw [if_pos c10] at H
    have c10b0 : decide ((rd l2 x11_1) < a0_1) = true := decide_eq_true c10
    clear c10
    obtain rfl := Option.some.inj H
    have p228 : 0 ≤ (x11_1 : Int) := of_decide_eq_true (by first | (with_reducible assumption) | assumption)
    have q228 : x11_1 < (l2.length : Int) := of_decide_eq_true (by first | (with_reducible assumption) | assumption)
    obtain ⟨ad228, e228, hx228_0⟩ := Kd.at_int HR2.out x11_1 p228 q228
    cases e228
    replace hx228_0 := (HB.out.cell (World.block_lt_of_cell? w _ hx228_0)).trans hx228_0
    replace p228 := eq_true p228
    replace q228 := eq_true q228
    have hnb11 := NB227_226.out
    have hnc11 := NB226_227.out
    have hcz12_0 : wr.cell? ⟨gb227, 0, none⟩ = some (.string a1_0) := (blk_cell BK227.out 0).trans rfl
    have hcz12_1 : wr.cell? ⟨gb227, 1, none⟩ = some (.int .i64 a1_1) := (blk_cell BK227.out 1).trans rfl
    have hcz12_2 : wr.cell? ⟨gb227, 2, none⟩ = some (.int .i64 a1_2) := (blk_cell BK227.out 2).trans rfl
    have hcz12_3 : wr.cell? ⟨gb227, 3, none⟩ = some (.string a1_3) := (blk_cell BK227.out 3).trans rfl
    have hcz12_4 : wr.cell? ⟨gb227, 4, none⟩ = some (.int .i64 a1_4) := (blk_cell BK227.out 4).trans rfl
    have hfz12_0 := blk_frozen BK227.out 0
    have hfz12_1 := blk_frozen BK227.out 1
    have hfz12_2 := blk_frozen BK227.out 2
    have hfz12_3 := blk_frozen BK227.out 3
    have hfz12_4 := blk_frozen BK227.out 4
    have hcz13_0 : wr.cell? ⟨gb226, 0, none⟩ = some (.string a0_0) := (blk_cell BK226.out 0).trans rfl
    have hcz13_1 : wr.cell? ⟨gb226, 1, none⟩ = some (.int .i64 a0_1) := (blk_cell BK226.out 1).trans rfl
    have hcz13_2 : wr.cell? ⟨gb226, 2, none⟩ = some (.int .i64 a0_2) := (blk_cell BK226.out 2).trans rfl
    have hcz13_3 : wr.cell? ⟨gb226, 3, none⟩ = some (.string a0_3) := (blk_cell BK226.out 3).trans rfl
    have hcz13_4 : wr.cell? ⟨gb226, 4, none⟩ = some (.int .i64 a0_4) := (blk_cell BK226.out 4).trans rfl
    have hfz13_0 := blk_frozen BK226.out 0
    have hfz13_1 := blk_frozen BK226.out 1
    have hfz13_2 := blk_frozen BK226.out 2
    have hfz13_3 := blk_frozen BK226.out 3
    have hfz13_4 := blk_frozen BK226.out 4
    go_wp2
    go_ret
    exact ⟨by first | rfl | (simp [errW_none, errW_some] <;> rfl) | (simp [*, errW_none, errW_some] <;> rfl), impl_parted_auHB⟩
   rw [if_neg c10] at H
   have c10b0 : decide ((rd l2 x11_1) < a0_1) = false := decide_eq_false c10
   clear c10
   have H' := Aside0.mk H
   clear H
   have p228 : 0 ≤ (x11_1 : Int) := of_decide_eq_true (by first | (with_reducible assumption) | assumption)
   have q228 : x11_1 < (l2.length : Int) := of_decide_eq_true (by first | (with_reducible assumption) | assumption)
   obtain ⟨ad228, e228, hx228_0⟩ := Kd.at_int HR2.out x11_1 p228 q228
   cases e228
   replace hx228_0 := (HB.out.cell (World.block_lt_of_cell? w _ hx228_0)).trans hx228_0
   replace p228 := eq_true p228
   replace q228 := eq_true q228
   have hnb14 := NB227_226.out
   have hnc14 := NB226_227.out
   have hcz15_0 : wr.cell? ⟨gb227, 0, none⟩ = some (.string a1_0) := (blk_cell BK227.out 0).trans rfl
   have hcz15_1 : wr.cell? ⟨gb227, 1, none⟩ = some (.int .i64 a1_1) := (blk_cell BK227.out 1).trans rfl
   have hcz15_2 : wr.cell? ⟨gb227, 2, none⟩ = some (.int .i64 a1_2) := (blk_cell BK227.out 2).trans rfl
   have hcz15_3 : wr.cell? ⟨gb227, 3, none⟩ = some (.string a1_3) := (blk_cell BK227.out 3).trans rfl
   have hcz15_4 : wr.cell? ⟨gb227, 4, none⟩ = some (.int .i64 a1_4) := (blk_cell BK227.out 4).trans rfl
   have hfz15_0 := blk_frozen BK227.out 0
   have hfz15_1 := blk_frozen BK227.out 1
   have hfz15_2 := blk_frozen BK227.out 2
   have hfz15_3 := blk_frozen BK227.out 3
   have hfz15_4 := blk_frozen BK227.out 4
   have hcz16_0 : wr.cell? ⟨gb226, 0, none⟩ = some (.string a0_0) := (blk_cell BK226.out 0).trans rfl
   have hcz16_1 : wr.cell? ⟨gb226, 1, none⟩ = some (.int .i64 a0_1) := (blk_cell BK226.out 1).trans rfl
   have hcz16_2 : wr.cell? ⟨gb226, 2, none⟩ = some (.int .i64 a0_2) := (blk_cell BK226.out 2).trans rfl
   have hcz16_3 : wr.cell? ⟨gb226, 3, none⟩ = some (.string a0_3) := (blk_cell BK226.out 3).trans rfl
   have hcz16_4 : wr.cell? ⟨gb226, 4, none⟩ = some (.int .i64 a0_4) := (blk_cell BK226.out 4).trans rfl
   have hfz16_0 := blk_frozen BK226.out 0
   have hfz16_1 := blk_frozen BK226.out 1
   have hfz16_2 := blk_frozen BK226.out 2
   have hfz16_3 := blk_frozen BK226.out 3
   have hfz16_4 := blk_frozen BK226.out 4
   go_wp2
   go_roundg k1
   case measure => have := HK1.out; omega
   case rel => exact ⟨(wrap64 (x11_1 + 1)), (by first | rfl | (simp; done) | (simp [*]; done)), H', ⟨by have := HK1.out; omega⟩, ⟨by (with_reducible repeat (first | refine blk_drewN ?_ _ | refine blk_drew ?_ | refine blk_alloc ?_ _)); exact BK226.out⟩, ⟨by (with_reducible repeat (first | refine blk_drewN ?_ _ | refine blk_drew ?_ | refine blk_alloc ?_ _)); exact BK227.out⟩, ⟨impl_parted_auHB⟩⟩

-- NOT PRINTED: function 79 (impl_classesOf_1)

/-! ### impl_classesOf: function 61 -/
section
attribute [local go_sem] Oper.semAt_some
/-! #### A region that draws its order, inside a wide fence -/
theorem rowsIn_wideW {n : Nat} {P : Program} {row : String} {args : Array Value} {w : World} {R : Value → World → Prop} (h : Rows P row args w R) : RowsIn Fence.wide n P row args w R :=
  fun c cs _ => let ⟨v, w', r, s⟩ := h c cs; ⟨v, w', r, stepsIn_wide.2 s⟩
theorem upon_wide {P : Program} {o : Oper} {a : Act} {K K' : Act → World → Prop} {Q : Exit → Act → World → Prop} {n : Nat} (hout : ∀ a w, Q .outgrown a w → False) (hK : ∀ a w, K a w → K' a w) (r : Result Next) (h : o.upon P a K Q r) :
    o.uponIn Fence.wide n P a K' Q r := by
  cases r with
  | ok x w' =>
    cases x <;> simp only [Oper.upon, Oper.uponIn] at h ⊢ <;> first
      | exact hK _ _ h
      | exact h.elim
      | (refine ⟨(fun h => by cases h), callsIn_wide.2 (Calls.mono h ?_)⟩
         intro e w'' he
         cases e with
         | returned v => exact hK _ _ he
         | panicked c => exact he
         | outgrown => exact he)
      | exact ⟨(fun h => by cases h), rowsIn_wideW (Rows.mono h (fun v w'' he => hK _ _ he))⟩
  | halt x w' => cases x <;> simp only [Oper.upon, Oper.uponIn] at h ⊢ <;> exact h
def noDeferW (ops : Array Oper) : Bool := ops.all fun o => match o.op with | .defer _ => false | _ => true
theorem noDeferW_at {ops : Array Oper} (h : noDeferW ops = true) {i : Nat} {o : Oper} (hi : ops[i]? = some o) : ∀ c, o.op ≠ .defer c := by
  intro c hc
  have hm : o ∈ ops := Array.mem_of_getElem? hi
  have := Array.all_eq_true_iff_forall_mem.1 h o hm
  rw [hc] at this
  cases this
theorem wpAny_wide {P : Program} {md : Region.Mode} {ops : Array Oper} {Q : Exit → Act → World → Prop} {n : Nat} (hout : ∀ a w, Q .outgrown a w → False) (hnd : noDeferW ops = true) : ∀ (fuel : Nat) (listed : Array Bool) (a : Act) (w : World), wpAny P md ops Q fuel listed a w → wpAnyIn Fence.wide n P md ops Q fuel listed a w
  | 0, _, _, _, h => h
  | fuel + 1, listed, a, w, h => by
    refine ⟨h.1, fun i hi => ?_⟩
    have h2 := h.2 i hi
    unfold wpOp at h2
    unfold wpOpIn
    cases ho : ops[i]? with
    | none =>
      rw [ho] at h2
      exact wpAny_wide hout hnd fuel _ _ _ h2
    | some o =>
      rw [ho] at h2
      simp only at h2 ⊢
      split
      · rename_i hw
        rw [if_pos hw] at h2
        rcases h2 with h2 | ⟨_, a', w', h3⟩
        · refine ⟨fun _ _ => trivial, ?_⟩
          rw [Oper.semAt_eq _ _ _ (noDeferW_at hnd ho)]
          exact upon_wide hout (fun a' w' h' => wpAny_wide hout hnd fuel _ a' w' h') _ h2
        · exact (hout a' w' h3).elim
      · rename_i hw
        rw [if_neg hw] at h2
        exact ⟨fun _ _ => trivial, wpAny_wide hout hnd fuel _ _ _ h2⟩
theorem startW_ {P : Program} {ops : Array Oper} {Q : Exit → Act → World → Prop} {S : World → Prop} {ds : List Nat} {id n N : Nat} {a : Act} {w : World} (L : Array Bool) (hm : P.follows .mixedOrders = true) (hn : ops.size = n) (hl : Array.replicate n false = L) (hout : ∀ a w, Q .outgrown a w → False) (hnd : noDeferW ops = true) (hS : S w.drew)
    (h : S w.drew → wpAnyLast P .any ops Q S ds n L a w.drew) : (Code.region id ops true).wpIn Fence.wide N P Q a w := by
  subst hn
  subst hl
  exact wpIn_region_any hm (wpAny_wide hout hnd _ _ _ _ (wpAny_of_last _ _ _ _ (h hS)))
/-- Does one of the kept times part an entry from the newer one ahead of it? -/
def partedB (a b : S48) (snaps : List Int) : Bool := snaps.any fun s => decide (b.f1 ≤ s) && decide (s < a.f1)
theorem parted_l0 (a b : S48) (snaps : List Int) (hl : snaps.length ≤ 9223372036854775807) : ∀ (rest pre : List Int), snaps = pre ++ rest → impl_parted.l0 (rest.length + 1) snaps (snaps.length : Int) (pre.length : Int) a.f0 a.f1 a.f2 a.f3 a.f4 b.f0 b.f1 b.f2 b.f3 b.f4 = some (partedB a b rest) := by
  intro rest
  induction rest with
  | nil =>
    intro pre e
    rw [impl_parted.l0, if_neg (by simp [e])]
    rfl
  | cons x rest ih =>
    intro pre e
    have hs : snaps.length = pre.length + (rest.length + 1) := by rw [e]; simp
    have hx : rd snaps (pre.length : Int) = x := by rw [e]; simp [rd]
    have e1 : wrap64 ((pre.length : Int) + 1) = ((pre ++ [x]).length : Int) := by rw [List.length_append]; unfold wrap64; simp; omega
    have step := ih (pre ++ [x]) (by rw [e]; simp)
    rw [List.length_cons, impl_parted.l0, if_pos (by omega), if_pos (by omega), if_pos (by omega), hx, e1, step]
    by_cases h1 : b.f1 ≤ x
    · by_cases h2 : x < a.f1
      · rw [if_pos h1, if_pos h2]; simp [partedB, h1, h2]
      · rw [if_pos h1, if_neg h2]; simp [partedB, h1, h2]
    · rw [if_neg h1]; simp [partedB, h1]
theorem parted_f (a b : S48) (snaps : List Int) (hl : snaps.length ≤ 9223372036854775807) : impl_parted.f (snaps.length + 1) a.f0 a.f1 a.f2 a.f3 a.f4 b.f0 b.f1 b.f2 b.f3 b.f4 snaps = some (partedB a b snaps) := by
  unfold impl_parted.f
  exact parted_l0 a b snaps hl snaps [] rfl
/-- Where the classes of a key's entries begin and end. -/
def cutAt (ap : Nat → Bool) (n : Nat) : Nat → Nat → Nat → List (Nat × Nat)
  | 0, _, _ => []
  | f + 1, s, i => if i < n ∧ ap i = false then cutAt ap n f s (i + 1) else (s, i) :: cutAt ap n f i (i + 1)
def apAt (xs : List S48) (snaps : List Int) (i : Nat) : Bool := partedB (rd_T48 xs ((i : Int) - 1)) (rd_T48 xs (i : Int)) snaps
def classCuts (xs : List S48) (snaps : List Int) : List (Nat × Nat) := cutAt (apAt xs snaps) xs.length xs.length 0 1
theorem pred_in {i n : Nat} (hi : 1 ≤ i) (h : i < n) : (0 : Int) ≤ ((i - 1 : Nat) : Int) ∧ ((i - 1 : Nat) : Int) < (n : Int) ∧ i - 1 < n := by omega
theorem cls_ar {f i n s : Nat} (hf : i + (f + 1) = n + 1) (hi : 1 ≤ i) (hs : s < i) : i + 1 + f = n + 1 ∧ 1 ≤ i + 1 ∧ s < i + 1 := by omega
theorem cls_ar2 {f i n : Nat} (hf : i + (f + 1) = n + 1) (hi : 1 ≤ i) : i + 1 + f = n + 1 ∧ 1 ≤ i + 1 ∧ i < i + 1 := by omega
theorem cls_me2 {i n : Nat} (h : i ≤ n) : n + 1 - ((i + 1 : Nat) : Int).toNat < n + 1 - ((i : Nat) : Int).toNat := by omega
theorem cls_hle {f i n : Nat} (hf : i + (f + 1) = n + 1) : i ≤ n := by omega
theorem cls_qs {s i n c : Nat} (hs : s < i) (h : i ≤ n) (hc : n ≤ c) : ((0 : Int) ≤ (s : Int)) = True ∧ ((s : Int) ≤ (i : Int)) = True ∧ ((i : Int) ≤ (c : Int)) = True ∧ (s ≤ i) = True ∧ (i ≤ c) = True ∧ ((0 : Int) ≤ (i : Int)) = True :=
  ⟨eq_true (by omega), eq_true (by omega), eq_true (by omega), eq_true (by omega), eq_true (by omega), eq_true (by omega)⟩
theorem cls_me {i n : Nat} (h : i < n) : n + 1 - ((i + 1 : Nat) : Int).toNat < n + 1 - ((i : Nat) : Int).toNat := by omega
theorem w64_pred (i : Nat) (h1 : 1 ≤ i) (h2 : i ≤ 9223372036854775807) : wrap64 ((i : Int) - 1) = ((i - 1 : Nat) : Int) := by unfold wrap64; omega
theorem w64_succ (i : Nat) (h2 : i < 9223372036854775807) : wrap64 ((i : Int) + 1) = ((i + 1 : Nat) : Int) := by unfold wrap64; omega
theorem cutAt_on {ap : Nat → Bool} {n f s i : Nat} (h1 : i < n) (h2 : ap i = false) : cutAt ap n (f + 1) s i = cutAt ap n f s (i + 1) := by rw [cutAt, if_pos ⟨h1, h2⟩]
theorem cutAt_cut {ap : Nat → Bool} {n f s i : Nat} (h : ¬ (i < n ∧ ap i = false)) : cutAt ap n (f + 1) s i = (s, i) :: cutAt ap n f i (i + 1) := by rw [cutAt, if_neg h]
def clsVal (A : Option Addr) (c : Nat) (p : Nat × Nat) : Value := .slice (A.map (·.add (p.1 * 5))) (p.2 - p.1) (c - p.1)
def clsEnc (A : Option Addr) (c : Nat) (p : Nat × Nat) : Array Value := #[clsVal A c p]
/-- What a round that goes on keeps: what lay ahead of block B0, and two boxes. -/
def KeepsTwo (B0 b1 b2 : Nat) (A B : World) : Prop := Below B0 A B ∧ (∀ cs t, A.heap[b1]? = some (.cells cs t (0, 0)) → B.heap[b1]? = some (.cells cs t (0, 0))) ∧ (∀ cs t, A.heap[b2]? = some (.cells cs t (0, 0)) → B.heap[b2]? = some (.cells cs t (0, 0)))
theorem keepsTwo_t {B0 b1 b2 : Nat} {A B C : World} (h : KeepsTwo B0 b1 b2 A B) (k : KeepsTwo B0 b1 b2 B C) : KeepsTwo B0 b1 b2 A C :=
  ⟨h.1.trans k.1, fun cs t e => k.2.1 cs t (h.2.1 cs t e), fun cs t e => k.2.2 cs t (h.2.2 cs t e)⟩
theorem keepsTwo_b {B0 b1 b2 : Nat} {w : World} (hn : B0 ≤ w.heap.size) (W : World) (l : Nat) (o o' : Obj) (hl : w.heap.size ≤ l) (h : W.heap[l]? = some o) (hc : o.isCells = false) (hw : o.isWalk = false) : KeepsTwo B0 b1 b2 W (W.putObj l o') := by
  refine ⟨belowK_b hn W l o o' hl h hc hw, fun cs t e => ?_, fun cs t e => ?_⟩
  · rw [World.putObj_heap_other (by rintro rfl; rw [e] at h; cases h; cases hc)]; exact e
  · rw [World.putObj_heap_other (by rintro rfl; rw [e] at h; cases h; cases hc)]; exact e
theorem abides_below {β : Type} {B : Nat} {J : β → World → Prop} (hJ : AbidesFrom B J) {s : β} {W W' : World} (h : J s W) (hb : Below W.heap.size W W') : J s W' :=
  hJ s W W' none h (grown_of_below hb none) (fun r e => by cases e)
def cls.T : Bool × List (List Nat × List Nat) := (true, [([], []), ([], []), ([1], [1]), ([0, 2], [0, 2]), ([3], [3]), ([4], [4]), ([4], [4]), ([6, 4], [4, 6]), ([5, 7, 4], [4, 5, 7]), ([8, 4], [4, 8]), ([4], [4]), ([4], [4]), ([10, 11, 4], [4, 10, 11]), ([12, 4], [4, 12]), ([4], [4]), ([9, 13, 14, 4, 4], [4, 9, 13, 14]), ([15, 4], [4, 15]), ([4, 16], [4, 16])])
def cls.B : List Nat := [0, 0, 2, 7, 15, 31, 31, 95, 255, 511, 31, 31, 3103, 7199, 31, 32767, 65535, 131071]
theorem cls.tab : rtab .any (opsOf Try.f79 4) = cls.T := by kernel_rfl
theorem cls.bits : waitsOk cls.T.2 cls.B = true := by kernel_rfl
/-- What classesOf hands back: a closure over two boxes. -/
theorem classesOf_calls (A : Option Addr) (m c : Nat) (A2 : Option Addr) (m2 c2 : Nat) (w : World) :
    Calls Try.prog 61 #[.slice A m c, .slice A2 m2 c2] w fun e w' => e = .returned (.func (.func 79) #[] #[.pointer (some ⟨w.heap.size, 0, none⟩), .pointer (some ⟨w.heap.size + 1, 0, none⟩)]) ∧ w' = (w.alloc (.cells #[.slice A m c] 25)).alloc (.cells #[.slice A2 m2 c2] 23) := by
  go_enter Try.func61, Try.ntmps61
  go_wp2
  go_ret
  exact ⟨by simp, rfl⟩
set_option maxRecDepth 100000 in
set_option maxHeartbeats 1000000 in
theorem classesOf1_in (n : Nat) (hn : 3 ≤ n) (l B1 B2 : Nat) (A : Option Addr) (c : Nat) (xs : List S48) (A2 : Option Addr) (c2 : Nat) (snaps : List Int) (w : World) (hr : Kd.C k48 w A xs.length xs) (hc : xs.length ≤ c) (hsm : xs.length < 9223372036854775807) (hr2 : Kd.C (Kd.int .i64) w A2 snaps.length snaps) (hc2 : snaps.length ≤ c2)
    (J Jx : List (Nat × Nat) → World → Prop) (W : World) (hW : Below w.heap.size w W) (hJ : AbidesFrom W.heap.size J)
    (hY : ∀ pre (x : Nat × Nat) W1, J pre W1 → pre.length < (classCuts xs snaps).length → (x.1 < x.2 ∧ x.2 ≤ xs.length) → YieldAt Fence.wide (n - 1) Try.prog l (clsEnc A c x) W1 fun e W' =>
      (e = .returned (.bool true) ∧ J (pre ++ [x]) W' ∧ KeepsTwo w.heap.size B1 B2 W1 W') ∨ (e = .returned (.bool false) ∧ Jx (pre ++ [x]) W'))
    (hb1 : W.heap[B1]? = some (.cells #[.slice A xs.length c] 25 (0, 0))) (hb2 : W.heap[B2]? = some (.cells #[.slice A2 snaps.length c2] 23 (0, 0))) (h0 : J [] W) :
    CallsIn Fence.wide n Try.prog 79 #[.func (.yield l) #[] #[], .pointer (some ⟨B1, 0, none⟩), .pointer (some ⟨B2, 0, none⟩)] W fun e W' => (∃ v, e = .returned v) ∧
      ((∃ ys, ys = classCuts xs snaps ∧ J ys W') ∨ (∃ pre, pre <+: classCuts xs snaps ∧ Jx pre W')) := by
  refine callsIn_of_wp Try.func79 rfl trivial ?_ rfl
  simp only [Try.ntmps79, List.size_toArray, List.length_cons, List.length_nil, Nat.reduceAdd, Nat.reduceSub, Array.replicate_succ, Array.replicate_zero, List.push_toArray, List.append_toArray, List.nil_append, List.cons_append]
  have hlen : xs.length ≤ 9223372036854775807 := hr.2.1
  have hlen2 : snaps.length ≤ 9223372036854775807 := hr2.2.1
  gi_wp2
  gi_loopw [4, 5] (fun v4 v5 wr => ∃ (f s i : Nat) (pre : List (Nat × Nat)), v4 = .int .i64 (s : Nat) ∧ v5 = .int .i64 (i : Nat) ∧ (pre ++ cutAt (apAt xs snaps) xs.length f s i = classCuts xs snaps ∧ i + f = xs.length + 1 ∧ 1 ≤ i ∧ s < i) ∧ Below w.heap.size w wr ∧ (wr.heap[B1]? = some (.cells #[.slice A xs.length c] 25 (0, 0)) ∧ wr.heap[B2]? = some (.cells #[.slice A2 snaps.length c2] 23 (0, 0))) ∧ J pre wr) (fun _ v5 _ => xs.length + 1 - (intOf v5).toNat)
  case atStart => exact ⟨xs.length, 0, 1, [], rfl, rfl, ⟨rfl, by omega, by omega, by omega⟩, hW, ⟨hb1, hb2⟩, h0⟩
  case round =>
    clear hW hb1 hb2 h0
    obtain ⟨f, s, i, pre, rfl, rfl, ⟨hx, hf, hi, hs⟩, hB, ⟨hb1, hb2⟩, hJs⟩ := hrel
    have q1 := (blk_cell hb1 0).trans (show _ = some (Value.slice A xs.length c) from rfl)
    have q2 := (blk_cell hb2 0).trans (show _ = some (Value.slice A2 snaps.length c2) from rfl)
    cases f with
    | zero =>
      have d1 : decide ((i : Int) ≤ (xs.length : Int)) = false := decide_eq_false (by omega)
      have d2 : decide (i ≤ xs.length) = false := decide_eq_false (by omega)
      have HX := Aside0.mk hx
      clear hx
      gi_wp2
      go_end0
      have hx := HX.out
      exact ⟨⟨_, rfl⟩, .inl ⟨_, rfl, by rw [← hx]; simpa [cutAt] using hJs⟩⟩
    | succ f =>
      have d1 : decide ((i : Int) ≤ (xs.length : Int)) = true := decide_eq_true (by omega)
      have d2 : decide (i ≤ xs.length) = true := decide_eq_true (by omega)
      by_cases hlt : i < xs.length
      · have d3 : decide ((i : Int) < (xs.length : Int)) = true := decide_eq_true (by omega)
        have d4 : decide (i < xs.length) = true := decide_eq_true hlt
        obtain ⟨ea, hea⟩ : ∃ ea, rd_T48 xs ((i : Int) - 1) = ea := ⟨_, rfl⟩
        obtain ⟨eb, heb⟩ : ∃ eb, rd_T48 xs (i : Int) = eb := ⟨_, rfl⟩
        have p0 : (0 : Int) ≤ (i : Int) - 1 := by omega
        have p1 : (i : Int) - 1 < (xs.length : Int) := by omega
        have p2 : (0 : Int) ≤ (i : Int) := by omega
        have p3 : (i : Int) < (xs.length : Int) := by omega
        obtain ⟨ad, e0, a0, a1, a2, a3, a4⟩ := at_T48 hr ((i : Int) - 1) p0 p1
        obtain ⟨ad2, e1, b0, b1, b2, b3, b4⟩ := at_T48 hr (i : Int) p2 p3
        rw [hea] at a0 a1 a2 a3 a4
        rw [heb] at b0 b1 b2 b3 b4
        subst e0
        cases e1
        have et : ((i : Int) - 1).toNat = i - 1 := by omega
        rw [et] at a0 a1 a2 a3 a4
        rw [Int.toNat_natCast] at b0 b1 b2 b3 b4
        replace a0 := (hB.cell (World.block_lt_of_cell? w _ a0)).trans a0
        replace a1 := (hB.cell (World.block_lt_of_cell? w _ a1)).trans a1
        replace a2 := (hB.cell (World.block_lt_of_cell? w _ a2)).trans a2
        replace a3 := (hB.cell (World.block_lt_of_cell? w _ a3)).trans a3
        replace a4 := (hB.cell (World.block_lt_of_cell? w _ a4)).trans a4
        replace b0 := (hB.cell (World.block_lt_of_cell? w _ b0)).trans b0
        replace b1 := (hB.cell (World.block_lt_of_cell? w _ b1)).trans b1
        replace b2 := (hB.cell (World.block_lt_of_cell? w _ b2)).trans b2
        replace b3 := (hB.cell (World.block_lt_of_cell? w _ b3)).trans b3
        replace b4 := (hB.cell (World.block_lt_of_cell? w _ b4)).trans b4
        have ew := w64_pred i hi (by omega)
        have es := w64_succ i (by omega)
        obtain ⟨b, hb⟩ : ∃ b, partedB ea eb snaps = b := ⟨_, rfl⟩
        have hap : apAt xs snaps i = b := by unfold apAt; rw [hea, heb, hb]
        have hP := parted_f ea eb snaps hlen2
        rw [hb] at hP
        clear hb
        have HP := Aside0.mk hP
        have HX := Aside0.mk hx
        have HAP := Aside0.mk hap
        have HR2 := Aside0.mk (Kd.C_below hr2 hB)
        clear hx hP hap hea heb
        obtain ⟨ha0, ha1, ha2⟩ := pred_in hi hlt
        have hb0 : (0 : Int) ≤ (i : Int) := by omega
        have hb1' : (i : Int) < (xs.length : Int) := by omega
        have hb2' : i < xs.length := by omega
        replace ha0 := eq_true ha0
        replace ha1 := eq_true ha1
        replace ha2 := eq_true ha2
        replace hb0 := eq_true hb0
        replace hb1' := eq_true hb1'
        replace hb2' := eq_true hb2'
        gi_wp2
        rename_i hK
        refine startW_ (n := 18) (S := fun w' => w'.cell? ⟨B1, 0, none⟩ = some (.slice (some ad) xs.length c) ∧ w'.cell? ⟨B2, 0, none⟩ = some (.slice A2 snaps.length c2) ∧ w'.cell? (ad.add ((i - 1) * 5)) = some (.string ea.f0) ∧ w'.cell? (⟨(ad.add ((i - 1) * 5)).block, (ad.add ((i - 1) * 5)).off + 1, none⟩) = some (.int .i64 ea.f1) ∧ w'.cell? (⟨(ad.add ((i - 1) * 5)).block, (ad.add ((i - 1) * 5)).off + 2, none⟩) = some (.int .i64 ea.f2) ∧ w'.cell? (⟨(ad.add ((i - 1) * 5)).block, (ad.add ((i - 1) * 5)).off + 3, none⟩) = some (.string ea.f3) ∧ w'.cell? (⟨(ad.add ((i - 1) * 5)).block, (ad.add ((i - 1) * 5)).off + 4, none⟩) = some (.int .i64 ea.f4) ∧ w'.cell? (ad.add (i * 5)) = some (.string eb.f0) ∧ w'.cell? (⟨(ad.add (i * 5)).block, (ad.add (i * 5)).off + 1, none⟩) = some (.int .i64 eb.f1) ∧ w'.cell? (⟨(ad.add (i * 5)).block, (ad.add (i * 5)).off + 2, none⟩) = some (.int .i64 eb.f2) ∧ w'.cell? (⟨(ad.add (i * 5)).block, (ad.add (i * 5)).off + 3, none⟩) = some (.string eb.f3) ∧ w'.cell? (⟨(ad.add (i * 5)).block, (ad.add (i * 5)).off + 4, none⟩) = some (.int .i64 eb.f4)) (ds := []) #[false, false, false, false, false, false, false, false, false, false, false, false, false, false, false, false, false, false] (by kernel_rfl) rfl rfl (fun _ _ h => by obtain ⟨⟨v, hv⟩, _⟩ := h; cases hv) (by kernel_rfl) ⟨q1, q2, a0, a1, a2, a3, a4, b0, b1, b2, b3, b4⟩ (fun hHeld => ?_)
        refine with_tabW cls.tab cls.bits (fun HT_ HW_ => ?_)
        refine pure_ (i := 0) (N := some 12) (v := ?_) (a' := ?_) #[true, false, false, false, false, false, false, false, false, false, false, false, false, false, false, false, false, false] rfl rfl (any_of HT_.out (by kernel_rfl)) (fun _ _ _ h => h) (Or.inl ⟨by rfl, ?_⟩) ?_ ?_
        rotate_left
        · intro w'
          go_simp
          with_reducible rfl
        rotate_left
        · simp only [Act.put, List.setIfInBounds_toArray, List.set_cons_zero, List.set_cons_succ, i64_w, i32_w]
          rfl
        refine take_ (i := 1) (N := some 13) (v := ?_) (a' := ?_) #[true, true, false, false, false, false, false, false, false, false, false, false, false, false, false, false, false, false] rfl rfl (take_ofW HT_.out HW_.out (by kernel_rfl)) (fun _ _ _ h => h) (Or.inl ⟨by rfl, ?_⟩) hHeld ?_ ?_
        rotate_left
        · rintro w' ⟨s0, s1, s2, s3, s4, s5, s6, s7, s8, s9, s10, s11⟩
          go_simp
          with_reducible rfl
        rotate_left
        · simp only [Act.put, List.setIfInBounds_toArray, List.set_cons_zero, List.set_cons_succ, i64_w, i32_w]
          rfl
        refine pure_ (i := 2) (N := some 14) (v := ?_) (a' := ?_) #[true, true, true, false, false, false, false, false, false, false, false, false, false, false, false, false, false, false] rfl rfl (any_of HT_.out (by kernel_rfl)) (fun _ _ _ h => h) (Or.inl ⟨by rfl, ?_⟩) ?_ ?_
        rotate_left
        · intro w'
          go_simp
          with_reducible rfl
        rotate_left
        · simp only [Act.put, List.setIfInBounds_toArray, List.set_cons_zero, List.set_cons_succ, i64_w, i32_w]
          rfl
        refine pure_ (i := 3) (N := some 15) (v := ?_) (a' := ?_) #[true, true, true, true, false, false, false, false, false, false, false, false, false, false, false, false, false, false] rfl rfl (any_of HT_.out (by kernel_rfl)) (fun _ _ _ h => h) (Or.inl ⟨by rfl, ?_⟩) ?_ ?_
        rotate_left
        · intro w'
          go_simp
          with_reducible rfl
        rotate_left
        · simp only [Act.put, List.setIfInBounds_toArray, List.set_cons_zero, List.set_cons_succ, i64_w, i32_w]
          rfl
        refine pure_ (i := 4) (N := some 16) (v := ?_) (a' := ?_) #[true, true, true, true, true, false, false, false, false, false, false, false, false, false, false, false, false, false] rfl rfl (any_of HT_.out (by kernel_rfl)) (fun _ _ _ h => h) (Or.inl ⟨by rfl, ?_⟩) ?_ ?_
        rotate_left
        · intro w'
          go_simp
          with_reducible rfl
        rotate_left
        · simp only [Act.put, List.setIfInBounds_toArray, List.set_cons_zero, List.set_cons_succ, i64_w, i32_w]
          rfl
        refine take_ (i := 5) (N := some 17) (v := ?_) (a' := ?_) #[true, true, true, true, true, true, false, false, false, false, false, false, false, false, false, false, false, false] rfl rfl (take_ofW HT_.out HW_.out (by kernel_rfl)) (fun _ _ _ h => h) (Or.inl ⟨by rfl, ?_⟩) hHeld ?_ ?_
        rotate_left
        · rintro w' ⟨s0, s1, s2, s3, s4, s5, s6, s7, s8, s9, s10, s11⟩
          go_simp
          with_reducible rfl
        rotate_left
        · simp only [Act.put, List.setIfInBounds_toArray, List.set_cons_zero, List.set_cons_succ, i64_w, i32_w]
          rfl
        refine pure_ (i := 6) (N := some 18) (v := ?_) (a' := ?_) #[true, true, true, true, true, true, true, false, false, false, false, false, false, false, false, false, false, false] rfl rfl (any_of HT_.out (by kernel_rfl)) (fun _ _ _ h => h) (Or.inl ⟨by rfl, ?_⟩) ?_ ?_
        rotate_left
        · intro w'
          go_simp
          with_reducible rfl
        rotate_left
        · simp only [Act.put, List.setIfInBounds_toArray, List.set_cons_zero, List.set_cons_succ, i64_w, i32_w]
          rfl
        refine pure_ (i := 7) (N := some 19) (v := ?_) (a' := ?_) #[true, true, true, true, true, true, true, true, false, false, false, false, false, false, false, false, false, false] rfl rfl (any_of HT_.out (by kernel_rfl)) (fun _ _ _ h => h) (Or.inl ⟨by rfl, ?_⟩) ?_ ?_
        rotate_left
        · intro w'
          go_simp
          with_reducible rfl
        rotate_left
        · simp only [Act.put, List.setIfInBounds_toArray, List.set_cons_zero, List.set_cons_succ, i64_w, i32_w]
          rfl
        refine pure_ (i := 8) (N := some 20) (v := ?_) (a' := ?_) #[true, true, true, true, true, true, true, true, true, false, false, false, false, false, false, false, false, false] rfl rfl (any_of HT_.out (by kernel_rfl)) (fun _ _ _ h => h) (Or.inl ⟨by rfl, ?_⟩) ?_ ?_
        rotate_left
        · intro w'
          go_simp
          with_reducible rfl
        rotate_left
        · simp only [Act.put, List.setIfInBounds_toArray, List.set_cons_zero, List.set_cons_succ, i64_w, i32_w]
          rfl
        refine take_ (i := 9) (N := some 21) (v := ?_) (a' := ?_) #[true, true, true, true, true, true, true, true, true, true, false, false, false, false, false, false, false, false] rfl rfl (take_ofW HT_.out HW_.out (by kernel_rfl)) (fun _ _ _ h => h) (Or.inl ⟨by rfl, ?_⟩) hHeld ?_ ?_
        rotate_left
        · rintro w' ⟨s0, s1, s2, s3, s4, s5, s6, s7, s8, s9, s10, s11⟩
          go_simp
          with_reducible rfl
        rotate_left
        · simp only [Act.put, List.setIfInBounds_toArray, List.set_cons_zero, List.set_cons_succ, i64_w, i32_w]
          rfl
        refine take_ (i := 10) (N := some 22) (v := ?_) (a' := ?_) #[true, true, true, true, true, true, true, true, true, true, true, false, false, false, false, false, false, false] rfl rfl (take_ofW HT_.out HW_.out (by kernel_rfl)) (fun _ _ _ h => h) (Or.inl ⟨by rfl, ?_⟩) hHeld ?_ ?_
        rotate_left
        · rintro w' ⟨s0, s1, s2, s3, s4, s5, s6, s7, s8, s9, s10, s11⟩
          go_simp
          with_reducible rfl
        rotate_left
        · simp only [Act.put, List.setIfInBounds_toArray, List.set_cons_zero, List.set_cons_succ, i64_w, i32_w]
          rfl
        refine pure_ (i := 11) (N := some 23) (v := ?_) (a' := ?_) #[true, true, true, true, true, true, true, true, true, true, true, true, false, false, false, false, false, false] rfl rfl (any_of HT_.out (by kernel_rfl)) (fun _ _ _ h => h) (Or.inl ⟨by rfl, ?_⟩) ?_ ?_
        rotate_left
        · intro w'
          go_simp
          with_reducible rfl
        rotate_left
        · simp only [Act.put, List.setIfInBounds_toArray, List.set_cons_zero, List.set_cons_succ, i64_w, i32_w]
          rfl
        refine pure_ (i := 12) (N := some 24) (v := ?_) (a' := ?_) #[true, true, true, true, true, true, true, true, true, true, true, true, true, false, false, false, false, false] rfl rfl (any_of HT_.out (by kernel_rfl)) (fun _ _ _ h => h) (Or.inl ⟨by rfl, ?_⟩) ?_ ?_
        rotate_left
        · intro w'
          go_simp
          with_reducible rfl
        rotate_left
        · simp only [Act.put, List.setIfInBounds_toArray, List.set_cons_zero, List.set_cons_succ, i64_w, i32_w]
          rfl
        refine take_ (i := 13) (N := some 25) (v := ?_) (a' := ?_) #[true, true, true, true, true, true, true, true, true, true, true, true, true, true, false, false, false, false] rfl rfl (take_ofW HT_.out HW_.out (by kernel_rfl)) (fun _ _ _ h => h) (Or.inl ⟨by rfl, ?_⟩) hHeld ?_ ?_
        rotate_left
        · rintro w' ⟨s0, s1, s2, s3, s4, s5, s6, s7, s8, s9, s10, s11⟩
          go_simp
          with_reducible rfl
        rotate_left
        · simp only [Act.put, List.setIfInBounds_toArray, List.set_cons_zero, List.set_cons_succ, i64_w, i32_w]
          rfl
        refine take_ (i := 14) (N := some 26) (v := ?_) (a' := ?_) #[true, true, true, true, true, true, true, true, true, true, true, true, true, true, true, false, false, false] rfl rfl (take_ofW HT_.out HW_.out (by kernel_rfl)) (fun _ _ _ h => h) (Or.inl ⟨by rfl, ?_⟩) hHeld ?_ ?_
        rotate_left
        · rintro w' ⟨s0, s1, s2, s3, s4, s5, s6, s7, s8, s9, s10, s11⟩
          go_simp
          with_reducible rfl
        rotate_left
        · simp only [Act.put, List.setIfInBounds_toArray, List.set_cons_zero, List.set_cons_succ, i64_w, i32_w]
          rfl
        refine one_ (i := 15) (N := some 27) #[true, true, true, true, true, true, true, true, true, true, true, true, true, true, true, true, false, false] rfl rfl (one_of HT_.out (by kernel_rfl)) (by decide) (fun K hK => ?_)
        refine goes_ Try.func80 (by kernel_rfl) rfl #[.agg #[.string ea.f0, .int .i64 ea.f1, .int .i64 ea.f2, .string ea.f3, .int .i64 ea.f4], .agg #[.string eb.f0, .int .i64 eb.f1, .int .i64 eb.f2, .string eb.f3, .int .i64 eb.f4], .slice A2 snaps.length c2] (by rfl) rfl rfl (by (try simp only [List.map_toArray, List.map_cons, List.map_nil]); first | done | rfl) ?_
        refine (impl_parted.calls _ _ _ _ _ _ _ _ _ _ _ A2 c2 snaps _ _ (Kd.C_drew HR2.out) hc2 HP.out).mono ?_
        rintro e w2 ⟨rfl, hb⟩
        refine ⟨_, rfl, ?_⟩
        have hBd : Below wr.heap.size wr w2 := (Below.refl _ _).drew.trans hb
        have HW2 := Aside0.mk hBd
        have bcs : ∀ {q : Addr} {v : Value}, wr.cell? q = some v → w2.cell? q = some v := fun h => (hBd.cell (World.block_lt_of_cell? _ _ h)).trans h
        refine hK.out _ _ ⟨bcs q1, bcs q2, bcs a0, bcs a1, bcs a2, bcs a3, bcs a4, bcs b0, bcs b1, bcs b2, bcs b3, bcs b4⟩ (fun hHeld => ?_)
        clear hK K
        refine norm_ (a' := ?_) ?_ ?_
        rotate_left
        · show Act.put _ (some 27) _ = _
          simp only [Act.put, List.setIfInBounds_toArray, List.set_cons_zero, List.set_cons_succ, i64_w, i32_w]
          rfl
        refine pure_ (i := 16) (N := some 28) (v := ?_) (a' := ?_) #[true, true, true, true, true, true, true, true, true, true, true, true, true, true, true, true, true, false] rfl rfl (any_of HT_.out (by kernel_rfl)) (fun _ _ _ h => h) (Or.inl ⟨by rfl, ?_⟩) ?_ ?_
        rotate_left
        · intro w'
          go_simp
          with_reducible rfl
        rotate_left
        · simp only [Act.put, List.setIfInBounds_toArray, List.set_cons_zero, List.set_cons_succ, i64_w, i32_w]
          rfl
        refine pure_ (i := 17) (N := some 29) (v := ?_) (a' := ?_) #[true, true, true, true, true, true, true, true, true, true, true, true, true, true, true, true, true, true] rfl rfl (any_of HT_.out (by kernel_rfl)) (fun _ _ _ h => h) (Or.inl ⟨by rfl, ?_⟩) ?_ ?_
        rotate_left
        · intro w'
          go_simp
          with_reducible rfl
        rotate_left
        · simp only [Act.put, List.setIfInBounds_toArray, List.set_cons_zero, List.set_cons_succ, i64_w, i32_w]
          rfl
        refine done_ (done_of HT_.out (by kernel_rfl)) ?_
        have m1 := blk_below hb1 HW2.out
        have m2 := blk_below hb2 HW2.out
        have HJ2 := Aside0.mk (abides_below hJ hJs HW2.out)
        have HB2 := Aside0.mk (hB.trans (HW2.out.mono hB.size))
        have r1 := (blk_cell m1 0).trans (show _ = some (Value.slice (some ad) xs.length c) from rfl)
        have M1 := Aside0.mk m1
        have M2 := Aside0.mk m2
        clear a0 a1 a2 a3 a4 b0 b1 b2 b3 b4 q1 q2 hb1 hb2 hHeld bcs hBd hb m1 m2 hJs hB HR2 HP HW2 ha0 ha1 ha2 hb0 hb1' hb2' ew d1 d2 d3 d4 p0 p1 p2 p3
        clear hHeld HT_ HW_ et
        cases b with
        | false =>
          refine hK _ _ ?_
          clear hK
          gi_wp2
          go_roundw
          case rel => exact ⟨f, s, i + 1, pre, rfl, (by first | rfl | rw [es]), ⟨by rw [← HX.out, cutAt_on hlt HAP.out], cls_ar hf hi hs⟩, HB2.out, ⟨M1.out, M2.out⟩, HJ2.out⟩
          case measure => exact cls_me hlt
        | true =>
          refine hK _ _ ?_
          clear hK
          have hJ2 : J pre w2 := HJ2.out
          have hle : i ≤ xs.length := Nat.le_of_lt hlt
          have hlen3 : pre.length < (classCuts xs snaps).length := by rw [← HX.out, cutAt_cut (by rw [HAP.out]; simp)]; simp
          obtain ⟨fn, tmps, assign, body, hy, hR⟩ := hY pre (s, i) w2 hJ2 hlen3 ⟨hs, hle⟩
          clear hJ2 hlen3
          obtain ⟨qs0, qs1, qs2, qs3, qs4, qs5⟩ := cls_qs hs hle hc
          dsimp only [clsEnc, clsVal, Option.map] at hy
          gi_wp2
          refine ⟨fun _ => (by clear es hlen hlen2 hsm hc hc2 hf hi hs hle hlt HX; omega), hR.mono ?_⟩
          rintro e W3 (⟨rfl, hJ3, hk3⟩ | ⟨rfl, hJx3⟩)
          · clear hy hR
            have hB3 := Aside0.mk (HB2.out.trans hk3.1)
            have N1 := Aside0.mk (hk3.2.1 _ _ M1.out)
            have N2 := Aside0.mk (hk3.2.2 _ _ M2.out)
            have NJ := Aside0.mk hJ3
            clear hk3 hJ3 r1 qs0 qs1 qs2 qs3 qs4 qs5
            gi_wp2
            go_roundw
            case rel => exact ⟨f, i, i + 1, pre ++ [(s, i)], rfl, (by first | rfl | rw [es]), ⟨by rw [← HX.out, cutAt_cut (by rw [HAP.out]; simp)]; simp, cls_ar2 hf hi⟩, hB3.out, ⟨N1.out, N2.out⟩, NJ.out⟩
            case measure => exact cls_me2 hle
          · clear hy hR
            gi_wp2
            refine bodyPost_ret (results_none rfl _ _ _) rfl ?_
            exact ⟨⟨_, rfl⟩, .inr ⟨pre ++ [(s, i)], ⟨cutAt (apAt xs snaps) xs.length f i (i + 1), by rw [← HX.out, cutAt_cut (by rw [HAP.out]; simp)]; simp⟩, hJx3⟩⟩
      · have d3 : decide ((i : Int) < (xs.length : Int)) = false := decide_eq_false (by omega)
        have d4 : decide (i < xs.length) = false := decide_eq_false hlt
        gi_wp2
        rename_i hK
        refine startW_ (n := 18) (S := fun w' => w'.cell? ⟨B1, 0, none⟩ = some (.slice A xs.length c)) (ds := []) #[false, false, false, false, false, false, false, false, false, false, false, false, false, false, false, false, false, false] (by kernel_rfl) rfl rfl (fun _ _ h => by obtain ⟨⟨v, hv⟩, _⟩ := h; cases hv) (by kernel_rfl) q1 (fun hHeld => ?_)
        refine with_tabW cls.tab cls.bits (fun HT_ HW_ => ?_)
        refine pure_ (i := 0) (N := some 12) (v := ?_) (a' := ?_) #[true, false, false, false, false, false, false, false, false, false, false, false, false, false, false, false, false, false] rfl rfl (any_of HT_.out (by kernel_rfl)) (fun _ _ _ h => h) (Or.inl ⟨by rfl, ?_⟩) ?_ ?_
        rotate_left
        · intro w'
          go_simp
          with_reducible rfl
        rotate_left
        · simp only [Act.put, List.setIfInBounds_toArray, List.set_cons_zero, List.set_cons_succ, i64_w, i32_w]
          rfl
        refine take_ (i := 1) (N := some 13) (v := ?_) (a' := ?_) #[true, true, false, false, false, false, false, false, false, false, false, false, false, false, false, false, false, false] rfl rfl (take_ofW HT_.out HW_.out (by kernel_rfl)) (fun _ _ _ h => h) (Or.inl ⟨by rfl, ?_⟩) hHeld ?_ ?_
        rotate_left
        · rintro w' s0
          go_simp
          with_reducible rfl
        rotate_left
        · simp only [Act.put, List.setIfInBounds_toArray, List.set_cons_zero, List.set_cons_succ, i64_w, i32_w]
          rfl
        refine pure_ (i := 2) (N := some 14) (v := ?_) (a' := ?_) #[true, true, true, false, false, false, false, false, false, false, false, false, false, false, false, false, false, false] rfl rfl (any_of HT_.out (by kernel_rfl)) (fun _ _ _ h => h) (Or.inl ⟨by rfl, ?_⟩) ?_ ?_
        rotate_left
        · intro w'
          go_simp
          with_reducible rfl
        rotate_left
        · simp only [Act.put, List.setIfInBounds_toArray, List.set_cons_zero, List.set_cons_succ, i64_w, i32_w]
          rfl
        refine pure_ (i := 3) (N := some 15) (v := ?_) (a' := ?_) #[true, true, true, true, false, false, false, false, false, false, false, false, false, false, false, false, false, false] rfl rfl (any_of HT_.out (by kernel_rfl)) (fun _ _ _ h => h) (Or.inl ⟨by rfl, ?_⟩) ?_ ?_
        rotate_left
        · intro w'
          go_simp
          with_reducible rfl
        rotate_left
        · simp only [Act.put, List.setIfInBounds_toArray, List.set_cons_zero, List.set_cons_succ, i64_w, i32_w]
          rfl
        refine pure_ (i := 4) (N := some 16) (v := ?_) (a' := ?_) #[true, true, true, true, true, false, false, false, false, false, false, false, false, false, false, false, false, false] rfl rfl (any_of HT_.out (by kernel_rfl)) (fun _ _ _ h => h) (Or.inl ⟨by rfl, ?_⟩) ?_ ?_
        rotate_left
        · intro w'
          go_simp
          with_reducible rfl
        rotate_left
        · simp only [Act.put, List.setIfInBounds_toArray, List.set_cons_zero, List.set_cons_succ, i64_w, i32_w]
          rfl
        refine pure_ (i := 5) (N := some 17) (v := undef) (a' := ?_) #[true, true, true, true, true, true, false, false, false, false, false, false, false, false, false, false, false, false] rfl rfl (any_of HT_.out (by kernel_rfl)) (fun _ _ _ h => h) (Or.inr ⟨by rfl, rfl⟩) ?_ ?_
        rotate_left
        · simp only [Act.put, List.setIfInBounds_toArray, List.set_cons_zero, List.set_cons_succ, i64_w, i32_w]
          rfl
        refine pure_ (i := 6) (N := some 18) (v := undef) (a' := ?_) #[true, true, true, true, true, true, true, false, false, false, false, false, false, false, false, false, false, false] rfl rfl (any_of HT_.out (by kernel_rfl)) (fun _ _ _ h => h) (Or.inr ⟨by rfl, rfl⟩) ?_ ?_
        rotate_left
        · simp only [Act.put, List.setIfInBounds_toArray, List.set_cons_zero, List.set_cons_succ, i64_w, i32_w]
          rfl
        refine pure_ (i := 7) (N := some 19) (v := undef) (a' := ?_) #[true, true, true, true, true, true, true, true, false, false, false, false, false, false, false, false, false, false] rfl rfl (any_of HT_.out (by kernel_rfl)) (fun _ _ _ h => h) (Or.inr ⟨by rfl, rfl⟩) ?_ ?_
        rotate_left
        · simp only [Act.put, List.setIfInBounds_toArray, List.set_cons_zero, List.set_cons_succ, i64_w, i32_w]
          rfl
        refine pure_ (i := 8) (N := some 20) (v := undef) (a' := ?_) #[true, true, true, true, true, true, true, true, true, false, false, false, false, false, false, false, false, false] rfl rfl (any_of HT_.out (by kernel_rfl)) (fun _ _ _ h => h) (Or.inr ⟨by rfl, rfl⟩) ?_ ?_
        rotate_left
        · simp only [Act.put, List.setIfInBounds_toArray, List.set_cons_zero, List.set_cons_succ, i64_w, i32_w]
          rfl
        refine pure_ (i := 9) (N := some 21) (v := undef) (a' := ?_) #[true, true, true, true, true, true, true, true, true, true, false, false, false, false, false, false, false, false] rfl rfl (any_of HT_.out (by kernel_rfl)) (fun _ _ _ h => h) (Or.inr ⟨by rfl, rfl⟩) ?_ ?_
        rotate_left
        · simp only [Act.put, List.setIfInBounds_toArray, List.set_cons_zero, List.set_cons_succ, i64_w, i32_w]
          rfl
        refine pure_ (i := 10) (N := some 22) (v := undef) (a' := ?_) #[true, true, true, true, true, true, true, true, true, true, true, false, false, false, false, false, false, false] rfl rfl (any_of HT_.out (by kernel_rfl)) (fun _ _ _ h => h) (Or.inr ⟨by rfl, rfl⟩) ?_ ?_
        rotate_left
        · simp only [Act.put, List.setIfInBounds_toArray, List.set_cons_zero, List.set_cons_succ, i64_w, i32_w]
          rfl
        refine pure_ (i := 11) (N := some 23) (v := undef) (a' := ?_) #[true, true, true, true, true, true, true, true, true, true, true, true, false, false, false, false, false, false] rfl rfl (any_of HT_.out (by kernel_rfl)) (fun _ _ _ h => h) (Or.inr ⟨by rfl, rfl⟩) ?_ ?_
        rotate_left
        · simp only [Act.put, List.setIfInBounds_toArray, List.set_cons_zero, List.set_cons_succ, i64_w, i32_w]
          rfl
        refine pure_ (i := 12) (N := some 24) (v := undef) (a' := ?_) #[true, true, true, true, true, true, true, true, true, true, true, true, true, false, false, false, false, false] rfl rfl (any_of HT_.out (by kernel_rfl)) (fun _ _ _ h => h) (Or.inr ⟨by rfl, rfl⟩) ?_ ?_
        rotate_left
        · simp only [Act.put, List.setIfInBounds_toArray, List.set_cons_zero, List.set_cons_succ, i64_w, i32_w]
          rfl
        refine pure_ (i := 13) (N := some 25) (v := undef) (a' := ?_) #[true, true, true, true, true, true, true, true, true, true, true, true, true, true, false, false, false, false] rfl rfl (any_of HT_.out (by kernel_rfl)) (fun _ _ _ h => h) (Or.inr ⟨by rfl, rfl⟩) ?_ ?_
        rotate_left
        · simp only [Act.put, List.setIfInBounds_toArray, List.set_cons_zero, List.set_cons_succ, i64_w, i32_w]
          rfl
        refine pure_ (i := 14) (N := some 26) (v := undef) (a' := ?_) #[true, true, true, true, true, true, true, true, true, true, true, true, true, true, true, false, false, false] rfl rfl (any_of HT_.out (by kernel_rfl)) (fun _ _ _ h => h) (Or.inr ⟨by rfl, rfl⟩) ?_ ?_
        rotate_left
        · simp only [Act.put, List.setIfInBounds_toArray, List.set_cons_zero, List.set_cons_succ, i64_w, i32_w]
          rfl
        refine pure_ (i := 15) (N := some 27) (v := undef) (a' := ?_) #[true, true, true, true, true, true, true, true, true, true, true, true, true, true, true, true, false, false] rfl rfl (any_of HT_.out (by kernel_rfl)) (fun _ _ _ h => h) (Or.inr ⟨by rfl, rfl⟩) ?_ ?_
        rotate_left
        · simp only [Act.put, List.setIfInBounds_toArray, List.set_cons_zero, List.set_cons_succ, i64_w, i32_w]
          rfl
        refine pure_ (i := 16) (N := some 28) (v := undef) (a' := ?_) #[true, true, true, true, true, true, true, true, true, true, true, true, true, true, true, true, true, false] rfl rfl (any_of HT_.out (by kernel_rfl)) (fun _ _ _ h => h) (Or.inr ⟨by rfl, rfl⟩) ?_ ?_
        rotate_left
        · simp only [Act.put, List.setIfInBounds_toArray, List.set_cons_zero, List.set_cons_succ, i64_w, i32_w]
          rfl
        refine pure_ (i := 17) (N := some 29) (v := ?_) (a' := ?_) #[true, true, true, true, true, true, true, true, true, true, true, true, true, true, true, true, true, true] rfl rfl (any_of HT_.out (by kernel_rfl)) (fun _ _ _ h => h) (Or.inl ⟨by rfl, ?_⟩) ?_ ?_
        rotate_left
        · intro w'
          go_simp
          with_reducible rfl
        rotate_left
        · simp only [Act.put, List.setIfInBounds_toArray, List.set_cons_zero, List.set_cons_succ, i64_w, i32_w]
          rfl
        refine done_ (done_of HT_.out (by kernel_rfl)) ?_
        clear hHeld HT_ HW_
        refine hK _ _ ?_
        clear hK
        have hle : i ≤ xs.length := cls_hle hf
        have HX := Aside0.mk hx
        have HB2 := Aside0.mk (show Below w.heap.size w wr.drew from ⟨hB.os, hB.tape, hB.output, hB.size, hB.block⟩)
        have M1 := Aside0.mk (blk_drew hb1)
        have M2 := Aside0.mk (blk_drew hb2)
        have hJ2 : J pre wr.drew := abides_below hJ hJs ⟨rfl, rfl, rfl, Nat.le_refl _, fun _ _ => rfl⟩
        have hlen3 : pre.length < (classCuts xs snaps).length := by rw [← hx, cutAt_cut (fun h => hlt h.1)]; simp
        have r1 : wr.drew.cell? ⟨B1, 0, none⟩ = some (Value.slice A xs.length c) := q1
        obtain ⟨W2, hW2⟩ : ∃ W2, wr.drew = W2 := ⟨_, rfl⟩
        rw [hW2] at HB2 M1 M2 hJ2 r1 ⊢
        clear hx hB hb1 hb2 q1 q2 hJs d1 d2 d3 d4 hW2
        obtain ⟨fn, tmps, assign, body, hy, hR⟩ := hY pre (s, i) W2 hJ2 hlen3 ⟨hs, hle⟩
        have es := w64_succ i (Nat.lt_of_le_of_lt hle hsm)
        obtain ⟨qs0, qs1, qs2, qs3, qs4, qs5⟩ := cls_qs hs hle hc
        clear hJ2 hlen3
        cases A with
        | none => exact absurd (hr.2.2 (by omega)) (by rintro ⟨ad, h, _⟩; cases h)
        | some ad =>
          dsimp only [clsEnc, clsVal, Option.map] at hy
          gi_wp2
          refine ⟨fun _ => (by clear es hlen hlen2 hsm hc hc2 hf hi hs hle hlt HX; omega), hR.mono ?_⟩
          rintro e W3 (⟨rfl, hJ3, hk3⟩ | ⟨rfl, hJx3⟩)
          · clear hy hR
            have hB3 := Aside0.mk (HB2.out.trans hk3.1)
            have N1 := Aside0.mk (hk3.2.1 _ _ M1.out)
            have N2 := Aside0.mk (hk3.2.2 _ _ M2.out)
            have NJ := Aside0.mk hJ3
            clear hk3 hJ3 r1 qs0 qs1 qs2 qs3 qs4 qs5
            gi_wp2
            go_roundw
            case rel => exact ⟨f, i, i + 1, pre ++ [(s, i)], rfl, (by first | rfl | rw [es]), ⟨by rw [← HX.out, cutAt_cut (fun h => hlt h.1)]; simp, cls_ar2 hf hi⟩, hB3.out, ⟨N1.out, N2.out⟩, NJ.out⟩
            case measure => exact cls_me2 hle
          · clear hy hR
            gi_wp2
            refine bodyPost_ret (results_none rfl _ _ _) rfl ?_
            exact ⟨⟨_, rfl⟩, .inr ⟨pre ++ [(s, i)], ⟨cutAt (apAt xs snaps) xs.length f i (i + 1), by rw [← HX.out, cutAt_cut (fun h => hlt h.1)]; simp⟩, hJx3⟩⟩
end

end Go.Proofs.Ytcfebbhiehaocaa.QFnSquashTwice

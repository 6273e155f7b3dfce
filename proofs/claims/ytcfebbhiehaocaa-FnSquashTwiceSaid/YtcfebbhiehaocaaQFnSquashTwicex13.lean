/- What the law FnSquashTwice reaches, function by function: what each computes, and that the machine's call comes to it. Laid by a program. -/
import Derived.Test.YtcfebbhiehaocaaQFnSquashTwicex0
import Derived.Test.YtcfebbhiehaocaaQFnSquashTwicex2
namespace Go.Proofs.Ytcfebbhiehaocaa.QFnSquashTwice
open Go.RowKit Go.Proofs.YtcfebbhiehaocaaW.PrintWords Go.Proofs.YtcfebbhiehaocaaW.PrintLast Go.Proofs.YtcfebbhiehaocaaW.PrintMore
attribute [local go_sem] max2_int min2_int max_two min_two max_three min_three max_four min_four   -- for this text's walks alone
set_option linter.unusedVariables false
set_option linter.unusedSimpArgs false

/-! ### spec_l4Put: function 52 -/
def spec_l4Put.l0 : Nat → List (S48) → Int → ByteArray → Int → Int → ByteArray → Int → Option ((List (S48)))
  | 0, _, _, _, _, _, _, _ => none
  | k + 1, x0, x5, x322000, x322001, x322002, x322003, x322004 => if x5 > 0 then (if 0 ≤ (wrap64 (x5 - 1)) then (if (wrap64 (x5 - 1)) < (x0.length : Int) then ((spec_EntryLess.f x322000 x322001 x322002 x322003 x322004 ((rd_T48 x0 (wrap64 (x5 - 1))).f0) ((rd_T48 x0 (wrap64 (x5 - 1))).f1) ((rd_T48 x0 (wrap64 (x5 - 1))).f2) ((rd_T48 x0 (wrap64 (x5 - 1))).f3) ((rd_T48 x0 (wrap64 (x5 - 1))).f4)).bind fun t323 => (if t323 = true then (spec_l4Put.l0 k x0 (wrap64 (x5 - 1)) x322000 x322001 x322002 x322003 x322004) else ((some (([] : List (S48)) : List (S48))).bind fun y324 => (if 0 ≤ x5 then (if x5 ≤ (x0.length : Int) then ((some (x0.drop (x5 : Int).toNat : List (S48))).bind fun y327 => (if y324.length + y327.length < 2513169434916 then ((some (y324 ++ y327 : List (S48))).bind fun y331 => ((some (([] : List (S48)) : List (S48))).bind fun y334 => ((some (x0.take (x5 : Int).toNat : List (S48))).bind fun y337 => (if y334.length + y337.length < 2513169434916 then ((some (y334 ++ y337 : List (S48))).bind fun y341 => ((some (([(⟨x322000, x322001, x322002, x322003, x322004⟩ : S48)] : List (S48)) : List (S48))).bind fun y344 => (if y341.length + y344.length < 2513169434916 then ((some (y341 ++ y344 : List (S48))).bind fun y347 => (if y347.length + y331.length < 2513169434916 then (some (y347 ++ y331)) else (none))) else (none)))) else (none))))) else (none))) else (none)) else (none))))) else (none)) else (none)) else ((some (([] : List (S48)) : List (S48))).bind fun y353 => (if 0 ≤ x5 then (if x5 ≤ (x0.length : Int) then ((some (x0.drop (x5 : Int).toNat : List (S48))).bind fun y356 => (if y353.length + y356.length < 2513169434916 then ((some (y353 ++ y356 : List (S48))).bind fun y360 => ((some (([] : List (S48)) : List (S48))).bind fun y363 => ((some (x0.take (x5 : Int).toNat : List (S48))).bind fun y366 => (if y363.length + y366.length < 2513169434916 then ((some (y363 ++ y366 : List (S48))).bind fun y370 => ((some (([(⟨x322000, x322001, x322002, x322003, x322004⟩ : S48)] : List (S48)) : List (S48))).bind fun y373 => (if y370.length + y373.length < 2513169434916 then ((some (y370 ++ y373 : List (S48))).bind fun y376 => (if y376.length + y360.length < 2513169434916 then (some (y376 ++ y360)) else (none))) else (none)))) else (none))))) else (none))) else (none)) else (none)))
def spec_l4Put.f (k : Nat) (l0 : List (S48)) (a1_0 : ByteArray) (a1_1 : Int) (a1_2 : Int) (a1_3 : ByteArray) (a1_4 : Int) : Option ((List (S48))) := spec_l4Put.l0 k l0 (l0.length : Int) a1_0 a1_1 a1_2 a1_3 a1_4
theorem spec_l4Put.mono_l : ∀ k, (∀ y0 y1 y2 y3 y4 y5 y6, LeO (spec_l4Put.l0 k y0 y1 y2 y3 y4 y5 y6) (spec_l4Put.l0 (k + 1) y0 y1 y2 y3 y4 y5 y6))
  | 0 => fun _ _ _ _ _ _ _ r h => by simp [spec_l4Put.l0] at h
  | k + 1 => by
    have ih0 := spec_l4Put.mono_l k
    · intro y0 y1 y2 y3 y4 y5 y6
      unfold spec_l4Put.l0
      repeat' first
      | (with_reducible exact ih0 _ _ _ _ _ _ _)
      | (with_reducible exact LeO.refl _)
      | (with_reducible exact LeO.none _)
      | (with_reducible refine LeO.ite ?_ ?_)
      | (with_reducible refine LeO.bind ?_ (fun _ => ?_))
      | exact ih0 _ _ _ _ _ _ _
      | exact LeO.none _
      | refine LeO.ite ?_ ?_
      | refine LeO.bind ?_ (fun _ => ?_)
theorem spec_l4Put.mono : ∀ a0 a1 a2 a3 a4 a5 k, LeO (spec_l4Put.f k a0 a1 a2 a3 a4 a5) (spec_l4Put.f (k + 1) a0 a1 a2 a3 a4 a5) := by
  intro a0 a1 a2 a3 a4 a5 k
  have ih0 := spec_l4Put.mono_l k
  unfold spec_l4Put.f
  repeat' first
      | (with_reducible exact ih0 _ _ _ _ _ _ _)
      | (with_reducible exact LeO.refl _)
      | (with_reducible exact LeO.none _)
      | (with_reducible refine LeO.ite ?_ ?_)
      | (with_reducible refine LeO.bind ?_ (fun _ => ?_))
      | exact ih0 _ _ _ _ _ _ _
      | exact LeO.none _
      | refine LeO.ite ?_ ?_
      | refine LeO.bind ?_ (fun _ => ?_)
def spec_l4Put.T2 : Bool × List (List Nat × List Nat) := (true, [([], []), ([0], [0]), ([1], [1]), ([2], [2]), ([2], [2]), ([2], [2]), ([5, 2], [2, 5]), ([4, 6, 2], [2, 4, 6]), ([7, 2], [2, 7]), ([3, 8, 2, 2], [2, 3, 8]), ([2, 9], [2, 9])])
def spec_l4Put.B2 : List Nat := [0, 1, 3, 7, 7, 7, 39, 119, 247, 511, 1023]
theorem spec_l4Put.tab2 : rtab .any (opsOf Try.f52 2) = spec_l4Put.T2 := by kernel_rfl
theorem spec_l4Put.bits2 : waitsOk spec_l4Put.T2.2 spec_l4Put.B2 = true := by kernel_rfl
def spec_l4Put.T5 : Bool × List (List Nat × List Nat) := (true, [([], []), ([], []), ([], []), ([1, 2], [1, 2]), ([0, 3], [0, 3]), ([], []), ([5], [5]), ([4, 6, 4], [4, 6]), ([], []), ([7, 8, 7], [7, 8]), ([9, 9, 0, 1, 2, 3, 4, 5, 6, 7, 8, 9], [9])])
def spec_l4Put.B5 : List Nat := [0, 0, 0, 6, 15, 0, 32, 127, 0, 511, 1023]
theorem spec_l4Put.tab5 : rtab .any (opsOf Try.f52 5) = spec_l4Put.T5 := by kernel_rfl
theorem spec_l4Put.bits5 : waitsOk spec_l4Put.T5.2 spec_l4Put.B5 = true := by kernel_rfl
theorem spec_l4Put_vb {p q : Prop} (h : Aside0 p) (k : p → q := by (intro hz; (with_reducible repeat (first | refine blk_drewN ?_ _ | refine blk_drew ?_ | refine blk_alloc ?_ _)); exact hz)) : q := k h.out
theorem spec_l4Put_auHB {q : Prop} (h : q := by (repeat (first | (with_reducible first | exact HB.out | apply below_alloc | apply pw_below_drewN | apply below_drew1 | refine below_set ?_ GE321.out) | exact HB.out))) : q := h
set_option maxHeartbeats 8000000 in
set_option maxRecDepth 100000 in
theorem spec_l4Put.calls (k : Nat) (A0 : Option Addr) (c0 : Nat) (l0 : List (S48)) (a1_0 : ByteArray) (a1_1 : Int) (a1_2 : Int) (a1_3 : ByteArray) (a1_4 : Int) (r : List (S48)) (w : World) (hr0 : Kd.C k48 w A0 l0.length l0) (hc0 : l0.length ≤ c0) (h : spec_l4Put.f k l0 a1_0 a1_1 a1_2 a1_3 a1_4 = some r) :
  Calls Try.prog 52 #[.slice A0 l0.length c0, .agg #[.string a1_0, .int .i64 a1_1, .int .i64 a1_2, .string a1_3, .int .i64 a1_4]] w fun e w' => ∃ v0_ : Value, e = .returned (v0_) ∧ Kd.R k48 48 w' w.heap.size (fun _ => True) v0_ r ∧ Below w.heap.size w w' := by
 have hu48 := Try.underlying48
 have HR0 := Aside0.mk hr0
 have HC0 := Aside0.mk hc0
 clear hr0 hc0
 have HB := Aside0.mk (Below.refl w.heap.size w)
 have H : (spec_l4Put.l0 k l0 (l0.length : Int) a1_0 a1_1 a1_2 a1_3 a1_4) = some r := h
 clear h
 have H' := Aside0.mk H
 clear H
 go_enter Try.func52, Try.ntmps52
 go_wp2_with (first | ((with_reducible refine gate_dst (N := 3) rfl ?_); refine box_event ?hg (N := 3) ?hd (cs := #[.string a1_0, .int .i64 a1_1, .int .i64 a1_2, .string a1_3, .int .i64 a1_4]) (t := 48) ?hr ?_; (case hd => rfl); (case hg => rfl); (case hr => first | (go_simp; done) | (go_simp; rfl)); intro gb321 hg w3 hbox hb; have BK321 := Aside0.mk (hbox); have GW321 := Aside0.mk ((by rw [hg]; exact (below_size (spec_l4Put_auHB)) : w.heap.size ≤ gb321)); have GE321 := Aside0.mk ((by rw [hg]; exact (below_size (spec_l4Put_auHB)) : w.heap.size ≤ gb321)); replace HB := Aside0.mk (below_step (spec_l4Put_auHB) hb); clear hb hbox hg))
 go_loopg [5] k (fun kq v5 w' => ∃ (x5_1 : Int), v5 = .int .i64 x5_1 ∧ Aside0 (spec_l4Put.l0 kq l0 x5_1 a1_0 a1_1 a1_2 a1_3 a1_4 = some r) ∧ Aside0 (kq ≤ k) ∧ Aside0 (w'.heap[gb321]? = some (.cells #[.string a1_0, .int .i64 a1_1, .int .i64 a1_2, .string a1_3, .int .i64 a1_4] 48 (0, 0))) ∧ Aside0 (Below w.heap.size w w'))
 case atStart => exact ⟨((l0.length : Int)), (by first | rfl | (simp; done) | (simp [*]; done)), H', ⟨Nat.le_refl _⟩, ⟨by (with_reducible repeat (first | refine blk_drewN ?_ _ | refine blk_drew ?_ | refine blk_alloc ?_ _)); exact BK321.out⟩, ⟨spec_l4Put_auHB⟩⟩
 case round =>
  clear H'
  try clear p2
  obtain ⟨x5_1, rfl, HA, HK1, BK321, HB⟩ := hrel
  cases gk with
  | zero => exact absurd HA.out (by simp [spec_l4Put.l0])
  | succ k1 =>
   have H := HA.out
   clear HA
   simp only [spec_l4Put.l0] at H
   by_cases c4 : x5_1 > 0
   rotate_left
   ·
    rw [if_neg c4] at H
    have c4b0 : decide (0 < x5_1) = false := decide_eq_false c4
    clear c4
    obtain ⟨y353, hy353⟩ : ∃ y_ : List (S48), y_ = (([] : List (S48))) := ⟨_, rfl⟩
    replace H : (if 0 ≤ x5_1 then (if x5_1 ≤ (l0.length : Int) then ((some (l0.drop (x5_1 : Int).toNat : List (S48))).bind fun y356 => (if y353.length + y356.length < 2513169434916 then ((some (y353 ++ y356 : List (S48))).bind fun y360 => ((some (([] : List (S48)) : List (S48))).bind fun y363 => ((some (l0.take (x5_1 : Int).toNat : List (S48))).bind fun y366 => (if y363.length + y366.length < 2513169434916 then ((some (y363 ++ y366 : List (S48))).bind fun y370 => ((some (([(⟨a1_0, a1_1, a1_2, a1_3, a1_4⟩ : S48)] : List (S48)) : List (S48))).bind fun y373 => (if y370.length + y373.length < 2513169434916 then ((some (y370 ++ y373 : List (S48))).bind fun y376 => (if y376.length + y360.length < 2513169434916 then (some (y376 ++ y360)) else (none))) else (none)))) else (none))))) else (none))) else (none)) else (none)) = some r := by first | (rw [hy353]; with_reducible exact H) | (have H2_ := (Option.bind_some _ _).symm.trans H; rw [hy353]; with_reducible exact H2_) | (have H2_ := (Option.bind_some _ _).symm.trans H; with_reducible exact H2_) | with_reducible exact H | (rw [hy353]; exact H) | exact H
    have Ny353 := Aside0.mk hy353
    clear hy353
    by_cases c38 : 0 ≤ x5_1
    rotate_left
    ·
     rw [if_neg c38] at H
     exact absurd H (by simp)
    rw [if_pos c38] at H
    have c38b0 := eq_true c38
    have c38b1 : decide (0 ≤ x5_1) = true := decide_eq_true c38
    clear c38
    by_cases c39 : x5_1 ≤ (l0.length : Int)
    rotate_left
    ·
     rw [if_neg c39] at H
     exact absurd H (by simp)
    rw [if_pos c39] at H
    have c39b0 := eq_true c39
    have c39b1 : decide (x5_1 ≤ (l0.length : Int)) = true := decide_eq_true c39
    clear c39
    obtain ⟨y356, hy356⟩ : ∃ y_ : List (S48), y_ = (l0.drop (x5_1 : Int).toNat) := ⟨_, rfl⟩
    replace H : (if y353.length + y356.length < 2513169434916 then ((some (y353 ++ y356 : List (S48))).bind fun y360 => ((some (([] : List (S48)) : List (S48))).bind fun y363 => ((some (l0.take (x5_1 : Int).toNat : List (S48))).bind fun y366 => (if y363.length + y366.length < 2513169434916 then ((some (y363 ++ y366 : List (S48))).bind fun y370 => ((some (([(⟨a1_0, a1_1, a1_2, a1_3, a1_4⟩ : S48)] : List (S48)) : List (S48))).bind fun y373 => (if y370.length + y373.length < 2513169434916 then ((some (y370 ++ y373 : List (S48))).bind fun y376 => (if y376.length + y360.length < 2513169434916 then (some (y376 ++ y360)) else (none))) else (none)))) else (none))))) else (none)) = some r := by first | (rw [hy356]; with_reducible exact H) | (have H2_ := (Option.bind_some _ _).symm.trans H; rw [hy356]; with_reducible exact H2_) | (have H2_ := (Option.bind_some _ _).symm.trans H; with_reducible exact H2_) | with_reducible exact H | (rw [hy356]; exact H) | exact H
    have Ny356 := Aside0.mk hy356
    clear hy356
    by_cases c40 : y353.length + y356.length < 2513169434916
    rotate_left
    ·
     rw [if_neg c40] at H
     exact absurd H (by simp)
    rw [if_pos c40] at H
    have LMc40 := Aside0.mk c40
    clear c40
    obtain ⟨y360, hy360⟩ : ∃ y_ : List (S48), y_ = (y353 ++ y356) := ⟨_, rfl⟩
    replace H : ((some (([] : List (S48)) : List (S48))).bind fun y363 => ((some (l0.take (x5_1 : Int).toNat : List (S48))).bind fun y366 => (if y363.length + y366.length < 2513169434916 then ((some (y363 ++ y366 : List (S48))).bind fun y370 => ((some (([(⟨a1_0, a1_1, a1_2, a1_3, a1_4⟩ : S48)] : List (S48)) : List (S48))).bind fun y373 => (if y370.length + y373.length < 2513169434916 then ((some (y370 ++ y373 : List (S48))).bind fun y376 => (if y376.length + y360.length < 2513169434916 then (some (y376 ++ y360)) else (none))) else (none)))) else (none)))) = some r := by first | (rw [hy360]; with_reducible exact H) | (have H2_ := (Option.bind_some _ _).symm.trans H; rw [hy360]; with_reducible exact H2_) | (have H2_ := (Option.bind_some _ _).symm.trans H; with_reducible exact H2_) | with_reducible exact H | (rw [hy360]; exact H) | exact H
    have Ny360 := Aside0.mk hy360
    clear hy360
    obtain ⟨y363, hy363⟩ : ∃ y_ : List (S48), y_ = (([] : List (S48))) := ⟨_, rfl⟩
    replace H : ((some (l0.take (x5_1 : Int).toNat : List (S48))).bind fun y366 => (if y363.length + y366.length < 2513169434916 then ((some (y363 ++ y366 : List (S48))).bind fun y370 => ((some (([(⟨a1_0, a1_1, a1_2, a1_3, a1_4⟩ : S48)] : List (S48)) : List (S48))).bind fun y373 => (if y370.length + y373.length < 2513169434916 then ((some (y370 ++ y373 : List (S48))).bind fun y376 => (if y376.length + y360.length < 2513169434916 then (some (y376 ++ y360)) else (none))) else (none)))) else (none))) = some r := by first | (rw [hy363]; with_reducible exact H) | (have H2_ := (Option.bind_some _ _).symm.trans H; rw [hy363]; with_reducible exact H2_) | (have H2_ := (Option.bind_some _ _).symm.trans H; with_reducible exact H2_) | with_reducible exact H | (rw [hy363]; exact H) | exact H
    have Ny363 := Aside0.mk hy363
    clear hy363
    have c41b0 := eq_true (of_decide_eq_true (by first | (with_reducible assumption) | assumption) : 0 ≤ x5_1)
    have c42b0 := eq_true (of_decide_eq_true (by first | (with_reducible assumption) | assumption) : x5_1 ≤ (l0.length : Int))
    obtain ⟨y366, hy366⟩ : ∃ y_ : List (S48), y_ = (l0.take (x5_1 : Int).toNat) := ⟨_, rfl⟩
    replace H : (if y363.length + y366.length < 2513169434916 then ((some (y363 ++ y366 : List (S48))).bind fun y370 => ((some (([(⟨a1_0, a1_1, a1_2, a1_3, a1_4⟩ : S48)] : List (S48)) : List (S48))).bind fun y373 => (if y370.length + y373.length < 2513169434916 then ((some (y370 ++ y373 : List (S48))).bind fun y376 => (if y376.length + y360.length < 2513169434916 then (some (y376 ++ y360)) else (none))) else (none)))) else (none)) = some r := by first | (rw [hy366]; with_reducible exact H) | (have H2_ := (Option.bind_some _ _).symm.trans H; rw [hy366]; with_reducible exact H2_) | (have H2_ := (Option.bind_some _ _).symm.trans H; with_reducible exact H2_) | with_reducible exact H | (rw [hy366]; exact H) | exact H
    have Ny366 := Aside0.mk hy366
    clear hy366
    by_cases c43 : y363.length + y366.length < 2513169434916
    rotate_left
    ·
     rw [if_neg c43] at H
     exact absurd H (by simp)
    rw [if_pos c43] at H
    have LMc43 := Aside0.mk c43
    clear c43
    obtain ⟨y370, hy370⟩ : ∃ y_ : List (S48), y_ = (y363 ++ y366) := ⟨_, rfl⟩
    replace H : ((some (([(⟨a1_0, a1_1, a1_2, a1_3, a1_4⟩ : S48)] : List (S48)) : List (S48))).bind fun y373 => (if y370.length + y373.length < 2513169434916 then ((some (y370 ++ y373 : List (S48))).bind fun y376 => (if y376.length + y360.length < 2513169434916 then (some (y376 ++ y360)) else (none))) else (none))) = some r := by first | (rw [hy370]; with_reducible exact H) | (have H2_ := (Option.bind_some _ _).symm.trans H; rw [hy370]; with_reducible exact H2_) | (have H2_ := (Option.bind_some _ _).symm.trans H; with_reducible exact H2_) | with_reducible exact H | (rw [hy370]; exact H) | exact H
    have Ny370 := Aside0.mk hy370
    clear hy370
    obtain ⟨y373, hy373⟩ : ∃ y_ : List (S48), y_ = (([(⟨a1_0, a1_1, a1_2, a1_3, a1_4⟩ : S48)] : List (S48))) := ⟨_, rfl⟩
    replace H : (if y370.length + y373.length < 2513169434916 then ((some (y370 ++ y373 : List (S48))).bind fun y376 => (if y376.length + y360.length < 2513169434916 then (some (y376 ++ y360)) else (none))) else (none)) = some r := by first | (rw [hy373]; with_reducible exact H) | (have H2_ := (Option.bind_some _ _).symm.trans H; rw [hy373]; with_reducible exact H2_) | (have H2_ := (Option.bind_some _ _).symm.trans H; with_reducible exact H2_) | with_reducible exact H | (rw [hy373]; exact H) | exact H
    have Ny373 := Aside0.mk hy373
    clear hy373
    by_cases c44 : y370.length + y373.length < 2513169434916
    rotate_left
    ·
     rw [if_neg c44] at H
     exact absurd H (by simp)
    rw [if_pos c44] at H
    have LMc44 := Aside0.mk c44
    clear c44
    obtain ⟨y376, hy376⟩ : ∃ y_ : List (S48), y_ = (y370 ++ y373) := ⟨_, rfl⟩
    replace H : (if y376.length + y360.length < 2513169434916 then (some (y376 ++ y360)) else (none)) = some r := by first | (rw [hy376]; with_reducible exact H) | (have H2_ := (Option.bind_some _ _).symm.trans H; rw [hy376]; with_reducible exact H2_) | (have H2_ := (Option.bind_some _ _).symm.trans H; with_reducible exact H2_) | with_reducible exact H | (rw [hy376]; exact H) | exact H
    have Ny376 := Aside0.mk hy376
    clear hy376
    by_cases c45 : y376.length + y360.length < 2513169434916
    rotate_left
    ·
     rw [if_neg c45] at H
     exact absurd H (by simp)
    rw [if_pos c45] at H
    have LMc45 := Aside0.mk c45
    clear c45
    obtain ⟨y379, hy379⟩ : ∃ y_ : List (S48), y_ = (y376 ++ y360) := ⟨_, rfl⟩
    replace H : (some y379) = some r := by first | (rw [hy379]; with_reducible exact H) | (have H2_ := (Option.bind_some _ _).symm.trans H; rw [hy379]; with_reducible exact H2_) | (have H2_ := (Option.bind_some _ _).symm.trans H; with_reducible exact H2_) | with_reducible exact H | (rw [hy379]; exact H) | exact H
    have Ny379 := Aside0.mk hy379
    clear hy379
    obtain rfl := Option.some.inj H
    try go_wp2
    replace BK321 := Aside0.mk (blk_drew BK321.out)
    replace HB := Aside0.mk (below_drew1 HB.out)
    refine start_ (n := 11) (S := fun w' => True) (ds := []) #[false, false, false, false, false, false, false, false, false, false, false] (by kernel_rfl) rfl rfl trivial (fun hHeld => ?_); refine with_tabW spec_l4Put.tab2 spec_l4Put.bits2 (fun HT_ HW_ => ?_)
    generalize wr.drew = w46 at BK321 HB hHeld ⊢
    refine pu_ 0 (some 9) HT_ rfl rfl (by go_simp; rfl) (by kernel_rfl) rfl (by intro w'; go_simp; with_reducible rfl) (fun _ _ _ h => h) (by go_simp; rfl) ?_
    refine pu_ 1 (some 10) HT_ rfl rfl (by go_simp; rfl) (by kernel_rfl) rfl (by intro w'; go_simp; with_reducible rfl) (fun _ _ _ h => h) (by go_simp; rfl) ?_
    refine pu_ 2 (some 11) HT_ rfl rfl (by go_simp; rfl) (by kernel_rfl) rfl (by intro w'; go_simp; with_reducible rfl) (fun _ _ _ h => h) (by go_simp; rfl) ?_
    refine pure_ (i := 3) (N := some 12) (v := undef) (a' := ?_) #[true, true, true, true, false, false, false, false, false, false, false] rfl rfl (any_of HT_.out (by kernel_rfl)) (fun _ _ _ h => h) (Or.inr ⟨by rfl, rfl⟩) ?_ ?_
    rotate_left
    ·
     simp only [Act.put, List.setIfInBounds_toArray, List.set_cons_zero, List.set_cons_succ, i64_w, i32_w]
     rfl
    refine pure_ (i := 4) (N := some 13) (v := undef) (a' := ?_) #[true, true, true, true, true, false, false, false, false, false, false] rfl rfl (any_of HT_.out (by kernel_rfl)) (fun _ _ _ h => h) (Or.inr ⟨by rfl, rfl⟩) ?_ ?_
    rotate_left
    ·
     simp only [Act.put, List.setIfInBounds_toArray, List.set_cons_zero, List.set_cons_succ, i64_w, i32_w]
     rfl
    refine pure_ (i := 5) (N := some 14) (v := undef) (a' := ?_) #[true, true, true, true, true, true, false, false, false, false, false] rfl rfl (any_of HT_.out (by kernel_rfl)) (fun _ _ _ h => h) (Or.inr ⟨by rfl, rfl⟩) ?_ ?_
    rotate_left
    ·
     simp only [Act.put, List.setIfInBounds_toArray, List.set_cons_zero, List.set_cons_succ, i64_w, i32_w]
     rfl
    refine pure_ (i := 6) (N := some 15) (v := undef) (a' := ?_) #[true, true, true, true, true, true, true, false, false, false, false] rfl rfl (any_of HT_.out (by kernel_rfl)) (fun _ _ _ h => h) (Or.inr ⟨by rfl, rfl⟩) ?_ ?_
    rotate_left
    ·
     simp only [Act.put, List.setIfInBounds_toArray, List.set_cons_zero, List.set_cons_succ, i64_w, i32_w]
     rfl
    refine pure_ (i := 7) (N := some 16) (v := undef) (a' := ?_) #[true, true, true, true, true, true, true, true, false, false, false] rfl rfl (any_of HT_.out (by kernel_rfl)) (fun _ _ _ h => h) (Or.inr ⟨by rfl, rfl⟩) ?_ ?_
    rotate_left
    ·
     simp only [Act.put, List.setIfInBounds_toArray, List.set_cons_zero, List.set_cons_succ, i64_w, i32_w]
     rfl
    refine pure_ (i := 8) (N := some 17) (v := undef) (a' := ?_) #[true, true, true, true, true, true, true, true, true, false, false] rfl rfl (any_of HT_.out (by kernel_rfl)) (fun _ _ _ h => h) (Or.inr ⟨by rfl, rfl⟩) ?_ ?_
    rotate_left
    ·
     simp only [Act.put, List.setIfInBounds_toArray, List.set_cons_zero, List.set_cons_succ, i64_w, i32_w]
     rfl
    refine pure_ (i := 9) (N := some 18) (v := undef) (a' := ?_) #[true, true, true, true, true, true, true, true, true, true, false] rfl rfl (any_of HT_.out (by kernel_rfl)) (fun _ _ _ h => h) (Or.inr ⟨by rfl, rfl⟩) ?_ ?_
    rotate_left
    ·
     simp only [Act.put, List.setIfInBounds_toArray, List.set_cons_zero, List.set_cons_succ, i64_w, i32_w]
     rfl
    refine pu_ 10 (some 19) HT_ rfl rfl (by go_simp; rfl) (by kernel_rfl) rfl (by intro w'; go_simp; with_reducible rfl) (fun _ _ _ h => h) (by go_simp; rfl) ?_
    refine done_ (done_of HT_.out (by kernel_rfl)) ?_
    try go_wp2_with (first | ((with_reducible refine gate_dst (N := 22) rfl ?_); refine Kd.R_lit k48 _ 48 ?hg (N := 22) ?hd (xs := ([] : List (S48))) (inner := []) (ok := fun _ => True) (okp := fun _ => True) ?hr ?hp (fun _ hk => hk) trivial (Below.refl _ _) (Nat.le_refl _) (by simp) ?_; (case hd => rfl); (case hg => rfl); (case hr => first | (go_simp; done) | (go_simp; rfl)); (case hp => exact (Reps.none _ _)); intro v354 w47 ho48 hb hg_ hnew_; clear hg_ hnew_; (first | rw [← Ny353.out] at ho48 | (simp only [Int.reduceToNat] at ho48; rw [← Ny353.out] at ho48)); have HO355 := Aside0.mk (Kd.R_lower (Kd.R_newB ho48 (g := gb321) (o := .cells #[.string a1_0, .int .i64 a1_1, .int .i64 a1_2, .string a1_3, .int .i64 a1_4] 48 (0, 0)) (spec_l4Put_vb BK321)) (below_size (spec_l4Put_auHB))); replace BK321 := Aside0.mk (blk_below (g := gb321) (o := .cells #[.string a1_0, .int .i64 a1_1, .int .i64 a1_2, .string a1_3, .int .i64 a1_4] 48 (0, 0)) (spec_l4Put_vb BK321) hb); replace HB := Aside0.mk (below_step (spec_l4Put_auHB) hb); clear hb ho48; have q49 : (x5_1 : Int) ≤ ((l0.length : Int) : Int) := of_decide_eq_true (by first | (with_reducible assumption) | assumption); obtain ⟨i049, hi049, _, hsz49, _⟩ := info_parts info48; have hroom49 : l0.length ≤ c0 := HC0.out; have hC49 : Kd.C k48 _ A0 l0.length l0 := HR0.out; have q049 : (0 : Int) ≤ (x5_1 : Int) := of_decide_eq_true (by first | (with_reducible assumption) | assumption); have hcut49 := cut_from (P := Try.prog) 25 48 .i64 Try.underlying25 hi049 5 hsz49 A0 l0.length c0 x5_1 q049 q49; have hr49 := Kd.C_drop (m := (x5_1 : Int).toNat) (c := c0) hC49 (by omega) hroom49; obtain ⟨A49, hA49⟩ : ∃ A1, A1 = (if c0 = (x5_1 : Int).toNat then A0 else (A0 : Option Addr).map (·.add ((x5_1 : Int).toNat * 5))) := ⟨_, rfl⟩; obtain ⟨c49, hc49⟩ : ∃ c1, c1 = c0 - (x5_1 : Int).toNat := ⟨_, rfl⟩; have hy49 : y356.length = l0.length - (x5_1 : Int).toNat := (by rw [Ny356.out, List.length_drop] <;> omega); rw [show (l0).drop (x5_1 : Int).toNat = y356 from Ny356.out.symm] at hr49; replace hr49 : Kd.C k48 _ A49 y356.length y356 := (by rw [hA49]; exact hr49); rw [← hy49, ← hA49, ← hc49] at hcut49; have HR359 := Aside0.mk hr49; have HC359 := Aside0.mk (show y356.length ≤ c49 from by rw [hy49, hc49]; exact Nat.sub_le_sub_right hroom49 _); clear hr49 hC49 hroom49 hi049 hsz49 hc49; have KY49 := Aside0.mk hy49; have KA49 := Aside0.mk hA49; clear hy49 hA49; replace q49 := eq_true q49) | ((with_reducible refine gate_builtin (b := .append) (xs := #[.tmp 22, .tmp 25]) rfl ?_); at_builtin; refine Kd.R_append_rows k48 (w0 := w) w.heap.size rfl (.tmp 22) (.tmp 25) 25 48 (.agg #[(.string ⟨#[]⟩), (.int .i64 0), (.int .i64 0), (.string ⟨#[]⟩), (.int .i64 0)]) 56 rfl Try.underlying25 info48 rfl (by decide) (by omega) v354 y353 y356 _ _ _ (fun k_ => k_ ≠ gb321) (fun _ => False) rfl rfl ?aO ?aR (fun _ _ h => h) (fun _ h => h.elim) ?aF ?aB ?aS ?aL ?_; (case aR => repeat (first | exact (Kd.C_below HR359.out HB.out) | (with_reducible refine Kd.C_alloc ?_ _) | (with_reducible refine Kd.C_drewN ?_ _) | (with_reducible refine Kd.C_drew ?_))); (case aB => exact (spec_l4Put_auHB)); (case aF => exact (fun k_ hk => Kd.freshB (g := gb321) (o := .cells #[.string a1_0, .int .i64 a1_1, .int .i64 a1_2, .string a1_3, .int .i64 a1_4] 48 (0, 0)) (spec_l4Put_vb BK321) k_ hk)); (case aO => exact (by (with_reducible repeat (first | apply Kd.R_alloc | apply Kd.R_drewN | apply Kd.R_drew)); exact Kd.R_mono HO355.out (fun _ hk => hk.2))); (case aS => exact (below_size (spec_l4Put_auHB))); (case aL => have := LMc40.out; omega); intro v361 w50 ho hb hg hat; rw [← Ny360.out] at ho; have n0_ := Aside0.mk (blk_grown (g := gb321) (o := .cells #[.string a1_0, .int .i64 a1_1, .int .i64 a1_2, .string a1_3, .int .i64 a1_4] 48 (0, 0)) (spec_l4Put_vb BK321) hg (Kd.R_away HO355.out (fun _ hk => hk.2))); have n1_ := Aside0.mk (hb); have n2_ := Aside0.mk (ho); clear BK321; clear HB; clear HO355; have BK321 := n0_; have HB := n1_; have HO362 := n2_; clear n0_ n1_ n2_; clear ho hb hg hat; obtain ⟨Ao51, co51, eo51⟩ := Kd.R_slice HO362.out; subst eo51))
    replace HO362 := Aside0.mk (Kd.R_drew HO362.out)
    replace BK321 := Aside0.mk (blk_drew BK321.out)
    replace HB := Aside0.mk (below_drew1 HB.out)
    have q53 : (x5_1 : Int) ≤ ((l0.length : Int) : Int) := of_decide_eq_true (by first | (with_reducible assumption) | assumption)
    obtain ⟨i053, hi053, _, hsz53, _⟩ := info_parts info48
    have hroom53 : l0.length ≤ c0 := HC0.out
    have hC53 : Kd.C k48 _ A0 l0.length l0 := HR0.out
    have hcut53 := cut_to (P := Try.prog) 25 48 .i64 Try.underlying25 hi053 A0 l0.length c0 x5_1 (of_decide_eq_true (by first | (with_reducible assumption) | assumption)) q53 hroom53
    have hr53 := Kd.C_take (m := (x5_1 : Int).toNat) hC53 (by omega)
    have hy53 : y366.length = (x5_1 : Int).toNat := (by rw [Ny366.out, List.length_take]; omega)
    rw [← Ny366.out] at hr53
    rw [← hy53] at hcut53
    have HR369 := Aside0.mk hr53
    have HC369 := Aside0.mk (show y366.length ≤ c0 from by omega)
    clear hr53 hC53 hroom53 hi053 hsz53
    have KY53 := Aside0.mk hy53
    clear hy53
    replace q53 := eq_true q53
    refine start_ (n := 11) (S := fun w' => w'.cell? ⟨gb321, 0, none⟩ = some (.string a1_0) ∧ w'.cell? ⟨gb321, 1, none⟩ = some (.int .i64 a1_1) ∧ w'.cell? ⟨gb321, 2, none⟩ = some (.int .i64 a1_2) ∧ w'.cell? ⟨gb321, 3, none⟩ = some (.string a1_3) ∧ w'.cell? ⟨gb321, 4, none⟩ = some (.int .i64 a1_4)) (ds := []) #[false, false, false, false, false, false, false, false, false, false, false] (by kernel_rfl) rfl rfl ⟨(blk_cell BK321.out 0).trans rfl, (blk_cell BK321.out 1).trans rfl, (blk_cell BK321.out 2).trans rfl, (blk_cell BK321.out 3).trans rfl, (blk_cell BK321.out 4).trans rfl⟩ (fun hHeld => ?_); refine with_tabW spec_l4Put.tab5 spec_l4Put.bits5 (fun HT_ HW_ => ?_)
    generalize w50.drew = w52 at HO362 BK321 HB HR369 hHeld ⊢
    refine pu_ 1 (some 28) HT_ rfl rfl (by go_simp; rfl) (by kernel_rfl) rfl (by intro w'; go_simp; with_reducible rfl) (fun _ _ _ h => h) (by go_simp; rfl) ?_
    refine pu_ 2 (some 29) HT_ rfl rfl (by go_simp; rfl) (by kernel_rfl) rfl (by intro w'; go_simp; with_reducible rfl) (fun _ _ _ h => h) (by go_simp; rfl) ?_
    refine pu_ 3 (some 30) HT_ rfl rfl (by go_simp; rfl) (by kernel_rfl) rfl (by intro w'; go_simp; with_reducible rfl) (fun _ _ _ h => h) (by go_simp; rfl) ?_
    refine pu_ 8 (some 35) HT_ rfl rfl (by go_simp; rfl) (by kernel_rfl) rfl (by intro w'; go_simp; with_reducible rfl) (fun _ _ _ h => h) (by go_simp; rfl) ?_
    refine ta_ 5 (some 32) HT_ HW_ hHeld rfl rfl (by go_simp; rfl) (by kernel_rfl) rfl (by rintro w' ⟨s0, s1, s2, s3, s4⟩; go_simp; with_reducible rfl) (fun _ _ _ h => h) (by go_simp; rfl) ?_
    refine join_ (σ := Value × Value × Value) 3 #[true, true, true, true, true, true, true, false, true, false, false] (fun s_ => [(27, s_.1), (31, s_.2.1), (33, s_.2.2)]) (fun s_ w' => (w'.cell? ⟨gb321, 0, none⟩ = some (.string a1_0) ∧ w'.cell? ⟨gb321, 1, none⟩ = some (.int .i64 a1_1) ∧ w'.cell? ⟨gb321, 2, none⟩ = some (.int .i64 a1_2) ∧ w'.cell? ⟨gb321, 3, none⟩ = some (.string a1_3) ∧ w'.cell? ⟨gb321, 4, none⟩ = some (.int .i64 a1_4)) ∧ (Kd.R k48 48 w' w.heap.size (fun k_ => some k_ ≠ (s_.2.1 : Value).ownBlock ∧ some k_ ≠ (s_.2.2 : Value).ownBlock ∧ k_ ≠ gb321) (.slice Ao51 y360.length co51) y360) ∧ (Kd.R k48 48 w' w.heap.size (fun k_ => some k_ ≠ (.slice Ao51 y360.length co51 : Value).ownBlock ∧ some k_ ≠ (s_.2.2 : Value).ownBlock ∧ k_ ≠ gb321) s_.2.1 y370) ∧ (Kd.R k48 48 w' w.heap.size (fun k_ => some k_ ≠ (.slice Ao51 y360.length co51 : Value).ownBlock ∧ some k_ ≠ (s_.2.1 : Value).ownBlock ∧ k_ ≠ gb321) s_.2.2 y373) ∧ (w'.heap[gb321]? = some (.cells #[.string a1_0, .int .i64 a1_1, .int .i64 a1_2, .string a1_3, .int .i64 a1_4] 48 (0, 0))) ∧ (Below w.heap.size w w')) ?_ ?_
    rotate_left
    ·
     intro hCont
     refine two_ (i := 0) (j := 6) (Ni := some 27) (Nj := some 33) #[true, true, true, true, false, true, false, false, true, false, false] #[false, true, true, true, false, true, true, false, true, false, false] rfl rfl rfl rfl (two_of HT_.out (by kernel_rfl)) (by decide) (by decide) (fun K hK => ?_) (fun K hK => ?_)
     ·
      skip
      refine Kd.R_lit_step k48 _ 48 ?hg (N := 27) ?hd (xs := ([] : List (S48))) (inner := []) (ok := fun _ => True) (okp := fun _ => True) ?hr ?hp (fun _ hk => hk) trivial (Below.refl _ _) (Nat.le_refl _) (by simp) ?_; (case hd => rfl); (case hg => rfl); (case hr => first | (go_simp; done) | (go_simp; rfl)); (case hp => exact (Reps.none _ _))
      intro v364 w54 ho55 hb hg_ hnew_
      clear hg_ hnew_
      (first | rw [← Ny363.out] at ho55 | (simp only [Int.reduceToNat] at ho55; rw [← Ny363.out] at ho55))
      have HO365 := Aside0.mk (Kd.R_lower (Kd.R_newB (Kd.R_new' ho55 (Kd.R_lt (lo_ HO362))) (g := gb321) (o := .cells #[.string a1_0, .int .i64 a1_1, .int .i64 a1_2, .string a1_3, .int .i64 a1_4] 48 (0, 0)) (spec_l4Put_vb BK321)) (below_size (spec_l4Put_auHB)))
      replace HO362 := Aside0.mk (Kd.R_elder' (lo_ HO362) (Kd.R_base ho55) hb)
      replace BK321 := Aside0.mk (blk_below (g := gb321) (o := .cells #[.string a1_0, .int .i64 a1_1, .int .i64 a1_2, .string a1_3, .int .i64 a1_4] 48 (0, 0)) (spec_l4Put_vb BK321) hb)
      replace HB := Aside0.mk (below_step (spec_l4Put_auHB) hb)
      clear hb ho55
      refine hK.out _ _ ⟨(blk_cell BK321.out 0).trans rfl, (blk_cell BK321.out 1).trans rfl, (blk_cell BK321.out 2).trans rfl, (blk_cell BK321.out 3).trans rfl, (blk_cell BK321.out 4).trans rfl⟩ (fun hHeld => ?_)
      clear hK K
      refine norm_ (a' := ?_) ?_ ?_
      rotate_left
      ·
       show Act.put _ (some 27) _ = _
       simp only [Act.put, List.setIfInBounds_toArray, List.set_cons_zero, List.set_cons_succ, i64_w, i32_w]
       rfl
      refine two_ (i := 4) (j := 6) (Ni := some 31) (Nj := some 33) #[true, true, true, true, true, true, false, false, true, false, false] #[true, true, true, true, false, true, true, false, true, false, false] rfl rfl rfl rfl (two_of HT_.out (by kernel_rfl)) (by decide) (by decide) (fun K hK => ?_) (fun K hK => ?_)
      ·
       skip
       refine Kd.R_append_rows_step k48 (w0 := w) w.heap.size (by rfl) (.tmp 27) (.tmp 30) 25 48 (.agg #[(.string ⟨#[]⟩), (.int .i64 0), (.int .i64 0), (.string ⟨#[]⟩), (.int .i64 0)]) 56 rfl Try.underlying25 info48 rfl (by decide) (by omega) v364 y363 y366 _ _ _ (fun k_ => some k_ ≠ (.slice Ao51 y360.length co51 : Value).ownBlock ∧ k_ ≠ gb321) (fun _ => False) rfl rfl ?aO ?aR (fun _ _ h => h) (fun _ h => h.elim) ?aF ?aB ?aS ?aL ?_
       (case aR => repeat (first | exact (Kd.C_below HR369.out HB.out) | (with_reducible refine Kd.C_alloc ?_ _) | (with_reducible refine Kd.C_drewN ?_ _) | (with_reducible refine Kd.C_drew ?_)))
       (case aB => exact (spec_l4Put_auHB))
       (case aF => exact (fun k_ hk => ⟨Kd.fresh' (Kd.R_lt (lo_ HO362)) k_ hk, Kd.freshB (g := gb321) (o := .cells #[.string a1_0, .int .i64 a1_1, .int .i64 a1_2, .string a1_3, .int .i64 a1_4] 48 (0, 0)) (spec_l4Put_vb BK321) k_ hk⟩))
       (case aO => exact (by (with_reducible repeat (first | apply Kd.R_alloc | apply Kd.R_drewN | apply Kd.R_drew)); exact Kd.R_mono HO365.out (fun _ hk => ⟨hk.1.2, hk.2⟩)))
       (case aS => exact (below_size (spec_l4Put_auHB)))
       (case aL => have := LMc43.out; omega)
       intro v371 w56 ho hb hg hat
       rw [← Ny370.out] at ho
       have n0_ := Aside0.mk (blk_grown (g := gb321) (o := .cells #[.string a1_0, .int .i64 a1_1, .int .i64 a1_2, .string a1_3, .int .i64 a1_4] 48 (0, 0)) (spec_l4Put_vb BK321) hg (Kd.R_away HO365.out (fun _ hk => hk.2)))
       have n1_ := Aside0.mk (Kd.R_after (ok := (fun k_ => k_ ≠ gb321)) (lo_ HO362) hg hat)
       have n2_ := Aside0.mk (hb)
       have n3_ := Aside0.mk (ho)
       clear BK321
       clear HO362
       clear HB
       clear HO365
       have BK321 := n0_
       have HO362 := n1_
       have HB := n2_
       have HO372 := n3_
       clear n0_ n1_ n2_ n3_
       clear ho hb hg hat
       refine hK.out _ _ ⟨(blk_cell BK321.out 0).trans rfl, (blk_cell BK321.out 1).trans rfl, (blk_cell BK321.out 2).trans rfl, (blk_cell BK321.out 3).trans rfl, (blk_cell BK321.out 4).trans rfl⟩ (fun hHeld => ?_)
       clear hK K
       refine norm_ (a' := ?_) ?_ ?_
       rotate_left
       ·
        show Act.put _ (some 31) _ = _
        simp only [Act.put, List.setIfInBounds_toArray, List.set_cons_zero, List.set_cons_succ, i64_w, i32_w]
        rfl
       refine one_ (i := 6) (N := some 33) #[true, true, true, true, true, true, true, false, true, false, false] rfl rfl (one_of HT_.out (by kernel_rfl)) (by decide) (fun K hK => ?_)
       refine Kd.R_lit_step k48 _ 48 ?hg (N := 33) ?hd (xs := ([(⟨a1_0, a1_1, a1_2, a1_3, a1_4⟩ : S48)] : List (S48))) (inner := [.string a1_0, .int .i64 a1_1, .int .i64 a1_2, .string a1_3, .int .i64 a1_4]) (ok := fun _ => True) (okp := fun _ => True) ?hr ?hp (fun _ hk => hk) trivial (Below.refl _ _) (Nat.le_refl _) (by simp) ?_; (case hd => rfl); (case hg => rfl); (case hr => first | (go_simp; done) | (go_simp; rfl)); (case hp => exact (Reps.c5 (show Kd.M k48 _ _ _ (⟨a1_0, a1_1, a1_2, a1_3, a1_4⟩ : S48) [.string a1_0, .int .i64 a1_1, .int .i64 a1_2, .string a1_3, .int .i64 a1_4] from (k48_mkM _ _ _ (⟨a1_0, a1_1, a1_2, a1_3, a1_4⟩ : S48) )) (Reps.none _ _)))
       intro v374 w57 ho58 hb hg_ hnew_
       clear hg_ hnew_
       (first | rw [← Ny373.out] at ho58 | (simp only [Int.reduceToNat] at ho58; rw [← Ny373.out] at ho58))
       have HO375 := Aside0.mk (Kd.R_lower (Kd.R_newB (Kd.R_new' (Kd.R_new' ho58 (Kd.R_lt (lo_ HO362))) (Kd.R_lt (lo_ HO372))) (g := gb321) (o := .cells #[.string a1_0, .int .i64 a1_1, .int .i64 a1_2, .string a1_3, .int .i64 a1_4] 48 (0, 0)) (spec_l4Put_vb BK321)) (below_size (spec_l4Put_auHB)))
       replace HO362 := Aside0.mk (Kd.R_elder' (lo_ HO362) (Kd.R_base ho58) hb)
       replace HO372 := Aside0.mk (Kd.R_elder' (lo_ HO372) (Kd.R_base ho58) hb)
       replace BK321 := Aside0.mk (blk_below (g := gb321) (o := .cells #[.string a1_0, .int .i64 a1_1, .int .i64 a1_2, .string a1_3, .int .i64 a1_4] 48 (0, 0)) (spec_l4Put_vb BK321) hb)
       replace HB := Aside0.mk (below_step (spec_l4Put_auHB) hb)
       clear hb ho58
       refine hK.out _ _ ⟨(blk_cell BK321.out 0).trans rfl, (blk_cell BK321.out 1).trans rfl, (blk_cell BK321.out 2).trans rfl, (blk_cell BK321.out 3).trans rfl, (blk_cell BK321.out 4).trans rfl⟩ (fun hHeld => ?_)
       clear hK K
       refine norm_ (a' := ?_) ?_ ?_
       rotate_left
       ·
        show Act.put _ (some 33) _ = _
        simp only [Act.put, List.setIfInBounds_toArray, List.set_cons_zero, List.set_cons_succ, i64_w, i32_w]
        rfl
       exact norm_ (by simp only [putAll, Act.put, List.setIfInBounds_toArray, List.set_cons_zero, List.set_cons_succ]) (hCont (v364, v371, v374) _ ⟨hHeld, (by (with_reducible repeat (first | apply Kd.R_alloc | apply Kd.R_drewN | apply Kd.R_drew)); exact Kd.R_mono HO362.out (fun _ hk => ⟨hk.1.2, ⟨hk.2, hk.1.1⟩⟩)), (by (with_reducible repeat (first | apply Kd.R_alloc | apply Kd.R_drewN | apply Kd.R_drew)); exact Kd.R_mono HO372.out (fun _ hk => ⟨hk.1.1, ⟨hk.2, hk.1.2⟩⟩)), (by (with_reducible repeat (first | apply Kd.R_alloc | apply Kd.R_drewN | apply Kd.R_drew)); exact Kd.R_mono HO375.out (fun _ hk => ⟨hk.1.1.2, ⟨hk.1.2, hk.2⟩⟩)), (spec_l4Put_vb BK321), (spec_l4Put_auHB)⟩)
      skip
      refine Kd.R_lit_step k48 _ 48 ?hg (N := 33) ?hd (xs := ([(⟨a1_0, a1_1, a1_2, a1_3, a1_4⟩ : S48)] : List (S48))) (inner := [.string a1_0, .int .i64 a1_1, .int .i64 a1_2, .string a1_3, .int .i64 a1_4]) (ok := fun _ => True) (okp := fun _ => True) ?hr ?hp (fun _ hk => hk) trivial (Below.refl _ _) (Nat.le_refl _) (by simp) ?_; (case hd => rfl); (case hg => rfl); (case hr => first | (go_simp; done) | (go_simp; rfl)); (case hp => exact (Reps.c5 (show Kd.M k48 _ _ _ (⟨a1_0, a1_1, a1_2, a1_3, a1_4⟩ : S48) [.string a1_0, .int .i64 a1_1, .int .i64 a1_2, .string a1_3, .int .i64 a1_4] from (k48_mkM _ _ _ (⟨a1_0, a1_1, a1_2, a1_3, a1_4⟩ : S48) )) (Reps.none _ _)))
      intro v374 w56 ho57 hb hg_ hnew_
      clear hg_ hnew_
      (first | rw [← Ny373.out] at ho57 | (simp only [Int.reduceToNat] at ho57; rw [← Ny373.out] at ho57))
      have HO375 := Aside0.mk (Kd.R_lower (Kd.R_newB (Kd.R_new' (Kd.R_new' ho57 (Kd.R_lt (lo_ HO362))) (Kd.R_lt (lo_ HO365))) (g := gb321) (o := .cells #[.string a1_0, .int .i64 a1_1, .int .i64 a1_2, .string a1_3, .int .i64 a1_4] 48 (0, 0)) (spec_l4Put_vb BK321)) (below_size (spec_l4Put_auHB)))
      replace HO362 := Aside0.mk (Kd.R_elder' (lo_ HO362) (Kd.R_base ho57) hb)
      replace HO365 := Aside0.mk (Kd.R_elder' (lo_ HO365) (Kd.R_base ho57) hb)
      replace BK321 := Aside0.mk (blk_below (g := gb321) (o := .cells #[.string a1_0, .int .i64 a1_1, .int .i64 a1_2, .string a1_3, .int .i64 a1_4] 48 (0, 0)) (spec_l4Put_vb BK321) hb)
      replace HB := Aside0.mk (below_step (spec_l4Put_auHB) hb)
      clear hb ho57
      refine hK.out _ _ ⟨(blk_cell BK321.out 0).trans rfl, (blk_cell BK321.out 1).trans rfl, (blk_cell BK321.out 2).trans rfl, (blk_cell BK321.out 3).trans rfl, (blk_cell BK321.out 4).trans rfl⟩ (fun hHeld => ?_)
      clear hK K
      refine norm_ (a' := ?_) ?_ ?_
      rotate_left
      ·
       show Act.put _ (some 33) _ = _
       simp only [Act.put, List.setIfInBounds_toArray, List.set_cons_zero, List.set_cons_succ, i64_w, i32_w]
       rfl
      refine one_ (i := 4) (N := some 31) #[true, true, true, true, true, true, true, false, true, false, false] rfl rfl (one_of HT_.out (by kernel_rfl)) (by decide) (fun K hK => ?_)
      refine Kd.R_append_rows_step k48 (w0 := w) w.heap.size (by rfl) (.tmp 27) (.tmp 30) 25 48 (.agg #[(.string ⟨#[]⟩), (.int .i64 0), (.int .i64 0), (.string ⟨#[]⟩), (.int .i64 0)]) 56 rfl Try.underlying25 info48 rfl (by decide) (by omega) v364 y363 y366 _ _ _ (fun k_ => some k_ ≠ (.slice Ao51 y360.length co51 : Value).ownBlock ∧ some k_ ≠ (v374 : Value).ownBlock ∧ k_ ≠ gb321) (fun _ => False) rfl rfl ?aO ?aR (fun _ _ h => h) (fun _ h => h.elim) ?aF ?aB ?aS ?aL ?_
      (case aR => repeat (first | exact (Kd.C_below HR369.out HB.out) | (with_reducible refine Kd.C_alloc ?_ _) | (with_reducible refine Kd.C_drewN ?_ _) | (with_reducible refine Kd.C_drew ?_)))
      (case aB => exact (spec_l4Put_auHB))
      (case aF => exact (fun k_ hk => ⟨Kd.fresh' (Kd.R_lt (lo_ HO362)) k_ hk, Kd.fresh' (Kd.R_lt (lo_ HO375)) k_ hk, Kd.freshB (g := gb321) (o := .cells #[.string a1_0, .int .i64 a1_1, .int .i64 a1_2, .string a1_3, .int .i64 a1_4] 48 (0, 0)) (spec_l4Put_vb BK321) k_ hk⟩))
      (case aO => exact (by (with_reducible repeat (first | apply Kd.R_alloc | apply Kd.R_drewN | apply Kd.R_drew)); exact Kd.R_mono HO365.out (fun _ hk => ⟨hk.1.1.2, ⟨hk.2, hk.1.2⟩⟩)))
      (case aS => exact (below_size (spec_l4Put_auHB)))
      (case aL => have := LMc43.out; omega)
      intro v371 w58 ho hb hg hat
      rw [← Ny370.out] at ho
      have n0_ := Aside0.mk (blk_grown (g := gb321) (o := .cells #[.string a1_0, .int .i64 a1_1, .int .i64 a1_2, .string a1_3, .int .i64 a1_4] 48 (0, 0)) (spec_l4Put_vb BK321) hg (Kd.R_away HO365.out (fun _ hk => hk.1.2)))
      have n1_ := Aside0.mk (Kd.R_after (ok := (fun k_ => some k_ ≠ (v374 : Value).ownBlock ∧ k_ ≠ gb321)) (by (with_reducible repeat (first | apply Kd.R_alloc | apply Kd.R_drewN | apply Kd.R_drew)); exact Kd.R_mono HO362.out (fun _ hk => ⟨⟨hk.2, hk.1.1⟩, hk.1.2⟩)) hg hat)
      have n2_ := Aside0.mk (Kd.R_after (ok := (fun k_ => some k_ ≠ (.slice Ao51 y360.length co51 : Value).ownBlock ∧ k_ ≠ gb321)) (by (with_reducible repeat (first | apply Kd.R_alloc | apply Kd.R_drewN | apply Kd.R_drew)); exact Kd.R_mono HO375.out (fun _ hk => ⟨⟨hk.1.1.2, hk.2⟩, hk.1.2⟩)) hg hat)
      have n3_ := Aside0.mk (hb)
      have n4_ := Aside0.mk (ho)
      clear BK321
      clear HO362
      clear HO375
      clear HB
      clear HO365
      have BK321 := n0_
      have HO362 := n1_
      have HO375 := n2_
      have HB := n3_
      have HO372 := n4_
      clear n0_ n1_ n2_ n3_ n4_
      clear ho hb hg hat
      refine hK.out _ _ ⟨(blk_cell BK321.out 0).trans rfl, (blk_cell BK321.out 1).trans rfl, (blk_cell BK321.out 2).trans rfl, (blk_cell BK321.out 3).trans rfl, (blk_cell BK321.out 4).trans rfl⟩ (fun hHeld => ?_)
      clear hK K
      refine norm_ (a' := ?_) ?_ ?_
      rotate_left
      ·
       show Act.put _ (some 31) _ = _
       simp only [Act.put, List.setIfInBounds_toArray, List.set_cons_zero, List.set_cons_succ, i64_w, i32_w]
       rfl
      exact norm_ (by simp only [putAll, Act.put, List.setIfInBounds_toArray, List.set_cons_zero, List.set_cons_succ]) (hCont (v364, v371, v374) _ ⟨hHeld, (by (with_reducible repeat (first | apply Kd.R_alloc | apply Kd.R_drewN | apply Kd.R_drew)); exact Kd.R_mono HO362.out (fun _ hk => ⟨hk.2, ⟨hk.1.1, hk.1.2⟩⟩)), (lo_ HO372), (by (with_reducible repeat (first | apply Kd.R_alloc | apply Kd.R_drewN | apply Kd.R_drew)); exact Kd.R_mono HO375.out (fun _ hk => ⟨hk.1.1, ⟨hk.2, hk.1.2⟩⟩)), (spec_l4Put_vb BK321), (spec_l4Put_auHB)⟩)
     skip
     refine Kd.R_lit_step k48 _ 48 ?hg (N := 33) ?hd (xs := ([(⟨a1_0, a1_1, a1_2, a1_3, a1_4⟩ : S48)] : List (S48))) (inner := [.string a1_0, .int .i64 a1_1, .int .i64 a1_2, .string a1_3, .int .i64 a1_4]) (ok := fun _ => True) (okp := fun _ => True) ?hr ?hp (fun _ hk => hk) trivial (Below.refl _ _) (Nat.le_refl _) (by simp) ?_; (case hd => rfl); (case hg => rfl); (case hr => first | (go_simp; done) | (go_simp; rfl)); (case hp => exact (Reps.c5 (show Kd.M k48 _ _ _ (⟨a1_0, a1_1, a1_2, a1_3, a1_4⟩ : S48) [.string a1_0, .int .i64 a1_1, .int .i64 a1_2, .string a1_3, .int .i64 a1_4] from (k48_mkM _ _ _ (⟨a1_0, a1_1, a1_2, a1_3, a1_4⟩ : S48) )) (Reps.none _ _)))
     intro v374 w54 ho55 hb hg_ hnew_
     clear hg_ hnew_
     (first | rw [← Ny373.out] at ho55 | (simp only [Int.reduceToNat] at ho55; rw [← Ny373.out] at ho55))
     have HO375 := Aside0.mk (Kd.R_lower (Kd.R_newB (Kd.R_new' ho55 (Kd.R_lt (lo_ HO362))) (g := gb321) (o := .cells #[.string a1_0, .int .i64 a1_1, .int .i64 a1_2, .string a1_3, .int .i64 a1_4] 48 (0, 0)) (spec_l4Put_vb BK321)) (below_size (spec_l4Put_auHB)))
     replace HO362 := Aside0.mk (Kd.R_elder' (lo_ HO362) (Kd.R_base ho55) hb)
     replace BK321 := Aside0.mk (blk_below (g := gb321) (o := .cells #[.string a1_0, .int .i64 a1_1, .int .i64 a1_2, .string a1_3, .int .i64 a1_4] 48 (0, 0)) (spec_l4Put_vb BK321) hb)
     replace HB := Aside0.mk (below_step (spec_l4Put_auHB) hb)
     clear hb ho55
     refine hK.out _ _ ⟨(blk_cell BK321.out 0).trans rfl, (blk_cell BK321.out 1).trans rfl, (blk_cell BK321.out 2).trans rfl, (blk_cell BK321.out 3).trans rfl, (blk_cell BK321.out 4).trans rfl⟩ (fun hHeld => ?_)
     clear hK K
     refine norm_ (a' := ?_) ?_ ?_
     rotate_left
     ·
      show Act.put _ (some 33) _ = _
      simp only [Act.put, List.setIfInBounds_toArray, List.set_cons_zero, List.set_cons_succ, i64_w, i32_w]
      rfl
     refine one_ (i := 0) (N := some 27) #[true, true, true, true, false, true, true, false, true, false, false] rfl rfl (one_of HT_.out (by kernel_rfl)) (by decide) (fun K hK => ?_)
     refine Kd.R_lit_step k48 _ 48 ?hg (N := 27) ?hd (xs := ([] : List (S48))) (inner := []) (ok := fun _ => True) (okp := fun _ => True) ?hr ?hp (fun _ hk => hk) trivial (Below.refl _ _) (Nat.le_refl _) (by simp) ?_; (case hd => rfl); (case hg => rfl); (case hr => first | (go_simp; done) | (go_simp; rfl)); (case hp => exact (Reps.none _ _))
     intro v364 w56 ho57 hb hg_ hnew_
     clear hg_ hnew_
     (first | rw [← Ny363.out] at ho57 | (simp only [Int.reduceToNat] at ho57; rw [← Ny363.out] at ho57))
     have HO365 := Aside0.mk (Kd.R_lower (Kd.R_newB (Kd.R_new' (Kd.R_new' ho57 (Kd.R_lt (lo_ HO362))) (Kd.R_lt (lo_ HO375))) (g := gb321) (o := .cells #[.string a1_0, .int .i64 a1_1, .int .i64 a1_2, .string a1_3, .int .i64 a1_4] 48 (0, 0)) (spec_l4Put_vb BK321)) (below_size (spec_l4Put_auHB)))
     replace HO362 := Aside0.mk (Kd.R_elder' (lo_ HO362) (Kd.R_base ho57) hb)
     replace HO375 := Aside0.mk (Kd.R_elder' (lo_ HO375) (Kd.R_base ho57) hb)
     replace BK321 := Aside0.mk (blk_below (g := gb321) (o := .cells #[.string a1_0, .int .i64 a1_1, .int .i64 a1_2, .string a1_3, .int .i64 a1_4] 48 (0, 0)) (spec_l4Put_vb BK321) hb)
     replace HB := Aside0.mk (below_step (spec_l4Put_auHB) hb)
     clear hb ho57
     refine hK.out _ _ ⟨(blk_cell BK321.out 0).trans rfl, (blk_cell BK321.out 1).trans rfl, (blk_cell BK321.out 2).trans rfl, (blk_cell BK321.out 3).trans rfl, (blk_cell BK321.out 4).trans rfl⟩ (fun hHeld => ?_)
     clear hK K
     refine norm_ (a' := ?_) ?_ ?_
     rotate_left
     ·
      show Act.put _ (some 27) _ = _
      simp only [Act.put, List.setIfInBounds_toArray, List.set_cons_zero, List.set_cons_succ, i64_w, i32_w]
      rfl
     refine one_ (i := 4) (N := some 31) #[true, true, true, true, true, true, true, false, true, false, false] rfl rfl (one_of HT_.out (by kernel_rfl)) (by decide) (fun K hK => ?_)
     refine Kd.R_append_rows_step k48 (w0 := w) w.heap.size (by rfl) (.tmp 27) (.tmp 30) 25 48 (.agg #[(.string ⟨#[]⟩), (.int .i64 0), (.int .i64 0), (.string ⟨#[]⟩), (.int .i64 0)]) 56 rfl Try.underlying25 info48 rfl (by decide) (by omega) v364 y363 y366 _ _ _ (fun k_ => some k_ ≠ (.slice Ao51 y360.length co51 : Value).ownBlock ∧ some k_ ≠ (v374 : Value).ownBlock ∧ k_ ≠ gb321) (fun _ => False) rfl rfl ?aO ?aR (fun _ _ h => h) (fun _ h => h.elim) ?aF ?aB ?aS ?aL ?_
     (case aR => repeat (first | exact (Kd.C_below HR369.out HB.out) | (with_reducible refine Kd.C_alloc ?_ _) | (with_reducible refine Kd.C_drewN ?_ _) | (with_reducible refine Kd.C_drew ?_)))
     (case aB => exact (spec_l4Put_auHB))
     (case aF => exact (fun k_ hk => ⟨Kd.fresh' (Kd.R_lt (lo_ HO362)) k_ hk, Kd.fresh' (Kd.R_lt (lo_ HO375)) k_ hk, Kd.freshB (g := gb321) (o := .cells #[.string a1_0, .int .i64 a1_1, .int .i64 a1_2, .string a1_3, .int .i64 a1_4] 48 (0, 0)) (spec_l4Put_vb BK321) k_ hk⟩))
     (case aO => exact (by (with_reducible repeat (first | apply Kd.R_alloc | apply Kd.R_drewN | apply Kd.R_drew)); exact Kd.R_mono HO365.out (fun _ hk => ⟨hk.1.1.2, ⟨hk.1.2, hk.2⟩⟩)))
     (case aS => exact (below_size (spec_l4Put_auHB)))
     (case aL => have := LMc43.out; omega)
     intro v371 w58 ho hb hg hat
     rw [← Ny370.out] at ho
     have n0_ := Aside0.mk (blk_grown (g := gb321) (o := .cells #[.string a1_0, .int .i64 a1_1, .int .i64 a1_2, .string a1_3, .int .i64 a1_4] 48 (0, 0)) (spec_l4Put_vb BK321) hg (Kd.R_away HO365.out (fun _ hk => hk.2)))
     have n1_ := Aside0.mk (Kd.R_after (ok := (fun k_ => some k_ ≠ (v374 : Value).ownBlock ∧ k_ ≠ gb321)) (by (with_reducible repeat (first | apply Kd.R_alloc | apply Kd.R_drewN | apply Kd.R_drew)); exact Kd.R_mono HO362.out (fun _ hk => ⟨⟨hk.1.2, hk.1.1⟩, hk.2⟩)) hg hat)
     have n2_ := Aside0.mk (Kd.R_after (ok := (fun k_ => some k_ ≠ (.slice Ao51 y360.length co51 : Value).ownBlock ∧ k_ ≠ gb321)) (by (with_reducible repeat (first | apply Kd.R_alloc | apply Kd.R_drewN | apply Kd.R_drew)); exact Kd.R_mono HO375.out (fun _ hk => ⟨⟨hk.1.1.2, hk.1.2⟩, hk.2⟩)) hg hat)
     have n3_ := Aside0.mk (hb)
     have n4_ := Aside0.mk (ho)
     clear BK321
     clear HO362
     clear HO375
     clear HB
     clear HO365
     have BK321 := n0_
     have HO362 := n1_
     have HO375 := n2_
     have HB := n3_
     have HO372 := n4_
     clear n0_ n1_ n2_ n3_ n4_
     clear ho hb hg hat
     refine hK.out _ _ ⟨(blk_cell BK321.out 0).trans rfl, (blk_cell BK321.out 1).trans rfl, (blk_cell BK321.out 2).trans rfl, (blk_cell BK321.out 3).trans rfl, (blk_cell BK321.out 4).trans rfl⟩ (fun hHeld => ?_)
     clear hK K
     refine norm_ (a' := ?_) ?_ ?_
     rotate_left
     ·
      show Act.put _ (some 31) _ = _
      simp only [Act.put, List.setIfInBounds_toArray, List.set_cons_zero, List.set_cons_succ, i64_w, i32_w]
      rfl
     exact norm_ (by simp only [putAll, Act.put, List.setIfInBounds_toArray, List.set_cons_zero, List.set_cons_succ]) (hCont (v364, v371, v374) _ ⟨hHeld, (by (with_reducible repeat (first | apply Kd.R_alloc | apply Kd.R_drewN | apply Kd.R_drew)); exact Kd.R_mono HO362.out (fun _ hk => ⟨hk.2, ⟨hk.1.1, hk.1.2⟩⟩)), (lo_ HO372), (by (with_reducible repeat (first | apply Kd.R_alloc | apply Kd.R_drewN | apply Kd.R_drew)); exact Kd.R_mono HO375.out (fun _ hk => ⟨hk.1.1, ⟨hk.2, hk.1.2⟩⟩)), (spec_l4Put_vb BK321), (spec_l4Put_auHB)⟩)
    rintro ⟨v364, v371, v374⟩ w59 ⟨hS_, h0_, h1_, h2_, h3_, h4_⟩
    have n0_ : Aside0 (Kd.R k48 48 w59 w.heap.size (fun k_ => some k_ ≠ (v371 : Value).ownBlock ∧ some k_ ≠ (v374 : Value).ownBlock ∧ k_ ≠ gb321) (.slice Ao51 y360.length co51) y360) := ⟨h0_⟩
    have n1_ : Aside0 (Kd.R k48 48 w59 w.heap.size (fun k_ => some k_ ≠ (.slice Ao51 y360.length co51 : Value).ownBlock ∧ some k_ ≠ (v374 : Value).ownBlock ∧ k_ ≠ gb321) v371 y370) := ⟨h1_⟩
    have n2_ : Aside0 (Kd.R k48 48 w59 w.heap.size (fun k_ => some k_ ≠ (.slice Ao51 y360.length co51 : Value).ownBlock ∧ some k_ ≠ (v371 : Value).ownBlock ∧ k_ ≠ gb321) v374 y373) := ⟨h2_⟩
    have n3_ : Aside0 (w59.heap[gb321]? = some (.cells #[.string a1_0, .int .i64 a1_1, .int .i64 a1_2, .string a1_3, .int .i64 a1_4] 48 (0, 0))) := ⟨h3_⟩
    have n4_ : Aside0 (Below w.heap.size w w59) := ⟨h4_⟩
    clear HO362
    clear BK321
    clear HB
    clear h0_ h1_ h2_ h3_ h4_
    have HO362 := n0_
    have HO372 := n1_
    have HO375 := n2_
    have BK321 := n3_
    have HB := n4_
    clear n0_ n1_ n2_ n3_ n4_
    have hHeld : w59.cell? ⟨gb321, 0, none⟩ = some (.string a1_0) ∧ w59.cell? ⟨gb321, 1, none⟩ = some (.int .i64 a1_1) ∧ w59.cell? ⟨gb321, 2, none⟩ = some (.int .i64 a1_2) ∧ w59.cell? ⟨gb321, 3, none⟩ = some (.string a1_3) ∧ w59.cell? ⟨gb321, 4, none⟩ = some (.int .i64 a1_4) := hS_
    obtain ⟨Ao61, co61, eo61⟩ := Kd.R_slice HO375.out
    (first | subst eo61 | (injection eo61 with f1_ f2_ f3_; have f4_ := f1_.symm; have f5_ := f3_.symm; clear f1_ f2_ f3_; subst f4_; subst f5_))
    refine norm_ (a' := ?_) ?_ ?_
    rotate_left
    ·
     simp only [putAll, Act.put, List.setIfInBounds_toArray, List.set_cons_zero, List.set_cons_succ]
     rfl
    refine one_ (i := 7) (N := some 34) #[true, true, true, true, true, true, true, true, true, false, false] rfl rfl (one_of HT_.out (by kernel_rfl)) (by decide) (fun K hK => ?_)
    refine Kd.R_append_rows_step k48 (w0 := w) w.heap.size (by rfl) (.tmp 31) (.tmp 33) 25 48 (.agg #[(.string ⟨#[]⟩), (.int .i64 0), (.int .i64 0), (.string ⟨#[]⟩), (.int .i64 0)]) 56 rfl Try.underlying25 info48 rfl (by decide) (by omega) v371 y370 y373 _ _ _ (fun k_ => some k_ ≠ (.slice Ao51 y360.length co51 : Value).ownBlock ∧ some k_ ≠ (.slice Ao61 y373.length co61 : Value).ownBlock ∧ k_ ≠ gb321) (fun _ => False) rfl rfl ?aO ?aR (fun _ _ h => h) (fun _ h => h.elim) ?aF ?aB ?aS ?aL ?_
    (case aR => exact co_ (Kd.R_reads' HO375.out).2.2)
    (case aB => exact (spec_l4Put_auHB))
    (case aF => exact (fun k_ hk => ⟨Kd.fresh' (Kd.R_lt (lo_ HO362)) k_ hk, Kd.fresh' (Kd.R_lt (lo_ HO375)) k_ hk, Kd.freshB (g := gb321) (o := .cells #[.string a1_0, .int .i64 a1_1, .int .i64 a1_2, .string a1_3, .int .i64 a1_4] 48 (0, 0)) (spec_l4Put_vb BK321) k_ hk⟩))
    (case aO => exact (lo_ HO372))
    (case aS => exact (below_size (spec_l4Put_auHB)))
    (case aL => have := LMc44.out; omega)
    intro v377 w60 ho hb hg hat
    rw [← Ny376.out] at ho
    have n0_ := Aside0.mk (blk_grown (g := gb321) (o := .cells #[.string a1_0, .int .i64 a1_1, .int .i64 a1_2, .string a1_3, .int .i64 a1_4] 48 (0, 0)) (spec_l4Put_vb BK321) hg (Kd.R_away HO372.out (fun _ hk => hk.2.2)))
    have n1_ := Aside0.mk (Kd.R_after (ok := (fun k_ => some k_ ≠ (.slice Ao61 y373.length co61 : Value).ownBlock ∧ k_ ≠ gb321)) (by (with_reducible repeat (first | apply Kd.R_alloc | apply Kd.R_drewN | apply Kd.R_drew)); exact Kd.R_mono HO362.out (fun _ hk => ⟨⟨hk.2.1, hk.2.2⟩, hk.1⟩)) hg hat)
    have n2_ := Aside0.mk (Kd.R_after (ok := (fun k_ => some k_ ≠ (.slice Ao51 y360.length co51 : Value).ownBlock ∧ k_ ≠ gb321)) (by (with_reducible repeat (first | apply Kd.R_alloc | apply Kd.R_drewN | apply Kd.R_drew)); exact Kd.R_mono HO375.out (fun _ hk => ⟨⟨hk.1, hk.2.2⟩, hk.2.1⟩)) hg hat)
    have n3_ := Aside0.mk (hb)
    have n4_ := Aside0.mk (ho)
    clear BK321
    clear HO362
    clear HO375
    clear HB
    clear HO372
    have BK321 := n0_
    have HO362 := n1_
    have HO375 := n2_
    have HB := n3_
    have HO378 := n4_
    clear n0_ n1_ n2_ n3_ n4_
    clear ho hb hg hat
    refine hK.out _ _ ⟨(blk_cell BK321.out 0).trans rfl, (blk_cell BK321.out 1).trans rfl, (blk_cell BK321.out 2).trans rfl, (blk_cell BK321.out 3).trans rfl, (blk_cell BK321.out 4).trans rfl⟩ (fun hHeld => ?_)
    clear hK K
    refine norm_ (a' := ?_) ?_ ?_
    rotate_left
    ·
     show Act.put _ (some 34) _ = _
     simp only [Act.put, List.setIfInBounds_toArray, List.set_cons_zero, List.set_cons_succ, i64_w, i32_w]
     rfl
    refine one_ (i := 9) (N := some 36) #[true, true, true, true, true, true, true, true, true, true, false] rfl rfl (one_of HT_.out (by kernel_rfl)) (by decide) (fun K hK => ?_)
    refine Kd.R_append_rows_step k48 (w0 := w) w.heap.size (by rfl) (.tmp 34) (.tmp 35) 25 48 (.agg #[(.string ⟨#[]⟩), (.int .i64 0), (.int .i64 0), (.string ⟨#[]⟩), (.int .i64 0)]) 56 rfl Try.underlying25 info48 rfl (by decide) (by omega) v377 y376 y360 _ _ _ (fun k_ => some k_ ≠ (.slice Ao51 y360.length co51 : Value).ownBlock ∧ some k_ ≠ (.slice Ao61 y373.length co61 : Value).ownBlock ∧ k_ ≠ gb321) (fun _ => False) rfl rfl ?aO ?aR (fun _ _ h => h) (fun _ h => h.elim) ?aF ?aB ?aS ?aL ?_
    (case aR => exact co_ (Kd.R_reads' HO362.out).2.2)
    (case aB => exact (spec_l4Put_auHB))
    (case aF => exact (fun k_ hk => ⟨Kd.fresh' (Kd.R_lt (lo_ HO362)) k_ hk, Kd.fresh' (Kd.R_lt (lo_ HO375)) k_ hk, Kd.freshB (g := gb321) (o := .cells #[.string a1_0, .int .i64 a1_1, .int .i64 a1_2, .string a1_3, .int .i64 a1_4] 48 (0, 0)) (spec_l4Put_vb BK321) k_ hk⟩))
    (case aO => exact (lo_ HO378))
    (case aS => exact (below_size (spec_l4Put_auHB)))
    (case aL => have := LMc45.out; omega)
    intro v380 w62 ho hb hg hat
    rw [← Ny379.out] at ho
    have n0_ := Aside0.mk (blk_grown (g := gb321) (o := .cells #[.string a1_0, .int .i64 a1_1, .int .i64 a1_2, .string a1_3, .int .i64 a1_4] 48 (0, 0)) (spec_l4Put_vb BK321) hg (Kd.R_away HO378.out (fun _ hk => hk.2.2)))
    have n1_ := Aside0.mk (Kd.R_after (ok := (fun k_ => some k_ ≠ (.slice Ao61 y373.length co61 : Value).ownBlock ∧ k_ ≠ gb321)) (lo_ HO362) hg hat)
    have n2_ := Aside0.mk (Kd.R_after (ok := (fun k_ => some k_ ≠ (.slice Ao51 y360.length co51 : Value).ownBlock ∧ k_ ≠ gb321)) (lo_ HO375) hg hat)
    have n3_ := Aside0.mk (hb)
    have n4_ := Aside0.mk (ho)
    clear BK321
    clear HO362
    clear HO375
    clear HB
    clear HO378
    have BK321 := n0_
    have HO362 := n1_
    have HO375 := n2_
    have HB := n3_
    have HO381 := n4_
    clear n0_ n1_ n2_ n3_ n4_
    clear ho hb hg hat
    refine hK.out _ _ ⟨(blk_cell BK321.out 0).trans rfl, (blk_cell BK321.out 1).trans rfl, (blk_cell BK321.out 2).trans rfl, (blk_cell BK321.out 3).trans rfl, (blk_cell BK321.out 4).trans rfl⟩ (fun hHeld => ?_)
    clear hK K
    refine norm_ (a' := ?_) ?_ ?_
    rotate_left
    ·
     show Act.put _ (some 36) _ = _
     simp only [Act.put, List.setIfInBounds_toArray, List.set_cons_zero, List.set_cons_succ, i64_w, i32_w]
     rfl
    refine pu_ 10 (some 4) HT_ rfl rfl (by go_simp; rfl) (by kernel_rfl) rfl (by intro w'; go_simp; with_reducible rfl) (fun _ _ _ h => h) (by go_simp; rfl) ?_
    refine done_ (done_of HT_.out (by kernel_rfl)) ?_
    try go_wp2
    go_ret
    exact ⟨_, by first | rfl | (simp [errW_none, errW_some] <;> rfl) | (simp [*, errW_none, errW_some] <;> rfl), by (with_reducible repeat (first | apply Kd.R_alloc | apply Kd.R_drewN | apply Kd.R_drew)); exact Kd.R_mono HO381.out (fun _ hk => trivial), spec_l4Put_auHB⟩
   rw [if_pos c4] at H
   have c4b0 : decide (0 < x5_1) = true := decide_eq_true c4
   clear c4
   obtain ⟨ji5, hji5⟩ : ∃ j_ : Int, (wrap64 (x5_1 - 1)) = j_ := ⟨_, rfl⟩
   replace H : (if 0 ≤ (ji5) then (if (ji5) < (l0.length : Int) then ((spec_EntryLess.f a1_0 a1_1 a1_2 a1_3 a1_4 ((rd_T48 l0 (ji5)).f0) ((rd_T48 l0 (ji5)).f1) ((rd_T48 l0 (ji5)).f2) ((rd_T48 l0 (ji5)).f3) ((rd_T48 l0 (ji5)).f4)).bind fun t323 => (if t323 = true then (spec_l4Put.l0 k1 l0 ji5 a1_0 a1_1 a1_2 a1_3 a1_4) else ((some (([] : List (S48)) : List (S48))).bind fun y324 => (if 0 ≤ x5_1 then (if x5_1 ≤ (l0.length : Int) then ((some (l0.drop (x5_1 : Int).toNat : List (S48))).bind fun y327 => (if y324.length + y327.length < 2513169434916 then ((some (y324 ++ y327 : List (S48))).bind fun y331 => ((some (([] : List (S48)) : List (S48))).bind fun y334 => ((some (l0.take (x5_1 : Int).toNat : List (S48))).bind fun y337 => (if y334.length + y337.length < 2513169434916 then ((some (y334 ++ y337 : List (S48))).bind fun y341 => ((some (([(⟨a1_0, a1_1, a1_2, a1_3, a1_4⟩ : S48)] : List (S48)) : List (S48))).bind fun y344 => (if y341.length + y344.length < 2513169434916 then ((some (y341 ++ y344 : List (S48))).bind fun y347 => (if y347.length + y331.length < 2513169434916 then (some (y347 ++ y331)) else (none))) else (none)))) else (none))))) else (none))) else (none)) else (none))))) else (none)) else (none)) = some r := by first | (rw [hji5] at H; exact H) | (simp only [hji5] at H ⊢; exact H)
   have hji5w : (IntKind.i64.wrap (x5_1 - 1)) = ji5 := (i64_w _).trans hji5
   by_cases c6 : 0 ≤ (ji5)
   rotate_left
   ·
    rw [if_neg c6] at H
    exact absurd H (by simp)
   rw [if_pos c6] at H
   have c6b0 : decide (0 ≤ (ji5)) = true := decide_eq_true c6
   clear c6
   by_cases c7 : (ji5) < (l0.length : Int)
   rotate_left
   ·
    rw [if_neg c7] at H
    exact absurd H (by simp)
   rw [if_pos c7] at H
   have c7b0 : decide ((ji5) < (l0.length : Int)) = true := decide_eq_true c7
   clear c7
   replace H := Option.bind_eq_some_iff.mp H
   obtain ⟨t323, A80, H⟩ := H
   replace H : (if t323 = true then (spec_l4Put.l0 k1 l0 ji5 a1_0 a1_1 a1_2 a1_3 a1_4) else ((some (([] : List (S48)) : List (S48))).bind fun y324 => (if 0 ≤ x5_1 then (if x5_1 ≤ (l0.length : Int) then ((some (l0.drop (x5_1 : Int).toNat : List (S48))).bind fun y327 => (if y324.length + y327.length < 2513169434916 then ((some (y324 ++ y327 : List (S48))).bind fun y331 => ((some (([] : List (S48)) : List (S48))).bind fun y334 => ((some (l0.take (x5_1 : Int).toNat : List (S48))).bind fun y337 => (if y334.length + y337.length < 2513169434916 then ((some (y334 ++ y337 : List (S48))).bind fun y341 => ((some (([(⟨a1_0, a1_1, a1_2, a1_3, a1_4⟩ : S48)] : List (S48)) : List (S48))).bind fun y344 => (if y341.length + y344.length < 2513169434916 then ((some (y341 ++ y344 : List (S48))).bind fun y347 => (if y347.length + y331.length < 2513169434916 then (some (y347 ++ y331)) else (none))) else (none)))) else (none))))) else (none))) else (none)) else (none)))) = some r := H
   have A8 := Aside0.mk A80
   clear A80
   by_cases c9 : t323 = true
   ·
    subst c9
    have H1 : (spec_l4Put.l0 k1 l0 ji5 a1_0 a1_1 a1_2 a1_3 a1_4) = some r := by rw [if_pos rfl] at H; exact H
    clear H
    have H := H1
    clear H1
    have H' := Aside0.mk H
    clear H
    try go_wp2
    replace BK321 := Aside0.mk (blk_drew BK321.out)
    replace HB := Aside0.mk (below_drew1 HB.out)
    have p322 : 0 ≤ ((ji5) : Int) := of_decide_eq_true (by first | (with_reducible assumption) | assumption)
    have q322 : (ji5) < (l0.length : Int) := of_decide_eq_true (by first | (with_reducible assumption) | assumption)
    obtain ⟨ad322, e322, hx322_0, hx322_1, hx322_2, hx322_3, hx322_4⟩ := at_T48 HR0.out (ji5) p322 q322
    have hw322_4 := hx322_4
    have hw322_3 := hx322_3
    have hw322_2 := hx322_2
    have hw322_1 := hx322_1
    have hw322_0 := hx322_0
    cases e322
    replace hx322_0 := (HB.out.cell (World.block_lt_of_cell? w _ hx322_0)).trans hx322_0
    replace hx322_1 := (HB.out.cell (World.block_lt_of_cell? w _ hx322_1)).trans hx322_1
    replace hx322_2 := (HB.out.cell (World.block_lt_of_cell? w _ hx322_2)).trans hx322_2
    replace hx322_3 := (HB.out.cell (World.block_lt_of_cell? w _ hx322_3)).trans hx322_3
    replace hx322_4 := (HB.out.cell (World.block_lt_of_cell? w _ hx322_4)).trans hx322_4
    replace p322 := eq_true p322
    replace q322 := eq_true q322
    refine start_ (n := 11) (S := fun w' => w'.cell? ⟨gb321, 0, none⟩ = some (.string a1_0) ∧ w'.cell? ⟨gb321, 1, none⟩ = some (.int .i64 a1_1) ∧ w'.cell? ⟨gb321, 2, none⟩ = some (.int .i64 a1_2) ∧ w'.cell? ⟨gb321, 3, none⟩ = some (.string a1_3) ∧ w'.cell? ⟨gb321, 4, none⟩ = some (.int .i64 a1_4) ∧ w'.cell? (ad322.add (((ji5)).toNat * 5)) = some (.string ((rd_T48 l0 (ji5)).f0)) ∧ w'.cell? ⟨(ad322.add (((ji5)).toNat * 5)).block, (ad322.add (((ji5)).toNat * 5)).off + 1, none⟩ = some (.int .i64 ((rd_T48 l0 (ji5)).f1)) ∧ w'.cell? ⟨(ad322.add (((ji5)).toNat * 5)).block, (ad322.add (((ji5)).toNat * 5)).off + 2, none⟩ = some (.int .i64 ((rd_T48 l0 (ji5)).f2)) ∧ w'.cell? ⟨(ad322.add (((ji5)).toNat * 5)).block, (ad322.add (((ji5)).toNat * 5)).off + 3, none⟩ = some (.string ((rd_T48 l0 (ji5)).f3)) ∧ w'.cell? ⟨(ad322.add (((ji5)).toNat * 5)).block, (ad322.add (((ji5)).toNat * 5)).off + 4, none⟩ = some (.int .i64 ((rd_T48 l0 (ji5)).f4))) (ds := []) #[false, false, false, false, false, false, false, false, false, false, false] (by kernel_rfl) rfl rfl ⟨(blk_cell BK321.out 0).trans rfl, (blk_cell BK321.out 1).trans rfl, (blk_cell BK321.out 2).trans rfl, (blk_cell BK321.out 3).trans rfl, (blk_cell BK321.out 4).trans rfl, ((HB.out.cell (World.block_lt_of_cell? w _ hw322_0)).trans hw322_0), ((HB.out.cell (World.block_lt_of_cell? w _ hw322_1)).trans hw322_1), ((HB.out.cell (World.block_lt_of_cell? w _ hw322_2)).trans hw322_2), ((HB.out.cell (World.block_lt_of_cell? w _ hw322_3)).trans hw322_3), ((HB.out.cell (World.block_lt_of_cell? w _ hw322_4)).trans hw322_4)⟩ (fun hHeld => ?_); refine with_tabW spec_l4Put.tab2 spec_l4Put.bits2 (fun HT_ HW_ => ?_)
    generalize wr.drew = w10 at BK321 HB hx322_0 hx322_1 hx322_2 hx322_3 hx322_4 hHeld ⊢
    refine pu_ 0 (some 9) HT_ rfl rfl (by go_simp; rfl) (by kernel_rfl) rfl (by intro w'; go_simp; with_reducible rfl) (fun _ _ _ h => h) (by go_simp; rfl) ?_
    refine pu_ 1 (some 10) HT_ rfl rfl (by go_simp; rfl) (by kernel_rfl) rfl (by intro w'; go_simp; with_reducible rfl) (fun _ _ _ h => h) (by go_simp; rfl) ?_
    refine pu_ 2 (some 11) HT_ rfl rfl (by go_simp; rfl) (by kernel_rfl) rfl (by intro w'; go_simp; with_reducible rfl) (fun _ _ _ h => h) (by go_simp; rfl) ?_
    refine pu_ 4 (some 13) HT_ rfl rfl (by go_simp; rfl) (by kernel_rfl) rfl (by intro w'; go_simp; with_reducible rfl) (fun _ _ _ h => h) (by go_simp; rfl) ?_
    refine pu_ 5 (some 14) HT_ rfl rfl (by go_simp; rfl) (by kernel_rfl) rfl (by intro w'; go_simp; with_reducible rfl) (fun _ _ _ h => h) (by go_simp; rfl) ?_
    refine pu_ 6 (some 15) HT_ rfl rfl (by go_simp; rfl) (by kernel_rfl) rfl (by intro w'; go_simp; with_reducible rfl) (fun _ _ _ h => h) (by go_simp; rfl) ?_
    refine pu_ 7 (some 16) HT_ rfl rfl (by go_simp; rfl) (by kernel_rfl) rfl (by intro w'; go_simp; with_reducible rfl) (fun _ _ _ h => h) (by go_simp; rfl) ?_
    refine ta_ 3 (some 12) HT_ HW_ hHeld rfl rfl (by go_simp; rfl) (by kernel_rfl) rfl (by rintro w' ⟨s0, s1, s2, s3, s4, s5, s6, s7, s8, s9⟩; go_simp; with_reducible rfl) (fun _ _ _ h => h) (by go_simp; rfl) ?_
    refine ta_ 8 (some 17) HT_ HW_ hHeld rfl rfl (by go_simp; rfl) (by kernel_rfl) rfl (by rintro w' ⟨s0, s1, s2, s3, s4, s5, s6, s7, s8, s9⟩; go_simp; with_reducible rfl) (fun _ _ _ h => h) (by go_simp; rfl) ?_
    refine one_ (i := 9) (N := some 18) #[true, true, true, true, true, true, true, true, true, true, false] rfl rfl (one_of HT_.out (by kernel_rfl)) (by decide) (fun K hK => ?_)
    refine goes_ Try.func58 (by kernel_rfl) rfl #[.agg #[.string a1_0, .int .i64 a1_1, .int .i64 a1_2, .string a1_3, .int .i64 a1_4], .agg #[.string ((rd_T48 l0 (ji5)).f0), .int .i64 ((rd_T48 l0 (ji5)).f1), .int .i64 ((rd_T48 l0 (ji5)).f2), .string ((rd_T48 l0 (ji5)).f3), .int .i64 ((rd_T48 l0 (ji5)).f4)]] (by rfl) rfl rfl (by (try simp only [List.map_toArray, List.map_cons, List.map_nil]); first | done | (simp only [hji5]; rfl) | rfl | (simp only [List.length_drop, List.length_take]; rfl)) ?_
    with_reducible refine (spec_EntryLess.calls a1_0 a1_1 a1_2 a1_3 a1_4 ((rd_T48 l0 (ji5)).f0) ((rd_T48 l0 (ji5)).f1) ((rd_T48 l0 (ji5)).f2) ((rd_T48 l0 (ji5)).f3) ((rd_T48 l0 (ji5)).f4) true _ A8.out).mono ?_
    rintro e w11 ⟨rfl, hb⟩
    refine ⟨_, rfl, ?_⟩
    replace BK321 := Aside0.mk (blk_below (g := gb321) (o := .cells #[.string a1_0, .int .i64 a1_1, .int .i64 a1_2, .string a1_3, .int .i64 a1_4] 48 (0, 0)) (spec_l4Put_vb BK321) hb)
    replace HB := Aside0.mk (below_step (spec_l4Put_auHB) hb)
    (try clear hb)
    (try clear hb2)
    (try clear hk)
    (try clear hi)
    refine hK.out _ _ ⟨(blk_cell BK321.out 0).trans rfl, (blk_cell BK321.out 1).trans rfl, (blk_cell BK321.out 2).trans rfl, (blk_cell BK321.out 3).trans rfl, (blk_cell BK321.out 4).trans rfl, ((HB.out.cell (World.block_lt_of_cell? w _ hw322_0)).trans hw322_0), ((HB.out.cell (World.block_lt_of_cell? w _ hw322_1)).trans hw322_1), ((HB.out.cell (World.block_lt_of_cell? w _ hw322_2)).trans hw322_2), ((HB.out.cell (World.block_lt_of_cell? w _ hw322_3)).trans hw322_3), ((HB.out.cell (World.block_lt_of_cell? w _ hw322_4)).trans hw322_4)⟩ (fun hHeld => ?_)
    clear hK K
    refine norm_ (a' := ?_) ?_ ?_
    rotate_left
    ·
     show Act.put _ (some 18) _ = _
     simp only [Act.put, List.setIfInBounds_toArray, List.set_cons_zero, List.set_cons_succ, i64_w, i32_w]
     rfl
    refine pu_ 10 (some 19) HT_ rfl rfl (by go_simp; rfl) (by kernel_rfl) rfl (by intro w'; go_simp; with_reducible rfl) (fun _ _ _ h => h) (by go_simp; rfl) ?_
    refine done_ (done_of HT_.out (by kernel_rfl)) ?_
    try go_wp2
    go_roundg k1
    case measure => have := HK1.out; omega
    case rel => exact ⟨(ji5), (by first | rfl | (simp; done) | (simp only [← hji5] <;> (first | rfl | simp)) | (simp [*]; done)), H', ⟨by have := HK1.out; omega⟩, ⟨by (with_reducible repeat (first | refine blk_drewN ?_ _ | refine blk_drew ?_ | refine blk_alloc ?_ _)); exact BK321.out⟩, ⟨spec_l4Put_auHB⟩⟩
   replace c9 := Bool.eq_false_iff.mpr c9
   subst c9
   have H1 : ((some (([] : List (S48)) : List (S48))).bind fun y324 => (if 0 ≤ x5_1 then (if x5_1 ≤ (l0.length : Int) then ((some (l0.drop (x5_1 : Int).toNat : List (S48))).bind fun y327 => (if y324.length + y327.length < 2513169434916 then ((some (y324 ++ y327 : List (S48))).bind fun y331 => ((some (([] : List (S48)) : List (S48))).bind fun y334 => ((some (l0.take (x5_1 : Int).toNat : List (S48))).bind fun y337 => (if y334.length + y337.length < 2513169434916 then ((some (y334 ++ y337 : List (S48))).bind fun y341 => ((some (([(⟨a1_0, a1_1, a1_2, a1_3, a1_4⟩ : S48)] : List (S48)) : List (S48))).bind fun y344 => (if y341.length + y344.length < 2513169434916 then ((some (y341 ++ y344 : List (S48))).bind fun y347 => (if y347.length + y331.length < 2513169434916 then (some (y347 ++ y331)) else (none))) else (none)))) else (none))))) else (none))) else (none)) else (none))) = some r := by rw [if_neg (show ¬ (false = true) by decide)] at H; exact H
   clear H
   have H := H1
   clear H1
   obtain ⟨y324, hy324⟩ : ∃ y_ : List (S48), y_ = (([] : List (S48))) := ⟨_, rfl⟩
   replace H : (if 0 ≤ x5_1 then (if x5_1 ≤ (l0.length : Int) then ((some (l0.drop (x5_1 : Int).toNat : List (S48))).bind fun y327 => (if y324.length + y327.length < 2513169434916 then ((some (y324 ++ y327 : List (S48))).bind fun y331 => ((some (([] : List (S48)) : List (S48))).bind fun y334 => ((some (l0.take (x5_1 : Int).toNat : List (S48))).bind fun y337 => (if y334.length + y337.length < 2513169434916 then ((some (y334 ++ y337 : List (S48))).bind fun y341 => ((some (([(⟨a1_0, a1_1, a1_2, a1_3, a1_4⟩ : S48)] : List (S48)) : List (S48))).bind fun y344 => (if y341.length + y344.length < 2513169434916 then ((some (y341 ++ y344 : List (S48))).bind fun y347 => (if y347.length + y331.length < 2513169434916 then (some (y347 ++ y331)) else (none))) else (none)))) else (none))))) else (none))) else (none)) else (none)) = some r := by first | (rw [hy324]; with_reducible exact H) | (have H2_ := (Option.bind_some _ _).symm.trans H; rw [hy324]; with_reducible exact H2_) | (have H2_ := (Option.bind_some _ _).symm.trans H; with_reducible exact H2_) | with_reducible exact H | (rw [hy324]; exact H) | exact H
   have Ny324 := Aside0.mk hy324
   clear hy324
   by_cases c12 : 0 ≤ x5_1
   rotate_left
   ·
    rw [if_neg c12] at H
    exact absurd H (by simp)
   rw [if_pos c12] at H
   have c12b0 := eq_true c12
   have c12b1 : decide (0 ≤ x5_1) = true := decide_eq_true c12
   clear c12
   by_cases c13 : x5_1 ≤ (l0.length : Int)
   rotate_left
   ·
    rw [if_neg c13] at H
    exact absurd H (by simp)
   rw [if_pos c13] at H
   have c13b0 := eq_true c13
   have c13b1 : decide (x5_1 ≤ (l0.length : Int)) = true := decide_eq_true c13
   clear c13
   obtain ⟨y327, hy327⟩ : ∃ y_ : List (S48), y_ = (l0.drop (x5_1 : Int).toNat) := ⟨_, rfl⟩
   replace H : (if y324.length + y327.length < 2513169434916 then ((some (y324 ++ y327 : List (S48))).bind fun y331 => ((some (([] : List (S48)) : List (S48))).bind fun y334 => ((some (l0.take (x5_1 : Int).toNat : List (S48))).bind fun y337 => (if y334.length + y337.length < 2513169434916 then ((some (y334 ++ y337 : List (S48))).bind fun y341 => ((some (([(⟨a1_0, a1_1, a1_2, a1_3, a1_4⟩ : S48)] : List (S48)) : List (S48))).bind fun y344 => (if y341.length + y344.length < 2513169434916 then ((some (y341 ++ y344 : List (S48))).bind fun y347 => (if y347.length + y331.length < 2513169434916 then (some (y347 ++ y331)) else (none))) else (none)))) else (none))))) else (none)) = some r := by first | (rw [hy327]; with_reducible exact H) | (have H2_ := (Option.bind_some _ _).symm.trans H; rw [hy327]; with_reducible exact H2_) | (have H2_ := (Option.bind_some _ _).symm.trans H; with_reducible exact H2_) | with_reducible exact H | (rw [hy327]; exact H) | exact H
   have Ny327 := Aside0.mk hy327
   clear hy327
   by_cases c14 : y324.length + y327.length < 2513169434916
   rotate_left
   ·
    rw [if_neg c14] at H
    exact absurd H (by simp)
   rw [if_pos c14] at H
   have LMc14 := Aside0.mk c14
   clear c14
   obtain ⟨y331, hy331⟩ : ∃ y_ : List (S48), y_ = (y324 ++ y327) := ⟨_, rfl⟩
   replace H : ((some (([] : List (S48)) : List (S48))).bind fun y334 => ((some (l0.take (x5_1 : Int).toNat : List (S48))).bind fun y337 => (if y334.length + y337.length < 2513169434916 then ((some (y334 ++ y337 : List (S48))).bind fun y341 => ((some (([(⟨a1_0, a1_1, a1_2, a1_3, a1_4⟩ : S48)] : List (S48)) : List (S48))).bind fun y344 => (if y341.length + y344.length < 2513169434916 then ((some (y341 ++ y344 : List (S48))).bind fun y347 => (if y347.length + y331.length < 2513169434916 then (some (y347 ++ y331)) else (none))) else (none)))) else (none)))) = some r := by first | (rw [hy331]; with_reducible exact H) | (have H2_ := (Option.bind_some _ _).symm.trans H; rw [hy331]; with_reducible exact H2_) | (have H2_ := (Option.bind_some _ _).symm.trans H; with_reducible exact H2_) | with_reducible exact H | (rw [hy331]; exact H) | exact H
   have Ny331 := Aside0.mk hy331
   clear hy331
   obtain ⟨y334, hy334⟩ : ∃ y_ : List (S48), y_ = (([] : List (S48))) := ⟨_, rfl⟩
   replace H : ((some (l0.take (x5_1 : Int).toNat : List (S48))).bind fun y337 => (if y334.length + y337.length < 2513169434916 then ((some (y334 ++ y337 : List (S48))).bind fun y341 => ((some (([(⟨a1_0, a1_1, a1_2, a1_3, a1_4⟩ : S48)] : List (S48)) : List (S48))).bind fun y344 => (if y341.length + y344.length < 2513169434916 then ((some (y341 ++ y344 : List (S48))).bind fun y347 => (if y347.length + y331.length < 2513169434916 then (some (y347 ++ y331)) else (none))) else (none)))) else (none))) = some r := by first | (rw [hy334]; with_reducible exact H) | (have H2_ := (Option.bind_some _ _).symm.trans H; rw [hy334]; with_reducible exact H2_) | (have H2_ := (Option.bind_some _ _).symm.trans H; with_reducible exact H2_) | with_reducible exact H | (rw [hy334]; exact H) | exact H
   have Ny334 := Aside0.mk hy334
   clear hy334
   have c15b0 := eq_true (of_decide_eq_true (by first | (with_reducible assumption) | assumption) : 0 ≤ x5_1)
   have c16b0 := eq_true (of_decide_eq_true (by first | (with_reducible assumption) | assumption) : x5_1 ≤ (l0.length : Int))
   obtain ⟨y337, hy337⟩ : ∃ y_ : List (S48), y_ = (l0.take (x5_1 : Int).toNat) := ⟨_, rfl⟩
   replace H : (if y334.length + y337.length < 2513169434916 then ((some (y334 ++ y337 : List (S48))).bind fun y341 => ((some (([(⟨a1_0, a1_1, a1_2, a1_3, a1_4⟩ : S48)] : List (S48)) : List (S48))).bind fun y344 => (if y341.length + y344.length < 2513169434916 then ((some (y341 ++ y344 : List (S48))).bind fun y347 => (if y347.length + y331.length < 2513169434916 then (some (y347 ++ y331)) else (none))) else (none)))) else (none)) = some r := by first | (rw [hy337]; with_reducible exact H) | (have H2_ := (Option.bind_some _ _).symm.trans H; rw [hy337]; with_reducible exact H2_) | (have H2_ := (Option.bind_some _ _).symm.trans H; with_reducible exact H2_) | with_reducible exact H | (rw [hy337]; exact H) | exact H
   have Ny337 := Aside0.mk hy337
   clear hy337
   by_cases c17 : y334.length + y337.length < 2513169434916
   rotate_left
   ·
    rw [if_neg c17] at H
    exact absurd H (by simp)
   rw [if_pos c17] at H
   have LMc17 := Aside0.mk c17
   clear c17
   obtain ⟨y341, hy341⟩ : ∃ y_ : List (S48), y_ = (y334 ++ y337) := ⟨_, rfl⟩
   replace H : ((some (([(⟨a1_0, a1_1, a1_2, a1_3, a1_4⟩ : S48)] : List (S48)) : List (S48))).bind fun y344 => (if y341.length + y344.length < 2513169434916 then ((some (y341 ++ y344 : List (S48))).bind fun y347 => (if y347.length + y331.length < 2513169434916 then (some (y347 ++ y331)) else (none))) else (none))) = some r := by first | (rw [hy341]; with_reducible exact H) | (have H2_ := (Option.bind_some _ _).symm.trans H; rw [hy341]; with_reducible exact H2_) | (have H2_ := (Option.bind_some _ _).symm.trans H; with_reducible exact H2_) | with_reducible exact H | (rw [hy341]; exact H) | exact H
   have Ny341 := Aside0.mk hy341
   clear hy341
   obtain ⟨y344, hy344⟩ : ∃ y_ : List (S48), y_ = (([(⟨a1_0, a1_1, a1_2, a1_3, a1_4⟩ : S48)] : List (S48))) := ⟨_, rfl⟩
   replace H : (if y341.length + y344.length < 2513169434916 then ((some (y341 ++ y344 : List (S48))).bind fun y347 => (if y347.length + y331.length < 2513169434916 then (some (y347 ++ y331)) else (none))) else (none)) = some r := by first | (rw [hy344]; with_reducible exact H) | (have H2_ := (Option.bind_some _ _).symm.trans H; rw [hy344]; with_reducible exact H2_) | (have H2_ := (Option.bind_some _ _).symm.trans H; with_reducible exact H2_) | with_reducible exact H | (rw [hy344]; exact H) | exact H
   have Ny344 := Aside0.mk hy344
   clear hy344
   by_cases c18 : y341.length + y344.length < 2513169434916
   rotate_left
   ·
    rw [if_neg c18] at H
    exact absurd H (by simp)
   rw [if_pos c18] at H
   have LMc18 := Aside0.mk c18
   clear c18
   obtain ⟨y347, hy347⟩ : ∃ y_ : List (S48), y_ = (y341 ++ y344) := ⟨_, rfl⟩
   replace H : (if y347.length + y331.length < 2513169434916 then (some (y347 ++ y331)) else (none)) = some r := by first | (rw [hy347]; with_reducible exact H) | (have H2_ := (Option.bind_some _ _).symm.trans H; rw [hy347]; with_reducible exact H2_) | (have H2_ := (Option.bind_some _ _).symm.trans H; with_reducible exact H2_) | with_reducible exact H | (rw [hy347]; exact H) | exact H
   have Ny347 := Aside0.mk hy347
   clear hy347
   by_cases c19 : y347.length + y331.length < 2513169434916
   rotate_left
   ·
    rw [if_neg c19] at H
    exact absurd H (by simp)
   rw [if_pos c19] at H
   have LMc19 := Aside0.mk c19
   clear c19
   obtain ⟨y350, hy350⟩ : ∃ y_ : List (S48), y_ = (y347 ++ y331) := ⟨_, rfl⟩
   replace H : (some y350) = some r := by first | (rw [hy350]; with_reducible exact H) | (have H2_ := (Option.bind_some _ _).symm.trans H; rw [hy350]; with_reducible exact H2_) | (have H2_ := (Option.bind_some _ _).symm.trans H; with_reducible exact H2_) | with_reducible exact H | (rw [hy350]; exact H) | exact H
   have Ny350 := Aside0.mk hy350
   clear hy350
   obtain rfl := Option.some.inj H
   try go_wp2
   replace BK321 := Aside0.mk (blk_drew BK321.out)
   replace HB := Aside0.mk (below_drew1 HB.out)
   have p322 : 0 ≤ ((ji5) : Int) := of_decide_eq_true (by first | (with_reducible assumption) | assumption)
   have q322 : (ji5) < (l0.length : Int) := of_decide_eq_true (by first | (with_reducible assumption) | assumption)
   obtain ⟨ad322, e322, hx322_0, hx322_1, hx322_2, hx322_3, hx322_4⟩ := at_T48 HR0.out (ji5) p322 q322
   have hw322_4 := hx322_4
   have hw322_3 := hx322_3
   have hw322_2 := hx322_2
   have hw322_1 := hx322_1
   have hw322_0 := hx322_0
   cases e322
   replace hx322_0 := (HB.out.cell (World.block_lt_of_cell? w _ hx322_0)).trans hx322_0
   replace hx322_1 := (HB.out.cell (World.block_lt_of_cell? w _ hx322_1)).trans hx322_1
   replace hx322_2 := (HB.out.cell (World.block_lt_of_cell? w _ hx322_2)).trans hx322_2
   replace hx322_3 := (HB.out.cell (World.block_lt_of_cell? w _ hx322_3)).trans hx322_3
   replace hx322_4 := (HB.out.cell (World.block_lt_of_cell? w _ hx322_4)).trans hx322_4
   replace p322 := eq_true p322
   replace q322 := eq_true q322
   refine start_ (n := 11) (S := fun w' => w'.cell? ⟨gb321, 0, none⟩ = some (.string a1_0) ∧ w'.cell? ⟨gb321, 1, none⟩ = some (.int .i64 a1_1) ∧ w'.cell? ⟨gb321, 2, none⟩ = some (.int .i64 a1_2) ∧ w'.cell? ⟨gb321, 3, none⟩ = some (.string a1_3) ∧ w'.cell? ⟨gb321, 4, none⟩ = some (.int .i64 a1_4) ∧ w'.cell? (ad322.add (((ji5)).toNat * 5)) = some (.string ((rd_T48 l0 (ji5)).f0)) ∧ w'.cell? ⟨(ad322.add (((ji5)).toNat * 5)).block, (ad322.add (((ji5)).toNat * 5)).off + 1, none⟩ = some (.int .i64 ((rd_T48 l0 (ji5)).f1)) ∧ w'.cell? ⟨(ad322.add (((ji5)).toNat * 5)).block, (ad322.add (((ji5)).toNat * 5)).off + 2, none⟩ = some (.int .i64 ((rd_T48 l0 (ji5)).f2)) ∧ w'.cell? ⟨(ad322.add (((ji5)).toNat * 5)).block, (ad322.add (((ji5)).toNat * 5)).off + 3, none⟩ = some (.string ((rd_T48 l0 (ji5)).f3)) ∧ w'.cell? ⟨(ad322.add (((ji5)).toNat * 5)).block, (ad322.add (((ji5)).toNat * 5)).off + 4, none⟩ = some (.int .i64 ((rd_T48 l0 (ji5)).f4))) (ds := []) #[false, false, false, false, false, false, false, false, false, false, false] (by kernel_rfl) rfl rfl ⟨(blk_cell BK321.out 0).trans rfl, (blk_cell BK321.out 1).trans rfl, (blk_cell BK321.out 2).trans rfl, (blk_cell BK321.out 3).trans rfl, (blk_cell BK321.out 4).trans rfl, ((HB.out.cell (World.block_lt_of_cell? w _ hw322_0)).trans hw322_0), ((HB.out.cell (World.block_lt_of_cell? w _ hw322_1)).trans hw322_1), ((HB.out.cell (World.block_lt_of_cell? w _ hw322_2)).trans hw322_2), ((HB.out.cell (World.block_lt_of_cell? w _ hw322_3)).trans hw322_3), ((HB.out.cell (World.block_lt_of_cell? w _ hw322_4)).trans hw322_4)⟩ (fun hHeld => ?_); refine with_tabW spec_l4Put.tab2 spec_l4Put.bits2 (fun HT_ HW_ => ?_)
   generalize wr.drew = w20 at BK321 HB hx322_0 hx322_1 hx322_2 hx322_3 hx322_4 hHeld ⊢
   refine pu_ 0 (some 9) HT_ rfl rfl (by go_simp; rfl) (by kernel_rfl) rfl (by intro w'; go_simp; with_reducible rfl) (fun _ _ _ h => h) (by go_simp; rfl) ?_
   refine pu_ 1 (some 10) HT_ rfl rfl (by go_simp; rfl) (by kernel_rfl) rfl (by intro w'; go_simp; with_reducible rfl) (fun _ _ _ h => h) (by go_simp; rfl) ?_
   refine pu_ 2 (some 11) HT_ rfl rfl (by go_simp; rfl) (by kernel_rfl) rfl (by intro w'; go_simp; with_reducible rfl) (fun _ _ _ h => h) (by go_simp; rfl) ?_
   refine pu_ 4 (some 13) HT_ rfl rfl (by go_simp; rfl) (by kernel_rfl) rfl (by intro w'; go_simp; with_reducible rfl) (fun _ _ _ h => h) (by go_simp; rfl) ?_
   refine pu_ 5 (some 14) HT_ rfl rfl (by go_simp; rfl) (by kernel_rfl) rfl (by intro w'; go_simp; with_reducible rfl) (fun _ _ _ h => h) (by go_simp; rfl) ?_
   refine pu_ 6 (some 15) HT_ rfl rfl (by go_simp; rfl) (by kernel_rfl) rfl (by intro w'; go_simp; with_reducible rfl) (fun _ _ _ h => h) (by go_simp; rfl) ?_
   refine pu_ 7 (some 16) HT_ rfl rfl (by go_simp; rfl) (by kernel_rfl) rfl (by intro w'; go_simp; with_reducible rfl) (fun _ _ _ h => h) (by go_simp; rfl) ?_
   refine ta_ 3 (some 12) HT_ HW_ hHeld rfl rfl (by go_simp; rfl) (by kernel_rfl) rfl (by rintro w' ⟨s0, s1, s2, s3, s4, s5, s6, s7, s8, s9⟩; go_simp; with_reducible rfl) (fun _ _ _ h => h) (by go_simp; rfl) ?_
   refine ta_ 8 (some 17) HT_ HW_ hHeld rfl rfl (by go_simp; rfl) (by kernel_rfl) rfl (by rintro w' ⟨s0, s1, s2, s3, s4, s5, s6, s7, s8, s9⟩; go_simp; with_reducible rfl) (fun _ _ _ h => h) (by go_simp; rfl) ?_
   refine one_ (i := 9) (N := some 18) #[true, true, true, true, true, true, true, true, true, true, false] rfl rfl (one_of HT_.out (by kernel_rfl)) (by decide) (fun K hK => ?_)
   refine goes_ Try.func58 (by kernel_rfl) rfl #[.agg #[.string a1_0, .int .i64 a1_1, .int .i64 a1_2, .string a1_3, .int .i64 a1_4], .agg #[.string ((rd_T48 l0 (ji5)).f0), .int .i64 ((rd_T48 l0 (ji5)).f1), .int .i64 ((rd_T48 l0 (ji5)).f2), .string ((rd_T48 l0 (ji5)).f3), .int .i64 ((rd_T48 l0 (ji5)).f4)]] (by rfl) rfl rfl (by (try simp only [List.map_toArray, List.map_cons, List.map_nil]); first | done | (simp only [hji5]; rfl) | rfl | (simp only [List.length_drop, List.length_take]; rfl)) ?_
   with_reducible refine (spec_EntryLess.calls a1_0 a1_1 a1_2 a1_3 a1_4 ((rd_T48 l0 (ji5)).f0) ((rd_T48 l0 (ji5)).f1) ((rd_T48 l0 (ji5)).f2) ((rd_T48 l0 (ji5)).f3) ((rd_T48 l0 (ji5)).f4) false _ A8.out).mono ?_
   rintro e w21 ⟨rfl, hb⟩
   refine ⟨_, rfl, ?_⟩
   replace BK321 := Aside0.mk (blk_below (g := gb321) (o := .cells #[.string a1_0, .int .i64 a1_1, .int .i64 a1_2, .string a1_3, .int .i64 a1_4] 48 (0, 0)) (spec_l4Put_vb BK321) hb)
   replace HB := Aside0.mk (below_step (spec_l4Put_auHB) hb)
   (try clear hb)
   (try clear hb2)
   (try clear hk)
   (try clear hi)
   refine hK.out _ _ ⟨(blk_cell BK321.out 0).trans rfl, (blk_cell BK321.out 1).trans rfl, (blk_cell BK321.out 2).trans rfl, (blk_cell BK321.out 3).trans rfl, (blk_cell BK321.out 4).trans rfl, ((HB.out.cell (World.block_lt_of_cell? w _ hw322_0)).trans hw322_0), ((HB.out.cell (World.block_lt_of_cell? w _ hw322_1)).trans hw322_1), ((HB.out.cell (World.block_lt_of_cell? w _ hw322_2)).trans hw322_2), ((HB.out.cell (World.block_lt_of_cell? w _ hw322_3)).trans hw322_3), ((HB.out.cell (World.block_lt_of_cell? w _ hw322_4)).trans hw322_4)⟩ (fun hHeld => ?_)
   clear hK K
   refine norm_ (a' := ?_) ?_ ?_
   rotate_left
   ·
    show Act.put _ (some 18) _ = _
    simp only [Act.put, List.setIfInBounds_toArray, List.set_cons_zero, List.set_cons_succ, i64_w, i32_w]
    rfl
   refine pu_ 10 (some 19) HT_ rfl rfl (by go_simp; rfl) (by kernel_rfl) rfl (by intro w'; go_simp; with_reducible rfl) (fun _ _ _ h => h) (by go_simp; rfl) ?_
   refine done_ (done_of HT_.out (by kernel_rfl)) ?_
   try go_wp2_with (first | ((with_reducible refine gate_dst (N := 22) rfl ?_); refine Kd.R_lit k48 _ 48 ?hg (N := 22) ?hd (xs := ([] : List (S48))) (inner := []) (ok := fun _ => True) (okp := fun _ => True) ?hr ?hp (fun _ hk => hk) trivial (Below.refl _ _) (Nat.le_refl _) (by simp) ?_; (case hd => rfl); (case hg => rfl); (case hr => first | (go_simp; done) | (go_simp; rfl)); (case hp => exact (Reps.none _ _)); intro v325 w22 ho23 hb hg_ hnew_; clear hg_ hnew_; (first | rw [← Ny324.out] at ho23 | (simp only [Int.reduceToNat] at ho23; rw [← Ny324.out] at ho23)); have HO326 := Aside0.mk (Kd.R_lower (Kd.R_newB ho23 (g := gb321) (o := .cells #[.string a1_0, .int .i64 a1_1, .int .i64 a1_2, .string a1_3, .int .i64 a1_4] 48 (0, 0)) (spec_l4Put_vb BK321)) (below_size (spec_l4Put_auHB))); replace BK321 := Aside0.mk (blk_below (g := gb321) (o := .cells #[.string a1_0, .int .i64 a1_1, .int .i64 a1_2, .string a1_3, .int .i64 a1_4] 48 (0, 0)) (spec_l4Put_vb BK321) hb); replace HB := Aside0.mk (below_step (spec_l4Put_auHB) hb); clear hb ho23; have q24 : (x5_1 : Int) ≤ ((l0.length : Int) : Int) := of_decide_eq_true (by first | (with_reducible assumption) | assumption); obtain ⟨i024, hi024, _, hsz24, _⟩ := info_parts info48; have hroom24 : l0.length ≤ c0 := HC0.out; have hC24 : Kd.C k48 _ (some ad322) l0.length l0 := HR0.out; have q024 : (0 : Int) ≤ (x5_1 : Int) := of_decide_eq_true (by first | (with_reducible assumption) | assumption); have hcut24 := cut_from (P := Try.prog) 25 48 .i64 Try.underlying25 hi024 5 hsz24 (some ad322) l0.length c0 x5_1 q024 q24; have hr24 := Kd.C_drop (m := (x5_1 : Int).toNat) (c := c0) hC24 (by omega) hroom24; obtain ⟨A24, hA24⟩ : ∃ A1, A1 = (if c0 = (x5_1 : Int).toNat then (some ad322) else ((some ad322) : Option Addr).map (·.add ((x5_1 : Int).toNat * 5))) := ⟨_, rfl⟩; obtain ⟨c24, hc24⟩ : ∃ c1, c1 = c0 - (x5_1 : Int).toNat := ⟨_, rfl⟩; have hy24 : y327.length = l0.length - (x5_1 : Int).toNat := (by rw [Ny327.out, List.length_drop] <;> omega); rw [show (l0).drop (x5_1 : Int).toNat = y327 from Ny327.out.symm] at hr24; replace hr24 : Kd.C k48 _ A24 y327.length y327 := (by rw [hA24]; exact hr24); rw [← hy24, ← hA24, ← hc24] at hcut24; have HR330 := Aside0.mk hr24; have HC330 := Aside0.mk (show y327.length ≤ c24 from by rw [hy24, hc24]; exact Nat.sub_le_sub_right hroom24 _); clear hr24 hC24 hroom24 hi024 hsz24 hc24; have KY24 := Aside0.mk hy24; have KA24 := Aside0.mk hA24; clear hy24 hA24; replace q24 := eq_true q24) | ((with_reducible refine gate_builtin (b := .append) (xs := #[.tmp 22, .tmp 25]) rfl ?_); at_builtin; refine Kd.R_append_rows k48 (w0 := w) w.heap.size rfl (.tmp 22) (.tmp 25) 25 48 (.agg #[(.string ⟨#[]⟩), (.int .i64 0), (.int .i64 0), (.string ⟨#[]⟩), (.int .i64 0)]) 56 rfl Try.underlying25 info48 rfl (by decide) (by omega) v325 y324 y327 _ _ _ (fun k_ => k_ ≠ gb321) (fun _ => False) rfl rfl ?aO ?aR (fun _ _ h => h) (fun _ h => h.elim) ?aF ?aB ?aS ?aL ?_; (case aR => repeat (first | exact (Kd.C_below HR330.out HB.out) | (with_reducible refine Kd.C_alloc ?_ _) | (with_reducible refine Kd.C_drewN ?_ _) | (with_reducible refine Kd.C_drew ?_))); (case aB => exact (spec_l4Put_auHB)); (case aF => exact (fun k_ hk => Kd.freshB (g := gb321) (o := .cells #[.string a1_0, .int .i64 a1_1, .int .i64 a1_2, .string a1_3, .int .i64 a1_4] 48 (0, 0)) (spec_l4Put_vb BK321) k_ hk)); (case aO => exact (by (with_reducible repeat (first | apply Kd.R_alloc | apply Kd.R_drewN | apply Kd.R_drew)); exact Kd.R_mono HO326.out (fun _ hk => hk.2))); (case aS => exact (below_size (spec_l4Put_auHB))); (case aL => have := LMc14.out; omega); intro v332 w25 ho hb hg hat; rw [← Ny331.out] at ho; have n0_ := Aside0.mk (blk_grown (g := gb321) (o := .cells #[.string a1_0, .int .i64 a1_1, .int .i64 a1_2, .string a1_3, .int .i64 a1_4] 48 (0, 0)) (spec_l4Put_vb BK321) hg (Kd.R_away HO326.out (fun _ hk => hk.2))); have n1_ := Aside0.mk (hb); have n2_ := Aside0.mk (ho); clear BK321; clear HB; clear HO326; have BK321 := n0_; have HB := n1_; have HO333 := n2_; clear n0_ n1_ n2_; clear ho hb hg hat; obtain ⟨Ao26, co26, eo26⟩ := Kd.R_slice HO333.out; subst eo26))
   replace HO333 := Aside0.mk (Kd.R_drew HO333.out)
   replace BK321 := Aside0.mk (blk_drew BK321.out)
   replace HB := Aside0.mk (below_drew1 HB.out)
   have q28 : (x5_1 : Int) ≤ ((l0.length : Int) : Int) := of_decide_eq_true (by first | (with_reducible assumption) | assumption)
   obtain ⟨i028, hi028, _, hsz28, _⟩ := info_parts info48
   have hroom28 : l0.length ≤ c0 := HC0.out
   have hC28 : Kd.C k48 _ (some ad322) l0.length l0 := HR0.out
   have hcut28 := cut_to (P := Try.prog) 25 48 .i64 Try.underlying25 hi028 (some ad322) l0.length c0 x5_1 (of_decide_eq_true (by first | (with_reducible assumption) | assumption)) q28 hroom28
   have hr28 := Kd.C_take (m := (x5_1 : Int).toNat) hC28 (by omega)
   have hy28 : y337.length = (x5_1 : Int).toNat := (by rw [Ny337.out, List.length_take]; omega)
   rw [← Ny337.out] at hr28
   rw [← hy28] at hcut28
   have HR340 := Aside0.mk hr28
   have HC340 := Aside0.mk (show y337.length ≤ c0 from by omega)
   clear hr28 hC28 hroom28 hi028 hsz28
   have KY28 := Aside0.mk hy28
   clear hy28
   replace q28 := eq_true q28
   refine start_ (n := 11) (S := fun w' => w'.cell? ⟨gb321, 0, none⟩ = some (.string a1_0) ∧ w'.cell? ⟨gb321, 1, none⟩ = some (.int .i64 a1_1) ∧ w'.cell? ⟨gb321, 2, none⟩ = some (.int .i64 a1_2) ∧ w'.cell? ⟨gb321, 3, none⟩ = some (.string a1_3) ∧ w'.cell? ⟨gb321, 4, none⟩ = some (.int .i64 a1_4)) (ds := []) #[false, false, false, false, false, false, false, false, false, false, false] (by kernel_rfl) rfl rfl ⟨(blk_cell BK321.out 0).trans rfl, (blk_cell BK321.out 1).trans rfl, (blk_cell BK321.out 2).trans rfl, (blk_cell BK321.out 3).trans rfl, (blk_cell BK321.out 4).trans rfl⟩ (fun hHeld => ?_); refine with_tabW spec_l4Put.tab5 spec_l4Put.bits5 (fun HT_ HW_ => ?_)
   generalize w25.drew = w27 at HO333 BK321 HB HR340 hHeld ⊢
   refine pu_ 1 (some 28) HT_ rfl rfl (by go_simp; rfl) (by kernel_rfl) rfl (by intro w'; go_simp; with_reducible rfl) (fun _ _ _ h => h) (by go_simp; rfl) ?_
   refine pu_ 2 (some 29) HT_ rfl rfl (by go_simp; rfl) (by kernel_rfl) rfl (by intro w'; go_simp; with_reducible rfl) (fun _ _ _ h => h) (by go_simp; rfl) ?_
   refine pu_ 3 (some 30) HT_ rfl rfl (by go_simp; rfl) (by kernel_rfl) rfl (by intro w'; go_simp; with_reducible rfl) (fun _ _ _ h => h) (by go_simp; rfl) ?_
   refine pu_ 8 (some 35) HT_ rfl rfl (by go_simp; rfl) (by kernel_rfl) rfl (by intro w'; go_simp; with_reducible rfl) (fun _ _ _ h => h) (by go_simp; rfl) ?_
   refine ta_ 5 (some 32) HT_ HW_ hHeld rfl rfl (by go_simp; rfl) (by kernel_rfl) rfl (by rintro w' ⟨s0, s1, s2, s3, s4⟩; go_simp; with_reducible rfl) (fun _ _ _ h => h) (by go_simp; rfl) ?_
   refine join_ (σ := Value × Value × Value) 3 #[true, true, true, true, true, true, true, false, true, false, false] (fun s_ => [(27, s_.1), (31, s_.2.1), (33, s_.2.2)]) (fun s_ w' => (w'.cell? ⟨gb321, 0, none⟩ = some (.string a1_0) ∧ w'.cell? ⟨gb321, 1, none⟩ = some (.int .i64 a1_1) ∧ w'.cell? ⟨gb321, 2, none⟩ = some (.int .i64 a1_2) ∧ w'.cell? ⟨gb321, 3, none⟩ = some (.string a1_3) ∧ w'.cell? ⟨gb321, 4, none⟩ = some (.int .i64 a1_4)) ∧ (Kd.R k48 48 w' w.heap.size (fun k_ => some k_ ≠ (s_.2.1 : Value).ownBlock ∧ some k_ ≠ (s_.2.2 : Value).ownBlock ∧ k_ ≠ gb321) (.slice Ao26 y331.length co26) y331) ∧ (Kd.R k48 48 w' w.heap.size (fun k_ => some k_ ≠ (.slice Ao26 y331.length co26 : Value).ownBlock ∧ some k_ ≠ (s_.2.2 : Value).ownBlock ∧ k_ ≠ gb321) s_.2.1 y341) ∧ (Kd.R k48 48 w' w.heap.size (fun k_ => some k_ ≠ (.slice Ao26 y331.length co26 : Value).ownBlock ∧ some k_ ≠ (s_.2.1 : Value).ownBlock ∧ k_ ≠ gb321) s_.2.2 y344) ∧ (w'.heap[gb321]? = some (.cells #[.string a1_0, .int .i64 a1_1, .int .i64 a1_2, .string a1_3, .int .i64 a1_4] 48 (0, 0))) ∧ (Below w.heap.size w w')) ?_ ?_
   rotate_left
   ·
    intro hCont
    refine two_ (i := 0) (j := 6) (Ni := some 27) (Nj := some 33) #[true, true, true, true, false, true, false, false, true, false, false] #[false, true, true, true, false, true, true, false, true, false, false] rfl rfl rfl rfl (two_of HT_.out (by kernel_rfl)) (by decide) (by decide) (fun K hK => ?_) (fun K hK => ?_)
    ·
     skip
     refine Kd.R_lit_step k48 _ 48 ?hg (N := 27) ?hd (xs := ([] : List (S48))) (inner := []) (ok := fun _ => True) (okp := fun _ => True) ?hr ?hp (fun _ hk => hk) trivial (Below.refl _ _) (Nat.le_refl _) (by simp) ?_; (case hd => rfl); (case hg => rfl); (case hr => first | (go_simp; done) | (go_simp; rfl)); (case hp => exact (Reps.none _ _))
     intro v335 w29 ho30 hb hg_ hnew_
     clear hg_ hnew_
     (first | rw [← Ny334.out] at ho30 | (simp only [Int.reduceToNat] at ho30; rw [← Ny334.out] at ho30))
     have HO336 := Aside0.mk (Kd.R_lower (Kd.R_newB (Kd.R_new' ho30 (Kd.R_lt (lo_ HO333))) (g := gb321) (o := .cells #[.string a1_0, .int .i64 a1_1, .int .i64 a1_2, .string a1_3, .int .i64 a1_4] 48 (0, 0)) (spec_l4Put_vb BK321)) (below_size (spec_l4Put_auHB)))
     replace HO333 := Aside0.mk (Kd.R_elder' (lo_ HO333) (Kd.R_base ho30) hb)
     replace BK321 := Aside0.mk (blk_below (g := gb321) (o := .cells #[.string a1_0, .int .i64 a1_1, .int .i64 a1_2, .string a1_3, .int .i64 a1_4] 48 (0, 0)) (spec_l4Put_vb BK321) hb)
     replace HB := Aside0.mk (below_step (spec_l4Put_auHB) hb)
     clear hb ho30
     refine hK.out _ _ ⟨(blk_cell BK321.out 0).trans rfl, (blk_cell BK321.out 1).trans rfl, (blk_cell BK321.out 2).trans rfl, (blk_cell BK321.out 3).trans rfl, (blk_cell BK321.out 4).trans rfl⟩ (fun hHeld => ?_)
     clear hK K
     refine norm_ (a' := ?_) ?_ ?_
     rotate_left
     ·
      show Act.put _ (some 27) _ = _
      simp only [Act.put, List.setIfInBounds_toArray, List.set_cons_zero, List.set_cons_succ, i64_w, i32_w]
      rfl
     refine two_ (i := 4) (j := 6) (Ni := some 31) (Nj := some 33) #[true, true, true, true, true, true, false, false, true, false, false] #[true, true, true, true, false, true, true, false, true, false, false] rfl rfl rfl rfl (two_of HT_.out (by kernel_rfl)) (by decide) (by decide) (fun K hK => ?_) (fun K hK => ?_)
     ·
      skip
      refine Kd.R_append_rows_step k48 (w0 := w) w.heap.size (by rfl) (.tmp 27) (.tmp 30) 25 48 (.agg #[(.string ⟨#[]⟩), (.int .i64 0), (.int .i64 0), (.string ⟨#[]⟩), (.int .i64 0)]) 56 rfl Try.underlying25 info48 rfl (by decide) (by omega) v335 y334 y337 _ _ _ (fun k_ => some k_ ≠ (.slice Ao26 y331.length co26 : Value).ownBlock ∧ k_ ≠ gb321) (fun _ => False) rfl rfl ?aO ?aR (fun _ _ h => h) (fun _ h => h.elim) ?aF ?aB ?aS ?aL ?_
      (case aR => repeat (first | exact (Kd.C_below HR340.out HB.out) | (with_reducible refine Kd.C_alloc ?_ _) | (with_reducible refine Kd.C_drewN ?_ _) | (with_reducible refine Kd.C_drew ?_)))
      (case aB => exact (spec_l4Put_auHB))
      (case aF => exact (fun k_ hk => ⟨Kd.fresh' (Kd.R_lt (lo_ HO333)) k_ hk, Kd.freshB (g := gb321) (o := .cells #[.string a1_0, .int .i64 a1_1, .int .i64 a1_2, .string a1_3, .int .i64 a1_4] 48 (0, 0)) (spec_l4Put_vb BK321) k_ hk⟩))
      (case aO => exact (by (with_reducible repeat (first | apply Kd.R_alloc | apply Kd.R_drewN | apply Kd.R_drew)); exact Kd.R_mono HO336.out (fun _ hk => ⟨hk.1.2, hk.2⟩)))
      (case aS => exact (below_size (spec_l4Put_auHB)))
      (case aL => have := LMc17.out; omega)
      intro v342 w31 ho hb hg hat
      rw [← Ny341.out] at ho
      have n0_ := Aside0.mk (blk_grown (g := gb321) (o := .cells #[.string a1_0, .int .i64 a1_1, .int .i64 a1_2, .string a1_3, .int .i64 a1_4] 48 (0, 0)) (spec_l4Put_vb BK321) hg (Kd.R_away HO336.out (fun _ hk => hk.2)))
      have n1_ := Aside0.mk (Kd.R_after (ok := (fun k_ => k_ ≠ gb321)) (lo_ HO333) hg hat)
      have n2_ := Aside0.mk (hb)
      have n3_ := Aside0.mk (ho)
      clear BK321
      clear HO333
      clear HB
      clear HO336
      have BK321 := n0_
      have HO333 := n1_
      have HB := n2_
      have HO343 := n3_
      clear n0_ n1_ n2_ n3_
      clear ho hb hg hat
      refine hK.out _ _ ⟨(blk_cell BK321.out 0).trans rfl, (blk_cell BK321.out 1).trans rfl, (blk_cell BK321.out 2).trans rfl, (blk_cell BK321.out 3).trans rfl, (blk_cell BK321.out 4).trans rfl⟩ (fun hHeld => ?_)
      clear hK K
      refine norm_ (a' := ?_) ?_ ?_
      rotate_left
      ·
       show Act.put _ (some 31) _ = _
       simp only [Act.put, List.setIfInBounds_toArray, List.set_cons_zero, List.set_cons_succ, i64_w, i32_w]
       rfl
      refine one_ (i := 6) (N := some 33) #[true, true, true, true, true, true, true, false, true, false, false] rfl rfl (one_of HT_.out (by kernel_rfl)) (by decide) (fun K hK => ?_)
      refine Kd.R_lit_step k48 _ 48 ?hg (N := 33) ?hd (xs := ([(⟨a1_0, a1_1, a1_2, a1_3, a1_4⟩ : S48)] : List (S48))) (inner := [.string a1_0, .int .i64 a1_1, .int .i64 a1_2, .string a1_3, .int .i64 a1_4]) (ok := fun _ => True) (okp := fun _ => True) ?hr ?hp (fun _ hk => hk) trivial (Below.refl _ _) (Nat.le_refl _) (by simp) ?_; (case hd => rfl); (case hg => rfl); (case hr => first | (go_simp; done) | (go_simp; rfl)); (case hp => exact (Reps.c5 (show Kd.M k48 _ _ _ (⟨a1_0, a1_1, a1_2, a1_3, a1_4⟩ : S48) [.string a1_0, .int .i64 a1_1, .int .i64 a1_2, .string a1_3, .int .i64 a1_4] from (k48_mkM _ _ _ (⟨a1_0, a1_1, a1_2, a1_3, a1_4⟩ : S48) )) (Reps.none _ _)))
      intro v345 w32 ho33 hb hg_ hnew_
      clear hg_ hnew_
      (first | rw [← Ny344.out] at ho33 | (simp only [Int.reduceToNat] at ho33; rw [← Ny344.out] at ho33))
      have HO346 := Aside0.mk (Kd.R_lower (Kd.R_newB (Kd.R_new' (Kd.R_new' ho33 (Kd.R_lt (lo_ HO333))) (Kd.R_lt (lo_ HO343))) (g := gb321) (o := .cells #[.string a1_0, .int .i64 a1_1, .int .i64 a1_2, .string a1_3, .int .i64 a1_4] 48 (0, 0)) (spec_l4Put_vb BK321)) (below_size (spec_l4Put_auHB)))
      replace HO333 := Aside0.mk (Kd.R_elder' (lo_ HO333) (Kd.R_base ho33) hb)
      replace HO343 := Aside0.mk (Kd.R_elder' (lo_ HO343) (Kd.R_base ho33) hb)
      replace BK321 := Aside0.mk (blk_below (g := gb321) (o := .cells #[.string a1_0, .int .i64 a1_1, .int .i64 a1_2, .string a1_3, .int .i64 a1_4] 48 (0, 0)) (spec_l4Put_vb BK321) hb)
      replace HB := Aside0.mk (below_step (spec_l4Put_auHB) hb)
      clear hb ho33
      refine hK.out _ _ ⟨(blk_cell BK321.out 0).trans rfl, (blk_cell BK321.out 1).trans rfl, (blk_cell BK321.out 2).trans rfl, (blk_cell BK321.out 3).trans rfl, (blk_cell BK321.out 4).trans rfl⟩ (fun hHeld => ?_)
      clear hK K
      refine norm_ (a' := ?_) ?_ ?_
      rotate_left
      ·
       show Act.put _ (some 33) _ = _
       simp only [Act.put, List.setIfInBounds_toArray, List.set_cons_zero, List.set_cons_succ, i64_w, i32_w]
       rfl
      exact norm_ (by simp only [putAll, Act.put, List.setIfInBounds_toArray, List.set_cons_zero, List.set_cons_succ]) (hCont (v335, v342, v345) _ ⟨hHeld, (by (with_reducible repeat (first | apply Kd.R_alloc | apply Kd.R_drewN | apply Kd.R_drew)); exact Kd.R_mono HO333.out (fun _ hk => ⟨hk.1.2, ⟨hk.2, hk.1.1⟩⟩)), (by (with_reducible repeat (first | apply Kd.R_alloc | apply Kd.R_drewN | apply Kd.R_drew)); exact Kd.R_mono HO343.out (fun _ hk => ⟨hk.1.1, ⟨hk.2, hk.1.2⟩⟩)), (by (with_reducible repeat (first | apply Kd.R_alloc | apply Kd.R_drewN | apply Kd.R_drew)); exact Kd.R_mono HO346.out (fun _ hk => ⟨hk.1.1.2, ⟨hk.1.2, hk.2⟩⟩)), (spec_l4Put_vb BK321), (spec_l4Put_auHB)⟩)
     skip
     refine Kd.R_lit_step k48 _ 48 ?hg (N := 33) ?hd (xs := ([(⟨a1_0, a1_1, a1_2, a1_3, a1_4⟩ : S48)] : List (S48))) (inner := [.string a1_0, .int .i64 a1_1, .int .i64 a1_2, .string a1_3, .int .i64 a1_4]) (ok := fun _ => True) (okp := fun _ => True) ?hr ?hp (fun _ hk => hk) trivial (Below.refl _ _) (Nat.le_refl _) (by simp) ?_; (case hd => rfl); (case hg => rfl); (case hr => first | (go_simp; done) | (go_simp; rfl)); (case hp => exact (Reps.c5 (show Kd.M k48 _ _ _ (⟨a1_0, a1_1, a1_2, a1_3, a1_4⟩ : S48) [.string a1_0, .int .i64 a1_1, .int .i64 a1_2, .string a1_3, .int .i64 a1_4] from (k48_mkM _ _ _ (⟨a1_0, a1_1, a1_2, a1_3, a1_4⟩ : S48) )) (Reps.none _ _)))
     intro v345 w31 ho32 hb hg_ hnew_
     clear hg_ hnew_
     (first | rw [← Ny344.out] at ho32 | (simp only [Int.reduceToNat] at ho32; rw [← Ny344.out] at ho32))
     have HO346 := Aside0.mk (Kd.R_lower (Kd.R_newB (Kd.R_new' (Kd.R_new' ho32 (Kd.R_lt (lo_ HO333))) (Kd.R_lt (lo_ HO336))) (g := gb321) (o := .cells #[.string a1_0, .int .i64 a1_1, .int .i64 a1_2, .string a1_3, .int .i64 a1_4] 48 (0, 0)) (spec_l4Put_vb BK321)) (below_size (spec_l4Put_auHB)))
     replace HO333 := Aside0.mk (Kd.R_elder' (lo_ HO333) (Kd.R_base ho32) hb)
     replace HO336 := Aside0.mk (Kd.R_elder' (lo_ HO336) (Kd.R_base ho32) hb)
     replace BK321 := Aside0.mk (blk_below (g := gb321) (o := .cells #[.string a1_0, .int .i64 a1_1, .int .i64 a1_2, .string a1_3, .int .i64 a1_4] 48 (0, 0)) (spec_l4Put_vb BK321) hb)
     replace HB := Aside0.mk (below_step (spec_l4Put_auHB) hb)
     clear hb ho32
     refine hK.out _ _ ⟨(blk_cell BK321.out 0).trans rfl, (blk_cell BK321.out 1).trans rfl, (blk_cell BK321.out 2).trans rfl, (blk_cell BK321.out 3).trans rfl, (blk_cell BK321.out 4).trans rfl⟩ (fun hHeld => ?_)
     clear hK K
     refine norm_ (a' := ?_) ?_ ?_
     rotate_left
     ·
      show Act.put _ (some 33) _ = _
      simp only [Act.put, List.setIfInBounds_toArray, List.set_cons_zero, List.set_cons_succ, i64_w, i32_w]
      rfl
     refine one_ (i := 4) (N := some 31) #[true, true, true, true, true, true, true, false, true, false, false] rfl rfl (one_of HT_.out (by kernel_rfl)) (by decide) (fun K hK => ?_)
     refine Kd.R_append_rows_step k48 (w0 := w) w.heap.size (by rfl) (.tmp 27) (.tmp 30) 25 48 (.agg #[(.string ⟨#[]⟩), (.int .i64 0), (.int .i64 0), (.string ⟨#[]⟩), (.int .i64 0)]) 56 rfl Try.underlying25 info48 rfl (by decide) (by omega) v335 y334 y337 _ _ _ (fun k_ => some k_ ≠ (.slice Ao26 y331.length co26 : Value).ownBlock ∧ some k_ ≠ (v345 : Value).ownBlock ∧ k_ ≠ gb321) (fun _ => False) rfl rfl ?aO ?aR (fun _ _ h => h) (fun _ h => h.elim) ?aF ?aB ?aS ?aL ?_
     (case aR => repeat (first | exact (Kd.C_below HR340.out HB.out) | (with_reducible refine Kd.C_alloc ?_ _) | (with_reducible refine Kd.C_drewN ?_ _) | (with_reducible refine Kd.C_drew ?_)))
     (case aB => exact (spec_l4Put_auHB))
     (case aF => exact (fun k_ hk => ⟨Kd.fresh' (Kd.R_lt (lo_ HO333)) k_ hk, Kd.fresh' (Kd.R_lt (lo_ HO346)) k_ hk, Kd.freshB (g := gb321) (o := .cells #[.string a1_0, .int .i64 a1_1, .int .i64 a1_2, .string a1_3, .int .i64 a1_4] 48 (0, 0)) (spec_l4Put_vb BK321) k_ hk⟩))
     (case aO => exact (by (with_reducible repeat (first | apply Kd.R_alloc | apply Kd.R_drewN | apply Kd.R_drew)); exact Kd.R_mono HO336.out (fun _ hk => ⟨hk.1.1.2, ⟨hk.2, hk.1.2⟩⟩)))
     (case aS => exact (below_size (spec_l4Put_auHB)))
     (case aL => have := LMc17.out; omega)
     intro v342 w33 ho hb hg hat
     rw [← Ny341.out] at ho
     have n0_ := Aside0.mk (blk_grown (g := gb321) (o := .cells #[.string a1_0, .int .i64 a1_1, .int .i64 a1_2, .string a1_3, .int .i64 a1_4] 48 (0, 0)) (spec_l4Put_vb BK321) hg (Kd.R_away HO336.out (fun _ hk => hk.1.2)))
     have n1_ := Aside0.mk (Kd.R_after (ok := (fun k_ => some k_ ≠ (v345 : Value).ownBlock ∧ k_ ≠ gb321)) (by (with_reducible repeat (first | apply Kd.R_alloc | apply Kd.R_drewN | apply Kd.R_drew)); exact Kd.R_mono HO333.out (fun _ hk => ⟨⟨hk.2, hk.1.1⟩, hk.1.2⟩)) hg hat)
     have n2_ := Aside0.mk (Kd.R_after (ok := (fun k_ => some k_ ≠ (.slice Ao26 y331.length co26 : Value).ownBlock ∧ k_ ≠ gb321)) (by (with_reducible repeat (first | apply Kd.R_alloc | apply Kd.R_drewN | apply Kd.R_drew)); exact Kd.R_mono HO346.out (fun _ hk => ⟨⟨hk.1.1.2, hk.2⟩, hk.1.2⟩)) hg hat)
     have n3_ := Aside0.mk (hb)
     have n4_ := Aside0.mk (ho)
     clear BK321
     clear HO333
     clear HO346
     clear HB
     clear HO336
     have BK321 := n0_
     have HO333 := n1_
     have HO346 := n2_
     have HB := n3_
     have HO343 := n4_
     clear n0_ n1_ n2_ n3_ n4_
     clear ho hb hg hat
     refine hK.out _ _ ⟨(blk_cell BK321.out 0).trans rfl, (blk_cell BK321.out 1).trans rfl, (blk_cell BK321.out 2).trans rfl, (blk_cell BK321.out 3).trans rfl, (blk_cell BK321.out 4).trans rfl⟩ (fun hHeld => ?_)
     clear hK K
     refine norm_ (a' := ?_) ?_ ?_
     rotate_left
     ·
      show Act.put _ (some 31) _ = _
      simp only [Act.put, List.setIfInBounds_toArray, List.set_cons_zero, List.set_cons_succ, i64_w, i32_w]
      rfl
     exact norm_ (by simp only [putAll, Act.put, List.setIfInBounds_toArray, List.set_cons_zero, List.set_cons_succ]) (hCont (v335, v342, v345) _ ⟨hHeld, (by (with_reducible repeat (first | apply Kd.R_alloc | apply Kd.R_drewN | apply Kd.R_drew)); exact Kd.R_mono HO333.out (fun _ hk => ⟨hk.2, ⟨hk.1.1, hk.1.2⟩⟩)), (lo_ HO343), (by (with_reducible repeat (first | apply Kd.R_alloc | apply Kd.R_drewN | apply Kd.R_drew)); exact Kd.R_mono HO346.out (fun _ hk => ⟨hk.1.1, ⟨hk.2, hk.1.2⟩⟩)), (spec_l4Put_vb BK321), (spec_l4Put_auHB)⟩)
    skip
    refine Kd.R_lit_step k48 _ 48 ?hg (N := 33) ?hd (xs := ([(⟨a1_0, a1_1, a1_2, a1_3, a1_4⟩ : S48)] : List (S48))) (inner := [.string a1_0, .int .i64 a1_1, .int .i64 a1_2, .string a1_3, .int .i64 a1_4]) (ok := fun _ => True) (okp := fun _ => True) ?hr ?hp (fun _ hk => hk) trivial (Below.refl _ _) (Nat.le_refl _) (by simp) ?_; (case hd => rfl); (case hg => rfl); (case hr => first | (go_simp; done) | (go_simp; rfl)); (case hp => exact (Reps.c5 (show Kd.M k48 _ _ _ (⟨a1_0, a1_1, a1_2, a1_3, a1_4⟩ : S48) [.string a1_0, .int .i64 a1_1, .int .i64 a1_2, .string a1_3, .int .i64 a1_4] from (k48_mkM _ _ _ (⟨a1_0, a1_1, a1_2, a1_3, a1_4⟩ : S48) )) (Reps.none _ _)))
    intro v345 w29 ho30 hb hg_ hnew_
    clear hg_ hnew_
    (first | rw [← Ny344.out] at ho30 | (simp only [Int.reduceToNat] at ho30; rw [← Ny344.out] at ho30))
    have HO346 := Aside0.mk (Kd.R_lower (Kd.R_newB (Kd.R_new' ho30 (Kd.R_lt (lo_ HO333))) (g := gb321) (o := .cells #[.string a1_0, .int .i64 a1_1, .int .i64 a1_2, .string a1_3, .int .i64 a1_4] 48 (0, 0)) (spec_l4Put_vb BK321)) (below_size (spec_l4Put_auHB)))
    replace HO333 := Aside0.mk (Kd.R_elder' (lo_ HO333) (Kd.R_base ho30) hb)
    replace BK321 := Aside0.mk (blk_below (g := gb321) (o := .cells #[.string a1_0, .int .i64 a1_1, .int .i64 a1_2, .string a1_3, .int .i64 a1_4] 48 (0, 0)) (spec_l4Put_vb BK321) hb)
    replace HB := Aside0.mk (below_step (spec_l4Put_auHB) hb)
    clear hb ho30
    refine hK.out _ _ ⟨(blk_cell BK321.out 0).trans rfl, (blk_cell BK321.out 1).trans rfl, (blk_cell BK321.out 2).trans rfl, (blk_cell BK321.out 3).trans rfl, (blk_cell BK321.out 4).trans rfl⟩ (fun hHeld => ?_)
    clear hK K
    refine norm_ (a' := ?_) ?_ ?_
    rotate_left
    ·
     show Act.put _ (some 33) _ = _
     simp only [Act.put, List.setIfInBounds_toArray, List.set_cons_zero, List.set_cons_succ, i64_w, i32_w]
     rfl
    refine one_ (i := 0) (N := some 27) #[true, true, true, true, false, true, true, false, true, false, false] rfl rfl (one_of HT_.out (by kernel_rfl)) (by decide) (fun K hK => ?_)
    refine Kd.R_lit_step k48 _ 48 ?hg (N := 27) ?hd (xs := ([] : List (S48))) (inner := []) (ok := fun _ => True) (okp := fun _ => True) ?hr ?hp (fun _ hk => hk) trivial (Below.refl _ _) (Nat.le_refl _) (by simp) ?_; (case hd => rfl); (case hg => rfl); (case hr => first | (go_simp; done) | (go_simp; rfl)); (case hp => exact (Reps.none _ _))
    intro v335 w31 ho32 hb hg_ hnew_
    clear hg_ hnew_
    (first | rw [← Ny334.out] at ho32 | (simp only [Int.reduceToNat] at ho32; rw [← Ny334.out] at ho32))
    have HO336 := Aside0.mk (Kd.R_lower (Kd.R_newB (Kd.R_new' (Kd.R_new' ho32 (Kd.R_lt (lo_ HO333))) (Kd.R_lt (lo_ HO346))) (g := gb321) (o := .cells #[.string a1_0, .int .i64 a1_1, .int .i64 a1_2, .string a1_3, .int .i64 a1_4] 48 (0, 0)) (spec_l4Put_vb BK321)) (below_size (spec_l4Put_auHB)))
    replace HO333 := Aside0.mk (Kd.R_elder' (lo_ HO333) (Kd.R_base ho32) hb)
    replace HO346 := Aside0.mk (Kd.R_elder' (lo_ HO346) (Kd.R_base ho32) hb)
    replace BK321 := Aside0.mk (blk_below (g := gb321) (o := .cells #[.string a1_0, .int .i64 a1_1, .int .i64 a1_2, .string a1_3, .int .i64 a1_4] 48 (0, 0)) (spec_l4Put_vb BK321) hb)
    replace HB := Aside0.mk (below_step (spec_l4Put_auHB) hb)
    clear hb ho32
    refine hK.out _ _ ⟨(blk_cell BK321.out 0).trans rfl, (blk_cell BK321.out 1).trans rfl, (blk_cell BK321.out 2).trans rfl, (blk_cell BK321.out 3).trans rfl, (blk_cell BK321.out 4).trans rfl⟩ (fun hHeld => ?_)
    clear hK K
    refine norm_ (a' := ?_) ?_ ?_
    rotate_left
    ·
     show Act.put _ (some 27) _ = _
     simp only [Act.put, List.setIfInBounds_toArray, List.set_cons_zero, List.set_cons_succ, i64_w, i32_w]
     rfl
    refine one_ (i := 4) (N := some 31) #[true, true, true, true, true, true, true, false, true, false, false] rfl rfl (one_of HT_.out (by kernel_rfl)) (by decide) (fun K hK => ?_)
    refine Kd.R_append_rows_step k48 (w0 := w) w.heap.size (by rfl) (.tmp 27) (.tmp 30) 25 48 (.agg #[(.string ⟨#[]⟩), (.int .i64 0), (.int .i64 0), (.string ⟨#[]⟩), (.int .i64 0)]) 56 rfl Try.underlying25 info48 rfl (by decide) (by omega) v335 y334 y337 _ _ _ (fun k_ => some k_ ≠ (.slice Ao26 y331.length co26 : Value).ownBlock ∧ some k_ ≠ (v345 : Value).ownBlock ∧ k_ ≠ gb321) (fun _ => False) rfl rfl ?aO ?aR (fun _ _ h => h) (fun _ h => h.elim) ?aF ?aB ?aS ?aL ?_
    (case aR => repeat (first | exact (Kd.C_below HR340.out HB.out) | (with_reducible refine Kd.C_alloc ?_ _) | (with_reducible refine Kd.C_drewN ?_ _) | (with_reducible refine Kd.C_drew ?_)))
    (case aB => exact (spec_l4Put_auHB))
    (case aF => exact (fun k_ hk => ⟨Kd.fresh' (Kd.R_lt (lo_ HO333)) k_ hk, Kd.fresh' (Kd.R_lt (lo_ HO346)) k_ hk, Kd.freshB (g := gb321) (o := .cells #[.string a1_0, .int .i64 a1_1, .int .i64 a1_2, .string a1_3, .int .i64 a1_4] 48 (0, 0)) (spec_l4Put_vb BK321) k_ hk⟩))
    (case aO => exact (by (with_reducible repeat (first | apply Kd.R_alloc | apply Kd.R_drewN | apply Kd.R_drew)); exact Kd.R_mono HO336.out (fun _ hk => ⟨hk.1.1.2, ⟨hk.1.2, hk.2⟩⟩)))
    (case aS => exact (below_size (spec_l4Put_auHB)))
    (case aL => have := LMc17.out; omega)
    intro v342 w33 ho hb hg hat
    rw [← Ny341.out] at ho
    have n0_ := Aside0.mk (blk_grown (g := gb321) (o := .cells #[.string a1_0, .int .i64 a1_1, .int .i64 a1_2, .string a1_3, .int .i64 a1_4] 48 (0, 0)) (spec_l4Put_vb BK321) hg (Kd.R_away HO336.out (fun _ hk => hk.2)))
    have n1_ := Aside0.mk (Kd.R_after (ok := (fun k_ => some k_ ≠ (v345 : Value).ownBlock ∧ k_ ≠ gb321)) (by (with_reducible repeat (first | apply Kd.R_alloc | apply Kd.R_drewN | apply Kd.R_drew)); exact Kd.R_mono HO333.out (fun _ hk => ⟨⟨hk.1.2, hk.1.1⟩, hk.2⟩)) hg hat)
    have n2_ := Aside0.mk (Kd.R_after (ok := (fun k_ => some k_ ≠ (.slice Ao26 y331.length co26 : Value).ownBlock ∧ k_ ≠ gb321)) (by (with_reducible repeat (first | apply Kd.R_alloc | apply Kd.R_drewN | apply Kd.R_drew)); exact Kd.R_mono HO346.out (fun _ hk => ⟨⟨hk.1.1.2, hk.1.2⟩, hk.2⟩)) hg hat)
    have n3_ := Aside0.mk (hb)
    have n4_ := Aside0.mk (ho)
    clear BK321
    clear HO333
    clear HO346
    clear HB
    clear HO336
    have BK321 := n0_
    have HO333 := n1_
    have HO346 := n2_
    have HB := n3_
    have HO343 := n4_
    clear n0_ n1_ n2_ n3_ n4_
    clear ho hb hg hat
    refine hK.out _ _ ⟨(blk_cell BK321.out 0).trans rfl, (blk_cell BK321.out 1).trans rfl, (blk_cell BK321.out 2).trans rfl, (blk_cell BK321.out 3).trans rfl, (blk_cell BK321.out 4).trans rfl⟩ (fun hHeld => ?_)
    clear hK K
    refine norm_ (a' := ?_) ?_ ?_
    rotate_left
    ·
     show Act.put _ (some 31) _ = _
     simp only [Act.put, List.setIfInBounds_toArray, List.set_cons_zero, List.set_cons_succ, i64_w, i32_w]
     rfl
    exact norm_ (by simp only [putAll, Act.put, List.setIfInBounds_toArray, List.set_cons_zero, List.set_cons_succ]) (hCont (v335, v342, v345) _ ⟨hHeld, (by (with_reducible repeat (first | apply Kd.R_alloc | apply Kd.R_drewN | apply Kd.R_drew)); exact Kd.R_mono HO333.out (fun _ hk => ⟨hk.2, ⟨hk.1.1, hk.1.2⟩⟩)), (lo_ HO343), (by (with_reducible repeat (first | apply Kd.R_alloc | apply Kd.R_drewN | apply Kd.R_drew)); exact Kd.R_mono HO346.out (fun _ hk => ⟨hk.1.1, ⟨hk.2, hk.1.2⟩⟩)), (spec_l4Put_vb BK321), (spec_l4Put_auHB)⟩)
   rintro ⟨v335, v342, v345⟩ w34 ⟨hS_, h0_, h1_, h2_, h3_, h4_⟩
   have n0_ : Aside0 (Kd.R k48 48 w34 w.heap.size (fun k_ => some k_ ≠ (v342 : Value).ownBlock ∧ some k_ ≠ (v345 : Value).ownBlock ∧ k_ ≠ gb321) (.slice Ao26 y331.length co26) y331) := ⟨h0_⟩
   have n1_ : Aside0 (Kd.R k48 48 w34 w.heap.size (fun k_ => some k_ ≠ (.slice Ao26 y331.length co26 : Value).ownBlock ∧ some k_ ≠ (v345 : Value).ownBlock ∧ k_ ≠ gb321) v342 y341) := ⟨h1_⟩
   have n2_ : Aside0 (Kd.R k48 48 w34 w.heap.size (fun k_ => some k_ ≠ (.slice Ao26 y331.length co26 : Value).ownBlock ∧ some k_ ≠ (v342 : Value).ownBlock ∧ k_ ≠ gb321) v345 y344) := ⟨h2_⟩
   have n3_ : Aside0 (w34.heap[gb321]? = some (.cells #[.string a1_0, .int .i64 a1_1, .int .i64 a1_2, .string a1_3, .int .i64 a1_4] 48 (0, 0))) := ⟨h3_⟩
   have n4_ : Aside0 (Below w.heap.size w w34) := ⟨h4_⟩
   clear HO333
   clear BK321
   clear HB
   clear h0_ h1_ h2_ h3_ h4_
   have HO333 := n0_
   have HO343 := n1_
   have HO346 := n2_
   have BK321 := n3_
   have HB := n4_
   clear n0_ n1_ n2_ n3_ n4_
   have hHeld : w34.cell? ⟨gb321, 0, none⟩ = some (.string a1_0) ∧ w34.cell? ⟨gb321, 1, none⟩ = some (.int .i64 a1_1) ∧ w34.cell? ⟨gb321, 2, none⟩ = some (.int .i64 a1_2) ∧ w34.cell? ⟨gb321, 3, none⟩ = some (.string a1_3) ∧ w34.cell? ⟨gb321, 4, none⟩ = some (.int .i64 a1_4) := hS_
   obtain ⟨Ao36, co36, eo36⟩ := Kd.R_slice HO346.out
   (first | subst eo36 | (injection eo36 with f1_ f2_ f3_; have f4_ := f1_.symm; have f5_ := f3_.symm; clear f1_ f2_ f3_; subst f4_; subst f5_))
   refine norm_ (a' := ?_) ?_ ?_
   rotate_left
   ·
    simp only [putAll, Act.put, List.setIfInBounds_toArray, List.set_cons_zero, List.set_cons_succ]
    rfl
   refine one_ (i := 7) (N := some 34) #[true, true, true, true, true, true, true, true, true, false, false] rfl rfl (one_of HT_.out (by kernel_rfl)) (by decide) (fun K hK => ?_)
   refine Kd.R_append_rows_step k48 (w0 := w) w.heap.size (by rfl) (.tmp 31) (.tmp 33) 25 48 (.agg #[(.string ⟨#[]⟩), (.int .i64 0), (.int .i64 0), (.string ⟨#[]⟩), (.int .i64 0)]) 56 rfl Try.underlying25 info48 rfl (by decide) (by omega) v342 y341 y344 _ _ _ (fun k_ => some k_ ≠ (.slice Ao26 y331.length co26 : Value).ownBlock ∧ some k_ ≠ (.slice Ao36 y344.length co36 : Value).ownBlock ∧ k_ ≠ gb321) (fun _ => False) rfl rfl ?aO ?aR (fun _ _ h => h) (fun _ h => h.elim) ?aF ?aB ?aS ?aL ?_
   (case aR => exact co_ (Kd.R_reads' HO346.out).2.2)
   (case aB => exact (spec_l4Put_auHB))
   (case aF => exact (fun k_ hk => ⟨Kd.fresh' (Kd.R_lt (lo_ HO333)) k_ hk, Kd.fresh' (Kd.R_lt (lo_ HO346)) k_ hk, Kd.freshB (g := gb321) (o := .cells #[.string a1_0, .int .i64 a1_1, .int .i64 a1_2, .string a1_3, .int .i64 a1_4] 48 (0, 0)) (spec_l4Put_vb BK321) k_ hk⟩))
   (case aO => exact (lo_ HO343))
   (case aS => exact (below_size (spec_l4Put_auHB)))
   (case aL => have := LMc18.out; omega)
   intro v348 w35 ho hb hg hat
   rw [← Ny347.out] at ho
   have n0_ := Aside0.mk (blk_grown (g := gb321) (o := .cells #[.string a1_0, .int .i64 a1_1, .int .i64 a1_2, .string a1_3, .int .i64 a1_4] 48 (0, 0)) (spec_l4Put_vb BK321) hg (Kd.R_away HO343.out (fun _ hk => hk.2.2)))
   have n1_ := Aside0.mk (Kd.R_after (ok := (fun k_ => some k_ ≠ (.slice Ao36 y344.length co36 : Value).ownBlock ∧ k_ ≠ gb321)) (by (with_reducible repeat (first | apply Kd.R_alloc | apply Kd.R_drewN | apply Kd.R_drew)); exact Kd.R_mono HO333.out (fun _ hk => ⟨⟨hk.2.1, hk.2.2⟩, hk.1⟩)) hg hat)
   have n2_ := Aside0.mk (Kd.R_after (ok := (fun k_ => some k_ ≠ (.slice Ao26 y331.length co26 : Value).ownBlock ∧ k_ ≠ gb321)) (by (with_reducible repeat (first | apply Kd.R_alloc | apply Kd.R_drewN | apply Kd.R_drew)); exact Kd.R_mono HO346.out (fun _ hk => ⟨⟨hk.1, hk.2.2⟩, hk.2.1⟩)) hg hat)
   have n3_ := Aside0.mk (hb)
   have n4_ := Aside0.mk (ho)
   clear BK321
   clear HO333
   clear HO346
   clear HB
   clear HO343
   have BK321 := n0_
   have HO333 := n1_
   have HO346 := n2_
   have HB := n3_
   have HO349 := n4_
   clear n0_ n1_ n2_ n3_ n4_
   clear ho hb hg hat
   refine hK.out _ _ ⟨(blk_cell BK321.out 0).trans rfl, (blk_cell BK321.out 1).trans rfl, (blk_cell BK321.out 2).trans rfl, (blk_cell BK321.out 3).trans rfl, (blk_cell BK321.out 4).trans rfl⟩ (fun hHeld => ?_)
   clear hK K
   refine norm_ (a' := ?_) ?_ ?_
   rotate_left
   ·
    show Act.put _ (some 34) _ = _
    simp only [Act.put, List.setIfInBounds_toArray, List.set_cons_zero, List.set_cons_succ, i64_w, i32_w]
    rfl
   refine one_ (i := 9) (N := some 36) #[true, true, true, true, true, true, true, true, true, true, false] rfl rfl (one_of HT_.out (by kernel_rfl)) (by decide) (fun K hK => ?_)
   refine Kd.R_append_rows_step k48 (w0 := w) w.heap.size (by rfl) (.tmp 34) (.tmp 35) 25 48 (.agg #[(.string ⟨#[]⟩), (.int .i64 0), (.int .i64 0), (.string ⟨#[]⟩), (.int .i64 0)]) 56 rfl Try.underlying25 info48 rfl (by decide) (by omega) v348 y347 y331 _ _ _ (fun k_ => some k_ ≠ (.slice Ao26 y331.length co26 : Value).ownBlock ∧ some k_ ≠ (.slice Ao36 y344.length co36 : Value).ownBlock ∧ k_ ≠ gb321) (fun _ => False) rfl rfl ?aO ?aR (fun _ _ h => h) (fun _ h => h.elim) ?aF ?aB ?aS ?aL ?_
   (case aR => exact co_ (Kd.R_reads' HO333.out).2.2)
   (case aB => exact (spec_l4Put_auHB))
   (case aF => exact (fun k_ hk => ⟨Kd.fresh' (Kd.R_lt (lo_ HO333)) k_ hk, Kd.fresh' (Kd.R_lt (lo_ HO346)) k_ hk, Kd.freshB (g := gb321) (o := .cells #[.string a1_0, .int .i64 a1_1, .int .i64 a1_2, .string a1_3, .int .i64 a1_4] 48 (0, 0)) (spec_l4Put_vb BK321) k_ hk⟩))
   (case aO => exact (lo_ HO349))
   (case aS => exact (below_size (spec_l4Put_auHB)))
   (case aL => have := LMc19.out; omega)
   intro v351 w37 ho hb hg hat
   rw [← Ny350.out] at ho
   have n0_ := Aside0.mk (blk_grown (g := gb321) (o := .cells #[.string a1_0, .int .i64 a1_1, .int .i64 a1_2, .string a1_3, .int .i64 a1_4] 48 (0, 0)) (spec_l4Put_vb BK321) hg (Kd.R_away HO349.out (fun _ hk => hk.2.2)))
   have n1_ := Aside0.mk (Kd.R_after (ok := (fun k_ => some k_ ≠ (.slice Ao36 y344.length co36 : Value).ownBlock ∧ k_ ≠ gb321)) (lo_ HO333) hg hat)
   have n2_ := Aside0.mk (Kd.R_after (ok := (fun k_ => some k_ ≠ (.slice Ao26 y331.length co26 : Value).ownBlock ∧ k_ ≠ gb321)) (lo_ HO346) hg hat)
   have n3_ := Aside0.mk (hb)
   have n4_ := Aside0.mk (ho)
   clear BK321
   clear HO333
   clear HO346
   clear HB
   clear HO349
   have BK321 := n0_
   have HO333 := n1_
   have HO346 := n2_
   have HB := n3_
   have HO352 := n4_
   clear n0_ n1_ n2_ n3_ n4_
   clear ho hb hg hat
   refine hK.out _ _ ⟨(blk_cell BK321.out 0).trans rfl, (blk_cell BK321.out 1).trans rfl, (blk_cell BK321.out 2).trans rfl, (blk_cell BK321.out 3).trans rfl, (blk_cell BK321.out 4).trans rfl⟩ (fun hHeld => ?_)
   clear hK K
   refine norm_ (a' := ?_) ?_ ?_
   rotate_left
   ·
    show Act.put _ (some 36) _ = _
    simp only [Act.put, List.setIfInBounds_toArray, List.set_cons_zero, List.set_cons_succ, i64_w, i32_w]
    rfl
   refine pu_ 10 (some 4) HT_ rfl rfl (by go_simp; rfl) (by kernel_rfl) rfl (by intro w'; go_simp; with_reducible rfl) (fun _ _ _ h => h) (by go_simp; rfl) ?_
   refine done_ (done_of HT_.out (by kernel_rfl)) ?_
   try go_wp2
   go_ret
   exact ⟨_, by first | rfl | (simp [errW_none, errW_some] <;> rfl) | (simp only [← hji5]; first | rfl | (simp [errW_none, errW_some] <;> rfl)) | (simp [*, errW_none, errW_some] <;> rfl), by (with_reducible repeat (first | apply Kd.R_alloc | apply Kd.R_drewN | apply Kd.R_drew)); exact Kd.R_mono HO352.out (fun _ hk => trivial), spec_l4Put_auHB⟩


end Go.Proofs.Ytcfebbhiehaocaa.QFnSquashTwice

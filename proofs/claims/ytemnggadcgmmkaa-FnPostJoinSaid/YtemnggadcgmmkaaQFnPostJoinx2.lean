/- What the law FnPostJoin reaches, function by function: what each computes, and that the machine's call comes to it. Laid by a program. -/
import Derived.Test.YtemnggadcgmmkaaQFnPostJoinx0
import Derived.Test.YtemnggadcgmmkaaQFnPostJoinx1
namespace Go.Proofs.Ytemnggadcgmmkaa.QFnPostJoin
open Go.RowKit Go.Proofs.YtemnggadcgmmkaaW.PrintWords Go.Proofs.YtemnggadcgmmkaaW.PrintLast Go.Proofs.YtemnggadcgmmkaaW.PrintMore
attribute [local go_sem] max2_int min2_int max_two min_two max_three min_three max_four min_four   -- for this text's walks alone
set_option linter.unusedVariables false
set_option linter.unusedSimpArgs false

/-! ### spec_l1Post: function 22 -/
def spec_l1Post.f (k : Nat) (s0_0 : List Int) (s0_1 : Int) : Option (Int × (List (S29)) × Int) := (spec_l9Rd_pick.f k s0_0 s0_1 14).bind fun bt119 => ((spec_l9Rd_num.f k s0_0 bt119.2 (([5, 20, 100, 700, 1, 300, 1000] : List Int))).bind fun bt125 => ((spec_l9Rd_pick.f k s0_0 bt125.2 3).bind fun bt127 => ((spec_l1Acct.f k s0_0 bt127.2).bind fun bt129 => ((spec_l1Acct.f k s0_0 bt129.2).bind fun bt131 => ((some (([(⟨bt129.1, wrap64 (1 + bt127.1), bt125.1⟩ : S29), (⟨bt131.1, wrap64 (1 + bt127.1), wrap64 (-bt125.1)⟩ : S29)] : List (S29)) : List (S29))).bind fun y133 => ((spec_l9Rd_pick.f k s0_0 bt131.2 5).bind fun bt136 => (if bt136.1 = 0 then ((spec_l9Rd_pick.f k s0_0 bt136.2 3).bind fun bt138 => ((spec_l1Acct.f k s0_0 bt138.2).bind fun bt140 => ((spec_l1Acct.f k s0_0 bt140.2).bind fun bt142 => ((some (([(⟨bt140.1, wrap64 (1 + bt138.1), 7⟩ : S29), (⟨bt142.1, wrap64 (1 + bt138.1), (-7)⟩ : S29)] : List (S29)) : List (S29))).bind fun y144 => (if y133.length + y144.length < 4398046511104 then (some (bt119.1, (y133 ++ y144), bt142.2)) else (none)))))) else (if bt136.1 = 1 then (if bt125.1 > 1 then (if 1 < (y133.length : Int) then ((some (y133.set (1 : Int).toNat (⟨(rd_T29 y133 1).f0, (rd_T29 y133 1).f1, wrap64 (1 - bt125.1)⟩ : S29) : List (S29))).bind fun y150 => ((spec_l1Acct.f k s0_0 bt136.2).bind fun bt151 => (if y150.length < 4398046511104 then (some (bt119.1, (y150 ++ [(⟨bt151.1, wrap64 (1 + bt127.1), (-1)⟩ : S29)]), bt151.2)) else (none)))) else (none)) else (some (bt119.1, y133, bt136.2))) else (some (bt119.1, y133, bt136.2))))))))))
theorem spec_l1Post.mono : ∀ a0 a1 k, LeO (spec_l1Post.f k a0 a1) (spec_l1Post.f (k + 1) a0 a1) := by
  intro a0 a1 k
  unfold spec_l1Post.f
  repeat' first
      | (with_reducible exact spec_l1Acct.mono _ _ _)
      | (with_reducible exact spec_l9Rd_num.mono _ _ _ _)
      | (with_reducible exact spec_l9Rd_pick.mono _ _ _ _)
      | (with_reducible exact LeO.refl _)
      | (with_reducible exact LeO.none _)
      | (with_reducible refine LeO.ite ?_ ?_)
      | (with_reducible refine LeO.bind ?_ (fun _ => ?_))
      | exact spec_l1Acct.mono _ _ _
      | exact spec_l9Rd_num.mono _ _ _ _
      | exact spec_l9Rd_pick.mono _ _ _ _
      | exact LeO.none _
      | refine LeO.ite ?_ ?_
      | refine LeO.bind ?_ (fun _ => ?_)
def spec_l1Post.T8 : Bool × List (List Nat × List Nat) := (true, [([], []), ([0], [0]), ([], []), ([2], [2]), ([], []), ([3, 4], [3, 4]), ([], []), ([6, 3], [6]), ([], []), ([7, 8], [7, 8]), ([5, 9], [5, 9]), ([1, 10, 7], [1, 10]), ([0, 1, 2, 3, 4, 5, 6, 7, 8, 9, 10, 11], []), ([12, 11, 11, 0, 1, 2, 3, 4, 5, 6, 7, 8, 9, 10, 11], [11, 12])])
def spec_l1Post.B8 : List Nat := [0, 1, 0, 4, 0, 28, 0, 76, 0, 460, 1020, 2047, 4095, 8191]
theorem spec_l1Post.tab8 : rtab .any (opsOf Try.f22 8) = spec_l1Post.T8 := by kernel_rfl
theorem spec_l1Post.bits8 : waitsOk spec_l1Post.T8.2 spec_l1Post.B8 = true := by kernel_rfl
def spec_l1Post.T12 : Bool × List (List Nat × List Nat) := (true, [([], []), ([0], [0]), ([], []), ([2], [2]), ([], []), ([3, 4], [3, 4]), ([5], [5]), ([1, 6, 3], [1, 6]), ([0, 1, 2, 3, 4, 5, 6, 7], []), ([8, 7, 7, 0, 1, 2, 3, 4, 5, 6, 7], [7, 8])])
def spec_l1Post.B12 : List Nat := [0, 1, 0, 4, 0, 28, 60, 127, 255, 511]
theorem spec_l1Post.tab12 : rtab .any (opsOf Try.f22 12) = spec_l1Post.T12 := by kernel_rfl
theorem spec_l1Post.bits12 : waitsOk spec_l1Post.T12.2 spec_l1Post.B12 = true := by kernel_rfl
theorem spec_l1Post_vb {p q : Prop} (h : Aside0 p) (k : p → q := by (intro hz; (with_reducible repeat (first | refine blk_drewN ?_ _ | refine blk_drew ?_ | refine blk_alloc ?_ _)); exact hz)) : q := k h.out
theorem spec_l1Post_auHI0 {q : Prop} (h : q := by (repeat (first | (with_reducible first | exact HI0.out | apply IsS58.alloc | apply IsS58.drewN | apply IsS58.drew | apply IsS58.set_1 | refine IsS58.far ?_ NB0_118.out _ | refine IsS58.far ?_ NB0_121.out _) | exact HI0.out))) : q := h
theorem spec_l1Post_auHK {q : Prop} (h : q := by (repeat (first | (with_reducible first | exact HK.out | apply KeepBut.set_ | apply keep_drewN | apply keep_drew | apply keep_alloc | refine keep_far ?_ GW118.out _ | refine keep_far ?_ GW121.out _) | exact HK.out))) : q := h
theorem spec_l1Post_auHB {q : Prop} (h : q := by (repeat (first | (with_reducible first | exact HB.out | apply below_alloc | apply pw_below_drewN | apply below_drew1 | refine below_set ?_ (IsS58.ge HI0.out) | refine below_set ?_ GE118.out | refine below_set ?_ GE121.out) | exact HB.out))) : q := h
set_option maxHeartbeats 8000000 in
set_option maxRecDepth 100000 in
theorem spec_l1Post.calls (k : Nat) (g : Nat) (s0_0 : List Int) (s0_1 : Int) (r1 : Int) (r2 : List (S29)) (r3 : Int) (w0 w : World) (hI : IsS58 w0 w g s0_0 s0_1) (hB : Below w0.heap.size w0 w) (h : spec_l1Post.f k s0_0 s0_1 = some (r1, r2, r3)) :
  Calls Try.prog 22 #[.pointer (some ⟨g, 0, none⟩)] w fun e w' => ∃ v1_ : Value, e = .returned (.agg #[.int .i64 r1, v1_]) ∧ Kd.R k29 29 w' w.heap.size (fun _ => True) v1_ r2 ∧ IsS58 w0 w' g s0_0 r3 ∧ Below w0.heap.size w0 w' ∧ KeepBut w w' g none := by
 have hu25 := Try.underlying25
 have hu29 := Try.underlying29
 have HI0 := Aside0.mk hI
 have HK := Aside0.mk (KeepBut.refl w g none)
 have HL := Aside0.mk hB.size
 clear hI
 have HW0 := Aside0.mk hB.size
 have HB := Aside0.mk hB
 clear hB
 have H : ((spec_l9Rd_pick.f k s0_0 s0_1 14).bind fun bt119 => ((spec_l9Rd_num.f k s0_0 bt119.2 (([5, 20, 100, 700, 1, 300, 1000] : List Int))).bind fun bt125 => ((spec_l9Rd_pick.f k s0_0 bt125.2 3).bind fun bt127 => ((spec_l1Acct.f k s0_0 bt127.2).bind fun bt129 => ((spec_l1Acct.f k s0_0 bt129.2).bind fun bt131 => ((some (([(⟨bt129.1, wrap64 (1 + bt127.1), bt125.1⟩ : S29), (⟨bt131.1, wrap64 (1 + bt127.1), wrap64 (-bt125.1)⟩ : S29)] : List (S29)) : List (S29))).bind fun y133 => ((spec_l9Rd_pick.f k s0_0 bt131.2 5).bind fun bt136 => (if bt136.1 = 0 then ((spec_l9Rd_pick.f k s0_0 bt136.2 3).bind fun bt138 => ((spec_l1Acct.f k s0_0 bt138.2).bind fun bt140 => ((spec_l1Acct.f k s0_0 bt140.2).bind fun bt142 => ((some (([(⟨bt140.1, wrap64 (1 + bt138.1), 7⟩ : S29), (⟨bt142.1, wrap64 (1 + bt138.1), (-7)⟩ : S29)] : List (S29)) : List (S29))).bind fun y144 => (if y133.length + y144.length < 4398046511104 then (some (bt119.1, (y133 ++ y144), bt142.2)) else (none)))))) else (if bt136.1 = 1 then (if bt125.1 > 1 then (if 1 < (y133.length : Int) then ((some (y133.set (1 : Int).toNat (⟨(rd_T29 y133 1).f0, (rd_T29 y133 1).f1, wrap64 (1 - bt125.1)⟩ : S29) : List (S29))).bind fun y150 => ((spec_l1Acct.f k s0_0 bt136.2).bind fun bt151 => (if y150.length < 4398046511104 then (some (bt119.1, (y150 ++ [(⟨bt151.1, wrap64 (1 + bt127.1), (-1)⟩ : S29)]), bt151.2)) else (none)))) else (none)) else (some (bt119.1, y133, bt136.2))) else (some (bt119.1, y133, bt136.2))))))))))) = some (r1, r2, r3) := h
 clear h
 replace H := Option.bind_eq_some_iff.mp H
 obtain ⟨⟨t119, t120⟩, A20, H⟩ := H
 replace H : ((spec_l9Rd_num.f k s0_0 t120 (([5, 20, 100, 700, 1, 300, 1000] : List Int))).bind fun bt125 => ((spec_l9Rd_pick.f k s0_0 bt125.2 3).bind fun bt127 => ((spec_l1Acct.f k s0_0 bt127.2).bind fun bt129 => ((spec_l1Acct.f k s0_0 bt129.2).bind fun bt131 => ((some (([(⟨bt129.1, wrap64 (1 + bt127.1), bt125.1⟩ : S29), (⟨bt131.1, wrap64 (1 + bt127.1), wrap64 (-bt125.1)⟩ : S29)] : List (S29)) : List (S29))).bind fun y133 => ((spec_l9Rd_pick.f k s0_0 bt131.2 5).bind fun bt136 => (if bt136.1 = 0 then ((spec_l9Rd_pick.f k s0_0 bt136.2 3).bind fun bt138 => ((spec_l1Acct.f k s0_0 bt138.2).bind fun bt140 => ((spec_l1Acct.f k s0_0 bt140.2).bind fun bt142 => ((some (([(⟨bt140.1, wrap64 (1 + bt138.1), 7⟩ : S29), (⟨bt142.1, wrap64 (1 + bt138.1), (-7)⟩ : S29)] : List (S29)) : List (S29))).bind fun y144 => (if y133.length + y144.length < 4398046511104 then (some (t119, (y133 ++ y144), bt142.2)) else (none)))))) else (if bt136.1 = 1 then (if bt125.1 > 1 then (if 1 < (y133.length : Int) then ((some (y133.set (1 : Int).toNat (⟨(rd_T29 y133 1).f0, (rd_T29 y133 1).f1, wrap64 (1 - bt125.1)⟩ : S29) : List (S29))).bind fun y150 => ((spec_l1Acct.f k s0_0 bt136.2).bind fun bt151 => (if y150.length < 4398046511104 then (some (t119, (y150 ++ [(⟨bt151.1, wrap64 (1 + bt127.1), (-1)⟩ : S29)]), bt151.2)) else (none)))) else (none)) else (some (t119, y133, bt136.2))) else (some (t119, y133, bt136.2)))))))))) = some (r1, r2, r3) := H
 have A2 := Aside0.mk A20
 clear A20
 obtain ⟨y122, hy122⟩ : ∃ y_ : List Int, y_ = (([5, 20, 100, 700, 1, 300, 1000] : List Int)) := ⟨_, rfl⟩
 replace H : ((spec_l9Rd_num.f k s0_0 t120 y122).bind fun bt125 => ((spec_l9Rd_pick.f k s0_0 bt125.2 3).bind fun bt127 => ((spec_l1Acct.f k s0_0 bt127.2).bind fun bt129 => ((spec_l1Acct.f k s0_0 bt129.2).bind fun bt131 => ((some (([(⟨bt129.1, wrap64 (1 + bt127.1), bt125.1⟩ : S29), (⟨bt131.1, wrap64 (1 + bt127.1), wrap64 (-bt125.1)⟩ : S29)] : List (S29)) : List (S29))).bind fun y133 => ((spec_l9Rd_pick.f k s0_0 bt131.2 5).bind fun bt136 => (if bt136.1 = 0 then ((spec_l9Rd_pick.f k s0_0 bt136.2 3).bind fun bt138 => ((spec_l1Acct.f k s0_0 bt138.2).bind fun bt140 => ((spec_l1Acct.f k s0_0 bt140.2).bind fun bt142 => ((some (([(⟨bt140.1, wrap64 (1 + bt138.1), 7⟩ : S29), (⟨bt142.1, wrap64 (1 + bt138.1), (-7)⟩ : S29)] : List (S29)) : List (S29))).bind fun y144 => (if y133.length + y144.length < 4398046511104 then (some (t119, (y133 ++ y144), bt142.2)) else (none)))))) else (if bt136.1 = 1 then (if bt125.1 > 1 then (if 1 < (y133.length : Int) then ((some (y133.set (1 : Int).toNat (⟨(rd_T29 y133 1).f0, (rd_T29 y133 1).f1, wrap64 (1 - bt125.1)⟩ : S29) : List (S29))).bind fun y150 => ((spec_l1Acct.f k s0_0 bt136.2).bind fun bt151 => (if y150.length < 4398046511104 then (some (t119, (y150 ++ [(⟨bt151.1, wrap64 (1 + bt127.1), (-1)⟩ : S29)]), bt151.2)) else (none)))) else (none)) else (some (t119, y133, bt136.2))) else (some (t119, y133, bt136.2)))))))))) = some (r1, r2, r3) := by first | (rw [hy122]; with_reducible exact H) | (have H2_ := (Option.bind_some _ _).symm.trans H; rw [hy122]; with_reducible exact H2_) | (have H2_ := (Option.bind_some _ _).symm.trans H; with_reducible exact H2_) | with_reducible exact H | (rw [hy122]; exact H) | exact H
 have Ny122 := Aside0.mk hy122
 clear hy122
 replace H := Option.bind_eq_some_iff.mp H
 obtain ⟨⟨t125, t126⟩, A30, H⟩ := H
 replace H : ((spec_l9Rd_pick.f k s0_0 t126 3).bind fun bt127 => ((spec_l1Acct.f k s0_0 bt127.2).bind fun bt129 => ((spec_l1Acct.f k s0_0 bt129.2).bind fun bt131 => ((some (([(⟨bt129.1, wrap64 (1 + bt127.1), t125⟩ : S29), (⟨bt131.1, wrap64 (1 + bt127.1), wrap64 (-t125)⟩ : S29)] : List (S29)) : List (S29))).bind fun y133 => ((spec_l9Rd_pick.f k s0_0 bt131.2 5).bind fun bt136 => (if bt136.1 = 0 then ((spec_l9Rd_pick.f k s0_0 bt136.2 3).bind fun bt138 => ((spec_l1Acct.f k s0_0 bt138.2).bind fun bt140 => ((spec_l1Acct.f k s0_0 bt140.2).bind fun bt142 => ((some (([(⟨bt140.1, wrap64 (1 + bt138.1), 7⟩ : S29), (⟨bt142.1, wrap64 (1 + bt138.1), (-7)⟩ : S29)] : List (S29)) : List (S29))).bind fun y144 => (if y133.length + y144.length < 4398046511104 then (some (t119, (y133 ++ y144), bt142.2)) else (none)))))) else (if bt136.1 = 1 then (if t125 > 1 then (if 1 < (y133.length : Int) then ((some (y133.set (1 : Int).toNat (⟨(rd_T29 y133 1).f0, (rd_T29 y133 1).f1, wrap64 (1 - t125)⟩ : S29) : List (S29))).bind fun y150 => ((spec_l1Acct.f k s0_0 bt136.2).bind fun bt151 => (if y150.length < 4398046511104 then (some (t119, (y150 ++ [(⟨bt151.1, wrap64 (1 + bt127.1), (-1)⟩ : S29)]), bt151.2)) else (none)))) else (none)) else (some (t119, y133, bt136.2))) else (some (t119, y133, bt136.2))))))))) = some (r1, r2, r3) := H
 have A3 := Aside0.mk A30
 clear A30
 replace H := Option.bind_eq_some_iff.mp H
 obtain ⟨⟨t127, t128⟩, A40, H⟩ := H
 replace H : ((spec_l1Acct.f k s0_0 t128).bind fun bt129 => ((spec_l1Acct.f k s0_0 bt129.2).bind fun bt131 => ((some (([(⟨bt129.1, wrap64 (1 + t127), t125⟩ : S29), (⟨bt131.1, wrap64 (1 + t127), wrap64 (-t125)⟩ : S29)] : List (S29)) : List (S29))).bind fun y133 => ((spec_l9Rd_pick.f k s0_0 bt131.2 5).bind fun bt136 => (if bt136.1 = 0 then ((spec_l9Rd_pick.f k s0_0 bt136.2 3).bind fun bt138 => ((spec_l1Acct.f k s0_0 bt138.2).bind fun bt140 => ((spec_l1Acct.f k s0_0 bt140.2).bind fun bt142 => ((some (([(⟨bt140.1, wrap64 (1 + bt138.1), 7⟩ : S29), (⟨bt142.1, wrap64 (1 + bt138.1), (-7)⟩ : S29)] : List (S29)) : List (S29))).bind fun y144 => (if y133.length + y144.length < 4398046511104 then (some (t119, (y133 ++ y144), bt142.2)) else (none)))))) else (if bt136.1 = 1 then (if t125 > 1 then (if 1 < (y133.length : Int) then ((some (y133.set (1 : Int).toNat (⟨(rd_T29 y133 1).f0, (rd_T29 y133 1).f1, wrap64 (1 - t125)⟩ : S29) : List (S29))).bind fun y150 => ((spec_l1Acct.f k s0_0 bt136.2).bind fun bt151 => (if y150.length < 4398046511104 then (some (t119, (y150 ++ [(⟨bt151.1, wrap64 (1 + t127), (-1)⟩ : S29)]), bt151.2)) else (none)))) else (none)) else (some (t119, y133, bt136.2))) else (some (t119, y133, bt136.2)))))))) = some (r1, r2, r3) := H
 have A4 := Aside0.mk A40
 clear A40
 replace H := Option.bind_eq_some_iff.mp H
 obtain ⟨⟨t129, t130⟩, A50, H⟩ := H
 replace H : ((spec_l1Acct.f k s0_0 t130).bind fun bt131 => ((some (([(⟨t129, wrap64 (1 + t127), t125⟩ : S29), (⟨bt131.1, wrap64 (1 + t127), wrap64 (-t125)⟩ : S29)] : List (S29)) : List (S29))).bind fun y133 => ((spec_l9Rd_pick.f k s0_0 bt131.2 5).bind fun bt136 => (if bt136.1 = 0 then ((spec_l9Rd_pick.f k s0_0 bt136.2 3).bind fun bt138 => ((spec_l1Acct.f k s0_0 bt138.2).bind fun bt140 => ((spec_l1Acct.f k s0_0 bt140.2).bind fun bt142 => ((some (([(⟨bt140.1, wrap64 (1 + bt138.1), 7⟩ : S29), (⟨bt142.1, wrap64 (1 + bt138.1), (-7)⟩ : S29)] : List (S29)) : List (S29))).bind fun y144 => (if y133.length + y144.length < 4398046511104 then (some (t119, (y133 ++ y144), bt142.2)) else (none)))))) else (if bt136.1 = 1 then (if t125 > 1 then (if 1 < (y133.length : Int) then ((some (y133.set (1 : Int).toNat (⟨(rd_T29 y133 1).f0, (rd_T29 y133 1).f1, wrap64 (1 - t125)⟩ : S29) : List (S29))).bind fun y150 => ((spec_l1Acct.f k s0_0 bt136.2).bind fun bt151 => (if y150.length < 4398046511104 then (some (t119, (y150 ++ [(⟨bt151.1, wrap64 (1 + t127), (-1)⟩ : S29)]), bt151.2)) else (none)))) else (none)) else (some (t119, y133, bt136.2))) else (some (t119, y133, bt136.2))))))) = some (r1, r2, r3) := H
 have A5 := Aside0.mk A50
 clear A50
 replace H := Option.bind_eq_some_iff.mp H
 obtain ⟨⟨t131, t132⟩, A60, H⟩ := H
 replace H : ((some (([(⟨t129, wrap64 (1 + t127), t125⟩ : S29), (⟨t131, wrap64 (1 + t127), wrap64 (-t125)⟩ : S29)] : List (S29)) : List (S29))).bind fun y133 => ((spec_l9Rd_pick.f k s0_0 t132 5).bind fun bt136 => (if bt136.1 = 0 then ((spec_l9Rd_pick.f k s0_0 bt136.2 3).bind fun bt138 => ((spec_l1Acct.f k s0_0 bt138.2).bind fun bt140 => ((spec_l1Acct.f k s0_0 bt140.2).bind fun bt142 => ((some (([(⟨bt140.1, wrap64 (1 + bt138.1), 7⟩ : S29), (⟨bt142.1, wrap64 (1 + bt138.1), (-7)⟩ : S29)] : List (S29)) : List (S29))).bind fun y144 => (if y133.length + y144.length < 4398046511104 then (some (t119, (y133 ++ y144), bt142.2)) else (none)))))) else (if bt136.1 = 1 then (if t125 > 1 then (if 1 < (y133.length : Int) then ((some (y133.set (1 : Int).toNat (⟨(rd_T29 y133 1).f0, (rd_T29 y133 1).f1, wrap64 (1 - t125)⟩ : S29) : List (S29))).bind fun y150 => ((spec_l1Acct.f k s0_0 bt136.2).bind fun bt151 => (if y150.length < 4398046511104 then (some (t119, (y150 ++ [(⟨bt151.1, wrap64 (1 + t127), (-1)⟩ : S29)]), bt151.2)) else (none)))) else (none)) else (some (t119, y133, bt136.2))) else (some (t119, y133, bt136.2)))))) = some (r1, r2, r3) := H
 have A6 := Aside0.mk A60
 clear A60
 obtain ⟨y133, hy133⟩ : ∃ y_ : List (S29), y_ = (([(⟨t129, wrap64 (1 + t127), t125⟩ : S29), (⟨t131, wrap64 (1 + t127), wrap64 (-t125)⟩ : S29)] : List (S29))) := ⟨_, rfl⟩
 replace H : ((spec_l9Rd_pick.f k s0_0 t132 5).bind fun bt136 => (if bt136.1 = 0 then ((spec_l9Rd_pick.f k s0_0 bt136.2 3).bind fun bt138 => ((spec_l1Acct.f k s0_0 bt138.2).bind fun bt140 => ((spec_l1Acct.f k s0_0 bt140.2).bind fun bt142 => ((some (([(⟨bt140.1, wrap64 (1 + bt138.1), 7⟩ : S29), (⟨bt142.1, wrap64 (1 + bt138.1), (-7)⟩ : S29)] : List (S29)) : List (S29))).bind fun y144 => (if y133.length + y144.length < 4398046511104 then (some (t119, (y133 ++ y144), bt142.2)) else (none)))))) else (if bt136.1 = 1 then (if t125 > 1 then (if 1 < (y133.length : Int) then ((some (y133.set (1 : Int).toNat (⟨(rd_T29 y133 1).f0, (rd_T29 y133 1).f1, wrap64 (1 - t125)⟩ : S29) : List (S29))).bind fun y150 => ((spec_l1Acct.f k s0_0 bt136.2).bind fun bt151 => (if y150.length < 4398046511104 then (some (t119, (y150 ++ [(⟨bt151.1, wrap64 (1 + t127), (-1)⟩ : S29)]), bt151.2)) else (none)))) else (none)) else (some (t119, y133, bt136.2))) else (some (t119, y133, bt136.2))))) = some (r1, r2, r3) := by first | (rw [hy133]; with_reducible exact H) | (have H2_ := (Option.bind_some _ _).symm.trans H; rw [hy133]; with_reducible exact H2_) | (have H2_ := (Option.bind_some _ _).symm.trans H; with_reducible exact H2_) | with_reducible exact H | (rw [hy133]; exact H) | exact H
 have Ny133 := Aside0.mk hy133
 clear hy133
 replace H := Option.bind_eq_some_iff.mp H
 obtain ⟨⟨t136, t137⟩, A70, H⟩ := H
 replace H : (if t136 = 0 then ((spec_l9Rd_pick.f k s0_0 t137 3).bind fun bt138 => ((spec_l1Acct.f k s0_0 bt138.2).bind fun bt140 => ((spec_l1Acct.f k s0_0 bt140.2).bind fun bt142 => ((some (([(⟨bt140.1, wrap64 (1 + bt138.1), 7⟩ : S29), (⟨bt142.1, wrap64 (1 + bt138.1), (-7)⟩ : S29)] : List (S29)) : List (S29))).bind fun y144 => (if y133.length + y144.length < 4398046511104 then (some (t119, (y133 ++ y144), bt142.2)) else (none)))))) else (if t136 = 1 then (if t125 > 1 then (if 1 < (y133.length : Int) then ((some (y133.set (1 : Int).toNat (⟨(rd_T29 y133 1).f0, (rd_T29 y133 1).f1, wrap64 (1 - t125)⟩ : S29) : List (S29))).bind fun y150 => ((spec_l1Acct.f k s0_0 t137).bind fun bt151 => (if y150.length < 4398046511104 then (some (t119, (y150 ++ [(⟨bt151.1, wrap64 (1 + t127), (-1)⟩ : S29)]), bt151.2)) else (none)))) else (none)) else (some (t119, y133, t137))) else (some (t119, y133, t137)))) = some (r1, r2, r3) := H
 have A7 := Aside0.mk A70
 clear A70
 by_cases c8 : t136 = 0
 ·
  rw [if_pos c8] at H
  have c8b0 : (t136 == 0) = true := beq_iff_eq.mpr c8
  have c8b1 : (t136 != 0) = false := bne_eq_false_iff_eq.mpr c8
  clear c8
  replace H := Option.bind_eq_some_iff.mp H
  obtain ⟨⟨t138, t139⟩, A90, H⟩ := H
  replace H : ((spec_l1Acct.f k s0_0 t139).bind fun bt140 => ((spec_l1Acct.f k s0_0 bt140.2).bind fun bt142 => ((some (([(⟨bt140.1, wrap64 (1 + t138), 7⟩ : S29), (⟨bt142.1, wrap64 (1 + t138), (-7)⟩ : S29)] : List (S29)) : List (S29))).bind fun y144 => (if y133.length + y144.length < 4398046511104 then (some (t119, (y133 ++ y144), bt142.2)) else (none))))) = some (r1, r2, r3) := H
  have A9 := Aside0.mk A90
  clear A90
  replace H := Option.bind_eq_some_iff.mp H
  obtain ⟨⟨t140, t141⟩, A100, H⟩ := H
  replace H : ((spec_l1Acct.f k s0_0 t141).bind fun bt142 => ((some (([(⟨t140, wrap64 (1 + t138), 7⟩ : S29), (⟨bt142.1, wrap64 (1 + t138), (-7)⟩ : S29)] : List (S29)) : List (S29))).bind fun y144 => (if y133.length + y144.length < 4398046511104 then (some (t119, (y133 ++ y144), bt142.2)) else (none)))) = some (r1, r2, r3) := H
  have A10 := Aside0.mk A100
  clear A100
  replace H := Option.bind_eq_some_iff.mp H
  obtain ⟨⟨t142, t143⟩, A110, H⟩ := H
  replace H : ((some (([(⟨t140, wrap64 (1 + t138), 7⟩ : S29), (⟨t142, wrap64 (1 + t138), (-7)⟩ : S29)] : List (S29)) : List (S29))).bind fun y144 => (if y133.length + y144.length < 4398046511104 then (some (t119, (y133 ++ y144), t143)) else (none))) = some (r1, r2, r3) := H
  have A11 := Aside0.mk A110
  clear A110
  obtain ⟨y144, hy144⟩ : ∃ y_ : List (S29), y_ = (([(⟨t140, wrap64 (1 + t138), 7⟩ : S29), (⟨t142, wrap64 (1 + t138), (-7)⟩ : S29)] : List (S29))) := ⟨_, rfl⟩
  replace H : (if y133.length + y144.length < 4398046511104 then (some (t119, (y133 ++ y144), t143)) else (none)) = some (r1, r2, r3) := by first | (rw [hy144]; with_reducible exact H) | (have H2_ := (Option.bind_some _ _).symm.trans H; rw [hy144]; with_reducible exact H2_) | (have H2_ := (Option.bind_some _ _).symm.trans H; with_reducible exact H2_) | with_reducible exact H | (rw [hy144]; exact H) | exact H
  have Ny144 := Aside0.mk hy144
  clear hy144
  by_cases c12 : y133.length + y144.length < 4398046511104
  ·
   rw [if_pos c12] at H
   have LMc12 := Aside0.mk c12
   clear c12
   obtain ⟨y147, hy147⟩ : ∃ y_ : List (S29), y_ = (y133 ++ y144) := ⟨_, rfl⟩
   replace H : (some (t119, y147, t143)) = some (r1, r2, r3) := by first | (rw [hy147]; with_reducible exact H) | (have H2_ := (Option.bind_some _ _).symm.trans H; rw [hy147]; with_reducible exact H2_) | (have H2_ := (Option.bind_some _ _).symm.trans H; with_reducible exact H2_) | with_reducible exact H | (rw [hy147]; exact H) | exact H
   have Ny147 := Aside0.mk hy147
   clear hy147
   simp only [Option.some.injEq, Prod.mk.injEq] at H
   obtain ⟨rfl, rfl, rfl⟩ := H
   go_enter Try.func22, Try.ntmps22
   try go_wp2_with (first | ((with_reducible refine gate_dst (N := 2) rfl ?_); refine box_event ?hg (N := 2) ?hd (cs := #[.int .i64 0, .slice none 0 0]) (t := 25) ?hr ?_; (case hd => rfl); (case hg => rfl); (case hr => first | (go_simp; done) | (go_simp; rfl)); intro gb118 hg w13 hbox hb; have n0_ := Aside0.mk (IsS58.below (spec_l1Post_auHI0) hb); have n1_ := Aside0.mk (KeepBut.trans (spec_l1Post_auHK) (KeepBut.of_below hb g none) (.inl rfl)); have n2_ := Aside0.mk (below_step (spec_l1Post_auHB) hb); have n3_ := Aside0.mk (hbox); have n4_ := Aside0.mk ((by rw [hg]; exact (keep_size (w := w) (g := g) (row := none) (spec_l1Post_auHK)) : w.heap.size ≤ gb118)); have n5_ := Aside0.mk ((Nat.le_trans HW0.out (by rw [hg]; exact (keep_size (w := w) (g := g) (row := none) (spec_l1Post_auHK)) : w.heap.size ≤ gb118) : w0.heap.size ≤ gb118)); have n6_ := Aside0.mk ((by rw [hg]; exact Nat.ne_of_lt (IsS58.lt (show IsS58 w0 _ g s0_0 s0_1 from spec_l1Post_auHI0)) : g ≠ gb118)); have n7_ := Aside0.mk ((by rw [hg]; exact Nat.ne_of_gt (IsS58.lt (show IsS58 w0 _ g s0_0 s0_1 from spec_l1Post_auHI0)) : gb118 ≠ g)); clear HI0; clear HK; clear HB; have HI0 := n0_; have HK := n1_; have HB := n2_; have BK118 := n3_; have GW118 := n4_; have GE118 := n5_; have NB0_118 := n6_; have NB118_0 := n7_; clear n0_ n1_ n2_ n3_ n4_ n5_ n6_ n7_; clear hb hbox hg) | ((with_reducible refine gate_callee (f := 24) rfl ?_); refine goesL_ (some 8) rfl rfl Try.func24 (by kernel_rfl) rfl #[.pointer (some ⟨g, 0, none⟩), .int .i64 14] rfl (by (try simp only [List.map_toArray, List.map_cons, List.map_nil]); first | done | rfl | (simp only [List.length_drop, List.length_take]; rfl)) ?_; (with_reducible refine (spec_l9Rd_pick.calls k g s0_0 s0_1 14 t119 t120 w0 _ ?side1 ?side2 A2.out).mono ?_); (case side1 => exact spec_l1Post_auHI0); (case side2 => exact spec_l1Post_auHB); rintro e w14 ⟨rfl, hi, hb, hk⟩; refine ⟨_, rfl, ?_⟩; have n0_ := Aside0.mk (KeepBut.blk hk (g' := gb118) (o := .cells #[.int .i64 0, .slice none 0 0] 25 (0, 0)) (spec_l1Post_vb BK118) NB118_0.out (by simp)); have n1_ := Aside0.mk (KeepBut.trans (spec_l1Post_auHK) hk (.inl rfl)); have n2_ := Aside0.mk (hb); have n3_ := Aside0.mk (hi); clear BK118; clear HK; clear HB; clear HI0; have BK118 := n0_; have HK := n1_; have HB := n2_; have HI0 := n3_; clear n0_ n1_ n2_ n3_; (try clear hb); (try clear hb2); (try clear hk); (try clear hi)) | ((with_reducible refine gate_dst (N := 3) rfl ?_); refine box_event ?hg (N := 3) ?hd (cs := #[.int .i64 0, .slice none 0 0]) (t := 25) ?hr ?_; (case hd => rfl); (case hg => rfl); (case hr => first | (go_simp; done) | (go_simp; rfl)); intro gb121 hg w15 hbox hb; have n0_ := Aside0.mk (IsS58.below (spec_l1Post_auHI0) hb); have n1_ := Aside0.mk (blk_below (g := gb118) (o := .cells #[.int .i64 0, .slice none 0 0] 25 (0, 0)) (spec_l1Post_vb BK118) hb); have n2_ := Aside0.mk (KeepBut.trans (spec_l1Post_auHK) (KeepBut.of_below hb g none) (.inl rfl)); have n3_ := Aside0.mk (below_step (spec_l1Post_auHB) hb); have n4_ := Aside0.mk (hbox); have n5_ := Aside0.mk ((by rw [hg]; exact (keep_size (w := w) (g := g) (row := none) (spec_l1Post_auHK)) : w.heap.size ≤ gb121)); have n6_ := Aside0.mk ((Nat.le_trans HW0.out (by rw [hg]; exact (keep_size (w := w) (g := g) (row := none) (spec_l1Post_auHK)) : w.heap.size ≤ gb121) : w0.heap.size ≤ gb121)); have n7_ := Aside0.mk ((by rw [hg]; exact Nat.ne_of_lt (blk_lt (g := gb118) (o := .cells #[.int .i64 0, .slice none 0 0] 25 (0, 0)) (spec_l1Post_vb BK118)) : gb118 ≠ gb121)); have n8_ := Aside0.mk ((by rw [hg]; exact Nat.ne_of_gt (blk_lt (g := gb118) (o := .cells #[.int .i64 0, .slice none 0 0] 25 (0, 0)) (spec_l1Post_vb BK118)) : gb121 ≠ gb118)); have n9_ := Aside0.mk ((by rw [hg]; exact Nat.ne_of_lt (IsS58.lt (show IsS58 w0 _ g s0_0 t120 from spec_l1Post_auHI0)) : g ≠ gb121)); have n10_ := Aside0.mk ((by rw [hg]; exact Nat.ne_of_gt (IsS58.lt (show IsS58 w0 _ g s0_0 t120 from spec_l1Post_auHI0)) : gb121 ≠ g)); clear HI0; clear BK118; clear HK; clear HB; have HI0 := n0_; have BK118 := n1_; have HK := n2_; have HB := n3_; have BK121 := n4_; have GW121 := n5_; have GE121 := n6_; have NB118_121 := n7_; have NB121_118 := n8_; have NB0_121 := n9_; have NB121_0 := n10_; clear n0_ n1_ n2_ n3_ n4_ n5_ n6_ n7_ n8_ n9_ n10_; clear hb hbox hg; have hnb16 := NB121_118.out; have hnc16 := NB118_121.out; have hnb17 := NB121_0.out; have hnc17 := NB0_121.out; have hcz18_0 : w15.cell? ⟨gb121, 0, none⟩ = some (.int .i64 0) := (blk_cell BK121.out 0).trans rfl; have hcz18_1 : w15.cell? ⟨gb121, 1, none⟩ = some (.slice none 0 0) := (blk_cell BK121.out 1).trans rfl; have hfz18_0 := blk_frozen BK121.out 0; have hfz18_1 := blk_frozen BK121.out 1) | ((with_reducible refine gate_dst (N := 11) rfl ?_); refine Kd.R_lit (Kd.int .i64) _ 3 ?hg (N := 11) ?hd (xs := ([5, 20, 100, 700, 1, 300, 1000] : List Int)) (inner := [.int .i64 5, .int .i64 20, .int .i64 100, .int .i64 700, .int .i64 1, .int .i64 300, .int .i64 1000]) (ok := fun _ => True) (okp := fun _ => True) ?hr ?hp (fun _ hk => hk) trivial (Below.refl _ _) (Nat.le_refl _) (by simp) ?_; (case hd => rfl); (case hg => rfl); (case hr => first | (go_simp; done) | (go_simp; rfl)); (case hp => exact (Reps.one (show Kd.M (Kd.int .i64) _ _ _ 5 [.int .i64 5] from rfl) (Reps.one (show Kd.M (Kd.int .i64) _ _ _ 20 [.int .i64 20] from rfl) (Reps.one (show Kd.M (Kd.int .i64) _ _ _ 100 [.int .i64 100] from rfl) (Reps.one (show Kd.M (Kd.int .i64) _ _ _ 700 [.int .i64 700] from rfl) (Reps.one (show Kd.M (Kd.int .i64) _ _ _ 1 [.int .i64 1] from rfl) (Reps.one (show Kd.M (Kd.int .i64) _ _ _ 300 [.int .i64 300] from rfl) (Reps.one (show Kd.M (Kd.int .i64) _ _ _ 1000 [.int .i64 1000] from rfl) (Reps.none _ _))))))))); intro v123 w19 ho20 hb hg_ hnew_; clear hg_ hnew_; (first | rw [← Ny122.out] at ho20 | (simp only [Int.reduceToNat] at ho20; rw [← Ny122.out] at ho20)); have n0_ := Aside0.mk (Kd.R_lower ho20 (keep_size (w := w) (g := g) (row := none) (spec_l1Post_auHK))); have n1_ := Aside0.mk (IsS58.below (show IsS58 w0 ((w15.setCell ⟨gb121, 0, none⟩ (.int .i64 t119)).setCell ⟨gb121, 1, none⟩ (.slice none 0 0)) g s0_0 t120 from spec_l1Post_auHI0) hb); have n2_ := Aside0.mk (blk_below (g := gb118) (o := .cells #[.int .i64 0, .slice none 0 0] 25 (0, 0)) (by (with_reducible repeat (first | refine blk_drewN ?_ _ | refine blk_drew ?_ | refine blk_alloc ?_ _)); refine blk_far ?_ NB118_121.out _; (with_reducible repeat (first | refine blk_drewN ?_ _ | refine blk_drew ?_ | refine blk_alloc ?_ _)); refine blk_far ?_ NB118_121.out _; (with_reducible repeat (first | refine blk_drewN ?_ _ | refine blk_drew ?_ | refine blk_alloc ?_ _)); exact BK118.out) hb); have n3_ := Aside0.mk (blk_below (g := gb121) (o := .cells #[.int .i64 t119, .slice none 0 0] 25 (0, 0)) (by (with_reducible repeat (first | refine blk_drewN ?_ _ | refine blk_drew ?_ | refine blk_alloc ?_ _)); refine blk_put (cs := #[.int .i64 t119, .slice none 0 0]) ?_ 1 _ rfl; (with_reducible repeat (first | refine blk_drewN ?_ _ | refine blk_drew ?_ | refine blk_alloc ?_ _)); refine blk_put (cs := #[.int .i64 0, .slice none 0 0]) ?_ 0 _ rfl; (with_reducible repeat (first | refine blk_drewN ?_ _ | refine blk_drew ?_ | refine blk_alloc ?_ _)); exact BK121.out) hb); have n4_ := Aside0.mk (KeepBut.trans (spec_l1Post_auHK) (KeepBut.of_below hb g none) (.inl rfl)); have n5_ := Aside0.mk (below_step (spec_l1Post_auHB) hb); clear HI0; clear BK118; clear BK121; clear HK; clear HB; have HO124 := n0_; have HI0 := n1_; have BK118 := n2_; have BK121 := n3_; have HK := n4_; have HB := n5_; clear n0_ n1_ n2_ n3_ n4_ n5_; clear hb ho20; obtain ⟨Ao21, co21, eo21⟩ := Kd.R_slice HO124.out; subst eo21) | ((with_reducible refine gate_callee (f := 27) rfl ?_); refine goesL_ (some 12) rfl rfl Try.func27 (by kernel_rfl) rfl #[.pointer (some ⟨g, 0, none⟩), .slice Ao21 y122.length co21] rfl (by (try simp only [List.map_toArray, List.map_cons, List.map_nil]); first | done | rfl | (simp only [List.length_drop, List.length_take]; rfl)) ?_; (with_reducible refine (spec_l9Rd_num.calls k g s0_0 t120 _ _ y122 t125 t126 w0 _ ?side1 ?side2 ?side3 ?side4 ?side5 A3.out).mono ?_); (case side1 => exact spec_l1Post_auHI0); (case side2 => exact spec_l1Post_auHB); (case side3 => repeat (first | exact (Kd.R_reads' HO124.out).2.2 | (with_reducible refine Kd.C_alloc ?_ _) | (with_reducible refine Kd.C_drewN ?_ _) | (with_reducible refine Kd.C_drew ?_))); (case side4 => exact (Kd.R_reads' HO124.out).2.1); (case side5 => exact far_slice (IsS58.own_ne HI0.out HO124.out (by decide))); rintro e w22 ⟨rfl, hi, hb, hk⟩; refine ⟨_, rfl, ?_⟩; have n0_ := Aside0.mk (KeepBut.blk hk (g' := gb118) (o := .cells #[.int .i64 0, .slice none 0 0] 25 (0, 0)) (spec_l1Post_vb BK118) NB118_0.out (by simp)); have n1_ := Aside0.mk (KeepBut.blk hk (g' := gb121) (o := .cells #[.int .i64 t119, .slice none 0 0] 25 (0, 0)) (spec_l1Post_vb BK121) NB121_0.out (by simp)); have n2_ := Aside0.mk (Kd.R_mono (Kd.R_keep (IsS58.apart (show IsS58 w0 _ g s0_0 t120 from spec_l1Post_auHI0) (by (with_reducible repeat (first | apply Kd.R_alloc | apply Kd.R_drewN | apply Kd.R_drew)); exact HO124.out) (by decide)) hk (fun _ h => h.2)) (fun _ h => h.1)); have n3_ := Aside0.mk (KeepBut.trans (spec_l1Post_auHK) hk (.inl rfl)); have n4_ := Aside0.mk (hb); have n5_ := Aside0.mk (hi); clear BK118; clear BK121; clear HO124; clear HK; clear HB; clear HI0; have BK118 := n0_; have BK121 := n1_; have HO124 := n2_; have HK := n3_; have HB := n4_; have HI0 := n5_; clear n0_ n1_ n2_ n3_ n4_ n5_; (try clear hb); (try clear hb2); (try clear hk); (try clear hi)) | ((with_reducible refine gate_callee (f := 24) rfl ?_); refine goesL_ (some 14) rfl rfl Try.func24 (by kernel_rfl) rfl #[.pointer (some ⟨g, 0, none⟩), .int .i64 3] rfl (by (try simp only [List.map_toArray, List.map_cons, List.map_nil]); first | done | rfl | (simp only [List.length_drop, List.length_take]; rfl)) ?_; (with_reducible refine (spec_l9Rd_pick.calls k g s0_0 t126 3 t127 t128 w0 _ ?side1 ?side2 A4.out).mono ?_); (case side1 => exact spec_l1Post_auHI0); (case side2 => exact spec_l1Post_auHB); rintro e w23 ⟨rfl, hi, hb, hk⟩; refine ⟨_, rfl, ?_⟩; have n0_ := Aside0.mk (KeepBut.blk hk (g' := gb118) (o := .cells #[.int .i64 0, .slice none 0 0] 25 (0, 0)) (spec_l1Post_vb BK118) NB118_0.out (by simp)); have n1_ := Aside0.mk (KeepBut.blk hk (g' := gb121) (o := .cells #[.int .i64 t119, .slice none 0 0] 25 (0, 0)) (spec_l1Post_vb BK121) NB121_0.out (by simp)); have n2_ := Aside0.mk (Kd.R_mono (Kd.R_keep (IsS58.apart (show IsS58 w0 _ g s0_0 t126 from spec_l1Post_auHI0) (by (with_reducible repeat (first | apply Kd.R_alloc | apply Kd.R_drewN | apply Kd.R_drew)); exact HO124.out) (by decide)) hk (fun _ h => h.2)) (fun _ h => h.1)); have n3_ := Aside0.mk (KeepBut.trans (spec_l1Post_auHK) hk (.inl rfl)); have n4_ := Aside0.mk (hb); have n5_ := Aside0.mk (hi); clear BK118; clear BK121; clear HO124; clear HK; clear HB; clear HI0; have BK118 := n0_; have BK121 := n1_; have HO124 := n2_; have HK := n3_; have HB := n4_; have HI0 := n5_; clear n0_ n1_ n2_ n3_ n4_ n5_; (try clear hb); (try clear hb2); (try clear hk); (try clear hi)) | ((with_reducible refine gate_callee (f := 26) rfl ?_); refine goesL_ (some 17) rfl rfl Try.func26 (by kernel_rfl) rfl #[.pointer (some ⟨g, 0, none⟩)] rfl (by (try simp only [List.map_toArray, List.map_cons, List.map_nil]); first | done | rfl | (simp only [List.length_drop, List.length_take]; rfl)) ?_; (with_reducible refine (spec_l1Acct.calls k g s0_0 t128 t129 t130 w0 _ ?side1 ?side2 A5.out).mono ?_); (case side1 => exact spec_l1Post_auHI0); (case side2 => exact spec_l1Post_auHB); rintro e w24 ⟨rfl, hi, hb, hk⟩; refine ⟨_, rfl, ?_⟩; have n0_ := Aside0.mk (KeepBut.blk hk (g' := gb118) (o := .cells #[.int .i64 0, .slice none 0 0] 25 (0, 0)) (spec_l1Post_vb BK118) NB118_0.out (by simp)); have n1_ := Aside0.mk (KeepBut.blk hk (g' := gb121) (o := .cells #[.int .i64 t119, .slice none 0 0] 25 (0, 0)) (spec_l1Post_vb BK121) NB121_0.out (by simp)); have n2_ := Aside0.mk (Kd.R_mono (Kd.R_keep (IsS58.apart (show IsS58 w0 _ g s0_0 t128 from spec_l1Post_auHI0) (by (with_reducible repeat (first | apply Kd.R_alloc | apply Kd.R_drewN | apply Kd.R_drew)); exact HO124.out) (by decide)) hk (fun _ h => h.2)) (fun _ h => h.1)); have n3_ := Aside0.mk (KeepBut.trans (spec_l1Post_auHK) hk (.inl rfl)); have n4_ := Aside0.mk (hb); have n5_ := Aside0.mk (hi); clear BK118; clear BK121; clear HO124; clear HK; clear HB; clear HI0; have BK118 := n0_; have BK121 := n1_; have HO124 := n2_; have HK := n3_; have HB := n4_; have HI0 := n5_; clear n0_ n1_ n2_ n3_ n4_ n5_; (try clear hb); (try clear hb2); (try clear hk); (try clear hi)) | ((with_reducible refine gate_callee (f := 26) rfl ?_); refine goesL_ (some 22) rfl rfl Try.func26 (by kernel_rfl) rfl #[.pointer (some ⟨g, 0, none⟩)] rfl (by (try simp only [List.map_toArray, List.map_cons, List.map_nil]); first | done | rfl | (simp only [List.length_drop, List.length_take]; rfl)) ?_; (with_reducible refine (spec_l1Acct.calls k g s0_0 t130 t131 t132 w0 _ ?side1 ?side2 A6.out).mono ?_); (case side1 => exact spec_l1Post_auHI0); (case side2 => exact spec_l1Post_auHB); rintro e w25 ⟨rfl, hi, hb, hk⟩; refine ⟨_, rfl, ?_⟩; have n0_ := Aside0.mk (KeepBut.blk hk (g' := gb118) (o := .cells #[.int .i64 0, .slice none 0 0] 25 (0, 0)) (spec_l1Post_vb BK118) NB118_0.out (by simp)); have n1_ := Aside0.mk (KeepBut.blk hk (g' := gb121) (o := .cells #[.int .i64 t119, .slice none 0 0] 25 (0, 0)) (spec_l1Post_vb BK121) NB121_0.out (by simp)); have n2_ := Aside0.mk (Kd.R_mono (Kd.R_keep (IsS58.apart (show IsS58 w0 _ g s0_0 t130 from spec_l1Post_auHI0) (by (with_reducible repeat (first | apply Kd.R_alloc | apply Kd.R_drewN | apply Kd.R_drew)); exact HO124.out) (by decide)) hk (fun _ h => h.2)) (fun _ h => h.1)); have n3_ := Aside0.mk (KeepBut.trans (spec_l1Post_auHK) hk (.inl rfl)); have n4_ := Aside0.mk (hb); have n5_ := Aside0.mk (hi); clear BK118; clear BK121; clear HO124; clear HK; clear HB; clear HI0; have BK118 := n0_; have BK121 := n1_; have HO124 := n2_; have HK := n3_; have HB := n4_; have HI0 := n5_; clear n0_ n1_ n2_ n3_ n4_ n5_; (try clear hb); (try clear hb2); (try clear hk); (try clear hi)) | ((with_reducible refine gate_dst (N := 27) rfl ?_); refine Kd.R_lit k29 _ 29 ?hg (N := 27) ?hd (xs := ([(⟨t129, wrap64 (1 + t127), t125⟩ : S29), (⟨t131, wrap64 (1 + t127), wrap64 (-t125)⟩ : S29)] : List (S29))) (inner := [.string t129, .int .i64 (wrap64 (1 + t127)), .int .i64 t125, .string t131, .int .i64 (wrap64 (1 + t127)), .int .i64 (wrap64 (-t125))]) (ok := fun _ => True) (okp := fun _ => True) ?hr ?hp (fun _ hk => hk) trivial (Below.refl _ _) (Nat.le_refl _) (by simp) ?_; (case hd => rfl); (case hg => rfl); (case hr => first | (go_simp; done) | (go_simp; rfl)); (case hp => exact (Reps.c3 (show Kd.M k29 _ _ _ (⟨t129, wrap64 (1 + t127), t125⟩ : S29) [.string t129, .int .i64 (wrap64 (1 + t127)), .int .i64 t125] from (k29_mkM _ _ _ (⟨t129, wrap64 (1 + t127), t125⟩ : S29) )) (Reps.c3 (show Kd.M k29 _ _ _ (⟨t131, wrap64 (1 + t127), wrap64 (-t125)⟩ : S29) [.string t131, .int .i64 (wrap64 (1 + t127)), .int .i64 (wrap64 (-t125))] from (k29_mkM _ _ _ (⟨t131, wrap64 (1 + t127), wrap64 (-t125)⟩ : S29) )) (Reps.none _ _)))); intro v134 w26 ho27 hb hg_ hnew_; clear hg_ hnew_; (first | rw [← Ny133.out] at ho27 | (simp only [Int.reduceToNat] at ho27; rw [← Ny133.out] at ho27)); have n0_ := Aside0.mk (Kd.R_below (by (with_reducible repeat (first | apply Kd.R_alloc | apply Kd.R_drewN | apply Kd.R_drew)); exact HO124.out) hb); have n1_ := Aside0.mk (Kd.R_lower ho27 (keep_size (w := w) (g := g) (row := none) (spec_l1Post_auHK))); have n2_ := Aside0.mk (IsS58.below (spec_l1Post_auHI0) hb); have n3_ := Aside0.mk (blk_below (g := gb118) (o := .cells #[.int .i64 0, .slice none 0 0] 25 (0, 0)) (spec_l1Post_vb BK118) hb); have n4_ := Aside0.mk (blk_below (g := gb121) (o := .cells #[.int .i64 t119, .slice none 0 0] 25 (0, 0)) (spec_l1Post_vb BK121) hb); have n5_ := Aside0.mk (KeepBut.trans (spec_l1Post_auHK) (KeepBut.of_below hb g none) (.inl rfl)); have n6_ := Aside0.mk (below_step (spec_l1Post_auHB) hb); clear HO124; clear HI0; clear BK118; clear BK121; clear HK; clear HB; have HO124 := n0_; have HO135 := n1_; have HI0 := n2_; have BK118 := n3_; have BK121 := n4_; have HK := n5_; have HB := n6_; clear n0_ n1_ n2_ n3_ n4_ n5_ n6_; clear hb ho27; obtain ⟨Ao28, co28, eo28⟩ := Kd.R_slice HO135.out; subst eo28; have hcz29_0 : w26.cell? ⟨gb121, 0, none⟩ = some (.int .i64 t119) := (blk_cell BK121.out 0).trans rfl; have hcz29_1 : w26.cell? ⟨gb121, 1, none⟩ = some (.slice none 0 0) := (blk_cell BK121.out 1).trans rfl; have hfz29_0 := blk_frozen BK121.out 0; have hfz29_1 := blk_frozen BK121.out 1) | ((with_reducible refine gate_callee (f := 24) rfl ?_); refine goesL_ (some 30) rfl rfl Try.func24 (by kernel_rfl) rfl #[.pointer (some ⟨g, 0, none⟩), .int .i64 5] rfl (by (try simp only [List.map_toArray, List.map_cons, List.map_nil]); first | done | rfl | (simp only [List.length_drop, List.length_take]; rfl)) ?_; (with_reducible refine (spec_l9Rd_pick.calls k g s0_0 t132 5 t136 t137 w0 _ ?side1 ?side2 A7.out).mono ?_); (case side1 => exact spec_l1Post_auHI0); (case side2 => exact spec_l1Post_auHB); rintro e w30 ⟨rfl, hi, hb, hk⟩; refine ⟨_, rfl, ?_⟩; have n0_ := Aside0.mk (KeepBut.blk hk (g' := gb118) (o := .cells #[.int .i64 0, .slice none 0 0] 25 (0, 0)) (by (with_reducible repeat (first | refine blk_drewN ?_ _ | refine blk_drew ?_ | refine blk_alloc ?_ _)); refine blk_far ?_ NB118_121.out _; (with_reducible repeat (first | refine blk_drewN ?_ _ | refine blk_drew ?_ | refine blk_alloc ?_ _)); exact BK118.out) NB118_0.out (by simp)); have n1_ := Aside0.mk (KeepBut.blk hk (g' := gb121) (o := .cells #[.int .i64 t119, .slice Ao28 y133.length co28] 25 (0, 0)) (by (with_reducible repeat (first | refine blk_drewN ?_ _ | refine blk_drew ?_ | refine blk_alloc ?_ _)); refine blk_put (cs := #[.int .i64 t119, .slice none 0 0]) ?_ 1 _ rfl; (with_reducible repeat (first | refine blk_drewN ?_ _ | refine blk_drew ?_ | refine blk_alloc ?_ _)); exact BK121.out) NB121_0.out (by simp)); have n2_ := Aside0.mk (Kd.R_mono (Kd.R_keep (IsS58.apart (show IsS58 w0 _ g s0_0 t132 from spec_l1Post_auHI0) (by (with_reducible repeat (first | apply Kd.R_alloc | apply Kd.R_drewN | apply Kd.R_drew)); exact (Kd.R_mono (Kd.R_far (p := ⟨gb121, 1, none⟩) (Kd.R_types HO124.out BK121.out (by decide)) (fun _ hk => hk.2) (.slice Ao28 y133.length co28)) (fun _ h_ => h_.1))) (by decide)) hk (fun _ h => h.2)) (fun _ h => h.1)); have n3_ := Aside0.mk (Kd.R_mono (Kd.R_keep (IsS58.apart (show IsS58 w0 _ g s0_0 t132 from spec_l1Post_auHI0) (by (with_reducible repeat (first | apply Kd.R_alloc | apply Kd.R_drewN | apply Kd.R_drew)); exact (Kd.R_mono (Kd.R_far (p := ⟨gb121, 1, none⟩) (Kd.R_types HO135.out BK121.out (by decide)) (fun _ hk => hk.2) (.slice Ao28 y133.length co28)) (fun _ h_ => h_.1))) (by decide)) hk (fun _ h => h.2)) (fun _ h => h.1)); have n4_ := Aside0.mk (KeepBut.trans (spec_l1Post_auHK) hk (.inl rfl)); have n5_ := Aside0.mk (hb); have n6_ := Aside0.mk (hi); clear BK118; clear BK121; clear HO124; clear HO135; clear HK; clear HB; clear HI0; have BK118 := n0_; have BK121 := n1_; have HO124 := n2_; have HO135 := n3_; have HK := n4_; have HB := n5_; have HI0 := n6_; clear n0_ n1_ n2_ n3_ n4_ n5_ n6_; (try clear hb); (try clear hb2); (try clear hk); (try clear hi)) | ((with_reducible refine gate_callee (f := 24) rfl ?_); refine goesL_ (some 34) rfl rfl Try.func24 (by kernel_rfl) rfl #[.pointer (some ⟨g, 0, none⟩), .int .i64 3] rfl (by (try simp only [List.map_toArray, List.map_cons, List.map_nil]); first | done | rfl | (simp only [List.length_drop, List.length_take]; rfl)) ?_; (with_reducible refine (spec_l9Rd_pick.calls k g s0_0 t137 3 t138 t139 w0 _ ?side1 ?side2 A9.out).mono ?_); (case side1 => exact spec_l1Post_auHI0); (case side2 => exact spec_l1Post_auHB); rintro e w31 ⟨rfl, hi, hb, hk⟩; refine ⟨_, rfl, ?_⟩; have n0_ := Aside0.mk (KeepBut.blk hk (g' := gb118) (o := .cells #[.int .i64 0, .slice none 0 0] 25 (0, 0)) (spec_l1Post_vb BK118) NB118_0.out (by simp)); have n1_ := Aside0.mk (KeepBut.blk hk (g' := gb121) (o := .cells #[.int .i64 t119, .slice Ao28 y133.length co28] 25 (0, 0)) (spec_l1Post_vb BK121) NB121_0.out (by simp)); have n2_ := Aside0.mk (Kd.R_mono (Kd.R_keep (IsS58.apart (show IsS58 w0 _ g s0_0 t137 from spec_l1Post_auHI0) (by (with_reducible repeat (first | apply Kd.R_alloc | apply Kd.R_drewN | apply Kd.R_drew)); exact HO124.out) (by decide)) hk (fun _ h => h.2)) (fun _ h => h.1)); have n3_ := Aside0.mk (Kd.R_mono (Kd.R_keep (IsS58.apart (show IsS58 w0 _ g s0_0 t137 from spec_l1Post_auHI0) (by (with_reducible repeat (first | apply Kd.R_alloc | apply Kd.R_drewN | apply Kd.R_drew)); exact HO135.out) (by decide)) hk (fun _ h => h.2)) (fun _ h => h.1)); have n4_ := Aside0.mk (KeepBut.trans (spec_l1Post_auHK) hk (.inl rfl)); have n5_ := Aside0.mk (hb); have n6_ := Aside0.mk (hi); clear BK118; clear BK121; clear HO124; clear HO135; clear HK; clear HB; clear HI0; have BK118 := n0_; have BK121 := n1_; have HO124 := n2_; have HO135 := n3_; have HK := n4_; have HB := n5_; have HI0 := n6_; clear n0_ n1_ n2_ n3_ n4_ n5_ n6_; (try clear hb); (try clear hb2); (try clear hk); (try clear hi)))
   have n0_ := Aside0.mk (Kd.R_drew HO124.out)
   have n1_ := Aside0.mk (Kd.R_drew HO135.out)
   have n2_ := Aside0.mk (blk_drew BK118.out)
   have n3_ := Aside0.mk (blk_drew BK121.out)
   have n4_ := Aside0.mk (IsS58.drew HI0.out)
   have n5_ := Aside0.mk (keep_drew HK.out)
   have n6_ := Aside0.mk (below_drew1 HB.out)
   clear HO124
   clear HO135
   clear BK118
   clear BK121
   clear HI0
   clear HK
   clear HB
   have HO124 := n0_
   have HO135 := n1_
   have BK118 := n2_
   have BK121 := n3_
   have HI0 := n4_
   have HK := n5_
   have HB := n6_
   clear n0_ n1_ n2_ n3_ n4_ n5_ n6_
   refine start_ (n := 14) (S := fun w' => w'.cell? ⟨gb121, 0, none⟩ = some (.int .i64 t119) ∧ w'.cell? ⟨gb121, 1, none⟩ = some (.slice Ao28 y133.length co28)) (ds := [13]) #[false, false, false, false, false, false, false, false, false, false, false, false, false, false] (by kernel_rfl) rfl rfl ⟨(blk_cell BK121.out 0).trans rfl, (blk_cell BK121.out 1).trans rfl⟩ (fun hHeld => ?_); refine with_tabW spec_l1Post.tab8 spec_l1Post.bits8 (fun HT_ HW_ => ?_)
   generalize w31.drew = w32 at HO124 HO135 BK118 BK121 HI0 HK HB hHeld ⊢
   refine pure_ (i := 0) (N := some 36) (v := ?_) (a' := ?_) #[true, false, false, false, false, false, false, false, false, false, false, false, false, false] rfl rfl (any_of HT_.out (by kernel_rfl)) (fun _ _ _ h => h) (Or.inl ⟨by rfl, ?_⟩) ?_ ?_
   rotate_left
   ·
    intro w'
    go_simp
    with_reducible rfl
   rotate_left
   ·
    simp only [Act.put, List.setIfInBounds_toArray, List.set_cons_zero, List.set_cons_succ, i64_w, i32_w]
    rfl
   refine pure_ (i := 2) (N := some 38) (v := ?_) (a' := ?_) #[true, false, true, false, false, false, false, false, false, false, false, false, false, false] rfl rfl (any_of HT_.out (by kernel_rfl)) (fun _ _ _ h => h) (Or.inl ⟨by rfl, ?_⟩) ?_ ?_
   rotate_left
   ·
    intro w'
    go_simp
    with_reducible rfl
   rotate_left
   ·
    simp only [Act.put, List.setIfInBounds_toArray, List.set_cons_zero, List.set_cons_succ, i64_w, i32_w]
    rfl
   refine pure_ (i := 4) (N := some 40) (v := ?_) (a' := ?_) #[true, false, true, false, true, false, false, false, false, false, false, false, false, false] rfl rfl (any_of HT_.out (by kernel_rfl)) (fun _ _ _ h => h) (Or.inl ⟨by rfl, ?_⟩) ?_ ?_
   rotate_left
   ·
    intro w'
    go_simp
    with_reducible rfl
   rotate_left
   ·
    simp only [Act.put, List.setIfInBounds_toArray, List.set_cons_zero, List.set_cons_succ, i64_w, i32_w]
    rfl
   refine pure_ (i := 6) (N := some 42) (v := ?_) (a' := ?_) #[true, false, true, false, true, false, true, false, false, false, false, false, false, false] rfl rfl (any_of HT_.out (by kernel_rfl)) (fun _ _ _ h => h) (Or.inl ⟨by rfl, ?_⟩) ?_ ?_
   rotate_left
   ·
    intro w'
    go_simp
    with_reducible rfl
   rotate_left
   ·
    simp only [Act.put, List.setIfInBounds_toArray, List.set_cons_zero, List.set_cons_succ, i64_w, i32_w]
    rfl
   refine pure_ (i := 8) (N := some 44) (v := ?_) (a' := ?_) #[true, false, true, false, true, false, true, false, true, false, false, false, false, false] rfl rfl (any_of HT_.out (by kernel_rfl)) (fun _ _ _ h => h) (Or.inl ⟨by rfl, ?_⟩) ?_ ?_
   rotate_left
   ·
    intro w'
    go_simp
    with_reducible rfl
   rotate_left
   ·
    simp only [Act.put, List.setIfInBounds_toArray, List.set_cons_zero, List.set_cons_succ, i64_w, i32_w]
    rfl
   refine take_ (i := 1) (N := some 37) (v := ?_) (a' := ?_) #[true, true, true, false, true, false, true, false, true, false, false, false, false, false] rfl rfl (take_ofW HT_.out HW_.out (by kernel_rfl)) (fun _ _ _ h => h) (Or.inl ⟨by rfl, ?_⟩) hHeld ?_ ?_
   rotate_left
   ·
    rintro w' ⟨s0, s1⟩
    go_simp
    with_reducible rfl
   rotate_left
   ·
    simp only [Act.put, List.setIfInBounds_toArray, List.set_cons_zero, List.set_cons_succ, i64_w, i32_w]
    rfl
   refine one_ (i := 3) (N := some 39) #[true, true, true, true, true, false, true, false, true, false, false, false, false, false] rfl rfl (one_of HT_.out (by kernel_rfl)) (by decide) (fun K hK => ?_)
   refine goes_ Try.func26 (by kernel_rfl) rfl #[.pointer (some ⟨g, 0, none⟩)] (by rfl) rfl rfl (by (try simp only [List.map_toArray, List.map_cons, List.map_nil]); first | done | rfl | (simp only [List.length_drop, List.length_take]; rfl)) ?_
   with_reducible refine (spec_l1Acct.calls k g s0_0 t139 t140 t141 w0 _ ?side1 ?side2 A10.out).mono ?_
   (case side1 => exact spec_l1Post_auHI0)
   (case side2 => exact spec_l1Post_auHB)
   rintro e w33 ⟨rfl, hi, hb, hk⟩
   refine ⟨_, rfl, ?_⟩
   have n0_ := Aside0.mk (KeepBut.blk hk (g' := gb118) (o := .cells #[.int .i64 0, .slice none 0 0] 25 (0, 0)) (spec_l1Post_vb BK118) NB118_0.out (by simp))
   have n1_ := Aside0.mk (KeepBut.blk hk (g' := gb121) (o := .cells #[.int .i64 t119, .slice Ao28 y133.length co28] 25 (0, 0)) (spec_l1Post_vb BK121) NB121_0.out (by simp))
   have n2_ := Aside0.mk (Kd.R_mono (Kd.R_keep (IsS58.apart (show IsS58 w0 _ g s0_0 t139 from spec_l1Post_auHI0) (by (with_reducible repeat (first | apply Kd.R_alloc | apply Kd.R_drewN | apply Kd.R_drew)); exact HO124.out) (by decide)) hk (fun _ h => h.2)) (fun _ h => h.1))
   have n3_ := Aside0.mk (Kd.R_mono (Kd.R_keep (IsS58.apart (show IsS58 w0 _ g s0_0 t139 from spec_l1Post_auHI0) (by (with_reducible repeat (first | apply Kd.R_alloc | apply Kd.R_drewN | apply Kd.R_drew)); exact HO135.out) (by decide)) hk (fun _ h => h.2)) (fun _ h => h.1))
   have n4_ := Aside0.mk (KeepBut.trans (spec_l1Post_auHK) hk (.inl rfl))
   have n5_ := Aside0.mk (hb)
   have n6_ := Aside0.mk (hi)
   clear BK118
   clear BK121
   clear HO124
   clear HO135
   clear HK
   clear HB
   clear HI0
   have BK118 := n0_
   have BK121 := n1_
   have HO124 := n2_
   have HO135 := n3_
   have HK := n4_
   have HB := n5_
   have HI0 := n6_
   clear n0_ n1_ n2_ n3_ n4_ n5_ n6_
   (try clear hb)
   (try clear hb2)
   (try clear hk)
   (try clear hi)
   refine hK.out _ _ ⟨(blk_cell BK121.out 0).trans rfl, (blk_cell BK121.out 1).trans rfl⟩ (fun hHeld => ?_)
   clear hK K
   refine norm_ (a' := ?_) ?_ ?_
   rotate_left
   ·
    show Act.put _ (some 39) _ = _
    simp only [Act.put, List.setIfInBounds_toArray, List.set_cons_zero, List.set_cons_succ, i64_w, i32_w]
    rfl
   refine pure_ (i := 5) (N := some 41) (v := ?_) (a' := ?_) #[true, true, true, true, true, true, true, false, true, false, false, false, false, false] rfl rfl (any_of HT_.out (by kernel_rfl)) (fun _ _ _ h => h) (Or.inl ⟨by rfl, ?_⟩) ?_ ?_
   rotate_left
   ·
    intro w'
    go_simp
    with_reducible rfl
   rotate_left
   ·
    simp only [Act.put, List.setIfInBounds_toArray, List.set_cons_zero, List.set_cons_succ, i64_w, i32_w]
    rfl
   refine one_ (i := 7) (N := some 43) #[true, true, true, true, true, true, true, true, true, false, false, false, false, false] rfl rfl (one_of HT_.out (by kernel_rfl)) (by decide) (fun K hK => ?_)
   refine goes_ Try.func26 (by kernel_rfl) rfl #[.pointer (some ⟨g, 0, none⟩)] (by rfl) rfl rfl (by (try simp only [List.map_toArray, List.map_cons, List.map_nil]); first | done | rfl | (simp only [List.length_drop, List.length_take]; rfl)) ?_
   with_reducible refine (spec_l1Acct.calls k g s0_0 t141 t142 t143 w0 _ ?side1 ?side2 A11.out).mono ?_
   (case side1 => exact spec_l1Post_auHI0)
   (case side2 => exact spec_l1Post_auHB)
   rintro e w34 ⟨rfl, hi, hb, hk⟩
   refine ⟨_, rfl, ?_⟩
   have n0_ := Aside0.mk (KeepBut.blk hk (g' := gb118) (o := .cells #[.int .i64 0, .slice none 0 0] 25 (0, 0)) (spec_l1Post_vb BK118) NB118_0.out (by simp))
   have n1_ := Aside0.mk (KeepBut.blk hk (g' := gb121) (o := .cells #[.int .i64 t119, .slice Ao28 y133.length co28] 25 (0, 0)) (spec_l1Post_vb BK121) NB121_0.out (by simp))
   have n2_ := Aside0.mk (Kd.R_mono (Kd.R_keep (IsS58.apart (show IsS58 w0 _ g s0_0 t141 from spec_l1Post_auHI0) (by (with_reducible repeat (first | apply Kd.R_alloc | apply Kd.R_drewN | apply Kd.R_drew)); exact HO124.out) (by decide)) hk (fun _ h => h.2)) (fun _ h => h.1))
   have n3_ := Aside0.mk (Kd.R_mono (Kd.R_keep (IsS58.apart (show IsS58 w0 _ g s0_0 t141 from spec_l1Post_auHI0) (by (with_reducible repeat (first | apply Kd.R_alloc | apply Kd.R_drewN | apply Kd.R_drew)); exact HO135.out) (by decide)) hk (fun _ h => h.2)) (fun _ h => h.1))
   have n4_ := Aside0.mk (KeepBut.trans (spec_l1Post_auHK) hk (.inl rfl))
   have n5_ := Aside0.mk (hb)
   have n6_ := Aside0.mk (hi)
   clear BK118
   clear BK121
   clear HO124
   clear HO135
   clear HK
   clear HB
   clear HI0
   have BK118 := n0_
   have BK121 := n1_
   have HO124 := n2_
   have HO135 := n3_
   have HK := n4_
   have HB := n5_
   have HI0 := n6_
   clear n0_ n1_ n2_ n3_ n4_ n5_ n6_
   (try clear hb)
   (try clear hb2)
   (try clear hk)
   (try clear hi)
   refine hK.out _ _ ⟨(blk_cell BK121.out 0).trans rfl, (blk_cell BK121.out 1).trans rfl⟩ (fun hHeld => ?_)
   clear hK K
   refine norm_ (a' := ?_) ?_ ?_
   rotate_left
   ·
    show Act.put _ (some 43) _ = _
    simp only [Act.put, List.setIfInBounds_toArray, List.set_cons_zero, List.set_cons_succ, i64_w, i32_w]
    rfl
   refine pure_ (i := 9) (N := some 45) (v := ?_) (a' := ?_) #[true, true, true, true, true, true, true, true, true, true, false, false, false, false] rfl rfl (any_of HT_.out (by kernel_rfl)) (fun _ _ _ h => h) (Or.inl ⟨by rfl, ?_⟩) ?_ ?_
   rotate_left
   ·
    intro w'
    go_simp
    with_reducible rfl
   rotate_left
   ·
    simp only [Act.put, List.setIfInBounds_toArray, List.set_cons_zero, List.set_cons_succ, i64_w, i32_w]
    rfl
   refine one_ (i := 10) (N := some 46) #[true, true, true, true, true, true, true, true, true, true, true, false, false, false] rfl rfl (one_of HT_.out (by kernel_rfl)) (by decide) (fun K hK => ?_)
   refine Kd.R_lit_step k29 _ 29 ?hg (N := 46) ?hd (xs := ([(⟨t140, wrap64 (1 + t138), 7⟩ : S29), (⟨t142, wrap64 (1 + t138), (-7)⟩ : S29)] : List (S29))) (inner := [.string t140, .int .i64 (wrap64 (1 + t138)), .int .i64 7, .string t142, .int .i64 (wrap64 (1 + t138)), .int .i64 (-7)]) (ok := fun _ => True) (okp := fun _ => True) ?hr ?hp (fun _ hk => hk) trivial (Below.refl _ _) (Nat.le_refl _) (by simp) ?_; (case hd => rfl); (case hg => rfl); (case hr => first | (go_simp; done) | (go_simp; rfl)); (case hp => exact (Reps.c3 (show Kd.M k29 _ _ _ (⟨t140, wrap64 (1 + t138), 7⟩ : S29) [.string t140, .int .i64 (wrap64 (1 + t138)), .int .i64 7] from (k29_mkM _ _ _ (⟨t140, wrap64 (1 + t138), 7⟩ : S29) )) (Reps.c3 (show Kd.M k29 _ _ _ (⟨t142, wrap64 (1 + t138), (-7)⟩ : S29) [.string t142, .int .i64 (wrap64 (1 + t138)), .int .i64 (-7)] from (k29_mkM _ _ _ (⟨t142, wrap64 (1 + t138), (-7)⟩ : S29) )) (Reps.none _ _))))
   intro v145 w35 ho36 hb hg_ hnew_
   clear hg_ hnew_
   (first | rw [← Ny144.out] at ho36 | (simp only [Int.reduceToNat] at ho36; rw [← Ny144.out] at ho36))
   have n0_ := Aside0.mk (Kd.R_below (by (with_reducible repeat (first | apply Kd.R_alloc | apply Kd.R_drewN | apply Kd.R_drew)); exact HO124.out) hb)
   have n1_ := Aside0.mk (Kd.R_elder' (by (with_reducible repeat (first | apply Kd.R_alloc | apply Kd.R_drewN | apply Kd.R_drew)); exact HO135.out) (Kd.R_base ho36) hb)
   have n2_ := Aside0.mk (Kd.R_lower (Kd.R_new' ho36 (Kd.R_lt (by (with_reducible repeat (first | apply Kd.R_alloc | apply Kd.R_drewN | apply Kd.R_drew)); exact HO135.out))) (keep_size (w := w) (g := g) (row := none) (spec_l1Post_auHK)))
   have n3_ := Aside0.mk (IsS58.below (spec_l1Post_auHI0) hb)
   have n4_ := Aside0.mk (blk_below (g := gb118) (o := .cells #[.int .i64 0, .slice none 0 0] 25 (0, 0)) (spec_l1Post_vb BK118) hb)
   have n5_ := Aside0.mk (blk_below (g := gb121) (o := .cells #[.int .i64 t119, .slice Ao28 y133.length co28] 25 (0, 0)) (spec_l1Post_vb BK121) hb)
   have n6_ := Aside0.mk (KeepBut.trans (spec_l1Post_auHK) (KeepBut.of_below hb g none) (.inl rfl))
   have n7_ := Aside0.mk (below_step (spec_l1Post_auHB) hb)
   clear HO124
   clear HO135
   clear HI0
   clear BK118
   clear BK121
   clear HK
   clear HB
   have HO124 := n0_
   have HO135 := n1_
   have HO146 := n2_
   have HI0 := n3_
   have BK118 := n4_
   have BK121 := n5_
   have HK := n6_
   have HB := n7_
   clear n0_ n1_ n2_ n3_ n4_ n5_ n6_ n7_
   clear hb ho36
   obtain ⟨Ao38, co38, eo38⟩ := Kd.R_slice HO146.out
   (first | subst eo38 | (injection eo38 with f1_ f2_ f3_; have f4_ := f1_.symm; have f5_ := f3_.symm; clear f1_ f2_ f3_; subst f4_; subst f5_))
   refine hK.out _ _ ⟨(blk_cell BK121.out 0).trans rfl, (blk_cell BK121.out 1).trans rfl⟩ (fun hHeld => ?_)
   clear hK K
   refine norm_ (a' := ?_) ?_ ?_
   rotate_left
   ·
    show Act.put _ (some 46) _ = _
    simp only [Act.put, List.setIfInBounds_toArray, List.set_cons_zero, List.set_cons_succ, i64_w, i32_w]
    rfl
   refine one_ (i := 11) (N := some 47) #[true, true, true, true, true, true, true, true, true, true, true, true, false, false] rfl rfl (one_of HT_.out (by kernel_rfl)) (by decide) (fun K hK => ?_)
   refine Kd.R_append_rows_step k29 w.heap.size (by rfl) (.tmp 37) (.tmp 46) 23 29 (.agg #[(.string ⟨#[]⟩), (.int .i64 0), (.int .i64 0)]) 32 rfl Try.underlying23 info29 rfl (by decide) (by omega) (.slice Ao28 y133.length co28) y133 y144 _ _ _ (fun k_ => some k_ ≠ (.slice Ao38 y144.length co38 : Value).ownBlock) (fun _ => False) rfl rfl ?aO ?aR (fun _ _ h => h) (fun _ h => h.elim) ?aF (Below.refl _ _) ?aS ?aL ?_
   (case aR => repeat (first | exact (Kd.R_reads' HO146.out).2.2 | (with_reducible refine Kd.C_alloc ?_ _) | (with_reducible refine Kd.C_drewN ?_ _) | (with_reducible refine Kd.C_drew ?_)))
   (case aF => exact (fun k_ hk => Kd.fresh' (Kd.R_lt (by (with_reducible repeat (first | apply Kd.R_alloc | apply Kd.R_drewN | apply Kd.R_drew)); exact HO146.out)) k_ hk))
   (case aO => exact (by (with_reducible repeat (first | apply Kd.R_alloc | apply Kd.R_drewN | apply Kd.R_drew)); exact Kd.R_mono HO135.out (fun _ hk => hk.2)))
   (case aS => exact (keep_size (w := w) (g := g) (row := none) (spec_l1Post_auHK)))
   (case aL => have := LMc12.out; omega)
   intro v148 w37 ho hb hg hat
   rw [← Ny147.out] at ho
   have n0_ := Aside0.mk (IsS58.grown (spec_l1Post_auHI0) hg (IsS58.own_ne HI0.out HO135.out (by decide)))
   have n1_ := Aside0.mk (blk_grown (g := gb118) (o := .cells #[.int .i64 0, .slice none 0 0] 25 (0, 0)) (spec_l1Post_vb BK118) hg (Kd.R_ne HO135.out BK118.out (by decide)))
   have n2_ := Aside0.mk (blk_grown (g := gb121) (o := .cells #[.int .i64 t119, .slice Ao28 y133.length co28] 25 (0, 0)) (spec_l1Post_vb BK121) hg (Kd.R_ne HO135.out BK121.out (by decide)))
   have n3_ := Aside0.mk (Kd.R_over' (by (with_reducible repeat (first | apply Kd.R_alloc | apply Kd.R_drewN | apply Kd.R_drew)); exact HO124.out) (Kd.R_typed (by (with_reducible repeat (first | apply Kd.R_alloc | apply Kd.R_drewN | apply Kd.R_drew)); exact HO135.out)) (by decide) hg)
   have n4_ := Aside0.mk (Kd.R_after (ok := (fun _ => True)) (by (with_reducible repeat (first | apply Kd.R_alloc | apply Kd.R_drewN | apply Kd.R_drew)); exact HO146.out) hg hat)
   have n5_ := Aside0.mk (below_weaken (spec_l1Post_auHB) HL.out hb)
   have n6_ := Aside0.mk (KeepBut.trans (spec_l1Post_auHK) (KeepBut.of_grown hg g) (Kd.R_base2 HO135.out))
   have n7_ := Aside0.mk (ho)
   clear HI0
   clear BK118
   clear BK121
   clear HO124
   clear HO146
   clear HB
   clear HK
   clear HO135
   have HI0 := n0_
   have BK118 := n1_
   have BK121 := n2_
   have HO124 := n3_
   have HO146 := n4_
   have HB := n5_
   have HK := n6_
   have HO149 := n7_
   clear n0_ n1_ n2_ n3_ n4_ n5_ n6_ n7_
   clear ho hb hg hat
   obtain ⟨Ao39, co39, eo39⟩ := Kd.R_slice HO149.out
   (first | subst eo39 | (injection eo39 with f1_ f2_ f3_; have f4_ := f1_.symm; have f5_ := f3_.symm; clear f1_ f2_ f3_; subst f4_; subst f5_))
   refine hK.out _ _ ⟨(blk_cell BK121.out 0).trans rfl, (blk_cell BK121.out 1).trans rfl⟩ (fun hHeld => ?_)
   clear hK K
   refine norm_ (a' := ?_) ?_ ?_
   rotate_left
   ·
    show Act.put _ (some 47) _ = _
    simp only [Act.put, List.setIfInBounds_toArray, List.set_cons_zero, List.set_cons_succ, i64_w, i32_w]
    rfl
   refine pure_ (i := 12) (N := some 48) (v := ?_) (a' := ?_) #[true, true, true, true, true, true, true, true, true, true, true, true, true, false] rfl rfl (any_of HT_.out (by kernel_rfl)) (fun _ _ _ h => h) (Or.inl ⟨by rfl, ?_⟩) ?_ ?_
   rotate_left
   ·
    intro w'
    go_simp
    with_reducible rfl
   rotate_left
   ·
    simp only [Act.put, List.setIfInBounds_toArray, List.set_cons_zero, List.set_cons_succ, i64_w, i32_w]
    rfl
   refine last_ (i := 13) (N := none) #[true, true, true, true, true, true, true, true, true, true, true, true, true, true] rfl rfl (one_of HT_.out (by kernel_rfl)) (by decide) (fun K hK => ?_)
   have hs40 : w37.cell? ⟨gb121, 1, none⟩ = some (.slice Ao28 y133.length co28) := (blk_cell BK121.out 1).trans rfl
   have hfs40 := blk_frozen BK121.out 1
   have hns40_0 := NB118_121.out
   have hms40_0 := NB121_118.out
   refine skip_ (w1 := ?_) (by rfl) rfl ?_ ?_
   rotate_left
   ·
    go_simp
    rfl
   refine hK.out _ _ ?_
   clear hK K
   refine done_ (done_of HT_.out (by kernel_rfl)) ?_
   have hcz41_0 : w37.cell? ⟨gb121, 0, none⟩ = some (.int .i64 t119) := (blk_cell BK121.out 0).trans rfl
   have hcz41_1 : w37.cell? ⟨gb121, 1, none⟩ = some (.slice Ao28 y133.length co28) := (blk_cell BK121.out 1).trans rfl
   have hfz41_0 := blk_frozen BK121.out 0
   have hfz41_1 := blk_frozen BK121.out 1
   have hnb42 := NB118_0.out
   have hnc42 := NB0_118.out
   have hcz43_0 : w37.cell? ⟨gb118, 0, none⟩ = some (.int .i64 0) := (blk_cell BK118.out 0).trans rfl
   have hcz43_1 : w37.cell? ⟨gb118, 1, none⟩ = some (.slice none 0 0) := (blk_cell BK118.out 1).trans rfl
   have hfz43_0 := blk_frozen BK118.out 0
   have hfz43_1 := blk_frozen BK118.out 1
   try go_wp2
   refine bodyPost_ret (results_cell_row rfl _ _ gb118 25 #[.int .i64 t119, .slice Ao39 y147.length co39] (0, 0) _ rfl (by (with_reducible repeat (first | refine blk_drewN ?_ _ | refine blk_drew ?_ | refine blk_alloc ?_ _)); refine blk_put (cs := #[.int .i64 t119, .slice none 0 0]) ?_ 1 _ rfl; (with_reducible repeat (first | refine blk_drewN ?_ _ | refine blk_drew ?_ | refine blk_alloc ?_ _)); refine blk_put (cs := #[.int .i64 0, .slice none 0 0]) ?_ 0 _ rfl; (with_reducible repeat (first | refine blk_drewN ?_ _ | refine blk_drew ?_ | refine blk_alloc ?_ _)); refine blk_far ?_ NB118_121.out _; (with_reducible repeat (first | refine blk_drewN ?_ _ | refine blk_drew ?_ | refine blk_alloc ?_ _)); exact BK118.out) Try.underlying25 rfl (by kernel_rfl)) rfl ?_
   exact ⟨_, by first | rfl | (simp [errW_none, errW_some] <;> rfl) | (simp [*, errW_none, errW_some] <;> rfl), by (with_reducible repeat (first | apply Kd.R_alloc | apply Kd.R_drewN | apply Kd.R_drew)); exact Kd.R_mono (Kd.R_far (p := ⟨gb118, 1, none⟩) (Kd.R_far (p := ⟨gb118, 0, none⟩) (Kd.R_far (p := ⟨gb121, 1, none⟩) (Kd.R_types (Kd.R_types HO149.out BK121.out (by decide)) BK118.out (by decide)) (fun _ hk => hk.1.2) (.slice Ao39 y147.length co39)) (fun _ hk => hk.2) (.int .i64 t119)) (fun _ hk => hk.2) (.slice Ao39 y147.length co39)) (fun _ hk => trivial), spec_l1Post_auHI0, spec_l1Post_auHB, spec_l1Post_auHK⟩
  ·
   rw [if_neg c12] at H
   exact absurd H (by simp)
 ·
  rw [if_neg c8] at H
  have c8b0 : (t136 == 0) = false := beq_eq_false_iff_ne.mpr c8
  have c8b1 : (t136 != 0) = true := bne_iff_ne.mpr c8
  by_cases c44 : t136 = 1
  ·
   rw [if_pos c44] at H
   have c44b0 : (t136 == 1) = true := beq_iff_eq.mpr c44
   have c44b1 : (t136 != 1) = false := bne_eq_false_iff_eq.mpr c44
   clear c44
   by_cases c45 : t125 > 1
   ·
    rw [if_pos c45] at H
    have c45b0 : decide (1 < t125) = true := decide_eq_true c45
    clear c45
    by_cases c46 : 1 < (y133.length : Int)
    ·
     rw [if_pos c46] at H
     have c46b0 : decide (1 < (y133.length : Int)) = true := decide_eq_true c46
     have c46b1 : decide (1 < y133.length) = true := decide_eq_true (by omega)
     clear c46
     obtain ⟨y150, hy150⟩ : ∃ y_ : List (S29), y_ = (y133.set (1 : Int).toNat (⟨(rd_T29 y133 1).f0, (rd_T29 y133 1).f1, wrap64 (1 - t125)⟩ : S29)) := ⟨_, rfl⟩
     replace H : ((spec_l1Acct.f k s0_0 t137).bind fun bt151 => (if y150.length < 4398046511104 then (some (t119, (y150 ++ [(⟨bt151.1, wrap64 (1 + t127), (-1)⟩ : S29)]), bt151.2)) else (none))) = some (r1, r2, r3) := by first | (rw [hy150]; with_reducible exact H) | (have H2_ := (Option.bind_some _ _).symm.trans H; rw [hy150]; with_reducible exact H2_) | (have H2_ := (Option.bind_some _ _).symm.trans H; with_reducible exact H2_) | with_reducible exact H | (rw [hy150]; exact H) | exact H
     have Ny150 := Aside0.mk hy150
     clear hy150
     replace H := Option.bind_eq_some_iff.mp H
     obtain ⟨⟨t151, t152⟩, A480, H⟩ := H
     replace H : (if y150.length < 4398046511104 then (some (t119, (y150 ++ [(⟨t151, wrap64 (1 + t127), (-1)⟩ : S29)]), t152)) else (none)) = some (r1, r2, r3) := H
     have A48 := Aside0.mk A480
     clear A480
     by_cases c49 : y150.length < 4398046511104
     ·
      rw [if_pos c49] at H
      have LMc49 := Aside0.mk c49
      clear c49
      obtain ⟨y153, hy153⟩ : ∃ y_ : List (S29), y_ = (y150 ++ [(⟨t151, wrap64 (1 + t127), (-1)⟩ : S29)]) := ⟨_, rfl⟩
      replace H : (some (t119, y153, t152)) = some (r1, r2, r3) := by first | (rw [hy153]; with_reducible exact H) | (have H2_ := (Option.bind_some _ _).symm.trans H; rw [hy153]; with_reducible exact H2_) | (have H2_ := (Option.bind_some _ _).symm.trans H; with_reducible exact H2_) | with_reducible exact H | (rw [hy153]; exact H) | exact H
      have Ny153 := Aside0.mk hy153
      clear hy153
      simp only [Option.some.injEq, Prod.mk.injEq] at H
      obtain ⟨rfl, rfl, rfl⟩ := H
      go_enter Try.func22, Try.ntmps22
      try go_wp2_with (first | ((with_reducible refine gate_dst (N := 2) rfl ?_); refine box_event ?hg (N := 2) ?hd (cs := #[.int .i64 0, .slice none 0 0]) (t := 25) ?hr ?_; (case hd => rfl); (case hg => rfl); (case hr => first | (go_simp; done) | (go_simp; rfl)); intro gb118 hg w50 hbox hb; have n0_ := Aside0.mk (IsS58.below (spec_l1Post_auHI0) hb); have n1_ := Aside0.mk (KeepBut.trans (spec_l1Post_auHK) (KeepBut.of_below hb g none) (.inl rfl)); have n2_ := Aside0.mk (below_step (spec_l1Post_auHB) hb); have n3_ := Aside0.mk (hbox); have n4_ := Aside0.mk ((by rw [hg]; exact (keep_size (w := w) (g := g) (row := none) (spec_l1Post_auHK)) : w.heap.size ≤ gb118)); have n5_ := Aside0.mk ((Nat.le_trans HW0.out (by rw [hg]; exact (keep_size (w := w) (g := g) (row := none) (spec_l1Post_auHK)) : w.heap.size ≤ gb118) : w0.heap.size ≤ gb118)); have n6_ := Aside0.mk ((by rw [hg]; exact Nat.ne_of_lt (IsS58.lt (show IsS58 w0 _ g s0_0 s0_1 from spec_l1Post_auHI0)) : g ≠ gb118)); have n7_ := Aside0.mk ((by rw [hg]; exact Nat.ne_of_gt (IsS58.lt (show IsS58 w0 _ g s0_0 s0_1 from spec_l1Post_auHI0)) : gb118 ≠ g)); clear HI0; clear HK; clear HB; have HI0 := n0_; have HK := n1_; have HB := n2_; have BK118 := n3_; have GW118 := n4_; have GE118 := n5_; have NB0_118 := n6_; have NB118_0 := n7_; clear n0_ n1_ n2_ n3_ n4_ n5_ n6_ n7_; clear hb hbox hg) | ((with_reducible refine gate_callee (f := 24) rfl ?_); refine goesL_ (some 8) rfl rfl Try.func24 (by kernel_rfl) rfl #[.pointer (some ⟨g, 0, none⟩), .int .i64 14] rfl (by (try simp only [List.map_toArray, List.map_cons, List.map_nil]); first | done | rfl | (simp only [List.length_drop, List.length_take]; rfl)) ?_; (with_reducible refine (spec_l9Rd_pick.calls k g s0_0 s0_1 14 t119 t120 w0 _ ?side1 ?side2 A2.out).mono ?_); (case side1 => exact spec_l1Post_auHI0); (case side2 => exact spec_l1Post_auHB); rintro e w51 ⟨rfl, hi, hb, hk⟩; refine ⟨_, rfl, ?_⟩; have n0_ := Aside0.mk (KeepBut.blk hk (g' := gb118) (o := .cells #[.int .i64 0, .slice none 0 0] 25 (0, 0)) (spec_l1Post_vb BK118) NB118_0.out (by simp)); have n1_ := Aside0.mk (KeepBut.trans (spec_l1Post_auHK) hk (.inl rfl)); have n2_ := Aside0.mk (hb); have n3_ := Aside0.mk (hi); clear BK118; clear HK; clear HB; clear HI0; have BK118 := n0_; have HK := n1_; have HB := n2_; have HI0 := n3_; clear n0_ n1_ n2_ n3_; (try clear hb); (try clear hb2); (try clear hk); (try clear hi)) | ((with_reducible refine gate_dst (N := 3) rfl ?_); refine box_event ?hg (N := 3) ?hd (cs := #[.int .i64 0, .slice none 0 0]) (t := 25) ?hr ?_; (case hd => rfl); (case hg => rfl); (case hr => first | (go_simp; done) | (go_simp; rfl)); intro gb121 hg w52 hbox hb; have n0_ := Aside0.mk (IsS58.below (spec_l1Post_auHI0) hb); have n1_ := Aside0.mk (blk_below (g := gb118) (o := .cells #[.int .i64 0, .slice none 0 0] 25 (0, 0)) (spec_l1Post_vb BK118) hb); have n2_ := Aside0.mk (KeepBut.trans (spec_l1Post_auHK) (KeepBut.of_below hb g none) (.inl rfl)); have n3_ := Aside0.mk (below_step (spec_l1Post_auHB) hb); have n4_ := Aside0.mk (hbox); have n5_ := Aside0.mk ((by rw [hg]; exact (keep_size (w := w) (g := g) (row := none) (spec_l1Post_auHK)) : w.heap.size ≤ gb121)); have n6_ := Aside0.mk ((Nat.le_trans HW0.out (by rw [hg]; exact (keep_size (w := w) (g := g) (row := none) (spec_l1Post_auHK)) : w.heap.size ≤ gb121) : w0.heap.size ≤ gb121)); have n7_ := Aside0.mk ((by rw [hg]; exact Nat.ne_of_lt (blk_lt (g := gb118) (o := .cells #[.int .i64 0, .slice none 0 0] 25 (0, 0)) (spec_l1Post_vb BK118)) : gb118 ≠ gb121)); have n8_ := Aside0.mk ((by rw [hg]; exact Nat.ne_of_gt (blk_lt (g := gb118) (o := .cells #[.int .i64 0, .slice none 0 0] 25 (0, 0)) (spec_l1Post_vb BK118)) : gb121 ≠ gb118)); have n9_ := Aside0.mk ((by rw [hg]; exact Nat.ne_of_lt (IsS58.lt (show IsS58 w0 _ g s0_0 t120 from spec_l1Post_auHI0)) : g ≠ gb121)); have n10_ := Aside0.mk ((by rw [hg]; exact Nat.ne_of_gt (IsS58.lt (show IsS58 w0 _ g s0_0 t120 from spec_l1Post_auHI0)) : gb121 ≠ g)); clear HI0; clear BK118; clear HK; clear HB; have HI0 := n0_; have BK118 := n1_; have HK := n2_; have HB := n3_; have BK121 := n4_; have GW121 := n5_; have GE121 := n6_; have NB118_121 := n7_; have NB121_118 := n8_; have NB0_121 := n9_; have NB121_0 := n10_; clear n0_ n1_ n2_ n3_ n4_ n5_ n6_ n7_ n8_ n9_ n10_; clear hb hbox hg; have hnb53 := NB121_118.out; have hnc53 := NB118_121.out; have hnb54 := NB121_0.out; have hnc54 := NB0_121.out; have hcz55_0 : w52.cell? ⟨gb121, 0, none⟩ = some (.int .i64 0) := (blk_cell BK121.out 0).trans rfl; have hcz55_1 : w52.cell? ⟨gb121, 1, none⟩ = some (.slice none 0 0) := (blk_cell BK121.out 1).trans rfl; have hfz55_0 := blk_frozen BK121.out 0; have hfz55_1 := blk_frozen BK121.out 1) | ((with_reducible refine gate_dst (N := 11) rfl ?_); refine Kd.R_lit (Kd.int .i64) _ 3 ?hg (N := 11) ?hd (xs := ([5, 20, 100, 700, 1, 300, 1000] : List Int)) (inner := [.int .i64 5, .int .i64 20, .int .i64 100, .int .i64 700, .int .i64 1, .int .i64 300, .int .i64 1000]) (ok := fun _ => True) (okp := fun _ => True) ?hr ?hp (fun _ hk => hk) trivial (Below.refl _ _) (Nat.le_refl _) (by simp) ?_; (case hd => rfl); (case hg => rfl); (case hr => first | (go_simp; done) | (go_simp; rfl)); (case hp => exact (Reps.one (show Kd.M (Kd.int .i64) _ _ _ 5 [.int .i64 5] from rfl) (Reps.one (show Kd.M (Kd.int .i64) _ _ _ 20 [.int .i64 20] from rfl) (Reps.one (show Kd.M (Kd.int .i64) _ _ _ 100 [.int .i64 100] from rfl) (Reps.one (show Kd.M (Kd.int .i64) _ _ _ 700 [.int .i64 700] from rfl) (Reps.one (show Kd.M (Kd.int .i64) _ _ _ 1 [.int .i64 1] from rfl) (Reps.one (show Kd.M (Kd.int .i64) _ _ _ 300 [.int .i64 300] from rfl) (Reps.one (show Kd.M (Kd.int .i64) _ _ _ 1000 [.int .i64 1000] from rfl) (Reps.none _ _))))))))); intro v123 w56 ho57 hb hg_ hnew_; clear hg_ hnew_; (first | rw [← Ny122.out] at ho57 | (simp only [Int.reduceToNat] at ho57; rw [← Ny122.out] at ho57)); have n0_ := Aside0.mk (Kd.R_lower ho57 (keep_size (w := w) (g := g) (row := none) (spec_l1Post_auHK))); have n1_ := Aside0.mk (IsS58.below (show IsS58 w0 ((w52.setCell ⟨gb121, 0, none⟩ (.int .i64 t119)).setCell ⟨gb121, 1, none⟩ (.slice none 0 0)) g s0_0 t120 from spec_l1Post_auHI0) hb); have n2_ := Aside0.mk (blk_below (g := gb118) (o := .cells #[.int .i64 0, .slice none 0 0] 25 (0, 0)) (by (with_reducible repeat (first | refine blk_drewN ?_ _ | refine blk_drew ?_ | refine blk_alloc ?_ _)); refine blk_far ?_ NB118_121.out _; (with_reducible repeat (first | refine blk_drewN ?_ _ | refine blk_drew ?_ | refine blk_alloc ?_ _)); refine blk_far ?_ NB118_121.out _; (with_reducible repeat (first | refine blk_drewN ?_ _ | refine blk_drew ?_ | refine blk_alloc ?_ _)); exact BK118.out) hb); have n3_ := Aside0.mk (blk_below (g := gb121) (o := .cells #[.int .i64 t119, .slice none 0 0] 25 (0, 0)) (by (with_reducible repeat (first | refine blk_drewN ?_ _ | refine blk_drew ?_ | refine blk_alloc ?_ _)); refine blk_put (cs := #[.int .i64 t119, .slice none 0 0]) ?_ 1 _ rfl; (with_reducible repeat (first | refine blk_drewN ?_ _ | refine blk_drew ?_ | refine blk_alloc ?_ _)); refine blk_put (cs := #[.int .i64 0, .slice none 0 0]) ?_ 0 _ rfl; (with_reducible repeat (first | refine blk_drewN ?_ _ | refine blk_drew ?_ | refine blk_alloc ?_ _)); exact BK121.out) hb); have n4_ := Aside0.mk (KeepBut.trans (spec_l1Post_auHK) (KeepBut.of_below hb g none) (.inl rfl)); have n5_ := Aside0.mk (below_step (spec_l1Post_auHB) hb); clear HI0; clear BK118; clear BK121; clear HK; clear HB; have HO124 := n0_; have HI0 := n1_; have BK118 := n2_; have BK121 := n3_; have HK := n4_; have HB := n5_; clear n0_ n1_ n2_ n3_ n4_ n5_; clear hb ho57; obtain ⟨Ao58, co58, eo58⟩ := Kd.R_slice HO124.out; subst eo58) | ((with_reducible refine gate_callee (f := 27) rfl ?_); refine goesL_ (some 12) rfl rfl Try.func27 (by kernel_rfl) rfl #[.pointer (some ⟨g, 0, none⟩), .slice Ao58 y122.length co58] rfl (by (try simp only [List.map_toArray, List.map_cons, List.map_nil]); first | done | rfl | (simp only [List.length_drop, List.length_take]; rfl)) ?_; (with_reducible refine (spec_l9Rd_num.calls k g s0_0 t120 _ _ y122 t125 t126 w0 _ ?side1 ?side2 ?side3 ?side4 ?side5 A3.out).mono ?_); (case side1 => exact spec_l1Post_auHI0); (case side2 => exact spec_l1Post_auHB); (case side3 => repeat (first | exact (Kd.R_reads' HO124.out).2.2 | (with_reducible refine Kd.C_alloc ?_ _) | (with_reducible refine Kd.C_drewN ?_ _) | (with_reducible refine Kd.C_drew ?_))); (case side4 => exact (Kd.R_reads' HO124.out).2.1); (case side5 => exact far_slice (IsS58.own_ne HI0.out HO124.out (by decide))); rintro e w59 ⟨rfl, hi, hb, hk⟩; refine ⟨_, rfl, ?_⟩; have n0_ := Aside0.mk (KeepBut.blk hk (g' := gb118) (o := .cells #[.int .i64 0, .slice none 0 0] 25 (0, 0)) (spec_l1Post_vb BK118) NB118_0.out (by simp)); have n1_ := Aside0.mk (KeepBut.blk hk (g' := gb121) (o := .cells #[.int .i64 t119, .slice none 0 0] 25 (0, 0)) (spec_l1Post_vb BK121) NB121_0.out (by simp)); have n2_ := Aside0.mk (Kd.R_mono (Kd.R_keep (IsS58.apart (show IsS58 w0 _ g s0_0 t120 from spec_l1Post_auHI0) (by (with_reducible repeat (first | apply Kd.R_alloc | apply Kd.R_drewN | apply Kd.R_drew)); exact HO124.out) (by decide)) hk (fun _ h => h.2)) (fun _ h => h.1)); have n3_ := Aside0.mk (KeepBut.trans (spec_l1Post_auHK) hk (.inl rfl)); have n4_ := Aside0.mk (hb); have n5_ := Aside0.mk (hi); clear BK118; clear BK121; clear HO124; clear HK; clear HB; clear HI0; have BK118 := n0_; have BK121 := n1_; have HO124 := n2_; have HK := n3_; have HB := n4_; have HI0 := n5_; clear n0_ n1_ n2_ n3_ n4_ n5_; (try clear hb); (try clear hb2); (try clear hk); (try clear hi)) | ((with_reducible refine gate_callee (f := 24) rfl ?_); refine goesL_ (some 14) rfl rfl Try.func24 (by kernel_rfl) rfl #[.pointer (some ⟨g, 0, none⟩), .int .i64 3] rfl (by (try simp only [List.map_toArray, List.map_cons, List.map_nil]); first | done | rfl | (simp only [List.length_drop, List.length_take]; rfl)) ?_; (with_reducible refine (spec_l9Rd_pick.calls k g s0_0 t126 3 t127 t128 w0 _ ?side1 ?side2 A4.out).mono ?_); (case side1 => exact spec_l1Post_auHI0); (case side2 => exact spec_l1Post_auHB); rintro e w60 ⟨rfl, hi, hb, hk⟩; refine ⟨_, rfl, ?_⟩; have n0_ := Aside0.mk (KeepBut.blk hk (g' := gb118) (o := .cells #[.int .i64 0, .slice none 0 0] 25 (0, 0)) (spec_l1Post_vb BK118) NB118_0.out (by simp)); have n1_ := Aside0.mk (KeepBut.blk hk (g' := gb121) (o := .cells #[.int .i64 t119, .slice none 0 0] 25 (0, 0)) (spec_l1Post_vb BK121) NB121_0.out (by simp)); have n2_ := Aside0.mk (Kd.R_mono (Kd.R_keep (IsS58.apart (show IsS58 w0 _ g s0_0 t126 from spec_l1Post_auHI0) (by (with_reducible repeat (first | apply Kd.R_alloc | apply Kd.R_drewN | apply Kd.R_drew)); exact HO124.out) (by decide)) hk (fun _ h => h.2)) (fun _ h => h.1)); have n3_ := Aside0.mk (KeepBut.trans (spec_l1Post_auHK) hk (.inl rfl)); have n4_ := Aside0.mk (hb); have n5_ := Aside0.mk (hi); clear BK118; clear BK121; clear HO124; clear HK; clear HB; clear HI0; have BK118 := n0_; have BK121 := n1_; have HO124 := n2_; have HK := n3_; have HB := n4_; have HI0 := n5_; clear n0_ n1_ n2_ n3_ n4_ n5_; (try clear hb); (try clear hb2); (try clear hk); (try clear hi)) | ((with_reducible refine gate_callee (f := 26) rfl ?_); refine goesL_ (some 17) rfl rfl Try.func26 (by kernel_rfl) rfl #[.pointer (some ⟨g, 0, none⟩)] rfl (by (try simp only [List.map_toArray, List.map_cons, List.map_nil]); first | done | rfl | (simp only [List.length_drop, List.length_take]; rfl)) ?_; (with_reducible refine (spec_l1Acct.calls k g s0_0 t128 t129 t130 w0 _ ?side1 ?side2 A5.out).mono ?_); (case side1 => exact spec_l1Post_auHI0); (case side2 => exact spec_l1Post_auHB); rintro e w61 ⟨rfl, hi, hb, hk⟩; refine ⟨_, rfl, ?_⟩; have n0_ := Aside0.mk (KeepBut.blk hk (g' := gb118) (o := .cells #[.int .i64 0, .slice none 0 0] 25 (0, 0)) (spec_l1Post_vb BK118) NB118_0.out (by simp)); have n1_ := Aside0.mk (KeepBut.blk hk (g' := gb121) (o := .cells #[.int .i64 t119, .slice none 0 0] 25 (0, 0)) (spec_l1Post_vb BK121) NB121_0.out (by simp)); have n2_ := Aside0.mk (Kd.R_mono (Kd.R_keep (IsS58.apart (show IsS58 w0 _ g s0_0 t128 from spec_l1Post_auHI0) (by (with_reducible repeat (first | apply Kd.R_alloc | apply Kd.R_drewN | apply Kd.R_drew)); exact HO124.out) (by decide)) hk (fun _ h => h.2)) (fun _ h => h.1)); have n3_ := Aside0.mk (KeepBut.trans (spec_l1Post_auHK) hk (.inl rfl)); have n4_ := Aside0.mk (hb); have n5_ := Aside0.mk (hi); clear BK118; clear BK121; clear HO124; clear HK; clear HB; clear HI0; have BK118 := n0_; have BK121 := n1_; have HO124 := n2_; have HK := n3_; have HB := n4_; have HI0 := n5_; clear n0_ n1_ n2_ n3_ n4_ n5_; (try clear hb); (try clear hb2); (try clear hk); (try clear hi)) | ((with_reducible refine gate_callee (f := 26) rfl ?_); refine goesL_ (some 22) rfl rfl Try.func26 (by kernel_rfl) rfl #[.pointer (some ⟨g, 0, none⟩)] rfl (by (try simp only [List.map_toArray, List.map_cons, List.map_nil]); first | done | rfl | (simp only [List.length_drop, List.length_take]; rfl)) ?_; (with_reducible refine (spec_l1Acct.calls k g s0_0 t130 t131 t132 w0 _ ?side1 ?side2 A6.out).mono ?_); (case side1 => exact spec_l1Post_auHI0); (case side2 => exact spec_l1Post_auHB); rintro e w62 ⟨rfl, hi, hb, hk⟩; refine ⟨_, rfl, ?_⟩; have n0_ := Aside0.mk (KeepBut.blk hk (g' := gb118) (o := .cells #[.int .i64 0, .slice none 0 0] 25 (0, 0)) (spec_l1Post_vb BK118) NB118_0.out (by simp)); have n1_ := Aside0.mk (KeepBut.blk hk (g' := gb121) (o := .cells #[.int .i64 t119, .slice none 0 0] 25 (0, 0)) (spec_l1Post_vb BK121) NB121_0.out (by simp)); have n2_ := Aside0.mk (Kd.R_mono (Kd.R_keep (IsS58.apart (show IsS58 w0 _ g s0_0 t130 from spec_l1Post_auHI0) (by (with_reducible repeat (first | apply Kd.R_alloc | apply Kd.R_drewN | apply Kd.R_drew)); exact HO124.out) (by decide)) hk (fun _ h => h.2)) (fun _ h => h.1)); have n3_ := Aside0.mk (KeepBut.trans (spec_l1Post_auHK) hk (.inl rfl)); have n4_ := Aside0.mk (hb); have n5_ := Aside0.mk (hi); clear BK118; clear BK121; clear HO124; clear HK; clear HB; clear HI0; have BK118 := n0_; have BK121 := n1_; have HO124 := n2_; have HK := n3_; have HB := n4_; have HI0 := n5_; clear n0_ n1_ n2_ n3_ n4_ n5_; (try clear hb); (try clear hb2); (try clear hk); (try clear hi)) | ((with_reducible refine gate_dst (N := 27) rfl ?_); refine Kd.R_lit k29 _ 29 ?hg (N := 27) ?hd (xs := ([(⟨t129, wrap64 (1 + t127), t125⟩ : S29), (⟨t131, wrap64 (1 + t127), wrap64 (-t125)⟩ : S29)] : List (S29))) (inner := [.string t129, .int .i64 (wrap64 (1 + t127)), .int .i64 t125, .string t131, .int .i64 (wrap64 (1 + t127)), .int .i64 (wrap64 (-t125))]) (ok := fun _ => True) (okp := fun _ => True) ?hr ?hp (fun _ hk => hk) trivial (Below.refl _ _) (Nat.le_refl _) (by simp) ?_; (case hd => rfl); (case hg => rfl); (case hr => first | (go_simp; done) | (go_simp; rfl)); (case hp => exact (Reps.c3 (show Kd.M k29 _ _ _ (⟨t129, wrap64 (1 + t127), t125⟩ : S29) [.string t129, .int .i64 (wrap64 (1 + t127)), .int .i64 t125] from (k29_mkM _ _ _ (⟨t129, wrap64 (1 + t127), t125⟩ : S29) )) (Reps.c3 (show Kd.M k29 _ _ _ (⟨t131, wrap64 (1 + t127), wrap64 (-t125)⟩ : S29) [.string t131, .int .i64 (wrap64 (1 + t127)), .int .i64 (wrap64 (-t125))] from (k29_mkM _ _ _ (⟨t131, wrap64 (1 + t127), wrap64 (-t125)⟩ : S29) )) (Reps.none _ _)))); intro v134 w63 ho64 hb hg_ hnew_; clear hg_ hnew_; (first | rw [← Ny133.out] at ho64 | (simp only [Int.reduceToNat] at ho64; rw [← Ny133.out] at ho64)); have n0_ := Aside0.mk (Kd.R_below (by (with_reducible repeat (first | apply Kd.R_alloc | apply Kd.R_drewN | apply Kd.R_drew)); exact HO124.out) hb); have n1_ := Aside0.mk (Kd.R_lower ho64 (keep_size (w := w) (g := g) (row := none) (spec_l1Post_auHK))); have n2_ := Aside0.mk (IsS58.below (spec_l1Post_auHI0) hb); have n3_ := Aside0.mk (blk_below (g := gb118) (o := .cells #[.int .i64 0, .slice none 0 0] 25 (0, 0)) (spec_l1Post_vb BK118) hb); have n4_ := Aside0.mk (blk_below (g := gb121) (o := .cells #[.int .i64 t119, .slice none 0 0] 25 (0, 0)) (spec_l1Post_vb BK121) hb); have n5_ := Aside0.mk (KeepBut.trans (spec_l1Post_auHK) (KeepBut.of_below hb g none) (.inl rfl)); have n6_ := Aside0.mk (below_step (spec_l1Post_auHB) hb); clear HO124; clear HI0; clear BK118; clear BK121; clear HK; clear HB; have HO124 := n0_; have HO135 := n1_; have HI0 := n2_; have BK118 := n3_; have BK121 := n4_; have HK := n5_; have HB := n6_; clear n0_ n1_ n2_ n3_ n4_ n5_ n6_; clear hb ho64; obtain ⟨Ao65, co65, eo65⟩ := Kd.R_slice HO135.out; subst eo65; have hcz66_0 : w63.cell? ⟨gb121, 0, none⟩ = some (.int .i64 t119) := (blk_cell BK121.out 0).trans rfl; have hcz66_1 : w63.cell? ⟨gb121, 1, none⟩ = some (.slice none 0 0) := (blk_cell BK121.out 1).trans rfl; have hfz66_0 := blk_frozen BK121.out 0; have hfz66_1 := blk_frozen BK121.out 1) | ((with_reducible refine gate_callee (f := 24) rfl ?_); refine goesL_ (some 30) rfl rfl Try.func24 (by kernel_rfl) rfl #[.pointer (some ⟨g, 0, none⟩), .int .i64 5] rfl (by (try simp only [List.map_toArray, List.map_cons, List.map_nil]); first | done | rfl | (simp only [List.length_drop, List.length_take]; rfl)) ?_; (with_reducible refine (spec_l9Rd_pick.calls k g s0_0 t132 5 t136 t137 w0 _ ?side1 ?side2 A7.out).mono ?_); (case side1 => exact spec_l1Post_auHI0); (case side2 => exact spec_l1Post_auHB); rintro e w67 ⟨rfl, hi, hb, hk⟩; refine ⟨_, rfl, ?_⟩; have n0_ := Aside0.mk (KeepBut.blk hk (g' := gb118) (o := .cells #[.int .i64 0, .slice none 0 0] 25 (0, 0)) (by (with_reducible repeat (first | refine blk_drewN ?_ _ | refine blk_drew ?_ | refine blk_alloc ?_ _)); refine blk_far ?_ NB118_121.out _; (with_reducible repeat (first | refine blk_drewN ?_ _ | refine blk_drew ?_ | refine blk_alloc ?_ _)); exact BK118.out) NB118_0.out (by simp)); have n1_ := Aside0.mk (KeepBut.blk hk (g' := gb121) (o := .cells #[.int .i64 t119, .slice Ao65 y133.length co65] 25 (0, 0)) (by (with_reducible repeat (first | refine blk_drewN ?_ _ | refine blk_drew ?_ | refine blk_alloc ?_ _)); refine blk_put (cs := #[.int .i64 t119, .slice none 0 0]) ?_ 1 _ rfl; (with_reducible repeat (first | refine blk_drewN ?_ _ | refine blk_drew ?_ | refine blk_alloc ?_ _)); exact BK121.out) NB121_0.out (by simp)); have n2_ := Aside0.mk (Kd.R_mono (Kd.R_keep (IsS58.apart (show IsS58 w0 _ g s0_0 t132 from spec_l1Post_auHI0) (by (with_reducible repeat (first | apply Kd.R_alloc | apply Kd.R_drewN | apply Kd.R_drew)); exact (Kd.R_mono (Kd.R_far (p := ⟨gb121, 1, none⟩) (Kd.R_types HO124.out BK121.out (by decide)) (fun _ hk => hk.2) (.slice Ao65 y133.length co65)) (fun _ h_ => h_.1))) (by decide)) hk (fun _ h => h.2)) (fun _ h => h.1)); have n3_ := Aside0.mk (Kd.R_mono (Kd.R_keep (IsS58.apart (show IsS58 w0 _ g s0_0 t132 from spec_l1Post_auHI0) (by (with_reducible repeat (first | apply Kd.R_alloc | apply Kd.R_drewN | apply Kd.R_drew)); exact (Kd.R_mono (Kd.R_far (p := ⟨gb121, 1, none⟩) (Kd.R_types HO135.out BK121.out (by decide)) (fun _ hk => hk.2) (.slice Ao65 y133.length co65)) (fun _ h_ => h_.1))) (by decide)) hk (fun _ h => h.2)) (fun _ h => h.1)); have n4_ := Aside0.mk (KeepBut.trans (spec_l1Post_auHK) hk (.inl rfl)); have n5_ := Aside0.mk (hb); have n6_ := Aside0.mk (hi); clear BK118; clear BK121; clear HO124; clear HO135; clear HK; clear HB; clear HI0; have BK118 := n0_; have BK121 := n1_; have HO124 := n2_; have HO135 := n3_; have HK := n4_; have HB := n5_; have HI0 := n6_; clear n0_ n1_ n2_ n3_ n4_ n5_ n6_; (try clear hb); (try clear hb2); (try clear hk); (try clear hi); have hcz68_0 : w67.cell? ⟨gb121, 0, none⟩ = some (.int .i64 t119) := (blk_cell BK121.out 0).trans rfl; have hcz68_1 : w67.cell? ⟨gb121, 1, none⟩ = some (.slice Ao65 y133.length co65) := (blk_cell BK121.out 1).trans rfl; have hfz68_0 := blk_frozen BK121.out 0; have hfz68_1 := blk_frozen BK121.out 1; have p47 : 0 ≤ (1 : Int) := (by omega); have q47 : (1 : Int) < ((y133.length : Int) : Int) := of_decide_eq_true (by first | (with_reducible assumption) | assumption); have qi47 : (1 < y133.length) = True := eq_true (by omega); obtain ⟨go47, co47, eo47, gb47, gl47, cl47, HG47⟩ := Kd.R_form HO135.out (by omega); (first | cases eo47 | (injection eo47 with ea_ en_ ec_; (first | subst ea_ | (injection ea_ with ea_; subst ea_)); subst ec_; clear en_)); have GB47 := Aside0.mk gb47; have GG47 := Aside0.mk HG47; clear gb47 gl47 HG47; obtain ⟨ce47, hcl47, hM47, hcc47, hfr47⟩ := Kd.R_elem HO135.out z29 (1 : Int) p47 q47; obtain rfl := k29_openM hM47; have hx47_0 : w67.cell? ⟨go47, (1 : Int).toNat * 3, none⟩ = some (.string ((rd_T29 y133 1).f0)) := hcc47 0 _ rfl; have hx47_1 : w67.cell? ⟨go47, (1 : Int).toNat * 3 + 1, none⟩ = some (.int .i64 ((rd_T29 y133 1).f1)) := hcc47 1 _ rfl; have hx47_2 : w67.cell? ⟨go47, (1 : Int).toNat * 3 + 2, none⟩ = some (.int .i64 ((rd_T29 y133 1).f2)) := hcc47 2 _ rfl; have hf47_0 : w67.frozen? ⟨go47, (1 : Int).toNat * 3, none⟩ = false := hfr47 0; have hf47_1 : w67.frozen? ⟨go47, (1 : Int).toNat * 3 + 1, none⟩ = false := hfr47 1; have hf47_2 : w67.frozen? ⟨go47, (1 : Int).toNat * 3 + 2, none⟩ = false := hfr47 2; clear hcl47 hcc47 hfr47 hM47; (try rw [show ((1 : Int)).toNat = 1 from rfl] at hx47_0); (try simp only [Nat.reduceMul, Nat.zero_mul, Nat.zero_add, Nat.reduceAdd] at hx47_0); (try rw [show ((1 : Int)).toNat = 1 from rfl] at hf47_0); (try simp only [Nat.reduceMul, Nat.zero_mul, Nat.zero_add, Nat.reduceAdd] at hf47_0); (try rw [show ((1 : Int)).toNat = 1 from rfl] at hx47_1); (try simp only [Nat.reduceMul, Nat.zero_mul, Nat.zero_add, Nat.reduceAdd] at hx47_1); (try rw [show ((1 : Int)).toNat = 1 from rfl] at hf47_1); (try simp only [Nat.reduceMul, Nat.zero_mul, Nat.zero_add, Nat.reduceAdd] at hf47_1); (try rw [show ((1 : Int)).toNat = 1 from rfl] at hx47_2); (try simp only [Nat.reduceMul, Nat.zero_mul, Nat.zero_add, Nat.reduceAdd] at hx47_2); (try rw [show ((1 : Int)).toNat = 1 from rfl] at hf47_2); (try simp only [Nat.reduceMul, Nat.zero_mul, Nat.zero_add, Nat.reduceAdd] at hf47_2); replace p47 := eq_true p47; replace q47 := eq_true q47; have HX69 := Aside0.mk (show Kd.R k29 29 w67 w.heap.size (fun _ => True) (.slice (some ⟨go47, 0, none⟩) y133.length co65) y133 from (by (with_reducible repeat (first | apply Kd.R_alloc | apply Kd.R_drewN | apply Kd.R_drew)); exact HO135.out)); obtain ⟨ce69, hcl69, hM69, hcc69, hfr69⟩ := Kd.R_elem HX69.out z29 (1 : Int) (by omega) (by have h_ : (1 : Int) < ((y133.length : Int) : Int) := of_decide_eq_true (by first | (with_reducible assumption) | assumption); first | exact h_ | (have e_ := (Kd.R_reads' HO135.out).1; omega) | simpa using h_); obtain rfl := k29_openM hM69; have HP69 := Kd.R_seg HX69.out (1 : Int) (by omega) (by have h_ : (1 : Int) < ((y133.length : Int) : Int) := of_decide_eq_true (by first | (with_reducible assumption) | assumption); first | exact h_ | (have e_ := (Kd.R_reads' HO135.out).1; omega) | simpa using h_) (seg := [.int .i64 (wrap64 (1 - t125))]) (j := 2) hcl69 hcc69 (show 3 ≤ 3 from by decide) (x' := (⟨(rd_T29 y133 1).f0, (rd_T29 y133 1).f1, wrap64 (1 - t125)⟩ : S29)) (k29_mkM _ _ _ (⟨(rd_T29 y133 1).f0, (rd_T29 y133 1).f1, wrap64 (1 - t125)⟩ : S29) ) (fun _ hk => hk); have hx69_2 := hcc69 2 _ rfl; (try simp only [show (k29).sz = 3 from rfl, Nat.mul_one, Nat.add_zero] at hx69_2); (try rw [show ((1 : Int)).toNat = 1 from rfl] at hx69_2); (try simp only [Nat.reduceMul, Nat.zero_mul, Nat.zero_add, Nat.reduceAdd] at hx69_2); have hf69_2 := hfr69 2; (try simp only [show (k29).sz = 3 from rfl, Nat.mul_one, Nat.add_zero] at hf69_2); (try rw [show ((1 : Int)).toNat = 1 from rfl] at hf69_2); (try simp only [Nat.reduceMul, Nat.zero_mul, Nat.zero_add, Nat.reduceAdd] at hf69_2); clear hcl69 hcc69 hfr69 hM69) | ((with_reducible refine gate_store (t := 3) (p := 58) rfl ?_); refine store_event (t := 3) (p := 58) (v := ?vo_w70) (w1 := (w67.setCell ⟨go47, 5, none⟩ (.int .i64 (wrap64 (1 - t125))))) ?hg ?ho ?hn ?hr ?_; (case ho => rfl); (case hg => rfl); (case hn => rfl); (case hr => first | (go_simp; done) | (go_simp; rfl)); intro w70 hw; have hg : w67.grownBy w70 (some go47) := (by rw [hw]; exact HP69.2); have hp_ : Kd.R k29 29 w70 w.heap.size (fun _ => True) (.slice (some ⟨go47, 0, none⟩) y133.length co65) y150 := (by rw [hw, Ny150.out]; exact HP69.1); clear HP69; have n0_ := Aside0.mk (IsS58.grown (spec_l1Post_auHI0) hg (IsS58.own_ne HI0.out HO135.out (by decide))); have n1_ := Aside0.mk (blk_grown (g := gb118) (o := .cells #[.int .i64 0, .slice none 0 0] 25 (0, 0)) (spec_l1Post_vb BK118) hg (Kd.R_ne HO135.out BK118.out (by decide))); have n2_ := Aside0.mk (blk_grown (g := gb121) (o := .cells #[.int .i64 t119, .slice (some ⟨go47, 0, none⟩) y133.length co65] 25 (0, 0)) (spec_l1Post_vb BK121) hg (Kd.R_ne HO135.out BK121.out (by decide))); have n3_ := Aside0.mk (Kd.R_over' (v := (.slice (some ⟨go47, 0, none⟩) y133.length co65)) (by (with_reducible repeat (first | apply Kd.R_alloc | apply Kd.R_drewN | apply Kd.R_drew)); exact HO124.out) (Kd.R_typed HO135.out) (by decide) hg); have n4_ := Aside0.mk (hp_); have n5_ := Aside0.mk ((by rw [hw]; exact below_set (HB.out) (Nat.le_trans HL.out GB47.out) : Below w0.heap.size w0 w70)); have n6_ := Aside0.mk (KeepBut.trans (spec_l1Post_auHK) (KeepBut.of_grown hg g) (Kd.R_base2 HO135.out)); clear HI0; clear BK118; clear BK121; clear HO124; clear HO135; clear HB; clear HK; have HI0 := n0_; have BK118 := n1_; have BK121 := n2_; have HO124 := n3_; have HO135 := n4_; have HB := n5_; have HK := n6_; clear n0_ n1_ n2_ n3_ n4_ n5_ n6_; clear hg hw hp_))
      have n0_ := Aside0.mk (Kd.R_drew HO124.out)
      have n1_ := Aside0.mk (Kd.R_drew HO135.out)
      have n2_ := Aside0.mk (blk_drew BK118.out)
      have n3_ := Aside0.mk (blk_drew BK121.out)
      have n4_ := Aside0.mk (IsS58.drew HI0.out)
      have n5_ := Aside0.mk (keep_drew HK.out)
      have n6_ := Aside0.mk (below_drew1 HB.out)
      clear HO124
      clear HO135
      clear BK118
      clear BK121
      clear HI0
      clear HK
      clear HB
      have HO124 := n0_
      have HO135 := n1_
      have BK118 := n2_
      have BK121 := n3_
      have HI0 := n4_
      have HK := n5_
      have HB := n6_
      clear n0_ n1_ n2_ n3_ n4_ n5_ n6_
      refine start_ (n := 10) (S := fun w' => w'.cell? ⟨gb121, 0, none⟩ = some (.int .i64 t119) ∧ w'.cell? ⟨gb121, 1, none⟩ = some (.slice (some ⟨go47, 0, none⟩) y133.length co65)) (ds := [9]) #[false, false, false, false, false, false, false, false, false, false] (by kernel_rfl) rfl rfl ⟨(blk_cell BK121.out 0).trans rfl, (blk_cell BK121.out 1).trans rfl⟩ (fun hHeld => ?_); refine with_tabW spec_l1Post.tab12 spec_l1Post.bits12 (fun HT_ HW_ => ?_)
      generalize w70.drew = w71 at HO124 HO135 BK118 BK121 HI0 HK HB hHeld ⊢
      refine pure_ (i := 0) (N := some 59) (v := ?_) (a' := ?_) #[true, false, false, false, false, false, false, false, false, false] rfl rfl (any_of HT_.out (by kernel_rfl)) (fun _ _ _ h => h) (Or.inl ⟨by rfl, ?_⟩) ?_ ?_
      rotate_left
      ·
       intro w'
       go_simp
       with_reducible rfl
      rotate_left
      ·
       simp only [Act.put, List.setIfInBounds_toArray, List.set_cons_zero, List.set_cons_succ, i64_w, i32_w]
       rfl
      refine pure_ (i := 2) (N := some 61) (v := ?_) (a' := ?_) #[true, false, true, false, false, false, false, false, false, false] rfl rfl (any_of HT_.out (by kernel_rfl)) (fun _ _ _ h => h) (Or.inl ⟨by rfl, ?_⟩) ?_ ?_
      rotate_left
      ·
       intro w'
       go_simp
       with_reducible rfl
      rotate_left
      ·
       simp only [Act.put, List.setIfInBounds_toArray, List.set_cons_zero, List.set_cons_succ, i64_w, i32_w]
       rfl
      refine pure_ (i := 4) (N := some 63) (v := ?_) (a' := ?_) #[true, false, true, false, true, false, false, false, false, false] rfl rfl (any_of HT_.out (by kernel_rfl)) (fun _ _ _ h => h) (Or.inl ⟨by rfl, ?_⟩) ?_ ?_
      rotate_left
      ·
       intro w'
       go_simp
       with_reducible rfl
      rotate_left
      ·
       simp only [Act.put, List.setIfInBounds_toArray, List.set_cons_zero, List.set_cons_succ, i64_w, i32_w]
       rfl
      refine take_ (i := 1) (N := some 60) (v := ?_) (a' := ?_) #[true, true, true, false, true, false, false, false, false, false] rfl rfl (take_ofW HT_.out HW_.out (by kernel_rfl)) (fun _ _ _ h => h) (Or.inl ⟨by rfl, ?_⟩) hHeld ?_ ?_
      rotate_left
      ·
       rintro w' ⟨s0, s1⟩
       go_simp
       with_reducible rfl
      rotate_left
      ·
       simp only [Act.put, List.setIfInBounds_toArray, List.set_cons_zero, List.set_cons_succ, i64_w, i32_w]
       rfl
      refine one_ (i := 3) (N := some 62) #[true, true, true, true, true, false, false, false, false, false] rfl rfl (one_of HT_.out (by kernel_rfl)) (by decide) (fun K hK => ?_)
      refine goes_ Try.func26 (by kernel_rfl) rfl #[.pointer (some ⟨g, 0, none⟩)] (by rfl) rfl rfl (by (try simp only [List.map_toArray, List.map_cons, List.map_nil]); first | done | rfl | (simp only [List.length_drop, List.length_take]; rfl)) ?_
      with_reducible refine (spec_l1Acct.calls k g s0_0 t137 t151 t152 w0 _ ?side1 ?side2 A48.out).mono ?_
      (case side1 => exact spec_l1Post_auHI0)
      (case side2 => exact spec_l1Post_auHB)
      rintro e w72 ⟨rfl, hi, hb, hk⟩
      refine ⟨_, rfl, ?_⟩
      have n0_ := Aside0.mk (KeepBut.blk hk (g' := gb118) (o := .cells #[.int .i64 0, .slice none 0 0] 25 (0, 0)) (spec_l1Post_vb BK118) NB118_0.out (by simp))
      have n1_ := Aside0.mk (KeepBut.blk hk (g' := gb121) (o := .cells #[.int .i64 t119, .slice (some ⟨go47, 0, none⟩) y133.length co65] 25 (0, 0)) (spec_l1Post_vb BK121) NB121_0.out (by simp))
      have n2_ := Aside0.mk (Kd.R_mono (Kd.R_keep (IsS58.apart (show IsS58 w0 _ g s0_0 t137 from spec_l1Post_auHI0) (by (with_reducible repeat (first | apply Kd.R_alloc | apply Kd.R_drewN | apply Kd.R_drew)); exact HO124.out) (by decide)) hk (fun _ h => h.2)) (fun _ h => h.1))
      have n3_ := Aside0.mk (Kd.R_mono (Kd.R_keep (IsS58.apart (show IsS58 w0 _ g s0_0 t137 from spec_l1Post_auHI0) (by (with_reducible repeat (first | apply Kd.R_alloc | apply Kd.R_drewN | apply Kd.R_drew)); exact HO135.out) (by decide)) hk (fun _ h => h.2)) (fun _ h => h.1))
      have n4_ := Aside0.mk (KeepBut.trans (spec_l1Post_auHK) hk (.inl rfl))
      have n5_ := Aside0.mk (hb)
      have n6_ := Aside0.mk (hi)
      clear BK118
      clear BK121
      clear HO124
      clear HO135
      clear HK
      clear HB
      clear HI0
      have BK118 := n0_
      have BK121 := n1_
      have HO124 := n2_
      have HO135 := n3_
      have HK := n4_
      have HB := n5_
      have HI0 := n6_
      clear n0_ n1_ n2_ n3_ n4_ n5_ n6_
      (try clear hb)
      (try clear hb2)
      (try clear hk)
      (try clear hi)
      refine hK.out _ _ ⟨(blk_cell BK121.out 0).trans rfl, (blk_cell BK121.out 1).trans rfl⟩ (fun hHeld => ?_)
      clear hK K
      refine norm_ (a' := ?_) ?_ ?_
      rotate_left
      ·
       show Act.put _ (some 62) _ = _
       simp only [Act.put, List.setIfInBounds_toArray, List.set_cons_zero, List.set_cons_succ, i64_w, i32_w]
       rfl
      refine pure_ (i := 5) (N := some 64) (v := ?_) (a' := ?_) #[true, true, true, true, true, true, false, false, false, false] rfl rfl (any_of HT_.out (by kernel_rfl)) (fun _ _ _ h => h) (Or.inl ⟨by rfl, ?_⟩) ?_ ?_
      rotate_left
      ·
       intro w'
       go_simp
       with_reducible rfl
      rotate_left
      ·
       simp only [Act.put, List.setIfInBounds_toArray, List.set_cons_zero, List.set_cons_succ, i64_w, i32_w]
       rfl
      refine one_ (i := 6) (N := some 65) #[true, true, true, true, true, true, true, false, false, false] rfl rfl (one_of HT_.out (by kernel_rfl)) (by decide) (fun K hK => ?_)
      refine value_ (w1 := ?_) (v := ?_) (by rfl) rfl ?_ ?_
      rotate_left 2
      ·
       go_simp
       constructor
       ·
        rfl
       ·
        rfl
      refine hK.out _ _ ⟨(blk_cell (blk_alloc BK121.out _) 0).trans rfl, (blk_cell (blk_alloc BK121.out _) 1).trans rfl⟩ (fun hHeld => ?_)
      clear hK K
      refine norm_ (a' := ?_) ?_ ?_
      rotate_left
      ·
       show Act.put _ (some 65) _ = _
       simp only [Act.put, List.setIfInBounds_toArray, List.set_cons_zero, List.set_cons_succ, i64_w, i32_w]
       rfl
      refine one_ (i := 7) (N := some 66) #[true, true, true, true, true, true, true, true, false, false] rfl rfl (one_of HT_.out (by kernel_rfl)) (by decide) (fun K hK => ?_)
      refine Kd.R_append_step k29 w.heap.size (by rfl) (.tmp 60) (.tmp 65) 23 29 (.agg #[(.string ⟨#[]⟩), (.int .i64 0), (.int .i64 0)]) 32 rfl Try.underlying23 info29 rfl (by decide) (by omega) (.slice (some ⟨go47, 0, none⟩) y133.length co65) y150 (⟨t151, wrap64 (1 + t127), (-1)⟩ : S29) [.string t151, .int .i64 (wrap64 (1 + t127)), .int .i64 (-1)] (fun _ => True) (fun _ => False) rfl rfl ?aP (fun _ hk => hk.elim) ?aF ?aO (Below.refl _ _) ?aS ?aL ?_
      (case aP => exact k29_mkM _ _ _ (⟨t151, wrap64 (1 + t127), (-1)⟩ : S29))
      (case aF => exact (fun _ _ => trivial))
      (case aO => exact (by (with_reducible repeat (first | apply Kd.R_alloc | apply Kd.R_drewN | apply Kd.R_drew)); exact HO135.out))
      (case aS => exact (keep_size (w := w) (g := g) (row := none) (spec_l1Post_auHK)))
      (case aL => have := LMc49.out; omega)
      intro v154 w73 ho hb hg hat
      rw [← Ny153.out] at ho
      have n0_ := Aside0.mk (IsS58.grown (spec_l1Post_auHI0) hg (IsS58.own_ne HI0.out HO135.out (by decide)))
      have n1_ := Aside0.mk (blk_grown (g := gb118) (o := .cells #[.int .i64 0, .slice none 0 0] 25 (0, 0)) (spec_l1Post_vb BK118) hg (Kd.R_ne HO135.out BK118.out (by decide)))
      have n2_ := Aside0.mk (blk_grown (g := gb121) (o := .cells #[.int .i64 t119, .slice (some ⟨go47, 0, none⟩) y133.length co65] 25 (0, 0)) (spec_l1Post_vb BK121) hg (Kd.R_ne HO135.out BK121.out (by decide)))
      have n3_ := Aside0.mk (Kd.R_over' (by (with_reducible repeat (first | apply Kd.R_alloc | apply Kd.R_drewN | apply Kd.R_drew)); exact HO124.out) (Kd.R_typed (by (with_reducible repeat (first | apply Kd.R_alloc | apply Kd.R_drewN | apply Kd.R_drew)); exact HO135.out)) (by decide) hg)
      have n4_ := Aside0.mk (below_weaken (spec_l1Post_auHB) HL.out hb)
      have n5_ := Aside0.mk (KeepBut.trans (spec_l1Post_auHK) (KeepBut.of_grown hg g) (Kd.R_base2 HO135.out))
      have n6_ := Aside0.mk (ho)
      clear HI0
      clear BK118
      clear BK121
      clear HO124
      clear HB
      clear HK
      clear HO135
      have HI0 := n0_
      have BK118 := n1_
      have BK121 := n2_
      have HO124 := n3_
      have HB := n4_
      have HK := n5_
      have HO155 := n6_
      clear n0_ n1_ n2_ n3_ n4_ n5_ n6_
      clear ho hb hg hat
      obtain ⟨Ao74, co74, eo74⟩ := Kd.R_slice HO155.out
      (first | subst eo74 | (injection eo74 with f1_ f2_ f3_; have f4_ := f1_.symm; have f5_ := f3_.symm; clear f1_ f2_ f3_; subst f4_; subst f5_))
      refine hK.out _ _ ⟨(blk_cell BK121.out 0).trans rfl, (blk_cell BK121.out 1).trans rfl⟩ (fun hHeld => ?_)
      clear hK K
      refine norm_ (a' := ?_) ?_ ?_
      rotate_left
      ·
       show Act.put _ (some 66) _ = _
       simp only [Act.put, List.setIfInBounds_toArray, List.set_cons_zero, List.set_cons_succ, i64_w, i32_w]
       rfl
      refine pure_ (i := 8) (N := some 67) (v := ?_) (a' := ?_) #[true, true, true, true, true, true, true, true, true, false] rfl rfl (any_of HT_.out (by kernel_rfl)) (fun _ _ _ h => h) (Or.inl ⟨by rfl, ?_⟩) ?_ ?_
      rotate_left
      ·
       intro w'
       go_simp
       with_reducible rfl
      rotate_left
      ·
       simp only [Act.put, List.setIfInBounds_toArray, List.set_cons_zero, List.set_cons_succ, i64_w, i32_w]
       rfl
      refine last_ (i := 9) (N := none) #[true, true, true, true, true, true, true, true, true, true] rfl rfl (one_of HT_.out (by kernel_rfl)) (by decide) (fun K hK => ?_)
      have hs75 : w73.cell? ⟨gb121, 1, none⟩ = some (.slice (some ⟨go47, 0, none⟩) y133.length co65) := (blk_cell BK121.out 1).trans rfl
      have hfs75 := blk_frozen BK121.out 1
      have hns75_0 := NB118_121.out
      have hms75_0 := NB121_118.out
      refine skip_ (w1 := ?_) (by rfl) rfl ?_ ?_
      rotate_left
      ·
       go_simp
       rfl
      refine hK.out _ _ ?_
      clear hK K
      refine done_ (done_of HT_.out (by kernel_rfl)) ?_
      have hcz76_0 : w73.cell? ⟨gb121, 0, none⟩ = some (.int .i64 t119) := (blk_cell BK121.out 0).trans rfl
      have hcz76_1 : w73.cell? ⟨gb121, 1, none⟩ = some (.slice (some ⟨go47, 0, none⟩) y133.length co65) := (blk_cell BK121.out 1).trans rfl
      have hfz76_0 := blk_frozen BK121.out 0
      have hfz76_1 := blk_frozen BK121.out 1
      have hnb77 := NB118_0.out
      have hnc77 := NB0_118.out
      have hcz78_0 : w73.cell? ⟨gb118, 0, none⟩ = some (.int .i64 0) := (blk_cell BK118.out 0).trans rfl
      have hcz78_1 : w73.cell? ⟨gb118, 1, none⟩ = some (.slice none 0 0) := (blk_cell BK118.out 1).trans rfl
      have hfz78_0 := blk_frozen BK118.out 0
      have hfz78_1 := blk_frozen BK118.out 1
      try go_wp2
      refine bodyPost_ret (results_cell_row rfl _ _ gb118 25 #[.int .i64 t119, .slice Ao74 y153.length co74] (0, 0) _ rfl (by (with_reducible repeat (first | refine blk_drewN ?_ _ | refine blk_drew ?_ | refine blk_alloc ?_ _)); refine blk_put (cs := #[.int .i64 t119, .slice none 0 0]) ?_ 1 _ rfl; (with_reducible repeat (first | refine blk_drewN ?_ _ | refine blk_drew ?_ | refine blk_alloc ?_ _)); refine blk_put (cs := #[.int .i64 0, .slice none 0 0]) ?_ 0 _ rfl; (with_reducible repeat (first | refine blk_drewN ?_ _ | refine blk_drew ?_ | refine blk_alloc ?_ _)); refine blk_far ?_ NB118_121.out _; (with_reducible repeat (first | refine blk_drewN ?_ _ | refine blk_drew ?_ | refine blk_alloc ?_ _)); exact BK118.out) Try.underlying25 rfl (by kernel_rfl)) rfl ?_
      exact ⟨_, by first | rfl | (simp [errW_none, errW_some] <;> rfl) | (simp [*, errW_none, errW_some] <;> rfl), by (with_reducible repeat (first | apply Kd.R_alloc | apply Kd.R_drewN | apply Kd.R_drew)); exact Kd.R_mono (Kd.R_far (p := ⟨gb118, 1, none⟩) (Kd.R_far (p := ⟨gb118, 0, none⟩) (Kd.R_far (p := ⟨gb121, 1, none⟩) (Kd.R_types (Kd.R_types HO155.out BK121.out (by decide)) BK118.out (by decide)) (fun _ hk => hk.1.2) (.slice Ao74 y153.length co74)) (fun _ hk => hk.2) (.int .i64 t119)) (fun _ hk => hk.2) (.slice Ao74 y153.length co74)) (fun _ hk => trivial), spec_l1Post_auHI0, spec_l1Post_auHB, spec_l1Post_auHK⟩
     ·
      rw [if_neg c49] at H
      exact absurd H (by simp)
    ·
     rw [if_neg c46] at H
     exact absurd H (by simp)
   ·
    rw [if_neg c45] at H
    have c45b0 : decide (1 < t125) = false := decide_eq_false c45
    clear c45
    simp only [Option.some.injEq, Prod.mk.injEq] at H
    obtain ⟨rfl, rfl, rfl⟩ := H
    go_enter Try.func22, Try.ntmps22
    go_wp2_with (first | ((with_reducible refine gate_dst (N := 2) rfl ?_); refine box_event ?hg (N := 2) ?hd (cs := #[.int .i64 0, .slice none 0 0]) (t := 25) ?hr ?_; (case hd => rfl); (case hg => rfl); (case hr => first | (go_simp; done) | (go_simp; rfl)); intro gb118 hg w79 hbox hb; have n0_ := Aside0.mk (IsS58.below (spec_l1Post_auHI0) hb); have n1_ := Aside0.mk (KeepBut.trans (spec_l1Post_auHK) (KeepBut.of_below hb g none) (.inl rfl)); have n2_ := Aside0.mk (below_step (spec_l1Post_auHB) hb); have n3_ := Aside0.mk (hbox); have n4_ := Aside0.mk ((by rw [hg]; exact (keep_size (w := w) (g := g) (row := none) (spec_l1Post_auHK)) : w.heap.size ≤ gb118)); have n5_ := Aside0.mk ((Nat.le_trans HW0.out (by rw [hg]; exact (keep_size (w := w) (g := g) (row := none) (spec_l1Post_auHK)) : w.heap.size ≤ gb118) : w0.heap.size ≤ gb118)); have n6_ := Aside0.mk ((by rw [hg]; exact Nat.ne_of_lt (IsS58.lt (show IsS58 w0 _ g s0_0 s0_1 from spec_l1Post_auHI0)) : g ≠ gb118)); have n7_ := Aside0.mk ((by rw [hg]; exact Nat.ne_of_gt (IsS58.lt (show IsS58 w0 _ g s0_0 s0_1 from spec_l1Post_auHI0)) : gb118 ≠ g)); clear HI0; clear HK; clear HB; have HI0 := n0_; have HK := n1_; have HB := n2_; have BK118 := n3_; have GW118 := n4_; have GE118 := n5_; have NB0_118 := n6_; have NB118_0 := n7_; clear n0_ n1_ n2_ n3_ n4_ n5_ n6_ n7_; clear hb hbox hg) | ((with_reducible refine gate_callee (f := 24) rfl ?_); refine goesL_ (some 8) rfl rfl Try.func24 (by kernel_rfl) rfl #[.pointer (some ⟨g, 0, none⟩), .int .i64 14] rfl (by (try simp only [List.map_toArray, List.map_cons, List.map_nil]); first | done | rfl | (simp only [List.length_drop, List.length_take]; rfl)) ?_; (with_reducible refine (spec_l9Rd_pick.calls k g s0_0 s0_1 14 t119 t120 w0 _ ?side1 ?side2 A2.out).mono ?_); (case side1 => exact spec_l1Post_auHI0); (case side2 => exact spec_l1Post_auHB); rintro e w80 ⟨rfl, hi, hb, hk⟩; refine ⟨_, rfl, ?_⟩; have n0_ := Aside0.mk (KeepBut.blk hk (g' := gb118) (o := .cells #[.int .i64 0, .slice none 0 0] 25 (0, 0)) (spec_l1Post_vb BK118) NB118_0.out (by simp)); have n1_ := Aside0.mk (KeepBut.trans (spec_l1Post_auHK) hk (.inl rfl)); have n2_ := Aside0.mk (hb); have n3_ := Aside0.mk (hi); clear BK118; clear HK; clear HB; clear HI0; have BK118 := n0_; have HK := n1_; have HB := n2_; have HI0 := n3_; clear n0_ n1_ n2_ n3_; (try clear hb); (try clear hb2); (try clear hk); (try clear hi)) | ((with_reducible refine gate_dst (N := 3) rfl ?_); refine box_event ?hg (N := 3) ?hd (cs := #[.int .i64 0, .slice none 0 0]) (t := 25) ?hr ?_; (case hd => rfl); (case hg => rfl); (case hr => first | (go_simp; done) | (go_simp; rfl)); intro gb121 hg w81 hbox hb; have n0_ := Aside0.mk (IsS58.below (spec_l1Post_auHI0) hb); have n1_ := Aside0.mk (blk_below (g := gb118) (o := .cells #[.int .i64 0, .slice none 0 0] 25 (0, 0)) (spec_l1Post_vb BK118) hb); have n2_ := Aside0.mk (KeepBut.trans (spec_l1Post_auHK) (KeepBut.of_below hb g none) (.inl rfl)); have n3_ := Aside0.mk (below_step (spec_l1Post_auHB) hb); have n4_ := Aside0.mk (hbox); have n5_ := Aside0.mk ((by rw [hg]; exact (keep_size (w := w) (g := g) (row := none) (spec_l1Post_auHK)) : w.heap.size ≤ gb121)); have n6_ := Aside0.mk ((Nat.le_trans HW0.out (by rw [hg]; exact (keep_size (w := w) (g := g) (row := none) (spec_l1Post_auHK)) : w.heap.size ≤ gb121) : w0.heap.size ≤ gb121)); have n7_ := Aside0.mk ((by rw [hg]; exact Nat.ne_of_lt (blk_lt (g := gb118) (o := .cells #[.int .i64 0, .slice none 0 0] 25 (0, 0)) (spec_l1Post_vb BK118)) : gb118 ≠ gb121)); have n8_ := Aside0.mk ((by rw [hg]; exact Nat.ne_of_gt (blk_lt (g := gb118) (o := .cells #[.int .i64 0, .slice none 0 0] 25 (0, 0)) (spec_l1Post_vb BK118)) : gb121 ≠ gb118)); have n9_ := Aside0.mk ((by rw [hg]; exact Nat.ne_of_lt (IsS58.lt (show IsS58 w0 _ g s0_0 t120 from spec_l1Post_auHI0)) : g ≠ gb121)); have n10_ := Aside0.mk ((by rw [hg]; exact Nat.ne_of_gt (IsS58.lt (show IsS58 w0 _ g s0_0 t120 from spec_l1Post_auHI0)) : gb121 ≠ g)); clear HI0; clear BK118; clear HK; clear HB; have HI0 := n0_; have BK118 := n1_; have HK := n2_; have HB := n3_; have BK121 := n4_; have GW121 := n5_; have GE121 := n6_; have NB118_121 := n7_; have NB121_118 := n8_; have NB0_121 := n9_; have NB121_0 := n10_; clear n0_ n1_ n2_ n3_ n4_ n5_ n6_ n7_ n8_ n9_ n10_; clear hb hbox hg; have hnb82 := NB121_118.out; have hnc82 := NB118_121.out; have hnb83 := NB121_0.out; have hnc83 := NB0_121.out; have hcz84_0 : w81.cell? ⟨gb121, 0, none⟩ = some (.int .i64 0) := (blk_cell BK121.out 0).trans rfl; have hcz84_1 : w81.cell? ⟨gb121, 1, none⟩ = some (.slice none 0 0) := (blk_cell BK121.out 1).trans rfl; have hfz84_0 := blk_frozen BK121.out 0; have hfz84_1 := blk_frozen BK121.out 1) | ((with_reducible refine gate_dst (N := 11) rfl ?_); refine Kd.R_lit (Kd.int .i64) _ 3 ?hg (N := 11) ?hd (xs := ([5, 20, 100, 700, 1, 300, 1000] : List Int)) (inner := [.int .i64 5, .int .i64 20, .int .i64 100, .int .i64 700, .int .i64 1, .int .i64 300, .int .i64 1000]) (ok := fun _ => True) (okp := fun _ => True) ?hr ?hp (fun _ hk => hk) trivial (Below.refl _ _) (Nat.le_refl _) (by simp) ?_; (case hd => rfl); (case hg => rfl); (case hr => first | (go_simp; done) | (go_simp; rfl)); (case hp => exact (Reps.one (show Kd.M (Kd.int .i64) _ _ _ 5 [.int .i64 5] from rfl) (Reps.one (show Kd.M (Kd.int .i64) _ _ _ 20 [.int .i64 20] from rfl) (Reps.one (show Kd.M (Kd.int .i64) _ _ _ 100 [.int .i64 100] from rfl) (Reps.one (show Kd.M (Kd.int .i64) _ _ _ 700 [.int .i64 700] from rfl) (Reps.one (show Kd.M (Kd.int .i64) _ _ _ 1 [.int .i64 1] from rfl) (Reps.one (show Kd.M (Kd.int .i64) _ _ _ 300 [.int .i64 300] from rfl) (Reps.one (show Kd.M (Kd.int .i64) _ _ _ 1000 [.int .i64 1000] from rfl) (Reps.none _ _))))))))); intro v123 w85 ho86 hb hg_ hnew_; clear hg_ hnew_; (first | rw [← Ny122.out] at ho86 | (simp only [Int.reduceToNat] at ho86; rw [← Ny122.out] at ho86)); have n0_ := Aside0.mk (Kd.R_lower ho86 (keep_size (w := w) (g := g) (row := none) (spec_l1Post_auHK))); have n1_ := Aside0.mk (IsS58.below (show IsS58 w0 ((w81.setCell ⟨gb121, 0, none⟩ (.int .i64 t119)).setCell ⟨gb121, 1, none⟩ (.slice none 0 0)) g s0_0 t120 from spec_l1Post_auHI0) hb); have n2_ := Aside0.mk (blk_below (g := gb118) (o := .cells #[.int .i64 0, .slice none 0 0] 25 (0, 0)) (by (with_reducible repeat (first | refine blk_drewN ?_ _ | refine blk_drew ?_ | refine blk_alloc ?_ _)); refine blk_far ?_ NB118_121.out _; (with_reducible repeat (first | refine blk_drewN ?_ _ | refine blk_drew ?_ | refine blk_alloc ?_ _)); refine blk_far ?_ NB118_121.out _; (with_reducible repeat (first | refine blk_drewN ?_ _ | refine blk_drew ?_ | refine blk_alloc ?_ _)); exact BK118.out) hb); have n3_ := Aside0.mk (blk_below (g := gb121) (o := .cells #[.int .i64 t119, .slice none 0 0] 25 (0, 0)) (by (with_reducible repeat (first | refine blk_drewN ?_ _ | refine blk_drew ?_ | refine blk_alloc ?_ _)); refine blk_put (cs := #[.int .i64 t119, .slice none 0 0]) ?_ 1 _ rfl; (with_reducible repeat (first | refine blk_drewN ?_ _ | refine blk_drew ?_ | refine blk_alloc ?_ _)); refine blk_put (cs := #[.int .i64 0, .slice none 0 0]) ?_ 0 _ rfl; (with_reducible repeat (first | refine blk_drewN ?_ _ | refine blk_drew ?_ | refine blk_alloc ?_ _)); exact BK121.out) hb); have n4_ := Aside0.mk (KeepBut.trans (spec_l1Post_auHK) (KeepBut.of_below hb g none) (.inl rfl)); have n5_ := Aside0.mk (below_step (spec_l1Post_auHB) hb); clear HI0; clear BK118; clear BK121; clear HK; clear HB; have HO124 := n0_; have HI0 := n1_; have BK118 := n2_; have BK121 := n3_; have HK := n4_; have HB := n5_; clear n0_ n1_ n2_ n3_ n4_ n5_; clear hb ho86; obtain ⟨Ao87, co87, eo87⟩ := Kd.R_slice HO124.out; subst eo87) | ((with_reducible refine gate_callee (f := 27) rfl ?_); refine goesL_ (some 12) rfl rfl Try.func27 (by kernel_rfl) rfl #[.pointer (some ⟨g, 0, none⟩), .slice Ao87 y122.length co87] rfl (by (try simp only [List.map_toArray, List.map_cons, List.map_nil]); first | done | rfl | (simp only [List.length_drop, List.length_take]; rfl)) ?_; (with_reducible refine (spec_l9Rd_num.calls k g s0_0 t120 _ _ y122 t125 t126 w0 _ ?side1 ?side2 ?side3 ?side4 ?side5 A3.out).mono ?_); (case side1 => exact spec_l1Post_auHI0); (case side2 => exact spec_l1Post_auHB); (case side3 => repeat (first | exact (Kd.R_reads' HO124.out).2.2 | (with_reducible refine Kd.C_alloc ?_ _) | (with_reducible refine Kd.C_drewN ?_ _) | (with_reducible refine Kd.C_drew ?_))); (case side4 => exact (Kd.R_reads' HO124.out).2.1); (case side5 => exact far_slice (IsS58.own_ne HI0.out HO124.out (by decide))); rintro e w88 ⟨rfl, hi, hb, hk⟩; refine ⟨_, rfl, ?_⟩; have n0_ := Aside0.mk (KeepBut.blk hk (g' := gb118) (o := .cells #[.int .i64 0, .slice none 0 0] 25 (0, 0)) (spec_l1Post_vb BK118) NB118_0.out (by simp)); have n1_ := Aside0.mk (KeepBut.blk hk (g' := gb121) (o := .cells #[.int .i64 t119, .slice none 0 0] 25 (0, 0)) (spec_l1Post_vb BK121) NB121_0.out (by simp)); have n2_ := Aside0.mk (Kd.R_mono (Kd.R_keep (IsS58.apart (show IsS58 w0 _ g s0_0 t120 from spec_l1Post_auHI0) (by (with_reducible repeat (first | apply Kd.R_alloc | apply Kd.R_drewN | apply Kd.R_drew)); exact HO124.out) (by decide)) hk (fun _ h => h.2)) (fun _ h => h.1)); have n3_ := Aside0.mk (KeepBut.trans (spec_l1Post_auHK) hk (.inl rfl)); have n4_ := Aside0.mk (hb); have n5_ := Aside0.mk (hi); clear BK118; clear BK121; clear HO124; clear HK; clear HB; clear HI0; have BK118 := n0_; have BK121 := n1_; have HO124 := n2_; have HK := n3_; have HB := n4_; have HI0 := n5_; clear n0_ n1_ n2_ n3_ n4_ n5_; (try clear hb); (try clear hb2); (try clear hk); (try clear hi)) | ((with_reducible refine gate_callee (f := 24) rfl ?_); refine goesL_ (some 14) rfl rfl Try.func24 (by kernel_rfl) rfl #[.pointer (some ⟨g, 0, none⟩), .int .i64 3] rfl (by (try simp only [List.map_toArray, List.map_cons, List.map_nil]); first | done | rfl | (simp only [List.length_drop, List.length_take]; rfl)) ?_; (with_reducible refine (spec_l9Rd_pick.calls k g s0_0 t126 3 t127 t128 w0 _ ?side1 ?side2 A4.out).mono ?_); (case side1 => exact spec_l1Post_auHI0); (case side2 => exact spec_l1Post_auHB); rintro e w89 ⟨rfl, hi, hb, hk⟩; refine ⟨_, rfl, ?_⟩; have n0_ := Aside0.mk (KeepBut.blk hk (g' := gb118) (o := .cells #[.int .i64 0, .slice none 0 0] 25 (0, 0)) (spec_l1Post_vb BK118) NB118_0.out (by simp)); have n1_ := Aside0.mk (KeepBut.blk hk (g' := gb121) (o := .cells #[.int .i64 t119, .slice none 0 0] 25 (0, 0)) (spec_l1Post_vb BK121) NB121_0.out (by simp)); have n2_ := Aside0.mk (Kd.R_mono (Kd.R_keep (IsS58.apart (show IsS58 w0 _ g s0_0 t126 from spec_l1Post_auHI0) (by (with_reducible repeat (first | apply Kd.R_alloc | apply Kd.R_drewN | apply Kd.R_drew)); exact HO124.out) (by decide)) hk (fun _ h => h.2)) (fun _ h => h.1)); have n3_ := Aside0.mk (KeepBut.trans (spec_l1Post_auHK) hk (.inl rfl)); have n4_ := Aside0.mk (hb); have n5_ := Aside0.mk (hi); clear BK118; clear BK121; clear HO124; clear HK; clear HB; clear HI0; have BK118 := n0_; have BK121 := n1_; have HO124 := n2_; have HK := n3_; have HB := n4_; have HI0 := n5_; clear n0_ n1_ n2_ n3_ n4_ n5_; (try clear hb); (try clear hb2); (try clear hk); (try clear hi)) | ((with_reducible refine gate_callee (f := 26) rfl ?_); refine goesL_ (some 17) rfl rfl Try.func26 (by kernel_rfl) rfl #[.pointer (some ⟨g, 0, none⟩)] rfl (by (try simp only [List.map_toArray, List.map_cons, List.map_nil]); first | done | rfl | (simp only [List.length_drop, List.length_take]; rfl)) ?_; (with_reducible refine (spec_l1Acct.calls k g s0_0 t128 t129 t130 w0 _ ?side1 ?side2 A5.out).mono ?_); (case side1 => exact spec_l1Post_auHI0); (case side2 => exact spec_l1Post_auHB); rintro e w90 ⟨rfl, hi, hb, hk⟩; refine ⟨_, rfl, ?_⟩; have n0_ := Aside0.mk (KeepBut.blk hk (g' := gb118) (o := .cells #[.int .i64 0, .slice none 0 0] 25 (0, 0)) (spec_l1Post_vb BK118) NB118_0.out (by simp)); have n1_ := Aside0.mk (KeepBut.blk hk (g' := gb121) (o := .cells #[.int .i64 t119, .slice none 0 0] 25 (0, 0)) (spec_l1Post_vb BK121) NB121_0.out (by simp)); have n2_ := Aside0.mk (Kd.R_mono (Kd.R_keep (IsS58.apart (show IsS58 w0 _ g s0_0 t128 from spec_l1Post_auHI0) (by (with_reducible repeat (first | apply Kd.R_alloc | apply Kd.R_drewN | apply Kd.R_drew)); exact HO124.out) (by decide)) hk (fun _ h => h.2)) (fun _ h => h.1)); have n3_ := Aside0.mk (KeepBut.trans (spec_l1Post_auHK) hk (.inl rfl)); have n4_ := Aside0.mk (hb); have n5_ := Aside0.mk (hi); clear BK118; clear BK121; clear HO124; clear HK; clear HB; clear HI0; have BK118 := n0_; have BK121 := n1_; have HO124 := n2_; have HK := n3_; have HB := n4_; have HI0 := n5_; clear n0_ n1_ n2_ n3_ n4_ n5_; (try clear hb); (try clear hb2); (try clear hk); (try clear hi)) | ((with_reducible refine gate_callee (f := 26) rfl ?_); refine goesL_ (some 22) rfl rfl Try.func26 (by kernel_rfl) rfl #[.pointer (some ⟨g, 0, none⟩)] rfl (by (try simp only [List.map_toArray, List.map_cons, List.map_nil]); first | done | rfl | (simp only [List.length_drop, List.length_take]; rfl)) ?_; (with_reducible refine (spec_l1Acct.calls k g s0_0 t130 t131 t132 w0 _ ?side1 ?side2 A6.out).mono ?_); (case side1 => exact spec_l1Post_auHI0); (case side2 => exact spec_l1Post_auHB); rintro e w91 ⟨rfl, hi, hb, hk⟩; refine ⟨_, rfl, ?_⟩; have n0_ := Aside0.mk (KeepBut.blk hk (g' := gb118) (o := .cells #[.int .i64 0, .slice none 0 0] 25 (0, 0)) (spec_l1Post_vb BK118) NB118_0.out (by simp)); have n1_ := Aside0.mk (KeepBut.blk hk (g' := gb121) (o := .cells #[.int .i64 t119, .slice none 0 0] 25 (0, 0)) (spec_l1Post_vb BK121) NB121_0.out (by simp)); have n2_ := Aside0.mk (Kd.R_mono (Kd.R_keep (IsS58.apart (show IsS58 w0 _ g s0_0 t130 from spec_l1Post_auHI0) (by (with_reducible repeat (first | apply Kd.R_alloc | apply Kd.R_drewN | apply Kd.R_drew)); exact HO124.out) (by decide)) hk (fun _ h => h.2)) (fun _ h => h.1)); have n3_ := Aside0.mk (KeepBut.trans (spec_l1Post_auHK) hk (.inl rfl)); have n4_ := Aside0.mk (hb); have n5_ := Aside0.mk (hi); clear BK118; clear BK121; clear HO124; clear HK; clear HB; clear HI0; have BK118 := n0_; have BK121 := n1_; have HO124 := n2_; have HK := n3_; have HB := n4_; have HI0 := n5_; clear n0_ n1_ n2_ n3_ n4_ n5_; (try clear hb); (try clear hb2); (try clear hk); (try clear hi)) | ((with_reducible refine gate_dst (N := 27) rfl ?_); refine Kd.R_lit k29 _ 29 ?hg (N := 27) ?hd (xs := ([(⟨t129, wrap64 (1 + t127), t125⟩ : S29), (⟨t131, wrap64 (1 + t127), wrap64 (-t125)⟩ : S29)] : List (S29))) (inner := [.string t129, .int .i64 (wrap64 (1 + t127)), .int .i64 t125, .string t131, .int .i64 (wrap64 (1 + t127)), .int .i64 (wrap64 (-t125))]) (ok := fun _ => True) (okp := fun _ => True) ?hr ?hp (fun _ hk => hk) trivial (Below.refl _ _) (Nat.le_refl _) (by simp) ?_; (case hd => rfl); (case hg => rfl); (case hr => first | (go_simp; done) | (go_simp; rfl)); (case hp => exact (Reps.c3 (show Kd.M k29 _ _ _ (⟨t129, wrap64 (1 + t127), t125⟩ : S29) [.string t129, .int .i64 (wrap64 (1 + t127)), .int .i64 t125] from (k29_mkM _ _ _ (⟨t129, wrap64 (1 + t127), t125⟩ : S29) )) (Reps.c3 (show Kd.M k29 _ _ _ (⟨t131, wrap64 (1 + t127), wrap64 (-t125)⟩ : S29) [.string t131, .int .i64 (wrap64 (1 + t127)), .int .i64 (wrap64 (-t125))] from (k29_mkM _ _ _ (⟨t131, wrap64 (1 + t127), wrap64 (-t125)⟩ : S29) )) (Reps.none _ _)))); intro v134 w92 ho93 hb hg_ hnew_; clear hg_ hnew_; (first | rw [← Ny133.out] at ho93 | (simp only [Int.reduceToNat] at ho93; rw [← Ny133.out] at ho93)); have n0_ := Aside0.mk (Kd.R_below (by (with_reducible repeat (first | apply Kd.R_alloc | apply Kd.R_drewN | apply Kd.R_drew)); exact HO124.out) hb); have n1_ := Aside0.mk (Kd.R_lower ho93 (keep_size (w := w) (g := g) (row := none) (spec_l1Post_auHK))); have n2_ := Aside0.mk (IsS58.below (spec_l1Post_auHI0) hb); have n3_ := Aside0.mk (blk_below (g := gb118) (o := .cells #[.int .i64 0, .slice none 0 0] 25 (0, 0)) (spec_l1Post_vb BK118) hb); have n4_ := Aside0.mk (blk_below (g := gb121) (o := .cells #[.int .i64 t119, .slice none 0 0] 25 (0, 0)) (spec_l1Post_vb BK121) hb); have n5_ := Aside0.mk (KeepBut.trans (spec_l1Post_auHK) (KeepBut.of_below hb g none) (.inl rfl)); have n6_ := Aside0.mk (below_step (spec_l1Post_auHB) hb); clear HO124; clear HI0; clear BK118; clear BK121; clear HK; clear HB; have HO124 := n0_; have HO135 := n1_; have HI0 := n2_; have BK118 := n3_; have BK121 := n4_; have HK := n5_; have HB := n6_; clear n0_ n1_ n2_ n3_ n4_ n5_ n6_; clear hb ho93; obtain ⟨Ao94, co94, eo94⟩ := Kd.R_slice HO135.out; subst eo94; have hcz95_0 : w92.cell? ⟨gb121, 0, none⟩ = some (.int .i64 t119) := (blk_cell BK121.out 0).trans rfl; have hcz95_1 : w92.cell? ⟨gb121, 1, none⟩ = some (.slice none 0 0) := (blk_cell BK121.out 1).trans rfl; have hfz95_0 := blk_frozen BK121.out 0; have hfz95_1 := blk_frozen BK121.out 1) | ((with_reducible refine gate_callee (f := 24) rfl ?_); refine goesL_ (some 30) rfl rfl Try.func24 (by kernel_rfl) rfl #[.pointer (some ⟨g, 0, none⟩), .int .i64 5] rfl (by (try simp only [List.map_toArray, List.map_cons, List.map_nil]); first | done | rfl | (simp only [List.length_drop, List.length_take]; rfl)) ?_; (with_reducible refine (spec_l9Rd_pick.calls k g s0_0 t132 5 t136 t137 w0 _ ?side1 ?side2 A7.out).mono ?_); (case side1 => exact spec_l1Post_auHI0); (case side2 => exact spec_l1Post_auHB); rintro e w96 ⟨rfl, hi, hb, hk⟩; refine ⟨_, rfl, ?_⟩; have n0_ := Aside0.mk (KeepBut.blk hk (g' := gb118) (o := .cells #[.int .i64 0, .slice none 0 0] 25 (0, 0)) (by (with_reducible repeat (first | refine blk_drewN ?_ _ | refine blk_drew ?_ | refine blk_alloc ?_ _)); refine blk_far ?_ NB118_121.out _; (with_reducible repeat (first | refine blk_drewN ?_ _ | refine blk_drew ?_ | refine blk_alloc ?_ _)); exact BK118.out) NB118_0.out (by simp)); have n1_ := Aside0.mk (KeepBut.blk hk (g' := gb121) (o := .cells #[.int .i64 t119, .slice Ao94 y133.length co94] 25 (0, 0)) (by (with_reducible repeat (first | refine blk_drewN ?_ _ | refine blk_drew ?_ | refine blk_alloc ?_ _)); refine blk_put (cs := #[.int .i64 t119, .slice none 0 0]) ?_ 1 _ rfl; (with_reducible repeat (first | refine blk_drewN ?_ _ | refine blk_drew ?_ | refine blk_alloc ?_ _)); exact BK121.out) NB121_0.out (by simp)); have n2_ := Aside0.mk (Kd.R_mono (Kd.R_keep (IsS58.apart (show IsS58 w0 _ g s0_0 t132 from spec_l1Post_auHI0) (by (with_reducible repeat (first | apply Kd.R_alloc | apply Kd.R_drewN | apply Kd.R_drew)); exact (Kd.R_mono (Kd.R_far (p := ⟨gb121, 1, none⟩) (Kd.R_types HO124.out BK121.out (by decide)) (fun _ hk => hk.2) (.slice Ao94 y133.length co94)) (fun _ h_ => h_.1))) (by decide)) hk (fun _ h => h.2)) (fun _ h => h.1)); have n3_ := Aside0.mk (Kd.R_mono (Kd.R_keep (IsS58.apart (show IsS58 w0 _ g s0_0 t132 from spec_l1Post_auHI0) (by (with_reducible repeat (first | apply Kd.R_alloc | apply Kd.R_drewN | apply Kd.R_drew)); exact (Kd.R_mono (Kd.R_far (p := ⟨gb121, 1, none⟩) (Kd.R_types HO135.out BK121.out (by decide)) (fun _ hk => hk.2) (.slice Ao94 y133.length co94)) (fun _ h_ => h_.1))) (by decide)) hk (fun _ h => h.2)) (fun _ h => h.1)); have n4_ := Aside0.mk (KeepBut.trans (spec_l1Post_auHK) hk (.inl rfl)); have n5_ := Aside0.mk (hb); have n6_ := Aside0.mk (hi); clear BK118; clear BK121; clear HO124; clear HO135; clear HK; clear HB; clear HI0; have BK118 := n0_; have BK121 := n1_; have HO124 := n2_; have HO135 := n3_; have HK := n4_; have HB := n5_; have HI0 := n6_; clear n0_ n1_ n2_ n3_ n4_ n5_ n6_; (try clear hb); (try clear hb2); (try clear hk); (try clear hi); have hcz97_0 : w96.cell? ⟨gb121, 0, none⟩ = some (.int .i64 t119) := (blk_cell BK121.out 0).trans rfl; have hcz97_1 : w96.cell? ⟨gb121, 1, none⟩ = some (.slice Ao94 y133.length co94) := (blk_cell BK121.out 1).trans rfl; have hfz97_0 := blk_frozen BK121.out 0; have hfz97_1 := blk_frozen BK121.out 1; have hnb98 := NB118_0.out; have hnc98 := NB0_118.out; have hcz99_0 : w96.cell? ⟨gb118, 0, none⟩ = some (.int .i64 0) := (blk_cell BK118.out 0).trans rfl; have hcz99_1 : w96.cell? ⟨gb118, 1, none⟩ = some (.slice none 0 0) := (blk_cell BK118.out 1).trans rfl; have hfz99_0 := blk_frozen BK118.out 0; have hfz99_1 := blk_frozen BK118.out 1))
    refine bodyPost_ret (results_cell_row rfl _ _ gb118 25 #[.int .i64 t119, .slice Ao94 y133.length co94] (0, 0) _ rfl (by (with_reducible repeat (first | refine blk_drewN ?_ _ | refine blk_drew ?_ | refine blk_alloc ?_ _)); refine blk_put (cs := #[.int .i64 t119, .slice none 0 0]) ?_ 1 _ rfl; (with_reducible repeat (first | refine blk_drewN ?_ _ | refine blk_drew ?_ | refine blk_alloc ?_ _)); refine blk_put (cs := #[.int .i64 0, .slice none 0 0]) ?_ 0 _ rfl; (with_reducible repeat (first | refine blk_drewN ?_ _ | refine blk_drew ?_ | refine blk_alloc ?_ _)); exact BK118.out) Try.underlying25 rfl (by kernel_rfl)) rfl ?_
    exact ⟨_, by first | rfl | (simp [errW_none, errW_some] <;> rfl) | (simp [*, errW_none, errW_some] <;> rfl), by (with_reducible repeat (first | apply Kd.R_alloc | apply Kd.R_drewN | apply Kd.R_drew)); exact Kd.R_mono (Kd.R_far (p := ⟨gb118, 1, none⟩) (Kd.R_far (p := ⟨gb118, 0, none⟩) (Kd.R_types HO135.out BK118.out (by decide)) (fun _ hk => hk.2) (.int .i64 t119)) (fun _ hk => hk.2) (.slice Ao94 y133.length co94)) (fun _ hk => trivial), spec_l1Post_auHI0, spec_l1Post_auHB, spec_l1Post_auHK⟩
  ·
   rw [if_neg c44] at H
   have c44b0 : (t136 == 1) = false := beq_eq_false_iff_ne.mpr c44
   have c44b1 : (t136 != 1) = true := bne_iff_ne.mpr c44
   simp only [Option.some.injEq, Prod.mk.injEq] at H
   obtain ⟨rfl, rfl, rfl⟩ := H
   go_enter Try.func22, Try.ntmps22
   go_wp2_with (first | ((with_reducible refine gate_dst (N := 2) rfl ?_); refine box_event ?hg (N := 2) ?hd (cs := #[.int .i64 0, .slice none 0 0]) (t := 25) ?hr ?_; (case hd => rfl); (case hg => rfl); (case hr => first | (go_simp; done) | (go_simp; rfl)); intro gb118 hg w100 hbox hb; have n0_ := Aside0.mk (IsS58.below (spec_l1Post_auHI0) hb); have n1_ := Aside0.mk (KeepBut.trans (spec_l1Post_auHK) (KeepBut.of_below hb g none) (.inl rfl)); have n2_ := Aside0.mk (below_step (spec_l1Post_auHB) hb); have n3_ := Aside0.mk (hbox); have n4_ := Aside0.mk ((by rw [hg]; exact (keep_size (w := w) (g := g) (row := none) (spec_l1Post_auHK)) : w.heap.size ≤ gb118)); have n5_ := Aside0.mk ((Nat.le_trans HW0.out (by rw [hg]; exact (keep_size (w := w) (g := g) (row := none) (spec_l1Post_auHK)) : w.heap.size ≤ gb118) : w0.heap.size ≤ gb118)); have n6_ := Aside0.mk ((by rw [hg]; exact Nat.ne_of_lt (IsS58.lt (show IsS58 w0 _ g s0_0 s0_1 from spec_l1Post_auHI0)) : g ≠ gb118)); have n7_ := Aside0.mk ((by rw [hg]; exact Nat.ne_of_gt (IsS58.lt (show IsS58 w0 _ g s0_0 s0_1 from spec_l1Post_auHI0)) : gb118 ≠ g)); clear HI0; clear HK; clear HB; have HI0 := n0_; have HK := n1_; have HB := n2_; have BK118 := n3_; have GW118 := n4_; have GE118 := n5_; have NB0_118 := n6_; have NB118_0 := n7_; clear n0_ n1_ n2_ n3_ n4_ n5_ n6_ n7_; clear hb hbox hg) | ((with_reducible refine gate_callee (f := 24) rfl ?_); refine goesL_ (some 8) rfl rfl Try.func24 (by kernel_rfl) rfl #[.pointer (some ⟨g, 0, none⟩), .int .i64 14] rfl (by (try simp only [List.map_toArray, List.map_cons, List.map_nil]); first | done | rfl | (simp only [List.length_drop, List.length_take]; rfl)) ?_; (with_reducible refine (spec_l9Rd_pick.calls k g s0_0 s0_1 14 t119 t120 w0 _ ?side1 ?side2 A2.out).mono ?_); (case side1 => exact spec_l1Post_auHI0); (case side2 => exact spec_l1Post_auHB); rintro e w101 ⟨rfl, hi, hb, hk⟩; refine ⟨_, rfl, ?_⟩; have n0_ := Aside0.mk (KeepBut.blk hk (g' := gb118) (o := .cells #[.int .i64 0, .slice none 0 0] 25 (0, 0)) (spec_l1Post_vb BK118) NB118_0.out (by simp)); have n1_ := Aside0.mk (KeepBut.trans (spec_l1Post_auHK) hk (.inl rfl)); have n2_ := Aside0.mk (hb); have n3_ := Aside0.mk (hi); clear BK118; clear HK; clear HB; clear HI0; have BK118 := n0_; have HK := n1_; have HB := n2_; have HI0 := n3_; clear n0_ n1_ n2_ n3_; (try clear hb); (try clear hb2); (try clear hk); (try clear hi)) | ((with_reducible refine gate_dst (N := 3) rfl ?_); refine box_event ?hg (N := 3) ?hd (cs := #[.int .i64 0, .slice none 0 0]) (t := 25) ?hr ?_; (case hd => rfl); (case hg => rfl); (case hr => first | (go_simp; done) | (go_simp; rfl)); intro gb121 hg w102 hbox hb; have n0_ := Aside0.mk (IsS58.below (spec_l1Post_auHI0) hb); have n1_ := Aside0.mk (blk_below (g := gb118) (o := .cells #[.int .i64 0, .slice none 0 0] 25 (0, 0)) (spec_l1Post_vb BK118) hb); have n2_ := Aside0.mk (KeepBut.trans (spec_l1Post_auHK) (KeepBut.of_below hb g none) (.inl rfl)); have n3_ := Aside0.mk (below_step (spec_l1Post_auHB) hb); have n4_ := Aside0.mk (hbox); have n5_ := Aside0.mk ((by rw [hg]; exact (keep_size (w := w) (g := g) (row := none) (spec_l1Post_auHK)) : w.heap.size ≤ gb121)); have n6_ := Aside0.mk ((Nat.le_trans HW0.out (by rw [hg]; exact (keep_size (w := w) (g := g) (row := none) (spec_l1Post_auHK)) : w.heap.size ≤ gb121) : w0.heap.size ≤ gb121)); have n7_ := Aside0.mk ((by rw [hg]; exact Nat.ne_of_lt (blk_lt (g := gb118) (o := .cells #[.int .i64 0, .slice none 0 0] 25 (0, 0)) (spec_l1Post_vb BK118)) : gb118 ≠ gb121)); have n8_ := Aside0.mk ((by rw [hg]; exact Nat.ne_of_gt (blk_lt (g := gb118) (o := .cells #[.int .i64 0, .slice none 0 0] 25 (0, 0)) (spec_l1Post_vb BK118)) : gb121 ≠ gb118)); have n9_ := Aside0.mk ((by rw [hg]; exact Nat.ne_of_lt (IsS58.lt (show IsS58 w0 _ g s0_0 t120 from spec_l1Post_auHI0)) : g ≠ gb121)); have n10_ := Aside0.mk ((by rw [hg]; exact Nat.ne_of_gt (IsS58.lt (show IsS58 w0 _ g s0_0 t120 from spec_l1Post_auHI0)) : gb121 ≠ g)); clear HI0; clear BK118; clear HK; clear HB; have HI0 := n0_; have BK118 := n1_; have HK := n2_; have HB := n3_; have BK121 := n4_; have GW121 := n5_; have GE121 := n6_; have NB118_121 := n7_; have NB121_118 := n8_; have NB0_121 := n9_; have NB121_0 := n10_; clear n0_ n1_ n2_ n3_ n4_ n5_ n6_ n7_ n8_ n9_ n10_; clear hb hbox hg; have hnb103 := NB121_118.out; have hnc103 := NB118_121.out; have hnb104 := NB121_0.out; have hnc104 := NB0_121.out; have hcz105_0 : w102.cell? ⟨gb121, 0, none⟩ = some (.int .i64 0) := (blk_cell BK121.out 0).trans rfl; have hcz105_1 : w102.cell? ⟨gb121, 1, none⟩ = some (.slice none 0 0) := (blk_cell BK121.out 1).trans rfl; have hfz105_0 := blk_frozen BK121.out 0; have hfz105_1 := blk_frozen BK121.out 1) | ((with_reducible refine gate_dst (N := 11) rfl ?_); refine Kd.R_lit (Kd.int .i64) _ 3 ?hg (N := 11) ?hd (xs := ([5, 20, 100, 700, 1, 300, 1000] : List Int)) (inner := [.int .i64 5, .int .i64 20, .int .i64 100, .int .i64 700, .int .i64 1, .int .i64 300, .int .i64 1000]) (ok := fun _ => True) (okp := fun _ => True) ?hr ?hp (fun _ hk => hk) trivial (Below.refl _ _) (Nat.le_refl _) (by simp) ?_; (case hd => rfl); (case hg => rfl); (case hr => first | (go_simp; done) | (go_simp; rfl)); (case hp => exact (Reps.one (show Kd.M (Kd.int .i64) _ _ _ 5 [.int .i64 5] from rfl) (Reps.one (show Kd.M (Kd.int .i64) _ _ _ 20 [.int .i64 20] from rfl) (Reps.one (show Kd.M (Kd.int .i64) _ _ _ 100 [.int .i64 100] from rfl) (Reps.one (show Kd.M (Kd.int .i64) _ _ _ 700 [.int .i64 700] from rfl) (Reps.one (show Kd.M (Kd.int .i64) _ _ _ 1 [.int .i64 1] from rfl) (Reps.one (show Kd.M (Kd.int .i64) _ _ _ 300 [.int .i64 300] from rfl) (Reps.one (show Kd.M (Kd.int .i64) _ _ _ 1000 [.int .i64 1000] from rfl) (Reps.none _ _))))))))); intro v123 w106 ho107 hb hg_ hnew_; clear hg_ hnew_; (first | rw [← Ny122.out] at ho107 | (simp only [Int.reduceToNat] at ho107; rw [← Ny122.out] at ho107)); have n0_ := Aside0.mk (Kd.R_lower ho107 (keep_size (w := w) (g := g) (row := none) (spec_l1Post_auHK))); have n1_ := Aside0.mk (IsS58.below (show IsS58 w0 ((w102.setCell ⟨gb121, 0, none⟩ (.int .i64 t119)).setCell ⟨gb121, 1, none⟩ (.slice none 0 0)) g s0_0 t120 from spec_l1Post_auHI0) hb); have n2_ := Aside0.mk (blk_below (g := gb118) (o := .cells #[.int .i64 0, .slice none 0 0] 25 (0, 0)) (by (with_reducible repeat (first | refine blk_drewN ?_ _ | refine blk_drew ?_ | refine blk_alloc ?_ _)); refine blk_far ?_ NB118_121.out _; (with_reducible repeat (first | refine blk_drewN ?_ _ | refine blk_drew ?_ | refine blk_alloc ?_ _)); refine blk_far ?_ NB118_121.out _; (with_reducible repeat (first | refine blk_drewN ?_ _ | refine blk_drew ?_ | refine blk_alloc ?_ _)); exact BK118.out) hb); have n3_ := Aside0.mk (blk_below (g := gb121) (o := .cells #[.int .i64 t119, .slice none 0 0] 25 (0, 0)) (by (with_reducible repeat (first | refine blk_drewN ?_ _ | refine blk_drew ?_ | refine blk_alloc ?_ _)); refine blk_put (cs := #[.int .i64 t119, .slice none 0 0]) ?_ 1 _ rfl; (with_reducible repeat (first | refine blk_drewN ?_ _ | refine blk_drew ?_ | refine blk_alloc ?_ _)); refine blk_put (cs := #[.int .i64 0, .slice none 0 0]) ?_ 0 _ rfl; (with_reducible repeat (first | refine blk_drewN ?_ _ | refine blk_drew ?_ | refine blk_alloc ?_ _)); exact BK121.out) hb); have n4_ := Aside0.mk (KeepBut.trans (spec_l1Post_auHK) (KeepBut.of_below hb g none) (.inl rfl)); have n5_ := Aside0.mk (below_step (spec_l1Post_auHB) hb); clear HI0; clear BK118; clear BK121; clear HK; clear HB; have HO124 := n0_; have HI0 := n1_; have BK118 := n2_; have BK121 := n3_; have HK := n4_; have HB := n5_; clear n0_ n1_ n2_ n3_ n4_ n5_; clear hb ho107; obtain ⟨Ao108, co108, eo108⟩ := Kd.R_slice HO124.out; subst eo108) | ((with_reducible refine gate_callee (f := 27) rfl ?_); refine goesL_ (some 12) rfl rfl Try.func27 (by kernel_rfl) rfl #[.pointer (some ⟨g, 0, none⟩), .slice Ao108 y122.length co108] rfl (by (try simp only [List.map_toArray, List.map_cons, List.map_nil]); first | done | rfl | (simp only [List.length_drop, List.length_take]; rfl)) ?_; (with_reducible refine (spec_l9Rd_num.calls k g s0_0 t120 _ _ y122 t125 t126 w0 _ ?side1 ?side2 ?side3 ?side4 ?side5 A3.out).mono ?_); (case side1 => exact spec_l1Post_auHI0); (case side2 => exact spec_l1Post_auHB); (case side3 => repeat (first | exact (Kd.R_reads' HO124.out).2.2 | (with_reducible refine Kd.C_alloc ?_ _) | (with_reducible refine Kd.C_drewN ?_ _) | (with_reducible refine Kd.C_drew ?_))); (case side4 => exact (Kd.R_reads' HO124.out).2.1); (case side5 => exact far_slice (IsS58.own_ne HI0.out HO124.out (by decide))); rintro e w109 ⟨rfl, hi, hb, hk⟩; refine ⟨_, rfl, ?_⟩; have n0_ := Aside0.mk (KeepBut.blk hk (g' := gb118) (o := .cells #[.int .i64 0, .slice none 0 0] 25 (0, 0)) (spec_l1Post_vb BK118) NB118_0.out (by simp)); have n1_ := Aside0.mk (KeepBut.blk hk (g' := gb121) (o := .cells #[.int .i64 t119, .slice none 0 0] 25 (0, 0)) (spec_l1Post_vb BK121) NB121_0.out (by simp)); have n2_ := Aside0.mk (Kd.R_mono (Kd.R_keep (IsS58.apart (show IsS58 w0 _ g s0_0 t120 from spec_l1Post_auHI0) (by (with_reducible repeat (first | apply Kd.R_alloc | apply Kd.R_drewN | apply Kd.R_drew)); exact HO124.out) (by decide)) hk (fun _ h => h.2)) (fun _ h => h.1)); have n3_ := Aside0.mk (KeepBut.trans (spec_l1Post_auHK) hk (.inl rfl)); have n4_ := Aside0.mk (hb); have n5_ := Aside0.mk (hi); clear BK118; clear BK121; clear HO124; clear HK; clear HB; clear HI0; have BK118 := n0_; have BK121 := n1_; have HO124 := n2_; have HK := n3_; have HB := n4_; have HI0 := n5_; clear n0_ n1_ n2_ n3_ n4_ n5_; (try clear hb); (try clear hb2); (try clear hk); (try clear hi)) | ((with_reducible refine gate_callee (f := 24) rfl ?_); refine goesL_ (some 14) rfl rfl Try.func24 (by kernel_rfl) rfl #[.pointer (some ⟨g, 0, none⟩), .int .i64 3] rfl (by (try simp only [List.map_toArray, List.map_cons, List.map_nil]); first | done | rfl | (simp only [List.length_drop, List.length_take]; rfl)) ?_; (with_reducible refine (spec_l9Rd_pick.calls k g s0_0 t126 3 t127 t128 w0 _ ?side1 ?side2 A4.out).mono ?_); (case side1 => exact spec_l1Post_auHI0); (case side2 => exact spec_l1Post_auHB); rintro e w110 ⟨rfl, hi, hb, hk⟩; refine ⟨_, rfl, ?_⟩; have n0_ := Aside0.mk (KeepBut.blk hk (g' := gb118) (o := .cells #[.int .i64 0, .slice none 0 0] 25 (0, 0)) (spec_l1Post_vb BK118) NB118_0.out (by simp)); have n1_ := Aside0.mk (KeepBut.blk hk (g' := gb121) (o := .cells #[.int .i64 t119, .slice none 0 0] 25 (0, 0)) (spec_l1Post_vb BK121) NB121_0.out (by simp)); have n2_ := Aside0.mk (Kd.R_mono (Kd.R_keep (IsS58.apart (show IsS58 w0 _ g s0_0 t126 from spec_l1Post_auHI0) (by (with_reducible repeat (first | apply Kd.R_alloc | apply Kd.R_drewN | apply Kd.R_drew)); exact HO124.out) (by decide)) hk (fun _ h => h.2)) (fun _ h => h.1)); have n3_ := Aside0.mk (KeepBut.trans (spec_l1Post_auHK) hk (.inl rfl)); have n4_ := Aside0.mk (hb); have n5_ := Aside0.mk (hi); clear BK118; clear BK121; clear HO124; clear HK; clear HB; clear HI0; have BK118 := n0_; have BK121 := n1_; have HO124 := n2_; have HK := n3_; have HB := n4_; have HI0 := n5_; clear n0_ n1_ n2_ n3_ n4_ n5_; (try clear hb); (try clear hb2); (try clear hk); (try clear hi)) | ((with_reducible refine gate_callee (f := 26) rfl ?_); refine goesL_ (some 17) rfl rfl Try.func26 (by kernel_rfl) rfl #[.pointer (some ⟨g, 0, none⟩)] rfl (by (try simp only [List.map_toArray, List.map_cons, List.map_nil]); first | done | rfl | (simp only [List.length_drop, List.length_take]; rfl)) ?_; (with_reducible refine (spec_l1Acct.calls k g s0_0 t128 t129 t130 w0 _ ?side1 ?side2 A5.out).mono ?_); (case side1 => exact spec_l1Post_auHI0); (case side2 => exact spec_l1Post_auHB); rintro e w111 ⟨rfl, hi, hb, hk⟩; refine ⟨_, rfl, ?_⟩; have n0_ := Aside0.mk (KeepBut.blk hk (g' := gb118) (o := .cells #[.int .i64 0, .slice none 0 0] 25 (0, 0)) (spec_l1Post_vb BK118) NB118_0.out (by simp)); have n1_ := Aside0.mk (KeepBut.blk hk (g' := gb121) (o := .cells #[.int .i64 t119, .slice none 0 0] 25 (0, 0)) (spec_l1Post_vb BK121) NB121_0.out (by simp)); have n2_ := Aside0.mk (Kd.R_mono (Kd.R_keep (IsS58.apart (show IsS58 w0 _ g s0_0 t128 from spec_l1Post_auHI0) (by (with_reducible repeat (first | apply Kd.R_alloc | apply Kd.R_drewN | apply Kd.R_drew)); exact HO124.out) (by decide)) hk (fun _ h => h.2)) (fun _ h => h.1)); have n3_ := Aside0.mk (KeepBut.trans (spec_l1Post_auHK) hk (.inl rfl)); have n4_ := Aside0.mk (hb); have n5_ := Aside0.mk (hi); clear BK118; clear BK121; clear HO124; clear HK; clear HB; clear HI0; have BK118 := n0_; have BK121 := n1_; have HO124 := n2_; have HK := n3_; have HB := n4_; have HI0 := n5_; clear n0_ n1_ n2_ n3_ n4_ n5_; (try clear hb); (try clear hb2); (try clear hk); (try clear hi)) | ((with_reducible refine gate_callee (f := 26) rfl ?_); refine goesL_ (some 22) rfl rfl Try.func26 (by kernel_rfl) rfl #[.pointer (some ⟨g, 0, none⟩)] rfl (by (try simp only [List.map_toArray, List.map_cons, List.map_nil]); first | done | rfl | (simp only [List.length_drop, List.length_take]; rfl)) ?_; (with_reducible refine (spec_l1Acct.calls k g s0_0 t130 t131 t132 w0 _ ?side1 ?side2 A6.out).mono ?_); (case side1 => exact spec_l1Post_auHI0); (case side2 => exact spec_l1Post_auHB); rintro e w112 ⟨rfl, hi, hb, hk⟩; refine ⟨_, rfl, ?_⟩; have n0_ := Aside0.mk (KeepBut.blk hk (g' := gb118) (o := .cells #[.int .i64 0, .slice none 0 0] 25 (0, 0)) (spec_l1Post_vb BK118) NB118_0.out (by simp)); have n1_ := Aside0.mk (KeepBut.blk hk (g' := gb121) (o := .cells #[.int .i64 t119, .slice none 0 0] 25 (0, 0)) (spec_l1Post_vb BK121) NB121_0.out (by simp)); have n2_ := Aside0.mk (Kd.R_mono (Kd.R_keep (IsS58.apart (show IsS58 w0 _ g s0_0 t130 from spec_l1Post_auHI0) (by (with_reducible repeat (first | apply Kd.R_alloc | apply Kd.R_drewN | apply Kd.R_drew)); exact HO124.out) (by decide)) hk (fun _ h => h.2)) (fun _ h => h.1)); have n3_ := Aside0.mk (KeepBut.trans (spec_l1Post_auHK) hk (.inl rfl)); have n4_ := Aside0.mk (hb); have n5_ := Aside0.mk (hi); clear BK118; clear BK121; clear HO124; clear HK; clear HB; clear HI0; have BK118 := n0_; have BK121 := n1_; have HO124 := n2_; have HK := n3_; have HB := n4_; have HI0 := n5_; clear n0_ n1_ n2_ n3_ n4_ n5_; (try clear hb); (try clear hb2); (try clear hk); (try clear hi)) | ((with_reducible refine gate_dst (N := 27) rfl ?_); refine Kd.R_lit k29 _ 29 ?hg (N := 27) ?hd (xs := ([(⟨t129, wrap64 (1 + t127), t125⟩ : S29), (⟨t131, wrap64 (1 + t127), wrap64 (-t125)⟩ : S29)] : List (S29))) (inner := [.string t129, .int .i64 (wrap64 (1 + t127)), .int .i64 t125, .string t131, .int .i64 (wrap64 (1 + t127)), .int .i64 (wrap64 (-t125))]) (ok := fun _ => True) (okp := fun _ => True) ?hr ?hp (fun _ hk => hk) trivial (Below.refl _ _) (Nat.le_refl _) (by simp) ?_; (case hd => rfl); (case hg => rfl); (case hr => first | (go_simp; done) | (go_simp; rfl)); (case hp => exact (Reps.c3 (show Kd.M k29 _ _ _ (⟨t129, wrap64 (1 + t127), t125⟩ : S29) [.string t129, .int .i64 (wrap64 (1 + t127)), .int .i64 t125] from (k29_mkM _ _ _ (⟨t129, wrap64 (1 + t127), t125⟩ : S29) )) (Reps.c3 (show Kd.M k29 _ _ _ (⟨t131, wrap64 (1 + t127), wrap64 (-t125)⟩ : S29) [.string t131, .int .i64 (wrap64 (1 + t127)), .int .i64 (wrap64 (-t125))] from (k29_mkM _ _ _ (⟨t131, wrap64 (1 + t127), wrap64 (-t125)⟩ : S29) )) (Reps.none _ _)))); intro v134 w113 ho114 hb hg_ hnew_; clear hg_ hnew_; (first | rw [← Ny133.out] at ho114 | (simp only [Int.reduceToNat] at ho114; rw [← Ny133.out] at ho114)); have n0_ := Aside0.mk (Kd.R_below (by (with_reducible repeat (first | apply Kd.R_alloc | apply Kd.R_drewN | apply Kd.R_drew)); exact HO124.out) hb); have n1_ := Aside0.mk (Kd.R_lower ho114 (keep_size (w := w) (g := g) (row := none) (spec_l1Post_auHK))); have n2_ := Aside0.mk (IsS58.below (spec_l1Post_auHI0) hb); have n3_ := Aside0.mk (blk_below (g := gb118) (o := .cells #[.int .i64 0, .slice none 0 0] 25 (0, 0)) (spec_l1Post_vb BK118) hb); have n4_ := Aside0.mk (blk_below (g := gb121) (o := .cells #[.int .i64 t119, .slice none 0 0] 25 (0, 0)) (spec_l1Post_vb BK121) hb); have n5_ := Aside0.mk (KeepBut.trans (spec_l1Post_auHK) (KeepBut.of_below hb g none) (.inl rfl)); have n6_ := Aside0.mk (below_step (spec_l1Post_auHB) hb); clear HO124; clear HI0; clear BK118; clear BK121; clear HK; clear HB; have HO124 := n0_; have HO135 := n1_; have HI0 := n2_; have BK118 := n3_; have BK121 := n4_; have HK := n5_; have HB := n6_; clear n0_ n1_ n2_ n3_ n4_ n5_ n6_; clear hb ho114; obtain ⟨Ao115, co115, eo115⟩ := Kd.R_slice HO135.out; subst eo115; have hcz116_0 : w113.cell? ⟨gb121, 0, none⟩ = some (.int .i64 t119) := (blk_cell BK121.out 0).trans rfl; have hcz116_1 : w113.cell? ⟨gb121, 1, none⟩ = some (.slice none 0 0) := (blk_cell BK121.out 1).trans rfl; have hfz116_0 := blk_frozen BK121.out 0; have hfz116_1 := blk_frozen BK121.out 1) | ((with_reducible refine gate_callee (f := 24) rfl ?_); refine goesL_ (some 30) rfl rfl Try.func24 (by kernel_rfl) rfl #[.pointer (some ⟨g, 0, none⟩), .int .i64 5] rfl (by (try simp only [List.map_toArray, List.map_cons, List.map_nil]); first | done | rfl | (simp only [List.length_drop, List.length_take]; rfl)) ?_; (with_reducible refine (spec_l9Rd_pick.calls k g s0_0 t132 5 t136 t137 w0 _ ?side1 ?side2 A7.out).mono ?_); (case side1 => exact spec_l1Post_auHI0); (case side2 => exact spec_l1Post_auHB); rintro e w117 ⟨rfl, hi, hb, hk⟩; refine ⟨_, rfl, ?_⟩; have n0_ := Aside0.mk (KeepBut.blk hk (g' := gb118) (o := .cells #[.int .i64 0, .slice none 0 0] 25 (0, 0)) (by (with_reducible repeat (first | refine blk_drewN ?_ _ | refine blk_drew ?_ | refine blk_alloc ?_ _)); refine blk_far ?_ NB118_121.out _; (with_reducible repeat (first | refine blk_drewN ?_ _ | refine blk_drew ?_ | refine blk_alloc ?_ _)); exact BK118.out) NB118_0.out (by simp)); have n1_ := Aside0.mk (KeepBut.blk hk (g' := gb121) (o := .cells #[.int .i64 t119, .slice Ao115 y133.length co115] 25 (0, 0)) (by (with_reducible repeat (first | refine blk_drewN ?_ _ | refine blk_drew ?_ | refine blk_alloc ?_ _)); refine blk_put (cs := #[.int .i64 t119, .slice none 0 0]) ?_ 1 _ rfl; (with_reducible repeat (first | refine blk_drewN ?_ _ | refine blk_drew ?_ | refine blk_alloc ?_ _)); exact BK121.out) NB121_0.out (by simp)); have n2_ := Aside0.mk (Kd.R_mono (Kd.R_keep (IsS58.apart (show IsS58 w0 _ g s0_0 t132 from spec_l1Post_auHI0) (by (with_reducible repeat (first | apply Kd.R_alloc | apply Kd.R_drewN | apply Kd.R_drew)); exact (Kd.R_mono (Kd.R_far (p := ⟨gb121, 1, none⟩) (Kd.R_types HO124.out BK121.out (by decide)) (fun _ hk => hk.2) (.slice Ao115 y133.length co115)) (fun _ h_ => h_.1))) (by decide)) hk (fun _ h => h.2)) (fun _ h => h.1)); have n3_ := Aside0.mk (Kd.R_mono (Kd.R_keep (IsS58.apart (show IsS58 w0 _ g s0_0 t132 from spec_l1Post_auHI0) (by (with_reducible repeat (first | apply Kd.R_alloc | apply Kd.R_drewN | apply Kd.R_drew)); exact (Kd.R_mono (Kd.R_far (p := ⟨gb121, 1, none⟩) (Kd.R_types HO135.out BK121.out (by decide)) (fun _ hk => hk.2) (.slice Ao115 y133.length co115)) (fun _ h_ => h_.1))) (by decide)) hk (fun _ h => h.2)) (fun _ h => h.1)); have n4_ := Aside0.mk (KeepBut.trans (spec_l1Post_auHK) hk (.inl rfl)); have n5_ := Aside0.mk (hb); have n6_ := Aside0.mk (hi); clear BK118; clear BK121; clear HO124; clear HO135; clear HK; clear HB; clear HI0; have BK118 := n0_; have BK121 := n1_; have HO124 := n2_; have HO135 := n3_; have HK := n4_; have HB := n5_; have HI0 := n6_; clear n0_ n1_ n2_ n3_ n4_ n5_ n6_; (try clear hb); (try clear hb2); (try clear hk); (try clear hi); have hcz118_0 : w117.cell? ⟨gb121, 0, none⟩ = some (.int .i64 t119) := (blk_cell BK121.out 0).trans rfl; have hcz118_1 : w117.cell? ⟨gb121, 1, none⟩ = some (.slice Ao115 y133.length co115) := (blk_cell BK121.out 1).trans rfl; have hfz118_0 := blk_frozen BK121.out 0; have hfz118_1 := blk_frozen BK121.out 1; have hnb119 := NB118_0.out; have hnc119 := NB0_118.out; have hcz120_0 : w117.cell? ⟨gb118, 0, none⟩ = some (.int .i64 0) := (blk_cell BK118.out 0).trans rfl; have hcz120_1 : w117.cell? ⟨gb118, 1, none⟩ = some (.slice none 0 0) := (blk_cell BK118.out 1).trans rfl; have hfz120_0 := blk_frozen BK118.out 0; have hfz120_1 := blk_frozen BK118.out 1))
   refine bodyPost_ret (results_cell_row rfl _ _ gb118 25 #[.int .i64 t119, .slice Ao115 y133.length co115] (0, 0) _ rfl (by (with_reducible repeat (first | refine blk_drewN ?_ _ | refine blk_drew ?_ | refine blk_alloc ?_ _)); refine blk_put (cs := #[.int .i64 t119, .slice none 0 0]) ?_ 1 _ rfl; (with_reducible repeat (first | refine blk_drewN ?_ _ | refine blk_drew ?_ | refine blk_alloc ?_ _)); refine blk_put (cs := #[.int .i64 0, .slice none 0 0]) ?_ 0 _ rfl; (with_reducible repeat (first | refine blk_drewN ?_ _ | refine blk_drew ?_ | refine blk_alloc ?_ _)); exact BK118.out) Try.underlying25 rfl (by kernel_rfl)) rfl ?_
   exact ⟨_, by first | rfl | (simp [errW_none, errW_some] <;> rfl) | (simp [*, errW_none, errW_some] <;> rfl), by (with_reducible repeat (first | apply Kd.R_alloc | apply Kd.R_drewN | apply Kd.R_drew)); exact Kd.R_mono (Kd.R_far (p := ⟨gb118, 1, none⟩) (Kd.R_far (p := ⟨gb118, 0, none⟩) (Kd.R_types HO135.out BK118.out (by decide)) (fun _ hk => hk.2) (.int .i64 t119)) (fun _ hk => hk.2) (.slice Ao115 y133.length co115)) (fun _ hk => trivial), spec_l1Post_auHI0, spec_l1Post_auHB, spec_l1Post_auHK⟩

/-! ### spec_l1Copy: function 31 -/
def spec_l1Copy.f (a0_0 : Int) (l0_1 : List (S29)) : Option (Int × (List (S29))) := (some (([] : List (S29)) : List (S29))).bind fun y158 => (if y158.length + l0_1.length < 4398046511104 then (some (a0_0, (y158 ++ l0_1))) else (none))
def spec_l1Copy.T1 : Bool × List (List Nat × List Nat) := (true, [([], []), ([0], [0]), ([], []), ([], []), ([3], [3]), ([2, 4], [2, 4]), ([1, 5], [1, 5]), ([6, 5, 0, 1, 2, 3, 4, 5, 6], [6])])
def spec_l1Copy.B1 : List Nat := [0, 1, 0, 0, 8, 28, 63, 127]
theorem spec_l1Copy.tab1 : rtab .any (opsOf Try.f31 1) = spec_l1Copy.T1 := by kernel_rfl
theorem spec_l1Copy.bits1 : waitsOk spec_l1Copy.T1.2 spec_l1Copy.B1 = true := by kernel_rfl
theorem spec_l1Copy_vb {p q : Prop} (h : Aside0 p) (k : p → q := by (intro hz; (with_reducible repeat (first | refine blk_drewN ?_ _ | refine blk_drew ?_ | refine blk_alloc ?_ _)); exact hz)) : q := k h.out
theorem spec_l1Copy_auHB {q : Prop} (h : q := by (repeat (first | (with_reducible first | exact HB.out | apply below_alloc | apply pw_below_drewN | apply below_drew1 | refine below_set ?_ GE156.out | refine below_set ?_ GE157.out) | exact HB.out))) : q := h
set_option maxHeartbeats 8000000 in
set_option maxRecDepth 100000 in
theorem spec_l1Copy.calls (a0_0 : Int) (A0_1 : Option Addr) (c0_1 : Nat) (l0_1 : List (S29)) (r1 : Int) (r2 : List (S29)) (w : World) (hr0_1 : Kd.C k29 w A0_1 l0_1.length l0_1) (hc0_1 : l0_1.length ≤ c0_1) (h : spec_l1Copy.f a0_0 l0_1 = some (r1, r2)) :
  Calls Try.prog 31 #[.agg #[.int .i64 a0_0, .slice A0_1 l0_1.length c0_1]] w fun e w' => ∃ v1_ : Value, e = .returned (.agg #[.int .i64 r1, v1_]) ∧ Kd.R k29 29 w' w.heap.size (fun _ => True) v1_ r2 ∧ Below w.heap.size w w' := by
 have hu25 := Try.underlying25
 have HR0_1 := Aside0.mk hr0_1
 have HC0_1 := Aside0.mk hc0_1
 clear hr0_1 hc0_1
 have HB := Aside0.mk (Below.refl w.heap.size w)
 have H : ((some (([] : List (S29)) : List (S29))).bind fun y158 => (if y158.length + l0_1.length < 4398046511104 then (some (a0_0, (y158 ++ l0_1))) else (none))) = some (r1, r2) := h
 clear h
 obtain ⟨y158, hy158⟩ : ∃ y_ : List (S29), y_ = (([] : List (S29))) := ⟨_, rfl⟩
 replace H : (if y158.length + l0_1.length < 4398046511104 then (some (a0_0, (y158 ++ l0_1))) else (none)) = some (r1, r2) := by first | (rw [hy158]; with_reducible exact H) | (have H2_ := (Option.bind_some _ _).symm.trans H; rw [hy158]; with_reducible exact H2_) | (have H2_ := (Option.bind_some _ _).symm.trans H; with_reducible exact H2_) | with_reducible exact H | (rw [hy158]; exact H) | exact H
 have Ny158 := Aside0.mk hy158
 clear hy158
 by_cases c2 : y158.length + l0_1.length < 4398046511104
 ·
  rw [if_pos c2] at H
  have LMc2 := Aside0.mk c2
  clear c2
  obtain ⟨y161, hy161⟩ : ∃ y_ : List (S29), y_ = (y158 ++ l0_1) := ⟨_, rfl⟩
  replace H : (some (a0_0, y161)) = some (r1, r2) := by first | (rw [hy161]; with_reducible exact H) | (have H2_ := (Option.bind_some _ _).symm.trans H; rw [hy161]; with_reducible exact H2_) | (have H2_ := (Option.bind_some _ _).symm.trans H; with_reducible exact H2_) | with_reducible exact H | (rw [hy161]; exact H) | exact H
  have Ny161 := Aside0.mk hy161
  clear hy161
  simp only [Option.some.injEq, Prod.mk.injEq] at H
  obtain ⟨rfl, rfl⟩ := H
  go_enter Try.func31, Try.ntmps31
  try go_wp2_with (first | ((with_reducible refine gate_dst (N := 1) rfl ?_); refine box_event ?hg (N := 1) ?hd (cs := #[.int .i64 a0_0, .slice A0_1 l0_1.length c0_1]) (t := 25) ?hr ?_; (case hd => rfl); (case hg => rfl); (case hr => first | (go_simp; done) | (go_simp; rfl)); intro gb156 hg w3 hbox hb; have n0_ := Aside0.mk (below_step (spec_l1Copy_auHB) hb); have n1_ := Aside0.mk (hbox); have n2_ := Aside0.mk ((by rw [hg]; exact (below_size (spec_l1Copy_auHB)) : w.heap.size ≤ gb156)); have n3_ := Aside0.mk ((by rw [hg]; exact (below_size (spec_l1Copy_auHB)) : w.heap.size ≤ gb156)); clear HB; have HB := n0_; have BK156 := n1_; have GW156 := n2_; have GE156 := n3_; clear n0_ n1_ n2_ n3_; clear hb hbox hg) | ((with_reducible refine gate_dst (N := 2) rfl ?_); refine box_event ?hg (N := 2) ?hd (cs := #[.int .i64 0, .slice none 0 0]) (t := 25) ?hr ?_; (case hd => rfl); (case hg => rfl); (case hr => first | (go_simp; done) | (go_simp; rfl)); intro gb157 hg w4 hbox hb; have n0_ := Aside0.mk (blk_below (g := gb156) (o := .cells #[.int .i64 a0_0, .slice A0_1 l0_1.length c0_1] 25 (0, 0)) (spec_l1Copy_vb BK156) hb); have n1_ := Aside0.mk (below_step (spec_l1Copy_auHB) hb); have n2_ := Aside0.mk (hbox); have n3_ := Aside0.mk ((by rw [hg]; exact (below_size (spec_l1Copy_auHB)) : w.heap.size ≤ gb157)); have n4_ := Aside0.mk ((by rw [hg]; exact (below_size (spec_l1Copy_auHB)) : w.heap.size ≤ gb157)); have n5_ := Aside0.mk ((by rw [hg]; exact Nat.ne_of_lt (blk_lt (g := gb156) (o := .cells #[.int .i64 a0_0, .slice A0_1 l0_1.length c0_1] 25 (0, 0)) (spec_l1Copy_vb BK156)) : gb156 ≠ gb157)); have n6_ := Aside0.mk ((by rw [hg]; exact Nat.ne_of_gt (blk_lt (g := gb156) (o := .cells #[.int .i64 a0_0, .slice A0_1 l0_1.length c0_1] 25 (0, 0)) (spec_l1Copy_vb BK156)) : gb157 ≠ gb156)); clear BK156; clear HB; have BK156 := n0_; have HB := n1_; have BK157 := n2_; have GW157 := n3_; have GE157 := n4_; have NB156_157 := n5_; have NB157_156 := n6_; clear n0_ n1_ n2_ n3_ n4_ n5_ n6_; clear hb hbox hg))
  have n0_ := Aside0.mk (blk_drew BK156.out)
  have n1_ := Aside0.mk (blk_drew BK157.out)
  have n2_ := Aside0.mk (below_drew1 HB.out)
  clear BK156
  clear BK157
  clear HB
  have BK156 := n0_
  have BK157 := n1_
  have HB := n2_
  clear n0_ n1_ n2_
  refine start_ (n := 8) (S := fun w' => w'.cell? ⟨gb156, 0, none⟩ = some (.int .i64 a0_0) ∧ w'.cell? ⟨gb156, 1, none⟩ = some (.slice A0_1 l0_1.length c0_1)) (ds := []) #[false, false, false, false, false, false, false, false] (by kernel_rfl) rfl rfl ⟨(blk_cell BK156.out 0).trans rfl, (blk_cell BK156.out 1).trans rfl⟩ (fun hHeld => ?_); refine with_tabW spec_l1Copy.tab1 spec_l1Copy.bits1 (fun HT_ HW_ => ?_)
  generalize w4.drew = w5 at BK156 BK157 HB hHeld ⊢
  refine pure_ (i := 0) (N := some 3) (v := ?_) (a' := ?_) #[true, false, false, false, false, false, false, false] rfl rfl (any_of HT_.out (by kernel_rfl)) (fun _ _ _ h => h) (Or.inl ⟨by rfl, ?_⟩) ?_ ?_
  rotate_left
  ·
   intro w'
   go_simp
   with_reducible rfl
  rotate_left
  ·
   simp only [Act.put, List.setIfInBounds_toArray, List.set_cons_zero, List.set_cons_succ, i64_w, i32_w]
   rfl
  refine pure_ (i := 3) (N := some 6) (v := ?_) (a' := ?_) #[true, false, false, true, false, false, false, false] rfl rfl (any_of HT_.out (by kernel_rfl)) (fun _ _ _ h => h) (Or.inl ⟨by rfl, ?_⟩) ?_ ?_
  rotate_left
  ·
   intro w'
   go_simp
   with_reducible rfl
  rotate_left
  ·
   simp only [Act.put, List.setIfInBounds_toArray, List.set_cons_zero, List.set_cons_succ, i64_w, i32_w]
   rfl
  refine take_ (i := 1) (N := some 4) (v := ?_) (a' := ?_) #[true, true, false, true, false, false, false, false] rfl rfl (take_ofW HT_.out HW_.out (by kernel_rfl)) (fun _ _ _ h => h) (Or.inl ⟨by rfl, ?_⟩) hHeld ?_ ?_
  rotate_left
  ·
   rintro w' ⟨s0, s1⟩
   go_simp
   with_reducible rfl
  rotate_left
  ·
   simp only [Act.put, List.setIfInBounds_toArray, List.set_cons_zero, List.set_cons_succ, i64_w, i32_w]
   rfl
  refine take_ (i := 4) (N := some 7) (v := ?_) (a' := ?_) #[true, true, false, true, true, false, false, false] rfl rfl (take_ofW HT_.out HW_.out (by kernel_rfl)) (fun _ _ _ h => h) (Or.inl ⟨by rfl, ?_⟩) hHeld ?_ ?_
  rotate_left
  ·
   rintro w' ⟨s0, s1⟩
   go_simp
   with_reducible rfl
  rotate_left
  ·
   simp only [Act.put, List.setIfInBounds_toArray, List.set_cons_zero, List.set_cons_succ, i64_w, i32_w]
   rfl
  refine one_ (i := 2) (N := some 5) #[true, true, true, true, true, false, false, false] rfl rfl (one_of HT_.out (by kernel_rfl)) (by decide) (fun K hK => ?_)
  refine Kd.R_lit_step k29 _ 29 ?hg (N := 5) ?hd (xs := ([] : List (S29))) (inner := []) (ok := fun _ => True) (okp := fun _ => True) ?hr ?hp (fun _ hk => hk) trivial (Below.refl _ _) (Nat.le_refl _) (by simp) ?_; (case hd => rfl); (case hg => rfl); (case hr => first | (go_simp; done) | (go_simp; rfl)); (case hp => exact (Reps.none _ _))
  intro v159 w6 ho7 hb hg_ hnew_
  clear hg_ hnew_
  (first | rw [← Ny158.out] at ho7 | (simp only [Int.reduceToNat] at ho7; rw [← Ny158.out] at ho7))
  have n0_ := Aside0.mk (Kd.R_lower ho7 (below_size (spec_l1Copy_auHB)))
  have n1_ := Aside0.mk (blk_below (g := gb156) (o := .cells #[.int .i64 a0_0, .slice A0_1 l0_1.length c0_1] 25 (0, 0)) (spec_l1Copy_vb BK156) hb)
  have n2_ := Aside0.mk (blk_below (g := gb157) (o := .cells #[.int .i64 0, .slice none 0 0] 25 (0, 0)) (spec_l1Copy_vb BK157) hb)
  have n3_ := Aside0.mk (below_step (spec_l1Copy_auHB) hb)
  clear BK156
  clear BK157
  clear HB
  have HO160 := n0_
  have BK156 := n1_
  have BK157 := n2_
  have HB := n3_
  clear n0_ n1_ n2_ n3_
  clear hb ho7
  refine hK.out _ _ ⟨(blk_cell BK156.out 0).trans rfl, (blk_cell BK156.out 1).trans rfl⟩ (fun hHeld => ?_)
  clear hK K
  refine norm_ (a' := ?_) ?_ ?_
  rotate_left
  ·
   show Act.put _ (some 5) _ = _
   simp only [Act.put, List.setIfInBounds_toArray, List.set_cons_zero, List.set_cons_succ, i64_w, i32_w]
   rfl
  refine one_ (i := 5) (N := some 8) #[true, true, true, true, true, true, false, false] rfl rfl (one_of HT_.out (by kernel_rfl)) (by decide) (fun K hK => ?_)
  refine Kd.R_append_rows_step k29 (w0 := w) w.heap.size (by rfl) (.tmp 5) (.tmp 7) 23 29 (.agg #[(.string ⟨#[]⟩), (.int .i64 0), (.int .i64 0)]) 32 rfl Try.underlying23 info29 rfl (by decide) (by omega) v159 y158 l0_1 _ _ _ (fun _ => True) (fun _ => False) rfl rfl ?aO ?aR (fun _ _ h => h) (fun _ h => h.elim) ?aF ?aB ?aS ?aL ?_
  (case aR => repeat (first | exact (Kd.C_below HR0_1.out HB.out) | (with_reducible refine Kd.C_alloc ?_ _) | (with_reducible refine Kd.C_drewN ?_ _) | (with_reducible refine Kd.C_drew ?_)))
  (case aB => exact (spec_l1Copy_auHB))
  (case aF => exact (fun _ _ => trivial))
  (case aO => exact (by (with_reducible repeat (first | apply Kd.R_alloc | apply Kd.R_drewN | apply Kd.R_drew)); exact HO160.out))
  (case aS => exact (below_size (spec_l1Copy_auHB)))
  (case aL => have := LMc2.out; omega)
  intro v162 w8 ho hb hg hat
  rw [← Ny161.out] at ho
  have n0_ := Aside0.mk (blk_grown (g := gb156) (o := .cells #[.int .i64 a0_0, .slice A0_1 l0_1.length c0_1] 25 (0, 0)) (spec_l1Copy_vb BK156) hg (Kd.R_ne HO160.out BK156.out (by decide)))
  have n1_ := Aside0.mk (blk_grown (g := gb157) (o := .cells #[.int .i64 0, .slice none 0 0] 25 (0, 0)) (spec_l1Copy_vb BK157) hg (Kd.R_ne HO160.out BK157.out (by decide)))
  have n2_ := Aside0.mk (hb)
  have n3_ := Aside0.mk (ho)
  clear BK156
  clear BK157
  clear HB
  clear HO160
  have BK156 := n0_
  have BK157 := n1_
  have HB := n2_
  have HO163 := n3_
  clear n0_ n1_ n2_ n3_
  clear ho hb hg hat
  obtain ⟨Ao9, co9, eo9⟩ := Kd.R_slice HO163.out
  (first | subst eo9 | (injection eo9 with f1_ f2_ f3_; have f4_ := f1_.symm; have f5_ := f3_.symm; clear f1_ f2_ f3_; subst f4_; subst f5_))
  refine hK.out _ _ ⟨(blk_cell BK156.out 0).trans rfl, (blk_cell BK156.out 1).trans rfl⟩ (fun hHeld => ?_)
  clear hK K
  refine norm_ (a' := ?_) ?_ ?_
  rotate_left
  ·
   show Act.put _ (some 8) _ = _
   simp only [Act.put, List.setIfInBounds_toArray, List.set_cons_zero, List.set_cons_succ, i64_w, i32_w]
   rfl
  refine pure_ (i := 6) (N := some 9) (v := ?_) (a' := ?_) #[true, true, true, true, true, true, true, false] rfl rfl (any_of HT_.out (by kernel_rfl)) (fun _ _ _ h => h) (Or.inl ⟨by rfl, ?_⟩) ?_ ?_
  rotate_left
  ·
   intro w'
   go_simp
   with_reducible rfl
  rotate_left
  ·
   simp only [Act.put, List.setIfInBounds_toArray, List.set_cons_zero, List.set_cons_succ, i64_w, i32_w]
   rfl
  refine one_ (i := 7) (N := none) #[true, true, true, true, true, true, true, true] rfl rfl (one_of HT_.out (by kernel_rfl)) (by decide) (fun K hK => ?_)
  have hs10 : w8.cell? ⟨gb157, 0, none⟩ = some (.int .i64 0) := (blk_cell BK157.out 0).trans rfl
  have hfs10 := blk_frozen BK157.out 0
  have hns10_0 := NB156_157.out
  have hms10_0 := NB157_156.out
  have hs11 : w8.cell? ⟨gb157, 1, none⟩ = some (.slice none 0 0) := (blk_cell BK157.out 1).trans rfl
  have hfs11 := blk_frozen BK157.out 1
  have hns11_0 := NB156_157.out
  have hms11_0 := NB157_156.out
  refine skip_ (w1 := ?_) (by rfl) rfl ?_ ?_
  rotate_left
  ·
   go_simp
   rfl
  refine hK.out _ _ ⟨((cell_far (p := ⟨gb157, _, none⟩) NB156_157.out _).trans (((cell_far (p := ⟨gb157, _, none⟩) NB156_157.out _).trans (hHeld.1)))), ((cell_far (p := ⟨gb157, _, none⟩) NB156_157.out _).trans (((cell_far (p := ⟨gb157, _, none⟩) NB156_157.out _).trans (hHeld.2))))⟩ (fun hHeld => ?_)
  clear hK K
  refine done_ (done_of HT_.out (by kernel_rfl)) ?_
  try go_wp2
  refine bodyPost_ret (results_cell_row rfl _ _ gb157 25 #[.int .i64 a0_0, .slice Ao9 y161.length co9] (0, 0) _ rfl (by (with_reducible repeat (first | refine blk_drewN ?_ _ | refine blk_drew ?_ | refine blk_alloc ?_ _)); refine blk_put (cs := #[.int .i64 a0_0, .slice none 0 0]) ?_ 1 _ rfl; (with_reducible repeat (first | refine blk_drewN ?_ _ | refine blk_drew ?_ | refine blk_alloc ?_ _)); refine blk_put (cs := #[.int .i64 0, .slice none 0 0]) ?_ 0 _ rfl; (with_reducible repeat (first | refine blk_drewN ?_ _ | refine blk_drew ?_ | refine blk_alloc ?_ _)); exact BK157.out) Try.underlying25 rfl (by kernel_rfl)) rfl ?_
  exact ⟨_, by first | rfl | (simp [errW_none, errW_some] <;> rfl) | (simp [*, errW_none, errW_some] <;> rfl), by (with_reducible repeat (first | apply Kd.R_alloc | apply Kd.R_drewN | apply Kd.R_drew)); exact Kd.R_mono (Kd.R_far (p := ⟨gb157, 1, none⟩) (Kd.R_far (p := ⟨gb157, 0, none⟩) (Kd.R_types HO163.out BK157.out (by decide)) (fun _ hk => hk.2) (.int .i64 a0_0)) (fun _ hk => hk.2) (.slice Ao9 y161.length co9)) (fun _ hk => trivial), spec_l1Copy_auHB⟩
 ·
  rw [if_neg c2] at H
  exact absurd H (by simp)

/-! ### spec_l1Max: function 32 -/
def spec_l1Max.f (a0 : Int) (a1 : Int) : Option (Int) := if a0 > a1 then (some a0) else (some a1)
set_option maxHeartbeats 8000000 in
set_option maxRecDepth 100000 in
theorem spec_l1Max.calls (a0 : Int) (a1 : Int) (r : Int) (w : World) (h : spec_l1Max.f a0 a1 = some r) :
    Calls Try.prog 32 #[.int .i64 a0, .int .i64 a1] w fun e w' => e = .returned (.int .i64 r) ∧ Drawn0 w w' := by
  have H : (if a0 > a1 then (some a0) else (some a1)) = some r := h
  clear h
  by_cases c3 : a0 > a1
  · rw [if_pos c3] at H
    have c3b0 : decide (a1 < a0) = true := decide_eq_true c3
    clear c3
    obtain rfl := Option.some.inj H
    go_enter Try.func32, Try.ntmps32
    go_wp2
    go_ret
    exact ⟨by first | rfl | (simp; done) | (simp [*]; done), by repeat (first | exact Drawn0.refl _ | apply Drawn0.step)⟩
  · rw [if_neg c3] at H
    have c3b0 : decide (a1 < a0) = false := decide_eq_false c3
    clear c3
    obtain rfl := Option.some.inj H
    go_enter Try.func32, Try.ntmps32
    go_wp2
    go_ret
    exact ⟨by first | rfl | (simp; done) | (simp [*]; done), by repeat (first | exact Drawn0.refl _ | apply Drawn0.step)⟩


end Go.Proofs.Ytemnggadcgmmkaa.QFnPostJoin

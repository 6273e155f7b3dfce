/- What the law FnPostJoin reaches, function by function: what each computes, and that the machine's call comes to it. Laid by a program. -/
import Derived.Test.YtemnggadcgmmkaaQFnPostJoinx0
import Derived.Test.YtemnggadcgmmkaaQFnPostJoinx4
import Derived.Test.YtemnggadcgmmkaaQFnPostJoinx5
import Derived.Test.YtemnggadcgmmkaaQFnPostJoinx6
namespace Go.Proofs.Ytemnggadcgmmkaa.QFnPostJoin
open Go.RowKit Go.Proofs.YtemnggadcgmmkaaW.PrintWords Go.Proofs.YtemnggadcgmmkaaW.PrintLast Go.Proofs.YtemnggadcgmmkaaW.PrintMore
attribute [local go_sem] max2_int min2_int max_two min_two max_three min_three max_four min_four   -- for this text's walks alone
set_option linter.unusedVariables false
set_option linter.unusedSimpArgs false

/-! ### laws_FnPostJoin: function 4 -/
def laws_FnPostJoin.f (k : Nat) (l0 : List Int) (l1 : List Int) : Option (Bool) := if (l0.length : Int) > 1048576 then (some true) else (if (l1.length : Int) > 1048576 then (some true) else ((spec_DrawPostTo.f k l0).bind fun bt262 => ((impl_PostTo.f k bt262.1 bt262.2.1 bt262.2.2.1 bt262.2.2.2).bind fun t269 => ((spec_PostTo.f k bt262.1 bt262.2.1 bt262.2.2.1 bt262.2.2.2).bind fun t270 => (if t269 = t270 then ((spec_PostOk.f k bt262.1 bt262.2.1).bind fun t271 => (if t271 = true then (if (bt262.2.1.length : Int) < 2 then ((spec_PostTo.f k bt262.1 bt262.2.1 bt262.2.2.1 bt262.2.2.2).bind fun t272 => (some (t269 == t272))) else (if (wrap64 ((bt262.2.1.length : Int) - 1)) = 0 then (none) else (if 0 ≤ (wrap64 (1 + ((l1.length : Int) % (wrap64 ((bt262.2.1.length : Int) - 1))))) then (if (wrap64 (1 + ((l1.length : Int) % (wrap64 ((bt262.2.1.length : Int) - 1))))) ≤ (bt262.2.1.length : Int) then ((some (bt262.2.1.take ((wrap64 (1 + ((l1.length : Int) % (wrap64 ((bt262.2.1.length : Int) - 1))))) : Int).toNat : List (S29))).bind fun y273 => ((some (bt262.2.1.drop ((wrap64 (1 + ((l1.length : Int) % (wrap64 ((bt262.2.1.length : Int) - 1))))) : Int).toNat : List (S29))).bind fun y278 => ((impl_PostTo.f k 1 y273 bt262.2.2.1 bt262.2.2.2).bind fun t283 => ((impl_PostTo.f k 2 y278 bt262.2.2.1 bt262.2.2.2).bind fun t284 => (if (wrap64 (t283 + t284)) = t269 then ((impl_PostSum.f k 1 y273 bt262.2.2.2).bind fun t285 => ((impl_PostSum.f k 2 y278 bt262.2.2.2).bind fun t286 => ((impl_PostSum.f k bt262.1 bt262.2.1 bt262.2.2.2).bind fun t287 => (if (wrap64 (t285 + t286)) = t287 then ((impl_PostFair.f k bt262.1 bt262.2.1).bind fun t288 => (if t288 = true then ((impl_PostFair.f k 1 y273).bind fun t289 => ((impl_PostFair.f k 2 y278).bind fun t290 => (some (t289 == t290)))) else (some true))) else (none))))) else (none)))))) else (none)) else (none)))) else ((spec_PostTo.f k bt262.1 bt262.2.1 bt262.2.2.1 bt262.2.2.2).bind fun t291 => (some (t269 == t291))))) else ((spec_PostTo.f k bt262.1 bt262.2.1 bt262.2.2.1 bt262.2.2.2).bind fun t292 => (some (t269 == t292))))))))
theorem laws_FnPostJoin.mono : ∀ a0 a1 k, LeO (laws_FnPostJoin.f k a0 a1) (laws_FnPostJoin.f (k + 1) a0 a1) := by
  intro a0 a1 k
  unfold laws_FnPostJoin.f
  repeat' first
      | (with_reducible exact impl_PostFair.mono _ _ _)
      | (with_reducible exact impl_PostSum.mono _ _ _ _)
      | (with_reducible exact impl_PostTo.mono _ _ _ _ _)
      | (with_reducible exact spec_DrawPostTo.mono _ _)
      | (with_reducible exact spec_PostOk.mono _ _ _)
      | (with_reducible exact spec_PostTo.mono _ _ _ _ _)
      | (with_reducible exact LeO.refl _)
      | (with_reducible exact LeO.none _)
      | (with_reducible refine LeO.ite ?_ ?_)
      | (with_reducible refine LeO.bind ?_ (fun _ => ?_))
      | exact impl_PostFair.mono _ _ _
      | exact impl_PostSum.mono _ _ _ _
      | exact impl_PostTo.mono _ _ _ _ _
      | exact spec_DrawPostTo.mono _ _
      | exact spec_PostOk.mono _ _ _
      | exact spec_PostTo.mono _ _ _ _ _
      | exact LeO.none _
      | refine LeO.ite ?_ ?_
      | refine LeO.bind ?_ (fun _ => ?_)
def laws_FnPostJoin.T10 : Bool × List (List Nat × List Nat) := (true, [([], []), ([], []), ([], []), ([0, 1, 2], [0, 1, 2]), ([], []), ([], []), ([], []), ([4, 5, 6, 3], [4, 5, 6]), ([3, 7], [3, 7]), ([], []), ([8, 9], [8, 9]), ([10, 7], [10]), ([11], [11]), ([11], [11]), ([12, 13, 11, 11], [11, 12, 13]), ([11], [11]), ([11], [11]), ([15, 16, 14, 11], [11, 15, 16]), ([14, 17, 11], [11, 14, 17]), ([11], [11]), ([11], [11]), ([19, 20, 17, 11], [11, 19, 20]), ([18, 21, 11], [11, 18, 21]), ([11, 22], [11, 22]), ([23, 21], [23]), ([24], [24]), ([25, 24, 24], [24, 25]), ([26, 24], [24, 26]), ([27, 26, 24], [24, 27]), ([28], [28]), ([29, 28, 28], [28, 29]), ([28], [28]), ([31, 30, 28], [28, 31]), ([30, 32, 28], [28, 30, 32]), ([28, 33, 24], [24, 28, 33]), ([24, 34], [24, 34]), ([35, 32, 0, 1, 2, 3, 4, 5, 6, 7, 8, 9, 10, 11, 12, 13, 14, 15, 16, 17, 18, 19, 20, 21, 22, 23, 24, 25, 26, 27, 28, 29, 30, 31, 32, 33, 34, 35], [35])])
def laws_FnPostJoin.B10 : List Nat := [0, 0, 0, 7, 0, 0, 0, 127, 255, 0, 1023, 2047, 4095, 4095, 16383, 4095, 4095, 131071, 262143, 4095, 4095, 1835007, 4194303, 8388607, 16777215, 33554431, 67108863, 134217727, 268435455, 536870911, 1073741823, 536870911, 4294967295, 8589934591, 17179869183, 34359738367, 68719476735]
theorem laws_FnPostJoin.tab10 : rtab .any (opsOf Try.f4 10) = laws_FnPostJoin.T10 := by kernel_rfl
theorem laws_FnPostJoin.bits10 : waitsOk laws_FnPostJoin.T10.2 laws_FnPostJoin.B10 = true := by kernel_rfl
theorem laws_FnPostJoin_vb {p q : Prop} (h : Aside0 p) (k : p → q := by (intro hz; (with_reducible repeat (first | refine blk_drewN ?_ _ | refine blk_drew ?_ | refine blk_alloc ?_ _)); exact hz)) : q := k h.out
theorem laws_FnPostJoin_auHB {q : Prop} (h : q := by (repeat (first | (with_reducible first | exact HB.out | apply below_alloc | apply pw_below_drewN | apply below_drew1 | refine below_set ?_ GE268.out | refine below_set ?_ GE277.out | refine below_set ?_ GE282.out) | exact HB.out))) : q := h
set_option maxHeartbeats 8000000 in
set_option maxRecDepth 100000 in
theorem laws_FnPostJoin.calls (k : Nat) (A0 : Option Addr) (c0 : Nat) (l0 : List Int) (A1 : Option Addr) (c1 : Nat) (l1 : List Int) (r : Bool) (w : World) (hr0 : Kd.C (Kd.int .u8) w A0 l0.length l0) (hc0 : l0.length ≤ c0) (hr1 : Kd.C (Kd.int .u8) w A1 l1.length l1) (hc1 : l1.length ≤ c1) (h : laws_FnPostJoin.f k l0 l1 = some r) :
  Calls Try.prog 4 #[.slice A0 l0.length c0, .slice A1 l1.length c1] w fun e w' => e = .returned (.bool r) ∧ Below w.heap.size w w' := by
 have hu25 := Try.underlying25
 have HR0 := Aside0.mk hr0
 have HC0 := Aside0.mk hc0
 clear hr0 hc0
 have HR1 := Aside0.mk hr1
 have HC1 := Aside0.mk hc1
 clear hr1 hc1
 have HB := Aside0.mk (Below.refl w.heap.size w)
 have H : (if (l0.length : Int) > 1048576 then (some true) else (if (l1.length : Int) > 1048576 then (some true) else ((spec_DrawPostTo.f k l0).bind fun bt262 => ((impl_PostTo.f k bt262.1 bt262.2.1 bt262.2.2.1 bt262.2.2.2).bind fun t269 => ((spec_PostTo.f k bt262.1 bt262.2.1 bt262.2.2.1 bt262.2.2.2).bind fun t270 => (if t269 = t270 then ((spec_PostOk.f k bt262.1 bt262.2.1).bind fun t271 => (if t271 = true then (if (bt262.2.1.length : Int) < 2 then ((spec_PostTo.f k bt262.1 bt262.2.1 bt262.2.2.1 bt262.2.2.2).bind fun t272 => (some (t269 == t272))) else (if (wrap64 ((bt262.2.1.length : Int) - 1)) = 0 then (none) else (if 0 ≤ (wrap64 (1 + ((l1.length : Int) % (wrap64 ((bt262.2.1.length : Int) - 1))))) then (if (wrap64 (1 + ((l1.length : Int) % (wrap64 ((bt262.2.1.length : Int) - 1))))) ≤ (bt262.2.1.length : Int) then ((some (bt262.2.1.take ((wrap64 (1 + ((l1.length : Int) % (wrap64 ((bt262.2.1.length : Int) - 1))))) : Int).toNat : List (S29))).bind fun y273 => ((some (bt262.2.1.drop ((wrap64 (1 + ((l1.length : Int) % (wrap64 ((bt262.2.1.length : Int) - 1))))) : Int).toNat : List (S29))).bind fun y278 => ((impl_PostTo.f k 1 y273 bt262.2.2.1 bt262.2.2.2).bind fun t283 => ((impl_PostTo.f k 2 y278 bt262.2.2.1 bt262.2.2.2).bind fun t284 => (if (wrap64 (t283 + t284)) = t269 then ((impl_PostSum.f k 1 y273 bt262.2.2.2).bind fun t285 => ((impl_PostSum.f k 2 y278 bt262.2.2.2).bind fun t286 => ((impl_PostSum.f k bt262.1 bt262.2.1 bt262.2.2.2).bind fun t287 => (if (wrap64 (t285 + t286)) = t287 then ((impl_PostFair.f k bt262.1 bt262.2.1).bind fun t288 => (if t288 = true then ((impl_PostFair.f k 1 y273).bind fun t289 => ((impl_PostFair.f k 2 y278).bind fun t290 => (some (t289 == t290)))) else (some true))) else (none))))) else (none)))))) else (none)) else (none)))) else ((spec_PostTo.f k bt262.1 bt262.2.1 bt262.2.2.1 bt262.2.2.2).bind fun t291 => (some (t269 == t291))))) else ((spec_PostTo.f k bt262.1 bt262.2.1 bt262.2.2.1 bt262.2.2.2).bind fun t292 => (some (t269 == t292))))))))) = some r := h
 clear h
 by_cases c3 : (l0.length : Int) > 1048576
 ·
  rw [if_pos c3] at H
  have c3b0 : decide (1048576 < (l0.length : Int)) = true := decide_eq_true c3
  have c3b1 : decide (1048576 < l0.length) = true := decide_eq_true (by omega)
  clear c3
  obtain rfl := Option.some.inj H
  go_enter Try.func4, Try.ntmps4
  go_wp2
  go_ret
  exact ⟨by first | rfl | (simp [errW_none, errW_some] <;> rfl) | (simp [*, errW_none, errW_some] <;> rfl), laws_FnPostJoin_auHB⟩
 ·
  rw [if_neg c3] at H
  have c3b0 : decide (1048576 < (l0.length : Int)) = false := decide_eq_false c3
  have c3b1 : decide (1048576 < l0.length) = false := decide_eq_false (by omega)
  clear c3
  by_cases c4 : (l1.length : Int) > 1048576
  ·
   rw [if_pos c4] at H
   have c4b0 : decide (1048576 < (l1.length : Int)) = true := decide_eq_true c4
   have c4b1 : decide (1048576 < l1.length) = true := decide_eq_true (by omega)
   clear c4
   obtain rfl := Option.some.inj H
   go_enter Try.func4, Try.ntmps4
   go_wp2
   go_ret
   exact ⟨by first | rfl | (simp [errW_none, errW_some] <;> rfl) | (simp [*, errW_none, errW_some] <;> rfl), laws_FnPostJoin_auHB⟩
  ·
   rw [if_neg c4] at H
   have c4b0 : decide (1048576 < (l1.length : Int)) = false := decide_eq_false c4
   have c4b1 : decide (1048576 < l1.length) = false := decide_eq_false (by omega)
   clear c4
   replace H := Option.bind_eq_some_iff.mp H
   obtain ⟨⟨t262, t263, t266, t267⟩, A50, H⟩ := H
   replace H : ((impl_PostTo.f k t262 t263 t266 t267).bind fun t269 => ((spec_PostTo.f k t262 t263 t266 t267).bind fun t270 => (if t269 = t270 then ((spec_PostOk.f k t262 t263).bind fun t271 => (if t271 = true then (if (t263.length : Int) < 2 then ((spec_PostTo.f k t262 t263 t266 t267).bind fun t272 => (some (t269 == t272))) else (if (wrap64 ((t263.length : Int) - 1)) = 0 then (none) else (if 0 ≤ (wrap64 (1 + ((l1.length : Int) % (wrap64 ((t263.length : Int) - 1))))) then (if (wrap64 (1 + ((l1.length : Int) % (wrap64 ((t263.length : Int) - 1))))) ≤ (t263.length : Int) then ((some (t263.take ((wrap64 (1 + ((l1.length : Int) % (wrap64 ((t263.length : Int) - 1))))) : Int).toNat : List (S29))).bind fun y273 => ((some (t263.drop ((wrap64 (1 + ((l1.length : Int) % (wrap64 ((t263.length : Int) - 1))))) : Int).toNat : List (S29))).bind fun y278 => ((impl_PostTo.f k 1 y273 t266 t267).bind fun t283 => ((impl_PostTo.f k 2 y278 t266 t267).bind fun t284 => (if (wrap64 (t283 + t284)) = t269 then ((impl_PostSum.f k 1 y273 t267).bind fun t285 => ((impl_PostSum.f k 2 y278 t267).bind fun t286 => ((impl_PostSum.f k t262 t263 t267).bind fun t287 => (if (wrap64 (t285 + t286)) = t287 then ((impl_PostFair.f k t262 t263).bind fun t288 => (if t288 = true then ((impl_PostFair.f k 1 y273).bind fun t289 => ((impl_PostFair.f k 2 y278).bind fun t290 => (some (t289 == t290)))) else (some true))) else (none))))) else (none)))))) else (none)) else (none)))) else ((spec_PostTo.f k t262 t263 t266 t267).bind fun t291 => (some (t269 == t291))))) else ((spec_PostTo.f k t262 t263 t266 t267).bind fun t292 => (some (t269 == t292)))))) = some r := H
   have A5 := Aside0.mk A50
   clear A50
   replace H := Option.bind_eq_some_iff.mp H
   obtain ⟨t269, A60, H⟩ := H
   replace H : ((spec_PostTo.f k t262 t263 t266 t267).bind fun t270 => (if t269 = t270 then ((spec_PostOk.f k t262 t263).bind fun t271 => (if t271 = true then (if (t263.length : Int) < 2 then ((spec_PostTo.f k t262 t263 t266 t267).bind fun t272 => (some (t269 == t272))) else (if (wrap64 ((t263.length : Int) - 1)) = 0 then (none) else (if 0 ≤ (wrap64 (1 + ((l1.length : Int) % (wrap64 ((t263.length : Int) - 1))))) then (if (wrap64 (1 + ((l1.length : Int) % (wrap64 ((t263.length : Int) - 1))))) ≤ (t263.length : Int) then ((some (t263.take ((wrap64 (1 + ((l1.length : Int) % (wrap64 ((t263.length : Int) - 1))))) : Int).toNat : List (S29))).bind fun y273 => ((some (t263.drop ((wrap64 (1 + ((l1.length : Int) % (wrap64 ((t263.length : Int) - 1))))) : Int).toNat : List (S29))).bind fun y278 => ((impl_PostTo.f k 1 y273 t266 t267).bind fun t283 => ((impl_PostTo.f k 2 y278 t266 t267).bind fun t284 => (if (wrap64 (t283 + t284)) = t269 then ((impl_PostSum.f k 1 y273 t267).bind fun t285 => ((impl_PostSum.f k 2 y278 t267).bind fun t286 => ((impl_PostSum.f k t262 t263 t267).bind fun t287 => (if (wrap64 (t285 + t286)) = t287 then ((impl_PostFair.f k t262 t263).bind fun t288 => (if t288 = true then ((impl_PostFair.f k 1 y273).bind fun t289 => ((impl_PostFair.f k 2 y278).bind fun t290 => (some (t289 == t290)))) else (some true))) else (none))))) else (none)))))) else (none)) else (none)))) else ((spec_PostTo.f k t262 t263 t266 t267).bind fun t291 => (some (t269 == t291))))) else ((spec_PostTo.f k t262 t263 t266 t267).bind fun t292 => (some (t269 == t292))))) = some r := H
   have A6 := Aside0.mk A60
   clear A60
   replace H := Option.bind_eq_some_iff.mp H
   obtain ⟨t270, A70, H⟩ := H
   replace H : (if t269 = t270 then ((spec_PostOk.f k t262 t263).bind fun t271 => (if t271 = true then (if (t263.length : Int) < 2 then ((spec_PostTo.f k t262 t263 t266 t267).bind fun t272 => (some (t269 == t272))) else (if (wrap64 ((t263.length : Int) - 1)) = 0 then (none) else (if 0 ≤ (wrap64 (1 + ((l1.length : Int) % (wrap64 ((t263.length : Int) - 1))))) then (if (wrap64 (1 + ((l1.length : Int) % (wrap64 ((t263.length : Int) - 1))))) ≤ (t263.length : Int) then ((some (t263.take ((wrap64 (1 + ((l1.length : Int) % (wrap64 ((t263.length : Int) - 1))))) : Int).toNat : List (S29))).bind fun y273 => ((some (t263.drop ((wrap64 (1 + ((l1.length : Int) % (wrap64 ((t263.length : Int) - 1))))) : Int).toNat : List (S29))).bind fun y278 => ((impl_PostTo.f k 1 y273 t266 t267).bind fun t283 => ((impl_PostTo.f k 2 y278 t266 t267).bind fun t284 => (if (wrap64 (t283 + t284)) = t269 then ((impl_PostSum.f k 1 y273 t267).bind fun t285 => ((impl_PostSum.f k 2 y278 t267).bind fun t286 => ((impl_PostSum.f k t262 t263 t267).bind fun t287 => (if (wrap64 (t285 + t286)) = t287 then ((impl_PostFair.f k t262 t263).bind fun t288 => (if t288 = true then ((impl_PostFair.f k 1 y273).bind fun t289 => ((impl_PostFair.f k 2 y278).bind fun t290 => (some (t289 == t290)))) else (some true))) else (none))))) else (none)))))) else (none)) else (none)))) else ((spec_PostTo.f k t262 t263 t266 t267).bind fun t291 => (some (t269 == t291))))) else ((spec_PostTo.f k t262 t263 t266 t267).bind fun t292 => (some (t269 == t292)))) = some r := H
   have A7 := Aside0.mk A70
   clear A70
   by_cases c8 : t269 = t270
   ·
    rw [if_pos c8] at H
    have c8b0 : (t269 == t270) = true := beq_iff_eq.mpr c8
    have c8b1 : (t269 != t270) = false := bne_eq_false_iff_eq.mpr c8
    clear c8
    replace H := Option.bind_eq_some_iff.mp H
    obtain ⟨t271, A90, H⟩ := H
    replace H : (if t271 = true then (if (t263.length : Int) < 2 then ((spec_PostTo.f k t262 t263 t266 t267).bind fun t272 => (some (t269 == t272))) else (if (wrap64 ((t263.length : Int) - 1)) = 0 then (none) else (if 0 ≤ (wrap64 (1 + ((l1.length : Int) % (wrap64 ((t263.length : Int) - 1))))) then (if (wrap64 (1 + ((l1.length : Int) % (wrap64 ((t263.length : Int) - 1))))) ≤ (t263.length : Int) then ((some (t263.take ((wrap64 (1 + ((l1.length : Int) % (wrap64 ((t263.length : Int) - 1))))) : Int).toNat : List (S29))).bind fun y273 => ((some (t263.drop ((wrap64 (1 + ((l1.length : Int) % (wrap64 ((t263.length : Int) - 1))))) : Int).toNat : List (S29))).bind fun y278 => ((impl_PostTo.f k 1 y273 t266 t267).bind fun t283 => ((impl_PostTo.f k 2 y278 t266 t267).bind fun t284 => (if (wrap64 (t283 + t284)) = t269 then ((impl_PostSum.f k 1 y273 t267).bind fun t285 => ((impl_PostSum.f k 2 y278 t267).bind fun t286 => ((impl_PostSum.f k t262 t263 t267).bind fun t287 => (if (wrap64 (t285 + t286)) = t287 then ((impl_PostFair.f k t262 t263).bind fun t288 => (if t288 = true then ((impl_PostFair.f k 1 y273).bind fun t289 => ((impl_PostFair.f k 2 y278).bind fun t290 => (some (t289 == t290)))) else (some true))) else (none))))) else (none)))))) else (none)) else (none)))) else ((spec_PostTo.f k t262 t263 t266 t267).bind fun t291 => (some (t269 == t291)))) = some r := H
    have A9 := Aside0.mk A90
    clear A90
    by_cases c10 : t271 = true
    ·
     subst c10
     have H1 : (if (t263.length : Int) < 2 then ((spec_PostTo.f k t262 t263 t266 t267).bind fun t272 => (some (t269 == t272))) else (if (wrap64 ((t263.length : Int) - 1)) = 0 then (none) else (if 0 ≤ (wrap64 (1 + ((l1.length : Int) % (wrap64 ((t263.length : Int) - 1))))) then (if (wrap64 (1 + ((l1.length : Int) % (wrap64 ((t263.length : Int) - 1))))) ≤ (t263.length : Int) then ((some (t263.take ((wrap64 (1 + ((l1.length : Int) % (wrap64 ((t263.length : Int) - 1))))) : Int).toNat : List (S29))).bind fun y273 => ((some (t263.drop ((wrap64 (1 + ((l1.length : Int) % (wrap64 ((t263.length : Int) - 1))))) : Int).toNat : List (S29))).bind fun y278 => ((impl_PostTo.f k 1 y273 t266 t267).bind fun t283 => ((impl_PostTo.f k 2 y278 t266 t267).bind fun t284 => (if (wrap64 (t283 + t284)) = t269 then ((impl_PostSum.f k 1 y273 t267).bind fun t285 => ((impl_PostSum.f k 2 y278 t267).bind fun t286 => ((impl_PostSum.f k t262 t263 t267).bind fun t287 => (if (wrap64 (t285 + t286)) = t287 then ((impl_PostFair.f k t262 t263).bind fun t288 => (if t288 = true then ((impl_PostFair.f k 1 y273).bind fun t289 => ((impl_PostFair.f k 2 y278).bind fun t290 => (some (t289 == t290)))) else (some true))) else (none))))) else (none)))))) else (none)) else (none)))) = some r := by rw [if_pos rfl] at H; exact H
     clear H
     have H := H1
     clear H1
     by_cases c11 : (t263.length : Int) < 2
     ·
      rw [if_pos c11] at H
      have c11b0 : decide ((t263.length : Int) < 2) = true := decide_eq_true c11
      have c11b1 : decide (t263.length < 2) = true := decide_eq_true (by omega)
      clear c11
      replace H := Option.bind_eq_some_iff.mp H
      obtain ⟨t272, A120, H⟩ := H
      replace H : (some (t269 == t272)) = some r := H
      have A12 := Aside0.mk A120
      clear A120
      obtain rfl := Option.some.inj H
      go_enter Try.func4, Try.ntmps4
      go_wp2_with (first | ((with_reducible refine gate_callee (f := 15) rfl ?_); refine goesL_ (some 22) rfl rfl Try.func15 (by kernel_rfl) rfl #[.slice A0 l0.length c0] rfl (by (try simp only [List.map_toArray, List.map_cons, List.map_nil]); first | done | rfl | (simp only [List.length_drop, List.length_take]; rfl)) ?_; (with_reducible refine (spec_DrawPostTo.calls k _ _ l0 t262 t263 t266 t267 _ ?side1 ?side2 A5.out).mono ?_); (case side1 => repeat (first | exact HR0.out | (with_reducible refine Kd.C_alloc ?_ _) | (with_reducible refine Kd.C_drewN ?_ _) | (with_reducible refine Kd.C_drew ?_))); (case side2 => exact HC0.out); rintro e w13 ⟨v264, rfl, ho0, hb⟩; refine ⟨_, rfl, ?_⟩; have n0_ := Aside0.mk (Kd.R_lower ho0 (below_size (laws_FnPostJoin_auHB))); have n1_ := Aside0.mk (below_step (laws_FnPostJoin_auHB) hb); clear HB; have HO265 := n0_; have HB := n1_; clear n0_ n1_; (try clear hb); (try clear hb2); (try clear hk); (try clear hi); (try clear ho0)) | ((with_reducible refine gate_dst (N := 5) rfl ?_); (try (refine gate_guard (by rfl) ?_; dsimp only)); refine box_event ?hg (N := 5) ?hd (cs := #[.int .i64 0, .slice none 0 0]) (t := 25) ?hr ?_; (case hd => rfl); (case hg => rfl); (case hr => first | (go_simp; done) | (go_simp; rfl)); intro gb268 hg w14 hbox hb; have n0_ := Aside0.mk (Kd.R_below (by (with_reducible repeat (first | apply Kd.R_alloc | apply Kd.R_drewN | apply Kd.R_drew)); exact HO265.out) hb); have n1_ := Aside0.mk (below_step (laws_FnPostJoin_auHB) hb); have n2_ := Aside0.mk (hbox); have n3_ := Aside0.mk ((by rw [hg]; exact (below_size (laws_FnPostJoin_auHB)) : w.heap.size ≤ gb268)); have n4_ := Aside0.mk ((by rw [hg]; exact (below_size (laws_FnPostJoin_auHB)) : w.heap.size ≤ gb268)); clear HO265; clear HB; have HO265 := n0_; have HB := n1_; have BK268 := n2_; have GW268 := n3_; have GE268 := n4_; clear n0_ n1_ n2_ n3_ n4_; clear hb hbox hg; have hcz15_0 : w14.cell? ⟨gb268, 0, none⟩ = some (.int .i64 0) := (blk_cell BK268.out 0).trans rfl; have hcz15_1 : w14.cell? ⟨gb268, 1, none⟩ = some (.slice none 0 0) := (blk_cell BK268.out 1).trans rfl; have hfz15_0 := blk_frozen BK268.out 0; have hfz15_1 := blk_frozen BK268.out 1; obtain ⟨Ao16, co16, eo16⟩ := Kd.R_slice HO265.out; subst eo16) | ((with_reducible refine gate_callee (f := 16) rfl ?_); refine goesL_ (some 29) rfl rfl Try.func16 (by kernel_rfl) rfl #[.agg #[.int .i64 t262, .slice Ao16 t263.length co16], .string t266, .int .i64 t267] rfl (by (try simp only [List.map_toArray, List.map_cons, List.map_nil]); first | done | rfl | (simp only [List.length_drop, List.length_take]; rfl)) ?_; (with_reducible refine (impl_PostTo.calls k t262 _ _ t263 t266 t267 t269 _ ?side1 ?side2 A6.out).mono ?_); (case side1 => refine (Kd.R_reads' (e := 29) (base := w.heap.size) (ok := fun k_ => True) (n := t263.length) (c := co16) ?_).2.2; exact (by (with_reducible repeat (first | apply Kd.R_alloc | apply Kd.R_drewN | apply Kd.R_drew)); exact (Kd.R_mono (Kd.R_far (p := ⟨gb268, 1, none⟩) (Kd.R_far (p := ⟨gb268, 0, none⟩) (Kd.R_types HO265.out BK268.out (by decide)) (fun _ hk => hk.2) (.int .i64 t262)) (fun _ hk => hk.2) (.slice Ao16 t263.length co16)) (fun _ h_ => h_.1)))); (case side2 => exact (Kd.R_reads' HO265.out).2.1); rintro e w17 ⟨rfl, hb⟩; refine ⟨_, rfl, ?_⟩; have n0_ := Aside0.mk (Kd.R_below (by (with_reducible repeat (first | apply Kd.R_alloc | apply Kd.R_drewN | apply Kd.R_drew)); exact (Kd.R_mono (Kd.R_far (p := ⟨gb268, 1, none⟩) (Kd.R_far (p := ⟨gb268, 0, none⟩) (Kd.R_types HO265.out BK268.out (by decide)) (fun _ hk => hk.2) (.int .i64 t262)) (fun _ hk => hk.2) (.slice Ao16 t263.length co16)) (fun _ h_ => h_.1))) hb); have n1_ := Aside0.mk (blk_below (g := gb268) (o := .cells #[.int .i64 t262, .slice Ao16 t263.length co16] 25 (0, 0)) (by (with_reducible repeat (first | refine blk_drewN ?_ _ | refine blk_drew ?_ | refine blk_alloc ?_ _)); refine blk_put (cs := #[.int .i64 t262, .slice none 0 0]) ?_ 1 _ rfl; (with_reducible repeat (first | refine blk_drewN ?_ _ | refine blk_drew ?_ | refine blk_alloc ?_ _)); refine blk_put (cs := #[.int .i64 0, .slice none 0 0]) ?_ 0 _ rfl; (with_reducible repeat (first | refine blk_drewN ?_ _ | refine blk_drew ?_ | refine blk_alloc ?_ _)); exact BK268.out) hb); have n2_ := Aside0.mk (below_step (laws_FnPostJoin_auHB) hb); clear HO265; clear BK268; clear HB; have HO265 := n0_; have BK268 := n1_; have HB := n2_; clear n0_ n1_ n2_; (try clear hb); (try clear hb2); (try clear hk); (try clear hi); have hcz18_0 : w17.cell? ⟨gb268, 0, none⟩ = some (.int .i64 t262) := (blk_cell BK268.out 0).trans rfl; have hcz18_1 : w17.cell? ⟨gb268, 1, none⟩ = some (.slice Ao16 t263.length co16) := (blk_cell BK268.out 1).trans rfl; have hfz18_0 := blk_frozen BK268.out 0; have hfz18_1 := blk_frozen BK268.out 1) | ((with_reducible refine gate_callee (f := 17) rfl ?_); refine goesL_ (some 34) rfl rfl Try.func17 (by kernel_rfl) rfl #[.agg #[.int .i64 t262, .slice Ao16 t263.length co16], .string t266, .int .i64 t267] rfl (by (try simp only [List.map_toArray, List.map_cons, List.map_nil]); first | done | rfl | (simp only [List.length_drop, List.length_take]; rfl)) ?_; (with_reducible refine (spec_PostTo.calls k t262 _ _ t263 t266 t267 t270 _ ?side1 ?side2 A7.out).mono ?_); (case side1 => repeat (first | exact (Kd.R_reads' HO265.out).2.2 | (with_reducible refine Kd.C_alloc ?_ _) | (with_reducible refine Kd.C_drewN ?_ _) | (with_reducible refine Kd.C_drew ?_))); (case side2 => exact (Kd.R_reads' HO265.out).2.1); rintro e w19 ⟨rfl, hb⟩; refine ⟨_, rfl, ?_⟩; have n0_ := Aside0.mk (Kd.R_below (by (with_reducible repeat (first | apply Kd.R_alloc | apply Kd.R_drewN | apply Kd.R_drew)); exact HO265.out) hb); have n1_ := Aside0.mk (blk_below (g := gb268) (o := .cells #[.int .i64 t262, .slice Ao16 t263.length co16] 25 (0, 0)) (laws_FnPostJoin_vb BK268) hb); have n2_ := Aside0.mk (below_step (laws_FnPostJoin_auHB) hb); clear HO265; clear BK268; clear HB; have HO265 := n0_; have BK268 := n1_; have HB := n2_; clear n0_ n1_ n2_; (try clear hb); (try clear hb2); (try clear hk); (try clear hi); have hcz20_0 : w19.cell? ⟨gb268, 0, none⟩ = some (.int .i64 t262) := (blk_cell BK268.out 0).trans rfl; have hcz20_1 : w19.cell? ⟨gb268, 1, none⟩ = some (.slice Ao16 t263.length co16) := (blk_cell BK268.out 1).trans rfl; have hfz20_0 := blk_frozen BK268.out 0; have hfz20_1 := blk_frozen BK268.out 1) | (go_at_call 18; (with_reducible refine (spec_PostOk.calls k t262 _ _ t263 true _ ?side1 ?side2 A9.out).mono ?_); (case side1 => repeat (first | exact (Kd.R_reads' HO265.out).2.2 | (with_reducible refine Kd.C_alloc ?_ _) | (with_reducible refine Kd.C_drewN ?_ _) | (with_reducible refine Kd.C_drew ?_))); (case side2 => exact (Kd.R_reads' HO265.out).2.1); rintro e w21 ⟨rfl, hb⟩; have n0_ := Aside0.mk (Kd.R_below (by (with_reducible repeat (first | apply Kd.R_alloc | apply Kd.R_drewN | apply Kd.R_drew)); exact HO265.out) hb); have n1_ := Aside0.mk (blk_below (g := gb268) (o := .cells #[.int .i64 t262, .slice Ao16 t263.length co16] 25 (0, 0)) (laws_FnPostJoin_vb BK268) hb); have n2_ := Aside0.mk (below_step (laws_FnPostJoin_auHB) hb); clear HO265; clear BK268; clear HB; have HO265 := n0_; have BK268 := n1_; have HB := n2_; clear n0_ n1_ n2_; (try clear hb); (try clear hb2); (try clear hk); (try clear hi); have hcz22_0 : w21.cell? ⟨gb268, 0, none⟩ = some (.int .i64 t262) := (blk_cell BK268.out 0).trans rfl; have hcz22_1 : w21.cell? ⟨gb268, 1, none⟩ = some (.slice Ao16 t263.length co16) := (blk_cell BK268.out 1).trans rfl; have hfz22_0 := blk_frozen BK268.out 0; have hfz22_1 := blk_frozen BK268.out 1) | ((with_reducible refine gate_callee (f := 17) rfl ?_); refine goesL_ (some 51) rfl rfl Try.func17 (by kernel_rfl) rfl #[.agg #[.int .i64 t262, .slice Ao16 t263.length co16], .string t266, .int .i64 t267] rfl (by (try simp only [List.map_toArray, List.map_cons, List.map_nil]); first | done | rfl | (simp only [List.length_drop, List.length_take]; rfl)) ?_; (with_reducible refine (spec_PostTo.calls k t262 _ _ t263 t266 t267 t272 _ ?side1 ?side2 A12.out).mono ?_); (case side1 => repeat (first | exact (Kd.R_reads' HO265.out).2.2 | (with_reducible refine Kd.C_alloc ?_ _) | (with_reducible refine Kd.C_drewN ?_ _) | (with_reducible refine Kd.C_drew ?_))); (case side2 => exact (Kd.R_reads' HO265.out).2.1); rintro e w23 ⟨rfl, hb⟩; refine ⟨_, rfl, ?_⟩; have n0_ := Aside0.mk (Kd.R_below (by (with_reducible repeat (first | apply Kd.R_alloc | apply Kd.R_drewN | apply Kd.R_drew)); exact HO265.out) hb); have n1_ := Aside0.mk (blk_below (g := gb268) (o := .cells #[.int .i64 t262, .slice Ao16 t263.length co16] 25 (0, 0)) (laws_FnPostJoin_vb BK268) hb); have n2_ := Aside0.mk (below_step (laws_FnPostJoin_auHB) hb); clear HO265; clear BK268; clear HB; have HO265 := n0_; have BK268 := n1_; have HB := n2_; clear n0_ n1_ n2_; (try clear hb); (try clear hb2); (try clear hk); (try clear hi)))
      go_ret
      exact ⟨by first | rfl | (simp [errW_none, errW_some] <;> rfl) | (simp [*, errW_none, errW_some] <;> rfl), laws_FnPostJoin_auHB⟩
     ·
      rw [if_neg c11] at H
      have c11b0 : decide ((t263.length : Int) < 2) = false := decide_eq_false c11
      have c11b1 : decide (t263.length < 2) = false := decide_eq_false (by omega)
      clear c11
      by_cases c24 : (wrap64 ((t263.length : Int) - 1)) = 0
      ·
       rw [if_pos c24] at H
       exact absurd H (by simp)
      ·
       rw [if_neg c24] at H
       have c24b0 : ((wrap64 ((t263.length : Int) - 1)) == 0) = false := beq_eq_false_iff_ne.mpr c24
       have c24b1 : ((wrap64 ((t263.length : Int) - 1)) != 0) = true := bne_iff_ne.mpr c24
       obtain ⟨ji25, hji25⟩ : ∃ j_ : Int, (wrap64 (1 + ((l1.length : Int) % (wrap64 ((t263.length : Int) - 1))))) = j_ := ⟨_, rfl⟩
       replace H : (if 0 ≤ (ji25) then (if (ji25) ≤ (t263.length : Int) then ((some (t263.take ((ji25) : Int).toNat : List (S29))).bind fun y273 => ((some (t263.drop ((ji25) : Int).toNat : List (S29))).bind fun y278 => ((impl_PostTo.f k 1 y273 t266 t267).bind fun t283 => ((impl_PostTo.f k 2 y278 t266 t267).bind fun t284 => (if (wrap64 (t283 + t284)) = t269 then ((impl_PostSum.f k 1 y273 t267).bind fun t285 => ((impl_PostSum.f k 2 y278 t267).bind fun t286 => ((impl_PostSum.f k t262 t263 t267).bind fun t287 => (if (wrap64 (t285 + t286)) = t287 then ((impl_PostFair.f k t262 t263).bind fun t288 => (if t288 = true then ((impl_PostFair.f k 1 y273).bind fun t289 => ((impl_PostFair.f k 2 y278).bind fun t290 => (some (t289 == t290)))) else (some true))) else (none))))) else (none)))))) else (none)) else (none)) = some r := by first | (rw [hji25] at H; exact H) | (simp only [hji25] at H ⊢; exact H)
       (try rw [hji25] at A5)
       (try rw [hji25] at A6)
       (try rw [hji25] at A7)
       (try rw [hji25] at A9)
       have hji25w : (IntKind.i64.wrap (1 + ((l1.length : Int) % (wrap64 ((t263.length : Int) - 1))))) = ji25 := (i64_w _).trans hji25
       by_cases c26 : 0 ≤ (ji25)
       ·
        rw [if_pos c26] at H
        have c26b0 := eq_true c26
        have c26b1 : decide (0 ≤ (ji25)) = true := decide_eq_true c26
        clear c26
        by_cases c27 : (ji25) ≤ (t263.length : Int)
        ·
         rw [if_pos c27] at H
         have c27b0 := eq_true c27
         have c27b1 : decide ((ji25) ≤ (t263.length : Int)) = true := decide_eq_true c27
         clear c27
         obtain ⟨y273, hy273⟩ : ∃ y_ : List (S29), y_ = (t263.take ((ji25) : Int).toNat) := ⟨_, rfl⟩
         replace H : ((some (t263.drop ((ji25) : Int).toNat : List (S29))).bind fun y278 => ((impl_PostTo.f k 1 y273 t266 t267).bind fun t283 => ((impl_PostTo.f k 2 y278 t266 t267).bind fun t284 => (if (wrap64 (t283 + t284)) = t269 then ((impl_PostSum.f k 1 y273 t267).bind fun t285 => ((impl_PostSum.f k 2 y278 t267).bind fun t286 => ((impl_PostSum.f k t262 t263 t267).bind fun t287 => (if (wrap64 (t285 + t286)) = t287 then ((impl_PostFair.f k t262 t263).bind fun t288 => (if t288 = true then ((impl_PostFair.f k 1 y273).bind fun t289 => ((impl_PostFair.f k 2 y278).bind fun t290 => (some (t289 == t290)))) else (some true))) else (none))))) else (none))))) = some r := by first | (rw [hy273]; with_reducible exact H) | (have H2_ := (Option.bind_some _ _).symm.trans H; rw [hy273]; with_reducible exact H2_) | (have H2_ := (Option.bind_some _ _).symm.trans H; with_reducible exact H2_) | with_reducible exact H | (rw [hy273]; exact H) | exact H
         have Ny273 := Aside0.mk hy273
         clear hy273
         have c28b0 := eq_true (of_decide_eq_true (by first | (with_reducible assumption) | assumption) : 0 ≤ (ji25))
         have c29b0 := eq_true (of_decide_eq_true (by first | (with_reducible assumption) | assumption) : (ji25) ≤ (t263.length : Int))
         obtain ⟨y278, hy278⟩ : ∃ y_ : List (S29), y_ = (t263.drop ((ji25) : Int).toNat) := ⟨_, rfl⟩
         replace H : ((impl_PostTo.f k 1 y273 t266 t267).bind fun t283 => ((impl_PostTo.f k 2 y278 t266 t267).bind fun t284 => (if (wrap64 (t283 + t284)) = t269 then ((impl_PostSum.f k 1 y273 t267).bind fun t285 => ((impl_PostSum.f k 2 y278 t267).bind fun t286 => ((impl_PostSum.f k t262 t263 t267).bind fun t287 => (if (wrap64 (t285 + t286)) = t287 then ((impl_PostFair.f k t262 t263).bind fun t288 => (if t288 = true then ((impl_PostFair.f k 1 y273).bind fun t289 => ((impl_PostFair.f k 2 y278).bind fun t290 => (some (t289 == t290)))) else (some true))) else (none))))) else (none)))) = some r := by first | (rw [hy278]; with_reducible exact H) | (have H2_ := (Option.bind_some _ _).symm.trans H; rw [hy278]; with_reducible exact H2_) | (have H2_ := (Option.bind_some _ _).symm.trans H; with_reducible exact H2_) | with_reducible exact H | (rw [hy278]; exact H) | exact H
         have Ny278 := Aside0.mk hy278
         clear hy278
         replace H := Option.bind_eq_some_iff.mp H
         obtain ⟨t283, A300, H⟩ := H
         replace H : ((impl_PostTo.f k 2 y278 t266 t267).bind fun t284 => (if (wrap64 (t283 + t284)) = t269 then ((impl_PostSum.f k 1 y273 t267).bind fun t285 => ((impl_PostSum.f k 2 y278 t267).bind fun t286 => ((impl_PostSum.f k t262 t263 t267).bind fun t287 => (if (wrap64 (t285 + t286)) = t287 then ((impl_PostFair.f k t262 t263).bind fun t288 => (if t288 = true then ((impl_PostFair.f k 1 y273).bind fun t289 => ((impl_PostFair.f k 2 y278).bind fun t290 => (some (t289 == t290)))) else (some true))) else (none))))) else (none))) = some r := H
         have A30 := Aside0.mk A300
         clear A300
         replace H := Option.bind_eq_some_iff.mp H
         obtain ⟨t284, A310, H⟩ := H
         replace H : (if (wrap64 (t283 + t284)) = t269 then ((impl_PostSum.f k 1 y273 t267).bind fun t285 => ((impl_PostSum.f k 2 y278 t267).bind fun t286 => ((impl_PostSum.f k t262 t263 t267).bind fun t287 => (if (wrap64 (t285 + t286)) = t287 then ((impl_PostFair.f k t262 t263).bind fun t288 => (if t288 = true then ((impl_PostFair.f k 1 y273).bind fun t289 => ((impl_PostFair.f k 2 y278).bind fun t290 => (some (t289 == t290)))) else (some true))) else (none))))) else (none)) = some r := H
         have A31 := Aside0.mk A310
         clear A310
         by_cases c32 : (wrap64 (t283 + t284)) = t269
         ·
          rw [if_pos c32] at H
          have c32b0 : ((wrap64 (t283 + t284)) == t269) = true := beq_iff_eq.mpr c32
          have c32b1 : ((wrap64 (t283 + t284)) != t269) = false := bne_eq_false_iff_eq.mpr c32
          clear c32
          replace H := Option.bind_eq_some_iff.mp H
          obtain ⟨t285, A330, H⟩ := H
          replace H : ((impl_PostSum.f k 2 y278 t267).bind fun t286 => ((impl_PostSum.f k t262 t263 t267).bind fun t287 => (if (wrap64 (t285 + t286)) = t287 then ((impl_PostFair.f k t262 t263).bind fun t288 => (if t288 = true then ((impl_PostFair.f k 1 y273).bind fun t289 => ((impl_PostFair.f k 2 y278).bind fun t290 => (some (t289 == t290)))) else (some true))) else (none)))) = some r := H
          have A33 := Aside0.mk A330
          clear A330
          replace H := Option.bind_eq_some_iff.mp H
          obtain ⟨t286, A340, H⟩ := H
          replace H : ((impl_PostSum.f k t262 t263 t267).bind fun t287 => (if (wrap64 (t285 + t286)) = t287 then ((impl_PostFair.f k t262 t263).bind fun t288 => (if t288 = true then ((impl_PostFair.f k 1 y273).bind fun t289 => ((impl_PostFair.f k 2 y278).bind fun t290 => (some (t289 == t290)))) else (some true))) else (none))) = some r := H
          have A34 := Aside0.mk A340
          clear A340
          replace H := Option.bind_eq_some_iff.mp H
          obtain ⟨t287, A350, H⟩ := H
          replace H : (if (wrap64 (t285 + t286)) = t287 then ((impl_PostFair.f k t262 t263).bind fun t288 => (if t288 = true then ((impl_PostFair.f k 1 y273).bind fun t289 => ((impl_PostFair.f k 2 y278).bind fun t290 => (some (t289 == t290)))) else (some true))) else (none)) = some r := H
          have A35 := Aside0.mk A350
          clear A350
          by_cases c36 : (wrap64 (t285 + t286)) = t287
          ·
           rw [if_pos c36] at H
           have c36b0 : ((wrap64 (t285 + t286)) == t287) = true := beq_iff_eq.mpr c36
           have c36b1 : ((wrap64 (t285 + t286)) != t287) = false := bne_eq_false_iff_eq.mpr c36
           clear c36
           replace H := Option.bind_eq_some_iff.mp H
           obtain ⟨t288, A370, H⟩ := H
           replace H : (if t288 = true then ((impl_PostFair.f k 1 y273).bind fun t289 => ((impl_PostFair.f k 2 y278).bind fun t290 => (some (t289 == t290)))) else (some true)) = some r := H
           have A37 := Aside0.mk A370
           clear A370
           by_cases c38 : t288 = true
           ·
            subst c38
            have H1 : ((impl_PostFair.f k 1 y273).bind fun t289 => ((impl_PostFair.f k 2 y278).bind fun t290 => (some (t289 == t290)))) = some r := by rw [if_pos rfl] at H; exact H
            clear H
            have H := H1
            clear H1
            replace H := Option.bind_eq_some_iff.mp H
            obtain ⟨t289, A390, H⟩ := H
            replace H : ((impl_PostFair.f k 2 y278).bind fun t290 => (some (t289 == t290))) = some r := H
            have A39 := Aside0.mk A390
            clear A390
            replace H := Option.bind_eq_some_iff.mp H
            obtain ⟨t290, A400, H⟩ := H
            replace H : (some (t289 == t290)) = some r := H
            have A40 := Aside0.mk A400
            clear A400
            obtain rfl := Option.some.inj H
            go_enter Try.func4, Try.ntmps4
            try go_wp2_with (first | ((with_reducible refine gate_callee (f := 15) rfl ?_); refine goesL_ (some 22) rfl rfl Try.func15 (by kernel_rfl) rfl #[.slice A0 l0.length c0] rfl (by (try simp only [List.map_toArray, List.map_cons, List.map_nil]); first | done | rfl | (simp only [List.length_drop, List.length_take]; rfl)) ?_; (with_reducible refine (spec_DrawPostTo.calls k _ _ l0 t262 t263 t266 t267 _ ?side1 ?side2 A5.out).mono ?_); (case side1 => repeat (first | exact HR0.out | (with_reducible refine Kd.C_alloc ?_ _) | (with_reducible refine Kd.C_drewN ?_ _) | (with_reducible refine Kd.C_drew ?_))); (case side2 => exact HC0.out); rintro e w41 ⟨v264, rfl, ho0, hb⟩; refine ⟨_, rfl, ?_⟩; have n0_ := Aside0.mk (Kd.R_lower ho0 (below_size (laws_FnPostJoin_auHB))); have n1_ := Aside0.mk (below_step (laws_FnPostJoin_auHB) hb); clear HB; have HO265 := n0_; have HB := n1_; clear n0_ n1_; (try clear hb); (try clear hb2); (try clear hk); (try clear hi); (try clear ho0)) | ((with_reducible refine gate_dst (N := 5) rfl ?_); (try (refine gate_guard (by rfl) ?_; dsimp only)); refine box_event ?hg (N := 5) ?hd (cs := #[.int .i64 0, .slice none 0 0]) (t := 25) ?hr ?_; (case hd => rfl); (case hg => rfl); (case hr => first | (go_simp; done) | (go_simp; rfl)); intro gb268 hg w42 hbox hb; have n0_ := Aside0.mk (Kd.R_below (by (with_reducible repeat (first | apply Kd.R_alloc | apply Kd.R_drewN | apply Kd.R_drew)); exact HO265.out) hb); have n1_ := Aside0.mk (below_step (laws_FnPostJoin_auHB) hb); have n2_ := Aside0.mk (hbox); have n3_ := Aside0.mk ((by rw [hg]; exact (below_size (laws_FnPostJoin_auHB)) : w.heap.size ≤ gb268)); have n4_ := Aside0.mk ((by rw [hg]; exact (below_size (laws_FnPostJoin_auHB)) : w.heap.size ≤ gb268)); clear HO265; clear HB; have HO265 := n0_; have HB := n1_; have BK268 := n2_; have GW268 := n3_; have GE268 := n4_; clear n0_ n1_ n2_ n3_ n4_; clear hb hbox hg; have hcz43_0 : w42.cell? ⟨gb268, 0, none⟩ = some (.int .i64 0) := (blk_cell BK268.out 0).trans rfl; have hcz43_1 : w42.cell? ⟨gb268, 1, none⟩ = some (.slice none 0 0) := (blk_cell BK268.out 1).trans rfl; have hfz43_0 := blk_frozen BK268.out 0; have hfz43_1 := blk_frozen BK268.out 1; obtain ⟨Ao44, co44, eo44⟩ := Kd.R_slice HO265.out; subst eo44) | ((with_reducible refine gate_callee (f := 16) rfl ?_); refine goesL_ (some 29) rfl rfl Try.func16 (by kernel_rfl) rfl #[.agg #[.int .i64 t262, .slice Ao44 t263.length co44], .string t266, .int .i64 t267] rfl (by (try simp only [List.map_toArray, List.map_cons, List.map_nil]); first | done | rfl | (simp only [List.length_drop, List.length_take]; rfl)) ?_; (with_reducible refine (impl_PostTo.calls k t262 _ _ t263 t266 t267 t269 _ ?side1 ?side2 A6.out).mono ?_); (case side1 => refine (Kd.R_reads' (e := 29) (base := w.heap.size) (ok := fun k_ => True) (n := t263.length) (c := co44) ?_).2.2; exact (by (with_reducible repeat (first | apply Kd.R_alloc | apply Kd.R_drewN | apply Kd.R_drew)); exact (Kd.R_mono (Kd.R_far (p := ⟨gb268, 1, none⟩) (Kd.R_far (p := ⟨gb268, 0, none⟩) (Kd.R_types HO265.out BK268.out (by decide)) (fun _ hk => hk.2) (.int .i64 t262)) (fun _ hk => hk.2) (.slice Ao44 t263.length co44)) (fun _ h_ => h_.1)))); (case side2 => exact (Kd.R_reads' HO265.out).2.1); rintro e w45 ⟨rfl, hb⟩; refine ⟨_, rfl, ?_⟩; have n0_ := Aside0.mk (Kd.R_below (by (with_reducible repeat (first | apply Kd.R_alloc | apply Kd.R_drewN | apply Kd.R_drew)); exact (Kd.R_mono (Kd.R_far (p := ⟨gb268, 1, none⟩) (Kd.R_far (p := ⟨gb268, 0, none⟩) (Kd.R_types HO265.out BK268.out (by decide)) (fun _ hk => hk.2) (.int .i64 t262)) (fun _ hk => hk.2) (.slice Ao44 t263.length co44)) (fun _ h_ => h_.1))) hb); have n1_ := Aside0.mk (blk_below (g := gb268) (o := .cells #[.int .i64 t262, .slice Ao44 t263.length co44] 25 (0, 0)) (by (with_reducible repeat (first | refine blk_drewN ?_ _ | refine blk_drew ?_ | refine blk_alloc ?_ _)); refine blk_put (cs := #[.int .i64 t262, .slice none 0 0]) ?_ 1 _ rfl; (with_reducible repeat (first | refine blk_drewN ?_ _ | refine blk_drew ?_ | refine blk_alloc ?_ _)); refine blk_put (cs := #[.int .i64 0, .slice none 0 0]) ?_ 0 _ rfl; (with_reducible repeat (first | refine blk_drewN ?_ _ | refine blk_drew ?_ | refine blk_alloc ?_ _)); exact BK268.out) hb); have n2_ := Aside0.mk (below_step (laws_FnPostJoin_auHB) hb); clear HO265; clear BK268; clear HB; have HO265 := n0_; have BK268 := n1_; have HB := n2_; clear n0_ n1_ n2_; (try clear hb); (try clear hb2); (try clear hk); (try clear hi); have hcz46_0 : w45.cell? ⟨gb268, 0, none⟩ = some (.int .i64 t262) := (blk_cell BK268.out 0).trans rfl; have hcz46_1 : w45.cell? ⟨gb268, 1, none⟩ = some (.slice Ao44 t263.length co44) := (blk_cell BK268.out 1).trans rfl; have hfz46_0 := blk_frozen BK268.out 0; have hfz46_1 := blk_frozen BK268.out 1) | ((with_reducible refine gate_callee (f := 17) rfl ?_); refine goesL_ (some 34) rfl rfl Try.func17 (by kernel_rfl) rfl #[.agg #[.int .i64 t262, .slice Ao44 t263.length co44], .string t266, .int .i64 t267] rfl (by (try simp only [List.map_toArray, List.map_cons, List.map_nil]); first | done | rfl | (simp only [List.length_drop, List.length_take]; rfl)) ?_; (with_reducible refine (spec_PostTo.calls k t262 _ _ t263 t266 t267 t270 _ ?side1 ?side2 A7.out).mono ?_); (case side1 => repeat (first | exact (Kd.R_reads' HO265.out).2.2 | (with_reducible refine Kd.C_alloc ?_ _) | (with_reducible refine Kd.C_drewN ?_ _) | (with_reducible refine Kd.C_drew ?_))); (case side2 => exact (Kd.R_reads' HO265.out).2.1); rintro e w47 ⟨rfl, hb⟩; refine ⟨_, rfl, ?_⟩; have n0_ := Aside0.mk (Kd.R_below (by (with_reducible repeat (first | apply Kd.R_alloc | apply Kd.R_drewN | apply Kd.R_drew)); exact HO265.out) hb); have n1_ := Aside0.mk (blk_below (g := gb268) (o := .cells #[.int .i64 t262, .slice Ao44 t263.length co44] 25 (0, 0)) (laws_FnPostJoin_vb BK268) hb); have n2_ := Aside0.mk (below_step (laws_FnPostJoin_auHB) hb); clear HO265; clear BK268; clear HB; have HO265 := n0_; have BK268 := n1_; have HB := n2_; clear n0_ n1_ n2_; (try clear hb); (try clear hb2); (try clear hk); (try clear hi); have hcz48_0 : w47.cell? ⟨gb268, 0, none⟩ = some (.int .i64 t262) := (blk_cell BK268.out 0).trans rfl; have hcz48_1 : w47.cell? ⟨gb268, 1, none⟩ = some (.slice Ao44 t263.length co44) := (blk_cell BK268.out 1).trans rfl; have hfz48_0 := blk_frozen BK268.out 0; have hfz48_1 := blk_frozen BK268.out 1) | (go_at_call 18; (with_reducible refine (spec_PostOk.calls k t262 _ _ t263 true _ ?side1 ?side2 A9.out).mono ?_); (case side1 => repeat (first | exact (Kd.R_reads' HO265.out).2.2 | (with_reducible refine Kd.C_alloc ?_ _) | (with_reducible refine Kd.C_drewN ?_ _) | (with_reducible refine Kd.C_drew ?_))); (case side2 => exact (Kd.R_reads' HO265.out).2.1); rintro e w49 ⟨rfl, hb⟩; have n0_ := Aside0.mk (Kd.R_below (by (with_reducible repeat (first | apply Kd.R_alloc | apply Kd.R_drewN | apply Kd.R_drew)); exact HO265.out) hb); have n1_ := Aside0.mk (blk_below (g := gb268) (o := .cells #[.int .i64 t262, .slice Ao44 t263.length co44] 25 (0, 0)) (laws_FnPostJoin_vb BK268) hb); have n2_ := Aside0.mk (below_step (laws_FnPostJoin_auHB) hb); clear HO265; clear BK268; clear HB; have HO265 := n0_; have BK268 := n1_; have HB := n2_; clear n0_ n1_ n2_; (try clear hb); (try clear hb2); (try clear hk); (try clear hi); have hcz50_0 : w49.cell? ⟨gb268, 0, none⟩ = some (.int .i64 t262) := (blk_cell BK268.out 0).trans rfl; have hcz50_1 : w49.cell? ⟨gb268, 1, none⟩ = some (.slice Ao44 t263.length co44) := (blk_cell BK268.out 1).trans rfl; have hfz50_0 := blk_frozen BK268.out 0; have hfz50_1 := blk_frozen BK268.out 1; have q51 : ((ji25) : Int) ≤ ((t263.length : Int) : Int) := of_decide_eq_true (by first | (with_reducible assumption) | assumption); obtain ⟨i051, hi051, _, hsz51, _⟩ := info_parts info29; have hroom51 : t263.length ≤ co44 := (Kd.R_reads' HO265.out).2.1; have hC51 : Kd.C k29 _ Ao44 t263.length t263 := (Kd.R_reads' HO265.out).2.2; have hcut51 := cut_to (P := Try.prog) 23 29 .i64 Try.underlying23 hi051 Ao44 t263.length co44 (ji25) (of_decide_eq_true (by first | (with_reducible assumption) | assumption)) q51 hroom51; have hr51 := Kd.C_take (m := ((ji25) : Int).toNat) hC51 (by omega); have hy51 : y273.length = ((ji25) : Int).toNat := (by rw [Ny273.out, List.length_take]; omega); rw [← Ny273.out] at hr51; rw [← hy51] at hcut51; have HR276 := Aside0.mk hr51; have HC276 := Aside0.mk (show y273.length ≤ co44 from by omega); clear hr51 hC51 hroom51 hi051 hsz51; have KY51 := Aside0.mk hy51; clear hy51; have KL51 := Aside0.mk (show ((ji25) : Int).toNat ≤ t263.length from by omega); replace q51 := eq_true q51) | ((with_reducible refine gate_dst (N := 10) rfl ?_); (try (refine gate_guard (by rfl) ?_; dsimp only)); refine box_event ?hg (N := 10) ?hd (cs := #[.int .i64 0, .slice none 0 0]) (t := 25) ?hr ?_; (case hd => rfl); (case hg => rfl); (case hr => first | (go_simp; done) | (go_simp; rfl)); intro gb277 hg w52 hbox hb; have n0_ := Aside0.mk (Kd.R_below (by (with_reducible repeat (first | apply Kd.R_alloc | apply Kd.R_drewN | apply Kd.R_drew)); exact HO265.out) hb); have n1_ := Aside0.mk (blk_below (g := gb268) (o := .cells #[.int .i64 t262, .slice Ao44 t263.length co44] 25 (0, 0)) (laws_FnPostJoin_vb BK268) hb); have n2_ := Aside0.mk (Kd.C_below (by repeat (first | (with_reducible exact HR276.out) | (with_reducible refine Kd.C_alloc ?_ _) | (with_reducible refine Kd.C_drewN ?_ _) | (with_reducible refine Kd.C_drew ?_) | exact HR276.out)) hb); have n3_ := Aside0.mk (below_step (laws_FnPostJoin_auHB) hb); have n4_ := Aside0.mk (hbox); have n5_ := Aside0.mk ((by rw [hg]; exact (below_size (laws_FnPostJoin_auHB)) : w.heap.size ≤ gb277)); have n6_ := Aside0.mk ((by rw [hg]; exact (below_size (laws_FnPostJoin_auHB)) : w.heap.size ≤ gb277)); have n7_ := Aside0.mk ((by rw [hg]; exact Nat.ne_of_lt (blk_lt (g := gb268) (o := .cells #[.int .i64 t262, .slice Ao44 t263.length co44] 25 (0, 0)) (laws_FnPostJoin_vb BK268)) : gb268 ≠ gb277)); have n8_ := Aside0.mk ((by rw [hg]; exact Nat.ne_of_gt (blk_lt (g := gb268) (o := .cells #[.int .i64 t262, .slice Ao44 t263.length co44] 25 (0, 0)) (laws_FnPostJoin_vb BK268)) : gb277 ≠ gb268)); clear HO265; clear BK268; clear HR276; clear HB; have HO265 := n0_; have BK268 := n1_; have HR276 := n2_; have HB := n3_; have BK277 := n4_; have GW277 := n5_; have GE277 := n6_; have NB268_277 := n7_; have NB277_268 := n8_; clear n0_ n1_ n2_ n3_ n4_ n5_ n6_ n7_ n8_; clear hb hbox hg; have hnb53 := NB277_268.out; have hnc53 := NB268_277.out; have hcz54_0 : w52.cell? ⟨gb277, 0, none⟩ = some (.int .i64 0) := (blk_cell BK277.out 0).trans rfl; have hcz54_1 : w52.cell? ⟨gb277, 1, none⟩ = some (.slice none 0 0) := (blk_cell BK277.out 1).trans rfl; have hfz54_0 := blk_frozen BK277.out 0; have hfz54_1 := blk_frozen BK277.out 1) | ((with_reducible refine gate_store (t := 25) (p := 10) rfl ?_); refine store_event (t := 25) (p := 10) (v := ?vo_w55) (w1 := ((w52.setCell ⟨gb277, 0, none⟩ (.int .i64 1)).setCell ⟨gb277, 1, none⟩ (.slice Ao44 y273.length co44))) ?hg ?ho ?hn ?hr ?_; (case ho => rfl); (case hg => rfl); (case hn => rfl); (case hr => first | (go_simp; done) | (go_simp; rfl)); intro w55 hw; have n0_ : Aside0 (Kd.R k29 29 w55 w.heap.size (fun _ => True) (.slice Ao44 t263.length co44) t263) := ⟨(by rw [hw]; exact (by (with_reducible repeat (first | apply Kd.R_alloc | apply Kd.R_drewN | apply Kd.R_drew)); exact Kd.R_mono (Kd.R_far (p := ⟨gb277, 1, none⟩) (Kd.R_far (p := ⟨gb277, 0, none⟩) (Kd.R_types HO265.out BK277.out (by decide)) (fun _ hk => hk.2) (.int .i64 1)) (fun _ hk => hk.2) (.slice Ao44 y273.length co44)) (fun _ hk => trivial)))⟩; have n1_ : Aside0 (w55.heap[gb268]? = some (.cells #[.int .i64 t262, .slice Ao44 t263.length co44] 25 (0, 0))) := ⟨(by rw [hw]; exact (by (with_reducible repeat (first | refine blk_drewN ?_ _ | refine blk_drew ?_ | refine blk_alloc ?_ _)); refine blk_far ?_ NB268_277.out _; (with_reducible repeat (first | refine blk_drewN ?_ _ | refine blk_drew ?_ | refine blk_alloc ?_ _)); refine blk_far ?_ NB268_277.out _; (with_reducible repeat (first | refine blk_drewN ?_ _ | refine blk_drew ?_ | refine blk_alloc ?_ _)); exact BK268.out))⟩; have n2_ : Aside0 (w55.heap[gb277]? = some (.cells #[.int .i64 1, .slice Ao44 y273.length co44] 25 (0, 0))) := ⟨(by rw [hw]; exact (by (with_reducible repeat (first | refine blk_drewN ?_ _ | refine blk_drew ?_ | refine blk_alloc ?_ _)); refine blk_put (cs := #[.int .i64 1, .slice none 0 0]) ?_ 1 _ rfl; (with_reducible repeat (first | refine blk_drewN ?_ _ | refine blk_drew ?_ | refine blk_alloc ?_ _)); refine blk_put (cs := #[.int .i64 0, .slice none 0 0]) ?_ 0 _ rfl; (with_reducible repeat (first | refine blk_drewN ?_ _ | refine blk_drew ?_ | refine blk_alloc ?_ _)); exact BK277.out))⟩; have n3_ : Aside0 (Below w.heap.size w w55) := ⟨(by rw [hw]; exact (laws_FnPostJoin_auHB))⟩; have n4_ : Aside0 (Kd.C k29 w55 Ao44 y273.length y273) := ⟨(by rw [hw]; exact ((by have h_ := Kd.C_take (m := ((ji25) : Int).toNat) ((Kd.R_reads' (show Kd.R k29 29 ((w52.setCell ⟨gb277, 0, none⟩ (.int .i64 1)).setCell ⟨gb277, 1, none⟩ (.slice Ao44 y273.length co44)) w.heap.size (fun _ => True) (.slice Ao44 t263.length co44) t263 from (by (with_reducible repeat (first | apply Kd.R_alloc | apply Kd.R_drewN | apply Kd.R_drew)); exact Kd.R_mono (Kd.R_far (p := ⟨gb277, 1, none⟩) (Kd.R_far (p := ⟨gb277, 0, none⟩) (Kd.R_types HO265.out BK277.out (by decide)) (fun _ hk => hk.2) (.int .i64 1)) (fun _ hk => hk.2) (.slice Ao44 y273.length co44)) (fun _ hk => trivial)))).2.2) KL51.out; rw [← Ny273.out] at h_; exact h_)))⟩; clear hw; clear HO265; clear BK268; clear BK277; clear HB; clear HR276; have HO265 := n0_; have BK268 := n1_; have BK277 := n2_; have HB := n3_; have HR276 := n4_; clear n0_ n1_ n2_ n3_ n4_; have hcz56_0 : w55.cell? ⟨gb268, 0, none⟩ = some (.int .i64 t262) := (blk_cell BK268.out 0).trans rfl; have hcz56_1 : w55.cell? ⟨gb268, 1, none⟩ = some (.slice Ao44 t263.length co44) := (blk_cell BK268.out 1).trans rfl; have hfz56_0 := blk_frozen BK268.out 0; have hfz56_1 := blk_frozen BK268.out 1; have q57 : ((ji25) : Int) ≤ ((t263.length : Int) : Int) := of_decide_eq_true (by first | (with_reducible assumption) | assumption); obtain ⟨i057, hi057, _, hsz57, _⟩ := info_parts info29; have hroom57 : t263.length ≤ co44 := (Kd.R_reads' HO265.out).2.1; have hC57 : Kd.C k29 _ Ao44 t263.length t263 := (Kd.R_reads' HO265.out).2.2; have q057 : (0 : Int) ≤ ((ji25) : Int) := of_decide_eq_true (by first | (with_reducible assumption) | assumption); have hcut57 := cut_from (P := Try.prog) 23 29 .i64 Try.underlying23 hi057 3 hsz57 Ao44 t263.length co44 (ji25) q057 q57; have hr57 := Kd.C_drop (m := ((ji25) : Int).toNat) (c := co44) hC57 (by omega) hroom57; obtain ⟨A57, hA57⟩ : ∃ A1, A1 = (if co44 = ((ji25) : Int).toNat then Ao44 else (Ao44 : Option Addr).map (·.add (((ji25) : Int).toNat * 3))) := ⟨_, rfl⟩; obtain ⟨c57, hc57⟩ : ∃ c1, c1 = co44 - ((ji25) : Int).toNat := ⟨_, rfl⟩; have hy57 : y278.length = t263.length - ((ji25) : Int).toNat := (by rw [Ny278.out, List.length_drop] <;> omega); rw [show (t263).drop ((ji25) : Int).toNat = y278 from Ny278.out.symm] at hr57; replace hr57 : Kd.C k29 _ A57 y278.length y278 := (by rw [hA57]; exact hr57); rw [← hy57, ← hA57, ← hc57] at hcut57; have HR281 := Aside0.mk hr57; have HC281 := Aside0.mk (show y278.length ≤ c57 from by rw [hy57, hc57]; exact Nat.sub_le_sub_right hroom57 _); clear hr57 hC57 hroom57 hi057 hsz57 hc57; have KY57 := Aside0.mk hy57; have KA57 := Aside0.mk hA57; clear hy57 hA57; have KL57 := Aside0.mk (show ((ji25) : Int).toNat ≤ t263.length from by omega); replace q57 := eq_true q57) | ((with_reducible refine gate_dst (N := 11) rfl ?_); (try (refine gate_guard (by rfl) ?_; dsimp only)); refine box_event ?hg (N := 11) ?hd (cs := #[.int .i64 0, .slice none 0 0]) (t := 25) ?hr ?_; (case hd => rfl); (case hg => rfl); (case hr => first | (go_simp; done) | (go_simp; rfl)); intro gb282 hg w58 hbox hb; have n0_ := Aside0.mk (Kd.R_below (by (with_reducible repeat (first | apply Kd.R_alloc | apply Kd.R_drewN | apply Kd.R_drew)); exact HO265.out) hb); have n1_ := Aside0.mk (blk_below (g := gb268) (o := .cells #[.int .i64 t262, .slice Ao44 t263.length co44] 25 (0, 0)) (laws_FnPostJoin_vb BK268) hb); have n2_ := Aside0.mk (Kd.C_below (by repeat (first | (with_reducible exact HR276.out) | (with_reducible refine Kd.C_alloc ?_ _) | (with_reducible refine Kd.C_drewN ?_ _) | (with_reducible refine Kd.C_drew ?_) | exact HR276.out)) hb); have n3_ := Aside0.mk (blk_below (g := gb277) (o := .cells #[.int .i64 1, .slice Ao44 y273.length co44] 25 (0, 0)) (laws_FnPostJoin_vb BK277) hb); have n4_ := Aside0.mk (Kd.C_below (by repeat (first | (with_reducible exact HR281.out) | (with_reducible refine Kd.C_alloc ?_ _) | (with_reducible refine Kd.C_drewN ?_ _) | (with_reducible refine Kd.C_drew ?_) | exact HR281.out)) hb); have n5_ := Aside0.mk (below_step (laws_FnPostJoin_auHB) hb); have n6_ := Aside0.mk (hbox); have n7_ := Aside0.mk ((by rw [hg]; exact (below_size (laws_FnPostJoin_auHB)) : w.heap.size ≤ gb282)); have n8_ := Aside0.mk ((by rw [hg]; exact (below_size (laws_FnPostJoin_auHB)) : w.heap.size ≤ gb282)); have n9_ := Aside0.mk ((by rw [hg]; exact Nat.ne_of_lt (blk_lt (g := gb268) (o := .cells #[.int .i64 t262, .slice Ao44 t263.length co44] 25 (0, 0)) (laws_FnPostJoin_vb BK268)) : gb268 ≠ gb282)); have n10_ := Aside0.mk ((by rw [hg]; exact Nat.ne_of_gt (blk_lt (g := gb268) (o := .cells #[.int .i64 t262, .slice Ao44 t263.length co44] 25 (0, 0)) (laws_FnPostJoin_vb BK268)) : gb282 ≠ gb268)); have n11_ := Aside0.mk ((by rw [hg]; exact Nat.ne_of_lt (blk_lt (g := gb277) (o := .cells #[.int .i64 1, .slice Ao44 y273.length co44] 25 (0, 0)) (laws_FnPostJoin_vb BK277)) : gb277 ≠ gb282)); have n12_ := Aside0.mk ((by rw [hg]; exact Nat.ne_of_gt (blk_lt (g := gb277) (o := .cells #[.int .i64 1, .slice Ao44 y273.length co44] 25 (0, 0)) (laws_FnPostJoin_vb BK277)) : gb282 ≠ gb277)); clear HO265; clear BK268; clear HR276; clear BK277; clear HR281; clear HB; have HO265 := n0_; have BK268 := n1_; have HR276 := n2_; have BK277 := n3_; have HR281 := n4_; have HB := n5_; have BK282 := n6_; have GW282 := n7_; have GE282 := n8_; have NB268_282 := n9_; have NB282_268 := n10_; have NB277_282 := n11_; have NB282_277 := n12_; clear n0_ n1_ n2_ n3_ n4_ n5_ n6_ n7_ n8_ n9_ n10_ n11_ n12_; clear hb hbox hg; have hnb59 := NB282_268.out; have hnc59 := NB268_282.out; have hnb60 := NB282_277.out; have hnc60 := NB277_282.out; have hcz61_0 : w58.cell? ⟨gb282, 0, none⟩ = some (.int .i64 0) := (blk_cell BK282.out 0).trans rfl; have hcz61_1 : w58.cell? ⟨gb282, 1, none⟩ = some (.slice none 0 0) := (blk_cell BK282.out 1).trans rfl; have hfz61_0 := blk_frozen BK282.out 0; have hfz61_1 := blk_frozen BK282.out 1))
            have n0_ : Aside0 (Kd.R k29 29 ((w58.setCell ⟨gb282, 0, none⟩ (.int .i64 2)).setCell ⟨gb282, 1, none⟩ (.slice A57 y278.length c57)) w.heap.size (fun _ => True) (.slice Ao44 t263.length co44) t263) := ⟨by (with_reducible repeat (first | apply Kd.R_alloc | apply Kd.R_drewN | apply Kd.R_drew)); exact Kd.R_mono (Kd.R_far (p := ⟨gb282, 1, none⟩) (Kd.R_far (p := ⟨gb282, 0, none⟩) (Kd.R_types HO265.out BK282.out (by decide)) (fun _ hk => hk.2) (.int .i64 2)) (fun _ hk => hk.2) (.slice A57 y278.length c57)) (fun _ hk => trivial)⟩
            have n1_ : Aside0 (((w58.setCell ⟨gb282, 0, none⟩ (.int .i64 2)).setCell ⟨gb282, 1, none⟩ (.slice A57 y278.length c57)).heap[gb268]? = some (.cells #[.int .i64 t262, .slice Ao44 t263.length co44] 25 (0, 0))) := ⟨by (with_reducible repeat (first | refine blk_drewN ?_ _ | refine blk_drew ?_ | refine blk_alloc ?_ _)); refine blk_far ?_ NB268_282.out _; (with_reducible repeat (first | refine blk_drewN ?_ _ | refine blk_drew ?_ | refine blk_alloc ?_ _)); refine blk_far ?_ NB268_282.out _; (with_reducible repeat (first | refine blk_drewN ?_ _ | refine blk_drew ?_ | refine blk_alloc ?_ _)); exact BK268.out⟩
            have n2_ : Aside0 (((w58.setCell ⟨gb282, 0, none⟩ (.int .i64 2)).setCell ⟨gb282, 1, none⟩ (.slice A57 y278.length c57)).heap[gb277]? = some (.cells #[.int .i64 1, .slice Ao44 y273.length co44] 25 (0, 0))) := ⟨by (with_reducible repeat (first | refine blk_drewN ?_ _ | refine blk_drew ?_ | refine blk_alloc ?_ _)); refine blk_far ?_ NB277_282.out _; (with_reducible repeat (first | refine blk_drewN ?_ _ | refine blk_drew ?_ | refine blk_alloc ?_ _)); refine blk_far ?_ NB277_282.out _; (with_reducible repeat (first | refine blk_drewN ?_ _ | refine blk_drew ?_ | refine blk_alloc ?_ _)); exact BK277.out⟩
            have n3_ : Aside0 (((w58.setCell ⟨gb282, 0, none⟩ (.int .i64 2)).setCell ⟨gb282, 1, none⟩ (.slice A57 y278.length c57)).heap[gb282]? = some (.cells #[.int .i64 2, .slice A57 y278.length c57] 25 (0, 0))) := ⟨by (with_reducible repeat (first | refine blk_drewN ?_ _ | refine blk_drew ?_ | refine blk_alloc ?_ _)); refine blk_put (cs := #[.int .i64 2, .slice none 0 0]) ?_ 1 _ rfl; (with_reducible repeat (first | refine blk_drewN ?_ _ | refine blk_drew ?_ | refine blk_alloc ?_ _)); refine blk_put (cs := #[.int .i64 0, .slice none 0 0]) ?_ 0 _ rfl; (with_reducible repeat (first | refine blk_drewN ?_ _ | refine blk_drew ?_ | refine blk_alloc ?_ _)); exact BK282.out⟩
            have n4_ : Aside0 (Below w.heap.size w ((w58.setCell ⟨gb282, 0, none⟩ (.int .i64 2)).setCell ⟨gb282, 1, none⟩ (.slice A57 y278.length c57))) := ⟨laws_FnPostJoin_auHB⟩
            have n5_ : Aside0 (Kd.C k29 ((w58.setCell ⟨gb282, 0, none⟩ (.int .i64 2)).setCell ⟨gb282, 1, none⟩ (.slice A57 y278.length c57)) Ao44 y273.length y273) := ⟨(by have h_ := Kd.C_take (m := ((ji25) : Int).toNat) ((Kd.R_reads' (show Kd.R k29 29 ((w58.setCell ⟨gb282, 0, none⟩ (.int .i64 2)).setCell ⟨gb282, 1, none⟩ (.slice A57 y278.length c57)) w.heap.size (fun _ => True) (.slice Ao44 t263.length co44) t263 from (by (with_reducible repeat (first | apply Kd.R_alloc | apply Kd.R_drewN | apply Kd.R_drew)); exact Kd.R_mono (Kd.R_far (p := ⟨gb282, 1, none⟩) (Kd.R_far (p := ⟨gb282, 0, none⟩) (Kd.R_types HO265.out BK282.out (by decide)) (fun _ hk => hk.2) (.int .i64 2)) (fun _ hk => hk.2) (.slice A57 y278.length c57)) (fun _ hk => trivial)))).2.2) KL51.out; rw [← Ny273.out] at h_; exact h_)⟩
            have n6_ : Aside0 (Kd.C k29 ((w58.setCell ⟨gb282, 0, none⟩ (.int .i64 2)).setCell ⟨gb282, 1, none⟩ (.slice A57 y278.length c57)) A57 y278.length y278) := ⟨(by have h_ := Kd.C_drop (m := ((ji25) : Int).toNat) (c := co44) ((Kd.R_reads' (show Kd.R k29 29 ((w58.setCell ⟨gb282, 0, none⟩ (.int .i64 2)).setCell ⟨gb282, 1, none⟩ (.slice A57 y278.length c57)) w.heap.size (fun _ => True) (.slice Ao44 t263.length co44) t263 from (by (with_reducible repeat (first | apply Kd.R_alloc | apply Kd.R_drewN | apply Kd.R_drew)); exact Kd.R_mono (Kd.R_far (p := ⟨gb282, 1, none⟩) (Kd.R_far (p := ⟨gb282, 0, none⟩) (Kd.R_types HO265.out BK282.out (by decide)) (fun _ hk => hk.2) (.int .i64 2)) (fun _ hk => hk.2) (.slice A57 y278.length c57)) (fun _ hk => trivial)))).2.2) KL57.out ((Kd.R_reads' (show Kd.R k29 29 ((w58.setCell ⟨gb282, 0, none⟩ (.int .i64 2)).setCell ⟨gb282, 1, none⟩ (.slice A57 y278.length c57)) w.heap.size (fun _ => True) (.slice Ao44 t263.length co44) t263 from (by (with_reducible repeat (first | apply Kd.R_alloc | apply Kd.R_drewN | apply Kd.R_drew)); exact Kd.R_mono (Kd.R_far (p := ⟨gb282, 1, none⟩) (Kd.R_far (p := ⟨gb282, 0, none⟩) (Kd.R_types HO265.out BK282.out (by decide)) (fun _ hk => hk.2) (.int .i64 2)) (fun _ hk => hk.2) (.slice A57 y278.length c57)) (fun _ hk => trivial)))).2.1); rw [← Ny278.out, show (k29).sz = 3 from rfl, ← KA57.out] at h_; exact h_)⟩
            (try clear HO265)
            (try clear BK268)
            (try clear BK277)
            (try clear BK282)
            (try clear HB)
            (try clear HR276)
            (try clear HR281)
            generalize ((w58.setCell ⟨gb282, 0, none⟩ (.int .i64 2)).setCell ⟨gb282, 1, none⟩ (.slice A57 y278.length c57)) = w62 at n0_ n1_ n2_ n3_ n4_ n5_ n6_ ⊢
            have HO265 := n0_
            have BK268 := n1_
            have BK277 := n2_
            have BK282 := n3_
            have HB := n4_
            have HR276 := n5_
            have HR281 := n6_
            clear n0_ n1_ n2_ n3_ n4_ n5_ n6_
            have n0_ := Aside0.mk (Kd.R_drew HO265.out)
            have n1_ := Aside0.mk (blk_drew BK268.out)
            have n2_ := Aside0.mk (blk_drew BK277.out)
            have n3_ := Aside0.mk (blk_drew BK282.out)
            have n4_ := Aside0.mk (Kd.C_drew HR276.out)
            have n5_ := Aside0.mk (Kd.C_drew HR281.out)
            have n6_ := Aside0.mk (below_drew1 HB.out)
            clear HO265
            clear BK268
            clear BK277
            clear BK282
            clear HR276
            clear HR281
            clear HB
            have HO265 := n0_
            have BK268 := n1_
            have BK277 := n2_
            have BK282 := n3_
            have HR276 := n4_
            have HR281 := n5_
            have HB := n6_
            clear n0_ n1_ n2_ n3_ n4_ n5_ n6_
            refine start_ (n := 37) (S := fun w' => w'.cell? ⟨gb277, 0, none⟩ = some (.int .i64 1) ∧ w'.cell? ⟨gb277, 1, none⟩ = some (.slice Ao44 y273.length co44) ∧ w'.cell? ⟨gb282, 0, none⟩ = some (.int .i64 2) ∧ w'.cell? ⟨gb282, 1, none⟩ = some (.slice A57 y278.length c57) ∧ w'.cell? ⟨gb268, 0, none⟩ = some (.int .i64 t262) ∧ w'.cell? ⟨gb268, 1, none⟩ = some (.slice Ao44 t263.length co44)) (ds := []) #[false, false, false, false, false, false, false, false, false, false, false, false, false, false, false, false, false, false, false, false, false, false, false, false, false, false, false, false, false, false, false, false, false, false, false, false, false] (by kernel_rfl) rfl rfl ⟨(blk_cell BK277.out 0).trans rfl, (blk_cell BK277.out 1).trans rfl, (blk_cell BK282.out 0).trans rfl, (blk_cell BK282.out 1).trans rfl, (blk_cell BK268.out 0).trans rfl, (blk_cell BK268.out 1).trans rfl⟩ (fun hHeld => ?_); refine with_tabW laws_FnPostJoin.tab10 laws_FnPostJoin.bits10 (fun HT_ HW_ => ?_)
            generalize w62.drew = w63 at HO265 BK268 BK277 BK282 HR276 HR281 HB hHeld ⊢
            refine pure_ (i := 1) (N := some 72) (v := ?_) (a' := ?_) #[false, true, false, false, false, false, false, false, false, false, false, false, false, false, false, false, false, false, false, false, false, false, false, false, false, false, false, false, false, false, false, false, false, false, false, false, false] rfl rfl (any_of HT_.out (by kernel_rfl)) (fun _ _ _ h => h) (Or.inl ⟨by rfl, ?_⟩) ?_ ?_
            rotate_left
            ·
             intro w'
             go_simp
             with_reducible rfl
            rotate_left
            ·
             simp only [Act.put, List.setIfInBounds_toArray, List.set_cons_zero, List.set_cons_succ, i64_w, i32_w]
             rfl
            refine pure_ (i := 2) (N := some 73) (v := ?_) (a' := ?_) #[false, true, true, false, false, false, false, false, false, false, false, false, false, false, false, false, false, false, false, false, false, false, false, false, false, false, false, false, false, false, false, false, false, false, false, false, false] rfl rfl (any_of HT_.out (by kernel_rfl)) (fun _ _ _ h => h) (Or.inl ⟨by rfl, ?_⟩) ?_ ?_
            rotate_left
            ·
             intro w'
             go_simp
             with_reducible rfl
            rotate_left
            ·
             simp only [Act.put, List.setIfInBounds_toArray, List.set_cons_zero, List.set_cons_succ, i64_w, i32_w]
             rfl
            refine pure_ (i := 5) (N := some 76) (v := ?_) (a' := ?_) #[false, true, true, false, false, true, false, false, false, false, false, false, false, false, false, false, false, false, false, false, false, false, false, false, false, false, false, false, false, false, false, false, false, false, false, false, false] rfl rfl (any_of HT_.out (by kernel_rfl)) (fun _ _ _ h => h) (Or.inl ⟨by rfl, ?_⟩) ?_ ?_
            rotate_left
            ·
             intro w'
             go_simp
             with_reducible rfl
            rotate_left
            ·
             simp only [Act.put, List.setIfInBounds_toArray, List.set_cons_zero, List.set_cons_succ, i64_w, i32_w]
             rfl
            refine pure_ (i := 6) (N := some 77) (v := ?_) (a' := ?_) #[false, true, true, false, false, true, true, false, false, false, false, false, false, false, false, false, false, false, false, false, false, false, false, false, false, false, false, false, false, false, false, false, false, false, false, false, false] rfl rfl (any_of HT_.out (by kernel_rfl)) (fun _ _ _ h => h) (Or.inl ⟨by rfl, ?_⟩) ?_ ?_
            rotate_left
            ·
             intro w'
             go_simp
             with_reducible rfl
            rotate_left
            ·
             simp only [Act.put, List.setIfInBounds_toArray, List.set_cons_zero, List.set_cons_succ, i64_w, i32_w]
             rfl
            refine pure_ (i := 9) (N := some 80) (v := ?_) (a' := ?_) #[false, true, true, false, false, true, true, false, false, true, false, false, false, false, false, false, false, false, false, false, false, false, false, false, false, false, false, false, false, false, false, false, false, false, false, false, false] rfl rfl (any_of HT_.out (by kernel_rfl)) (fun _ _ _ h => h) (Or.inl ⟨by rfl, ?_⟩) ?_ ?_
            rotate_left
            ·
             intro w'
             go_simp
             with_reducible rfl
            rotate_left
            ·
             simp only [Act.put, List.setIfInBounds_toArray, List.set_cons_zero, List.set_cons_succ, i64_w, i32_w]
             rfl
            refine take_ (i := 0) (N := some 71) (v := ?_) (a' := ?_) #[true, true, true, false, false, true, true, false, false, true, false, false, false, false, false, false, false, false, false, false, false, false, false, false, false, false, false, false, false, false, false, false, false, false, false, false, false] rfl rfl (take_ofW HT_.out HW_.out (by kernel_rfl)) (fun _ _ _ h => h) (Or.inl ⟨by rfl, ?_⟩) hHeld ?_ ?_
            rotate_left
            ·
             rintro w' ⟨s0, s1, s2, s3, s4, s5⟩
             go_simp
             with_reducible rfl
            rotate_left
            ·
             simp only [Act.put, List.setIfInBounds_toArray, List.set_cons_zero, List.set_cons_succ, i64_w, i32_w]
             rfl
            refine take_ (i := 4) (N := some 75) (v := ?_) (a' := ?_) #[true, true, true, false, true, true, true, false, false, true, false, false, false, false, false, false, false, false, false, false, false, false, false, false, false, false, false, false, false, false, false, false, false, false, false, false, false] rfl rfl (take_ofW HT_.out HW_.out (by kernel_rfl)) (fun _ _ _ h => h) (Or.inl ⟨by rfl, ?_⟩) hHeld ?_ ?_
            rotate_left
            ·
             rintro w' ⟨s0, s1, s2, s3, s4, s5⟩
             go_simp
             with_reducible rfl
            rotate_left
            ·
             simp only [Act.put, List.setIfInBounds_toArray, List.set_cons_zero, List.set_cons_succ, i64_w, i32_w]
             rfl
            refine one_ (i := 3) (N := some 74) #[true, true, true, true, true, true, true, false, false, true, false, false, false, false, false, false, false, false, false, false, false, false, false, false, false, false, false, false, false, false, false, false, false, false, false, false, false] rfl rfl (one_of HT_.out (by kernel_rfl)) (by decide) (fun K hK => ?_)
            refine goes_ Try.func16 (by kernel_rfl) rfl #[.agg #[.int .i64 1, .slice Ao44 y273.length co44], .string t266, .int .i64 t267] (by rfl) rfl rfl (by (try simp only [List.map_toArray, List.map_cons, List.map_nil]); first | done | rfl | (simp only [List.length_drop, List.length_take]; rfl)) ?_
            with_reducible refine (impl_PostTo.calls k 1 _ _ y273 t266 t267 t283 _ ?side1 ?side2 A30.out).mono ?_
            (case side1 => repeat (first | exact (by repeat (first | (with_reducible exact HR276.out) | (with_reducible refine Kd.C_alloc ?_ _) | (with_reducible refine Kd.C_drewN ?_ _) | (with_reducible refine Kd.C_drew ?_) | exact HR276.out)) | (with_reducible refine Kd.C_alloc ?_ _) | (with_reducible refine Kd.C_drewN ?_ _) | (with_reducible refine Kd.C_drew ?_)))
            (case side2 => exact HC276.out)
            rintro e w64 ⟨rfl, hb⟩
            refine ⟨_, rfl, ?_⟩
            have n0_ := Aside0.mk (Kd.R_below (by (with_reducible repeat (first | apply Kd.R_alloc | apply Kd.R_drewN | apply Kd.R_drew)); exact HO265.out) hb)
            have n1_ := Aside0.mk (blk_below (g := gb268) (o := .cells #[.int .i64 t262, .slice Ao44 t263.length co44] 25 (0, 0)) (laws_FnPostJoin_vb BK268) hb)
            have n2_ := Aside0.mk (blk_below (g := gb277) (o := .cells #[.int .i64 1, .slice Ao44 y273.length co44] 25 (0, 0)) (laws_FnPostJoin_vb BK277) hb)
            have n3_ := Aside0.mk (blk_below (g := gb282) (o := .cells #[.int .i64 2, .slice A57 y278.length c57] 25 (0, 0)) (laws_FnPostJoin_vb BK282) hb)
            have n4_ := Aside0.mk (Kd.C_below (by repeat (first | (with_reducible exact HR276.out) | (with_reducible refine Kd.C_alloc ?_ _) | (with_reducible refine Kd.C_drewN ?_ _) | (with_reducible refine Kd.C_drew ?_) | exact HR276.out)) hb)
            have n5_ := Aside0.mk (Kd.C_below (by repeat (first | (with_reducible exact HR281.out) | (with_reducible refine Kd.C_alloc ?_ _) | (with_reducible refine Kd.C_drewN ?_ _) | (with_reducible refine Kd.C_drew ?_) | exact HR281.out)) hb)
            have n6_ := Aside0.mk (below_step (laws_FnPostJoin_auHB) hb)
            clear HO265
            clear BK268
            clear BK277
            clear BK282
            clear HR276
            clear HR281
            clear HB
            have HO265 := n0_
            have BK268 := n1_
            have BK277 := n2_
            have BK282 := n3_
            have HR276 := n4_
            have HR281 := n5_
            have HB := n6_
            clear n0_ n1_ n2_ n3_ n4_ n5_ n6_
            (try clear hb)
            (try clear hb2)
            (try clear hk)
            (try clear hi)
            refine hK.out _ _ ⟨(blk_cell BK277.out 0).trans rfl, (blk_cell BK277.out 1).trans rfl, (blk_cell BK282.out 0).trans rfl, (blk_cell BK282.out 1).trans rfl, (blk_cell BK268.out 0).trans rfl, (blk_cell BK268.out 1).trans rfl⟩ (fun hHeld => ?_)
            clear hK K
            refine norm_ (a' := ?_) ?_ ?_
            rotate_left
            ·
             show Act.put _ (some 74) _ = _
             simp only [Act.put, List.setIfInBounds_toArray, List.set_cons_zero, List.set_cons_succ, i64_w, i32_w]
             rfl
            refine one_ (i := 7) (N := some 78) #[true, true, true, true, true, true, true, true, false, true, false, false, false, false, false, false, false, false, false, false, false, false, false, false, false, false, false, false, false, false, false, false, false, false, false, false, false] rfl rfl (one_of HT_.out (by kernel_rfl)) (by decide) (fun K hK => ?_)
            refine goes_ Try.func16 (by kernel_rfl) rfl #[.agg #[.int .i64 2, .slice A57 y278.length c57], .string t266, .int .i64 t267] (by rfl) rfl rfl (by (try simp only [List.map_toArray, List.map_cons, List.map_nil]); first | done | rfl | (simp only [List.length_drop, List.length_take]; rfl)) ?_
            with_reducible refine (impl_PostTo.calls k 2 _ _ y278 t266 t267 t284 _ ?side1 ?side2 A31.out).mono ?_
            (case side1 => repeat (first | exact (by repeat (first | (with_reducible exact HR281.out) | (with_reducible refine Kd.C_alloc ?_ _) | (with_reducible refine Kd.C_drewN ?_ _) | (with_reducible refine Kd.C_drew ?_) | exact HR281.out)) | (with_reducible refine Kd.C_alloc ?_ _) | (with_reducible refine Kd.C_drewN ?_ _) | (with_reducible refine Kd.C_drew ?_)))
            (case side2 => exact HC281.out)
            rintro e w65 ⟨rfl, hb⟩
            refine ⟨_, rfl, ?_⟩
            have n0_ := Aside0.mk (Kd.R_below (by (with_reducible repeat (first | apply Kd.R_alloc | apply Kd.R_drewN | apply Kd.R_drew)); exact HO265.out) hb)
            have n1_ := Aside0.mk (blk_below (g := gb268) (o := .cells #[.int .i64 t262, .slice Ao44 t263.length co44] 25 (0, 0)) (laws_FnPostJoin_vb BK268) hb)
            have n2_ := Aside0.mk (blk_below (g := gb277) (o := .cells #[.int .i64 1, .slice Ao44 y273.length co44] 25 (0, 0)) (laws_FnPostJoin_vb BK277) hb)
            have n3_ := Aside0.mk (blk_below (g := gb282) (o := .cells #[.int .i64 2, .slice A57 y278.length c57] 25 (0, 0)) (laws_FnPostJoin_vb BK282) hb)
            have n4_ := Aside0.mk (Kd.C_below (by repeat (first | (with_reducible exact HR276.out) | (with_reducible refine Kd.C_alloc ?_ _) | (with_reducible refine Kd.C_drewN ?_ _) | (with_reducible refine Kd.C_drew ?_) | exact HR276.out)) hb)
            have n5_ := Aside0.mk (Kd.C_below (by repeat (first | (with_reducible exact HR281.out) | (with_reducible refine Kd.C_alloc ?_ _) | (with_reducible refine Kd.C_drewN ?_ _) | (with_reducible refine Kd.C_drew ?_) | exact HR281.out)) hb)
            have n6_ := Aside0.mk (below_step (laws_FnPostJoin_auHB) hb)
            clear HO265
            clear BK268
            clear BK277
            clear BK282
            clear HR276
            clear HR281
            clear HB
            have HO265 := n0_
            have BK268 := n1_
            have BK277 := n2_
            have BK282 := n3_
            have HR276 := n4_
            have HR281 := n5_
            have HB := n6_
            clear n0_ n1_ n2_ n3_ n4_ n5_ n6_
            (try clear hb)
            (try clear hb2)
            (try clear hk)
            (try clear hi)
            refine hK.out _ _ ⟨(blk_cell BK277.out 0).trans rfl, (blk_cell BK277.out 1).trans rfl, (blk_cell BK282.out 0).trans rfl, (blk_cell BK282.out 1).trans rfl, (blk_cell BK268.out 0).trans rfl, (blk_cell BK268.out 1).trans rfl⟩ (fun hHeld => ?_)
            clear hK K
            refine norm_ (a' := ?_) ?_ ?_
            rotate_left
            ·
             show Act.put _ (some 78) _ = _
             simp only [Act.put, List.setIfInBounds_toArray, List.set_cons_zero, List.set_cons_succ, i64_w, i32_w]
             rfl
            refine pure_ (i := 8) (N := some 79) (v := ?_) (a' := ?_) #[true, true, true, true, true, true, true, true, true, true, false, false, false, false, false, false, false, false, false, false, false, false, false, false, false, false, false, false, false, false, false, false, false, false, false, false, false] rfl rfl (any_of HT_.out (by kernel_rfl)) (fun _ _ _ h => h) (Or.inl ⟨by rfl, ?_⟩) ?_ ?_
            rotate_left
            ·
             intro w'
             go_simp
             with_reducible rfl
            rotate_left
            ·
             simp only [Act.put, List.setIfInBounds_toArray, List.set_cons_zero, List.set_cons_succ, i64_w, i32_w]
             rfl
            refine pure_ (i := 10) (N := some 81) (v := ?_) (a' := ?_) #[true, true, true, true, true, true, true, true, true, true, true, false, false, false, false, false, false, false, false, false, false, false, false, false, false, false, false, false, false, false, false, false, false, false, false, false, false] rfl rfl (any_of HT_.out (by kernel_rfl)) (fun _ _ _ h => h) (Or.inl ⟨by rfl, ?_⟩) ?_ ?_
            rotate_left
            ·
             intro w'
             go_simp
             with_reducible rfl
            rotate_left
            ·
             simp only [Act.put, List.setIfInBounds_toArray, List.set_cons_zero, List.set_cons_succ, i64_w, i32_w]
             rfl
            refine pure_ (i := 11) (N := some 82) (v := ?_) (a' := ?_) #[true, true, true, true, true, true, true, true, true, true, true, true, false, false, false, false, false, false, false, false, false, false, false, false, false, false, false, false, false, false, false, false, false, false, false, false, false] rfl rfl (any_of HT_.out (by kernel_rfl)) (fun _ _ _ h => h) (Or.inl ⟨by rfl, ?_⟩) ?_ ?_
            rotate_left
            ·
             intro w'
             go_simp
             with_reducible rfl
            rotate_left
            ·
             simp only [Act.put, List.setIfInBounds_toArray, List.set_cons_zero, List.set_cons_succ, i64_w, i32_w]
             rfl
            refine pure_ (i := 13) (N := some 84) (v := ?_) (a' := ?_) #[true, true, true, true, true, true, true, true, true, true, true, true, false, true, false, false, false, false, false, false, false, false, false, false, false, false, false, false, false, false, false, false, false, false, false, false, false] rfl rfl (any_of HT_.out (by kernel_rfl)) (fun _ _ _ h => h) (Or.inl ⟨by rfl, ?_⟩) ?_ ?_
            rotate_left
            ·
             intro w'
             go_simp
             with_reducible rfl
            rotate_left
            ·
             simp only [Act.put, List.setIfInBounds_toArray, List.set_cons_zero, List.set_cons_succ, i64_w, i32_w]
             rfl
            refine pure_ (i := 16) (N := some 87) (v := ?_) (a' := ?_) #[true, true, true, true, true, true, true, true, true, true, true, true, false, true, false, false, true, false, false, false, false, false, false, false, false, false, false, false, false, false, false, false, false, false, false, false, false] rfl rfl (any_of HT_.out (by kernel_rfl)) (fun _ _ _ h => h) (Or.inl ⟨by rfl, ?_⟩) ?_ ?_
            rotate_left
            ·
             intro w'
             go_simp
             with_reducible rfl
            rotate_left
            ·
             simp only [Act.put, List.setIfInBounds_toArray, List.set_cons_zero, List.set_cons_succ, i64_w, i32_w]
             rfl
            refine pure_ (i := 20) (N := some 91) (v := ?_) (a' := ?_) #[true, true, true, true, true, true, true, true, true, true, true, true, false, true, false, false, true, false, false, false, true, false, false, false, false, false, false, false, false, false, false, false, false, false, false, false, false] rfl rfl (any_of HT_.out (by kernel_rfl)) (fun _ _ _ h => h) (Or.inl ⟨by rfl, ?_⟩) ?_ ?_
            rotate_left
            ·
             intro w'
             go_simp
             with_reducible rfl
            rotate_left
            ·
             simp only [Act.put, List.setIfInBounds_toArray, List.set_cons_zero, List.set_cons_succ, i64_w, i32_w]
             rfl
            refine take_ (i := 12) (N := some 83) (v := ?_) (a' := ?_) #[true, true, true, true, true, true, true, true, true, true, true, true, true, true, false, false, true, false, false, false, true, false, false, false, false, false, false, false, false, false, false, false, false, false, false, false, false] rfl rfl (take_ofW HT_.out HW_.out (by kernel_rfl)) (fun _ _ _ h => h) (Or.inl ⟨by rfl, ?_⟩) hHeld ?_ ?_
            rotate_left
            ·
             rintro w' ⟨s0, s1, s2, s3, s4, s5⟩
             go_simp
             with_reducible rfl
            rotate_left
            ·
             simp only [Act.put, List.setIfInBounds_toArray, List.set_cons_zero, List.set_cons_succ, i64_w, i32_w]
             rfl
            refine take_ (i := 15) (N := some 86) (v := ?_) (a' := ?_) #[true, true, true, true, true, true, true, true, true, true, true, true, true, true, false, true, true, false, false, false, true, false, false, false, false, false, false, false, false, false, false, false, false, false, false, false, false] rfl rfl (take_ofW HT_.out HW_.out (by kernel_rfl)) (fun _ _ _ h => h) (Or.inl ⟨by rfl, ?_⟩) hHeld ?_ ?_
            rotate_left
            ·
             rintro w' ⟨s0, s1, s2, s3, s4, s5⟩
             go_simp
             with_reducible rfl
            rotate_left
            ·
             simp only [Act.put, List.setIfInBounds_toArray, List.set_cons_zero, List.set_cons_succ, i64_w, i32_w]
             rfl
            refine take_ (i := 19) (N := some 90) (v := ?_) (a' := ?_) #[true, true, true, true, true, true, true, true, true, true, true, true, true, true, false, true, true, false, false, true, true, false, false, false, false, false, false, false, false, false, false, false, false, false, false, false, false] rfl rfl (take_ofW HT_.out HW_.out (by kernel_rfl)) (fun _ _ _ h => h) (Or.inl ⟨by rfl, ?_⟩) hHeld ?_ ?_
            rotate_left
            ·
             rintro w' ⟨s0, s1, s2, s3, s4, s5⟩
             go_simp
             with_reducible rfl
            rotate_left
            ·
             simp only [Act.put, List.setIfInBounds_toArray, List.set_cons_zero, List.set_cons_succ, i64_w, i32_w]
             rfl
            refine one_ (i := 14) (N := some 85) #[true, true, true, true, true, true, true, true, true, true, true, true, true, true, true, true, true, false, false, true, true, false, false, false, false, false, false, false, false, false, false, false, false, false, false, false, false] rfl rfl (one_of HT_.out (by kernel_rfl)) (by decide) (fun K hK => ?_)
            refine goes_ Try.func19 (by kernel_rfl) rfl #[.agg #[.int .i64 1, .slice Ao44 y273.length co44], .int .i64 t267] (by rfl) rfl rfl (by (try simp only [List.map_toArray, List.map_cons, List.map_nil]); first | done | rfl | (simp only [List.length_drop, List.length_take]; rfl)) ?_
            with_reducible refine (impl_PostSum.calls k 1 _ _ y273 t267 t285 _ ?side1 ?side2 A33.out).mono ?_
            (case side1 => repeat (first | exact (by repeat (first | (with_reducible exact HR276.out) | (with_reducible refine Kd.C_alloc ?_ _) | (with_reducible refine Kd.C_drewN ?_ _) | (with_reducible refine Kd.C_drew ?_) | exact HR276.out)) | (with_reducible refine Kd.C_alloc ?_ _) | (with_reducible refine Kd.C_drewN ?_ _) | (with_reducible refine Kd.C_drew ?_)))
            (case side2 => exact HC276.out)
            rintro e w66 ⟨rfl, hb⟩
            refine ⟨_, rfl, ?_⟩
            have n0_ := Aside0.mk (Kd.R_below (by (with_reducible repeat (first | apply Kd.R_alloc | apply Kd.R_drewN | apply Kd.R_drew)); exact HO265.out) hb)
            have n1_ := Aside0.mk (blk_below (g := gb268) (o := .cells #[.int .i64 t262, .slice Ao44 t263.length co44] 25 (0, 0)) (laws_FnPostJoin_vb BK268) hb)
            have n2_ := Aside0.mk (blk_below (g := gb277) (o := .cells #[.int .i64 1, .slice Ao44 y273.length co44] 25 (0, 0)) (laws_FnPostJoin_vb BK277) hb)
            have n3_ := Aside0.mk (blk_below (g := gb282) (o := .cells #[.int .i64 2, .slice A57 y278.length c57] 25 (0, 0)) (laws_FnPostJoin_vb BK282) hb)
            have n4_ := Aside0.mk (Kd.C_below (by repeat (first | (with_reducible exact HR276.out) | (with_reducible refine Kd.C_alloc ?_ _) | (with_reducible refine Kd.C_drewN ?_ _) | (with_reducible refine Kd.C_drew ?_) | exact HR276.out)) hb)
            have n5_ := Aside0.mk (Kd.C_below (by repeat (first | (with_reducible exact HR281.out) | (with_reducible refine Kd.C_alloc ?_ _) | (with_reducible refine Kd.C_drewN ?_ _) | (with_reducible refine Kd.C_drew ?_) | exact HR281.out)) hb)
            have n6_ := Aside0.mk (below_step (laws_FnPostJoin_auHB) hb)
            clear HO265
            clear BK268
            clear BK277
            clear BK282
            clear HR276
            clear HR281
            clear HB
            have HO265 := n0_
            have BK268 := n1_
            have BK277 := n2_
            have BK282 := n3_
            have HR276 := n4_
            have HR281 := n5_
            have HB := n6_
            clear n0_ n1_ n2_ n3_ n4_ n5_ n6_
            (try clear hb)
            (try clear hb2)
            (try clear hk)
            (try clear hi)
            refine hK.out _ _ ⟨(blk_cell BK277.out 0).trans rfl, (blk_cell BK277.out 1).trans rfl, (blk_cell BK282.out 0).trans rfl, (blk_cell BK282.out 1).trans rfl, (blk_cell BK268.out 0).trans rfl, (blk_cell BK268.out 1).trans rfl⟩ (fun hHeld => ?_)
            clear hK K
            refine norm_ (a' := ?_) ?_ ?_
            rotate_left
            ·
             show Act.put _ (some 85) _ = _
             simp only [Act.put, List.setIfInBounds_toArray, List.set_cons_zero, List.set_cons_succ, i64_w, i32_w]
             rfl
            refine one_ (i := 17) (N := some 88) #[true, true, true, true, true, true, true, true, true, true, true, true, true, true, true, true, true, true, false, true, true, false, false, false, false, false, false, false, false, false, false, false, false, false, false, false, false] rfl rfl (one_of HT_.out (by kernel_rfl)) (by decide) (fun K hK => ?_)
            refine goes_ Try.func19 (by kernel_rfl) rfl #[.agg #[.int .i64 2, .slice A57 y278.length c57], .int .i64 t267] (by rfl) rfl rfl (by (try simp only [List.map_toArray, List.map_cons, List.map_nil]); first | done | rfl | (simp only [List.length_drop, List.length_take]; rfl)) ?_
            with_reducible refine (impl_PostSum.calls k 2 _ _ y278 t267 t286 _ ?side1 ?side2 A34.out).mono ?_
            (case side1 => repeat (first | exact (by repeat (first | (with_reducible exact HR281.out) | (with_reducible refine Kd.C_alloc ?_ _) | (with_reducible refine Kd.C_drewN ?_ _) | (with_reducible refine Kd.C_drew ?_) | exact HR281.out)) | (with_reducible refine Kd.C_alloc ?_ _) | (with_reducible refine Kd.C_drewN ?_ _) | (with_reducible refine Kd.C_drew ?_)))
            (case side2 => exact HC281.out)
            rintro e w67 ⟨rfl, hb⟩
            refine ⟨_, rfl, ?_⟩
            have n0_ := Aside0.mk (Kd.R_below (by (with_reducible repeat (first | apply Kd.R_alloc | apply Kd.R_drewN | apply Kd.R_drew)); exact HO265.out) hb)
            have n1_ := Aside0.mk (blk_below (g := gb268) (o := .cells #[.int .i64 t262, .slice Ao44 t263.length co44] 25 (0, 0)) (laws_FnPostJoin_vb BK268) hb)
            have n2_ := Aside0.mk (blk_below (g := gb277) (o := .cells #[.int .i64 1, .slice Ao44 y273.length co44] 25 (0, 0)) (laws_FnPostJoin_vb BK277) hb)
            have n3_ := Aside0.mk (blk_below (g := gb282) (o := .cells #[.int .i64 2, .slice A57 y278.length c57] 25 (0, 0)) (laws_FnPostJoin_vb BK282) hb)
            have n4_ := Aside0.mk (Kd.C_below (by repeat (first | (with_reducible exact HR276.out) | (with_reducible refine Kd.C_alloc ?_ _) | (with_reducible refine Kd.C_drewN ?_ _) | (with_reducible refine Kd.C_drew ?_) | exact HR276.out)) hb)
            have n5_ := Aside0.mk (Kd.C_below (by repeat (first | (with_reducible exact HR281.out) | (with_reducible refine Kd.C_alloc ?_ _) | (with_reducible refine Kd.C_drewN ?_ _) | (with_reducible refine Kd.C_drew ?_) | exact HR281.out)) hb)
            have n6_ := Aside0.mk (below_step (laws_FnPostJoin_auHB) hb)
            clear HO265
            clear BK268
            clear BK277
            clear BK282
            clear HR276
            clear HR281
            clear HB
            have HO265 := n0_
            have BK268 := n1_
            have BK277 := n2_
            have BK282 := n3_
            have HR276 := n4_
            have HR281 := n5_
            have HB := n6_
            clear n0_ n1_ n2_ n3_ n4_ n5_ n6_
            (try clear hb)
            (try clear hb2)
            (try clear hk)
            (try clear hi)
            refine hK.out _ _ ⟨(blk_cell BK277.out 0).trans rfl, (blk_cell BK277.out 1).trans rfl, (blk_cell BK282.out 0).trans rfl, (blk_cell BK282.out 1).trans rfl, (blk_cell BK268.out 0).trans rfl, (blk_cell BK268.out 1).trans rfl⟩ (fun hHeld => ?_)
            clear hK K
            refine norm_ (a' := ?_) ?_ ?_
            rotate_left
            ·
             show Act.put _ (some 88) _ = _
             simp only [Act.put, List.setIfInBounds_toArray, List.set_cons_zero, List.set_cons_succ, i64_w, i32_w]
             rfl
            refine pure_ (i := 18) (N := some 89) (v := ?_) (a' := ?_) #[true, true, true, true, true, true, true, true, true, true, true, true, true, true, true, true, true, true, true, true, true, false, false, false, false, false, false, false, false, false, false, false, false, false, false, false, false] rfl rfl (any_of HT_.out (by kernel_rfl)) (fun _ _ _ h => h) (Or.inl ⟨by rfl, ?_⟩) ?_ ?_
            rotate_left
            ·
             intro w'
             go_simp
             with_reducible rfl
            rotate_left
            ·
             simp only [Act.put, List.setIfInBounds_toArray, List.set_cons_zero, List.set_cons_succ, i64_w, i32_w]
             rfl
            refine one_ (i := 21) (N := some 92) #[true, true, true, true, true, true, true, true, true, true, true, true, true, true, true, true, true, true, true, true, true, true, false, false, false, false, false, false, false, false, false, false, false, false, false, false, false] rfl rfl (one_of HT_.out (by kernel_rfl)) (by decide) (fun K hK => ?_)
            refine goes_ Try.func19 (by kernel_rfl) rfl #[.agg #[.int .i64 t262, .slice Ao44 t263.length co44], .int .i64 t267] (by rfl) rfl rfl (by (try simp only [List.map_toArray, List.map_cons, List.map_nil]); first | done | rfl | (simp only [List.length_drop, List.length_take]; rfl)) ?_
            with_reducible refine (impl_PostSum.calls k t262 _ _ t263 t267 t287 _ ?side1 ?side2 A35.out).mono ?_
            (case side1 => repeat (first | exact (Kd.R_reads' HO265.out).2.2 | (with_reducible refine Kd.C_alloc ?_ _) | (with_reducible refine Kd.C_drewN ?_ _) | (with_reducible refine Kd.C_drew ?_)))
            (case side2 => exact (Kd.R_reads' HO265.out).2.1)
            rintro e w68 ⟨rfl, hb⟩
            refine ⟨_, rfl, ?_⟩
            have n0_ := Aside0.mk (Kd.R_below (by (with_reducible repeat (first | apply Kd.R_alloc | apply Kd.R_drewN | apply Kd.R_drew)); exact HO265.out) hb)
            have n1_ := Aside0.mk (blk_below (g := gb268) (o := .cells #[.int .i64 t262, .slice Ao44 t263.length co44] 25 (0, 0)) (laws_FnPostJoin_vb BK268) hb)
            have n2_ := Aside0.mk (blk_below (g := gb277) (o := .cells #[.int .i64 1, .slice Ao44 y273.length co44] 25 (0, 0)) (laws_FnPostJoin_vb BK277) hb)
            have n3_ := Aside0.mk (blk_below (g := gb282) (o := .cells #[.int .i64 2, .slice A57 y278.length c57] 25 (0, 0)) (laws_FnPostJoin_vb BK282) hb)
            have n4_ := Aside0.mk (Kd.C_below (by repeat (first | (with_reducible exact HR276.out) | (with_reducible refine Kd.C_alloc ?_ _) | (with_reducible refine Kd.C_drewN ?_ _) | (with_reducible refine Kd.C_drew ?_) | exact HR276.out)) hb)
            have n5_ := Aside0.mk (Kd.C_below (by repeat (first | (with_reducible exact HR281.out) | (with_reducible refine Kd.C_alloc ?_ _) | (with_reducible refine Kd.C_drewN ?_ _) | (with_reducible refine Kd.C_drew ?_) | exact HR281.out)) hb)
            have n6_ := Aside0.mk (below_step (laws_FnPostJoin_auHB) hb)
            clear HO265
            clear BK268
            clear BK277
            clear BK282
            clear HR276
            clear HR281
            clear HB
            have HO265 := n0_
            have BK268 := n1_
            have BK277 := n2_
            have BK282 := n3_
            have HR276 := n4_
            have HR281 := n5_
            have HB := n6_
            clear n0_ n1_ n2_ n3_ n4_ n5_ n6_
            (try clear hb)
            (try clear hb2)
            (try clear hk)
            (try clear hi)
            refine hK.out _ _ ⟨(blk_cell BK277.out 0).trans rfl, (blk_cell BK277.out 1).trans rfl, (blk_cell BK282.out 0).trans rfl, (blk_cell BK282.out 1).trans rfl, (blk_cell BK268.out 0).trans rfl, (blk_cell BK268.out 1).trans rfl⟩ (fun hHeld => ?_)
            clear hK K
            refine norm_ (a' := ?_) ?_ ?_
            rotate_left
            ·
             show Act.put _ (some 92) _ = _
             simp only [Act.put, List.setIfInBounds_toArray, List.set_cons_zero, List.set_cons_succ, i64_w, i32_w]
             rfl
            refine pure_ (i := 22) (N := some 93) (v := ?_) (a' := ?_) #[true, true, true, true, true, true, true, true, true, true, true, true, true, true, true, true, true, true, true, true, true, true, true, false, false, false, false, false, false, false, false, false, false, false, false, false, false] rfl rfl (any_of HT_.out (by kernel_rfl)) (fun _ _ _ h => h) (Or.inl ⟨by rfl, ?_⟩) ?_ ?_
            rotate_left
            ·
             intro w'
             go_simp
             with_reducible rfl
            rotate_left
            ·
             simp only [Act.put, List.setIfInBounds_toArray, List.set_cons_zero, List.set_cons_succ, i64_w, i32_w]
             rfl
            refine pure_ (i := 23) (N := some 94) (v := ?_) (a' := ?_) #[true, true, true, true, true, true, true, true, true, true, true, true, true, true, true, true, true, true, true, true, true, true, true, true, false, false, false, false, false, false, false, false, false, false, false, false, false] rfl rfl (any_of HT_.out (by kernel_rfl)) (fun _ _ _ h => h) (Or.inl ⟨by rfl, ?_⟩) ?_ ?_
            rotate_left
            ·
             intro w'
             go_simp
             with_reducible rfl
            rotate_left
            ·
             simp only [Act.put, List.setIfInBounds_toArray, List.set_cons_zero, List.set_cons_succ, i64_w, i32_w]
             rfl
            refine pure_ (i := 24) (N := some 95) (v := ?_) (a' := ?_) #[true, true, true, true, true, true, true, true, true, true, true, true, true, true, true, true, true, true, true, true, true, true, true, true, true, false, false, false, false, false, false, false, false, false, false, false, false] rfl rfl (any_of HT_.out (by kernel_rfl)) (fun _ _ _ h => h) (Or.inl ⟨by rfl, ?_⟩) ?_ ?_
            rotate_left
            ·
             intro w'
             go_simp
             with_reducible rfl
            rotate_left
            ·
             simp only [Act.put, List.setIfInBounds_toArray, List.set_cons_zero, List.set_cons_succ, i64_w, i32_w]
             rfl
            refine take_ (i := 25) (N := some 96) (v := ?_) (a' := ?_) #[true, true, true, true, true, true, true, true, true, true, true, true, true, true, true, true, true, true, true, true, true, true, true, true, true, true, false, false, false, false, false, false, false, false, false, false, false] rfl rfl (take_ofW HT_.out HW_.out (by kernel_rfl)) (fun _ _ _ h => h) (Or.inl ⟨by rfl, ?_⟩) hHeld ?_ ?_
            rotate_left
            ·
             rintro w' ⟨s0, s1, s2, s3, s4, s5⟩
             go_simp
             with_reducible rfl
            rotate_left
            ·
             simp only [Act.put, List.setIfInBounds_toArray, List.set_cons_zero, List.set_cons_succ, i64_w, i32_w]
             rfl
            refine one_ (i := 26) (N := some 97) #[true, true, true, true, true, true, true, true, true, true, true, true, true, true, true, true, true, true, true, true, true, true, true, true, true, true, true, false, false, false, false, false, false, false, false, false, false] rfl rfl (one_of HT_.out (by kernel_rfl)) (by decide) (fun K hK => ?_)
            refine goes_ Try.func20 (by kernel_rfl) rfl #[.agg #[.int .i64 t262, .slice Ao44 t263.length co44]] (by rfl) rfl rfl (by (try simp only [List.map_toArray, List.map_cons, List.map_nil]); first | done | rfl | (simp only [List.length_drop, List.length_take]; rfl)) ?_
            with_reducible refine (impl_PostFair.calls k t262 _ _ t263 true _ ?side1 ?side2 A37.out).mono ?_
            (case side1 => repeat (first | exact (Kd.R_reads' HO265.out).2.2 | (with_reducible refine Kd.C_alloc ?_ _) | (with_reducible refine Kd.C_drewN ?_ _) | (with_reducible refine Kd.C_drew ?_)))
            (case side2 => exact (Kd.R_reads' HO265.out).2.1)
            rintro e w69 ⟨rfl, hb⟩
            refine ⟨_, rfl, ?_⟩
            have n0_ := Aside0.mk (Kd.R_below (by (with_reducible repeat (first | apply Kd.R_alloc | apply Kd.R_drewN | apply Kd.R_drew)); exact HO265.out) hb)
            have n1_ := Aside0.mk (blk_below (g := gb268) (o := .cells #[.int .i64 t262, .slice Ao44 t263.length co44] 25 (0, 0)) (laws_FnPostJoin_vb BK268) hb)
            have n2_ := Aside0.mk (blk_below (g := gb277) (o := .cells #[.int .i64 1, .slice Ao44 y273.length co44] 25 (0, 0)) (laws_FnPostJoin_vb BK277) hb)
            have n3_ := Aside0.mk (blk_below (g := gb282) (o := .cells #[.int .i64 2, .slice A57 y278.length c57] 25 (0, 0)) (laws_FnPostJoin_vb BK282) hb)
            have n4_ := Aside0.mk (Kd.C_below (by repeat (first | (with_reducible exact HR276.out) | (with_reducible refine Kd.C_alloc ?_ _) | (with_reducible refine Kd.C_drewN ?_ _) | (with_reducible refine Kd.C_drew ?_) | exact HR276.out)) hb)
            have n5_ := Aside0.mk (Kd.C_below (by repeat (first | (with_reducible exact HR281.out) | (with_reducible refine Kd.C_alloc ?_ _) | (with_reducible refine Kd.C_drewN ?_ _) | (with_reducible refine Kd.C_drew ?_) | exact HR281.out)) hb)
            have n6_ := Aside0.mk (below_step (laws_FnPostJoin_auHB) hb)
            clear HO265
            clear BK268
            clear BK277
            clear BK282
            clear HR276
            clear HR281
            clear HB
            have HO265 := n0_
            have BK268 := n1_
            have BK277 := n2_
            have BK282 := n3_
            have HR276 := n4_
            have HR281 := n5_
            have HB := n6_
            clear n0_ n1_ n2_ n3_ n4_ n5_ n6_
            (try clear hb)
            (try clear hb2)
            (try clear hk)
            (try clear hi)
            refine hK.out _ _ ⟨(blk_cell BK277.out 0).trans rfl, (blk_cell BK277.out 1).trans rfl, (blk_cell BK282.out 0).trans rfl, (blk_cell BK282.out 1).trans rfl, (blk_cell BK268.out 0).trans rfl, (blk_cell BK268.out 1).trans rfl⟩ (fun hHeld => ?_)
            clear hK K
            refine norm_ (a' := ?_) ?_ ?_
            rotate_left
            ·
             show Act.put _ (some 97) _ = _
             simp only [Act.put, List.setIfInBounds_toArray, List.set_cons_zero, List.set_cons_succ, i64_w, i32_w]
             rfl
            refine pure_ (i := 27) (N := some 98) (v := ?_) (a' := ?_) #[true, true, true, true, true, true, true, true, true, true, true, true, true, true, true, true, true, true, true, true, true, true, true, true, true, true, true, true, false, false, false, false, false, false, false, false, false] rfl rfl (any_of HT_.out (by kernel_rfl)) (fun _ _ _ h => h) (Or.inl ⟨by rfl, ?_⟩) ?_ ?_
            rotate_left
            ·
             intro w'
             go_simp
             with_reducible rfl
            rotate_left
            ·
             simp only [Act.put, List.setIfInBounds_toArray, List.set_cons_zero, List.set_cons_succ, i64_w, i32_w]
             rfl
            refine pure_ (i := 28) (N := some 99) (v := ?_) (a' := ?_) #[true, true, true, true, true, true, true, true, true, true, true, true, true, true, true, true, true, true, true, true, true, true, true, true, true, true, true, true, true, false, false, false, false, false, false, false, false] rfl rfl (any_of HT_.out (by kernel_rfl)) (fun _ _ _ h => h) (Or.inl ⟨by rfl, ?_⟩) ?_ ?_
            rotate_left
            ·
             intro w'
             go_simp
             with_reducible rfl
            rotate_left
            ·
             simp only [Act.put, List.setIfInBounds_toArray, List.set_cons_zero, List.set_cons_succ, i64_w, i32_w]
             rfl
            refine take_ (i := 29) (N := some 100) (v := ?_) (a' := ?_) #[true, true, true, true, true, true, true, true, true, true, true, true, true, true, true, true, true, true, true, true, true, true, true, true, true, true, true, true, true, true, false, false, false, false, false, false, false] rfl rfl (take_ofW HT_.out HW_.out (by kernel_rfl)) (fun _ _ _ h => h) (Or.inl ⟨by rfl, ?_⟩) hHeld ?_ ?_
            rotate_left
            ·
             rintro w' ⟨s0, s1, s2, s3, s4, s5⟩
             go_simp
             with_reducible rfl
            rotate_left
            ·
             simp only [Act.put, List.setIfInBounds_toArray, List.set_cons_zero, List.set_cons_succ, i64_w, i32_w]
             rfl
            refine take_ (i := 31) (N := some 102) (v := ?_) (a' := ?_) #[true, true, true, true, true, true, true, true, true, true, true, true, true, true, true, true, true, true, true, true, true, true, true, true, true, true, true, true, true, true, false, true, false, false, false, false, false] rfl rfl (take_ofW HT_.out HW_.out (by kernel_rfl)) (fun _ _ _ h => h) (Or.inl ⟨by rfl, ?_⟩) hHeld ?_ ?_
            rotate_left
            ·
             rintro w' ⟨s0, s1, s2, s3, s4, s5⟩
             go_simp
             with_reducible rfl
            rotate_left
            ·
             simp only [Act.put, List.setIfInBounds_toArray, List.set_cons_zero, List.set_cons_succ, i64_w, i32_w]
             rfl
            refine one_ (i := 30) (N := some 101) #[true, true, true, true, true, true, true, true, true, true, true, true, true, true, true, true, true, true, true, true, true, true, true, true, true, true, true, true, true, true, true, true, false, false, false, false, false] rfl rfl (one_of HT_.out (by kernel_rfl)) (by decide) (fun K hK => ?_)
            refine goes_ Try.func20 (by kernel_rfl) rfl #[.agg #[.int .i64 1, .slice Ao44 y273.length co44]] (by rfl) rfl rfl (by (try simp only [List.map_toArray, List.map_cons, List.map_nil]); first | done | rfl | (simp only [List.length_drop, List.length_take]; rfl)) ?_
            with_reducible refine (impl_PostFair.calls k 1 _ _ y273 t289 _ ?side1 ?side2 A39.out).mono ?_
            (case side1 => repeat (first | exact (by repeat (first | (with_reducible exact HR276.out) | (with_reducible refine Kd.C_alloc ?_ _) | (with_reducible refine Kd.C_drewN ?_ _) | (with_reducible refine Kd.C_drew ?_) | exact HR276.out)) | (with_reducible refine Kd.C_alloc ?_ _) | (with_reducible refine Kd.C_drewN ?_ _) | (with_reducible refine Kd.C_drew ?_)))
            (case side2 => exact HC276.out)
            rintro e w70 ⟨rfl, hb⟩
            refine ⟨_, rfl, ?_⟩
            have n0_ := Aside0.mk (Kd.R_below (by (with_reducible repeat (first | apply Kd.R_alloc | apply Kd.R_drewN | apply Kd.R_drew)); exact HO265.out) hb)
            have n1_ := Aside0.mk (blk_below (g := gb268) (o := .cells #[.int .i64 t262, .slice Ao44 t263.length co44] 25 (0, 0)) (laws_FnPostJoin_vb BK268) hb)
            have n2_ := Aside0.mk (blk_below (g := gb277) (o := .cells #[.int .i64 1, .slice Ao44 y273.length co44] 25 (0, 0)) (laws_FnPostJoin_vb BK277) hb)
            have n3_ := Aside0.mk (blk_below (g := gb282) (o := .cells #[.int .i64 2, .slice A57 y278.length c57] 25 (0, 0)) (laws_FnPostJoin_vb BK282) hb)
            have n4_ := Aside0.mk (Kd.C_below (by repeat (first | (with_reducible exact HR276.out) | (with_reducible refine Kd.C_alloc ?_ _) | (with_reducible refine Kd.C_drewN ?_ _) | (with_reducible refine Kd.C_drew ?_) | exact HR276.out)) hb)
            have n5_ := Aside0.mk (Kd.C_below (by repeat (first | (with_reducible exact HR281.out) | (with_reducible refine Kd.C_alloc ?_ _) | (with_reducible refine Kd.C_drewN ?_ _) | (with_reducible refine Kd.C_drew ?_) | exact HR281.out)) hb)
            have n6_ := Aside0.mk (below_step (laws_FnPostJoin_auHB) hb)
            clear HO265
            clear BK268
            clear BK277
            clear BK282
            clear HR276
            clear HR281
            clear HB
            have HO265 := n0_
            have BK268 := n1_
            have BK277 := n2_
            have BK282 := n3_
            have HR276 := n4_
            have HR281 := n5_
            have HB := n6_
            clear n0_ n1_ n2_ n3_ n4_ n5_ n6_
            (try clear hb)
            (try clear hb2)
            (try clear hk)
            (try clear hi)
            refine hK.out _ _ ⟨(blk_cell BK277.out 0).trans rfl, (blk_cell BK277.out 1).trans rfl, (blk_cell BK282.out 0).trans rfl, (blk_cell BK282.out 1).trans rfl, (blk_cell BK268.out 0).trans rfl, (blk_cell BK268.out 1).trans rfl⟩ (fun hHeld => ?_)
            clear hK K
            refine norm_ (a' := ?_) ?_ ?_
            rotate_left
            ·
             show Act.put _ (some 101) _ = _
             simp only [Act.put, List.setIfInBounds_toArray, List.set_cons_zero, List.set_cons_succ, i64_w, i32_w]
             rfl
            refine one_ (i := 32) (N := some 103) #[true, true, true, true, true, true, true, true, true, true, true, true, true, true, true, true, true, true, true, true, true, true, true, true, true, true, true, true, true, true, true, true, true, false, false, false, false] rfl rfl (one_of HT_.out (by kernel_rfl)) (by decide) (fun K hK => ?_)
            refine goes_ Try.func20 (by kernel_rfl) rfl #[.agg #[.int .i64 2, .slice A57 y278.length c57]] (by rfl) rfl rfl (by (try simp only [List.map_toArray, List.map_cons, List.map_nil]); first | done | rfl | (simp only [List.length_drop, List.length_take]; rfl)) ?_
            with_reducible refine (impl_PostFair.calls k 2 _ _ y278 t290 _ ?side1 ?side2 A40.out).mono ?_
            (case side1 => repeat (first | exact (by repeat (first | (with_reducible exact HR281.out) | (with_reducible refine Kd.C_alloc ?_ _) | (with_reducible refine Kd.C_drewN ?_ _) | (with_reducible refine Kd.C_drew ?_) | exact HR281.out)) | (with_reducible refine Kd.C_alloc ?_ _) | (with_reducible refine Kd.C_drewN ?_ _) | (with_reducible refine Kd.C_drew ?_)))
            (case side2 => exact HC281.out)
            rintro e w71 ⟨rfl, hb⟩
            refine ⟨_, rfl, ?_⟩
            have n0_ := Aside0.mk (Kd.R_below (by (with_reducible repeat (first | apply Kd.R_alloc | apply Kd.R_drewN | apply Kd.R_drew)); exact HO265.out) hb)
            have n1_ := Aside0.mk (blk_below (g := gb268) (o := .cells #[.int .i64 t262, .slice Ao44 t263.length co44] 25 (0, 0)) (laws_FnPostJoin_vb BK268) hb)
            have n2_ := Aside0.mk (blk_below (g := gb277) (o := .cells #[.int .i64 1, .slice Ao44 y273.length co44] 25 (0, 0)) (laws_FnPostJoin_vb BK277) hb)
            have n3_ := Aside0.mk (blk_below (g := gb282) (o := .cells #[.int .i64 2, .slice A57 y278.length c57] 25 (0, 0)) (laws_FnPostJoin_vb BK282) hb)
            have n4_ := Aside0.mk (Kd.C_below (by repeat (first | (with_reducible exact HR276.out) | (with_reducible refine Kd.C_alloc ?_ _) | (with_reducible refine Kd.C_drewN ?_ _) | (with_reducible refine Kd.C_drew ?_) | exact HR276.out)) hb)
            have n5_ := Aside0.mk (Kd.C_below (by repeat (first | (with_reducible exact HR281.out) | (with_reducible refine Kd.C_alloc ?_ _) | (with_reducible refine Kd.C_drewN ?_ _) | (with_reducible refine Kd.C_drew ?_) | exact HR281.out)) hb)
            have n6_ := Aside0.mk (below_step (laws_FnPostJoin_auHB) hb)
            clear HO265
            clear BK268
            clear BK277
            clear BK282
            clear HR276
            clear HR281
            clear HB
            have HO265 := n0_
            have BK268 := n1_
            have BK277 := n2_
            have BK282 := n3_
            have HR276 := n4_
            have HR281 := n5_
            have HB := n6_
            clear n0_ n1_ n2_ n3_ n4_ n5_ n6_
            (try clear hb)
            (try clear hb2)
            (try clear hk)
            (try clear hi)
            refine hK.out _ _ ⟨(blk_cell BK277.out 0).trans rfl, (blk_cell BK277.out 1).trans rfl, (blk_cell BK282.out 0).trans rfl, (blk_cell BK282.out 1).trans rfl, (blk_cell BK268.out 0).trans rfl, (blk_cell BK268.out 1).trans rfl⟩ (fun hHeld => ?_)
            clear hK K
            refine norm_ (a' := ?_) ?_ ?_
            rotate_left
            ·
             show Act.put _ (some 103) _ = _
             simp only [Act.put, List.setIfInBounds_toArray, List.set_cons_zero, List.set_cons_succ, i64_w, i32_w]
             rfl
            refine pure_ (i := 33) (N := some 104) (v := ?_) (a' := ?_) #[true, true, true, true, true, true, true, true, true, true, true, true, true, true, true, true, true, true, true, true, true, true, true, true, true, true, true, true, true, true, true, true, true, true, false, false, false] rfl rfl (any_of HT_.out (by kernel_rfl)) (fun _ _ _ h => h) (Or.inl ⟨by rfl, ?_⟩) ?_ ?_
            rotate_left
            ·
             intro w'
             go_simp
             with_reducible rfl
            rotate_left
            ·
             simp only [Act.put, List.setIfInBounds_toArray, List.set_cons_zero, List.set_cons_succ, i64_w, i32_w]
             rfl
            refine pure_ (i := 34) (N := some 105) (v := ?_) (a' := ?_) #[true, true, true, true, true, true, true, true, true, true, true, true, true, true, true, true, true, true, true, true, true, true, true, true, true, true, true, true, true, true, true, true, true, true, true, false, false] rfl rfl (any_of HT_.out (by kernel_rfl)) (fun _ _ _ h => h) (Or.inl ⟨by rfl, ?_⟩) ?_ ?_
            rotate_left
            ·
             intro w'
             go_simp
             with_reducible rfl
            rotate_left
            ·
             simp only [Act.put, List.setIfInBounds_toArray, List.set_cons_zero, List.set_cons_succ, i64_w, i32_w]
             rfl
            refine pure_ (i := 35) (N := some 106) (v := ?_) (a' := ?_) #[true, true, true, true, true, true, true, true, true, true, true, true, true, true, true, true, true, true, true, true, true, true, true, true, true, true, true, true, true, true, true, true, true, true, true, true, false] rfl rfl (any_of HT_.out (by kernel_rfl)) (fun _ _ _ h => h) (Or.inl ⟨by rfl, ?_⟩) ?_ ?_
            rotate_left
            ·
             intro w'
             go_simp
             with_reducible rfl
            rotate_left
            ·
             simp only [Act.put, List.setIfInBounds_toArray, List.set_cons_zero, List.set_cons_succ, i64_w, i32_w]
             rfl
            refine pure_ (i := 36) (N := some 4) (v := ?_) (a' := ?_) #[true, true, true, true, true, true, true, true, true, true, true, true, true, true, true, true, true, true, true, true, true, true, true, true, true, true, true, true, true, true, true, true, true, true, true, true, true] rfl rfl (any_of HT_.out (by kernel_rfl)) (fun _ _ _ h => h) (Or.inl ⟨by rfl, ?_⟩) ?_ ?_
            rotate_left
            ·
             intro w'
             go_simp
             with_reducible rfl
            rotate_left
            ·
             simp only [Act.put, List.setIfInBounds_toArray, List.set_cons_zero, List.set_cons_succ, i64_w, i32_w]
             rfl
            refine done_ (done_of HT_.out (by kernel_rfl)) ?_
            try go_wp2
            go_ret
            exact ⟨by first | rfl | (simp [errW_none, errW_some] <;> rfl) | (simp only [← hji25]; first | rfl | (simp [errW_none, errW_some] <;> rfl)) | (simp [*, errW_none, errW_some] <;> rfl), laws_FnPostJoin_auHB⟩
           ·
            replace c38 := Bool.eq_false_iff.mpr c38
            subst c38
            have H1 : (some true) = some r := by rw [if_neg (show ¬ (false = true) by decide)] at H; exact H
            clear H
            have H := H1
            clear H1
            obtain rfl := Option.some.inj H
            go_enter Try.func4, Try.ntmps4
            try go_wp2_with (first | ((with_reducible refine gate_callee (f := 15) rfl ?_); refine goesL_ (some 22) rfl rfl Try.func15 (by kernel_rfl) rfl #[.slice A0 l0.length c0] rfl (by (try simp only [List.map_toArray, List.map_cons, List.map_nil]); first | done | rfl | (simp only [List.length_drop, List.length_take]; rfl)) ?_; (with_reducible refine (spec_DrawPostTo.calls k _ _ l0 t262 t263 t266 t267 _ ?side1 ?side2 A5.out).mono ?_); (case side1 => repeat (first | exact HR0.out | (with_reducible refine Kd.C_alloc ?_ _) | (with_reducible refine Kd.C_drewN ?_ _) | (with_reducible refine Kd.C_drew ?_))); (case side2 => exact HC0.out); rintro e w72 ⟨v264, rfl, ho0, hb⟩; refine ⟨_, rfl, ?_⟩; have n0_ := Aside0.mk (Kd.R_lower ho0 (below_size (laws_FnPostJoin_auHB))); have n1_ := Aside0.mk (below_step (laws_FnPostJoin_auHB) hb); clear HB; have HO265 := n0_; have HB := n1_; clear n0_ n1_; (try clear hb); (try clear hb2); (try clear hk); (try clear hi); (try clear ho0)) | ((with_reducible refine gate_dst (N := 5) rfl ?_); (try (refine gate_guard (by rfl) ?_; dsimp only)); refine box_event ?hg (N := 5) ?hd (cs := #[.int .i64 0, .slice none 0 0]) (t := 25) ?hr ?_; (case hd => rfl); (case hg => rfl); (case hr => first | (go_simp; done) | (go_simp; rfl)); intro gb268 hg w73 hbox hb; have n0_ := Aside0.mk (Kd.R_below (by (with_reducible repeat (first | apply Kd.R_alloc | apply Kd.R_drewN | apply Kd.R_drew)); exact HO265.out) hb); have n1_ := Aside0.mk (below_step (laws_FnPostJoin_auHB) hb); have n2_ := Aside0.mk (hbox); have n3_ := Aside0.mk ((by rw [hg]; exact (below_size (laws_FnPostJoin_auHB)) : w.heap.size ≤ gb268)); have n4_ := Aside0.mk ((by rw [hg]; exact (below_size (laws_FnPostJoin_auHB)) : w.heap.size ≤ gb268)); clear HO265; clear HB; have HO265 := n0_; have HB := n1_; have BK268 := n2_; have GW268 := n3_; have GE268 := n4_; clear n0_ n1_ n2_ n3_ n4_; clear hb hbox hg; have hcz74_0 : w73.cell? ⟨gb268, 0, none⟩ = some (.int .i64 0) := (blk_cell BK268.out 0).trans rfl; have hcz74_1 : w73.cell? ⟨gb268, 1, none⟩ = some (.slice none 0 0) := (blk_cell BK268.out 1).trans rfl; have hfz74_0 := blk_frozen BK268.out 0; have hfz74_1 := blk_frozen BK268.out 1; obtain ⟨Ao75, co75, eo75⟩ := Kd.R_slice HO265.out; subst eo75) | ((with_reducible refine gate_callee (f := 16) rfl ?_); refine goesL_ (some 29) rfl rfl Try.func16 (by kernel_rfl) rfl #[.agg #[.int .i64 t262, .slice Ao75 t263.length co75], .string t266, .int .i64 t267] rfl (by (try simp only [List.map_toArray, List.map_cons, List.map_nil]); first | done | rfl | (simp only [List.length_drop, List.length_take]; rfl)) ?_; (with_reducible refine (impl_PostTo.calls k t262 _ _ t263 t266 t267 t269 _ ?side1 ?side2 A6.out).mono ?_); (case side1 => refine (Kd.R_reads' (e := 29) (base := w.heap.size) (ok := fun k_ => True) (n := t263.length) (c := co75) ?_).2.2; exact (by (with_reducible repeat (first | apply Kd.R_alloc | apply Kd.R_drewN | apply Kd.R_drew)); exact (Kd.R_mono (Kd.R_far (p := ⟨gb268, 1, none⟩) (Kd.R_far (p := ⟨gb268, 0, none⟩) (Kd.R_types HO265.out BK268.out (by decide)) (fun _ hk => hk.2) (.int .i64 t262)) (fun _ hk => hk.2) (.slice Ao75 t263.length co75)) (fun _ h_ => h_.1)))); (case side2 => exact (Kd.R_reads' HO265.out).2.1); rintro e w76 ⟨rfl, hb⟩; refine ⟨_, rfl, ?_⟩; have n0_ := Aside0.mk (Kd.R_below (by (with_reducible repeat (first | apply Kd.R_alloc | apply Kd.R_drewN | apply Kd.R_drew)); exact (Kd.R_mono (Kd.R_far (p := ⟨gb268, 1, none⟩) (Kd.R_far (p := ⟨gb268, 0, none⟩) (Kd.R_types HO265.out BK268.out (by decide)) (fun _ hk => hk.2) (.int .i64 t262)) (fun _ hk => hk.2) (.slice Ao75 t263.length co75)) (fun _ h_ => h_.1))) hb); have n1_ := Aside0.mk (blk_below (g := gb268) (o := .cells #[.int .i64 t262, .slice Ao75 t263.length co75] 25 (0, 0)) (by (with_reducible repeat (first | refine blk_drewN ?_ _ | refine blk_drew ?_ | refine blk_alloc ?_ _)); refine blk_put (cs := #[.int .i64 t262, .slice none 0 0]) ?_ 1 _ rfl; (with_reducible repeat (first | refine blk_drewN ?_ _ | refine blk_drew ?_ | refine blk_alloc ?_ _)); refine blk_put (cs := #[.int .i64 0, .slice none 0 0]) ?_ 0 _ rfl; (with_reducible repeat (first | refine blk_drewN ?_ _ | refine blk_drew ?_ | refine blk_alloc ?_ _)); exact BK268.out) hb); have n2_ := Aside0.mk (below_step (laws_FnPostJoin_auHB) hb); clear HO265; clear BK268; clear HB; have HO265 := n0_; have BK268 := n1_; have HB := n2_; clear n0_ n1_ n2_; (try clear hb); (try clear hb2); (try clear hk); (try clear hi); have hcz77_0 : w76.cell? ⟨gb268, 0, none⟩ = some (.int .i64 t262) := (blk_cell BK268.out 0).trans rfl; have hcz77_1 : w76.cell? ⟨gb268, 1, none⟩ = some (.slice Ao75 t263.length co75) := (blk_cell BK268.out 1).trans rfl; have hfz77_0 := blk_frozen BK268.out 0; have hfz77_1 := blk_frozen BK268.out 1) | ((with_reducible refine gate_callee (f := 17) rfl ?_); refine goesL_ (some 34) rfl rfl Try.func17 (by kernel_rfl) rfl #[.agg #[.int .i64 t262, .slice Ao75 t263.length co75], .string t266, .int .i64 t267] rfl (by (try simp only [List.map_toArray, List.map_cons, List.map_nil]); first | done | rfl | (simp only [List.length_drop, List.length_take]; rfl)) ?_; (with_reducible refine (spec_PostTo.calls k t262 _ _ t263 t266 t267 t270 _ ?side1 ?side2 A7.out).mono ?_); (case side1 => repeat (first | exact (Kd.R_reads' HO265.out).2.2 | (with_reducible refine Kd.C_alloc ?_ _) | (with_reducible refine Kd.C_drewN ?_ _) | (with_reducible refine Kd.C_drew ?_))); (case side2 => exact (Kd.R_reads' HO265.out).2.1); rintro e w78 ⟨rfl, hb⟩; refine ⟨_, rfl, ?_⟩; have n0_ := Aside0.mk (Kd.R_below (by (with_reducible repeat (first | apply Kd.R_alloc | apply Kd.R_drewN | apply Kd.R_drew)); exact HO265.out) hb); have n1_ := Aside0.mk (blk_below (g := gb268) (o := .cells #[.int .i64 t262, .slice Ao75 t263.length co75] 25 (0, 0)) (laws_FnPostJoin_vb BK268) hb); have n2_ := Aside0.mk (below_step (laws_FnPostJoin_auHB) hb); clear HO265; clear BK268; clear HB; have HO265 := n0_; have BK268 := n1_; have HB := n2_; clear n0_ n1_ n2_; (try clear hb); (try clear hb2); (try clear hk); (try clear hi); have hcz79_0 : w78.cell? ⟨gb268, 0, none⟩ = some (.int .i64 t262) := (blk_cell BK268.out 0).trans rfl; have hcz79_1 : w78.cell? ⟨gb268, 1, none⟩ = some (.slice Ao75 t263.length co75) := (blk_cell BK268.out 1).trans rfl; have hfz79_0 := blk_frozen BK268.out 0; have hfz79_1 := blk_frozen BK268.out 1) | (go_at_call 18; (with_reducible refine (spec_PostOk.calls k t262 _ _ t263 true _ ?side1 ?side2 A9.out).mono ?_); (case side1 => repeat (first | exact (Kd.R_reads' HO265.out).2.2 | (with_reducible refine Kd.C_alloc ?_ _) | (with_reducible refine Kd.C_drewN ?_ _) | (with_reducible refine Kd.C_drew ?_))); (case side2 => exact (Kd.R_reads' HO265.out).2.1); rintro e w80 ⟨rfl, hb⟩; have n0_ := Aside0.mk (Kd.R_below (by (with_reducible repeat (first | apply Kd.R_alloc | apply Kd.R_drewN | apply Kd.R_drew)); exact HO265.out) hb); have n1_ := Aside0.mk (blk_below (g := gb268) (o := .cells #[.int .i64 t262, .slice Ao75 t263.length co75] 25 (0, 0)) (laws_FnPostJoin_vb BK268) hb); have n2_ := Aside0.mk (below_step (laws_FnPostJoin_auHB) hb); clear HO265; clear BK268; clear HB; have HO265 := n0_; have BK268 := n1_; have HB := n2_; clear n0_ n1_ n2_; (try clear hb); (try clear hb2); (try clear hk); (try clear hi); have hcz81_0 : w80.cell? ⟨gb268, 0, none⟩ = some (.int .i64 t262) := (blk_cell BK268.out 0).trans rfl; have hcz81_1 : w80.cell? ⟨gb268, 1, none⟩ = some (.slice Ao75 t263.length co75) := (blk_cell BK268.out 1).trans rfl; have hfz81_0 := blk_frozen BK268.out 0; have hfz81_1 := blk_frozen BK268.out 1; have q82 : ((ji25) : Int) ≤ ((t263.length : Int) : Int) := of_decide_eq_true (by first | (with_reducible assumption) | assumption); obtain ⟨i082, hi082, _, hsz82, _⟩ := info_parts info29; have hroom82 : t263.length ≤ co75 := (Kd.R_reads' HO265.out).2.1; have hC82 : Kd.C k29 _ Ao75 t263.length t263 := (Kd.R_reads' HO265.out).2.2; have hcut82 := cut_to (P := Try.prog) 23 29 .i64 Try.underlying23 hi082 Ao75 t263.length co75 (ji25) (of_decide_eq_true (by first | (with_reducible assumption) | assumption)) q82 hroom82; have hr82 := Kd.C_take (m := ((ji25) : Int).toNat) hC82 (by omega); have hy82 : y273.length = ((ji25) : Int).toNat := (by rw [Ny273.out, List.length_take]; omega); rw [← Ny273.out] at hr82; rw [← hy82] at hcut82; have HR276 := Aside0.mk hr82; have HC276 := Aside0.mk (show y273.length ≤ co75 from by omega); clear hr82 hC82 hroom82 hi082 hsz82; have KY82 := Aside0.mk hy82; clear hy82; have KL82 := Aside0.mk (show ((ji25) : Int).toNat ≤ t263.length from by omega); replace q82 := eq_true q82) | ((with_reducible refine gate_dst (N := 10) rfl ?_); (try (refine gate_guard (by rfl) ?_; dsimp only)); refine box_event ?hg (N := 10) ?hd (cs := #[.int .i64 0, .slice none 0 0]) (t := 25) ?hr ?_; (case hd => rfl); (case hg => rfl); (case hr => first | (go_simp; done) | (go_simp; rfl)); intro gb277 hg w83 hbox hb; have n0_ := Aside0.mk (Kd.R_below (by (with_reducible repeat (first | apply Kd.R_alloc | apply Kd.R_drewN | apply Kd.R_drew)); exact HO265.out) hb); have n1_ := Aside0.mk (blk_below (g := gb268) (o := .cells #[.int .i64 t262, .slice Ao75 t263.length co75] 25 (0, 0)) (laws_FnPostJoin_vb BK268) hb); have n2_ := Aside0.mk (Kd.C_below (by repeat (first | (with_reducible exact HR276.out) | (with_reducible refine Kd.C_alloc ?_ _) | (with_reducible refine Kd.C_drewN ?_ _) | (with_reducible refine Kd.C_drew ?_) | exact HR276.out)) hb); have n3_ := Aside0.mk (below_step (laws_FnPostJoin_auHB) hb); have n4_ := Aside0.mk (hbox); have n5_ := Aside0.mk ((by rw [hg]; exact (below_size (laws_FnPostJoin_auHB)) : w.heap.size ≤ gb277)); have n6_ := Aside0.mk ((by rw [hg]; exact (below_size (laws_FnPostJoin_auHB)) : w.heap.size ≤ gb277)); have n7_ := Aside0.mk ((by rw [hg]; exact Nat.ne_of_lt (blk_lt (g := gb268) (o := .cells #[.int .i64 t262, .slice Ao75 t263.length co75] 25 (0, 0)) (laws_FnPostJoin_vb BK268)) : gb268 ≠ gb277)); have n8_ := Aside0.mk ((by rw [hg]; exact Nat.ne_of_gt (blk_lt (g := gb268) (o := .cells #[.int .i64 t262, .slice Ao75 t263.length co75] 25 (0, 0)) (laws_FnPostJoin_vb BK268)) : gb277 ≠ gb268)); clear HO265; clear BK268; clear HR276; clear HB; have HO265 := n0_; have BK268 := n1_; have HR276 := n2_; have HB := n3_; have BK277 := n4_; have GW277 := n5_; have GE277 := n6_; have NB268_277 := n7_; have NB277_268 := n8_; clear n0_ n1_ n2_ n3_ n4_ n5_ n6_ n7_ n8_; clear hb hbox hg; have hnb84 := NB277_268.out; have hnc84 := NB268_277.out; have hcz85_0 : w83.cell? ⟨gb277, 0, none⟩ = some (.int .i64 0) := (blk_cell BK277.out 0).trans rfl; have hcz85_1 : w83.cell? ⟨gb277, 1, none⟩ = some (.slice none 0 0) := (blk_cell BK277.out 1).trans rfl; have hfz85_0 := blk_frozen BK277.out 0; have hfz85_1 := blk_frozen BK277.out 1) | ((with_reducible refine gate_store (t := 25) (p := 10) rfl ?_); refine store_event (t := 25) (p := 10) (v := ?vo_w86) (w1 := ((w83.setCell ⟨gb277, 0, none⟩ (.int .i64 1)).setCell ⟨gb277, 1, none⟩ (.slice Ao75 y273.length co75))) ?hg ?ho ?hn ?hr ?_; (case ho => rfl); (case hg => rfl); (case hn => rfl); (case hr => first | (go_simp; done) | (go_simp; rfl)); intro w86 hw; have n0_ : Aside0 (Kd.R k29 29 w86 w.heap.size (fun _ => True) (.slice Ao75 t263.length co75) t263) := ⟨(by rw [hw]; exact (by (with_reducible repeat (first | apply Kd.R_alloc | apply Kd.R_drewN | apply Kd.R_drew)); exact Kd.R_mono (Kd.R_far (p := ⟨gb277, 1, none⟩) (Kd.R_far (p := ⟨gb277, 0, none⟩) (Kd.R_types HO265.out BK277.out (by decide)) (fun _ hk => hk.2) (.int .i64 1)) (fun _ hk => hk.2) (.slice Ao75 y273.length co75)) (fun _ hk => trivial)))⟩; have n1_ : Aside0 (w86.heap[gb268]? = some (.cells #[.int .i64 t262, .slice Ao75 t263.length co75] 25 (0, 0))) := ⟨(by rw [hw]; exact (by (with_reducible repeat (first | refine blk_drewN ?_ _ | refine blk_drew ?_ | refine blk_alloc ?_ _)); refine blk_far ?_ NB268_277.out _; (with_reducible repeat (first | refine blk_drewN ?_ _ | refine blk_drew ?_ | refine blk_alloc ?_ _)); refine blk_far ?_ NB268_277.out _; (with_reducible repeat (first | refine blk_drewN ?_ _ | refine blk_drew ?_ | refine blk_alloc ?_ _)); exact BK268.out))⟩; have n2_ : Aside0 (w86.heap[gb277]? = some (.cells #[.int .i64 1, .slice Ao75 y273.length co75] 25 (0, 0))) := ⟨(by rw [hw]; exact (by (with_reducible repeat (first | refine blk_drewN ?_ _ | refine blk_drew ?_ | refine blk_alloc ?_ _)); refine blk_put (cs := #[.int .i64 1, .slice none 0 0]) ?_ 1 _ rfl; (with_reducible repeat (first | refine blk_drewN ?_ _ | refine blk_drew ?_ | refine blk_alloc ?_ _)); refine blk_put (cs := #[.int .i64 0, .slice none 0 0]) ?_ 0 _ rfl; (with_reducible repeat (first | refine blk_drewN ?_ _ | refine blk_drew ?_ | refine blk_alloc ?_ _)); exact BK277.out))⟩; have n3_ : Aside0 (Below w.heap.size w w86) := ⟨(by rw [hw]; exact (laws_FnPostJoin_auHB))⟩; have n4_ : Aside0 (Kd.C k29 w86 Ao75 y273.length y273) := ⟨(by rw [hw]; exact ((by have h_ := Kd.C_take (m := ((ji25) : Int).toNat) ((Kd.R_reads' (show Kd.R k29 29 ((w83.setCell ⟨gb277, 0, none⟩ (.int .i64 1)).setCell ⟨gb277, 1, none⟩ (.slice Ao75 y273.length co75)) w.heap.size (fun _ => True) (.slice Ao75 t263.length co75) t263 from (by (with_reducible repeat (first | apply Kd.R_alloc | apply Kd.R_drewN | apply Kd.R_drew)); exact Kd.R_mono (Kd.R_far (p := ⟨gb277, 1, none⟩) (Kd.R_far (p := ⟨gb277, 0, none⟩) (Kd.R_types HO265.out BK277.out (by decide)) (fun _ hk => hk.2) (.int .i64 1)) (fun _ hk => hk.2) (.slice Ao75 y273.length co75)) (fun _ hk => trivial)))).2.2) KL82.out; rw [← Ny273.out] at h_; exact h_)))⟩; clear hw; clear HO265; clear BK268; clear BK277; clear HB; clear HR276; have HO265 := n0_; have BK268 := n1_; have BK277 := n2_; have HB := n3_; have HR276 := n4_; clear n0_ n1_ n2_ n3_ n4_; have hcz87_0 : w86.cell? ⟨gb268, 0, none⟩ = some (.int .i64 t262) := (blk_cell BK268.out 0).trans rfl; have hcz87_1 : w86.cell? ⟨gb268, 1, none⟩ = some (.slice Ao75 t263.length co75) := (blk_cell BK268.out 1).trans rfl; have hfz87_0 := blk_frozen BK268.out 0; have hfz87_1 := blk_frozen BK268.out 1; have q88 : ((ji25) : Int) ≤ ((t263.length : Int) : Int) := of_decide_eq_true (by first | (with_reducible assumption) | assumption); obtain ⟨i088, hi088, _, hsz88, _⟩ := info_parts info29; have hroom88 : t263.length ≤ co75 := (Kd.R_reads' HO265.out).2.1; have hC88 : Kd.C k29 _ Ao75 t263.length t263 := (Kd.R_reads' HO265.out).2.2; have q088 : (0 : Int) ≤ ((ji25) : Int) := of_decide_eq_true (by first | (with_reducible assumption) | assumption); have hcut88 := cut_from (P := Try.prog) 23 29 .i64 Try.underlying23 hi088 3 hsz88 Ao75 t263.length co75 (ji25) q088 q88; have hr88 := Kd.C_drop (m := ((ji25) : Int).toNat) (c := co75) hC88 (by omega) hroom88; obtain ⟨A88, hA88⟩ : ∃ A1, A1 = (if co75 = ((ji25) : Int).toNat then Ao75 else (Ao75 : Option Addr).map (·.add (((ji25) : Int).toNat * 3))) := ⟨_, rfl⟩; obtain ⟨c88, hc88⟩ : ∃ c1, c1 = co75 - ((ji25) : Int).toNat := ⟨_, rfl⟩; have hy88 : y278.length = t263.length - ((ji25) : Int).toNat := (by rw [Ny278.out, List.length_drop] <;> omega); rw [show (t263).drop ((ji25) : Int).toNat = y278 from Ny278.out.symm] at hr88; replace hr88 : Kd.C k29 _ A88 y278.length y278 := (by rw [hA88]; exact hr88); rw [← hy88, ← hA88, ← hc88] at hcut88; have HR281 := Aside0.mk hr88; have HC281 := Aside0.mk (show y278.length ≤ c88 from by rw [hy88, hc88]; exact Nat.sub_le_sub_right hroom88 _); clear hr88 hC88 hroom88 hi088 hsz88 hc88; have KY88 := Aside0.mk hy88; have KA88 := Aside0.mk hA88; clear hy88 hA88; have KL88 := Aside0.mk (show ((ji25) : Int).toNat ≤ t263.length from by omega); replace q88 := eq_true q88) | ((with_reducible refine gate_dst (N := 11) rfl ?_); (try (refine gate_guard (by rfl) ?_; dsimp only)); refine box_event ?hg (N := 11) ?hd (cs := #[.int .i64 0, .slice none 0 0]) (t := 25) ?hr ?_; (case hd => rfl); (case hg => rfl); (case hr => first | (go_simp; done) | (go_simp; rfl)); intro gb282 hg w89 hbox hb; have n0_ := Aside0.mk (Kd.R_below (by (with_reducible repeat (first | apply Kd.R_alloc | apply Kd.R_drewN | apply Kd.R_drew)); exact HO265.out) hb); have n1_ := Aside0.mk (blk_below (g := gb268) (o := .cells #[.int .i64 t262, .slice Ao75 t263.length co75] 25 (0, 0)) (laws_FnPostJoin_vb BK268) hb); have n2_ := Aside0.mk (Kd.C_below (by repeat (first | (with_reducible exact HR276.out) | (with_reducible refine Kd.C_alloc ?_ _) | (with_reducible refine Kd.C_drewN ?_ _) | (with_reducible refine Kd.C_drew ?_) | exact HR276.out)) hb); have n3_ := Aside0.mk (blk_below (g := gb277) (o := .cells #[.int .i64 1, .slice Ao75 y273.length co75] 25 (0, 0)) (laws_FnPostJoin_vb BK277) hb); have n4_ := Aside0.mk (Kd.C_below (by repeat (first | (with_reducible exact HR281.out) | (with_reducible refine Kd.C_alloc ?_ _) | (with_reducible refine Kd.C_drewN ?_ _) | (with_reducible refine Kd.C_drew ?_) | exact HR281.out)) hb); have n5_ := Aside0.mk (below_step (laws_FnPostJoin_auHB) hb); have n6_ := Aside0.mk (hbox); have n7_ := Aside0.mk ((by rw [hg]; exact (below_size (laws_FnPostJoin_auHB)) : w.heap.size ≤ gb282)); have n8_ := Aside0.mk ((by rw [hg]; exact (below_size (laws_FnPostJoin_auHB)) : w.heap.size ≤ gb282)); have n9_ := Aside0.mk ((by rw [hg]; exact Nat.ne_of_lt (blk_lt (g := gb268) (o := .cells #[.int .i64 t262, .slice Ao75 t263.length co75] 25 (0, 0)) (laws_FnPostJoin_vb BK268)) : gb268 ≠ gb282)); have n10_ := Aside0.mk ((by rw [hg]; exact Nat.ne_of_gt (blk_lt (g := gb268) (o := .cells #[.int .i64 t262, .slice Ao75 t263.length co75] 25 (0, 0)) (laws_FnPostJoin_vb BK268)) : gb282 ≠ gb268)); have n11_ := Aside0.mk ((by rw [hg]; exact Nat.ne_of_lt (blk_lt (g := gb277) (o := .cells #[.int .i64 1, .slice Ao75 y273.length co75] 25 (0, 0)) (laws_FnPostJoin_vb BK277)) : gb277 ≠ gb282)); have n12_ := Aside0.mk ((by rw [hg]; exact Nat.ne_of_gt (blk_lt (g := gb277) (o := .cells #[.int .i64 1, .slice Ao75 y273.length co75] 25 (0, 0)) (laws_FnPostJoin_vb BK277)) : gb282 ≠ gb277)); clear HO265; clear BK268; clear HR276; clear BK277; clear HR281; clear HB; have HO265 := n0_; have BK268 := n1_; have HR276 := n2_; have BK277 := n3_; have HR281 := n4_; have HB := n5_; have BK282 := n6_; have GW282 := n7_; have GE282 := n8_; have NB268_282 := n9_; have NB282_268 := n10_; have NB277_282 := n11_; have NB282_277 := n12_; clear n0_ n1_ n2_ n3_ n4_ n5_ n6_ n7_ n8_ n9_ n10_ n11_ n12_; clear hb hbox hg; have hnb90 := NB282_268.out; have hnc90 := NB268_282.out; have hnb91 := NB282_277.out; have hnc91 := NB277_282.out; have hcz92_0 : w89.cell? ⟨gb282, 0, none⟩ = some (.int .i64 0) := (blk_cell BK282.out 0).trans rfl; have hcz92_1 : w89.cell? ⟨gb282, 1, none⟩ = some (.slice none 0 0) := (blk_cell BK282.out 1).trans rfl; have hfz92_0 := blk_frozen BK282.out 0; have hfz92_1 := blk_frozen BK282.out 1))
            have n0_ : Aside0 (Kd.R k29 29 ((w89.setCell ⟨gb282, 0, none⟩ (.int .i64 2)).setCell ⟨gb282, 1, none⟩ (.slice A88 y278.length c88)) w.heap.size (fun _ => True) (.slice Ao75 t263.length co75) t263) := ⟨by (with_reducible repeat (first | apply Kd.R_alloc | apply Kd.R_drewN | apply Kd.R_drew)); exact Kd.R_mono (Kd.R_far (p := ⟨gb282, 1, none⟩) (Kd.R_far (p := ⟨gb282, 0, none⟩) (Kd.R_types HO265.out BK282.out (by decide)) (fun _ hk => hk.2) (.int .i64 2)) (fun _ hk => hk.2) (.slice A88 y278.length c88)) (fun _ hk => trivial)⟩
            have n1_ : Aside0 (((w89.setCell ⟨gb282, 0, none⟩ (.int .i64 2)).setCell ⟨gb282, 1, none⟩ (.slice A88 y278.length c88)).heap[gb268]? = some (.cells #[.int .i64 t262, .slice Ao75 t263.length co75] 25 (0, 0))) := ⟨by (with_reducible repeat (first | refine blk_drewN ?_ _ | refine blk_drew ?_ | refine blk_alloc ?_ _)); refine blk_far ?_ NB268_282.out _; (with_reducible repeat (first | refine blk_drewN ?_ _ | refine blk_drew ?_ | refine blk_alloc ?_ _)); refine blk_far ?_ NB268_282.out _; (with_reducible repeat (first | refine blk_drewN ?_ _ | refine blk_drew ?_ | refine blk_alloc ?_ _)); exact BK268.out⟩
            have n2_ : Aside0 (((w89.setCell ⟨gb282, 0, none⟩ (.int .i64 2)).setCell ⟨gb282, 1, none⟩ (.slice A88 y278.length c88)).heap[gb277]? = some (.cells #[.int .i64 1, .slice Ao75 y273.length co75] 25 (0, 0))) := ⟨by (with_reducible repeat (first | refine blk_drewN ?_ _ | refine blk_drew ?_ | refine blk_alloc ?_ _)); refine blk_far ?_ NB277_282.out _; (with_reducible repeat (first | refine blk_drewN ?_ _ | refine blk_drew ?_ | refine blk_alloc ?_ _)); refine blk_far ?_ NB277_282.out _; (with_reducible repeat (first | refine blk_drewN ?_ _ | refine blk_drew ?_ | refine blk_alloc ?_ _)); exact BK277.out⟩
            have n3_ : Aside0 (((w89.setCell ⟨gb282, 0, none⟩ (.int .i64 2)).setCell ⟨gb282, 1, none⟩ (.slice A88 y278.length c88)).heap[gb282]? = some (.cells #[.int .i64 2, .slice A88 y278.length c88] 25 (0, 0))) := ⟨by (with_reducible repeat (first | refine blk_drewN ?_ _ | refine blk_drew ?_ | refine blk_alloc ?_ _)); refine blk_put (cs := #[.int .i64 2, .slice none 0 0]) ?_ 1 _ rfl; (with_reducible repeat (first | refine blk_drewN ?_ _ | refine blk_drew ?_ | refine blk_alloc ?_ _)); refine blk_put (cs := #[.int .i64 0, .slice none 0 0]) ?_ 0 _ rfl; (with_reducible repeat (first | refine blk_drewN ?_ _ | refine blk_drew ?_ | refine blk_alloc ?_ _)); exact BK282.out⟩
            have n4_ : Aside0 (Below w.heap.size w ((w89.setCell ⟨gb282, 0, none⟩ (.int .i64 2)).setCell ⟨gb282, 1, none⟩ (.slice A88 y278.length c88))) := ⟨laws_FnPostJoin_auHB⟩
            have n5_ : Aside0 (Kd.C k29 ((w89.setCell ⟨gb282, 0, none⟩ (.int .i64 2)).setCell ⟨gb282, 1, none⟩ (.slice A88 y278.length c88)) Ao75 y273.length y273) := ⟨(by have h_ := Kd.C_take (m := ((ji25) : Int).toNat) ((Kd.R_reads' (show Kd.R k29 29 ((w89.setCell ⟨gb282, 0, none⟩ (.int .i64 2)).setCell ⟨gb282, 1, none⟩ (.slice A88 y278.length c88)) w.heap.size (fun _ => True) (.slice Ao75 t263.length co75) t263 from (by (with_reducible repeat (first | apply Kd.R_alloc | apply Kd.R_drewN | apply Kd.R_drew)); exact Kd.R_mono (Kd.R_far (p := ⟨gb282, 1, none⟩) (Kd.R_far (p := ⟨gb282, 0, none⟩) (Kd.R_types HO265.out BK282.out (by decide)) (fun _ hk => hk.2) (.int .i64 2)) (fun _ hk => hk.2) (.slice A88 y278.length c88)) (fun _ hk => trivial)))).2.2) KL82.out; rw [← Ny273.out] at h_; exact h_)⟩
            have n6_ : Aside0 (Kd.C k29 ((w89.setCell ⟨gb282, 0, none⟩ (.int .i64 2)).setCell ⟨gb282, 1, none⟩ (.slice A88 y278.length c88)) A88 y278.length y278) := ⟨(by have h_ := Kd.C_drop (m := ((ji25) : Int).toNat) (c := co75) ((Kd.R_reads' (show Kd.R k29 29 ((w89.setCell ⟨gb282, 0, none⟩ (.int .i64 2)).setCell ⟨gb282, 1, none⟩ (.slice A88 y278.length c88)) w.heap.size (fun _ => True) (.slice Ao75 t263.length co75) t263 from (by (with_reducible repeat (first | apply Kd.R_alloc | apply Kd.R_drewN | apply Kd.R_drew)); exact Kd.R_mono (Kd.R_far (p := ⟨gb282, 1, none⟩) (Kd.R_far (p := ⟨gb282, 0, none⟩) (Kd.R_types HO265.out BK282.out (by decide)) (fun _ hk => hk.2) (.int .i64 2)) (fun _ hk => hk.2) (.slice A88 y278.length c88)) (fun _ hk => trivial)))).2.2) KL88.out ((Kd.R_reads' (show Kd.R k29 29 ((w89.setCell ⟨gb282, 0, none⟩ (.int .i64 2)).setCell ⟨gb282, 1, none⟩ (.slice A88 y278.length c88)) w.heap.size (fun _ => True) (.slice Ao75 t263.length co75) t263 from (by (with_reducible repeat (first | apply Kd.R_alloc | apply Kd.R_drewN | apply Kd.R_drew)); exact Kd.R_mono (Kd.R_far (p := ⟨gb282, 1, none⟩) (Kd.R_far (p := ⟨gb282, 0, none⟩) (Kd.R_types HO265.out BK282.out (by decide)) (fun _ hk => hk.2) (.int .i64 2)) (fun _ hk => hk.2) (.slice A88 y278.length c88)) (fun _ hk => trivial)))).2.1); rw [← Ny278.out, show (k29).sz = 3 from rfl, ← KA88.out] at h_; exact h_)⟩
            (try clear HO265)
            (try clear BK268)
            (try clear BK277)
            (try clear BK282)
            (try clear HB)
            (try clear HR276)
            (try clear HR281)
            generalize ((w89.setCell ⟨gb282, 0, none⟩ (.int .i64 2)).setCell ⟨gb282, 1, none⟩ (.slice A88 y278.length c88)) = w93 at n0_ n1_ n2_ n3_ n4_ n5_ n6_ ⊢
            have HO265 := n0_
            have BK268 := n1_
            have BK277 := n2_
            have BK282 := n3_
            have HB := n4_
            have HR276 := n5_
            have HR281 := n6_
            clear n0_ n1_ n2_ n3_ n4_ n5_ n6_
            have n0_ := Aside0.mk (Kd.R_drew HO265.out)
            have n1_ := Aside0.mk (blk_drew BK268.out)
            have n2_ := Aside0.mk (blk_drew BK277.out)
            have n3_ := Aside0.mk (blk_drew BK282.out)
            have n4_ := Aside0.mk (Kd.C_drew HR276.out)
            have n5_ := Aside0.mk (Kd.C_drew HR281.out)
            have n6_ := Aside0.mk (below_drew1 HB.out)
            clear HO265
            clear BK268
            clear BK277
            clear BK282
            clear HR276
            clear HR281
            clear HB
            have HO265 := n0_
            have BK268 := n1_
            have BK277 := n2_
            have BK282 := n3_
            have HR276 := n4_
            have HR281 := n5_
            have HB := n6_
            clear n0_ n1_ n2_ n3_ n4_ n5_ n6_
            refine start_ (n := 37) (S := fun w' => w'.cell? ⟨gb277, 0, none⟩ = some (.int .i64 1) ∧ w'.cell? ⟨gb277, 1, none⟩ = some (.slice Ao75 y273.length co75) ∧ w'.cell? ⟨gb282, 0, none⟩ = some (.int .i64 2) ∧ w'.cell? ⟨gb282, 1, none⟩ = some (.slice A88 y278.length c88) ∧ w'.cell? ⟨gb268, 0, none⟩ = some (.int .i64 t262) ∧ w'.cell? ⟨gb268, 1, none⟩ = some (.slice Ao75 t263.length co75)) (ds := []) #[false, false, false, false, false, false, false, false, false, false, false, false, false, false, false, false, false, false, false, false, false, false, false, false, false, false, false, false, false, false, false, false, false, false, false, false, false] (by kernel_rfl) rfl rfl ⟨(blk_cell BK277.out 0).trans rfl, (blk_cell BK277.out 1).trans rfl, (blk_cell BK282.out 0).trans rfl, (blk_cell BK282.out 1).trans rfl, (blk_cell BK268.out 0).trans rfl, (blk_cell BK268.out 1).trans rfl⟩ (fun hHeld => ?_); refine with_tabW laws_FnPostJoin.tab10 laws_FnPostJoin.bits10 (fun HT_ HW_ => ?_)
            generalize w93.drew = w94 at HO265 BK268 BK277 BK282 HR276 HR281 HB hHeld ⊢
            refine pure_ (i := 1) (N := some 72) (v := ?_) (a' := ?_) #[false, true, false, false, false, false, false, false, false, false, false, false, false, false, false, false, false, false, false, false, false, false, false, false, false, false, false, false, false, false, false, false, false, false, false, false, false] rfl rfl (any_of HT_.out (by kernel_rfl)) (fun _ _ _ h => h) (Or.inl ⟨by rfl, ?_⟩) ?_ ?_
            rotate_left
            ·
             intro w'
             go_simp
             with_reducible rfl
            rotate_left
            ·
             simp only [Act.put, List.setIfInBounds_toArray, List.set_cons_zero, List.set_cons_succ, i64_w, i32_w]
             rfl
            refine pure_ (i := 2) (N := some 73) (v := ?_) (a' := ?_) #[false, true, true, false, false, false, false, false, false, false, false, false, false, false, false, false, false, false, false, false, false, false, false, false, false, false, false, false, false, false, false, false, false, false, false, false, false] rfl rfl (any_of HT_.out (by kernel_rfl)) (fun _ _ _ h => h) (Or.inl ⟨by rfl, ?_⟩) ?_ ?_
            rotate_left
            ·
             intro w'
             go_simp
             with_reducible rfl
            rotate_left
            ·
             simp only [Act.put, List.setIfInBounds_toArray, List.set_cons_zero, List.set_cons_succ, i64_w, i32_w]
             rfl
            refine pure_ (i := 5) (N := some 76) (v := ?_) (a' := ?_) #[false, true, true, false, false, true, false, false, false, false, false, false, false, false, false, false, false, false, false, false, false, false, false, false, false, false, false, false, false, false, false, false, false, false, false, false, false] rfl rfl (any_of HT_.out (by kernel_rfl)) (fun _ _ _ h => h) (Or.inl ⟨by rfl, ?_⟩) ?_ ?_
            rotate_left
            ·
             intro w'
             go_simp
             with_reducible rfl
            rotate_left
            ·
             simp only [Act.put, List.setIfInBounds_toArray, List.set_cons_zero, List.set_cons_succ, i64_w, i32_w]
             rfl
            refine pure_ (i := 6) (N := some 77) (v := ?_) (a' := ?_) #[false, true, true, false, false, true, true, false, false, false, false, false, false, false, false, false, false, false, false, false, false, false, false, false, false, false, false, false, false, false, false, false, false, false, false, false, false] rfl rfl (any_of HT_.out (by kernel_rfl)) (fun _ _ _ h => h) (Or.inl ⟨by rfl, ?_⟩) ?_ ?_
            rotate_left
            ·
             intro w'
             go_simp
             with_reducible rfl
            rotate_left
            ·
             simp only [Act.put, List.setIfInBounds_toArray, List.set_cons_zero, List.set_cons_succ, i64_w, i32_w]
             rfl
            refine pure_ (i := 9) (N := some 80) (v := ?_) (a' := ?_) #[false, true, true, false, false, true, true, false, false, true, false, false, false, false, false, false, false, false, false, false, false, false, false, false, false, false, false, false, false, false, false, false, false, false, false, false, false] rfl rfl (any_of HT_.out (by kernel_rfl)) (fun _ _ _ h => h) (Or.inl ⟨by rfl, ?_⟩) ?_ ?_
            rotate_left
            ·
             intro w'
             go_simp
             with_reducible rfl
            rotate_left
            ·
             simp only [Act.put, List.setIfInBounds_toArray, List.set_cons_zero, List.set_cons_succ, i64_w, i32_w]
             rfl
            refine take_ (i := 0) (N := some 71) (v := ?_) (a' := ?_) #[true, true, true, false, false, true, true, false, false, true, false, false, false, false, false, false, false, false, false, false, false, false, false, false, false, false, false, false, false, false, false, false, false, false, false, false, false] rfl rfl (take_ofW HT_.out HW_.out (by kernel_rfl)) (fun _ _ _ h => h) (Or.inl ⟨by rfl, ?_⟩) hHeld ?_ ?_
            rotate_left
            ·
             rintro w' ⟨s0, s1, s2, s3, s4, s5⟩
             go_simp
             with_reducible rfl
            rotate_left
            ·
             simp only [Act.put, List.setIfInBounds_toArray, List.set_cons_zero, List.set_cons_succ, i64_w, i32_w]
             rfl
            refine take_ (i := 4) (N := some 75) (v := ?_) (a' := ?_) #[true, true, true, false, true, true, true, false, false, true, false, false, false, false, false, false, false, false, false, false, false, false, false, false, false, false, false, false, false, false, false, false, false, false, false, false, false] rfl rfl (take_ofW HT_.out HW_.out (by kernel_rfl)) (fun _ _ _ h => h) (Or.inl ⟨by rfl, ?_⟩) hHeld ?_ ?_
            rotate_left
            ·
             rintro w' ⟨s0, s1, s2, s3, s4, s5⟩
             go_simp
             with_reducible rfl
            rotate_left
            ·
             simp only [Act.put, List.setIfInBounds_toArray, List.set_cons_zero, List.set_cons_succ, i64_w, i32_w]
             rfl
            refine one_ (i := 3) (N := some 74) #[true, true, true, true, true, true, true, false, false, true, false, false, false, false, false, false, false, false, false, false, false, false, false, false, false, false, false, false, false, false, false, false, false, false, false, false, false] rfl rfl (one_of HT_.out (by kernel_rfl)) (by decide) (fun K hK => ?_)
            refine goes_ Try.func16 (by kernel_rfl) rfl #[.agg #[.int .i64 1, .slice Ao75 y273.length co75], .string t266, .int .i64 t267] (by rfl) rfl rfl (by (try simp only [List.map_toArray, List.map_cons, List.map_nil]); first | done | rfl | (simp only [List.length_drop, List.length_take]; rfl)) ?_
            with_reducible refine (impl_PostTo.calls k 1 _ _ y273 t266 t267 t283 _ ?side1 ?side2 A30.out).mono ?_
            (case side1 => repeat (first | exact (by repeat (first | (with_reducible exact HR276.out) | (with_reducible refine Kd.C_alloc ?_ _) | (with_reducible refine Kd.C_drewN ?_ _) | (with_reducible refine Kd.C_drew ?_) | exact HR276.out)) | (with_reducible refine Kd.C_alloc ?_ _) | (with_reducible refine Kd.C_drewN ?_ _) | (with_reducible refine Kd.C_drew ?_)))
            (case side2 => exact HC276.out)
            rintro e w95 ⟨rfl, hb⟩
            refine ⟨_, rfl, ?_⟩
            have n0_ := Aside0.mk (Kd.R_below (by (with_reducible repeat (first | apply Kd.R_alloc | apply Kd.R_drewN | apply Kd.R_drew)); exact HO265.out) hb)
            have n1_ := Aside0.mk (blk_below (g := gb268) (o := .cells #[.int .i64 t262, .slice Ao75 t263.length co75] 25 (0, 0)) (laws_FnPostJoin_vb BK268) hb)
            have n2_ := Aside0.mk (blk_below (g := gb277) (o := .cells #[.int .i64 1, .slice Ao75 y273.length co75] 25 (0, 0)) (laws_FnPostJoin_vb BK277) hb)
            have n3_ := Aside0.mk (blk_below (g := gb282) (o := .cells #[.int .i64 2, .slice A88 y278.length c88] 25 (0, 0)) (laws_FnPostJoin_vb BK282) hb)
            have n4_ := Aside0.mk (Kd.C_below (by repeat (first | (with_reducible exact HR276.out) | (with_reducible refine Kd.C_alloc ?_ _) | (with_reducible refine Kd.C_drewN ?_ _) | (with_reducible refine Kd.C_drew ?_) | exact HR276.out)) hb)
            have n5_ := Aside0.mk (Kd.C_below (by repeat (first | (with_reducible exact HR281.out) | (with_reducible refine Kd.C_alloc ?_ _) | (with_reducible refine Kd.C_drewN ?_ _) | (with_reducible refine Kd.C_drew ?_) | exact HR281.out)) hb)
            have n6_ := Aside0.mk (below_step (laws_FnPostJoin_auHB) hb)
            clear HO265
            clear BK268
            clear BK277
            clear BK282
            clear HR276
            clear HR281
            clear HB
            have HO265 := n0_
            have BK268 := n1_
            have BK277 := n2_
            have BK282 := n3_
            have HR276 := n4_
            have HR281 := n5_
            have HB := n6_
            clear n0_ n1_ n2_ n3_ n4_ n5_ n6_
            (try clear hb)
            (try clear hb2)
            (try clear hk)
            (try clear hi)
            refine hK.out _ _ ⟨(blk_cell BK277.out 0).trans rfl, (blk_cell BK277.out 1).trans rfl, (blk_cell BK282.out 0).trans rfl, (blk_cell BK282.out 1).trans rfl, (blk_cell BK268.out 0).trans rfl, (blk_cell BK268.out 1).trans rfl⟩ (fun hHeld => ?_)
            clear hK K
            refine norm_ (a' := ?_) ?_ ?_
            rotate_left
            ·
             show Act.put _ (some 74) _ = _
             simp only [Act.put, List.setIfInBounds_toArray, List.set_cons_zero, List.set_cons_succ, i64_w, i32_w]
             rfl
            refine one_ (i := 7) (N := some 78) #[true, true, true, true, true, true, true, true, false, true, false, false, false, false, false, false, false, false, false, false, false, false, false, false, false, false, false, false, false, false, false, false, false, false, false, false, false] rfl rfl (one_of HT_.out (by kernel_rfl)) (by decide) (fun K hK => ?_)
            refine goes_ Try.func16 (by kernel_rfl) rfl #[.agg #[.int .i64 2, .slice A88 y278.length c88], .string t266, .int .i64 t267] (by rfl) rfl rfl (by (try simp only [List.map_toArray, List.map_cons, List.map_nil]); first | done | rfl | (simp only [List.length_drop, List.length_take]; rfl)) ?_
            with_reducible refine (impl_PostTo.calls k 2 _ _ y278 t266 t267 t284 _ ?side1 ?side2 A31.out).mono ?_
            (case side1 => repeat (first | exact (by repeat (first | (with_reducible exact HR281.out) | (with_reducible refine Kd.C_alloc ?_ _) | (with_reducible refine Kd.C_drewN ?_ _) | (with_reducible refine Kd.C_drew ?_) | exact HR281.out)) | (with_reducible refine Kd.C_alloc ?_ _) | (with_reducible refine Kd.C_drewN ?_ _) | (with_reducible refine Kd.C_drew ?_)))
            (case side2 => exact HC281.out)
            rintro e w96 ⟨rfl, hb⟩
            refine ⟨_, rfl, ?_⟩
            have n0_ := Aside0.mk (Kd.R_below (by (with_reducible repeat (first | apply Kd.R_alloc | apply Kd.R_drewN | apply Kd.R_drew)); exact HO265.out) hb)
            have n1_ := Aside0.mk (blk_below (g := gb268) (o := .cells #[.int .i64 t262, .slice Ao75 t263.length co75] 25 (0, 0)) (laws_FnPostJoin_vb BK268) hb)
            have n2_ := Aside0.mk (blk_below (g := gb277) (o := .cells #[.int .i64 1, .slice Ao75 y273.length co75] 25 (0, 0)) (laws_FnPostJoin_vb BK277) hb)
            have n3_ := Aside0.mk (blk_below (g := gb282) (o := .cells #[.int .i64 2, .slice A88 y278.length c88] 25 (0, 0)) (laws_FnPostJoin_vb BK282) hb)
            have n4_ := Aside0.mk (Kd.C_below (by repeat (first | (with_reducible exact HR276.out) | (with_reducible refine Kd.C_alloc ?_ _) | (with_reducible refine Kd.C_drewN ?_ _) | (with_reducible refine Kd.C_drew ?_) | exact HR276.out)) hb)
            have n5_ := Aside0.mk (Kd.C_below (by repeat (first | (with_reducible exact HR281.out) | (with_reducible refine Kd.C_alloc ?_ _) | (with_reducible refine Kd.C_drewN ?_ _) | (with_reducible refine Kd.C_drew ?_) | exact HR281.out)) hb)
            have n6_ := Aside0.mk (below_step (laws_FnPostJoin_auHB) hb)
            clear HO265
            clear BK268
            clear BK277
            clear BK282
            clear HR276
            clear HR281
            clear HB
            have HO265 := n0_
            have BK268 := n1_
            have BK277 := n2_
            have BK282 := n3_
            have HR276 := n4_
            have HR281 := n5_
            have HB := n6_
            clear n0_ n1_ n2_ n3_ n4_ n5_ n6_
            (try clear hb)
            (try clear hb2)
            (try clear hk)
            (try clear hi)
            refine hK.out _ _ ⟨(blk_cell BK277.out 0).trans rfl, (blk_cell BK277.out 1).trans rfl, (blk_cell BK282.out 0).trans rfl, (blk_cell BK282.out 1).trans rfl, (blk_cell BK268.out 0).trans rfl, (blk_cell BK268.out 1).trans rfl⟩ (fun hHeld => ?_)
            clear hK K
            refine norm_ (a' := ?_) ?_ ?_
            rotate_left
            ·
             show Act.put _ (some 78) _ = _
             simp only [Act.put, List.setIfInBounds_toArray, List.set_cons_zero, List.set_cons_succ, i64_w, i32_w]
             rfl
            refine pure_ (i := 8) (N := some 79) (v := ?_) (a' := ?_) #[true, true, true, true, true, true, true, true, true, true, false, false, false, false, false, false, false, false, false, false, false, false, false, false, false, false, false, false, false, false, false, false, false, false, false, false, false] rfl rfl (any_of HT_.out (by kernel_rfl)) (fun _ _ _ h => h) (Or.inl ⟨by rfl, ?_⟩) ?_ ?_
            rotate_left
            ·
             intro w'
             go_simp
             with_reducible rfl
            rotate_left
            ·
             simp only [Act.put, List.setIfInBounds_toArray, List.set_cons_zero, List.set_cons_succ, i64_w, i32_w]
             rfl
            refine pure_ (i := 10) (N := some 81) (v := ?_) (a' := ?_) #[true, true, true, true, true, true, true, true, true, true, true, false, false, false, false, false, false, false, false, false, false, false, false, false, false, false, false, false, false, false, false, false, false, false, false, false, false] rfl rfl (any_of HT_.out (by kernel_rfl)) (fun _ _ _ h => h) (Or.inl ⟨by rfl, ?_⟩) ?_ ?_
            rotate_left
            ·
             intro w'
             go_simp
             with_reducible rfl
            rotate_left
            ·
             simp only [Act.put, List.setIfInBounds_toArray, List.set_cons_zero, List.set_cons_succ, i64_w, i32_w]
             rfl
            refine pure_ (i := 11) (N := some 82) (v := ?_) (a' := ?_) #[true, true, true, true, true, true, true, true, true, true, true, true, false, false, false, false, false, false, false, false, false, false, false, false, false, false, false, false, false, false, false, false, false, false, false, false, false] rfl rfl (any_of HT_.out (by kernel_rfl)) (fun _ _ _ h => h) (Or.inl ⟨by rfl, ?_⟩) ?_ ?_
            rotate_left
            ·
             intro w'
             go_simp
             with_reducible rfl
            rotate_left
            ·
             simp only [Act.put, List.setIfInBounds_toArray, List.set_cons_zero, List.set_cons_succ, i64_w, i32_w]
             rfl
            refine pure_ (i := 13) (N := some 84) (v := ?_) (a' := ?_) #[true, true, true, true, true, true, true, true, true, true, true, true, false, true, false, false, false, false, false, false, false, false, false, false, false, false, false, false, false, false, false, false, false, false, false, false, false] rfl rfl (any_of HT_.out (by kernel_rfl)) (fun _ _ _ h => h) (Or.inl ⟨by rfl, ?_⟩) ?_ ?_
            rotate_left
            ·
             intro w'
             go_simp
             with_reducible rfl
            rotate_left
            ·
             simp only [Act.put, List.setIfInBounds_toArray, List.set_cons_zero, List.set_cons_succ, i64_w, i32_w]
             rfl
            refine pure_ (i := 16) (N := some 87) (v := ?_) (a' := ?_) #[true, true, true, true, true, true, true, true, true, true, true, true, false, true, false, false, true, false, false, false, false, false, false, false, false, false, false, false, false, false, false, false, false, false, false, false, false] rfl rfl (any_of HT_.out (by kernel_rfl)) (fun _ _ _ h => h) (Or.inl ⟨by rfl, ?_⟩) ?_ ?_
            rotate_left
            ·
             intro w'
             go_simp
             with_reducible rfl
            rotate_left
            ·
             simp only [Act.put, List.setIfInBounds_toArray, List.set_cons_zero, List.set_cons_succ, i64_w, i32_w]
             rfl
            refine pure_ (i := 20) (N := some 91) (v := ?_) (a' := ?_) #[true, true, true, true, true, true, true, true, true, true, true, true, false, true, false, false, true, false, false, false, true, false, false, false, false, false, false, false, false, false, false, false, false, false, false, false, false] rfl rfl (any_of HT_.out (by kernel_rfl)) (fun _ _ _ h => h) (Or.inl ⟨by rfl, ?_⟩) ?_ ?_
            rotate_left
            ·
             intro w'
             go_simp
             with_reducible rfl
            rotate_left
            ·
             simp only [Act.put, List.setIfInBounds_toArray, List.set_cons_zero, List.set_cons_succ, i64_w, i32_w]
             rfl
            refine take_ (i := 12) (N := some 83) (v := ?_) (a' := ?_) #[true, true, true, true, true, true, true, true, true, true, true, true, true, true, false, false, true, false, false, false, true, false, false, false, false, false, false, false, false, false, false, false, false, false, false, false, false] rfl rfl (take_ofW HT_.out HW_.out (by kernel_rfl)) (fun _ _ _ h => h) (Or.inl ⟨by rfl, ?_⟩) hHeld ?_ ?_
            rotate_left
            ·
             rintro w' ⟨s0, s1, s2, s3, s4, s5⟩
             go_simp
             with_reducible rfl
            rotate_left
            ·
             simp only [Act.put, List.setIfInBounds_toArray, List.set_cons_zero, List.set_cons_succ, i64_w, i32_w]
             rfl
            refine take_ (i := 15) (N := some 86) (v := ?_) (a' := ?_) #[true, true, true, true, true, true, true, true, true, true, true, true, true, true, false, true, true, false, false, false, true, false, false, false, false, false, false, false, false, false, false, false, false, false, false, false, false] rfl rfl (take_ofW HT_.out HW_.out (by kernel_rfl)) (fun _ _ _ h => h) (Or.inl ⟨by rfl, ?_⟩) hHeld ?_ ?_
            rotate_left
            ·
             rintro w' ⟨s0, s1, s2, s3, s4, s5⟩
             go_simp
             with_reducible rfl
            rotate_left
            ·
             simp only [Act.put, List.setIfInBounds_toArray, List.set_cons_zero, List.set_cons_succ, i64_w, i32_w]
             rfl
            refine take_ (i := 19) (N := some 90) (v := ?_) (a' := ?_) #[true, true, true, true, true, true, true, true, true, true, true, true, true, true, false, true, true, false, false, true, true, false, false, false, false, false, false, false, false, false, false, false, false, false, false, false, false] rfl rfl (take_ofW HT_.out HW_.out (by kernel_rfl)) (fun _ _ _ h => h) (Or.inl ⟨by rfl, ?_⟩) hHeld ?_ ?_
            rotate_left
            ·
             rintro w' ⟨s0, s1, s2, s3, s4, s5⟩
             go_simp
             with_reducible rfl
            rotate_left
            ·
             simp only [Act.put, List.setIfInBounds_toArray, List.set_cons_zero, List.set_cons_succ, i64_w, i32_w]
             rfl
            refine one_ (i := 14) (N := some 85) #[true, true, true, true, true, true, true, true, true, true, true, true, true, true, true, true, true, false, false, true, true, false, false, false, false, false, false, false, false, false, false, false, false, false, false, false, false] rfl rfl (one_of HT_.out (by kernel_rfl)) (by decide) (fun K hK => ?_)
            refine goes_ Try.func19 (by kernel_rfl) rfl #[.agg #[.int .i64 1, .slice Ao75 y273.length co75], .int .i64 t267] (by rfl) rfl rfl (by (try simp only [List.map_toArray, List.map_cons, List.map_nil]); first | done | rfl | (simp only [List.length_drop, List.length_take]; rfl)) ?_
            with_reducible refine (impl_PostSum.calls k 1 _ _ y273 t267 t285 _ ?side1 ?side2 A33.out).mono ?_
            (case side1 => repeat (first | exact (by repeat (first | (with_reducible exact HR276.out) | (with_reducible refine Kd.C_alloc ?_ _) | (with_reducible refine Kd.C_drewN ?_ _) | (with_reducible refine Kd.C_drew ?_) | exact HR276.out)) | (with_reducible refine Kd.C_alloc ?_ _) | (with_reducible refine Kd.C_drewN ?_ _) | (with_reducible refine Kd.C_drew ?_)))
            (case side2 => exact HC276.out)
            rintro e w97 ⟨rfl, hb⟩
            refine ⟨_, rfl, ?_⟩
            have n0_ := Aside0.mk (Kd.R_below (by (with_reducible repeat (first | apply Kd.R_alloc | apply Kd.R_drewN | apply Kd.R_drew)); exact HO265.out) hb)
            have n1_ := Aside0.mk (blk_below (g := gb268) (o := .cells #[.int .i64 t262, .slice Ao75 t263.length co75] 25 (0, 0)) (laws_FnPostJoin_vb BK268) hb)
            have n2_ := Aside0.mk (blk_below (g := gb277) (o := .cells #[.int .i64 1, .slice Ao75 y273.length co75] 25 (0, 0)) (laws_FnPostJoin_vb BK277) hb)
            have n3_ := Aside0.mk (blk_below (g := gb282) (o := .cells #[.int .i64 2, .slice A88 y278.length c88] 25 (0, 0)) (laws_FnPostJoin_vb BK282) hb)
            have n4_ := Aside0.mk (Kd.C_below (by repeat (first | (with_reducible exact HR276.out) | (with_reducible refine Kd.C_alloc ?_ _) | (with_reducible refine Kd.C_drewN ?_ _) | (with_reducible refine Kd.C_drew ?_) | exact HR276.out)) hb)
            have n5_ := Aside0.mk (Kd.C_below (by repeat (first | (with_reducible exact HR281.out) | (with_reducible refine Kd.C_alloc ?_ _) | (with_reducible refine Kd.C_drewN ?_ _) | (with_reducible refine Kd.C_drew ?_) | exact HR281.out)) hb)
            have n6_ := Aside0.mk (below_step (laws_FnPostJoin_auHB) hb)
            clear HO265
            clear BK268
            clear BK277
            clear BK282
            clear HR276
            clear HR281
            clear HB
            have HO265 := n0_
            have BK268 := n1_
            have BK277 := n2_
            have BK282 := n3_
            have HR276 := n4_
            have HR281 := n5_
            have HB := n6_
            clear n0_ n1_ n2_ n3_ n4_ n5_ n6_
            (try clear hb)
            (try clear hb2)
            (try clear hk)
            (try clear hi)
            refine hK.out _ _ ⟨(blk_cell BK277.out 0).trans rfl, (blk_cell BK277.out 1).trans rfl, (blk_cell BK282.out 0).trans rfl, (blk_cell BK282.out 1).trans rfl, (blk_cell BK268.out 0).trans rfl, (blk_cell BK268.out 1).trans rfl⟩ (fun hHeld => ?_)
            clear hK K
            refine norm_ (a' := ?_) ?_ ?_
            rotate_left
            ·
             show Act.put _ (some 85) _ = _
             simp only [Act.put, List.setIfInBounds_toArray, List.set_cons_zero, List.set_cons_succ, i64_w, i32_w]
             rfl
            refine one_ (i := 17) (N := some 88) #[true, true, true, true, true, true, true, true, true, true, true, true, true, true, true, true, true, true, false, true, true, false, false, false, false, false, false, false, false, false, false, false, false, false, false, false, false] rfl rfl (one_of HT_.out (by kernel_rfl)) (by decide) (fun K hK => ?_)
            refine goes_ Try.func19 (by kernel_rfl) rfl #[.agg #[.int .i64 2, .slice A88 y278.length c88], .int .i64 t267] (by rfl) rfl rfl (by (try simp only [List.map_toArray, List.map_cons, List.map_nil]); first | done | rfl | (simp only [List.length_drop, List.length_take]; rfl)) ?_
            with_reducible refine (impl_PostSum.calls k 2 _ _ y278 t267 t286 _ ?side1 ?side2 A34.out).mono ?_
            (case side1 => repeat (first | exact (by repeat (first | (with_reducible exact HR281.out) | (with_reducible refine Kd.C_alloc ?_ _) | (with_reducible refine Kd.C_drewN ?_ _) | (with_reducible refine Kd.C_drew ?_) | exact HR281.out)) | (with_reducible refine Kd.C_alloc ?_ _) | (with_reducible refine Kd.C_drewN ?_ _) | (with_reducible refine Kd.C_drew ?_)))
            (case side2 => exact HC281.out)
            rintro e w98 ⟨rfl, hb⟩
            refine ⟨_, rfl, ?_⟩
            have n0_ := Aside0.mk (Kd.R_below (by (with_reducible repeat (first | apply Kd.R_alloc | apply Kd.R_drewN | apply Kd.R_drew)); exact HO265.out) hb)
            have n1_ := Aside0.mk (blk_below (g := gb268) (o := .cells #[.int .i64 t262, .slice Ao75 t263.length co75] 25 (0, 0)) (laws_FnPostJoin_vb BK268) hb)
            have n2_ := Aside0.mk (blk_below (g := gb277) (o := .cells #[.int .i64 1, .slice Ao75 y273.length co75] 25 (0, 0)) (laws_FnPostJoin_vb BK277) hb)
            have n3_ := Aside0.mk (blk_below (g := gb282) (o := .cells #[.int .i64 2, .slice A88 y278.length c88] 25 (0, 0)) (laws_FnPostJoin_vb BK282) hb)
            have n4_ := Aside0.mk (Kd.C_below (by repeat (first | (with_reducible exact HR276.out) | (with_reducible refine Kd.C_alloc ?_ _) | (with_reducible refine Kd.C_drewN ?_ _) | (with_reducible refine Kd.C_drew ?_) | exact HR276.out)) hb)
            have n5_ := Aside0.mk (Kd.C_below (by repeat (first | (with_reducible exact HR281.out) | (with_reducible refine Kd.C_alloc ?_ _) | (with_reducible refine Kd.C_drewN ?_ _) | (with_reducible refine Kd.C_drew ?_) | exact HR281.out)) hb)
            have n6_ := Aside0.mk (below_step (laws_FnPostJoin_auHB) hb)
            clear HO265
            clear BK268
            clear BK277
            clear BK282
            clear HR276
            clear HR281
            clear HB
            have HO265 := n0_
            have BK268 := n1_
            have BK277 := n2_
            have BK282 := n3_
            have HR276 := n4_
            have HR281 := n5_
            have HB := n6_
            clear n0_ n1_ n2_ n3_ n4_ n5_ n6_
            (try clear hb)
            (try clear hb2)
            (try clear hk)
            (try clear hi)
            refine hK.out _ _ ⟨(blk_cell BK277.out 0).trans rfl, (blk_cell BK277.out 1).trans rfl, (blk_cell BK282.out 0).trans rfl, (blk_cell BK282.out 1).trans rfl, (blk_cell BK268.out 0).trans rfl, (blk_cell BK268.out 1).trans rfl⟩ (fun hHeld => ?_)
            clear hK K
            refine norm_ (a' := ?_) ?_ ?_
            rotate_left
            ·
             show Act.put _ (some 88) _ = _
             simp only [Act.put, List.setIfInBounds_toArray, List.set_cons_zero, List.set_cons_succ, i64_w, i32_w]
             rfl
            refine pure_ (i := 18) (N := some 89) (v := ?_) (a' := ?_) #[true, true, true, true, true, true, true, true, true, true, true, true, true, true, true, true, true, true, true, true, true, false, false, false, false, false, false, false, false, false, false, false, false, false, false, false, false] rfl rfl (any_of HT_.out (by kernel_rfl)) (fun _ _ _ h => h) (Or.inl ⟨by rfl, ?_⟩) ?_ ?_
            rotate_left
            ·
             intro w'
             go_simp
             with_reducible rfl
            rotate_left
            ·
             simp only [Act.put, List.setIfInBounds_toArray, List.set_cons_zero, List.set_cons_succ, i64_w, i32_w]
             rfl
            refine one_ (i := 21) (N := some 92) #[true, true, true, true, true, true, true, true, true, true, true, true, true, true, true, true, true, true, true, true, true, true, false, false, false, false, false, false, false, false, false, false, false, false, false, false, false] rfl rfl (one_of HT_.out (by kernel_rfl)) (by decide) (fun K hK => ?_)
            refine goes_ Try.func19 (by kernel_rfl) rfl #[.agg #[.int .i64 t262, .slice Ao75 t263.length co75], .int .i64 t267] (by rfl) rfl rfl (by (try simp only [List.map_toArray, List.map_cons, List.map_nil]); first | done | rfl | (simp only [List.length_drop, List.length_take]; rfl)) ?_
            with_reducible refine (impl_PostSum.calls k t262 _ _ t263 t267 t287 _ ?side1 ?side2 A35.out).mono ?_
            (case side1 => repeat (first | exact (Kd.R_reads' HO265.out).2.2 | (with_reducible refine Kd.C_alloc ?_ _) | (with_reducible refine Kd.C_drewN ?_ _) | (with_reducible refine Kd.C_drew ?_)))
            (case side2 => exact (Kd.R_reads' HO265.out).2.1)
            rintro e w99 ⟨rfl, hb⟩
            refine ⟨_, rfl, ?_⟩
            have n0_ := Aside0.mk (Kd.R_below (by (with_reducible repeat (first | apply Kd.R_alloc | apply Kd.R_drewN | apply Kd.R_drew)); exact HO265.out) hb)
            have n1_ := Aside0.mk (blk_below (g := gb268) (o := .cells #[.int .i64 t262, .slice Ao75 t263.length co75] 25 (0, 0)) (laws_FnPostJoin_vb BK268) hb)
            have n2_ := Aside0.mk (blk_below (g := gb277) (o := .cells #[.int .i64 1, .slice Ao75 y273.length co75] 25 (0, 0)) (laws_FnPostJoin_vb BK277) hb)
            have n3_ := Aside0.mk (blk_below (g := gb282) (o := .cells #[.int .i64 2, .slice A88 y278.length c88] 25 (0, 0)) (laws_FnPostJoin_vb BK282) hb)
            have n4_ := Aside0.mk (Kd.C_below (by repeat (first | (with_reducible exact HR276.out) | (with_reducible refine Kd.C_alloc ?_ _) | (with_reducible refine Kd.C_drewN ?_ _) | (with_reducible refine Kd.C_drew ?_) | exact HR276.out)) hb)
            have n5_ := Aside0.mk (Kd.C_below (by repeat (first | (with_reducible exact HR281.out) | (with_reducible refine Kd.C_alloc ?_ _) | (with_reducible refine Kd.C_drewN ?_ _) | (with_reducible refine Kd.C_drew ?_) | exact HR281.out)) hb)
            have n6_ := Aside0.mk (below_step (laws_FnPostJoin_auHB) hb)
            clear HO265
            clear BK268
            clear BK277
            clear BK282
            clear HR276
            clear HR281
            clear HB
            have HO265 := n0_
            have BK268 := n1_
            have BK277 := n2_
            have BK282 := n3_
            have HR276 := n4_
            have HR281 := n5_
            have HB := n6_
            clear n0_ n1_ n2_ n3_ n4_ n5_ n6_
            (try clear hb)
            (try clear hb2)
            (try clear hk)
            (try clear hi)
            refine hK.out _ _ ⟨(blk_cell BK277.out 0).trans rfl, (blk_cell BK277.out 1).trans rfl, (blk_cell BK282.out 0).trans rfl, (blk_cell BK282.out 1).trans rfl, (blk_cell BK268.out 0).trans rfl, (blk_cell BK268.out 1).trans rfl⟩ (fun hHeld => ?_)
            clear hK K
            refine norm_ (a' := ?_) ?_ ?_
            rotate_left
            ·
             show Act.put _ (some 92) _ = _
             simp only [Act.put, List.setIfInBounds_toArray, List.set_cons_zero, List.set_cons_succ, i64_w, i32_w]
             rfl
            refine pure_ (i := 22) (N := some 93) (v := ?_) (a' := ?_) #[true, true, true, true, true, true, true, true, true, true, true, true, true, true, true, true, true, true, true, true, true, true, true, false, false, false, false, false, false, false, false, false, false, false, false, false, false] rfl rfl (any_of HT_.out (by kernel_rfl)) (fun _ _ _ h => h) (Or.inl ⟨by rfl, ?_⟩) ?_ ?_
            rotate_left
            ·
             intro w'
             go_simp
             with_reducible rfl
            rotate_left
            ·
             simp only [Act.put, List.setIfInBounds_toArray, List.set_cons_zero, List.set_cons_succ, i64_w, i32_w]
             rfl
            refine pure_ (i := 23) (N := some 94) (v := ?_) (a' := ?_) #[true, true, true, true, true, true, true, true, true, true, true, true, true, true, true, true, true, true, true, true, true, true, true, true, false, false, false, false, false, false, false, false, false, false, false, false, false] rfl rfl (any_of HT_.out (by kernel_rfl)) (fun _ _ _ h => h) (Or.inl ⟨by rfl, ?_⟩) ?_ ?_
            rotate_left
            ·
             intro w'
             go_simp
             with_reducible rfl
            rotate_left
            ·
             simp only [Act.put, List.setIfInBounds_toArray, List.set_cons_zero, List.set_cons_succ, i64_w, i32_w]
             rfl
            refine pure_ (i := 24) (N := some 95) (v := ?_) (a' := ?_) #[true, true, true, true, true, true, true, true, true, true, true, true, true, true, true, true, true, true, true, true, true, true, true, true, true, false, false, false, false, false, false, false, false, false, false, false, false] rfl rfl (any_of HT_.out (by kernel_rfl)) (fun _ _ _ h => h) (Or.inl ⟨by rfl, ?_⟩) ?_ ?_
            rotate_left
            ·
             intro w'
             go_simp
             with_reducible rfl
            rotate_left
            ·
             simp only [Act.put, List.setIfInBounds_toArray, List.set_cons_zero, List.set_cons_succ, i64_w, i32_w]
             rfl
            refine take_ (i := 25) (N := some 96) (v := ?_) (a' := ?_) #[true, true, true, true, true, true, true, true, true, true, true, true, true, true, true, true, true, true, true, true, true, true, true, true, true, true, false, false, false, false, false, false, false, false, false, false, false] rfl rfl (take_ofW HT_.out HW_.out (by kernel_rfl)) (fun _ _ _ h => h) (Or.inl ⟨by rfl, ?_⟩) hHeld ?_ ?_
            rotate_left
            ·
             rintro w' ⟨s0, s1, s2, s3, s4, s5⟩
             go_simp
             with_reducible rfl
            rotate_left
            ·
             simp only [Act.put, List.setIfInBounds_toArray, List.set_cons_zero, List.set_cons_succ, i64_w, i32_w]
             rfl
            refine one_ (i := 26) (N := some 97) #[true, true, true, true, true, true, true, true, true, true, true, true, true, true, true, true, true, true, true, true, true, true, true, true, true, true, true, false, false, false, false, false, false, false, false, false, false] rfl rfl (one_of HT_.out (by kernel_rfl)) (by decide) (fun K hK => ?_)
            refine goes_ Try.func20 (by kernel_rfl) rfl #[.agg #[.int .i64 t262, .slice Ao75 t263.length co75]] (by rfl) rfl rfl (by (try simp only [List.map_toArray, List.map_cons, List.map_nil]); first | done | rfl | (simp only [List.length_drop, List.length_take]; rfl)) ?_
            with_reducible refine (impl_PostFair.calls k t262 _ _ t263 false _ ?side1 ?side2 A37.out).mono ?_
            (case side1 => repeat (first | exact (Kd.R_reads' HO265.out).2.2 | (with_reducible refine Kd.C_alloc ?_ _) | (with_reducible refine Kd.C_drewN ?_ _) | (with_reducible refine Kd.C_drew ?_)))
            (case side2 => exact (Kd.R_reads' HO265.out).2.1)
            rintro e w100 ⟨rfl, hb⟩
            refine ⟨_, rfl, ?_⟩
            have n0_ := Aside0.mk (Kd.R_below (by (with_reducible repeat (first | apply Kd.R_alloc | apply Kd.R_drewN | apply Kd.R_drew)); exact HO265.out) hb)
            have n1_ := Aside0.mk (blk_below (g := gb268) (o := .cells #[.int .i64 t262, .slice Ao75 t263.length co75] 25 (0, 0)) (laws_FnPostJoin_vb BK268) hb)
            have n2_ := Aside0.mk (blk_below (g := gb277) (o := .cells #[.int .i64 1, .slice Ao75 y273.length co75] 25 (0, 0)) (laws_FnPostJoin_vb BK277) hb)
            have n3_ := Aside0.mk (blk_below (g := gb282) (o := .cells #[.int .i64 2, .slice A88 y278.length c88] 25 (0, 0)) (laws_FnPostJoin_vb BK282) hb)
            have n4_ := Aside0.mk (Kd.C_below (by repeat (first | (with_reducible exact HR276.out) | (with_reducible refine Kd.C_alloc ?_ _) | (with_reducible refine Kd.C_drewN ?_ _) | (with_reducible refine Kd.C_drew ?_) | exact HR276.out)) hb)
            have n5_ := Aside0.mk (Kd.C_below (by repeat (first | (with_reducible exact HR281.out) | (with_reducible refine Kd.C_alloc ?_ _) | (with_reducible refine Kd.C_drewN ?_ _) | (with_reducible refine Kd.C_drew ?_) | exact HR281.out)) hb)
            have n6_ := Aside0.mk (below_step (laws_FnPostJoin_auHB) hb)
            clear HO265
            clear BK268
            clear BK277
            clear BK282
            clear HR276
            clear HR281
            clear HB
            have HO265 := n0_
            have BK268 := n1_
            have BK277 := n2_
            have BK282 := n3_
            have HR276 := n4_
            have HR281 := n5_
            have HB := n6_
            clear n0_ n1_ n2_ n3_ n4_ n5_ n6_
            (try clear hb)
            (try clear hb2)
            (try clear hk)
            (try clear hi)
            refine hK.out _ _ ⟨(blk_cell BK277.out 0).trans rfl, (blk_cell BK277.out 1).trans rfl, (blk_cell BK282.out 0).trans rfl, (blk_cell BK282.out 1).trans rfl, (blk_cell BK268.out 0).trans rfl, (blk_cell BK268.out 1).trans rfl⟩ (fun hHeld => ?_)
            clear hK K
            refine norm_ (a' := ?_) ?_ ?_
            rotate_left
            ·
             show Act.put _ (some 97) _ = _
             simp only [Act.put, List.setIfInBounds_toArray, List.set_cons_zero, List.set_cons_succ, i64_w, i32_w]
             rfl
            refine pure_ (i := 27) (N := some 98) (v := ?_) (a' := ?_) #[true, true, true, true, true, true, true, true, true, true, true, true, true, true, true, true, true, true, true, true, true, true, true, true, true, true, true, true, false, false, false, false, false, false, false, false, false] rfl rfl (any_of HT_.out (by kernel_rfl)) (fun _ _ _ h => h) (Or.inl ⟨by rfl, ?_⟩) ?_ ?_
            rotate_left
            ·
             intro w'
             go_simp
             with_reducible rfl
            rotate_left
            ·
             simp only [Act.put, List.setIfInBounds_toArray, List.set_cons_zero, List.set_cons_succ, i64_w, i32_w]
             rfl
            refine pure_ (i := 28) (N := some 99) (v := ?_) (a' := ?_) #[true, true, true, true, true, true, true, true, true, true, true, true, true, true, true, true, true, true, true, true, true, true, true, true, true, true, true, true, true, false, false, false, false, false, false, false, false] rfl rfl (any_of HT_.out (by kernel_rfl)) (fun _ _ _ h => h) (Or.inl ⟨by rfl, ?_⟩) ?_ ?_
            rotate_left
            ·
             intro w'
             go_simp
             with_reducible rfl
            rotate_left
            ·
             simp only [Act.put, List.setIfInBounds_toArray, List.set_cons_zero, List.set_cons_succ, i64_w, i32_w]
             rfl
            refine pure_ (i := 29) (N := some 100) (v := undef) (a' := ?_) #[true, true, true, true, true, true, true, true, true, true, true, true, true, true, true, true, true, true, true, true, true, true, true, true, true, true, true, true, true, true, false, false, false, false, false, false, false] rfl rfl (any_of HT_.out (by kernel_rfl)) (fun _ _ _ h => h) (Or.inr ⟨by rfl, rfl⟩) ?_ ?_
            rotate_left
            ·
             simp only [Act.put, List.setIfInBounds_toArray, List.set_cons_zero, List.set_cons_succ, i64_w, i32_w]
             rfl
            refine pure_ (i := 30) (N := some 101) (v := undef) (a' := ?_) #[true, true, true, true, true, true, true, true, true, true, true, true, true, true, true, true, true, true, true, true, true, true, true, true, true, true, true, true, true, true, true, false, false, false, false, false, false] rfl rfl (any_of HT_.out (by kernel_rfl)) (fun _ _ _ h => h) (Or.inr ⟨by rfl, rfl⟩) ?_ ?_
            rotate_left
            ·
             simp only [Act.put, List.setIfInBounds_toArray, List.set_cons_zero, List.set_cons_succ, i64_w, i32_w]
             rfl
            refine pure_ (i := 31) (N := some 102) (v := undef) (a' := ?_) #[true, true, true, true, true, true, true, true, true, true, true, true, true, true, true, true, true, true, true, true, true, true, true, true, true, true, true, true, true, true, true, true, false, false, false, false, false] rfl rfl (any_of HT_.out (by kernel_rfl)) (fun _ _ _ h => h) (Or.inr ⟨by rfl, rfl⟩) ?_ ?_
            rotate_left
            ·
             simp only [Act.put, List.setIfInBounds_toArray, List.set_cons_zero, List.set_cons_succ, i64_w, i32_w]
             rfl
            refine pure_ (i := 32) (N := some 103) (v := undef) (a' := ?_) #[true, true, true, true, true, true, true, true, true, true, true, true, true, true, true, true, true, true, true, true, true, true, true, true, true, true, true, true, true, true, true, true, true, false, false, false, false] rfl rfl (any_of HT_.out (by kernel_rfl)) (fun _ _ _ h => h) (Or.inr ⟨by rfl, rfl⟩) ?_ ?_
            rotate_left
            ·
             simp only [Act.put, List.setIfInBounds_toArray, List.set_cons_zero, List.set_cons_succ, i64_w, i32_w]
             rfl
            refine pure_ (i := 33) (N := some 104) (v := undef) (a' := ?_) #[true, true, true, true, true, true, true, true, true, true, true, true, true, true, true, true, true, true, true, true, true, true, true, true, true, true, true, true, true, true, true, true, true, true, false, false, false] rfl rfl (any_of HT_.out (by kernel_rfl)) (fun _ _ _ h => h) (Or.inr ⟨by rfl, rfl⟩) ?_ ?_
            rotate_left
            ·
             simp only [Act.put, List.setIfInBounds_toArray, List.set_cons_zero, List.set_cons_succ, i64_w, i32_w]
             rfl
            refine pure_ (i := 34) (N := some 105) (v := ?_) (a' := ?_) #[true, true, true, true, true, true, true, true, true, true, true, true, true, true, true, true, true, true, true, true, true, true, true, true, true, true, true, true, true, true, true, true, true, true, true, false, false] rfl rfl (any_of HT_.out (by kernel_rfl)) (fun _ _ _ h => h) (Or.inl ⟨by rfl, ?_⟩) ?_ ?_
            rotate_left
            ·
             intro w'
             go_simp
             with_reducible rfl
            rotate_left
            ·
             simp only [Act.put, List.setIfInBounds_toArray, List.set_cons_zero, List.set_cons_succ, i64_w, i32_w]
             rfl
            refine pure_ (i := 35) (N := some 106) (v := ?_) (a' := ?_) #[true, true, true, true, true, true, true, true, true, true, true, true, true, true, true, true, true, true, true, true, true, true, true, true, true, true, true, true, true, true, true, true, true, true, true, true, false] rfl rfl (any_of HT_.out (by kernel_rfl)) (fun _ _ _ h => h) (Or.inl ⟨by rfl, ?_⟩) ?_ ?_
            rotate_left
            ·
             intro w'
             go_simp
             with_reducible rfl
            rotate_left
            ·
             simp only [Act.put, List.setIfInBounds_toArray, List.set_cons_zero, List.set_cons_succ, i64_w, i32_w]
             rfl
            refine pure_ (i := 36) (N := some 4) (v := ?_) (a' := ?_) #[true, true, true, true, true, true, true, true, true, true, true, true, true, true, true, true, true, true, true, true, true, true, true, true, true, true, true, true, true, true, true, true, true, true, true, true, true] rfl rfl (any_of HT_.out (by kernel_rfl)) (fun _ _ _ h => h) (Or.inl ⟨by rfl, ?_⟩) ?_ ?_
            rotate_left
            ·
             intro w'
             go_simp
             with_reducible rfl
            rotate_left
            ·
             simp only [Act.put, List.setIfInBounds_toArray, List.set_cons_zero, List.set_cons_succ, i64_w, i32_w]
             rfl
            refine done_ (done_of HT_.out (by kernel_rfl)) ?_
            try go_wp2
            go_ret
            exact ⟨by first | rfl | (simp [errW_none, errW_some] <;> rfl) | (simp only [← hji25]; first | rfl | (simp [errW_none, errW_some] <;> rfl)) | (simp [*, errW_none, errW_some] <;> rfl), laws_FnPostJoin_auHB⟩
          ·
           rw [if_neg c36] at H
           have c36b0 : ((wrap64 (t285 + t286)) == t287) = false := beq_eq_false_iff_ne.mpr c36
           have c36b1 : ((wrap64 (t285 + t286)) != t287) = true := bne_iff_ne.mpr c36
           exact absurd H (by simp)
         ·
          rw [if_neg c32] at H
          have c32b0 : ((wrap64 (t283 + t284)) == t269) = false := beq_eq_false_iff_ne.mpr c32
          have c32b1 : ((wrap64 (t283 + t284)) != t269) = true := bne_iff_ne.mpr c32
          exact absurd H (by simp)
        ·
         rw [if_neg c27] at H
         exact absurd H (by simp)
       ·
        rw [if_neg c26] at H
        exact absurd H (by simp)
    ·
     replace c10 := Bool.eq_false_iff.mpr c10
     subst c10
     have H1 : ((spec_PostTo.f k t262 t263 t266 t267).bind fun t291 => (some (t269 == t291))) = some r := by rw [if_neg (show ¬ (false = true) by decide)] at H; exact H
     clear H
     have H := H1
     clear H1
     replace H := Option.bind_eq_some_iff.mp H
     obtain ⟨t291, A1010, H⟩ := H
     replace H : (some (t269 == t291)) = some r := H
     have A101 := Aside0.mk A1010
     clear A1010
     obtain rfl := Option.some.inj H
     go_enter Try.func4, Try.ntmps4
     go_wp2_with (first | ((with_reducible refine gate_callee (f := 15) rfl ?_); refine goesL_ (some 22) rfl rfl Try.func15 (by kernel_rfl) rfl #[.slice A0 l0.length c0] rfl (by (try simp only [List.map_toArray, List.map_cons, List.map_nil]); first | done | rfl | (simp only [List.length_drop, List.length_take]; rfl)) ?_; (with_reducible refine (spec_DrawPostTo.calls k _ _ l0 t262 t263 t266 t267 _ ?side1 ?side2 A5.out).mono ?_); (case side1 => repeat (first | exact HR0.out | (with_reducible refine Kd.C_alloc ?_ _) | (with_reducible refine Kd.C_drewN ?_ _) | (with_reducible refine Kd.C_drew ?_))); (case side2 => exact HC0.out); rintro e w102 ⟨v264, rfl, ho0, hb⟩; refine ⟨_, rfl, ?_⟩; have n0_ := Aside0.mk (Kd.R_lower ho0 (below_size (laws_FnPostJoin_auHB))); have n1_ := Aside0.mk (below_step (laws_FnPostJoin_auHB) hb); clear HB; have HO265 := n0_; have HB := n1_; clear n0_ n1_; (try clear hb); (try clear hb2); (try clear hk); (try clear hi); (try clear ho0)) | ((with_reducible refine gate_dst (N := 5) rfl ?_); (try (refine gate_guard (by rfl) ?_; dsimp only)); refine box_event ?hg (N := 5) ?hd (cs := #[.int .i64 0, .slice none 0 0]) (t := 25) ?hr ?_; (case hd => rfl); (case hg => rfl); (case hr => first | (go_simp; done) | (go_simp; rfl)); intro gb268 hg w103 hbox hb; have n0_ := Aside0.mk (Kd.R_below (by (with_reducible repeat (first | apply Kd.R_alloc | apply Kd.R_drewN | apply Kd.R_drew)); exact HO265.out) hb); have n1_ := Aside0.mk (below_step (laws_FnPostJoin_auHB) hb); have n2_ := Aside0.mk (hbox); have n3_ := Aside0.mk ((by rw [hg]; exact (below_size (laws_FnPostJoin_auHB)) : w.heap.size ≤ gb268)); have n4_ := Aside0.mk ((by rw [hg]; exact (below_size (laws_FnPostJoin_auHB)) : w.heap.size ≤ gb268)); clear HO265; clear HB; have HO265 := n0_; have HB := n1_; have BK268 := n2_; have GW268 := n3_; have GE268 := n4_; clear n0_ n1_ n2_ n3_ n4_; clear hb hbox hg; have hcz104_0 : w103.cell? ⟨gb268, 0, none⟩ = some (.int .i64 0) := (blk_cell BK268.out 0).trans rfl; have hcz104_1 : w103.cell? ⟨gb268, 1, none⟩ = some (.slice none 0 0) := (blk_cell BK268.out 1).trans rfl; have hfz104_0 := blk_frozen BK268.out 0; have hfz104_1 := blk_frozen BK268.out 1; obtain ⟨Ao105, co105, eo105⟩ := Kd.R_slice HO265.out; subst eo105) | ((with_reducible refine gate_callee (f := 16) rfl ?_); refine goesL_ (some 29) rfl rfl Try.func16 (by kernel_rfl) rfl #[.agg #[.int .i64 t262, .slice Ao105 t263.length co105], .string t266, .int .i64 t267] rfl (by (try simp only [List.map_toArray, List.map_cons, List.map_nil]); first | done | rfl | (simp only [List.length_drop, List.length_take]; rfl)) ?_; (with_reducible refine (impl_PostTo.calls k t262 _ _ t263 t266 t267 t269 _ ?side1 ?side2 A6.out).mono ?_); (case side1 => refine (Kd.R_reads' (e := 29) (base := w.heap.size) (ok := fun k_ => True) (n := t263.length) (c := co105) ?_).2.2; exact (by (with_reducible repeat (first | apply Kd.R_alloc | apply Kd.R_drewN | apply Kd.R_drew)); exact (Kd.R_mono (Kd.R_far (p := ⟨gb268, 1, none⟩) (Kd.R_far (p := ⟨gb268, 0, none⟩) (Kd.R_types HO265.out BK268.out (by decide)) (fun _ hk => hk.2) (.int .i64 t262)) (fun _ hk => hk.2) (.slice Ao105 t263.length co105)) (fun _ h_ => h_.1)))); (case side2 => exact (Kd.R_reads' HO265.out).2.1); rintro e w106 ⟨rfl, hb⟩; refine ⟨_, rfl, ?_⟩; have n0_ := Aside0.mk (Kd.R_below (by (with_reducible repeat (first | apply Kd.R_alloc | apply Kd.R_drewN | apply Kd.R_drew)); exact (Kd.R_mono (Kd.R_far (p := ⟨gb268, 1, none⟩) (Kd.R_far (p := ⟨gb268, 0, none⟩) (Kd.R_types HO265.out BK268.out (by decide)) (fun _ hk => hk.2) (.int .i64 t262)) (fun _ hk => hk.2) (.slice Ao105 t263.length co105)) (fun _ h_ => h_.1))) hb); have n1_ := Aside0.mk (blk_below (g := gb268) (o := .cells #[.int .i64 t262, .slice Ao105 t263.length co105] 25 (0, 0)) (by (with_reducible repeat (first | refine blk_drewN ?_ _ | refine blk_drew ?_ | refine blk_alloc ?_ _)); refine blk_put (cs := #[.int .i64 t262, .slice none 0 0]) ?_ 1 _ rfl; (with_reducible repeat (first | refine blk_drewN ?_ _ | refine blk_drew ?_ | refine blk_alloc ?_ _)); refine blk_put (cs := #[.int .i64 0, .slice none 0 0]) ?_ 0 _ rfl; (with_reducible repeat (first | refine blk_drewN ?_ _ | refine blk_drew ?_ | refine blk_alloc ?_ _)); exact BK268.out) hb); have n2_ := Aside0.mk (below_step (laws_FnPostJoin_auHB) hb); clear HO265; clear BK268; clear HB; have HO265 := n0_; have BK268 := n1_; have HB := n2_; clear n0_ n1_ n2_; (try clear hb); (try clear hb2); (try clear hk); (try clear hi); have hcz107_0 : w106.cell? ⟨gb268, 0, none⟩ = some (.int .i64 t262) := (blk_cell BK268.out 0).trans rfl; have hcz107_1 : w106.cell? ⟨gb268, 1, none⟩ = some (.slice Ao105 t263.length co105) := (blk_cell BK268.out 1).trans rfl; have hfz107_0 := blk_frozen BK268.out 0; have hfz107_1 := blk_frozen BK268.out 1) | ((with_reducible refine gate_callee (f := 17) rfl ?_); refine goesL_ (some 34) rfl rfl Try.func17 (by kernel_rfl) rfl #[.agg #[.int .i64 t262, .slice Ao105 t263.length co105], .string t266, .int .i64 t267] rfl (by (try simp only [List.map_toArray, List.map_cons, List.map_nil]); first | done | rfl | (simp only [List.length_drop, List.length_take]; rfl)) ?_; (with_reducible refine (spec_PostTo.calls k t262 _ _ t263 t266 t267 t270 _ ?side1 ?side2 A7.out).mono ?_); (case side1 => repeat (first | exact (Kd.R_reads' HO265.out).2.2 | (with_reducible refine Kd.C_alloc ?_ _) | (with_reducible refine Kd.C_drewN ?_ _) | (with_reducible refine Kd.C_drew ?_))); (case side2 => exact (Kd.R_reads' HO265.out).2.1); rintro e w108 ⟨rfl, hb⟩; refine ⟨_, rfl, ?_⟩; have n0_ := Aside0.mk (Kd.R_below (by (with_reducible repeat (first | apply Kd.R_alloc | apply Kd.R_drewN | apply Kd.R_drew)); exact HO265.out) hb); have n1_ := Aside0.mk (blk_below (g := gb268) (o := .cells #[.int .i64 t262, .slice Ao105 t263.length co105] 25 (0, 0)) (laws_FnPostJoin_vb BK268) hb); have n2_ := Aside0.mk (below_step (laws_FnPostJoin_auHB) hb); clear HO265; clear BK268; clear HB; have HO265 := n0_; have BK268 := n1_; have HB := n2_; clear n0_ n1_ n2_; (try clear hb); (try clear hb2); (try clear hk); (try clear hi); have hcz109_0 : w108.cell? ⟨gb268, 0, none⟩ = some (.int .i64 t262) := (blk_cell BK268.out 0).trans rfl; have hcz109_1 : w108.cell? ⟨gb268, 1, none⟩ = some (.slice Ao105 t263.length co105) := (blk_cell BK268.out 1).trans rfl; have hfz109_0 := blk_frozen BK268.out 0; have hfz109_1 := blk_frozen BK268.out 1) | (go_at_call 18; (with_reducible refine (spec_PostOk.calls k t262 _ _ t263 false _ ?side1 ?side2 A9.out).mono ?_); (case side1 => repeat (first | exact (Kd.R_reads' HO265.out).2.2 | (with_reducible refine Kd.C_alloc ?_ _) | (with_reducible refine Kd.C_drewN ?_ _) | (with_reducible refine Kd.C_drew ?_))); (case side2 => exact (Kd.R_reads' HO265.out).2.1); rintro e w110 ⟨rfl, hb⟩; have n0_ := Aside0.mk (Kd.R_below (by (with_reducible repeat (first | apply Kd.R_alloc | apply Kd.R_drewN | apply Kd.R_drew)); exact HO265.out) hb); have n1_ := Aside0.mk (blk_below (g := gb268) (o := .cells #[.int .i64 t262, .slice Ao105 t263.length co105] 25 (0, 0)) (laws_FnPostJoin_vb BK268) hb); have n2_ := Aside0.mk (below_step (laws_FnPostJoin_auHB) hb); clear HO265; clear BK268; clear HB; have HO265 := n0_; have BK268 := n1_; have HB := n2_; clear n0_ n1_ n2_; (try clear hb); (try clear hb2); (try clear hk); (try clear hi); have hcz111_0 : w110.cell? ⟨gb268, 0, none⟩ = some (.int .i64 t262) := (blk_cell BK268.out 0).trans rfl; have hcz111_1 : w110.cell? ⟨gb268, 1, none⟩ = some (.slice Ao105 t263.length co105) := (blk_cell BK268.out 1).trans rfl; have hfz111_0 := blk_frozen BK268.out 0; have hfz111_1 := blk_frozen BK268.out 1) | ((with_reducible refine gate_callee (f := 17) rfl ?_); refine goesL_ (some 51) rfl rfl Try.func17 (by kernel_rfl) rfl #[.agg #[.int .i64 t262, .slice Ao105 t263.length co105], .string t266, .int .i64 t267] rfl (by (try simp only [List.map_toArray, List.map_cons, List.map_nil]); first | done | rfl | (simp only [List.length_drop, List.length_take]; rfl)) ?_; (with_reducible refine (spec_PostTo.calls k t262 _ _ t263 t266 t267 t291 _ ?side1 ?side2 A101.out).mono ?_); (case side1 => repeat (first | exact (Kd.R_reads' HO265.out).2.2 | (with_reducible refine Kd.C_alloc ?_ _) | (with_reducible refine Kd.C_drewN ?_ _) | (with_reducible refine Kd.C_drew ?_))); (case side2 => exact (Kd.R_reads' HO265.out).2.1); rintro e w112 ⟨rfl, hb⟩; refine ⟨_, rfl, ?_⟩; have n0_ := Aside0.mk (Kd.R_below (by (with_reducible repeat (first | apply Kd.R_alloc | apply Kd.R_drewN | apply Kd.R_drew)); exact HO265.out) hb); have n1_ := Aside0.mk (blk_below (g := gb268) (o := .cells #[.int .i64 t262, .slice Ao105 t263.length co105] 25 (0, 0)) (laws_FnPostJoin_vb BK268) hb); have n2_ := Aside0.mk (below_step (laws_FnPostJoin_auHB) hb); clear HO265; clear BK268; clear HB; have HO265 := n0_; have BK268 := n1_; have HB := n2_; clear n0_ n1_ n2_; (try clear hb); (try clear hb2); (try clear hk); (try clear hi)))
     go_ret
     exact ⟨by first | rfl | (simp [errW_none, errW_some] <;> rfl) | (simp [*, errW_none, errW_some] <;> rfl), laws_FnPostJoin_auHB⟩
   ·
    rw [if_neg c8] at H
    have c8b0 : (t269 == t270) = false := beq_eq_false_iff_ne.mpr c8
    have c8b1 : (t269 != t270) = true := bne_iff_ne.mpr c8
    replace H := Option.bind_eq_some_iff.mp H
    obtain ⟨t292, A1130, H⟩ := H
    replace H : (some (t269 == t292)) = some r := H
    have A113 := Aside0.mk A1130
    clear A1130
    obtain rfl := Option.some.inj H
    go_enter Try.func4, Try.ntmps4
    go_wp2_with (first | ((with_reducible refine gate_callee (f := 15) rfl ?_); refine goesL_ (some 22) rfl rfl Try.func15 (by kernel_rfl) rfl #[.slice A0 l0.length c0] rfl (by (try simp only [List.map_toArray, List.map_cons, List.map_nil]); first | done | rfl | (simp only [List.length_drop, List.length_take]; rfl)) ?_; (with_reducible refine (spec_DrawPostTo.calls k _ _ l0 t262 t263 t266 t267 _ ?side1 ?side2 A5.out).mono ?_); (case side1 => repeat (first | exact HR0.out | (with_reducible refine Kd.C_alloc ?_ _) | (with_reducible refine Kd.C_drewN ?_ _) | (with_reducible refine Kd.C_drew ?_))); (case side2 => exact HC0.out); rintro e w114 ⟨v264, rfl, ho0, hb⟩; refine ⟨_, rfl, ?_⟩; have n0_ := Aside0.mk (Kd.R_lower ho0 (below_size (laws_FnPostJoin_auHB))); have n1_ := Aside0.mk (below_step (laws_FnPostJoin_auHB) hb); clear HB; have HO265 := n0_; have HB := n1_; clear n0_ n1_; (try clear hb); (try clear hb2); (try clear hk); (try clear hi); (try clear ho0)) | ((with_reducible refine gate_dst (N := 5) rfl ?_); (try (refine gate_guard (by rfl) ?_; dsimp only)); refine box_event ?hg (N := 5) ?hd (cs := #[.int .i64 0, .slice none 0 0]) (t := 25) ?hr ?_; (case hd => rfl); (case hg => rfl); (case hr => first | (go_simp; done) | (go_simp; rfl)); intro gb268 hg w115 hbox hb; have n0_ := Aside0.mk (Kd.R_below (by (with_reducible repeat (first | apply Kd.R_alloc | apply Kd.R_drewN | apply Kd.R_drew)); exact HO265.out) hb); have n1_ := Aside0.mk (below_step (laws_FnPostJoin_auHB) hb); have n2_ := Aside0.mk (hbox); have n3_ := Aside0.mk ((by rw [hg]; exact (below_size (laws_FnPostJoin_auHB)) : w.heap.size ≤ gb268)); have n4_ := Aside0.mk ((by rw [hg]; exact (below_size (laws_FnPostJoin_auHB)) : w.heap.size ≤ gb268)); clear HO265; clear HB; have HO265 := n0_; have HB := n1_; have BK268 := n2_; have GW268 := n3_; have GE268 := n4_; clear n0_ n1_ n2_ n3_ n4_; clear hb hbox hg; have hcz116_0 : w115.cell? ⟨gb268, 0, none⟩ = some (.int .i64 0) := (blk_cell BK268.out 0).trans rfl; have hcz116_1 : w115.cell? ⟨gb268, 1, none⟩ = some (.slice none 0 0) := (blk_cell BK268.out 1).trans rfl; have hfz116_0 := blk_frozen BK268.out 0; have hfz116_1 := blk_frozen BK268.out 1; obtain ⟨Ao117, co117, eo117⟩ := Kd.R_slice HO265.out; subst eo117) | ((with_reducible refine gate_callee (f := 16) rfl ?_); refine goesL_ (some 29) rfl rfl Try.func16 (by kernel_rfl) rfl #[.agg #[.int .i64 t262, .slice Ao117 t263.length co117], .string t266, .int .i64 t267] rfl (by (try simp only [List.map_toArray, List.map_cons, List.map_nil]); first | done | rfl | (simp only [List.length_drop, List.length_take]; rfl)) ?_; (with_reducible refine (impl_PostTo.calls k t262 _ _ t263 t266 t267 t269 _ ?side1 ?side2 A6.out).mono ?_); (case side1 => refine (Kd.R_reads' (e := 29) (base := w.heap.size) (ok := fun k_ => True) (n := t263.length) (c := co117) ?_).2.2; exact (by (with_reducible repeat (first | apply Kd.R_alloc | apply Kd.R_drewN | apply Kd.R_drew)); exact (Kd.R_mono (Kd.R_far (p := ⟨gb268, 1, none⟩) (Kd.R_far (p := ⟨gb268, 0, none⟩) (Kd.R_types HO265.out BK268.out (by decide)) (fun _ hk => hk.2) (.int .i64 t262)) (fun _ hk => hk.2) (.slice Ao117 t263.length co117)) (fun _ h_ => h_.1)))); (case side2 => exact (Kd.R_reads' HO265.out).2.1); rintro e w118 ⟨rfl, hb⟩; refine ⟨_, rfl, ?_⟩; have n0_ := Aside0.mk (Kd.R_below (by (with_reducible repeat (first | apply Kd.R_alloc | apply Kd.R_drewN | apply Kd.R_drew)); exact (Kd.R_mono (Kd.R_far (p := ⟨gb268, 1, none⟩) (Kd.R_far (p := ⟨gb268, 0, none⟩) (Kd.R_types HO265.out BK268.out (by decide)) (fun _ hk => hk.2) (.int .i64 t262)) (fun _ hk => hk.2) (.slice Ao117 t263.length co117)) (fun _ h_ => h_.1))) hb); have n1_ := Aside0.mk (blk_below (g := gb268) (o := .cells #[.int .i64 t262, .slice Ao117 t263.length co117] 25 (0, 0)) (by (with_reducible repeat (first | refine blk_drewN ?_ _ | refine blk_drew ?_ | refine blk_alloc ?_ _)); refine blk_put (cs := #[.int .i64 t262, .slice none 0 0]) ?_ 1 _ rfl; (with_reducible repeat (first | refine blk_drewN ?_ _ | refine blk_drew ?_ | refine blk_alloc ?_ _)); refine blk_put (cs := #[.int .i64 0, .slice none 0 0]) ?_ 0 _ rfl; (with_reducible repeat (first | refine blk_drewN ?_ _ | refine blk_drew ?_ | refine blk_alloc ?_ _)); exact BK268.out) hb); have n2_ := Aside0.mk (below_step (laws_FnPostJoin_auHB) hb); clear HO265; clear BK268; clear HB; have HO265 := n0_; have BK268 := n1_; have HB := n2_; clear n0_ n1_ n2_; (try clear hb); (try clear hb2); (try clear hk); (try clear hi); have hcz119_0 : w118.cell? ⟨gb268, 0, none⟩ = some (.int .i64 t262) := (blk_cell BK268.out 0).trans rfl; have hcz119_1 : w118.cell? ⟨gb268, 1, none⟩ = some (.slice Ao117 t263.length co117) := (blk_cell BK268.out 1).trans rfl; have hfz119_0 := blk_frozen BK268.out 0; have hfz119_1 := blk_frozen BK268.out 1) | ((with_reducible refine gate_callee (f := 17) rfl ?_); refine goesL_ (some 34) rfl rfl Try.func17 (by kernel_rfl) rfl #[.agg #[.int .i64 t262, .slice Ao117 t263.length co117], .string t266, .int .i64 t267] rfl (by (try simp only [List.map_toArray, List.map_cons, List.map_nil]); first | done | rfl | (simp only [List.length_drop, List.length_take]; rfl)) ?_; (with_reducible refine (spec_PostTo.calls k t262 _ _ t263 t266 t267 t270 _ ?side1 ?side2 A7.out).mono ?_); (case side1 => repeat (first | exact (Kd.R_reads' HO265.out).2.2 | (with_reducible refine Kd.C_alloc ?_ _) | (with_reducible refine Kd.C_drewN ?_ _) | (with_reducible refine Kd.C_drew ?_))); (case side2 => exact (Kd.R_reads' HO265.out).2.1); rintro e w120 ⟨rfl, hb⟩; refine ⟨_, rfl, ?_⟩; have n0_ := Aside0.mk (Kd.R_below (by (with_reducible repeat (first | apply Kd.R_alloc | apply Kd.R_drewN | apply Kd.R_drew)); exact HO265.out) hb); have n1_ := Aside0.mk (blk_below (g := gb268) (o := .cells #[.int .i64 t262, .slice Ao117 t263.length co117] 25 (0, 0)) (laws_FnPostJoin_vb BK268) hb); have n2_ := Aside0.mk (below_step (laws_FnPostJoin_auHB) hb); clear HO265; clear BK268; clear HB; have HO265 := n0_; have BK268 := n1_; have HB := n2_; clear n0_ n1_ n2_; (try clear hb); (try clear hb2); (try clear hk); (try clear hi); have hcz121_0 : w120.cell? ⟨gb268, 0, none⟩ = some (.int .i64 t262) := (blk_cell BK268.out 0).trans rfl; have hcz121_1 : w120.cell? ⟨gb268, 1, none⟩ = some (.slice Ao117 t263.length co117) := (blk_cell BK268.out 1).trans rfl; have hfz121_0 := blk_frozen BK268.out 0; have hfz121_1 := blk_frozen BK268.out 1) | ((with_reducible refine gate_callee (f := 17) rfl ?_); refine goesL_ (some 51) rfl rfl Try.func17 (by kernel_rfl) rfl #[.agg #[.int .i64 t262, .slice Ao117 t263.length co117], .string t266, .int .i64 t267] rfl (by (try simp only [List.map_toArray, List.map_cons, List.map_nil]); first | done | rfl | (simp only [List.length_drop, List.length_take]; rfl)) ?_; (with_reducible refine (spec_PostTo.calls k t262 _ _ t263 t266 t267 t292 _ ?side1 ?side2 A113.out).mono ?_); (case side1 => repeat (first | exact (Kd.R_reads' HO265.out).2.2 | (with_reducible refine Kd.C_alloc ?_ _) | (with_reducible refine Kd.C_drewN ?_ _) | (with_reducible refine Kd.C_drew ?_))); (case side2 => exact (Kd.R_reads' HO265.out).2.1); rintro e w122 ⟨rfl, hb⟩; refine ⟨_, rfl, ?_⟩; have n0_ := Aside0.mk (Kd.R_below (by (with_reducible repeat (first | apply Kd.R_alloc | apply Kd.R_drewN | apply Kd.R_drew)); exact HO265.out) hb); have n1_ := Aside0.mk (blk_below (g := gb268) (o := .cells #[.int .i64 t262, .slice Ao117 t263.length co117] 25 (0, 0)) (laws_FnPostJoin_vb BK268) hb); have n2_ := Aside0.mk (below_step (laws_FnPostJoin_auHB) hb); clear HO265; clear BK268; clear HB; have HO265 := n0_; have BK268 := n1_; have HB := n2_; clear n0_ n1_ n2_; (try clear hb); (try clear hb2); (try clear hk); (try clear hi)))
    go_ret
    exact ⟨by first | rfl | (simp [errW_none, errW_some] <;> rfl) | (simp [*, errW_none, errW_some] <;> rfl), laws_FnPostJoin_auHB⟩

/-- THE ONE PURE STATEMENT of laws_FnPostJoin: yours. -/
def laws_FnPostJoin.Pure : Prop := ∀ (l0 : List Int) (l1 : List Int), l0.length ≤ maxLen → l0.length * 1 ≤ 140737488351232 → (∀ x ∈ l0, (Lit.int .u8 x).wf = true) → l1.length ≤ maxLen → l1.length * 1 ≤ 140737488351232 → (∀ x ∈ l1, (Lit.int .u8 x).wf = true) → ∃ k, laws_FnPostJoin.f k l0 l1 = some true
theorem laws_FnPostJoin.walk (P : laws_FnPostJoin.Pure) (a0 : Option Addr) (len0 cap0 : Nat) (z0 : List Int) (a1 : Option Addr) (len1 cap1 : Nat) (z1 : List Int) (w : World) (w0 : (a0 = none ∧ len0 = 0 ∧ cap0 = 0 ∧ z0 = []) ∨ ∃ x, a0 = some x ∧ len0 ≤ cap0 ∧ cap0 ≤ maxLen ∧ z0.length = cap0 ∧ (∀ i, i < z0.length → w.cell? (x.add i) = some (.int .u8 (z0.getD i 0))) ∧ ∀ n ∈ z0, (Lit.int .u8 n).wf = true) (y0 : len0 * 1 ≤ 140737488351232) (w1 : (a1 = none ∧ len1 = 0 ∧ cap1 = 0 ∧ z1 = []) ∨ ∃ x, a1 = some x ∧ len1 ≤ cap1 ∧ cap1 ≤ maxLen ∧ z1.length = cap1 ∧ (∀ i, i < z1.length → w.cell? (x.add i) = some (.int .u8 (z1.getD i 0))) ∧ ∀ n ∈ z1, (Lit.int .u8 n).wf = true) (y1 : len1 * 1 ≤ 140737488351232) :
  Calls Try.prog 4 #[.slice a0 len0 cap0, .slice a1 len1 cap1] w fun e w' => e = .returned (.bool true) ∧ Below w.heap.size w w' := by
 obtain ⟨l0, rfl, hr0, hm0, hw0, hc0⟩ := ReadsInt.ofRowC w0
 obtain ⟨l1, rfl, hr1, hm1, hw1, hc1⟩ := ReadsInt.ofRowC w1
 obtain ⟨k, h⟩ := P l0 l1 hm0 y0 hw0 hm1 y1 hw1
 refine (laws_FnPostJoin.calls k _ _ l0 _ _ l1 true w (Kd.C_of_reads (d := (0 : Int)) (h1 := fun _ => rfl) hr0) hc0 (Kd.C_of_reads (d := (0 : Int)) (h1 := fun _ => rfl) hr1) hc1 h).mono ?_
 rintro e w' ⟨rfl, hd⟩
 exact ⟨rfl, hd⟩


end Go.Proofs.Ytemnggadcgmmkaa.QFnPostJoin

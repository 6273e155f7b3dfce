/- What the law FnPost reaches, function by function: what each computes, and that the machine's call comes to it. Laid by a program. -/
import Derived.Test.YtdjohhobmipagaaDoorQFnPostx0
import Derived.Test.YtdjohhobmipagaaDoorQFnPostx8
import Derived.Test.YtdjohhobmipagaaDoorQFnPostx9
import Derived.Test.YtdjohhobmipagaaDoorQFnPostx10
namespace Go.Proofs.YtdjohhobmipagaaDoor.QFnPost
open Go.RowKit Go.Proofs.YtdjohhobmipagaaDoorW.PrintWords Go.Proofs.YtdjohhobmipagaaDoorW.PrintLast Go.Proofs.YtdjohhobmipagaaDoorW.PrintMore
attribute [local go_sem] max2_int min2_int max_two min_two max_three min_three max_four min_four   -- for this text's walks alone
set_option linter.unusedVariables false
set_option linter.unusedSimpArgs false

/-! ### spec_l1Bent: function 53 -/
mutual
def spec_l1Bent.l0 : Nat → List Int → Int → Int → List (S45) → Option (Int × (List (S45)) × Int)
  | 0, _, _, _, _ => none
  | k + 1, x1000, x1001, x239000, x239001 => (spec_l9Rd_pick.f k x1000 x1001 2).bind fun bt270 => (if (x239001.length : Int) < (wrap64 (4 + bt270.1)) then (if 0 < (x239001.length : Int) then (if x239001.length < 4398046511104 then (spec_l1Bent.l0 k x1000 bt270.2 x239000 (x239001 ++ [(⟨(rd_T45 x239001 0).f0, (rd_T45 x239001 0).f1, (rd_T45 x239001 0).f2⟩ : S45)])) else (none)) else (none)) else (some (x239000, x239001, bt270.2)))
def spec_l1Bent.j1 : Nat → Int → Bool → List Int → Int → Int → List (S45) → Option (Int × (List (S45)) × Int)
  | 0, _, _, _, _, _, _ => none
  | k + 1, x6, x80, x1000, x1001, x239000, x239001 => if x80 = true then (if 0 ≤ x6 then (if x6 < (x239001.length : Int) then (some (x239000, (x239001.set (x6 : Int).toNat (⟨(rd_T45 x239001 x6).f0, (rd_T45 x239001 x6).f1, wrap64 (((rd_T45 x239001 x6).f2) + 1)⟩ : S45)), x1001)) else (none)) else (none)) else (some (x239000, x239001, x1001))
end
def spec_l1Bent.f (k : Nat) (s0_0 : List Int) (s0_1 : Int) (a1_0 : Int) (l1_1 : List (S45)) : Option (Int × (List (S45)) × Int) := (spec_l1Copy.f a1_0 l1_1).bind fun bt234 => ((spec_l1Max.f 1 (bt234.2.length : Int)).bind fun t239 => ((spec_l9Rd_pick.f k s0_0 s0_1 t239).bind fun bt240 => (if (bt234.2.length : Int) = 0 then (some (bt234.1, bt234.2, bt240.2)) else ((spec_l9Rd_pick.f k s0_0 bt240.2 64).bind fun bt242 => (if bt242.1 = 0 then ((spec_l9Rd_num.f k s0_0 bt242.2 (([(-1), 99, 100, 3] : List Int))).bind fun bt247 => (some (bt247.1, bt234.2, bt247.2))) else (if bt242.1 = 1 then ((spec_l9Rd_num.f k s0_0 bt242.2 (([0, 1000, 1001, (-1001), (-9223372036854775808)] : List Int))).bind fun bt252 => (if 0 ≤ bt240.1 then (if bt240.1 < (bt234.2.length : Int) then (some (bt234.1, (bt234.2.set (bt240.1 : Int).toNat (⟨(rd_T45 bt234.2 bt240.1).f0, (rd_T45 bt234.2 bt240.1).f1, bt252.1⟩ : S45)), bt252.2)) else (none)) else (none))) else (if bt242.1 = 2 then ((spec_l9Rd_of.f k s0_0 bt242.2 (([(⟨#[]⟩ : ByteArray), (⟨#[65]⟩ : ByteArray), (⟨#[97, 98, 99, 100, 101]⟩ : ByteArray), (⟨#[97, 32, 98]⟩ : ByteArray), (⟨#[97, 58]⟩ : ByteArray)] : List ByteArray))).bind fun bt258 => (if 0 ≤ bt240.1 then (if bt240.1 < (bt234.2.length : Int) then (some (bt234.1, (bt234.2.set (bt240.1 : Int).toNat (⟨bt258.1, (rd_T45 bt234.2 bt240.1).f1, (rd_T45 bt234.2 bt240.1).f2⟩ : S45)), bt258.2)) else (none)) else (none))) else (if bt242.1 = 3 then ((spec_l9Rd_num.f k s0_0 bt242.2 (([0, 4, (-1), 1] : List Int))).bind fun bt264 => (if 0 ≤ bt240.1 then (if bt240.1 < (bt234.2.length : Int) then (some (bt234.1, (bt234.2.set (bt240.1 : Int).toNat (⟨(rd_T45 bt234.2 bt240.1).f0, bt264.1, (rd_T45 bt234.2 bt240.1).f2⟩ : S45)), bt264.2)) else (none)) else (none))) else (if bt242.1 = 4 then (some (bt234.1, (([] : List (S45))), bt242.2)) else (if bt242.1 = 5 then (spec_l1Bent.l0 k s0_0 bt242.2 bt234.1 bt234.2) else (if bt242.1 = 6 then (spec_l1Bent.j1 k bt240.1 (bt242.1 == 6) s0_0 bt242.2 bt234.1 bt234.2) else (spec_l1Bent.j1 k bt240.1 (bt242.1 == 7) s0_0 bt242.2 bt234.1 bt234.2))))))))))))
theorem spec_l1Bent.mono_l : ∀ k, (∀ y0 y1 y2 y3, LeO (spec_l1Bent.l0 k y0 y1 y2 y3) (spec_l1Bent.l0 (k + 1) y0 y1 y2 y3)) ∧ (∀ y0 y1 y2 y3 y4 y5, LeO (spec_l1Bent.j1 k y0 y1 y2 y3 y4 y5) (spec_l1Bent.j1 (k + 1) y0 y1 y2 y3 y4 y5))
  | 0 => ⟨fun _ _ _ _ r h => by simp [spec_l1Bent.l0] at h, fun _ _ _ _ _ _ r h => by simp [spec_l1Bent.j1] at h⟩
  | k + 1 => by
    obtain ⟨ih0, ih1⟩ := spec_l1Bent.mono_l k
    refine ⟨?_, ?_⟩
    · intro y0 y1 y2 y3
      unfold spec_l1Bent.l0
      repeat' first
      | (with_reducible exact ih0 _ _ _ _)
      | (with_reducible exact ih1 _ _ _ _ _ _)
      | (with_reducible exact spec_l9Rd_num.mono _ _ _ _)
      | (with_reducible exact spec_l9Rd_of.mono _ _ _ _)
      | (with_reducible exact spec_l9Rd_pick.mono _ _ _ _)
      | (with_reducible exact LeO.refl _)
      | (with_reducible exact LeO.none _)
      | (with_reducible refine LeO.ite ?_ ?_)
      | (with_reducible refine LeO.bind ?_ (fun _ => ?_))
      | exact ih0 _ _ _ _
      | exact ih1 _ _ _ _ _ _
      | exact spec_l9Rd_num.mono _ _ _ _
      | exact spec_l9Rd_of.mono _ _ _ _
      | exact spec_l9Rd_pick.mono _ _ _ _
      | exact LeO.none _
      | refine LeO.ite ?_ ?_
      | refine LeO.bind ?_ (fun _ => ?_)
    · intro y0 y1 y2 y3 y4 y5
      unfold spec_l1Bent.j1
      repeat' first
      | (with_reducible exact ih0 _ _ _ _)
      | (with_reducible exact ih1 _ _ _ _ _ _)
      | (with_reducible exact spec_l9Rd_num.mono _ _ _ _)
      | (with_reducible exact spec_l9Rd_of.mono _ _ _ _)
      | (with_reducible exact spec_l9Rd_pick.mono _ _ _ _)
      | (with_reducible exact LeO.refl _)
      | (with_reducible exact LeO.none _)
      | (with_reducible refine LeO.ite ?_ ?_)
      | (with_reducible refine LeO.bind ?_ (fun _ => ?_))
      | exact ih0 _ _ _ _
      | exact ih1 _ _ _ _ _ _
      | exact spec_l9Rd_num.mono _ _ _ _
      | exact spec_l9Rd_of.mono _ _ _ _
      | exact spec_l9Rd_pick.mono _ _ _ _
      | exact LeO.none _
      | refine LeO.ite ?_ ?_
      | refine LeO.bind ?_ (fun _ => ?_)
theorem spec_l1Bent.mono : ∀ a0 a1 a2 a3 k, LeO (spec_l1Bent.f k a0 a1 a2 a3) (spec_l1Bent.f (k + 1) a0 a1 a2 a3) := by
  intro a0 a1 a2 a3 k
  obtain ⟨ih0, ih1⟩ := spec_l1Bent.mono_l k
  unfold spec_l1Bent.f
  repeat' first
      | (with_reducible exact ih0 _ _ _ _)
      | (with_reducible exact ih1 _ _ _ _ _ _)
      | (with_reducible exact spec_l9Rd_num.mono _ _ _ _)
      | (with_reducible exact spec_l9Rd_of.mono _ _ _ _)
      | (with_reducible exact spec_l9Rd_pick.mono _ _ _ _)
      | (with_reducible exact LeO.refl _)
      | (with_reducible exact LeO.none _)
      | (with_reducible refine LeO.ite ?_ ?_)
      | (with_reducible refine LeO.bind ?_ (fun _ => ?_))
      | exact ih0 _ _ _ _
      | exact ih1 _ _ _ _ _ _
      | exact spec_l9Rd_num.mono _ _ _ _
      | exact spec_l9Rd_of.mono _ _ _ _
      | exact spec_l9Rd_pick.mono _ _ _ _
      | exact LeO.none _
      | refine LeO.ite ?_ ?_
      | refine LeO.bind ?_ (fun _ => ?_)
def spec_l1Bent.T9 : Bool × List (List Nat × List Nat) := (true, [([], []), ([0], [0]), ([], []), ([], []), ([], []), ([3, 4], [3, 4]), ([1, 2, 0, 1, 2, 3, 4, 5], [1, 2]), ([6, 0, 1, 2, 3, 4, 5], [6]), ([7, 5, 5, 0, 1, 2, 3, 4, 5], [5, 7])])
def spec_l1Bent.B9 : List Nat := [0, 1, 0, 0, 0, 24, 63, 127, 255]
theorem spec_l1Bent.tab9 : rtab .any (opsOf Tryd.f53 9) = spec_l1Bent.T9 := by kernel_rfl
theorem spec_l1Bent.bits9 : waitsOk spec_l1Bent.T9.2 spec_l1Bent.B9 = true := by kernel_rfl
def spec_l1Bent.T11 : Bool × List (List Nat × List Nat) := (true, [([], []), ([0], [0]), ([], []), ([], []), ([], []), ([3, 4], [3, 4]), ([1, 2, 0, 1, 2, 3, 4, 5], [1, 2]), ([6, 0, 1, 2, 3, 4, 5], [6]), ([7, 5, 5, 0, 1, 2, 3, 4, 5], [5, 7])])
def spec_l1Bent.B11 : List Nat := [0, 1, 0, 0, 0, 24, 63, 127, 255]
theorem spec_l1Bent.tab11 : rtab .any (opsOf Tryd.f53 11) = spec_l1Bent.T11 := by kernel_rfl
theorem spec_l1Bent.bits11 : waitsOk spec_l1Bent.T11.2 spec_l1Bent.B11 = true := by kernel_rfl
def spec_l1Bent.T13 : Bool × List (List Nat × List Nat) := (true, [([], []), ([0], [0]), ([], []), ([], []), ([], []), ([3, 4], [3, 4]), ([1, 2, 0, 1, 2, 3, 4, 5], [1, 2]), ([6, 0, 1, 2, 3, 4, 5], [6]), ([7, 5, 5, 0, 1, 2, 3, 4, 5], [5, 7])])
def spec_l1Bent.B13 : List Nat := [0, 1, 0, 0, 0, 24, 63, 127, 255]
theorem spec_l1Bent.tab13 : rtab .any (opsOf Tryd.f53 13) = spec_l1Bent.T13 := by kernel_rfl
theorem spec_l1Bent.bits13 : waitsOk spec_l1Bent.T13.2 spec_l1Bent.B13 = true := by kernel_rfl
def spec_l1Bent.T18 : Bool × List (List Nat × List Nat) := (true, [([], []), ([0], [0]), ([], []), ([2], [2]), ([3], [3]), ([4], [4]), ([5], [5]), ([1, 6], [1, 6]), ([0, 1, 2, 3, 4, 5, 6, 7], []), ([8, 7, 7, 0, 1, 2, 3, 4, 5, 6, 7], [7, 8])])
def spec_l1Bent.B18 : List Nat := [0, 1, 0, 4, 12, 28, 60, 127, 255, 511]
theorem spec_l1Bent.tab18 : rtab .any (opsOf Tryd.f53 18) = spec_l1Bent.T18 := by kernel_rfl
theorem spec_l1Bent.bits18 : waitsOk spec_l1Bent.T18.2 spec_l1Bent.B18 = true := by kernel_rfl
def spec_l1Bent.T21 : Bool × List (List Nat × List Nat) := (true, [([], []), ([0], [0]), ([], []), ([], []), ([3], [3]), ([], []), ([4, 5], [4, 5]), ([6], [6]), ([7], [7]), ([8], [8]), ([1, 2, 0, 1, 2, 3, 4, 5, 6, 7, 8, 9], [1, 2]), ([10, 0, 1, 2, 3, 4, 5, 6, 7, 8, 9], [10]), ([11, 9, 0, 1, 2, 3, 4, 5, 6, 7, 8, 9], [9, 11])])
def spec_l1Bent.B21 : List Nat := [0, 1, 0, 0, 8, 0, 56, 120, 248, 504, 1023, 2047, 4095]
theorem spec_l1Bent.tab21 : rtab .any (opsOf Tryd.f53 21) = spec_l1Bent.T21 := by kernel_rfl
theorem spec_l1Bent.bits21 : waitsOk spec_l1Bent.T21.2 spec_l1Bent.B21 = true := by kernel_rfl
theorem spec_l1Bent_vb {p q : Prop} (h : Aside0 p) (k : p → q := by (intro hz; (with_reducible repeat (first | refine blk_drewN ?_ _ | refine blk_drew ?_ | refine blk_alloc ?_ _)); exact hz)) : q := k h.out
theorem spec_l1Bent_auHI0 {q : Prop} (h : q := by (repeat (first | (with_reducible first | exact HI0.out | apply IsS84.alloc | apply IsS84.drewN | apply IsS84.drew | apply IsS84.set_1 | refine IsS84.far ?_ NB0_232.out _ | refine IsS84.far ?_ NB0_233.out _ | refine IsS84.far ?_ NB0_238.out _ | refine IsS84.far ?_ HN0_go52.out _ | refine IsS84.far ?_ HN0_go82.out _ | refine IsS84.far ?_ HN0_go112.out _ | refine IsS84.far ?_ HN0_go217.out _) | exact HI0.out))) : q := h
theorem spec_l1Bent_auHK {q : Prop} (h : q := by (repeat (first | (with_reducible first | exact HK.out | apply KeepBut.set_ | apply keep_drewN | apply keep_drew | apply keep_alloc | refine keep_far ?_ GW232.out _ | refine keep_far ?_ GW233.out _ | refine keep_far ?_ GW238.out _ | refine keep_far ?_ GB52.out _ | refine keep_far ?_ GB82.out _ | refine keep_far ?_ GB112.out _ | refine keep_far ?_ GB217.out _) | exact HK.out))) : q := h
theorem spec_l1Bent_auHB {q : Prop} (h : q := by (repeat (first | (with_reducible first | exact HB.out | apply below_alloc | apply pw_below_drewN | apply below_drew1 | refine below_set ?_ (IsS84.ge HI0.out) | refine below_set ?_ GE232.out | refine below_set ?_ GE233.out | refine below_set ?_ GE238.out | refine below_set ?_ (Nat.le_trans HL.out GB52.out) | refine below_set ?_ (Nat.le_trans HL.out GB82.out) | refine below_set ?_ (Nat.le_trans HL.out GB112.out) | refine below_set ?_ (Nat.le_trans HL.out GB217.out)) | exact HB.out))) : q := h
set_option maxHeartbeats 8000000 in
set_option maxRecDepth 100000 in
theorem spec_l1Bent.calls (k : Nat) (g : Nat) (s0_0 : List Int) (s0_1 : Int) (a1_0 : Int) (A1_1 : Option Addr) (c1_1 : Nat) (l1_1 : List (S45)) (r1 : Int) (r2 : List (S45)) (r3 : Int) (w0 w : World) (hI : IsS84 w0 w g s0_0 s0_1) (hB : Below w0.heap.size w0 w) (hr1_1 : ∀ W_, KeepBut w W_ g none → Kd.C k45 W_ A1_1 l1_1.length l1_1) (hc1_1 : l1_1.length ≤ c1_1) (h : spec_l1Bent.f k s0_0 s0_1 a1_0 l1_1 = some (r1, r2, r3)) :
  Calls Tryd.prog 53 #[.pointer (some ⟨g, 0, none⟩), .agg #[.int .i64 a1_0, .slice A1_1 l1_1.length c1_1]] w fun e w' => ∃ v1_ : Value, e = .returned (.agg #[.int .i64 r1, v1_]) ∧ Kd.R k45 45 w' w.heap.size (fun _ => True) v1_ r2 ∧ IsS84 w0 w' g s0_0 r3 ∧ Below w0.heap.size w0 w' ∧ KeepBut w w' g none := by
 have hu29 := Tryd.underlying29
 have hu45 := Tryd.underlying45
 have HR1_1 := Aside0.mk hr1_1
 have HC1_1 := Aside0.mk hc1_1
 clear hr1_1 hc1_1
 have HI0 := Aside0.mk hI
 have HK := Aside0.mk (KeepBut.refl w g none)
 have HL := Aside0.mk hB.size
 clear hI
 have HW0 := Aside0.mk hB.size
 have HB := Aside0.mk hB
 clear hB
 have H : ((spec_l1Copy.f a1_0 l1_1).bind fun bt234 => ((spec_l1Max.f 1 (bt234.2.length : Int)).bind fun t239 => ((spec_l9Rd_pick.f k s0_0 s0_1 t239).bind fun bt240 => (if (bt234.2.length : Int) = 0 then (some (bt234.1, bt234.2, bt240.2)) else ((spec_l9Rd_pick.f k s0_0 bt240.2 64).bind fun bt242 => (if bt242.1 = 0 then ((spec_l9Rd_num.f k s0_0 bt242.2 (([(-1), 99, 100, 3] : List Int))).bind fun bt247 => (some (bt247.1, bt234.2, bt247.2))) else (if bt242.1 = 1 then ((spec_l9Rd_num.f k s0_0 bt242.2 (([0, 1000, 1001, (-1001), (-9223372036854775808)] : List Int))).bind fun bt252 => (if 0 ≤ bt240.1 then (if bt240.1 < (bt234.2.length : Int) then (some (bt234.1, (bt234.2.set (bt240.1 : Int).toNat (⟨(rd_T45 bt234.2 bt240.1).f0, (rd_T45 bt234.2 bt240.1).f1, bt252.1⟩ : S45)), bt252.2)) else (none)) else (none))) else (if bt242.1 = 2 then ((spec_l9Rd_of.f k s0_0 bt242.2 (([(⟨#[]⟩ : ByteArray), (⟨#[65]⟩ : ByteArray), (⟨#[97, 98, 99, 100, 101]⟩ : ByteArray), (⟨#[97, 32, 98]⟩ : ByteArray), (⟨#[97, 58]⟩ : ByteArray)] : List ByteArray))).bind fun bt258 => (if 0 ≤ bt240.1 then (if bt240.1 < (bt234.2.length : Int) then (some (bt234.1, (bt234.2.set (bt240.1 : Int).toNat (⟨bt258.1, (rd_T45 bt234.2 bt240.1).f1, (rd_T45 bt234.2 bt240.1).f2⟩ : S45)), bt258.2)) else (none)) else (none))) else (if bt242.1 = 3 then ((spec_l9Rd_num.f k s0_0 bt242.2 (([0, 4, (-1), 1] : List Int))).bind fun bt264 => (if 0 ≤ bt240.1 then (if bt240.1 < (bt234.2.length : Int) then (some (bt234.1, (bt234.2.set (bt240.1 : Int).toNat (⟨(rd_T45 bt234.2 bt240.1).f0, bt264.1, (rd_T45 bt234.2 bt240.1).f2⟩ : S45)), bt264.2)) else (none)) else (none))) else (if bt242.1 = 4 then (some (bt234.1, (([] : List (S45))), bt242.2)) else (if bt242.1 = 5 then (spec_l1Bent.l0 k s0_0 bt242.2 bt234.1 bt234.2) else (if bt242.1 = 6 then (spec_l1Bent.j1 k bt240.1 (bt242.1 == 6) s0_0 bt242.2 bt234.1 bt234.2) else (spec_l1Bent.j1 k bt240.1 (bt242.1 == 7) s0_0 bt242.2 bt234.1 bt234.2))))))))))))) = some (r1, r2, r3) := h
 clear h
 replace H := Option.bind_eq_some_iff.mp H
 obtain ⟨⟨t234, t235⟩, A30, H⟩ := H
 replace H : ((spec_l1Max.f 1 (t235.length : Int)).bind fun t239 => ((spec_l9Rd_pick.f k s0_0 s0_1 t239).bind fun bt240 => (if (t235.length : Int) = 0 then (some (t234, t235, bt240.2)) else ((spec_l9Rd_pick.f k s0_0 bt240.2 64).bind fun bt242 => (if bt242.1 = 0 then ((spec_l9Rd_num.f k s0_0 bt242.2 (([(-1), 99, 100, 3] : List Int))).bind fun bt247 => (some (bt247.1, t235, bt247.2))) else (if bt242.1 = 1 then ((spec_l9Rd_num.f k s0_0 bt242.2 (([0, 1000, 1001, (-1001), (-9223372036854775808)] : List Int))).bind fun bt252 => (if 0 ≤ bt240.1 then (if bt240.1 < (t235.length : Int) then (some (t234, (t235.set (bt240.1 : Int).toNat (⟨(rd_T45 t235 bt240.1).f0, (rd_T45 t235 bt240.1).f1, bt252.1⟩ : S45)), bt252.2)) else (none)) else (none))) else (if bt242.1 = 2 then ((spec_l9Rd_of.f k s0_0 bt242.2 (([(⟨#[]⟩ : ByteArray), (⟨#[65]⟩ : ByteArray), (⟨#[97, 98, 99, 100, 101]⟩ : ByteArray), (⟨#[97, 32, 98]⟩ : ByteArray), (⟨#[97, 58]⟩ : ByteArray)] : List ByteArray))).bind fun bt258 => (if 0 ≤ bt240.1 then (if bt240.1 < (t235.length : Int) then (some (t234, (t235.set (bt240.1 : Int).toNat (⟨bt258.1, (rd_T45 t235 bt240.1).f1, (rd_T45 t235 bt240.1).f2⟩ : S45)), bt258.2)) else (none)) else (none))) else (if bt242.1 = 3 then ((spec_l9Rd_num.f k s0_0 bt242.2 (([0, 4, (-1), 1] : List Int))).bind fun bt264 => (if 0 ≤ bt240.1 then (if bt240.1 < (t235.length : Int) then (some (t234, (t235.set (bt240.1 : Int).toNat (⟨(rd_T45 t235 bt240.1).f0, bt264.1, (rd_T45 t235 bt240.1).f2⟩ : S45)), bt264.2)) else (none)) else (none))) else (if bt242.1 = 4 then (some (t234, (([] : List (S45))), bt242.2)) else (if bt242.1 = 5 then (spec_l1Bent.l0 k s0_0 bt242.2 t234 t235) else (if bt242.1 = 6 then (spec_l1Bent.j1 k bt240.1 (bt242.1 == 6) s0_0 bt242.2 t234 t235) else (spec_l1Bent.j1 k bt240.1 (bt242.1 == 7) s0_0 bt242.2 t234 t235)))))))))))) = some (r1, r2, r3) := H
 have A3 := Aside0.mk A30
 clear A30
 replace H := Option.bind_eq_some_iff.mp H
 obtain ⟨t239, A40, H⟩ := H
 replace H : ((spec_l9Rd_pick.f k s0_0 s0_1 t239).bind fun bt240 => (if (t235.length : Int) = 0 then (some (t234, t235, bt240.2)) else ((spec_l9Rd_pick.f k s0_0 bt240.2 64).bind fun bt242 => (if bt242.1 = 0 then ((spec_l9Rd_num.f k s0_0 bt242.2 (([(-1), 99, 100, 3] : List Int))).bind fun bt247 => (some (bt247.1, t235, bt247.2))) else (if bt242.1 = 1 then ((spec_l9Rd_num.f k s0_0 bt242.2 (([0, 1000, 1001, (-1001), (-9223372036854775808)] : List Int))).bind fun bt252 => (if 0 ≤ bt240.1 then (if bt240.1 < (t235.length : Int) then (some (t234, (t235.set (bt240.1 : Int).toNat (⟨(rd_T45 t235 bt240.1).f0, (rd_T45 t235 bt240.1).f1, bt252.1⟩ : S45)), bt252.2)) else (none)) else (none))) else (if bt242.1 = 2 then ((spec_l9Rd_of.f k s0_0 bt242.2 (([(⟨#[]⟩ : ByteArray), (⟨#[65]⟩ : ByteArray), (⟨#[97, 98, 99, 100, 101]⟩ : ByteArray), (⟨#[97, 32, 98]⟩ : ByteArray), (⟨#[97, 58]⟩ : ByteArray)] : List ByteArray))).bind fun bt258 => (if 0 ≤ bt240.1 then (if bt240.1 < (t235.length : Int) then (some (t234, (t235.set (bt240.1 : Int).toNat (⟨bt258.1, (rd_T45 t235 bt240.1).f1, (rd_T45 t235 bt240.1).f2⟩ : S45)), bt258.2)) else (none)) else (none))) else (if bt242.1 = 3 then ((spec_l9Rd_num.f k s0_0 bt242.2 (([0, 4, (-1), 1] : List Int))).bind fun bt264 => (if 0 ≤ bt240.1 then (if bt240.1 < (t235.length : Int) then (some (t234, (t235.set (bt240.1 : Int).toNat (⟨(rd_T45 t235 bt240.1).f0, bt264.1, (rd_T45 t235 bt240.1).f2⟩ : S45)), bt264.2)) else (none)) else (none))) else (if bt242.1 = 4 then (some (t234, (([] : List (S45))), bt242.2)) else (if bt242.1 = 5 then (spec_l1Bent.l0 k s0_0 bt242.2 t234 t235) else (if bt242.1 = 6 then (spec_l1Bent.j1 k bt240.1 (bt242.1 == 6) s0_0 bt242.2 t234 t235) else (spec_l1Bent.j1 k bt240.1 (bt242.1 == 7) s0_0 bt242.2 t234 t235))))))))))) = some (r1, r2, r3) := H
 have A4 := Aside0.mk A40
 clear A40
 replace H := Option.bind_eq_some_iff.mp H
 obtain ⟨⟨t240, t241⟩, A50, H⟩ := H
 replace H : (if (t235.length : Int) = 0 then (some (t234, t235, t241)) else ((spec_l9Rd_pick.f k s0_0 t241 64).bind fun bt242 => (if bt242.1 = 0 then ((spec_l9Rd_num.f k s0_0 bt242.2 (([(-1), 99, 100, 3] : List Int))).bind fun bt247 => (some (bt247.1, t235, bt247.2))) else (if bt242.1 = 1 then ((spec_l9Rd_num.f k s0_0 bt242.2 (([0, 1000, 1001, (-1001), (-9223372036854775808)] : List Int))).bind fun bt252 => (if 0 ≤ t240 then (if t240 < (t235.length : Int) then (some (t234, (t235.set (t240 : Int).toNat (⟨(rd_T45 t235 t240).f0, (rd_T45 t235 t240).f1, bt252.1⟩ : S45)), bt252.2)) else (none)) else (none))) else (if bt242.1 = 2 then ((spec_l9Rd_of.f k s0_0 bt242.2 (([(⟨#[]⟩ : ByteArray), (⟨#[65]⟩ : ByteArray), (⟨#[97, 98, 99, 100, 101]⟩ : ByteArray), (⟨#[97, 32, 98]⟩ : ByteArray), (⟨#[97, 58]⟩ : ByteArray)] : List ByteArray))).bind fun bt258 => (if 0 ≤ t240 then (if t240 < (t235.length : Int) then (some (t234, (t235.set (t240 : Int).toNat (⟨bt258.1, (rd_T45 t235 t240).f1, (rd_T45 t235 t240).f2⟩ : S45)), bt258.2)) else (none)) else (none))) else (if bt242.1 = 3 then ((spec_l9Rd_num.f k s0_0 bt242.2 (([0, 4, (-1), 1] : List Int))).bind fun bt264 => (if 0 ≤ t240 then (if t240 < (t235.length : Int) then (some (t234, (t235.set (t240 : Int).toNat (⟨(rd_T45 t235 t240).f0, bt264.1, (rd_T45 t235 t240).f2⟩ : S45)), bt264.2)) else (none)) else (none))) else (if bt242.1 = 4 then (some (t234, (([] : List (S45))), bt242.2)) else (if bt242.1 = 5 then (spec_l1Bent.l0 k s0_0 bt242.2 t234 t235) else (if bt242.1 = 6 then (spec_l1Bent.j1 k t240 (bt242.1 == 6) s0_0 bt242.2 t234 t235) else (spec_l1Bent.j1 k t240 (bt242.1 == 7) s0_0 bt242.2 t234 t235)))))))))) = some (r1, r2, r3) := H
 have A5 := Aside0.mk A50
 clear A50
 by_cases c6 : (t235.length : Int) = 0
 ·
  rw [if_pos c6] at H
  have c6b0 : ((t235.length : Int) == 0) = true := beq_iff_eq.mpr c6
  have c6b1 : ((t235.length : Int) != 0) = false := bne_eq_false_iff_eq.mpr c6
  clear c6
  simp only [Option.some.injEq, Prod.mk.injEq] at H
  obtain ⟨rfl, rfl, rfl⟩ := H
  go_enter Tryd.func53, Tryd.ntmps53
  go_wp2_with (first | ((with_reducible refine gate_dst (N := 3) rfl ?_); refine box_event ?hg (N := 3) ?hd (cs := #[.int .i64 a1_0, .slice A1_1 l1_1.length c1_1]) (t := 29) ?hr ?_; (case hd => rfl); (case hg => rfl); (case hr => first | (go_simp; done) | (go_simp; rfl)); intro gb232 hg w7 hbox hb; have n0_ := Aside0.mk (IsS84.below (spec_l1Bent_auHI0) hb); have n1_ := Aside0.mk (KeepBut.trans (spec_l1Bent_auHK) (KeepBut.of_below hb g none) (.inl rfl)); have n2_ := Aside0.mk (below_step (spec_l1Bent_auHB) hb); have n3_ := Aside0.mk (hbox); have n4_ := Aside0.mk ((by rw [hg]; exact (keep_size (w := w) (g := g) (row := none) (spec_l1Bent_auHK)) : w.heap.size ≤ gb232)); have n5_ := Aside0.mk ((Nat.le_trans HW0.out (by rw [hg]; exact (keep_size (w := w) (g := g) (row := none) (spec_l1Bent_auHK)) : w.heap.size ≤ gb232) : w0.heap.size ≤ gb232)); have n6_ := Aside0.mk ((by rw [hg]; exact Nat.ne_of_lt (IsS84.lt (show IsS84 w0 _ g s0_0 s0_1 from spec_l1Bent_auHI0)) : g ≠ gb232)); have n7_ := Aside0.mk ((by rw [hg]; exact Nat.ne_of_gt (IsS84.lt (show IsS84 w0 _ g s0_0 s0_1 from spec_l1Bent_auHI0)) : gb232 ≠ g)); clear HI0; clear HK; clear HB; have HI0 := n0_; have HK := n1_; have HB := n2_; have BK232 := n3_; have GW232 := n4_; have GE232 := n5_; have NB0_232 := n6_; have NB232_0 := n7_; clear n0_ n1_ n2_ n3_ n4_ n5_ n6_ n7_; clear hb hbox hg) | ((with_reducible refine gate_dst (N := 4) rfl ?_); refine box_event ?hg (N := 4) ?hd (cs := #[.int .i64 0, .slice none 0 0]) (t := 29) ?hr ?_; (case hd => rfl); (case hg => rfl); (case hr => first | (go_simp; done) | (go_simp; rfl)); intro gb233 hg w8 hbox hb; have n0_ := Aside0.mk (IsS84.below (spec_l1Bent_auHI0) hb); have n1_ := Aside0.mk (blk_below (g := gb232) (o := .cells #[.int .i64 a1_0, .slice A1_1 l1_1.length c1_1] 29 (0, 0)) (spec_l1Bent_vb BK232) hb); have n2_ := Aside0.mk (KeepBut.trans (spec_l1Bent_auHK) (KeepBut.of_below hb g none) (.inl rfl)); have n3_ := Aside0.mk (below_step (spec_l1Bent_auHB) hb); have n4_ := Aside0.mk (hbox); have n5_ := Aside0.mk ((by rw [hg]; exact (keep_size (w := w) (g := g) (row := none) (spec_l1Bent_auHK)) : w.heap.size ≤ gb233)); have n6_ := Aside0.mk ((Nat.le_trans HW0.out (by rw [hg]; exact (keep_size (w := w) (g := g) (row := none) (spec_l1Bent_auHK)) : w.heap.size ≤ gb233) : w0.heap.size ≤ gb233)); have n7_ := Aside0.mk ((by rw [hg]; exact Nat.ne_of_lt (blk_lt (g := gb232) (o := .cells #[.int .i64 a1_0, .slice A1_1 l1_1.length c1_1] 29 (0, 0)) (spec_l1Bent_vb BK232)) : gb232 ≠ gb233)); have n8_ := Aside0.mk ((by rw [hg]; exact Nat.ne_of_gt (blk_lt (g := gb232) (o := .cells #[.int .i64 a1_0, .slice A1_1 l1_1.length c1_1] 29 (0, 0)) (spec_l1Bent_vb BK232)) : gb233 ≠ gb232)); have n9_ := Aside0.mk ((by rw [hg]; exact Nat.ne_of_lt (IsS84.lt (show IsS84 w0 _ g s0_0 s0_1 from spec_l1Bent_auHI0)) : g ≠ gb233)); have n10_ := Aside0.mk ((by rw [hg]; exact Nat.ne_of_gt (IsS84.lt (show IsS84 w0 _ g s0_0 s0_1 from spec_l1Bent_auHI0)) : gb233 ≠ g)); clear HI0; clear BK232; clear HK; clear HB; have HI0 := n0_; have BK232 := n1_; have HK := n2_; have HB := n3_; have BK233 := n4_; have GW233 := n5_; have GE233 := n6_; have NB232_233 := n7_; have NB233_232 := n8_; have NB0_233 := n9_; have NB233_0 := n10_; clear n0_ n1_ n2_ n3_ n4_ n5_ n6_ n7_ n8_ n9_ n10_; clear hb hbox hg; have hnb9 := NB232_233.out; have hnc9 := NB233_232.out; have hnb10 := NB232_0.out; have hnc10 := NB0_232.out; have hcz11_0 : w8.cell? ⟨gb232, 0, none⟩ = some (.int .i64 a1_0) := (blk_cell BK232.out 0).trans rfl; have hcz11_1 : w8.cell? ⟨gb232, 1, none⟩ = some (.slice A1_1 l1_1.length c1_1) := (blk_cell BK232.out 1).trans rfl; have hfz11_0 := blk_frozen BK232.out 0; have hfz11_1 := blk_frozen BK232.out 1) | ((with_reducible refine gate_callee (f := 66) rfl ?_); refine goesL_ (some 8) rfl rfl Tryd.func66 (by kernel_rfl) rfl #[.agg #[.int .i64 a1_0, .slice A1_1 l1_1.length c1_1]] rfl (by (try simp only [List.map_toArray, List.map_cons, List.map_nil]); first | done | rfl | (simp only [List.length_drop, List.length_take]; rfl)) ?_; (with_reducible refine (spec_l1Copy.calls a1_0 _ _ l1_1 t234 t235 _ ?side1 ?side2 A3.out).mono ?_); (case side1 => exact Kd.C_foot_now HR1_1.out (spec_l1Bent_auHK)); (case side2 => exact HC1_1.out); rintro e w12 ⟨v236, rfl, ho0, hb⟩; refine ⟨_, rfl, ?_⟩; have n0_ := Aside0.mk (Kd.R_lower ho0 (keep_size (w := w) (g := g) (row := none) (spec_l1Bent_auHK))); have n1_ := Aside0.mk (IsS84.below (spec_l1Bent_auHI0) hb); have n2_ := Aside0.mk (blk_below (g := gb232) (o := .cells #[.int .i64 a1_0, .slice A1_1 l1_1.length c1_1] 29 (0, 0)) (spec_l1Bent_vb BK232) hb); have n3_ := Aside0.mk (blk_below (g := gb233) (o := .cells #[.int .i64 0, .slice none 0 0] 29 (0, 0)) (spec_l1Bent_vb BK233) hb); have n4_ := Aside0.mk (KeepBut.trans (spec_l1Bent_auHK) (KeepBut.of_below hb g none) (.inl rfl)); have n5_ := Aside0.mk (below_step (spec_l1Bent_auHB) hb); clear HI0; clear BK232; clear BK233; clear HK; clear HB; have HO237 := n0_; have HI0 := n1_; have BK232 := n2_; have BK233 := n3_; have HK := n4_; have HB := n5_; clear n0_ n1_ n2_ n3_ n4_ n5_; (try clear hb); (try clear hb2); (try clear hk); (try clear hi); (try clear ho0)) | ((with_reducible refine gate_dst (N := 5) rfl ?_); refine box_event ?hg (N := 5) ?hd (cs := #[.int .i64 0, .slice none 0 0]) (t := 29) ?hr ?_; (case hd => rfl); (case hg => rfl); (case hr => first | (go_simp; done) | (go_simp; rfl)); intro gb238 hg w13 hbox hb; have n0_ := Aside0.mk (Kd.R_below (by (with_reducible repeat (first | apply Kd.R_alloc | apply Kd.R_drewN | apply Kd.R_drew)); exact HO237.out) hb); have n1_ := Aside0.mk (IsS84.below (spec_l1Bent_auHI0) hb); have n2_ := Aside0.mk (blk_below (g := gb232) (o := .cells #[.int .i64 a1_0, .slice A1_1 l1_1.length c1_1] 29 (0, 0)) (spec_l1Bent_vb BK232) hb); have n3_ := Aside0.mk (blk_below (g := gb233) (o := .cells #[.int .i64 0, .slice none 0 0] 29 (0, 0)) (spec_l1Bent_vb BK233) hb); have n4_ := Aside0.mk (KeepBut.trans (spec_l1Bent_auHK) (KeepBut.of_below hb g none) (.inl rfl)); have n5_ := Aside0.mk (below_step (spec_l1Bent_auHB) hb); have n6_ := Aside0.mk (hbox); have n7_ := Aside0.mk ((by rw [hg]; exact (keep_size (w := w) (g := g) (row := none) (spec_l1Bent_auHK)) : w.heap.size ≤ gb238)); have n8_ := Aside0.mk ((Nat.le_trans HW0.out (by rw [hg]; exact (keep_size (w := w) (g := g) (row := none) (spec_l1Bent_auHK)) : w.heap.size ≤ gb238) : w0.heap.size ≤ gb238)); have n9_ := Aside0.mk ((by rw [hg]; exact Nat.ne_of_lt (blk_lt (g := gb232) (o := .cells #[.int .i64 a1_0, .slice A1_1 l1_1.length c1_1] 29 (0, 0)) (spec_l1Bent_vb BK232)) : gb232 ≠ gb238)); have n10_ := Aside0.mk ((by rw [hg]; exact Nat.ne_of_gt (blk_lt (g := gb232) (o := .cells #[.int .i64 a1_0, .slice A1_1 l1_1.length c1_1] 29 (0, 0)) (spec_l1Bent_vb BK232)) : gb238 ≠ gb232)); have n11_ := Aside0.mk ((by rw [hg]; exact Nat.ne_of_lt (blk_lt (g := gb233) (o := .cells #[.int .i64 0, .slice none 0 0] 29 (0, 0)) (spec_l1Bent_vb BK233)) : gb233 ≠ gb238)); have n12_ := Aside0.mk ((by rw [hg]; exact Nat.ne_of_gt (blk_lt (g := gb233) (o := .cells #[.int .i64 0, .slice none 0 0] 29 (0, 0)) (spec_l1Bent_vb BK233)) : gb238 ≠ gb233)); have n13_ := Aside0.mk ((by rw [hg]; exact Nat.ne_of_lt (IsS84.lt (show IsS84 w0 _ g s0_0 s0_1 from spec_l1Bent_auHI0)) : g ≠ gb238)); have n14_ := Aside0.mk ((by rw [hg]; exact Nat.ne_of_gt (IsS84.lt (show IsS84 w0 _ g s0_0 s0_1 from spec_l1Bent_auHI0)) : gb238 ≠ g)); clear HO237; clear HI0; clear BK232; clear BK233; clear HK; clear HB; have HO237 := n0_; have HI0 := n1_; have BK232 := n2_; have BK233 := n3_; have HK := n4_; have HB := n5_; have BK238 := n6_; have GW238 := n7_; have GE238 := n8_; have NB232_238 := n9_; have NB238_232 := n10_; have NB233_238 := n11_; have NB238_233 := n12_; have NB0_238 := n13_; have NB238_0 := n14_; clear n0_ n1_ n2_ n3_ n4_ n5_ n6_ n7_ n8_ n9_ n10_ n11_ n12_ n13_ n14_; clear hb hbox hg; have hnb14 := NB238_232.out; have hnc14 := NB232_238.out; have hnb15 := NB238_233.out; have hnc15 := NB233_238.out; have hnb16 := NB238_0.out; have hnc16 := NB0_238.out; have hcz17_0 : w13.cell? ⟨gb238, 0, none⟩ = some (.int .i64 0) := (blk_cell BK238.out 0).trans rfl; have hcz17_1 : w13.cell? ⟨gb238, 1, none⟩ = some (.slice none 0 0) := (blk_cell BK238.out 1).trans rfl; have hfz17_0 := blk_frozen BK238.out 0; have hfz17_1 := blk_frozen BK238.out 1; obtain ⟨Ao18, co18, eo18⟩ := Kd.R_slice HO237.out; subst eo18) | ((with_reducible refine gate_callee (f := 67) rfl ?_); refine goesL_ (some 13) rfl rfl Tryd.func67 (by kernel_rfl) rfl #[.int .i64 1, .int .i64 (t235.length : Int)] rfl (by (try simp only [List.map_toArray, List.map_cons, List.map_nil]); first | done | rfl | (simp only [List.length_drop, List.length_take]; rfl)) ?_; (with_reducible refine (spec_l1Max.calls 1 (t235.length : Int) t239 _ A4.out).mono ?_); rintro e w' ⟨rfl, ⟨nd, rfl⟩⟩; refine ⟨_, rfl, ?_⟩) | ((with_reducible refine gate_callee (f := 41) rfl ?_); refine goesL_ (some 14) rfl rfl Tryd.func41 (by kernel_rfl) rfl #[.pointer (some ⟨g, 0, none⟩), .int .i64 t239] rfl (by (try simp only [List.map_toArray, List.map_cons, List.map_nil]); first | done | rfl | (simp only [List.length_drop, List.length_take]; rfl)) ?_; (with_reducible refine (spec_l9Rd_pick.calls k g s0_0 s0_1 t239 t240 t241 w0 _ ?side1 ?side2 A5.out).mono ?_); (case side1 => exact spec_l1Bent_auHI0); (case side2 => exact spec_l1Bent_auHB); rintro e w19 ⟨rfl, hi, hb, hk⟩; refine ⟨_, rfl, ?_⟩; have n0_ := Aside0.mk (KeepBut.blk hk (g' := gb232) (o := .cells #[.int .i64 a1_0, .slice A1_1 l1_1.length c1_1] 29 (0, 0)) (by (with_reducible repeat (first | refine blk_drewN ?_ _ | refine blk_drew ?_ | refine blk_alloc ?_ _)); refine blk_far ?_ NB232_238.out _; (with_reducible repeat (first | refine blk_drewN ?_ _ | refine blk_drew ?_ | refine blk_alloc ?_ _)); refine blk_far ?_ NB232_238.out _; (with_reducible repeat (first | refine blk_drewN ?_ _ | refine blk_drew ?_ | refine blk_alloc ?_ _)); exact BK232.out) NB232_0.out (by simp)); have n1_ := Aside0.mk (KeepBut.blk hk (g' := gb233) (o := .cells #[.int .i64 0, .slice none 0 0] 29 (0, 0)) (by (with_reducible repeat (first | refine blk_drewN ?_ _ | refine blk_drew ?_ | refine blk_alloc ?_ _)); refine blk_far ?_ NB233_238.out _; (with_reducible repeat (first | refine blk_drewN ?_ _ | refine blk_drew ?_ | refine blk_alloc ?_ _)); refine blk_far ?_ NB233_238.out _; (with_reducible repeat (first | refine blk_drewN ?_ _ | refine blk_drew ?_ | refine blk_alloc ?_ _)); exact BK233.out) NB233_0.out (by simp)); have n2_ := Aside0.mk (Kd.R_mono (Kd.R_keep (IsS84.apart (show IsS84 w0 _ g s0_0 s0_1 from spec_l1Bent_auHI0) (by (with_reducible repeat (first | apply Kd.R_alloc | apply Kd.R_drewN | apply Kd.R_drew)); exact (Kd.R_mono (Kd.R_far (p := ⟨gb238, 1, none⟩) (Kd.R_far (p := ⟨gb238, 0, none⟩) (Kd.R_types HO237.out BK238.out (by decide)) (fun _ hk => hk.2) (.int .i64 t234)) (fun _ hk => hk.2) (.slice Ao18 t235.length co18)) (fun _ h_ => h_.1))) (by decide)) hk (fun _ h => h.2)) (fun _ h => h.1)); have n3_ := Aside0.mk (KeepBut.blk hk (g' := gb238) (o := .cells #[.int .i64 t234, .slice Ao18 t235.length co18] 29 (0, 0)) (by (with_reducible repeat (first | refine blk_drewN ?_ _ | refine blk_drew ?_ | refine blk_alloc ?_ _)); refine blk_put (cs := #[.int .i64 t234, .slice none 0 0]) ?_ 1 _ rfl; (with_reducible repeat (first | refine blk_drewN ?_ _ | refine blk_drew ?_ | refine blk_alloc ?_ _)); refine blk_put (cs := #[.int .i64 0, .slice none 0 0]) ?_ 0 _ rfl; (with_reducible repeat (first | refine blk_drewN ?_ _ | refine blk_drew ?_ | refine blk_alloc ?_ _)); exact BK238.out) NB238_0.out (by simp)); have n4_ := Aside0.mk (KeepBut.trans (spec_l1Bent_auHK) hk (.inl rfl)); have n5_ := Aside0.mk (hb); have n6_ := Aside0.mk (hi); clear BK232; clear BK233; clear HO237; clear BK238; clear HK; clear HB; clear HI0; have BK232 := n0_; have BK233 := n1_; have HO237 := n2_; have BK238 := n3_; have HK := n4_; have HB := n5_; have HI0 := n6_; clear n0_ n1_ n2_ n3_ n4_ n5_ n6_; (try clear hb); (try clear hb2); (try clear hk); (try clear hi); have hcz20_0 : w19.cell? ⟨gb238, 0, none⟩ = some (.int .i64 t234) := (blk_cell BK238.out 0).trans rfl; have hcz20_1 : w19.cell? ⟨gb238, 1, none⟩ = some (.slice Ao18 t235.length co18) := (blk_cell BK238.out 1).trans rfl; have hfz20_0 := blk_frozen BK238.out 0; have hfz20_1 := blk_frozen BK238.out 1; have hnb21 := NB233_0.out; have hnc21 := NB0_233.out; have hcz22_0 : w19.cell? ⟨gb233, 0, none⟩ = some (.int .i64 0) := (blk_cell BK233.out 0).trans rfl; have hcz22_1 : w19.cell? ⟨gb233, 1, none⟩ = some (.slice none 0 0) := (blk_cell BK233.out 1).trans rfl; have hfz22_0 := blk_frozen BK233.out 0; have hfz22_1 := blk_frozen BK233.out 1))
  refine bodyPost_ret (results_cell_row rfl _ _ gb233 29 #[.int .i64 t234, .slice Ao18 t235.length co18] (0, 0) _ rfl (by (with_reducible repeat (first | refine blk_drewN ?_ _ | refine blk_drew ?_ | refine blk_alloc ?_ _)); refine blk_put (cs := #[.int .i64 t234, .slice none 0 0]) ?_ 1 _ rfl; (with_reducible repeat (first | refine blk_drewN ?_ _ | refine blk_drew ?_ | refine blk_alloc ?_ _)); refine blk_put (cs := #[.int .i64 0, .slice none 0 0]) ?_ 0 _ rfl; (with_reducible repeat (first | refine blk_drewN ?_ _ | refine blk_drew ?_ | refine blk_alloc ?_ _)); exact BK233.out) Tryd.underlying29 rfl (by kernel_rfl)) rfl ?_
  exact ⟨_, by first | rfl | (simp [errW_none, errW_some] <;> rfl) | (simp [*, errW_none, errW_some] <;> rfl), by (with_reducible repeat (first | apply Kd.R_alloc | apply Kd.R_drewN | apply Kd.R_drew)); exact Kd.R_mono (Kd.R_far (p := ⟨gb233, 1, none⟩) (Kd.R_far (p := ⟨gb233, 0, none⟩) (Kd.R_types HO237.out BK233.out (by decide)) (fun _ hk => hk.2) (.int .i64 t234)) (fun _ hk => hk.2) (.slice Ao18 t235.length co18)) (fun _ hk => trivial), spec_l1Bent_auHI0, spec_l1Bent_auHB, spec_l1Bent_auHK⟩
 ·
  rw [if_neg c6] at H
  have c6b0 : ((t235.length : Int) == 0) = false := beq_eq_false_iff_ne.mpr c6
  have c6b1 : ((t235.length : Int) != 0) = true := bne_iff_ne.mpr c6
  have c6b2 : ¬ (t235 = []) := fun h_ => c6 (by rw [h_]; rfl)
  replace H := Option.bind_eq_some_iff.mp H
  obtain ⟨⟨t242, t243⟩, A230, H⟩ := H
  replace H : (if t242 = 0 then ((spec_l9Rd_num.f k s0_0 t243 (([(-1), 99, 100, 3] : List Int))).bind fun bt247 => (some (bt247.1, t235, bt247.2))) else (if t242 = 1 then ((spec_l9Rd_num.f k s0_0 t243 (([0, 1000, 1001, (-1001), (-9223372036854775808)] : List Int))).bind fun bt252 => (if 0 ≤ t240 then (if t240 < (t235.length : Int) then (some (t234, (t235.set (t240 : Int).toNat (⟨(rd_T45 t235 t240).f0, (rd_T45 t235 t240).f1, bt252.1⟩ : S45)), bt252.2)) else (none)) else (none))) else (if t242 = 2 then ((spec_l9Rd_of.f k s0_0 t243 (([(⟨#[]⟩ : ByteArray), (⟨#[65]⟩ : ByteArray), (⟨#[97, 98, 99, 100, 101]⟩ : ByteArray), (⟨#[97, 32, 98]⟩ : ByteArray), (⟨#[97, 58]⟩ : ByteArray)] : List ByteArray))).bind fun bt258 => (if 0 ≤ t240 then (if t240 < (t235.length : Int) then (some (t234, (t235.set (t240 : Int).toNat (⟨bt258.1, (rd_T45 t235 t240).f1, (rd_T45 t235 t240).f2⟩ : S45)), bt258.2)) else (none)) else (none))) else (if t242 = 3 then ((spec_l9Rd_num.f k s0_0 t243 (([0, 4, (-1), 1] : List Int))).bind fun bt264 => (if 0 ≤ t240 then (if t240 < (t235.length : Int) then (some (t234, (t235.set (t240 : Int).toNat (⟨(rd_T45 t235 t240).f0, bt264.1, (rd_T45 t235 t240).f2⟩ : S45)), bt264.2)) else (none)) else (none))) else (if t242 = 4 then (some (t234, (([] : List (S45))), t243)) else (if t242 = 5 then (spec_l1Bent.l0 k s0_0 t243 t234 t235) else (if t242 = 6 then (spec_l1Bent.j1 k t240 (t242 == 6) s0_0 t243 t234 t235) else (spec_l1Bent.j1 k t240 (t242 == 7) s0_0 t243 t234 t235)))))))) = some (r1, r2, r3) := H
  have A23 := Aside0.mk A230
  clear A230
  by_cases c24 : t242 = 0
  ·
   rw [if_pos c24] at H
   have c24b0 : (t242 == 0) = true := beq_iff_eq.mpr c24
   have c24b1 : (t242 != 0) = false := bne_eq_false_iff_eq.mpr c24
   clear c24
   obtain ⟨y244, hy244⟩ : ∃ y_ : List Int, y_ = (([(-1), 99, 100, 3] : List Int)) := ⟨_, rfl⟩
   replace H : ((spec_l9Rd_num.f k s0_0 t243 y244).bind fun bt247 => (some (bt247.1, t235, bt247.2))) = some (r1, r2, r3) := by first | (rw [hy244]; with_reducible exact H) | (have H2_ := (Option.bind_some _ _).symm.trans H; rw [hy244]; with_reducible exact H2_) | (have H2_ := (Option.bind_some _ _).symm.trans H; with_reducible exact H2_) | with_reducible exact H | (rw [hy244]; exact H) | exact H
   have Ny244 := Aside0.mk hy244
   clear hy244
   replace H := Option.bind_eq_some_iff.mp H
   obtain ⟨⟨t247, t248⟩, A250, H⟩ := H
   replace H : (some (t247, t235, t248)) = some (r1, r2, r3) := H
   have A25 := Aside0.mk A250
   clear A250
   simp only [Option.some.injEq, Prod.mk.injEq] at H
   obtain ⟨rfl, rfl, rfl⟩ := H
   go_enter Tryd.func53, Tryd.ntmps53
   go_wp2_with (first | ((with_reducible refine gate_dst (N := 3) rfl ?_); refine box_event ?hg (N := 3) ?hd (cs := #[.int .i64 a1_0, .slice A1_1 l1_1.length c1_1]) (t := 29) ?hr ?_; (case hd => rfl); (case hg => rfl); (case hr => first | (go_simp; done) | (go_simp; rfl)); intro gb232 hg w26 hbox hb; have n0_ := Aside0.mk (IsS84.below (spec_l1Bent_auHI0) hb); have n1_ := Aside0.mk (KeepBut.trans (spec_l1Bent_auHK) (KeepBut.of_below hb g none) (.inl rfl)); have n2_ := Aside0.mk (below_step (spec_l1Bent_auHB) hb); have n3_ := Aside0.mk (hbox); have n4_ := Aside0.mk ((by rw [hg]; exact (keep_size (w := w) (g := g) (row := none) (spec_l1Bent_auHK)) : w.heap.size ≤ gb232)); have n5_ := Aside0.mk ((Nat.le_trans HW0.out (by rw [hg]; exact (keep_size (w := w) (g := g) (row := none) (spec_l1Bent_auHK)) : w.heap.size ≤ gb232) : w0.heap.size ≤ gb232)); have n6_ := Aside0.mk ((by rw [hg]; exact Nat.ne_of_lt (IsS84.lt (show IsS84 w0 _ g s0_0 s0_1 from spec_l1Bent_auHI0)) : g ≠ gb232)); have n7_ := Aside0.mk ((by rw [hg]; exact Nat.ne_of_gt (IsS84.lt (show IsS84 w0 _ g s0_0 s0_1 from spec_l1Bent_auHI0)) : gb232 ≠ g)); clear HI0; clear HK; clear HB; have HI0 := n0_; have HK := n1_; have HB := n2_; have BK232 := n3_; have GW232 := n4_; have GE232 := n5_; have NB0_232 := n6_; have NB232_0 := n7_; clear n0_ n1_ n2_ n3_ n4_ n5_ n6_ n7_; clear hb hbox hg) | ((with_reducible refine gate_dst (N := 4) rfl ?_); refine box_event ?hg (N := 4) ?hd (cs := #[.int .i64 0, .slice none 0 0]) (t := 29) ?hr ?_; (case hd => rfl); (case hg => rfl); (case hr => first | (go_simp; done) | (go_simp; rfl)); intro gb233 hg w27 hbox hb; have n0_ := Aside0.mk (IsS84.below (spec_l1Bent_auHI0) hb); have n1_ := Aside0.mk (blk_below (g := gb232) (o := .cells #[.int .i64 a1_0, .slice A1_1 l1_1.length c1_1] 29 (0, 0)) (spec_l1Bent_vb BK232) hb); have n2_ := Aside0.mk (KeepBut.trans (spec_l1Bent_auHK) (KeepBut.of_below hb g none) (.inl rfl)); have n3_ := Aside0.mk (below_step (spec_l1Bent_auHB) hb); have n4_ := Aside0.mk (hbox); have n5_ := Aside0.mk ((by rw [hg]; exact (keep_size (w := w) (g := g) (row := none) (spec_l1Bent_auHK)) : w.heap.size ≤ gb233)); have n6_ := Aside0.mk ((Nat.le_trans HW0.out (by rw [hg]; exact (keep_size (w := w) (g := g) (row := none) (spec_l1Bent_auHK)) : w.heap.size ≤ gb233) : w0.heap.size ≤ gb233)); have n7_ := Aside0.mk ((by rw [hg]; exact Nat.ne_of_lt (blk_lt (g := gb232) (o := .cells #[.int .i64 a1_0, .slice A1_1 l1_1.length c1_1] 29 (0, 0)) (spec_l1Bent_vb BK232)) : gb232 ≠ gb233)); have n8_ := Aside0.mk ((by rw [hg]; exact Nat.ne_of_gt (blk_lt (g := gb232) (o := .cells #[.int .i64 a1_0, .slice A1_1 l1_1.length c1_1] 29 (0, 0)) (spec_l1Bent_vb BK232)) : gb233 ≠ gb232)); have n9_ := Aside0.mk ((by rw [hg]; exact Nat.ne_of_lt (IsS84.lt (show IsS84 w0 _ g s0_0 s0_1 from spec_l1Bent_auHI0)) : g ≠ gb233)); have n10_ := Aside0.mk ((by rw [hg]; exact Nat.ne_of_gt (IsS84.lt (show IsS84 w0 _ g s0_0 s0_1 from spec_l1Bent_auHI0)) : gb233 ≠ g)); clear HI0; clear BK232; clear HK; clear HB; have HI0 := n0_; have BK232 := n1_; have HK := n2_; have HB := n3_; have BK233 := n4_; have GW233 := n5_; have GE233 := n6_; have NB232_233 := n7_; have NB233_232 := n8_; have NB0_233 := n9_; have NB233_0 := n10_; clear n0_ n1_ n2_ n3_ n4_ n5_ n6_ n7_ n8_ n9_ n10_; clear hb hbox hg; have hnb28 := NB232_233.out; have hnc28 := NB233_232.out; have hnb29 := NB232_0.out; have hnc29 := NB0_232.out; have hcz30_0 : w27.cell? ⟨gb232, 0, none⟩ = some (.int .i64 a1_0) := (blk_cell BK232.out 0).trans rfl; have hcz30_1 : w27.cell? ⟨gb232, 1, none⟩ = some (.slice A1_1 l1_1.length c1_1) := (blk_cell BK232.out 1).trans rfl; have hfz30_0 := blk_frozen BK232.out 0; have hfz30_1 := blk_frozen BK232.out 1) | ((with_reducible refine gate_callee (f := 66) rfl ?_); refine goesL_ (some 8) rfl rfl Tryd.func66 (by kernel_rfl) rfl #[.agg #[.int .i64 a1_0, .slice A1_1 l1_1.length c1_1]] rfl (by (try simp only [List.map_toArray, List.map_cons, List.map_nil]); first | done | rfl | (simp only [List.length_drop, List.length_take]; rfl)) ?_; (with_reducible refine (spec_l1Copy.calls a1_0 _ _ l1_1 t234 t235 _ ?side1 ?side2 A3.out).mono ?_); (case side1 => exact Kd.C_foot_now HR1_1.out (spec_l1Bent_auHK)); (case side2 => exact HC1_1.out); rintro e w31 ⟨v236, rfl, ho0, hb⟩; refine ⟨_, rfl, ?_⟩; have n0_ := Aside0.mk (Kd.R_lower ho0 (keep_size (w := w) (g := g) (row := none) (spec_l1Bent_auHK))); have n1_ := Aside0.mk (IsS84.below (spec_l1Bent_auHI0) hb); have n2_ := Aside0.mk (blk_below (g := gb232) (o := .cells #[.int .i64 a1_0, .slice A1_1 l1_1.length c1_1] 29 (0, 0)) (spec_l1Bent_vb BK232) hb); have n3_ := Aside0.mk (blk_below (g := gb233) (o := .cells #[.int .i64 0, .slice none 0 0] 29 (0, 0)) (spec_l1Bent_vb BK233) hb); have n4_ := Aside0.mk (KeepBut.trans (spec_l1Bent_auHK) (KeepBut.of_below hb g none) (.inl rfl)); have n5_ := Aside0.mk (below_step (spec_l1Bent_auHB) hb); clear HI0; clear BK232; clear BK233; clear HK; clear HB; have HO237 := n0_; have HI0 := n1_; have BK232 := n2_; have BK233 := n3_; have HK := n4_; have HB := n5_; clear n0_ n1_ n2_ n3_ n4_ n5_; (try clear hb); (try clear hb2); (try clear hk); (try clear hi); (try clear ho0)) | ((with_reducible refine gate_dst (N := 5) rfl ?_); refine box_event ?hg (N := 5) ?hd (cs := #[.int .i64 0, .slice none 0 0]) (t := 29) ?hr ?_; (case hd => rfl); (case hg => rfl); (case hr => first | (go_simp; done) | (go_simp; rfl)); intro gb238 hg w32 hbox hb; have n0_ := Aside0.mk (Kd.R_below (by (with_reducible repeat (first | apply Kd.R_alloc | apply Kd.R_drewN | apply Kd.R_drew)); exact HO237.out) hb); have n1_ := Aside0.mk (IsS84.below (spec_l1Bent_auHI0) hb); have n2_ := Aside0.mk (blk_below (g := gb232) (o := .cells #[.int .i64 a1_0, .slice A1_1 l1_1.length c1_1] 29 (0, 0)) (spec_l1Bent_vb BK232) hb); have n3_ := Aside0.mk (blk_below (g := gb233) (o := .cells #[.int .i64 0, .slice none 0 0] 29 (0, 0)) (spec_l1Bent_vb BK233) hb); have n4_ := Aside0.mk (KeepBut.trans (spec_l1Bent_auHK) (KeepBut.of_below hb g none) (.inl rfl)); have n5_ := Aside0.mk (below_step (spec_l1Bent_auHB) hb); have n6_ := Aside0.mk (hbox); have n7_ := Aside0.mk ((by rw [hg]; exact (keep_size (w := w) (g := g) (row := none) (spec_l1Bent_auHK)) : w.heap.size ≤ gb238)); have n8_ := Aside0.mk ((Nat.le_trans HW0.out (by rw [hg]; exact (keep_size (w := w) (g := g) (row := none) (spec_l1Bent_auHK)) : w.heap.size ≤ gb238) : w0.heap.size ≤ gb238)); have n9_ := Aside0.mk ((by rw [hg]; exact Nat.ne_of_lt (blk_lt (g := gb232) (o := .cells #[.int .i64 a1_0, .slice A1_1 l1_1.length c1_1] 29 (0, 0)) (spec_l1Bent_vb BK232)) : gb232 ≠ gb238)); have n10_ := Aside0.mk ((by rw [hg]; exact Nat.ne_of_gt (blk_lt (g := gb232) (o := .cells #[.int .i64 a1_0, .slice A1_1 l1_1.length c1_1] 29 (0, 0)) (spec_l1Bent_vb BK232)) : gb238 ≠ gb232)); have n11_ := Aside0.mk ((by rw [hg]; exact Nat.ne_of_lt (blk_lt (g := gb233) (o := .cells #[.int .i64 0, .slice none 0 0] 29 (0, 0)) (spec_l1Bent_vb BK233)) : gb233 ≠ gb238)); have n12_ := Aside0.mk ((by rw [hg]; exact Nat.ne_of_gt (blk_lt (g := gb233) (o := .cells #[.int .i64 0, .slice none 0 0] 29 (0, 0)) (spec_l1Bent_vb BK233)) : gb238 ≠ gb233)); have n13_ := Aside0.mk ((by rw [hg]; exact Nat.ne_of_lt (IsS84.lt (show IsS84 w0 _ g s0_0 s0_1 from spec_l1Bent_auHI0)) : g ≠ gb238)); have n14_ := Aside0.mk ((by rw [hg]; exact Nat.ne_of_gt (IsS84.lt (show IsS84 w0 _ g s0_0 s0_1 from spec_l1Bent_auHI0)) : gb238 ≠ g)); clear HO237; clear HI0; clear BK232; clear BK233; clear HK; clear HB; have HO237 := n0_; have HI0 := n1_; have BK232 := n2_; have BK233 := n3_; have HK := n4_; have HB := n5_; have BK238 := n6_; have GW238 := n7_; have GE238 := n8_; have NB232_238 := n9_; have NB238_232 := n10_; have NB233_238 := n11_; have NB238_233 := n12_; have NB0_238 := n13_; have NB238_0 := n14_; clear n0_ n1_ n2_ n3_ n4_ n5_ n6_ n7_ n8_ n9_ n10_ n11_ n12_ n13_ n14_; clear hb hbox hg; have hnb33 := NB238_232.out; have hnc33 := NB232_238.out; have hnb34 := NB238_233.out; have hnc34 := NB233_238.out; have hnb35 := NB238_0.out; have hnc35 := NB0_238.out; have hcz36_0 : w32.cell? ⟨gb238, 0, none⟩ = some (.int .i64 0) := (blk_cell BK238.out 0).trans rfl; have hcz36_1 : w32.cell? ⟨gb238, 1, none⟩ = some (.slice none 0 0) := (blk_cell BK238.out 1).trans rfl; have hfz36_0 := blk_frozen BK238.out 0; have hfz36_1 := blk_frozen BK238.out 1; obtain ⟨Ao37, co37, eo37⟩ := Kd.R_slice HO237.out; subst eo37) | ((with_reducible refine gate_callee (f := 67) rfl ?_); refine goesL_ (some 13) rfl rfl Tryd.func67 (by kernel_rfl) rfl #[.int .i64 1, .int .i64 (t235.length : Int)] rfl (by (try simp only [List.map_toArray, List.map_cons, List.map_nil]); first | done | rfl | (simp only [List.length_drop, List.length_take]; rfl)) ?_; (with_reducible refine (spec_l1Max.calls 1 (t235.length : Int) t239 _ A4.out).mono ?_); rintro e w' ⟨rfl, ⟨nd, rfl⟩⟩; refine ⟨_, rfl, ?_⟩) | ((with_reducible refine gate_callee (f := 41) rfl ?_); refine goesL_ (some 14) rfl rfl Tryd.func41 (by kernel_rfl) rfl #[.pointer (some ⟨g, 0, none⟩), .int .i64 t239] rfl (by (try simp only [List.map_toArray, List.map_cons, List.map_nil]); first | done | rfl | (simp only [List.length_drop, List.length_take]; rfl)) ?_; (with_reducible refine (spec_l9Rd_pick.calls k g s0_0 s0_1 t239 t240 t241 w0 _ ?side1 ?side2 A5.out).mono ?_); (case side1 => exact spec_l1Bent_auHI0); (case side2 => exact spec_l1Bent_auHB); rintro e w38 ⟨rfl, hi, hb, hk⟩; refine ⟨_, rfl, ?_⟩; have n0_ := Aside0.mk (KeepBut.blk hk (g' := gb232) (o := .cells #[.int .i64 a1_0, .slice A1_1 l1_1.length c1_1] 29 (0, 0)) (by (with_reducible repeat (first | refine blk_drewN ?_ _ | refine blk_drew ?_ | refine blk_alloc ?_ _)); refine blk_far ?_ NB232_238.out _; (with_reducible repeat (first | refine blk_drewN ?_ _ | refine blk_drew ?_ | refine blk_alloc ?_ _)); refine blk_far ?_ NB232_238.out _; (with_reducible repeat (first | refine blk_drewN ?_ _ | refine blk_drew ?_ | refine blk_alloc ?_ _)); exact BK232.out) NB232_0.out (by simp)); have n1_ := Aside0.mk (KeepBut.blk hk (g' := gb233) (o := .cells #[.int .i64 0, .slice none 0 0] 29 (0, 0)) (by (with_reducible repeat (first | refine blk_drewN ?_ _ | refine blk_drew ?_ | refine blk_alloc ?_ _)); refine blk_far ?_ NB233_238.out _; (with_reducible repeat (first | refine blk_drewN ?_ _ | refine blk_drew ?_ | refine blk_alloc ?_ _)); refine blk_far ?_ NB233_238.out _; (with_reducible repeat (first | refine blk_drewN ?_ _ | refine blk_drew ?_ | refine blk_alloc ?_ _)); exact BK233.out) NB233_0.out (by simp)); have n2_ := Aside0.mk (Kd.R_mono (Kd.R_keep (IsS84.apart (show IsS84 w0 _ g s0_0 s0_1 from spec_l1Bent_auHI0) (by (with_reducible repeat (first | apply Kd.R_alloc | apply Kd.R_drewN | apply Kd.R_drew)); exact (Kd.R_mono (Kd.R_far (p := ⟨gb238, 1, none⟩) (Kd.R_far (p := ⟨gb238, 0, none⟩) (Kd.R_types HO237.out BK238.out (by decide)) (fun _ hk => hk.2) (.int .i64 t234)) (fun _ hk => hk.2) (.slice Ao37 t235.length co37)) (fun _ h_ => h_.1))) (by decide)) hk (fun _ h => h.2)) (fun _ h => h.1)); have n3_ := Aside0.mk (KeepBut.blk hk (g' := gb238) (o := .cells #[.int .i64 t234, .slice Ao37 t235.length co37] 29 (0, 0)) (by (with_reducible repeat (first | refine blk_drewN ?_ _ | refine blk_drew ?_ | refine blk_alloc ?_ _)); refine blk_put (cs := #[.int .i64 t234, .slice none 0 0]) ?_ 1 _ rfl; (with_reducible repeat (first | refine blk_drewN ?_ _ | refine blk_drew ?_ | refine blk_alloc ?_ _)); refine blk_put (cs := #[.int .i64 0, .slice none 0 0]) ?_ 0 _ rfl; (with_reducible repeat (first | refine blk_drewN ?_ _ | refine blk_drew ?_ | refine blk_alloc ?_ _)); exact BK238.out) NB238_0.out (by simp)); have n4_ := Aside0.mk (KeepBut.trans (spec_l1Bent_auHK) hk (.inl rfl)); have n5_ := Aside0.mk (hb); have n6_ := Aside0.mk (hi); clear BK232; clear BK233; clear HO237; clear BK238; clear HK; clear HB; clear HI0; have BK232 := n0_; have BK233 := n1_; have HO237 := n2_; have BK238 := n3_; have HK := n4_; have HB := n5_; have HI0 := n6_; clear n0_ n1_ n2_ n3_ n4_ n5_ n6_; (try clear hb); (try clear hb2); (try clear hk); (try clear hi); have hcz39_0 : w38.cell? ⟨gb238, 0, none⟩ = some (.int .i64 t234) := (blk_cell BK238.out 0).trans rfl; have hcz39_1 : w38.cell? ⟨gb238, 1, none⟩ = some (.slice Ao37 t235.length co37) := (blk_cell BK238.out 1).trans rfl; have hfz39_0 := blk_frozen BK238.out 0; have hfz39_1 := blk_frozen BK238.out 1) | ((with_reducible refine gate_callee (f := 41) rfl ?_); refine goesL_ (some 21) rfl rfl Tryd.func41 (by kernel_rfl) rfl #[.pointer (some ⟨g, 0, none⟩), .int .i64 64] rfl (by (try simp only [List.map_toArray, List.map_cons, List.map_nil]); first | done | rfl | (simp only [List.length_drop, List.length_take]; rfl)) ?_; (with_reducible refine (spec_l9Rd_pick.calls k g s0_0 t241 64 t242 t243 w0 _ ?side1 ?side2 A23.out).mono ?_); (case side1 => exact spec_l1Bent_auHI0); (case side2 => exact spec_l1Bent_auHB); rintro e w40 ⟨rfl, hi, hb, hk⟩; refine ⟨_, rfl, ?_⟩; have n0_ := Aside0.mk (KeepBut.blk hk (g' := gb232) (o := .cells #[.int .i64 a1_0, .slice A1_1 l1_1.length c1_1] 29 (0, 0)) (spec_l1Bent_vb BK232) NB232_0.out (by simp)); have n1_ := Aside0.mk (KeepBut.blk hk (g' := gb233) (o := .cells #[.int .i64 0, .slice none 0 0] 29 (0, 0)) (spec_l1Bent_vb BK233) NB233_0.out (by simp)); have n2_ := Aside0.mk (Kd.R_mono (Kd.R_keep (IsS84.apart (show IsS84 w0 _ g s0_0 t241 from spec_l1Bent_auHI0) (by (with_reducible repeat (first | apply Kd.R_alloc | apply Kd.R_drewN | apply Kd.R_drew)); exact HO237.out) (by decide)) hk (fun _ h => h.2)) (fun _ h => h.1)); have n3_ := Aside0.mk (KeepBut.blk hk (g' := gb238) (o := .cells #[.int .i64 t234, .slice Ao37 t235.length co37] 29 (0, 0)) (spec_l1Bent_vb BK238) NB238_0.out (by simp)); have n4_ := Aside0.mk (KeepBut.trans (spec_l1Bent_auHK) hk (.inl rfl)); have n5_ := Aside0.mk (hb); have n6_ := Aside0.mk (hi); clear BK232; clear BK233; clear HO237; clear BK238; clear HK; clear HB; clear HI0; have BK232 := n0_; have BK233 := n1_; have HO237 := n2_; have BK238 := n3_; have HK := n4_; have HB := n5_; have HI0 := n6_; clear n0_ n1_ n2_ n3_ n4_ n5_ n6_; (try clear hb); (try clear hb2); (try clear hk); (try clear hi)) | ((with_reducible refine gate_dst (N := 25) rfl ?_); refine Kd.R_lit (Kd.int .i64) _ 3 ?hg (N := 25) ?hd (xs := ([(-1), 99, 100, 3] : List Int)) (inner := [.int .i64 (-1), .int .i64 99, .int .i64 100, .int .i64 3]) (ok := fun _ => True) (okp := fun _ => True) ?hr ?hp (fun _ hk => hk) trivial (Below.refl _ _) (Nat.le_refl _) (by simp) ?_; (case hd => rfl); (case hg => rfl); (case hr => first | (go_simp; done) | (go_simp; rfl)); (case hp => exact (Reps.one (show Kd.M (Kd.int .i64) _ _ _ (-1) [.int .i64 (-1)] from rfl) (Reps.one (show Kd.M (Kd.int .i64) _ _ _ 99 [.int .i64 99] from rfl) (Reps.one (show Kd.M (Kd.int .i64) _ _ _ 100 [.int .i64 100] from rfl) (Reps.one (show Kd.M (Kd.int .i64) _ _ _ 3 [.int .i64 3] from rfl) (Reps.none _ _)))))); intro v245 w41 ho42 hb hg_ hnew_; clear hg_ hnew_; (first | rw [← Ny244.out] at ho42 | (simp only [Int.reduceToNat] at ho42; rw [← Ny244.out] at ho42)); have n0_ := Aside0.mk (Kd.R_below (by (with_reducible repeat (first | apply Kd.R_alloc | apply Kd.R_drewN | apply Kd.R_drew)); exact HO237.out) hb); have n1_ := Aside0.mk (Kd.R_lower ho42 (keep_size (w := w) (g := g) (row := none) (spec_l1Bent_auHK))); have n2_ := Aside0.mk (IsS84.below (spec_l1Bent_auHI0) hb); have n3_ := Aside0.mk (blk_below (g := gb232) (o := .cells #[.int .i64 a1_0, .slice A1_1 l1_1.length c1_1] 29 (0, 0)) (spec_l1Bent_vb BK232) hb); have n4_ := Aside0.mk (blk_below (g := gb233) (o := .cells #[.int .i64 0, .slice none 0 0] 29 (0, 0)) (spec_l1Bent_vb BK233) hb); have n5_ := Aside0.mk (blk_below (g := gb238) (o := .cells #[.int .i64 t234, .slice Ao37 t235.length co37] 29 (0, 0)) (spec_l1Bent_vb BK238) hb); have n6_ := Aside0.mk (KeepBut.trans (spec_l1Bent_auHK) (KeepBut.of_below hb g none) (.inl rfl)); have n7_ := Aside0.mk (below_step (spec_l1Bent_auHB) hb); clear HO237; clear HI0; clear BK232; clear BK233; clear BK238; clear HK; clear HB; have HO237 := n0_; have HO246 := n1_; have HI0 := n2_; have BK232 := n3_; have BK233 := n4_; have BK238 := n5_; have HK := n6_; have HB := n7_; clear n0_ n1_ n2_ n3_ n4_ n5_ n6_ n7_; clear hb ho42; obtain ⟨Ao43, co43, eo43⟩ := Kd.R_slice HO246.out; subst eo43) | ((with_reducible refine gate_callee (f := 56) rfl ?_); refine goesL_ (some 26) rfl rfl Tryd.func56 (by kernel_rfl) rfl #[.pointer (some ⟨g, 0, none⟩), .slice Ao43 y244.length co43] rfl (by (try simp only [List.map_toArray, List.map_cons, List.map_nil]); first | done | rfl | (simp only [List.length_drop, List.length_take]; rfl)) ?_; (with_reducible refine (spec_l9Rd_num.calls k g s0_0 t243 _ _ y244 t247 t248 w0 _ ?side1 ?side2 ?side3 ?side4 ?side5 A25.out).mono ?_); (case side1 => exact spec_l1Bent_auHI0); (case side2 => exact spec_l1Bent_auHB); (case side3 => repeat (first | exact (Kd.R_reads' HO246.out).2.2 | (with_reducible refine Kd.C_alloc ?_ _) | (with_reducible refine Kd.C_drewN ?_ _) | (with_reducible refine Kd.C_drew ?_))); (case side4 => exact (Kd.R_reads' HO246.out).2.1); (case side5 => exact far_slice (IsS84.own_ne HI0.out HO246.out (by decide))); rintro e w44 ⟨rfl, hi, hb, hk⟩; refine ⟨_, rfl, ?_⟩; have n0_ := Aside0.mk (KeepBut.blk hk (g' := gb232) (o := .cells #[.int .i64 a1_0, .slice A1_1 l1_1.length c1_1] 29 (0, 0)) (spec_l1Bent_vb BK232) NB232_0.out (by simp)); have n1_ := Aside0.mk (KeepBut.blk hk (g' := gb233) (o := .cells #[.int .i64 0, .slice none 0 0] 29 (0, 0)) (spec_l1Bent_vb BK233) NB233_0.out (by simp)); have n2_ := Aside0.mk (Kd.R_mono (Kd.R_keep (IsS84.apart (show IsS84 w0 _ g s0_0 t243 from spec_l1Bent_auHI0) (by (with_reducible repeat (first | apply Kd.R_alloc | apply Kd.R_drewN | apply Kd.R_drew)); exact HO237.out) (by decide)) hk (fun _ h => h.2)) (fun _ h => h.1)); have n3_ := Aside0.mk (KeepBut.blk hk (g' := gb238) (o := .cells #[.int .i64 t234, .slice Ao37 t235.length co37] 29 (0, 0)) (spec_l1Bent_vb BK238) NB238_0.out (by simp)); have n4_ := Aside0.mk (Kd.R_mono (Kd.R_keep (IsS84.apart (show IsS84 w0 _ g s0_0 t243 from spec_l1Bent_auHI0) (by (with_reducible repeat (first | apply Kd.R_alloc | apply Kd.R_drewN | apply Kd.R_drew)); exact HO246.out) (by decide)) hk (fun _ h => h.2)) (fun _ h => h.1)); have n5_ := Aside0.mk (KeepBut.trans (spec_l1Bent_auHK) hk (.inl rfl)); have n6_ := Aside0.mk (hb); have n7_ := Aside0.mk (hi); clear BK232; clear BK233; clear HO237; clear BK238; clear HO246; clear HK; clear HB; clear HI0; have BK232 := n0_; have BK233 := n1_; have HO237 := n2_; have BK238 := n3_; have HO246 := n4_; have HK := n5_; have HB := n6_; have HI0 := n7_; clear n0_ n1_ n2_ n3_ n4_ n5_ n6_ n7_; (try clear hb); (try clear hb2); (try clear hk); (try clear hi); have hcz45_0 : w44.cell? ⟨gb238, 0, none⟩ = some (.int .i64 t234) := (blk_cell BK238.out 0).trans rfl; have hcz45_1 : w44.cell? ⟨gb238, 1, none⟩ = some (.slice Ao37 t235.length co37) := (blk_cell BK238.out 1).trans rfl; have hfz45_0 := blk_frozen BK238.out 0; have hfz45_1 := blk_frozen BK238.out 1; have hnb46 := NB233_0.out; have hnc46 := NB0_233.out; have hcz47_0 : w44.cell? ⟨gb233, 0, none⟩ = some (.int .i64 0) := (blk_cell BK233.out 0).trans rfl; have hcz47_1 : w44.cell? ⟨gb233, 1, none⟩ = some (.slice none 0 0) := (blk_cell BK233.out 1).trans rfl; have hfz47_0 := blk_frozen BK233.out 0; have hfz47_1 := blk_frozen BK233.out 1))
   refine bodyPost_ret (results_cell_row rfl _ _ gb233 29 #[.int .i64 t247, .slice Ao37 t235.length co37] (0, 0) _ rfl (by (with_reducible repeat (first | refine blk_drewN ?_ _ | refine blk_drew ?_ | refine blk_alloc ?_ _)); refine blk_put (cs := #[.int .i64 t247, .slice none 0 0]) ?_ 1 _ rfl; (with_reducible repeat (first | refine blk_drewN ?_ _ | refine blk_drew ?_ | refine blk_alloc ?_ _)); refine blk_put (cs := #[.int .i64 0, .slice none 0 0]) ?_ 0 _ rfl; (with_reducible repeat (first | refine blk_drewN ?_ _ | refine blk_drew ?_ | refine blk_alloc ?_ _)); refine blk_far ?_ NB233_238.out _; (with_reducible repeat (first | refine blk_drewN ?_ _ | refine blk_drew ?_ | refine blk_alloc ?_ _)); exact BK233.out) Tryd.underlying29 rfl (by kernel_rfl)) rfl ?_
   exact ⟨_, by first | rfl | (simp [errW_none, errW_some] <;> rfl) | (simp [*, errW_none, errW_some] <;> rfl), by (with_reducible repeat (first | apply Kd.R_alloc | apply Kd.R_drewN | apply Kd.R_drew)); exact Kd.R_mono (Kd.R_far (p := ⟨gb233, 1, none⟩) (Kd.R_far (p := ⟨gb233, 0, none⟩) (Kd.R_far (p := ⟨gb238, 0, none⟩) (Kd.R_types (Kd.R_types HO237.out BK238.out (by decide)) BK233.out (by decide)) (fun _ hk => hk.1.2) (.int .i64 t247)) (fun _ hk => hk.2) (.int .i64 t247)) (fun _ hk => hk.2) (.slice Ao37 t235.length co37)) (fun _ hk => trivial), spec_l1Bent_auHI0, spec_l1Bent_auHB, spec_l1Bent_auHK⟩
  ·
   rw [if_neg c24] at H
   have c24b0 : (t242 == 0) = false := beq_eq_false_iff_ne.mpr c24
   have c24b1 : (t242 != 0) = true := bne_iff_ne.mpr c24
   by_cases c48 : t242 = 1
   ·
    rw [if_pos c48] at H
    have c48b0 : (t242 == 1) = true := beq_iff_eq.mpr c48
    have c48b1 : (t242 != 1) = false := bne_eq_false_iff_eq.mpr c48
    clear c48
    obtain ⟨y249, hy249⟩ : ∃ y_ : List Int, y_ = (([0, 1000, 1001, (-1001), (-9223372036854775808)] : List Int)) := ⟨_, rfl⟩
    replace H : ((spec_l9Rd_num.f k s0_0 t243 y249).bind fun bt252 => (if 0 ≤ t240 then (if t240 < (t235.length : Int) then (some (t234, (t235.set (t240 : Int).toNat (⟨(rd_T45 t235 t240).f0, (rd_T45 t235 t240).f1, bt252.1⟩ : S45)), bt252.2)) else (none)) else (none))) = some (r1, r2, r3) := by first | (rw [hy249]; with_reducible exact H) | (have H2_ := (Option.bind_some _ _).symm.trans H; rw [hy249]; with_reducible exact H2_) | (have H2_ := (Option.bind_some _ _).symm.trans H; with_reducible exact H2_) | with_reducible exact H | (rw [hy249]; exact H) | exact H
    have Ny249 := Aside0.mk hy249
    clear hy249
    replace H := Option.bind_eq_some_iff.mp H
    obtain ⟨⟨t252, t253⟩, A490, H⟩ := H
    replace H : (if 0 ≤ t240 then (if t240 < (t235.length : Int) then (some (t234, (t235.set (t240 : Int).toNat (⟨(rd_T45 t235 t240).f0, (rd_T45 t235 t240).f1, t252⟩ : S45)), t253)) else (none)) else (none)) = some (r1, r2, r3) := H
    have A49 := Aside0.mk A490
    clear A490
    by_cases c50 : 0 ≤ t240
    ·
     rw [if_pos c50] at H
     have c50b0 : decide (0 ≤ t240) = true := decide_eq_true c50
     clear c50
     by_cases c51 : t240 < (t235.length : Int)
     ·
      rw [if_pos c51] at H
      have c51b0 : decide (t240 < (t235.length : Int)) = true := decide_eq_true c51
      clear c51
      obtain ⟨y254, hy254⟩ : ∃ y_ : List (S45), y_ = (t235.set (t240 : Int).toNat (⟨(rd_T45 t235 t240).f0, (rd_T45 t235 t240).f1, t252⟩ : S45)) := ⟨_, rfl⟩
      replace H : (some (t234, y254, t253)) = some (r1, r2, r3) := by first | (rw [hy254]; with_reducible exact H) | (have H2_ := (Option.bind_some _ _).symm.trans H; rw [hy254]; with_reducible exact H2_) | (have H2_ := (Option.bind_some _ _).symm.trans H; with_reducible exact H2_) | with_reducible exact H | (rw [hy254]; exact H) | exact H
      have Ny254 := Aside0.mk hy254
      clear hy254
      simp only [Option.some.injEq, Prod.mk.injEq] at H
      obtain ⟨rfl, rfl, rfl⟩ := H
      go_enter Tryd.func53, Tryd.ntmps53
      try go_wp2_with (first | ((with_reducible refine gate_dst (N := 3) rfl ?_); refine box_event ?hg (N := 3) ?hd (cs := #[.int .i64 a1_0, .slice A1_1 l1_1.length c1_1]) (t := 29) ?hr ?_; (case hd => rfl); (case hg => rfl); (case hr => first | (go_simp; done) | (go_simp; rfl)); intro gb232 hg w53 hbox hb; have n0_ := Aside0.mk (IsS84.below (spec_l1Bent_auHI0) hb); have n1_ := Aside0.mk (KeepBut.trans (spec_l1Bent_auHK) (KeepBut.of_below hb g none) (.inl rfl)); have n2_ := Aside0.mk (below_step (spec_l1Bent_auHB) hb); have n3_ := Aside0.mk (hbox); have n4_ := Aside0.mk ((by rw [hg]; exact (keep_size (w := w) (g := g) (row := none) (spec_l1Bent_auHK)) : w.heap.size ≤ gb232)); have n5_ := Aside0.mk ((Nat.le_trans HW0.out (by rw [hg]; exact (keep_size (w := w) (g := g) (row := none) (spec_l1Bent_auHK)) : w.heap.size ≤ gb232) : w0.heap.size ≤ gb232)); have n6_ := Aside0.mk ((by rw [hg]; exact Nat.ne_of_lt (IsS84.lt (show IsS84 w0 _ g s0_0 s0_1 from spec_l1Bent_auHI0)) : g ≠ gb232)); have n7_ := Aside0.mk ((by rw [hg]; exact Nat.ne_of_gt (IsS84.lt (show IsS84 w0 _ g s0_0 s0_1 from spec_l1Bent_auHI0)) : gb232 ≠ g)); clear HI0; clear HK; clear HB; have HI0 := n0_; have HK := n1_; have HB := n2_; have BK232 := n3_; have GW232 := n4_; have GE232 := n5_; have NB0_232 := n6_; have NB232_0 := n7_; clear n0_ n1_ n2_ n3_ n4_ n5_ n6_ n7_; clear hb hbox hg) | ((with_reducible refine gate_dst (N := 4) rfl ?_); refine box_event ?hg (N := 4) ?hd (cs := #[.int .i64 0, .slice none 0 0]) (t := 29) ?hr ?_; (case hd => rfl); (case hg => rfl); (case hr => first | (go_simp; done) | (go_simp; rfl)); intro gb233 hg w54 hbox hb; have n0_ := Aside0.mk (IsS84.below (spec_l1Bent_auHI0) hb); have n1_ := Aside0.mk (blk_below (g := gb232) (o := .cells #[.int .i64 a1_0, .slice A1_1 l1_1.length c1_1] 29 (0, 0)) (spec_l1Bent_vb BK232) hb); have n2_ := Aside0.mk (KeepBut.trans (spec_l1Bent_auHK) (KeepBut.of_below hb g none) (.inl rfl)); have n3_ := Aside0.mk (below_step (spec_l1Bent_auHB) hb); have n4_ := Aside0.mk (hbox); have n5_ := Aside0.mk ((by rw [hg]; exact (keep_size (w := w) (g := g) (row := none) (spec_l1Bent_auHK)) : w.heap.size ≤ gb233)); have n6_ := Aside0.mk ((Nat.le_trans HW0.out (by rw [hg]; exact (keep_size (w := w) (g := g) (row := none) (spec_l1Bent_auHK)) : w.heap.size ≤ gb233) : w0.heap.size ≤ gb233)); have n7_ := Aside0.mk ((by rw [hg]; exact Nat.ne_of_lt (blk_lt (g := gb232) (o := .cells #[.int .i64 a1_0, .slice A1_1 l1_1.length c1_1] 29 (0, 0)) (spec_l1Bent_vb BK232)) : gb232 ≠ gb233)); have n8_ := Aside0.mk ((by rw [hg]; exact Nat.ne_of_gt (blk_lt (g := gb232) (o := .cells #[.int .i64 a1_0, .slice A1_1 l1_1.length c1_1] 29 (0, 0)) (spec_l1Bent_vb BK232)) : gb233 ≠ gb232)); have n9_ := Aside0.mk ((by rw [hg]; exact Nat.ne_of_lt (IsS84.lt (show IsS84 w0 _ g s0_0 s0_1 from spec_l1Bent_auHI0)) : g ≠ gb233)); have n10_ := Aside0.mk ((by rw [hg]; exact Nat.ne_of_gt (IsS84.lt (show IsS84 w0 _ g s0_0 s0_1 from spec_l1Bent_auHI0)) : gb233 ≠ g)); clear HI0; clear BK232; clear HK; clear HB; have HI0 := n0_; have BK232 := n1_; have HK := n2_; have HB := n3_; have BK233 := n4_; have GW233 := n5_; have GE233 := n6_; have NB232_233 := n7_; have NB233_232 := n8_; have NB0_233 := n9_; have NB233_0 := n10_; clear n0_ n1_ n2_ n3_ n4_ n5_ n6_ n7_ n8_ n9_ n10_; clear hb hbox hg; have hnb55 := NB232_233.out; have hnc55 := NB233_232.out; have hnb56 := NB232_0.out; have hnc56 := NB0_232.out; have hcz57_0 : w54.cell? ⟨gb232, 0, none⟩ = some (.int .i64 a1_0) := (blk_cell BK232.out 0).trans rfl; have hcz57_1 : w54.cell? ⟨gb232, 1, none⟩ = some (.slice A1_1 l1_1.length c1_1) := (blk_cell BK232.out 1).trans rfl; have hfz57_0 := blk_frozen BK232.out 0; have hfz57_1 := blk_frozen BK232.out 1) | ((with_reducible refine gate_callee (f := 66) rfl ?_); refine goesL_ (some 8) rfl rfl Tryd.func66 (by kernel_rfl) rfl #[.agg #[.int .i64 a1_0, .slice A1_1 l1_1.length c1_1]] rfl (by (try simp only [List.map_toArray, List.map_cons, List.map_nil]); first | done | rfl | (simp only [List.length_drop, List.length_take]; rfl)) ?_; (with_reducible refine (spec_l1Copy.calls a1_0 _ _ l1_1 t234 t235 _ ?side1 ?side2 A3.out).mono ?_); (case side1 => exact Kd.C_foot_now HR1_1.out (spec_l1Bent_auHK)); (case side2 => exact HC1_1.out); rintro e w58 ⟨v236, rfl, ho0, hb⟩; refine ⟨_, rfl, ?_⟩; have n0_ := Aside0.mk (Kd.R_lower ho0 (keep_size (w := w) (g := g) (row := none) (spec_l1Bent_auHK))); have n1_ := Aside0.mk (IsS84.below (spec_l1Bent_auHI0) hb); have n2_ := Aside0.mk (blk_below (g := gb232) (o := .cells #[.int .i64 a1_0, .slice A1_1 l1_1.length c1_1] 29 (0, 0)) (spec_l1Bent_vb BK232) hb); have n3_ := Aside0.mk (blk_below (g := gb233) (o := .cells #[.int .i64 0, .slice none 0 0] 29 (0, 0)) (spec_l1Bent_vb BK233) hb); have n4_ := Aside0.mk (KeepBut.trans (spec_l1Bent_auHK) (KeepBut.of_below hb g none) (.inl rfl)); have n5_ := Aside0.mk (below_step (spec_l1Bent_auHB) hb); clear HI0; clear BK232; clear BK233; clear HK; clear HB; have HO237 := n0_; have HI0 := n1_; have BK232 := n2_; have BK233 := n3_; have HK := n4_; have HB := n5_; clear n0_ n1_ n2_ n3_ n4_ n5_; (try clear hb); (try clear hb2); (try clear hk); (try clear hi); (try clear ho0)) | ((with_reducible refine gate_dst (N := 5) rfl ?_); refine box_event ?hg (N := 5) ?hd (cs := #[.int .i64 0, .slice none 0 0]) (t := 29) ?hr ?_; (case hd => rfl); (case hg => rfl); (case hr => first | (go_simp; done) | (go_simp; rfl)); intro gb238 hg w59 hbox hb; have n0_ := Aside0.mk (Kd.R_below (by (with_reducible repeat (first | apply Kd.R_alloc | apply Kd.R_drewN | apply Kd.R_drew)); exact HO237.out) hb); have n1_ := Aside0.mk (IsS84.below (spec_l1Bent_auHI0) hb); have n2_ := Aside0.mk (blk_below (g := gb232) (o := .cells #[.int .i64 a1_0, .slice A1_1 l1_1.length c1_1] 29 (0, 0)) (spec_l1Bent_vb BK232) hb); have n3_ := Aside0.mk (blk_below (g := gb233) (o := .cells #[.int .i64 0, .slice none 0 0] 29 (0, 0)) (spec_l1Bent_vb BK233) hb); have n4_ := Aside0.mk (KeepBut.trans (spec_l1Bent_auHK) (KeepBut.of_below hb g none) (.inl rfl)); have n5_ := Aside0.mk (below_step (spec_l1Bent_auHB) hb); have n6_ := Aside0.mk (hbox); have n7_ := Aside0.mk ((by rw [hg]; exact (keep_size (w := w) (g := g) (row := none) (spec_l1Bent_auHK)) : w.heap.size ≤ gb238)); have n8_ := Aside0.mk ((Nat.le_trans HW0.out (by rw [hg]; exact (keep_size (w := w) (g := g) (row := none) (spec_l1Bent_auHK)) : w.heap.size ≤ gb238) : w0.heap.size ≤ gb238)); have n9_ := Aside0.mk ((by rw [hg]; exact Nat.ne_of_lt (blk_lt (g := gb232) (o := .cells #[.int .i64 a1_0, .slice A1_1 l1_1.length c1_1] 29 (0, 0)) (spec_l1Bent_vb BK232)) : gb232 ≠ gb238)); have n10_ := Aside0.mk ((by rw [hg]; exact Nat.ne_of_gt (blk_lt (g := gb232) (o := .cells #[.int .i64 a1_0, .slice A1_1 l1_1.length c1_1] 29 (0, 0)) (spec_l1Bent_vb BK232)) : gb238 ≠ gb232)); have n11_ := Aside0.mk ((by rw [hg]; exact Nat.ne_of_lt (blk_lt (g := gb233) (o := .cells #[.int .i64 0, .slice none 0 0] 29 (0, 0)) (spec_l1Bent_vb BK233)) : gb233 ≠ gb238)); have n12_ := Aside0.mk ((by rw [hg]; exact Nat.ne_of_gt (blk_lt (g := gb233) (o := .cells #[.int .i64 0, .slice none 0 0] 29 (0, 0)) (spec_l1Bent_vb BK233)) : gb238 ≠ gb233)); have n13_ := Aside0.mk ((by rw [hg]; exact Nat.ne_of_lt (IsS84.lt (show IsS84 w0 _ g s0_0 s0_1 from spec_l1Bent_auHI0)) : g ≠ gb238)); have n14_ := Aside0.mk ((by rw [hg]; exact Nat.ne_of_gt (IsS84.lt (show IsS84 w0 _ g s0_0 s0_1 from spec_l1Bent_auHI0)) : gb238 ≠ g)); clear HO237; clear HI0; clear BK232; clear BK233; clear HK; clear HB; have HO237 := n0_; have HI0 := n1_; have BK232 := n2_; have BK233 := n3_; have HK := n4_; have HB := n5_; have BK238 := n6_; have GW238 := n7_; have GE238 := n8_; have NB232_238 := n9_; have NB238_232 := n10_; have NB233_238 := n11_; have NB238_233 := n12_; have NB0_238 := n13_; have NB238_0 := n14_; clear n0_ n1_ n2_ n3_ n4_ n5_ n6_ n7_ n8_ n9_ n10_ n11_ n12_ n13_ n14_; clear hb hbox hg; have hnb60 := NB238_232.out; have hnc60 := NB232_238.out; have hnb61 := NB238_233.out; have hnc61 := NB233_238.out; have hnb62 := NB238_0.out; have hnc62 := NB0_238.out; have hcz63_0 : w59.cell? ⟨gb238, 0, none⟩ = some (.int .i64 0) := (blk_cell BK238.out 0).trans rfl; have hcz63_1 : w59.cell? ⟨gb238, 1, none⟩ = some (.slice none 0 0) := (blk_cell BK238.out 1).trans rfl; have hfz63_0 := blk_frozen BK238.out 0; have hfz63_1 := blk_frozen BK238.out 1; obtain ⟨Ao64, co64, eo64⟩ := Kd.R_slice HO237.out; subst eo64) | ((with_reducible refine gate_callee (f := 67) rfl ?_); refine goesL_ (some 13) rfl rfl Tryd.func67 (by kernel_rfl) rfl #[.int .i64 1, .int .i64 (t235.length : Int)] rfl (by (try simp only [List.map_toArray, List.map_cons, List.map_nil]); first | done | rfl | (simp only [List.length_drop, List.length_take]; rfl)) ?_; (with_reducible refine (spec_l1Max.calls 1 (t235.length : Int) t239 _ A4.out).mono ?_); rintro e w' ⟨rfl, ⟨nd, rfl⟩⟩; refine ⟨_, rfl, ?_⟩) | ((with_reducible refine gate_callee (f := 41) rfl ?_); refine goesL_ (some 14) rfl rfl Tryd.func41 (by kernel_rfl) rfl #[.pointer (some ⟨g, 0, none⟩), .int .i64 t239] rfl (by (try simp only [List.map_toArray, List.map_cons, List.map_nil]); first | done | rfl | (simp only [List.length_drop, List.length_take]; rfl)) ?_; (with_reducible refine (spec_l9Rd_pick.calls k g s0_0 s0_1 t239 t240 t241 w0 _ ?side1 ?side2 A5.out).mono ?_); (case side1 => exact spec_l1Bent_auHI0); (case side2 => exact spec_l1Bent_auHB); rintro e w65 ⟨rfl, hi, hb, hk⟩; refine ⟨_, rfl, ?_⟩; have n0_ := Aside0.mk (KeepBut.blk hk (g' := gb232) (o := .cells #[.int .i64 a1_0, .slice A1_1 l1_1.length c1_1] 29 (0, 0)) (by (with_reducible repeat (first | refine blk_drewN ?_ _ | refine blk_drew ?_ | refine blk_alloc ?_ _)); refine blk_far ?_ NB232_238.out _; (with_reducible repeat (first | refine blk_drewN ?_ _ | refine blk_drew ?_ | refine blk_alloc ?_ _)); refine blk_far ?_ NB232_238.out _; (with_reducible repeat (first | refine blk_drewN ?_ _ | refine blk_drew ?_ | refine blk_alloc ?_ _)); exact BK232.out) NB232_0.out (by simp)); have n1_ := Aside0.mk (KeepBut.blk hk (g' := gb233) (o := .cells #[.int .i64 0, .slice none 0 0] 29 (0, 0)) (by (with_reducible repeat (first | refine blk_drewN ?_ _ | refine blk_drew ?_ | refine blk_alloc ?_ _)); refine blk_far ?_ NB233_238.out _; (with_reducible repeat (first | refine blk_drewN ?_ _ | refine blk_drew ?_ | refine blk_alloc ?_ _)); refine blk_far ?_ NB233_238.out _; (with_reducible repeat (first | refine blk_drewN ?_ _ | refine blk_drew ?_ | refine blk_alloc ?_ _)); exact BK233.out) NB233_0.out (by simp)); have n2_ := Aside0.mk (Kd.R_mono (Kd.R_keep (IsS84.apart (show IsS84 w0 _ g s0_0 s0_1 from spec_l1Bent_auHI0) (by (with_reducible repeat (first | apply Kd.R_alloc | apply Kd.R_drewN | apply Kd.R_drew)); exact (Kd.R_mono (Kd.R_far (p := ⟨gb238, 1, none⟩) (Kd.R_far (p := ⟨gb238, 0, none⟩) (Kd.R_types HO237.out BK238.out (by decide)) (fun _ hk => hk.2) (.int .i64 t234)) (fun _ hk => hk.2) (.slice Ao64 t235.length co64)) (fun _ h_ => h_.1))) (by decide)) hk (fun _ h => h.2)) (fun _ h => h.1)); have n3_ := Aside0.mk (KeepBut.blk hk (g' := gb238) (o := .cells #[.int .i64 t234, .slice Ao64 t235.length co64] 29 (0, 0)) (by (with_reducible repeat (first | refine blk_drewN ?_ _ | refine blk_drew ?_ | refine blk_alloc ?_ _)); refine blk_put (cs := #[.int .i64 t234, .slice none 0 0]) ?_ 1 _ rfl; (with_reducible repeat (first | refine blk_drewN ?_ _ | refine blk_drew ?_ | refine blk_alloc ?_ _)); refine blk_put (cs := #[.int .i64 0, .slice none 0 0]) ?_ 0 _ rfl; (with_reducible repeat (first | refine blk_drewN ?_ _ | refine blk_drew ?_ | refine blk_alloc ?_ _)); exact BK238.out) NB238_0.out (by simp)); have n4_ := Aside0.mk (KeepBut.trans (spec_l1Bent_auHK) hk (.inl rfl)); have n5_ := Aside0.mk (hb); have n6_ := Aside0.mk (hi); clear BK232; clear BK233; clear HO237; clear BK238; clear HK; clear HB; clear HI0; have BK232 := n0_; have BK233 := n1_; have HO237 := n2_; have BK238 := n3_; have HK := n4_; have HB := n5_; have HI0 := n6_; clear n0_ n1_ n2_ n3_ n4_ n5_ n6_; (try clear hb); (try clear hb2); (try clear hk); (try clear hi); have hcz66_0 : w65.cell? ⟨gb238, 0, none⟩ = some (.int .i64 t234) := (blk_cell BK238.out 0).trans rfl; have hcz66_1 : w65.cell? ⟨gb238, 1, none⟩ = some (.slice Ao64 t235.length co64) := (blk_cell BK238.out 1).trans rfl; have hfz66_0 := blk_frozen BK238.out 0; have hfz66_1 := blk_frozen BK238.out 1) | ((with_reducible refine gate_callee (f := 41) rfl ?_); refine goesL_ (some 21) rfl rfl Tryd.func41 (by kernel_rfl) rfl #[.pointer (some ⟨g, 0, none⟩), .int .i64 64] rfl (by (try simp only [List.map_toArray, List.map_cons, List.map_nil]); first | done | rfl | (simp only [List.length_drop, List.length_take]; rfl)) ?_; (with_reducible refine (spec_l9Rd_pick.calls k g s0_0 t241 64 t242 t243 w0 _ ?side1 ?side2 A23.out).mono ?_); (case side1 => exact spec_l1Bent_auHI0); (case side2 => exact spec_l1Bent_auHB); rintro e w67 ⟨rfl, hi, hb, hk⟩; refine ⟨_, rfl, ?_⟩; have n0_ := Aside0.mk (KeepBut.blk hk (g' := gb232) (o := .cells #[.int .i64 a1_0, .slice A1_1 l1_1.length c1_1] 29 (0, 0)) (spec_l1Bent_vb BK232) NB232_0.out (by simp)); have n1_ := Aside0.mk (KeepBut.blk hk (g' := gb233) (o := .cells #[.int .i64 0, .slice none 0 0] 29 (0, 0)) (spec_l1Bent_vb BK233) NB233_0.out (by simp)); have n2_ := Aside0.mk (Kd.R_mono (Kd.R_keep (IsS84.apart (show IsS84 w0 _ g s0_0 t241 from spec_l1Bent_auHI0) (by (with_reducible repeat (first | apply Kd.R_alloc | apply Kd.R_drewN | apply Kd.R_drew)); exact HO237.out) (by decide)) hk (fun _ h => h.2)) (fun _ h => h.1)); have n3_ := Aside0.mk (KeepBut.blk hk (g' := gb238) (o := .cells #[.int .i64 t234, .slice Ao64 t235.length co64] 29 (0, 0)) (spec_l1Bent_vb BK238) NB238_0.out (by simp)); have n4_ := Aside0.mk (KeepBut.trans (spec_l1Bent_auHK) hk (.inl rfl)); have n5_ := Aside0.mk (hb); have n6_ := Aside0.mk (hi); clear BK232; clear BK233; clear HO237; clear BK238; clear HK; clear HB; clear HI0; have BK232 := n0_; have BK233 := n1_; have HO237 := n2_; have BK238 := n3_; have HK := n4_; have HB := n5_; have HI0 := n6_; clear n0_ n1_ n2_ n3_ n4_ n5_ n6_; (try clear hb); (try clear hb2); (try clear hk); (try clear hi)))
      have n0_ := Aside0.mk (Kd.R_drew HO237.out)
      have n1_ := Aside0.mk (blk_drew BK232.out)
      have n2_ := Aside0.mk (blk_drew BK233.out)
      have n3_ := Aside0.mk (blk_drew BK238.out)
      have n4_ := Aside0.mk (IsS84.drew HI0.out)
      have n5_ := Aside0.mk (keep_drew HK.out)
      have n6_ := Aside0.mk (below_drew1 HB.out)
      clear HO237
      clear BK232
      clear BK233
      clear BK238
      clear HI0
      clear HK
      clear HB
      have HO237 := n0_
      have BK232 := n1_
      have BK233 := n2_
      have BK238 := n3_
      have HI0 := n4_
      have HK := n5_
      have HB := n6_
      clear n0_ n1_ n2_ n3_ n4_ n5_ n6_
      refine start_ (n := 9) (S := fun w' => w'.cell? ⟨gb238, 0, none⟩ = some (.int .i64 t234) ∧ w'.cell? ⟨gb238, 1, none⟩ = some (.slice Ao64 t235.length co64)) (ds := [8]) #[false, false, false, false, false, false, false, false, false] (by kernel_rfl) rfl rfl ⟨(blk_cell BK238.out 0).trans rfl, (blk_cell BK238.out 1).trans rfl⟩ (fun hHeld => ?_); refine with_tabW spec_l1Bent.tab9 spec_l1Bent.bits9 (fun HT_ HW_ => ?_)
      generalize w67.drew = w68 at HO237 BK232 BK233 BK238 HI0 HK HB hHeld ⊢
      refine pure_ (i := 0) (N := some 30) (v := ?_) (a' := ?_) #[true, false, false, false, false, false, false, false, false] rfl rfl (any_of HT_.out (by kernel_rfl)) (fun _ _ _ h => h) (Or.inl ⟨by rfl, ?_⟩) ?_ ?_
      rotate_left
      ·
       intro w'
       go_simp
       with_reducible rfl
      rotate_left
      ·
       simp only [Act.put, List.setIfInBounds_toArray, List.set_cons_zero, List.set_cons_succ, i64_w, i32_w]
       rfl
      refine pure_ (i := 2) (N := some 32) (v := ?_) (a' := ?_) #[true, false, true, false, false, false, false, false, false] rfl rfl (any_of HT_.out (by kernel_rfl)) (fun _ _ _ h => h) (Or.inl ⟨by rfl, ?_⟩) ?_ ?_
      rotate_left
      ·
       intro w'
       go_simp
       with_reducible rfl
      rotate_left
      ·
       simp only [Act.put, List.setIfInBounds_toArray, List.set_cons_zero, List.set_cons_succ, i64_w, i32_w]
       rfl
      refine pure_ (i := 3) (N := some 33) (v := ?_) (a' := ?_) #[true, false, true, true, false, false, false, false, false] rfl rfl (any_of HT_.out (by kernel_rfl)) (fun _ _ _ h => h) (Or.inl ⟨by rfl, ?_⟩) ?_ ?_
      rotate_left
      ·
       intro w'
       go_simp
       with_reducible rfl
      rotate_left
      ·
       simp only [Act.put, List.setIfInBounds_toArray, List.set_cons_zero, List.set_cons_succ, i64_w, i32_w]
       rfl
      refine take_ (i := 1) (N := some 31) (v := ?_) (a' := ?_) #[true, true, true, true, false, false, false, false, false] rfl rfl (take_ofW HT_.out HW_.out (by kernel_rfl)) (fun _ _ _ h => h) (Or.inl ⟨by rfl, ?_⟩) hHeld ?_ ?_
      rotate_left
      ·
       rintro w' ⟨s0, s1⟩
       go_simp
       with_reducible rfl
      rotate_left
      ·
       simp only [Act.put, List.setIfInBounds_toArray, List.set_cons_zero, List.set_cons_succ, i64_w, i32_w]
       rfl
      refine one_ (i := 4) (N := some 34) #[true, true, true, true, true, false, false, false, false] rfl rfl (one_of HT_.out (by kernel_rfl)) (by decide) (fun K hK => ?_)
      refine Kd.R_lit_step (Kd.int .i64) _ 3 ?hg (N := 34) ?hd (xs := ([0, 1000, 1001, (-1001), (-9223372036854775808)] : List Int)) (inner := [.int .i64 0, .int .i64 1000, .int .i64 1001, .int .i64 (-1001), .int .i64 (-9223372036854775808)]) (ok := fun _ => True) (okp := fun _ => True) ?hr ?hp (fun _ hk => hk) trivial (Below.refl _ _) (Nat.le_refl _) (by simp) ?_; (case hd => rfl); (case hg => rfl); (case hr => first | (go_simp; done) | (go_simp; rfl)); (case hp => exact (Reps.one (show Kd.M (Kd.int .i64) _ _ _ 0 [.int .i64 0] from rfl) (Reps.one (show Kd.M (Kd.int .i64) _ _ _ 1000 [.int .i64 1000] from rfl) (Reps.one (show Kd.M (Kd.int .i64) _ _ _ 1001 [.int .i64 1001] from rfl) (Reps.one (show Kd.M (Kd.int .i64) _ _ _ (-1001) [.int .i64 (-1001)] from rfl) (Reps.one (show Kd.M (Kd.int .i64) _ _ _ (-9223372036854775808) [.int .i64 (-9223372036854775808)] from rfl) (Reps.none _ _)))))))
      intro v250 w69 ho70 hb hg_ hnew_
      clear hg_ hnew_
      (first | rw [← Ny249.out] at ho70 | (simp only [Int.reduceToNat] at ho70; rw [← Ny249.out] at ho70))
      have n0_ := Aside0.mk (Kd.R_below (by (with_reducible repeat (first | apply Kd.R_alloc | apply Kd.R_drewN | apply Kd.R_drew)); exact HO237.out) hb)
      have n1_ := Aside0.mk (Kd.R_lower ho70 (keep_size (w := w) (g := g) (row := none) (spec_l1Bent_auHK)))
      have n2_ := Aside0.mk (IsS84.below (spec_l1Bent_auHI0) hb)
      have n3_ := Aside0.mk (blk_below (g := gb232) (o := .cells #[.int .i64 a1_0, .slice A1_1 l1_1.length c1_1] 29 (0, 0)) (spec_l1Bent_vb BK232) hb)
      have n4_ := Aside0.mk (blk_below (g := gb233) (o := .cells #[.int .i64 0, .slice none 0 0] 29 (0, 0)) (spec_l1Bent_vb BK233) hb)
      have n5_ := Aside0.mk (blk_below (g := gb238) (o := .cells #[.int .i64 t234, .slice Ao64 t235.length co64] 29 (0, 0)) (spec_l1Bent_vb BK238) hb)
      have n6_ := Aside0.mk (KeepBut.trans (spec_l1Bent_auHK) (KeepBut.of_below hb g none) (.inl rfl))
      have n7_ := Aside0.mk (below_step (spec_l1Bent_auHB) hb)
      clear HO237
      clear HI0
      clear BK232
      clear BK233
      clear BK238
      clear HK
      clear HB
      have HO237 := n0_
      have HO251 := n1_
      have HI0 := n2_
      have BK232 := n3_
      have BK233 := n4_
      have BK238 := n5_
      have HK := n6_
      have HB := n7_
      clear n0_ n1_ n2_ n3_ n4_ n5_ n6_ n7_
      clear hb ho70
      obtain ⟨Ao71, co71, eo71⟩ := Kd.R_slice HO251.out
      (first | subst eo71 | (injection eo71 with f1_ f2_ f3_; have f4_ := f1_.symm; have f5_ := f3_.symm; clear f1_ f2_ f3_; subst f4_; subst f5_))
      refine hK.out _ _ ⟨(blk_cell BK238.out 0).trans rfl, (blk_cell BK238.out 1).trans rfl⟩ (fun hHeld => ?_)
      clear hK K
      refine norm_ (a' := ?_) ?_ ?_
      rotate_left
      ·
       show Act.put _ (some 34) _ = _
       simp only [Act.put, List.setIfInBounds_toArray, List.set_cons_zero, List.set_cons_succ, i64_w, i32_w]
       rfl
      refine one_ (i := 5) (N := some 35) #[true, true, true, true, true, true, false, false, false] rfl rfl (one_of HT_.out (by kernel_rfl)) (by decide) (fun K hK => ?_)
      refine goes_ Tryd.func56 (by kernel_rfl) rfl #[.pointer (some ⟨g, 0, none⟩), .slice Ao71 y249.length co71] (by rfl) rfl rfl (by (try simp only [List.map_toArray, List.map_cons, List.map_nil]); first | done | rfl | (simp only [List.length_drop, List.length_take]; rfl)) ?_
      with_reducible refine (spec_l9Rd_num.calls k g s0_0 t243 _ _ y249 t252 t253 w0 _ ?side1 ?side2 ?side3 ?side4 ?side5 A49.out).mono ?_
      (case side1 => exact spec_l1Bent_auHI0)
      (case side2 => exact spec_l1Bent_auHB)
      (case side3 => repeat (first | exact (Kd.R_reads' HO251.out).2.2 | (with_reducible refine Kd.C_alloc ?_ _) | (with_reducible refine Kd.C_drewN ?_ _) | (with_reducible refine Kd.C_drew ?_)))
      (case side4 => exact (Kd.R_reads' HO251.out).2.1)
      (case side5 => exact far_slice (IsS84.own_ne HI0.out HO251.out (by decide)))
      rintro e w72 ⟨rfl, hi, hb, hk⟩
      refine ⟨_, rfl, ?_⟩
      have n0_ := Aside0.mk (KeepBut.blk hk (g' := gb232) (o := .cells #[.int .i64 a1_0, .slice A1_1 l1_1.length c1_1] 29 (0, 0)) (spec_l1Bent_vb BK232) NB232_0.out (by simp))
      have n1_ := Aside0.mk (KeepBut.blk hk (g' := gb233) (o := .cells #[.int .i64 0, .slice none 0 0] 29 (0, 0)) (spec_l1Bent_vb BK233) NB233_0.out (by simp))
      have n2_ := Aside0.mk (Kd.R_mono (Kd.R_keep (IsS84.apart (show IsS84 w0 _ g s0_0 t243 from spec_l1Bent_auHI0) (by (with_reducible repeat (first | apply Kd.R_alloc | apply Kd.R_drewN | apply Kd.R_drew)); exact HO237.out) (by decide)) hk (fun _ h => h.2)) (fun _ h => h.1))
      have n3_ := Aside0.mk (KeepBut.blk hk (g' := gb238) (o := .cells #[.int .i64 t234, .slice Ao64 t235.length co64] 29 (0, 0)) (spec_l1Bent_vb BK238) NB238_0.out (by simp))
      have n4_ := Aside0.mk (Kd.R_mono (Kd.R_keep (IsS84.apart (show IsS84 w0 _ g s0_0 t243 from spec_l1Bent_auHI0) (by (with_reducible repeat (first | apply Kd.R_alloc | apply Kd.R_drewN | apply Kd.R_drew)); exact HO251.out) (by decide)) hk (fun _ h => h.2)) (fun _ h => h.1))
      have n5_ := Aside0.mk (KeepBut.trans (spec_l1Bent_auHK) hk (.inl rfl))
      have n6_ := Aside0.mk (hb)
      have n7_ := Aside0.mk (hi)
      clear BK232
      clear BK233
      clear HO237
      clear BK238
      clear HO251
      clear HK
      clear HB
      clear HI0
      have BK232 := n0_
      have BK233 := n1_
      have HO237 := n2_
      have BK238 := n3_
      have HO251 := n4_
      have HK := n5_
      have HB := n6_
      have HI0 := n7_
      clear n0_ n1_ n2_ n3_ n4_ n5_ n6_ n7_
      (try clear hb)
      (try clear hb2)
      (try clear hk)
      (try clear hi)
      have p52 : 0 ≤ (t240 : Int) := of_decide_eq_true (by first | (with_reducible assumption) | assumption)
      have q52 : (t240 : Int) < ((t235.length : Int) : Int) := of_decide_eq_true (by first | (with_reducible assumption) | assumption)
      obtain ⟨go52, co52, eo52, gb52, gl52, cl52, HG52⟩ := Kd.R_form HO237.out (by omega)
      (first | cases eo52 | (injection eo52 with ea_ en_ ec_; (first | subst ea_ | (injection ea_ with ea_; subst ea_)); subst ec_; clear en_))
      have GB52 := Aside0.mk gb52
      have GG52 := Aside0.mk HG52
      clear gb52 gl52 HG52
      obtain ⟨ce52, hcl52, hM52, hcc52, hfr52⟩ := Kd.R_elem HO237.out z45 (t240 : Int) p52 q52
      obtain rfl := k45_openM hM52
      have hx52_0 : World.cell? _ ⟨go52, (t240 : Int).toNat * 3, none⟩ = some (.string ((rd_T45 t235 t240).f0)) := hcc52 0 _ rfl
      have hx52_1 : World.cell? _ ⟨go52, (t240 : Int).toNat * 3 + 1, none⟩ = some (.int .i64 ((rd_T45 t235 t240).f1)) := hcc52 1 _ rfl
      have hx52_2 : World.cell? _ ⟨go52, (t240 : Int).toNat * 3 + 2, none⟩ = some (.int .i64 ((rd_T45 t235 t240).f2)) := hcc52 2 _ rfl
      have hf52_0 : World.frozen? _ ⟨go52, (t240 : Int).toNat * 3, none⟩ = false := hfr52 0
      have hf52_1 : World.frozen? _ ⟨go52, (t240 : Int).toNat * 3 + 1, none⟩ = false := hfr52 1
      have hf52_2 : World.frozen? _ ⟨go52, (t240 : Int).toNat * 3 + 2, none⟩ = false := hfr52 2
      clear hcl52 hcc52 hfr52 hM52
      replace p52 := eq_true p52
      replace q52 := eq_true q52
      have HN0_go52 := Aside0.mk (show g ≠ go52 from by have h_ := IsS84.own_ne HI0.out HO237.out (by decide); intro e_; exact h_ (by rw [e_]; rfl))
      obtain ⟨ce73, hcl73, hM73, hcc73, hfr73⟩ := Kd.R_elem HO237.out z45 (t240 : Int) (of_decide_eq_true (by first | (with_reducible assumption) | assumption)) (by have h_ : (t240 : Int) < ((t235.length : Int) : Int) := of_decide_eq_true (by first | (with_reducible assumption) | assumption); first | exact h_ | (have e_ := (Kd.R_reads' HO237.out).1; omega) | simpa using h_)
      obtain rfl := k45_openM hM73
      have HP73 := (Kd.R_seg HO237.out (t240 : Int) (of_decide_eq_true (by first | (with_reducible assumption) | assumption)) (by have h_ : (t240 : Int) < ((t235.length : Int) : Int) := of_decide_eq_true (by first | (with_reducible assumption) | assumption); first | exact h_ | (have e_ := (Kd.R_reads' HO237.out).1; omega) | simpa using h_) (seg := [.int .i64 t252]) (j := 2) hcl73 hcc73 (show 3 ≤ 3 from by decide) (x' := (⟨(rd_T45 t235 t240).f0, (rd_T45 t235 t240).f1, t252⟩ : S45)) (k45_mkM _ _ _ (⟨(rd_T45 t235 t240).f0, (rd_T45 t235 t240).f1, t252⟩ : S45) ) (fun _ hk => hk)).1
      rw [← Ny254.out] at HP73
      have HQ73 := Aside0.mk HP73
      clear hcl73 hcc73 hfr73 hM73 HP73
      refine hK.out _ _ ⟨(blk_cell BK238.out 0).trans rfl, (blk_cell BK238.out 1).trans rfl⟩ (fun hHeld => ?_)
      clear hK K
      refine norm_ (a' := ?_) ?_ ?_
      rotate_left
      ·
       show Act.put _ (some 35) _ = _
       simp only [Act.put, List.setIfInBounds_toArray, List.set_cons_zero, List.set_cons_succ, i64_w, i32_w]
       rfl
      refine pure_ (i := 6) (N := some 36) (v := ?_) (a' := ?_) #[true, true, true, true, true, true, true, false, false] rfl rfl (any_of HT_.out (by kernel_rfl)) (fun _ _ _ h => h) (Or.inl ⟨by rfl, ?_⟩) ?_ ?_
      rotate_left
      ·
       intro w'
       go_simp
       with_reducible rfl
      rotate_left
      ·
       simp only [Act.put, List.setIfInBounds_toArray, List.set_cons_zero, List.set_cons_succ, i64_w, i32_w]
       rfl
      refine pure_ (i := 7) (N := some 37) (v := ?_) (a' := ?_) #[true, true, true, true, true, true, true, true, false] rfl rfl (any_of HT_.out (by kernel_rfl)) (fun _ _ _ h => h) (Or.inl ⟨by rfl, ?_⟩) ?_ ?_
      rotate_left
      ·
       intro w'
       go_simp
       with_reducible rfl
      rotate_left
      ·
       simp only [Act.put, List.setIfInBounds_toArray, List.set_cons_zero, List.set_cons_succ, i64_w, i32_w]
       rfl
      refine last_ (i := 8) (N := none) #[true, true, true, true, true, true, true, true, true] rfl rfl (one_of HT_.out (by kernel_rfl)) (by decide) (fun K hK => ?_)
      refine skip_ (w1 := ?_) (by rfl) rfl ?_ ?_
      rotate_left
      ·
       go_simp
       rfl
      refine hK.out _ _ ?_
      clear hK K
      refine done_ (done_of HT_.out (by kernel_rfl)) ?_
      have n0_ : Aside0 (Kd.R k45 45 (w72.setCell ⟨go52, (t240 : Int).toNat * 3 + 2, none⟩ (.int .i64 t252)) w.heap.size (fun _ => True) (.slice (some ⟨go52, 0, none⟩) t235.length co64) y254) := ⟨by (with_reducible repeat (first | apply Kd.R_alloc | apply Kd.R_drewN | apply Kd.R_drew)); exact HQ73.out⟩
      have n1_ : Aside0 (Kd.R (Kd.int .i64) 3 (w72.setCell ⟨go52, (t240 : Int).toNat * 3 + 2, none⟩ (.int .i64 t252)) w.heap.size (fun _ => True) (.slice Ao71 y249.length co71) y249) := ⟨by (with_reducible repeat (first | apply Kd.R_alloc | apply Kd.R_drewN | apply Kd.R_drew)); exact Kd.R_mono (Kd.R_far (p := ⟨go52, (t240 : Int).toNat * 3 + 2, none⟩) (Kd.R_types HO251.out GG52.out (by decide)) (fun _ hk => hk.2) (.int .i64 t252)) (fun _ hk => trivial)⟩
      have n2_ : Aside0 ((w72.setCell ⟨go52, (t240 : Int).toNat * 3 + 2, none⟩ (.int .i64 t252)).heap[gb232]? = some (.cells #[.int .i64 a1_0, .slice A1_1 l1_1.length c1_1] 29 (0, 0))) := ⟨by (with_reducible repeat (first | refine blk_drewN ?_ _ | refine blk_drew ?_ | refine blk_alloc ?_ _)); refine blk_far ?_ (by have h_ := Kd.R_ne HO237.out BK232.out (by decide); intro e_; exact h_ (by rw [e_]; rfl)) _; (with_reducible repeat (first | refine blk_drewN ?_ _ | refine blk_drew ?_ | refine blk_alloc ?_ _)); exact BK232.out⟩
      have n3_ : Aside0 ((w72.setCell ⟨go52, (t240 : Int).toNat * 3 + 2, none⟩ (.int .i64 t252)).heap[gb233]? = some (.cells #[.int .i64 0, .slice none 0 0] 29 (0, 0))) := ⟨by (with_reducible repeat (first | refine blk_drewN ?_ _ | refine blk_drew ?_ | refine blk_alloc ?_ _)); refine blk_far ?_ (by have h_ := Kd.R_ne HO237.out BK233.out (by decide); intro e_; exact h_ (by rw [e_]; rfl)) _; (with_reducible repeat (first | refine blk_drewN ?_ _ | refine blk_drew ?_ | refine blk_alloc ?_ _)); exact BK233.out⟩
      have n4_ : Aside0 ((w72.setCell ⟨go52, (t240 : Int).toNat * 3 + 2, none⟩ (.int .i64 t252)).heap[gb238]? = some (.cells #[.int .i64 t234, .slice (some ⟨go52, 0, none⟩) t235.length co64] 29 (0, 0))) := ⟨by (with_reducible repeat (first | refine blk_drewN ?_ _ | refine blk_drew ?_ | refine blk_alloc ?_ _)); refine blk_far ?_ (by have h_ := Kd.R_ne HO237.out BK238.out (by decide); intro e_; exact h_ (by rw [e_]; rfl)) _; (with_reducible repeat (first | refine blk_drewN ?_ _ | refine blk_drew ?_ | refine blk_alloc ?_ _)); exact BK238.out⟩
      have n5_ : Aside0 (IsS84 w0 (w72.setCell ⟨go52, (t240 : Int).toNat * 3 + 2, none⟩ (.int .i64 t252)) g s0_0 t253) := ⟨spec_l1Bent_auHI0⟩
      have n6_ : Aside0 (KeepBut w (w72.setCell ⟨go52, (t240 : Int).toNat * 3 + 2, none⟩ (.int .i64 t252)) g none) := ⟨spec_l1Bent_auHK⟩
      have n7_ : Aside0 (Below w0.heap.size w0 (w72.setCell ⟨go52, (t240 : Int).toNat * 3 + 2, none⟩ (.int .i64 t252))) := ⟨spec_l1Bent_auHB⟩
      (try clear HO237)
      (try clear HO251)
      (try clear BK232)
      (try clear BK233)
      (try clear BK238)
      (try clear HI0)
      (try clear HK)
      (try clear HB)
      generalize (w72.setCell ⟨go52, (t240 : Int).toNat * 3 + 2, none⟩ (.int .i64 t252)) = w74 at n0_ n1_ n2_ n3_ n4_ n5_ n6_ n7_ ⊢
      have HO237 := n0_
      have HO251 := n1_
      have BK232 := n2_
      have BK233 := n3_
      have BK238 := n4_
      have HI0 := n5_
      have HK := n6_
      have HB := n7_
      clear n0_ n1_ n2_ n3_ n4_ n5_ n6_ n7_
      have hcz75_0 : w74.cell? ⟨gb238, 0, none⟩ = some (.int .i64 t234) := (blk_cell BK238.out 0).trans rfl
      have hcz75_1 : w74.cell? ⟨gb238, 1, none⟩ = some (.slice (some ⟨go52, 0, none⟩) t235.length co64) := (blk_cell BK238.out 1).trans rfl
      have hfz75_0 := blk_frozen BK238.out 0
      have hfz75_1 := blk_frozen BK238.out 1
      have hnb76 := NB233_0.out
      have hnc76 := NB0_233.out
      have hcz77_0 : w74.cell? ⟨gb233, 0, none⟩ = some (.int .i64 0) := (blk_cell BK233.out 0).trans rfl
      have hcz77_1 : w74.cell? ⟨gb233, 1, none⟩ = some (.slice none 0 0) := (blk_cell BK233.out 1).trans rfl
      have hfz77_0 := blk_frozen BK233.out 0
      have hfz77_1 := blk_frozen BK233.out 1
      try go_wp2
      refine bodyPost_ret (results_cell_row rfl _ _ gb233 29 #[.int .i64 t234, .slice (some ⟨go52, 0, none⟩) t235.length co64] (0, 0) _ rfl (by (with_reducible repeat (first | refine blk_drewN ?_ _ | refine blk_drew ?_ | refine blk_alloc ?_ _)); refine blk_put (cs := #[.int .i64 t234, .slice none 0 0]) ?_ 1 _ rfl; (with_reducible repeat (first | refine blk_drewN ?_ _ | refine blk_drew ?_ | refine blk_alloc ?_ _)); refine blk_put (cs := #[.int .i64 0, .slice none 0 0]) ?_ 0 _ rfl; (with_reducible repeat (first | refine blk_drewN ?_ _ | refine blk_drew ?_ | refine blk_alloc ?_ _)); exact BK233.out) Tryd.underlying29 rfl (by kernel_rfl)) rfl ?_
      exact ⟨_, by first | rfl | (simp [errW_none, errW_some] <;> rfl) | (simp [*, errW_none, errW_some] <;> rfl), by (with_reducible repeat (first | apply Kd.R_alloc | apply Kd.R_drewN | apply Kd.R_drew)); exact Kd.R_mono (Kd.R_far (p := ⟨gb233, 1, none⟩) (Kd.R_far (p := ⟨gb233, 0, none⟩) (Kd.R_types HO237.out BK233.out (by decide)) (fun _ hk => hk.2) (.int .i64 t234)) (fun _ hk => hk.2) (.slice (some ⟨go52, 0, none⟩) t235.length co64)) (fun _ hk => trivial), spec_l1Bent_auHI0, spec_l1Bent_auHB, spec_l1Bent_auHK⟩
     ·
      rw [if_neg c51] at H
      exact absurd H (by simp)
    ·
     rw [if_neg c50] at H
     exact absurd H (by simp)
   ·
    rw [if_neg c48] at H
    have c48b0 : (t242 == 1) = false := beq_eq_false_iff_ne.mpr c48
    have c48b1 : (t242 != 1) = true := bne_iff_ne.mpr c48
    by_cases c78 : t242 = 2
    ·
     rw [if_pos c78] at H
     have c78b0 : (t242 == 2) = true := beq_iff_eq.mpr c78
     have c78b1 : (t242 != 2) = false := bne_eq_false_iff_eq.mpr c78
     clear c78
     obtain ⟨y255, hy255⟩ : ∃ y_ : List ByteArray, y_ = (([(⟨#[]⟩ : ByteArray), (⟨#[65]⟩ : ByteArray), (⟨#[97, 98, 99, 100, 101]⟩ : ByteArray), (⟨#[97, 32, 98]⟩ : ByteArray), (⟨#[97, 58]⟩ : ByteArray)] : List ByteArray)) := ⟨_, rfl⟩
     replace H : ((spec_l9Rd_of.f k s0_0 t243 y255).bind fun bt258 => (if 0 ≤ t240 then (if t240 < (t235.length : Int) then (some (t234, (t235.set (t240 : Int).toNat (⟨bt258.1, (rd_T45 t235 t240).f1, (rd_T45 t235 t240).f2⟩ : S45)), bt258.2)) else (none)) else (none))) = some (r1, r2, r3) := by first | (rw [hy255]; with_reducible exact H) | (have H2_ := (Option.bind_some _ _).symm.trans H; rw [hy255]; with_reducible exact H2_) | (have H2_ := (Option.bind_some _ _).symm.trans H; with_reducible exact H2_) | with_reducible exact H | (rw [hy255]; exact H) | exact H
     have Ny255 := Aside0.mk hy255
     clear hy255
     replace H := Option.bind_eq_some_iff.mp H
     obtain ⟨⟨t258, t259⟩, A790, H⟩ := H
     replace H : (if 0 ≤ t240 then (if t240 < (t235.length : Int) then (some (t234, (t235.set (t240 : Int).toNat (⟨t258, (rd_T45 t235 t240).f1, (rd_T45 t235 t240).f2⟩ : S45)), t259)) else (none)) else (none)) = some (r1, r2, r3) := H
     have A79 := Aside0.mk A790
     clear A790
     by_cases c80 : 0 ≤ t240
     ·
      rw [if_pos c80] at H
      have c80b0 : decide (0 ≤ t240) = true := decide_eq_true c80
      clear c80
      by_cases c81 : t240 < (t235.length : Int)
      ·
       rw [if_pos c81] at H
       have c81b0 : decide (t240 < (t235.length : Int)) = true := decide_eq_true c81
       clear c81
       obtain ⟨y260, hy260⟩ : ∃ y_ : List (S45), y_ = (t235.set (t240 : Int).toNat (⟨t258, (rd_T45 t235 t240).f1, (rd_T45 t235 t240).f2⟩ : S45)) := ⟨_, rfl⟩
       replace H : (some (t234, y260, t259)) = some (r1, r2, r3) := by first | (rw [hy260]; with_reducible exact H) | (have H2_ := (Option.bind_some _ _).symm.trans H; rw [hy260]; with_reducible exact H2_) | (have H2_ := (Option.bind_some _ _).symm.trans H; with_reducible exact H2_) | with_reducible exact H | (rw [hy260]; exact H) | exact H
       have Ny260 := Aside0.mk hy260
       clear hy260
       simp only [Option.some.injEq, Prod.mk.injEq] at H
       obtain ⟨rfl, rfl, rfl⟩ := H
       go_enter Tryd.func53, Tryd.ntmps53
       try go_wp2_with (first | ((with_reducible refine gate_dst (N := 3) rfl ?_); refine box_event ?hg (N := 3) ?hd (cs := #[.int .i64 a1_0, .slice A1_1 l1_1.length c1_1]) (t := 29) ?hr ?_; (case hd => rfl); (case hg => rfl); (case hr => first | (go_simp; done) | (go_simp; rfl)); intro gb232 hg w83 hbox hb; have n0_ := Aside0.mk (IsS84.below (spec_l1Bent_auHI0) hb); have n1_ := Aside0.mk (KeepBut.trans (spec_l1Bent_auHK) (KeepBut.of_below hb g none) (.inl rfl)); have n2_ := Aside0.mk (below_step (spec_l1Bent_auHB) hb); have n3_ := Aside0.mk (hbox); have n4_ := Aside0.mk ((by rw [hg]; exact (keep_size (w := w) (g := g) (row := none) (spec_l1Bent_auHK)) : w.heap.size ≤ gb232)); have n5_ := Aside0.mk ((Nat.le_trans HW0.out (by rw [hg]; exact (keep_size (w := w) (g := g) (row := none) (spec_l1Bent_auHK)) : w.heap.size ≤ gb232) : w0.heap.size ≤ gb232)); have n6_ := Aside0.mk ((by rw [hg]; exact Nat.ne_of_lt (IsS84.lt (show IsS84 w0 _ g s0_0 s0_1 from spec_l1Bent_auHI0)) : g ≠ gb232)); have n7_ := Aside0.mk ((by rw [hg]; exact Nat.ne_of_gt (IsS84.lt (show IsS84 w0 _ g s0_0 s0_1 from spec_l1Bent_auHI0)) : gb232 ≠ g)); clear HI0; clear HK; clear HB; have HI0 := n0_; have HK := n1_; have HB := n2_; have BK232 := n3_; have GW232 := n4_; have GE232 := n5_; have NB0_232 := n6_; have NB232_0 := n7_; clear n0_ n1_ n2_ n3_ n4_ n5_ n6_ n7_; clear hb hbox hg) | ((with_reducible refine gate_dst (N := 4) rfl ?_); refine box_event ?hg (N := 4) ?hd (cs := #[.int .i64 0, .slice none 0 0]) (t := 29) ?hr ?_; (case hd => rfl); (case hg => rfl); (case hr => first | (go_simp; done) | (go_simp; rfl)); intro gb233 hg w84 hbox hb; have n0_ := Aside0.mk (IsS84.below (spec_l1Bent_auHI0) hb); have n1_ := Aside0.mk (blk_below (g := gb232) (o := .cells #[.int .i64 a1_0, .slice A1_1 l1_1.length c1_1] 29 (0, 0)) (spec_l1Bent_vb BK232) hb); have n2_ := Aside0.mk (KeepBut.trans (spec_l1Bent_auHK) (KeepBut.of_below hb g none) (.inl rfl)); have n3_ := Aside0.mk (below_step (spec_l1Bent_auHB) hb); have n4_ := Aside0.mk (hbox); have n5_ := Aside0.mk ((by rw [hg]; exact (keep_size (w := w) (g := g) (row := none) (spec_l1Bent_auHK)) : w.heap.size ≤ gb233)); have n6_ := Aside0.mk ((Nat.le_trans HW0.out (by rw [hg]; exact (keep_size (w := w) (g := g) (row := none) (spec_l1Bent_auHK)) : w.heap.size ≤ gb233) : w0.heap.size ≤ gb233)); have n7_ := Aside0.mk ((by rw [hg]; exact Nat.ne_of_lt (blk_lt (g := gb232) (o := .cells #[.int .i64 a1_0, .slice A1_1 l1_1.length c1_1] 29 (0, 0)) (spec_l1Bent_vb BK232)) : gb232 ≠ gb233)); have n8_ := Aside0.mk ((by rw [hg]; exact Nat.ne_of_gt (blk_lt (g := gb232) (o := .cells #[.int .i64 a1_0, .slice A1_1 l1_1.length c1_1] 29 (0, 0)) (spec_l1Bent_vb BK232)) : gb233 ≠ gb232)); have n9_ := Aside0.mk ((by rw [hg]; exact Nat.ne_of_lt (IsS84.lt (show IsS84 w0 _ g s0_0 s0_1 from spec_l1Bent_auHI0)) : g ≠ gb233)); have n10_ := Aside0.mk ((by rw [hg]; exact Nat.ne_of_gt (IsS84.lt (show IsS84 w0 _ g s0_0 s0_1 from spec_l1Bent_auHI0)) : gb233 ≠ g)); clear HI0; clear BK232; clear HK; clear HB; have HI0 := n0_; have BK232 := n1_; have HK := n2_; have HB := n3_; have BK233 := n4_; have GW233 := n5_; have GE233 := n6_; have NB232_233 := n7_; have NB233_232 := n8_; have NB0_233 := n9_; have NB233_0 := n10_; clear n0_ n1_ n2_ n3_ n4_ n5_ n6_ n7_ n8_ n9_ n10_; clear hb hbox hg; have hnb85 := NB232_233.out; have hnc85 := NB233_232.out; have hnb86 := NB232_0.out; have hnc86 := NB0_232.out; have hcz87_0 : w84.cell? ⟨gb232, 0, none⟩ = some (.int .i64 a1_0) := (blk_cell BK232.out 0).trans rfl; have hcz87_1 : w84.cell? ⟨gb232, 1, none⟩ = some (.slice A1_1 l1_1.length c1_1) := (blk_cell BK232.out 1).trans rfl; have hfz87_0 := blk_frozen BK232.out 0; have hfz87_1 := blk_frozen BK232.out 1) | ((with_reducible refine gate_callee (f := 66) rfl ?_); refine goesL_ (some 8) rfl rfl Tryd.func66 (by kernel_rfl) rfl #[.agg #[.int .i64 a1_0, .slice A1_1 l1_1.length c1_1]] rfl (by (try simp only [List.map_toArray, List.map_cons, List.map_nil]); first | done | rfl | (simp only [List.length_drop, List.length_take]; rfl)) ?_; (with_reducible refine (spec_l1Copy.calls a1_0 _ _ l1_1 t234 t235 _ ?side1 ?side2 A3.out).mono ?_); (case side1 => exact Kd.C_foot_now HR1_1.out (spec_l1Bent_auHK)); (case side2 => exact HC1_1.out); rintro e w88 ⟨v236, rfl, ho0, hb⟩; refine ⟨_, rfl, ?_⟩; have n0_ := Aside0.mk (Kd.R_lower ho0 (keep_size (w := w) (g := g) (row := none) (spec_l1Bent_auHK))); have n1_ := Aside0.mk (IsS84.below (spec_l1Bent_auHI0) hb); have n2_ := Aside0.mk (blk_below (g := gb232) (o := .cells #[.int .i64 a1_0, .slice A1_1 l1_1.length c1_1] 29 (0, 0)) (spec_l1Bent_vb BK232) hb); have n3_ := Aside0.mk (blk_below (g := gb233) (o := .cells #[.int .i64 0, .slice none 0 0] 29 (0, 0)) (spec_l1Bent_vb BK233) hb); have n4_ := Aside0.mk (KeepBut.trans (spec_l1Bent_auHK) (KeepBut.of_below hb g none) (.inl rfl)); have n5_ := Aside0.mk (below_step (spec_l1Bent_auHB) hb); clear HI0; clear BK232; clear BK233; clear HK; clear HB; have HO237 := n0_; have HI0 := n1_; have BK232 := n2_; have BK233 := n3_; have HK := n4_; have HB := n5_; clear n0_ n1_ n2_ n3_ n4_ n5_; (try clear hb); (try clear hb2); (try clear hk); (try clear hi); (try clear ho0)) | ((with_reducible refine gate_dst (N := 5) rfl ?_); refine box_event ?hg (N := 5) ?hd (cs := #[.int .i64 0, .slice none 0 0]) (t := 29) ?hr ?_; (case hd => rfl); (case hg => rfl); (case hr => first | (go_simp; done) | (go_simp; rfl)); intro gb238 hg w89 hbox hb; have n0_ := Aside0.mk (Kd.R_below (by (with_reducible repeat (first | apply Kd.R_alloc | apply Kd.R_drewN | apply Kd.R_drew)); exact HO237.out) hb); have n1_ := Aside0.mk (IsS84.below (spec_l1Bent_auHI0) hb); have n2_ := Aside0.mk (blk_below (g := gb232) (o := .cells #[.int .i64 a1_0, .slice A1_1 l1_1.length c1_1] 29 (0, 0)) (spec_l1Bent_vb BK232) hb); have n3_ := Aside0.mk (blk_below (g := gb233) (o := .cells #[.int .i64 0, .slice none 0 0] 29 (0, 0)) (spec_l1Bent_vb BK233) hb); have n4_ := Aside0.mk (KeepBut.trans (spec_l1Bent_auHK) (KeepBut.of_below hb g none) (.inl rfl)); have n5_ := Aside0.mk (below_step (spec_l1Bent_auHB) hb); have n6_ := Aside0.mk (hbox); have n7_ := Aside0.mk ((by rw [hg]; exact (keep_size (w := w) (g := g) (row := none) (spec_l1Bent_auHK)) : w.heap.size ≤ gb238)); have n8_ := Aside0.mk ((Nat.le_trans HW0.out (by rw [hg]; exact (keep_size (w := w) (g := g) (row := none) (spec_l1Bent_auHK)) : w.heap.size ≤ gb238) : w0.heap.size ≤ gb238)); have n9_ := Aside0.mk ((by rw [hg]; exact Nat.ne_of_lt (blk_lt (g := gb232) (o := .cells #[.int .i64 a1_0, .slice A1_1 l1_1.length c1_1] 29 (0, 0)) (spec_l1Bent_vb BK232)) : gb232 ≠ gb238)); have n10_ := Aside0.mk ((by rw [hg]; exact Nat.ne_of_gt (blk_lt (g := gb232) (o := .cells #[.int .i64 a1_0, .slice A1_1 l1_1.length c1_1] 29 (0, 0)) (spec_l1Bent_vb BK232)) : gb238 ≠ gb232)); have n11_ := Aside0.mk ((by rw [hg]; exact Nat.ne_of_lt (blk_lt (g := gb233) (o := .cells #[.int .i64 0, .slice none 0 0] 29 (0, 0)) (spec_l1Bent_vb BK233)) : gb233 ≠ gb238)); have n12_ := Aside0.mk ((by rw [hg]; exact Nat.ne_of_gt (blk_lt (g := gb233) (o := .cells #[.int .i64 0, .slice none 0 0] 29 (0, 0)) (spec_l1Bent_vb BK233)) : gb238 ≠ gb233)); have n13_ := Aside0.mk ((by rw [hg]; exact Nat.ne_of_lt (IsS84.lt (show IsS84 w0 _ g s0_0 s0_1 from spec_l1Bent_auHI0)) : g ≠ gb238)); have n14_ := Aside0.mk ((by rw [hg]; exact Nat.ne_of_gt (IsS84.lt (show IsS84 w0 _ g s0_0 s0_1 from spec_l1Bent_auHI0)) : gb238 ≠ g)); clear HO237; clear HI0; clear BK232; clear BK233; clear HK; clear HB; have HO237 := n0_; have HI0 := n1_; have BK232 := n2_; have BK233 := n3_; have HK := n4_; have HB := n5_; have BK238 := n6_; have GW238 := n7_; have GE238 := n8_; have NB232_238 := n9_; have NB238_232 := n10_; have NB233_238 := n11_; have NB238_233 := n12_; have NB0_238 := n13_; have NB238_0 := n14_; clear n0_ n1_ n2_ n3_ n4_ n5_ n6_ n7_ n8_ n9_ n10_ n11_ n12_ n13_ n14_; clear hb hbox hg; have hnb90 := NB238_232.out; have hnc90 := NB232_238.out; have hnb91 := NB238_233.out; have hnc91 := NB233_238.out; have hnb92 := NB238_0.out; have hnc92 := NB0_238.out; have hcz93_0 : w89.cell? ⟨gb238, 0, none⟩ = some (.int .i64 0) := (blk_cell BK238.out 0).trans rfl; have hcz93_1 : w89.cell? ⟨gb238, 1, none⟩ = some (.slice none 0 0) := (blk_cell BK238.out 1).trans rfl; have hfz93_0 := blk_frozen BK238.out 0; have hfz93_1 := blk_frozen BK238.out 1; obtain ⟨Ao94, co94, eo94⟩ := Kd.R_slice HO237.out; subst eo94) | ((with_reducible refine gate_callee (f := 67) rfl ?_); refine goesL_ (some 13) rfl rfl Tryd.func67 (by kernel_rfl) rfl #[.int .i64 1, .int .i64 (t235.length : Int)] rfl (by (try simp only [List.map_toArray, List.map_cons, List.map_nil]); first | done | rfl | (simp only [List.length_drop, List.length_take]; rfl)) ?_; (with_reducible refine (spec_l1Max.calls 1 (t235.length : Int) t239 _ A4.out).mono ?_); rintro e w' ⟨rfl, ⟨nd, rfl⟩⟩; refine ⟨_, rfl, ?_⟩) | ((with_reducible refine gate_callee (f := 41) rfl ?_); refine goesL_ (some 14) rfl rfl Tryd.func41 (by kernel_rfl) rfl #[.pointer (some ⟨g, 0, none⟩), .int .i64 t239] rfl (by (try simp only [List.map_toArray, List.map_cons, List.map_nil]); first | done | rfl | (simp only [List.length_drop, List.length_take]; rfl)) ?_; (with_reducible refine (spec_l9Rd_pick.calls k g s0_0 s0_1 t239 t240 t241 w0 _ ?side1 ?side2 A5.out).mono ?_); (case side1 => exact spec_l1Bent_auHI0); (case side2 => exact spec_l1Bent_auHB); rintro e w95 ⟨rfl, hi, hb, hk⟩; refine ⟨_, rfl, ?_⟩; have n0_ := Aside0.mk (KeepBut.blk hk (g' := gb232) (o := .cells #[.int .i64 a1_0, .slice A1_1 l1_1.length c1_1] 29 (0, 0)) (by (with_reducible repeat (first | refine blk_drewN ?_ _ | refine blk_drew ?_ | refine blk_alloc ?_ _)); refine blk_far ?_ NB232_238.out _; (with_reducible repeat (first | refine blk_drewN ?_ _ | refine blk_drew ?_ | refine blk_alloc ?_ _)); refine blk_far ?_ NB232_238.out _; (with_reducible repeat (first | refine blk_drewN ?_ _ | refine blk_drew ?_ | refine blk_alloc ?_ _)); exact BK232.out) NB232_0.out (by simp)); have n1_ := Aside0.mk (KeepBut.blk hk (g' := gb233) (o := .cells #[.int .i64 0, .slice none 0 0] 29 (0, 0)) (by (with_reducible repeat (first | refine blk_drewN ?_ _ | refine blk_drew ?_ | refine blk_alloc ?_ _)); refine blk_far ?_ NB233_238.out _; (with_reducible repeat (first | refine blk_drewN ?_ _ | refine blk_drew ?_ | refine blk_alloc ?_ _)); refine blk_far ?_ NB233_238.out _; (with_reducible repeat (first | refine blk_drewN ?_ _ | refine blk_drew ?_ | refine blk_alloc ?_ _)); exact BK233.out) NB233_0.out (by simp)); have n2_ := Aside0.mk (Kd.R_mono (Kd.R_keep (IsS84.apart (show IsS84 w0 _ g s0_0 s0_1 from spec_l1Bent_auHI0) (by (with_reducible repeat (first | apply Kd.R_alloc | apply Kd.R_drewN | apply Kd.R_drew)); exact (Kd.R_mono (Kd.R_far (p := ⟨gb238, 1, none⟩) (Kd.R_far (p := ⟨gb238, 0, none⟩) (Kd.R_types HO237.out BK238.out (by decide)) (fun _ hk => hk.2) (.int .i64 t234)) (fun _ hk => hk.2) (.slice Ao94 t235.length co94)) (fun _ h_ => h_.1))) (by decide)) hk (fun _ h => h.2)) (fun _ h => h.1)); have n3_ := Aside0.mk (KeepBut.blk hk (g' := gb238) (o := .cells #[.int .i64 t234, .slice Ao94 t235.length co94] 29 (0, 0)) (by (with_reducible repeat (first | refine blk_drewN ?_ _ | refine blk_drew ?_ | refine blk_alloc ?_ _)); refine blk_put (cs := #[.int .i64 t234, .slice none 0 0]) ?_ 1 _ rfl; (with_reducible repeat (first | refine blk_drewN ?_ _ | refine blk_drew ?_ | refine blk_alloc ?_ _)); refine blk_put (cs := #[.int .i64 0, .slice none 0 0]) ?_ 0 _ rfl; (with_reducible repeat (first | refine blk_drewN ?_ _ | refine blk_drew ?_ | refine blk_alloc ?_ _)); exact BK238.out) NB238_0.out (by simp)); have n4_ := Aside0.mk (KeepBut.trans (spec_l1Bent_auHK) hk (.inl rfl)); have n5_ := Aside0.mk (hb); have n6_ := Aside0.mk (hi); clear BK232; clear BK233; clear HO237; clear BK238; clear HK; clear HB; clear HI0; have BK232 := n0_; have BK233 := n1_; have HO237 := n2_; have BK238 := n3_; have HK := n4_; have HB := n5_; have HI0 := n6_; clear n0_ n1_ n2_ n3_ n4_ n5_ n6_; (try clear hb); (try clear hb2); (try clear hk); (try clear hi); have hcz96_0 : w95.cell? ⟨gb238, 0, none⟩ = some (.int .i64 t234) := (blk_cell BK238.out 0).trans rfl; have hcz96_1 : w95.cell? ⟨gb238, 1, none⟩ = some (.slice Ao94 t235.length co94) := (blk_cell BK238.out 1).trans rfl; have hfz96_0 := blk_frozen BK238.out 0; have hfz96_1 := blk_frozen BK238.out 1) | ((with_reducible refine gate_callee (f := 41) rfl ?_); refine goesL_ (some 21) rfl rfl Tryd.func41 (by kernel_rfl) rfl #[.pointer (some ⟨g, 0, none⟩), .int .i64 64] rfl (by (try simp only [List.map_toArray, List.map_cons, List.map_nil]); first | done | rfl | (simp only [List.length_drop, List.length_take]; rfl)) ?_; (with_reducible refine (spec_l9Rd_pick.calls k g s0_0 t241 64 t242 t243 w0 _ ?side1 ?side2 A23.out).mono ?_); (case side1 => exact spec_l1Bent_auHI0); (case side2 => exact spec_l1Bent_auHB); rintro e w97 ⟨rfl, hi, hb, hk⟩; refine ⟨_, rfl, ?_⟩; have n0_ := Aside0.mk (KeepBut.blk hk (g' := gb232) (o := .cells #[.int .i64 a1_0, .slice A1_1 l1_1.length c1_1] 29 (0, 0)) (spec_l1Bent_vb BK232) NB232_0.out (by simp)); have n1_ := Aside0.mk (KeepBut.blk hk (g' := gb233) (o := .cells #[.int .i64 0, .slice none 0 0] 29 (0, 0)) (spec_l1Bent_vb BK233) NB233_0.out (by simp)); have n2_ := Aside0.mk (Kd.R_mono (Kd.R_keep (IsS84.apart (show IsS84 w0 _ g s0_0 t241 from spec_l1Bent_auHI0) (by (with_reducible repeat (first | apply Kd.R_alloc | apply Kd.R_drewN | apply Kd.R_drew)); exact HO237.out) (by decide)) hk (fun _ h => h.2)) (fun _ h => h.1)); have n3_ := Aside0.mk (KeepBut.blk hk (g' := gb238) (o := .cells #[.int .i64 t234, .slice Ao94 t235.length co94] 29 (0, 0)) (spec_l1Bent_vb BK238) NB238_0.out (by simp)); have n4_ := Aside0.mk (KeepBut.trans (spec_l1Bent_auHK) hk (.inl rfl)); have n5_ := Aside0.mk (hb); have n6_ := Aside0.mk (hi); clear BK232; clear BK233; clear HO237; clear BK238; clear HK; clear HB; clear HI0; have BK232 := n0_; have BK233 := n1_; have HO237 := n2_; have BK238 := n3_; have HK := n4_; have HB := n5_; have HI0 := n6_; clear n0_ n1_ n2_ n3_ n4_ n5_ n6_; (try clear hb); (try clear hb2); (try clear hk); (try clear hi)))
       have n0_ := Aside0.mk (Kd.R_drew HO237.out)
       have n1_ := Aside0.mk (blk_drew BK232.out)
       have n2_ := Aside0.mk (blk_drew BK233.out)
       have n3_ := Aside0.mk (blk_drew BK238.out)
       have n4_ := Aside0.mk (IsS84.drew HI0.out)
       have n5_ := Aside0.mk (keep_drew HK.out)
       have n6_ := Aside0.mk (below_drew1 HB.out)
       clear HO237
       clear BK232
       clear BK233
       clear BK238
       clear HI0
       clear HK
       clear HB
       have HO237 := n0_
       have BK232 := n1_
       have BK233 := n2_
       have BK238 := n3_
       have HI0 := n4_
       have HK := n5_
       have HB := n6_
       clear n0_ n1_ n2_ n3_ n4_ n5_ n6_
       refine start_ (n := 9) (S := fun w' => w'.cell? ⟨gb238, 0, none⟩ = some (.int .i64 t234) ∧ w'.cell? ⟨gb238, 1, none⟩ = some (.slice Ao94 t235.length co94)) (ds := [8]) #[false, false, false, false, false, false, false, false, false] (by kernel_rfl) rfl rfl ⟨(blk_cell BK238.out 0).trans rfl, (blk_cell BK238.out 1).trans rfl⟩ (fun hHeld => ?_); refine with_tabW spec_l1Bent.tab11 spec_l1Bent.bits11 (fun HT_ HW_ => ?_)
       generalize w97.drew = w98 at HO237 BK232 BK233 BK238 HI0 HK HB hHeld ⊢
       refine pure_ (i := 0) (N := some 40) (v := ?_) (a' := ?_) #[true, false, false, false, false, false, false, false, false] rfl rfl (any_of HT_.out (by kernel_rfl)) (fun _ _ _ h => h) (Or.inl ⟨by rfl, ?_⟩) ?_ ?_
       rotate_left
       ·
        intro w'
        go_simp
        with_reducible rfl
       rotate_left
       ·
        simp only [Act.put, List.setIfInBounds_toArray, List.set_cons_zero, List.set_cons_succ, i64_w, i32_w]
        rfl
       refine pure_ (i := 2) (N := some 42) (v := ?_) (a' := ?_) #[true, false, true, false, false, false, false, false, false] rfl rfl (any_of HT_.out (by kernel_rfl)) (fun _ _ _ h => h) (Or.inl ⟨by rfl, ?_⟩) ?_ ?_
       rotate_left
       ·
        intro w'
        go_simp
        with_reducible rfl
       rotate_left
       ·
        simp only [Act.put, List.setIfInBounds_toArray, List.set_cons_zero, List.set_cons_succ, i64_w, i32_w]
        rfl
       refine pure_ (i := 3) (N := some 43) (v := ?_) (a' := ?_) #[true, false, true, true, false, false, false, false, false] rfl rfl (any_of HT_.out (by kernel_rfl)) (fun _ _ _ h => h) (Or.inl ⟨by rfl, ?_⟩) ?_ ?_
       rotate_left
       ·
        intro w'
        go_simp
        with_reducible rfl
       rotate_left
       ·
        simp only [Act.put, List.setIfInBounds_toArray, List.set_cons_zero, List.set_cons_succ, i64_w, i32_w]
        rfl
       refine take_ (i := 1) (N := some 41) (v := ?_) (a' := ?_) #[true, true, true, true, false, false, false, false, false] rfl rfl (take_ofW HT_.out HW_.out (by kernel_rfl)) (fun _ _ _ h => h) (Or.inl ⟨by rfl, ?_⟩) hHeld ?_ ?_
       rotate_left
       ·
        rintro w' ⟨s0, s1⟩
        go_simp
        with_reducible rfl
       rotate_left
       ·
        simp only [Act.put, List.setIfInBounds_toArray, List.set_cons_zero, List.set_cons_succ, i64_w, i32_w]
        rfl
       refine one_ (i := 4) (N := some 44) #[true, true, true, true, true, false, false, false, false] rfl rfl (one_of HT_.out (by kernel_rfl)) (by decide) (fun K hK => ?_)
       refine Kd.R_lit_step Kd.string _ 9 ?hg (N := 44) ?hd (xs := ([(⟨#[]⟩ : ByteArray), (⟨#[65]⟩ : ByteArray), (⟨#[97, 98, 99, 100, 101]⟩ : ByteArray), (⟨#[97, 32, 98]⟩ : ByteArray), (⟨#[97, 58]⟩ : ByteArray)] : List ByteArray)) (inner := [.string (⟨#[]⟩ : ByteArray), .string (⟨#[65]⟩ : ByteArray), .string (⟨#[97, 98, 99, 100, 101]⟩ : ByteArray), .string (⟨#[97, 32, 98]⟩ : ByteArray), .string (⟨#[97, 58]⟩ : ByteArray)]) (ok := fun _ => True) (okp := fun _ => True) ?hr ?hp (fun _ hk => hk) trivial (Below.refl _ _) (Nat.le_refl _) (by simp) ?_; (case hd => rfl); (case hg => rfl); (case hr => first | (go_simp; done) | (go_simp; rfl)); (case hp => exact (Reps.one (show Kd.M Kd.string _ _ _ (⟨#[]⟩ : ByteArray) [.string (⟨#[]⟩ : ByteArray)] from rfl) (Reps.one (show Kd.M Kd.string _ _ _ (⟨#[65]⟩ : ByteArray) [.string (⟨#[65]⟩ : ByteArray)] from rfl) (Reps.one (show Kd.M Kd.string _ _ _ (⟨#[97, 98, 99, 100, 101]⟩ : ByteArray) [.string (⟨#[97, 98, 99, 100, 101]⟩ : ByteArray)] from rfl) (Reps.one (show Kd.M Kd.string _ _ _ (⟨#[97, 32, 98]⟩ : ByteArray) [.string (⟨#[97, 32, 98]⟩ : ByteArray)] from rfl) (Reps.one (show Kd.M Kd.string _ _ _ (⟨#[97, 58]⟩ : ByteArray) [.string (⟨#[97, 58]⟩ : ByteArray)] from rfl) (Reps.none _ _)))))))
       intro v256 w99 ho100 hb hg_ hnew_
       clear hg_ hnew_
       (first | rw [← Ny255.out] at ho100 | (simp only [Int.reduceToNat] at ho100; rw [← Ny255.out] at ho100))
       have n0_ := Aside0.mk (Kd.R_below (by (with_reducible repeat (first | apply Kd.R_alloc | apply Kd.R_drewN | apply Kd.R_drew)); exact HO237.out) hb)
       have n1_ := Aside0.mk (Kd.R_lower ho100 (keep_size (w := w) (g := g) (row := none) (spec_l1Bent_auHK)))
       have n2_ := Aside0.mk (IsS84.below (spec_l1Bent_auHI0) hb)
       have n3_ := Aside0.mk (blk_below (g := gb232) (o := .cells #[.int .i64 a1_0, .slice A1_1 l1_1.length c1_1] 29 (0, 0)) (spec_l1Bent_vb BK232) hb)
       have n4_ := Aside0.mk (blk_below (g := gb233) (o := .cells #[.int .i64 0, .slice none 0 0] 29 (0, 0)) (spec_l1Bent_vb BK233) hb)
       have n5_ := Aside0.mk (blk_below (g := gb238) (o := .cells #[.int .i64 t234, .slice Ao94 t235.length co94] 29 (0, 0)) (spec_l1Bent_vb BK238) hb)
       have n6_ := Aside0.mk (KeepBut.trans (spec_l1Bent_auHK) (KeepBut.of_below hb g none) (.inl rfl))
       have n7_ := Aside0.mk (below_step (spec_l1Bent_auHB) hb)
       clear HO237
       clear HI0
       clear BK232
       clear BK233
       clear BK238
       clear HK
       clear HB
       have HO237 := n0_
       have HO257 := n1_
       have HI0 := n2_
       have BK232 := n3_
       have BK233 := n4_
       have BK238 := n5_
       have HK := n6_
       have HB := n7_
       clear n0_ n1_ n2_ n3_ n4_ n5_ n6_ n7_
       clear hb ho100
       obtain ⟨Ao101, co101, eo101⟩ := Kd.R_slice HO257.out
       (first | subst eo101 | (injection eo101 with f1_ f2_ f3_; have f4_ := f1_.symm; have f5_ := f3_.symm; clear f1_ f2_ f3_; subst f4_; subst f5_))
       refine hK.out _ _ ⟨(blk_cell BK238.out 0).trans rfl, (blk_cell BK238.out 1).trans rfl⟩ (fun hHeld => ?_)
       clear hK K
       refine norm_ (a' := ?_) ?_ ?_
       rotate_left
       ·
        show Act.put _ (some 44) _ = _
        simp only [Act.put, List.setIfInBounds_toArray, List.set_cons_zero, List.set_cons_succ, i64_w, i32_w]
        rfl
       refine one_ (i := 5) (N := some 45) #[true, true, true, true, true, true, false, false, false] rfl rfl (one_of HT_.out (by kernel_rfl)) (by decide) (fun K hK => ?_)
       refine goes_ Tryd.func42 (by kernel_rfl) rfl #[.pointer (some ⟨g, 0, none⟩), .slice Ao101 y255.length co101] (by rfl) rfl rfl (by (try simp only [List.map_toArray, List.map_cons, List.map_nil]); first | done | rfl | (simp only [List.length_drop, List.length_take]; rfl)) ?_
       with_reducible refine (spec_l9Rd_of.calls k g s0_0 t243 _ _ y255 t258 t259 w0 _ ?side1 ?side2 ?side3 ?side4 ?side5 A79.out).mono ?_
       (case side1 => exact spec_l1Bent_auHI0)
       (case side2 => exact spec_l1Bent_auHB)
       (case side3 => repeat (first | exact (Kd.R_reads' HO257.out).2.2 | (with_reducible refine Kd.C_alloc ?_ _) | (with_reducible refine Kd.C_drewN ?_ _) | (with_reducible refine Kd.C_drew ?_)))
       (case side4 => exact (Kd.R_reads' HO257.out).2.1)
       (case side5 => exact far_slice (IsS84.own_ne HI0.out HO257.out (by decide)))
       rintro e w102 ⟨rfl, hi, hb, hk⟩
       refine ⟨_, rfl, ?_⟩
       have n0_ := Aside0.mk (KeepBut.blk hk (g' := gb232) (o := .cells #[.int .i64 a1_0, .slice A1_1 l1_1.length c1_1] 29 (0, 0)) (spec_l1Bent_vb BK232) NB232_0.out (by simp))
       have n1_ := Aside0.mk (KeepBut.blk hk (g' := gb233) (o := .cells #[.int .i64 0, .slice none 0 0] 29 (0, 0)) (spec_l1Bent_vb BK233) NB233_0.out (by simp))
       have n2_ := Aside0.mk (Kd.R_mono (Kd.R_keep (IsS84.apart (show IsS84 w0 _ g s0_0 t243 from spec_l1Bent_auHI0) (by (with_reducible repeat (first | apply Kd.R_alloc | apply Kd.R_drewN | apply Kd.R_drew)); exact HO237.out) (by decide)) hk (fun _ h => h.2)) (fun _ h => h.1))
       have n3_ := Aside0.mk (KeepBut.blk hk (g' := gb238) (o := .cells #[.int .i64 t234, .slice Ao94 t235.length co94] 29 (0, 0)) (spec_l1Bent_vb BK238) NB238_0.out (by simp))
       have n4_ := Aside0.mk (Kd.R_mono (Kd.R_keep (IsS84.apart (show IsS84 w0 _ g s0_0 t243 from spec_l1Bent_auHI0) (by (with_reducible repeat (first | apply Kd.R_alloc | apply Kd.R_drewN | apply Kd.R_drew)); exact HO257.out) (by decide)) hk (fun _ h => h.2)) (fun _ h => h.1))
       have n5_ := Aside0.mk (KeepBut.trans (spec_l1Bent_auHK) hk (.inl rfl))
       have n6_ := Aside0.mk (hb)
       have n7_ := Aside0.mk (hi)
       clear BK232
       clear BK233
       clear HO237
       clear BK238
       clear HO257
       clear HK
       clear HB
       clear HI0
       have BK232 := n0_
       have BK233 := n1_
       have HO237 := n2_
       have BK238 := n3_
       have HO257 := n4_
       have HK := n5_
       have HB := n6_
       have HI0 := n7_
       clear n0_ n1_ n2_ n3_ n4_ n5_ n6_ n7_
       (try clear hb)
       (try clear hb2)
       (try clear hk)
       (try clear hi)
       have p82 : 0 ≤ (t240 : Int) := of_decide_eq_true (by first | (with_reducible assumption) | assumption)
       have q82 : (t240 : Int) < ((t235.length : Int) : Int) := of_decide_eq_true (by first | (with_reducible assumption) | assumption)
       obtain ⟨go82, co82, eo82, gb82, gl82, cl82, HG82⟩ := Kd.R_form HO237.out (by omega)
       (first | cases eo82 | (injection eo82 with ea_ en_ ec_; (first | subst ea_ | (injection ea_ with ea_; subst ea_)); subst ec_; clear en_))
       have GB82 := Aside0.mk gb82
       have GG82 := Aside0.mk HG82
       clear gb82 gl82 HG82
       obtain ⟨ce82, hcl82, hM82, hcc82, hfr82⟩ := Kd.R_elem HO237.out z45 (t240 : Int) p82 q82
       obtain rfl := k45_openM hM82
       have hx82_0 : World.cell? _ ⟨go82, (t240 : Int).toNat * 3, none⟩ = some (.string ((rd_T45 t235 t240).f0)) := hcc82 0 _ rfl
       have hx82_1 : World.cell? _ ⟨go82, (t240 : Int).toNat * 3 + 1, none⟩ = some (.int .i64 ((rd_T45 t235 t240).f1)) := hcc82 1 _ rfl
       have hx82_2 : World.cell? _ ⟨go82, (t240 : Int).toNat * 3 + 2, none⟩ = some (.int .i64 ((rd_T45 t235 t240).f2)) := hcc82 2 _ rfl
       have hf82_0 : World.frozen? _ ⟨go82, (t240 : Int).toNat * 3, none⟩ = false := hfr82 0
       have hf82_1 : World.frozen? _ ⟨go82, (t240 : Int).toNat * 3 + 1, none⟩ = false := hfr82 1
       have hf82_2 : World.frozen? _ ⟨go82, (t240 : Int).toNat * 3 + 2, none⟩ = false := hfr82 2
       clear hcl82 hcc82 hfr82 hM82
       replace p82 := eq_true p82
       replace q82 := eq_true q82
       have HN0_go82 := Aside0.mk (show g ≠ go82 from by have h_ := IsS84.own_ne HI0.out HO237.out (by decide); intro e_; exact h_ (by rw [e_]; rfl))
       obtain ⟨ce103, hcl103, hM103, hcc103, hfr103⟩ := Kd.R_elem HO237.out z45 (t240 : Int) (of_decide_eq_true (by first | (with_reducible assumption) | assumption)) (by have h_ : (t240 : Int) < ((t235.length : Int) : Int) := of_decide_eq_true (by first | (with_reducible assumption) | assumption); first | exact h_ | (have e_ := (Kd.R_reads' HO237.out).1; omega) | simpa using h_)
       obtain rfl := k45_openM hM103
       have HP103 := (Kd.R_seg HO237.out (t240 : Int) (of_decide_eq_true (by first | (with_reducible assumption) | assumption)) (by have h_ : (t240 : Int) < ((t235.length : Int) : Int) := of_decide_eq_true (by first | (with_reducible assumption) | assumption); first | exact h_ | (have e_ := (Kd.R_reads' HO237.out).1; omega) | simpa using h_) (seg := [.string t258]) (j := 0) hcl103 hcc103 (show 1 ≤ 3 from by decide) (x' := (⟨t258, (rd_T45 t235 t240).f1, (rd_T45 t235 t240).f2⟩ : S45)) (k45_mkM _ _ _ (⟨t258, (rd_T45 t235 t240).f1, (rd_T45 t235 t240).f2⟩ : S45) ) (fun _ hk => hk)).1
       rw [← Ny260.out] at HP103
       have HQ103 := Aside0.mk HP103
       clear hcl103 hcc103 hfr103 hM103 HP103
       refine hK.out _ _ ⟨(blk_cell BK238.out 0).trans rfl, (blk_cell BK238.out 1).trans rfl⟩ (fun hHeld => ?_)
       clear hK K
       refine norm_ (a' := ?_) ?_ ?_
       rotate_left
       ·
        show Act.put _ (some 45) _ = _
        simp only [Act.put, List.setIfInBounds_toArray, List.set_cons_zero, List.set_cons_succ, i64_w, i32_w]
        rfl
       refine pure_ (i := 6) (N := some 46) (v := ?_) (a' := ?_) #[true, true, true, true, true, true, true, false, false] rfl rfl (any_of HT_.out (by kernel_rfl)) (fun _ _ _ h => h) (Or.inl ⟨by rfl, ?_⟩) ?_ ?_
       rotate_left
       ·
        intro w'
        go_simp
        with_reducible rfl
       rotate_left
       ·
        simp only [Act.put, List.setIfInBounds_toArray, List.set_cons_zero, List.set_cons_succ, i64_w, i32_w]
        rfl
       refine pure_ (i := 7) (N := some 47) (v := ?_) (a' := ?_) #[true, true, true, true, true, true, true, true, false] rfl rfl (any_of HT_.out (by kernel_rfl)) (fun _ _ _ h => h) (Or.inl ⟨by rfl, ?_⟩) ?_ ?_
       rotate_left
       ·
        intro w'
        go_simp
        with_reducible rfl
       rotate_left
       ·
        simp only [Act.put, List.setIfInBounds_toArray, List.set_cons_zero, List.set_cons_succ, i64_w, i32_w]
        rfl
       refine last_ (i := 8) (N := none) #[true, true, true, true, true, true, true, true, true] rfl rfl (one_of HT_.out (by kernel_rfl)) (by decide) (fun K hK => ?_)
       refine skip_ (w1 := ?_) (by rfl) rfl ?_ ?_
       rotate_left
       ·
        go_simp
        rfl
       refine hK.out _ _ ?_
       clear hK K
       refine done_ (done_of HT_.out (by kernel_rfl)) ?_
       have n0_ : Aside0 (Kd.R k45 45 (w102.setCell ⟨go82, (t240 : Int).toNat * 3, none⟩ (.string t258)) w.heap.size (fun _ => True) (.slice (some ⟨go82, 0, none⟩) t235.length co94) y260) := ⟨by (with_reducible repeat (first | apply Kd.R_alloc | apply Kd.R_drewN | apply Kd.R_drew)); exact HQ103.out⟩
       have n1_ : Aside0 (Kd.R Kd.string 9 (w102.setCell ⟨go82, (t240 : Int).toNat * 3, none⟩ (.string t258)) w.heap.size (fun _ => True) (.slice Ao101 y255.length co101) y255) := ⟨by (with_reducible repeat (first | apply Kd.R_alloc | apply Kd.R_drewN | apply Kd.R_drew)); exact Kd.R_mono (Kd.R_far (p := ⟨go82, (t240 : Int).toNat * 3, none⟩) (Kd.R_types HO257.out GG82.out (by decide)) (fun _ hk => hk.2) (.string t258)) (fun _ hk => trivial)⟩
       have n2_ : Aside0 ((w102.setCell ⟨go82, (t240 : Int).toNat * 3, none⟩ (.string t258)).heap[gb232]? = some (.cells #[.int .i64 a1_0, .slice A1_1 l1_1.length c1_1] 29 (0, 0))) := ⟨by (with_reducible repeat (first | refine blk_drewN ?_ _ | refine blk_drew ?_ | refine blk_alloc ?_ _)); refine blk_far ?_ (by have h_ := Kd.R_ne HO237.out BK232.out (by decide); intro e_; exact h_ (by rw [e_]; rfl)) _; (with_reducible repeat (first | refine blk_drewN ?_ _ | refine blk_drew ?_ | refine blk_alloc ?_ _)); exact BK232.out⟩
       have n3_ : Aside0 ((w102.setCell ⟨go82, (t240 : Int).toNat * 3, none⟩ (.string t258)).heap[gb233]? = some (.cells #[.int .i64 0, .slice none 0 0] 29 (0, 0))) := ⟨by (with_reducible repeat (first | refine blk_drewN ?_ _ | refine blk_drew ?_ | refine blk_alloc ?_ _)); refine blk_far ?_ (by have h_ := Kd.R_ne HO237.out BK233.out (by decide); intro e_; exact h_ (by rw [e_]; rfl)) _; (with_reducible repeat (first | refine blk_drewN ?_ _ | refine blk_drew ?_ | refine blk_alloc ?_ _)); exact BK233.out⟩
       have n4_ : Aside0 ((w102.setCell ⟨go82, (t240 : Int).toNat * 3, none⟩ (.string t258)).heap[gb238]? = some (.cells #[.int .i64 t234, .slice (some ⟨go82, 0, none⟩) t235.length co94] 29 (0, 0))) := ⟨by (with_reducible repeat (first | refine blk_drewN ?_ _ | refine blk_drew ?_ | refine blk_alloc ?_ _)); refine blk_far ?_ (by have h_ := Kd.R_ne HO237.out BK238.out (by decide); intro e_; exact h_ (by rw [e_]; rfl)) _; (with_reducible repeat (first | refine blk_drewN ?_ _ | refine blk_drew ?_ | refine blk_alloc ?_ _)); exact BK238.out⟩
       have n5_ : Aside0 (IsS84 w0 (w102.setCell ⟨go82, (t240 : Int).toNat * 3, none⟩ (.string t258)) g s0_0 t259) := ⟨spec_l1Bent_auHI0⟩
       have n6_ : Aside0 (KeepBut w (w102.setCell ⟨go82, (t240 : Int).toNat * 3, none⟩ (.string t258)) g none) := ⟨spec_l1Bent_auHK⟩
       have n7_ : Aside0 (Below w0.heap.size w0 (w102.setCell ⟨go82, (t240 : Int).toNat * 3, none⟩ (.string t258))) := ⟨spec_l1Bent_auHB⟩
       (try clear HO237)
       (try clear HO257)
       (try clear BK232)
       (try clear BK233)
       (try clear BK238)
       (try clear HI0)
       (try clear HK)
       (try clear HB)
       generalize (w102.setCell ⟨go82, (t240 : Int).toNat * 3, none⟩ (.string t258)) = w104 at n0_ n1_ n2_ n3_ n4_ n5_ n6_ n7_ ⊢
       have HO237 := n0_
       have HO257 := n1_
       have BK232 := n2_
       have BK233 := n3_
       have BK238 := n4_
       have HI0 := n5_
       have HK := n6_
       have HB := n7_
       clear n0_ n1_ n2_ n3_ n4_ n5_ n6_ n7_
       have hcz105_0 : w104.cell? ⟨gb238, 0, none⟩ = some (.int .i64 t234) := (blk_cell BK238.out 0).trans rfl
       have hcz105_1 : w104.cell? ⟨gb238, 1, none⟩ = some (.slice (some ⟨go82, 0, none⟩) t235.length co94) := (blk_cell BK238.out 1).trans rfl
       have hfz105_0 := blk_frozen BK238.out 0
       have hfz105_1 := blk_frozen BK238.out 1
       have hnb106 := NB233_0.out
       have hnc106 := NB0_233.out
       have hcz107_0 : w104.cell? ⟨gb233, 0, none⟩ = some (.int .i64 0) := (blk_cell BK233.out 0).trans rfl
       have hcz107_1 : w104.cell? ⟨gb233, 1, none⟩ = some (.slice none 0 0) := (blk_cell BK233.out 1).trans rfl
       have hfz107_0 := blk_frozen BK233.out 0
       have hfz107_1 := blk_frozen BK233.out 1
       try go_wp2
       refine bodyPost_ret (results_cell_row rfl _ _ gb233 29 #[.int .i64 t234, .slice (some ⟨go82, 0, none⟩) t235.length co94] (0, 0) _ rfl (by (with_reducible repeat (first | refine blk_drewN ?_ _ | refine blk_drew ?_ | refine blk_alloc ?_ _)); refine blk_put (cs := #[.int .i64 t234, .slice none 0 0]) ?_ 1 _ rfl; (with_reducible repeat (first | refine blk_drewN ?_ _ | refine blk_drew ?_ | refine blk_alloc ?_ _)); refine blk_put (cs := #[.int .i64 0, .slice none 0 0]) ?_ 0 _ rfl; (with_reducible repeat (first | refine blk_drewN ?_ _ | refine blk_drew ?_ | refine blk_alloc ?_ _)); exact BK233.out) Tryd.underlying29 rfl (by kernel_rfl)) rfl ?_
       exact ⟨_, by first | rfl | (simp [errW_none, errW_some] <;> rfl) | (simp [*, errW_none, errW_some] <;> rfl), by (with_reducible repeat (first | apply Kd.R_alloc | apply Kd.R_drewN | apply Kd.R_drew)); exact Kd.R_mono (Kd.R_far (p := ⟨gb233, 1, none⟩) (Kd.R_far (p := ⟨gb233, 0, none⟩) (Kd.R_types HO237.out BK233.out (by decide)) (fun _ hk => hk.2) (.int .i64 t234)) (fun _ hk => hk.2) (.slice (some ⟨go82, 0, none⟩) t235.length co94)) (fun _ hk => trivial), spec_l1Bent_auHI0, spec_l1Bent_auHB, spec_l1Bent_auHK⟩
      ·
       rw [if_neg c81] at H
       exact absurd H (by simp)
     ·
      rw [if_neg c80] at H
      exact absurd H (by simp)
    ·
     rw [if_neg c78] at H
     have c78b0 : (t242 == 2) = false := beq_eq_false_iff_ne.mpr c78
     have c78b1 : (t242 != 2) = true := bne_iff_ne.mpr c78
     by_cases c108 : t242 = 3
     ·
      rw [if_pos c108] at H
      have c108b0 : (t242 == 3) = true := beq_iff_eq.mpr c108
      have c108b1 : (t242 != 3) = false := bne_eq_false_iff_eq.mpr c108
      clear c108
      obtain ⟨y261, hy261⟩ : ∃ y_ : List Int, y_ = (([0, 4, (-1), 1] : List Int)) := ⟨_, rfl⟩
      replace H : ((spec_l9Rd_num.f k s0_0 t243 y261).bind fun bt264 => (if 0 ≤ t240 then (if t240 < (t235.length : Int) then (some (t234, (t235.set (t240 : Int).toNat (⟨(rd_T45 t235 t240).f0, bt264.1, (rd_T45 t235 t240).f2⟩ : S45)), bt264.2)) else (none)) else (none))) = some (r1, r2, r3) := by first | (rw [hy261]; with_reducible exact H) | (have H2_ := (Option.bind_some _ _).symm.trans H; rw [hy261]; with_reducible exact H2_) | (have H2_ := (Option.bind_some _ _).symm.trans H; with_reducible exact H2_) | with_reducible exact H | (rw [hy261]; exact H) | exact H
      have Ny261 := Aside0.mk hy261
      clear hy261
      replace H := Option.bind_eq_some_iff.mp H
      obtain ⟨⟨t264, t265⟩, A1090, H⟩ := H
      replace H : (if 0 ≤ t240 then (if t240 < (t235.length : Int) then (some (t234, (t235.set (t240 : Int).toNat (⟨(rd_T45 t235 t240).f0, t264, (rd_T45 t235 t240).f2⟩ : S45)), t265)) else (none)) else (none)) = some (r1, r2, r3) := H
      have A109 := Aside0.mk A1090
      clear A1090
      by_cases c110 : 0 ≤ t240
      ·
       rw [if_pos c110] at H
       have c110b0 : decide (0 ≤ t240) = true := decide_eq_true c110
       clear c110
       by_cases c111 : t240 < (t235.length : Int)
       ·
        rw [if_pos c111] at H
        have c111b0 : decide (t240 < (t235.length : Int)) = true := decide_eq_true c111
        clear c111
        obtain ⟨y266, hy266⟩ : ∃ y_ : List (S45), y_ = (t235.set (t240 : Int).toNat (⟨(rd_T45 t235 t240).f0, t264, (rd_T45 t235 t240).f2⟩ : S45)) := ⟨_, rfl⟩
        replace H : (some (t234, y266, t265)) = some (r1, r2, r3) := by first | (rw [hy266]; with_reducible exact H) | (have H2_ := (Option.bind_some _ _).symm.trans H; rw [hy266]; with_reducible exact H2_) | (have H2_ := (Option.bind_some _ _).symm.trans H; with_reducible exact H2_) | with_reducible exact H | (rw [hy266]; exact H) | exact H
        have Ny266 := Aside0.mk hy266
        clear hy266
        simp only [Option.some.injEq, Prod.mk.injEq] at H
        obtain ⟨rfl, rfl, rfl⟩ := H
        go_enter Tryd.func53, Tryd.ntmps53
        try go_wp2_with (first | ((with_reducible refine gate_dst (N := 3) rfl ?_); refine box_event ?hg (N := 3) ?hd (cs := #[.int .i64 a1_0, .slice A1_1 l1_1.length c1_1]) (t := 29) ?hr ?_; (case hd => rfl); (case hg => rfl); (case hr => first | (go_simp; done) | (go_simp; rfl)); intro gb232 hg w113 hbox hb; have n0_ := Aside0.mk (IsS84.below (spec_l1Bent_auHI0) hb); have n1_ := Aside0.mk (KeepBut.trans (spec_l1Bent_auHK) (KeepBut.of_below hb g none) (.inl rfl)); have n2_ := Aside0.mk (below_step (spec_l1Bent_auHB) hb); have n3_ := Aside0.mk (hbox); have n4_ := Aside0.mk ((by rw [hg]; exact (keep_size (w := w) (g := g) (row := none) (spec_l1Bent_auHK)) : w.heap.size ≤ gb232)); have n5_ := Aside0.mk ((Nat.le_trans HW0.out (by rw [hg]; exact (keep_size (w := w) (g := g) (row := none) (spec_l1Bent_auHK)) : w.heap.size ≤ gb232) : w0.heap.size ≤ gb232)); have n6_ := Aside0.mk ((by rw [hg]; exact Nat.ne_of_lt (IsS84.lt (show IsS84 w0 _ g s0_0 s0_1 from spec_l1Bent_auHI0)) : g ≠ gb232)); have n7_ := Aside0.mk ((by rw [hg]; exact Nat.ne_of_gt (IsS84.lt (show IsS84 w0 _ g s0_0 s0_1 from spec_l1Bent_auHI0)) : gb232 ≠ g)); clear HI0; clear HK; clear HB; have HI0 := n0_; have HK := n1_; have HB := n2_; have BK232 := n3_; have GW232 := n4_; have GE232 := n5_; have NB0_232 := n6_; have NB232_0 := n7_; clear n0_ n1_ n2_ n3_ n4_ n5_ n6_ n7_; clear hb hbox hg) | ((with_reducible refine gate_dst (N := 4) rfl ?_); refine box_event ?hg (N := 4) ?hd (cs := #[.int .i64 0, .slice none 0 0]) (t := 29) ?hr ?_; (case hd => rfl); (case hg => rfl); (case hr => first | (go_simp; done) | (go_simp; rfl)); intro gb233 hg w114 hbox hb; have n0_ := Aside0.mk (IsS84.below (spec_l1Bent_auHI0) hb); have n1_ := Aside0.mk (blk_below (g := gb232) (o := .cells #[.int .i64 a1_0, .slice A1_1 l1_1.length c1_1] 29 (0, 0)) (spec_l1Bent_vb BK232) hb); have n2_ := Aside0.mk (KeepBut.trans (spec_l1Bent_auHK) (KeepBut.of_below hb g none) (.inl rfl)); have n3_ := Aside0.mk (below_step (spec_l1Bent_auHB) hb); have n4_ := Aside0.mk (hbox); have n5_ := Aside0.mk ((by rw [hg]; exact (keep_size (w := w) (g := g) (row := none) (spec_l1Bent_auHK)) : w.heap.size ≤ gb233)); have n6_ := Aside0.mk ((Nat.le_trans HW0.out (by rw [hg]; exact (keep_size (w := w) (g := g) (row := none) (spec_l1Bent_auHK)) : w.heap.size ≤ gb233) : w0.heap.size ≤ gb233)); have n7_ := Aside0.mk ((by rw [hg]; exact Nat.ne_of_lt (blk_lt (g := gb232) (o := .cells #[.int .i64 a1_0, .slice A1_1 l1_1.length c1_1] 29 (0, 0)) (spec_l1Bent_vb BK232)) : gb232 ≠ gb233)); have n8_ := Aside0.mk ((by rw [hg]; exact Nat.ne_of_gt (blk_lt (g := gb232) (o := .cells #[.int .i64 a1_0, .slice A1_1 l1_1.length c1_1] 29 (0, 0)) (spec_l1Bent_vb BK232)) : gb233 ≠ gb232)); have n9_ := Aside0.mk ((by rw [hg]; exact Nat.ne_of_lt (IsS84.lt (show IsS84 w0 _ g s0_0 s0_1 from spec_l1Bent_auHI0)) : g ≠ gb233)); have n10_ := Aside0.mk ((by rw [hg]; exact Nat.ne_of_gt (IsS84.lt (show IsS84 w0 _ g s0_0 s0_1 from spec_l1Bent_auHI0)) : gb233 ≠ g)); clear HI0; clear BK232; clear HK; clear HB; have HI0 := n0_; have BK232 := n1_; have HK := n2_; have HB := n3_; have BK233 := n4_; have GW233 := n5_; have GE233 := n6_; have NB232_233 := n7_; have NB233_232 := n8_; have NB0_233 := n9_; have NB233_0 := n10_; clear n0_ n1_ n2_ n3_ n4_ n5_ n6_ n7_ n8_ n9_ n10_; clear hb hbox hg; have hnb115 := NB232_233.out; have hnc115 := NB233_232.out; have hnb116 := NB232_0.out; have hnc116 := NB0_232.out; have hcz117_0 : w114.cell? ⟨gb232, 0, none⟩ = some (.int .i64 a1_0) := (blk_cell BK232.out 0).trans rfl; have hcz117_1 : w114.cell? ⟨gb232, 1, none⟩ = some (.slice A1_1 l1_1.length c1_1) := (blk_cell BK232.out 1).trans rfl; have hfz117_0 := blk_frozen BK232.out 0; have hfz117_1 := blk_frozen BK232.out 1) | ((with_reducible refine gate_callee (f := 66) rfl ?_); refine goesL_ (some 8) rfl rfl Tryd.func66 (by kernel_rfl) rfl #[.agg #[.int .i64 a1_0, .slice A1_1 l1_1.length c1_1]] rfl (by (try simp only [List.map_toArray, List.map_cons, List.map_nil]); first | done | rfl | (simp only [List.length_drop, List.length_take]; rfl)) ?_; (with_reducible refine (spec_l1Copy.calls a1_0 _ _ l1_1 t234 t235 _ ?side1 ?side2 A3.out).mono ?_); (case side1 => exact Kd.C_foot_now HR1_1.out (spec_l1Bent_auHK)); (case side2 => exact HC1_1.out); rintro e w118 ⟨v236, rfl, ho0, hb⟩; refine ⟨_, rfl, ?_⟩; have n0_ := Aside0.mk (Kd.R_lower ho0 (keep_size (w := w) (g := g) (row := none) (spec_l1Bent_auHK))); have n1_ := Aside0.mk (IsS84.below (spec_l1Bent_auHI0) hb); have n2_ := Aside0.mk (blk_below (g := gb232) (o := .cells #[.int .i64 a1_0, .slice A1_1 l1_1.length c1_1] 29 (0, 0)) (spec_l1Bent_vb BK232) hb); have n3_ := Aside0.mk (blk_below (g := gb233) (o := .cells #[.int .i64 0, .slice none 0 0] 29 (0, 0)) (spec_l1Bent_vb BK233) hb); have n4_ := Aside0.mk (KeepBut.trans (spec_l1Bent_auHK) (KeepBut.of_below hb g none) (.inl rfl)); have n5_ := Aside0.mk (below_step (spec_l1Bent_auHB) hb); clear HI0; clear BK232; clear BK233; clear HK; clear HB; have HO237 := n0_; have HI0 := n1_; have BK232 := n2_; have BK233 := n3_; have HK := n4_; have HB := n5_; clear n0_ n1_ n2_ n3_ n4_ n5_; (try clear hb); (try clear hb2); (try clear hk); (try clear hi); (try clear ho0)) | ((with_reducible refine gate_dst (N := 5) rfl ?_); refine box_event ?hg (N := 5) ?hd (cs := #[.int .i64 0, .slice none 0 0]) (t := 29) ?hr ?_; (case hd => rfl); (case hg => rfl); (case hr => first | (go_simp; done) | (go_simp; rfl)); intro gb238 hg w119 hbox hb; have n0_ := Aside0.mk (Kd.R_below (by (with_reducible repeat (first | apply Kd.R_alloc | apply Kd.R_drewN | apply Kd.R_drew)); exact HO237.out) hb); have n1_ := Aside0.mk (IsS84.below (spec_l1Bent_auHI0) hb); have n2_ := Aside0.mk (blk_below (g := gb232) (o := .cells #[.int .i64 a1_0, .slice A1_1 l1_1.length c1_1] 29 (0, 0)) (spec_l1Bent_vb BK232) hb); have n3_ := Aside0.mk (blk_below (g := gb233) (o := .cells #[.int .i64 0, .slice none 0 0] 29 (0, 0)) (spec_l1Bent_vb BK233) hb); have n4_ := Aside0.mk (KeepBut.trans (spec_l1Bent_auHK) (KeepBut.of_below hb g none) (.inl rfl)); have n5_ := Aside0.mk (below_step (spec_l1Bent_auHB) hb); have n6_ := Aside0.mk (hbox); have n7_ := Aside0.mk ((by rw [hg]; exact (keep_size (w := w) (g := g) (row := none) (spec_l1Bent_auHK)) : w.heap.size ≤ gb238)); have n8_ := Aside0.mk ((Nat.le_trans HW0.out (by rw [hg]; exact (keep_size (w := w) (g := g) (row := none) (spec_l1Bent_auHK)) : w.heap.size ≤ gb238) : w0.heap.size ≤ gb238)); have n9_ := Aside0.mk ((by rw [hg]; exact Nat.ne_of_lt (blk_lt (g := gb232) (o := .cells #[.int .i64 a1_0, .slice A1_1 l1_1.length c1_1] 29 (0, 0)) (spec_l1Bent_vb BK232)) : gb232 ≠ gb238)); have n10_ := Aside0.mk ((by rw [hg]; exact Nat.ne_of_gt (blk_lt (g := gb232) (o := .cells #[.int .i64 a1_0, .slice A1_1 l1_1.length c1_1] 29 (0, 0)) (spec_l1Bent_vb BK232)) : gb238 ≠ gb232)); have n11_ := Aside0.mk ((by rw [hg]; exact Nat.ne_of_lt (blk_lt (g := gb233) (o := .cells #[.int .i64 0, .slice none 0 0] 29 (0, 0)) (spec_l1Bent_vb BK233)) : gb233 ≠ gb238)); have n12_ := Aside0.mk ((by rw [hg]; exact Nat.ne_of_gt (blk_lt (g := gb233) (o := .cells #[.int .i64 0, .slice none 0 0] 29 (0, 0)) (spec_l1Bent_vb BK233)) : gb238 ≠ gb233)); have n13_ := Aside0.mk ((by rw [hg]; exact Nat.ne_of_lt (IsS84.lt (show IsS84 w0 _ g s0_0 s0_1 from spec_l1Bent_auHI0)) : g ≠ gb238)); have n14_ := Aside0.mk ((by rw [hg]; exact Nat.ne_of_gt (IsS84.lt (show IsS84 w0 _ g s0_0 s0_1 from spec_l1Bent_auHI0)) : gb238 ≠ g)); clear HO237; clear HI0; clear BK232; clear BK233; clear HK; clear HB; have HO237 := n0_; have HI0 := n1_; have BK232 := n2_; have BK233 := n3_; have HK := n4_; have HB := n5_; have BK238 := n6_; have GW238 := n7_; have GE238 := n8_; have NB232_238 := n9_; have NB238_232 := n10_; have NB233_238 := n11_; have NB238_233 := n12_; have NB0_238 := n13_; have NB238_0 := n14_; clear n0_ n1_ n2_ n3_ n4_ n5_ n6_ n7_ n8_ n9_ n10_ n11_ n12_ n13_ n14_; clear hb hbox hg; have hnb120 := NB238_232.out; have hnc120 := NB232_238.out; have hnb121 := NB238_233.out; have hnc121 := NB233_238.out; have hnb122 := NB238_0.out; have hnc122 := NB0_238.out; have hcz123_0 : w119.cell? ⟨gb238, 0, none⟩ = some (.int .i64 0) := (blk_cell BK238.out 0).trans rfl; have hcz123_1 : w119.cell? ⟨gb238, 1, none⟩ = some (.slice none 0 0) := (blk_cell BK238.out 1).trans rfl; have hfz123_0 := blk_frozen BK238.out 0; have hfz123_1 := blk_frozen BK238.out 1; obtain ⟨Ao124, co124, eo124⟩ := Kd.R_slice HO237.out; subst eo124) | ((with_reducible refine gate_callee (f := 67) rfl ?_); refine goesL_ (some 13) rfl rfl Tryd.func67 (by kernel_rfl) rfl #[.int .i64 1, .int .i64 (t235.length : Int)] rfl (by (try simp only [List.map_toArray, List.map_cons, List.map_nil]); first | done | rfl | (simp only [List.length_drop, List.length_take]; rfl)) ?_; (with_reducible refine (spec_l1Max.calls 1 (t235.length : Int) t239 _ A4.out).mono ?_); rintro e w' ⟨rfl, ⟨nd, rfl⟩⟩; refine ⟨_, rfl, ?_⟩) | ((with_reducible refine gate_callee (f := 41) rfl ?_); refine goesL_ (some 14) rfl rfl Tryd.func41 (by kernel_rfl) rfl #[.pointer (some ⟨g, 0, none⟩), .int .i64 t239] rfl (by (try simp only [List.map_toArray, List.map_cons, List.map_nil]); first | done | rfl | (simp only [List.length_drop, List.length_take]; rfl)) ?_; (with_reducible refine (spec_l9Rd_pick.calls k g s0_0 s0_1 t239 t240 t241 w0 _ ?side1 ?side2 A5.out).mono ?_); (case side1 => exact spec_l1Bent_auHI0); (case side2 => exact spec_l1Bent_auHB); rintro e w125 ⟨rfl, hi, hb, hk⟩; refine ⟨_, rfl, ?_⟩; have n0_ := Aside0.mk (KeepBut.blk hk (g' := gb232) (o := .cells #[.int .i64 a1_0, .slice A1_1 l1_1.length c1_1] 29 (0, 0)) (by (with_reducible repeat (first | refine blk_drewN ?_ _ | refine blk_drew ?_ | refine blk_alloc ?_ _)); refine blk_far ?_ NB232_238.out _; (with_reducible repeat (first | refine blk_drewN ?_ _ | refine blk_drew ?_ | refine blk_alloc ?_ _)); refine blk_far ?_ NB232_238.out _; (with_reducible repeat (first | refine blk_drewN ?_ _ | refine blk_drew ?_ | refine blk_alloc ?_ _)); exact BK232.out) NB232_0.out (by simp)); have n1_ := Aside0.mk (KeepBut.blk hk (g' := gb233) (o := .cells #[.int .i64 0, .slice none 0 0] 29 (0, 0)) (by (with_reducible repeat (first | refine blk_drewN ?_ _ | refine blk_drew ?_ | refine blk_alloc ?_ _)); refine blk_far ?_ NB233_238.out _; (with_reducible repeat (first | refine blk_drewN ?_ _ | refine blk_drew ?_ | refine blk_alloc ?_ _)); refine blk_far ?_ NB233_238.out _; (with_reducible repeat (first | refine blk_drewN ?_ _ | refine blk_drew ?_ | refine blk_alloc ?_ _)); exact BK233.out) NB233_0.out (by simp)); have n2_ := Aside0.mk (Kd.R_mono (Kd.R_keep (IsS84.apart (show IsS84 w0 _ g s0_0 s0_1 from spec_l1Bent_auHI0) (by (with_reducible repeat (first | apply Kd.R_alloc | apply Kd.R_drewN | apply Kd.R_drew)); exact (Kd.R_mono (Kd.R_far (p := ⟨gb238, 1, none⟩) (Kd.R_far (p := ⟨gb238, 0, none⟩) (Kd.R_types HO237.out BK238.out (by decide)) (fun _ hk => hk.2) (.int .i64 t234)) (fun _ hk => hk.2) (.slice Ao124 t235.length co124)) (fun _ h_ => h_.1))) (by decide)) hk (fun _ h => h.2)) (fun _ h => h.1)); have n3_ := Aside0.mk (KeepBut.blk hk (g' := gb238) (o := .cells #[.int .i64 t234, .slice Ao124 t235.length co124] 29 (0, 0)) (by (with_reducible repeat (first | refine blk_drewN ?_ _ | refine blk_drew ?_ | refine blk_alloc ?_ _)); refine blk_put (cs := #[.int .i64 t234, .slice none 0 0]) ?_ 1 _ rfl; (with_reducible repeat (first | refine blk_drewN ?_ _ | refine blk_drew ?_ | refine blk_alloc ?_ _)); refine blk_put (cs := #[.int .i64 0, .slice none 0 0]) ?_ 0 _ rfl; (with_reducible repeat (first | refine blk_drewN ?_ _ | refine blk_drew ?_ | refine blk_alloc ?_ _)); exact BK238.out) NB238_0.out (by simp)); have n4_ := Aside0.mk (KeepBut.trans (spec_l1Bent_auHK) hk (.inl rfl)); have n5_ := Aside0.mk (hb); have n6_ := Aside0.mk (hi); clear BK232; clear BK233; clear HO237; clear BK238; clear HK; clear HB; clear HI0; have BK232 := n0_; have BK233 := n1_; have HO237 := n2_; have BK238 := n3_; have HK := n4_; have HB := n5_; have HI0 := n6_; clear n0_ n1_ n2_ n3_ n4_ n5_ n6_; (try clear hb); (try clear hb2); (try clear hk); (try clear hi); have hcz126_0 : w125.cell? ⟨gb238, 0, none⟩ = some (.int .i64 t234) := (blk_cell BK238.out 0).trans rfl; have hcz126_1 : w125.cell? ⟨gb238, 1, none⟩ = some (.slice Ao124 t235.length co124) := (blk_cell BK238.out 1).trans rfl; have hfz126_0 := blk_frozen BK238.out 0; have hfz126_1 := blk_frozen BK238.out 1) | ((with_reducible refine gate_callee (f := 41) rfl ?_); refine goesL_ (some 21) rfl rfl Tryd.func41 (by kernel_rfl) rfl #[.pointer (some ⟨g, 0, none⟩), .int .i64 64] rfl (by (try simp only [List.map_toArray, List.map_cons, List.map_nil]); first | done | rfl | (simp only [List.length_drop, List.length_take]; rfl)) ?_; (with_reducible refine (spec_l9Rd_pick.calls k g s0_0 t241 64 t242 t243 w0 _ ?side1 ?side2 A23.out).mono ?_); (case side1 => exact spec_l1Bent_auHI0); (case side2 => exact spec_l1Bent_auHB); rintro e w127 ⟨rfl, hi, hb, hk⟩; refine ⟨_, rfl, ?_⟩; have n0_ := Aside0.mk (KeepBut.blk hk (g' := gb232) (o := .cells #[.int .i64 a1_0, .slice A1_1 l1_1.length c1_1] 29 (0, 0)) (spec_l1Bent_vb BK232) NB232_0.out (by simp)); have n1_ := Aside0.mk (KeepBut.blk hk (g' := gb233) (o := .cells #[.int .i64 0, .slice none 0 0] 29 (0, 0)) (spec_l1Bent_vb BK233) NB233_0.out (by simp)); have n2_ := Aside0.mk (Kd.R_mono (Kd.R_keep (IsS84.apart (show IsS84 w0 _ g s0_0 t241 from spec_l1Bent_auHI0) (by (with_reducible repeat (first | apply Kd.R_alloc | apply Kd.R_drewN | apply Kd.R_drew)); exact HO237.out) (by decide)) hk (fun _ h => h.2)) (fun _ h => h.1)); have n3_ := Aside0.mk (KeepBut.blk hk (g' := gb238) (o := .cells #[.int .i64 t234, .slice Ao124 t235.length co124] 29 (0, 0)) (spec_l1Bent_vb BK238) NB238_0.out (by simp)); have n4_ := Aside0.mk (KeepBut.trans (spec_l1Bent_auHK) hk (.inl rfl)); have n5_ := Aside0.mk (hb); have n6_ := Aside0.mk (hi); clear BK232; clear BK233; clear HO237; clear BK238; clear HK; clear HB; clear HI0; have BK232 := n0_; have BK233 := n1_; have HO237 := n2_; have BK238 := n3_; have HK := n4_; have HB := n5_; have HI0 := n6_; clear n0_ n1_ n2_ n3_ n4_ n5_ n6_; (try clear hb); (try clear hb2); (try clear hk); (try clear hi)))
        have n0_ := Aside0.mk (Kd.R_drew HO237.out)
        have n1_ := Aside0.mk (blk_drew BK232.out)
        have n2_ := Aside0.mk (blk_drew BK233.out)
        have n3_ := Aside0.mk (blk_drew BK238.out)
        have n4_ := Aside0.mk (IsS84.drew HI0.out)
        have n5_ := Aside0.mk (keep_drew HK.out)
        have n6_ := Aside0.mk (below_drew1 HB.out)
        clear HO237
        clear BK232
        clear BK233
        clear BK238
        clear HI0
        clear HK
        clear HB
        have HO237 := n0_
        have BK232 := n1_
        have BK233 := n2_
        have BK238 := n3_
        have HI0 := n4_
        have HK := n5_
        have HB := n6_
        clear n0_ n1_ n2_ n3_ n4_ n5_ n6_
        refine start_ (n := 9) (S := fun w' => w'.cell? ⟨gb238, 0, none⟩ = some (.int .i64 t234) ∧ w'.cell? ⟨gb238, 1, none⟩ = some (.slice Ao124 t235.length co124)) (ds := [8]) #[false, false, false, false, false, false, false, false, false] (by kernel_rfl) rfl rfl ⟨(blk_cell BK238.out 0).trans rfl, (blk_cell BK238.out 1).trans rfl⟩ (fun hHeld => ?_); refine with_tabW spec_l1Bent.tab13 spec_l1Bent.bits13 (fun HT_ HW_ => ?_)
        generalize w127.drew = w128 at HO237 BK232 BK233 BK238 HI0 HK HB hHeld ⊢
        refine pure_ (i := 0) (N := some 50) (v := ?_) (a' := ?_) #[true, false, false, false, false, false, false, false, false] rfl rfl (any_of HT_.out (by kernel_rfl)) (fun _ _ _ h => h) (Or.inl ⟨by rfl, ?_⟩) ?_ ?_
        rotate_left
        ·
         intro w'
         go_simp
         with_reducible rfl
        rotate_left
        ·
         simp only [Act.put, List.setIfInBounds_toArray, List.set_cons_zero, List.set_cons_succ, i64_w, i32_w]
         rfl
        refine pure_ (i := 2) (N := some 52) (v := ?_) (a' := ?_) #[true, false, true, false, false, false, false, false, false] rfl rfl (any_of HT_.out (by kernel_rfl)) (fun _ _ _ h => h) (Or.inl ⟨by rfl, ?_⟩) ?_ ?_
        rotate_left
        ·
         intro w'
         go_simp
         with_reducible rfl
        rotate_left
        ·
         simp only [Act.put, List.setIfInBounds_toArray, List.set_cons_zero, List.set_cons_succ, i64_w, i32_w]
         rfl
        refine pure_ (i := 3) (N := some 53) (v := ?_) (a' := ?_) #[true, false, true, true, false, false, false, false, false] rfl rfl (any_of HT_.out (by kernel_rfl)) (fun _ _ _ h => h) (Or.inl ⟨by rfl, ?_⟩) ?_ ?_
        rotate_left
        ·
         intro w'
         go_simp
         with_reducible rfl
        rotate_left
        ·
         simp only [Act.put, List.setIfInBounds_toArray, List.set_cons_zero, List.set_cons_succ, i64_w, i32_w]
         rfl
        refine take_ (i := 1) (N := some 51) (v := ?_) (a' := ?_) #[true, true, true, true, false, false, false, false, false] rfl rfl (take_ofW HT_.out HW_.out (by kernel_rfl)) (fun _ _ _ h => h) (Or.inl ⟨by rfl, ?_⟩) hHeld ?_ ?_
        rotate_left
        ·
         rintro w' ⟨s0, s1⟩
         go_simp
         with_reducible rfl
        rotate_left
        ·
         simp only [Act.put, List.setIfInBounds_toArray, List.set_cons_zero, List.set_cons_succ, i64_w, i32_w]
         rfl
        refine one_ (i := 4) (N := some 54) #[true, true, true, true, true, false, false, false, false] rfl rfl (one_of HT_.out (by kernel_rfl)) (by decide) (fun K hK => ?_)
        refine Kd.R_lit_step (Kd.int .i64) _ 3 ?hg (N := 54) ?hd (xs := ([0, 4, (-1), 1] : List Int)) (inner := [.int .i64 0, .int .i64 4, .int .i64 (-1), .int .i64 1]) (ok := fun _ => True) (okp := fun _ => True) ?hr ?hp (fun _ hk => hk) trivial (Below.refl _ _) (Nat.le_refl _) (by simp) ?_; (case hd => rfl); (case hg => rfl); (case hr => first | (go_simp; done) | (go_simp; rfl)); (case hp => exact (Reps.one (show Kd.M (Kd.int .i64) _ _ _ 0 [.int .i64 0] from rfl) (Reps.one (show Kd.M (Kd.int .i64) _ _ _ 4 [.int .i64 4] from rfl) (Reps.one (show Kd.M (Kd.int .i64) _ _ _ (-1) [.int .i64 (-1)] from rfl) (Reps.one (show Kd.M (Kd.int .i64) _ _ _ 1 [.int .i64 1] from rfl) (Reps.none _ _))))))
        intro v262 w129 ho130 hb hg_ hnew_
        clear hg_ hnew_
        (first | rw [← Ny261.out] at ho130 | (simp only [Int.reduceToNat] at ho130; rw [← Ny261.out] at ho130))
        have n0_ := Aside0.mk (Kd.R_below (by (with_reducible repeat (first | apply Kd.R_alloc | apply Kd.R_drewN | apply Kd.R_drew)); exact HO237.out) hb)
        have n1_ := Aside0.mk (Kd.R_lower ho130 (keep_size (w := w) (g := g) (row := none) (spec_l1Bent_auHK)))
        have n2_ := Aside0.mk (IsS84.below (spec_l1Bent_auHI0) hb)
        have n3_ := Aside0.mk (blk_below (g := gb232) (o := .cells #[.int .i64 a1_0, .slice A1_1 l1_1.length c1_1] 29 (0, 0)) (spec_l1Bent_vb BK232) hb)
        have n4_ := Aside0.mk (blk_below (g := gb233) (o := .cells #[.int .i64 0, .slice none 0 0] 29 (0, 0)) (spec_l1Bent_vb BK233) hb)
        have n5_ := Aside0.mk (blk_below (g := gb238) (o := .cells #[.int .i64 t234, .slice Ao124 t235.length co124] 29 (0, 0)) (spec_l1Bent_vb BK238) hb)
        have n6_ := Aside0.mk (KeepBut.trans (spec_l1Bent_auHK) (KeepBut.of_below hb g none) (.inl rfl))
        have n7_ := Aside0.mk (below_step (spec_l1Bent_auHB) hb)
        clear HO237
        clear HI0
        clear BK232
        clear BK233
        clear BK238
        clear HK
        clear HB
        have HO237 := n0_
        have HO263 := n1_
        have HI0 := n2_
        have BK232 := n3_
        have BK233 := n4_
        have BK238 := n5_
        have HK := n6_
        have HB := n7_
        clear n0_ n1_ n2_ n3_ n4_ n5_ n6_ n7_
        clear hb ho130
        obtain ⟨Ao131, co131, eo131⟩ := Kd.R_slice HO263.out
        (first | subst eo131 | (injection eo131 with f1_ f2_ f3_; have f4_ := f1_.symm; have f5_ := f3_.symm; clear f1_ f2_ f3_; subst f4_; subst f5_))
        refine hK.out _ _ ⟨(blk_cell BK238.out 0).trans rfl, (blk_cell BK238.out 1).trans rfl⟩ (fun hHeld => ?_)
        clear hK K
        refine norm_ (a' := ?_) ?_ ?_
        rotate_left
        ·
         show Act.put _ (some 54) _ = _
         simp only [Act.put, List.setIfInBounds_toArray, List.set_cons_zero, List.set_cons_succ, i64_w, i32_w]
         rfl
        refine one_ (i := 5) (N := some 55) #[true, true, true, true, true, true, false, false, false] rfl rfl (one_of HT_.out (by kernel_rfl)) (by decide) (fun K hK => ?_)
        refine goes_ Tryd.func56 (by kernel_rfl) rfl #[.pointer (some ⟨g, 0, none⟩), .slice Ao131 y261.length co131] (by rfl) rfl rfl (by (try simp only [List.map_toArray, List.map_cons, List.map_nil]); first | done | rfl | (simp only [List.length_drop, List.length_take]; rfl)) ?_
        with_reducible refine (spec_l9Rd_num.calls k g s0_0 t243 _ _ y261 t264 t265 w0 _ ?side1 ?side2 ?side3 ?side4 ?side5 A109.out).mono ?_
        (case side1 => exact spec_l1Bent_auHI0)
        (case side2 => exact spec_l1Bent_auHB)
        (case side3 => repeat (first | exact (Kd.R_reads' HO263.out).2.2 | (with_reducible refine Kd.C_alloc ?_ _) | (with_reducible refine Kd.C_drewN ?_ _) | (with_reducible refine Kd.C_drew ?_)))
        (case side4 => exact (Kd.R_reads' HO263.out).2.1)
        (case side5 => exact far_slice (IsS84.own_ne HI0.out HO263.out (by decide)))
        rintro e w132 ⟨rfl, hi, hb, hk⟩
        refine ⟨_, rfl, ?_⟩
        have n0_ := Aside0.mk (KeepBut.blk hk (g' := gb232) (o := .cells #[.int .i64 a1_0, .slice A1_1 l1_1.length c1_1] 29 (0, 0)) (spec_l1Bent_vb BK232) NB232_0.out (by simp))
        have n1_ := Aside0.mk (KeepBut.blk hk (g' := gb233) (o := .cells #[.int .i64 0, .slice none 0 0] 29 (0, 0)) (spec_l1Bent_vb BK233) NB233_0.out (by simp))
        have n2_ := Aside0.mk (Kd.R_mono (Kd.R_keep (IsS84.apart (show IsS84 w0 _ g s0_0 t243 from spec_l1Bent_auHI0) (by (with_reducible repeat (first | apply Kd.R_alloc | apply Kd.R_drewN | apply Kd.R_drew)); exact HO237.out) (by decide)) hk (fun _ h => h.2)) (fun _ h => h.1))
        have n3_ := Aside0.mk (KeepBut.blk hk (g' := gb238) (o := .cells #[.int .i64 t234, .slice Ao124 t235.length co124] 29 (0, 0)) (spec_l1Bent_vb BK238) NB238_0.out (by simp))
        have n4_ := Aside0.mk (Kd.R_mono (Kd.R_keep (IsS84.apart (show IsS84 w0 _ g s0_0 t243 from spec_l1Bent_auHI0) (by (with_reducible repeat (first | apply Kd.R_alloc | apply Kd.R_drewN | apply Kd.R_drew)); exact HO263.out) (by decide)) hk (fun _ h => h.2)) (fun _ h => h.1))
        have n5_ := Aside0.mk (KeepBut.trans (spec_l1Bent_auHK) hk (.inl rfl))
        have n6_ := Aside0.mk (hb)
        have n7_ := Aside0.mk (hi)
        clear BK232
        clear BK233
        clear HO237
        clear BK238
        clear HO263
        clear HK
        clear HB
        clear HI0
        have BK232 := n0_
        have BK233 := n1_
        have HO237 := n2_
        have BK238 := n3_
        have HO263 := n4_
        have HK := n5_
        have HB := n6_
        have HI0 := n7_
        clear n0_ n1_ n2_ n3_ n4_ n5_ n6_ n7_
        (try clear hb)
        (try clear hb2)
        (try clear hk)
        (try clear hi)
        have p112 : 0 ≤ (t240 : Int) := of_decide_eq_true (by first | (with_reducible assumption) | assumption)
        have q112 : (t240 : Int) < ((t235.length : Int) : Int) := of_decide_eq_true (by first | (with_reducible assumption) | assumption)
        obtain ⟨go112, co112, eo112, gb112, gl112, cl112, HG112⟩ := Kd.R_form HO237.out (by omega)
        (first | cases eo112 | (injection eo112 with ea_ en_ ec_; (first | subst ea_ | (injection ea_ with ea_; subst ea_)); subst ec_; clear en_))
        have GB112 := Aside0.mk gb112
        have GG112 := Aside0.mk HG112
        clear gb112 gl112 HG112
        obtain ⟨ce112, hcl112, hM112, hcc112, hfr112⟩ := Kd.R_elem HO237.out z45 (t240 : Int) p112 q112
        obtain rfl := k45_openM hM112
        have hx112_0 : World.cell? _ ⟨go112, (t240 : Int).toNat * 3, none⟩ = some (.string ((rd_T45 t235 t240).f0)) := hcc112 0 _ rfl
        have hx112_1 : World.cell? _ ⟨go112, (t240 : Int).toNat * 3 + 1, none⟩ = some (.int .i64 ((rd_T45 t235 t240).f1)) := hcc112 1 _ rfl
        have hx112_2 : World.cell? _ ⟨go112, (t240 : Int).toNat * 3 + 2, none⟩ = some (.int .i64 ((rd_T45 t235 t240).f2)) := hcc112 2 _ rfl
        have hf112_0 : World.frozen? _ ⟨go112, (t240 : Int).toNat * 3, none⟩ = false := hfr112 0
        have hf112_1 : World.frozen? _ ⟨go112, (t240 : Int).toNat * 3 + 1, none⟩ = false := hfr112 1
        have hf112_2 : World.frozen? _ ⟨go112, (t240 : Int).toNat * 3 + 2, none⟩ = false := hfr112 2
        clear hcl112 hcc112 hfr112 hM112
        replace p112 := eq_true p112
        replace q112 := eq_true q112
        have HN0_go112 := Aside0.mk (show g ≠ go112 from by have h_ := IsS84.own_ne HI0.out HO237.out (by decide); intro e_; exact h_ (by rw [e_]; rfl))
        obtain ⟨ce133, hcl133, hM133, hcc133, hfr133⟩ := Kd.R_elem HO237.out z45 (t240 : Int) (of_decide_eq_true (by first | (with_reducible assumption) | assumption)) (by have h_ : (t240 : Int) < ((t235.length : Int) : Int) := of_decide_eq_true (by first | (with_reducible assumption) | assumption); first | exact h_ | (have e_ := (Kd.R_reads' HO237.out).1; omega) | simpa using h_)
        obtain rfl := k45_openM hM133
        have HP133 := (Kd.R_seg HO237.out (t240 : Int) (of_decide_eq_true (by first | (with_reducible assumption) | assumption)) (by have h_ : (t240 : Int) < ((t235.length : Int) : Int) := of_decide_eq_true (by first | (with_reducible assumption) | assumption); first | exact h_ | (have e_ := (Kd.R_reads' HO237.out).1; omega) | simpa using h_) (seg := [.int .i64 t264]) (j := 1) hcl133 hcc133 (show 2 ≤ 3 from by decide) (x' := (⟨(rd_T45 t235 t240).f0, t264, (rd_T45 t235 t240).f2⟩ : S45)) (k45_mkM _ _ _ (⟨(rd_T45 t235 t240).f0, t264, (rd_T45 t235 t240).f2⟩ : S45) ) (fun _ hk => hk)).1
        rw [← Ny266.out] at HP133
        have HQ133 := Aside0.mk HP133
        clear hcl133 hcc133 hfr133 hM133 HP133
        refine hK.out _ _ ⟨(blk_cell BK238.out 0).trans rfl, (blk_cell BK238.out 1).trans rfl⟩ (fun hHeld => ?_)
        clear hK K
        refine norm_ (a' := ?_) ?_ ?_
        rotate_left
        ·
         show Act.put _ (some 55) _ = _
         simp only [Act.put, List.setIfInBounds_toArray, List.set_cons_zero, List.set_cons_succ, i64_w, i32_w]
         rfl
        refine pure_ (i := 6) (N := some 56) (v := ?_) (a' := ?_) #[true, true, true, true, true, true, true, false, false] rfl rfl (any_of HT_.out (by kernel_rfl)) (fun _ _ _ h => h) (Or.inl ⟨by rfl, ?_⟩) ?_ ?_
        rotate_left
        ·
         intro w'
         go_simp
         with_reducible rfl
        rotate_left
        ·
         simp only [Act.put, List.setIfInBounds_toArray, List.set_cons_zero, List.set_cons_succ, i64_w, i32_w]
         rfl
        refine pure_ (i := 7) (N := some 57) (v := ?_) (a' := ?_) #[true, true, true, true, true, true, true, true, false] rfl rfl (any_of HT_.out (by kernel_rfl)) (fun _ _ _ h => h) (Or.inl ⟨by rfl, ?_⟩) ?_ ?_
        rotate_left
        ·
         intro w'
         go_simp
         with_reducible rfl
        rotate_left
        ·
         simp only [Act.put, List.setIfInBounds_toArray, List.set_cons_zero, List.set_cons_succ, i64_w, i32_w]
         rfl
        refine last_ (i := 8) (N := none) #[true, true, true, true, true, true, true, true, true] rfl rfl (one_of HT_.out (by kernel_rfl)) (by decide) (fun K hK => ?_)
        refine skip_ (w1 := ?_) (by rfl) rfl ?_ ?_
        rotate_left
        ·
         go_simp
         rfl
        refine hK.out _ _ ?_
        clear hK K
        refine done_ (done_of HT_.out (by kernel_rfl)) ?_
        have n0_ : Aside0 (Kd.R k45 45 (w132.setCell ⟨go112, (t240 : Int).toNat * 3 + 1, none⟩ (.int .i64 t264)) w.heap.size (fun _ => True) (.slice (some ⟨go112, 0, none⟩) t235.length co124) y266) := ⟨by (with_reducible repeat (first | apply Kd.R_alloc | apply Kd.R_drewN | apply Kd.R_drew)); exact HQ133.out⟩
        have n1_ : Aside0 (Kd.R (Kd.int .i64) 3 (w132.setCell ⟨go112, (t240 : Int).toNat * 3 + 1, none⟩ (.int .i64 t264)) w.heap.size (fun _ => True) (.slice Ao131 y261.length co131) y261) := ⟨by (with_reducible repeat (first | apply Kd.R_alloc | apply Kd.R_drewN | apply Kd.R_drew)); exact Kd.R_mono (Kd.R_far (p := ⟨go112, (t240 : Int).toNat * 3 + 1, none⟩) (Kd.R_types HO263.out GG112.out (by decide)) (fun _ hk => hk.2) (.int .i64 t264)) (fun _ hk => trivial)⟩
        have n2_ : Aside0 ((w132.setCell ⟨go112, (t240 : Int).toNat * 3 + 1, none⟩ (.int .i64 t264)).heap[gb232]? = some (.cells #[.int .i64 a1_0, .slice A1_1 l1_1.length c1_1] 29 (0, 0))) := ⟨by (with_reducible repeat (first | refine blk_drewN ?_ _ | refine blk_drew ?_ | refine blk_alloc ?_ _)); refine blk_far ?_ (by have h_ := Kd.R_ne HO237.out BK232.out (by decide); intro e_; exact h_ (by rw [e_]; rfl)) _; (with_reducible repeat (first | refine blk_drewN ?_ _ | refine blk_drew ?_ | refine blk_alloc ?_ _)); exact BK232.out⟩
        have n3_ : Aside0 ((w132.setCell ⟨go112, (t240 : Int).toNat * 3 + 1, none⟩ (.int .i64 t264)).heap[gb233]? = some (.cells #[.int .i64 0, .slice none 0 0] 29 (0, 0))) := ⟨by (with_reducible repeat (first | refine blk_drewN ?_ _ | refine blk_drew ?_ | refine blk_alloc ?_ _)); refine blk_far ?_ (by have h_ := Kd.R_ne HO237.out BK233.out (by decide); intro e_; exact h_ (by rw [e_]; rfl)) _; (with_reducible repeat (first | refine blk_drewN ?_ _ | refine blk_drew ?_ | refine blk_alloc ?_ _)); exact BK233.out⟩
        have n4_ : Aside0 ((w132.setCell ⟨go112, (t240 : Int).toNat * 3 + 1, none⟩ (.int .i64 t264)).heap[gb238]? = some (.cells #[.int .i64 t234, .slice (some ⟨go112, 0, none⟩) t235.length co124] 29 (0, 0))) := ⟨by (with_reducible repeat (first | refine blk_drewN ?_ _ | refine blk_drew ?_ | refine blk_alloc ?_ _)); refine blk_far ?_ (by have h_ := Kd.R_ne HO237.out BK238.out (by decide); intro e_; exact h_ (by rw [e_]; rfl)) _; (with_reducible repeat (first | refine blk_drewN ?_ _ | refine blk_drew ?_ | refine blk_alloc ?_ _)); exact BK238.out⟩
        have n5_ : Aside0 (IsS84 w0 (w132.setCell ⟨go112, (t240 : Int).toNat * 3 + 1, none⟩ (.int .i64 t264)) g s0_0 t265) := ⟨spec_l1Bent_auHI0⟩
        have n6_ : Aside0 (KeepBut w (w132.setCell ⟨go112, (t240 : Int).toNat * 3 + 1, none⟩ (.int .i64 t264)) g none) := ⟨spec_l1Bent_auHK⟩
        have n7_ : Aside0 (Below w0.heap.size w0 (w132.setCell ⟨go112, (t240 : Int).toNat * 3 + 1, none⟩ (.int .i64 t264))) := ⟨spec_l1Bent_auHB⟩
        (try clear HO237)
        (try clear HO263)
        (try clear BK232)
        (try clear BK233)
        (try clear BK238)
        (try clear HI0)
        (try clear HK)
        (try clear HB)
        generalize (w132.setCell ⟨go112, (t240 : Int).toNat * 3 + 1, none⟩ (.int .i64 t264)) = w134 at n0_ n1_ n2_ n3_ n4_ n5_ n6_ n7_ ⊢
        have HO237 := n0_
        have HO263 := n1_
        have BK232 := n2_
        have BK233 := n3_
        have BK238 := n4_
        have HI0 := n5_
        have HK := n6_
        have HB := n7_
        clear n0_ n1_ n2_ n3_ n4_ n5_ n6_ n7_
        have hcz135_0 : w134.cell? ⟨gb238, 0, none⟩ = some (.int .i64 t234) := (blk_cell BK238.out 0).trans rfl
        have hcz135_1 : w134.cell? ⟨gb238, 1, none⟩ = some (.slice (some ⟨go112, 0, none⟩) t235.length co124) := (blk_cell BK238.out 1).trans rfl
        have hfz135_0 := blk_frozen BK238.out 0
        have hfz135_1 := blk_frozen BK238.out 1
        have hnb136 := NB233_0.out
        have hnc136 := NB0_233.out
        have hcz137_0 : w134.cell? ⟨gb233, 0, none⟩ = some (.int .i64 0) := (blk_cell BK233.out 0).trans rfl
        have hcz137_1 : w134.cell? ⟨gb233, 1, none⟩ = some (.slice none 0 0) := (blk_cell BK233.out 1).trans rfl
        have hfz137_0 := blk_frozen BK233.out 0
        have hfz137_1 := blk_frozen BK233.out 1
        try go_wp2
        refine bodyPost_ret (results_cell_row rfl _ _ gb233 29 #[.int .i64 t234, .slice (some ⟨go112, 0, none⟩) t235.length co124] (0, 0) _ rfl (by (with_reducible repeat (first | refine blk_drewN ?_ _ | refine blk_drew ?_ | refine blk_alloc ?_ _)); refine blk_put (cs := #[.int .i64 t234, .slice none 0 0]) ?_ 1 _ rfl; (with_reducible repeat (first | refine blk_drewN ?_ _ | refine blk_drew ?_ | refine blk_alloc ?_ _)); refine blk_put (cs := #[.int .i64 0, .slice none 0 0]) ?_ 0 _ rfl; (with_reducible repeat (first | refine blk_drewN ?_ _ | refine blk_drew ?_ | refine blk_alloc ?_ _)); exact BK233.out) Tryd.underlying29 rfl (by kernel_rfl)) rfl ?_
        exact ⟨_, by first | rfl | (simp [errW_none, errW_some] <;> rfl) | (simp [*, errW_none, errW_some] <;> rfl), by (with_reducible repeat (first | apply Kd.R_alloc | apply Kd.R_drewN | apply Kd.R_drew)); exact Kd.R_mono (Kd.R_far (p := ⟨gb233, 1, none⟩) (Kd.R_far (p := ⟨gb233, 0, none⟩) (Kd.R_types HO237.out BK233.out (by decide)) (fun _ hk => hk.2) (.int .i64 t234)) (fun _ hk => hk.2) (.slice (some ⟨go112, 0, none⟩) t235.length co124)) (fun _ hk => trivial), spec_l1Bent_auHI0, spec_l1Bent_auHB, spec_l1Bent_auHK⟩
       ·
        rw [if_neg c111] at H
        exact absurd H (by simp)
      ·
       rw [if_neg c110] at H
       exact absurd H (by simp)
     ·
      rw [if_neg c108] at H
      have c108b0 : (t242 == 3) = false := beq_eq_false_iff_ne.mpr c108
      have c108b1 : (t242 != 3) = true := bne_iff_ne.mpr c108
      by_cases c138 : t242 = 4
      ·
       rw [if_pos c138] at H
       have c138b0 : (t242 == 4) = true := beq_iff_eq.mpr c138
       have c138b1 : (t242 != 4) = false := bne_eq_false_iff_eq.mpr c138
       clear c138
       obtain ⟨y267, hy267⟩ : ∃ y_ : List (S45), y_ = (([] : List (S45))) := ⟨_, rfl⟩
       replace H : (some (t234, y267, t243)) = some (r1, r2, r3) := by first | (rw [hy267]; with_reducible exact H) | (have H2_ := (Option.bind_some _ _).symm.trans H; rw [hy267]; with_reducible exact H2_) | (have H2_ := (Option.bind_some _ _).symm.trans H; with_reducible exact H2_) | with_reducible exact H | (rw [hy267]; exact H) | exact H
       have Ny267 := Aside0.mk hy267
       clear hy267
       simp only [Option.some.injEq, Prod.mk.injEq] at H
       obtain ⟨rfl, rfl, rfl⟩ := H
       go_enter Tryd.func53, Tryd.ntmps53
       go_wp2_with (first | ((with_reducible refine gate_dst (N := 3) rfl ?_); refine box_event ?hg (N := 3) ?hd (cs := #[.int .i64 a1_0, .slice A1_1 l1_1.length c1_1]) (t := 29) ?hr ?_; (case hd => rfl); (case hg => rfl); (case hr => first | (go_simp; done) | (go_simp; rfl)); intro gb232 hg w139 hbox hb; have n0_ := Aside0.mk (IsS84.below (spec_l1Bent_auHI0) hb); have n1_ := Aside0.mk (KeepBut.trans (spec_l1Bent_auHK) (KeepBut.of_below hb g none) (.inl rfl)); have n2_ := Aside0.mk (below_step (spec_l1Bent_auHB) hb); have n3_ := Aside0.mk (hbox); have n4_ := Aside0.mk ((by rw [hg]; exact (keep_size (w := w) (g := g) (row := none) (spec_l1Bent_auHK)) : w.heap.size ≤ gb232)); have n5_ := Aside0.mk ((Nat.le_trans HW0.out (by rw [hg]; exact (keep_size (w := w) (g := g) (row := none) (spec_l1Bent_auHK)) : w.heap.size ≤ gb232) : w0.heap.size ≤ gb232)); have n6_ := Aside0.mk ((by rw [hg]; exact Nat.ne_of_lt (IsS84.lt (show IsS84 w0 _ g s0_0 s0_1 from spec_l1Bent_auHI0)) : g ≠ gb232)); have n7_ := Aside0.mk ((by rw [hg]; exact Nat.ne_of_gt (IsS84.lt (show IsS84 w0 _ g s0_0 s0_1 from spec_l1Bent_auHI0)) : gb232 ≠ g)); clear HI0; clear HK; clear HB; have HI0 := n0_; have HK := n1_; have HB := n2_; have BK232 := n3_; have GW232 := n4_; have GE232 := n5_; have NB0_232 := n6_; have NB232_0 := n7_; clear n0_ n1_ n2_ n3_ n4_ n5_ n6_ n7_; clear hb hbox hg) | ((with_reducible refine gate_dst (N := 4) rfl ?_); refine box_event ?hg (N := 4) ?hd (cs := #[.int .i64 0, .slice none 0 0]) (t := 29) ?hr ?_; (case hd => rfl); (case hg => rfl); (case hr => first | (go_simp; done) | (go_simp; rfl)); intro gb233 hg w140 hbox hb; have n0_ := Aside0.mk (IsS84.below (spec_l1Bent_auHI0) hb); have n1_ := Aside0.mk (blk_below (g := gb232) (o := .cells #[.int .i64 a1_0, .slice A1_1 l1_1.length c1_1] 29 (0, 0)) (spec_l1Bent_vb BK232) hb); have n2_ := Aside0.mk (KeepBut.trans (spec_l1Bent_auHK) (KeepBut.of_below hb g none) (.inl rfl)); have n3_ := Aside0.mk (below_step (spec_l1Bent_auHB) hb); have n4_ := Aside0.mk (hbox); have n5_ := Aside0.mk ((by rw [hg]; exact (keep_size (w := w) (g := g) (row := none) (spec_l1Bent_auHK)) : w.heap.size ≤ gb233)); have n6_ := Aside0.mk ((Nat.le_trans HW0.out (by rw [hg]; exact (keep_size (w := w) (g := g) (row := none) (spec_l1Bent_auHK)) : w.heap.size ≤ gb233) : w0.heap.size ≤ gb233)); have n7_ := Aside0.mk ((by rw [hg]; exact Nat.ne_of_lt (blk_lt (g := gb232) (o := .cells #[.int .i64 a1_0, .slice A1_1 l1_1.length c1_1] 29 (0, 0)) (spec_l1Bent_vb BK232)) : gb232 ≠ gb233)); have n8_ := Aside0.mk ((by rw [hg]; exact Nat.ne_of_gt (blk_lt (g := gb232) (o := .cells #[.int .i64 a1_0, .slice A1_1 l1_1.length c1_1] 29 (0, 0)) (spec_l1Bent_vb BK232)) : gb233 ≠ gb232)); have n9_ := Aside0.mk ((by rw [hg]; exact Nat.ne_of_lt (IsS84.lt (show IsS84 w0 _ g s0_0 s0_1 from spec_l1Bent_auHI0)) : g ≠ gb233)); have n10_ := Aside0.mk ((by rw [hg]; exact Nat.ne_of_gt (IsS84.lt (show IsS84 w0 _ g s0_0 s0_1 from spec_l1Bent_auHI0)) : gb233 ≠ g)); clear HI0; clear BK232; clear HK; clear HB; have HI0 := n0_; have BK232 := n1_; have HK := n2_; have HB := n3_; have BK233 := n4_; have GW233 := n5_; have GE233 := n6_; have NB232_233 := n7_; have NB233_232 := n8_; have NB0_233 := n9_; have NB233_0 := n10_; clear n0_ n1_ n2_ n3_ n4_ n5_ n6_ n7_ n8_ n9_ n10_; clear hb hbox hg; have hnb141 := NB232_233.out; have hnc141 := NB233_232.out; have hnb142 := NB232_0.out; have hnc142 := NB0_232.out; have hcz143_0 : w140.cell? ⟨gb232, 0, none⟩ = some (.int .i64 a1_0) := (blk_cell BK232.out 0).trans rfl; have hcz143_1 : w140.cell? ⟨gb232, 1, none⟩ = some (.slice A1_1 l1_1.length c1_1) := (blk_cell BK232.out 1).trans rfl; have hfz143_0 := blk_frozen BK232.out 0; have hfz143_1 := blk_frozen BK232.out 1) | ((with_reducible refine gate_callee (f := 66) rfl ?_); refine goesL_ (some 8) rfl rfl Tryd.func66 (by kernel_rfl) rfl #[.agg #[.int .i64 a1_0, .slice A1_1 l1_1.length c1_1]] rfl (by (try simp only [List.map_toArray, List.map_cons, List.map_nil]); first | done | rfl | (simp only [List.length_drop, List.length_take]; rfl)) ?_; (with_reducible refine (spec_l1Copy.calls a1_0 _ _ l1_1 t234 t235 _ ?side1 ?side2 A3.out).mono ?_); (case side1 => exact Kd.C_foot_now HR1_1.out (spec_l1Bent_auHK)); (case side2 => exact HC1_1.out); rintro e w144 ⟨v236, rfl, ho0, hb⟩; refine ⟨_, rfl, ?_⟩; have n0_ := Aside0.mk (Kd.R_lower ho0 (keep_size (w := w) (g := g) (row := none) (spec_l1Bent_auHK))); have n1_ := Aside0.mk (IsS84.below (spec_l1Bent_auHI0) hb); have n2_ := Aside0.mk (blk_below (g := gb232) (o := .cells #[.int .i64 a1_0, .slice A1_1 l1_1.length c1_1] 29 (0, 0)) (spec_l1Bent_vb BK232) hb); have n3_ := Aside0.mk (blk_below (g := gb233) (o := .cells #[.int .i64 0, .slice none 0 0] 29 (0, 0)) (spec_l1Bent_vb BK233) hb); have n4_ := Aside0.mk (KeepBut.trans (spec_l1Bent_auHK) (KeepBut.of_below hb g none) (.inl rfl)); have n5_ := Aside0.mk (below_step (spec_l1Bent_auHB) hb); clear HI0; clear BK232; clear BK233; clear HK; clear HB; have HO237 := n0_; have HI0 := n1_; have BK232 := n2_; have BK233 := n3_; have HK := n4_; have HB := n5_; clear n0_ n1_ n2_ n3_ n4_ n5_; (try clear hb); (try clear hb2); (try clear hk); (try clear hi); (try clear ho0)) | ((with_reducible refine gate_dst (N := 5) rfl ?_); refine box_event ?hg (N := 5) ?hd (cs := #[.int .i64 0, .slice none 0 0]) (t := 29) ?hr ?_; (case hd => rfl); (case hg => rfl); (case hr => first | (go_simp; done) | (go_simp; rfl)); intro gb238 hg w145 hbox hb; have n0_ := Aside0.mk (Kd.R_below (by (with_reducible repeat (first | apply Kd.R_alloc | apply Kd.R_drewN | apply Kd.R_drew)); exact HO237.out) hb); have n1_ := Aside0.mk (IsS84.below (spec_l1Bent_auHI0) hb); have n2_ := Aside0.mk (blk_below (g := gb232) (o := .cells #[.int .i64 a1_0, .slice A1_1 l1_1.length c1_1] 29 (0, 0)) (spec_l1Bent_vb BK232) hb); have n3_ := Aside0.mk (blk_below (g := gb233) (o := .cells #[.int .i64 0, .slice none 0 0] 29 (0, 0)) (spec_l1Bent_vb BK233) hb); have n4_ := Aside0.mk (KeepBut.trans (spec_l1Bent_auHK) (KeepBut.of_below hb g none) (.inl rfl)); have n5_ := Aside0.mk (below_step (spec_l1Bent_auHB) hb); have n6_ := Aside0.mk (hbox); have n7_ := Aside0.mk ((by rw [hg]; exact (keep_size (w := w) (g := g) (row := none) (spec_l1Bent_auHK)) : w.heap.size ≤ gb238)); have n8_ := Aside0.mk ((Nat.le_trans HW0.out (by rw [hg]; exact (keep_size (w := w) (g := g) (row := none) (spec_l1Bent_auHK)) : w.heap.size ≤ gb238) : w0.heap.size ≤ gb238)); have n9_ := Aside0.mk ((by rw [hg]; exact Nat.ne_of_lt (blk_lt (g := gb232) (o := .cells #[.int .i64 a1_0, .slice A1_1 l1_1.length c1_1] 29 (0, 0)) (spec_l1Bent_vb BK232)) : gb232 ≠ gb238)); have n10_ := Aside0.mk ((by rw [hg]; exact Nat.ne_of_gt (blk_lt (g := gb232) (o := .cells #[.int .i64 a1_0, .slice A1_1 l1_1.length c1_1] 29 (0, 0)) (spec_l1Bent_vb BK232)) : gb238 ≠ gb232)); have n11_ := Aside0.mk ((by rw [hg]; exact Nat.ne_of_lt (blk_lt (g := gb233) (o := .cells #[.int .i64 0, .slice none 0 0] 29 (0, 0)) (spec_l1Bent_vb BK233)) : gb233 ≠ gb238)); have n12_ := Aside0.mk ((by rw [hg]; exact Nat.ne_of_gt (blk_lt (g := gb233) (o := .cells #[.int .i64 0, .slice none 0 0] 29 (0, 0)) (spec_l1Bent_vb BK233)) : gb238 ≠ gb233)); have n13_ := Aside0.mk ((by rw [hg]; exact Nat.ne_of_lt (IsS84.lt (show IsS84 w0 _ g s0_0 s0_1 from spec_l1Bent_auHI0)) : g ≠ gb238)); have n14_ := Aside0.mk ((by rw [hg]; exact Nat.ne_of_gt (IsS84.lt (show IsS84 w0 _ g s0_0 s0_1 from spec_l1Bent_auHI0)) : gb238 ≠ g)); clear HO237; clear HI0; clear BK232; clear BK233; clear HK; clear HB; have HO237 := n0_; have HI0 := n1_; have BK232 := n2_; have BK233 := n3_; have HK := n4_; have HB := n5_; have BK238 := n6_; have GW238 := n7_; have GE238 := n8_; have NB232_238 := n9_; have NB238_232 := n10_; have NB233_238 := n11_; have NB238_233 := n12_; have NB0_238 := n13_; have NB238_0 := n14_; clear n0_ n1_ n2_ n3_ n4_ n5_ n6_ n7_ n8_ n9_ n10_ n11_ n12_ n13_ n14_; clear hb hbox hg; have hnb146 := NB238_232.out; have hnc146 := NB232_238.out; have hnb147 := NB238_233.out; have hnc147 := NB233_238.out; have hnb148 := NB238_0.out; have hnc148 := NB0_238.out; have hcz149_0 : w145.cell? ⟨gb238, 0, none⟩ = some (.int .i64 0) := (blk_cell BK238.out 0).trans rfl; have hcz149_1 : w145.cell? ⟨gb238, 1, none⟩ = some (.slice none 0 0) := (blk_cell BK238.out 1).trans rfl; have hfz149_0 := blk_frozen BK238.out 0; have hfz149_1 := blk_frozen BK238.out 1; obtain ⟨Ao150, co150, eo150⟩ := Kd.R_slice HO237.out; subst eo150) | ((with_reducible refine gate_callee (f := 67) rfl ?_); refine goesL_ (some 13) rfl rfl Tryd.func67 (by kernel_rfl) rfl #[.int .i64 1, .int .i64 (t235.length : Int)] rfl (by (try simp only [List.map_toArray, List.map_cons, List.map_nil]); first | done | rfl | (simp only [List.length_drop, List.length_take]; rfl)) ?_; (with_reducible refine (spec_l1Max.calls 1 (t235.length : Int) t239 _ A4.out).mono ?_); rintro e w' ⟨rfl, ⟨nd, rfl⟩⟩; refine ⟨_, rfl, ?_⟩) | ((with_reducible refine gate_callee (f := 41) rfl ?_); refine goesL_ (some 14) rfl rfl Tryd.func41 (by kernel_rfl) rfl #[.pointer (some ⟨g, 0, none⟩), .int .i64 t239] rfl (by (try simp only [List.map_toArray, List.map_cons, List.map_nil]); first | done | rfl | (simp only [List.length_drop, List.length_take]; rfl)) ?_; (with_reducible refine (spec_l9Rd_pick.calls k g s0_0 s0_1 t239 t240 t241 w0 _ ?side1 ?side2 A5.out).mono ?_); (case side1 => exact spec_l1Bent_auHI0); (case side2 => exact spec_l1Bent_auHB); rintro e w151 ⟨rfl, hi, hb, hk⟩; refine ⟨_, rfl, ?_⟩; have n0_ := Aside0.mk (KeepBut.blk hk (g' := gb232) (o := .cells #[.int .i64 a1_0, .slice A1_1 l1_1.length c1_1] 29 (0, 0)) (by (with_reducible repeat (first | refine blk_drewN ?_ _ | refine blk_drew ?_ | refine blk_alloc ?_ _)); refine blk_far ?_ NB232_238.out _; (with_reducible repeat (first | refine blk_drewN ?_ _ | refine blk_drew ?_ | refine blk_alloc ?_ _)); refine blk_far ?_ NB232_238.out _; (with_reducible repeat (first | refine blk_drewN ?_ _ | refine blk_drew ?_ | refine blk_alloc ?_ _)); exact BK232.out) NB232_0.out (by simp)); have n1_ := Aside0.mk (KeepBut.blk hk (g' := gb233) (o := .cells #[.int .i64 0, .slice none 0 0] 29 (0, 0)) (by (with_reducible repeat (first | refine blk_drewN ?_ _ | refine blk_drew ?_ | refine blk_alloc ?_ _)); refine blk_far ?_ NB233_238.out _; (with_reducible repeat (first | refine blk_drewN ?_ _ | refine blk_drew ?_ | refine blk_alloc ?_ _)); refine blk_far ?_ NB233_238.out _; (with_reducible repeat (first | refine blk_drewN ?_ _ | refine blk_drew ?_ | refine blk_alloc ?_ _)); exact BK233.out) NB233_0.out (by simp)); have n2_ := Aside0.mk (Kd.R_mono (Kd.R_keep (IsS84.apart (show IsS84 w0 _ g s0_0 s0_1 from spec_l1Bent_auHI0) (by (with_reducible repeat (first | apply Kd.R_alloc | apply Kd.R_drewN | apply Kd.R_drew)); exact (Kd.R_mono (Kd.R_far (p := ⟨gb238, 1, none⟩) (Kd.R_far (p := ⟨gb238, 0, none⟩) (Kd.R_types HO237.out BK238.out (by decide)) (fun _ hk => hk.2) (.int .i64 t234)) (fun _ hk => hk.2) (.slice Ao150 t235.length co150)) (fun _ h_ => h_.1))) (by decide)) hk (fun _ h => h.2)) (fun _ h => h.1)); have n3_ := Aside0.mk (KeepBut.blk hk (g' := gb238) (o := .cells #[.int .i64 t234, .slice Ao150 t235.length co150] 29 (0, 0)) (by (with_reducible repeat (first | refine blk_drewN ?_ _ | refine blk_drew ?_ | refine blk_alloc ?_ _)); refine blk_put (cs := #[.int .i64 t234, .slice none 0 0]) ?_ 1 _ rfl; (with_reducible repeat (first | refine blk_drewN ?_ _ | refine blk_drew ?_ | refine blk_alloc ?_ _)); refine blk_put (cs := #[.int .i64 0, .slice none 0 0]) ?_ 0 _ rfl; (with_reducible repeat (first | refine blk_drewN ?_ _ | refine blk_drew ?_ | refine blk_alloc ?_ _)); exact BK238.out) NB238_0.out (by simp)); have n4_ := Aside0.mk (KeepBut.trans (spec_l1Bent_auHK) hk (.inl rfl)); have n5_ := Aside0.mk (hb); have n6_ := Aside0.mk (hi); clear BK232; clear BK233; clear HO237; clear BK238; clear HK; clear HB; clear HI0; have BK232 := n0_; have BK233 := n1_; have HO237 := n2_; have BK238 := n3_; have HK := n4_; have HB := n5_; have HI0 := n6_; clear n0_ n1_ n2_ n3_ n4_ n5_ n6_; (try clear hb); (try clear hb2); (try clear hk); (try clear hi); have hcz152_0 : w151.cell? ⟨gb238, 0, none⟩ = some (.int .i64 t234) := (blk_cell BK238.out 0).trans rfl; have hcz152_1 : w151.cell? ⟨gb238, 1, none⟩ = some (.slice Ao150 t235.length co150) := (blk_cell BK238.out 1).trans rfl; have hfz152_0 := blk_frozen BK238.out 0; have hfz152_1 := blk_frozen BK238.out 1) | ((with_reducible refine gate_callee (f := 41) rfl ?_); refine goesL_ (some 21) rfl rfl Tryd.func41 (by kernel_rfl) rfl #[.pointer (some ⟨g, 0, none⟩), .int .i64 64] rfl (by (try simp only [List.map_toArray, List.map_cons, List.map_nil]); first | done | rfl | (simp only [List.length_drop, List.length_take]; rfl)) ?_; (with_reducible refine (spec_l9Rd_pick.calls k g s0_0 t241 64 t242 t243 w0 _ ?side1 ?side2 A23.out).mono ?_); (case side1 => exact spec_l1Bent_auHI0); (case side2 => exact spec_l1Bent_auHB); rintro e w153 ⟨rfl, hi, hb, hk⟩; refine ⟨_, rfl, ?_⟩; have n0_ := Aside0.mk (KeepBut.blk hk (g' := gb232) (o := .cells #[.int .i64 a1_0, .slice A1_1 l1_1.length c1_1] 29 (0, 0)) (spec_l1Bent_vb BK232) NB232_0.out (by simp)); have n1_ := Aside0.mk (KeepBut.blk hk (g' := gb233) (o := .cells #[.int .i64 0, .slice none 0 0] 29 (0, 0)) (spec_l1Bent_vb BK233) NB233_0.out (by simp)); have n2_ := Aside0.mk (Kd.R_mono (Kd.R_keep (IsS84.apart (show IsS84 w0 _ g s0_0 t241 from spec_l1Bent_auHI0) (by (with_reducible repeat (first | apply Kd.R_alloc | apply Kd.R_drewN | apply Kd.R_drew)); exact HO237.out) (by decide)) hk (fun _ h => h.2)) (fun _ h => h.1)); have n3_ := Aside0.mk (KeepBut.blk hk (g' := gb238) (o := .cells #[.int .i64 t234, .slice Ao150 t235.length co150] 29 (0, 0)) (spec_l1Bent_vb BK238) NB238_0.out (by simp)); have n4_ := Aside0.mk (KeepBut.trans (spec_l1Bent_auHK) hk (.inl rfl)); have n5_ := Aside0.mk (hb); have n6_ := Aside0.mk (hi); clear BK232; clear BK233; clear HO237; clear BK238; clear HK; clear HB; clear HI0; have BK232 := n0_; have BK233 := n1_; have HO237 := n2_; have BK238 := n3_; have HK := n4_; have HB := n5_; have HI0 := n6_; clear n0_ n1_ n2_ n3_ n4_ n5_ n6_; (try clear hb); (try clear hb2); (try clear hk); (try clear hi)) | ((with_reducible refine gate_dst (N := 60) rfl ?_); refine Kd.R_lit k45 _ 45 ?hg (N := 60) ?hd (xs := ([] : List (S45))) (inner := []) (ok := fun _ => True) (okp := fun _ => True) ?hr ?hp (fun _ hk => hk) trivial (Below.refl _ _) (Nat.le_refl _) (by simp) ?_; (case hd => rfl); (case hg => rfl); (case hr => first | (go_simp; done) | (go_simp; rfl)); (case hp => exact (Reps.none _ _)); intro v268 w154 ho155 hb hg_ hnew_; clear hg_ hnew_; (first | rw [← Ny267.out] at ho155 | (simp only [Int.reduceToNat] at ho155; rw [← Ny267.out] at ho155)); have n0_ := Aside0.mk (Kd.R_elder' (by (with_reducible repeat (first | apply Kd.R_alloc | apply Kd.R_drewN | apply Kd.R_drew)); exact HO237.out) (Kd.R_base ho155) hb); have n1_ := Aside0.mk (Kd.R_lower (Kd.R_new' ho155 (Kd.R_lt (by (with_reducible repeat (first | apply Kd.R_alloc | apply Kd.R_drewN | apply Kd.R_drew)); exact HO237.out))) (keep_size (w := w) (g := g) (row := none) (spec_l1Bent_auHK))); have n2_ := Aside0.mk (IsS84.below (spec_l1Bent_auHI0) hb); have n3_ := Aside0.mk (blk_below (g := gb232) (o := .cells #[.int .i64 a1_0, .slice A1_1 l1_1.length c1_1] 29 (0, 0)) (spec_l1Bent_vb BK232) hb); have n4_ := Aside0.mk (blk_below (g := gb233) (o := .cells #[.int .i64 0, .slice none 0 0] 29 (0, 0)) (spec_l1Bent_vb BK233) hb); have n5_ := Aside0.mk (blk_below (g := gb238) (o := .cells #[.int .i64 t234, .slice Ao150 t235.length co150] 29 (0, 0)) (spec_l1Bent_vb BK238) hb); have n6_ := Aside0.mk (KeepBut.trans (spec_l1Bent_auHK) (KeepBut.of_below hb g none) (.inl rfl)); have n7_ := Aside0.mk (below_step (spec_l1Bent_auHB) hb); clear HO237; clear HI0; clear BK232; clear BK233; clear BK238; clear HK; clear HB; have HO237 := n0_; have HO269 := n1_; have HI0 := n2_; have BK232 := n3_; have BK233 := n4_; have BK238 := n5_; have HK := n6_; have HB := n7_; clear n0_ n1_ n2_ n3_ n4_ n5_ n6_ n7_; clear hb ho155; obtain ⟨Ao156, co156, eo156⟩ := Kd.R_slice HO269.out; subst eo156; have hcz157_0 : w154.cell? ⟨gb238, 0, none⟩ = some (.int .i64 t234) := (blk_cell BK238.out 0).trans rfl; have hcz157_1 : w154.cell? ⟨gb238, 1, none⟩ = some (.slice Ao150 t235.length co150) := (blk_cell BK238.out 1).trans rfl; have hfz157_0 := blk_frozen BK238.out 0; have hfz157_1 := blk_frozen BK238.out 1; have hnb158 := NB233_0.out; have hnc158 := NB0_233.out; have hcz159_0 : w154.cell? ⟨gb233, 0, none⟩ = some (.int .i64 0) := (blk_cell BK233.out 0).trans rfl; have hcz159_1 : w154.cell? ⟨gb233, 1, none⟩ = some (.slice none 0 0) := (blk_cell BK233.out 1).trans rfl; have hfz159_0 := blk_frozen BK233.out 0; have hfz159_1 := blk_frozen BK233.out 1))
       refine bodyPost_ret (results_cell_row rfl _ _ gb233 29 #[.int .i64 t234, .slice Ao156 y267.length co156] (0, 0) _ rfl (by (with_reducible repeat (first | refine blk_drewN ?_ _ | refine blk_drew ?_ | refine blk_alloc ?_ _)); refine blk_put (cs := #[.int .i64 t234, .slice none 0 0]) ?_ 1 _ rfl; (with_reducible repeat (first | refine blk_drewN ?_ _ | refine blk_drew ?_ | refine blk_alloc ?_ _)); refine blk_put (cs := #[.int .i64 0, .slice none 0 0]) ?_ 0 _ rfl; (with_reducible repeat (first | refine blk_drewN ?_ _ | refine blk_drew ?_ | refine blk_alloc ?_ _)); refine blk_far ?_ NB233_238.out _; (with_reducible repeat (first | refine blk_drewN ?_ _ | refine blk_drew ?_ | refine blk_alloc ?_ _)); exact BK233.out) Tryd.underlying29 rfl (by kernel_rfl)) rfl ?_
       exact ⟨_, by first | rfl | (simp [errW_none, errW_some] <;> rfl) | (simp [*, errW_none, errW_some] <;> rfl), by (with_reducible repeat (first | apply Kd.R_alloc | apply Kd.R_drewN | apply Kd.R_drew)); exact Kd.R_mono (Kd.R_far (p := ⟨gb233, 1, none⟩) (Kd.R_far (p := ⟨gb233, 0, none⟩) (Kd.R_far (p := ⟨gb238, 1, none⟩) (Kd.R_types (Kd.R_types HO269.out BK238.out (by decide)) BK233.out (by decide)) (fun _ hk => hk.1.2) (.slice Ao156 y267.length co156)) (fun _ hk => hk.2) (.int .i64 t234)) (fun _ hk => hk.2) (.slice Ao156 y267.length co156)) (fun _ hk => trivial), spec_l1Bent_auHI0, spec_l1Bent_auHB, spec_l1Bent_auHK⟩
      ·
       rw [if_neg c138] at H
       have c138b0 : (t242 == 4) = false := beq_eq_false_iff_ne.mpr c138
       have c138b1 : (t242 != 4) = true := bne_iff_ne.mpr c138
       by_cases c160 : t242 = 5
       ·
        rw [if_pos c160] at H
        have c160b0 : (t242 == 5) = true := beq_iff_eq.mpr c160
        have c160b1 : (t242 != 5) = false := bne_eq_false_iff_eq.mpr c160
        clear c160
        have H' := Aside0.mk H
        clear H
        go_enter Tryd.func53, Tryd.ntmps53
        go_wp2_with (first | ((with_reducible refine gate_dst (N := 3) rfl ?_); refine box_event ?hg (N := 3) ?hd (cs := #[.int .i64 a1_0, .slice A1_1 l1_1.length c1_1]) (t := 29) ?hr ?_; (case hd => rfl); (case hg => rfl); (case hr => first | (go_simp; done) | (go_simp; rfl)); intro gb232 hg w161 hbox hb; have n0_ := Aside0.mk (IsS84.below (spec_l1Bent_auHI0) hb); have n1_ := Aside0.mk (KeepBut.trans (spec_l1Bent_auHK) (KeepBut.of_below hb g none) (.inl rfl)); have n2_ := Aside0.mk (below_step (spec_l1Bent_auHB) hb); have n3_ := Aside0.mk (hbox); have n4_ := Aside0.mk ((by rw [hg]; exact (keep_size (w := w) (g := g) (row := none) (spec_l1Bent_auHK)) : w.heap.size ≤ gb232)); have n5_ := Aside0.mk ((Nat.le_trans HW0.out (by rw [hg]; exact (keep_size (w := w) (g := g) (row := none) (spec_l1Bent_auHK)) : w.heap.size ≤ gb232) : w0.heap.size ≤ gb232)); have n6_ := Aside0.mk ((by rw [hg]; exact Nat.ne_of_lt (IsS84.lt (show IsS84 w0 _ g s0_0 s0_1 from spec_l1Bent_auHI0)) : g ≠ gb232)); have n7_ := Aside0.mk ((by rw [hg]; exact Nat.ne_of_gt (IsS84.lt (show IsS84 w0 _ g s0_0 s0_1 from spec_l1Bent_auHI0)) : gb232 ≠ g)); clear HI0; clear HK; clear HB; have HI0 := n0_; have HK := n1_; have HB := n2_; have BK232 := n3_; have GW232 := n4_; have GE232 := n5_; have NB0_232 := n6_; have NB232_0 := n7_; clear n0_ n1_ n2_ n3_ n4_ n5_ n6_ n7_; clear hb hbox hg) | ((with_reducible refine gate_dst (N := 4) rfl ?_); refine box_event ?hg (N := 4) ?hd (cs := #[.int .i64 0, .slice none 0 0]) (t := 29) ?hr ?_; (case hd => rfl); (case hg => rfl); (case hr => first | (go_simp; done) | (go_simp; rfl)); intro gb233 hg w162 hbox hb; have n0_ := Aside0.mk (IsS84.below (spec_l1Bent_auHI0) hb); have n1_ := Aside0.mk (blk_below (g := gb232) (o := .cells #[.int .i64 a1_0, .slice A1_1 l1_1.length c1_1] 29 (0, 0)) (spec_l1Bent_vb BK232) hb); have n2_ := Aside0.mk (KeepBut.trans (spec_l1Bent_auHK) (KeepBut.of_below hb g none) (.inl rfl)); have n3_ := Aside0.mk (below_step (spec_l1Bent_auHB) hb); have n4_ := Aside0.mk (hbox); have n5_ := Aside0.mk ((by rw [hg]; exact (keep_size (w := w) (g := g) (row := none) (spec_l1Bent_auHK)) : w.heap.size ≤ gb233)); have n6_ := Aside0.mk ((Nat.le_trans HW0.out (by rw [hg]; exact (keep_size (w := w) (g := g) (row := none) (spec_l1Bent_auHK)) : w.heap.size ≤ gb233) : w0.heap.size ≤ gb233)); have n7_ := Aside0.mk ((by rw [hg]; exact Nat.ne_of_lt (blk_lt (g := gb232) (o := .cells #[.int .i64 a1_0, .slice A1_1 l1_1.length c1_1] 29 (0, 0)) (spec_l1Bent_vb BK232)) : gb232 ≠ gb233)); have n8_ := Aside0.mk ((by rw [hg]; exact Nat.ne_of_gt (blk_lt (g := gb232) (o := .cells #[.int .i64 a1_0, .slice A1_1 l1_1.length c1_1] 29 (0, 0)) (spec_l1Bent_vb BK232)) : gb233 ≠ gb232)); have n9_ := Aside0.mk ((by rw [hg]; exact Nat.ne_of_lt (IsS84.lt (show IsS84 w0 _ g s0_0 s0_1 from spec_l1Bent_auHI0)) : g ≠ gb233)); have n10_ := Aside0.mk ((by rw [hg]; exact Nat.ne_of_gt (IsS84.lt (show IsS84 w0 _ g s0_0 s0_1 from spec_l1Bent_auHI0)) : gb233 ≠ g)); clear HI0; clear BK232; clear HK; clear HB; have HI0 := n0_; have BK232 := n1_; have HK := n2_; have HB := n3_; have BK233 := n4_; have GW233 := n5_; have GE233 := n6_; have NB232_233 := n7_; have NB233_232 := n8_; have NB0_233 := n9_; have NB233_0 := n10_; clear n0_ n1_ n2_ n3_ n4_ n5_ n6_ n7_ n8_ n9_ n10_; clear hb hbox hg; have hnb163 := NB232_233.out; have hnc163 := NB233_232.out; have hnb164 := NB232_0.out; have hnc164 := NB0_232.out; have hcz165_0 : w162.cell? ⟨gb232, 0, none⟩ = some (.int .i64 a1_0) := (blk_cell BK232.out 0).trans rfl; have hcz165_1 : w162.cell? ⟨gb232, 1, none⟩ = some (.slice A1_1 l1_1.length c1_1) := (blk_cell BK232.out 1).trans rfl; have hfz165_0 := blk_frozen BK232.out 0; have hfz165_1 := blk_frozen BK232.out 1) | ((with_reducible refine gate_callee (f := 66) rfl ?_); refine goesL_ (some 8) rfl rfl Tryd.func66 (by kernel_rfl) rfl #[.agg #[.int .i64 a1_0, .slice A1_1 l1_1.length c1_1]] rfl (by (try simp only [List.map_toArray, List.map_cons, List.map_nil]); first | done | rfl | (simp only [List.length_drop, List.length_take]; rfl)) ?_; (with_reducible refine (spec_l1Copy.calls a1_0 _ _ l1_1 t234 t235 _ ?side1 ?side2 A3.out).mono ?_); (case side1 => exact Kd.C_foot_now HR1_1.out (spec_l1Bent_auHK)); (case side2 => exact HC1_1.out); rintro e w166 ⟨v236, rfl, ho0, hb⟩; refine ⟨_, rfl, ?_⟩; have n0_ := Aside0.mk (Kd.R_lower ho0 (keep_size (w := w) (g := g) (row := none) (spec_l1Bent_auHK))); have n1_ := Aside0.mk (IsS84.below (spec_l1Bent_auHI0) hb); have n2_ := Aside0.mk (blk_below (g := gb232) (o := .cells #[.int .i64 a1_0, .slice A1_1 l1_1.length c1_1] 29 (0, 0)) (spec_l1Bent_vb BK232) hb); have n3_ := Aside0.mk (blk_below (g := gb233) (o := .cells #[.int .i64 0, .slice none 0 0] 29 (0, 0)) (spec_l1Bent_vb BK233) hb); have n4_ := Aside0.mk (KeepBut.trans (spec_l1Bent_auHK) (KeepBut.of_below hb g none) (.inl rfl)); have n5_ := Aside0.mk (below_step (spec_l1Bent_auHB) hb); clear HI0; clear BK232; clear BK233; clear HK; clear HB; have HO237 := n0_; have HI0 := n1_; have BK232 := n2_; have BK233 := n3_; have HK := n4_; have HB := n5_; clear n0_ n1_ n2_ n3_ n4_ n5_; (try clear hb); (try clear hb2); (try clear hk); (try clear hi); (try clear ho0)) | ((with_reducible refine gate_dst (N := 5) rfl ?_); refine box_event ?hg (N := 5) ?hd (cs := #[.int .i64 0, .slice none 0 0]) (t := 29) ?hr ?_; (case hd => rfl); (case hg => rfl); (case hr => first | (go_simp; done) | (go_simp; rfl)); intro gb238 hg w167 hbox hb; have n0_ := Aside0.mk (Kd.R_below (by (with_reducible repeat (first | apply Kd.R_alloc | apply Kd.R_drewN | apply Kd.R_drew)); exact HO237.out) hb); have n1_ := Aside0.mk (IsS84.below (spec_l1Bent_auHI0) hb); have n2_ := Aside0.mk (blk_below (g := gb232) (o := .cells #[.int .i64 a1_0, .slice A1_1 l1_1.length c1_1] 29 (0, 0)) (spec_l1Bent_vb BK232) hb); have n3_ := Aside0.mk (blk_below (g := gb233) (o := .cells #[.int .i64 0, .slice none 0 0] 29 (0, 0)) (spec_l1Bent_vb BK233) hb); have n4_ := Aside0.mk (KeepBut.trans (spec_l1Bent_auHK) (KeepBut.of_below hb g none) (.inl rfl)); have n5_ := Aside0.mk (below_step (spec_l1Bent_auHB) hb); have n6_ := Aside0.mk (hbox); have n7_ := Aside0.mk ((by rw [hg]; exact (keep_size (w := w) (g := g) (row := none) (spec_l1Bent_auHK)) : w.heap.size ≤ gb238)); have n8_ := Aside0.mk ((Nat.le_trans HW0.out (by rw [hg]; exact (keep_size (w := w) (g := g) (row := none) (spec_l1Bent_auHK)) : w.heap.size ≤ gb238) : w0.heap.size ≤ gb238)); have n9_ := Aside0.mk ((by rw [hg]; exact Nat.ne_of_lt (blk_lt (g := gb232) (o := .cells #[.int .i64 a1_0, .slice A1_1 l1_1.length c1_1] 29 (0, 0)) (spec_l1Bent_vb BK232)) : gb232 ≠ gb238)); have n10_ := Aside0.mk ((by rw [hg]; exact Nat.ne_of_gt (blk_lt (g := gb232) (o := .cells #[.int .i64 a1_0, .slice A1_1 l1_1.length c1_1] 29 (0, 0)) (spec_l1Bent_vb BK232)) : gb238 ≠ gb232)); have n11_ := Aside0.mk ((by rw [hg]; exact Nat.ne_of_lt (blk_lt (g := gb233) (o := .cells #[.int .i64 0, .slice none 0 0] 29 (0, 0)) (spec_l1Bent_vb BK233)) : gb233 ≠ gb238)); have n12_ := Aside0.mk ((by rw [hg]; exact Nat.ne_of_gt (blk_lt (g := gb233) (o := .cells #[.int .i64 0, .slice none 0 0] 29 (0, 0)) (spec_l1Bent_vb BK233)) : gb238 ≠ gb233)); have n13_ := Aside0.mk ((by rw [hg]; exact Nat.ne_of_lt (IsS84.lt (show IsS84 w0 _ g s0_0 s0_1 from spec_l1Bent_auHI0)) : g ≠ gb238)); have n14_ := Aside0.mk ((by rw [hg]; exact Nat.ne_of_gt (IsS84.lt (show IsS84 w0 _ g s0_0 s0_1 from spec_l1Bent_auHI0)) : gb238 ≠ g)); clear HO237; clear HI0; clear BK232; clear BK233; clear HK; clear HB; have HO237 := n0_; have HI0 := n1_; have BK232 := n2_; have BK233 := n3_; have HK := n4_; have HB := n5_; have BK238 := n6_; have GW238 := n7_; have GE238 := n8_; have NB232_238 := n9_; have NB238_232 := n10_; have NB233_238 := n11_; have NB238_233 := n12_; have NB0_238 := n13_; have NB238_0 := n14_; clear n0_ n1_ n2_ n3_ n4_ n5_ n6_ n7_ n8_ n9_ n10_ n11_ n12_ n13_ n14_; clear hb hbox hg; have hnb168 := NB238_232.out; have hnc168 := NB232_238.out; have hnb169 := NB238_233.out; have hnc169 := NB233_238.out; have hnb170 := NB238_0.out; have hnc170 := NB0_238.out; have hcz171_0 : w167.cell? ⟨gb238, 0, none⟩ = some (.int .i64 0) := (blk_cell BK238.out 0).trans rfl; have hcz171_1 : w167.cell? ⟨gb238, 1, none⟩ = some (.slice none 0 0) := (blk_cell BK238.out 1).trans rfl; have hfz171_0 := blk_frozen BK238.out 0; have hfz171_1 := blk_frozen BK238.out 1; obtain ⟨Ao172, co172, eo172⟩ := Kd.R_slice HO237.out; subst eo172) | ((with_reducible refine gate_callee (f := 67) rfl ?_); refine goesL_ (some 13) rfl rfl Tryd.func67 (by kernel_rfl) rfl #[.int .i64 1, .int .i64 (t235.length : Int)] rfl (by (try simp only [List.map_toArray, List.map_cons, List.map_nil]); first | done | rfl | (simp only [List.length_drop, List.length_take]; rfl)) ?_; (with_reducible refine (spec_l1Max.calls 1 (t235.length : Int) t239 _ A4.out).mono ?_); rintro e w' ⟨rfl, ⟨nd, rfl⟩⟩; refine ⟨_, rfl, ?_⟩) | ((with_reducible refine gate_callee (f := 41) rfl ?_); refine goesL_ (some 14) rfl rfl Tryd.func41 (by kernel_rfl) rfl #[.pointer (some ⟨g, 0, none⟩), .int .i64 t239] rfl (by (try simp only [List.map_toArray, List.map_cons, List.map_nil]); first | done | rfl | (simp only [List.length_drop, List.length_take]; rfl)) ?_; (with_reducible refine (spec_l9Rd_pick.calls k g s0_0 s0_1 t239 t240 t241 w0 _ ?side1 ?side2 A5.out).mono ?_); (case side1 => exact spec_l1Bent_auHI0); (case side2 => exact spec_l1Bent_auHB); rintro e w173 ⟨rfl, hi, hb, hk⟩; refine ⟨_, rfl, ?_⟩; have n0_ := Aside0.mk (KeepBut.blk hk (g' := gb232) (o := .cells #[.int .i64 a1_0, .slice A1_1 l1_1.length c1_1] 29 (0, 0)) (by (with_reducible repeat (first | refine blk_drewN ?_ _ | refine blk_drew ?_ | refine blk_alloc ?_ _)); refine blk_far ?_ NB232_238.out _; (with_reducible repeat (first | refine blk_drewN ?_ _ | refine blk_drew ?_ | refine blk_alloc ?_ _)); refine blk_far ?_ NB232_238.out _; (with_reducible repeat (first | refine blk_drewN ?_ _ | refine blk_drew ?_ | refine blk_alloc ?_ _)); exact BK232.out) NB232_0.out (by simp)); have n1_ := Aside0.mk (KeepBut.blk hk (g' := gb233) (o := .cells #[.int .i64 0, .slice none 0 0] 29 (0, 0)) (by (with_reducible repeat (first | refine blk_drewN ?_ _ | refine blk_drew ?_ | refine blk_alloc ?_ _)); refine blk_far ?_ NB233_238.out _; (with_reducible repeat (first | refine blk_drewN ?_ _ | refine blk_drew ?_ | refine blk_alloc ?_ _)); refine blk_far ?_ NB233_238.out _; (with_reducible repeat (first | refine blk_drewN ?_ _ | refine blk_drew ?_ | refine blk_alloc ?_ _)); exact BK233.out) NB233_0.out (by simp)); have n2_ := Aside0.mk (Kd.R_mono (Kd.R_keep (IsS84.apart (show IsS84 w0 _ g s0_0 s0_1 from spec_l1Bent_auHI0) (by (with_reducible repeat (first | apply Kd.R_alloc | apply Kd.R_drewN | apply Kd.R_drew)); exact (Kd.R_mono (Kd.R_far (p := ⟨gb238, 1, none⟩) (Kd.R_far (p := ⟨gb238, 0, none⟩) (Kd.R_types HO237.out BK238.out (by decide)) (fun _ hk => hk.2) (.int .i64 t234)) (fun _ hk => hk.2) (.slice Ao172 t235.length co172)) (fun _ h_ => h_.1))) (by decide)) hk (fun _ h => h.2)) (fun _ h => h.1)); have n3_ := Aside0.mk (KeepBut.blk hk (g' := gb238) (o := .cells #[.int .i64 t234, .slice Ao172 t235.length co172] 29 (0, 0)) (by (with_reducible repeat (first | refine blk_drewN ?_ _ | refine blk_drew ?_ | refine blk_alloc ?_ _)); refine blk_put (cs := #[.int .i64 t234, .slice none 0 0]) ?_ 1 _ rfl; (with_reducible repeat (first | refine blk_drewN ?_ _ | refine blk_drew ?_ | refine blk_alloc ?_ _)); refine blk_put (cs := #[.int .i64 0, .slice none 0 0]) ?_ 0 _ rfl; (with_reducible repeat (first | refine blk_drewN ?_ _ | refine blk_drew ?_ | refine blk_alloc ?_ _)); exact BK238.out) NB238_0.out (by simp)); have n4_ := Aside0.mk (KeepBut.trans (spec_l1Bent_auHK) hk (.inl rfl)); have n5_ := Aside0.mk (hb); have n6_ := Aside0.mk (hi); clear BK232; clear BK233; clear HO237; clear BK238; clear HK; clear HB; clear HI0; have BK232 := n0_; have BK233 := n1_; have HO237 := n2_; have BK238 := n3_; have HK := n4_; have HB := n5_; have HI0 := n6_; clear n0_ n1_ n2_ n3_ n4_ n5_ n6_; (try clear hb); (try clear hb2); (try clear hk); (try clear hi); have hcz174_0 : w173.cell? ⟨gb238, 0, none⟩ = some (.int .i64 t234) := (blk_cell BK238.out 0).trans rfl; have hcz174_1 : w173.cell? ⟨gb238, 1, none⟩ = some (.slice Ao172 t235.length co172) := (blk_cell BK238.out 1).trans rfl; have hfz174_0 := blk_frozen BK238.out 0; have hfz174_1 := blk_frozen BK238.out 1) | ((with_reducible refine gate_callee (f := 41) rfl ?_); refine goesL_ (some 21) rfl rfl Tryd.func41 (by kernel_rfl) rfl #[.pointer (some ⟨g, 0, none⟩), .int .i64 64] rfl (by (try simp only [List.map_toArray, List.map_cons, List.map_nil]); first | done | rfl | (simp only [List.length_drop, List.length_take]; rfl)) ?_; (with_reducible refine (spec_l9Rd_pick.calls k g s0_0 t241 64 t242 t243 w0 _ ?side1 ?side2 A23.out).mono ?_); (case side1 => exact spec_l1Bent_auHI0); (case side2 => exact spec_l1Bent_auHB); rintro e w175 ⟨rfl, hi, hb, hk⟩; refine ⟨_, rfl, ?_⟩; have n0_ := Aside0.mk (KeepBut.blk hk (g' := gb232) (o := .cells #[.int .i64 a1_0, .slice A1_1 l1_1.length c1_1] 29 (0, 0)) (spec_l1Bent_vb BK232) NB232_0.out (by simp)); have n1_ := Aside0.mk (KeepBut.blk hk (g' := gb233) (o := .cells #[.int .i64 0, .slice none 0 0] 29 (0, 0)) (spec_l1Bent_vb BK233) NB233_0.out (by simp)); have n2_ := Aside0.mk (Kd.R_mono (Kd.R_keep (IsS84.apart (show IsS84 w0 _ g s0_0 t241 from spec_l1Bent_auHI0) (by (with_reducible repeat (first | apply Kd.R_alloc | apply Kd.R_drewN | apply Kd.R_drew)); exact HO237.out) (by decide)) hk (fun _ h => h.2)) (fun _ h => h.1)); have n3_ := Aside0.mk (KeepBut.blk hk (g' := gb238) (o := .cells #[.int .i64 t234, .slice Ao172 t235.length co172] 29 (0, 0)) (spec_l1Bent_vb BK238) NB238_0.out (by simp)); have n4_ := Aside0.mk (KeepBut.trans (spec_l1Bent_auHK) hk (.inl rfl)); have n5_ := Aside0.mk (hb); have n6_ := Aside0.mk (hi); clear BK232; clear BK233; clear HO237; clear BK238; clear HK; clear HB; clear HI0; have BK232 := n0_; have BK233 := n1_; have HO237 := n2_; have BK238 := n3_; have HK := n4_; have HB := n5_; have HI0 := n6_; clear n0_ n1_ n2_ n3_ n4_ n5_ n6_; (try clear hb); (try clear hb2); (try clear hk); (try clear hi)))
        go_loopg [] k (fun kq w' => ∃ (x1001_1 : Int) (x239001_1 : List (S45)) (u239001 : Value), Aside0 (spec_l1Bent.l0 kq s0_0 x1001_1 t234 x239001_1 = some (r1, r2, r3)) ∧ Aside0 (kq ≤ k) ∧ Aside0 (Kd.R k45 45 w' w.heap.size (fun _ => True) u239001 x239001_1) ∧ Aside0 (w'.heap[gb232]? = some (.cells #[.int .i64 a1_0, (.slice A1_1 l1_1.length c1_1)] 29 (0, 0))) ∧ Aside0 (w'.heap[gb233]? = some (.cells #[.int .i64 0, (.slice none 0 0)] 29 (0, 0))) ∧ Aside0 (w'.heap[gb238]? = some (.cells #[.int .i64 t234, u239001] 29 (0, 0))) ∧ Aside0 (IsS84 w0 w' g s0_0 x1001_1) ∧ Aside0 (KeepBut w w' g none) ∧ Aside0 (Below w0.heap.size w0 w'))
        case atStart => exact ⟨(t243), (t235), (.slice Ao172 t235.length co172), H', ⟨Nat.le_refl _⟩, ⟨by (with_reducible repeat (first | apply Kd.R_alloc | apply Kd.R_drewN | apply Kd.R_drew)); exact HO237.out⟩, ⟨by (with_reducible repeat (first | refine blk_drewN ?_ _ | refine blk_drew ?_ | refine blk_alloc ?_ _)); exact BK232.out⟩, ⟨by (with_reducible repeat (first | refine blk_drewN ?_ _ | refine blk_drew ?_ | refine blk_alloc ?_ _)); exact BK233.out⟩, ⟨by (with_reducible repeat (first | refine blk_drewN ?_ _ | refine blk_drew ?_ | refine blk_alloc ?_ _)); exact BK238.out⟩, ⟨spec_l1Bent_auHI0⟩, ⟨spec_l1Bent_auHK⟩, ⟨spec_l1Bent_auHB⟩⟩
        case round =>
         clear H'
         try clear c1
         try clear p1
         try clear q1
         try clear hx1
         try clear p2
         try clear c4
         try clear c5
         try clear c6
         try clear c7
         try clear c8
         try clear p8
         try clear q8
         try clear hx8
         try clear hf8
         try clear c9
         try clear c10
         try clear c11
         try clear p11
         try clear q11
         try clear hx11
         try clear hf11
         try clear c12
         try clear c13
         try clear c14
         try clear c15
         try clear c16
         try clear c17
         try clear c41
         try clear c42
         try clear c48
         try clear c48b0
         try clear c48b1
         try clear c50
         try clear c51
         try clear c53
         try clear c56
         try clear c66
         try clear c67
         try clear c76
         try clear c78
         try clear c78b0
         try clear c78b1
         try clear c80
         try clear c80b0
         try clear c81
         try clear c81b0
         try clear c82
         try clear p82
         try clear q82
         try clear hx82
         try clear hf82
         try clear c85
         try clear c86
         try clear c90
         try clear c91
         try clear c92
         try clear c103
         try clear c106
         try clear c108
         try clear c108b0
         try clear c108b1
         try clear c110
         try clear c110b0
         try clear c111
         try clear c111b0
         try clear c112
         try clear p112
         try clear q112
         try clear hx112
         try clear hf112
         try clear c115
         try clear c116
         try clear c120
         try clear c121
         try clear c122
         try clear c133
         try clear c136
         try clear c138
         try clear c138b0
         try clear c138b1
         try clear c141
         try clear c142
         try clear c146
         try clear c147
         try clear c148
         try clear c158
         try clear c160
         try clear c160b0
         try clear c160b1
         try clear c163
         try clear c164
         try clear c168
         try clear c169
         try clear c170
         try clear hcz105_0
         try clear hcz105_1
         try clear hcz107_0
         try clear hcz107_1
         try clear hcz117_0
         try clear hcz117_1
         try clear hcz123_0
         try clear hcz123_1
         try clear hcz126_0
         try clear hcz126_1
         try clear hcz135_0
         try clear hcz135_1
         try clear hcz137_0
         try clear hcz137_1
         try clear hcz143_0
         try clear hcz143_1
         try clear hcz149_0
         try clear hcz149_1
         try clear hcz152_0
         try clear hcz152_1
         try clear hcz157_0
         try clear hcz157_1
         try clear hcz159_0
         try clear hcz159_1
         try clear hcz165_0
         try clear hcz165_1
         try clear hcz171_0
         try clear hcz171_1
         try clear hcz174_0
         try clear hcz174_1
         try clear hcz75_0
         try clear hcz75_1
         try clear hcz77_0
         try clear hcz77_1
         try clear hcz87_0
         try clear hcz87_1
         try clear hcz93_0
         try clear hcz93_1
         try clear hcz96_0
         try clear hcz96_1
         try clear hfz105_0
         try clear hfz105_1
         try clear hfz107_0
         try clear hfz107_1
         try clear hfz117_0
         try clear hfz117_1
         try clear hfz123_0
         try clear hfz123_1
         try clear hfz126_0
         try clear hfz126_1
         try clear hfz135_0
         try clear hfz135_1
         try clear hfz137_0
         try clear hfz137_1
         try clear hfz143_0
         try clear hfz143_1
         try clear hfz149_0
         try clear hfz149_1
         try clear hfz152_0
         try clear hfz152_1
         try clear hfz157_0
         try clear hfz157_1
         try clear hfz159_0
         try clear hfz159_1
         try clear hfz165_0
         try clear hfz165_1
         try clear hfz171_0
         try clear hfz171_1
         try clear hfz174_0
         try clear hfz174_1
         try clear hfz75_0
         try clear hfz75_1
         try clear hfz77_0
         try clear hfz77_1
         try clear hfz87_0
         try clear hfz87_1
         try clear hfz93_0
         try clear hfz93_1
         try clear hfz96_0
         try clear hfz96_1
         try clear hx112_0
         try clear hx112_1
         try clear hx112_2
         try clear hx82_0
         try clear hx82_1
         try clear hx82_2
         try clear p112
         try clear p82
         try clear q112
         try clear q82
         obtain ⟨x1001_1, x239001_1, u239001, HA, HK1, HO_239001, BK232, BK233, BK238, HI0, HK, HB⟩ := hrel
         cases gk with
         | zero => exact absurd HA.out (by simp [spec_l1Bent.l0])
         | succ k1 =>
          have H := HA.out
          clear HA
          simp only [spec_l1Bent.l0] at H
          replace H := Option.bind_eq_some_iff.mp H
          obtain ⟨⟨t270, t271⟩, A1760, H⟩ := H
          replace H : (if (x239001_1.length : Int) < (wrap64 (4 + t270)) then (if 0 < (x239001_1.length : Int) then (if x239001_1.length < 4398046511104 then (spec_l1Bent.l0 k1 s0_0 t271 t234 (x239001_1 ++ [(⟨(rd_T45 x239001_1 0).f0, (rd_T45 x239001_1 0).f1, (rd_T45 x239001_1 0).f2⟩ : S45)])) else (none)) else (none)) else (some (t234, x239001_1, t271))) = some (r1, r2, r3) := H
          have A176 := Aside0.mk A1760
          clear A1760
          by_cases c177 : (x239001_1.length : Int) < (wrap64 (4 + t270))
          ·
           rw [if_pos c177] at H
           have c177b0 : decide ((x239001_1.length : Int) < (wrap64 (4 + t270))) = true := decide_eq_true c177
           clear c177
           by_cases c178 : 0 < (x239001_1.length : Int)
           ·
            rw [if_pos c178] at H
            have c178b0 : decide (0 < (x239001_1.length : Int)) = true := decide_eq_true c178
            have c178b1 : decide (0 < x239001_1.length) = true := decide_eq_true (by omega)
            clear c178
            by_cases c179 : x239001_1.length < 4398046511104
            ·
             rw [if_pos c179] at H
             have LMc179 := Aside0.mk c179
             clear c179
             obtain ⟨y273, hy273⟩ : ∃ y_ : List (S45), y_ = (x239001_1 ++ [(⟨(rd_T45 x239001_1 0).f0, (rd_T45 x239001_1 0).f1, (rd_T45 x239001_1 0).f2⟩ : S45)]) := ⟨_, rfl⟩
             replace H : (spec_l1Bent.l0 k1 s0_0 t271 t234 y273) = some (r1, r2, r3) := by first | (rw [hy273]; with_reducible exact H) | (have H2_ := (Option.bind_some _ _).symm.trans H; rw [hy273]; with_reducible exact H2_) | (have H2_ := (Option.bind_some _ _).symm.trans H; with_reducible exact H2_) | with_reducible exact H | (rw [hy273]; exact H) | exact H
             have Ny273 := Aside0.mk hy273
             clear hy273
             have H' := Aside0.mk H
             clear H
             try go_wp2
             have n0_ := Aside0.mk (Kd.R_drew HO_239001.out)
             have n1_ := Aside0.mk (blk_drew BK232.out)
             have n2_ := Aside0.mk (blk_drew BK233.out)
             have n3_ := Aside0.mk (blk_drew BK238.out)
             have n4_ := Aside0.mk (IsS84.drew HI0.out)
             have n5_ := Aside0.mk (keep_drew HK.out)
             have n6_ := Aside0.mk (below_drew1 HB.out)
             clear HO_239001
             clear BK232
             clear BK233
             clear BK238
             clear HI0
             clear HK
             clear HB
             have HO_239001 := n0_
             have BK232 := n1_
             have BK233 := n2_
             have BK238 := n3_
             have HI0 := n4_
             have HK := n5_
             have HB := n6_
             clear n0_ n1_ n2_ n3_ n4_ n5_ n6_
             obtain ⟨Ao181, co181, eo181⟩ := Kd.R_slice HO_239001.out
             (first | subst eo181 | (injection eo181 with f1_ f2_ f3_; have f4_ := f1_.symm; have f5_ := f3_.symm; clear f1_ f2_ f3_; subst f4_; subst f5_))
             refine start_ (n := 7) (S := fun w' => w'.cell? ⟨gb238, 0, none⟩ = some (.int .i64 t234) ∧ w'.cell? ⟨gb238, 1, none⟩ = some (.slice Ao181 x239001_1.length co181)) (ds := []) #[false, false, false, false, false, false, false] (by kernel_rfl) rfl rfl ⟨(blk_cell BK238.out 0).trans rfl, (blk_cell BK238.out 1).trans rfl⟩ (fun hHeld => ?_)
             generalize wr.drew = w180 at HO_239001 BK232 BK233 BK238 HI0 HK HB hHeld ⊢
             refine pure_ (i := 0) (N := some 64) (v := ?_) (a' := ?_) #[true, false, false, false, false, false, false] rfl rfl (by kernel_rfl) (fun _ _ _ h => h) (Or.inl ⟨by rfl, ?_⟩) ?_ ?_
             rotate_left
             ·
              intro w'
              go_simp
              with_reducible rfl
             rotate_left
             ·
              simp only [Act.put, List.setIfInBounds_toArray, List.set_cons_zero, List.set_cons_succ, i64_w, i32_w]
              rfl
             refine pure_ (i := 3) (N := some 67) (v := ?_) (a' := ?_) #[true, false, false, true, false, false, false] rfl rfl (by kernel_rfl) (fun _ _ _ h => h) (Or.inl ⟨by rfl, ?_⟩) ?_ ?_
             rotate_left
             ·
              intro w'
              go_simp
              with_reducible rfl
             rotate_left
             ·
              simp only [Act.put, List.setIfInBounds_toArray, List.set_cons_zero, List.set_cons_succ, i64_w, i32_w]
              rfl
             refine take_ (i := 1) (N := some 65) (v := ?_) (a' := ?_) #[true, true, false, true, false, false, false] rfl rfl (by kernel_rfl) (fun _ _ _ h => h) (Or.inl ⟨by rfl, ?_⟩) hHeld ?_ ?_
             rotate_left
             ·
              rintro w' ⟨s0, s1⟩
              go_simp
              with_reducible rfl
             rotate_left
             ·
              simp only [Act.put, List.setIfInBounds_toArray, List.set_cons_zero, List.set_cons_succ, i64_w, i32_w]
              rfl
             refine pure_ (i := 2) (N := some 66) (v := ?_) (a' := ?_) #[true, true, true, true, false, false, false] rfl rfl (by kernel_rfl) (fun _ _ _ h => h) (Or.inl ⟨by rfl, ?_⟩) ?_ ?_
             rotate_left
             ·
              intro w'
              go_simp
              with_reducible rfl
             rotate_left
             ·
              simp only [Act.put, List.setIfInBounds_toArray, List.set_cons_zero, List.set_cons_succ, i64_w, i32_w]
              rfl
             refine one_ (i := 4) (N := some 68) #[true, true, true, true, true, false, false] rfl rfl (by kernel_rfl) (by decide) (fun K hK => ?_)
             refine goes_ Tryd.func41 (by kernel_rfl) rfl #[.pointer (some ⟨g, 0, none⟩), .int .i64 2] (by rfl) rfl rfl (by (try simp only [List.map_toArray, List.map_cons, List.map_nil]); first | done | rfl | (simp only [List.length_drop, List.length_take]; rfl)) ?_
             with_reducible refine (spec_l9Rd_pick.calls k1 g s0_0 x1001_1 2 t270 t271 w0 _ ?side1 ?side2 A176.out).mono ?_
             (case side1 => exact spec_l1Bent_auHI0)
             (case side2 => exact spec_l1Bent_auHB)
             rintro e w182 ⟨rfl, hi, hb, hk⟩
             refine ⟨_, rfl, ?_⟩
             have n0_ := Aside0.mk (Kd.R_mono (Kd.R_keep (IsS84.apart (show IsS84 w0 _ g s0_0 x1001_1 from spec_l1Bent_auHI0) (by (with_reducible repeat (first | apply Kd.R_alloc | apply Kd.R_drewN | apply Kd.R_drew)); exact HO_239001.out) (by decide)) hk (fun _ h => h.2)) (fun _ h => h.1))
             have n1_ := Aside0.mk (KeepBut.blk hk (g' := gb232) (o := .cells #[.int .i64 a1_0, .slice A1_1 l1_1.length c1_1] 29 (0, 0)) (spec_l1Bent_vb BK232) NB232_0.out (by simp))
             have n2_ := Aside0.mk (KeepBut.blk hk (g' := gb233) (o := .cells #[.int .i64 0, .slice none 0 0] 29 (0, 0)) (spec_l1Bent_vb BK233) NB233_0.out (by simp))
             have n3_ := Aside0.mk (KeepBut.blk hk (g' := gb238) (o := .cells #[.int .i64 t234, .slice Ao181 x239001_1.length co181] 29 (0, 0)) (spec_l1Bent_vb BK238) NB238_0.out (by simp))
             have n4_ := Aside0.mk (KeepBut.trans (spec_l1Bent_auHK) hk (.inl rfl))
             have n5_ := Aside0.mk (hb)
             have n6_ := Aside0.mk (hi)
             clear HO_239001
             clear BK232
             clear BK233
             clear BK238
             clear HK
             clear HB
             clear HI0
             have HO_239001 := n0_
             have BK232 := n1_
             have BK233 := n2_
             have BK238 := n3_
             have HK := n4_
             have HB := n5_
             have HI0 := n6_
             clear n0_ n1_ n2_ n3_ n4_ n5_ n6_
             (try clear hb)
             (try clear hb2)
             (try clear hk)
             (try clear hi)
             refine hK.out _ _ ⟨(blk_cell BK238.out 0).trans rfl, (blk_cell BK238.out 1).trans rfl⟩ (fun hHeld => ?_)
             clear hK K
             refine norm_ (a' := ?_) ?_ ?_
             rotate_left
             ·
              show Act.put _ (some 68) _ = _
              simp only [Act.put, List.setIfInBounds_toArray, List.set_cons_zero, List.set_cons_succ, i64_w, i32_w]
              rfl
             refine pure_ (i := 5) (N := some 69) (v := ?_) (a' := ?_) #[true, true, true, true, true, true, false] rfl rfl (by kernel_rfl) (fun _ _ _ h => h) (Or.inl ⟨by rfl, ?_⟩) ?_ ?_
             rotate_left
             ·
              intro w'
              go_simp
              with_reducible rfl
             rotate_left
             ·
              simp only [Act.put, List.setIfInBounds_toArray, List.set_cons_zero, List.set_cons_succ, i64_w, i32_w]
              rfl
             refine pure_ (i := 6) (N := some 70) (v := ?_) (a' := ?_) #[true, true, true, true, true, true, true] rfl rfl (by kernel_rfl) (fun _ _ _ h => h) (Or.inl ⟨by rfl, ?_⟩) ?_ ?_
             rotate_left
             ·
              intro w'
              go_simp
              with_reducible rfl
             rotate_left
             ·
              simp only [Act.put, List.setIfInBounds_toArray, List.set_cons_zero, List.set_cons_succ, i64_w, i32_w]
              rfl
             refine done_ (by kernel_rfl) ?_
             try go_wp2
             have n0_ := Aside0.mk (Kd.R_drew HO_239001.out)
             have n1_ := Aside0.mk (blk_drew BK232.out)
             have n2_ := Aside0.mk (blk_drew BK233.out)
             have n3_ := Aside0.mk (blk_drew BK238.out)
             have n4_ := Aside0.mk (IsS84.drew HI0.out)
             have n5_ := Aside0.mk (keep_drew HK.out)
             have n6_ := Aside0.mk (below_drew1 HB.out)
             clear HO_239001
             clear BK232
             clear BK233
             clear BK238
             clear HI0
             clear HK
             clear HB
             have HO_239001 := n0_
             have BK232 := n1_
             have BK233 := n2_
             have BK238 := n3_
             have HI0 := n4_
             have HK := n5_
             have HB := n6_
             clear n0_ n1_ n2_ n3_ n4_ n5_ n6_
             have p272 : 0 ≤ (0 : Int) := (by omega)
             have q272 : 0 < (x239001_1.length : Int) := of_decide_eq_true (by first | (with_reducible assumption) | assumption)
             obtain ⟨ad272, e272, hx272_0, hx272_1, hx272_2⟩ := at_T45 (Kd.R_reads' HO_239001.out).2.2 0 p272 q272
             cases e272
             have qi272 : (0 < x239001_1.length) = True := eq_true (by omega)
             (try rw [show ((0 : Int)).toNat = 0 from rfl] at hx272_0)
             (try rw [show 0 * 3 = 0 from rfl] at hx272_0)
             (try rw [Addr.add_zero'] at hx272_0)
             (try rw [show ((0 : Int)).toNat = 0 from rfl] at hx272_1)
             (try rw [show 0 * 3 = 0 from rfl] at hx272_1)
             (try rw [Addr.add_zero'] at hx272_1)
             (try rw [show ((0 : Int)).toNat = 0 from rfl] at hx272_2)
             (try rw [show 0 * 3 = 0 from rfl] at hx272_2)
             (try rw [Addr.add_zero'] at hx272_2)
             replace p272 := eq_true p272
             replace q272 := eq_true q272
             refine start_ (n := 10) (S := fun w' => w'.cell? ⟨gb238, 0, none⟩ = some (.int .i64 t234) ∧ w'.cell? ⟨gb238, 1, none⟩ = some (.slice (some ad272) x239001_1.length co181) ∧ w'.cell? ad272 = some (.string ((rd_T45 x239001_1 0).f0)) ∧ w'.cell? ⟨ad272.block, ad272.off + 1, none⟩ = some (.int .i64 ((rd_T45 x239001_1 0).f1)) ∧ w'.cell? ⟨ad272.block, ad272.off + 2, none⟩ = some (.int .i64 ((rd_T45 x239001_1 0).f2))) (ds := [7, 9]) #[false, false, false, false, false, false, false, false, false, false] (by kernel_rfl) rfl rfl ⟨(blk_cell BK238.out 0).trans rfl, (blk_cell BK238.out 1).trans rfl, hx272_0, hx272_1, hx272_2⟩ (fun hHeld => ?_); refine with_tabW spec_l1Bent.tab18 spec_l1Bent.bits18 (fun HT_ HW_ => ?_)
             generalize w182.drew = w183 at HO_239001 BK232 BK233 BK238 HI0 HK HB hx272_0 hx272_1 hx272_2 hHeld ⊢
             refine pure_ (i := 0) (N := some 71) (v := ?_) (a' := ?_) #[true, false, false, false, false, false, false, false, false, false] rfl rfl (any_of HT_.out (by kernel_rfl)) (fun _ _ _ h => h) (Or.inl ⟨by rfl, ?_⟩) ?_ ?_
             rotate_left
             ·
              intro w'
              go_simp
              with_reducible rfl
             rotate_left
             ·
              simp only [Act.put, List.setIfInBounds_toArray, List.set_cons_zero, List.set_cons_succ, i64_w, i32_w]
              rfl
             refine pure_ (i := 2) (N := some 73) (v := ?_) (a' := ?_) #[true, false, true, false, false, false, false, false, false, false] rfl rfl (any_of HT_.out (by kernel_rfl)) (fun _ _ _ h => h) (Or.inl ⟨by rfl, ?_⟩) ?_ ?_
             rotate_left
             ·
              intro w'
              go_simp
              with_reducible rfl
             rotate_left
             ·
              simp only [Act.put, List.setIfInBounds_toArray, List.set_cons_zero, List.set_cons_succ, i64_w, i32_w]
              rfl
             refine take_ (i := 1) (N := some 72) (v := ?_) (a' := ?_) #[true, true, true, false, false, false, false, false, false, false] rfl rfl (take_ofW HT_.out HW_.out (by kernel_rfl)) (fun _ _ _ h => h) (Or.inl ⟨by rfl, ?_⟩) hHeld ?_ ?_
             rotate_left
             ·
              rintro w' ⟨s0, s1, s2, s3, s4⟩
              go_simp
              with_reducible rfl
             rotate_left
             ·
              simp only [Act.put, List.setIfInBounds_toArray, List.set_cons_zero, List.set_cons_succ, i64_w, i32_w]
              rfl
             refine take_ (i := 3) (N := some 74) (v := ?_) (a' := ?_) #[true, true, true, true, false, false, false, false, false, false] rfl rfl (take_ofW HT_.out HW_.out (by kernel_rfl)) (fun _ _ _ h => h) (Or.inl ⟨by rfl, ?_⟩) hHeld ?_ ?_
             rotate_left
             ·
              rintro w' ⟨s0, s1, s2, s3, s4⟩
              go_simp
              with_reducible rfl
             rotate_left
             ·
              simp only [Act.put, List.setIfInBounds_toArray, List.set_cons_zero, List.set_cons_succ, i64_w, i32_w]
              rfl
             refine pure_ (i := 4) (N := some 75) (v := ?_) (a' := ?_) #[true, true, true, true, true, false, false, false, false, false] rfl rfl (any_of HT_.out (by kernel_rfl)) (fun _ _ _ h => h) (Or.inl ⟨by rfl, ?_⟩) ?_ ?_
             rotate_left
             ·
              intro w'
              go_simp
              with_reducible rfl
             rotate_left
             ·
              simp only [Act.put, List.setIfInBounds_toArray, List.set_cons_zero, List.set_cons_succ, i64_w, i32_w]
              rfl
             refine take_ (i := 5) (N := some 76) (v := ?_) (a' := ?_) #[true, true, true, true, true, true, false, false, false, false] rfl rfl (take_ofW HT_.out HW_.out (by kernel_rfl)) (fun _ _ _ h => h) (Or.inl ⟨by rfl, ?_⟩) hHeld ?_ ?_
             rotate_left
             ·
              rintro w' ⟨s0, s1, s2, s3, s4⟩
              go_simp
              with_reducible rfl
             rotate_left
             ·
              simp only [Act.put, List.setIfInBounds_toArray, List.set_cons_zero, List.set_cons_succ, i64_w, i32_w]
              rfl
             refine one_ (i := 6) (N := some 77) #[true, true, true, true, true, true, true, false, false, false] rfl rfl (one_of HT_.out (by kernel_rfl)) (by decide) (fun K hK => ?_)
             refine value_ (w1 := ?_) (v := ?_) (by rfl) rfl ?_ ?_
             rotate_left 2
             ·
              go_simp
              constructor
              ·
               rfl
              ·
               rfl
             refine hK.out _ _ ⟨(blk_cell (blk_alloc BK238.out _) 0).trans rfl, (blk_cell (blk_alloc BK238.out _) 1).trans rfl, (World.cell?_alloc_lt _ _ _ (World.block_lt_of_cell? _ _ (hHeld.2.2.1))).trans (hHeld.2.2.1), (World.cell?_alloc_lt _ _ _ (World.block_lt_of_cell? _ _ (hHeld.2.2.2.1))).trans (hHeld.2.2.2.1), (World.cell?_alloc_lt _ _ _ (World.block_lt_of_cell? _ _ (hHeld.2.2.2.2))).trans (hHeld.2.2.2.2)⟩ (fun hHeld => ?_)
             clear hK K
             refine norm_ (a' := ?_) ?_ ?_
             rotate_left
             ·
              show Act.put _ (some 77) _ = _
              simp only [Act.put, List.setIfInBounds_toArray, List.set_cons_zero, List.set_cons_succ, i64_w, i32_w]
              rfl
             refine last_ (i := 7) (N := some 78) #[true, true, true, true, true, true, true, true, false, false] rfl rfl (one_of HT_.out (by kernel_rfl)) (by decide) (fun K hK => ?_)
             refine Kd.R_append_step k45 w.heap.size (by rfl) (.tmp 72) (.tmp 77) 27 45 (.agg #[(.string ⟨#[]⟩), (.int .i64 0), (.int .i64 0)]) 32 rfl Tryd.underlying27 info45 rfl (by decide) (by omega) (.slice (some ad272) x239001_1.length co181) x239001_1 (⟨(rd_T45 x239001_1 0).f0, (rd_T45 x239001_1 0).f1, (rd_T45 x239001_1 0).f2⟩ : S45) [.string ((rd_T45 x239001_1 0).f0), .int .i64 ((rd_T45 x239001_1 0).f1), .int .i64 ((rd_T45 x239001_1 0).f2)] (fun _ => True) (fun _ => False) rfl rfl ?aP (fun _ hk => hk.elim) ?aF ?aO (Below.refl _ _) ?aS ?aL ?_
             (case aP => exact k45_mkM _ _ _ (⟨(rd_T45 x239001_1 0).f0, (rd_T45 x239001_1 0).f1, (rd_T45 x239001_1 0).f2⟩ : S45))
             (case aF => exact (fun _ _ => trivial))
             (case aO => exact (by (with_reducible repeat (first | apply Kd.R_alloc | apply Kd.R_drewN | apply Kd.R_drew)); exact HO_239001.out))
             (case aS => exact (keep_size (w := w) (g := g) (row := none) (spec_l1Bent_auHK)))
             (case aL => have := LMc179.out; omega)
             intro v274 w184 ho hb hg hat
             rw [← Ny273.out] at ho
             have n0_ := Aside0.mk (blk_grown (g := gb232) (o := .cells #[.int .i64 a1_0, .slice A1_1 l1_1.length c1_1] 29 (0, 0)) (spec_l1Bent_vb BK232) hg (Kd.R_ne HO_239001.out BK232.out (by decide)))
             have n1_ := Aside0.mk (blk_grown (g := gb233) (o := .cells #[.int .i64 0, .slice none 0 0] 29 (0, 0)) (spec_l1Bent_vb BK233) hg (Kd.R_ne HO_239001.out BK233.out (by decide)))
             have n2_ := Aside0.mk (blk_grown (g := gb238) (o := .cells #[.int .i64 t234, .slice (some ad272) x239001_1.length co181] 29 (0, 0)) (spec_l1Bent_vb BK238) hg (Kd.R_ne HO_239001.out BK238.out (by decide)))
             have n3_ := Aside0.mk (IsS84.grown (spec_l1Bent_auHI0) hg (IsS84.own_ne HI0.out HO_239001.out (by decide)))
             have n4_ := Aside0.mk (below_weaken (spec_l1Bent_auHB) HL.out hb)
             have n5_ := Aside0.mk (KeepBut.trans (spec_l1Bent_auHK) (KeepBut.of_grown hg g) (Kd.R_base2 HO_239001.out))
             have n6_ := Aside0.mk (ho)
             clear BK232
             clear BK233
             clear BK238
             clear HI0
             clear HB
             clear HK
             clear HO_239001
             have BK232 := n0_
             have BK233 := n1_
             have BK238 := n2_
             have HI0 := n3_
             have HB := n4_
             have HK := n5_
             have HO275 := n6_
             clear n0_ n1_ n2_ n3_ n4_ n5_ n6_
             clear ho hb hg hat
             obtain ⟨Ao185, co185, eo185⟩ := Kd.R_slice HO275.out
             (first | subst eo185 | (injection eo185 with f1_ f2_ f3_; have f4_ := f1_.symm; have f5_ := f3_.symm; clear f1_ f2_ f3_; subst f4_; subst f5_))
             refine hK.out _ _ ?_
             clear hK K
             refine norm_ (a' := ?_) ?_ ?_
             rotate_left
             ·
              show Act.put _ (some 78) _ = _
              simp only [Act.put, List.setIfInBounds_toArray, List.set_cons_zero, List.set_cons_succ, i64_w, i32_w]
              rfl
             refine pure_ (i := 8) (N := some 79) (v := ?_) (a' := ?_) #[true, true, true, true, true, true, true, true, true, false] rfl rfl (any_of HT_.out (by kernel_rfl)) (fun _ _ _ h => h) (Or.inl ⟨by rfl, ?_⟩) ?_ ?_
             rotate_left
             ·
              intro w'
              go_simp
              with_reducible rfl
             rotate_left
             ·
              simp only [Act.put, List.setIfInBounds_toArray, List.set_cons_zero, List.set_cons_succ, i64_w, i32_w]
              rfl
             refine last_ (i := 9) (N := none) #[true, true, true, true, true, true, true, true, true, true] rfl rfl (one_of HT_.out (by kernel_rfl)) (by decide) (fun K hK => ?_)
             have hs186 : w184.cell? ⟨gb238, 1, none⟩ = some (.slice (some ad272) x239001_1.length co181) := (blk_cell BK238.out 1).trans rfl
             have hfs186 := blk_frozen BK238.out 1
             have hns186_0 := NB232_238.out
             have hns186_1 := NB233_238.out
             have hms186_0 := NB238_232.out
             have hms186_1 := NB238_233.out
             refine skip_ (w1 := ?_) (by rfl) rfl ?_ ?_
             rotate_left
             ·
              go_simp
              rfl
             refine hK.out _ _ ?_
             clear hK K
             refine done_ (done_of HT_.out (by kernel_rfl)) ?_
             try go_wp2
             go_roundg k1
             case measure => have := HK1.out; omega
             case rel => exact ⟨(t271), (y273), (.slice Ao185 y273.length co185), H', ⟨by have := HK1.out; omega⟩, ⟨by (with_reducible repeat (first | apply Kd.R_alloc | apply Kd.R_drewN | apply Kd.R_drew)); exact Kd.R_mono (Kd.R_far (p := ⟨gb238, 1, none⟩) (Kd.R_types HO275.out BK238.out (by decide)) (fun _ hk => hk.2) (.slice Ao185 y273.length co185)) (fun _ hk => trivial)⟩, ⟨by (with_reducible repeat (first | refine blk_drewN ?_ _ | refine blk_drew ?_ | refine blk_alloc ?_ _)); refine blk_far ?_ NB232_238.out _; (with_reducible repeat (first | refine blk_drewN ?_ _ | refine blk_drew ?_ | refine blk_alloc ?_ _)); exact BK232.out⟩, ⟨by (with_reducible repeat (first | refine blk_drewN ?_ _ | refine blk_drew ?_ | refine blk_alloc ?_ _)); refine blk_far ?_ NB233_238.out _; (with_reducible repeat (first | refine blk_drewN ?_ _ | refine blk_drew ?_ | refine blk_alloc ?_ _)); exact BK233.out⟩, ⟨by (with_reducible repeat (first | refine blk_drewN ?_ _ | refine blk_drew ?_ | refine blk_alloc ?_ _)); refine blk_put (cs := #[.int .i64 t234, .slice (some ad272) x239001_1.length co181]) ?_ 1 _ rfl; (with_reducible repeat (first | refine blk_drewN ?_ _ | refine blk_drew ?_ | refine blk_alloc ?_ _)); exact BK238.out⟩, ⟨spec_l1Bent_auHI0⟩, ⟨spec_l1Bent_auHK⟩, ⟨spec_l1Bent_auHB⟩⟩
            ·
             rw [if_neg c179] at H
             exact absurd H (by simp)
           ·
            rw [if_neg c178] at H
            exact absurd H (by simp)
          ·
           rw [if_neg c177] at H
           have c177b0 : decide ((x239001_1.length : Int) < (wrap64 (4 + t270))) = false := decide_eq_false c177
           clear c177
           simp only [Option.some.injEq, Prod.mk.injEq] at H
           obtain ⟨rfl, rfl, rfl⟩ := H
           try go_wp2
           have n0_ := Aside0.mk (Kd.R_drew HO_239001.out)
           have n1_ := Aside0.mk (blk_drew BK232.out)
           have n2_ := Aside0.mk (blk_drew BK233.out)
           have n3_ := Aside0.mk (blk_drew BK238.out)
           have n4_ := Aside0.mk (IsS84.drew HI0.out)
           have n5_ := Aside0.mk (keep_drew HK.out)
           have n6_ := Aside0.mk (below_drew1 HB.out)
           clear HO_239001
           clear BK232
           clear BK233
           clear BK238
           clear HI0
           clear HK
           clear HB
           have HO_239001 := n0_
           have BK232 := n1_
           have BK233 := n2_
           have BK238 := n3_
           have HI0 := n4_
           have HK := n5_
           have HB := n6_
           clear n0_ n1_ n2_ n3_ n4_ n5_ n6_
           obtain ⟨Ao188, co188, eo188⟩ := Kd.R_slice HO_239001.out
           (first | subst eo188 | (injection eo188 with f1_ f2_ f3_; have f4_ := f1_.symm; have f5_ := f3_.symm; clear f1_ f2_ f3_; subst f4_; subst f5_))
           refine start_ (n := 7) (S := fun w' => w'.cell? ⟨gb238, 0, none⟩ = some (.int .i64 t234) ∧ w'.cell? ⟨gb238, 1, none⟩ = some (.slice Ao188 x239001_1.length co188)) (ds := []) #[false, false, false, false, false, false, false] (by kernel_rfl) rfl rfl ⟨(blk_cell BK238.out 0).trans rfl, (blk_cell BK238.out 1).trans rfl⟩ (fun hHeld => ?_)
           generalize wr.drew = w187 at HO_239001 BK232 BK233 BK238 HI0 HK HB hHeld ⊢
           refine pure_ (i := 0) (N := some 64) (v := ?_) (a' := ?_) #[true, false, false, false, false, false, false] rfl rfl (by kernel_rfl) (fun _ _ _ h => h) (Or.inl ⟨by rfl, ?_⟩) ?_ ?_
           rotate_left
           ·
            intro w'
            go_simp
            with_reducible rfl
           rotate_left
           ·
            simp only [Act.put, List.setIfInBounds_toArray, List.set_cons_zero, List.set_cons_succ, i64_w, i32_w]
            rfl
           refine pure_ (i := 3) (N := some 67) (v := ?_) (a' := ?_) #[true, false, false, true, false, false, false] rfl rfl (by kernel_rfl) (fun _ _ _ h => h) (Or.inl ⟨by rfl, ?_⟩) ?_ ?_
           rotate_left
           ·
            intro w'
            go_simp
            with_reducible rfl
           rotate_left
           ·
            simp only [Act.put, List.setIfInBounds_toArray, List.set_cons_zero, List.set_cons_succ, i64_w, i32_w]
            rfl
           refine take_ (i := 1) (N := some 65) (v := ?_) (a' := ?_) #[true, true, false, true, false, false, false] rfl rfl (by kernel_rfl) (fun _ _ _ h => h) (Or.inl ⟨by rfl, ?_⟩) hHeld ?_ ?_
           rotate_left
           ·
            rintro w' ⟨s0, s1⟩
            go_simp
            with_reducible rfl
           rotate_left
           ·
            simp only [Act.put, List.setIfInBounds_toArray, List.set_cons_zero, List.set_cons_succ, i64_w, i32_w]
            rfl
           refine pure_ (i := 2) (N := some 66) (v := ?_) (a' := ?_) #[true, true, true, true, false, false, false] rfl rfl (by kernel_rfl) (fun _ _ _ h => h) (Or.inl ⟨by rfl, ?_⟩) ?_ ?_
           rotate_left
           ·
            intro w'
            go_simp
            with_reducible rfl
           rotate_left
           ·
            simp only [Act.put, List.setIfInBounds_toArray, List.set_cons_zero, List.set_cons_succ, i64_w, i32_w]
            rfl
           refine one_ (i := 4) (N := some 68) #[true, true, true, true, true, false, false] rfl rfl (by kernel_rfl) (by decide) (fun K hK => ?_)
           refine goes_ Tryd.func41 (by kernel_rfl) rfl #[.pointer (some ⟨g, 0, none⟩), .int .i64 2] (by rfl) rfl rfl (by (try simp only [List.map_toArray, List.map_cons, List.map_nil]); first | done | rfl | (simp only [List.length_drop, List.length_take]; rfl)) ?_
           with_reducible refine (spec_l9Rd_pick.calls k1 g s0_0 x1001_1 2 t270 t271 w0 _ ?side1 ?side2 A176.out).mono ?_
           (case side1 => exact spec_l1Bent_auHI0)
           (case side2 => exact spec_l1Bent_auHB)
           rintro e w189 ⟨rfl, hi, hb, hk⟩
           refine ⟨_, rfl, ?_⟩
           have n0_ := Aside0.mk (Kd.R_mono (Kd.R_keep (IsS84.apart (show IsS84 w0 _ g s0_0 x1001_1 from spec_l1Bent_auHI0) (by (with_reducible repeat (first | apply Kd.R_alloc | apply Kd.R_drewN | apply Kd.R_drew)); exact HO_239001.out) (by decide)) hk (fun _ h => h.2)) (fun _ h => h.1))
           have n1_ := Aside0.mk (KeepBut.blk hk (g' := gb232) (o := .cells #[.int .i64 a1_0, .slice A1_1 l1_1.length c1_1] 29 (0, 0)) (spec_l1Bent_vb BK232) NB232_0.out (by simp))
           have n2_ := Aside0.mk (KeepBut.blk hk (g' := gb233) (o := .cells #[.int .i64 0, .slice none 0 0] 29 (0, 0)) (spec_l1Bent_vb BK233) NB233_0.out (by simp))
           have n3_ := Aside0.mk (KeepBut.blk hk (g' := gb238) (o := .cells #[.int .i64 t234, .slice Ao188 x239001_1.length co188] 29 (0, 0)) (spec_l1Bent_vb BK238) NB238_0.out (by simp))
           have n4_ := Aside0.mk (KeepBut.trans (spec_l1Bent_auHK) hk (.inl rfl))
           have n5_ := Aside0.mk (hb)
           have n6_ := Aside0.mk (hi)
           clear HO_239001
           clear BK232
           clear BK233
           clear BK238
           clear HK
           clear HB
           clear HI0
           have HO_239001 := n0_
           have BK232 := n1_
           have BK233 := n2_
           have BK238 := n3_
           have HK := n4_
           have HB := n5_
           have HI0 := n6_
           clear n0_ n1_ n2_ n3_ n4_ n5_ n6_
           (try clear hb)
           (try clear hb2)
           (try clear hk)
           (try clear hi)
           refine hK.out _ _ ⟨(blk_cell BK238.out 0).trans rfl, (blk_cell BK238.out 1).trans rfl⟩ (fun hHeld => ?_)
           clear hK K
           refine norm_ (a' := ?_) ?_ ?_
           rotate_left
           ·
            show Act.put _ (some 68) _ = _
            simp only [Act.put, List.setIfInBounds_toArray, List.set_cons_zero, List.set_cons_succ, i64_w, i32_w]
            rfl
           refine pure_ (i := 5) (N := some 69) (v := ?_) (a' := ?_) #[true, true, true, true, true, true, false] rfl rfl (by kernel_rfl) (fun _ _ _ h => h) (Or.inl ⟨by rfl, ?_⟩) ?_ ?_
           rotate_left
           ·
            intro w'
            go_simp
            with_reducible rfl
           rotate_left
           ·
            simp only [Act.put, List.setIfInBounds_toArray, List.set_cons_zero, List.set_cons_succ, i64_w, i32_w]
            rfl
           refine pure_ (i := 6) (N := some 70) (v := ?_) (a' := ?_) #[true, true, true, true, true, true, true] rfl rfl (by kernel_rfl) (fun _ _ _ h => h) (Or.inl ⟨by rfl, ?_⟩) ?_ ?_
           rotate_left
           ·
            intro w'
            go_simp
            with_reducible rfl
           rotate_left
           ·
            simp only [Act.put, List.setIfInBounds_toArray, List.set_cons_zero, List.set_cons_succ, i64_w, i32_w]
            rfl
           refine done_ (by kernel_rfl) ?_
           have hnb190 := NB238_232.out
           have hnc190 := NB232_238.out
           have hnb191 := NB238_233.out
           have hnc191 := NB233_238.out
           have hnb192 := NB238_0.out
           have hnc192 := NB0_238.out
           have hcz193_0 : w189.cell? ⟨gb238, 0, none⟩ = some (.int .i64 t234) := (blk_cell BK238.out 0).trans rfl
           have hcz193_1 : w189.cell? ⟨gb238, 1, none⟩ = some (.slice Ao188 x239001_1.length co188) := (blk_cell BK238.out 1).trans rfl
           have hfz193_0 := blk_frozen BK238.out 0
           have hfz193_1 := blk_frozen BK238.out 1
           have hnb194 := NB233_232.out
           have hnc194 := NB232_233.out
           have hnb195 := NB233_0.out
           have hnc195 := NB0_233.out
           have hcz196_0 : w189.cell? ⟨gb233, 0, none⟩ = some (.int .i64 0) := (blk_cell BK233.out 0).trans rfl
           have hcz196_1 : w189.cell? ⟨gb233, 1, none⟩ = some (.slice none 0 0) := (blk_cell BK233.out 1).trans rfl
           have hfz196_0 := blk_frozen BK233.out 0
           have hfz196_1 := blk_frozen BK233.out 1
           try go_wp2
           refine bodyPost_ret (results_cell_row rfl _ _ gb233 29 #[.int .i64 t234, .slice Ao188 x239001_1.length co188] (0, 0) _ rfl (by (with_reducible repeat (first | refine blk_drewN ?_ _ | refine blk_drew ?_ | refine blk_alloc ?_ _)); refine blk_put (cs := #[.int .i64 t234, .slice none 0 0]) ?_ 1 _ rfl; (with_reducible repeat (first | refine blk_drewN ?_ _ | refine blk_drew ?_ | refine blk_alloc ?_ _)); refine blk_put (cs := #[.int .i64 0, .slice none 0 0]) ?_ 0 _ rfl; (with_reducible repeat (first | refine blk_drewN ?_ _ | refine blk_drew ?_ | refine blk_alloc ?_ _)); exact BK233.out) Tryd.underlying29 rfl (by kernel_rfl)) rfl ?_
           exact ⟨_, by first | rfl | (simp [errW_none, errW_some] <;> rfl) | (simp [*, errW_none, errW_some] <;> rfl), by (with_reducible repeat (first | apply Kd.R_alloc | apply Kd.R_drewN | apply Kd.R_drew)); exact Kd.R_mono (Kd.R_far (p := ⟨gb233, 1, none⟩) (Kd.R_far (p := ⟨gb233, 0, none⟩) (Kd.R_types HO_239001.out BK233.out (by decide)) (fun _ hk => hk.2) (.int .i64 t234)) (fun _ hk => hk.2) (.slice Ao188 x239001_1.length co188)) (fun _ hk => trivial), spec_l1Bent_auHI0, spec_l1Bent_auHB, spec_l1Bent_auHK⟩
       ·
        rw [if_neg c160] at H
        have c160b0 : (t242 == 5) = false := beq_eq_false_iff_ne.mpr c160
        have c160b1 : (t242 != 5) = true := bne_iff_ne.mpr c160
        have HC197 := Aside0.mk H
        clear H
        go_enter Tryd.func53, Tryd.ntmps53
        go_upto_if 80 with (first | ((with_reducible refine gate_dst (N := 3) rfl ?_); refine box_event ?hg (N := 3) ?hd (cs := #[.int .i64 a1_0, .slice A1_1 l1_1.length c1_1]) (t := 29) ?hr ?_; (case hd => rfl); (case hg => rfl); (case hr => first | (go_simp; done) | (go_simp; rfl)); intro gb232 hg w198 hbox hb; have n0_ := Aside0.mk (IsS84.below (spec_l1Bent_auHI0) hb); have n1_ := Aside0.mk (KeepBut.trans (spec_l1Bent_auHK) (KeepBut.of_below hb g none) (.inl rfl)); have n2_ := Aside0.mk (below_step (spec_l1Bent_auHB) hb); have n3_ := Aside0.mk (hbox); have n4_ := Aside0.mk ((by rw [hg]; exact (keep_size (w := w) (g := g) (row := none) (spec_l1Bent_auHK)) : w.heap.size ≤ gb232)); have n5_ := Aside0.mk ((Nat.le_trans HW0.out (by rw [hg]; exact (keep_size (w := w) (g := g) (row := none) (spec_l1Bent_auHK)) : w.heap.size ≤ gb232) : w0.heap.size ≤ gb232)); have n6_ := Aside0.mk ((by rw [hg]; exact Nat.ne_of_lt (IsS84.lt (show IsS84 w0 _ g s0_0 s0_1 from spec_l1Bent_auHI0)) : g ≠ gb232)); have n7_ := Aside0.mk ((by rw [hg]; exact Nat.ne_of_gt (IsS84.lt (show IsS84 w0 _ g s0_0 s0_1 from spec_l1Bent_auHI0)) : gb232 ≠ g)); clear HI0; clear HK; clear HB; have HI0 := n0_; have HK := n1_; have HB := n2_; have BK232 := n3_; have GW232 := n4_; have GE232 := n5_; have NB0_232 := n6_; have NB232_0 := n7_; clear n0_ n1_ n2_ n3_ n4_ n5_ n6_ n7_; clear hb hbox hg) | ((with_reducible refine gate_dst (N := 4) rfl ?_); refine box_event ?hg (N := 4) ?hd (cs := #[.int .i64 0, .slice none 0 0]) (t := 29) ?hr ?_; (case hd => rfl); (case hg => rfl); (case hr => first | (go_simp; done) | (go_simp; rfl)); intro gb233 hg w199 hbox hb; have n0_ := Aside0.mk (IsS84.below (spec_l1Bent_auHI0) hb); have n1_ := Aside0.mk (blk_below (g := gb232) (o := .cells #[.int .i64 a1_0, .slice A1_1 l1_1.length c1_1] 29 (0, 0)) (spec_l1Bent_vb BK232) hb); have n2_ := Aside0.mk (KeepBut.trans (spec_l1Bent_auHK) (KeepBut.of_below hb g none) (.inl rfl)); have n3_ := Aside0.mk (below_step (spec_l1Bent_auHB) hb); have n4_ := Aside0.mk (hbox); have n5_ := Aside0.mk ((by rw [hg]; exact (keep_size (w := w) (g := g) (row := none) (spec_l1Bent_auHK)) : w.heap.size ≤ gb233)); have n6_ := Aside0.mk ((Nat.le_trans HW0.out (by rw [hg]; exact (keep_size (w := w) (g := g) (row := none) (spec_l1Bent_auHK)) : w.heap.size ≤ gb233) : w0.heap.size ≤ gb233)); have n7_ := Aside0.mk ((by rw [hg]; exact Nat.ne_of_lt (blk_lt (g := gb232) (o := .cells #[.int .i64 a1_0, .slice A1_1 l1_1.length c1_1] 29 (0, 0)) (spec_l1Bent_vb BK232)) : gb232 ≠ gb233)); have n8_ := Aside0.mk ((by rw [hg]; exact Nat.ne_of_gt (blk_lt (g := gb232) (o := .cells #[.int .i64 a1_0, .slice A1_1 l1_1.length c1_1] 29 (0, 0)) (spec_l1Bent_vb BK232)) : gb233 ≠ gb232)); have n9_ := Aside0.mk ((by rw [hg]; exact Nat.ne_of_lt (IsS84.lt (show IsS84 w0 _ g s0_0 s0_1 from spec_l1Bent_auHI0)) : g ≠ gb233)); have n10_ := Aside0.mk ((by rw [hg]; exact Nat.ne_of_gt (IsS84.lt (show IsS84 w0 _ g s0_0 s0_1 from spec_l1Bent_auHI0)) : gb233 ≠ g)); clear HI0; clear BK232; clear HK; clear HB; have HI0 := n0_; have BK232 := n1_; have HK := n2_; have HB := n3_; have BK233 := n4_; have GW233 := n5_; have GE233 := n6_; have NB232_233 := n7_; have NB233_232 := n8_; have NB0_233 := n9_; have NB233_0 := n10_; clear n0_ n1_ n2_ n3_ n4_ n5_ n6_ n7_ n8_ n9_ n10_; clear hb hbox hg; have hnb200 := NB232_233.out; have hnc200 := NB233_232.out; have hnb201 := NB232_0.out; have hnc201 := NB0_232.out; have hcz202_0 : w199.cell? ⟨gb232, 0, none⟩ = some (.int .i64 a1_0) := (blk_cell BK232.out 0).trans rfl; have hcz202_1 : w199.cell? ⟨gb232, 1, none⟩ = some (.slice A1_1 l1_1.length c1_1) := (blk_cell BK232.out 1).trans rfl; have hfz202_0 := blk_frozen BK232.out 0; have hfz202_1 := blk_frozen BK232.out 1) | ((with_reducible refine gate_callee (f := 66) rfl ?_); refine goesL_ (some 8) rfl rfl Tryd.func66 (by kernel_rfl) rfl #[.agg #[.int .i64 a1_0, .slice A1_1 l1_1.length c1_1]] rfl (by (try simp only [List.map_toArray, List.map_cons, List.map_nil]); first | done | rfl | (simp only [List.length_drop, List.length_take]; rfl)) ?_; (with_reducible refine (spec_l1Copy.calls a1_0 _ _ l1_1 t234 t235 _ ?side1 ?side2 A3.out).mono ?_); (case side1 => exact Kd.C_foot_now HR1_1.out (spec_l1Bent_auHK)); (case side2 => exact HC1_1.out); rintro e w203 ⟨v236, rfl, ho0, hb⟩; refine ⟨_, rfl, ?_⟩; have n0_ := Aside0.mk (Kd.R_lower ho0 (keep_size (w := w) (g := g) (row := none) (spec_l1Bent_auHK))); have n1_ := Aside0.mk (IsS84.below (spec_l1Bent_auHI0) hb); have n2_ := Aside0.mk (blk_below (g := gb232) (o := .cells #[.int .i64 a1_0, .slice A1_1 l1_1.length c1_1] 29 (0, 0)) (spec_l1Bent_vb BK232) hb); have n3_ := Aside0.mk (blk_below (g := gb233) (o := .cells #[.int .i64 0, .slice none 0 0] 29 (0, 0)) (spec_l1Bent_vb BK233) hb); have n4_ := Aside0.mk (KeepBut.trans (spec_l1Bent_auHK) (KeepBut.of_below hb g none) (.inl rfl)); have n5_ := Aside0.mk (below_step (spec_l1Bent_auHB) hb); clear HI0; clear BK232; clear BK233; clear HK; clear HB; have HO237 := n0_; have HI0 := n1_; have BK232 := n2_; have BK233 := n3_; have HK := n4_; have HB := n5_; clear n0_ n1_ n2_ n3_ n4_ n5_; (try clear hb); (try clear hb2); (try clear hk); (try clear hi); (try clear ho0)) | ((with_reducible refine gate_dst (N := 5) rfl ?_); refine box_event ?hg (N := 5) ?hd (cs := #[.int .i64 0, .slice none 0 0]) (t := 29) ?hr ?_; (case hd => rfl); (case hg => rfl); (case hr => first | (go_simp; done) | (go_simp; rfl)); intro gb238 hg w204 hbox hb; have n0_ := Aside0.mk (Kd.R_below (by (with_reducible repeat (first | apply Kd.R_alloc | apply Kd.R_drewN | apply Kd.R_drew)); exact HO237.out) hb); have n1_ := Aside0.mk (IsS84.below (spec_l1Bent_auHI0) hb); have n2_ := Aside0.mk (blk_below (g := gb232) (o := .cells #[.int .i64 a1_0, .slice A1_1 l1_1.length c1_1] 29 (0, 0)) (spec_l1Bent_vb BK232) hb); have n3_ := Aside0.mk (blk_below (g := gb233) (o := .cells #[.int .i64 0, .slice none 0 0] 29 (0, 0)) (spec_l1Bent_vb BK233) hb); have n4_ := Aside0.mk (KeepBut.trans (spec_l1Bent_auHK) (KeepBut.of_below hb g none) (.inl rfl)); have n5_ := Aside0.mk (below_step (spec_l1Bent_auHB) hb); have n6_ := Aside0.mk (hbox); have n7_ := Aside0.mk ((by rw [hg]; exact (keep_size (w := w) (g := g) (row := none) (spec_l1Bent_auHK)) : w.heap.size ≤ gb238)); have n8_ := Aside0.mk ((Nat.le_trans HW0.out (by rw [hg]; exact (keep_size (w := w) (g := g) (row := none) (spec_l1Bent_auHK)) : w.heap.size ≤ gb238) : w0.heap.size ≤ gb238)); have n9_ := Aside0.mk ((by rw [hg]; exact Nat.ne_of_lt (blk_lt (g := gb232) (o := .cells #[.int .i64 a1_0, .slice A1_1 l1_1.length c1_1] 29 (0, 0)) (spec_l1Bent_vb BK232)) : gb232 ≠ gb238)); have n10_ := Aside0.mk ((by rw [hg]; exact Nat.ne_of_gt (blk_lt (g := gb232) (o := .cells #[.int .i64 a1_0, .slice A1_1 l1_1.length c1_1] 29 (0, 0)) (spec_l1Bent_vb BK232)) : gb238 ≠ gb232)); have n11_ := Aside0.mk ((by rw [hg]; exact Nat.ne_of_lt (blk_lt (g := gb233) (o := .cells #[.int .i64 0, .slice none 0 0] 29 (0, 0)) (spec_l1Bent_vb BK233)) : gb233 ≠ gb238)); have n12_ := Aside0.mk ((by rw [hg]; exact Nat.ne_of_gt (blk_lt (g := gb233) (o := .cells #[.int .i64 0, .slice none 0 0] 29 (0, 0)) (spec_l1Bent_vb BK233)) : gb238 ≠ gb233)); have n13_ := Aside0.mk ((by rw [hg]; exact Nat.ne_of_lt (IsS84.lt (show IsS84 w0 _ g s0_0 s0_1 from spec_l1Bent_auHI0)) : g ≠ gb238)); have n14_ := Aside0.mk ((by rw [hg]; exact Nat.ne_of_gt (IsS84.lt (show IsS84 w0 _ g s0_0 s0_1 from spec_l1Bent_auHI0)) : gb238 ≠ g)); clear HO237; clear HI0; clear BK232; clear BK233; clear HK; clear HB; have HO237 := n0_; have HI0 := n1_; have BK232 := n2_; have BK233 := n3_; have HK := n4_; have HB := n5_; have BK238 := n6_; have GW238 := n7_; have GE238 := n8_; have NB232_238 := n9_; have NB238_232 := n10_; have NB233_238 := n11_; have NB238_233 := n12_; have NB0_238 := n13_; have NB238_0 := n14_; clear n0_ n1_ n2_ n3_ n4_ n5_ n6_ n7_ n8_ n9_ n10_ n11_ n12_ n13_ n14_; clear hb hbox hg; have hnb205 := NB238_232.out; have hnc205 := NB232_238.out; have hnb206 := NB238_233.out; have hnc206 := NB233_238.out; have hnb207 := NB238_0.out; have hnc207 := NB0_238.out; have hcz208_0 : w204.cell? ⟨gb238, 0, none⟩ = some (.int .i64 0) := (blk_cell BK238.out 0).trans rfl; have hcz208_1 : w204.cell? ⟨gb238, 1, none⟩ = some (.slice none 0 0) := (blk_cell BK238.out 1).trans rfl; have hfz208_0 := blk_frozen BK238.out 0; have hfz208_1 := blk_frozen BK238.out 1; obtain ⟨Ao209, co209, eo209⟩ := Kd.R_slice HO237.out; subst eo209) | ((with_reducible refine gate_callee (f := 67) rfl ?_); refine goesL_ (some 13) rfl rfl Tryd.func67 (by kernel_rfl) rfl #[.int .i64 1, .int .i64 (t235.length : Int)] rfl (by (try simp only [List.map_toArray, List.map_cons, List.map_nil]); first | done | rfl | (simp only [List.length_drop, List.length_take]; rfl)) ?_; (with_reducible refine (spec_l1Max.calls 1 (t235.length : Int) t239 _ A4.out).mono ?_); rintro e w' ⟨rfl, ⟨nd, rfl⟩⟩; refine ⟨_, rfl, ?_⟩) | ((with_reducible refine gate_callee (f := 41) rfl ?_); refine goesL_ (some 14) rfl rfl Tryd.func41 (by kernel_rfl) rfl #[.pointer (some ⟨g, 0, none⟩), .int .i64 t239] rfl (by (try simp only [List.map_toArray, List.map_cons, List.map_nil]); first | done | rfl | (simp only [List.length_drop, List.length_take]; rfl)) ?_; (with_reducible refine (spec_l9Rd_pick.calls k g s0_0 s0_1 t239 t240 t241 w0 _ ?side1 ?side2 A5.out).mono ?_); (case side1 => exact spec_l1Bent_auHI0); (case side2 => exact spec_l1Bent_auHB); rintro e w210 ⟨rfl, hi, hb, hk⟩; refine ⟨_, rfl, ?_⟩; have n0_ := Aside0.mk (KeepBut.blk hk (g' := gb232) (o := .cells #[.int .i64 a1_0, .slice A1_1 l1_1.length c1_1] 29 (0, 0)) (by (with_reducible repeat (first | refine blk_drewN ?_ _ | refine blk_drew ?_ | refine blk_alloc ?_ _)); refine blk_far ?_ NB232_238.out _; (with_reducible repeat (first | refine blk_drewN ?_ _ | refine blk_drew ?_ | refine blk_alloc ?_ _)); refine blk_far ?_ NB232_238.out _; (with_reducible repeat (first | refine blk_drewN ?_ _ | refine blk_drew ?_ | refine blk_alloc ?_ _)); exact BK232.out) NB232_0.out (by simp)); have n1_ := Aside0.mk (KeepBut.blk hk (g' := gb233) (o := .cells #[.int .i64 0, .slice none 0 0] 29 (0, 0)) (by (with_reducible repeat (first | refine blk_drewN ?_ _ | refine blk_drew ?_ | refine blk_alloc ?_ _)); refine blk_far ?_ NB233_238.out _; (with_reducible repeat (first | refine blk_drewN ?_ _ | refine blk_drew ?_ | refine blk_alloc ?_ _)); refine blk_far ?_ NB233_238.out _; (with_reducible repeat (first | refine blk_drewN ?_ _ | refine blk_drew ?_ | refine blk_alloc ?_ _)); exact BK233.out) NB233_0.out (by simp)); have n2_ := Aside0.mk (Kd.R_mono (Kd.R_keep (IsS84.apart (show IsS84 w0 _ g s0_0 s0_1 from spec_l1Bent_auHI0) (by (with_reducible repeat (first | apply Kd.R_alloc | apply Kd.R_drewN | apply Kd.R_drew)); exact (Kd.R_mono (Kd.R_far (p := ⟨gb238, 1, none⟩) (Kd.R_far (p := ⟨gb238, 0, none⟩) (Kd.R_types HO237.out BK238.out (by decide)) (fun _ hk => hk.2) (.int .i64 t234)) (fun _ hk => hk.2) (.slice Ao209 t235.length co209)) (fun _ h_ => h_.1))) (by decide)) hk (fun _ h => h.2)) (fun _ h => h.1)); have n3_ := Aside0.mk (KeepBut.blk hk (g' := gb238) (o := .cells #[.int .i64 t234, .slice Ao209 t235.length co209] 29 (0, 0)) (by (with_reducible repeat (first | refine blk_drewN ?_ _ | refine blk_drew ?_ | refine blk_alloc ?_ _)); refine blk_put (cs := #[.int .i64 t234, .slice none 0 0]) ?_ 1 _ rfl; (with_reducible repeat (first | refine blk_drewN ?_ _ | refine blk_drew ?_ | refine blk_alloc ?_ _)); refine blk_put (cs := #[.int .i64 0, .slice none 0 0]) ?_ 0 _ rfl; (with_reducible repeat (first | refine blk_drewN ?_ _ | refine blk_drew ?_ | refine blk_alloc ?_ _)); exact BK238.out) NB238_0.out (by simp)); have n4_ := Aside0.mk (KeepBut.trans (spec_l1Bent_auHK) hk (.inl rfl)); have n5_ := Aside0.mk (hb); have n6_ := Aside0.mk (hi); clear BK232; clear BK233; clear HO237; clear BK238; clear HK; clear HB; clear HI0; have BK232 := n0_; have BK233 := n1_; have HO237 := n2_; have BK238 := n3_; have HK := n4_; have HB := n5_; have HI0 := n6_; clear n0_ n1_ n2_ n3_ n4_ n5_ n6_; (try clear hb); (try clear hb2); (try clear hk); (try clear hi); have hcz211_0 : w210.cell? ⟨gb238, 0, none⟩ = some (.int .i64 t234) := (blk_cell BK238.out 0).trans rfl; have hcz211_1 : w210.cell? ⟨gb238, 1, none⟩ = some (.slice Ao209 t235.length co209) := (blk_cell BK238.out 1).trans rfl; have hfz211_0 := blk_frozen BK238.out 0; have hfz211_1 := blk_frozen BK238.out 1) | ((with_reducible refine gate_callee (f := 41) rfl ?_); refine goesL_ (some 21) rfl rfl Tryd.func41 (by kernel_rfl) rfl #[.pointer (some ⟨g, 0, none⟩), .int .i64 64] rfl (by (try simp only [List.map_toArray, List.map_cons, List.map_nil]); first | done | rfl | (simp only [List.length_drop, List.length_take]; rfl)) ?_; (with_reducible refine (spec_l9Rd_pick.calls k g s0_0 t241 64 t242 t243 w0 _ ?side1 ?side2 A23.out).mono ?_); (case side1 => exact spec_l1Bent_auHI0); (case side2 => exact spec_l1Bent_auHB); rintro e w212 ⟨rfl, hi, hb, hk⟩; refine ⟨_, rfl, ?_⟩; have n0_ := Aside0.mk (KeepBut.blk hk (g' := gb232) (o := .cells #[.int .i64 a1_0, .slice A1_1 l1_1.length c1_1] 29 (0, 0)) (spec_l1Bent_vb BK232) NB232_0.out (by simp)); have n1_ := Aside0.mk (KeepBut.blk hk (g' := gb233) (o := .cells #[.int .i64 0, .slice none 0 0] 29 (0, 0)) (spec_l1Bent_vb BK233) NB233_0.out (by simp)); have n2_ := Aside0.mk (Kd.R_mono (Kd.R_keep (IsS84.apart (show IsS84 w0 _ g s0_0 t241 from spec_l1Bent_auHI0) (by (with_reducible repeat (first | apply Kd.R_alloc | apply Kd.R_drewN | apply Kd.R_drew)); exact HO237.out) (by decide)) hk (fun _ h => h.2)) (fun _ h => h.1)); have n3_ := Aside0.mk (KeepBut.blk hk (g' := gb238) (o := .cells #[.int .i64 t234, .slice Ao209 t235.length co209] 29 (0, 0)) (spec_l1Bent_vb BK238) NB238_0.out (by simp)); have n4_ := Aside0.mk (KeepBut.trans (spec_l1Bent_auHK) hk (.inl rfl)); have n5_ := Aside0.mk (hb); have n6_ := Aside0.mk (hi); clear BK232; clear BK233; clear HO237; clear BK238; clear HK; clear HB; clear HI0; have BK232 := n0_; have BK233 := n1_; have HO237 := n2_; have BK238 := n3_; have HK := n4_; have HB := n5_; have HI0 := n6_; clear n0_ n1_ n2_ n3_ n4_ n5_ n6_; (try clear hb); (try clear hb2); (try clear hk); (try clear hi)))
        (try simp only [Act.put, List.setIfInBounds_toArray, List.set_cons_zero, List.set_cons_succ])
        go_cut [80] (fun v80 wc => ∃ (kq : Nat) (x80_196 : Bool), v80 = .bool x80_196 ∧ Aside0 (spec_l1Bent.j1 kq t240 x80_196 s0_0 t243 t234 t235 = some (r1, r2, r3)) ∧ Aside0 (kq ≤ k) ∧ Aside0 (Kd.R k45 45 wc w.heap.size (fun _ => True) (.slice Ao209 t235.length co209) t235) ∧ Aside0 (wc.heap[gb232]? = some (.cells #[.int .i64 a1_0, (.slice A1_1 l1_1.length c1_1)] 29 (0, 0))) ∧ Aside0 (wc.heap[gb233]? = some (.cells #[.int .i64 0, (.slice none 0 0)] 29 (0, 0))) ∧ Aside0 (wc.heap[gb238]? = some (.cells #[.int .i64 t234, (.slice Ao209 t235.length co209)] 29 (0, 0))) ∧ Aside0 (IsS84 w0 wc g s0_0 t243) ∧ Aside0 (KeepBut w wc g none) ∧ Aside0 (Below w0.heap.size w0 wc))
        case first =>
         have H := HC197.out
         clear HC197
         by_cases c213 : t242 = 6
         ·
          rw [if_pos c213] at H
          have c213b0 : (t242 == 6) = true := beq_iff_eq.mpr c213
          have c213b1 : (t242 != 6) = false := bne_eq_false_iff_eq.mpr c213
          clear c213
          (first | rw [c213b0] | (simp only [i64_w, i32_w]; rw [c213b0]) | skip)
          have H' := Aside0.mk H
          clear H
          go_wp2
          go_meet
          case rel => exact ⟨_, ((t242 == 6)), (by first | rfl | (simp; done) | (simp [*]; done)), H', ⟨by first | omega | exact Nat.le_refl _⟩, ⟨by (with_reducible repeat (first | apply Kd.R_alloc | apply Kd.R_drewN | apply Kd.R_drew)); exact HO237.out⟩, ⟨by (with_reducible repeat (first | refine blk_drewN ?_ _ | refine blk_drew ?_ | refine blk_alloc ?_ _)); exact BK232.out⟩, ⟨by (with_reducible repeat (first | refine blk_drewN ?_ _ | refine blk_drew ?_ | refine blk_alloc ?_ _)); exact BK233.out⟩, ⟨by (with_reducible repeat (first | refine blk_drewN ?_ _ | refine blk_drew ?_ | refine blk_alloc ?_ _)); exact BK238.out⟩, ⟨spec_l1Bent_auHI0⟩, ⟨spec_l1Bent_auHK⟩, ⟨spec_l1Bent_auHB⟩⟩
         ·
          rw [if_neg c213] at H
          have c213b0 : (t242 == 6) = false := beq_eq_false_iff_ne.mpr c213
          have c213b1 : (t242 != 6) = true := bne_iff_ne.mpr c213
          (first | rw [c213b0] | (simp only [i64_w, i32_w]; rw [c213b0]) | skip)
          have H' := Aside0.mk H
          clear H
          go_wp2
          go_meet
          case rel => exact ⟨_, ((t242 == 7)), (by first | rfl | (simp; done) | (simp [*]; done)), H', ⟨by first | omega | exact Nat.le_refl _⟩, ⟨by (with_reducible repeat (first | apply Kd.R_alloc | apply Kd.R_drewN | apply Kd.R_drew)); exact HO237.out⟩, ⟨by (with_reducible repeat (first | refine blk_drewN ?_ _ | refine blk_drew ?_ | refine blk_alloc ?_ _)); exact BK232.out⟩, ⟨by (with_reducible repeat (first | refine blk_drewN ?_ _ | refine blk_drew ?_ | refine blk_alloc ?_ _)); exact BK233.out⟩, ⟨by (with_reducible repeat (first | refine blk_drewN ?_ _ | refine blk_drew ?_ | refine blk_alloc ?_ _)); exact BK238.out⟩, ⟨spec_l1Bent_auHI0⟩, ⟨spec_l1Bent_auHK⟩, ⟨spec_l1Bent_auHB⟩⟩
        case rest =>
         clear HC197
         try clear c1
         try clear p1
         try clear q1
         try clear hx1
         try clear c2
         try clear p2
         try clear q2
         try clear hx2
         try clear qi2
         try clear c4
         try clear c5
         try clear c6
         try clear p6
         try clear p8
         try clear q8
         try clear hx8
         try clear p11
         try clear q11
         try clear hx11
         try clear c14
         try clear c15
         try clear c16
         try clear c17
         try clear c19
         try clear c20
         try clear c21
         try clear p27
         try clear q27
         try clear hx27
         try clear qi27
         try clear c41
         try clear c53
         try clear p64
         try clear c66
         try clear c67
         try clear p82
         try clear q82
         try clear hx82
         try clear p112
         try clear q112
         try clear hx112
         try clear c142
         try clear c146
         try clear c147
         try clear c148
         try clear c158
         try clear c160
         try clear c160b0
         try clear c160b1
         try clear c163
         try clear c164
         try clear c168
         try clear c169
         try clear c170
         try clear c177
         try clear c177b0
         try clear c178
         try clear c178b0
         try clear c178b1
         try clear c179
         try clear c190
         try clear c191
         try clear c192
         try clear c194
         try clear c195
         try clear c200
         try clear c201
         try clear c205
         try clear c206
         try clear c207
         try clear c213
         try clear c213b0
         try clear c213b1
         try clear hcz105_0
         try clear hcz105_1
         try clear hcz107_0
         try clear hcz107_1
         try clear hcz117_0
         try clear hcz117_1
         try clear hcz123_0
         try clear hcz123_1
         try clear hcz126_0
         try clear hcz126_1
         try clear hcz135_0
         try clear hcz135_1
         try clear hcz137_0
         try clear hcz137_1
         try clear hcz143_0
         try clear hcz143_1
         try clear hcz149_0
         try clear hcz149_1
         try clear hcz152_0
         try clear hcz152_1
         try clear hcz157_0
         try clear hcz157_1
         try clear hcz159_0
         try clear hcz159_1
         try clear hcz165_0
         try clear hcz165_1
         try clear hcz171_0
         try clear hcz171_1
         try clear hcz174_0
         try clear hcz174_1
         try clear hcz193_0
         try clear hcz193_1
         try clear hcz196_0
         try clear hcz196_1
         try clear hcz202_0
         try clear hcz202_1
         try clear hcz208_0
         try clear hcz208_1
         try clear hcz211_0
         try clear hcz211_1
         try clear hcz75_0
         try clear hcz75_1
         try clear hcz77_0
         try clear hcz77_1
         try clear hcz87_0
         try clear hcz87_1
         try clear hcz93_0
         try clear hcz93_1
         try clear hcz96_0
         try clear hcz96_1
         try clear hfz105_0
         try clear hfz105_1
         try clear hfz107_0
         try clear hfz107_1
         try clear hfz117_0
         try clear hfz117_1
         try clear hfz123_0
         try clear hfz123_1
         try clear hfz126_0
         try clear hfz126_1
         try clear hfz135_0
         try clear hfz135_1
         try clear hfz137_0
         try clear hfz137_1
         try clear hfz143_0
         try clear hfz143_1
         try clear hfz149_0
         try clear hfz149_1
         try clear hfz152_0
         try clear hfz152_1
         try clear hfz157_0
         try clear hfz157_1
         try clear hfz159_0
         try clear hfz159_1
         try clear hfz165_0
         try clear hfz165_1
         try clear hfz171_0
         try clear hfz171_1
         try clear hfz174_0
         try clear hfz174_1
         try clear hfz193_0
         try clear hfz193_1
         try clear hfz196_0
         try clear hfz196_1
         try clear hfz202_0
         try clear hfz202_1
         try clear hfz208_0
         try clear hfz208_1
         try clear hfz211_0
         try clear hfz211_1
         try clear hfz75_0
         try clear hfz75_1
         try clear hfz77_0
         try clear hfz77_1
         try clear hfz87_0
         try clear hfz87_1
         try clear hfz93_0
         try clear hfz93_1
         try clear hfz96_0
         try clear hfz96_1
         try clear hx112_0
         try clear hx112_1
         try clear hx112_2
         try clear hx272_0
         try clear hx272_1
         try clear hx272_2
         try clear hx82_0
         try clear hx82_1
         try clear hx82_2
         try clear p112
         try clear p272
         try clear p82
         try clear q112
         try clear q272
         try clear q82
         obtain ⟨kq, x80_196, rfl, HA, HJ196, HO_239001, BK232, BK233, BK238, HI0, HK, HB⟩ := hcut
         cases kq with
         | zero => exact absurd HA.out (by simp [spec_l1Bent.j1])
         | succ kj196 =>
          have H := HA.out
          clear HA
          simp only [spec_l1Bent.j1] at H
          by_cases c214 : x80_196 = true
          ·
           subst c214
           have H1 : (if 0 ≤ t240 then (if t240 < (t235.length : Int) then (some (t234, (t235.set (t240 : Int).toNat (⟨(rd_T45 t235 t240).f0, (rd_T45 t235 t240).f1, wrap64 (((rd_T45 t235 t240).f2) + 1)⟩ : S45)), t243)) else (none)) else (none)) = some (r1, r2, r3) := by rw [if_pos rfl] at H; exact H
           clear H
           have H := H1
           clear H1
           by_cases c215 : 0 ≤ t240
           ·
            rw [if_pos c215] at H
            have c215b0 : decide (0 ≤ t240) = true := decide_eq_true c215
            clear c215
            by_cases c216 : t240 < (t235.length : Int)
            ·
             rw [if_pos c216] at H
             have c216b0 : decide (t240 < (t235.length : Int)) = true := decide_eq_true c216
             clear c216
             obtain ⟨y277, hy277⟩ : ∃ y_ : List (S45), y_ = (t235.set (t240 : Int).toNat (⟨(rd_T45 t235 t240).f0, (rd_T45 t235 t240).f1, wrap64 (((rd_T45 t235 t240).f2) + 1)⟩ : S45)) := ⟨_, rfl⟩
             replace H : (some (t234, y277, t243)) = some (r1, r2, r3) := by first | (rw [hy277]; with_reducible exact H) | (have H2_ := (Option.bind_some _ _).symm.trans H; rw [hy277]; with_reducible exact H2_) | (have H2_ := (Option.bind_some _ _).symm.trans H; with_reducible exact H2_) | with_reducible exact H | (rw [hy277]; exact H) | exact H
             have Ny277 := Aside0.mk hy277
             clear hy277
             simp only [Option.some.injEq, Prod.mk.injEq] at H
             obtain ⟨rfl, rfl, rfl⟩ := H
             try go_wp2
             have n0_ := Aside0.mk (Kd.R_drew HO_239001.out)
             have n1_ := Aside0.mk (blk_drew BK232.out)
             have n2_ := Aside0.mk (blk_drew BK233.out)
             have n3_ := Aside0.mk (blk_drew BK238.out)
             have n4_ := Aside0.mk (IsS84.drew HI0.out)
             have n5_ := Aside0.mk (keep_drew HK.out)
             have n6_ := Aside0.mk (below_drew1 HB.out)
             clear HO_239001
             clear BK232
             clear BK233
             clear BK238
             clear HI0
             clear HK
             clear HB
             have HO_239001 := n0_
             have BK232 := n1_
             have BK233 := n2_
             have BK238 := n3_
             have HI0 := n4_
             have HK := n5_
             have HB := n6_
             clear n0_ n1_ n2_ n3_ n4_ n5_ n6_
             have p276 : 0 ≤ (t240 : Int) := of_decide_eq_true (by first | (with_reducible assumption) | assumption)
             have q276 : t240 < (t235.length : Int) := of_decide_eq_true (by first | (with_reducible assumption) | assumption)
             obtain ⟨ad276, e276, hx276_0, hx276_1, hx276_2⟩ := at_T45 (Kd.R_reads' HO_239001.out).2.2 t240 p276 q276
             cases e276
             replace p276 := eq_true p276
             replace q276 := eq_true q276
             have p217 : 0 ≤ (t240 : Int) := of_decide_eq_true (by first | (with_reducible assumption) | assumption)
             have q217 : (t240 : Int) < ((t235.length : Int) : Int) := of_decide_eq_true (by first | (with_reducible assumption) | assumption)
             obtain ⟨go217, co217, eo217, gb217, gl217, cl217, HG217⟩ := Kd.R_form HO_239001.out (by omega)
             (first | cases eo217 | (injection eo217 with ea_ en_ ec_; (first | subst ea_ | (injection ea_ with ea_; subst ea_)); subst ec_; clear en_))
             have GB217 := Aside0.mk gb217
             have GG217 := Aside0.mk HG217
             clear gb217 gl217 HG217
             (first | simp only [add_plain] at hx276_0 | skip)
             (first | simp only [add_plain] at hx276_1 | skip)
             (first | simp only [add_plain] at hx276_2 | skip)
             obtain ⟨ce217, hcl217, hM217, hcc217, hfr217⟩ := Kd.R_elem HO_239001.out z45 (t240 : Int) p217 q217
             obtain rfl := k45_openM hM217
             have hx217_0 : World.cell? _ ⟨go217, (t240 : Int).toNat * 3, none⟩ = some (.string ((rd_T45 t235 t240).f0)) := hcc217 0 _ rfl
             have hx217_1 : World.cell? _ ⟨go217, (t240 : Int).toNat * 3 + 1, none⟩ = some (.int .i64 ((rd_T45 t235 t240).f1)) := hcc217 1 _ rfl
             have hx217_2 : World.cell? _ ⟨go217, (t240 : Int).toNat * 3 + 2, none⟩ = some (.int .i64 ((rd_T45 t235 t240).f2)) := hcc217 2 _ rfl
             have hf217_0 : World.frozen? _ ⟨go217, (t240 : Int).toNat * 3, none⟩ = false := hfr217 0
             have hf217_1 : World.frozen? _ ⟨go217, (t240 : Int).toNat * 3 + 1, none⟩ = false := hfr217 1
             have hf217_2 : World.frozen? _ ⟨go217, (t240 : Int).toNat * 3 + 2, none⟩ = false := hfr217 2
             clear hcl217 hcc217 hfr217 hM217
             replace p217 := eq_true p217
             replace q217 := eq_true q217
             have HN0_go217 := Aside0.mk (show g ≠ go217 from by have h_ := IsS84.own_ne HI0.out HO_239001.out (by decide); intro e_; exact h_ (by rw [e_]; rfl))
             obtain ⟨ce219, hcl219, hM219, hcc219, hfr219⟩ := Kd.R_elem HO_239001.out z45 (t240 : Int) (of_decide_eq_true (by first | (with_reducible assumption) | assumption)) (by have h_ : (t240 : Int) < ((t235.length : Int) : Int) := of_decide_eq_true (by first | (with_reducible assumption) | assumption); first | exact h_ | (have e_ := (Kd.R_reads' HO_239001.out).1; omega) | simpa using h_)
             obtain rfl := k45_openM hM219
             have HP219 := (Kd.R_seg HO_239001.out (t240 : Int) (of_decide_eq_true (by first | (with_reducible assumption) | assumption)) (by have h_ : (t240 : Int) < ((t235.length : Int) : Int) := of_decide_eq_true (by first | (with_reducible assumption) | assumption); first | exact h_ | (have e_ := (Kd.R_reads' HO_239001.out).1; omega) | simpa using h_) (seg := [.int .i64 (wrap64 (((rd_T45 t235 t240).f2) + 1))]) (j := 2) hcl219 hcc219 (show 3 ≤ 3 from by decide) (x' := (⟨(rd_T45 t235 t240).f0, (rd_T45 t235 t240).f1, wrap64 (((rd_T45 t235 t240).f2) + 1)⟩ : S45)) (k45_mkM _ _ _ (⟨(rd_T45 t235 t240).f0, (rd_T45 t235 t240).f1, wrap64 (((rd_T45 t235 t240).f2) + 1)⟩ : S45) ) (fun _ hk => hk)).1
             rw [← Ny277.out] at HP219
             have HQ219 := Aside0.mk HP219
             clear hcl219 hcc219 hfr219 hM219 HP219
             refine start_ (n := 13) (S := fun w' => w'.cell? ⟨gb238, 0, none⟩ = some (.int .i64 t234) ∧ w'.cell? ⟨gb238, 1, none⟩ = some (.slice (some ⟨go217, 0, none⟩) t235.length co209) ∧ w'.cell? ⟨go217, ((t240).toNat * 3), none⟩ = some (.string ((rd_T45 t235 t240).f0)) ∧ w'.cell? ⟨go217, ((t240).toNat * 3) + 1, none⟩ = some (.int .i64 ((rd_T45 t235 t240).f1)) ∧ w'.cell? ⟨go217, ((t240).toNat * 3) + 2, none⟩ = some (.int .i64 ((rd_T45 t235 t240).f2))) (ds := [12]) #[false, false, false, false, false, false, false, false, false, false, false, false, false] (by kernel_rfl) rfl rfl ⟨(blk_cell BK238.out 0).trans rfl, (blk_cell BK238.out 1).trans rfl, hx276_0, hx276_1, hx276_2⟩ (fun hHeld => ?_); refine with_tabW spec_l1Bent.tab21 spec_l1Bent.bits21 (fun HT_ HW_ => ?_)
             generalize wc.drew = w218 at HO_239001 BK232 BK233 BK238 HI0 HK HB GG217 HQ219 hf217_0 hf217_1 hf217_2 hx217_0 hx217_1 hx217_2 hx276_0 hx276_1 hx276_2 hHeld ⊢
             refine pure_ (i := 0) (N := some 83) (v := ?_) (a' := ?_) #[true, false, false, false, false, false, false, false, false, false, false, false, false] rfl rfl (any_of HT_.out (by kernel_rfl)) (fun _ _ _ h => h) (Or.inl ⟨by rfl, ?_⟩) ?_ ?_
             rotate_left
             ·
              intro w'
              go_simp
              with_reducible rfl
             rotate_left
             ·
              simp only [Act.put, List.setIfInBounds_toArray, List.set_cons_zero, List.set_cons_succ, i64_w, i32_w]
              rfl
             refine pure_ (i := 2) (N := some 85) (v := ?_) (a' := ?_) #[true, false, true, false, false, false, false, false, false, false, false, false, false] rfl rfl (any_of HT_.out (by kernel_rfl)) (fun _ _ _ h => h) (Or.inl ⟨by rfl, ?_⟩) ?_ ?_
             rotate_left
             ·
              intro w'
              go_simp
              with_reducible rfl
             rotate_left
             ·
              simp only [Act.put, List.setIfInBounds_toArray, List.set_cons_zero, List.set_cons_succ, i64_w, i32_w]
              rfl
             refine pure_ (i := 3) (N := some 86) (v := ?_) (a' := ?_) #[true, false, true, true, false, false, false, false, false, false, false, false, false] rfl rfl (any_of HT_.out (by kernel_rfl)) (fun _ _ _ h => h) (Or.inl ⟨by rfl, ?_⟩) ?_ ?_
             rotate_left
             ·
              intro w'
              go_simp
              with_reducible rfl
             rotate_left
             ·
              simp only [Act.put, List.setIfInBounds_toArray, List.set_cons_zero, List.set_cons_succ, i64_w, i32_w]
              rfl
             refine pure_ (i := 5) (N := some 88) (v := ?_) (a' := ?_) #[true, false, true, true, false, true, false, false, false, false, false, false, false] rfl rfl (any_of HT_.out (by kernel_rfl)) (fun _ _ _ h => h) (Or.inl ⟨by rfl, ?_⟩) ?_ ?_
             rotate_left
             ·
              intro w'
              go_simp
              with_reducible rfl
             rotate_left
             ·
              simp only [Act.put, List.setIfInBounds_toArray, List.set_cons_zero, List.set_cons_succ, i64_w, i32_w]
              rfl
             refine take_ (i := 1) (N := some 84) (v := ?_) (a' := ?_) #[true, true, true, true, false, true, false, false, false, false, false, false, false] rfl rfl (take_ofW HT_.out HW_.out (by kernel_rfl)) (fun _ _ _ h => h) (Or.inl ⟨by rfl, ?_⟩) hHeld ?_ ?_
             rotate_left
             ·
              rintro w' ⟨s0, s1, s2, s3, s4⟩
              go_simp
              with_reducible rfl
             rotate_left
             ·
              simp only [Act.put, List.setIfInBounds_toArray, List.set_cons_zero, List.set_cons_succ, i64_w, i32_w]
              rfl
             refine take_ (i := 4) (N := some 87) (v := ?_) (a' := ?_) #[true, true, true, true, true, true, false, false, false, false, false, false, false] rfl rfl (take_ofW HT_.out HW_.out (by kernel_rfl)) (fun _ _ _ h => h) (Or.inl ⟨by rfl, ?_⟩) hHeld ?_ ?_
             rotate_left
             ·
              rintro w' ⟨s0, s1, s2, s3, s4⟩
              go_simp
              with_reducible rfl
             rotate_left
             ·
              simp only [Act.put, List.setIfInBounds_toArray, List.set_cons_zero, List.set_cons_succ, i64_w, i32_w]
              rfl
             refine pure_ (i := 6) (N := some 89) (v := ?_) (a' := ?_) #[true, true, true, true, true, true, true, false, false, false, false, false, false] rfl rfl (any_of HT_.out (by kernel_rfl)) (fun _ _ _ h => h) (Or.inl ⟨by rfl, ?_⟩) ?_ ?_
             rotate_left
             ·
              intro w'
              go_simp
              with_reducible rfl
             rotate_left
             ·
              simp only [Act.put, List.setIfInBounds_toArray, List.set_cons_zero, List.set_cons_succ, i64_w, i32_w]
              rfl
             refine pure_ (i := 7) (N := some 90) (v := ?_) (a' := ?_) #[true, true, true, true, true, true, true, true, false, false, false, false, false] rfl rfl (any_of HT_.out (by kernel_rfl)) (fun _ _ _ h => h) (Or.inl ⟨by rfl, ?_⟩) ?_ ?_
             rotate_left
             ·
              intro w'
              go_simp
              with_reducible rfl
             rotate_left
             ·
              simp only [Act.put, List.setIfInBounds_toArray, List.set_cons_zero, List.set_cons_succ, i64_w, i32_w]
              rfl
             refine take_ (i := 8) (N := some 91) (v := ?_) (a' := ?_) #[true, true, true, true, true, true, true, true, true, false, false, false, false] rfl rfl (take_ofW HT_.out HW_.out (by kernel_rfl)) (fun _ _ _ h => h) (Or.inl ⟨by rfl, ?_⟩) hHeld ?_ ?_
             rotate_left
             ·
              rintro w' ⟨s0, s1, s2, s3, s4⟩
              go_simp
              with_reducible rfl
             rotate_left
             ·
              simp only [Act.put, List.setIfInBounds_toArray, List.set_cons_zero, List.set_cons_succ, i64_w, i32_w]
              rfl
             refine pure_ (i := 9) (N := some 92) (v := ?_) (a' := ?_) #[true, true, true, true, true, true, true, true, true, true, false, false, false] rfl rfl (any_of HT_.out (by kernel_rfl)) (fun _ _ _ h => h) (Or.inl ⟨by rfl, ?_⟩) ?_ ?_
             rotate_left
             ·
              intro w'
              go_simp
              with_reducible rfl
             rotate_left
             ·
              simp only [Act.put, List.setIfInBounds_toArray, List.set_cons_zero, List.set_cons_succ, i64_w, i32_w]
              rfl
             refine pure_ (i := 10) (N := some 93) (v := ?_) (a' := ?_) #[true, true, true, true, true, true, true, true, true, true, true, false, false] rfl rfl (any_of HT_.out (by kernel_rfl)) (fun _ _ _ h => h) (Or.inl ⟨by rfl, ?_⟩) ?_ ?_
             rotate_left
             ·
              intro w'
              go_simp
              with_reducible rfl
             rotate_left
             ·
              simp only [Act.put, List.setIfInBounds_toArray, List.set_cons_zero, List.set_cons_succ, i64_w, i32_w]
              rfl
             refine pure_ (i := 11) (N := some 94) (v := ?_) (a' := ?_) #[true, true, true, true, true, true, true, true, true, true, true, true, false] rfl rfl (any_of HT_.out (by kernel_rfl)) (fun _ _ _ h => h) (Or.inl ⟨by rfl, ?_⟩) ?_ ?_
             rotate_left
             ·
              intro w'
              go_simp
              with_reducible rfl
             rotate_left
             ·
              simp only [Act.put, List.setIfInBounds_toArray, List.set_cons_zero, List.set_cons_succ, i64_w, i32_w]
              rfl
             refine last_ (i := 12) (N := none) #[true, true, true, true, true, true, true, true, true, true, true, true, true] rfl rfl (one_of HT_.out (by kernel_rfl)) (by decide) (fun K hK => ?_)
             refine skip_ (w1 := ?_) (by rfl) rfl ?_ ?_
             rotate_left
             ·
              go_simp
              rfl
             refine hK.out _ _ ?_
             clear hK K
             refine done_ (done_of HT_.out (by kernel_rfl)) ?_
             have n0_ : Aside0 (Kd.R k45 45 (w218.setCell ⟨go217, (t240 : Int).toNat * 3 + 2, none⟩ (.int .i64 (wrap64 (((rd_T45 t235 t240).f2) + 1)))) w.heap.size (fun _ => True) (.slice (some ⟨go217, 0, none⟩) t235.length co209) y277) := ⟨by (with_reducible repeat (first | apply Kd.R_alloc | apply Kd.R_drewN | apply Kd.R_drew)); exact HQ219.out⟩
             have n1_ : Aside0 ((w218.setCell ⟨go217, (t240 : Int).toNat * 3 + 2, none⟩ (.int .i64 (wrap64 (((rd_T45 t235 t240).f2) + 1)))).heap[gb232]? = some (.cells #[.int .i64 a1_0, .slice A1_1 l1_1.length c1_1] 29 (0, 0))) := ⟨by (with_reducible repeat (first | refine blk_drewN ?_ _ | refine blk_drew ?_ | refine blk_alloc ?_ _)); refine blk_far ?_ (by have h_ := Kd.R_ne HO_239001.out BK232.out (by decide); intro e_; exact h_ (by rw [e_]; rfl)) _; (with_reducible repeat (first | refine blk_drewN ?_ _ | refine blk_drew ?_ | refine blk_alloc ?_ _)); exact BK232.out⟩
             have n2_ : Aside0 ((w218.setCell ⟨go217, (t240 : Int).toNat * 3 + 2, none⟩ (.int .i64 (wrap64 (((rd_T45 t235 t240).f2) + 1)))).heap[gb233]? = some (.cells #[.int .i64 0, .slice none 0 0] 29 (0, 0))) := ⟨by (with_reducible repeat (first | refine blk_drewN ?_ _ | refine blk_drew ?_ | refine blk_alloc ?_ _)); refine blk_far ?_ (by have h_ := Kd.R_ne HO_239001.out BK233.out (by decide); intro e_; exact h_ (by rw [e_]; rfl)) _; (with_reducible repeat (first | refine blk_drewN ?_ _ | refine blk_drew ?_ | refine blk_alloc ?_ _)); exact BK233.out⟩
             have n3_ : Aside0 ((w218.setCell ⟨go217, (t240 : Int).toNat * 3 + 2, none⟩ (.int .i64 (wrap64 (((rd_T45 t235 t240).f2) + 1)))).heap[gb238]? = some (.cells #[.int .i64 t234, .slice (some ⟨go217, 0, none⟩) t235.length co209] 29 (0, 0))) := ⟨by (with_reducible repeat (first | refine blk_drewN ?_ _ | refine blk_drew ?_ | refine blk_alloc ?_ _)); refine blk_far ?_ (by have h_ := Kd.R_ne HO_239001.out BK238.out (by decide); intro e_; exact h_ (by rw [e_]; rfl)) _; (with_reducible repeat (first | refine blk_drewN ?_ _ | refine blk_drew ?_ | refine blk_alloc ?_ _)); exact BK238.out⟩
             have n4_ : Aside0 (IsS84 w0 (w218.setCell ⟨go217, (t240 : Int).toNat * 3 + 2, none⟩ (.int .i64 (wrap64 (((rd_T45 t235 t240).f2) + 1)))) g s0_0 t243) := ⟨spec_l1Bent_auHI0⟩
             have n5_ : Aside0 (KeepBut w (w218.setCell ⟨go217, (t240 : Int).toNat * 3 + 2, none⟩ (.int .i64 (wrap64 (((rd_T45 t235 t240).f2) + 1)))) g none) := ⟨spec_l1Bent_auHK⟩
             have n6_ : Aside0 (Below w0.heap.size w0 (w218.setCell ⟨go217, (t240 : Int).toNat * 3 + 2, none⟩ (.int .i64 (wrap64 (((rd_T45 t235 t240).f2) + 1))))) := ⟨spec_l1Bent_auHB⟩
             (try clear HO_239001)
             (try clear BK232)
             (try clear BK233)
             (try clear BK238)
             (try clear HI0)
             (try clear HK)
             (try clear HB)
             generalize (w218.setCell ⟨go217, (t240 : Int).toNat * 3 + 2, none⟩ (.int .i64 (wrap64 (((rd_T45 t235 t240).f2) + 1)))) = w220 at n0_ n1_ n2_ n3_ n4_ n5_ n6_ ⊢
             have HO_239001 := n0_
             have BK232 := n1_
             have BK233 := n2_
             have BK238 := n3_
             have HI0 := n4_
             have HK := n5_
             have HB := n6_
             clear n0_ n1_ n2_ n3_ n4_ n5_ n6_
             have hnb221 := NB238_232.out
             have hnc221 := NB232_238.out
             have hnb222 := NB238_233.out
             have hnc222 := NB233_238.out
             have hnb223 := NB238_0.out
             have hnc223 := NB0_238.out
             have hcz224_0 : w220.cell? ⟨gb238, 0, none⟩ = some (.int .i64 t234) := (blk_cell BK238.out 0).trans rfl
             have hcz224_1 : w220.cell? ⟨gb238, 1, none⟩ = some (.slice (some ⟨go217, 0, none⟩) t235.length co209) := (blk_cell BK238.out 1).trans rfl
             have hfz224_0 := blk_frozen BK238.out 0
             have hfz224_1 := blk_frozen BK238.out 1
             have hnb225 := NB233_232.out
             have hnc225 := NB232_233.out
             have hnb226 := NB233_0.out
             have hnc226 := NB0_233.out
             have hcz227_0 : w220.cell? ⟨gb233, 0, none⟩ = some (.int .i64 0) := (blk_cell BK233.out 0).trans rfl
             have hcz227_1 : w220.cell? ⟨gb233, 1, none⟩ = some (.slice none 0 0) := (blk_cell BK233.out 1).trans rfl
             have hfz227_0 := blk_frozen BK233.out 0
             have hfz227_1 := blk_frozen BK233.out 1
             try go_wp2
             refine bodyPost_ret (results_cell_row rfl _ _ gb233 29 #[.int .i64 t234, .slice (some ⟨go217, 0, none⟩) t235.length co209] (0, 0) _ rfl (by (with_reducible repeat (first | refine blk_drewN ?_ _ | refine blk_drew ?_ | refine blk_alloc ?_ _)); refine blk_put (cs := #[.int .i64 t234, .slice none 0 0]) ?_ 1 _ rfl; (with_reducible repeat (first | refine blk_drewN ?_ _ | refine blk_drew ?_ | refine blk_alloc ?_ _)); refine blk_put (cs := #[.int .i64 0, .slice none 0 0]) ?_ 0 _ rfl; (with_reducible repeat (first | refine blk_drewN ?_ _ | refine blk_drew ?_ | refine blk_alloc ?_ _)); exact BK233.out) Tryd.underlying29 rfl (by kernel_rfl)) rfl ?_
             exact ⟨_, by first | rfl | (simp [errW_none, errW_some] <;> rfl) | (simp [*, errW_none, errW_some] <;> rfl), by (with_reducible repeat (first | apply Kd.R_alloc | apply Kd.R_drewN | apply Kd.R_drew)); exact Kd.R_mono (Kd.R_far (p := ⟨gb233, 1, none⟩) (Kd.R_far (p := ⟨gb233, 0, none⟩) (Kd.R_types HO_239001.out BK233.out (by decide)) (fun _ hk => hk.2) (.int .i64 t234)) (fun _ hk => hk.2) (.slice (some ⟨go217, 0, none⟩) t235.length co209)) (fun _ hk => trivial), spec_l1Bent_auHI0, spec_l1Bent_auHB, spec_l1Bent_auHK⟩
            ·
             rw [if_neg c216] at H
             exact absurd H (by simp)
           ·
            rw [if_neg c215] at H
            exact absurd H (by simp)
          ·
           replace c214 := Bool.eq_false_iff.mpr c214
           subst c214
           have H1 : (some (t234, t235, t243)) = some (r1, r2, r3) := by rw [if_neg (show ¬ (false = true) by decide)] at H; exact H
           clear H
           have H := H1
           clear H1
           simp only [Option.some.injEq, Prod.mk.injEq] at H
           obtain ⟨rfl, rfl, rfl⟩ := H
           have hnb228 := NB238_232.out
           have hnc228 := NB232_238.out
           have hnb229 := NB238_233.out
           have hnc229 := NB233_238.out
           have hnb230 := NB238_0.out
           have hnc230 := NB0_238.out
           have hcz231_0 : wc.cell? ⟨gb238, 0, none⟩ = some (.int .i64 t234) := (blk_cell BK238.out 0).trans rfl
           have hcz231_1 : wc.cell? ⟨gb238, 1, none⟩ = some (.slice Ao209 t235.length co209) := (blk_cell BK238.out 1).trans rfl
           have hfz231_0 := blk_frozen BK238.out 0
           have hfz231_1 := blk_frozen BK238.out 1
           have hnb232 := NB233_232.out
           have hnc232 := NB232_233.out
           have hnb233 := NB233_0.out
           have hnc233 := NB0_233.out
           have hcz234_0 : wc.cell? ⟨gb233, 0, none⟩ = some (.int .i64 0) := (blk_cell BK233.out 0).trans rfl
           have hcz234_1 : wc.cell? ⟨gb233, 1, none⟩ = some (.slice none 0 0) := (blk_cell BK233.out 1).trans rfl
           have hfz234_0 := blk_frozen BK233.out 0
           have hfz234_1 := blk_frozen BK233.out 1
           go_wp2
           refine bodyPost_ret (results_cell_row rfl _ _ gb233 29 #[.int .i64 t234, .slice Ao209 t235.length co209] (0, 0) _ rfl (by (with_reducible repeat (first | refine blk_drewN ?_ _ | refine blk_drew ?_ | refine blk_alloc ?_ _)); refine blk_put (cs := #[.int .i64 t234, .slice none 0 0]) ?_ 1 _ rfl; (with_reducible repeat (first | refine blk_drewN ?_ _ | refine blk_drew ?_ | refine blk_alloc ?_ _)); refine blk_put (cs := #[.int .i64 0, .slice none 0 0]) ?_ 0 _ rfl; (with_reducible repeat (first | refine blk_drewN ?_ _ | refine blk_drew ?_ | refine blk_alloc ?_ _)); exact BK233.out) Tryd.underlying29 rfl (by kernel_rfl)) rfl ?_
           exact ⟨_, by first | rfl | (simp [errW_none, errW_some] <;> rfl) | (simp [*, errW_none, errW_some] <;> rfl), by (with_reducible repeat (first | apply Kd.R_alloc | apply Kd.R_drewN | apply Kd.R_drew)); exact Kd.R_mono (Kd.R_far (p := ⟨gb233, 1, none⟩) (Kd.R_far (p := ⟨gb233, 0, none⟩) (Kd.R_types HO_239001.out BK233.out (by decide)) (fun _ hk => hk.2) (.int .i64 t234)) (fun _ hk => hk.2) (.slice Ao209 t235.length co209)) (fun _ hk => trivial), spec_l1Bent_auHI0, spec_l1Bent_auHB, spec_l1Bent_auHK⟩


end Go.Proofs.YtdjohhobmipagaaDoor.QFnPost

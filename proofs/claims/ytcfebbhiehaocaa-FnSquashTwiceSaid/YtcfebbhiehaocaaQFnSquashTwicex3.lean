/- What the law FnSquashTwice reaches, function by function: what each computes, and that the machine's call comes to it. Laid by a program. -/
import Derived.Test.YtcfebbhiehaocaaQFnSquashTwicex0
import Derived.Test.YtcfebbhiehaocaaQFnSquashTwicex2
namespace Go.Proofs.Ytcfebbhiehaocaa.QFnSquashTwice
open Go.RowKit Go.Proofs.YtcfebbhiehaocaaW.PrintWords Go.Proofs.YtcfebbhiehaocaaW.PrintLast Go.Proofs.YtcfebbhiehaocaaW.PrintMore
attribute [local go_sem] max2_int min2_int max_two min_two max_three min_three max_four min_four   -- for this text's walks alone
set_option linter.unusedVariables false
set_option linter.unusedSimpArgs false

/-! ### spec_l4Right: function 33 -/
def spec_l4Right.l0 : Nat → List (S48) → Int → Option (Bool)
  | 0, _, _ => none
  | k + 1, x0, x3 => if x3 < (x0.length : Int) then (if 0 ≤ x3 then ((spec_EntryOk.f k ((rd_T48 x0 x3).f0) ((rd_T48 x0 x3).f1) ((rd_T48 x0 x3).f2) ((rd_T48 x0 x3).f3) ((rd_T48 x0 x3).f4)).bind fun t107 => (if t107 = true then (if x3 > 0 then (if 0 ≤ (wrap64 (x3 - 1)) then (if (wrap64 (x3 - 1)) < (x0.length : Int) then ((spec_EntryLess.f ((rd_T48 x0 (wrap64 (x3 - 1))).f0) ((rd_T48 x0 (wrap64 (x3 - 1))).f1) ((rd_T48 x0 (wrap64 (x3 - 1))).f2) ((rd_T48 x0 (wrap64 (x3 - 1))).f3) ((rd_T48 x0 (wrap64 (x3 - 1))).f4) ((rd_T48 x0 x3).f0) ((rd_T48 x0 x3).f1) ((rd_T48 x0 x3).f2) ((rd_T48 x0 x3).f3) ((rd_T48 x0 x3).f4)).bind fun t110 => (if t110 = true then (spec_l4Right.l0 k x0 (wrap64 (x3 + 1))) else (some false))) else (none)) else (none)) else (spec_l4Right.l0 k x0 (wrap64 (x3 + 1)))) else (some false))) else (none)) else (some true)
def spec_l4Right.f (k : Nat) (l0 : List (S48)) : Option (Bool) := spec_l4Right.l0 k l0 0
theorem spec_l4Right.mono_l : ∀ k, (∀ y0 y1, LeO (spec_l4Right.l0 k y0 y1) (spec_l4Right.l0 (k + 1) y0 y1))
  | 0 => fun _ _ r h => by simp [spec_l4Right.l0] at h
  | k + 1 => by
    have ih0 := spec_l4Right.mono_l k
    · intro y0 y1
      unfold spec_l4Right.l0
      repeat' first
      | (with_reducible exact ih0 _ _)
      | (with_reducible exact spec_EntryOk.mono _ _ _ _ _ _)
      | (with_reducible exact LeO.refl _)
      | (with_reducible exact LeO.none _)
      | (with_reducible refine LeO.ite ?_ ?_)
      | (with_reducible refine LeO.bind ?_ (fun _ => ?_))
      | exact ih0 _ _
      | exact spec_EntryOk.mono _ _ _ _ _ _
      | exact LeO.none _
      | refine LeO.ite ?_ ?_
      | refine LeO.bind ?_ (fun _ => ?_)
theorem spec_l4Right.mono : ∀ a0 k, LeO (spec_l4Right.f k a0) (spec_l4Right.f (k + 1) a0) := by
  intro a0 k
  have ih0 := spec_l4Right.mono_l k
  unfold spec_l4Right.f
  repeat' first
      | (with_reducible exact ih0 _ _)
      | (with_reducible exact spec_EntryOk.mono _ _ _ _ _ _)
      | (with_reducible exact LeO.refl _)
      | (with_reducible exact LeO.none _)
      | (with_reducible refine LeO.ite ?_ ?_)
      | (with_reducible refine LeO.bind ?_ (fun _ => ?_))
      | exact ih0 _ _
      | exact spec_EntryOk.mono _ _ _ _ _ _
      | exact LeO.none _
      | refine LeO.ite ?_ ?_
      | refine LeO.bind ?_ (fun _ => ?_)
def spec_l4Right.T4 : Bool × List (List Nat × List Nat) := (true, [([], []), ([], []), ([0, 1], [0, 1]), ([2], [2]), ([3], [3]), ([4], [4]), ([5, 4], [5]), ([6], [6]), ([7, 6], [6, 7]), ([8, 6, 6], [6, 8]), ([9], [9]), ([9], [9]), ([11, 9], [9, 11]), ([10, 12, 9], [9, 10, 12]), ([13, 9], [9, 13]), ([9], [9]), ([9], [9]), ([15, 16, 9], [9, 15, 16]), ([17, 9], [9, 17]), ([14, 18, 9, 9], [9, 14, 18]), ([19, 9], [9, 19]), ([9, 20, 6], [6, 9, 20]), ([6, 21], [6, 21])])
def spec_l4Right.B4 : List Nat := [0, 0, 3, 7, 15, 31, 63, 127, 255, 511, 1023, 1023, 3071, 8191, 16383, 1023, 1023, 99327, 230399, 524287, 1048575, 2097151, 4194303]
theorem spec_l4Right.tab4 : rtab .any (opsOf Try.f33 4) = spec_l4Right.T4 := by kernel_rfl
theorem spec_l4Right.bits4 : waitsOk spec_l4Right.T4.2 spec_l4Right.B4 = true := by kernel_rfl
theorem spec_l4Right_auHB {q : Prop} (h : q := by (repeat (first | (with_reducible first | exact HB.out | apply below_alloc | apply pw_below_drewN | apply below_drew1) | exact HB.out))) : q := h
set_option maxHeartbeats 8000000 in
set_option maxRecDepth 100000 in
theorem spec_l4Right.calls (k : Nat) (A0 : Option Addr) (c0 : Nat) (l0 : List (S48)) (r : Bool) (w : World) (hr0 : Kd.C k48 w A0 l0.length l0) (hc0 : l0.length ≤ c0) (h : spec_l4Right.f k l0 = some r) :
  Calls Try.prog 33 #[.slice A0 l0.length c0] w fun e w' => e = .returned (.bool r) ∧ Below w.heap.size w w' := by
 have hu48 := Try.underlying48
 have HR0 := Aside0.mk hr0
 have HC0 := Aside0.mk hc0
 clear hr0 hc0
 have HB := Aside0.mk (Below.refl w.heap.size w)
 have H : (spec_l4Right.l0 k l0 0) = some r := h
 clear h
 have H' := Aside0.mk H
 clear H
 go_enter Try.func33, Try.ntmps33
 go_wp2
 go_loopg [3] k (fun kq v3 w' => ∃ (x3_1 : Int), v3 = .int .i64 x3_1 ∧ Aside0 (spec_l4Right.l0 kq l0 x3_1 = some r) ∧ Aside0 (kq ≤ k) ∧ Aside0 (Below w.heap.size w w'))
 case atStart => exact ⟨(0), (by first | rfl | (simp; done) | (simp [*]; done)), H', ⟨Nat.le_refl _⟩, ⟨spec_l4Right_auHB⟩⟩
 case round =>
  clear H'
  obtain ⟨x3_1, rfl, HA, HK1, HB⟩ := hrel
  cases gk with
  | zero => exact absurd HA.out (by simp [spec_l4Right.l0])
  | succ k1 =>
   have H := HA.out
   clear HA
   simp only [spec_l4Right.l0] at H
   by_cases c2 : x3_1 < (l0.length : Int)
   rotate_left
   ·
    rw [if_neg c2] at H
    have c2b0 : decide (x3_1 < (l0.length : Int)) = false := decide_eq_false c2
    clear c2
    obtain rfl := Option.some.inj H
    go_wp2
    go_ret
    exact ⟨by first | rfl | (simp [errW_none, errW_some] <;> rfl) | (simp [*, errW_none, errW_some] <;> rfl), spec_l4Right_auHB⟩
   rw [if_pos c2] at H
   have c2b0 : decide (x3_1 < (l0.length : Int)) = true := decide_eq_true c2
   clear c2
   by_cases c3 : 0 ≤ x3_1
   rotate_left
   ·
    rw [if_neg c3] at H
    exact absurd H (by simp)
   rw [if_pos c3] at H
   have c3b0 : decide (0 ≤ x3_1) = true := decide_eq_true c3
   clear c3
   replace H := Option.bind_eq_some_iff.mp H
   obtain ⟨t107, A40, H⟩ := H
   replace H : (if t107 = true then (if x3_1 > 0 then (if 0 ≤ (wrap64 (x3_1 - 1)) then (if (wrap64 (x3_1 - 1)) < (l0.length : Int) then ((spec_EntryLess.f ((rd_T48 l0 (wrap64 (x3_1 - 1))).f0) ((rd_T48 l0 (wrap64 (x3_1 - 1))).f1) ((rd_T48 l0 (wrap64 (x3_1 - 1))).f2) ((rd_T48 l0 (wrap64 (x3_1 - 1))).f3) ((rd_T48 l0 (wrap64 (x3_1 - 1))).f4) ((rd_T48 l0 x3_1).f0) ((rd_T48 l0 x3_1).f1) ((rd_T48 l0 x3_1).f2) ((rd_T48 l0 x3_1).f3) ((rd_T48 l0 x3_1).f4)).bind fun t110 => (if t110 = true then (spec_l4Right.l0 k1 l0 (wrap64 (x3_1 + 1))) else (some false))) else (none)) else (none)) else (spec_l4Right.l0 k1 l0 (wrap64 (x3_1 + 1)))) else (some false)) = some r := H
   have A4 := Aside0.mk A40
   clear A40
   by_cases c5 : t107 = true
   rotate_left
   ·
    replace c5 := Bool.eq_false_iff.mpr c5
    subst c5
    have H1 : (some false) = some r := by rw [if_neg (show ¬ (false = true) by decide)] at H; exact H
    clear H
    have H := H1
    clear H1
    obtain rfl := Option.some.inj H
    try go_wp2
    replace HB := Aside0.mk (below_drew1 HB.out)
    have p106 : 0 ≤ (x3_1 : Int) := of_decide_eq_true (by first | (with_reducible assumption) | assumption)
    have q106 : x3_1 < (l0.length : Int) := of_decide_eq_true (by first | (with_reducible assumption) | assumption)
    obtain ⟨ad106, e106, hx106_0, hx106_1, hx106_2, hx106_3, hx106_4⟩ := at_T48 HR0.out x3_1 p106 q106
    have hw106_4 := hx106_4
    have hw106_3 := hx106_3
    have hw106_2 := hx106_2
    have hw106_1 := hx106_1
    have hw106_0 := hx106_0
    cases e106
    replace hx106_0 := (HB.out.cell (World.block_lt_of_cell? w _ hx106_0)).trans hx106_0
    replace hx106_1 := (HB.out.cell (World.block_lt_of_cell? w _ hx106_1)).trans hx106_1
    replace hx106_2 := (HB.out.cell (World.block_lt_of_cell? w _ hx106_2)).trans hx106_2
    replace hx106_3 := (HB.out.cell (World.block_lt_of_cell? w _ hx106_3)).trans hx106_3
    replace hx106_4 := (HB.out.cell (World.block_lt_of_cell? w _ hx106_4)).trans hx106_4
    replace p106 := eq_true p106
    replace q106 := eq_true q106
    refine start_ (n := 23) (S := fun w' => w'.cell? (ad106.add ((x3_1).toNat * 5)) = some (.string ((rd_T48 l0 x3_1).f0)) ∧ w'.cell? ⟨(ad106.add ((x3_1).toNat * 5)).block, (ad106.add ((x3_1).toNat * 5)).off + 1, none⟩ = some (.int .i64 ((rd_T48 l0 x3_1).f1)) ∧ w'.cell? ⟨(ad106.add ((x3_1).toNat * 5)).block, (ad106.add ((x3_1).toNat * 5)).off + 2, none⟩ = some (.int .i64 ((rd_T48 l0 x3_1).f2)) ∧ w'.cell? ⟨(ad106.add ((x3_1).toNat * 5)).block, (ad106.add ((x3_1).toNat * 5)).off + 3, none⟩ = some (.string ((rd_T48 l0 x3_1).f3)) ∧ w'.cell? ⟨(ad106.add ((x3_1).toNat * 5)).block, (ad106.add ((x3_1).toNat * 5)).off + 4, none⟩ = some (.int .i64 ((rd_T48 l0 x3_1).f4))) (ds := []) #[false, false, false, false, false, false, false, false, false, false, false, false, false, false, false, false, false, false, false, false, false, false, false] (by kernel_rfl) rfl rfl ⟨((HB.out.cell (World.block_lt_of_cell? w _ hw106_0)).trans hw106_0), ((HB.out.cell (World.block_lt_of_cell? w _ hw106_1)).trans hw106_1), ((HB.out.cell (World.block_lt_of_cell? w _ hw106_2)).trans hw106_2), ((HB.out.cell (World.block_lt_of_cell? w _ hw106_3)).trans hw106_3), ((HB.out.cell (World.block_lt_of_cell? w _ hw106_4)).trans hw106_4)⟩ (fun hHeld => ?_); refine with_tabW spec_l4Right.tab4 spec_l4Right.bits4 (fun HT_ HW_ => ?_)
    generalize wr.drew = w20 at HB hx106_0 hx106_1 hx106_2 hx106_3 hx106_4 hHeld ⊢
    refine pu_ 0 (some 10) HT_ rfl rfl (by go_simp; rfl) (by kernel_rfl) rfl (by intro w'; go_simp; with_reducible rfl) (fun _ _ _ h => h) (by go_simp; rfl) ?_
    refine pu_ 1 (some 11) HT_ rfl rfl (by go_simp; rfl) (by kernel_rfl) rfl (by intro w'; go_simp; with_reducible rfl) (fun _ _ _ h => h) (by go_simp; rfl) ?_
    refine pu_ 2 (some 12) HT_ rfl rfl (by go_simp; rfl) (by kernel_rfl) rfl (by intro w'; go_simp; with_reducible rfl) (fun _ _ _ h => h) (by go_simp; rfl) ?_
    refine ta_ 3 (some 13) HT_ HW_ hHeld rfl rfl (by go_simp; rfl) (by kernel_rfl) rfl (by rintro w' ⟨s0, s1, s2, s3, s4⟩; go_simp; with_reducible rfl) (fun _ _ _ h => h) (by go_simp; rfl) ?_
    refine one_ (i := 4) (N := some 14) #[true, true, true, true, true, false, false, false, false, false, false, false, false, false, false, false, false, false, false, false, false, false, false] rfl rfl (one_of HT_.out (by kernel_rfl)) (by decide) (fun K hK => ?_)
    refine goes_ Try.func57 (by kernel_rfl) rfl #[.agg #[.string ((rd_T48 l0 x3_1).f0), .int .i64 ((rd_T48 l0 x3_1).f1), .int .i64 ((rd_T48 l0 x3_1).f2), .string ((rd_T48 l0 x3_1).f3), .int .i64 ((rd_T48 l0 x3_1).f4)]] (by rfl) rfl rfl (by (try simp only [List.map_toArray, List.map_cons, List.map_nil]); first | done | rfl | (simp only [List.length_drop, List.length_take]; rfl)) ?_
    with_reducible refine (spec_EntryOk.calls k1 ((rd_T48 l0 x3_1).f0) ((rd_T48 l0 x3_1).f1) ((rd_T48 l0 x3_1).f2) ((rd_T48 l0 x3_1).f3) ((rd_T48 l0 x3_1).f4) false _ A4.out).mono ?_
    rintro e w21 ⟨rfl, hb⟩
    refine ⟨_, rfl, ?_⟩
    replace HB := Aside0.mk (below_step (spec_l4Right_auHB) hb)
    (try clear hb)
    (try clear hb2)
    (try clear hk)
    (try clear hi)
    refine hK.out _ _ ⟨((HB.out.cell (World.block_lt_of_cell? w _ hw106_0)).trans hw106_0), ((HB.out.cell (World.block_lt_of_cell? w _ hw106_1)).trans hw106_1), ((HB.out.cell (World.block_lt_of_cell? w _ hw106_2)).trans hw106_2), ((HB.out.cell (World.block_lt_of_cell? w _ hw106_3)).trans hw106_3), ((HB.out.cell (World.block_lt_of_cell? w _ hw106_4)).trans hw106_4)⟩ (fun hHeld => ?_)
    clear hK K
    refine norm_ (a' := ?_) ?_ ?_
    rotate_left
    ·
     show Act.put _ (some 14) _ = _
     simp only [Act.put, List.setIfInBounds_toArray, List.set_cons_zero, List.set_cons_succ, i64_w, i32_w]
     rfl
    refine pu_ 5 (some 15) HT_ rfl rfl (by go_simp; rfl) (by kernel_rfl) rfl (by intro w'; go_simp; with_reducible rfl) (fun _ _ _ h => h) (by go_simp; rfl) ?_
    refine pu_ 6 (some 16) HT_ rfl rfl (by go_simp; rfl) (by kernel_rfl) rfl (by intro w'; go_simp; with_reducible rfl) (fun _ _ _ h => h) (by go_simp; rfl) ?_
    refine pure_ (i := 7) (N := some 17) (v := undef) (a' := ?_) #[true, true, true, true, true, true, true, true, false, false, false, false, false, false, false, false, false, false, false, false, false, false, false] rfl rfl (any_of HT_.out (by kernel_rfl)) (fun _ _ _ h => h) (Or.inr ⟨by rfl, rfl⟩) ?_ ?_
    rotate_left
    ·
     simp only [Act.put, List.setIfInBounds_toArray, List.set_cons_zero, List.set_cons_succ, i64_w, i32_w]
     rfl
    refine pure_ (i := 8) (N := some 18) (v := undef) (a' := ?_) #[true, true, true, true, true, true, true, true, true, false, false, false, false, false, false, false, false, false, false, false, false, false, false] rfl rfl (any_of HT_.out (by kernel_rfl)) (fun _ _ _ h => h) (Or.inr ⟨by rfl, rfl⟩) ?_ ?_
    rotate_left
    ·
     simp only [Act.put, List.setIfInBounds_toArray, List.set_cons_zero, List.set_cons_succ, i64_w, i32_w]
     rfl
    refine pure_ (i := 9) (N := some 19) (v := undef) (a' := ?_) #[true, true, true, true, true, true, true, true, true, true, false, false, false, false, false, false, false, false, false, false, false, false, false] rfl rfl (any_of HT_.out (by kernel_rfl)) (fun _ _ _ h => h) (Or.inr ⟨by rfl, rfl⟩) ?_ ?_
    rotate_left
    ·
     simp only [Act.put, List.setIfInBounds_toArray, List.set_cons_zero, List.set_cons_succ, i64_w, i32_w]
     rfl
    refine pure_ (i := 10) (N := some 20) (v := undef) (a' := ?_) #[true, true, true, true, true, true, true, true, true, true, true, false, false, false, false, false, false, false, false, false, false, false, false] rfl rfl (any_of HT_.out (by kernel_rfl)) (fun _ _ _ h => h) (Or.inr ⟨by rfl, rfl⟩) ?_ ?_
    rotate_left
    ·
     simp only [Act.put, List.setIfInBounds_toArray, List.set_cons_zero, List.set_cons_succ, i64_w, i32_w]
     rfl
    refine pure_ (i := 11) (N := some 21) (v := undef) (a' := ?_) #[true, true, true, true, true, true, true, true, true, true, true, true, false, false, false, false, false, false, false, false, false, false, false] rfl rfl (any_of HT_.out (by kernel_rfl)) (fun _ _ _ h => h) (Or.inr ⟨by rfl, rfl⟩) ?_ ?_
    rotate_left
    ·
     simp only [Act.put, List.setIfInBounds_toArray, List.set_cons_zero, List.set_cons_succ, i64_w, i32_w]
     rfl
    refine pure_ (i := 12) (N := some 22) (v := undef) (a' := ?_) #[true, true, true, true, true, true, true, true, true, true, true, true, true, false, false, false, false, false, false, false, false, false, false] rfl rfl (any_of HT_.out (by kernel_rfl)) (fun _ _ _ h => h) (Or.inr ⟨by rfl, rfl⟩) ?_ ?_
    rotate_left
    ·
     simp only [Act.put, List.setIfInBounds_toArray, List.set_cons_zero, List.set_cons_succ, i64_w, i32_w]
     rfl
    refine pure_ (i := 13) (N := some 23) (v := undef) (a' := ?_) #[true, true, true, true, true, true, true, true, true, true, true, true, true, true, false, false, false, false, false, false, false, false, false] rfl rfl (any_of HT_.out (by kernel_rfl)) (fun _ _ _ h => h) (Or.inr ⟨by rfl, rfl⟩) ?_ ?_
    rotate_left
    ·
     simp only [Act.put, List.setIfInBounds_toArray, List.set_cons_zero, List.set_cons_succ, i64_w, i32_w]
     rfl
    refine pure_ (i := 14) (N := some 24) (v := undef) (a' := ?_) #[true, true, true, true, true, true, true, true, true, true, true, true, true, true, true, false, false, false, false, false, false, false, false] rfl rfl (any_of HT_.out (by kernel_rfl)) (fun _ _ _ h => h) (Or.inr ⟨by rfl, rfl⟩) ?_ ?_
    rotate_left
    ·
     simp only [Act.put, List.setIfInBounds_toArray, List.set_cons_zero, List.set_cons_succ, i64_w, i32_w]
     rfl
    refine pure_ (i := 15) (N := some 25) (v := undef) (a' := ?_) #[true, true, true, true, true, true, true, true, true, true, true, true, true, true, true, true, false, false, false, false, false, false, false] rfl rfl (any_of HT_.out (by kernel_rfl)) (fun _ _ _ h => h) (Or.inr ⟨by rfl, rfl⟩) ?_ ?_
    rotate_left
    ·
     simp only [Act.put, List.setIfInBounds_toArray, List.set_cons_zero, List.set_cons_succ, i64_w, i32_w]
     rfl
    refine pure_ (i := 16) (N := some 26) (v := undef) (a' := ?_) #[true, true, true, true, true, true, true, true, true, true, true, true, true, true, true, true, true, false, false, false, false, false, false] rfl rfl (any_of HT_.out (by kernel_rfl)) (fun _ _ _ h => h) (Or.inr ⟨by rfl, rfl⟩) ?_ ?_
    rotate_left
    ·
     simp only [Act.put, List.setIfInBounds_toArray, List.set_cons_zero, List.set_cons_succ, i64_w, i32_w]
     rfl
    refine pure_ (i := 17) (N := some 27) (v := undef) (a' := ?_) #[true, true, true, true, true, true, true, true, true, true, true, true, true, true, true, true, true, true, false, false, false, false, false] rfl rfl (any_of HT_.out (by kernel_rfl)) (fun _ _ _ h => h) (Or.inr ⟨by rfl, rfl⟩) ?_ ?_
    rotate_left
    ·
     simp only [Act.put, List.setIfInBounds_toArray, List.set_cons_zero, List.set_cons_succ, i64_w, i32_w]
     rfl
    refine pure_ (i := 18) (N := some 28) (v := undef) (a' := ?_) #[true, true, true, true, true, true, true, true, true, true, true, true, true, true, true, true, true, true, true, false, false, false, false] rfl rfl (any_of HT_.out (by kernel_rfl)) (fun _ _ _ h => h) (Or.inr ⟨by rfl, rfl⟩) ?_ ?_
    rotate_left
    ·
     simp only [Act.put, List.setIfInBounds_toArray, List.set_cons_zero, List.set_cons_succ, i64_w, i32_w]
     rfl
    refine pure_ (i := 19) (N := some 29) (v := undef) (a' := ?_) #[true, true, true, true, true, true, true, true, true, true, true, true, true, true, true, true, true, true, true, true, false, false, false] rfl rfl (any_of HT_.out (by kernel_rfl)) (fun _ _ _ h => h) (Or.inr ⟨by rfl, rfl⟩) ?_ ?_
    rotate_left
    ·
     simp only [Act.put, List.setIfInBounds_toArray, List.set_cons_zero, List.set_cons_succ, i64_w, i32_w]
     rfl
    refine pure_ (i := 20) (N := some 30) (v := undef) (a' := ?_) #[true, true, true, true, true, true, true, true, true, true, true, true, true, true, true, true, true, true, true, true, true, false, false] rfl rfl (any_of HT_.out (by kernel_rfl)) (fun _ _ _ h => h) (Or.inr ⟨by rfl, rfl⟩) ?_ ?_
    rotate_left
    ·
     simp only [Act.put, List.setIfInBounds_toArray, List.set_cons_zero, List.set_cons_succ, i64_w, i32_w]
     rfl
    refine pure_ (i := 21) (N := some 31) (v := undef) (a' := ?_) #[true, true, true, true, true, true, true, true, true, true, true, true, true, true, true, true, true, true, true, true, true, true, false] rfl rfl (any_of HT_.out (by kernel_rfl)) (fun _ _ _ h => h) (Or.inr ⟨by rfl, rfl⟩) ?_ ?_
    rotate_left
    ·
     simp only [Act.put, List.setIfInBounds_toArray, List.set_cons_zero, List.set_cons_succ, i64_w, i32_w]
     rfl
    refine pu_ 22 (some 32) HT_ rfl rfl (by go_simp; rfl) (by kernel_rfl) rfl (by intro w'; go_simp; with_reducible rfl) (fun _ _ _ h => h) (by go_simp; rfl) ?_
    refine done_ (done_of HT_.out (by kernel_rfl)) ?_
    try go_wp2
    go_ret
    exact ⟨by first | rfl | (simp [errW_none, errW_some] <;> rfl) | (simp [*, errW_none, errW_some] <;> rfl), spec_l4Right_auHB⟩
   subst c5
   have H1 : (if x3_1 > 0 then (if 0 ≤ (wrap64 (x3_1 - 1)) then (if (wrap64 (x3_1 - 1)) < (l0.length : Int) then ((spec_EntryLess.f ((rd_T48 l0 (wrap64 (x3_1 - 1))).f0) ((rd_T48 l0 (wrap64 (x3_1 - 1))).f1) ((rd_T48 l0 (wrap64 (x3_1 - 1))).f2) ((rd_T48 l0 (wrap64 (x3_1 - 1))).f3) ((rd_T48 l0 (wrap64 (x3_1 - 1))).f4) ((rd_T48 l0 x3_1).f0) ((rd_T48 l0 x3_1).f1) ((rd_T48 l0 x3_1).f2) ((rd_T48 l0 x3_1).f3) ((rd_T48 l0 x3_1).f4)).bind fun t110 => (if t110 = true then (spec_l4Right.l0 k1 l0 (wrap64 (x3_1 + 1))) else (some false))) else (none)) else (none)) else (spec_l4Right.l0 k1 l0 (wrap64 (x3_1 + 1)))) = some r := by rw [if_pos rfl] at H; exact H
   clear H
   have H := H1
   clear H1
   by_cases c6 : x3_1 > 0
   rotate_left
   ·
    rw [if_neg c6] at H
    have c6b0 : decide (0 < x3_1) = false := decide_eq_false c6
    clear c6
    have H' := Aside0.mk H
    clear H
    try go_wp2
    replace HB := Aside0.mk (below_drew1 HB.out)
    have p106 : 0 ≤ (x3_1 : Int) := of_decide_eq_true (by first | (with_reducible assumption) | assumption)
    have q106 : x3_1 < (l0.length : Int) := of_decide_eq_true (by first | (with_reducible assumption) | assumption)
    obtain ⟨ad106, e106, hx106_0, hx106_1, hx106_2, hx106_3, hx106_4⟩ := at_T48 HR0.out x3_1 p106 q106
    have hw106_4 := hx106_4
    have hw106_3 := hx106_3
    have hw106_2 := hx106_2
    have hw106_1 := hx106_1
    have hw106_0 := hx106_0
    cases e106
    replace hx106_0 := (HB.out.cell (World.block_lt_of_cell? w _ hx106_0)).trans hx106_0
    replace hx106_1 := (HB.out.cell (World.block_lt_of_cell? w _ hx106_1)).trans hx106_1
    replace hx106_2 := (HB.out.cell (World.block_lt_of_cell? w _ hx106_2)).trans hx106_2
    replace hx106_3 := (HB.out.cell (World.block_lt_of_cell? w _ hx106_3)).trans hx106_3
    replace hx106_4 := (HB.out.cell (World.block_lt_of_cell? w _ hx106_4)).trans hx106_4
    replace p106 := eq_true p106
    replace q106 := eq_true q106
    refine start_ (n := 23) (S := fun w' => w'.cell? (ad106.add ((x3_1).toNat * 5)) = some (.string ((rd_T48 l0 x3_1).f0)) ∧ w'.cell? ⟨(ad106.add ((x3_1).toNat * 5)).block, (ad106.add ((x3_1).toNat * 5)).off + 1, none⟩ = some (.int .i64 ((rd_T48 l0 x3_1).f1)) ∧ w'.cell? ⟨(ad106.add ((x3_1).toNat * 5)).block, (ad106.add ((x3_1).toNat * 5)).off + 2, none⟩ = some (.int .i64 ((rd_T48 l0 x3_1).f2)) ∧ w'.cell? ⟨(ad106.add ((x3_1).toNat * 5)).block, (ad106.add ((x3_1).toNat * 5)).off + 3, none⟩ = some (.string ((rd_T48 l0 x3_1).f3)) ∧ w'.cell? ⟨(ad106.add ((x3_1).toNat * 5)).block, (ad106.add ((x3_1).toNat * 5)).off + 4, none⟩ = some (.int .i64 ((rd_T48 l0 x3_1).f4))) (ds := []) #[false, false, false, false, false, false, false, false, false, false, false, false, false, false, false, false, false, false, false, false, false, false, false] (by kernel_rfl) rfl rfl ⟨((HB.out.cell (World.block_lt_of_cell? w _ hw106_0)).trans hw106_0), ((HB.out.cell (World.block_lt_of_cell? w _ hw106_1)).trans hw106_1), ((HB.out.cell (World.block_lt_of_cell? w _ hw106_2)).trans hw106_2), ((HB.out.cell (World.block_lt_of_cell? w _ hw106_3)).trans hw106_3), ((HB.out.cell (World.block_lt_of_cell? w _ hw106_4)).trans hw106_4)⟩ (fun hHeld => ?_); refine with_tabW spec_l4Right.tab4 spec_l4Right.bits4 (fun HT_ HW_ => ?_)
    generalize wr.drew = w18 at HB hx106_0 hx106_1 hx106_2 hx106_3 hx106_4 hHeld ⊢
    refine pu_ 0 (some 10) HT_ rfl rfl (by go_simp; rfl) (by kernel_rfl) rfl (by intro w'; go_simp; with_reducible rfl) (fun _ _ _ h => h) (by go_simp; rfl) ?_
    refine pu_ 1 (some 11) HT_ rfl rfl (by go_simp; rfl) (by kernel_rfl) rfl (by intro w'; go_simp; with_reducible rfl) (fun _ _ _ h => h) (by go_simp; rfl) ?_
    refine pu_ 2 (some 12) HT_ rfl rfl (by go_simp; rfl) (by kernel_rfl) rfl (by intro w'; go_simp; with_reducible rfl) (fun _ _ _ h => h) (by go_simp; rfl) ?_
    refine ta_ 3 (some 13) HT_ HW_ hHeld rfl rfl (by go_simp; rfl) (by kernel_rfl) rfl (by rintro w' ⟨s0, s1, s2, s3, s4⟩; go_simp; with_reducible rfl) (fun _ _ _ h => h) (by go_simp; rfl) ?_
    refine one_ (i := 4) (N := some 14) #[true, true, true, true, true, false, false, false, false, false, false, false, false, false, false, false, false, false, false, false, false, false, false] rfl rfl (one_of HT_.out (by kernel_rfl)) (by decide) (fun K hK => ?_)
    refine goes_ Try.func57 (by kernel_rfl) rfl #[.agg #[.string ((rd_T48 l0 x3_1).f0), .int .i64 ((rd_T48 l0 x3_1).f1), .int .i64 ((rd_T48 l0 x3_1).f2), .string ((rd_T48 l0 x3_1).f3), .int .i64 ((rd_T48 l0 x3_1).f4)]] (by rfl) rfl rfl (by (try simp only [List.map_toArray, List.map_cons, List.map_nil]); first | done | rfl | (simp only [List.length_drop, List.length_take]; rfl)) ?_
    with_reducible refine (spec_EntryOk.calls k1 ((rd_T48 l0 x3_1).f0) ((rd_T48 l0 x3_1).f1) ((rd_T48 l0 x3_1).f2) ((rd_T48 l0 x3_1).f3) ((rd_T48 l0 x3_1).f4) true _ A4.out).mono ?_
    rintro e w19 ⟨rfl, hb⟩
    refine ⟨_, rfl, ?_⟩
    replace HB := Aside0.mk (below_step (spec_l4Right_auHB) hb)
    (try clear hb)
    (try clear hb2)
    (try clear hk)
    (try clear hi)
    refine hK.out _ _ ⟨((HB.out.cell (World.block_lt_of_cell? w _ hw106_0)).trans hw106_0), ((HB.out.cell (World.block_lt_of_cell? w _ hw106_1)).trans hw106_1), ((HB.out.cell (World.block_lt_of_cell? w _ hw106_2)).trans hw106_2), ((HB.out.cell (World.block_lt_of_cell? w _ hw106_3)).trans hw106_3), ((HB.out.cell (World.block_lt_of_cell? w _ hw106_4)).trans hw106_4)⟩ (fun hHeld => ?_)
    clear hK K
    refine norm_ (a' := ?_) ?_ ?_
    rotate_left
    ·
     show Act.put _ (some 14) _ = _
     simp only [Act.put, List.setIfInBounds_toArray, List.set_cons_zero, List.set_cons_succ, i64_w, i32_w]
     rfl
    refine pu_ 5 (some 15) HT_ rfl rfl (by go_simp; rfl) (by kernel_rfl) rfl (by intro w'; go_simp; with_reducible rfl) (fun _ _ _ h => h) (by go_simp; rfl) ?_
    refine pu_ 6 (some 16) HT_ rfl rfl (by go_simp; rfl) (by kernel_rfl) rfl (by intro w'; go_simp; with_reducible rfl) (fun _ _ _ h => h) (by go_simp; rfl) ?_
    refine pu_ 7 (some 17) HT_ rfl rfl (by go_simp; rfl) (by kernel_rfl) rfl (by intro w'; go_simp; with_reducible rfl) (fun _ _ _ h => h) (by go_simp; rfl) ?_
    refine pu_ 8 (some 18) HT_ rfl rfl (by go_simp; rfl) (by kernel_rfl) rfl (by intro w'; go_simp; with_reducible rfl) (fun _ _ _ h => h) (by go_simp; rfl) ?_
    refine pu_ 9 (some 19) HT_ rfl rfl (by go_simp; rfl) (by kernel_rfl) rfl (by intro w'; go_simp; with_reducible rfl) (fun _ _ _ h => h) (by go_simp; rfl) ?_
    refine pure_ (i := 10) (N := some 20) (v := undef) (a' := ?_) #[true, true, true, true, true, true, true, true, true, true, true, false, false, false, false, false, false, false, false, false, false, false, false] rfl rfl (any_of HT_.out (by kernel_rfl)) (fun _ _ _ h => h) (Or.inr ⟨by rfl, rfl⟩) ?_ ?_
    rotate_left
    ·
     simp only [Act.put, List.setIfInBounds_toArray, List.set_cons_zero, List.set_cons_succ, i64_w, i32_w]
     rfl
    refine pure_ (i := 11) (N := some 21) (v := undef) (a' := ?_) #[true, true, true, true, true, true, true, true, true, true, true, true, false, false, false, false, false, false, false, false, false, false, false] rfl rfl (any_of HT_.out (by kernel_rfl)) (fun _ _ _ h => h) (Or.inr ⟨by rfl, rfl⟩) ?_ ?_
    rotate_left
    ·
     simp only [Act.put, List.setIfInBounds_toArray, List.set_cons_zero, List.set_cons_succ, i64_w, i32_w]
     rfl
    refine pure_ (i := 12) (N := some 22) (v := undef) (a' := ?_) #[true, true, true, true, true, true, true, true, true, true, true, true, true, false, false, false, false, false, false, false, false, false, false] rfl rfl (any_of HT_.out (by kernel_rfl)) (fun _ _ _ h => h) (Or.inr ⟨by rfl, rfl⟩) ?_ ?_
    rotate_left
    ·
     simp only [Act.put, List.setIfInBounds_toArray, List.set_cons_zero, List.set_cons_succ, i64_w, i32_w]
     rfl
    refine pure_ (i := 13) (N := some 23) (v := undef) (a' := ?_) #[true, true, true, true, true, true, true, true, true, true, true, true, true, true, false, false, false, false, false, false, false, false, false] rfl rfl (any_of HT_.out (by kernel_rfl)) (fun _ _ _ h => h) (Or.inr ⟨by rfl, rfl⟩) ?_ ?_
    rotate_left
    ·
     simp only [Act.put, List.setIfInBounds_toArray, List.set_cons_zero, List.set_cons_succ, i64_w, i32_w]
     rfl
    refine pure_ (i := 14) (N := some 24) (v := undef) (a' := ?_) #[true, true, true, true, true, true, true, true, true, true, true, true, true, true, true, false, false, false, false, false, false, false, false] rfl rfl (any_of HT_.out (by kernel_rfl)) (fun _ _ _ h => h) (Or.inr ⟨by rfl, rfl⟩) ?_ ?_
    rotate_left
    ·
     simp only [Act.put, List.setIfInBounds_toArray, List.set_cons_zero, List.set_cons_succ, i64_w, i32_w]
     rfl
    refine pure_ (i := 15) (N := some 25) (v := undef) (a' := ?_) #[true, true, true, true, true, true, true, true, true, true, true, true, true, true, true, true, false, false, false, false, false, false, false] rfl rfl (any_of HT_.out (by kernel_rfl)) (fun _ _ _ h => h) (Or.inr ⟨by rfl, rfl⟩) ?_ ?_
    rotate_left
    ·
     simp only [Act.put, List.setIfInBounds_toArray, List.set_cons_zero, List.set_cons_succ, i64_w, i32_w]
     rfl
    refine pure_ (i := 16) (N := some 26) (v := undef) (a' := ?_) #[true, true, true, true, true, true, true, true, true, true, true, true, true, true, true, true, true, false, false, false, false, false, false] rfl rfl (any_of HT_.out (by kernel_rfl)) (fun _ _ _ h => h) (Or.inr ⟨by rfl, rfl⟩) ?_ ?_
    rotate_left
    ·
     simp only [Act.put, List.setIfInBounds_toArray, List.set_cons_zero, List.set_cons_succ, i64_w, i32_w]
     rfl
    refine pure_ (i := 17) (N := some 27) (v := undef) (a' := ?_) #[true, true, true, true, true, true, true, true, true, true, true, true, true, true, true, true, true, true, false, false, false, false, false] rfl rfl (any_of HT_.out (by kernel_rfl)) (fun _ _ _ h => h) (Or.inr ⟨by rfl, rfl⟩) ?_ ?_
    rotate_left
    ·
     simp only [Act.put, List.setIfInBounds_toArray, List.set_cons_zero, List.set_cons_succ, i64_w, i32_w]
     rfl
    refine pure_ (i := 18) (N := some 28) (v := undef) (a' := ?_) #[true, true, true, true, true, true, true, true, true, true, true, true, true, true, true, true, true, true, true, false, false, false, false] rfl rfl (any_of HT_.out (by kernel_rfl)) (fun _ _ _ h => h) (Or.inr ⟨by rfl, rfl⟩) ?_ ?_
    rotate_left
    ·
     simp only [Act.put, List.setIfInBounds_toArray, List.set_cons_zero, List.set_cons_succ, i64_w, i32_w]
     rfl
    refine pure_ (i := 19) (N := some 29) (v := undef) (a' := ?_) #[true, true, true, true, true, true, true, true, true, true, true, true, true, true, true, true, true, true, true, true, false, false, false] rfl rfl (any_of HT_.out (by kernel_rfl)) (fun _ _ _ h => h) (Or.inr ⟨by rfl, rfl⟩) ?_ ?_
    rotate_left
    ·
     simp only [Act.put, List.setIfInBounds_toArray, List.set_cons_zero, List.set_cons_succ, i64_w, i32_w]
     rfl
    refine pure_ (i := 20) (N := some 30) (v := undef) (a' := ?_) #[true, true, true, true, true, true, true, true, true, true, true, true, true, true, true, true, true, true, true, true, true, false, false] rfl rfl (any_of HT_.out (by kernel_rfl)) (fun _ _ _ h => h) (Or.inr ⟨by rfl, rfl⟩) ?_ ?_
    rotate_left
    ·
     simp only [Act.put, List.setIfInBounds_toArray, List.set_cons_zero, List.set_cons_succ, i64_w, i32_w]
     rfl
    refine pu_ 21 (some 31) HT_ rfl rfl (by go_simp; rfl) (by kernel_rfl) rfl (by intro w'; go_simp; with_reducible rfl) (fun _ _ _ h => h) (by go_simp; rfl) ?_
    refine pu_ 22 (some 32) HT_ rfl rfl (by go_simp; rfl) (by kernel_rfl) rfl (by intro w'; go_simp; with_reducible rfl) (fun _ _ _ h => h) (by go_simp; rfl) ?_
    refine done_ (done_of HT_.out (by kernel_rfl)) ?_
    try go_wp2
    go_roundg k1
    case measure => have := HK1.out; omega
    case rel => exact ⟨(wrap64 (x3_1 + 1)), (by first | rfl | (simp; done) | (simp [*]; done)), H', ⟨by have := HK1.out; omega⟩, ⟨spec_l4Right_auHB⟩⟩
   rw [if_pos c6] at H
   have c6b0 : decide (0 < x3_1) = true := decide_eq_true c6
   clear c6
   obtain ⟨ji7, hji7⟩ : ∃ j_ : Int, (wrap64 (x3_1 - 1)) = j_ := ⟨_, rfl⟩
   replace H : (if 0 ≤ (ji7) then (if (ji7) < (l0.length : Int) then ((spec_EntryLess.f ((rd_T48 l0 (ji7)).f0) ((rd_T48 l0 (ji7)).f1) ((rd_T48 l0 (ji7)).f2) ((rd_T48 l0 (ji7)).f3) ((rd_T48 l0 (ji7)).f4) ((rd_T48 l0 x3_1).f0) ((rd_T48 l0 x3_1).f1) ((rd_T48 l0 x3_1).f2) ((rd_T48 l0 x3_1).f3) ((rd_T48 l0 x3_1).f4)).bind fun t110 => (if t110 = true then (spec_l4Right.l0 k1 l0 (wrap64 (x3_1 + 1))) else (some false))) else (none)) else (none)) = some r := by first | (rw [hji7] at H; exact H) | (simp only [hji7] at H ⊢; exact H)
   (try rw [hji7] at A4)
   have hji7w : (IntKind.i64.wrap (x3_1 - 1)) = ji7 := (i64_w _).trans hji7
   by_cases c8 : 0 ≤ (ji7)
   rotate_left
   ·
    rw [if_neg c8] at H
    exact absurd H (by simp)
   rw [if_pos c8] at H
   have c8b0 : decide (0 ≤ (ji7)) = true := decide_eq_true c8
   clear c8
   by_cases c9 : (ji7) < (l0.length : Int)
   rotate_left
   ·
    rw [if_neg c9] at H
    exact absurd H (by simp)
   rw [if_pos c9] at H
   have c9b0 : decide ((ji7) < (l0.length : Int)) = true := decide_eq_true c9
   clear c9
   replace H := Option.bind_eq_some_iff.mp H
   obtain ⟨t110, A100, H⟩ := H
   replace H : (if t110 = true then (spec_l4Right.l0 k1 l0 (wrap64 (x3_1 + 1))) else (some false)) = some r := H
   have A10 := Aside0.mk A100
   clear A100
   by_cases c11 : t110 = true
   ·
    subst c11
    have H1 : (spec_l4Right.l0 k1 l0 (wrap64 (x3_1 + 1))) = some r := by rw [if_pos rfl] at H; exact H
    clear H
    have H := H1
    clear H1
    have H' := Aside0.mk H
    clear H
    try go_wp2
    replace HB := Aside0.mk (below_drew1 HB.out)
    have p106 : 0 ≤ (x3_1 : Int) := of_decide_eq_true (by first | (with_reducible assumption) | assumption)
    have q106 : x3_1 < (l0.length : Int) := of_decide_eq_true (by first | (with_reducible assumption) | assumption)
    obtain ⟨ad106, e106, hx106_0, hx106_1, hx106_2, hx106_3, hx106_4⟩ := at_T48 HR0.out x3_1 p106 q106
    have hw106_4 := hx106_4
    have hw106_3 := hx106_3
    have hw106_2 := hx106_2
    have hw106_1 := hx106_1
    have hw106_0 := hx106_0
    cases e106
    replace hx106_0 := (HB.out.cell (World.block_lt_of_cell? w _ hx106_0)).trans hx106_0
    replace hx106_1 := (HB.out.cell (World.block_lt_of_cell? w _ hx106_1)).trans hx106_1
    replace hx106_2 := (HB.out.cell (World.block_lt_of_cell? w _ hx106_2)).trans hx106_2
    replace hx106_3 := (HB.out.cell (World.block_lt_of_cell? w _ hx106_3)).trans hx106_3
    replace hx106_4 := (HB.out.cell (World.block_lt_of_cell? w _ hx106_4)).trans hx106_4
    replace p106 := eq_true p106
    replace q106 := eq_true q106
    have p108 : 0 ≤ ((ji7) : Int) := of_decide_eq_true (by first | (with_reducible assumption) | assumption)
    have q108 : (ji7) < (l0.length : Int) := of_decide_eq_true (by first | (with_reducible assumption) | assumption)
    obtain ⟨ad108, e108, hx108_0, hx108_1, hx108_2, hx108_3, hx108_4⟩ := at_T48 HR0.out (ji7) p108 q108
    have hw108_4 := hx108_4
    have hw108_3 := hx108_3
    have hw108_2 := hx108_2
    have hw108_1 := hx108_1
    have hw108_0 := hx108_0
    obtain rfl : ad106 = ad108 := (by injection e108)
    replace hx108_0 := (HB.out.cell (World.block_lt_of_cell? w _ hx108_0)).trans hx108_0
    replace hx108_1 := (HB.out.cell (World.block_lt_of_cell? w _ hx108_1)).trans hx108_1
    replace hx108_2 := (HB.out.cell (World.block_lt_of_cell? w _ hx108_2)).trans hx108_2
    replace hx108_3 := (HB.out.cell (World.block_lt_of_cell? w _ hx108_3)).trans hx108_3
    replace hx108_4 := (HB.out.cell (World.block_lt_of_cell? w _ hx108_4)).trans hx108_4
    replace p108 := eq_true p108
    replace q108 := eq_true q108
    have p109 : 0 ≤ (x3_1 : Int) := of_decide_eq_true (by first | (with_reducible assumption) | assumption)
    have q109 : x3_1 < (l0.length : Int) := of_decide_eq_true (by first | (with_reducible assumption) | assumption)
    obtain ⟨ad109, e109, hx109_0, hx109_1, hx109_2, hx109_3, hx109_4⟩ := at_T48 HR0.out x3_1 p109 q109
    have hw109_4 := hx109_4
    have hw109_3 := hx109_3
    have hw109_2 := hx109_2
    have hw109_1 := hx109_1
    have hw109_0 := hx109_0
    obtain rfl : ad106 = ad109 := (by injection e109)
    replace hx109_0 := (HB.out.cell (World.block_lt_of_cell? w _ hx109_0)).trans hx109_0
    replace hx109_1 := (HB.out.cell (World.block_lt_of_cell? w _ hx109_1)).trans hx109_1
    replace hx109_2 := (HB.out.cell (World.block_lt_of_cell? w _ hx109_2)).trans hx109_2
    replace hx109_3 := (HB.out.cell (World.block_lt_of_cell? w _ hx109_3)).trans hx109_3
    replace hx109_4 := (HB.out.cell (World.block_lt_of_cell? w _ hx109_4)).trans hx109_4
    replace p109 := eq_true p109
    replace q109 := eq_true q109
    refine start_ (n := 23) (S := fun w' => w'.cell? (ad106.add ((x3_1).toNat * 5)) = some (.string ((rd_T48 l0 x3_1).f0)) ∧ w'.cell? ⟨(ad106.add ((x3_1).toNat * 5)).block, (ad106.add ((x3_1).toNat * 5)).off + 1, none⟩ = some (.int .i64 ((rd_T48 l0 x3_1).f1)) ∧ w'.cell? ⟨(ad106.add ((x3_1).toNat * 5)).block, (ad106.add ((x3_1).toNat * 5)).off + 2, none⟩ = some (.int .i64 ((rd_T48 l0 x3_1).f2)) ∧ w'.cell? ⟨(ad106.add ((x3_1).toNat * 5)).block, (ad106.add ((x3_1).toNat * 5)).off + 3, none⟩ = some (.string ((rd_T48 l0 x3_1).f3)) ∧ w'.cell? ⟨(ad106.add ((x3_1).toNat * 5)).block, (ad106.add ((x3_1).toNat * 5)).off + 4, none⟩ = some (.int .i64 ((rd_T48 l0 x3_1).f4)) ∧ w'.cell? (ad106.add (((ji7)).toNat * 5)) = some (.string ((rd_T48 l0 (ji7)).f0)) ∧ w'.cell? ⟨(ad106.add (((ji7)).toNat * 5)).block, (ad106.add (((ji7)).toNat * 5)).off + 1, none⟩ = some (.int .i64 ((rd_T48 l0 (ji7)).f1)) ∧ w'.cell? ⟨(ad106.add (((ji7)).toNat * 5)).block, (ad106.add (((ji7)).toNat * 5)).off + 2, none⟩ = some (.int .i64 ((rd_T48 l0 (ji7)).f2)) ∧ w'.cell? ⟨(ad106.add (((ji7)).toNat * 5)).block, (ad106.add (((ji7)).toNat * 5)).off + 3, none⟩ = some (.string ((rd_T48 l0 (ji7)).f3)) ∧ w'.cell? ⟨(ad106.add (((ji7)).toNat * 5)).block, (ad106.add (((ji7)).toNat * 5)).off + 4, none⟩ = some (.int .i64 ((rd_T48 l0 (ji7)).f4)) ∧ w'.cell? (ad106.add ((x3_1).toNat * 5)) = some (.string ((rd_T48 l0 x3_1).f0)) ∧ w'.cell? ⟨(ad106.add ((x3_1).toNat * 5)).block, (ad106.add ((x3_1).toNat * 5)).off + 1, none⟩ = some (.int .i64 ((rd_T48 l0 x3_1).f1)) ∧ w'.cell? ⟨(ad106.add ((x3_1).toNat * 5)).block, (ad106.add ((x3_1).toNat * 5)).off + 2, none⟩ = some (.int .i64 ((rd_T48 l0 x3_1).f2)) ∧ w'.cell? ⟨(ad106.add ((x3_1).toNat * 5)).block, (ad106.add ((x3_1).toNat * 5)).off + 3, none⟩ = some (.string ((rd_T48 l0 x3_1).f3)) ∧ w'.cell? ⟨(ad106.add ((x3_1).toNat * 5)).block, (ad106.add ((x3_1).toNat * 5)).off + 4, none⟩ = some (.int .i64 ((rd_T48 l0 x3_1).f4))) (ds := []) #[false, false, false, false, false, false, false, false, false, false, false, false, false, false, false, false, false, false, false, false, false, false, false] (by kernel_rfl) rfl rfl ⟨((HB.out.cell (World.block_lt_of_cell? w _ hw106_0)).trans hw106_0), ((HB.out.cell (World.block_lt_of_cell? w _ hw106_1)).trans hw106_1), ((HB.out.cell (World.block_lt_of_cell? w _ hw106_2)).trans hw106_2), ((HB.out.cell (World.block_lt_of_cell? w _ hw106_3)).trans hw106_3), ((HB.out.cell (World.block_lt_of_cell? w _ hw106_4)).trans hw106_4), ((HB.out.cell (World.block_lt_of_cell? w _ hw108_0)).trans hw108_0), ((HB.out.cell (World.block_lt_of_cell? w _ hw108_1)).trans hw108_1), ((HB.out.cell (World.block_lt_of_cell? w _ hw108_2)).trans hw108_2), ((HB.out.cell (World.block_lt_of_cell? w _ hw108_3)).trans hw108_3), ((HB.out.cell (World.block_lt_of_cell? w _ hw108_4)).trans hw108_4), ((HB.out.cell (World.block_lt_of_cell? w _ hw109_0)).trans hw109_0), ((HB.out.cell (World.block_lt_of_cell? w _ hw109_1)).trans hw109_1), ((HB.out.cell (World.block_lt_of_cell? w _ hw109_2)).trans hw109_2), ((HB.out.cell (World.block_lt_of_cell? w _ hw109_3)).trans hw109_3), ((HB.out.cell (World.block_lt_of_cell? w _ hw109_4)).trans hw109_4)⟩ (fun hHeld => ?_); refine with_tabW spec_l4Right.tab4 spec_l4Right.bits4 (fun HT_ HW_ => ?_)
    generalize wr.drew = w12 at HB hx106_0 hx106_1 hx106_2 hx106_3 hx106_4 hx108_0 hx108_1 hx108_2 hx108_3 hx108_4 hx109_0 hx109_1 hx109_2 hx109_3 hx109_4 hHeld ⊢
    refine pu_ 0 (some 10) HT_ rfl rfl (by go_simp; rfl) (by kernel_rfl) rfl (by intro w'; go_simp; with_reducible rfl) (fun _ _ _ h => h) (by go_simp; rfl) ?_
    refine pu_ 1 (some 11) HT_ rfl rfl (by go_simp; rfl) (by kernel_rfl) rfl (by intro w'; go_simp; with_reducible rfl) (fun _ _ _ h => h) (by go_simp; rfl) ?_
    refine pu_ 2 (some 12) HT_ rfl rfl (by go_simp; rfl) (by kernel_rfl) rfl (by intro w'; go_simp; with_reducible rfl) (fun _ _ _ h => h) (by go_simp; rfl) ?_
    refine ta_ 3 (some 13) HT_ HW_ hHeld rfl rfl (by go_simp; rfl) (by kernel_rfl) rfl (by rintro w' ⟨s0, s1, s2, s3, s4, s5, s6, s7, s8, s9, s10, s11, s12, s13, s14⟩; go_simp; with_reducible rfl) (fun _ _ _ h => h) (by go_simp; rfl) ?_
    refine one_ (i := 4) (N := some 14) #[true, true, true, true, true, false, false, false, false, false, false, false, false, false, false, false, false, false, false, false, false, false, false] rfl rfl (one_of HT_.out (by kernel_rfl)) (by decide) (fun K hK => ?_)
    refine goes_ Try.func57 (by kernel_rfl) rfl #[.agg #[.string ((rd_T48 l0 x3_1).f0), .int .i64 ((rd_T48 l0 x3_1).f1), .int .i64 ((rd_T48 l0 x3_1).f2), .string ((rd_T48 l0 x3_1).f3), .int .i64 ((rd_T48 l0 x3_1).f4)]] (by rfl) rfl rfl (by (try simp only [List.map_toArray, List.map_cons, List.map_nil]); first | done | rfl | (simp only [List.length_drop, List.length_take]; rfl)) ?_
    with_reducible refine (spec_EntryOk.calls k1 ((rd_T48 l0 x3_1).f0) ((rd_T48 l0 x3_1).f1) ((rd_T48 l0 x3_1).f2) ((rd_T48 l0 x3_1).f3) ((rd_T48 l0 x3_1).f4) true _ A4.out).mono ?_
    rintro e w13 ⟨rfl, hb⟩
    refine ⟨_, rfl, ?_⟩
    replace HB := Aside0.mk (below_step (spec_l4Right_auHB) hb)
    (try clear hb)
    (try clear hb2)
    (try clear hk)
    (try clear hi)
    refine hK.out _ _ ⟨((HB.out.cell (World.block_lt_of_cell? w _ hw106_0)).trans hw106_0), ((HB.out.cell (World.block_lt_of_cell? w _ hw106_1)).trans hw106_1), ((HB.out.cell (World.block_lt_of_cell? w _ hw106_2)).trans hw106_2), ((HB.out.cell (World.block_lt_of_cell? w _ hw106_3)).trans hw106_3), ((HB.out.cell (World.block_lt_of_cell? w _ hw106_4)).trans hw106_4), ((HB.out.cell (World.block_lt_of_cell? w _ hw108_0)).trans hw108_0), ((HB.out.cell (World.block_lt_of_cell? w _ hw108_1)).trans hw108_1), ((HB.out.cell (World.block_lt_of_cell? w _ hw108_2)).trans hw108_2), ((HB.out.cell (World.block_lt_of_cell? w _ hw108_3)).trans hw108_3), ((HB.out.cell (World.block_lt_of_cell? w _ hw108_4)).trans hw108_4), ((HB.out.cell (World.block_lt_of_cell? w _ hw109_0)).trans hw109_0), ((HB.out.cell (World.block_lt_of_cell? w _ hw109_1)).trans hw109_1), ((HB.out.cell (World.block_lt_of_cell? w _ hw109_2)).trans hw109_2), ((HB.out.cell (World.block_lt_of_cell? w _ hw109_3)).trans hw109_3), ((HB.out.cell (World.block_lt_of_cell? w _ hw109_4)).trans hw109_4)⟩ (fun hHeld => ?_)
    clear hK K
    refine norm_ (a' := ?_) ?_ ?_
    rotate_left
    ·
     show Act.put _ (some 14) _ = _
     simp only [Act.put, List.setIfInBounds_toArray, List.set_cons_zero, List.set_cons_succ, i64_w, i32_w]
     rfl
    refine pu_ 5 (some 15) HT_ rfl rfl (by go_simp; rfl) (by kernel_rfl) rfl (by intro w'; go_simp; with_reducible rfl) (fun _ _ _ h => h) (by go_simp; rfl) ?_
    refine pu_ 6 (some 16) HT_ rfl rfl (by go_simp; rfl) (by kernel_rfl) rfl (by intro w'; go_simp; with_reducible rfl) (fun _ _ _ h => h) (by go_simp; rfl) ?_
    refine pu_ 7 (some 17) HT_ rfl rfl (by go_simp; rfl) (by kernel_rfl) rfl (by intro w'; go_simp; with_reducible rfl) (fun _ _ _ h => h) (by go_simp; rfl) ?_
    refine pu_ 8 (some 18) HT_ rfl rfl (by go_simp; rfl) (by kernel_rfl) rfl (by intro w'; go_simp; with_reducible rfl) (fun _ _ _ h => h) (by go_simp; rfl) ?_
    refine pu_ 9 (some 19) HT_ rfl rfl (by go_simp; rfl) (by kernel_rfl) rfl (by intro w'; go_simp; with_reducible rfl) (fun _ _ _ h => h) (by go_simp; rfl) ?_
    refine pu_ 10 (some 20) HT_ rfl rfl (by go_simp; rfl) (by kernel_rfl) rfl (by intro w'; go_simp; with_reducible rfl) (fun _ _ _ h => h) (by go_simp; rfl) ?_
    refine pu_ 11 (some 21) HT_ rfl rfl (by go_simp; rfl) (by kernel_rfl) rfl (by intro w'; go_simp; with_reducible rfl) (fun _ _ _ h => h) (by go_simp; rfl) ?_
    refine pu_ 12 (some 22) HT_ rfl rfl (by go_simp; rfl) (by kernel_rfl) rfl (by intro w'; go_simp; with_reducible rfl) (fun _ _ _ h => h) (by go_simp; rfl) ?_
    refine pu_ 13 (some 23) HT_ rfl rfl (by go_simp; rfl) (by kernel_rfl) rfl (by intro w'; go_simp; with_reducible rfl) (fun _ _ _ h => h) (by go_simp; rfl) ?_
    refine pu_ 15 (some 25) HT_ rfl rfl (by go_simp; rfl) (by kernel_rfl) rfl (by intro w'; go_simp; with_reducible rfl) (fun _ _ _ h => h) (by go_simp; rfl) ?_
    refine pu_ 16 (some 26) HT_ rfl rfl (by go_simp; rfl) (by kernel_rfl) rfl (by intro w'; go_simp; with_reducible rfl) (fun _ _ _ h => h) (by go_simp; rfl) ?_
    refine pu_ 17 (some 27) HT_ rfl rfl (by go_simp; rfl) (by kernel_rfl) rfl (by intro w'; go_simp; with_reducible rfl) (fun _ _ _ h => h) (by go_simp; rfl) ?_
    refine ta_ 14 (some 24) HT_ HW_ hHeld rfl rfl (by go_simp; rfl) (by kernel_rfl) rfl (by rintro w' ⟨s0, s1, s2, s3, s4, s5, s6, s7, s8, s9, s10, s11, s12, s13, s14⟩; go_simp; with_reducible rfl) (fun _ _ _ h => h) (by go_simp; rfl) ?_
    refine ta_ 18 (some 28) HT_ HW_ hHeld rfl rfl (by go_simp; rfl) (by kernel_rfl) rfl (by rintro w' ⟨s0, s1, s2, s3, s4, s5, s6, s7, s8, s9, s10, s11, s12, s13, s14⟩; go_simp; with_reducible rfl) (fun _ _ _ h => h) (by go_simp; rfl) ?_
    refine one_ (i := 19) (N := some 29) #[true, true, true, true, true, true, true, true, true, true, true, true, true, true, true, true, true, true, true, true, false, false, false] rfl rfl (one_of HT_.out (by kernel_rfl)) (by decide) (fun K hK => ?_)
    refine goes_ Try.func58 (by kernel_rfl) rfl #[.agg #[.string ((rd_T48 l0 (ji7)).f0), .int .i64 ((rd_T48 l0 (ji7)).f1), .int .i64 ((rd_T48 l0 (ji7)).f2), .string ((rd_T48 l0 (ji7)).f3), .int .i64 ((rd_T48 l0 (ji7)).f4)], .agg #[.string ((rd_T48 l0 x3_1).f0), .int .i64 ((rd_T48 l0 x3_1).f1), .int .i64 ((rd_T48 l0 x3_1).f2), .string ((rd_T48 l0 x3_1).f3), .int .i64 ((rd_T48 l0 x3_1).f4)]] (by rfl) rfl rfl (by (try simp only [List.map_toArray, List.map_cons, List.map_nil]); first | done | (simp only [hji7]; rfl) | rfl | (simp only [List.length_drop, List.length_take]; rfl)) ?_
    with_reducible refine (spec_EntryLess.calls ((rd_T48 l0 (ji7)).f0) ((rd_T48 l0 (ji7)).f1) ((rd_T48 l0 (ji7)).f2) ((rd_T48 l0 (ji7)).f3) ((rd_T48 l0 (ji7)).f4) ((rd_T48 l0 x3_1).f0) ((rd_T48 l0 x3_1).f1) ((rd_T48 l0 x3_1).f2) ((rd_T48 l0 x3_1).f3) ((rd_T48 l0 x3_1).f4) true _ A10.out).mono ?_
    rintro e w14 ⟨rfl, hb⟩
    refine ⟨_, rfl, ?_⟩
    replace HB := Aside0.mk (below_step (spec_l4Right_auHB) hb)
    (try clear hb)
    (try clear hb2)
    (try clear hk)
    (try clear hi)
    refine hK.out _ _ ⟨((HB.out.cell (World.block_lt_of_cell? w _ hw106_0)).trans hw106_0), ((HB.out.cell (World.block_lt_of_cell? w _ hw106_1)).trans hw106_1), ((HB.out.cell (World.block_lt_of_cell? w _ hw106_2)).trans hw106_2), ((HB.out.cell (World.block_lt_of_cell? w _ hw106_3)).trans hw106_3), ((HB.out.cell (World.block_lt_of_cell? w _ hw106_4)).trans hw106_4), ((HB.out.cell (World.block_lt_of_cell? w _ hw108_0)).trans hw108_0), ((HB.out.cell (World.block_lt_of_cell? w _ hw108_1)).trans hw108_1), ((HB.out.cell (World.block_lt_of_cell? w _ hw108_2)).trans hw108_2), ((HB.out.cell (World.block_lt_of_cell? w _ hw108_3)).trans hw108_3), ((HB.out.cell (World.block_lt_of_cell? w _ hw108_4)).trans hw108_4), ((HB.out.cell (World.block_lt_of_cell? w _ hw109_0)).trans hw109_0), ((HB.out.cell (World.block_lt_of_cell? w _ hw109_1)).trans hw109_1), ((HB.out.cell (World.block_lt_of_cell? w _ hw109_2)).trans hw109_2), ((HB.out.cell (World.block_lt_of_cell? w _ hw109_3)).trans hw109_3), ((HB.out.cell (World.block_lt_of_cell? w _ hw109_4)).trans hw109_4)⟩ (fun hHeld => ?_)
    clear hK K
    refine norm_ (a' := ?_) ?_ ?_
    rotate_left
    ·
     show Act.put _ (some 29) _ = _
     simp only [Act.put, List.setIfInBounds_toArray, List.set_cons_zero, List.set_cons_succ, i64_w, i32_w]
     rfl
    refine pu_ 20 (some 30) HT_ rfl rfl (by go_simp; rfl) (by kernel_rfl) rfl (by intro w'; go_simp; with_reducible rfl) (fun _ _ _ h => h) (by go_simp; rfl) ?_
    refine pu_ 21 (some 31) HT_ rfl rfl (by go_simp; rfl) (by kernel_rfl) rfl (by intro w'; go_simp; with_reducible rfl) (fun _ _ _ h => h) (by go_simp; rfl) ?_
    refine pu_ 22 (some 32) HT_ rfl rfl (by go_simp; rfl) (by kernel_rfl) rfl (by intro w'; go_simp; with_reducible rfl) (fun _ _ _ h => h) (by go_simp; rfl) ?_
    refine done_ (done_of HT_.out (by kernel_rfl)) ?_
    try go_wp2
    go_roundg k1
    case measure => have := HK1.out; omega
    case rel => exact ⟨(wrap64 (x3_1 + 1)), (by first | rfl | (simp; done) | (simp [*]; done)), H', ⟨by have := HK1.out; omega⟩, ⟨spec_l4Right_auHB⟩⟩
   replace c11 := Bool.eq_false_iff.mpr c11
   subst c11
   have H1 : (some false) = some r := by rw [if_neg (show ¬ (false = true) by decide)] at H; exact H
   clear H
   have H := H1
   clear H1
   obtain rfl := Option.some.inj H
   try go_wp2
   replace HB := Aside0.mk (below_drew1 HB.out)
   have p106 : 0 ≤ (x3_1 : Int) := of_decide_eq_true (by first | (with_reducible assumption) | assumption)
   have q106 : x3_1 < (l0.length : Int) := of_decide_eq_true (by first | (with_reducible assumption) | assumption)
   obtain ⟨ad106, e106, hx106_0, hx106_1, hx106_2, hx106_3, hx106_4⟩ := at_T48 HR0.out x3_1 p106 q106
   have hw106_4 := hx106_4
   have hw106_3 := hx106_3
   have hw106_2 := hx106_2
   have hw106_1 := hx106_1
   have hw106_0 := hx106_0
   cases e106
   replace hx106_0 := (HB.out.cell (World.block_lt_of_cell? w _ hx106_0)).trans hx106_0
   replace hx106_1 := (HB.out.cell (World.block_lt_of_cell? w _ hx106_1)).trans hx106_1
   replace hx106_2 := (HB.out.cell (World.block_lt_of_cell? w _ hx106_2)).trans hx106_2
   replace hx106_3 := (HB.out.cell (World.block_lt_of_cell? w _ hx106_3)).trans hx106_3
   replace hx106_4 := (HB.out.cell (World.block_lt_of_cell? w _ hx106_4)).trans hx106_4
   replace p106 := eq_true p106
   replace q106 := eq_true q106
   have p108 : 0 ≤ ((ji7) : Int) := of_decide_eq_true (by first | (with_reducible assumption) | assumption)
   have q108 : (ji7) < (l0.length : Int) := of_decide_eq_true (by first | (with_reducible assumption) | assumption)
   obtain ⟨ad108, e108, hx108_0, hx108_1, hx108_2, hx108_3, hx108_4⟩ := at_T48 HR0.out (ji7) p108 q108
   have hw108_4 := hx108_4
   have hw108_3 := hx108_3
   have hw108_2 := hx108_2
   have hw108_1 := hx108_1
   have hw108_0 := hx108_0
   obtain rfl : ad106 = ad108 := (by injection e108)
   replace hx108_0 := (HB.out.cell (World.block_lt_of_cell? w _ hx108_0)).trans hx108_0
   replace hx108_1 := (HB.out.cell (World.block_lt_of_cell? w _ hx108_1)).trans hx108_1
   replace hx108_2 := (HB.out.cell (World.block_lt_of_cell? w _ hx108_2)).trans hx108_2
   replace hx108_3 := (HB.out.cell (World.block_lt_of_cell? w _ hx108_3)).trans hx108_3
   replace hx108_4 := (HB.out.cell (World.block_lt_of_cell? w _ hx108_4)).trans hx108_4
   replace p108 := eq_true p108
   replace q108 := eq_true q108
   have p109 : 0 ≤ (x3_1 : Int) := of_decide_eq_true (by first | (with_reducible assumption) | assumption)
   have q109 : x3_1 < (l0.length : Int) := of_decide_eq_true (by first | (with_reducible assumption) | assumption)
   obtain ⟨ad109, e109, hx109_0, hx109_1, hx109_2, hx109_3, hx109_4⟩ := at_T48 HR0.out x3_1 p109 q109
   have hw109_4 := hx109_4
   have hw109_3 := hx109_3
   have hw109_2 := hx109_2
   have hw109_1 := hx109_1
   have hw109_0 := hx109_0
   obtain rfl : ad106 = ad109 := (by injection e109)
   replace hx109_0 := (HB.out.cell (World.block_lt_of_cell? w _ hx109_0)).trans hx109_0
   replace hx109_1 := (HB.out.cell (World.block_lt_of_cell? w _ hx109_1)).trans hx109_1
   replace hx109_2 := (HB.out.cell (World.block_lt_of_cell? w _ hx109_2)).trans hx109_2
   replace hx109_3 := (HB.out.cell (World.block_lt_of_cell? w _ hx109_3)).trans hx109_3
   replace hx109_4 := (HB.out.cell (World.block_lt_of_cell? w _ hx109_4)).trans hx109_4
   replace p109 := eq_true p109
   replace q109 := eq_true q109
   refine start_ (n := 23) (S := fun w' => w'.cell? (ad106.add ((x3_1).toNat * 5)) = some (.string ((rd_T48 l0 x3_1).f0)) ∧ w'.cell? ⟨(ad106.add ((x3_1).toNat * 5)).block, (ad106.add ((x3_1).toNat * 5)).off + 1, none⟩ = some (.int .i64 ((rd_T48 l0 x3_1).f1)) ∧ w'.cell? ⟨(ad106.add ((x3_1).toNat * 5)).block, (ad106.add ((x3_1).toNat * 5)).off + 2, none⟩ = some (.int .i64 ((rd_T48 l0 x3_1).f2)) ∧ w'.cell? ⟨(ad106.add ((x3_1).toNat * 5)).block, (ad106.add ((x3_1).toNat * 5)).off + 3, none⟩ = some (.string ((rd_T48 l0 x3_1).f3)) ∧ w'.cell? ⟨(ad106.add ((x3_1).toNat * 5)).block, (ad106.add ((x3_1).toNat * 5)).off + 4, none⟩ = some (.int .i64 ((rd_T48 l0 x3_1).f4)) ∧ w'.cell? (ad106.add (((ji7)).toNat * 5)) = some (.string ((rd_T48 l0 (ji7)).f0)) ∧ w'.cell? ⟨(ad106.add (((ji7)).toNat * 5)).block, (ad106.add (((ji7)).toNat * 5)).off + 1, none⟩ = some (.int .i64 ((rd_T48 l0 (ji7)).f1)) ∧ w'.cell? ⟨(ad106.add (((ji7)).toNat * 5)).block, (ad106.add (((ji7)).toNat * 5)).off + 2, none⟩ = some (.int .i64 ((rd_T48 l0 (ji7)).f2)) ∧ w'.cell? ⟨(ad106.add (((ji7)).toNat * 5)).block, (ad106.add (((ji7)).toNat * 5)).off + 3, none⟩ = some (.string ((rd_T48 l0 (ji7)).f3)) ∧ w'.cell? ⟨(ad106.add (((ji7)).toNat * 5)).block, (ad106.add (((ji7)).toNat * 5)).off + 4, none⟩ = some (.int .i64 ((rd_T48 l0 (ji7)).f4)) ∧ w'.cell? (ad106.add ((x3_1).toNat * 5)) = some (.string ((rd_T48 l0 x3_1).f0)) ∧ w'.cell? ⟨(ad106.add ((x3_1).toNat * 5)).block, (ad106.add ((x3_1).toNat * 5)).off + 1, none⟩ = some (.int .i64 ((rd_T48 l0 x3_1).f1)) ∧ w'.cell? ⟨(ad106.add ((x3_1).toNat * 5)).block, (ad106.add ((x3_1).toNat * 5)).off + 2, none⟩ = some (.int .i64 ((rd_T48 l0 x3_1).f2)) ∧ w'.cell? ⟨(ad106.add ((x3_1).toNat * 5)).block, (ad106.add ((x3_1).toNat * 5)).off + 3, none⟩ = some (.string ((rd_T48 l0 x3_1).f3)) ∧ w'.cell? ⟨(ad106.add ((x3_1).toNat * 5)).block, (ad106.add ((x3_1).toNat * 5)).off + 4, none⟩ = some (.int .i64 ((rd_T48 l0 x3_1).f4))) (ds := []) #[false, false, false, false, false, false, false, false, false, false, false, false, false, false, false, false, false, false, false, false, false, false, false] (by kernel_rfl) rfl rfl ⟨((HB.out.cell (World.block_lt_of_cell? w _ hw106_0)).trans hw106_0), ((HB.out.cell (World.block_lt_of_cell? w _ hw106_1)).trans hw106_1), ((HB.out.cell (World.block_lt_of_cell? w _ hw106_2)).trans hw106_2), ((HB.out.cell (World.block_lt_of_cell? w _ hw106_3)).trans hw106_3), ((HB.out.cell (World.block_lt_of_cell? w _ hw106_4)).trans hw106_4), ((HB.out.cell (World.block_lt_of_cell? w _ hw108_0)).trans hw108_0), ((HB.out.cell (World.block_lt_of_cell? w _ hw108_1)).trans hw108_1), ((HB.out.cell (World.block_lt_of_cell? w _ hw108_2)).trans hw108_2), ((HB.out.cell (World.block_lt_of_cell? w _ hw108_3)).trans hw108_3), ((HB.out.cell (World.block_lt_of_cell? w _ hw108_4)).trans hw108_4), ((HB.out.cell (World.block_lt_of_cell? w _ hw109_0)).trans hw109_0), ((HB.out.cell (World.block_lt_of_cell? w _ hw109_1)).trans hw109_1), ((HB.out.cell (World.block_lt_of_cell? w _ hw109_2)).trans hw109_2), ((HB.out.cell (World.block_lt_of_cell? w _ hw109_3)).trans hw109_3), ((HB.out.cell (World.block_lt_of_cell? w _ hw109_4)).trans hw109_4)⟩ (fun hHeld => ?_); refine with_tabW spec_l4Right.tab4 spec_l4Right.bits4 (fun HT_ HW_ => ?_)
   generalize wr.drew = w15 at HB hx106_0 hx106_1 hx106_2 hx106_3 hx106_4 hx108_0 hx108_1 hx108_2 hx108_3 hx108_4 hx109_0 hx109_1 hx109_2 hx109_3 hx109_4 hHeld ⊢
   refine pu_ 0 (some 10) HT_ rfl rfl (by go_simp; rfl) (by kernel_rfl) rfl (by intro w'; go_simp; with_reducible rfl) (fun _ _ _ h => h) (by go_simp; rfl) ?_
   refine pu_ 1 (some 11) HT_ rfl rfl (by go_simp; rfl) (by kernel_rfl) rfl (by intro w'; go_simp; with_reducible rfl) (fun _ _ _ h => h) (by go_simp; rfl) ?_
   refine pu_ 2 (some 12) HT_ rfl rfl (by go_simp; rfl) (by kernel_rfl) rfl (by intro w'; go_simp; with_reducible rfl) (fun _ _ _ h => h) (by go_simp; rfl) ?_
   refine ta_ 3 (some 13) HT_ HW_ hHeld rfl rfl (by go_simp; rfl) (by kernel_rfl) rfl (by rintro w' ⟨s0, s1, s2, s3, s4, s5, s6, s7, s8, s9, s10, s11, s12, s13, s14⟩; go_simp; with_reducible rfl) (fun _ _ _ h => h) (by go_simp; rfl) ?_
   refine one_ (i := 4) (N := some 14) #[true, true, true, true, true, false, false, false, false, false, false, false, false, false, false, false, false, false, false, false, false, false, false] rfl rfl (one_of HT_.out (by kernel_rfl)) (by decide) (fun K hK => ?_)
   refine goes_ Try.func57 (by kernel_rfl) rfl #[.agg #[.string ((rd_T48 l0 x3_1).f0), .int .i64 ((rd_T48 l0 x3_1).f1), .int .i64 ((rd_T48 l0 x3_1).f2), .string ((rd_T48 l0 x3_1).f3), .int .i64 ((rd_T48 l0 x3_1).f4)]] (by rfl) rfl rfl (by (try simp only [List.map_toArray, List.map_cons, List.map_nil]); first | done | rfl | (simp only [List.length_drop, List.length_take]; rfl)) ?_
   with_reducible refine (spec_EntryOk.calls k1 ((rd_T48 l0 x3_1).f0) ((rd_T48 l0 x3_1).f1) ((rd_T48 l0 x3_1).f2) ((rd_T48 l0 x3_1).f3) ((rd_T48 l0 x3_1).f4) true _ A4.out).mono ?_
   rintro e w16 ⟨rfl, hb⟩
   refine ⟨_, rfl, ?_⟩
   replace HB := Aside0.mk (below_step (spec_l4Right_auHB) hb)
   (try clear hb)
   (try clear hb2)
   (try clear hk)
   (try clear hi)
   refine hK.out _ _ ⟨((HB.out.cell (World.block_lt_of_cell? w _ hw106_0)).trans hw106_0), ((HB.out.cell (World.block_lt_of_cell? w _ hw106_1)).trans hw106_1), ((HB.out.cell (World.block_lt_of_cell? w _ hw106_2)).trans hw106_2), ((HB.out.cell (World.block_lt_of_cell? w _ hw106_3)).trans hw106_3), ((HB.out.cell (World.block_lt_of_cell? w _ hw106_4)).trans hw106_4), ((HB.out.cell (World.block_lt_of_cell? w _ hw108_0)).trans hw108_0), ((HB.out.cell (World.block_lt_of_cell? w _ hw108_1)).trans hw108_1), ((HB.out.cell (World.block_lt_of_cell? w _ hw108_2)).trans hw108_2), ((HB.out.cell (World.block_lt_of_cell? w _ hw108_3)).trans hw108_3), ((HB.out.cell (World.block_lt_of_cell? w _ hw108_4)).trans hw108_4), ((HB.out.cell (World.block_lt_of_cell? w _ hw109_0)).trans hw109_0), ((HB.out.cell (World.block_lt_of_cell? w _ hw109_1)).trans hw109_1), ((HB.out.cell (World.block_lt_of_cell? w _ hw109_2)).trans hw109_2), ((HB.out.cell (World.block_lt_of_cell? w _ hw109_3)).trans hw109_3), ((HB.out.cell (World.block_lt_of_cell? w _ hw109_4)).trans hw109_4)⟩ (fun hHeld => ?_)
   clear hK K
   refine norm_ (a' := ?_) ?_ ?_
   rotate_left
   ·
    show Act.put _ (some 14) _ = _
    simp only [Act.put, List.setIfInBounds_toArray, List.set_cons_zero, List.set_cons_succ, i64_w, i32_w]
    rfl
   refine pu_ 5 (some 15) HT_ rfl rfl (by go_simp; rfl) (by kernel_rfl) rfl (by intro w'; go_simp; with_reducible rfl) (fun _ _ _ h => h) (by go_simp; rfl) ?_
   refine pu_ 6 (some 16) HT_ rfl rfl (by go_simp; rfl) (by kernel_rfl) rfl (by intro w'; go_simp; with_reducible rfl) (fun _ _ _ h => h) (by go_simp; rfl) ?_
   refine pu_ 7 (some 17) HT_ rfl rfl (by go_simp; rfl) (by kernel_rfl) rfl (by intro w'; go_simp; with_reducible rfl) (fun _ _ _ h => h) (by go_simp; rfl) ?_
   refine pu_ 8 (some 18) HT_ rfl rfl (by go_simp; rfl) (by kernel_rfl) rfl (by intro w'; go_simp; with_reducible rfl) (fun _ _ _ h => h) (by go_simp; rfl) ?_
   refine pu_ 9 (some 19) HT_ rfl rfl (by go_simp; rfl) (by kernel_rfl) rfl (by intro w'; go_simp; with_reducible rfl) (fun _ _ _ h => h) (by go_simp; rfl) ?_
   refine pu_ 10 (some 20) HT_ rfl rfl (by go_simp; rfl) (by kernel_rfl) rfl (by intro w'; go_simp; with_reducible rfl) (fun _ _ _ h => h) (by go_simp; rfl) ?_
   refine pu_ 11 (some 21) HT_ rfl rfl (by go_simp; rfl) (by kernel_rfl) rfl (by intro w'; go_simp; with_reducible rfl) (fun _ _ _ h => h) (by go_simp; rfl) ?_
   refine pu_ 12 (some 22) HT_ rfl rfl (by go_simp; rfl) (by kernel_rfl) rfl (by intro w'; go_simp; with_reducible rfl) (fun _ _ _ h => h) (by go_simp; rfl) ?_
   refine pu_ 13 (some 23) HT_ rfl rfl (by go_simp; rfl) (by kernel_rfl) rfl (by intro w'; go_simp; with_reducible rfl) (fun _ _ _ h => h) (by go_simp; rfl) ?_
   refine pu_ 15 (some 25) HT_ rfl rfl (by go_simp; rfl) (by kernel_rfl) rfl (by intro w'; go_simp; with_reducible rfl) (fun _ _ _ h => h) (by go_simp; rfl) ?_
   refine pu_ 16 (some 26) HT_ rfl rfl (by go_simp; rfl) (by kernel_rfl) rfl (by intro w'; go_simp; with_reducible rfl) (fun _ _ _ h => h) (by go_simp; rfl) ?_
   refine pu_ 17 (some 27) HT_ rfl rfl (by go_simp; rfl) (by kernel_rfl) rfl (by intro w'; go_simp; with_reducible rfl) (fun _ _ _ h => h) (by go_simp; rfl) ?_
   refine ta_ 14 (some 24) HT_ HW_ hHeld rfl rfl (by go_simp; rfl) (by kernel_rfl) rfl (by rintro w' ⟨s0, s1, s2, s3, s4, s5, s6, s7, s8, s9, s10, s11, s12, s13, s14⟩; go_simp; with_reducible rfl) (fun _ _ _ h => h) (by go_simp; rfl) ?_
   refine ta_ 18 (some 28) HT_ HW_ hHeld rfl rfl (by go_simp; rfl) (by kernel_rfl) rfl (by rintro w' ⟨s0, s1, s2, s3, s4, s5, s6, s7, s8, s9, s10, s11, s12, s13, s14⟩; go_simp; with_reducible rfl) (fun _ _ _ h => h) (by go_simp; rfl) ?_
   refine one_ (i := 19) (N := some 29) #[true, true, true, true, true, true, true, true, true, true, true, true, true, true, true, true, true, true, true, true, false, false, false] rfl rfl (one_of HT_.out (by kernel_rfl)) (by decide) (fun K hK => ?_)
   refine goes_ Try.func58 (by kernel_rfl) rfl #[.agg #[.string ((rd_T48 l0 (ji7)).f0), .int .i64 ((rd_T48 l0 (ji7)).f1), .int .i64 ((rd_T48 l0 (ji7)).f2), .string ((rd_T48 l0 (ji7)).f3), .int .i64 ((rd_T48 l0 (ji7)).f4)], .agg #[.string ((rd_T48 l0 x3_1).f0), .int .i64 ((rd_T48 l0 x3_1).f1), .int .i64 ((rd_T48 l0 x3_1).f2), .string ((rd_T48 l0 x3_1).f3), .int .i64 ((rd_T48 l0 x3_1).f4)]] (by rfl) rfl rfl (by (try simp only [List.map_toArray, List.map_cons, List.map_nil]); first | done | (simp only [hji7]; rfl) | rfl | (simp only [List.length_drop, List.length_take]; rfl)) ?_
   with_reducible refine (spec_EntryLess.calls ((rd_T48 l0 (ji7)).f0) ((rd_T48 l0 (ji7)).f1) ((rd_T48 l0 (ji7)).f2) ((rd_T48 l0 (ji7)).f3) ((rd_T48 l0 (ji7)).f4) ((rd_T48 l0 x3_1).f0) ((rd_T48 l0 x3_1).f1) ((rd_T48 l0 x3_1).f2) ((rd_T48 l0 x3_1).f3) ((rd_T48 l0 x3_1).f4) false _ A10.out).mono ?_
   rintro e w17 ⟨rfl, hb⟩
   refine ⟨_, rfl, ?_⟩
   replace HB := Aside0.mk (below_step (spec_l4Right_auHB) hb)
   (try clear hb)
   (try clear hb2)
   (try clear hk)
   (try clear hi)
   refine hK.out _ _ ⟨((HB.out.cell (World.block_lt_of_cell? w _ hw106_0)).trans hw106_0), ((HB.out.cell (World.block_lt_of_cell? w _ hw106_1)).trans hw106_1), ((HB.out.cell (World.block_lt_of_cell? w _ hw106_2)).trans hw106_2), ((HB.out.cell (World.block_lt_of_cell? w _ hw106_3)).trans hw106_3), ((HB.out.cell (World.block_lt_of_cell? w _ hw106_4)).trans hw106_4), ((HB.out.cell (World.block_lt_of_cell? w _ hw108_0)).trans hw108_0), ((HB.out.cell (World.block_lt_of_cell? w _ hw108_1)).trans hw108_1), ((HB.out.cell (World.block_lt_of_cell? w _ hw108_2)).trans hw108_2), ((HB.out.cell (World.block_lt_of_cell? w _ hw108_3)).trans hw108_3), ((HB.out.cell (World.block_lt_of_cell? w _ hw108_4)).trans hw108_4), ((HB.out.cell (World.block_lt_of_cell? w _ hw109_0)).trans hw109_0), ((HB.out.cell (World.block_lt_of_cell? w _ hw109_1)).trans hw109_1), ((HB.out.cell (World.block_lt_of_cell? w _ hw109_2)).trans hw109_2), ((HB.out.cell (World.block_lt_of_cell? w _ hw109_3)).trans hw109_3), ((HB.out.cell (World.block_lt_of_cell? w _ hw109_4)).trans hw109_4)⟩ (fun hHeld => ?_)
   clear hK K
   refine norm_ (a' := ?_) ?_ ?_
   rotate_left
   ·
    show Act.put _ (some 29) _ = _
    simp only [Act.put, List.setIfInBounds_toArray, List.set_cons_zero, List.set_cons_succ, i64_w, i32_w]
    rfl
   refine pu_ 20 (some 30) HT_ rfl rfl (by go_simp; rfl) (by kernel_rfl) rfl (by intro w'; go_simp; with_reducible rfl) (fun _ _ _ h => h) (by go_simp; rfl) ?_
   refine pu_ 21 (some 31) HT_ rfl rfl (by go_simp; rfl) (by kernel_rfl) rfl (by intro w'; go_simp; with_reducible rfl) (fun _ _ _ h => h) (by go_simp; rfl) ?_
   refine pu_ 22 (some 32) HT_ rfl rfl (by go_simp; rfl) (by kernel_rfl) rfl (by intro w'; go_simp; with_reducible rfl) (fun _ _ _ h => h) (by go_simp; rfl) ?_
   refine done_ (done_of HT_.out (by kernel_rfl)) ?_
   try go_wp2
   go_ret
   exact ⟨by first | rfl | (simp [errW_none, errW_some] <;> rfl) | (simp only [← hji7]; first | rfl | (simp [errW_none, errW_some] <;> rfl)) | (simp [*, errW_none, errW_some] <;> rfl), spec_l4Right_auHB⟩


end Go.Proofs.Ytcfebbhiehaocaa.QFnSquashTwice

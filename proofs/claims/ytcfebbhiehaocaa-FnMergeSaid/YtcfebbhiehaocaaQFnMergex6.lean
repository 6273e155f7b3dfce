/- What the law FnMerge reaches, function by function: what each computes, and that the machine's call comes to it. Laid by a program. -/
import Derived.Test.YtcfebbhiehaocaaQFnMergex0
import Derived.Test.YtcfebbhiehaocaaQFnMergex3
namespace Go.Proofs.Ytcfebbhiehaocaa.QFnMerge
open Go.RowKit Go.Proofs.YtcfebbhiehaocaaW.PrintWords Go.Proofs.YtcfebbhiehaocaaW.PrintLast Go.Proofs.YtcfebbhiehaocaaW.PrintMore
attribute [local go_sem] max2_int min2_int max_two min_two max_three min_three max_four min_four   -- for this text's walks alone
set_option linter.unusedVariables false
set_option linter.unusedSimpArgs false

/-! ### impl_heads_Less: function 110 -/
def impl_heads_Less.f (k : Nat) (l0 : List (S75)) (a1 : Int) (a2 : Int) : Option (Bool) := if 0 ≤ a1 then (if a1 < (l0.length : Int) then (if 0 ≤ a2 then (if a2 < (l0.length : Int) then (if 0 < (((rd_T75 l0 a1).f0).length : Int) then (if 0 < (((rd_T75 l0 a2).f0).length : Int) then ((impl_entryOrder.f k ((rd_T48 ((rd_T75 l0 a1).f0) 0).f0) ((rd_T48 ((rd_T75 l0 a1).f0) 0).f1) ((rd_T48 ((rd_T75 l0 a1).f0) 0).f2) ((rd_T48 ((rd_T75 l0 a1).f0) 0).f3) ((rd_T48 ((rd_T75 l0 a1).f0) 0).f4) ((rd_T48 ((rd_T75 l0 a2).f0) 0).f0) ((rd_T48 ((rd_T75 l0 a2).f0) 0).f1) ((rd_T48 ((rd_T75 l0 a2).f0) 0).f2) ((rd_T48 ((rd_T75 l0 a2).f0) 0).f3) ((rd_T48 ((rd_T75 l0 a2).f0) 0).f4)).bind fun t218 => (if t218 = 0 then (some (decide (((rd_T75 l0 a1).f1) < ((rd_T75 l0 a2).f1)))) else (some (decide (t218 < 0))))) else (none)) else (none)) else (none)) else (none)) else (none)) else (none)
theorem impl_heads_Less.mono : ∀ a0 a1 a2 k, LeO (impl_heads_Less.f k a0 a1 a2) (impl_heads_Less.f (k + 1) a0 a1 a2) := by
  intro a0 a1 a2 k
  unfold impl_heads_Less.f
  repeat' first
      | (with_reducible exact impl_entryOrder.mono _ _ _ _ _ _ _ _ _ _ _)
      | (with_reducible exact LeO.refl _)
      | (with_reducible exact LeO.none _)
      | (with_reducible refine LeO.ite ?_ ?_)
      | (with_reducible refine LeO.bind ?_ (fun _ => ?_))
      | exact impl_entryOrder.mono _ _ _ _ _ _ _ _ _ _ _
      | exact LeO.none _
      | refine LeO.ite ?_ ?_
      | refine LeO.bind ?_ (fun _ => ?_)
def impl_heads_Less.T1 : Bool × List (List Nat × List Nat) := (true, [([], []), ([], []), ([0, 1], [0, 1]), ([2], [2]), ([], []), ([], []), ([4, 5], [4, 5]), ([6], [6]), ([], []), ([], []), ([8, 3, 0, 1, 2, 3, 8, 9], [3, 8]), ([9, 7, 10, 0, 1, 2, 3, 4, 5, 6, 7, 8, 9, 10], [7, 9])])
def impl_heads_Less.B1 : List Nat := [0, 0, 3, 7, 0, 0, 48, 112, 0, 0, 783, 2047]
theorem impl_heads_Less.tab1 : rtab .any (opsOf Try.f110 1) = impl_heads_Less.T1 := by kernel_rfl
theorem impl_heads_Less.bits1 : waitsOk impl_heads_Less.T1.2 impl_heads_Less.B1 = true := by kernel_rfl
def impl_heads_Less.T2 : Bool × List (List Nat × List Nat) := (true, [([], []), ([0], [0]), ([1], [1]), ([2], [2]), ([], []), ([4], [4]), ([5], [5]), ([6], [6]), ([3, 7], [3, 7]), ([8, 8, 0, 1, 2, 3, 4, 5, 6, 7, 8], [8])])
def impl_heads_Less.B2 : List Nat := [0, 1, 3, 7, 0, 16, 48, 112, 255, 511]
theorem impl_heads_Less.tab2 : rtab .any (opsOf Try.f110 2) = impl_heads_Less.T2 := by kernel_rfl
theorem impl_heads_Less.bits2 : waitsOk impl_heads_Less.T2.2 impl_heads_Less.B2 = true := by kernel_rfl
theorem impl_heads_Less_vb {p q : Prop} (h : Aside0 p) (k : p → q := by (intro hz; (with_reducible repeat (first | refine blk_drewN ?_ _ | refine blk_drew ?_ | refine blk_alloc ?_ _)); exact hz)) : q := k h.out
theorem impl_heads_Less_auHB {q : Prop} (h : q := by (repeat (first | (with_reducible first | exact HB.out | apply below_alloc | apply pw_below_drewN | apply below_drew1 | refine below_set ?_ GE214.out | refine below_set ?_ GE215.out) | exact HB.out))) : q := h
set_option maxHeartbeats 8000000 in
set_option maxRecDepth 100000 in
theorem impl_heads_Less.calls (k : Nat) (A0 : Option Addr) (c0 : Nat) (l0 : List (S75)) (a1 : Int) (a2 : Int) (r : Bool) (w : World) (hr0 : Kd.C k75 w A0 l0.length l0) (hc0 : l0.length ≤ c0) (h : impl_heads_Less.f k l0 a1 a2 = some r) :
  Calls Try.prog 110 #[.slice A0 l0.length c0, .int .i64 a1, .int .i64 a2] w fun e w' => e = .returned (.bool r) ∧ Below w.heap.size w w' := by
 have hu75 := Try.underlying75
 have hu48 := Try.underlying48
 have HR0 := Aside0.mk hr0
 have HC0 := Aside0.mk hc0
 clear hr0 hc0
 have HB := Aside0.mk (Below.refl w.heap.size w)
 have H : (if 0 ≤ a1 then (if a1 < (l0.length : Int) then (if 0 ≤ a2 then (if a2 < (l0.length : Int) then (if 0 < (((rd_T75 l0 a1).f0).length : Int) then (if 0 < (((rd_T75 l0 a2).f0).length : Int) then ((impl_entryOrder.f k ((rd_T48 ((rd_T75 l0 a1).f0) 0).f0) ((rd_T48 ((rd_T75 l0 a1).f0) 0).f1) ((rd_T48 ((rd_T75 l0 a1).f0) 0).f2) ((rd_T48 ((rd_T75 l0 a1).f0) 0).f3) ((rd_T48 ((rd_T75 l0 a1).f0) 0).f4) ((rd_T48 ((rd_T75 l0 a2).f0) 0).f0) ((rd_T48 ((rd_T75 l0 a2).f0) 0).f1) ((rd_T48 ((rd_T75 l0 a2).f0) 0).f2) ((rd_T48 ((rd_T75 l0 a2).f0) 0).f3) ((rd_T48 ((rd_T75 l0 a2).f0) 0).f4)).bind fun t218 => (if t218 = 0 then (some (decide (((rd_T75 l0 a1).f1) < ((rd_T75 l0 a2).f1)))) else (some (decide (t218 < 0))))) else (none)) else (none)) else (none)) else (none)) else (none)) else (none)) = some r := h
 clear h
 by_cases c4 : 0 ≤ a1
 ·
  rw [if_pos c4] at H
  have c4b0 : decide (0 ≤ a1) = true := decide_eq_true c4
  clear c4
  by_cases c5 : a1 < (l0.length : Int)
  ·
   rw [if_pos c5] at H
   have c5b0 : decide (a1 < (l0.length : Int)) = true := decide_eq_true c5
   clear c5
   by_cases c6 : 0 ≤ a2
   ·
    rw [if_pos c6] at H
    have c6b0 : decide (0 ≤ a2) = true := decide_eq_true c6
    clear c6
    by_cases c7 : a2 < (l0.length : Int)
    ·
     rw [if_pos c7] at H
     have c7b0 : decide (a2 < (l0.length : Int)) = true := decide_eq_true c7
     clear c7
     by_cases c8 : 0 < (((rd_T75 l0 a1).f0).length : Int)
     ·
      rw [if_pos c8] at H
      have c8b0 : decide (0 < (((rd_T75 l0 a1).f0).length : Int)) = true := decide_eq_true c8
      have c8b1 : decide (0 < ((rd_T75 l0 a1).f0).length) = true := decide_eq_true (by omega)
      clear c8
      by_cases c9 : 0 < (((rd_T75 l0 a2).f0).length : Int)
      ·
       rw [if_pos c9] at H
       have c9b0 : decide (0 < (((rd_T75 l0 a2).f0).length : Int)) = true := decide_eq_true c9
       have c9b1 : decide (0 < ((rd_T75 l0 a2).f0).length) = true := decide_eq_true (by omega)
       clear c9
       replace H := Option.bind_eq_some_iff.mp H
       obtain ⟨t218, A100, H⟩ := H
       replace H : (if t218 = 0 then (some (decide (((rd_T75 l0 a1).f1) < ((rd_T75 l0 a2).f1)))) else (some (decide (t218 < 0)))) = some r := H
       have A10 := Aside0.mk A100
       clear A100
       by_cases c11 : t218 = 0
       ·
        rw [if_pos c11] at H
        have c11b0 : (t218 == 0) = true := beq_iff_eq.mpr c11
        have c11b1 : (t218 != 0) = false := bne_eq_false_iff_eq.mpr c11
        clear c11
        obtain rfl := Option.some.inj H
        go_enter Try.func110, Try.ntmps110
        try go_wp2
        have n0_ := Aside0.mk (below_drew1 HB.out)
        clear HB
        have HB := n0_
        clear n0_
        have p212 : 0 ≤ (a1 : Int) := of_decide_eq_true (by first | (with_reducible assumption) | assumption)
        have q212 : a1 < (l0.length : Int) := of_decide_eq_true (by first | (with_reducible assumption) | assumption)
        obtain ⟨ad212, A212_0, c212_0, e212, hx212_0, hx212_1, hl212_0, hi212_0⟩ := at_T75 HR0.out a1 p212 q212
        have hw212_1 := hx212_1
        have hw212_0 := hx212_0
        cases e212
        replace hx212_0 := (HB.out.cell (World.block_lt_of_cell? w _ hx212_0)).trans hx212_0
        replace hx212_1 := (HB.out.cell (World.block_lt_of_cell? w _ hx212_1)).trans hx212_1
        have HR212_0 := Aside0.mk hi212_0
        have HC212_0 := Aside0.mk hl212_0
        clear hi212_0 hl212_0
        replace p212 := eq_true p212
        replace q212 := eq_true q212
        have p213 : 0 ≤ (a2 : Int) := of_decide_eq_true (by first | (with_reducible assumption) | assumption)
        have q213 : a2 < (l0.length : Int) := of_decide_eq_true (by first | (with_reducible assumption) | assumption)
        obtain ⟨ad213, A213_0, c213_0, e213, hx213_0, hx213_1, hl213_0, hi213_0⟩ := at_T75 HR0.out a2 p213 q213
        have hw213_1 := hx213_1
        have hw213_0 := hx213_0
        obtain rfl : ad212 = ad213 := (by injection e213)
        replace hx213_0 := (HB.out.cell (World.block_lt_of_cell? w _ hx213_0)).trans hx213_0
        replace hx213_1 := (HB.out.cell (World.block_lt_of_cell? w _ hx213_1)).trans hx213_1
        have HR213_0 := Aside0.mk hi213_0
        have HC213_0 := Aside0.mk hl213_0
        clear hi213_0 hl213_0
        replace p213 := eq_true p213
        replace q213 := eq_true q213
        refine start_ (n := 12) (S := fun w' => w'.cell? (ad212.add ((a1).toNat * 2)) = some (.slice A212_0 ((rd_T75 l0 a1).f0).length c212_0) ∧ w'.cell? ⟨(ad212.add ((a1).toNat * 2)).block, (ad212.add ((a1).toNat * 2)).off + 1, none⟩ = some (.int .i64 ((rd_T75 l0 a1).f1)) ∧ w'.cell? (ad212.add ((a2).toNat * 2)) = some (.slice A213_0 ((rd_T75 l0 a2).f0).length c213_0) ∧ w'.cell? ⟨(ad212.add ((a2).toNat * 2)).block, (ad212.add ((a2).toNat * 2)).off + 1, none⟩ = some (.int .i64 ((rd_T75 l0 a2).f1))) (ds := []) #[false, false, false, false, false, false, false, false, false, false, false, false] (by kernel_rfl) rfl rfl ⟨((HB.out.cell (World.block_lt_of_cell? w _ hw212_0)).trans hw212_0), ((HB.out.cell (World.block_lt_of_cell? w _ hw212_1)).trans hw212_1), ((HB.out.cell (World.block_lt_of_cell? w _ hw213_0)).trans hw213_0), ((HB.out.cell (World.block_lt_of_cell? w _ hw213_1)).trans hw213_1)⟩ (fun hHeld => ?_); refine with_tabW impl_heads_Less.tab1 impl_heads_Less.bits1 (fun HT_ HW_ => ?_)
        generalize w.drew = w12 at HB HR212_0 HR213_0 hx212_0 hx212_1 hx213_0 hx213_1 hHeld ⊢
        refine pure_ (i := 0) (N := some 10) (v := ?_) (a' := ?_) #[true, false, false, false, false, false, false, false, false, false, false, false] rfl rfl (any_of HT_.out (by kernel_rfl)) (fun _ _ _ h => h) (Or.inl ⟨by rfl, ?_⟩) ?_ ?_
        rotate_left
        ·
         intro w'
         go_simp
         with_reducible rfl
        rotate_left
        ·
         simp only [Act.put, List.setIfInBounds_toArray, List.set_cons_zero, List.set_cons_succ, i64_w, i32_w]
         rfl
        refine pure_ (i := 1) (N := some 11) (v := ?_) (a' := ?_) #[true, true, false, false, false, false, false, false, false, false, false, false] rfl rfl (any_of HT_.out (by kernel_rfl)) (fun _ _ _ h => h) (Or.inl ⟨by rfl, ?_⟩) ?_ ?_
        rotate_left
        ·
         intro w'
         go_simp
         with_reducible rfl
        rotate_left
        ·
         simp only [Act.put, List.setIfInBounds_toArray, List.set_cons_zero, List.set_cons_succ, i64_w, i32_w]
         rfl
        refine pure_ (i := 2) (N := some 12) (v := ?_) (a' := ?_) #[true, true, true, false, false, false, false, false, false, false, false, false] rfl rfl (any_of HT_.out (by kernel_rfl)) (fun _ _ _ h => h) (Or.inl ⟨by rfl, ?_⟩) ?_ ?_
        rotate_left
        ·
         intro w'
         go_simp
         with_reducible rfl
        rotate_left
        ·
         simp only [Act.put, List.setIfInBounds_toArray, List.set_cons_zero, List.set_cons_succ, i64_w, i32_w]
         rfl
        refine pure_ (i := 4) (N := some 14) (v := ?_) (a' := ?_) #[true, true, true, false, true, false, false, false, false, false, false, false] rfl rfl (any_of HT_.out (by kernel_rfl)) (fun _ _ _ h => h) (Or.inl ⟨by rfl, ?_⟩) ?_ ?_
        rotate_left
        ·
         intro w'
         go_simp
         with_reducible rfl
        rotate_left
        ·
         simp only [Act.put, List.setIfInBounds_toArray, List.set_cons_zero, List.set_cons_succ, i64_w, i32_w]
         rfl
        refine pure_ (i := 5) (N := some 15) (v := ?_) (a' := ?_) #[true, true, true, false, true, true, false, false, false, false, false, false] rfl rfl (any_of HT_.out (by kernel_rfl)) (fun _ _ _ h => h) (Or.inl ⟨by rfl, ?_⟩) ?_ ?_
        rotate_left
        ·
         intro w'
         go_simp
         with_reducible rfl
        rotate_left
        ·
         simp only [Act.put, List.setIfInBounds_toArray, List.set_cons_zero, List.set_cons_succ, i64_w, i32_w]
         rfl
        refine pure_ (i := 6) (N := some 16) (v := ?_) (a' := ?_) #[true, true, true, false, true, true, true, false, false, false, false, false] rfl rfl (any_of HT_.out (by kernel_rfl)) (fun _ _ _ h => h) (Or.inl ⟨by rfl, ?_⟩) ?_ ?_
        rotate_left
        ·
         intro w'
         go_simp
         with_reducible rfl
        rotate_left
        ·
         simp only [Act.put, List.setIfInBounds_toArray, List.set_cons_zero, List.set_cons_succ, i64_w, i32_w]
         rfl
        refine take_ (i := 3) (N := some 13) (v := ?_) (a' := ?_) #[true, true, true, true, true, true, true, false, false, false, false, false] rfl rfl (take_ofW HT_.out HW_.out (by kernel_rfl)) (fun _ _ _ h => h) (Or.inl ⟨by rfl, ?_⟩) hHeld ?_ ?_
        rotate_left
        ·
         rintro w' ⟨s0, s1, s2, s3⟩
         go_simp
         with_reducible rfl
        rotate_left
        ·
         simp only [Act.put, List.setIfInBounds_toArray, List.set_cons_zero, List.set_cons_succ, i64_w, i32_w]
         rfl
        refine take_ (i := 7) (N := some 17) (v := ?_) (a' := ?_) #[true, true, true, true, true, true, true, true, false, false, false, false] rfl rfl (take_ofW HT_.out HW_.out (by kernel_rfl)) (fun _ _ _ h => h) (Or.inl ⟨by rfl, ?_⟩) hHeld ?_ ?_
        rotate_left
        ·
         rintro w' ⟨s0, s1, s2, s3⟩
         go_simp
         with_reducible rfl
        rotate_left
        ·
         simp only [Act.put, List.setIfInBounds_toArray, List.set_cons_zero, List.set_cons_succ, i64_w, i32_w]
         rfl
        refine join_ (σ := Nat × Nat) 2 #[true, true, true, true, true, true, true, true, true, true, false, false] (fun s_ => [(7, .pointer (some ⟨s_.1, 0, none⟩)), (8, .pointer (some ⟨s_.2, 0, none⟩))]) (fun s_ w' => (w'.cell? (ad212.add ((a1).toNat * 2)) = some (.slice A212_0 ((rd_T75 l0 a1).f0).length c212_0) ∧ w'.cell? ⟨(ad212.add ((a1).toNat * 2)).block, (ad212.add ((a1).toNat * 2)).off + 1, none⟩ = some (.int .i64 ((rd_T75 l0 a1).f1)) ∧ w'.cell? (ad212.add ((a2).toNat * 2)) = some (.slice A213_0 ((rd_T75 l0 a2).f0).length c213_0) ∧ w'.cell? ⟨(ad212.add ((a2).toNat * 2)).block, (ad212.add ((a2).toNat * 2)).off + 1, none⟩ = some (.int .i64 ((rd_T75 l0 a2).f1))) ∧ (w'.heap[s_.1]? = some (.cells #[.slice none 0 0, .int .i64 0] 75 (0, 0))) ∧ (w'.heap[s_.2]? = some (.cells #[.slice none 0 0, .int .i64 0] 75 (0, 0))) ∧ (w.heap.size ≤ s_.1) ∧ (w.heap.size ≤ s_.1) ∧ (s_.2 ≠ s_.1) ∧ (s_.1 ≠ s_.2) ∧ (w.heap.size ≤ s_.2) ∧ (w.heap.size ≤ s_.2) ∧ (Below w.heap.size w w')) ?_ ?_
        rotate_left
        ·
         intro hCont
         refine two_ (i := 8) (j := 9) (Ni := some 7) (Nj := some 8) #[true, true, true, true, true, true, true, true, true, false, false, false] #[true, true, true, true, true, true, true, true, false, true, false, false] rfl rfl rfl rfl (two_of HT_.out (by kernel_rfl)) (by decide) (by decide) (fun K hK => ?_) (fun K hK => ?_)
         ·
          skip
          refine box_step ?hg (N := 7) ?hd (cs := #[.slice none 0 0, .int .i64 0]) (t := 75) ?hr ?_; (case hd => rfl); (case hg => rfl); (case hr => first | (go_simp; done) | (go_simp; rfl))
          intro gb214 hg w13 hbox hb
          have n0_ := Aside0.mk (below_step (impl_heads_Less_auHB) hb)
          have n1_ := Aside0.mk (hbox)
          have n2_ := Aside0.mk ((by rw [hg]; exact (below_size (impl_heads_Less_auHB)) : w.heap.size ≤ gb214))
          have n3_ := Aside0.mk ((by rw [hg]; exact (below_size (impl_heads_Less_auHB)) : w.heap.size ≤ gb214))
          clear HB
          have HB := n0_
          have BK214 := n1_
          have GW214 := n2_
          have GE214 := n3_
          clear n0_ n1_ n2_ n3_
          clear hb hbox hg
          refine hK.out _ _ ⟨((HB.out.cell (World.block_lt_of_cell? w _ hw212_0)).trans hw212_0), ((HB.out.cell (World.block_lt_of_cell? w _ hw212_1)).trans hw212_1), ((HB.out.cell (World.block_lt_of_cell? w _ hw213_0)).trans hw213_0), ((HB.out.cell (World.block_lt_of_cell? w _ hw213_1)).trans hw213_1)⟩ (fun hHeld => ?_)
          clear hK K
          refine norm_ (a' := ?_) ?_ ?_
          rotate_left
          ·
           show Act.put _ (some 7) _ = _
           simp only [Act.put, List.setIfInBounds_toArray, List.set_cons_zero, List.set_cons_succ, i64_w, i32_w]
           rfl
          refine one_ (i := 9) (N := some 8) #[true, true, true, true, true, true, true, true, true, true, false, false] rfl rfl (one_of HT_.out (by kernel_rfl)) (by decide) (fun K hK => ?_)
          refine box_step ?hg (N := 8) ?hd (cs := #[.slice none 0 0, .int .i64 0]) (t := 75) ?hr ?_; (case hd => rfl); (case hg => rfl); (case hr => first | (go_simp; done) | (go_simp; rfl))
          intro gb215 hg w14 hbox hb
          have n0_ := Aside0.mk (blk_below (g := gb214) (o := .cells #[.slice none 0 0, .int .i64 0] 75 (0, 0)) (impl_heads_Less_vb BK214) hb)
          have n1_ := Aside0.mk (below_step (impl_heads_Less_auHB) hb)
          have n2_ := Aside0.mk (hbox)
          have n3_ := Aside0.mk ((by rw [hg]; exact (below_size (impl_heads_Less_auHB)) : w.heap.size ≤ gb215))
          have n4_ := Aside0.mk ((by rw [hg]; exact (below_size (impl_heads_Less_auHB)) : w.heap.size ≤ gb215))
          have n5_ := Aside0.mk ((by rw [hg]; exact Nat.ne_of_lt (blk_lt (g := gb214) (o := .cells #[.slice none 0 0, .int .i64 0] 75 (0, 0)) (impl_heads_Less_vb BK214)) : gb214 ≠ gb215))
          have n6_ := Aside0.mk ((by rw [hg]; exact Nat.ne_of_gt (blk_lt (g := gb214) (o := .cells #[.slice none 0 0, .int .i64 0] 75 (0, 0)) (impl_heads_Less_vb BK214)) : gb215 ≠ gb214))
          clear BK214
          clear HB
          have BK214 := n0_
          have HB := n1_
          have BK215 := n2_
          have GW215 := n3_
          have GE215 := n4_
          have NB214_215 := n5_
          have NB215_214 := n6_
          clear n0_ n1_ n2_ n3_ n4_ n5_ n6_
          clear hb hbox hg
          refine hK.out _ _ ⟨((HB.out.cell (World.block_lt_of_cell? w _ hw212_0)).trans hw212_0), ((HB.out.cell (World.block_lt_of_cell? w _ hw212_1)).trans hw212_1), ((HB.out.cell (World.block_lt_of_cell? w _ hw213_0)).trans hw213_0), ((HB.out.cell (World.block_lt_of_cell? w _ hw213_1)).trans hw213_1)⟩ (fun hHeld => ?_)
          clear hK K
          refine norm_ (a' := ?_) ?_ ?_
          rotate_left
          ·
           show Act.put _ (some 8) _ = _
           simp only [Act.put, List.setIfInBounds_toArray, List.set_cons_zero, List.set_cons_succ, i64_w, i32_w]
           rfl
          exact norm_ (by simp only [putAll, Act.put, List.setIfInBounds_toArray, List.set_cons_zero, List.set_cons_succ]) (hCont (gb214, gb215) _ ⟨hHeld, (impl_heads_Less_vb BK214), (impl_heads_Less_vb BK215), GW214.out, GE214.out, NB215_214.out, NB214_215.out, GW215.out, GE215.out, (impl_heads_Less_auHB)⟩)
         ·
          skip
          refine box_step ?hg (N := 8) ?hd (cs := #[.slice none 0 0, .int .i64 0]) (t := 75) ?hr ?_; (case hd => rfl); (case hg => rfl); (case hr => first | (go_simp; done) | (go_simp; rfl))
          intro gb215 hg w13 hbox hb
          have n0_ := Aside0.mk (below_step (impl_heads_Less_auHB) hb)
          have n1_ := Aside0.mk (hbox)
          have n2_ := Aside0.mk ((by rw [hg]; exact (below_size (impl_heads_Less_auHB)) : w.heap.size ≤ gb215))
          have n3_ := Aside0.mk ((by rw [hg]; exact (below_size (impl_heads_Less_auHB)) : w.heap.size ≤ gb215))
          clear HB
          have HB := n0_
          have BK215 := n1_
          have GW215 := n2_
          have GE215 := n3_
          clear n0_ n1_ n2_ n3_
          clear hb hbox hg
          refine hK.out _ _ ⟨((HB.out.cell (World.block_lt_of_cell? w _ hw212_0)).trans hw212_0), ((HB.out.cell (World.block_lt_of_cell? w _ hw212_1)).trans hw212_1), ((HB.out.cell (World.block_lt_of_cell? w _ hw213_0)).trans hw213_0), ((HB.out.cell (World.block_lt_of_cell? w _ hw213_1)).trans hw213_1)⟩ (fun hHeld => ?_)
          clear hK K
          refine norm_ (a' := ?_) ?_ ?_
          rotate_left
          ·
           show Act.put _ (some 8) _ = _
           simp only [Act.put, List.setIfInBounds_toArray, List.set_cons_zero, List.set_cons_succ, i64_w, i32_w]
           rfl
          refine one_ (i := 8) (N := some 7) #[true, true, true, true, true, true, true, true, true, true, false, false] rfl rfl (one_of HT_.out (by kernel_rfl)) (by decide) (fun K hK => ?_)
          refine box_step ?hg (N := 7) ?hd (cs := #[.slice none 0 0, .int .i64 0]) (t := 75) ?hr ?_; (case hd => rfl); (case hg => rfl); (case hr => first | (go_simp; done) | (go_simp; rfl))
          intro gb214 hg w14 hbox hb
          have n0_ := Aside0.mk (blk_below (g := gb215) (o := .cells #[.slice none 0 0, .int .i64 0] 75 (0, 0)) (impl_heads_Less_vb BK215) hb)
          have n1_ := Aside0.mk (below_step (impl_heads_Less_auHB) hb)
          have n2_ := Aside0.mk (hbox)
          have n3_ := Aside0.mk ((by rw [hg]; exact (below_size (impl_heads_Less_auHB)) : w.heap.size ≤ gb214))
          have n4_ := Aside0.mk ((by rw [hg]; exact (below_size (impl_heads_Less_auHB)) : w.heap.size ≤ gb214))
          have n5_ := Aside0.mk ((by rw [hg]; exact Nat.ne_of_lt (blk_lt (g := gb215) (o := .cells #[.slice none 0 0, .int .i64 0] 75 (0, 0)) (impl_heads_Less_vb BK215)) : gb215 ≠ gb214))
          have n6_ := Aside0.mk ((by rw [hg]; exact Nat.ne_of_gt (blk_lt (g := gb215) (o := .cells #[.slice none 0 0, .int .i64 0] 75 (0, 0)) (impl_heads_Less_vb BK215)) : gb214 ≠ gb215))
          clear BK215
          clear HB
          have BK215 := n0_
          have HB := n1_
          have BK214 := n2_
          have GW214 := n3_
          have GE214 := n4_
          have NB215_214 := n5_
          have NB214_215 := n6_
          clear n0_ n1_ n2_ n3_ n4_ n5_ n6_
          clear hb hbox hg
          refine hK.out _ _ ⟨((HB.out.cell (World.block_lt_of_cell? w _ hw212_0)).trans hw212_0), ((HB.out.cell (World.block_lt_of_cell? w _ hw212_1)).trans hw212_1), ((HB.out.cell (World.block_lt_of_cell? w _ hw213_0)).trans hw213_0), ((HB.out.cell (World.block_lt_of_cell? w _ hw213_1)).trans hw213_1)⟩ (fun hHeld => ?_)
          clear hK K
          refine norm_ (a' := ?_) ?_ ?_
          rotate_left
          ·
           show Act.put _ (some 7) _ = _
           simp only [Act.put, List.setIfInBounds_toArray, List.set_cons_zero, List.set_cons_succ, i64_w, i32_w]
           rfl
          exact norm_ (by simp only [putAll, Act.put, List.setIfInBounds_toArray, List.set_cons_zero, List.set_cons_succ]) (hCont (gb214, gb215) _ ⟨hHeld, (impl_heads_Less_vb BK214), (impl_heads_Less_vb BK215), GW214.out, GE214.out, NB215_214.out, NB214_215.out, GW215.out, GE215.out, (impl_heads_Less_auHB)⟩)
        rintro ⟨gb214, gb215⟩ w15 ⟨hS_, h0_, h1_, h2_, h3_, h4_, h5_, h6_, h7_, h8_⟩
        have n0_ : Aside0 (w15.heap[gb214]? = some (.cells #[.slice none 0 0, .int .i64 0] 75 (0, 0))) := ⟨h0_⟩
        have n1_ : Aside0 (w15.heap[gb215]? = some (.cells #[.slice none 0 0, .int .i64 0] 75 (0, 0))) := ⟨h1_⟩
        have n2_ : Aside0 (w.heap.size ≤ gb214) := ⟨h2_⟩
        have n3_ : Aside0 (w.heap.size ≤ gb214) := ⟨h3_⟩
        have n4_ : Aside0 (gb215 ≠ gb214) := ⟨h4_⟩
        have n5_ : Aside0 (gb214 ≠ gb215) := ⟨h5_⟩
        have n6_ : Aside0 (w.heap.size ≤ gb215) := ⟨h6_⟩
        have n7_ : Aside0 (w.heap.size ≤ gb215) := ⟨h7_⟩
        have n8_ : Aside0 (Below w.heap.size w w15) := ⟨h8_⟩
        clear HB
        clear h0_ h1_ h2_ h3_ h4_ h5_ h6_ h7_ h8_
        have BK214 := n0_
        have BK215 := n1_
        have GW214 := n2_
        have GE214 := n3_
        have NB215_214 := n4_
        have NB214_215 := n5_
        have GW215 := n6_
        have GE215 := n7_
        have HB := n8_
        clear n0_ n1_ n2_ n3_ n4_ n5_ n6_ n7_ n8_
        have hHeld : w15.cell? (ad212.add ((a1).toNat * 2)) = some (.slice A212_0 ((rd_T75 l0 a1).f0).length c212_0) ∧ w15.cell? ⟨(ad212.add ((a1).toNat * 2)).block, (ad212.add ((a1).toNat * 2)).off + 1, none⟩ = some (.int .i64 ((rd_T75 l0 a1).f1)) ∧ w15.cell? (ad212.add ((a2).toNat * 2)) = some (.slice A213_0 ((rd_T75 l0 a2).f0).length c213_0) ∧ w15.cell? ⟨(ad212.add ((a2).toNat * 2)).block, (ad212.add ((a2).toNat * 2)).off + 1, none⟩ = some (.int .i64 ((rd_T75 l0 a2).f1)) := hS_
        refine norm_ (a' := ?_) ?_ ?_
        rotate_left
        ·
         simp only [putAll, Act.put, List.setIfInBounds_toArray, List.set_cons_zero, List.set_cons_succ]
         rfl
        refine one_ (i := 10) (N := none) #[true, true, true, true, true, true, true, true, true, true, true, false] rfl rfl (one_of HT_.out (by kernel_rfl)) (by decide) (fun K hK => ?_)
        have hs16 : w15.cell? ⟨gb214, 0, none⟩ = some (.slice none 0 0) := (blk_cell BK214.out 0).trans rfl
        have hfs16 := blk_frozen BK214.out 0
        have hns16_1 := NB215_214.out
        have hms16_1 := NB214_215.out
        have hs17 : w15.cell? ⟨gb214, 1, none⟩ = some (.int .i64 0) := (blk_cell BK214.out 1).trans rfl
        have hfs17 := blk_frozen BK214.out 1
        have hns17_1 := NB215_214.out
        have hms17_1 := NB214_215.out
        refine skip_ (w1 := ?_) (by rfl) rfl ?_ ?_
        rotate_left
        ·
         go_simp
         rfl
        refine hK.out _ _ ⟨((cell_far (p := ⟨gb214, _, none⟩) (by first | exact Nat.ne_of_lt (Nat.lt_of_lt_of_le (by have := World.block_lt_of_cell? _ _ hw212_0; first | rwa [add_block] at this | exact this) GW214.out) | (rw [add_block]; exact Nat.ne_of_lt (Nat.lt_of_lt_of_le (by have := World.block_lt_of_cell? _ _ hw212_0; first | rwa [add_block] at this | exact this) GW214.out)) | (show (Addr.add _ _).block ≠ _; rw [add_block]; exact Nat.ne_of_lt (Nat.lt_of_lt_of_le (by have := World.block_lt_of_cell? _ _ hw212_0; first | rwa [add_block] at this | exact this) GW214.out)) | (dsimp only; exact Nat.ne_of_lt (Nat.lt_of_lt_of_le (by have := World.block_lt_of_cell? _ _ hw212_0; first | rwa [add_block] at this | exact this) GW214.out))) _).trans (((cell_far (p := ⟨gb214, _, none⟩) (by first | exact Nat.ne_of_lt (Nat.lt_of_lt_of_le (by have := World.block_lt_of_cell? _ _ hw212_0; first | rwa [add_block] at this | exact this) GW214.out) | (rw [add_block]; exact Nat.ne_of_lt (Nat.lt_of_lt_of_le (by have := World.block_lt_of_cell? _ _ hw212_0; first | rwa [add_block] at this | exact this) GW214.out)) | (show (Addr.add _ _).block ≠ _; rw [add_block]; exact Nat.ne_of_lt (Nat.lt_of_lt_of_le (by have := World.block_lt_of_cell? _ _ hw212_0; first | rwa [add_block] at this | exact this) GW214.out)) | (dsimp only; exact Nat.ne_of_lt (Nat.lt_of_lt_of_le (by have := World.block_lt_of_cell? _ _ hw212_0; first | rwa [add_block] at this | exact this) GW214.out))) _).trans (hHeld.1)))), ((cell_far (p := ⟨gb214, _, none⟩) (by first | exact Nat.ne_of_lt (Nat.lt_of_lt_of_le (by have := World.block_lt_of_cell? _ _ hw212_1; first | rwa [add_block] at this | exact this) GW214.out) | (rw [add_block]; exact Nat.ne_of_lt (Nat.lt_of_lt_of_le (by have := World.block_lt_of_cell? _ _ hw212_1; first | rwa [add_block] at this | exact this) GW214.out)) | (show (Addr.add _ _).block ≠ _; rw [add_block]; exact Nat.ne_of_lt (Nat.lt_of_lt_of_le (by have := World.block_lt_of_cell? _ _ hw212_1; first | rwa [add_block] at this | exact this) GW214.out)) | (dsimp only; exact Nat.ne_of_lt (Nat.lt_of_lt_of_le (by have := World.block_lt_of_cell? _ _ hw212_1; first | rwa [add_block] at this | exact this) GW214.out))) _).trans (((cell_far (p := ⟨gb214, _, none⟩) (by first | exact Nat.ne_of_lt (Nat.lt_of_lt_of_le (by have := World.block_lt_of_cell? _ _ hw212_1; first | rwa [add_block] at this | exact this) GW214.out) | (rw [add_block]; exact Nat.ne_of_lt (Nat.lt_of_lt_of_le (by have := World.block_lt_of_cell? _ _ hw212_1; first | rwa [add_block] at this | exact this) GW214.out)) | (show (Addr.add _ _).block ≠ _; rw [add_block]; exact Nat.ne_of_lt (Nat.lt_of_lt_of_le (by have := World.block_lt_of_cell? _ _ hw212_1; first | rwa [add_block] at this | exact this) GW214.out)) | (dsimp only; exact Nat.ne_of_lt (Nat.lt_of_lt_of_le (by have := World.block_lt_of_cell? _ _ hw212_1; first | rwa [add_block] at this | exact this) GW214.out))) _).trans (hHeld.2.1)))), ((cell_far (p := ⟨gb214, _, none⟩) (by first | exact Nat.ne_of_lt (Nat.lt_of_lt_of_le (by have := World.block_lt_of_cell? _ _ hw213_0; first | rwa [add_block] at this | exact this) GW214.out) | (rw [add_block]; exact Nat.ne_of_lt (Nat.lt_of_lt_of_le (by have := World.block_lt_of_cell? _ _ hw213_0; first | rwa [add_block] at this | exact this) GW214.out)) | (show (Addr.add _ _).block ≠ _; rw [add_block]; exact Nat.ne_of_lt (Nat.lt_of_lt_of_le (by have := World.block_lt_of_cell? _ _ hw213_0; first | rwa [add_block] at this | exact this) GW214.out)) | (dsimp only; exact Nat.ne_of_lt (Nat.lt_of_lt_of_le (by have := World.block_lt_of_cell? _ _ hw213_0; first | rwa [add_block] at this | exact this) GW214.out))) _).trans (((cell_far (p := ⟨gb214, _, none⟩) (by first | exact Nat.ne_of_lt (Nat.lt_of_lt_of_le (by have := World.block_lt_of_cell? _ _ hw213_0; first | rwa [add_block] at this | exact this) GW214.out) | (rw [add_block]; exact Nat.ne_of_lt (Nat.lt_of_lt_of_le (by have := World.block_lt_of_cell? _ _ hw213_0; first | rwa [add_block] at this | exact this) GW214.out)) | (show (Addr.add _ _).block ≠ _; rw [add_block]; exact Nat.ne_of_lt (Nat.lt_of_lt_of_le (by have := World.block_lt_of_cell? _ _ hw213_0; first | rwa [add_block] at this | exact this) GW214.out)) | (dsimp only; exact Nat.ne_of_lt (Nat.lt_of_lt_of_le (by have := World.block_lt_of_cell? _ _ hw213_0; first | rwa [add_block] at this | exact this) GW214.out))) _).trans (hHeld.2.2.1)))), ((cell_far (p := ⟨gb214, _, none⟩) (by first | exact Nat.ne_of_lt (Nat.lt_of_lt_of_le (by have := World.block_lt_of_cell? _ _ hw213_1; first | rwa [add_block] at this | exact this) GW214.out) | (rw [add_block]; exact Nat.ne_of_lt (Nat.lt_of_lt_of_le (by have := World.block_lt_of_cell? _ _ hw213_1; first | rwa [add_block] at this | exact this) GW214.out)) | (show (Addr.add _ _).block ≠ _; rw [add_block]; exact Nat.ne_of_lt (Nat.lt_of_lt_of_le (by have := World.block_lt_of_cell? _ _ hw213_1; first | rwa [add_block] at this | exact this) GW214.out)) | (dsimp only; exact Nat.ne_of_lt (Nat.lt_of_lt_of_le (by have := World.block_lt_of_cell? _ _ hw213_1; first | rwa [add_block] at this | exact this) GW214.out))) _).trans (((cell_far (p := ⟨gb214, _, none⟩) (by first | exact Nat.ne_of_lt (Nat.lt_of_lt_of_le (by have := World.block_lt_of_cell? _ _ hw213_1; first | rwa [add_block] at this | exact this) GW214.out) | (rw [add_block]; exact Nat.ne_of_lt (Nat.lt_of_lt_of_le (by have := World.block_lt_of_cell? _ _ hw213_1; first | rwa [add_block] at this | exact this) GW214.out)) | (show (Addr.add _ _).block ≠ _; rw [add_block]; exact Nat.ne_of_lt (Nat.lt_of_lt_of_le (by have := World.block_lt_of_cell? _ _ hw213_1; first | rwa [add_block] at this | exact this) GW214.out)) | (dsimp only; exact Nat.ne_of_lt (Nat.lt_of_lt_of_le (by have := World.block_lt_of_cell? _ _ hw213_1; first | rwa [add_block] at this | exact this) GW214.out))) _).trans (hHeld.2.2.2))))⟩ (fun hHeld => ?_)
        clear hK K
        refine one_ (i := 11) (N := none) #[true, true, true, true, true, true, true, true, true, true, true, true] rfl rfl (one_of HT_.out (by kernel_rfl)) (by decide) (fun K hK => ?_)
        have hs18 : w15.cell? ⟨gb215, 0, none⟩ = some (.slice none 0 0) := (blk_cell BK215.out 0).trans rfl
        have hfs18 := blk_frozen BK215.out 0
        have hns18_0 := NB214_215.out
        have hms18_0 := NB215_214.out
        have hs19 : w15.cell? ⟨gb215, 1, none⟩ = some (.int .i64 0) := (blk_cell BK215.out 1).trans rfl
        have hfs19 := blk_frozen BK215.out 1
        have hns19_0 := NB214_215.out
        have hms19_0 := NB215_214.out
        refine skip_ (w1 := ?_) (by rfl) rfl ?_ ?_
        rotate_left
        ·
         go_simp
         rfl
        refine hK.out _ _ ⟨((cell_far (p := ⟨gb215, _, none⟩) (by first | exact Nat.ne_of_lt (Nat.lt_of_lt_of_le (by have := World.block_lt_of_cell? _ _ hw212_0; first | rwa [add_block] at this | exact this) GW215.out) | (rw [add_block]; exact Nat.ne_of_lt (Nat.lt_of_lt_of_le (by have := World.block_lt_of_cell? _ _ hw212_0; first | rwa [add_block] at this | exact this) GW215.out)) | (show (Addr.add _ _).block ≠ _; rw [add_block]; exact Nat.ne_of_lt (Nat.lt_of_lt_of_le (by have := World.block_lt_of_cell? _ _ hw212_0; first | rwa [add_block] at this | exact this) GW215.out)) | (dsimp only; exact Nat.ne_of_lt (Nat.lt_of_lt_of_le (by have := World.block_lt_of_cell? _ _ hw212_0; first | rwa [add_block] at this | exact this) GW215.out))) _).trans (((cell_far (p := ⟨gb215, _, none⟩) (by first | exact Nat.ne_of_lt (Nat.lt_of_lt_of_le (by have := World.block_lt_of_cell? _ _ hw212_0; first | rwa [add_block] at this | exact this) GW215.out) | (rw [add_block]; exact Nat.ne_of_lt (Nat.lt_of_lt_of_le (by have := World.block_lt_of_cell? _ _ hw212_0; first | rwa [add_block] at this | exact this) GW215.out)) | (show (Addr.add _ _).block ≠ _; rw [add_block]; exact Nat.ne_of_lt (Nat.lt_of_lt_of_le (by have := World.block_lt_of_cell? _ _ hw212_0; first | rwa [add_block] at this | exact this) GW215.out)) | (dsimp only; exact Nat.ne_of_lt (Nat.lt_of_lt_of_le (by have := World.block_lt_of_cell? _ _ hw212_0; first | rwa [add_block] at this | exact this) GW215.out))) _).trans (hHeld.1)))), ((cell_far (p := ⟨gb215, _, none⟩) (by first | exact Nat.ne_of_lt (Nat.lt_of_lt_of_le (by have := World.block_lt_of_cell? _ _ hw212_1; first | rwa [add_block] at this | exact this) GW215.out) | (rw [add_block]; exact Nat.ne_of_lt (Nat.lt_of_lt_of_le (by have := World.block_lt_of_cell? _ _ hw212_1; first | rwa [add_block] at this | exact this) GW215.out)) | (show (Addr.add _ _).block ≠ _; rw [add_block]; exact Nat.ne_of_lt (Nat.lt_of_lt_of_le (by have := World.block_lt_of_cell? _ _ hw212_1; first | rwa [add_block] at this | exact this) GW215.out)) | (dsimp only; exact Nat.ne_of_lt (Nat.lt_of_lt_of_le (by have := World.block_lt_of_cell? _ _ hw212_1; first | rwa [add_block] at this | exact this) GW215.out))) _).trans (((cell_far (p := ⟨gb215, _, none⟩) (by first | exact Nat.ne_of_lt (Nat.lt_of_lt_of_le (by have := World.block_lt_of_cell? _ _ hw212_1; first | rwa [add_block] at this | exact this) GW215.out) | (rw [add_block]; exact Nat.ne_of_lt (Nat.lt_of_lt_of_le (by have := World.block_lt_of_cell? _ _ hw212_1; first | rwa [add_block] at this | exact this) GW215.out)) | (show (Addr.add _ _).block ≠ _; rw [add_block]; exact Nat.ne_of_lt (Nat.lt_of_lt_of_le (by have := World.block_lt_of_cell? _ _ hw212_1; first | rwa [add_block] at this | exact this) GW215.out)) | (dsimp only; exact Nat.ne_of_lt (Nat.lt_of_lt_of_le (by have := World.block_lt_of_cell? _ _ hw212_1; first | rwa [add_block] at this | exact this) GW215.out))) _).trans (hHeld.2.1)))), ((cell_far (p := ⟨gb215, _, none⟩) (by first | exact Nat.ne_of_lt (Nat.lt_of_lt_of_le (by have := World.block_lt_of_cell? _ _ hw213_0; first | rwa [add_block] at this | exact this) GW215.out) | (rw [add_block]; exact Nat.ne_of_lt (Nat.lt_of_lt_of_le (by have := World.block_lt_of_cell? _ _ hw213_0; first | rwa [add_block] at this | exact this) GW215.out)) | (show (Addr.add _ _).block ≠ _; rw [add_block]; exact Nat.ne_of_lt (Nat.lt_of_lt_of_le (by have := World.block_lt_of_cell? _ _ hw213_0; first | rwa [add_block] at this | exact this) GW215.out)) | (dsimp only; exact Nat.ne_of_lt (Nat.lt_of_lt_of_le (by have := World.block_lt_of_cell? _ _ hw213_0; first | rwa [add_block] at this | exact this) GW215.out))) _).trans (((cell_far (p := ⟨gb215, _, none⟩) (by first | exact Nat.ne_of_lt (Nat.lt_of_lt_of_le (by have := World.block_lt_of_cell? _ _ hw213_0; first | rwa [add_block] at this | exact this) GW215.out) | (rw [add_block]; exact Nat.ne_of_lt (Nat.lt_of_lt_of_le (by have := World.block_lt_of_cell? _ _ hw213_0; first | rwa [add_block] at this | exact this) GW215.out)) | (show (Addr.add _ _).block ≠ _; rw [add_block]; exact Nat.ne_of_lt (Nat.lt_of_lt_of_le (by have := World.block_lt_of_cell? _ _ hw213_0; first | rwa [add_block] at this | exact this) GW215.out)) | (dsimp only; exact Nat.ne_of_lt (Nat.lt_of_lt_of_le (by have := World.block_lt_of_cell? _ _ hw213_0; first | rwa [add_block] at this | exact this) GW215.out))) _).trans (hHeld.2.2.1)))), ((cell_far (p := ⟨gb215, _, none⟩) (by first | exact Nat.ne_of_lt (Nat.lt_of_lt_of_le (by have := World.block_lt_of_cell? _ _ hw213_1; first | rwa [add_block] at this | exact this) GW215.out) | (rw [add_block]; exact Nat.ne_of_lt (Nat.lt_of_lt_of_le (by have := World.block_lt_of_cell? _ _ hw213_1; first | rwa [add_block] at this | exact this) GW215.out)) | (show (Addr.add _ _).block ≠ _; rw [add_block]; exact Nat.ne_of_lt (Nat.lt_of_lt_of_le (by have := World.block_lt_of_cell? _ _ hw213_1; first | rwa [add_block] at this | exact this) GW215.out)) | (dsimp only; exact Nat.ne_of_lt (Nat.lt_of_lt_of_le (by have := World.block_lt_of_cell? _ _ hw213_1; first | rwa [add_block] at this | exact this) GW215.out))) _).trans (((cell_far (p := ⟨gb215, _, none⟩) (by first | exact Nat.ne_of_lt (Nat.lt_of_lt_of_le (by have := World.block_lt_of_cell? _ _ hw213_1; first | rwa [add_block] at this | exact this) GW215.out) | (rw [add_block]; exact Nat.ne_of_lt (Nat.lt_of_lt_of_le (by have := World.block_lt_of_cell? _ _ hw213_1; first | rwa [add_block] at this | exact this) GW215.out)) | (show (Addr.add _ _).block ≠ _; rw [add_block]; exact Nat.ne_of_lt (Nat.lt_of_lt_of_le (by have := World.block_lt_of_cell? _ _ hw213_1; first | rwa [add_block] at this | exact this) GW215.out)) | (dsimp only; exact Nat.ne_of_lt (Nat.lt_of_lt_of_le (by have := World.block_lt_of_cell? _ _ hw213_1; first | rwa [add_block] at this | exact this) GW215.out))) _).trans (hHeld.2.2.2))))⟩ (fun hHeld => ?_)
        clear hK K
        refine done_ (done_of HT_.out (by kernel_rfl)) ?_
        try go_wp2
        have n0_ : Aside0 (((((w15.setCell ⟨gb214, 0, none⟩ (.slice A212_0 ((rd_T75 l0 a1).f0).length c212_0)).setCell ⟨gb214, 1, none⟩ (.int .i64 ((rd_T75 l0 a1).f1))).setCell ⟨gb215, 0, none⟩ (.slice A213_0 ((rd_T75 l0 a2).f0).length c213_0)).setCell ⟨gb215, 1, none⟩ (.int .i64 ((rd_T75 l0 a2).f1))).heap[gb214]? = some (.cells #[.slice A212_0 ((rd_T75 l0 a1).f0).length c212_0, .int .i64 ((rd_T75 l0 a1).f1)] 75 (0, 0))) := ⟨by (with_reducible repeat (first | refine blk_drewN ?_ _ | refine blk_drew ?_ | refine blk_alloc ?_ _)); refine blk_far ?_ NB214_215.out _; (with_reducible repeat (first | refine blk_drewN ?_ _ | refine blk_drew ?_ | refine blk_alloc ?_ _)); refine blk_far ?_ NB214_215.out _; (with_reducible repeat (first | refine blk_drewN ?_ _ | refine blk_drew ?_ | refine blk_alloc ?_ _)); refine blk_put (cs := #[.slice A212_0 ((rd_T75 l0 a1).f0).length c212_0, .int .i64 0]) ?_ 1 _ rfl; (with_reducible repeat (first | refine blk_drewN ?_ _ | refine blk_drew ?_ | refine blk_alloc ?_ _)); refine blk_put (cs := #[.slice none 0 0, .int .i64 0]) ?_ 0 _ rfl; (with_reducible repeat (first | refine blk_drewN ?_ _ | refine blk_drew ?_ | refine blk_alloc ?_ _)); exact BK214.out⟩
        have n1_ : Aside0 (((((w15.setCell ⟨gb214, 0, none⟩ (.slice A212_0 ((rd_T75 l0 a1).f0).length c212_0)).setCell ⟨gb214, 1, none⟩ (.int .i64 ((rd_T75 l0 a1).f1))).setCell ⟨gb215, 0, none⟩ (.slice A213_0 ((rd_T75 l0 a2).f0).length c213_0)).setCell ⟨gb215, 1, none⟩ (.int .i64 ((rd_T75 l0 a2).f1))).heap[gb215]? = some (.cells #[.slice A213_0 ((rd_T75 l0 a2).f0).length c213_0, .int .i64 ((rd_T75 l0 a2).f1)] 75 (0, 0))) := ⟨by (with_reducible repeat (first | refine blk_drewN ?_ _ | refine blk_drew ?_ | refine blk_alloc ?_ _)); refine blk_put (cs := #[.slice A213_0 ((rd_T75 l0 a2).f0).length c213_0, .int .i64 0]) ?_ 1 _ rfl; (with_reducible repeat (first | refine blk_drewN ?_ _ | refine blk_drew ?_ | refine blk_alloc ?_ _)); refine blk_put (cs := #[.slice none 0 0, .int .i64 0]) ?_ 0 _ rfl; (with_reducible repeat (first | refine blk_drewN ?_ _ | refine blk_drew ?_ | refine blk_alloc ?_ _)); refine blk_far ?_ NB215_214.out _; (with_reducible repeat (first | refine blk_drewN ?_ _ | refine blk_drew ?_ | refine blk_alloc ?_ _)); refine blk_far ?_ NB215_214.out _; (with_reducible repeat (first | refine blk_drewN ?_ _ | refine blk_drew ?_ | refine blk_alloc ?_ _)); exact BK215.out⟩
        have n2_ : Aside0 (Below w.heap.size w ((((w15.setCell ⟨gb214, 0, none⟩ (.slice A212_0 ((rd_T75 l0 a1).f0).length c212_0)).setCell ⟨gb214, 1, none⟩ (.int .i64 ((rd_T75 l0 a1).f1))).setCell ⟨gb215, 0, none⟩ (.slice A213_0 ((rd_T75 l0 a2).f0).length c213_0)).setCell ⟨gb215, 1, none⟩ (.int .i64 ((rd_T75 l0 a2).f1)))) := ⟨impl_heads_Less_auHB⟩
        (try clear BK214)
        (try clear BK215)
        (try clear HB)
        generalize ((((w15.setCell ⟨gb214, 0, none⟩ (.slice A212_0 ((rd_T75 l0 a1).f0).length c212_0)).setCell ⟨gb214, 1, none⟩ (.int .i64 ((rd_T75 l0 a1).f1))).setCell ⟨gb215, 0, none⟩ (.slice A213_0 ((rd_T75 l0 a2).f0).length c213_0)).setCell ⟨gb215, 1, none⟩ (.int .i64 ((rd_T75 l0 a2).f1))) = w20 at n0_ n1_ n2_ ⊢
        have BK214 := n0_
        have BK215 := n1_
        have HB := n2_
        clear n0_ n1_ n2_
        have n0_ := Aside0.mk (blk_drew BK214.out)
        have n1_ := Aside0.mk (blk_drew BK215.out)
        have n2_ := Aside0.mk (below_drew1 HB.out)
        clear BK214
        clear BK215
        clear HB
        have BK214 := n0_
        have BK215 := n1_
        have HB := n2_
        clear n0_ n1_ n2_
        have p216 : 0 ≤ (0 : Int) := (by omega)
        have q216 : 0 < (((rd_T75 l0 a1).f0).length : Int) := of_decide_eq_true (by first | (with_reducible assumption) | assumption)
        obtain ⟨ad216, e216, hx216_0, hx216_1, hx216_2, hx216_3, hx216_4⟩ := at_T48 HR212_0.out 0 p216 q216
        have hw216_4 := hx216_4
        (try rw [show ((0 : Int)).toNat = 0 from rfl] at hw216_4)
        (try rw [show 0 * 5 = 0 from rfl] at hw216_4)
        (try rw [Addr.add_zero'] at hw216_4)
        have hw216_3 := hx216_3
        (try rw [show ((0 : Int)).toNat = 0 from rfl] at hw216_3)
        (try rw [show 0 * 5 = 0 from rfl] at hw216_3)
        (try rw [Addr.add_zero'] at hw216_3)
        have hw216_2 := hx216_2
        (try rw [show ((0 : Int)).toNat = 0 from rfl] at hw216_2)
        (try rw [show 0 * 5 = 0 from rfl] at hw216_2)
        (try rw [Addr.add_zero'] at hw216_2)
        have hw216_1 := hx216_1
        (try rw [show ((0 : Int)).toNat = 0 from rfl] at hw216_1)
        (try rw [show 0 * 5 = 0 from rfl] at hw216_1)
        (try rw [Addr.add_zero'] at hw216_1)
        have hw216_0 := hx216_0
        (try rw [show ((0 : Int)).toNat = 0 from rfl] at hw216_0)
        (try rw [show 0 * 5 = 0 from rfl] at hw216_0)
        (try rw [Addr.add_zero'] at hw216_0)
        cases e216
        have qi216 : (0 < ((rd_T75 l0 a1).f0).length) = True := eq_true (by omega)
        (try rw [show ((0 : Int)).toNat = 0 from rfl] at hx216_0)
        (try rw [show 0 * 5 = 0 from rfl] at hx216_0)
        (try rw [Addr.add_zero'] at hx216_0)
        (try rw [show ((0 : Int)).toNat = 0 from rfl] at hx216_1)
        (try rw [show 0 * 5 = 0 from rfl] at hx216_1)
        (try rw [Addr.add_zero'] at hx216_1)
        (try rw [show ((0 : Int)).toNat = 0 from rfl] at hx216_2)
        (try rw [show 0 * 5 = 0 from rfl] at hx216_2)
        (try rw [Addr.add_zero'] at hx216_2)
        (try rw [show ((0 : Int)).toNat = 0 from rfl] at hx216_3)
        (try rw [show 0 * 5 = 0 from rfl] at hx216_3)
        (try rw [Addr.add_zero'] at hx216_3)
        (try rw [show ((0 : Int)).toNat = 0 from rfl] at hx216_4)
        (try rw [show 0 * 5 = 0 from rfl] at hx216_4)
        (try rw [Addr.add_zero'] at hx216_4)
        replace hx216_0 := (HB.out.cell (World.block_lt_of_cell? w _ hx216_0)).trans hx216_0
        replace hx216_1 := (HB.out.cell (World.block_lt_of_cell? w _ hx216_1)).trans hx216_1
        replace hx216_2 := (HB.out.cell (World.block_lt_of_cell? w _ hx216_2)).trans hx216_2
        replace hx216_3 := (HB.out.cell (World.block_lt_of_cell? w _ hx216_3)).trans hx216_3
        replace hx216_4 := (HB.out.cell (World.block_lt_of_cell? w _ hx216_4)).trans hx216_4
        replace p216 := eq_true p216
        replace q216 := eq_true q216
        have p217 : 0 ≤ (0 : Int) := (by omega)
        have q217 : 0 < (((rd_T75 l0 a2).f0).length : Int) := of_decide_eq_true (by first | (with_reducible assumption) | assumption)
        obtain ⟨ad217, e217, hx217_0, hx217_1, hx217_2, hx217_3, hx217_4⟩ := at_T48 HR213_0.out 0 p217 q217
        have hw217_4 := hx217_4
        (try rw [show ((0 : Int)).toNat = 0 from rfl] at hw217_4)
        (try rw [show 0 * 5 = 0 from rfl] at hw217_4)
        (try rw [Addr.add_zero'] at hw217_4)
        have hw217_3 := hx217_3
        (try rw [show ((0 : Int)).toNat = 0 from rfl] at hw217_3)
        (try rw [show 0 * 5 = 0 from rfl] at hw217_3)
        (try rw [Addr.add_zero'] at hw217_3)
        have hw217_2 := hx217_2
        (try rw [show ((0 : Int)).toNat = 0 from rfl] at hw217_2)
        (try rw [show 0 * 5 = 0 from rfl] at hw217_2)
        (try rw [Addr.add_zero'] at hw217_2)
        have hw217_1 := hx217_1
        (try rw [show ((0 : Int)).toNat = 0 from rfl] at hw217_1)
        (try rw [show 0 * 5 = 0 from rfl] at hw217_1)
        (try rw [Addr.add_zero'] at hw217_1)
        have hw217_0 := hx217_0
        (try rw [show ((0 : Int)).toNat = 0 from rfl] at hw217_0)
        (try rw [show 0 * 5 = 0 from rfl] at hw217_0)
        (try rw [Addr.add_zero'] at hw217_0)
        cases e217
        have qi217 : (0 < ((rd_T75 l0 a2).f0).length) = True := eq_true (by omega)
        (try rw [show ((0 : Int)).toNat = 0 from rfl] at hx217_0)
        (try rw [show 0 * 5 = 0 from rfl] at hx217_0)
        (try rw [Addr.add_zero'] at hx217_0)
        (try rw [show ((0 : Int)).toNat = 0 from rfl] at hx217_1)
        (try rw [show 0 * 5 = 0 from rfl] at hx217_1)
        (try rw [Addr.add_zero'] at hx217_1)
        (try rw [show ((0 : Int)).toNat = 0 from rfl] at hx217_2)
        (try rw [show 0 * 5 = 0 from rfl] at hx217_2)
        (try rw [Addr.add_zero'] at hx217_2)
        (try rw [show ((0 : Int)).toNat = 0 from rfl] at hx217_3)
        (try rw [show 0 * 5 = 0 from rfl] at hx217_3)
        (try rw [Addr.add_zero'] at hx217_3)
        (try rw [show ((0 : Int)).toNat = 0 from rfl] at hx217_4)
        (try rw [show 0 * 5 = 0 from rfl] at hx217_4)
        (try rw [Addr.add_zero'] at hx217_4)
        replace hx217_0 := (HB.out.cell (World.block_lt_of_cell? w _ hx217_0)).trans hx217_0
        replace hx217_1 := (HB.out.cell (World.block_lt_of_cell? w _ hx217_1)).trans hx217_1
        replace hx217_2 := (HB.out.cell (World.block_lt_of_cell? w _ hx217_2)).trans hx217_2
        replace hx217_3 := (HB.out.cell (World.block_lt_of_cell? w _ hx217_3)).trans hx217_3
        replace hx217_4 := (HB.out.cell (World.block_lt_of_cell? w _ hx217_4)).trans hx217_4
        replace p217 := eq_true p217
        replace q217 := eq_true q217
        refine start_ (n := 10) (S := fun w' => w'.cell? ⟨gb214, 0, none⟩ = some (.slice (some ad216) ((rd_T75 l0 a1).f0).length c212_0) ∧ w'.cell? ⟨gb214, 1, none⟩ = some (.int .i64 ((rd_T75 l0 a1).f1)) ∧ w'.cell? ⟨gb215, 0, none⟩ = some (.slice (some ad217) ((rd_T75 l0 a2).f0).length c213_0) ∧ w'.cell? ⟨gb215, 1, none⟩ = some (.int .i64 ((rd_T75 l0 a2).f1)) ∧ w'.cell? ad216 = some (.string ((rd_T48 ((rd_T75 l0 a1).f0) 0).f0)) ∧ w'.cell? ⟨ad216.block, ad216.off + 1, none⟩ = some (.int .i64 ((rd_T48 ((rd_T75 l0 a1).f0) 0).f1)) ∧ w'.cell? ⟨ad216.block, ad216.off + 2, none⟩ = some (.int .i64 ((rd_T48 ((rd_T75 l0 a1).f0) 0).f2)) ∧ w'.cell? ⟨ad216.block, ad216.off + 3, none⟩ = some (.string ((rd_T48 ((rd_T75 l0 a1).f0) 0).f3)) ∧ w'.cell? ⟨ad216.block, ad216.off + 4, none⟩ = some (.int .i64 ((rd_T48 ((rd_T75 l0 a1).f0) 0).f4)) ∧ w'.cell? ad217 = some (.string ((rd_T48 ((rd_T75 l0 a2).f0) 0).f0)) ∧ w'.cell? ⟨ad217.block, ad217.off + 1, none⟩ = some (.int .i64 ((rd_T48 ((rd_T75 l0 a2).f0) 0).f1)) ∧ w'.cell? ⟨ad217.block, ad217.off + 2, none⟩ = some (.int .i64 ((rd_T48 ((rd_T75 l0 a2).f0) 0).f2)) ∧ w'.cell? ⟨ad217.block, ad217.off + 3, none⟩ = some (.string ((rd_T48 ((rd_T75 l0 a2).f0) 0).f3)) ∧ w'.cell? ⟨ad217.block, ad217.off + 4, none⟩ = some (.int .i64 ((rd_T48 ((rd_T75 l0 a2).f0) 0).f4))) (ds := []) #[false, false, false, false, false, false, false, false, false, false] (by kernel_rfl) rfl rfl ⟨(blk_cell BK214.out 0).trans rfl, (blk_cell BK214.out 1).trans rfl, (blk_cell BK215.out 0).trans rfl, (blk_cell BK215.out 1).trans rfl, ((HB.out.cell (World.block_lt_of_cell? w _ hw216_0)).trans hw216_0), ((HB.out.cell (World.block_lt_of_cell? w _ hw216_1)).trans hw216_1), ((HB.out.cell (World.block_lt_of_cell? w _ hw216_2)).trans hw216_2), ((HB.out.cell (World.block_lt_of_cell? w _ hw216_3)).trans hw216_3), ((HB.out.cell (World.block_lt_of_cell? w _ hw216_4)).trans hw216_4), ((HB.out.cell (World.block_lt_of_cell? w _ hw217_0)).trans hw217_0), ((HB.out.cell (World.block_lt_of_cell? w _ hw217_1)).trans hw217_1), ((HB.out.cell (World.block_lt_of_cell? w _ hw217_2)).trans hw217_2), ((HB.out.cell (World.block_lt_of_cell? w _ hw217_3)).trans hw217_3), ((HB.out.cell (World.block_lt_of_cell? w _ hw217_4)).trans hw217_4)⟩ (fun hHeld => ?_); refine with_tabW impl_heads_Less.tab2 impl_heads_Less.bits2 (fun HT_ HW_ => ?_)
        generalize w20.drew = w21 at BK214 BK215 HB hx216_0 hx216_1 hx216_2 hx216_3 hx216_4 hx217_0 hx217_1 hx217_2 hx217_3 hx217_4 hHeld ⊢
        refine pure_ (i := 0) (N := some 18) (v := ?_) (a' := ?_) #[true, false, false, false, false, false, false, false, false, false] rfl rfl (any_of HT_.out (by kernel_rfl)) (fun _ _ _ h => h) (Or.inl ⟨by rfl, ?_⟩) ?_ ?_
        rotate_left
        ·
         intro w'
         go_simp
         with_reducible rfl
        rotate_left
        ·
         simp only [Act.put, List.setIfInBounds_toArray, List.set_cons_zero, List.set_cons_succ, i64_w, i32_w]
         rfl
        refine pure_ (i := 4) (N := some 22) (v := ?_) (a' := ?_) #[true, false, false, false, true, false, false, false, false, false] rfl rfl (any_of HT_.out (by kernel_rfl)) (fun _ _ _ h => h) (Or.inl ⟨by rfl, ?_⟩) ?_ ?_
        rotate_left
        ·
         intro w'
         go_simp
         with_reducible rfl
        rotate_left
        ·
         simp only [Act.put, List.setIfInBounds_toArray, List.set_cons_zero, List.set_cons_succ, i64_w, i32_w]
         rfl
        refine take_ (i := 1) (N := some 19) (v := ?_) (a' := ?_) #[true, true, false, false, true, false, false, false, false, false] rfl rfl (take_ofW HT_.out HW_.out (by kernel_rfl)) (fun _ _ _ h => h) (Or.inl ⟨by rfl, ?_⟩) hHeld ?_ ?_
        rotate_left
        ·
         rintro w' ⟨s0, s1, s2, s3, s4, s5, s6, s7, s8, s9, s10, s11, s12, s13⟩
         go_simp
         with_reducible rfl
        rotate_left
        ·
         simp only [Act.put, List.setIfInBounds_toArray, List.set_cons_zero, List.set_cons_succ, i64_w, i32_w]
         rfl
        refine pure_ (i := 2) (N := some 20) (v := ?_) (a' := ?_) #[true, true, true, false, true, false, false, false, false, false] rfl rfl (any_of HT_.out (by kernel_rfl)) (fun _ _ _ h => h) (Or.inl ⟨by rfl, ?_⟩) ?_ ?_
        rotate_left
        ·
         intro w'
         go_simp
         with_reducible rfl
        rotate_left
        ·
         simp only [Act.put, List.setIfInBounds_toArray, List.set_cons_zero, List.set_cons_succ, i64_w, i32_w]
         rfl
        refine take_ (i := 3) (N := some 21) (v := ?_) (a' := ?_) #[true, true, true, true, true, false, false, false, false, false] rfl rfl (take_ofW HT_.out HW_.out (by kernel_rfl)) (fun _ _ _ h => h) (Or.inl ⟨by rfl, ?_⟩) hHeld ?_ ?_
        rotate_left
        ·
         rintro w' ⟨s0, s1, s2, s3, s4, s5, s6, s7, s8, s9, s10, s11, s12, s13⟩
         go_simp
         with_reducible rfl
        rotate_left
        ·
         simp only [Act.put, List.setIfInBounds_toArray, List.set_cons_zero, List.set_cons_succ, i64_w, i32_w]
         rfl
        refine take_ (i := 5) (N := some 23) (v := ?_) (a' := ?_) #[true, true, true, true, true, true, false, false, false, false] rfl rfl (take_ofW HT_.out HW_.out (by kernel_rfl)) (fun _ _ _ h => h) (Or.inl ⟨by rfl, ?_⟩) hHeld ?_ ?_
        rotate_left
        ·
         rintro w' ⟨s0, s1, s2, s3, s4, s5, s6, s7, s8, s9, s10, s11, s12, s13⟩
         go_simp
         with_reducible rfl
        rotate_left
        ·
         simp only [Act.put, List.setIfInBounds_toArray, List.set_cons_zero, List.set_cons_succ, i64_w, i32_w]
         rfl
        refine pure_ (i := 6) (N := some 24) (v := ?_) (a' := ?_) #[true, true, true, true, true, true, true, false, false, false] rfl rfl (any_of HT_.out (by kernel_rfl)) (fun _ _ _ h => h) (Or.inl ⟨by rfl, ?_⟩) ?_ ?_
        rotate_left
        ·
         intro w'
         go_simp
         with_reducible rfl
        rotate_left
        ·
         simp only [Act.put, List.setIfInBounds_toArray, List.set_cons_zero, List.set_cons_succ, i64_w, i32_w]
         rfl
        refine take_ (i := 7) (N := some 25) (v := ?_) (a' := ?_) #[true, true, true, true, true, true, true, true, false, false] rfl rfl (take_ofW HT_.out HW_.out (by kernel_rfl)) (fun _ _ _ h => h) (Or.inl ⟨by rfl, ?_⟩) hHeld ?_ ?_
        rotate_left
        ·
         rintro w' ⟨s0, s1, s2, s3, s4, s5, s6, s7, s8, s9, s10, s11, s12, s13⟩
         go_simp
         with_reducible rfl
        rotate_left
        ·
         simp only [Act.put, List.setIfInBounds_toArray, List.set_cons_zero, List.set_cons_succ, i64_w, i32_w]
         rfl
        refine one_ (i := 8) (N := some 26) #[true, true, true, true, true, true, true, true, true, false] rfl rfl (one_of HT_.out (by kernel_rfl)) (by decide) (fun K hK => ?_)
        refine goes_ Try.func48 (by kernel_rfl) rfl #[.agg #[.string ((rd_T48 ((rd_T75 l0 a1).f0) 0).f0), .int .i64 ((rd_T48 ((rd_T75 l0 a1).f0) 0).f1), .int .i64 ((rd_T48 ((rd_T75 l0 a1).f0) 0).f2), .string ((rd_T48 ((rd_T75 l0 a1).f0) 0).f3), .int .i64 ((rd_T48 ((rd_T75 l0 a1).f0) 0).f4)], .agg #[.string ((rd_T48 ((rd_T75 l0 a2).f0) 0).f0), .int .i64 ((rd_T48 ((rd_T75 l0 a2).f0) 0).f1), .int .i64 ((rd_T48 ((rd_T75 l0 a2).f0) 0).f2), .string ((rd_T48 ((rd_T75 l0 a2).f0) 0).f3), .int .i64 ((rd_T48 ((rd_T75 l0 a2).f0) 0).f4)]] (by rfl) rfl rfl (by (try simp only [List.map_toArray, List.map_cons, List.map_nil]); first | done | rfl | (simp only [List.length_drop, List.length_take]; rfl)) ?_
        with_reducible refine (impl_entryOrder.calls k ((rd_T48 ((rd_T75 l0 a1).f0) 0).f0) ((rd_T48 ((rd_T75 l0 a1).f0) 0).f1) ((rd_T48 ((rd_T75 l0 a1).f0) 0).f2) ((rd_T48 ((rd_T75 l0 a1).f0) 0).f3) ((rd_T48 ((rd_T75 l0 a1).f0) 0).f4) ((rd_T48 ((rd_T75 l0 a2).f0) 0).f0) ((rd_T48 ((rd_T75 l0 a2).f0) 0).f1) ((rd_T48 ((rd_T75 l0 a2).f0) 0).f2) ((rd_T48 ((rd_T75 l0 a2).f0) 0).f3) ((rd_T48 ((rd_T75 l0 a2).f0) 0).f4) t218 _ A10.out).mono ?_
        rintro e w22 ⟨rfl, hb⟩
        refine ⟨_, rfl, ?_⟩
        have n0_ := Aside0.mk (blk_below (g := gb214) (o := .cells #[.slice (some ad216) ((rd_T75 l0 a1).f0).length c212_0, .int .i64 ((rd_T75 l0 a1).f1)] 75 (0, 0)) (impl_heads_Less_vb BK214) hb)
        have n1_ := Aside0.mk (blk_below (g := gb215) (o := .cells #[.slice (some ad217) ((rd_T75 l0 a2).f0).length c213_0, .int .i64 ((rd_T75 l0 a2).f1)] 75 (0, 0)) (impl_heads_Less_vb BK215) hb)
        have n2_ := Aside0.mk (below_step (impl_heads_Less_auHB) hb)
        clear BK214
        clear BK215
        clear HB
        have BK214 := n0_
        have BK215 := n1_
        have HB := n2_
        clear n0_ n1_ n2_
        (try clear hb)
        (try clear hb2)
        (try clear hk)
        (try clear hi)
        refine hK.out _ _ ⟨(blk_cell BK214.out 0).trans rfl, (blk_cell BK214.out 1).trans rfl, (blk_cell BK215.out 0).trans rfl, (blk_cell BK215.out 1).trans rfl, ((HB.out.cell (World.block_lt_of_cell? w _ hw216_0)).trans hw216_0), ((HB.out.cell (World.block_lt_of_cell? w _ hw216_1)).trans hw216_1), ((HB.out.cell (World.block_lt_of_cell? w _ hw216_2)).trans hw216_2), ((HB.out.cell (World.block_lt_of_cell? w _ hw216_3)).trans hw216_3), ((HB.out.cell (World.block_lt_of_cell? w _ hw216_4)).trans hw216_4), ((HB.out.cell (World.block_lt_of_cell? w _ hw217_0)).trans hw217_0), ((HB.out.cell (World.block_lt_of_cell? w _ hw217_1)).trans hw217_1), ((HB.out.cell (World.block_lt_of_cell? w _ hw217_2)).trans hw217_2), ((HB.out.cell (World.block_lt_of_cell? w _ hw217_3)).trans hw217_3), ((HB.out.cell (World.block_lt_of_cell? w _ hw217_4)).trans hw217_4)⟩ (fun hHeld => ?_)
        clear hK K
        refine norm_ (a' := ?_) ?_ ?_
        rotate_left
        ·
         show Act.put _ (some 26) _ = _
         simp only [Act.put, List.setIfInBounds_toArray, List.set_cons_zero, List.set_cons_succ, i64_w, i32_w]
         rfl
        refine pure_ (i := 9) (N := some 9) (v := ?_) (a' := ?_) #[true, true, true, true, true, true, true, true, true, true] rfl rfl (any_of HT_.out (by kernel_rfl)) (fun _ _ _ h => h) (Or.inl ⟨by rfl, ?_⟩) ?_ ?_
        rotate_left
        ·
         intro w'
         go_simp
         with_reducible rfl
        rotate_left
        ·
         simp only [Act.put, List.setIfInBounds_toArray, List.set_cons_zero, List.set_cons_succ, i64_w, i32_w]
         rfl
        refine done_ (done_of HT_.out (by kernel_rfl)) ?_
        have hnb23 := NB214_215.out
        have hnc23 := NB215_214.out
        have hcz24_0 : w22.cell? ⟨gb214, 0, none⟩ = some (.slice (some ad216) ((rd_T75 l0 a1).f0).length c212_0) := (blk_cell BK214.out 0).trans rfl
        have hcz24_1 : w22.cell? ⟨gb214, 1, none⟩ = some (.int .i64 ((rd_T75 l0 a1).f1)) := (blk_cell BK214.out 1).trans rfl
        have hfz24_0 := blk_frozen BK214.out 0
        have hfz24_1 := blk_frozen BK214.out 1
        have hcz25_0 : w22.cell? ⟨gb215, 0, none⟩ = some (.slice (some ad217) ((rd_T75 l0 a2).f0).length c213_0) := (blk_cell BK215.out 0).trans rfl
        have hcz25_1 : w22.cell? ⟨gb215, 1, none⟩ = some (.int .i64 ((rd_T75 l0 a2).f1)) := (blk_cell BK215.out 1).trans rfl
        have hfz25_0 := blk_frozen BK215.out 0
        have hfz25_1 := blk_frozen BK215.out 1
        try go_wp2
        go_ret
        exact ⟨by first | rfl | (simp [errW_none, errW_some] <;> rfl) | (simp [*, errW_none, errW_some] <;> rfl), impl_heads_Less_auHB⟩
       ·
        rw [if_neg c11] at H
        have c11b0 : (t218 == 0) = false := beq_eq_false_iff_ne.mpr c11
        have c11b1 : (t218 != 0) = true := bne_iff_ne.mpr c11
        obtain rfl := Option.some.inj H
        go_enter Try.func110, Try.ntmps110
        try go_wp2
        have n0_ := Aside0.mk (below_drew1 HB.out)
        clear HB
        have HB := n0_
        clear n0_
        have p212 : 0 ≤ (a1 : Int) := of_decide_eq_true (by first | (with_reducible assumption) | assumption)
        have q212 : a1 < (l0.length : Int) := of_decide_eq_true (by first | (with_reducible assumption) | assumption)
        obtain ⟨ad212, A212_0, c212_0, e212, hx212_0, hx212_1, hl212_0, hi212_0⟩ := at_T75 HR0.out a1 p212 q212
        have hw212_1 := hx212_1
        have hw212_0 := hx212_0
        cases e212
        replace hx212_0 := (HB.out.cell (World.block_lt_of_cell? w _ hx212_0)).trans hx212_0
        replace hx212_1 := (HB.out.cell (World.block_lt_of_cell? w _ hx212_1)).trans hx212_1
        have HR212_0 := Aside0.mk hi212_0
        have HC212_0 := Aside0.mk hl212_0
        clear hi212_0 hl212_0
        replace p212 := eq_true p212
        replace q212 := eq_true q212
        have p213 : 0 ≤ (a2 : Int) := of_decide_eq_true (by first | (with_reducible assumption) | assumption)
        have q213 : a2 < (l0.length : Int) := of_decide_eq_true (by first | (with_reducible assumption) | assumption)
        obtain ⟨ad213, A213_0, c213_0, e213, hx213_0, hx213_1, hl213_0, hi213_0⟩ := at_T75 HR0.out a2 p213 q213
        have hw213_1 := hx213_1
        have hw213_0 := hx213_0
        obtain rfl : ad212 = ad213 := (by injection e213)
        replace hx213_0 := (HB.out.cell (World.block_lt_of_cell? w _ hx213_0)).trans hx213_0
        replace hx213_1 := (HB.out.cell (World.block_lt_of_cell? w _ hx213_1)).trans hx213_1
        have HR213_0 := Aside0.mk hi213_0
        have HC213_0 := Aside0.mk hl213_0
        clear hi213_0 hl213_0
        replace p213 := eq_true p213
        replace q213 := eq_true q213
        refine start_ (n := 12) (S := fun w' => w'.cell? (ad212.add ((a1).toNat * 2)) = some (.slice A212_0 ((rd_T75 l0 a1).f0).length c212_0) ∧ w'.cell? ⟨(ad212.add ((a1).toNat * 2)).block, (ad212.add ((a1).toNat * 2)).off + 1, none⟩ = some (.int .i64 ((rd_T75 l0 a1).f1)) ∧ w'.cell? (ad212.add ((a2).toNat * 2)) = some (.slice A213_0 ((rd_T75 l0 a2).f0).length c213_0) ∧ w'.cell? ⟨(ad212.add ((a2).toNat * 2)).block, (ad212.add ((a2).toNat * 2)).off + 1, none⟩ = some (.int .i64 ((rd_T75 l0 a2).f1))) (ds := []) #[false, false, false, false, false, false, false, false, false, false, false, false] (by kernel_rfl) rfl rfl ⟨((HB.out.cell (World.block_lt_of_cell? w _ hw212_0)).trans hw212_0), ((HB.out.cell (World.block_lt_of_cell? w _ hw212_1)).trans hw212_1), ((HB.out.cell (World.block_lt_of_cell? w _ hw213_0)).trans hw213_0), ((HB.out.cell (World.block_lt_of_cell? w _ hw213_1)).trans hw213_1)⟩ (fun hHeld => ?_); refine with_tabW impl_heads_Less.tab1 impl_heads_Less.bits1 (fun HT_ HW_ => ?_)
        generalize w.drew = w26 at HB HR212_0 HR213_0 hx212_0 hx212_1 hx213_0 hx213_1 hHeld ⊢
        refine pure_ (i := 0) (N := some 10) (v := ?_) (a' := ?_) #[true, false, false, false, false, false, false, false, false, false, false, false] rfl rfl (any_of HT_.out (by kernel_rfl)) (fun _ _ _ h => h) (Or.inl ⟨by rfl, ?_⟩) ?_ ?_
        rotate_left
        ·
         intro w'
         go_simp
         with_reducible rfl
        rotate_left
        ·
         simp only [Act.put, List.setIfInBounds_toArray, List.set_cons_zero, List.set_cons_succ, i64_w, i32_w]
         rfl
        refine pure_ (i := 1) (N := some 11) (v := ?_) (a' := ?_) #[true, true, false, false, false, false, false, false, false, false, false, false] rfl rfl (any_of HT_.out (by kernel_rfl)) (fun _ _ _ h => h) (Or.inl ⟨by rfl, ?_⟩) ?_ ?_
        rotate_left
        ·
         intro w'
         go_simp
         with_reducible rfl
        rotate_left
        ·
         simp only [Act.put, List.setIfInBounds_toArray, List.set_cons_zero, List.set_cons_succ, i64_w, i32_w]
         rfl
        refine pure_ (i := 2) (N := some 12) (v := ?_) (a' := ?_) #[true, true, true, false, false, false, false, false, false, false, false, false] rfl rfl (any_of HT_.out (by kernel_rfl)) (fun _ _ _ h => h) (Or.inl ⟨by rfl, ?_⟩) ?_ ?_
        rotate_left
        ·
         intro w'
         go_simp
         with_reducible rfl
        rotate_left
        ·
         simp only [Act.put, List.setIfInBounds_toArray, List.set_cons_zero, List.set_cons_succ, i64_w, i32_w]
         rfl
        refine pure_ (i := 4) (N := some 14) (v := ?_) (a' := ?_) #[true, true, true, false, true, false, false, false, false, false, false, false] rfl rfl (any_of HT_.out (by kernel_rfl)) (fun _ _ _ h => h) (Or.inl ⟨by rfl, ?_⟩) ?_ ?_
        rotate_left
        ·
         intro w'
         go_simp
         with_reducible rfl
        rotate_left
        ·
         simp only [Act.put, List.setIfInBounds_toArray, List.set_cons_zero, List.set_cons_succ, i64_w, i32_w]
         rfl
        refine pure_ (i := 5) (N := some 15) (v := ?_) (a' := ?_) #[true, true, true, false, true, true, false, false, false, false, false, false] rfl rfl (any_of HT_.out (by kernel_rfl)) (fun _ _ _ h => h) (Or.inl ⟨by rfl, ?_⟩) ?_ ?_
        rotate_left
        ·
         intro w'
         go_simp
         with_reducible rfl
        rotate_left
        ·
         simp only [Act.put, List.setIfInBounds_toArray, List.set_cons_zero, List.set_cons_succ, i64_w, i32_w]
         rfl
        refine pure_ (i := 6) (N := some 16) (v := ?_) (a' := ?_) #[true, true, true, false, true, true, true, false, false, false, false, false] rfl rfl (any_of HT_.out (by kernel_rfl)) (fun _ _ _ h => h) (Or.inl ⟨by rfl, ?_⟩) ?_ ?_
        rotate_left
        ·
         intro w'
         go_simp
         with_reducible rfl
        rotate_left
        ·
         simp only [Act.put, List.setIfInBounds_toArray, List.set_cons_zero, List.set_cons_succ, i64_w, i32_w]
         rfl
        refine take_ (i := 3) (N := some 13) (v := ?_) (a' := ?_) #[true, true, true, true, true, true, true, false, false, false, false, false] rfl rfl (take_ofW HT_.out HW_.out (by kernel_rfl)) (fun _ _ _ h => h) (Or.inl ⟨by rfl, ?_⟩) hHeld ?_ ?_
        rotate_left
        ·
         rintro w' ⟨s0, s1, s2, s3⟩
         go_simp
         with_reducible rfl
        rotate_left
        ·
         simp only [Act.put, List.setIfInBounds_toArray, List.set_cons_zero, List.set_cons_succ, i64_w, i32_w]
         rfl
        refine take_ (i := 7) (N := some 17) (v := ?_) (a' := ?_) #[true, true, true, true, true, true, true, true, false, false, false, false] rfl rfl (take_ofW HT_.out HW_.out (by kernel_rfl)) (fun _ _ _ h => h) (Or.inl ⟨by rfl, ?_⟩) hHeld ?_ ?_
        rotate_left
        ·
         rintro w' ⟨s0, s1, s2, s3⟩
         go_simp
         with_reducible rfl
        rotate_left
        ·
         simp only [Act.put, List.setIfInBounds_toArray, List.set_cons_zero, List.set_cons_succ, i64_w, i32_w]
         rfl
        refine join_ (σ := Nat × Nat) 2 #[true, true, true, true, true, true, true, true, true, true, false, false] (fun s_ => [(7, .pointer (some ⟨s_.1, 0, none⟩)), (8, .pointer (some ⟨s_.2, 0, none⟩))]) (fun s_ w' => (w'.cell? (ad212.add ((a1).toNat * 2)) = some (.slice A212_0 ((rd_T75 l0 a1).f0).length c212_0) ∧ w'.cell? ⟨(ad212.add ((a1).toNat * 2)).block, (ad212.add ((a1).toNat * 2)).off + 1, none⟩ = some (.int .i64 ((rd_T75 l0 a1).f1)) ∧ w'.cell? (ad212.add ((a2).toNat * 2)) = some (.slice A213_0 ((rd_T75 l0 a2).f0).length c213_0) ∧ w'.cell? ⟨(ad212.add ((a2).toNat * 2)).block, (ad212.add ((a2).toNat * 2)).off + 1, none⟩ = some (.int .i64 ((rd_T75 l0 a2).f1))) ∧ (w'.heap[s_.1]? = some (.cells #[.slice none 0 0, .int .i64 0] 75 (0, 0))) ∧ (w'.heap[s_.2]? = some (.cells #[.slice none 0 0, .int .i64 0] 75 (0, 0))) ∧ (w.heap.size ≤ s_.1) ∧ (w.heap.size ≤ s_.1) ∧ (s_.2 ≠ s_.1) ∧ (s_.1 ≠ s_.2) ∧ (w.heap.size ≤ s_.2) ∧ (w.heap.size ≤ s_.2) ∧ (Below w.heap.size w w')) ?_ ?_
        rotate_left
        ·
         intro hCont
         refine two_ (i := 8) (j := 9) (Ni := some 7) (Nj := some 8) #[true, true, true, true, true, true, true, true, true, false, false, false] #[true, true, true, true, true, true, true, true, false, true, false, false] rfl rfl rfl rfl (two_of HT_.out (by kernel_rfl)) (by decide) (by decide) (fun K hK => ?_) (fun K hK => ?_)
         ·
          skip
          refine box_step ?hg (N := 7) ?hd (cs := #[.slice none 0 0, .int .i64 0]) (t := 75) ?hr ?_; (case hd => rfl); (case hg => rfl); (case hr => first | (go_simp; done) | (go_simp; rfl))
          intro gb214 hg w27 hbox hb
          have n0_ := Aside0.mk (below_step (impl_heads_Less_auHB) hb)
          have n1_ := Aside0.mk (hbox)
          have n2_ := Aside0.mk ((by rw [hg]; exact (below_size (impl_heads_Less_auHB)) : w.heap.size ≤ gb214))
          have n3_ := Aside0.mk ((by rw [hg]; exact (below_size (impl_heads_Less_auHB)) : w.heap.size ≤ gb214))
          clear HB
          have HB := n0_
          have BK214 := n1_
          have GW214 := n2_
          have GE214 := n3_
          clear n0_ n1_ n2_ n3_
          clear hb hbox hg
          refine hK.out _ _ ⟨((HB.out.cell (World.block_lt_of_cell? w _ hw212_0)).trans hw212_0), ((HB.out.cell (World.block_lt_of_cell? w _ hw212_1)).trans hw212_1), ((HB.out.cell (World.block_lt_of_cell? w _ hw213_0)).trans hw213_0), ((HB.out.cell (World.block_lt_of_cell? w _ hw213_1)).trans hw213_1)⟩ (fun hHeld => ?_)
          clear hK K
          refine norm_ (a' := ?_) ?_ ?_
          rotate_left
          ·
           show Act.put _ (some 7) _ = _
           simp only [Act.put, List.setIfInBounds_toArray, List.set_cons_zero, List.set_cons_succ, i64_w, i32_w]
           rfl
          refine one_ (i := 9) (N := some 8) #[true, true, true, true, true, true, true, true, true, true, false, false] rfl rfl (one_of HT_.out (by kernel_rfl)) (by decide) (fun K hK => ?_)
          refine box_step ?hg (N := 8) ?hd (cs := #[.slice none 0 0, .int .i64 0]) (t := 75) ?hr ?_; (case hd => rfl); (case hg => rfl); (case hr => first | (go_simp; done) | (go_simp; rfl))
          intro gb215 hg w28 hbox hb
          have n0_ := Aside0.mk (blk_below (g := gb214) (o := .cells #[.slice none 0 0, .int .i64 0] 75 (0, 0)) (impl_heads_Less_vb BK214) hb)
          have n1_ := Aside0.mk (below_step (impl_heads_Less_auHB) hb)
          have n2_ := Aside0.mk (hbox)
          have n3_ := Aside0.mk ((by rw [hg]; exact (below_size (impl_heads_Less_auHB)) : w.heap.size ≤ gb215))
          have n4_ := Aside0.mk ((by rw [hg]; exact (below_size (impl_heads_Less_auHB)) : w.heap.size ≤ gb215))
          have n5_ := Aside0.mk ((by rw [hg]; exact Nat.ne_of_lt (blk_lt (g := gb214) (o := .cells #[.slice none 0 0, .int .i64 0] 75 (0, 0)) (impl_heads_Less_vb BK214)) : gb214 ≠ gb215))
          have n6_ := Aside0.mk ((by rw [hg]; exact Nat.ne_of_gt (blk_lt (g := gb214) (o := .cells #[.slice none 0 0, .int .i64 0] 75 (0, 0)) (impl_heads_Less_vb BK214)) : gb215 ≠ gb214))
          clear BK214
          clear HB
          have BK214 := n0_
          have HB := n1_
          have BK215 := n2_
          have GW215 := n3_
          have GE215 := n4_
          have NB214_215 := n5_
          have NB215_214 := n6_
          clear n0_ n1_ n2_ n3_ n4_ n5_ n6_
          clear hb hbox hg
          refine hK.out _ _ ⟨((HB.out.cell (World.block_lt_of_cell? w _ hw212_0)).trans hw212_0), ((HB.out.cell (World.block_lt_of_cell? w _ hw212_1)).trans hw212_1), ((HB.out.cell (World.block_lt_of_cell? w _ hw213_0)).trans hw213_0), ((HB.out.cell (World.block_lt_of_cell? w _ hw213_1)).trans hw213_1)⟩ (fun hHeld => ?_)
          clear hK K
          refine norm_ (a' := ?_) ?_ ?_
          rotate_left
          ·
           show Act.put _ (some 8) _ = _
           simp only [Act.put, List.setIfInBounds_toArray, List.set_cons_zero, List.set_cons_succ, i64_w, i32_w]
           rfl
          exact norm_ (by simp only [putAll, Act.put, List.setIfInBounds_toArray, List.set_cons_zero, List.set_cons_succ]) (hCont (gb214, gb215) _ ⟨hHeld, (impl_heads_Less_vb BK214), (impl_heads_Less_vb BK215), GW214.out, GE214.out, NB215_214.out, NB214_215.out, GW215.out, GE215.out, (impl_heads_Less_auHB)⟩)
         ·
          skip
          refine box_step ?hg (N := 8) ?hd (cs := #[.slice none 0 0, .int .i64 0]) (t := 75) ?hr ?_; (case hd => rfl); (case hg => rfl); (case hr => first | (go_simp; done) | (go_simp; rfl))
          intro gb215 hg w27 hbox hb
          have n0_ := Aside0.mk (below_step (impl_heads_Less_auHB) hb)
          have n1_ := Aside0.mk (hbox)
          have n2_ := Aside0.mk ((by rw [hg]; exact (below_size (impl_heads_Less_auHB)) : w.heap.size ≤ gb215))
          have n3_ := Aside0.mk ((by rw [hg]; exact (below_size (impl_heads_Less_auHB)) : w.heap.size ≤ gb215))
          clear HB
          have HB := n0_
          have BK215 := n1_
          have GW215 := n2_
          have GE215 := n3_
          clear n0_ n1_ n2_ n3_
          clear hb hbox hg
          refine hK.out _ _ ⟨((HB.out.cell (World.block_lt_of_cell? w _ hw212_0)).trans hw212_0), ((HB.out.cell (World.block_lt_of_cell? w _ hw212_1)).trans hw212_1), ((HB.out.cell (World.block_lt_of_cell? w _ hw213_0)).trans hw213_0), ((HB.out.cell (World.block_lt_of_cell? w _ hw213_1)).trans hw213_1)⟩ (fun hHeld => ?_)
          clear hK K
          refine norm_ (a' := ?_) ?_ ?_
          rotate_left
          ·
           show Act.put _ (some 8) _ = _
           simp only [Act.put, List.setIfInBounds_toArray, List.set_cons_zero, List.set_cons_succ, i64_w, i32_w]
           rfl
          refine one_ (i := 8) (N := some 7) #[true, true, true, true, true, true, true, true, true, true, false, false] rfl rfl (one_of HT_.out (by kernel_rfl)) (by decide) (fun K hK => ?_)
          refine box_step ?hg (N := 7) ?hd (cs := #[.slice none 0 0, .int .i64 0]) (t := 75) ?hr ?_; (case hd => rfl); (case hg => rfl); (case hr => first | (go_simp; done) | (go_simp; rfl))
          intro gb214 hg w28 hbox hb
          have n0_ := Aside0.mk (blk_below (g := gb215) (o := .cells #[.slice none 0 0, .int .i64 0] 75 (0, 0)) (impl_heads_Less_vb BK215) hb)
          have n1_ := Aside0.mk (below_step (impl_heads_Less_auHB) hb)
          have n2_ := Aside0.mk (hbox)
          have n3_ := Aside0.mk ((by rw [hg]; exact (below_size (impl_heads_Less_auHB)) : w.heap.size ≤ gb214))
          have n4_ := Aside0.mk ((by rw [hg]; exact (below_size (impl_heads_Less_auHB)) : w.heap.size ≤ gb214))
          have n5_ := Aside0.mk ((by rw [hg]; exact Nat.ne_of_lt (blk_lt (g := gb215) (o := .cells #[.slice none 0 0, .int .i64 0] 75 (0, 0)) (impl_heads_Less_vb BK215)) : gb215 ≠ gb214))
          have n6_ := Aside0.mk ((by rw [hg]; exact Nat.ne_of_gt (blk_lt (g := gb215) (o := .cells #[.slice none 0 0, .int .i64 0] 75 (0, 0)) (impl_heads_Less_vb BK215)) : gb214 ≠ gb215))
          clear BK215
          clear HB
          have BK215 := n0_
          have HB := n1_
          have BK214 := n2_
          have GW214 := n3_
          have GE214 := n4_
          have NB215_214 := n5_
          have NB214_215 := n6_
          clear n0_ n1_ n2_ n3_ n4_ n5_ n6_
          clear hb hbox hg
          refine hK.out _ _ ⟨((HB.out.cell (World.block_lt_of_cell? w _ hw212_0)).trans hw212_0), ((HB.out.cell (World.block_lt_of_cell? w _ hw212_1)).trans hw212_1), ((HB.out.cell (World.block_lt_of_cell? w _ hw213_0)).trans hw213_0), ((HB.out.cell (World.block_lt_of_cell? w _ hw213_1)).trans hw213_1)⟩ (fun hHeld => ?_)
          clear hK K
          refine norm_ (a' := ?_) ?_ ?_
          rotate_left
          ·
           show Act.put _ (some 7) _ = _
           simp only [Act.put, List.setIfInBounds_toArray, List.set_cons_zero, List.set_cons_succ, i64_w, i32_w]
           rfl
          exact norm_ (by simp only [putAll, Act.put, List.setIfInBounds_toArray, List.set_cons_zero, List.set_cons_succ]) (hCont (gb214, gb215) _ ⟨hHeld, (impl_heads_Less_vb BK214), (impl_heads_Less_vb BK215), GW214.out, GE214.out, NB215_214.out, NB214_215.out, GW215.out, GE215.out, (impl_heads_Less_auHB)⟩)
        rintro ⟨gb214, gb215⟩ w29 ⟨hS_, h0_, h1_, h2_, h3_, h4_, h5_, h6_, h7_, h8_⟩
        have n0_ : Aside0 (w29.heap[gb214]? = some (.cells #[.slice none 0 0, .int .i64 0] 75 (0, 0))) := ⟨h0_⟩
        have n1_ : Aside0 (w29.heap[gb215]? = some (.cells #[.slice none 0 0, .int .i64 0] 75 (0, 0))) := ⟨h1_⟩
        have n2_ : Aside0 (w.heap.size ≤ gb214) := ⟨h2_⟩
        have n3_ : Aside0 (w.heap.size ≤ gb214) := ⟨h3_⟩
        have n4_ : Aside0 (gb215 ≠ gb214) := ⟨h4_⟩
        have n5_ : Aside0 (gb214 ≠ gb215) := ⟨h5_⟩
        have n6_ : Aside0 (w.heap.size ≤ gb215) := ⟨h6_⟩
        have n7_ : Aside0 (w.heap.size ≤ gb215) := ⟨h7_⟩
        have n8_ : Aside0 (Below w.heap.size w w29) := ⟨h8_⟩
        clear HB
        clear h0_ h1_ h2_ h3_ h4_ h5_ h6_ h7_ h8_
        have BK214 := n0_
        have BK215 := n1_
        have GW214 := n2_
        have GE214 := n3_
        have NB215_214 := n4_
        have NB214_215 := n5_
        have GW215 := n6_
        have GE215 := n7_
        have HB := n8_
        clear n0_ n1_ n2_ n3_ n4_ n5_ n6_ n7_ n8_
        have hHeld : w29.cell? (ad212.add ((a1).toNat * 2)) = some (.slice A212_0 ((rd_T75 l0 a1).f0).length c212_0) ∧ w29.cell? ⟨(ad212.add ((a1).toNat * 2)).block, (ad212.add ((a1).toNat * 2)).off + 1, none⟩ = some (.int .i64 ((rd_T75 l0 a1).f1)) ∧ w29.cell? (ad212.add ((a2).toNat * 2)) = some (.slice A213_0 ((rd_T75 l0 a2).f0).length c213_0) ∧ w29.cell? ⟨(ad212.add ((a2).toNat * 2)).block, (ad212.add ((a2).toNat * 2)).off + 1, none⟩ = some (.int .i64 ((rd_T75 l0 a2).f1)) := hS_
        refine norm_ (a' := ?_) ?_ ?_
        rotate_left
        ·
         simp only [putAll, Act.put, List.setIfInBounds_toArray, List.set_cons_zero, List.set_cons_succ]
         rfl
        refine one_ (i := 10) (N := none) #[true, true, true, true, true, true, true, true, true, true, true, false] rfl rfl (one_of HT_.out (by kernel_rfl)) (by decide) (fun K hK => ?_)
        have hs30 : w29.cell? ⟨gb214, 0, none⟩ = some (.slice none 0 0) := (blk_cell BK214.out 0).trans rfl
        have hfs30 := blk_frozen BK214.out 0
        have hns30_1 := NB215_214.out
        have hms30_1 := NB214_215.out
        have hs31 : w29.cell? ⟨gb214, 1, none⟩ = some (.int .i64 0) := (blk_cell BK214.out 1).trans rfl
        have hfs31 := blk_frozen BK214.out 1
        have hns31_1 := NB215_214.out
        have hms31_1 := NB214_215.out
        refine skip_ (w1 := ?_) (by rfl) rfl ?_ ?_
        rotate_left
        ·
         go_simp
         rfl
        refine hK.out _ _ ⟨((cell_far (p := ⟨gb214, _, none⟩) (by first | exact Nat.ne_of_lt (Nat.lt_of_lt_of_le (by have := World.block_lt_of_cell? _ _ hw212_0; first | rwa [add_block] at this | exact this) GW214.out) | (rw [add_block]; exact Nat.ne_of_lt (Nat.lt_of_lt_of_le (by have := World.block_lt_of_cell? _ _ hw212_0; first | rwa [add_block] at this | exact this) GW214.out)) | (show (Addr.add _ _).block ≠ _; rw [add_block]; exact Nat.ne_of_lt (Nat.lt_of_lt_of_le (by have := World.block_lt_of_cell? _ _ hw212_0; first | rwa [add_block] at this | exact this) GW214.out)) | (dsimp only; exact Nat.ne_of_lt (Nat.lt_of_lt_of_le (by have := World.block_lt_of_cell? _ _ hw212_0; first | rwa [add_block] at this | exact this) GW214.out))) _).trans (((cell_far (p := ⟨gb214, _, none⟩) (by first | exact Nat.ne_of_lt (Nat.lt_of_lt_of_le (by have := World.block_lt_of_cell? _ _ hw212_0; first | rwa [add_block] at this | exact this) GW214.out) | (rw [add_block]; exact Nat.ne_of_lt (Nat.lt_of_lt_of_le (by have := World.block_lt_of_cell? _ _ hw212_0; first | rwa [add_block] at this | exact this) GW214.out)) | (show (Addr.add _ _).block ≠ _; rw [add_block]; exact Nat.ne_of_lt (Nat.lt_of_lt_of_le (by have := World.block_lt_of_cell? _ _ hw212_0; first | rwa [add_block] at this | exact this) GW214.out)) | (dsimp only; exact Nat.ne_of_lt (Nat.lt_of_lt_of_le (by have := World.block_lt_of_cell? _ _ hw212_0; first | rwa [add_block] at this | exact this) GW214.out))) _).trans (hHeld.1)))), ((cell_far (p := ⟨gb214, _, none⟩) (by first | exact Nat.ne_of_lt (Nat.lt_of_lt_of_le (by have := World.block_lt_of_cell? _ _ hw212_1; first | rwa [add_block] at this | exact this) GW214.out) | (rw [add_block]; exact Nat.ne_of_lt (Nat.lt_of_lt_of_le (by have := World.block_lt_of_cell? _ _ hw212_1; first | rwa [add_block] at this | exact this) GW214.out)) | (show (Addr.add _ _).block ≠ _; rw [add_block]; exact Nat.ne_of_lt (Nat.lt_of_lt_of_le (by have := World.block_lt_of_cell? _ _ hw212_1; first | rwa [add_block] at this | exact this) GW214.out)) | (dsimp only; exact Nat.ne_of_lt (Nat.lt_of_lt_of_le (by have := World.block_lt_of_cell? _ _ hw212_1; first | rwa [add_block] at this | exact this) GW214.out))) _).trans (((cell_far (p := ⟨gb214, _, none⟩) (by first | exact Nat.ne_of_lt (Nat.lt_of_lt_of_le (by have := World.block_lt_of_cell? _ _ hw212_1; first | rwa [add_block] at this | exact this) GW214.out) | (rw [add_block]; exact Nat.ne_of_lt (Nat.lt_of_lt_of_le (by have := World.block_lt_of_cell? _ _ hw212_1; first | rwa [add_block] at this | exact this) GW214.out)) | (show (Addr.add _ _).block ≠ _; rw [add_block]; exact Nat.ne_of_lt (Nat.lt_of_lt_of_le (by have := World.block_lt_of_cell? _ _ hw212_1; first | rwa [add_block] at this | exact this) GW214.out)) | (dsimp only; exact Nat.ne_of_lt (Nat.lt_of_lt_of_le (by have := World.block_lt_of_cell? _ _ hw212_1; first | rwa [add_block] at this | exact this) GW214.out))) _).trans (hHeld.2.1)))), ((cell_far (p := ⟨gb214, _, none⟩) (by first | exact Nat.ne_of_lt (Nat.lt_of_lt_of_le (by have := World.block_lt_of_cell? _ _ hw213_0; first | rwa [add_block] at this | exact this) GW214.out) | (rw [add_block]; exact Nat.ne_of_lt (Nat.lt_of_lt_of_le (by have := World.block_lt_of_cell? _ _ hw213_0; first | rwa [add_block] at this | exact this) GW214.out)) | (show (Addr.add _ _).block ≠ _; rw [add_block]; exact Nat.ne_of_lt (Nat.lt_of_lt_of_le (by have := World.block_lt_of_cell? _ _ hw213_0; first | rwa [add_block] at this | exact this) GW214.out)) | (dsimp only; exact Nat.ne_of_lt (Nat.lt_of_lt_of_le (by have := World.block_lt_of_cell? _ _ hw213_0; first | rwa [add_block] at this | exact this) GW214.out))) _).trans (((cell_far (p := ⟨gb214, _, none⟩) (by first | exact Nat.ne_of_lt (Nat.lt_of_lt_of_le (by have := World.block_lt_of_cell? _ _ hw213_0; first | rwa [add_block] at this | exact this) GW214.out) | (rw [add_block]; exact Nat.ne_of_lt (Nat.lt_of_lt_of_le (by have := World.block_lt_of_cell? _ _ hw213_0; first | rwa [add_block] at this | exact this) GW214.out)) | (show (Addr.add _ _).block ≠ _; rw [add_block]; exact Nat.ne_of_lt (Nat.lt_of_lt_of_le (by have := World.block_lt_of_cell? _ _ hw213_0; first | rwa [add_block] at this | exact this) GW214.out)) | (dsimp only; exact Nat.ne_of_lt (Nat.lt_of_lt_of_le (by have := World.block_lt_of_cell? _ _ hw213_0; first | rwa [add_block] at this | exact this) GW214.out))) _).trans (hHeld.2.2.1)))), ((cell_far (p := ⟨gb214, _, none⟩) (by first | exact Nat.ne_of_lt (Nat.lt_of_lt_of_le (by have := World.block_lt_of_cell? _ _ hw213_1; first | rwa [add_block] at this | exact this) GW214.out) | (rw [add_block]; exact Nat.ne_of_lt (Nat.lt_of_lt_of_le (by have := World.block_lt_of_cell? _ _ hw213_1; first | rwa [add_block] at this | exact this) GW214.out)) | (show (Addr.add _ _).block ≠ _; rw [add_block]; exact Nat.ne_of_lt (Nat.lt_of_lt_of_le (by have := World.block_lt_of_cell? _ _ hw213_1; first | rwa [add_block] at this | exact this) GW214.out)) | (dsimp only; exact Nat.ne_of_lt (Nat.lt_of_lt_of_le (by have := World.block_lt_of_cell? _ _ hw213_1; first | rwa [add_block] at this | exact this) GW214.out))) _).trans (((cell_far (p := ⟨gb214, _, none⟩) (by first | exact Nat.ne_of_lt (Nat.lt_of_lt_of_le (by have := World.block_lt_of_cell? _ _ hw213_1; first | rwa [add_block] at this | exact this) GW214.out) | (rw [add_block]; exact Nat.ne_of_lt (Nat.lt_of_lt_of_le (by have := World.block_lt_of_cell? _ _ hw213_1; first | rwa [add_block] at this | exact this) GW214.out)) | (show (Addr.add _ _).block ≠ _; rw [add_block]; exact Nat.ne_of_lt (Nat.lt_of_lt_of_le (by have := World.block_lt_of_cell? _ _ hw213_1; first | rwa [add_block] at this | exact this) GW214.out)) | (dsimp only; exact Nat.ne_of_lt (Nat.lt_of_lt_of_le (by have := World.block_lt_of_cell? _ _ hw213_1; first | rwa [add_block] at this | exact this) GW214.out))) _).trans (hHeld.2.2.2))))⟩ (fun hHeld => ?_)
        clear hK K
        refine one_ (i := 11) (N := none) #[true, true, true, true, true, true, true, true, true, true, true, true] rfl rfl (one_of HT_.out (by kernel_rfl)) (by decide) (fun K hK => ?_)
        have hs32 : w29.cell? ⟨gb215, 0, none⟩ = some (.slice none 0 0) := (blk_cell BK215.out 0).trans rfl
        have hfs32 := blk_frozen BK215.out 0
        have hns32_0 := NB214_215.out
        have hms32_0 := NB215_214.out
        have hs33 : w29.cell? ⟨gb215, 1, none⟩ = some (.int .i64 0) := (blk_cell BK215.out 1).trans rfl
        have hfs33 := blk_frozen BK215.out 1
        have hns33_0 := NB214_215.out
        have hms33_0 := NB215_214.out
        refine skip_ (w1 := ?_) (by rfl) rfl ?_ ?_
        rotate_left
        ·
         go_simp
         rfl
        refine hK.out _ _ ⟨((cell_far (p := ⟨gb215, _, none⟩) (by first | exact Nat.ne_of_lt (Nat.lt_of_lt_of_le (by have := World.block_lt_of_cell? _ _ hw212_0; first | rwa [add_block] at this | exact this) GW215.out) | (rw [add_block]; exact Nat.ne_of_lt (Nat.lt_of_lt_of_le (by have := World.block_lt_of_cell? _ _ hw212_0; first | rwa [add_block] at this | exact this) GW215.out)) | (show (Addr.add _ _).block ≠ _; rw [add_block]; exact Nat.ne_of_lt (Nat.lt_of_lt_of_le (by have := World.block_lt_of_cell? _ _ hw212_0; first | rwa [add_block] at this | exact this) GW215.out)) | (dsimp only; exact Nat.ne_of_lt (Nat.lt_of_lt_of_le (by have := World.block_lt_of_cell? _ _ hw212_0; first | rwa [add_block] at this | exact this) GW215.out))) _).trans (((cell_far (p := ⟨gb215, _, none⟩) (by first | exact Nat.ne_of_lt (Nat.lt_of_lt_of_le (by have := World.block_lt_of_cell? _ _ hw212_0; first | rwa [add_block] at this | exact this) GW215.out) | (rw [add_block]; exact Nat.ne_of_lt (Nat.lt_of_lt_of_le (by have := World.block_lt_of_cell? _ _ hw212_0; first | rwa [add_block] at this | exact this) GW215.out)) | (show (Addr.add _ _).block ≠ _; rw [add_block]; exact Nat.ne_of_lt (Nat.lt_of_lt_of_le (by have := World.block_lt_of_cell? _ _ hw212_0; first | rwa [add_block] at this | exact this) GW215.out)) | (dsimp only; exact Nat.ne_of_lt (Nat.lt_of_lt_of_le (by have := World.block_lt_of_cell? _ _ hw212_0; first | rwa [add_block] at this | exact this) GW215.out))) _).trans (hHeld.1)))), ((cell_far (p := ⟨gb215, _, none⟩) (by first | exact Nat.ne_of_lt (Nat.lt_of_lt_of_le (by have := World.block_lt_of_cell? _ _ hw212_1; first | rwa [add_block] at this | exact this) GW215.out) | (rw [add_block]; exact Nat.ne_of_lt (Nat.lt_of_lt_of_le (by have := World.block_lt_of_cell? _ _ hw212_1; first | rwa [add_block] at this | exact this) GW215.out)) | (show (Addr.add _ _).block ≠ _; rw [add_block]; exact Nat.ne_of_lt (Nat.lt_of_lt_of_le (by have := World.block_lt_of_cell? _ _ hw212_1; first | rwa [add_block] at this | exact this) GW215.out)) | (dsimp only; exact Nat.ne_of_lt (Nat.lt_of_lt_of_le (by have := World.block_lt_of_cell? _ _ hw212_1; first | rwa [add_block] at this | exact this) GW215.out))) _).trans (((cell_far (p := ⟨gb215, _, none⟩) (by first | exact Nat.ne_of_lt (Nat.lt_of_lt_of_le (by have := World.block_lt_of_cell? _ _ hw212_1; first | rwa [add_block] at this | exact this) GW215.out) | (rw [add_block]; exact Nat.ne_of_lt (Nat.lt_of_lt_of_le (by have := World.block_lt_of_cell? _ _ hw212_1; first | rwa [add_block] at this | exact this) GW215.out)) | (show (Addr.add _ _).block ≠ _; rw [add_block]; exact Nat.ne_of_lt (Nat.lt_of_lt_of_le (by have := World.block_lt_of_cell? _ _ hw212_1; first | rwa [add_block] at this | exact this) GW215.out)) | (dsimp only; exact Nat.ne_of_lt (Nat.lt_of_lt_of_le (by have := World.block_lt_of_cell? _ _ hw212_1; first | rwa [add_block] at this | exact this) GW215.out))) _).trans (hHeld.2.1)))), ((cell_far (p := ⟨gb215, _, none⟩) (by first | exact Nat.ne_of_lt (Nat.lt_of_lt_of_le (by have := World.block_lt_of_cell? _ _ hw213_0; first | rwa [add_block] at this | exact this) GW215.out) | (rw [add_block]; exact Nat.ne_of_lt (Nat.lt_of_lt_of_le (by have := World.block_lt_of_cell? _ _ hw213_0; first | rwa [add_block] at this | exact this) GW215.out)) | (show (Addr.add _ _).block ≠ _; rw [add_block]; exact Nat.ne_of_lt (Nat.lt_of_lt_of_le (by have := World.block_lt_of_cell? _ _ hw213_0; first | rwa [add_block] at this | exact this) GW215.out)) | (dsimp only; exact Nat.ne_of_lt (Nat.lt_of_lt_of_le (by have := World.block_lt_of_cell? _ _ hw213_0; first | rwa [add_block] at this | exact this) GW215.out))) _).trans (((cell_far (p := ⟨gb215, _, none⟩) (by first | exact Nat.ne_of_lt (Nat.lt_of_lt_of_le (by have := World.block_lt_of_cell? _ _ hw213_0; first | rwa [add_block] at this | exact this) GW215.out) | (rw [add_block]; exact Nat.ne_of_lt (Nat.lt_of_lt_of_le (by have := World.block_lt_of_cell? _ _ hw213_0; first | rwa [add_block] at this | exact this) GW215.out)) | (show (Addr.add _ _).block ≠ _; rw [add_block]; exact Nat.ne_of_lt (Nat.lt_of_lt_of_le (by have := World.block_lt_of_cell? _ _ hw213_0; first | rwa [add_block] at this | exact this) GW215.out)) | (dsimp only; exact Nat.ne_of_lt (Nat.lt_of_lt_of_le (by have := World.block_lt_of_cell? _ _ hw213_0; first | rwa [add_block] at this | exact this) GW215.out))) _).trans (hHeld.2.2.1)))), ((cell_far (p := ⟨gb215, _, none⟩) (by first | exact Nat.ne_of_lt (Nat.lt_of_lt_of_le (by have := World.block_lt_of_cell? _ _ hw213_1; first | rwa [add_block] at this | exact this) GW215.out) | (rw [add_block]; exact Nat.ne_of_lt (Nat.lt_of_lt_of_le (by have := World.block_lt_of_cell? _ _ hw213_1; first | rwa [add_block] at this | exact this) GW215.out)) | (show (Addr.add _ _).block ≠ _; rw [add_block]; exact Nat.ne_of_lt (Nat.lt_of_lt_of_le (by have := World.block_lt_of_cell? _ _ hw213_1; first | rwa [add_block] at this | exact this) GW215.out)) | (dsimp only; exact Nat.ne_of_lt (Nat.lt_of_lt_of_le (by have := World.block_lt_of_cell? _ _ hw213_1; first | rwa [add_block] at this | exact this) GW215.out))) _).trans (((cell_far (p := ⟨gb215, _, none⟩) (by first | exact Nat.ne_of_lt (Nat.lt_of_lt_of_le (by have := World.block_lt_of_cell? _ _ hw213_1; first | rwa [add_block] at this | exact this) GW215.out) | (rw [add_block]; exact Nat.ne_of_lt (Nat.lt_of_lt_of_le (by have := World.block_lt_of_cell? _ _ hw213_1; first | rwa [add_block] at this | exact this) GW215.out)) | (show (Addr.add _ _).block ≠ _; rw [add_block]; exact Nat.ne_of_lt (Nat.lt_of_lt_of_le (by have := World.block_lt_of_cell? _ _ hw213_1; first | rwa [add_block] at this | exact this) GW215.out)) | (dsimp only; exact Nat.ne_of_lt (Nat.lt_of_lt_of_le (by have := World.block_lt_of_cell? _ _ hw213_1; first | rwa [add_block] at this | exact this) GW215.out))) _).trans (hHeld.2.2.2))))⟩ (fun hHeld => ?_)
        clear hK K
        refine done_ (done_of HT_.out (by kernel_rfl)) ?_
        try go_wp2
        have n0_ : Aside0 (((((w29.setCell ⟨gb214, 0, none⟩ (.slice A212_0 ((rd_T75 l0 a1).f0).length c212_0)).setCell ⟨gb214, 1, none⟩ (.int .i64 ((rd_T75 l0 a1).f1))).setCell ⟨gb215, 0, none⟩ (.slice A213_0 ((rd_T75 l0 a2).f0).length c213_0)).setCell ⟨gb215, 1, none⟩ (.int .i64 ((rd_T75 l0 a2).f1))).heap[gb214]? = some (.cells #[.slice A212_0 ((rd_T75 l0 a1).f0).length c212_0, .int .i64 ((rd_T75 l0 a1).f1)] 75 (0, 0))) := ⟨by (with_reducible repeat (first | refine blk_drewN ?_ _ | refine blk_drew ?_ | refine blk_alloc ?_ _)); refine blk_far ?_ NB214_215.out _; (with_reducible repeat (first | refine blk_drewN ?_ _ | refine blk_drew ?_ | refine blk_alloc ?_ _)); refine blk_far ?_ NB214_215.out _; (with_reducible repeat (first | refine blk_drewN ?_ _ | refine blk_drew ?_ | refine blk_alloc ?_ _)); refine blk_put (cs := #[.slice A212_0 ((rd_T75 l0 a1).f0).length c212_0, .int .i64 0]) ?_ 1 _ rfl; (with_reducible repeat (first | refine blk_drewN ?_ _ | refine blk_drew ?_ | refine blk_alloc ?_ _)); refine blk_put (cs := #[.slice none 0 0, .int .i64 0]) ?_ 0 _ rfl; (with_reducible repeat (first | refine blk_drewN ?_ _ | refine blk_drew ?_ | refine blk_alloc ?_ _)); exact BK214.out⟩
        have n1_ : Aside0 (((((w29.setCell ⟨gb214, 0, none⟩ (.slice A212_0 ((rd_T75 l0 a1).f0).length c212_0)).setCell ⟨gb214, 1, none⟩ (.int .i64 ((rd_T75 l0 a1).f1))).setCell ⟨gb215, 0, none⟩ (.slice A213_0 ((rd_T75 l0 a2).f0).length c213_0)).setCell ⟨gb215, 1, none⟩ (.int .i64 ((rd_T75 l0 a2).f1))).heap[gb215]? = some (.cells #[.slice A213_0 ((rd_T75 l0 a2).f0).length c213_0, .int .i64 ((rd_T75 l0 a2).f1)] 75 (0, 0))) := ⟨by (with_reducible repeat (first | refine blk_drewN ?_ _ | refine blk_drew ?_ | refine blk_alloc ?_ _)); refine blk_put (cs := #[.slice A213_0 ((rd_T75 l0 a2).f0).length c213_0, .int .i64 0]) ?_ 1 _ rfl; (with_reducible repeat (first | refine blk_drewN ?_ _ | refine blk_drew ?_ | refine blk_alloc ?_ _)); refine blk_put (cs := #[.slice none 0 0, .int .i64 0]) ?_ 0 _ rfl; (with_reducible repeat (first | refine blk_drewN ?_ _ | refine blk_drew ?_ | refine blk_alloc ?_ _)); refine blk_far ?_ NB215_214.out _; (with_reducible repeat (first | refine blk_drewN ?_ _ | refine blk_drew ?_ | refine blk_alloc ?_ _)); refine blk_far ?_ NB215_214.out _; (with_reducible repeat (first | refine blk_drewN ?_ _ | refine blk_drew ?_ | refine blk_alloc ?_ _)); exact BK215.out⟩
        have n2_ : Aside0 (Below w.heap.size w ((((w29.setCell ⟨gb214, 0, none⟩ (.slice A212_0 ((rd_T75 l0 a1).f0).length c212_0)).setCell ⟨gb214, 1, none⟩ (.int .i64 ((rd_T75 l0 a1).f1))).setCell ⟨gb215, 0, none⟩ (.slice A213_0 ((rd_T75 l0 a2).f0).length c213_0)).setCell ⟨gb215, 1, none⟩ (.int .i64 ((rd_T75 l0 a2).f1)))) := ⟨impl_heads_Less_auHB⟩
        (try clear BK214)
        (try clear BK215)
        (try clear HB)
        generalize ((((w29.setCell ⟨gb214, 0, none⟩ (.slice A212_0 ((rd_T75 l0 a1).f0).length c212_0)).setCell ⟨gb214, 1, none⟩ (.int .i64 ((rd_T75 l0 a1).f1))).setCell ⟨gb215, 0, none⟩ (.slice A213_0 ((rd_T75 l0 a2).f0).length c213_0)).setCell ⟨gb215, 1, none⟩ (.int .i64 ((rd_T75 l0 a2).f1))) = w34 at n0_ n1_ n2_ ⊢
        have BK214 := n0_
        have BK215 := n1_
        have HB := n2_
        clear n0_ n1_ n2_
        have n0_ := Aside0.mk (blk_drew BK214.out)
        have n1_ := Aside0.mk (blk_drew BK215.out)
        have n2_ := Aside0.mk (below_drew1 HB.out)
        clear BK214
        clear BK215
        clear HB
        have BK214 := n0_
        have BK215 := n1_
        have HB := n2_
        clear n0_ n1_ n2_
        have p216 : 0 ≤ (0 : Int) := (by omega)
        have q216 : 0 < (((rd_T75 l0 a1).f0).length : Int) := of_decide_eq_true (by first | (with_reducible assumption) | assumption)
        obtain ⟨ad216, e216, hx216_0, hx216_1, hx216_2, hx216_3, hx216_4⟩ := at_T48 HR212_0.out 0 p216 q216
        have hw216_4 := hx216_4
        (try rw [show ((0 : Int)).toNat = 0 from rfl] at hw216_4)
        (try rw [show 0 * 5 = 0 from rfl] at hw216_4)
        (try rw [Addr.add_zero'] at hw216_4)
        have hw216_3 := hx216_3
        (try rw [show ((0 : Int)).toNat = 0 from rfl] at hw216_3)
        (try rw [show 0 * 5 = 0 from rfl] at hw216_3)
        (try rw [Addr.add_zero'] at hw216_3)
        have hw216_2 := hx216_2
        (try rw [show ((0 : Int)).toNat = 0 from rfl] at hw216_2)
        (try rw [show 0 * 5 = 0 from rfl] at hw216_2)
        (try rw [Addr.add_zero'] at hw216_2)
        have hw216_1 := hx216_1
        (try rw [show ((0 : Int)).toNat = 0 from rfl] at hw216_1)
        (try rw [show 0 * 5 = 0 from rfl] at hw216_1)
        (try rw [Addr.add_zero'] at hw216_1)
        have hw216_0 := hx216_0
        (try rw [show ((0 : Int)).toNat = 0 from rfl] at hw216_0)
        (try rw [show 0 * 5 = 0 from rfl] at hw216_0)
        (try rw [Addr.add_zero'] at hw216_0)
        cases e216
        have qi216 : (0 < ((rd_T75 l0 a1).f0).length) = True := eq_true (by omega)
        (try rw [show ((0 : Int)).toNat = 0 from rfl] at hx216_0)
        (try rw [show 0 * 5 = 0 from rfl] at hx216_0)
        (try rw [Addr.add_zero'] at hx216_0)
        (try rw [show ((0 : Int)).toNat = 0 from rfl] at hx216_1)
        (try rw [show 0 * 5 = 0 from rfl] at hx216_1)
        (try rw [Addr.add_zero'] at hx216_1)
        (try rw [show ((0 : Int)).toNat = 0 from rfl] at hx216_2)
        (try rw [show 0 * 5 = 0 from rfl] at hx216_2)
        (try rw [Addr.add_zero'] at hx216_2)
        (try rw [show ((0 : Int)).toNat = 0 from rfl] at hx216_3)
        (try rw [show 0 * 5 = 0 from rfl] at hx216_3)
        (try rw [Addr.add_zero'] at hx216_3)
        (try rw [show ((0 : Int)).toNat = 0 from rfl] at hx216_4)
        (try rw [show 0 * 5 = 0 from rfl] at hx216_4)
        (try rw [Addr.add_zero'] at hx216_4)
        replace hx216_0 := (HB.out.cell (World.block_lt_of_cell? w _ hx216_0)).trans hx216_0
        replace hx216_1 := (HB.out.cell (World.block_lt_of_cell? w _ hx216_1)).trans hx216_1
        replace hx216_2 := (HB.out.cell (World.block_lt_of_cell? w _ hx216_2)).trans hx216_2
        replace hx216_3 := (HB.out.cell (World.block_lt_of_cell? w _ hx216_3)).trans hx216_3
        replace hx216_4 := (HB.out.cell (World.block_lt_of_cell? w _ hx216_4)).trans hx216_4
        replace p216 := eq_true p216
        replace q216 := eq_true q216
        have p217 : 0 ≤ (0 : Int) := (by omega)
        have q217 : 0 < (((rd_T75 l0 a2).f0).length : Int) := of_decide_eq_true (by first | (with_reducible assumption) | assumption)
        obtain ⟨ad217, e217, hx217_0, hx217_1, hx217_2, hx217_3, hx217_4⟩ := at_T48 HR213_0.out 0 p217 q217
        have hw217_4 := hx217_4
        (try rw [show ((0 : Int)).toNat = 0 from rfl] at hw217_4)
        (try rw [show 0 * 5 = 0 from rfl] at hw217_4)
        (try rw [Addr.add_zero'] at hw217_4)
        have hw217_3 := hx217_3
        (try rw [show ((0 : Int)).toNat = 0 from rfl] at hw217_3)
        (try rw [show 0 * 5 = 0 from rfl] at hw217_3)
        (try rw [Addr.add_zero'] at hw217_3)
        have hw217_2 := hx217_2
        (try rw [show ((0 : Int)).toNat = 0 from rfl] at hw217_2)
        (try rw [show 0 * 5 = 0 from rfl] at hw217_2)
        (try rw [Addr.add_zero'] at hw217_2)
        have hw217_1 := hx217_1
        (try rw [show ((0 : Int)).toNat = 0 from rfl] at hw217_1)
        (try rw [show 0 * 5 = 0 from rfl] at hw217_1)
        (try rw [Addr.add_zero'] at hw217_1)
        have hw217_0 := hx217_0
        (try rw [show ((0 : Int)).toNat = 0 from rfl] at hw217_0)
        (try rw [show 0 * 5 = 0 from rfl] at hw217_0)
        (try rw [Addr.add_zero'] at hw217_0)
        cases e217
        have qi217 : (0 < ((rd_T75 l0 a2).f0).length) = True := eq_true (by omega)
        (try rw [show ((0 : Int)).toNat = 0 from rfl] at hx217_0)
        (try rw [show 0 * 5 = 0 from rfl] at hx217_0)
        (try rw [Addr.add_zero'] at hx217_0)
        (try rw [show ((0 : Int)).toNat = 0 from rfl] at hx217_1)
        (try rw [show 0 * 5 = 0 from rfl] at hx217_1)
        (try rw [Addr.add_zero'] at hx217_1)
        (try rw [show ((0 : Int)).toNat = 0 from rfl] at hx217_2)
        (try rw [show 0 * 5 = 0 from rfl] at hx217_2)
        (try rw [Addr.add_zero'] at hx217_2)
        (try rw [show ((0 : Int)).toNat = 0 from rfl] at hx217_3)
        (try rw [show 0 * 5 = 0 from rfl] at hx217_3)
        (try rw [Addr.add_zero'] at hx217_3)
        (try rw [show ((0 : Int)).toNat = 0 from rfl] at hx217_4)
        (try rw [show 0 * 5 = 0 from rfl] at hx217_4)
        (try rw [Addr.add_zero'] at hx217_4)
        replace hx217_0 := (HB.out.cell (World.block_lt_of_cell? w _ hx217_0)).trans hx217_0
        replace hx217_1 := (HB.out.cell (World.block_lt_of_cell? w _ hx217_1)).trans hx217_1
        replace hx217_2 := (HB.out.cell (World.block_lt_of_cell? w _ hx217_2)).trans hx217_2
        replace hx217_3 := (HB.out.cell (World.block_lt_of_cell? w _ hx217_3)).trans hx217_3
        replace hx217_4 := (HB.out.cell (World.block_lt_of_cell? w _ hx217_4)).trans hx217_4
        replace p217 := eq_true p217
        replace q217 := eq_true q217
        refine start_ (n := 10) (S := fun w' => w'.cell? ⟨gb214, 0, none⟩ = some (.slice (some ad216) ((rd_T75 l0 a1).f0).length c212_0) ∧ w'.cell? ⟨gb214, 1, none⟩ = some (.int .i64 ((rd_T75 l0 a1).f1)) ∧ w'.cell? ⟨gb215, 0, none⟩ = some (.slice (some ad217) ((rd_T75 l0 a2).f0).length c213_0) ∧ w'.cell? ⟨gb215, 1, none⟩ = some (.int .i64 ((rd_T75 l0 a2).f1)) ∧ w'.cell? ad216 = some (.string ((rd_T48 ((rd_T75 l0 a1).f0) 0).f0)) ∧ w'.cell? ⟨ad216.block, ad216.off + 1, none⟩ = some (.int .i64 ((rd_T48 ((rd_T75 l0 a1).f0) 0).f1)) ∧ w'.cell? ⟨ad216.block, ad216.off + 2, none⟩ = some (.int .i64 ((rd_T48 ((rd_T75 l0 a1).f0) 0).f2)) ∧ w'.cell? ⟨ad216.block, ad216.off + 3, none⟩ = some (.string ((rd_T48 ((rd_T75 l0 a1).f0) 0).f3)) ∧ w'.cell? ⟨ad216.block, ad216.off + 4, none⟩ = some (.int .i64 ((rd_T48 ((rd_T75 l0 a1).f0) 0).f4)) ∧ w'.cell? ad217 = some (.string ((rd_T48 ((rd_T75 l0 a2).f0) 0).f0)) ∧ w'.cell? ⟨ad217.block, ad217.off + 1, none⟩ = some (.int .i64 ((rd_T48 ((rd_T75 l0 a2).f0) 0).f1)) ∧ w'.cell? ⟨ad217.block, ad217.off + 2, none⟩ = some (.int .i64 ((rd_T48 ((rd_T75 l0 a2).f0) 0).f2)) ∧ w'.cell? ⟨ad217.block, ad217.off + 3, none⟩ = some (.string ((rd_T48 ((rd_T75 l0 a2).f0) 0).f3)) ∧ w'.cell? ⟨ad217.block, ad217.off + 4, none⟩ = some (.int .i64 ((rd_T48 ((rd_T75 l0 a2).f0) 0).f4))) (ds := []) #[false, false, false, false, false, false, false, false, false, false] (by kernel_rfl) rfl rfl ⟨(blk_cell BK214.out 0).trans rfl, (blk_cell BK214.out 1).trans rfl, (blk_cell BK215.out 0).trans rfl, (blk_cell BK215.out 1).trans rfl, ((HB.out.cell (World.block_lt_of_cell? w _ hw216_0)).trans hw216_0), ((HB.out.cell (World.block_lt_of_cell? w _ hw216_1)).trans hw216_1), ((HB.out.cell (World.block_lt_of_cell? w _ hw216_2)).trans hw216_2), ((HB.out.cell (World.block_lt_of_cell? w _ hw216_3)).trans hw216_3), ((HB.out.cell (World.block_lt_of_cell? w _ hw216_4)).trans hw216_4), ((HB.out.cell (World.block_lt_of_cell? w _ hw217_0)).trans hw217_0), ((HB.out.cell (World.block_lt_of_cell? w _ hw217_1)).trans hw217_1), ((HB.out.cell (World.block_lt_of_cell? w _ hw217_2)).trans hw217_2), ((HB.out.cell (World.block_lt_of_cell? w _ hw217_3)).trans hw217_3), ((HB.out.cell (World.block_lt_of_cell? w _ hw217_4)).trans hw217_4)⟩ (fun hHeld => ?_); refine with_tabW impl_heads_Less.tab2 impl_heads_Less.bits2 (fun HT_ HW_ => ?_)
        generalize w34.drew = w35 at BK214 BK215 HB hx216_0 hx216_1 hx216_2 hx216_3 hx216_4 hx217_0 hx217_1 hx217_2 hx217_3 hx217_4 hHeld ⊢
        refine pure_ (i := 0) (N := some 18) (v := ?_) (a' := ?_) #[true, false, false, false, false, false, false, false, false, false] rfl rfl (any_of HT_.out (by kernel_rfl)) (fun _ _ _ h => h) (Or.inl ⟨by rfl, ?_⟩) ?_ ?_
        rotate_left
        ·
         intro w'
         go_simp
         with_reducible rfl
        rotate_left
        ·
         simp only [Act.put, List.setIfInBounds_toArray, List.set_cons_zero, List.set_cons_succ, i64_w, i32_w]
         rfl
        refine pure_ (i := 4) (N := some 22) (v := ?_) (a' := ?_) #[true, false, false, false, true, false, false, false, false, false] rfl rfl (any_of HT_.out (by kernel_rfl)) (fun _ _ _ h => h) (Or.inl ⟨by rfl, ?_⟩) ?_ ?_
        rotate_left
        ·
         intro w'
         go_simp
         with_reducible rfl
        rotate_left
        ·
         simp only [Act.put, List.setIfInBounds_toArray, List.set_cons_zero, List.set_cons_succ, i64_w, i32_w]
         rfl
        refine take_ (i := 1) (N := some 19) (v := ?_) (a' := ?_) #[true, true, false, false, true, false, false, false, false, false] rfl rfl (take_ofW HT_.out HW_.out (by kernel_rfl)) (fun _ _ _ h => h) (Or.inl ⟨by rfl, ?_⟩) hHeld ?_ ?_
        rotate_left
        ·
         rintro w' ⟨s0, s1, s2, s3, s4, s5, s6, s7, s8, s9, s10, s11, s12, s13⟩
         go_simp
         with_reducible rfl
        rotate_left
        ·
         simp only [Act.put, List.setIfInBounds_toArray, List.set_cons_zero, List.set_cons_succ, i64_w, i32_w]
         rfl
        refine pure_ (i := 2) (N := some 20) (v := ?_) (a' := ?_) #[true, true, true, false, true, false, false, false, false, false] rfl rfl (any_of HT_.out (by kernel_rfl)) (fun _ _ _ h => h) (Or.inl ⟨by rfl, ?_⟩) ?_ ?_
        rotate_left
        ·
         intro w'
         go_simp
         with_reducible rfl
        rotate_left
        ·
         simp only [Act.put, List.setIfInBounds_toArray, List.set_cons_zero, List.set_cons_succ, i64_w, i32_w]
         rfl
        refine take_ (i := 3) (N := some 21) (v := ?_) (a' := ?_) #[true, true, true, true, true, false, false, false, false, false] rfl rfl (take_ofW HT_.out HW_.out (by kernel_rfl)) (fun _ _ _ h => h) (Or.inl ⟨by rfl, ?_⟩) hHeld ?_ ?_
        rotate_left
        ·
         rintro w' ⟨s0, s1, s2, s3, s4, s5, s6, s7, s8, s9, s10, s11, s12, s13⟩
         go_simp
         with_reducible rfl
        rotate_left
        ·
         simp only [Act.put, List.setIfInBounds_toArray, List.set_cons_zero, List.set_cons_succ, i64_w, i32_w]
         rfl
        refine take_ (i := 5) (N := some 23) (v := ?_) (a' := ?_) #[true, true, true, true, true, true, false, false, false, false] rfl rfl (take_ofW HT_.out HW_.out (by kernel_rfl)) (fun _ _ _ h => h) (Or.inl ⟨by rfl, ?_⟩) hHeld ?_ ?_
        rotate_left
        ·
         rintro w' ⟨s0, s1, s2, s3, s4, s5, s6, s7, s8, s9, s10, s11, s12, s13⟩
         go_simp
         with_reducible rfl
        rotate_left
        ·
         simp only [Act.put, List.setIfInBounds_toArray, List.set_cons_zero, List.set_cons_succ, i64_w, i32_w]
         rfl
        refine pure_ (i := 6) (N := some 24) (v := ?_) (a' := ?_) #[true, true, true, true, true, true, true, false, false, false] rfl rfl (any_of HT_.out (by kernel_rfl)) (fun _ _ _ h => h) (Or.inl ⟨by rfl, ?_⟩) ?_ ?_
        rotate_left
        ·
         intro w'
         go_simp
         with_reducible rfl
        rotate_left
        ·
         simp only [Act.put, List.setIfInBounds_toArray, List.set_cons_zero, List.set_cons_succ, i64_w, i32_w]
         rfl
        refine take_ (i := 7) (N := some 25) (v := ?_) (a' := ?_) #[true, true, true, true, true, true, true, true, false, false] rfl rfl (take_ofW HT_.out HW_.out (by kernel_rfl)) (fun _ _ _ h => h) (Or.inl ⟨by rfl, ?_⟩) hHeld ?_ ?_
        rotate_left
        ·
         rintro w' ⟨s0, s1, s2, s3, s4, s5, s6, s7, s8, s9, s10, s11, s12, s13⟩
         go_simp
         with_reducible rfl
        rotate_left
        ·
         simp only [Act.put, List.setIfInBounds_toArray, List.set_cons_zero, List.set_cons_succ, i64_w, i32_w]
         rfl
        refine one_ (i := 8) (N := some 26) #[true, true, true, true, true, true, true, true, true, false] rfl rfl (one_of HT_.out (by kernel_rfl)) (by decide) (fun K hK => ?_)
        refine goes_ Try.func48 (by kernel_rfl) rfl #[.agg #[.string ((rd_T48 ((rd_T75 l0 a1).f0) 0).f0), .int .i64 ((rd_T48 ((rd_T75 l0 a1).f0) 0).f1), .int .i64 ((rd_T48 ((rd_T75 l0 a1).f0) 0).f2), .string ((rd_T48 ((rd_T75 l0 a1).f0) 0).f3), .int .i64 ((rd_T48 ((rd_T75 l0 a1).f0) 0).f4)], .agg #[.string ((rd_T48 ((rd_T75 l0 a2).f0) 0).f0), .int .i64 ((rd_T48 ((rd_T75 l0 a2).f0) 0).f1), .int .i64 ((rd_T48 ((rd_T75 l0 a2).f0) 0).f2), .string ((rd_T48 ((rd_T75 l0 a2).f0) 0).f3), .int .i64 ((rd_T48 ((rd_T75 l0 a2).f0) 0).f4)]] (by rfl) rfl rfl (by (try simp only [List.map_toArray, List.map_cons, List.map_nil]); first | done | rfl | (simp only [List.length_drop, List.length_take]; rfl)) ?_
        with_reducible refine (impl_entryOrder.calls k ((rd_T48 ((rd_T75 l0 a1).f0) 0).f0) ((rd_T48 ((rd_T75 l0 a1).f0) 0).f1) ((rd_T48 ((rd_T75 l0 a1).f0) 0).f2) ((rd_T48 ((rd_T75 l0 a1).f0) 0).f3) ((rd_T48 ((rd_T75 l0 a1).f0) 0).f4) ((rd_T48 ((rd_T75 l0 a2).f0) 0).f0) ((rd_T48 ((rd_T75 l0 a2).f0) 0).f1) ((rd_T48 ((rd_T75 l0 a2).f0) 0).f2) ((rd_T48 ((rd_T75 l0 a2).f0) 0).f3) ((rd_T48 ((rd_T75 l0 a2).f0) 0).f4) t218 _ A10.out).mono ?_
        rintro e w36 ⟨rfl, hb⟩
        refine ⟨_, rfl, ?_⟩
        have n0_ := Aside0.mk (blk_below (g := gb214) (o := .cells #[.slice (some ad216) ((rd_T75 l0 a1).f0).length c212_0, .int .i64 ((rd_T75 l0 a1).f1)] 75 (0, 0)) (impl_heads_Less_vb BK214) hb)
        have n1_ := Aside0.mk (blk_below (g := gb215) (o := .cells #[.slice (some ad217) ((rd_T75 l0 a2).f0).length c213_0, .int .i64 ((rd_T75 l0 a2).f1)] 75 (0, 0)) (impl_heads_Less_vb BK215) hb)
        have n2_ := Aside0.mk (below_step (impl_heads_Less_auHB) hb)
        clear BK214
        clear BK215
        clear HB
        have BK214 := n0_
        have BK215 := n1_
        have HB := n2_
        clear n0_ n1_ n2_
        (try clear hb)
        (try clear hb2)
        (try clear hk)
        (try clear hi)
        refine hK.out _ _ ⟨(blk_cell BK214.out 0).trans rfl, (blk_cell BK214.out 1).trans rfl, (blk_cell BK215.out 0).trans rfl, (blk_cell BK215.out 1).trans rfl, ((HB.out.cell (World.block_lt_of_cell? w _ hw216_0)).trans hw216_0), ((HB.out.cell (World.block_lt_of_cell? w _ hw216_1)).trans hw216_1), ((HB.out.cell (World.block_lt_of_cell? w _ hw216_2)).trans hw216_2), ((HB.out.cell (World.block_lt_of_cell? w _ hw216_3)).trans hw216_3), ((HB.out.cell (World.block_lt_of_cell? w _ hw216_4)).trans hw216_4), ((HB.out.cell (World.block_lt_of_cell? w _ hw217_0)).trans hw217_0), ((HB.out.cell (World.block_lt_of_cell? w _ hw217_1)).trans hw217_1), ((HB.out.cell (World.block_lt_of_cell? w _ hw217_2)).trans hw217_2), ((HB.out.cell (World.block_lt_of_cell? w _ hw217_3)).trans hw217_3), ((HB.out.cell (World.block_lt_of_cell? w _ hw217_4)).trans hw217_4)⟩ (fun hHeld => ?_)
        clear hK K
        refine norm_ (a' := ?_) ?_ ?_
        rotate_left
        ·
         show Act.put _ (some 26) _ = _
         simp only [Act.put, List.setIfInBounds_toArray, List.set_cons_zero, List.set_cons_succ, i64_w, i32_w]
         rfl
        refine pure_ (i := 9) (N := some 9) (v := ?_) (a' := ?_) #[true, true, true, true, true, true, true, true, true, true] rfl rfl (any_of HT_.out (by kernel_rfl)) (fun _ _ _ h => h) (Or.inl ⟨by rfl, ?_⟩) ?_ ?_
        rotate_left
        ·
         intro w'
         go_simp
         with_reducible rfl
        rotate_left
        ·
         simp only [Act.put, List.setIfInBounds_toArray, List.set_cons_zero, List.set_cons_succ, i64_w, i32_w]
         rfl
        refine done_ (done_of HT_.out (by kernel_rfl)) ?_
        try go_wp2
        go_ret
        exact ⟨by first | rfl | (simp [errW_none, errW_some] <;> rfl) | (simp [*, errW_none, errW_some] <;> rfl), impl_heads_Less_auHB⟩
      ·
       rw [if_neg c9] at H
       exact absurd H (by simp)
     ·
      rw [if_neg c8] at H
      exact absurd H (by simp)
    ·
     rw [if_neg c7] at H
     exact absurd H (by simp)
   ·
    rw [if_neg c6] at H
    exact absurd H (by simp)
  ·
   rw [if_neg c5] at H
   exact absurd H (by simp)
 ·
  rw [if_neg c4] at H
  exact absurd H (by simp)


end Go.Proofs.Ytcfebbhiehaocaa.QFnMerge

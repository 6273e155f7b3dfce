/- What the law FnPostJoin reaches, function by function: what each computes, and that the machine's call comes to it. Laid by a program. -/
import Derived.Test.YtemnggadcgmmkaaQFnPostJoinx0
import Derived.Test.YtemnggadcgmmkaaQFnPostJoinx4
namespace Go.Proofs.Ytemnggadcgmmkaa.QFnPostJoin
open Go.RowKit Go.Proofs.YtemnggadcgmmkaaW.PrintWords Go.Proofs.YtemnggadcgmmkaaW.PrintLast Go.Proofs.YtemnggadcgmmkaaW.PrintMore
attribute [local go_sem] max2_int min2_int max_two min_two max_three min_three max_four min_four   -- for this text's walks alone
set_option linter.unusedVariables false
set_option linter.unusedSimpArgs false

/-! ### impl_LegOk: function 10 -/
def impl_LegOk.f (k : Nat) (a0_0 : ByteArray) (a0_1 : Int) (a0_2 : Int) : Option (Bool) := (impl_AcctOk.f k a0_0).bind fun t242 => (if t242 = true then (if a0_1 ≥ 1 then (if a0_1 ≤ 3 then (if a0_2 ≥ (-1000) then (if a0_2 ≤ 1000 then (some (a0_2 != 0)) else (some false)) else (some false)) else (some false)) else (some false)) else (some false))
theorem impl_LegOk.mono : ∀ a0 a1 a2 k, LeO (impl_LegOk.f k a0 a1 a2) (impl_LegOk.f (k + 1) a0 a1 a2) := by
  intro a0 a1 a2 k
  unfold impl_LegOk.f
  repeat' first
      | (with_reducible exact impl_AcctOk.mono _ _)
      | (with_reducible exact LeO.refl _)
      | (with_reducible exact LeO.none _)
      | (with_reducible refine LeO.ite ?_ ?_)
      | (with_reducible refine LeO.bind ?_ (fun _ => ?_))
      | exact impl_AcctOk.mono _ _
      | exact LeO.none _
      | refine LeO.ite ?_ ?_
      | refine LeO.bind ?_ (fun _ => ?_)
theorem impl_LegOk_auHB {q : Prop} (h : q := by (repeat (first | (with_reducible first | exact HB.out | apply below_alloc | apply pw_below_drewN | apply below_drew1 | refine below_set ?_ GE241.out) | exact HB.out))) : q := h
set_option maxHeartbeats 8000000 in
set_option maxRecDepth 100000 in
theorem impl_LegOk.calls (k : Nat) (a0_0 : ByteArray) (a0_1 : Int) (a0_2 : Int) (r : Bool) (w : World) (h : impl_LegOk.f k a0_0 a0_1 a0_2 = some r) :
  Calls Try.prog 10 #[.agg #[.string a0_0, .int .i64 a0_1, .int .i64 a0_2]] w fun e w' => e = .returned (.bool r) ∧ Below w.heap.size w w' := by
 have hu29 := Try.underlying29
 have HB := Aside0.mk (Below.refl w.heap.size w)
 have H : ((impl_AcctOk.f k a0_0).bind fun t242 => (if t242 = true then (if a0_1 ≥ 1 then (if a0_1 ≤ 3 then (if a0_2 ≥ (-1000) then (if a0_2 ≤ 1000 then (some (a0_2 != 0)) else (some false)) else (some false)) else (some false)) else (some false)) else (some false))) = some r := h
 clear h
 replace H := Option.bind_eq_some_iff.mp H
 obtain ⟨t242, A20, H⟩ := H
 replace H : (if t242 = true then (if a0_1 ≥ 1 then (if a0_1 ≤ 3 then (if a0_2 ≥ (-1000) then (if a0_2 ≤ 1000 then (some (a0_2 != 0)) else (some false)) else (some false)) else (some false)) else (some false)) else (some false)) = some r := H
 have A2 := Aside0.mk A20
 clear A20
 by_cases c3 : t242 = true
 ·
  subst c3
  have H1 : (if a0_1 ≥ 1 then (if a0_1 ≤ 3 then (if a0_2 ≥ (-1000) then (if a0_2 ≤ 1000 then (some (a0_2 != 0)) else (some false)) else (some false)) else (some false)) else (some false)) = some r := by rw [if_pos rfl] at H; exact H
  clear H
  have H := H1
  clear H1
  by_cases c4 : a0_1 ≥ 1
  ·
   rw [if_pos c4] at H
   have c4b0 : decide (1 ≤ a0_1) = true := decide_eq_true c4
   clear c4
   by_cases c5 : a0_1 ≤ 3
   ·
    rw [if_pos c5] at H
    have c5b0 : decide (a0_1 ≤ 3) = true := decide_eq_true c5
    clear c5
    by_cases c6 : a0_2 ≥ (-1000)
    ·
     rw [if_pos c6] at H
     have c6b0 : decide ((-1000) ≤ a0_2) = true := decide_eq_true c6
     clear c6
     by_cases c7 : a0_2 ≤ 1000
     ·
      rw [if_pos c7] at H
      have c7b0 : decide (a0_2 ≤ 1000) = true := decide_eq_true c7
      clear c7
      obtain rfl := Option.some.inj H
      go_enter Try.func10, Try.ntmps10
      go_wp2_with (first | ((with_reducible refine gate_dst (N := 1) rfl ?_); refine box_event ?hg (N := 1) ?hd (cs := #[.string a0_0, .int .i64 a0_1, .int .i64 a0_2]) (t := 29) ?hr ?_; (case hd => rfl); (case hg => rfl); (case hr => first | (go_simp; done) | (go_simp; rfl)); intro gb241 hg w8 hbox hb; have n0_ := Aside0.mk (below_step (impl_LegOk_auHB) hb); have n1_ := Aside0.mk (hbox); have n2_ := Aside0.mk ((by rw [hg]; exact (below_size (impl_LegOk_auHB)) : w.heap.size ≤ gb241)); have n3_ := Aside0.mk ((by rw [hg]; exact (below_size (impl_LegOk_auHB)) : w.heap.size ≤ gb241)); clear HB; have HB := n0_; have BK241 := n1_; have GW241 := n2_; have GE241 := n3_; clear n0_ n1_ n2_ n3_; clear hb hbox hg; have hcz9_0 : w8.cell? ⟨gb241, 0, none⟩ = some (.string a0_0) := (blk_cell BK241.out 0).trans rfl; have hcz9_1 : w8.cell? ⟨gb241, 1, none⟩ = some (.int .i64 a0_1) := (blk_cell BK241.out 1).trans rfl; have hcz9_2 : w8.cell? ⟨gb241, 2, none⟩ = some (.int .i64 a0_2) := (blk_cell BK241.out 2).trans rfl; have hfz9_0 := blk_frozen BK241.out 0; have hfz9_1 := blk_frozen BK241.out 1; have hfz9_2 := blk_frozen BK241.out 2) | ((with_reducible refine gate_callee (f := 12) rfl ?_); refine goesL_ (some 5) rfl rfl Try.func12 (by kernel_rfl) rfl #[.string a0_0] rfl (by (try simp only [List.map_toArray, List.map_cons, List.map_nil]); first | done | rfl | (simp only [List.length_drop, List.length_take]; rfl)) ?_; (with_reducible refine (impl_AcctOk.calls k a0_0 true _ A2.out).mono ?_); rintro e w' ⟨rfl, ⟨nd, rfl⟩⟩; refine ⟨_, rfl, ?_⟩))
      go_ret
      exact ⟨by first | rfl | (simp [errW_none, errW_some] <;> rfl) | (simp [*, errW_none, errW_some] <;> rfl), impl_LegOk_auHB⟩
     ·
      rw [if_neg c7] at H
      have c7b0 : decide (a0_2 ≤ 1000) = false := decide_eq_false c7
      clear c7
      obtain rfl := Option.some.inj H
      go_enter Try.func10, Try.ntmps10
      go_wp2_with (first | ((with_reducible refine gate_dst (N := 1) rfl ?_); refine box_event ?hg (N := 1) ?hd (cs := #[.string a0_0, .int .i64 a0_1, .int .i64 a0_2]) (t := 29) ?hr ?_; (case hd => rfl); (case hg => rfl); (case hr => first | (go_simp; done) | (go_simp; rfl)); intro gb241 hg w10 hbox hb; have n0_ := Aside0.mk (below_step (impl_LegOk_auHB) hb); have n1_ := Aside0.mk (hbox); have n2_ := Aside0.mk ((by rw [hg]; exact (below_size (impl_LegOk_auHB)) : w.heap.size ≤ gb241)); have n3_ := Aside0.mk ((by rw [hg]; exact (below_size (impl_LegOk_auHB)) : w.heap.size ≤ gb241)); clear HB; have HB := n0_; have BK241 := n1_; have GW241 := n2_; have GE241 := n3_; clear n0_ n1_ n2_ n3_; clear hb hbox hg; have hcz11_0 : w10.cell? ⟨gb241, 0, none⟩ = some (.string a0_0) := (blk_cell BK241.out 0).trans rfl; have hcz11_1 : w10.cell? ⟨gb241, 1, none⟩ = some (.int .i64 a0_1) := (blk_cell BK241.out 1).trans rfl; have hcz11_2 : w10.cell? ⟨gb241, 2, none⟩ = some (.int .i64 a0_2) := (blk_cell BK241.out 2).trans rfl; have hfz11_0 := blk_frozen BK241.out 0; have hfz11_1 := blk_frozen BK241.out 1; have hfz11_2 := blk_frozen BK241.out 2) | ((with_reducible refine gate_callee (f := 12) rfl ?_); refine goesL_ (some 5) rfl rfl Try.func12 (by kernel_rfl) rfl #[.string a0_0] rfl (by (try simp only [List.map_toArray, List.map_cons, List.map_nil]); first | done | rfl | (simp only [List.length_drop, List.length_take]; rfl)) ?_; (with_reducible refine (impl_AcctOk.calls k a0_0 true _ A2.out).mono ?_); rintro e w' ⟨rfl, ⟨nd, rfl⟩⟩; refine ⟨_, rfl, ?_⟩))
      go_ret
      exact ⟨by first | rfl | (simp [errW_none, errW_some] <;> rfl) | (simp [*, errW_none, errW_some] <;> rfl), impl_LegOk_auHB⟩
    ·
     rw [if_neg c6] at H
     have c6b0 : decide ((-1000) ≤ a0_2) = false := decide_eq_false c6
     clear c6
     obtain rfl := Option.some.inj H
     go_enter Try.func10, Try.ntmps10
     go_wp2_with (first | ((with_reducible refine gate_dst (N := 1) rfl ?_); refine box_event ?hg (N := 1) ?hd (cs := #[.string a0_0, .int .i64 a0_1, .int .i64 a0_2]) (t := 29) ?hr ?_; (case hd => rfl); (case hg => rfl); (case hr => first | (go_simp; done) | (go_simp; rfl)); intro gb241 hg w12 hbox hb; have n0_ := Aside0.mk (below_step (impl_LegOk_auHB) hb); have n1_ := Aside0.mk (hbox); have n2_ := Aside0.mk ((by rw [hg]; exact (below_size (impl_LegOk_auHB)) : w.heap.size ≤ gb241)); have n3_ := Aside0.mk ((by rw [hg]; exact (below_size (impl_LegOk_auHB)) : w.heap.size ≤ gb241)); clear HB; have HB := n0_; have BK241 := n1_; have GW241 := n2_; have GE241 := n3_; clear n0_ n1_ n2_ n3_; clear hb hbox hg; have hcz13_0 : w12.cell? ⟨gb241, 0, none⟩ = some (.string a0_0) := (blk_cell BK241.out 0).trans rfl; have hcz13_1 : w12.cell? ⟨gb241, 1, none⟩ = some (.int .i64 a0_1) := (blk_cell BK241.out 1).trans rfl; have hcz13_2 : w12.cell? ⟨gb241, 2, none⟩ = some (.int .i64 a0_2) := (blk_cell BK241.out 2).trans rfl; have hfz13_0 := blk_frozen BK241.out 0; have hfz13_1 := blk_frozen BK241.out 1; have hfz13_2 := blk_frozen BK241.out 2) | ((with_reducible refine gate_callee (f := 12) rfl ?_); refine goesL_ (some 5) rfl rfl Try.func12 (by kernel_rfl) rfl #[.string a0_0] rfl (by (try simp only [List.map_toArray, List.map_cons, List.map_nil]); first | done | rfl | (simp only [List.length_drop, List.length_take]; rfl)) ?_; (with_reducible refine (impl_AcctOk.calls k a0_0 true _ A2.out).mono ?_); rintro e w' ⟨rfl, ⟨nd, rfl⟩⟩; refine ⟨_, rfl, ?_⟩))
     go_ret
     exact ⟨by first | rfl | (simp [errW_none, errW_some] <;> rfl) | (simp [*, errW_none, errW_some] <;> rfl), impl_LegOk_auHB⟩
   ·
    rw [if_neg c5] at H
    have c5b0 : decide (a0_1 ≤ 3) = false := decide_eq_false c5
    clear c5
    obtain rfl := Option.some.inj H
    go_enter Try.func10, Try.ntmps10
    go_wp2_with (first | ((with_reducible refine gate_dst (N := 1) rfl ?_); refine box_event ?hg (N := 1) ?hd (cs := #[.string a0_0, .int .i64 a0_1, .int .i64 a0_2]) (t := 29) ?hr ?_; (case hd => rfl); (case hg => rfl); (case hr => first | (go_simp; done) | (go_simp; rfl)); intro gb241 hg w14 hbox hb; have n0_ := Aside0.mk (below_step (impl_LegOk_auHB) hb); have n1_ := Aside0.mk (hbox); have n2_ := Aside0.mk ((by rw [hg]; exact (below_size (impl_LegOk_auHB)) : w.heap.size ≤ gb241)); have n3_ := Aside0.mk ((by rw [hg]; exact (below_size (impl_LegOk_auHB)) : w.heap.size ≤ gb241)); clear HB; have HB := n0_; have BK241 := n1_; have GW241 := n2_; have GE241 := n3_; clear n0_ n1_ n2_ n3_; clear hb hbox hg; have hcz15_0 : w14.cell? ⟨gb241, 0, none⟩ = some (.string a0_0) := (blk_cell BK241.out 0).trans rfl; have hcz15_1 : w14.cell? ⟨gb241, 1, none⟩ = some (.int .i64 a0_1) := (blk_cell BK241.out 1).trans rfl; have hcz15_2 : w14.cell? ⟨gb241, 2, none⟩ = some (.int .i64 a0_2) := (blk_cell BK241.out 2).trans rfl; have hfz15_0 := blk_frozen BK241.out 0; have hfz15_1 := blk_frozen BK241.out 1; have hfz15_2 := blk_frozen BK241.out 2) | ((with_reducible refine gate_callee (f := 12) rfl ?_); refine goesL_ (some 5) rfl rfl Try.func12 (by kernel_rfl) rfl #[.string a0_0] rfl (by (try simp only [List.map_toArray, List.map_cons, List.map_nil]); first | done | rfl | (simp only [List.length_drop, List.length_take]; rfl)) ?_; (with_reducible refine (impl_AcctOk.calls k a0_0 true _ A2.out).mono ?_); rintro e w' ⟨rfl, ⟨nd, rfl⟩⟩; refine ⟨_, rfl, ?_⟩))
    go_ret
    exact ⟨by first | rfl | (simp [errW_none, errW_some] <;> rfl) | (simp [*, errW_none, errW_some] <;> rfl), impl_LegOk_auHB⟩
  ·
   rw [if_neg c4] at H
   have c4b0 : decide (1 ≤ a0_1) = false := decide_eq_false c4
   clear c4
   obtain rfl := Option.some.inj H
   go_enter Try.func10, Try.ntmps10
   go_wp2_with (first | ((with_reducible refine gate_dst (N := 1) rfl ?_); refine box_event ?hg (N := 1) ?hd (cs := #[.string a0_0, .int .i64 a0_1, .int .i64 a0_2]) (t := 29) ?hr ?_; (case hd => rfl); (case hg => rfl); (case hr => first | (go_simp; done) | (go_simp; rfl)); intro gb241 hg w16 hbox hb; have n0_ := Aside0.mk (below_step (impl_LegOk_auHB) hb); have n1_ := Aside0.mk (hbox); have n2_ := Aside0.mk ((by rw [hg]; exact (below_size (impl_LegOk_auHB)) : w.heap.size ≤ gb241)); have n3_ := Aside0.mk ((by rw [hg]; exact (below_size (impl_LegOk_auHB)) : w.heap.size ≤ gb241)); clear HB; have HB := n0_; have BK241 := n1_; have GW241 := n2_; have GE241 := n3_; clear n0_ n1_ n2_ n3_; clear hb hbox hg; have hcz17_0 : w16.cell? ⟨gb241, 0, none⟩ = some (.string a0_0) := (blk_cell BK241.out 0).trans rfl; have hcz17_1 : w16.cell? ⟨gb241, 1, none⟩ = some (.int .i64 a0_1) := (blk_cell BK241.out 1).trans rfl; have hcz17_2 : w16.cell? ⟨gb241, 2, none⟩ = some (.int .i64 a0_2) := (blk_cell BK241.out 2).trans rfl; have hfz17_0 := blk_frozen BK241.out 0; have hfz17_1 := blk_frozen BK241.out 1; have hfz17_2 := blk_frozen BK241.out 2) | ((with_reducible refine gate_callee (f := 12) rfl ?_); refine goesL_ (some 5) rfl rfl Try.func12 (by kernel_rfl) rfl #[.string a0_0] rfl (by (try simp only [List.map_toArray, List.map_cons, List.map_nil]); first | done | rfl | (simp only [List.length_drop, List.length_take]; rfl)) ?_; (with_reducible refine (impl_AcctOk.calls k a0_0 true _ A2.out).mono ?_); rintro e w' ⟨rfl, ⟨nd, rfl⟩⟩; refine ⟨_, rfl, ?_⟩))
   go_ret
   exact ⟨by first | rfl | (simp [errW_none, errW_some] <;> rfl) | (simp [*, errW_none, errW_some] <;> rfl), impl_LegOk_auHB⟩
 ·
  replace c3 := Bool.eq_false_iff.mpr c3
  subst c3
  have H1 : (some false) = some r := by rw [if_neg (show ¬ (false = true) by decide)] at H; exact H
  clear H
  have H := H1
  clear H1
  obtain rfl := Option.some.inj H
  go_enter Try.func10, Try.ntmps10
  go_wp2_with (first | ((with_reducible refine gate_dst (N := 1) rfl ?_); refine box_event ?hg (N := 1) ?hd (cs := #[.string a0_0, .int .i64 a0_1, .int .i64 a0_2]) (t := 29) ?hr ?_; (case hd => rfl); (case hg => rfl); (case hr => first | (go_simp; done) | (go_simp; rfl)); intro gb241 hg w18 hbox hb; have n0_ := Aside0.mk (below_step (impl_LegOk_auHB) hb); have n1_ := Aside0.mk (hbox); have n2_ := Aside0.mk ((by rw [hg]; exact (below_size (impl_LegOk_auHB)) : w.heap.size ≤ gb241)); have n3_ := Aside0.mk ((by rw [hg]; exact (below_size (impl_LegOk_auHB)) : w.heap.size ≤ gb241)); clear HB; have HB := n0_; have BK241 := n1_; have GW241 := n2_; have GE241 := n3_; clear n0_ n1_ n2_ n3_; clear hb hbox hg; have hcz19_0 : w18.cell? ⟨gb241, 0, none⟩ = some (.string a0_0) := (blk_cell BK241.out 0).trans rfl; have hcz19_1 : w18.cell? ⟨gb241, 1, none⟩ = some (.int .i64 a0_1) := (blk_cell BK241.out 1).trans rfl; have hcz19_2 : w18.cell? ⟨gb241, 2, none⟩ = some (.int .i64 a0_2) := (blk_cell BK241.out 2).trans rfl; have hfz19_0 := blk_frozen BK241.out 0; have hfz19_1 := blk_frozen BK241.out 1; have hfz19_2 := blk_frozen BK241.out 2) | ((with_reducible refine gate_callee (f := 12) rfl ?_); refine goesL_ (some 5) rfl rfl Try.func12 (by kernel_rfl) rfl #[.string a0_0] rfl (by (try simp only [List.map_toArray, List.map_cons, List.map_nil]); first | done | rfl | (simp only [List.length_drop, List.length_take]; rfl)) ?_; (with_reducible refine (impl_AcctOk.calls k a0_0 false _ A2.out).mono ?_); rintro e w' ⟨rfl, ⟨nd, rfl⟩⟩; refine ⟨_, rfl, ?_⟩))
  go_ret
  exact ⟨by first | rfl | (simp [errW_none, errW_some] <;> rfl) | (simp [*, errW_none, errW_some] <;> rfl), impl_LegOk_auHB⟩

/-! ### impl_PostOk: function 14 -/
mutual
def impl_PostOk.j0 : Nat → Bool → Int → List (S29) → Option (Bool)
  | 0, _, _, _ => none
  | k + 1, x24, x244000, x244001 => if x24 = true then (some false) else (impl_PostOk.l0 k x244001 (x244001.length : Int) 0)
def impl_PostOk.l0 : Nat → List (S29) → Int → Int → Option (Bool)
  | 0, _, _, _ => none
  | k + 1, x26, x27, x28 => if x28 < x27 then (if 0 ≤ x28 then (if x28 < (x26.length : Int) then ((impl_LegOk.f k ((rd_T29 x26 x28).f0) ((rd_T29 x26 x28).f1) ((rd_T29 x26 x28).f2)).bind fun t246 => (if t246 = true then (impl_PostOk.l0 k x26 x27 (wrap64 (x28 + 1))) else (some false))) else (none)) else (none)) else (some true)
end
def impl_PostOk.f (k : Nat) (a0_0 : Int) (l0_1 : List (S29)) : Option (Bool) := if a0_0 < 0 then (impl_PostOk.j0 k true a0_0 l0_1) else (if a0_0 > 99 then (impl_PostOk.j0 k true a0_0 l0_1) else (if (l0_1.length : Int) < 1 then (impl_PostOk.j0 k true a0_0 l0_1) else (impl_PostOk.j0 k (decide ((l0_1.length : Int) > 4)) a0_0 l0_1)))
theorem impl_PostOk.mono_l : ∀ k, (∀ y0 y1 y2, LeO (impl_PostOk.j0 k y0 y1 y2) (impl_PostOk.j0 (k + 1) y0 y1 y2)) ∧ (∀ y0 y1 y2, LeO (impl_PostOk.l0 k y0 y1 y2) (impl_PostOk.l0 (k + 1) y0 y1 y2))
  | 0 => ⟨fun _ _ _ r h => by simp [impl_PostOk.j0] at h, fun _ _ _ r h => by simp [impl_PostOk.l0] at h⟩
  | k + 1 => by
    obtain ⟨ih0, ih1⟩ := impl_PostOk.mono_l k
    refine ⟨?_, ?_⟩
    · intro y0 y1 y2
      unfold impl_PostOk.j0
      repeat' first
      | (with_reducible exact ih0 _ _ _)
      | (with_reducible exact ih1 _ _ _)
      | (with_reducible exact impl_LegOk.mono _ _ _ _)
      | (with_reducible exact LeO.refl _)
      | (with_reducible exact LeO.none _)
      | (with_reducible refine LeO.ite ?_ ?_)
      | (with_reducible refine LeO.bind ?_ (fun _ => ?_))
      | exact ih0 _ _ _
      | exact ih1 _ _ _
      | exact impl_LegOk.mono _ _ _ _
      | exact LeO.none _
      | refine LeO.ite ?_ ?_
      | refine LeO.bind ?_ (fun _ => ?_)
    · intro y0 y1 y2
      unfold impl_PostOk.l0
      repeat' first
      | (with_reducible exact ih0 _ _ _)
      | (with_reducible exact ih1 _ _ _)
      | (with_reducible exact impl_LegOk.mono _ _ _ _)
      | (with_reducible exact LeO.refl _)
      | (with_reducible exact LeO.none _)
      | (with_reducible refine LeO.ite ?_ ?_)
      | (with_reducible refine LeO.bind ?_ (fun _ => ?_))
      | exact ih0 _ _ _
      | exact ih1 _ _ _
      | exact impl_LegOk.mono _ _ _ _
      | exact LeO.none _
      | refine LeO.ite ?_ ?_
      | refine LeO.bind ?_ (fun _ => ?_)
theorem impl_PostOk.mono : ∀ a0 a1 k, LeO (impl_PostOk.f k a0 a1) (impl_PostOk.f (k + 1) a0 a1) := by
  intro a0 a1 k
  obtain ⟨ih0, ih1⟩ := impl_PostOk.mono_l k
  unfold impl_PostOk.f
  repeat' first
      | (with_reducible exact ih0 _ _ _)
      | (with_reducible exact ih1 _ _ _)
      | (with_reducible exact impl_LegOk.mono _ _ _ _)
      | (with_reducible exact LeO.refl _)
      | (with_reducible exact LeO.none _)
      | (with_reducible refine LeO.ite ?_ ?_)
      | (with_reducible refine LeO.bind ?_ (fun _ => ?_))
      | exact ih0 _ _ _
      | exact ih1 _ _ _
      | exact impl_LegOk.mono _ _ _ _
      | exact LeO.none _
      | refine LeO.ite ?_ ?_
      | refine LeO.bind ?_ (fun _ => ?_)
theorem impl_PostOk_vb {p q : Prop} (h : Aside0 p) (k : p → q := by (intro hz; (with_reducible repeat (first | refine blk_drewN ?_ _ | refine blk_drew ?_ | refine blk_alloc ?_ _)); exact hz)) : q := k h.out
theorem impl_PostOk_auHB {q : Prop} (h : q := by (repeat (first | (with_reducible first | exact HB.out | apply below_alloc | apply pw_below_drewN | apply below_drew1 | refine below_set ?_ GE243.out | refine below_set ?_ GE245.out) | exact HB.out))) : q := h
set_option maxHeartbeats 8000000 in
set_option maxRecDepth 100000 in
theorem impl_PostOk.calls (k : Nat) (a0_0 : Int) (A0_1 : Option Addr) (c0_1 : Nat) (l0_1 : List (S29)) (r : Bool) (w : World) (hr0_1 : Kd.C k29 w A0_1 l0_1.length l0_1) (hc0_1 : l0_1.length ≤ c0_1) (h : impl_PostOk.f k a0_0 l0_1 = some r) :
  Calls Try.prog 14 #[.agg #[.int .i64 a0_0, .slice A0_1 l0_1.length c0_1]] w fun e w' => e = .returned (.bool r) ∧ Below w.heap.size w w' := by
 have hu25 := Try.underlying25
 have hu29 := Try.underlying29
 have HR0_1 := Aside0.mk hr0_1
 have HC0_1 := Aside0.mk hc0_1
 clear hr0_1 hc0_1
 have HB := Aside0.mk (Below.refl w.heap.size w)
 have H : (if a0_0 < 0 then (impl_PostOk.j0 k true a0_0 l0_1) else (if a0_0 > 99 then (impl_PostOk.j0 k true a0_0 l0_1) else (if (l0_1.length : Int) < 1 then (impl_PostOk.j0 k true a0_0 l0_1) else (impl_PostOk.j0 k (decide ((l0_1.length : Int) > 4)) a0_0 l0_1)))) = some r := h
 clear h
 have HC2 := Aside0.mk H
 clear H
 go_enter Try.func14, Try.ntmps14
 go_upto_region 1 with (first | ((with_reducible refine gate_dst (N := 1) rfl ?_); (try (refine gate_guard (by rfl) ?_; dsimp only)); refine box_event ?hg (N := 1) ?hd (cs := #[.int .i64 a0_0, .slice A0_1 l0_1.length c0_1]) (t := 25) ?hr ?_; (case hd => rfl); (case hg => rfl); (case hr => first | (go_simp; done) | (go_simp; rfl)); intro gb243 hg w3 hbox hb; have n0_ := Aside0.mk (below_step (impl_PostOk_auHB) hb); have n1_ := Aside0.mk (hbox); have n2_ := Aside0.mk ((by rw [hg]; exact (below_size (impl_PostOk_auHB)) : w.heap.size ≤ gb243)); have n3_ := Aside0.mk ((by rw [hg]; exact (below_size (impl_PostOk_auHB)) : w.heap.size ≤ gb243)); clear HB; have HB := n0_; have BK243 := n1_; have GW243 := n2_; have GE243 := n3_; clear n0_ n1_ n2_ n3_; clear hb hbox hg))
 (try simp only [Act.put, List.setIfInBounds_toArray, List.set_cons_zero, List.set_cons_succ])
 go_cut [24] (fun v24 wc => ∃ (kq : Nat) (x24_1 : Bool), v24 = .bool x24_1 ∧ Aside0 (impl_PostOk.j0 kq x24_1 a0_0 l0_1 = some r) ∧ Aside0 (kq ≤ k) ∧ Aside0 (wc.heap[gb243]? = some (.cells #[.int .i64 a0_0, (.slice A0_1 l0_1.length c0_1)] 25 (0, 0))) ∧ Aside0 (Below w.heap.size w wc))
 case first =>
  have H := HC2.out
  clear HC2
  by_cases c4 : a0_0 < 0
  ·
   rw [if_pos c4] at H
   have c4b0 : decide (a0_0 < 0) = true := decide_eq_true c4
   clear c4
   (first | rw [c4b0] | (simp only [i64_w, i32_w]; rw [c4b0]) | skip)
   have H' := Aside0.mk H
   clear H
   have hcz5_0 : w3.cell? ⟨gb243, 0, none⟩ = some (.int .i64 a0_0) := (blk_cell BK243.out 0).trans rfl
   have hcz5_1 : w3.cell? ⟨gb243, 1, none⟩ = some (.slice A0_1 l0_1.length c0_1) := (blk_cell BK243.out 1).trans rfl
   have hfz5_0 := blk_frozen BK243.out 0
   have hfz5_1 := blk_frozen BK243.out 1
   go_wp2
   go_meet
   case rel => exact ⟨_, (true), (by first | rfl | (simp; done) | (simp [*]; done)), H', ⟨by first | omega | exact Nat.le_refl _⟩, ⟨by (with_reducible repeat (first | refine blk_drewN ?_ _ | refine blk_drew ?_ | refine blk_alloc ?_ _)); exact BK243.out⟩, ⟨impl_PostOk_auHB⟩⟩
  ·
   rw [if_neg c4] at H
   have c4b0 : decide (a0_0 < 0) = false := decide_eq_false c4
   clear c4
   (first | rw [c4b0] | (simp only [i64_w, i32_w]; rw [c4b0]) | skip)
   by_cases c6 : a0_0 > 99
   ·
    rw [if_pos c6] at H
    have c6b0 : decide (99 < a0_0) = true := decide_eq_true c6
    clear c6
    have H' := Aside0.mk H
    clear H
    have hcz7_0 : w3.cell? ⟨gb243, 0, none⟩ = some (.int .i64 a0_0) := (blk_cell BK243.out 0).trans rfl
    have hcz7_1 : w3.cell? ⟨gb243, 1, none⟩ = some (.slice A0_1 l0_1.length c0_1) := (blk_cell BK243.out 1).trans rfl
    have hfz7_0 := blk_frozen BK243.out 0
    have hfz7_1 := blk_frozen BK243.out 1
    go_wp2
    go_meet
    case rel => exact ⟨_, (true), (by first | rfl | (simp; done) | (simp [*]; done)), H', ⟨by first | omega | exact Nat.le_refl _⟩, ⟨by (with_reducible repeat (first | refine blk_drewN ?_ _ | refine blk_drew ?_ | refine blk_alloc ?_ _)); exact BK243.out⟩, ⟨impl_PostOk_auHB⟩⟩
   ·
    rw [if_neg c6] at H
    have c6b0 : decide (99 < a0_0) = false := decide_eq_false c6
    clear c6
    by_cases c8 : (l0_1.length : Int) < 1
    ·
     rw [if_pos c8] at H
     have c8b0 : decide ((l0_1.length : Int) < 1) = true := decide_eq_true c8
     have c8b1 : decide (l0_1.length < 1) = true := decide_eq_true (by omega)
     clear c8
     have H' := Aside0.mk H
     clear H
     have hcz9_0 : w3.cell? ⟨gb243, 0, none⟩ = some (.int .i64 a0_0) := (blk_cell BK243.out 0).trans rfl
     have hcz9_1 : w3.cell? ⟨gb243, 1, none⟩ = some (.slice A0_1 l0_1.length c0_1) := (blk_cell BK243.out 1).trans rfl
     have hfz9_0 := blk_frozen BK243.out 0
     have hfz9_1 := blk_frozen BK243.out 1
     go_wp2
     go_meet
     case rel => exact ⟨_, (true), (by first | rfl | (simp; done) | (simp [*]; done)), H', ⟨by first | omega | exact Nat.le_refl _⟩, ⟨by (with_reducible repeat (first | refine blk_drewN ?_ _ | refine blk_drew ?_ | refine blk_alloc ?_ _)); exact BK243.out⟩, ⟨impl_PostOk_auHB⟩⟩
    ·
     rw [if_neg c8] at H
     have c8b0 : decide ((l0_1.length : Int) < 1) = false := decide_eq_false c8
     have c8b1 : decide (l0_1.length < 1) = false := decide_eq_false (by omega)
     clear c8
     have H' := Aside0.mk H
     clear H
     have hcz10_0 : w3.cell? ⟨gb243, 0, none⟩ = some (.int .i64 a0_0) := (blk_cell BK243.out 0).trans rfl
     have hcz10_1 : w3.cell? ⟨gb243, 1, none⟩ = some (.slice A0_1 l0_1.length c0_1) := (blk_cell BK243.out 1).trans rfl
     have hfz10_0 := blk_frozen BK243.out 0
     have hfz10_1 := blk_frozen BK243.out 1
     go_wp2
     go_meet
     case rel => exact ⟨_, (decide ((l0_1.length : Int) > 4)), (by first | rfl | (simp; done) | (simp [*]; done)), H', ⟨by first | omega | exact Nat.le_refl _⟩, ⟨by (with_reducible repeat (first | refine blk_drewN ?_ _ | refine blk_drew ?_ | refine blk_alloc ?_ _)); exact BK243.out⟩, ⟨impl_PostOk_auHB⟩⟩
 case rest =>
  clear HC2
  try clear c1
  try clear p2
  try clear c4
  try clear c4b0
  try clear c6
  try clear c6b0
  try clear c8
  try clear c8b0
  try clear c8b1
  try clear hcz10_0
  try clear hcz10_1
  try clear hcz5_0
  try clear hcz5_1
  try clear hcz7_0
  try clear hcz7_1
  try clear hcz9_0
  try clear hcz9_1
  try clear hfz10_0
  try clear hfz10_1
  try clear hfz5_0
  try clear hfz5_1
  try clear hfz7_0
  try clear hfz7_1
  try clear hfz9_0
  try clear hfz9_1
  obtain ⟨kq, x24_1, rfl, HA, HJ1, BK243, HB⟩ := hcut
  cases kq with
  | zero => exact absurd HA.out (by simp [impl_PostOk.j0])
  | succ kj1 =>
   have H := HA.out
   clear HA
   simp only [impl_PostOk.j0] at H
   by_cases c11 : x24_1 = true
   ·
    subst c11
    have H1 : (some false) = some r := by rw [if_pos rfl] at H; exact H
    clear H
    have H := H1
    clear H1
    obtain rfl := Option.some.inj H
    go_wp2
    go_ret
    exact ⟨by first | rfl | (simp [errW_none, errW_some] <;> rfl) | (simp [*, errW_none, errW_some] <;> rfl), impl_PostOk_auHB⟩
   ·
    replace c11 := Bool.eq_false_iff.mpr c11
    subst c11
    have H1 : (impl_PostOk.l0 kj1 l0_1 (l0_1.length : Int) 0) = some r := by rw [if_neg (show ¬ (false = true) by decide)] at H; exact H
    clear H
    have H := H1
    clear H1
    have H' := Aside0.mk H
    clear H
    have hcz12_0 : wc.cell? ⟨gb243, 0, none⟩ = some (.int .i64 a0_0) := (blk_cell BK243.out 0).trans rfl
    have hcz12_1 : wc.cell? ⟨gb243, 1, none⟩ = some (.slice A0_1 l0_1.length c0_1) := (blk_cell BK243.out 1).trans rfl
    have hfz12_0 := blk_frozen BK243.out 0
    have hfz12_1 := blk_frozen BK243.out 1
    go_wp2
    go_loopg [28] kj1 (fun kq v28 w' => ∃ (x28_2 : Int), v28 = .int .i64 x28_2 ∧ Aside0 (impl_PostOk.l0 kq l0_1 (l0_1.length : Int) x28_2 = some r) ∧ Aside0 (kq ≤ kj1) ∧ Aside0 (w'.heap[gb243]? = some (.cells #[.int .i64 a0_0, (.slice A0_1 l0_1.length c0_1)] 25 (0, 0))) ∧ Aside0 (Below w.heap.size w w'))
    case atStart => exact ⟨(0), (by first | rfl | (simp; done) | (simp [*]; done)), H', ⟨Nat.le_refl _⟩, ⟨by (with_reducible repeat (first | refine blk_drewN ?_ _ | refine blk_drew ?_ | refine blk_alloc ?_ _)); exact BK243.out⟩, ⟨impl_PostOk_auHB⟩⟩
    case round =>
     clear H'
     try clear c1
     try clear p2
     try clear c4
     try clear c4b0
     try clear c6
     try clear c6b0
     try clear c8
     try clear c8b0
     try clear c8b1
     try clear c11
     try clear hcz10_0
     try clear hcz10_1
     try clear hcz12_0
     try clear hcz12_1
     try clear hcz5_0
     try clear hcz5_1
     try clear hcz7_0
     try clear hcz7_1
     try clear hcz9_0
     try clear hcz9_1
     try clear hfz10_0
     try clear hfz10_1
     try clear hfz12_0
     try clear hfz12_1
     try clear hfz5_0
     try clear hfz5_1
     try clear hfz7_0
     try clear hfz7_1
     try clear hfz9_0
     try clear hfz9_1
     try clear p2
     obtain ⟨x28_2, rfl, HA, HK2, BK243, HB⟩ := hrel
     cases gk with
     | zero => exact absurd HA.out (by simp [impl_PostOk.l0])
     | succ k2 =>
      have H := HA.out
      clear HA
      simp only [impl_PostOk.l0] at H
      by_cases c13 : x28_2 < (l0_1.length : Int)
      ·
       rw [if_pos c13] at H
       have c13b0 : decide (x28_2 < (l0_1.length : Int)) = true := decide_eq_true c13
       clear c13
       by_cases c14 : 0 ≤ x28_2
       ·
        rw [if_pos c14] at H
        have c14b0 : decide (0 ≤ x28_2) = true := decide_eq_true c14
        clear c14
        by_cases c15 : x28_2 < (l0_1.length : Int)
        ·
         rw [if_pos c15] at H
         have c15b0 : decide (x28_2 < (l0_1.length : Int)) = true := decide_eq_true c15
         clear c15
         replace H := Option.bind_eq_some_iff.mp H
         obtain ⟨t246, A160, H⟩ := H
         replace H : (if t246 = true then (impl_PostOk.l0 k2 l0_1 (l0_1.length : Int) (wrap64 (x28_2 + 1))) else (some false)) = some r := H
         have A16 := Aside0.mk A160
         clear A160
         by_cases c17 : t246 = true
         ·
          subst c17
          have H1 : (impl_PostOk.l0 k2 l0_1 (l0_1.length : Int) (wrap64 (x28_2 + 1))) = some r := by rw [if_pos rfl] at H; exact H
          clear H
          have H := H1
          clear H1
          have H' := Aside0.mk H
          clear H
          have p244 : 0 ≤ (x28_2 : Int) := of_decide_eq_true (by first | (with_reducible assumption) | assumption)
          have q244 : x28_2 < (l0_1.length : Int) := of_decide_eq_true (by first | (with_reducible assumption) | assumption)
          obtain ⟨ad244, e244, hx244_0, hx244_1, hx244_2⟩ := at_T29 HR0_1.out x28_2 p244 q244
          cases e244
          replace hx244_0 := (HB.out.cell (World.block_lt_of_cell? w _ hx244_0)).trans hx244_0
          replace hx244_1 := (HB.out.cell (World.block_lt_of_cell? w _ hx244_1)).trans hx244_1
          replace hx244_2 := (HB.out.cell (World.block_lt_of_cell? w _ hx244_2)).trans hx244_2
          replace p244 := eq_true p244
          replace q244 := eq_true q244
          go_wp2_with (first | ((with_reducible refine gate_dst (N := 4) rfl ?_); (try (refine gate_guard (by rfl) ?_; dsimp only)); refine box_event ?hg (N := 4) ?hd (cs := #[.string (⟨#[]⟩ : ByteArray), .int .i64 0, .int .i64 0]) (t := 29) ?hr ?_; (case hd => rfl); (case hg => rfl); (case hr => first | (go_simp; done) | (go_simp; rfl)); intro gb245 hg w18 hbox hb; have n0_ := Aside0.mk (blk_below (g := gb243) (o := .cells #[.int .i64 a0_0, .slice (some ad244) l0_1.length c0_1] 25 (0, 0)) (impl_PostOk_vb BK243) hb); have n1_ := Aside0.mk (below_step (impl_PostOk_auHB) hb); have n2_ := Aside0.mk (hbox); have n3_ := Aside0.mk ((by rw [hg]; exact (below_size (impl_PostOk_auHB)) : w.heap.size ≤ gb245)); have n4_ := Aside0.mk ((by rw [hg]; exact (below_size (impl_PostOk_auHB)) : w.heap.size ≤ gb245)); have n5_ := Aside0.mk ((by rw [hg]; exact Nat.ne_of_lt (blk_lt (g := gb243) (o := .cells #[.int .i64 a0_0, .slice (some ad244) l0_1.length c0_1] 25 (0, 0)) (impl_PostOk_vb BK243)) : gb243 ≠ gb245)); have n6_ := Aside0.mk ((by rw [hg]; exact Nat.ne_of_gt (blk_lt (g := gb243) (o := .cells #[.int .i64 a0_0, .slice (some ad244) l0_1.length c0_1] 25 (0, 0)) (impl_PostOk_vb BK243)) : gb245 ≠ gb243)); clear BK243; clear HB; have BK243 := n0_; have HB := n1_; have BK245 := n2_; have GW245 := n3_; have GE245 := n4_; have NB243_245 := n5_; have NB245_243 := n6_; clear n0_ n1_ n2_ n3_ n4_ n5_ n6_; clear hb hbox hg; have hnb19 := NB245_243.out; have hnc19 := NB243_245.out; have hcz20_0 : w18.cell? ⟨gb245, 0, none⟩ = some (.string (⟨#[]⟩ : ByteArray)) := (blk_cell BK245.out 0).trans rfl; have hcz20_1 : w18.cell? ⟨gb245, 1, none⟩ = some (.int .i64 0) := (blk_cell BK245.out 1).trans rfl; have hcz20_2 : w18.cell? ⟨gb245, 2, none⟩ = some (.int .i64 0) := (blk_cell BK245.out 2).trans rfl; have hfz20_0 := blk_frozen BK245.out 0; have hfz20_1 := blk_frozen BK245.out 1; have hfz20_2 := blk_frozen BK245.out 2) | ((with_reducible refine gate_callee (f := 10) rfl ?_); refine goesL_ (some 33) rfl rfl Try.func10 (by kernel_rfl) rfl #[.agg #[.string ((rd_T29 l0_1 x28_2).f0), .int .i64 ((rd_T29 l0_1 x28_2).f1), .int .i64 ((rd_T29 l0_1 x28_2).f2)]] rfl (by (try simp only [List.map_toArray, List.map_cons, List.map_nil]); first | done | rfl | (simp only [List.length_drop, List.length_take]; rfl)) ?_; (with_reducible refine (impl_LegOk.calls k2 ((rd_T29 l0_1 x28_2).f0) ((rd_T29 l0_1 x28_2).f1) ((rd_T29 l0_1 x28_2).f2) true _ A16.out).mono ?_); rintro e w21 ⟨rfl, hb⟩; refine ⟨_, rfl, ?_⟩; have n0_ := Aside0.mk (blk_below (g := gb243) (o := .cells #[.int .i64 a0_0, .slice (some ad244) l0_1.length c0_1] 25 (0, 0)) (by (with_reducible repeat (first | refine blk_drewN ?_ _ | refine blk_drew ?_ | refine blk_alloc ?_ _)); refine blk_far ?_ NB243_245.out _; (with_reducible repeat (first | refine blk_drewN ?_ _ | refine blk_drew ?_ | refine blk_alloc ?_ _)); refine blk_far ?_ NB243_245.out _; (with_reducible repeat (first | refine blk_drewN ?_ _ | refine blk_drew ?_ | refine blk_alloc ?_ _)); refine blk_far ?_ NB243_245.out _; (with_reducible repeat (first | refine blk_drewN ?_ _ | refine blk_drew ?_ | refine blk_alloc ?_ _)); exact BK243.out) hb); have n1_ := Aside0.mk (blk_below (g := gb245) (o := .cells #[.string ((rd_T29 l0_1 x28_2).f0), .int .i64 ((rd_T29 l0_1 x28_2).f1), .int .i64 ((rd_T29 l0_1 x28_2).f2)] 29 (0, 0)) (by (with_reducible repeat (first | refine blk_drewN ?_ _ | refine blk_drew ?_ | refine blk_alloc ?_ _)); refine blk_put (cs := #[.string ((rd_T29 l0_1 x28_2).f0), .int .i64 ((rd_T29 l0_1 x28_2).f1), .int .i64 0]) ?_ 2 _ rfl; (with_reducible repeat (first | refine blk_drewN ?_ _ | refine blk_drew ?_ | refine blk_alloc ?_ _)); refine blk_put (cs := #[.string ((rd_T29 l0_1 x28_2).f0), .int .i64 0, .int .i64 0]) ?_ 1 _ rfl; (with_reducible repeat (first | refine blk_drewN ?_ _ | refine blk_drew ?_ | refine blk_alloc ?_ _)); refine blk_put (cs := #[.string (⟨#[]⟩ : ByteArray), .int .i64 0, .int .i64 0]) ?_ 0 _ rfl; (with_reducible repeat (first | refine blk_drewN ?_ _ | refine blk_drew ?_ | refine blk_alloc ?_ _)); exact BK245.out) hb); have n2_ := Aside0.mk (below_step (impl_PostOk_auHB) hb); clear BK243; clear BK245; clear HB; have BK243 := n0_; have BK245 := n1_; have HB := n2_; clear n0_ n1_ n2_; (try clear hb); (try clear hb2); (try clear hk); (try clear hi)))
          go_roundg k2
          case measure => have := HJ1.out; have := HK2.out; omega
          case rel => exact ⟨(wrap64 (x28_2 + 1)), (by first | rfl | (simp; done) | (simp [*]; done)), H', ⟨by have := HJ1.out; have := HK2.out; omega⟩, ⟨by (with_reducible repeat (first | refine blk_drewN ?_ _ | refine blk_drew ?_ | refine blk_alloc ?_ _)); exact BK243.out⟩, ⟨impl_PostOk_auHB⟩⟩
         ·
          replace c17 := Bool.eq_false_iff.mpr c17
          subst c17
          have H1 : (some false) = some r := by rw [if_neg (show ¬ (false = true) by decide)] at H; exact H
          clear H
          have H := H1
          clear H1
          obtain rfl := Option.some.inj H
          have p244 : 0 ≤ (x28_2 : Int) := of_decide_eq_true (by first | (with_reducible assumption) | assumption)
          have q244 : x28_2 < (l0_1.length : Int) := of_decide_eq_true (by first | (with_reducible assumption) | assumption)
          obtain ⟨ad244, e244, hx244_0, hx244_1, hx244_2⟩ := at_T29 HR0_1.out x28_2 p244 q244
          cases e244
          replace hx244_0 := (HB.out.cell (World.block_lt_of_cell? w _ hx244_0)).trans hx244_0
          replace hx244_1 := (HB.out.cell (World.block_lt_of_cell? w _ hx244_1)).trans hx244_1
          replace hx244_2 := (HB.out.cell (World.block_lt_of_cell? w _ hx244_2)).trans hx244_2
          replace p244 := eq_true p244
          replace q244 := eq_true q244
          go_wp2_with (first | ((with_reducible refine gate_dst (N := 4) rfl ?_); (try (refine gate_guard (by rfl) ?_; dsimp only)); refine box_event ?hg (N := 4) ?hd (cs := #[.string (⟨#[]⟩ : ByteArray), .int .i64 0, .int .i64 0]) (t := 29) ?hr ?_; (case hd => rfl); (case hg => rfl); (case hr => first | (go_simp; done) | (go_simp; rfl)); intro gb245 hg w22 hbox hb; have n0_ := Aside0.mk (blk_below (g := gb243) (o := .cells #[.int .i64 a0_0, .slice (some ad244) l0_1.length c0_1] 25 (0, 0)) (impl_PostOk_vb BK243) hb); have n1_ := Aside0.mk (below_step (impl_PostOk_auHB) hb); have n2_ := Aside0.mk (hbox); have n3_ := Aside0.mk ((by rw [hg]; exact (below_size (impl_PostOk_auHB)) : w.heap.size ≤ gb245)); have n4_ := Aside0.mk ((by rw [hg]; exact (below_size (impl_PostOk_auHB)) : w.heap.size ≤ gb245)); have n5_ := Aside0.mk ((by rw [hg]; exact Nat.ne_of_lt (blk_lt (g := gb243) (o := .cells #[.int .i64 a0_0, .slice (some ad244) l0_1.length c0_1] 25 (0, 0)) (impl_PostOk_vb BK243)) : gb243 ≠ gb245)); have n6_ := Aside0.mk ((by rw [hg]; exact Nat.ne_of_gt (blk_lt (g := gb243) (o := .cells #[.int .i64 a0_0, .slice (some ad244) l0_1.length c0_1] 25 (0, 0)) (impl_PostOk_vb BK243)) : gb245 ≠ gb243)); clear BK243; clear HB; have BK243 := n0_; have HB := n1_; have BK245 := n2_; have GW245 := n3_; have GE245 := n4_; have NB243_245 := n5_; have NB245_243 := n6_; clear n0_ n1_ n2_ n3_ n4_ n5_ n6_; clear hb hbox hg; have hnb23 := NB245_243.out; have hnc23 := NB243_245.out; have hcz24_0 : w22.cell? ⟨gb245, 0, none⟩ = some (.string (⟨#[]⟩ : ByteArray)) := (blk_cell BK245.out 0).trans rfl; have hcz24_1 : w22.cell? ⟨gb245, 1, none⟩ = some (.int .i64 0) := (blk_cell BK245.out 1).trans rfl; have hcz24_2 : w22.cell? ⟨gb245, 2, none⟩ = some (.int .i64 0) := (blk_cell BK245.out 2).trans rfl; have hfz24_0 := blk_frozen BK245.out 0; have hfz24_1 := blk_frozen BK245.out 1; have hfz24_2 := blk_frozen BK245.out 2) | ((with_reducible refine gate_callee (f := 10) rfl ?_); refine goesL_ (some 33) rfl rfl Try.func10 (by kernel_rfl) rfl #[.agg #[.string ((rd_T29 l0_1 x28_2).f0), .int .i64 ((rd_T29 l0_1 x28_2).f1), .int .i64 ((rd_T29 l0_1 x28_2).f2)]] rfl (by (try simp only [List.map_toArray, List.map_cons, List.map_nil]); first | done | rfl | (simp only [List.length_drop, List.length_take]; rfl)) ?_; (with_reducible refine (impl_LegOk.calls k2 ((rd_T29 l0_1 x28_2).f0) ((rd_T29 l0_1 x28_2).f1) ((rd_T29 l0_1 x28_2).f2) false _ A16.out).mono ?_); rintro e w25 ⟨rfl, hb⟩; refine ⟨_, rfl, ?_⟩; have n0_ := Aside0.mk (blk_below (g := gb243) (o := .cells #[.int .i64 a0_0, .slice (some ad244) l0_1.length c0_1] 25 (0, 0)) (by (with_reducible repeat (first | refine blk_drewN ?_ _ | refine blk_drew ?_ | refine blk_alloc ?_ _)); refine blk_far ?_ NB243_245.out _; (with_reducible repeat (first | refine blk_drewN ?_ _ | refine blk_drew ?_ | refine blk_alloc ?_ _)); refine blk_far ?_ NB243_245.out _; (with_reducible repeat (first | refine blk_drewN ?_ _ | refine blk_drew ?_ | refine blk_alloc ?_ _)); refine blk_far ?_ NB243_245.out _; (with_reducible repeat (first | refine blk_drewN ?_ _ | refine blk_drew ?_ | refine blk_alloc ?_ _)); exact BK243.out) hb); have n1_ := Aside0.mk (blk_below (g := gb245) (o := .cells #[.string ((rd_T29 l0_1 x28_2).f0), .int .i64 ((rd_T29 l0_1 x28_2).f1), .int .i64 ((rd_T29 l0_1 x28_2).f2)] 29 (0, 0)) (by (with_reducible repeat (first | refine blk_drewN ?_ _ | refine blk_drew ?_ | refine blk_alloc ?_ _)); refine blk_put (cs := #[.string ((rd_T29 l0_1 x28_2).f0), .int .i64 ((rd_T29 l0_1 x28_2).f1), .int .i64 0]) ?_ 2 _ rfl; (with_reducible repeat (first | refine blk_drewN ?_ _ | refine blk_drew ?_ | refine blk_alloc ?_ _)); refine blk_put (cs := #[.string ((rd_T29 l0_1 x28_2).f0), .int .i64 0, .int .i64 0]) ?_ 1 _ rfl; (with_reducible repeat (first | refine blk_drewN ?_ _ | refine blk_drew ?_ | refine blk_alloc ?_ _)); refine blk_put (cs := #[.string (⟨#[]⟩ : ByteArray), .int .i64 0, .int .i64 0]) ?_ 0 _ rfl; (with_reducible repeat (first | refine blk_drewN ?_ _ | refine blk_drew ?_ | refine blk_alloc ?_ _)); exact BK245.out) hb); have n2_ := Aside0.mk (below_step (impl_PostOk_auHB) hb); clear BK243; clear BK245; clear HB; have BK243 := n0_; have BK245 := n1_; have HB := n2_; clear n0_ n1_ n2_; (try clear hb); (try clear hb2); (try clear hk); (try clear hi)))
          go_ret
          exact ⟨by first | rfl | (simp [errW_none, errW_some] <;> rfl) | (simp [*, errW_none, errW_some] <;> rfl), impl_PostOk_auHB⟩
        ·
         rw [if_neg c15] at H
         exact absurd H (by simp)
       ·
        rw [if_neg c14] at H
        exact absurd H (by simp)
      ·
       rw [if_neg c13] at H
       have c13b0 : decide (x28_2 < (l0_1.length : Int)) = false := decide_eq_false c13
       clear c13
       obtain rfl := Option.some.inj H
       go_wp2
       go_ret
       exact ⟨by first | rfl | (simp [errW_none, errW_some] <;> rfl) | (simp [*, errW_none, errW_some] <;> rfl), impl_PostOk_auHB⟩

-- NOT PRINTED: function 33 (impl_legsOf_1)

/-! ### impl_legsOf: function 30 -/
section
attribute [local go_sem] Oper.semAt_some
def legEnc {α : Type} (v : α → S29) (y : α) : Array Value := #[.agg #[.string (v y).f0, .int .i64 (v y).f1, .int .i64 (v y).f2]]
theorem abides_below {β : Type} {B : Nat} {J : β → World → Prop} (hJ : AbidesFrom B J) {s : β} {W W' : World} (h : J s W) (hb : Below W.heap.size W W') : J s W' :=
  hJ s W W' none h (grown_of_below hb none) (fun r e => by cases e)
theorem abides_alloc {β : Type} {B : Nat} {J : β → World → Prop} (hJ : AbidesFrom B J) {s : β} {W : World} (h : J s W) (o : Obj) : J s (W.alloc o) :=
  hJ s W _ none h (World.grownBy_alloc W o none) (fun r e => by cases e)
set_option maxRecDepth 100000 in
set_option maxHeartbeats 1000000 in
theorem legsOf1_in (n : Nat) (hn : 3 ≤ n) {α : Type} (v : α → S29) (l Bn : Nat) (k : Nat) (id : Int) (A : Option Addr) (c : Nat) (xs : List α) (w : World) (hr : Kd.C k29 w A xs.length (xs.map v)) (hc : xs.length ≤ c) (ok : Bool) (hok : impl_PostOk.f k id (xs.map v) = some ok)
    (J Jx : List α → World → Prop) (W : World) (hW : Below w.heap.size w W) (hJ : AbidesFrom W.heap.size J)
    (hY : ∀ pre x W1, J pre W1 → pre.length < (if ok = true then xs else []).length → YieldAt Fence.wide (n - 1) Try.prog l (legEnc v x) W1 fun e W' =>
      (e = .returned (.bool true) ∧ J (pre ++ [x]) W' ∧ Below w.heap.size W1 W') ∨ (e = .returned (.bool false) ∧ Jx (pre ++ [x]) W'))
    (hb0 : W.cell? ⟨Bn, 0, none⟩ = some (.int .i64 id)) (hb1 : W.cell? ⟨Bn, 1, none⟩ = some (.slice A xs.length c)) (h0 : J [] W) :
    CallsIn Fence.wide n Try.prog 33 #[.func (.yield l) #[] #[], .pointer (some ⟨Bn, 0, none⟩)] W fun e W' => (∃ v, e = .returned v) ∧
      ((∃ ys, ys = (if ok = true then xs else []) ∧ J ys W') ∨ (∃ pre, pre <+: (if ok = true then xs else []) ∧ Jx pre W')) := by
  refine callsIn_of_wp Try.func33 rfl trivial ?_ rfl
  simp only [Try.ntmps33, List.size_toArray, List.length_cons, List.length_nil, Nat.reduceAdd, Nat.reduceSub, Array.replicate_succ, Array.replicate_zero, List.push_toArray, List.append_toArray, List.nil_append, List.cons_append]
  have hrW := Kd.C_below hr hW
  have cP : Calls Try.prog 14 #[.agg #[.int .i64 id, .slice A xs.length c]] W fun e w' => e = .returned (.bool ok) ∧ Below W.heap.size W w' := by
    have h := impl_PostOk.calls k id A c (xs.map v) ok W (by rw [List.length_map]; exact hrW) (by rw [List.length_map]; exact hc) hok
    rw [List.length_map] at h
    exact h
  cases ok with
  | false =>
    gi_wp2_with (refine ⟨trivial, fun _ => (by omega), ?_⟩; gi_at_call 14; refine (callsIn_wide.2 cP).mono ?_; rintro e w1 ⟨rfl, hb⟩)
    refine bodyPost_ret (results_none rfl _ _ _) rfl ?_
    exact ⟨⟨_, rfl⟩, .inl (abides_below hJ h0 hb)⟩
  | true =>
    gi_wp2_with (refine ⟨trivial, fun _ => (by omega), ?_⟩; gi_at_call 14; refine (callsIn_wide.2 cP).mono ?_; rintro e w1 ⟨rfl, hb⟩; have hb0' := pw_cell_below hb hb0; have hb1' := pw_cell_below hb hb1)
    have h1 : J [] w1 := abides_below hJ h0 hb
    have hW1 : Below w.heap.size w w1 := below_then hW hW.size hb
    clear hb0 hb1 hb0' hb1' h0 hb hrW hok
    have hlen : xs.length ≤ 9223372036854775807 := hr.2.1
    gi_loopw [11] (fun i wr => ∃ (pre rest : List α), i = .int .i64 (pre.length : Nat) ∧ xs = pre ++ rest ∧ Below w.heap.size w wr ∧ J pre wr) (fun i _ => xs.length - (intOf i).toNat)
    case atStart => exact ⟨[], xs, rfl, rfl, hW1, h1⟩
    case round =>
      obtain ⟨pre, rest, rfl, hx, hB, hJs⟩ := hrel
      cases rest with
      | nil =>
        have hl : pre.length = xs.length := by rw [hx]; simp
        have d1 : decide ((pre.length : Int) < (xs.length : Int)) = false := decide_eq_false (by omega)
        have d2 : decide (pre.length < xs.length) = false := decide_eq_false (by omega)
        have HX := Aside0.mk hx
        clear hx hl
        gi_wp2
        go_end0
        have hx := HX.out
        exact ⟨⟨_, rfl⟩, .inl (by rw [hx]; simpa using hJs)⟩
      | cons x rest =>
        have hl : xs.length = pre.length + (rest.length + 1) := by rw [hx]; simp
        have hxx : rd_T29 (xs.map v) (pre.length : Int) = v x := by rw [hx]; simp [rd_T29]
        have p0 : (0 : Int) ≤ (pre.length : Int) := by omega
        have q0 : (pre.length : Int) < (xs.length : Int) := by omega
        obtain ⟨ad, e0, c0, c1, c2⟩ := at_T29 hr (pre.length : Int) p0 q0
        rw [hxx, Int.toNat_natCast] at c0 c1 c2
        cases e0
        replace c0 := (hB.cell (World.block_lt_of_cell? w _ c0)).trans c0
        replace c1 := (hB.cell (World.block_lt_of_cell? w _ c1)).trans c1
        replace c2 := (hB.cell (World.block_lt_of_cell? w _ c2)).trans c2
        have d1 : decide ((pre.length : Int) < (xs.length : Int)) = true := decide_eq_true (by omega)
        have d2 : decide (pre.length < xs.length) = true := decide_eq_true (by omega)
        have hJ2 := abides_alloc (W := wr) (fun s A B row hs hg hrw => hJ s A B row hs hg hrw) hJs (.cells #[.string (v x).f0, .int .i64 (v x).f1, .int .i64 (v x).f2] 29)
        have hlt : pre.length < (if true = true then xs else []).length := by simp; omega
        obtain ⟨fn, tmps, assign, body, hy, hR⟩ := hY pre x _ hJ2 hlt
        have HX := Aside0.mk hx
        have HXX := Aside0.mk hxx
        have HL := Aside0.mk hl
        clear hx hl hxx hlt
        dsimp only [legEnc] at hy
        gi_wp2
        refine ⟨fun _ => (by omega), hR.mono ?_⟩
        rintro e W3 (⟨rfl, hJ3, hk3⟩ | ⟨rfl, hJx3⟩)
        · have hB3 : Below w.heap.size w W3 := (hB.alloc hB.size _).trans hk3
          gi_wp2
          go_roundw
          case rel => exact ⟨pre ++ [x], rest, by simp, by rw [HX.out]; simp, hB3, hJ3⟩
          case measure => have := HL.out; simp [intOf]; omega
        · gi_wp2
          refine bodyPost_ret (results_none rfl _ _ _) rfl ?_
          exact ⟨⟨_, rfl⟩, .inr ⟨pre ++ [x], by rw [HX.out]; exact ⟨rest, by simp⟩, hJx3⟩⟩
/-- What legsOf hands back: a closure over a new box. -/
theorem legsOf_calls (id : Int) (A : Option Addr) (m c : Nat) (w : World) :
    Calls Try.prog 30 #[.agg #[.int .i64 id, .slice A m c]] w fun e w' => e = .returned (.func (.func 33) #[] #[.pointer (some ⟨w.heap.size, 0, none⟩)]) ∧ w' = w.alloc (.cells #[.int .i64 id, .slice A m c] 25) := by
  go_enter Try.func30, Try.ntmps30
  go_wp2
  go_ret
  exact ⟨rfl, rfl⟩
def selLegs {α : Type} (ok : Bool) (xs : List α) : List α := if ok = true then xs else []
theorem legsOf_stops (n : Nat) (hn : 3 ≤ n) {α : Type} (v : α → S29) (Bn : Nat) (k : Nat) (id : Int) (A : Option Addr) (c : Nat) (xs : List α) (w W0 : World) (hr : Kd.C k29 w A xs.length (xs.map v)) (hc : xs.length ≤ c) (ok : Bool) (hok : impl_PostOk.f k id (xs.map v) = some ok)
    (hw0 : Below w.heap.size w W0) (hBn : Bn < W0.heap.size) (hb0 : W0.cell? ⟨Bn, 0, none⟩ = some (.int .i64 id)) (hb1 : W0.cell? ⟨Bn, 1, none⟩ = some (.slice A xs.length c)) :
    SeqStopsK Fence.wide n Try.prog 33 #[.pointer (some ⟨Bn, 0, none⟩)] (legEnc v) (Below w.heap.size) (fun ys => ys = selLegs ok xs) (fun pre => pre <+: selLegs ok xs) (selLegs ok xs).length W0 := fun l J Jx W hW hJ _ hY h0 =>
  legsOf1_in n hn v l Bn k id A c xs w hr hc ok hok J Jx W (hw0.trans (hW.mono hw0.size)) hJ hY ((hW.cell (p := ⟨Bn, 0, none⟩) hBn).trans hb0) ((hW.cell (p := ⟨Bn, 1, none⟩) hBn).trans hb1) h0
end

/-! ### impl_sumsOf: function 28 -/
section
attribute [local go_sem] Oper.semAt_some
open Classical in
/-- A map with whole numbers: block B holds what f tells, 0 where there is nothing. -/
def IntMap (W : World) (K B n : Nat) (f : Lit → Int) : Prop := ∃ D : DataW Unit, W.ownsMap Try.prog K (plainElem Try.prog 3) B n D ∧ Maps.IsMap D ∧ ∀ kl, D.atKey kl (.lit (.int .i64 0)) = .lit (.int .i64 (f kl))
theorem IntMap.made (w : World) (K : Nat) : IntMap (w.alloc (.map #[] 0)) K w.heap.size 0 (fun _ => 0) := ⟨_, World.ownsMap_made w Try.prog K _, Maps.isMap_empty, fun _ => rfl⟩
theorem IntMap.alloc {W : World} {K B n : Nat} {f : Lit → Int} (h : IntMap W K B n f) (o : Obj) : IntMap (W.alloc o) K B n f := let ⟨D, h1, h2, h3⟩ := h; ⟨D, h1.alloc o, h2, h3⟩
theorem IntMap.kept {W W' : World} {K B n : Nat} {f : Lit → Int} {row : Option Nat} (h : IntMap W K B n f) (hg : W.grownBy W' row) (hne : some B ≠ row) : IntMap W' K B n f := let ⟨D, h1, h2, h3⟩ := h; ⟨D, h1.kept hg hne, h2, h3⟩
theorem IntMap.mono {W : World} {K B n n' : Nat} {f : Lit → Int} (h : IntMap W K B n f) (hn : n ≤ n') : IntMap W K B n' f := let ⟨D, h1, h2, h3⟩ := h; ⟨D, h1.mono hn, h2, h3⟩
theorem IntMap.lt {W : World} {K B n : Nat} {f : Lit → Int} (h : IntMap W K B n f) : B < W.heap.size := let ⟨_, h1, _⟩ := h; h1.lt
theorem IntMap.block {W : World} {K B n : Nat} {f : Lit → Int} (h : IntMap W K B n f) : ∃ o : Obj, W.heap[B]? = some o ∧ o.isCells = false := by
  obtain ⟨D, ⟨es, ck, hh, _⟩, _⟩ := h
  exact ⟨_, hh, rfl⟩
open Classical in
/-- f, but at the key kl it is c. -/
noncomputable def putAt (f : Lit → Int) (kl : Lit) (c : Int) : Lit → Int := fun k => if k = kl then c else f k
theorem IntMap.put {W' : World} {K B n : Nat} {f : Lit → Int} {D : DataW Unit} (h : ∀ kl, D.atKey kl (.lit (.int .i64 0)) = .lit (.int .i64 (f kl))) (hD : Maps.IsMap D) {kl : Lit} (hk : WideAt.IsKeyLit kl) {c : Int}
    (h1 : W'.ownsMap Try.prog K (plainElem Try.prog 3) B n (D.put kl (.lit (.int .i64 c)))) : IntMap W' K B n (putAt f kl c) := by
  refine ⟨_, h1, hD.put _ _, fun k => ?_⟩
  unfold putAt
  by_cases e : k = kl
  · subst e
    rw [if_pos rfl, Maps.atKey_put_same hD hk]
  · rw [if_neg e, Maps.atKey_put_other e]
    exact h k
theorem int_of_at {D : DataW Unit} {f : Lit → Int} (h : ∀ kl, D.atKey kl (.lit (.int .i64 0)) = .lit (.int .i64 (f kl))) {kl : Lit} {c : Int} (hat : D.atKey kl (.lit (.int .i64 0)) = .lit (.int .i64 c)) : c = f kl := by
  rw [h] at hat
  injection hat with hat
  injection hat with _ hat
  exact hat.symm
/-- A leg whose text is no longer than texts are. -/
abbrev LegS := { x : S29 // x.f0.size ≤ maxLen }
def acctLit (s : ByteArray) : Lit := .string s.data.toList
/-- How much of a currency the legs bring, account by account. -/
noncomputable def sumsF (cur : Int) (ys : List S29) : Lit → Int := ys.foldl (fun f x => if x.f1 = cur then putAt f (acctLit x.f0) (wrap64 (f (acctLit x.f0) + x.f2)) else f) (fun _ => 0)
theorem sumsF_snoc (cur : Int) (pre : List S29) (x : S29) : sumsF cur (pre ++ [x]) = if x.f1 = cur then putAt (sumsF cur pre) (acctLit x.f0) (wrap64 (sumsF cur pre (acctLit x.f0) + x.f2)) else sumsF cur pre := by simp [sumsF]
theorem keep_map {W W' : World} {Bx B : Nat} {cs : Array Value} {t : TypeId} (h2 : W.heap[Bx]? = some (.cells cs t (0, 0))) (hg : W.grownBy W' (some B)) (hm : ∃ o : Obj, W.heap[B]? = some o ∧ o.isCells = false) : W'.heap[Bx]? = some (.cells cs t (0, 0)) := by
  refine (hg.block Bx (Array.getElem?_eq_some_iff.1 h2).1 (fun e => ?_)).trans h2
  obtain ⟨o, ho, hc⟩ := hm
  injection e with e
  subst e
  rw [h2] at ho
  cases ho
  cases hc
theorem boxed_map {W W' : World} {Bx B : Nat} {v : Value} {t : TypeId} (h2 : Boxed W Bx t v) (hg : W.grownBy W' (some B)) (hm : ∃ o : Obj, W.heap[B]? = some o ∧ o.isCells = false) : Boxed W' Bx t v :=
  h2.kept hg (fun e => by
    obtain ⟨o, ho, hc⟩ := hm
    injection e with e
    subst e
    rw [show W.heap[Bx]? = _ from h2] at ho
    cases ho
    cases hc)
set_option maxRecDepth 100000 in
set_option maxHeartbeats 4000000 in
theorem sumsOf_calls (k : Nat) (id : Int) (A : Option Addr) (c : Nat) (xs : List LegS) (cur : Int) (ok : Bool) (w : World) (hr0 : Kd.C k29 w A xs.length (xs.map (fun y : LegS => y.1))) (hc0 : xs.length ≤ c) (hok : impl_PostOk.f k id (xs.map (fun y : LegS => y.1)) = some ok) (hmax : xs.length ≤ 1048576) :
    Calls Try.prog 28 #[.agg #[.int .i64 id, .slice A xs.length c], .int .i64 cur] w fun e w' => e = .returned (.map (some (w.heap.size + 1 + 1))) ∧ IntMap w' 9 (w.heap.size + 1 + 1) 1048576 (sumsF cur ((selLegs ok xs).map (fun y : LegS => y.1))) ∧ Below w.heap.size w w' := by
  have hmm := @run_makeMap Try.prog
  refine (callsIn_wide (n := 6)).1 ?_
  refine callsIn_of_wp_marks Try.func28 rfl trivial ?_ rfl
  simp only [Try.ntmps28, List.size_toArray, List.length_cons, List.length_nil, Nat.reduceAdd, Nat.reduceSub, Array.replicate_succ, Array.replicate_zero, List.push_toArray, List.append_toArray, List.nil_append, List.cons_append]
  have HOK := Aside0.mk hok
  have HR := Aside0.mk hr0
  have HC := Aside0.mk hc0
  have HX := Aside0.mk hmax
  clear hok hr0 hc0 hmax
  gi_wp2_with (refine ⟨trivial, ?_⟩; gi_at_call 30; refine (callsIn_wide.2 (legsOf_calls id A _ c _)).mono ?_; rintro e w' ⟨rfl, rfl⟩)
  have m0 := (((IntMap.made ((w.alloc (.cells #[.int .i64 id, .slice A xs.length c] 25)).alloc (.cells #[.int .i64 cur] 3)) 9).alloc (.cells #[.map (some (w.heap.size + 1 + 1))] 52)).alloc (.cells #[.int .i64 id, .slice A xs.length c] 25))
  have bC := (((Boxed.new (w.alloc (.cells #[.int .i64 id, .slice A xs.length c] 25)) 3 (.int .i64 cur)).alloc (.map #[] 0)).alloc (.cells #[.map (some (w.heap.size + 1 + 1))] 52)).alloc (.cells #[.int .i64 id, .slice A xs.length c] 25)
  have bS := (Boxed.new (((w.alloc (.cells #[.int .i64 id, .slice A xs.length c] 25)).alloc (.cells #[.int .i64 cur] 3)).alloc (.map #[] 0)) 52 (.map (some (w.heap.size + 1 + 1)))).alloc (.cells #[.int .i64 id, .slice A xs.length c] 25)
  have hq := heap_alloc_new ((((w.alloc (.cells #[.int .i64 id, .slice A xs.length c] 25)).alloc (.cells #[.int .i64 cur] 3)).alloc (.map #[] 0)).alloc (.cells #[.map (some (w.heap.size + 1 + 1))] 52)) (.cells #[.int .i64 id, .slice A xs.length c] 25)
  have hB0 : Below w.heap.size w (((((w.alloc (.cells #[.int .i64 id, .slice A xs.length c] 25)).alloc (.cells #[.int .i64 cur] 3)).alloc (.map #[] 0)).alloc (.cells #[.map (some (w.heap.size + 1 + 1))] 52)).alloc (.cells #[.int .i64 id, .slice A xs.length c] 25)) :=
    (((((Below.refl _ w).alloc (Nat.le_refl _) _).alloc (by simp) _).alloc (by simp; omega) _).alloc (by simp; omega) _).alloc (by simp; omega) _
  have hsz : (((((w.alloc (.cells #[.int .i64 id, .slice A xs.length c] 25)).alloc (.cells #[.int .i64 cur] 3)).alloc (.map #[] 0)).alloc (.cells #[.map (some (w.heap.size + 1 + 1))] 52)).alloc (.cells #[.int .i64 id, .slice A xs.length c] 25)).heap.size = w.heap.size + 5 := by simp
  simp only [World.size_alloc] at m0 bC bS hq
  obtain ⟨W0, hW0⟩ : ∃ W0, ((((w.alloc (.cells #[.int .i64 id, .slice A xs.length c] 25)).alloc (.cells #[.int .i64 cur] 3)).alloc (.map #[] 0)).alloc (.cells #[.map (some (w.heap.size + 1 + 1))] 52)).alloc (.cells #[.int .i64 id, .slice A xs.length c] 25) = W0 := ⟨_, rfl⟩
  rw [hW0] at m0 bC bS hB0 hsz hq ⊢
  clear hW0
  have hc0 : W0.cell? ⟨w.heap.size + 1 + 1 + 1 + 1, 0, none⟩ = some (.int .i64 id) := (cell_of_row W0 _ 0 _ _ _ hq).trans rfl
  have hc1 : W0.cell? ⟨w.heap.size + 1 + 1 + 1 + 1, 1, none⟩ = some (.slice A xs.length c) := (cell_of_row W0 _ 1 _ _ _ hq).trans rfl
  have hsel : (selLegs ok xs).length ≤ 1048576 := by have := HX.out; unfold selLegs; split <;> simp <;> omega
  refine wpIn_rangeFunc_ownH rfl (by omega) (gf := 33) (lb := #[.pointer (some ⟨w.heap.size + 1 + 1 + 1 + 1, 0, none⟩)]) rfl trivial (enters_of Try.func33 (by kernel_rfl) rfl)
    (legsOf_stops _ (by omega) (fun y : LegS => y.1) (w.heap.size + 1 + 1 + 1 + 1) k id A c xs w W0 HR.out HC.out ok HOK.out hB0 (by omega) hc0 hc1) belowK_t (belowK_b (by omega)) (Below.refl _ _) (fun _ => rfl)
    (fun pre W => ((Boxed W (w.heap.size + 1 + 1 + 1) 52 (.map (some (w.heap.size + 1 + 1))) ∧ Boxed W (w.heap.size + 1) 3 (.int .i64 cur)) ∧ IntMap W 9 (w.heap.size + 1 + 1) pre.length (sumsF cur (pre.map (fun y : LegS => y.1)))) ∧ Below w.heap.size w W)
    (fun _ _ _ => False)
    (OwnFrom.and (OwnFrom.and (OwnFrom.and (Own.from (boxed_own _ _ _) _) (Own.from (boxed_own _ _ _) _)) (fun s X Y row hs hg hr => hs.kept hg (fun e => by have := (hr _ e.symm).1; omega))) (ownFrom_below (Nat.le_refl _) (by omega)))
    (fun _ _ _ _ _ hs _ _ => hs)
    ⟨⟨⟨bS, bC⟩, m0⟩, hB0⟩
    (fun x a' W => ∃ Bx, w.heap.size + 1 + 1 + 1 < Bx ∧ W.heap[Bx]? = some (.cells #[.string x.1.f0, .int .i64 x.1.f1, .int .i64 x.1.f2] 29 (0, 0)) ∧ a' = { tmps := #[.agg #[.int .i64 id, .slice A xs.length c], .int .i64 cur, .pointer (some ⟨w.heap.size, 0, none⟩), .pointer (some ⟨w.heap.size + 1, 0, none⟩), .map none, .pointer (some ⟨w.heap.size + 1 + 1 + 1, 0, none⟩), .pointer (some ⟨Bx, 0, none⟩), .map (some (w.heap.size + 1 + 1)), .agg #[.int .i64 id, .slice A xs.length c], .func (.func 33) #[] #[.pointer (some ⟨w.heap.size + 1 + 1 + 1 + 1, 0, none⟩)], .agg #[.string x.1.f0, .int .i64 x.1.f1, .int .i64 x.1.f2], undef, undef, undef, undef, undef, undef, undef, undef, undef, undef, undef, undef], defers := [] })
    (fun x a' _ X Y row hs hg hr => by
      obtain ⟨Bx, h1, h2, h3⟩ := hs
      refine ⟨Bx, h1, (hg.block Bx (Array.getElem?_eq_some_iff.1 h2).1 (fun e => ?_)).trans h2, h3⟩
      obtain ⟨_, o, ho, hcc⟩ := hr Bx e.symm
      rw [h2] at ho
      cases ho
      cases hcc)
    ?assign ?body ?done ?stop
  case assign =>
    rintro l pre x W K ⟨⟨⟨bS1, bC1⟩, m1⟩, hB1⟩ hK
    dsimp only [legEnc]
    gi_wp2
    exact hK _ _ ((KeepsOthers.alloc _ _).from _) ((Below.refl _ W).alloc hB1.size _) ⟨⟨⟨bS1.alloc _, bC1.alloc _⟩, m1.alloc _⟩, hB1.alloc hB1.size _⟩ ⟨W.heap.size, bS1.lt, heap_alloc_new W _, rfl⟩
  case body =>
    rintro l pre x a' W hl ⟨r, hr⟩ ⟨⟨⟨bS1, bC1⟩, m1⟩, hB1⟩ ⟨Bx, hBx, bX, rfl⟩ hlt
    have cC := bC1.cell
    have cS := bS1.cell
    have x0 : W.cell? ⟨Bx, 0, none⟩ = some (.string x.1.f0) := (cell_of_row W _ 0 _ _ _ bX).trans rfl
    have x1 : W.cell? ⟨Bx, 1, none⟩ = some (.int .i64 x.1.f1) := (cell_of_row W _ 1 _ _ _ bX).trans rfl
    have x2 : W.cell? ⟨Bx, 2, none⟩ = some (.int .i64 x.1.f2) := (cell_of_row W _ 2 _ _ _ bX).trans rfl
    by_cases hcur : x.1.f1 = cur
    · have e1 : (x.1.f1 == cur) = true := by simp [hcur]
      have HCUR := Aside0.mk hcur
      have hblk := m1.block
      obtain ⟨D, hown, hD, hf⟩ := m1
      have hkey := Go.WideMaps.keyOf_string_mk (P := Try.prog) Try.underlying9 x.2
      have hkl : WideAt.IsKeyLit (acctLit x.1.f0) := (Maps.string_keyed Try.underlying9).key hkey
      have hlt2 : pre.length < maxLen := by unfold maxLen; omega
      have HF := Aside0.mk hf
      have HD := Aside0.mk hD
      have HB := Aside0.mk hblk
      have HSEL := Aside0.mk hsel
      have HLT := Aside0.mk hlt
      clear hcur hf hD hblk hsel hlt
      gi_wp2_with (first
        | (gi_at_lookup; refine wpListIn_lookup_own_int _ rfl _ _ 52 rfl 9 3 .i64 (Maps.string_keyed Try.underlying9) Try.underlying52 Try.underlying3 (Try.zeroValue3 _) (w.heap.size + 1 + 1) pre.length _ rfl hown _ _ rfl hkey ?_; intro q hat hwc)
        | (gi_at_mapUpdate; refine wpListIn_mapUpdate_own _ rfl _ _ _ 52 rfl 9 3 (Maps.string_keyed Try.underlying9) Try.underlying52 _ (w.heap.size + 1 + 1) pre.length _ rfl hown hlt2 _ _ _ rfl rfl hkey _ [] (plainElem_int Try.underlying3 (wrap64_wf _)) ?_; intro w1 hown1 hgrow1))
      obtain rfl := int_of_at HF.out hat
      have m2 : IntMap w1 9 (w.heap.size + 1 + 1) (pre ++ [x]).length (sumsF cur ((pre ++ [x]).map (fun y : LegS => y.1))) := by
        have := IntMap.put HF.out HD.out hkl hown1
        rw [List.map_append, List.map_cons, List.map_nil, sumsF_snoc, if_pos HCUR.out, List.length_append]
        exact this
      exact ⟨KeepsFrom.of_grownBy hgrow1 (fun j e => by cases e; omega), (Below.refl _ W).grown hgrow1 hB1.size (fun k e => by cases e; omega),
        ⟨⟨boxed_map bS1 hgrow1 HB.out, boxed_map bC1 hgrow1 HB.out⟩, m2⟩, hB1.grown hgrow1 hB1.size (fun k e => by cases e; omega)⟩
    · have e1 : (x.1.f1 == cur) = false := by simp [hcur]
      have HCUR := Aside0.mk hcur
      clear hcur
      gi_wp2
      refine ⟨KeepsFrom.refl _ _, Below.refl _ _, ⟨⟨bS1, bC1⟩, ?_⟩, hB1⟩
      rw [List.map_append, List.map_cons, List.map_nil, sumsF_snoc, if_neg HCUR.out]
      exact m1.mono (by simp)
  case done =>
    rintro D zs W hD rfl ⟨⟨⟨bS1, bC1⟩, m1⟩, hB1⟩ hK
    have cS := bS1.cell
    gi_wp2
    refine ⟨by simp, .inl ⟨_, _, rfl, run_takeDeferred hK, ?_⟩⟩
    exact ⟨_, results_tmp rfl _ _ _, rfl, (m1.mono hsel).kept (grownBy_putObj' _ D _) (fun e => by cases e; omega), hB1.trans (belowK_b (w := w) (Nat.le_refl _) W D _ _ (by omega) hK rfl rfl)⟩
  case stop =>
    rintro D c pre W _ _ h _
    exact h.elim
end

/-! ### impl_PostTo: function 16 -/
section
attribute [local go_sem] Oper.semAt_some
/-- How much of a currency the legs bring to an account. -/
def sumTo (acct : ByteArray) (cur : Int) (ys : List S29) : Int := ys.foldl (fun s x => if x.f1 = cur ∧ x.f0.toList = acct.toList then wrap64 (s + x.f2) else s) 0
theorem sumTo_snoc (acct : ByteArray) (cur : Int) (pre : List S29) (x : S29) : sumTo acct cur (pre ++ [x]) = if x.f1 = cur ∧ x.f0.toList = acct.toList then wrap64 (sumTo acct cur pre + x.f2) else sumTo acct cur pre := by simp [sumTo]
theorem acctLit_eq (s t : ByteArray) : acctLit s = acctLit t ↔ s.toList = t.toList := by
  unfold acctLit
  rw [ByteArray.toList_eq, ByteArray.toList_eq]
  constructor
  · intro h
    injection h
  · intro h
    rw [h]
theorem sumsF_at (acct : ByteArray) (cur : Int) (ys : List S29) : sumsF cur ys (acctLit acct) = sumTo acct cur ys := by
  have key : ∀ (r pre : List S29), pre.reverse = r → sumsF cur pre (acctLit acct) = sumTo acct cur pre := by
    intro r
    induction r with
    | nil =>
      intro pre h
      have : pre = [] := by simpa using h
      subst this
      rfl
    | cons x r ih =>
      intro pre h
      have hp : pre = r.reverse ++ [x] := by
        have := congrArg List.reverse h
        simpa using this
      have hr := ih r.reverse (by simp)
      rw [hp, sumsF_snoc, sumTo_snoc]
      by_cases hc : x.f1 = cur
      · rw [if_pos hc]
        unfold putAt
        by_cases ha : x.f0.toList = acct.toList
        · rw [if_pos ((acctLit_eq _ _).2 ha.symm), if_pos ⟨hc, ha⟩, ← hr, (acctLit_eq x.f0 acct).2 ha]
        · rw [if_neg (fun h => ha ((acctLit_eq _ _).1 h).symm), if_neg (fun h => ha h.2), hr]
      · rw [if_neg hc, if_neg (fun h => hc h.1), hr]
  exact key _ ys rfl
def impl_PostTo.f (k : Nat) (a0_0 : Int) (l0_1 : List S29) (a1 : ByteArray) (a2 : Int) : Option Int :=
  (impl_PostOk.f k a0_0 l0_1).bind fun t => if (∀ x ∈ l0_1, x.f0.size ≤ 9223372036854775807) ∧ a1.size ≤ 9223372036854775807 ∧ l0_1.length ≤ 1048576 then some (sumTo a1 a2 (selLegs t l0_1)) else none
theorem impl_PostTo.mono : ∀ a0 a1 a2 a3 k, LeO (impl_PostTo.f k a0 a1 a2 a3) (impl_PostTo.f (k + 1) a0 a1 a2 a3) := by
  intro a0 a1 a2 a3 k
  unfold impl_PostTo.f
  exact LeO.bind (impl_PostOk.mono a0 a1 k) (fun _ => LeO.refl _)
set_option maxRecDepth 100000 in
set_option maxHeartbeats 4000000 in
theorem impl_PostTo.calls (k : Nat) (a0_0 : Int) (A0_1 : Option Addr) (c0_1 : Nat) (l0_1 : List (S29)) (a1 : ByteArray) (a2 : Int) (r : Int) (w : World) (hr0_1 : Kd.C k29 w A0_1 l0_1.length l0_1) (hc0_1 : l0_1.length ≤ c0_1) (h : impl_PostTo.f k a0_0 l0_1 a1 a2 = some r) :
    Calls Try.prog 16 #[.agg #[.int .i64 a0_0, .slice A0_1 l0_1.length c0_1], .string a1, .int .i64 a2] w fun e w' => e = .returned (.int .i64 r) ∧ Below w.heap.size w w' := by
  obtain ⟨ok, hok, hr⟩ := Option.bind_eq_some_iff.1 h
  have hb : (∀ x ∈ l0_1, x.f0.size ≤ 9223372036854775807) ∧ a1.size ≤ 9223372036854775807 ∧ l0_1.length ≤ 1048576 := by
    by_cases hb : (∀ x ∈ l0_1, x.f0.size ≤ 9223372036854775807) ∧ a1.size ≤ 9223372036854775807 ∧ l0_1.length ≤ 1048576
    · exact hb
    · rw [if_neg hb] at hr
      cases hr
  rw [if_pos hb] at hr
  obtain rfl : sumTo a1 a2 (selLegs ok l0_1) = r := Option.some.inj hr
  clear h hr
  obtain ⟨h1, h2, h3⟩ := hb
  obtain ⟨xs, rfl⟩ : ∃ xs : List LegS, xs.map (fun y : LegS => y.1) = l0_1 := ⟨l0_1.attach.map (fun y => ⟨y.1, by have := h1 y.1 y.2; unfold maxLen; omega⟩), by simp⟩
  have hlen : (xs.map (fun y : LegS => y.1)).length = xs.length := List.length_map ..
  rw [hlen] at hr0_1 hc0_1 h3 ⊢
  have hS := sumsOf_calls k a0_0 A0_1 c0_1 xs a2 ok (w.alloc (.cells #[.int .i64 a0_0, .slice A0_1 xs.length c0_1] 25)) (Kd.C_below hr0_1 ((Below.refl _ w).alloc (Nat.le_refl _) _)) hc0_1 hok h3
  have hsel : (selLegs ok xs).map (fun y : LegS => y.1) = selLegs ok (xs.map (fun y : LegS => y.1)) := by cases ok <;> rfl
  rw [hsel] at hS
  have hkey := Go.WideMaps.keyOf_string_mk (P := Try.prog) Try.underlying9 (s := a1) (by unfold maxLen; omega)
  go_enter Try.func16, Try.ntmps16
  clear hr0_1 hc0_1 h1 h3 hok hsel
  go_wp2_with (first
    | (go_at_call 28; refine hS.mono ?_; rintro e w1 ⟨rfl, ⟨D, hown, hD, hf⟩, hB⟩; have HF := Aside0.mk hf; clear hf; simp only [World.size_alloc] at hown)
    | (at_lookup; refine wpList_lookup_own_int _ rfl _ _ 52 rfl 9 3 .i64 (Maps.string_keyed Try.underlying9) Try.underlying52 Try.underlying3 (Try.zeroValue3 _) _ 1048576 _ rfl hown _ _ rfl hkey ?_; intro q hat hwc))
  go_ret
  obtain rfl := int_of_at HF.out hat
  refine ⟨?_, ((Below.refl _ w).alloc (Nat.le_refl _) _).trans (hB.mono (by simp))⟩
  have := sumsF_at a1 a2 (selLegs ok (xs.map (fun y : LegS => y.1)))
  unfold acctLit at this
  rw [this]
  rfl
end

/-! ### spec_AcctOk: function 13 -/
def spec_AcctOk.l0 : Nat → ByteArray → Int → Option (Bool)
  | 0, _, _ => none
  | k + 1, x0, x3 => if x3 < (x0.size : Int) then (if 0 ≤ x3 then (if (bt x0 x3) < 97 then (some false) else (if (bt x0 x3) > 122 then (some false) else (spec_AcctOk.l0 k x0 (wrap64 (x3 + 1))))) else (none)) else (if (x0.size : Int) ≥ 1 then (some (decide ((x0.size : Int) ≤ 4))) else (some false))
def spec_AcctOk.f (k : Nat) (a0 : ByteArray) : Option (Bool) := spec_AcctOk.l0 k a0 0
theorem spec_AcctOk.mono_l : ∀ k, (∀ y0 y1, LeO (spec_AcctOk.l0 k y0 y1) (spec_AcctOk.l0 (k + 1) y0 y1))
  | 0 => fun _ _ r h => by simp [spec_AcctOk.l0] at h
  | k + 1 => by
    have ih0 := spec_AcctOk.mono_l k
    · intro y0 y1
      unfold spec_AcctOk.l0
      repeat' first
      | (with_reducible exact ih0 _ _)
      | (with_reducible exact LeO.refl _)
      | (with_reducible exact LeO.none _)
      | (with_reducible refine LeO.ite ?_ ?_)
      | (with_reducible refine LeO.bind ?_ (fun _ => ?_))
      | exact ih0 _ _
      | exact LeO.none _
      | refine LeO.ite ?_ ?_
      | refine LeO.bind ?_ (fun _ => ?_)
theorem spec_AcctOk.mono : ∀ a0 k, LeO (spec_AcctOk.f k a0) (spec_AcctOk.f (k + 1) a0) := by
  intro a0 k
  have ih0 := spec_AcctOk.mono_l k
  unfold spec_AcctOk.f
  repeat' first
      | (with_reducible exact ih0 _ _)
      | (with_reducible exact LeO.refl _)
      | (with_reducible exact LeO.none _)
      | (with_reducible refine LeO.ite ?_ ?_)
      | (with_reducible refine LeO.bind ?_ (fun _ => ?_))
      | exact ih0 _ _
      | exact LeO.none _
      | refine LeO.ite ?_ ?_
      | refine LeO.bind ?_ (fun _ => ?_)
set_option maxHeartbeats 8000000 in
set_option maxRecDepth 100000 in
theorem spec_AcctOk.calls (k : Nat) (a0 : ByteArray) (r : Bool) (w : World) (h : spec_AcctOk.f k a0 = some r) :
    Calls Try.prog 13 #[.string a0] w fun e w' => e = .returned (.bool r) ∧ Drawn0 w w' := by
  have H : (spec_AcctOk.l0 k a0 0) = some r := h
  clear h
  have H' := Aside0.mk H
  clear H
  go_enter Try.func13, Try.ntmps13
  go_wp2
  go_loopg [3] k (fun kq v3 w' => ∃ (x3_1 : Int), v3 = .int .i64 x3_1 ∧ Aside0 (spec_AcctOk.l0 kq a0 x3_1 = some r) ∧ Aside0 (kq ≤ k) ∧ Drawn0 w w')
  case atStart => exact ⟨(0), (by first | rfl | (simp; done) | (simp [*]; done)), H', ⟨Nat.le_refl _⟩, by repeat (first | exact Drawn0.refl _ | apply Drawn0.step)⟩
  case round =>
    clear H'
    try clear c1
    obtain ⟨x3_1, rfl, HA, HK1, ⟨m1, rfl⟩⟩ := hrel
    cases gk with
    | zero => exact absurd HA.out (by simp [spec_AcctOk.l0])
    | succ k1 =>
      have H := HA.out
      clear HA
      simp only [spec_AcctOk.l0] at H
      by_cases c2 : x3_1 < (a0.size : Int)
      · rw [if_pos c2] at H
        have c2b0 : decide (x3_1 < (a0.size : Int)) = true := decide_eq_true c2
        clear c2
        by_cases c3 : 0 ≤ x3_1
        · rw [if_pos c3] at H
          have c3b0 : decide (0 ≤ x3_1) = true := decide_eq_true c3
          clear c3
          by_cases c5 : (bt a0 x3_1) < 97
          · rw [if_pos c5] at H
            have c5b0 : decide ((bt a0 x3_1) < 97) = true := decide_eq_true c5
            clear c5
            obtain rfl := Option.some.inj H
            have p4 : 0 ≤ (x3_1 : Int) := of_decide_eq_true (by first | (with_reducible assumption) | assumption)
            have q4 : x3_1 < (a0.size : Int) := of_decide_eq_true (by first | (with_reducible assumption) | assumption)
            have hx4 := bt_at a0 x3_1
            replace p4 := eq_true p4
            replace q4 := eq_true q4
            go_wp2
            go_ret
            exact ⟨by first | rfl | (simp; done) | (simp [*]; done), by repeat (first | exact Drawn0.refl _ | apply Drawn0.step)⟩
          · rw [if_neg c5] at H
            have c5b0 : decide ((bt a0 x3_1) < 97) = false := decide_eq_false c5
            clear c5
            by_cases c7 : (bt a0 x3_1) > 122
            · rw [if_pos c7] at H
              have c7b0 : decide (122 < (bt a0 x3_1)) = true := decide_eq_true c7
              clear c7
              obtain rfl := Option.some.inj H
              have p4 : 0 ≤ (x3_1 : Int) := of_decide_eq_true (by first | (with_reducible assumption) | assumption)
              have q4 : x3_1 < (a0.size : Int) := of_decide_eq_true (by first | (with_reducible assumption) | assumption)
              have hx4 := bt_at a0 x3_1
              replace p4 := eq_true p4
              replace q4 := eq_true q4
              have p6 : 0 ≤ (x3_1 : Int) := of_decide_eq_true (by first | (with_reducible assumption) | assumption)
              have q6 : x3_1 < (a0.size : Int) := of_decide_eq_true (by first | (with_reducible assumption) | assumption)
              have hx6 := bt_at a0 x3_1
              replace p6 := eq_true p6
              replace q6 := eq_true q6
              go_wp2
              go_ret
              exact ⟨by first | rfl | (simp; done) | (simp [*]; done), by repeat (first | exact Drawn0.refl _ | apply Drawn0.step)⟩
            · rw [if_neg c7] at H
              have c7b0 : decide (122 < (bt a0 x3_1)) = false := decide_eq_false c7
              clear c7
              have H' := Aside0.mk H
              clear H
              have p4 : 0 ≤ (x3_1 : Int) := of_decide_eq_true (by first | (with_reducible assumption) | assumption)
              have q4 : x3_1 < (a0.size : Int) := of_decide_eq_true (by first | (with_reducible assumption) | assumption)
              have hx4 := bt_at a0 x3_1
              replace p4 := eq_true p4
              replace q4 := eq_true q4
              have p6 : 0 ≤ (x3_1 : Int) := of_decide_eq_true (by first | (with_reducible assumption) | assumption)
              have q6 : x3_1 < (a0.size : Int) := of_decide_eq_true (by first | (with_reducible assumption) | assumption)
              have hx6 := bt_at a0 x3_1
              replace p6 := eq_true p6
              replace q6 := eq_true q6
              go_wp2
              go_roundg k1
              case measure => have := HK1.out; omega
              case rel => exact ⟨(wrap64 (x3_1 + 1)), (by first | rfl | (simp; done) | (simp [*]; done)), H', ⟨by have := HK1.out; omega⟩, by repeat (first | exact Drawn0.refl _ | apply Drawn0.step)⟩
        · rw [if_neg c3] at H
          exact absurd H (by simp)
      · rw [if_neg c2] at H
        have c2b0 : decide (x3_1 < (a0.size : Int)) = false := decide_eq_false c2
        clear c2
        by_cases c8 : (a0.size : Int) ≥ 1
        · rw [if_pos c8] at H
          have c8b0 : decide (1 ≤ (a0.size : Int)) = true := decide_eq_true c8
          have c8b1 : decide (1 ≤ a0.size) = true := decide_eq_true (by omega)
          clear c8
          obtain rfl := Option.some.inj H
          go_wp2
          go_ret
          exact ⟨by first | rfl | (simp; done) | (simp [*]; done), by repeat (first | exact Drawn0.refl _ | apply Drawn0.step)⟩
        · rw [if_neg c8] at H
          have c8b0 : decide (1 ≤ (a0.size : Int)) = false := decide_eq_false c8
          have c8b1 : decide (1 ≤ a0.size) = false := decide_eq_false (by omega)
          clear c8
          obtain rfl := Option.some.inj H
          go_wp2
          go_ret
          exact ⟨by first | rfl | (simp; done) | (simp [*]; done), by repeat (first | exact Drawn0.refl _ | apply Drawn0.step)⟩


end Go.Proofs.Ytemnggadcgmmkaa.QFnPostJoin

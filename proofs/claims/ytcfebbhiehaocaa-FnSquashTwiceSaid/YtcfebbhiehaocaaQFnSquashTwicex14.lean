/- What the law FnSquashTwice reaches, function by function: what each computes, and that the machine's call comes to it. Laid by a program. -/
import Derived.Test.YtcfebbhiehaocaaQFnSquashTwicex0
import Derived.Test.YtcfebbhiehaocaaQFnSquashTwicex11
import Derived.Test.YtcfebbhiehaocaaQFnSquashTwicex12
import Derived.Test.YtcfebbhiehaocaaQFnSquashTwicex13
namespace Go.Proofs.Ytcfebbhiehaocaa.QFnSquashTwice
open Go.RowKit Go.Proofs.YtcfebbhiehaocaaW.PrintWords Go.Proofs.YtcfebbhiehaocaaW.PrintLast Go.Proofs.YtcfebbhiehaocaaW.PrintMore
attribute [local go_sem] max2_int min2_int max_two min_two max_three min_three max_four min_four   -- for this text's walks alone
set_option linter.unusedVariables false
set_option linter.unusedSimpArgs false

/-! ### spec_l4Sort: function 75 -/
def spec_l4Sort.l0 : Nat → List (S48) → List (S48) → Int → Option ((List (S48)))
  | 0, _, _, _ => none
  | k + 1, x0, x3, x4 => if x4 < (x0.length : Int) then (if 0 ≤ x4 then ((spec_l4Put.f k x3 ((rd_T48 x0 x4).f0) ((rd_T48 x0 x4).f1) ((rd_T48 x0 x4).f2) ((rd_T48 x0 x4).f3) ((rd_T48 x0 x4).f4)).bind fun t386 => (spec_l4Sort.l0 k x0 t386 (wrap64 (x4 + 1)))) else (none)) else (some x3)
def spec_l4Sort.f (k : Nat) (l0 : List (S48)) : Option ((List (S48))) := spec_l4Sort.l0 k l0 (([] : List (S48))) 0
theorem spec_l4Sort.mono_l : ∀ k, (∀ y0 y1 y2, LeO (spec_l4Sort.l0 k y0 y1 y2) (spec_l4Sort.l0 (k + 1) y0 y1 y2))
  | 0 => fun _ _ _ r h => by simp [spec_l4Sort.l0] at h
  | k + 1 => by
    have ih0 := spec_l4Sort.mono_l k
    · intro y0 y1 y2
      unfold spec_l4Sort.l0
      repeat' first
      | (with_reducible exact ih0 _ _ _)
      | (with_reducible exact spec_l4Put.mono _ _ _ _ _ _ _)
      | (with_reducible exact LeO.refl _)
      | (with_reducible exact LeO.none _)
      | (with_reducible refine LeO.ite ?_ ?_)
      | (with_reducible refine LeO.bind ?_ (fun _ => ?_))
      | exact ih0 _ _ _
      | exact spec_l4Put.mono _ _ _ _ _ _ _
      | exact LeO.none _
      | refine LeO.ite ?_ ?_
      | refine LeO.bind ?_ (fun _ => ?_)
theorem spec_l4Sort.mono : ∀ a0 k, LeO (spec_l4Sort.f k a0) (spec_l4Sort.f (k + 1) a0) := by
  intro a0 k
  have ih0 := spec_l4Sort.mono_l k
  unfold spec_l4Sort.f
  repeat' first
      | (with_reducible exact ih0 _ _ _)
      | (with_reducible exact spec_l4Put.mono _ _ _ _ _ _ _)
      | (with_reducible exact LeO.refl _)
      | (with_reducible exact LeO.none _)
      | (with_reducible refine LeO.ite ?_ ?_)
      | (with_reducible refine LeO.bind ?_ (fun _ => ?_))
      | exact ih0 _ _ _
      | exact spec_l4Put.mono _ _ _ _ _ _ _
      | exact LeO.none _
      | refine LeO.ite ?_ ?_
      | refine LeO.bind ?_ (fun _ => ?_)
set_option maxHeartbeats 8000000 in
set_option maxRecDepth 100000 in
theorem spec_l4Sort.calls (k : Nat) (A0 : Option Addr) (c0 : Nat) (l0 : List (S48)) (r : List (S48)) (w : World) (hr0 : Kd.C k48 w A0 l0.length l0) (hc0 : l0.length ≤ c0) (h : spec_l4Sort.f k l0 = some r) :
    Calls Try.prog 75 #[.slice A0 l0.length c0] w fun e w' => ∃ v0_ : Value, e = .returned (v0_) ∧ Kd.R k48 48 w' w.heap.size (fun _ => True) v0_ r ∧ Below w.heap.size w w' := by
  have hu48 := Try.underlying48
  have HR0 := Aside0.mk hr0
  have HC0 := Aside0.mk hc0
  clear hr0 hc0
  have HB := Aside0.mk (Below.refl w.heap.size w)
  have H : (spec_l4Sort.l0 k l0 (([] : List (S48))) 0) = some r := h
  clear h
  obtain ⟨y382, hy382⟩ : ∃ y_ : List (S48), y_ = (([] : List (S48))) := ⟨_, rfl⟩
  replace H : (spec_l4Sort.l0 k l0 y382 0) = some r := by first | (rw [hy382]; with_reducible exact H) | (have H2_ := (Option.bind_some _ _).symm.trans H; rw [hy382]; with_reducible exact H2_) | (have H2_ := (Option.bind_some _ _).symm.trans H; with_reducible exact H2_) | with_reducible exact H | (rw [hy382]; exact H) | exact H
  have Ny382 := Aside0.mk hy382
  clear hy382
  have H' := Aside0.mk H
  clear H
  go_enter Try.func75, Try.ntmps75
  go_wp2_with (first | ((with_reducible refine gate_dst (N := 5) rfl ?_); refine Kd.R_lit k48 _ 48 ?hg (N := 5) ?hd (xs := ([] : List (S48))) (inner := []) (ok := fun _ => True) (okp := fun _ => True) ?hr ?hp (fun _ hk => hk) trivial (Below.refl _ _) (Nat.le_refl _) (by simp) ?_; (case hd => rfl); (case hg => rfl); (case hr => first | (go_simp; done) | (go_simp; rfl)); (case hp => exact (Reps.none _ _)); intro v383 w2 ho3 hb hg_ hnew_; clear hg_ hnew_; (first | rw [← Ny382.out] at ho3 | (simp only [Int.reduceToNat] at ho3; rw [← Ny382.out] at ho3)); have HO384 := Aside0.mk (Kd.R_lower ho3 (below_size (by repeat (first | (with_reducible first | exact HB.out | apply below_alloc | apply pw_below_drewN | apply below_drew1) | exact HB.out)))); replace HB := Aside0.mk (below_step (by repeat (first | (with_reducible first | exact HB.out | apply below_alloc | apply pw_below_drewN | apply below_drew1) | exact HB.out)) hb); clear hb ho3))
  go_loopg [3, 4] k (fun kq v3 v4 w' => ∃ (x3_1 : List (S48)) (x4_1 : Int), v4 = .int .i64 x4_1 ∧ Aside0 (spec_l4Sort.l0 kq l0 x3_1 x4_1 = some r) ∧ Aside0 (kq ≤ k) ∧ Aside0 (Kd.R k48 48 w' w.heap.size (fun _ => True) v3 x3_1) ∧ Aside0 (Below w.heap.size w w'))
  case atStart => exact ⟨(y382), (0), (by first | rfl | (simp; done) | (simp [*]; done)), H', ⟨Nat.le_refl _⟩, ⟨by (with_reducible repeat (first | apply Kd.R_alloc | apply Kd.R_drewN | apply Kd.R_drew)); exact HO384.out⟩, ⟨by repeat (first | (with_reducible first | exact HB.out | apply below_alloc | apply pw_below_drewN | apply below_drew1) | exact HB.out)⟩⟩
  case round =>
    clear H'
    try clear p2
    obtain ⟨x3_1, x4_1, rfl, HA, HK1, HO_3, HB⟩ := hrel
    cases gk with
    | zero => exact absurd HA.out (by simp [spec_l4Sort.l0])
    | succ k1 =>
      have H := HA.out
      clear HA
      simp only [spec_l4Sort.l0] at H
      by_cases c4 : x4_1 < (l0.length : Int)
      · rw [if_pos c4] at H
        have c4b0 : decide (x4_1 < (l0.length : Int)) = true := decide_eq_true c4
        clear c4
        by_cases c5 : 0 ≤ x4_1
        · rw [if_pos c5] at H
          have c5b0 : decide (0 ≤ x4_1) = true := decide_eq_true c5
          clear c5
          replace H := Option.bind_eq_some_iff.mp H
          obtain ⟨t386, A60, H⟩ := H
          replace H : (spec_l4Sort.l0 k1 l0 t386 (wrap64 (x4_1 + 1))) = some r := H
          have A6 := Aside0.mk A60
          clear A60
          have H' := Aside0.mk H
          clear H
          have p385 : 0 ≤ (x4_1 : Int) := of_decide_eq_true (by first | (with_reducible assumption) | assumption)
          have q385 : x4_1 < (l0.length : Int) := of_decide_eq_true (by first | (with_reducible assumption) | assumption)
          obtain ⟨ad385, e385, hx385_0, hx385_1, hx385_2, hx385_3, hx385_4⟩ := at_T48 HR0.out x4_1 p385 q385
          cases e385
          replace hx385_0 := (HB.out.cell (World.block_lt_of_cell? w _ hx385_0)).trans hx385_0
          replace hx385_1 := (HB.out.cell (World.block_lt_of_cell? w _ hx385_1)).trans hx385_1
          replace hx385_2 := (HB.out.cell (World.block_lt_of_cell? w _ hx385_2)).trans hx385_2
          replace hx385_3 := (HB.out.cell (World.block_lt_of_cell? w _ hx385_3)).trans hx385_3
          replace hx385_4 := (HB.out.cell (World.block_lt_of_cell? w _ hx385_4)).trans hx385_4
          replace p385 := eq_true p385
          replace q385 := eq_true q385
          obtain ⟨Ao7, co7, eo7⟩ := Kd.R_slice HO_3.out
          subst eo7
          go_wp2_with (first | ((with_reducible refine gate_callee (f := 52) rfl ?_); refine goesL_ (some 17) rfl rfl Try.func52 (by kernel_rfl) rfl #[.slice Ao7 x3_1.length co7, .agg #[.string ((rd_T48 l0 x4_1).f0), .int .i64 ((rd_T48 l0 x4_1).f1), .int .i64 ((rd_T48 l0 x4_1).f2), .string ((rd_T48 l0 x4_1).f3), .int .i64 ((rd_T48 l0 x4_1).f4)]] rfl (by (try simp only [List.map_toArray, List.map_cons, List.map_nil]); first | done | rfl | (simp only [List.length_drop, List.length_take]; rfl)) ?_; (with_reducible refine (spec_l4Put.calls k1 _ _ x3_1 ((rd_T48 l0 x4_1).f0) ((rd_T48 l0 x4_1).f1) ((rd_T48 l0 x4_1).f2) ((rd_T48 l0 x4_1).f3) ((rd_T48 l0 x4_1).f4) t386 _ ?side1 ?side2 A6.out).mono ?_); (case side1 => exact co_ (Kd.R_reads' HO_3.out).2.2); (case side2 => exact (Kd.R_reads' HO_3.out).2.1); rintro e w8 ⟨v387, rfl, ho0, hb⟩; refine ⟨_, rfl, ?_⟩; have HO388 := Aside0.mk (Kd.R_lower (Kd.R_new' ho0 (Kd.R_lt (lo_ HO_3))) (below_size (by repeat (first | (with_reducible first | exact HB.out | apply below_alloc | apply pw_below_drewN | apply below_drew1) | exact HB.out)))); replace HO_3 := Aside0.mk (Kd.R_elder' (lo_ HO_3) (Kd.R_base ho0) hb); replace HB := Aside0.mk (below_step (by repeat (first | (with_reducible first | exact HB.out | apply below_alloc | apply pw_below_drewN | apply below_drew1) | exact HB.out)) hb); (try clear hb); (try clear hb2); (try clear hk); (try clear hi); (try clear ho0)))
          go_roundg k1
          case measure => have := HK1.out; omega
          case rel => exact ⟨(t386), (wrap64 (x4_1 + 1)), (by first | rfl | (simp; done) | (simp [*]; done)), H', ⟨by have := HK1.out; omega⟩, ⟨by (with_reducible repeat (first | apply Kd.R_alloc | apply Kd.R_drewN | apply Kd.R_drew)); exact Kd.R_mono HO388.out (fun _ hk => trivial)⟩, ⟨by repeat (first | (with_reducible first | exact HB.out | apply below_alloc | apply pw_below_drewN | apply below_drew1) | exact HB.out)⟩⟩
        · rw [if_neg c5] at H
          exact absurd H (by simp)
      · rw [if_neg c4] at H
        have c4b0 : decide (x4_1 < (l0.length : Int)) = false := decide_eq_false c4
        clear c4
        obtain rfl := Option.some.inj H
        go_wp2
        go_ret
        exact ⟨_, by first | rfl | (simp [errW_none, errW_some] <;> rfl) | (simp [*, errW_none, errW_some] <;> rfl), by (with_reducible repeat (first | apply Kd.R_alloc | apply Kd.R_drewN | apply Kd.R_drew)); exact HO_3.out, by repeat (first | (with_reducible first | exact HB.out | apply below_alloc | apply pw_below_drewN | apply below_drew1) | exact HB.out)⟩

/-! ### spec_l4Ents: function 53 -/
def spec_l4Ents.f (k : Nat) (s0_0 : List Int) (s0_1 : Int) (a1 : Int) : Option ((List (S48)) × Int) := (spec_l3List.f k s0_0 s0_1 a1).bind fun bt389 => ((spec_l4Sort.f k bt389.1).bind fun t393 => (some (t393, bt389.2)))
theorem spec_l4Ents.mono : ∀ a0 a1 a2 k, LeO (spec_l4Ents.f k a0 a1 a2) (spec_l4Ents.f (k + 1) a0 a1 a2) := by
  intro a0 a1 a2 k
  unfold spec_l4Ents.f
  repeat' first
      | (with_reducible exact spec_l3List.mono _ _ _ _)
      | (with_reducible exact spec_l4Sort.mono _ _)
      | (with_reducible exact LeO.refl _)
      | (with_reducible exact LeO.none _)
      | (with_reducible refine LeO.ite ?_ ?_)
      | (with_reducible refine LeO.bind ?_ (fun _ => ?_))
      | exact spec_l3List.mono _ _ _ _
      | exact spec_l4Sort.mono _ _
      | exact LeO.none _
      | refine LeO.ite ?_ ?_
      | refine LeO.bind ?_ (fun _ => ?_)
set_option maxHeartbeats 8000000 in
set_option maxRecDepth 100000 in
theorem spec_l4Ents.calls (k : Nat) (g : Nat) (s0_0 : List Int) (s0_1 : Int) (a1 : Int) (r1 : List (S48)) (r2 : Int) (w0 w : World) (hI : IsS93 w0 w g s0_0 s0_1) (hB : Below w0.heap.size w0 w) (h : spec_l4Ents.f k s0_0 s0_1 a1 = some (r1, r2)) :
    Calls Try.prog 53 #[.pointer (some ⟨g, 0, none⟩), .int .i64 a1] w fun e w' => ∃ v0_ : Value, e = .returned (v0_) ∧ Kd.R k48 48 w' w.heap.size (fun _ => True) v0_ r1 ∧ IsS93 w0 w' g s0_0 r2 ∧ Below w0.heap.size w0 w' ∧ KeepBut w w' g none := by
  have HI0 := Aside0.mk hI
  have HK := Aside0.mk (KeepBut.refl w g none)
  have HL := Aside0.mk hB.size
  clear hI
  have HW0 := Aside0.mk hB.size
  have HB := Aside0.mk hB
  clear hB
  have H : ((spec_l3List.f k s0_0 s0_1 a1).bind fun bt389 => ((spec_l4Sort.f k bt389.1).bind fun t393 => (some (t393, bt389.2)))) = some (r1, r2) := h
  clear h
  replace H := Option.bind_eq_some_iff.mp H
  obtain ⟨⟨t389, t392⟩, A30, H⟩ := H
  replace H : ((spec_l4Sort.f k t389).bind fun t393 => (some (t393, t392))) = some (r1, r2) := H
  have A3 := Aside0.mk A30
  clear A30
  replace H := Option.bind_eq_some_iff.mp H
  obtain ⟨t393, A40, H⟩ := H
  replace H : (some (t393, t392)) = some (r1, r2) := H
  have A4 := Aside0.mk A40
  clear A40
  simp only [Option.some.injEq, Prod.mk.injEq] at H
  obtain ⟨rfl, rfl⟩ := H
  go_enter Try.func53, Try.ntmps53
  go_wp2_with (first | ((with_reducible refine gate_callee (f := 45) rfl ?_); refine goesL_ (some 7) rfl rfl Try.func45 (by kernel_rfl) rfl #[.pointer (some ⟨g, 0, none⟩), .int .i64 a1] rfl (by (try simp only [List.map_toArray, List.map_cons, List.map_nil]); first | done | rfl | (simp only [List.length_drop, List.length_take]; rfl)) ?_; (with_reducible refine (spec_l3List.calls k g s0_0 s0_1 a1 t389 t392 w0 _ ?side1 ?side2 A3.out).mono ?_); (case side1 => repeat (first | (with_reducible first | exact HI0.out | apply IsS93.alloc | apply IsS93.drewN | apply IsS93.drew | apply IsS93.set_1) | exact HI0.out)); (case side2 => repeat (first | (with_reducible first | exact HB.out | apply below_alloc | apply pw_below_drewN | apply below_drew1 | refine below_set ?_ (IsS93.ge HI0.out)) | exact HB.out)); rintro e w5 ⟨v390, rfl, ho0, hi, hb, hk⟩; refine ⟨_, rfl, ?_⟩; have HO391 := Aside0.mk (Kd.R_lower ho0 (keep_size (w := w) (g := g) (row := none) (by repeat (first | (with_reducible first | exact HK.out | apply KeepBut.set_ | apply keep_drewN | apply keep_drew | apply keep_alloc) | exact HK.out)))); replace HK := Aside0.mk (KeepBut.trans (by repeat (first | (with_reducible first | exact HK.out | apply KeepBut.set_ | apply keep_drewN | apply keep_drew | apply keep_alloc) | exact HK.out)) hk (.inl rfl)); replace HB := Aside0.mk (hb); replace HI0 := Aside0.mk (hi); (try clear hb); (try clear hb2); (try clear hk); (try clear hi); (try clear ho0); obtain ⟨Ao6, co6, eo6⟩ := Kd.R_slice HO391.out; subst eo6) | ((with_reducible refine gate_callee (f := 75) rfl ?_); refine goesL_ (some 8) rfl rfl Try.func75 (by kernel_rfl) rfl #[.slice Ao6 t389.length co6] rfl (by (try simp only [List.map_toArray, List.map_cons, List.map_nil]); first | done | rfl | (simp only [List.length_drop, List.length_take]; rfl)) ?_; (with_reducible refine (spec_l4Sort.calls k _ _ t389 t393 _ ?side1 ?side2 A4.out).mono ?_); (case side1 => exact co_ (Kd.R_reads' HO391.out).2.2); (case side2 => exact (Kd.R_reads' HO391.out).2.1); rintro e w7 ⟨v394, rfl, ho0, hb⟩; refine ⟨_, rfl, ?_⟩; have HO395 := Aside0.mk (Kd.R_lower (Kd.R_new' ho0 (Kd.R_lt (lo_ HO391))) (keep_size (w := w) (g := g) (row := none) (by repeat (first | (with_reducible first | exact HK.out | apply KeepBut.set_ | apply keep_drewN | apply keep_drew | apply keep_alloc) | exact HK.out)))); replace HO391 := Aside0.mk (Kd.R_elder' (lo_ HO391) (Kd.R_base ho0) hb); replace HK := Aside0.mk (KeepBut.trans (by repeat (first | (with_reducible first | exact HK.out | apply KeepBut.set_ | apply keep_drewN | apply keep_drew | apply keep_alloc) | exact HK.out)) (KeepBut.of_below hb g none) (.inl rfl)); replace HB := Aside0.mk (below_step (by repeat (first | (with_reducible first | exact HB.out | apply below_alloc | apply pw_below_drewN | apply below_drew1 | refine below_set ?_ (IsS93.ge HI0.out)) | exact HB.out)) hb); replace HI0 := Aside0.mk (IsS93.below (by repeat (first | (with_reducible first | exact HI0.out | apply IsS93.alloc | apply IsS93.drewN | apply IsS93.drew | apply IsS93.set_1) | exact HI0.out)) hb); (try clear hb); (try clear hb2); (try clear hk); (try clear hi); (try clear ho0)))
  go_ret
  exact ⟨_, by first | rfl | (simp [errW_none, errW_some] <;> rfl) | (simp [*, errW_none, errW_some] <;> rfl), by (with_reducible repeat (first | apply Kd.R_alloc | apply Kd.R_drewN | apply Kd.R_drew)); exact Kd.R_mono HO395.out (fun _ hk => trivial), by repeat (first | (with_reducible first | exact HI0.out | apply IsS93.alloc | apply IsS93.drewN | apply IsS93.drew | apply IsS93.set_1) | exact HI0.out), by repeat (first | (with_reducible first | exact HB.out | apply below_alloc | apply pw_below_drewN | apply below_drew1 | refine below_set ?_ (IsS93.ge HI0.out)) | exact HB.out), by repeat (first | (with_reducible first | exact HK.out | apply KeepBut.set_ | apply keep_drewN | apply keep_drew | apply keep_alloc) | exact HK.out)⟩

/-! ### spec_l4Snaps: function 55 -/
def spec_l4Snaps.l0 : Nat → List Int → Int → List Int → Int → Option (List Int × Int)
  | 0, _, _, _, _ => none
  | k + 1, x3, x4, x1000, x1001 => if x4 > 0 then ((spec_l9Rd_pick.f k x1000 x1001 20).bind fun bt401 => (if x3.length < 17592186044416 then (spec_l4Snaps.l0 k (x3 ++ [bt401.1]) (wrap64 (x4 - 1)) x1000 bt401.2) else (none))) else (some (x3, x1001))
def spec_l4Snaps.f (k : Nat) (s0_0 : List Int) (s0_1 : Int) : Option (List Int × Int) := (spec_l9Rd_pick.f k s0_0 s0_1 4).bind fun bt399 => (spec_l4Snaps.l0 k (([] : List Int)) bt399.1 s0_0 bt399.2)
theorem spec_l4Snaps.mono_l : ∀ k, (∀ y0 y1 y2 y3, LeO (spec_l4Snaps.l0 k y0 y1 y2 y3) (spec_l4Snaps.l0 (k + 1) y0 y1 y2 y3))
  | 0 => fun _ _ _ _ r h => by simp [spec_l4Snaps.l0] at h
  | k + 1 => by
    have ih0 := spec_l4Snaps.mono_l k
    · intro y0 y1 y2 y3
      unfold spec_l4Snaps.l0
      repeat' first
      | (with_reducible exact ih0 _ _ _ _)
      | (with_reducible exact spec_l9Rd_pick.mono _ _ _ _)
      | (with_reducible exact LeO.refl _)
      | (with_reducible exact LeO.none _)
      | (with_reducible refine LeO.ite ?_ ?_)
      | (with_reducible refine LeO.bind ?_ (fun _ => ?_))
      | exact ih0 _ _ _ _
      | exact spec_l9Rd_pick.mono _ _ _ _
      | exact LeO.none _
      | refine LeO.ite ?_ ?_
      | refine LeO.bind ?_ (fun _ => ?_)
theorem spec_l4Snaps.mono : ∀ a0 a1 k, LeO (spec_l4Snaps.f k a0 a1) (spec_l4Snaps.f (k + 1) a0 a1) := by
  intro a0 a1 k
  have ih0 := spec_l4Snaps.mono_l k
  unfold spec_l4Snaps.f
  repeat' first
      | (with_reducible exact ih0 _ _ _ _)
      | (with_reducible exact spec_l9Rd_pick.mono _ _ _ _)
      | (with_reducible exact LeO.refl _)
      | (with_reducible exact LeO.none _)
      | (with_reducible refine LeO.ite ?_ ?_)
      | (with_reducible refine LeO.bind ?_ (fun _ => ?_))
      | exact ih0 _ _ _ _
      | exact spec_l9Rd_pick.mono _ _ _ _
      | exact LeO.none _
      | refine LeO.ite ?_ ?_
      | refine LeO.bind ?_ (fun _ => ?_)
set_option maxHeartbeats 8000000 in
set_option maxRecDepth 100000 in
theorem spec_l4Snaps.calls (k : Nat) (g : Nat) (s0_0 : List Int) (s0_1 : Int) (r1 : List Int) (r2 : Int) (w0 w : World) (hI : IsS93 w0 w g s0_0 s0_1) (hB : Below w0.heap.size w0 w) (h : spec_l4Snaps.f k s0_0 s0_1 = some (r1, r2)) :
  Calls Try.prog 55 #[.pointer (some ⟨g, 0, none⟩)] w fun e w' => ∃ v0_ : Value, e = .returned (v0_) ∧ Kd.R (Kd.int .i64) 3 w' w.heap.size (fun _ => True) v0_ r1 ∧ IsS93 w0 w' g s0_0 r2 ∧ Below w0.heap.size w0 w' ∧ KeepBut w w' g none := by
 have HI0 := Aside0.mk hI
 have HK := Aside0.mk (KeepBut.refl w g none)
 have HL := Aside0.mk hB.size
 clear hI
 have HW0 := Aside0.mk hB.size
 have HB := Aside0.mk hB
 clear hB
 have H : ((spec_l9Rd_pick.f k s0_0 s0_1 4).bind fun bt399 => (spec_l4Snaps.l0 k (([] : List Int)) bt399.1 s0_0 bt399.2)) = some (r1, r2) := h
 clear h
 obtain ⟨y396, hy396⟩ : ∃ y_ : List Int, y_ = (([] : List Int)) := ⟨_, rfl⟩
 replace H : ((spec_l9Rd_pick.f k s0_0 s0_1 4).bind fun bt399 => (spec_l4Snaps.l0 k y396 bt399.1 s0_0 bt399.2)) = some (r1, r2) := by first | (rw [hy396]; with_reducible exact H) | (have H2_ := (Option.bind_some _ _).symm.trans H; rw [hy396]; with_reducible exact H2_) | (have H2_ := (Option.bind_some _ _).symm.trans H; with_reducible exact H2_) | with_reducible exact H | (rw [hy396]; exact H) | exact H
 have Ny396 := Aside0.mk hy396
 clear hy396
 replace H := Option.bind_eq_some_iff.mp H
 obtain ⟨⟨t399, t400⟩, A20, H⟩ := H
 replace H : (spec_l4Snaps.l0 k y396 t399 s0_0 t400) = some (r1, r2) := H
 have A2 := Aside0.mk A20
 clear A20
 have H' := Aside0.mk H
 clear H
 go_enter Try.func55, Try.ntmps55
 go_wp2_with (first | ((with_reducible refine gate_dst (N := 5) rfl ?_); refine Kd.R_lit (Kd.int .i64) _ 3 ?hg (N := 5) ?hd (xs := ([] : List Int)) (inner := []) (ok := fun _ => True) (okp := fun _ => True) ?hr ?hp (fun _ hk => hk) trivial (Below.refl _ _) (Nat.le_refl _) (by simp) ?_; (case hd => rfl); (case hg => rfl); (case hr => first | (go_simp; done) | (go_simp; rfl)); (case hp => exact (Reps.none _ _)); intro v397 w3 ho4 hb hg_ hnew_; clear hg_ hnew_; (first | rw [← Ny396.out] at ho4 | (simp only [Int.reduceToNat] at ho4; rw [← Ny396.out] at ho4)); have HO398 := Aside0.mk (Kd.R_lower ho4 (keep_size (w := w) (g := g) (row := none) (by repeat (first | (with_reducible first | exact HK.out | apply KeepBut.set_ | apply keep_drewN | apply keep_drew | apply keep_alloc) | exact HK.out)))); replace HK := Aside0.mk (KeepBut.trans (by repeat (first | (with_reducible first | exact HK.out | apply KeepBut.set_ | apply keep_drewN | apply keep_drew | apply keep_alloc) | exact HK.out)) (KeepBut.of_below hb g none) (.inl rfl)); replace HB := Aside0.mk (below_step (by repeat (first | (with_reducible first | exact HB.out | apply below_alloc | apply pw_below_drewN | apply below_drew1 | refine below_set ?_ (IsS93.ge HI0.out)) | exact HB.out)) hb); replace HI0 := Aside0.mk (IsS93.below (by repeat (first | (with_reducible first | exact HI0.out | apply IsS93.alloc | apply IsS93.drewN | apply IsS93.drew | apply IsS93.set_1) | exact HI0.out)) hb); clear hb ho4) | ((with_reducible refine gate_callee (f := 46) rfl ?_); refine goesL_ (some 7) rfl rfl Try.func46 (by kernel_rfl) rfl #[.pointer (some ⟨g, 0, none⟩), .int .i64 4] rfl (by (try simp only [List.map_toArray, List.map_cons, List.map_nil]); first | done | rfl | (simp only [List.length_drop, List.length_take]; rfl)) ?_; (with_reducible refine (spec_l9Rd_pick.calls k g s0_0 s0_1 4 t399 t400 w0 _ ?side1 ?side2 A2.out).mono ?_); (case side1 => repeat (first | (with_reducible first | exact HI0.out | apply IsS93.alloc | apply IsS93.drewN | apply IsS93.drew | apply IsS93.set_1) | exact HI0.out)); (case side2 => repeat (first | (with_reducible first | exact HB.out | apply below_alloc | apply pw_below_drewN | apply below_drew1 | refine below_set ?_ (IsS93.ge HI0.out)) | exact HB.out)); rintro e w5 ⟨rfl, hi, hb, hk⟩; refine ⟨_, rfl, ?_⟩; replace HO398 := Aside0.mk (Kd.R_mono (Kd.R_keep (IsS93.apart (show IsS93 w0 _ g s0_0 s0_1 from by repeat (first | (with_reducible first | exact HI0.out | apply IsS93.alloc | apply IsS93.drewN | apply IsS93.drew | apply IsS93.set_1) | exact HI0.out)) (lo_ HO398) (by decide)) hk (fun _ h => h.2)) (fun _ h => h.1)); replace HK := Aside0.mk (KeepBut.trans (by repeat (first | (with_reducible first | exact HK.out | apply KeepBut.set_ | apply keep_drewN | apply keep_drew | apply keep_alloc) | exact HK.out)) hk (.inl rfl)); replace HB := Aside0.mk (hb); replace HI0 := Aside0.mk (hi); (try clear hb); (try clear hb2); (try clear hk); (try clear hi)))
 (try simp only [Act.put, List.setIfInBounds_toArray, List.set_cons_zero, List.set_cons_succ])
 go_loopg [3, 4] k (fun kq v3 v4 w' => ∃ (x3_1 : List Int) (x4_1 : Int) (x1001_1 : Int), v4 = .int .i64 x4_1 ∧ Aside0 (spec_l4Snaps.l0 kq x3_1 x4_1 s0_0 x1001_1 = some (r1, r2)) ∧ Aside0 (kq ≤ k) ∧ Aside0 (Kd.R (Kd.int .i64) 3 w' w.heap.size (fun _ => True) v3 x3_1) ∧ Aside0 (IsS93 w0 w' g s0_0 x1001_1) ∧ Aside0 (KeepBut w w' g none) ∧ Aside0 (Below w0.heap.size w0 w'))
 case atStart => exact ⟨(y396), (t399), (t400), (by first | rfl | (simp; done) | (simp [*]; done)), H', ⟨Nat.le_refl _⟩, ⟨by (with_reducible repeat (first | apply Kd.R_alloc | apply Kd.R_drewN | apply Kd.R_drew)); exact HO398.out⟩, ⟨by repeat (first | (with_reducible first | exact HI0.out | apply IsS93.alloc | apply IsS93.drewN | apply IsS93.drew | apply IsS93.set_1) | exact HI0.out)⟩, ⟨by repeat (first | (with_reducible first | exact HK.out | apply KeepBut.set_ | apply keep_drewN | apply keep_drew | apply keep_alloc) | exact HK.out)⟩, ⟨by repeat (first | (with_reducible first | exact HB.out | apply below_alloc | apply pw_below_drewN | apply below_drew1 | refine below_set ?_ (IsS93.ge HI0.out)) | exact HB.out)⟩⟩
 case round =>
  clear H'
  try clear p2
  try clear c4
  try clear c5
  obtain ⟨x3_1, x4_1, x1001_1, rfl, HA, HK1, HO_3, HI0, HK, HB⟩ := hrel
  cases gk with
  | zero => exact absurd HA.out (by simp [spec_l4Snaps.l0])
  | succ k1 =>
   have H := HA.out
   clear HA
   simp only [spec_l4Snaps.l0] at H
   by_cases c6 : x4_1 > 0
   rotate_left
   ·
    rw [if_neg c6] at H
    have c6b0 : decide (0 < x4_1) = false := decide_eq_false c6
    clear c6
    simp only [Option.some.injEq, Prod.mk.injEq] at H
    obtain ⟨rfl, rfl⟩ := H
    go_wp2
    go_ret
    exact ⟨_, by first | rfl | (simp [errW_none, errW_some] <;> rfl) | (simp [*, errW_none, errW_some] <;> rfl), by (with_reducible repeat (first | apply Kd.R_alloc | apply Kd.R_drewN | apply Kd.R_drew)); exact HO_3.out, by repeat (first | (with_reducible first | exact HI0.out | apply IsS93.alloc | apply IsS93.drewN | apply IsS93.drew | apply IsS93.set_1) | exact HI0.out), by repeat (first | (with_reducible first | exact HB.out | apply below_alloc | apply pw_below_drewN | apply below_drew1 | refine below_set ?_ (IsS93.ge HI0.out)) | exact HB.out), by repeat (first | (with_reducible first | exact HK.out | apply KeepBut.set_ | apply keep_drewN | apply keep_drew | apply keep_alloc) | exact HK.out)⟩
   rw [if_pos c6] at H
   have c6b0 : decide (0 < x4_1) = true := decide_eq_true c6
   clear c6
   replace H := Option.bind_eq_some_iff.mp H
   obtain ⟨⟨t401, t402⟩, A70, H⟩ := H
   replace H : (if x3_1.length < 17592186044416 then (spec_l4Snaps.l0 k1 (x3_1 ++ [t401]) (wrap64 (x4_1 - 1)) s0_0 t402) else (none)) = some (r1, r2) := H
   have A7 := Aside0.mk A70
   clear A70
   by_cases c8 : x3_1.length < 17592186044416
   rotate_left
   ·
    rw [if_neg c8] at H
    exact absurd H (by simp)
   rw [if_pos c8] at H
   have LMc8 := Aside0.mk c8
   clear c8
   obtain ⟨y403, hy403⟩ : ∃ y_ : List Int, y_ = (x3_1 ++ [t401]) := ⟨_, rfl⟩
   replace H : (spec_l4Snaps.l0 k1 y403 (wrap64 (x4_1 - 1)) s0_0 t402) = some (r1, r2) := by first | (rw [hy403]; with_reducible exact H) | (have H2_ := (Option.bind_some _ _).symm.trans H; rw [hy403]; with_reducible exact H2_) | (have H2_ := (Option.bind_some _ _).symm.trans H; with_reducible exact H2_) | with_reducible exact H | (rw [hy403]; exact H) | exact H
   have Ny403 := Aside0.mk hy403
   clear hy403
   have H' := Aside0.mk H
   clear H
   go_wp2_with (first | ((with_reducible refine gate_callee (f := 46) rfl ?_); refine goesL_ (some 14) rfl rfl Try.func46 (by kernel_rfl) rfl #[.pointer (some ⟨g, 0, none⟩), .int .i64 20] rfl (by (try simp only [List.map_toArray, List.map_cons, List.map_nil]); first | done | rfl | (simp only [List.length_drop, List.length_take]; rfl)) ?_; (with_reducible refine (spec_l9Rd_pick.calls k1 g s0_0 x1001_1 20 t401 t402 w0 _ ?side1 ?side2 A7.out).mono ?_); (case side1 => repeat (first | (with_reducible first | exact HI0.out | apply IsS93.alloc | apply IsS93.drewN | apply IsS93.drew | apply IsS93.set_1) | exact HI0.out)); (case side2 => repeat (first | (with_reducible first | exact HB.out | apply below_alloc | apply pw_below_drewN | apply below_drew1 | refine below_set ?_ (IsS93.ge HI0.out)) | exact HB.out)); rintro e w9 ⟨rfl, hi, hb, hk⟩; refine ⟨_, rfl, ?_⟩; replace HO_3 := Aside0.mk (Kd.R_mono (Kd.R_keep (IsS93.apart (show IsS93 w0 _ g s0_0 x1001_1 from by repeat (first | (with_reducible first | exact HI0.out | apply IsS93.alloc | apply IsS93.drewN | apply IsS93.drew | apply IsS93.set_1) | exact HI0.out)) (lo_ HO_3) (by decide)) hk (fun _ h => h.2)) (fun _ h => h.1)); replace HK := Aside0.mk (KeepBut.trans (by repeat (first | (with_reducible first | exact HK.out | apply KeepBut.set_ | apply keep_drewN | apply keep_drew | apply keep_alloc) | exact HK.out)) hk (.inl rfl)); replace HB := Aside0.mk (hb); replace HI0 := Aside0.mk (hi); (try clear hb); (try clear hb2); (try clear hk); (try clear hi)) | ((with_reducible refine gate_builtin (b := .append) (xs := #[.tmp 12, .tmp 15]) rfl ?_); at_builtin; refine Kd.R_append (Kd.int .i64) w.heap.size rfl (.tmp 12) (.tmp 15) 23 3 (.int .i64 0) 8 rfl Try.underlying23 info3 rfl (by decide) (by omega) u3 x3_1 t401 [.int .i64 t401] (fun _ => True) (fun _ => False) rfl rfl ?aP (fun _ hk => hk.elim) ?aF ?aO (Below.refl _ _) ?aS ?aL ?_; (case aP => exact rfl); (case aF => exact (fun _ _ => trivial)); (case aO => exact (lo_ HO_3)); (case aS => exact (keep_size (w := w) (g := g) (row := none) (by repeat (first | (with_reducible first | exact HK.out | apply KeepBut.set_ | apply keep_drewN | apply keep_drew | apply keep_alloc) | exact HK.out)))); (case aL => have := LMc8.out; omega); intro v404 w10 ho hb hg hat; rw [← Ny403.out] at ho; have n0_ := Aside0.mk (IsS93.grown (by repeat (first | (with_reducible first | exact HI0.out | apply IsS93.alloc | apply IsS93.drewN | apply IsS93.drew | apply IsS93.set_1) | exact HI0.out)) hg (IsS93.own_ne HI0.out HO_3.out (by decide))); have n1_ := Aside0.mk (below_weaken (by repeat (first | (with_reducible first | exact HB.out | apply below_alloc | apply pw_below_drewN | apply below_drew1 | refine below_set ?_ (IsS93.ge HI0.out)) | exact HB.out)) HL.out hb); have n2_ := Aside0.mk (KeepBut.trans (by repeat (first | (with_reducible first | exact HK.out | apply KeepBut.set_ | apply keep_drewN | apply keep_drew | apply keep_alloc) | exact HK.out)) (KeepBut.of_grown hg g) (Kd.R_base2 HO_3.out)); have n3_ := Aside0.mk (ho); clear HI0; clear HB; clear HK; clear HO_3; have HI0 := n0_; have HB := n1_; have HK := n2_; have HO405 := n3_; clear n0_ n1_ n2_ n3_; clear ho hb hg hat))
   go_roundg k1
   case measure => have := HK1.out; omega
   case rel => exact ⟨(y403), (wrap64 (x4_1 - 1)), (t402), (by first | rfl | (simp; done) | (simp [*]; done)), H', ⟨by have := HK1.out; omega⟩, ⟨by (with_reducible repeat (first | apply Kd.R_alloc | apply Kd.R_drewN | apply Kd.R_drew)); exact HO405.out⟩, ⟨by repeat (first | (with_reducible first | exact HI0.out | apply IsS93.alloc | apply IsS93.drewN | apply IsS93.drew | apply IsS93.set_1) | exact HI0.out)⟩, ⟨by repeat (first | (with_reducible first | exact HK.out | apply KeepBut.set_ | apply keep_drewN | apply keep_drew | apply keep_alloc) | exact HK.out)⟩, ⟨by repeat (first | (with_reducible first | exact HB.out | apply below_alloc | apply pw_below_drewN | apply below_drew1 | refine below_set ?_ (IsS93.ge HI0.out)) | exact HB.out)⟩⟩

/-! ### spec_DrawSquash: function 29 -/
mutual
def spec_DrawSquash.j0 : Nat → List (S48) → Bool → List Int → Int → Option ((List (S48)) × List Int × Bool)
  | 0, _, _, _, _ => none
  | k + 1, x6, x25, x409000, x409001 => if x25 = true then ((spec_l9Rd_num.f k x409000 x409001 (([1000000, (-1000000)] : List Int))).bind fun bt419 => (if 0 < (x6.length : Int) then (spec_DrawSquash.j1 k (x6.set (0 : Int).toNat (⟨(rd_T48 x6 0).f0, (rd_T48 x6 0).f1, (rd_T48 x6 0).f2, (rd_T48 x6 0).f3, bt419.1⟩ : S48)) x409000 bt419.2) else (none))) else (spec_DrawSquash.j1 k x6 x409000 x409001)
def spec_DrawSquash.j1 : Nat → List (S48) → List Int → Int → Option ((List (S48)) × List Int × Bool)
  | 0, _, _, _ => none
  | k + 1, x6, x409000, x409001 => if (x6.length : Int) > 1 then ((spec_l9Rd_pick.f k x409000 x409001 24).bind fun bt422 => (spec_DrawSquash.j2 k x6 (bt422.1 == 0) x409000 bt422.2)) else (spec_DrawSquash.j2 k x6 false x409000 x409001)
def spec_DrawSquash.j2 : Nat → List (S48) → Bool → List Int → Int → Option ((List (S48)) × List Int × Bool)
  | 0, _, _, _, _ => none
  | k + 1, x6, x39, x409000, x409001 => if x39 = true then (if 0 < (x6.length : Int) then (if x6.length < 2513169434916 then ((spec_l4Snaps.f k x409000 x409001).bind fun bt428 => ((spec_l9Rd_pick.f k x409000 bt428.2 2).bind fun bt432 => (some ((x6 ++ [(⟨(rd_T48 x6 0).f0, (rd_T48 x6 0).f1, (rd_T48 x6 0).f2, (rd_T48 x6 0).f3, (rd_T48 x6 0).f4⟩ : S48)]), bt428.1, (bt432.1 == 0))))) else (none)) else (none)) else ((spec_l4Snaps.f k x409000 x409001).bind fun bt434 => ((spec_l9Rd_pick.f k x409000 bt434.2 2).bind fun bt438 => (some (x6, bt434.1, (bt438.1 == 0)))))
end
def spec_DrawSquash.f (k : Nat) (l0 : List Int) : Option ((List (S48)) × List Int × Bool) := (spec_l9Open.f l0).bind fun bt406 => ((spec_l4Ents.f k bt406.1 bt406.2 14).bind fun bt409 => (if (bt409.1.length : Int) > 0 then (if 0 < (bt409.1.length : Int) then (if ((rd_T48 bt409.1 0).f2) = 2 then (spec_DrawSquash.j0 k bt409.1 false bt406.1 bt409.2) else ((spec_l9Rd_pick.f k bt406.1 bt409.2 16).bind fun bt414 => (spec_DrawSquash.j0 k bt409.1 (bt414.1 == 0) bt406.1 bt414.2))) else (none)) else (spec_DrawSquash.j0 k bt409.1 false bt406.1 bt409.2)))
theorem spec_DrawSquash.mono_l : ∀ k, (∀ y0 y1 y2 y3, LeO (spec_DrawSquash.j0 k y0 y1 y2 y3) (spec_DrawSquash.j0 (k + 1) y0 y1 y2 y3)) ∧ (∀ y0 y1 y2, LeO (spec_DrawSquash.j1 k y0 y1 y2) (spec_DrawSquash.j1 (k + 1) y0 y1 y2)) ∧ (∀ y0 y1 y2 y3, LeO (spec_DrawSquash.j2 k y0 y1 y2 y3) (spec_DrawSquash.j2 (k + 1) y0 y1 y2 y3))
  | 0 => ⟨fun _ _ _ _ r h => by simp [spec_DrawSquash.j0] at h, fun _ _ _ r h => by simp [spec_DrawSquash.j1] at h, fun _ _ _ _ r h => by simp [spec_DrawSquash.j2] at h⟩
  | k + 1 => by
    obtain ⟨ih0, ih1, ih2⟩ := spec_DrawSquash.mono_l k
    refine ⟨?_, ?_, ?_⟩
    · intro y0 y1 y2 y3
      unfold spec_DrawSquash.j0
      repeat' first
      | (with_reducible exact ih0 _ _ _ _)
      | (with_reducible exact ih1 _ _ _)
      | (with_reducible exact ih2 _ _ _ _)
      | (with_reducible exact spec_l4Ents.mono _ _ _ _)
      | (with_reducible exact spec_l4Snaps.mono _ _ _)
      | (with_reducible exact spec_l9Rd_num.mono _ _ _ _)
      | (with_reducible exact spec_l9Rd_pick.mono _ _ _ _)
      | (with_reducible exact LeO.refl _)
      | (with_reducible exact LeO.none _)
      | (with_reducible refine LeO.ite ?_ ?_)
      | (with_reducible refine LeO.bind ?_ (fun _ => ?_))
      | exact ih0 _ _ _ _
      | exact ih1 _ _ _
      | exact ih2 _ _ _ _
      | exact spec_l4Ents.mono _ _ _ _
      | exact spec_l4Snaps.mono _ _ _
      | exact spec_l9Rd_num.mono _ _ _ _
      | exact spec_l9Rd_pick.mono _ _ _ _
      | exact LeO.none _
      | refine LeO.ite ?_ ?_
      | refine LeO.bind ?_ (fun _ => ?_)
    · intro y0 y1 y2
      unfold spec_DrawSquash.j1
      repeat' first
      | (with_reducible exact ih0 _ _ _ _)
      | (with_reducible exact ih1 _ _ _)
      | (with_reducible exact ih2 _ _ _ _)
      | (with_reducible exact spec_l4Ents.mono _ _ _ _)
      | (with_reducible exact spec_l4Snaps.mono _ _ _)
      | (with_reducible exact spec_l9Rd_num.mono _ _ _ _)
      | (with_reducible exact spec_l9Rd_pick.mono _ _ _ _)
      | (with_reducible exact LeO.refl _)
      | (with_reducible exact LeO.none _)
      | (with_reducible refine LeO.ite ?_ ?_)
      | (with_reducible refine LeO.bind ?_ (fun _ => ?_))
      | exact ih0 _ _ _ _
      | exact ih1 _ _ _
      | exact ih2 _ _ _ _
      | exact spec_l4Ents.mono _ _ _ _
      | exact spec_l4Snaps.mono _ _ _
      | exact spec_l9Rd_num.mono _ _ _ _
      | exact spec_l9Rd_pick.mono _ _ _ _
      | exact LeO.none _
      | refine LeO.ite ?_ ?_
      | refine LeO.bind ?_ (fun _ => ?_)
    · intro y0 y1 y2 y3
      unfold spec_DrawSquash.j2
      repeat' first
      | (with_reducible exact ih0 _ _ _ _)
      | (with_reducible exact ih1 _ _ _)
      | (with_reducible exact ih2 _ _ _ _)
      | (with_reducible exact spec_l4Ents.mono _ _ _ _)
      | (with_reducible exact spec_l4Snaps.mono _ _ _)
      | (with_reducible exact spec_l9Rd_num.mono _ _ _ _)
      | (with_reducible exact spec_l9Rd_pick.mono _ _ _ _)
      | (with_reducible exact LeO.refl _)
      | (with_reducible exact LeO.none _)
      | (with_reducible refine LeO.ite ?_ ?_)
      | (with_reducible refine LeO.bind ?_ (fun _ => ?_))
      | exact ih0 _ _ _ _
      | exact ih1 _ _ _
      | exact ih2 _ _ _ _
      | exact spec_l4Ents.mono _ _ _ _
      | exact spec_l4Snaps.mono _ _ _
      | exact spec_l9Rd_num.mono _ _ _ _
      | exact spec_l9Rd_pick.mono _ _ _ _
      | exact LeO.none _
      | refine LeO.ite ?_ ?_
      | refine LeO.bind ?_ (fun _ => ?_)
theorem spec_DrawSquash.mono : ∀ a0 k, LeO (spec_DrawSquash.f k a0) (spec_DrawSquash.f (k + 1) a0) := by
  intro a0 k
  obtain ⟨ih0, ih1, ih2⟩ := spec_DrawSquash.mono_l k
  unfold spec_DrawSquash.f
  repeat' first
      | (with_reducible exact ih0 _ _ _ _)
      | (with_reducible exact ih1 _ _ _)
      | (with_reducible exact ih2 _ _ _ _)
      | (with_reducible exact spec_l4Ents.mono _ _ _ _)
      | (with_reducible exact spec_l4Snaps.mono _ _ _)
      | (with_reducible exact spec_l9Rd_num.mono _ _ _ _)
      | (with_reducible exact spec_l9Rd_pick.mono _ _ _ _)
      | (with_reducible exact LeO.refl _)
      | (with_reducible exact LeO.none _)
      | (with_reducible refine LeO.ite ?_ ?_)
      | (with_reducible refine LeO.bind ?_ (fun _ => ?_))
      | exact ih0 _ _ _ _
      | exact ih1 _ _ _
      | exact ih2 _ _ _ _
      | exact spec_l4Ents.mono _ _ _ _
      | exact spec_l4Snaps.mono _ _ _
      | exact spec_l9Rd_num.mono _ _ _ _
      | exact spec_l9Rd_pick.mono _ _ _ _
      | exact LeO.none _
      | refine LeO.ite ?_ ?_
      | refine LeO.bind ?_ (fun _ => ?_)
theorem spec_DrawSquash_auHB {q : Prop} (h : q := by (repeat (first | (with_reducible first | exact HB.out | apply below_alloc | apply pw_below_drewN | apply below_drew1 | refine below_set ?_ (IsS93.ge HI408.out)) | exact HB.out))) : q := h
theorem spec_DrawSquash_auHI408 {q : Prop} (h : q := by (repeat (first | (with_reducible first | exact HI408.out | apply IsS93.alloc | apply IsS93.drewN | apply IsS93.drew | apply IsS93.set_1) | exact HI408.out))) : q := h
set_option maxHeartbeats 8000000 in
set_option maxRecDepth 100000 in
theorem spec_DrawSquash.calls (k : Nat) (A0 : Option Addr) (c0 : Nat) (l0 : List Int) (r1 : List (S48)) (r2 : List Int) (r3 : Bool) (w : World) (hr0 : Kd.C (Kd.int .u8) w A0 l0.length l0) (hc0 : l0.length ≤ c0) (h : spec_DrawSquash.f k l0 = some (r1, r2, r3)) :
  Calls Try.prog 29 #[.slice A0 l0.length c0] w fun e w' => ∃ v0_ v1_ : Value, e = .returned (.tuple #[v0_, v1_, .bool r3]) ∧ Kd.R k48 48 w' w.heap.size (fun _ => True) v0_ r1 ∧ Kd.R (Kd.int .i64) 3 w' w.heap.size (fun _ => True) v1_ r2 ∧ Below w.heap.size w w' := by
 have hu48 := Try.underlying48
 have HR0 := Aside0.mk hr0
 have HC0 := Aside0.mk hc0
 clear hr0 hc0
 have HB := Aside0.mk (Below.refl w.heap.size w)
 have H : ((spec_l9Open.f l0).bind fun bt406 => ((spec_l4Ents.f k bt406.1 bt406.2 14).bind fun bt409 => (if (bt409.1.length : Int) > 0 then (if 0 < (bt409.1.length : Int) then (if ((rd_T48 bt409.1 0).f2) = 2 then (spec_DrawSquash.j0 k bt409.1 false bt406.1 bt409.2) else ((spec_l9Rd_pick.f k bt406.1 bt409.2 16).bind fun bt414 => (spec_DrawSquash.j0 k bt409.1 (bt414.1 == 0) bt406.1 bt414.2))) else (none)) else (spec_DrawSquash.j0 k bt409.1 false bt406.1 bt409.2)))) = some (r1, r2, r3) := h
 clear h
 replace H := Option.bind_eq_some_iff.mp H
 obtain ⟨⟨t406, t407⟩, A20, H⟩ := H
 replace H : ((spec_l4Ents.f k t406 t407 14).bind fun bt409 => (if (bt409.1.length : Int) > 0 then (if 0 < (bt409.1.length : Int) then (if ((rd_T48 bt409.1 0).f2) = 2 then (spec_DrawSquash.j0 k bt409.1 false t406 bt409.2) else ((spec_l9Rd_pick.f k t406 bt409.2 16).bind fun bt414 => (spec_DrawSquash.j0 k bt409.1 (bt414.1 == 0) t406 bt414.2))) else (none)) else (spec_DrawSquash.j0 k bt409.1 false t406 bt409.2))) = some (r1, r2, r3) := H
 have A2 := Aside0.mk A20
 clear A20
 replace H := Option.bind_eq_some_iff.mp H
 obtain ⟨⟨t409, t412⟩, A30, H⟩ := H
 replace H : (if (t409.length : Int) > 0 then (if 0 < (t409.length : Int) then (if ((rd_T48 t409 0).f2) = 2 then (spec_DrawSquash.j0 k t409 false t406 t412) else ((spec_l9Rd_pick.f k t406 t412 16).bind fun bt414 => (spec_DrawSquash.j0 k t409 (bt414.1 == 0) t406 bt414.2))) else (none)) else (spec_DrawSquash.j0 k t409 false t406 t412)) = some (r1, r2, r3) := H
 have A3 := Aside0.mk A30
 clear A30
 have HC4 := Aside0.mk H
 clear H
 go_enter Try.func29, Try.ntmps29
 go_upto_region 3 with (first | ((with_reducible refine gate_callee (f := 44) rfl ?_); refine goesL_ (some 8) rfl rfl Try.func44 (by kernel_rfl) rfl #[.slice A0 l0.length c0] rfl (by (try simp only [List.map_toArray, List.map_cons, List.map_nil]); first | done | rfl | (simp only [List.length_drop, List.length_take]; rfl)) ?_; (with_reducible refine (spec_l9Open.calls _ _ l0 t406 t407 w _ ?side1 ?side2 ?side3 A2.out).mono ?_); (case side1 => exact spec_DrawSquash_auHB); (case side2 => exact HR0.out); (case side3 => exact HC0.out); rintro e w5 ⟨g408, rfl, hi, hb, hb2⟩; refine ⟨_, rfl, ?_⟩; replace HB := Aside0.mk (hb); have HI408 := Aside0.mk (hi); (try clear hb); (try clear hb2); (try clear hk); (try clear hi)) | ((with_reducible refine gate_callee (f := 53) rfl ?_); refine goesL_ (some 10) rfl rfl Try.func53 (by kernel_rfl) rfl #[.pointer (some ⟨g408, 0, none⟩), .int .i64 14] rfl (by (try simp only [List.map_toArray, List.map_cons, List.map_nil]); first | done | rfl | (simp only [List.length_drop, List.length_take]; rfl)) ?_; (with_reducible refine (spec_l4Ents.calls k g408 t406 t407 14 t409 t412 w _ ?side1 ?side2 A3.out).mono ?_); (case side1 => exact spec_DrawSquash_auHI408); (case side2 => exact spec_DrawSquash_auHB); rintro e w6 ⟨v410, rfl, ho0, hi, hb, hk⟩; refine ⟨_, rfl, ?_⟩; have HO411 := Aside0.mk (Kd.R_lower ho0 (below_size (spec_DrawSquash_auHB))); replace HB := Aside0.mk (hb); replace HI408 := Aside0.mk (hi); (try clear hb); (try clear hb2); (try clear hk); (try clear hi); (try clear ho0)))
 (try simp only [Act.put, List.setIfInBounds_toArray, List.set_cons_zero, List.set_cons_succ])
 go_cut [25] (fun v25 wc => ∃ (kq : Nat) (x25_3 : Bool) (x409001_3 : Int), v25 = .bool x25_3 ∧ Aside0 (spec_DrawSquash.j0 kq t409 x25_3 t406 x409001_3 = some (r1, r2, r3)) ∧ Aside0 (kq ≤ k) ∧ Aside0 (Kd.R k48 48 wc w.heap.size (fun _ => True) v410 t409) ∧ Aside0 (IsS93 w wc g408 t406 x409001_3) ∧ Aside0 (Below w.heap.size w wc))
 case first =>
  have H := HC4.out
  clear HC4
  by_cases c7 : (t409.length : Int) > 0
  rotate_left
  ·
   rw [if_neg c7] at H
   have c7b0 : decide (0 < (t409.length : Int)) = false := decide_eq_false c7
   have c7b1 : decide (0 < t409.length) = false := decide_eq_false (by omega)
   clear c7
   (first | rw [c7b0] | (simp only [i64_w, i32_w]; rw [c7b0]) | skip)
   have H' := Aside0.mk H
   clear H
   obtain ⟨Ao14, co14, eo14⟩ := Kd.R_slice HO411.out
   subst eo14
   go_wp2
   go_meet
   case rel => exact ⟨_, (false), (t412), (by first | rfl | (simp; done) | (simp [*]; done)), H', ⟨by first | omega | exact Nat.le_refl _⟩, ⟨by (with_reducible repeat (first | apply Kd.R_alloc | apply Kd.R_drewN | apply Kd.R_drew)); exact HO411.out⟩, ⟨spec_DrawSquash_auHI408⟩, ⟨spec_DrawSquash_auHB⟩⟩
  rw [if_pos c7] at H
  have c7b0 : decide (0 < (t409.length : Int)) = true := decide_eq_true c7
  have c7b1 : decide (0 < t409.length) = true := decide_eq_true (by omega)
  clear c7
  (first | rw [c7b0] | (simp only [i64_w, i32_w]; rw [c7b0]) | skip)
  by_cases c8 : 0 < (t409.length : Int)
  rotate_left
  ·
   rw [if_neg c8] at H
   exact absurd H (by simp)
  rw [if_pos c8] at H
  have c8b0 : decide (0 < (t409.length : Int)) = true := decide_eq_true c8
  have c8b1 : decide (0 < t409.length) = true := decide_eq_true (by omega)
  clear c8
  by_cases c9 : ((rd_T48 t409 0).f2) = 2
  ·
   rw [if_pos c9] at H
   have c9b0 : (((rd_T48 t409 0).f2) == 2) = true := beq_iff_eq.mpr c9
   have c9b1 : (((rd_T48 t409 0).f2) != 2) = false := bne_eq_false_iff_eq.mpr c9
   clear c9
   have H' := Aside0.mk H
   clear H
   obtain ⟨Ao10, co10, eo10⟩ := Kd.R_slice HO411.out
   subst eo10
   have p413 : 0 ≤ (0 : Int) := (by omega)
   have q413 : 0 < (t409.length : Int) := of_decide_eq_true (by first | (with_reducible assumption) | assumption)
   obtain ⟨ad413, e413, hx413_0, hx413_1, hx413_2, hx413_3, hx413_4⟩ := at_T48 (Kd.R_reads' HO411.out).2.2 0 p413 q413
   cases e413
   have qi413 : (0 < t409.length) = True := eq_true (by omega)
   (try rw [show ((0 : Int)).toNat = 0 from rfl] at hx413_0)
   (try rw [show 0 * 5 = 0 from rfl] at hx413_0)
   (try rw [Addr.add_zero'] at hx413_0)
   (try rw [show ((0 : Int)).toNat = 0 from rfl] at hx413_1)
   (try rw [show 0 * 5 = 0 from rfl] at hx413_1)
   (try rw [Addr.add_zero'] at hx413_1)
   (try rw [show ((0 : Int)).toNat = 0 from rfl] at hx413_2)
   (try rw [show 0 * 5 = 0 from rfl] at hx413_2)
   (try rw [Addr.add_zero'] at hx413_2)
   (try rw [show ((0 : Int)).toNat = 0 from rfl] at hx413_3)
   (try rw [show 0 * 5 = 0 from rfl] at hx413_3)
   (try rw [Addr.add_zero'] at hx413_3)
   (try rw [show ((0 : Int)).toNat = 0 from rfl] at hx413_4)
   (try rw [show 0 * 5 = 0 from rfl] at hx413_4)
   (try rw [Addr.add_zero'] at hx413_4)
   replace p413 := eq_true p413
   replace q413 := eq_true q413
   go_wp2
   go_meet
   case rel => exact ⟨_, (false), (t412), (by first | rfl | (simp; done) | (simp [*]; done)), H', ⟨by first | omega | exact Nat.le_refl _⟩, ⟨by (with_reducible repeat (first | apply Kd.R_alloc | apply Kd.R_drewN | apply Kd.R_drew)); exact HO411.out⟩, ⟨spec_DrawSquash_auHI408⟩, ⟨spec_DrawSquash_auHB⟩⟩
  rw [if_neg c9] at H
  have c9b0 : (((rd_T48 t409 0).f2) == 2) = false := beq_eq_false_iff_ne.mpr c9
  have c9b1 : (((rd_T48 t409 0).f2) != 2) = true := bne_iff_ne.mpr c9
  replace H := Option.bind_eq_some_iff.mp H
  obtain ⟨⟨t414, t415⟩, A110, H⟩ := H
  replace H : (spec_DrawSquash.j0 k t409 (t414 == 0) t406 t415) = some (r1, r2, r3) := H
  have A11 := Aside0.mk A110
  clear A110
  have H' := Aside0.mk H
  clear H
  obtain ⟨Ao12, co12, eo12⟩ := Kd.R_slice HO411.out
  subst eo12
  have p413 : 0 ≤ (0 : Int) := (by omega)
  have q413 : 0 < (t409.length : Int) := of_decide_eq_true (by first | (with_reducible assumption) | assumption)
  obtain ⟨ad413, e413, hx413_0, hx413_1, hx413_2, hx413_3, hx413_4⟩ := at_T48 (Kd.R_reads' HO411.out).2.2 0 p413 q413
  cases e413
  have qi413 : (0 < t409.length) = True := eq_true (by omega)
  (try rw [show ((0 : Int)).toNat = 0 from rfl] at hx413_0)
  (try rw [show 0 * 5 = 0 from rfl] at hx413_0)
  (try rw [Addr.add_zero'] at hx413_0)
  (try rw [show ((0 : Int)).toNat = 0 from rfl] at hx413_1)
  (try rw [show 0 * 5 = 0 from rfl] at hx413_1)
  (try rw [Addr.add_zero'] at hx413_1)
  (try rw [show ((0 : Int)).toNat = 0 from rfl] at hx413_2)
  (try rw [show 0 * 5 = 0 from rfl] at hx413_2)
  (try rw [Addr.add_zero'] at hx413_2)
  (try rw [show ((0 : Int)).toNat = 0 from rfl] at hx413_3)
  (try rw [show 0 * 5 = 0 from rfl] at hx413_3)
  (try rw [Addr.add_zero'] at hx413_3)
  (try rw [show ((0 : Int)).toNat = 0 from rfl] at hx413_4)
  (try rw [show 0 * 5 = 0 from rfl] at hx413_4)
  (try rw [Addr.add_zero'] at hx413_4)
  replace p413 := eq_true p413
  replace q413 := eq_true q413
  go_wp2_with (first | (go_at_call 46; (with_reducible refine (spec_l9Rd_pick.calls k g408 t406 t412 16 t414 t415 w _ ?side1 ?side2 A11.out).mono ?_); (case side1 => exact spec_DrawSquash_auHI408); (case side2 => exact spec_DrawSquash_auHB); rintro e w13 ⟨rfl, hi, hb, hk⟩; replace HO411 := Aside0.mk (Kd.R_mono (Kd.R_keep (IsS93.apart (show IsS93 w _ g408 t406 t412 from spec_DrawSquash_auHI408) (lo_ HO411) (by decide)) hk (fun _ h => h.2)) (fun _ h => h.1)); replace HB := Aside0.mk (hb); replace HI408 := Aside0.mk (hi); (try clear hb); (try clear hb2); (try clear hk); (try clear hi)))
  go_meet
  case rel => exact ⟨_, ((t414 == 0)), (t415), (by first | rfl | (simp; done) | (simp [*]; done)), H', ⟨by first | omega | exact Nat.le_refl _⟩, ⟨by (with_reducible repeat (first | apply Kd.R_alloc | apply Kd.R_drewN | apply Kd.R_drew)); exact HO411.out⟩, ⟨spec_DrawSquash_auHI408⟩, ⟨spec_DrawSquash_auHB⟩⟩
 case rest =>
  clear HC4
  try clear c2
  try clear p2
  try clear c4
  try clear p4
  try clear q4
  try clear hx4
  try clear qi4
  try clear c5
  try clear c7
  try clear c7b0
  try clear c7b1
  try clear c8
  try clear c8b0
  try clear c8b1
  try clear c9
  try clear c9b0
  try clear c9b1
  try clear hx413_0
  try clear hx413_1
  try clear hx413_2
  try clear hx413_3
  try clear hx413_4
  try clear p413
  try clear q413
  obtain ⟨kq, x25_3, x409001_3, rfl, HA, HJ3, HO_6, HI408, HB⟩ := hcut
  cases kq with
  | zero => exact absurd HA.out (by simp [spec_DrawSquash.j0])
  | succ kj3 =>
   have H := HA.out
   clear HA
   simp only [spec_DrawSquash.j0] at H
   have HC15 := Aside0.mk H
   clear H
   go_upto_if 25 with (fail)
   go_cut [] (fun wc => ∃ (kq : Nat) (x6_14 : List (S48)) (x409001_14 : Int), Aside0 (spec_DrawSquash.j1 kq x6_14 t406 x409001_14 = some (r1, r2, r3)) ∧ Aside0 (kq ≤ kj3) ∧ Aside0 (Kd.R k48 48 wc w.heap.size (fun _ => True) v410 x6_14) ∧ Aside0 (IsS93 w wc g408 t406 x409001_14) ∧ Aside0 (Below w.heap.size w wc))
   case first =>
    have H := HC15.out
    clear HC15
    by_cases c16 : x25_3 = true
    rotate_left
    ·
     replace c16 := Bool.eq_false_iff.mpr c16
     subst c16
     have H1 : (spec_DrawSquash.j1 kj3 t409 t406 x409001_3) = some (r1, r2, r3) := by rw [if_neg (show ¬ (false = true) by decide)] at H; exact H
     clear H
     have H := H1
     clear H1
     have H' := Aside0.mk H
     clear H
     go_wp2
     go_meet
     case rel => exact ⟨_, (t409), (x409001_3), H', ⟨by have := HJ3.out; first | omega | exact Nat.le_refl _⟩, ⟨by (with_reducible repeat (first | apply Kd.R_alloc | apply Kd.R_drewN | apply Kd.R_drew)); exact HO_6.out⟩, ⟨spec_DrawSquash_auHI408⟩, ⟨spec_DrawSquash_auHB⟩⟩
    subst c16
    have H1 : ((spec_l9Rd_num.f kj3 t406 x409001_3 (([1000000, (-1000000)] : List Int))).bind fun bt419 => (if 0 < (t409.length : Int) then (spec_DrawSquash.j1 kj3 (t409.set (0 : Int).toNat (⟨(rd_T48 t409 0).f0, (rd_T48 t409 0).f1, (rd_T48 t409 0).f2, (rd_T48 t409 0).f3, bt419.1⟩ : S48)) t406 bt419.2) else (none))) = some (r1, r2, r3) := by rw [if_pos rfl] at H; exact H
    clear H
    have H := H1
    clear H1
    obtain ⟨y416, hy416⟩ : ∃ y_ : List Int, y_ = (([1000000, (-1000000)] : List Int)) := ⟨_, rfl⟩
    replace H : ((spec_l9Rd_num.f kj3 t406 x409001_3 y416).bind fun bt419 => (if 0 < (t409.length : Int) then (spec_DrawSquash.j1 kj3 (t409.set (0 : Int).toNat (⟨(rd_T48 t409 0).f0, (rd_T48 t409 0).f1, (rd_T48 t409 0).f2, (rd_T48 t409 0).f3, bt419.1⟩ : S48)) t406 bt419.2) else (none))) = some (r1, r2, r3) := by first | (rw [hy416]; with_reducible exact H) | (have H2_ := (Option.bind_some _ _).symm.trans H; rw [hy416]; with_reducible exact H2_) | (have H2_ := (Option.bind_some _ _).symm.trans H; with_reducible exact H2_) | with_reducible exact H | (rw [hy416]; exact H) | exact H
    have Ny416 := Aside0.mk hy416
    clear hy416
    replace H := Option.bind_eq_some_iff.mp H
    obtain ⟨⟨t419, t420⟩, A170, H⟩ := H
    replace H : (if 0 < (t409.length : Int) then (spec_DrawSquash.j1 kj3 (t409.set (0 : Int).toNat (⟨(rd_T48 t409 0).f0, (rd_T48 t409 0).f1, (rd_T48 t409 0).f2, (rd_T48 t409 0).f3, t419⟩ : S48)) t406 t420) else (none)) = some (r1, r2, r3) := H
    have A17 := Aside0.mk A170
    clear A170
    by_cases c18 : 0 < (t409.length : Int)
    rotate_left
    ·
     rw [if_neg c18] at H
     exact absurd H (by simp)
    rw [if_pos c18] at H
    have c18b0 : decide (0 < (t409.length : Int)) = true := decide_eq_true c18
    have c18b1 : decide (0 < t409.length) = true := decide_eq_true (by omega)
    clear c18
    (first | rw [c18b0] | (simp only [i64_w, i32_w]; rw [c18b0]) | skip)
    obtain ⟨y421, hy421⟩ : ∃ y_ : List (S48), y_ = (t409.set (0 : Int).toNat (⟨(rd_T48 t409 0).f0, (rd_T48 t409 0).f1, (rd_T48 t409 0).f2, (rd_T48 t409 0).f3, t419⟩ : S48)) := ⟨_, rfl⟩
    replace H : (spec_DrawSquash.j1 kj3 y421 t406 t420) = some (r1, r2, r3) := by first | (rw [hy421]; with_reducible exact H) | (have H2_ := (Option.bind_some _ _).symm.trans H; rw [hy421]; with_reducible exact H2_) | (have H2_ := (Option.bind_some _ _).symm.trans H; with_reducible exact H2_) | with_reducible exact H | (rw [hy421]; exact H) | exact H
    have Ny421 := Aside0.mk hy421
    clear hy421
    have H' := Aside0.mk H
    clear H
    go_wp2_with (first | ((with_reducible refine gate_dst (N := 28) rfl ?_); refine Kd.R_lit (Kd.int .i64) _ 3 ?hg (N := 28) ?hd (xs := ([1000000, (-1000000)] : List Int)) (inner := [.int .i64 1000000, .int .i64 (-1000000)]) (ok := fun _ => True) (okp := fun _ => True) ?hr ?hp (fun _ hk => hk) trivial (Below.refl _ _) (Nat.le_refl _) (by simp) ?_; (case hd => rfl); (case hg => rfl); (case hr => first | (go_simp; done) | (go_simp; rfl)); (case hp => exact (Reps.one (show Kd.M (Kd.int .i64) _ _ _ 1000000 [.int .i64 1000000] from rfl) (Reps.one (show Kd.M (Kd.int .i64) _ _ _ (-1000000) [.int .i64 (-1000000)] from rfl) (Reps.none _ _)))); intro v417 w20 ho21 hb hg_ hnew_; clear hg_ hnew_; (first | rw [← Ny416.out] at ho21 | (simp only [Int.reduceToNat] at ho21; rw [← Ny416.out] at ho21)); replace HO_6 := Aside0.mk (Kd.R_below (lo_ HO_6) hb); have HO418 := Aside0.mk (Kd.R_lower ho21 (below_size (spec_DrawSquash_auHB))); replace HI408 := Aside0.mk (IsS93.below (spec_DrawSquash_auHI408) hb); replace HB := Aside0.mk (below_step (spec_DrawSquash_auHB) hb); clear hb ho21; obtain ⟨Ao22, co22, eo22⟩ := Kd.R_slice HO418.out; subst eo22) | ((with_reducible refine gate_callee (f := 54) rfl ?_); refine goesL_ (some 29) rfl rfl Try.func54 (by kernel_rfl) rfl #[.pointer (some ⟨g408, 0, none⟩), .slice Ao22 y416.length co22] rfl (by (try simp only [List.map_toArray, List.map_cons, List.map_nil]); first | done | rfl | (simp only [List.length_drop, List.length_take]; rfl)) ?_; (with_reducible refine (spec_l9Rd_num.calls kj3 g408 t406 x409001_3 _ _ y416 t419 t420 w _ ?side1 ?side2 ?side3 ?side4 ?side5 A17.out).mono ?_); (case side1 => exact spec_DrawSquash_auHI408); (case side2 => exact spec_DrawSquash_auHB); (case side3 => exact co_ (Kd.R_reads' HO418.out).2.2); (case side4 => exact (Kd.R_reads' HO418.out).2.1); (case side5 => exact far_slice (IsS93.own_ne HI408.out HO418.out (by decide))); rintro e w23 ⟨rfl, hi, hb, hk⟩; refine ⟨_, rfl, ?_⟩; replace HO_6 := Aside0.mk (Kd.R_mono (Kd.R_keep (IsS93.apart (show IsS93 w _ g408 t406 x409001_3 from spec_DrawSquash_auHI408) (lo_ HO_6) (by decide)) hk (fun _ h => h.2)) (fun _ h => h.1)); replace HO418 := Aside0.mk (Kd.R_mono (Kd.R_keep (IsS93.apart (show IsS93 w _ g408 t406 x409001_3 from spec_DrawSquash_auHI408) (lo_ HO418) (by decide)) hk (fun _ h => h.2)) (fun _ h => h.1)); replace HB := Aside0.mk (hb); replace HI408 := Aside0.mk (hi); (try clear hb); (try clear hb2); (try clear hk); (try clear hi); have p19 : 0 ≤ (0 : Int) := (by omega); have q19 : (0 : Int) < ((t409.length : Int) : Int) := of_decide_eq_true (by first | (with_reducible assumption) | assumption); have qi19 : (0 < t409.length) = True := eq_true (by omega); obtain ⟨go19, co19, eo19, gb19, gl19, cl19, HG19⟩ := Kd.R_form HO_6.out (by omega); (first | cases eo19 | (injection eo19 with ea_ en_ ec_; (first | subst ea_ | (injection ea_ with ea_; subst ea_)); subst ec_; clear en_)); have GB19 := Aside0.mk gb19; have GG19 := Aside0.mk HG19; clear gb19 gl19 HG19; obtain ⟨ce19, hcl19, hM19, hcc19, hfr19⟩ := Kd.R_elem HO_6.out z48 (0 : Int) p19 q19; obtain rfl := k48_openM hM19; have hx19_0 : w23.cell? ⟨go19, (0 : Int).toNat * 5, none⟩ = some (.string ((rd_T48 t409 0).f0)) := hcc19 0 _ rfl; have hx19_1 : w23.cell? ⟨go19, (0 : Int).toNat * 5 + 1, none⟩ = some (.int .i64 ((rd_T48 t409 0).f1)) := hcc19 1 _ rfl; have hx19_2 : w23.cell? ⟨go19, (0 : Int).toNat * 5 + 2, none⟩ = some (.int .i64 ((rd_T48 t409 0).f2)) := hcc19 2 _ rfl; have hx19_3 : w23.cell? ⟨go19, (0 : Int).toNat * 5 + 3, none⟩ = some (.string ((rd_T48 t409 0).f3)) := hcc19 3 _ rfl; have hx19_4 : w23.cell? ⟨go19, (0 : Int).toNat * 5 + 4, none⟩ = some (.int .i64 ((rd_T48 t409 0).f4)) := hcc19 4 _ rfl; have hf19_0 : w23.frozen? ⟨go19, (0 : Int).toNat * 5, none⟩ = false := hfr19 0; have hf19_1 : w23.frozen? ⟨go19, (0 : Int).toNat * 5 + 1, none⟩ = false := hfr19 1; have hf19_2 : w23.frozen? ⟨go19, (0 : Int).toNat * 5 + 2, none⟩ = false := hfr19 2; have hf19_3 : w23.frozen? ⟨go19, (0 : Int).toNat * 5 + 3, none⟩ = false := hfr19 3; have hf19_4 : w23.frozen? ⟨go19, (0 : Int).toNat * 5 + 4, none⟩ = false := hfr19 4; clear hcl19 hcc19 hfr19 hM19; (try rw [show ((0 : Int)).toNat = 0 from rfl] at hx19_0); (try simp only [Nat.reduceMul, Nat.zero_mul, Nat.zero_add, Nat.reduceAdd] at hx19_0); (try rw [show ((0 : Int)).toNat = 0 from rfl] at hf19_0); (try simp only [Nat.reduceMul, Nat.zero_mul, Nat.zero_add, Nat.reduceAdd] at hf19_0); (try rw [show ((0 : Int)).toNat = 0 from rfl] at hx19_1); (try simp only [Nat.reduceMul, Nat.zero_mul, Nat.zero_add, Nat.reduceAdd] at hx19_1); (try rw [show ((0 : Int)).toNat = 0 from rfl] at hf19_1); (try simp only [Nat.reduceMul, Nat.zero_mul, Nat.zero_add, Nat.reduceAdd] at hf19_1); (try rw [show ((0 : Int)).toNat = 0 from rfl] at hx19_2); (try simp only [Nat.reduceMul, Nat.zero_mul, Nat.zero_add, Nat.reduceAdd] at hx19_2); (try rw [show ((0 : Int)).toNat = 0 from rfl] at hf19_2); (try simp only [Nat.reduceMul, Nat.zero_mul, Nat.zero_add, Nat.reduceAdd] at hf19_2); (try rw [show ((0 : Int)).toNat = 0 from rfl] at hx19_3); (try simp only [Nat.reduceMul, Nat.zero_mul, Nat.zero_add, Nat.reduceAdd] at hx19_3); (try rw [show ((0 : Int)).toNat = 0 from rfl] at hf19_3); (try simp only [Nat.reduceMul, Nat.zero_mul, Nat.zero_add, Nat.reduceAdd] at hf19_3); (try rw [show ((0 : Int)).toNat = 0 from rfl] at hx19_4); (try simp only [Nat.reduceMul, Nat.zero_mul, Nat.zero_add, Nat.reduceAdd] at hx19_4); (try rw [show ((0 : Int)).toNat = 0 from rfl] at hf19_4); (try simp only [Nat.reduceMul, Nat.zero_mul, Nat.zero_add, Nat.reduceAdd] at hf19_4); replace p19 := eq_true p19; replace q19 := eq_true q19; have HX24 := Aside0.mk (show Kd.R k48 48 w23 w.heap.size (fun _ => True) (.slice (some ⟨go19, 0, none⟩) t409.length co19) t409 from (lo_ HO_6)); obtain ⟨ce24, hcl24, hM24, hcc24, hfr24⟩ := Kd.R_elem HX24.out z48 (0 : Int) (by omega) (by have h_ : (0 : Int) < ((t409.length : Int) : Int) := of_decide_eq_true (by first | (with_reducible assumption) | assumption); first | exact h_ | (have e_ := (Kd.R_reads' HO_6.out).1; omega) | simpa using h_); obtain rfl := k48_openM hM24; have HP24 := Kd.R_seg HX24.out (0 : Int) (by omega) (by have h_ : (0 : Int) < ((t409.length : Int) : Int) := of_decide_eq_true (by first | (with_reducible assumption) | assumption); first | exact h_ | (have e_ := (Kd.R_reads' HO_6.out).1; omega) | simpa using h_) (seg := [.int .i64 t419]) (j := 4) hcl24 hcc24 (show 5 ≤ 5 from by decide) (x' := (⟨(rd_T48 t409 0).f0, (rd_T48 t409 0).f1, (rd_T48 t409 0).f2, (rd_T48 t409 0).f3, t419⟩ : S48)) (k48_mkM _ _ _ (⟨(rd_T48 t409 0).f0, (rd_T48 t409 0).f1, (rd_T48 t409 0).f2, (rd_T48 t409 0).f3, t419⟩ : S48) ) (fun _ hk => hk); have hx24_4 := hcc24 4 _ rfl; (try simp only [show (k48).sz = 5 from rfl, Nat.mul_one, Nat.add_zero] at hx24_4); (try rw [show ((0 : Int)).toNat = 0 from rfl] at hx24_4); (try simp only [Nat.reduceMul, Nat.zero_mul, Nat.zero_add, Nat.reduceAdd] at hx24_4); have hf24_4 := hfr24 4; (try simp only [show (k48).sz = 5 from rfl, Nat.mul_one, Nat.add_zero] at hf24_4); (try rw [show ((0 : Int)).toNat = 0 from rfl] at hf24_4); (try simp only [Nat.reduceMul, Nat.zero_mul, Nat.zero_add, Nat.reduceAdd] at hf24_4); clear hcl24 hcc24 hfr24 hM24) | ((with_reducible refine gate_store (t := 3) (p := 31) rfl ?_); refine store_event (t := 3) (p := 31) (v := ?vo_w25) (w1 := (w23.setCell ⟨go19, 4, none⟩ (.int .i64 t419))) ?hg ?ho ?hn ?hr ?_; (case ho => rfl); (case hg => rfl); (case hn => rfl); (case hr => first | (go_simp; done) | (go_simp; rfl)); intro w25 hw; have hg : w23.grownBy w25 (some go19) := (by rw [hw]; exact HP24.2); have hp_ : Kd.R k48 48 w25 w.heap.size (fun _ => True) (.slice (some ⟨go19, 0, none⟩) t409.length co19) y421 := (by rw [hw, Ny421.out]; exact HP24.1); clear HP24; replace HI408 := Aside0.mk (IsS93.grown (spec_DrawSquash_auHI408) hg (IsS93.own_ne HI408.out HO_6.out (by decide))); replace HO418 := Aside0.mk (Kd.R_over' (v := (.slice (some ⟨go19, 0, none⟩) t409.length co19)) (lo_ HO418) (Kd.R_typed HO_6.out) (by decide) hg); replace HO_6 := Aside0.mk (hp_); replace HB := Aside0.mk ((by rw [hw]; exact below_set (HB.out) GB19.out : Below w.heap.size w w25)); clear hg hw hp_))
    go_meet
    case rel => exact ⟨_, (y421), (t420), H', ⟨by have := HJ3.out; first | omega | exact Nat.le_refl _⟩, ⟨by (with_reducible repeat (first | apply Kd.R_alloc | apply Kd.R_drewN | apply Kd.R_drew)); exact HO_6.out⟩, ⟨spec_DrawSquash_auHI408⟩, ⟨spec_DrawSquash_auHB⟩⟩
   case rest =>
    clear HC15
    try clear c1
    try clear p1
    try clear q1
    try clear hx1
    try clear qi1
    try clear hf1
    try clear c2
    try clear p2
    try clear hx2
    try clear hf2
    try clear c4
    try clear p4
    try clear q4
    try clear hx4
    try clear qi4
    try clear c5
    try clear c7
    try clear c7b0
    try clear c7b1
    try clear c8
    try clear c8b0
    try clear c8b1
    try clear c9
    try clear c9b0
    try clear c9b1
    try clear c16
    try clear c18
    try clear c18b0
    try clear c18b1
    try clear c19
    try clear p19
    try clear q19
    try clear hx19
    try clear qi19
    try clear hf19
    try clear c24
    try clear hx24
    try clear hf24
    try clear hx19_0
    try clear hx19_1
    try clear hx19_2
    try clear hx19_3
    try clear hx19_4
    try clear hx24_4
    try clear hx413_0
    try clear hx413_1
    try clear hx413_2
    try clear hx413_3
    try clear hx413_4
    try clear p19
    try clear p2
    try clear p4
    try clear p413
    try clear q19
    try clear q4
    try clear q413
    obtain ⟨kq, x6_14, x409001_14, HA, HJ14, HO_6, HI408, HB⟩ := hcut
    cases kq with
    | zero => exact absurd HA.out (by simp [spec_DrawSquash.j1])
    | succ kj14 =>
     have H := HA.out
     clear HA
     simp only [spec_DrawSquash.j1] at H
     have HC26 := Aside0.mk H
     clear H
     go_upto_region 5 with (fail)
     go_cut [39] (fun v39 wc => ∃ (kq : Nat) (x39_25 : Bool) (x409001_25 : Int), v39 = .bool x39_25 ∧ Aside0 (spec_DrawSquash.j2 kq x6_14 x39_25 t406 x409001_25 = some (r1, r2, r3)) ∧ Aside0 (kq ≤ kj14) ∧ Aside0 (Kd.R k48 48 wc w.heap.size (fun _ => True) v410 x6_14) ∧ Aside0 (IsS93 w wc g408 t406 x409001_25) ∧ Aside0 (Below w.heap.size w wc))
     case first =>
      have H := HC26.out
      clear HC26
      by_cases c27 : (x6_14.length : Int) > 1
      rotate_left
      ·
       rw [if_neg c27] at H
       have c27b0 : decide (1 < (x6_14.length : Int)) = false := decide_eq_false c27
       have c27b1 : decide (1 < x6_14.length) = false := decide_eq_false (by omega)
       clear c27
       (first | rw [c27b0] | (simp only [i64_w, i32_w]; rw [c27b0]) | skip)
       have H' := Aside0.mk H
       clear H
       obtain ⟨Ao31, co31, eo31⟩ := Kd.R_slice HO_6.out
       subst eo31
       go_wp2
       go_meet
       case rel => exact ⟨_, (false), (x409001_14), (by first | rfl | (simp; done) | (simp [*]; done)), H', ⟨by have := HJ3.out; have := HJ14.out; first | omega | exact Nat.le_refl _⟩, ⟨by (with_reducible repeat (first | apply Kd.R_alloc | apply Kd.R_drewN | apply Kd.R_drew)); exact HO_6.out⟩, ⟨spec_DrawSquash_auHI408⟩, ⟨spec_DrawSquash_auHB⟩⟩
      rw [if_pos c27] at H
      have c27b0 : decide (1 < (x6_14.length : Int)) = true := decide_eq_true c27
      have c27b1 : decide (1 < x6_14.length) = true := decide_eq_true (by omega)
      clear c27
      (first | rw [c27b0] | (simp only [i64_w, i32_w]; rw [c27b0]) | skip)
      replace H := Option.bind_eq_some_iff.mp H
      obtain ⟨⟨t422, t423⟩, A280, H⟩ := H
      replace H : (spec_DrawSquash.j2 kj14 x6_14 (t422 == 0) t406 t423) = some (r1, r2, r3) := H
      have A28 := Aside0.mk A280
      clear A280
      have H' := Aside0.mk H
      clear H
      obtain ⟨Ao29, co29, eo29⟩ := Kd.R_slice HO_6.out
      subst eo29
      go_wp2_with (first | (go_at_call 46; (with_reducible refine (spec_l9Rd_pick.calls kj14 g408 t406 x409001_14 24 t422 t423 w _ ?side1 ?side2 A28.out).mono ?_); (case side1 => exact spec_DrawSquash_auHI408); (case side2 => exact spec_DrawSquash_auHB); rintro e w30 ⟨rfl, hi, hb, hk⟩; replace HO_6 := Aside0.mk (Kd.R_mono (Kd.R_keep (IsS93.apart (show IsS93 w _ g408 t406 x409001_14 from spec_DrawSquash_auHI408) (lo_ HO_6) (by decide)) hk (fun _ h => h.2)) (fun _ h => h.1)); replace HB := Aside0.mk (hb); replace HI408 := Aside0.mk (hi); (try clear hb); (try clear hb2); (try clear hk); (try clear hi)))
      go_meet
      case rel => exact ⟨_, ((t422 == 0)), (t423), (by first | rfl | (simp; done) | (simp [*]; done)), H', ⟨by have := HJ3.out; have := HJ14.out; first | omega | exact Nat.le_refl _⟩, ⟨by (with_reducible repeat (first | apply Kd.R_alloc | apply Kd.R_drewN | apply Kd.R_drew)); exact HO_6.out⟩, ⟨spec_DrawSquash_auHI408⟩, ⟨spec_DrawSquash_auHB⟩⟩
     case rest =>
      clear HC26
      try clear c1
      try clear p1
      try clear q1
      try clear hx1
      try clear qi1
      try clear hf1
      try clear c2
      try clear p2
      try clear hx2
      try clear hf2
      try clear c4
      try clear p4
      try clear q4
      try clear hx4
      try clear qi4
      try clear c5
      try clear c7
      try clear c7b0
      try clear c7b1
      try clear c8
      try clear c8b0
      try clear c8b1
      try clear c9
      try clear c9b0
      try clear c9b1
      try clear c16
      try clear c18
      try clear c18b0
      try clear c18b1
      try clear c19
      try clear p19
      try clear q19
      try clear hx19
      try clear qi19
      try clear hf19
      try clear c24
      try clear hx24
      try clear hf24
      try clear c27
      try clear c27b0
      try clear c27b1
      try clear c29
      try clear hx19_0
      try clear hx19_1
      try clear hx19_2
      try clear hx19_3
      try clear hx19_4
      try clear hx24_4
      try clear hx413_0
      try clear hx413_1
      try clear hx413_2
      try clear hx413_3
      try clear hx413_4
      try clear p1
      try clear p19
      try clear p2
      try clear p4
      try clear p413
      try clear q1
      try clear q19
      try clear q4
      try clear q413
      obtain ⟨kq, x39_25, x409001_25, rfl, HA, HJ25, HO_6, HI408, HB⟩ := hcut
      cases kq with
      | zero => exact absurd HA.out (by simp [spec_DrawSquash.j2])
      | succ kj25 =>
       have H := HA.out
       clear HA
       simp only [spec_DrawSquash.j2] at H
       by_cases c32 : x39_25 = true
       rotate_left
       ·
        replace c32 := Bool.eq_false_iff.mpr c32
        subst c32
        have H1 : ((spec_l4Snaps.f kj25 t406 x409001_25).bind fun bt434 => ((spec_l9Rd_pick.f kj25 t406 bt434.2 2).bind fun bt438 => (some (x6_14, bt434.1, (bt438.1 == 0))))) = some (r1, r2, r3) := by rw [if_neg (show ¬ (false = true) by decide)] at H; exact H
        clear H
        have H := H1
        clear H1
        replace H := Option.bind_eq_some_iff.mp H
        obtain ⟨⟨t434, t437⟩, A410, H⟩ := H
        replace H : ((spec_l9Rd_pick.f kj25 t406 t437 2).bind fun bt438 => (some (x6_14, t434, (bt438.1 == 0)))) = some (r1, r2, r3) := H
        have A41 := Aside0.mk A410
        clear A410
        replace H := Option.bind_eq_some_iff.mp H
        obtain ⟨⟨t438, t439⟩, A420, H⟩ := H
        replace H : (some (x6_14, t434, (t438 == 0))) = some (r1, r2, r3) := H
        have A42 := Aside0.mk A420
        clear A420
        simp only [Option.some.injEq, Prod.mk.injEq] at H
        obtain ⟨rfl, rfl, rfl⟩ := H
        go_wp2_with (first | ((with_reducible refine gate_callee (f := 55) rfl ?_); refine goesL_ (some 48) rfl rfl Try.func55 (by kernel_rfl) rfl #[.pointer (some ⟨g408, 0, none⟩)] rfl (by (try simp only [List.map_toArray, List.map_cons, List.map_nil]); first | done | rfl | (simp only [List.length_drop, List.length_take]; rfl)) ?_; (with_reducible refine (spec_l4Snaps.calls kj25 g408 t406 x409001_25 t434 t437 w _ ?side1 ?side2 A41.out).mono ?_); (case side1 => exact spec_DrawSquash_auHI408); (case side2 => exact spec_DrawSquash_auHB); rintro e w43 ⟨v435, rfl, ho0, hi, hb, hk⟩; refine ⟨_, rfl, ?_⟩; replace HO_6 := Aside0.mk (Kd.R_mono (Kd.R_keep (IsS93.apart (show IsS93 w _ g408 t406 x409001_25 from spec_DrawSquash_auHI408) (lo_ HO_6) (by decide)) hk (fun _ h => h.2)) (fun _ h => h.1)); have HO436 := Aside0.mk (Kd.R_lower ho0 (below_size (spec_DrawSquash_auHB))); replace HB := Aside0.mk (hb); replace HI408 := Aside0.mk (hi); (try clear hb); (try clear hb2); (try clear hk); (try clear hi); (try clear ho0)) | ((with_reducible refine gate_callee (f := 46) rfl ?_); refine goesL_ (some 50) rfl rfl Try.func46 (by kernel_rfl) rfl #[.pointer (some ⟨g408, 0, none⟩), .int .i64 2] rfl (by (try simp only [List.map_toArray, List.map_cons, List.map_nil]); first | done | rfl | (simp only [List.length_drop, List.length_take]; rfl)) ?_; (with_reducible refine (spec_l9Rd_pick.calls kj25 g408 t406 t437 2 t438 t439 w _ ?side1 ?side2 A42.out).mono ?_); (case side1 => exact spec_DrawSquash_auHI408); (case side2 => exact spec_DrawSquash_auHB); rintro e w44 ⟨rfl, hi, hb, hk⟩; refine ⟨_, rfl, ?_⟩; replace HO_6 := Aside0.mk (Kd.R_mono (Kd.R_keep (IsS93.apart (show IsS93 w _ g408 t406 t437 from spec_DrawSquash_auHI408) (lo_ HO_6) (by decide)) hk (fun _ h => h.2)) (fun _ h => h.1)); replace HO436 := Aside0.mk (Kd.R_mono (Kd.R_keep (IsS93.apart (show IsS93 w _ g408 t406 t437 from spec_DrawSquash_auHI408) (lo_ HO436) (by decide)) hk (fun _ h => h.2)) (fun _ h => h.1)); replace HB := Aside0.mk (hb); replace HI408 := Aside0.mk (hi); (try clear hb); (try clear hb2); (try clear hk); (try clear hi)))
        go_ret3
        exact ⟨_, _, by first | rfl | (simp [errW_none, errW_some] <;> rfl) | (simp [*, errW_none, errW_some] <;> rfl), by (with_reducible repeat (first | apply Kd.R_alloc | apply Kd.R_drewN | apply Kd.R_drew)); exact HO_6.out, by (with_reducible repeat (first | apply Kd.R_alloc | apply Kd.R_drewN | apply Kd.R_drew)); exact HO436.out, spec_DrawSquash_auHB⟩
       subst c32
       have H1 : (if 0 < (x6_14.length : Int) then (if x6_14.length < 2513169434916 then ((spec_l4Snaps.f kj25 t406 x409001_25).bind fun bt428 => ((spec_l9Rd_pick.f kj25 t406 bt428.2 2).bind fun bt432 => (some ((x6_14 ++ [(⟨(rd_T48 x6_14 0).f0, (rd_T48 x6_14 0).f1, (rd_T48 x6_14 0).f2, (rd_T48 x6_14 0).f3, (rd_T48 x6_14 0).f4⟩ : S48)]), bt428.1, (bt432.1 == 0))))) else (none)) else (none)) = some (r1, r2, r3) := by rw [if_pos rfl] at H; exact H
       clear H
       have H := H1
       clear H1
       by_cases c33 : 0 < (x6_14.length : Int)
       rotate_left
       ·
        rw [if_neg c33] at H
        exact absurd H (by simp)
       rw [if_pos c33] at H
       have c33b0 : decide (0 < (x6_14.length : Int)) = true := decide_eq_true c33
       have c33b1 : decide (0 < x6_14.length) = true := decide_eq_true (by omega)
       clear c33
       by_cases c34 : x6_14.length < 2513169434916
       rotate_left
       ·
        rw [if_neg c34] at H
        exact absurd H (by simp)
       rw [if_pos c34] at H
       have LMc34 := Aside0.mk c34
       clear c34
       obtain ⟨y425, hy425⟩ : ∃ y_ : List (S48), y_ = (x6_14 ++ [(⟨(rd_T48 x6_14 0).f0, (rd_T48 x6_14 0).f1, (rd_T48 x6_14 0).f2, (rd_T48 x6_14 0).f3, (rd_T48 x6_14 0).f4⟩ : S48)]) := ⟨_, rfl⟩
       replace H : ((spec_l4Snaps.f kj25 t406 x409001_25).bind fun bt428 => ((spec_l9Rd_pick.f kj25 t406 bt428.2 2).bind fun bt432 => (some (y425, bt428.1, (bt432.1 == 0))))) = some (r1, r2, r3) := by first | (rw [hy425]; with_reducible exact H) | (have H2_ := (Option.bind_some _ _).symm.trans H; rw [hy425]; with_reducible exact H2_) | (have H2_ := (Option.bind_some _ _).symm.trans H; with_reducible exact H2_) | with_reducible exact H | (rw [hy425]; exact H) | exact H
       have Ny425 := Aside0.mk hy425
       clear hy425
       replace H := Option.bind_eq_some_iff.mp H
       obtain ⟨⟨t428, t431⟩, A350, H⟩ := H
       replace H : ((spec_l9Rd_pick.f kj25 t406 t431 2).bind fun bt432 => (some (y425, t428, (bt432.1 == 0)))) = some (r1, r2, r3) := H
       have A35 := Aside0.mk A350
       clear A350
       replace H := Option.bind_eq_some_iff.mp H
       obtain ⟨⟨t432, t433⟩, A360, H⟩ := H
       replace H : (some (y425, t428, (t432 == 0))) = some (r1, r2, r3) := H
       have A36 := Aside0.mk A360
       clear A360
       simp only [Option.some.injEq, Prod.mk.injEq] at H
       obtain ⟨rfl, rfl, rfl⟩ := H
       obtain ⟨Ao37, co37, eo37⟩ := Kd.R_slice HO_6.out
       subst eo37
       have p424 : 0 ≤ (0 : Int) := (by omega)
       have q424 : 0 < (x6_14.length : Int) := of_decide_eq_true (by first | (with_reducible assumption) | assumption)
       obtain ⟨ad424, e424, hx424_0, hx424_1, hx424_2, hx424_3, hx424_4⟩ := at_T48 (Kd.R_reads' HO_6.out).2.2 0 p424 q424
       cases e424
       have qi424 : (0 < x6_14.length) = True := eq_true (by omega)
       (try rw [show ((0 : Int)).toNat = 0 from rfl] at hx424_0)
       (try rw [show 0 * 5 = 0 from rfl] at hx424_0)
       (try rw [Addr.add_zero'] at hx424_0)
       (try rw [show ((0 : Int)).toNat = 0 from rfl] at hx424_1)
       (try rw [show 0 * 5 = 0 from rfl] at hx424_1)
       (try rw [Addr.add_zero'] at hx424_1)
       (try rw [show ((0 : Int)).toNat = 0 from rfl] at hx424_2)
       (try rw [show 0 * 5 = 0 from rfl] at hx424_2)
       (try rw [Addr.add_zero'] at hx424_2)
       (try rw [show ((0 : Int)).toNat = 0 from rfl] at hx424_3)
       (try rw [show 0 * 5 = 0 from rfl] at hx424_3)
       (try rw [Addr.add_zero'] at hx424_3)
       (try rw [show ((0 : Int)).toNat = 0 from rfl] at hx424_4)
       (try rw [show 0 * 5 = 0 from rfl] at hx424_4)
       (try rw [Addr.add_zero'] at hx424_4)
       replace p424 := eq_true p424
       replace q424 := eq_true q424
       go_wp2_with (first | ((with_reducible refine gate_builtin (b := .append) (xs := #[.tmp 40, .tmp 44]) rfl ?_); at_builtin; refine Kd.R_append k48 (w0 := w) w.heap.size rfl (.tmp 40) (.tmp 44) 25 48 (.agg #[(.string ⟨#[]⟩), (.int .i64 0), (.int .i64 0), (.string ⟨#[]⟩), (.int .i64 0)]) 56 rfl Try.underlying25 info48 rfl (by decide) (by omega) (.slice (some ad424) x6_14.length co37) x6_14 (⟨(rd_T48 x6_14 0).f0, (rd_T48 x6_14 0).f1, (rd_T48 x6_14 0).f2, (rd_T48 x6_14 0).f3, (rd_T48 x6_14 0).f4⟩ : S48) [.string ((rd_T48 x6_14 0).f0), .int .i64 ((rd_T48 x6_14 0).f1), .int .i64 ((rd_T48 x6_14 0).f2), .string ((rd_T48 x6_14 0).f3), .int .i64 ((rd_T48 x6_14 0).f4)] (fun _ => True) (fun _ => False) rfl rfl ?aP (fun _ hk => hk.elim) ?aF ?aO ?aB ?aS ?aL ?_; (case aP => exact k48_mkM _ _ _ (⟨(rd_T48 x6_14 0).f0, (rd_T48 x6_14 0).f1, (rd_T48 x6_14 0).f2, (rd_T48 x6_14 0).f3, (rd_T48 x6_14 0).f4⟩ : S48)); (case aB => exact (spec_DrawSquash_auHB)); (case aF => exact (fun _ _ => trivial)); (case aO => exact (lo_ HO_6)); (case aS => exact (below_size (spec_DrawSquash_auHB))); (case aL => have := LMc34.out; omega); intro v426 w38 ho hb hg hat; rw [← Ny425.out] at ho; have n0_ := Aside0.mk (IsS93.grown (spec_DrawSquash_auHI408) hg (IsS93.own_ne HI408.out HO_6.out (by decide))); have n1_ := Aside0.mk (hb); have n2_ := Aside0.mk (ho); clear HI408; clear HB; clear HO_6; have HI408 := n0_; have HB := n1_; have HO427 := n2_; clear n0_ n1_ n2_; clear ho hb hg hat) | ((with_reducible refine gate_callee (f := 55) rfl ?_); refine goesL_ (some 48) rfl rfl Try.func55 (by kernel_rfl) rfl #[.pointer (some ⟨g408, 0, none⟩)] rfl (by (try simp only [List.map_toArray, List.map_cons, List.map_nil]); first | done | rfl | (simp only [List.length_drop, List.length_take]; rfl)) ?_; (with_reducible refine (spec_l4Snaps.calls kj25 g408 t406 x409001_25 t428 t431 w _ ?side1 ?side2 A35.out).mono ?_); (case side1 => exact spec_DrawSquash_auHI408); (case side2 => exact spec_DrawSquash_auHB); rintro e w39 ⟨v429, rfl, ho0, hi, hb, hk⟩; refine ⟨_, rfl, ?_⟩; replace HO427 := Aside0.mk (Kd.R_mono (Kd.R_keep (IsS93.apart (show IsS93 w _ g408 t406 x409001_25 from spec_DrawSquash_auHI408) (lo_ HO427) (by decide)) hk (fun _ h => h.2)) (fun _ h => h.1)); have HO430 := Aside0.mk (Kd.R_lower ho0 (below_size (spec_DrawSquash_auHB))); replace HB := Aside0.mk (hb); replace HI408 := Aside0.mk (hi); (try clear hb); (try clear hb2); (try clear hk); (try clear hi); (try clear ho0)) | ((with_reducible refine gate_callee (f := 46) rfl ?_); refine goesL_ (some 50) rfl rfl Try.func46 (by kernel_rfl) rfl #[.pointer (some ⟨g408, 0, none⟩), .int .i64 2] rfl (by (try simp only [List.map_toArray, List.map_cons, List.map_nil]); first | done | rfl | (simp only [List.length_drop, List.length_take]; rfl)) ?_; (with_reducible refine (spec_l9Rd_pick.calls kj25 g408 t406 t431 2 t432 t433 w _ ?side1 ?side2 A36.out).mono ?_); (case side1 => exact spec_DrawSquash_auHI408); (case side2 => exact spec_DrawSquash_auHB); rintro e w40 ⟨rfl, hi, hb, hk⟩; refine ⟨_, rfl, ?_⟩; replace HO427 := Aside0.mk (Kd.R_mono (Kd.R_keep (IsS93.apart (show IsS93 w _ g408 t406 t431 from spec_DrawSquash_auHI408) (lo_ HO427) (by decide)) hk (fun _ h => h.2)) (fun _ h => h.1)); replace HO430 := Aside0.mk (Kd.R_mono (Kd.R_keep (IsS93.apart (show IsS93 w _ g408 t406 t431 from spec_DrawSquash_auHI408) (lo_ HO430) (by decide)) hk (fun _ h => h.2)) (fun _ h => h.1)); replace HB := Aside0.mk (hb); replace HI408 := Aside0.mk (hi); (try clear hb); (try clear hb2); (try clear hk); (try clear hi)))
       go_ret3
       exact ⟨_, _, by first | rfl | (simp [errW_none, errW_some] <;> rfl) | (simp [*, errW_none, errW_some] <;> rfl), by (with_reducible repeat (first | apply Kd.R_alloc | apply Kd.R_drewN | apply Kd.R_drew)); exact HO427.out, by (with_reducible repeat (first | apply Kd.R_alloc | apply Kd.R_drewN | apply Kd.R_drew)); exact HO430.out, spec_DrawSquash_auHB⟩


end Go.Proofs.Ytcfebbhiehaocaa.QFnSquashTwice

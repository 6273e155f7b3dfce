/- What the law FnPostTurn reaches, function by function: what each computes, and that the machine's call comes to it. Laid by a program. -/
import Derived.Test.YtogggmipcldkaaaQFnPostTurnx0
import Derived.Test.YtogggmipcldkaaaQFnPostTurnx3
import Derived.Test.YtogggmipcldkaaaQFnPostTurnx4
import Derived.Test.YtogggmipcldkaaaQFnPostTurnx6
namespace Go.Proofs.Ytogggmipcldkaaa.QFnPostTurn
open Go.RowKit Go.Proofs.YtogggmipcldkaaaW.PrintWords Go.Proofs.YtogggmipcldkaaaW.PrintLast Go.Proofs.YtogggmipcldkaaaW.PrintMore
attribute [local go_sem] max2_int min2_int max_two min_two max_three min_three max_four min_four   -- for this text's walks alone
set_option linter.unusedVariables false
set_option linter.unusedSimpArgs false

/-! ### spec_DrawPostTo: function 33 -/
def spec_DrawPostTo.f (k : Nat) (l0 : List Int) : Option (Int × (List (S41)) × ByteArray × Int) := (spec_l9Open.f l0).bind fun bt232 => ((spec_l1Post.f k bt232.1 bt232.2).bind fun bt235 => ((spec_l1Bent.f k bt232.1 bt235.2.2 bt235.1 bt235.2.1).bind fun bt240 => ((spec_l1Acct.f k bt232.1 bt240.2.2).bind fun bt246 => (if (bt240.2.1.length : Int) > 0 then ((spec_l9Rd_pick.f k bt232.1 bt246.2 3).bind fun bt248 => (if bt248.1 > 0 then (if 0 < (bt240.2.1.length : Int) then (some (bt240.1, bt240.2.1, (rd_T41 bt240.2.1 0).f0, (rd_T41 bt240.2.1 0).f1)) else (none)) else ((spec_l9Rd_num.f k bt232.1 bt248.2 (([1, 2, 3, 0, 4] : List Int))).bind fun bt255 => (some (bt240.1, bt240.2.1, bt246.1, bt255.1))))) else ((spec_l9Rd_num.f k bt232.1 bt246.2 (([1, 2, 3, 0, 4] : List Int))).bind fun bt260 => (some (bt240.1, bt240.2.1, bt246.1, bt260.1)))))))
theorem spec_DrawPostTo.mono : ∀ a0 k, LeO (spec_DrawPostTo.f k a0) (spec_DrawPostTo.f (k + 1) a0) := by
  intro a0 k
  unfold spec_DrawPostTo.f
  repeat' first
      | (with_reducible exact spec_l1Acct.mono _ _ _)
      | (with_reducible exact spec_l1Bent.mono _ _ _ _ _)
      | (with_reducible exact spec_l1Post.mono _ _ _)
      | (with_reducible exact spec_l9Rd_num.mono _ _ _ _)
      | (with_reducible exact spec_l9Rd_pick.mono _ _ _ _)
      | (with_reducible exact LeO.refl _)
      | (with_reducible exact LeO.none _)
      | (with_reducible refine LeO.ite ?_ ?_)
      | (with_reducible refine LeO.bind ?_ (fun _ => ?_))
      | exact spec_l1Acct.mono _ _ _
      | exact spec_l1Bent.mono _ _ _ _ _
      | exact spec_l1Post.mono _ _ _
      | exact spec_l9Rd_num.mono _ _ _ _
      | exact spec_l9Rd_pick.mono _ _ _ _
      | exact LeO.none _
      | refine LeO.ite ?_ ?_
      | refine LeO.bind ?_ (fun _ => ?_)
def spec_DrawPostTo.T5 : Bool × List (List Nat × List Nat) := (true, [([], []), ([], []), ([1], [1]), ([2], [2]), ([3], [3]), ([4], [4]), ([], []), ([6], [6]), ([7], [7]), ([8], [8]), ([9], [9]), ([0, 0], [0]), ([5, 11, 0, 1, 2, 3, 4, 5, 11], [5]), ([10, 12, 0, 1, 2, 3, 4, 5, 6, 7, 8, 9, 10, 11, 12], [10])])
def spec_DrawPostTo.B5 : List Nat := [0, 0, 2, 6, 14, 30, 0, 64, 192, 448, 960, 1, 2111, 8191]
theorem spec_DrawPostTo.tab5 : rtab .any (opsOf Try.f33 5) = spec_DrawPostTo.T5 := by kernel_rfl
theorem spec_DrawPostTo.bits5 : waitsOk spec_DrawPostTo.T5.2 spec_DrawPostTo.B5 = true := by kernel_rfl
def spec_DrawPostTo.T6 : Bool × List (List Nat × List Nat) := (true, [([], []), ([], []), ([], []), ([], []), ([2, 3], [2, 3]), ([0, 4, 0], [0]), ([1, 5, 0, 1, 5], [1]), ([4, 6, 0, 1, 2, 3, 4, 5, 6], [4])])
def spec_DrawPostTo.B6 : List Nat := [0, 0, 0, 0, 12, 29, 63, 127]
theorem spec_DrawPostTo.tab6 : rtab .any (opsOf Try.f33 6) = spec_DrawPostTo.T6 := by kernel_rfl
theorem spec_DrawPostTo.bits6 : waitsOk spec_DrawPostTo.T6.2 spec_DrawPostTo.B6 = true := by kernel_rfl
theorem spec_DrawPostTo_vb {p q : Prop} (h : Aside0 p) (k : p → q := by (intro hz; (with_reducible repeat (first | refine blk_drewN ?_ _ | refine blk_drew ?_ | refine blk_alloc ?_ _)); exact hz)) : q := k h.out
theorem spec_DrawPostTo_auHB {q : Prop} (h : q := by (repeat (first | (with_reducible first | exact HB.out | apply below_alloc | apply pw_below_drewN | apply below_drew1 | refine below_set ?_ GE231.out | refine below_set ?_ (IsS74.ge HI234.out) | refine below_set ?_ GE245.out) | exact HB.out))) : q := h
theorem spec_DrawPostTo_auHI234 {q : Prop} (h : q := by (repeat (first | (with_reducible first | exact HI234.out | apply IsS74.alloc | apply IsS74.drewN | apply IsS74.drew | apply IsS74.set_1 | refine IsS74.far ?_ NB234_231.out _ | refine IsS74.far ?_ NB234_245.out _) | exact HI234.out))) : q := h
set_option maxHeartbeats 8000000 in
set_option maxRecDepth 100000 in
theorem spec_DrawPostTo.calls (k : Nat) (A0 : Option Addr) (c0 : Nat) (l0 : List Int) (r1 : Int) (r2 : List (S41)) (r3 : ByteArray) (r4 : Int) (w : World) (hr0 : Kd.C (Kd.int .u8) w A0 l0.length l0) (hc0 : l0.length ≤ c0) (h : spec_DrawPostTo.f k l0 = some (r1, r2, r3, r4)) :
  Calls Try.prog 33 #[.slice A0 l0.length c0] w fun e w' => ∃ v1_ : Value, e = .returned (.tuple #[.agg #[.int .i64 r1, v1_], .string r3, .int .i64 r4]) ∧ Kd.R k41 41 w' w.heap.size (fun _ => True) v1_ r2 ∧ Below w.heap.size w w' := by
 have hu29 := Try.underlying29
 have HR0 := Aside0.mk hr0
 have HC0 := Aside0.mk hc0
 clear hr0 hc0
 have HB := Aside0.mk (Below.refl w.heap.size w)
 have H : ((spec_l9Open.f l0).bind fun bt232 => ((spec_l1Post.f k bt232.1 bt232.2).bind fun bt235 => ((spec_l1Bent.f k bt232.1 bt235.2.2 bt235.1 bt235.2.1).bind fun bt240 => ((spec_l1Acct.f k bt232.1 bt240.2.2).bind fun bt246 => (if (bt240.2.1.length : Int) > 0 then ((spec_l9Rd_pick.f k bt232.1 bt246.2 3).bind fun bt248 => (if bt248.1 > 0 then (if 0 < (bt240.2.1.length : Int) then (some (bt240.1, bt240.2.1, (rd_T41 bt240.2.1 0).f0, (rd_T41 bt240.2.1 0).f1)) else (none)) else ((spec_l9Rd_num.f k bt232.1 bt248.2 (([1, 2, 3, 0, 4] : List Int))).bind fun bt255 => (some (bt240.1, bt240.2.1, bt246.1, bt255.1))))) else ((spec_l9Rd_num.f k bt232.1 bt246.2 (([1, 2, 3, 0, 4] : List Int))).bind fun bt260 => (some (bt240.1, bt240.2.1, bt246.1, bt260.1)))))))) = some (r1, r2, r3, r4) := h
 clear h
 replace H := Option.bind_eq_some_iff.mp H
 obtain ⟨⟨t232, t233⟩, A20, H⟩ := H
 replace H : ((spec_l1Post.f k t232 t233).bind fun bt235 => ((spec_l1Bent.f k t232 bt235.2.2 bt235.1 bt235.2.1).bind fun bt240 => ((spec_l1Acct.f k t232 bt240.2.2).bind fun bt246 => (if (bt240.2.1.length : Int) > 0 then ((spec_l9Rd_pick.f k t232 bt246.2 3).bind fun bt248 => (if bt248.1 > 0 then (if 0 < (bt240.2.1.length : Int) then (some (bt240.1, bt240.2.1, (rd_T41 bt240.2.1 0).f0, (rd_T41 bt240.2.1 0).f1)) else (none)) else ((spec_l9Rd_num.f k t232 bt248.2 (([1, 2, 3, 0, 4] : List Int))).bind fun bt255 => (some (bt240.1, bt240.2.1, bt246.1, bt255.1))))) else ((spec_l9Rd_num.f k t232 bt246.2 (([1, 2, 3, 0, 4] : List Int))).bind fun bt260 => (some (bt240.1, bt240.2.1, bt246.1, bt260.1))))))) = some (r1, r2, r3, r4) := H
 have A2 := Aside0.mk A20
 clear A20
 replace H := Option.bind_eq_some_iff.mp H
 obtain ⟨⟨t235, t236, t239⟩, A30, H⟩ := H
 replace H : ((spec_l1Bent.f k t232 t239 t235 t236).bind fun bt240 => ((spec_l1Acct.f k t232 bt240.2.2).bind fun bt246 => (if (bt240.2.1.length : Int) > 0 then ((spec_l9Rd_pick.f k t232 bt246.2 3).bind fun bt248 => (if bt248.1 > 0 then (if 0 < (bt240.2.1.length : Int) then (some (bt240.1, bt240.2.1, (rd_T41 bt240.2.1 0).f0, (rd_T41 bt240.2.1 0).f1)) else (none)) else ((spec_l9Rd_num.f k t232 bt248.2 (([1, 2, 3, 0, 4] : List Int))).bind fun bt255 => (some (bt240.1, bt240.2.1, bt246.1, bt255.1))))) else ((spec_l9Rd_num.f k t232 bt246.2 (([1, 2, 3, 0, 4] : List Int))).bind fun bt260 => (some (bt240.1, bt240.2.1, bt246.1, bt260.1)))))) = some (r1, r2, r3, r4) := H
 have A3 := Aside0.mk A30
 clear A30
 replace H := Option.bind_eq_some_iff.mp H
 obtain ⟨⟨t240, t241, t244⟩, A40, H⟩ := H
 replace H : ((spec_l1Acct.f k t232 t244).bind fun bt246 => (if (t241.length : Int) > 0 then ((spec_l9Rd_pick.f k t232 bt246.2 3).bind fun bt248 => (if bt248.1 > 0 then (if 0 < (t241.length : Int) then (some (t240, t241, (rd_T41 t241 0).f0, (rd_T41 t241 0).f1)) else (none)) else ((spec_l9Rd_num.f k t232 bt248.2 (([1, 2, 3, 0, 4] : List Int))).bind fun bt255 => (some (t240, t241, bt246.1, bt255.1))))) else ((spec_l9Rd_num.f k t232 bt246.2 (([1, 2, 3, 0, 4] : List Int))).bind fun bt260 => (some (t240, t241, bt246.1, bt260.1))))) = some (r1, r2, r3, r4) := H
 have A4 := Aside0.mk A40
 clear A40
 replace H := Option.bind_eq_some_iff.mp H
 obtain ⟨⟨t246, t247⟩, A50, H⟩ := H
 replace H : (if (t241.length : Int) > 0 then ((spec_l9Rd_pick.f k t232 t247 3).bind fun bt248 => (if bt248.1 > 0 then (if 0 < (t241.length : Int) then (some (t240, t241, (rd_T41 t241 0).f0, (rd_T41 t241 0).f1)) else (none)) else ((spec_l9Rd_num.f k t232 bt248.2 (([1, 2, 3, 0, 4] : List Int))).bind fun bt255 => (some (t240, t241, t246, bt255.1))))) else ((spec_l9Rd_num.f k t232 t247 (([1, 2, 3, 0, 4] : List Int))).bind fun bt260 => (some (t240, t241, t246, bt260.1)))) = some (r1, r2, r3, r4) := H
 have A5 := Aside0.mk A50
 clear A50
 by_cases c6 : (t241.length : Int) > 0
 ·
  rw [if_pos c6] at H
  have c6b0 : decide (0 < (t241.length : Int)) = true := decide_eq_true c6
  have c6b1 : decide (0 < t241.length) = true := decide_eq_true (by omega)
  clear c6
  replace H := Option.bind_eq_some_iff.mp H
  obtain ⟨⟨t248, t249⟩, A70, H⟩ := H
  replace H : (if t248 > 0 then (if 0 < (t241.length : Int) then (some (t240, t241, (rd_T41 t241 0).f0, (rd_T41 t241 0).f1)) else (none)) else ((spec_l9Rd_num.f k t232 t249 (([1, 2, 3, 0, 4] : List Int))).bind fun bt255 => (some (t240, t241, t246, bt255.1)))) = some (r1, r2, r3, r4) := H
  have A7 := Aside0.mk A70
  clear A70
  by_cases c8 : t248 > 0
  ·
   rw [if_pos c8] at H
   have c8b0 : decide (0 < t248) = true := decide_eq_true c8
   clear c8
   by_cases c9 : 0 < (t241.length : Int)
   ·
    rw [if_pos c9] at H
    have c9b0 : decide (0 < (t241.length : Int)) = true := decide_eq_true c9
    have c9b1 : decide (0 < t241.length) = true := decide_eq_true (by omega)
    clear c9
    simp only [Option.some.injEq, Prod.mk.injEq] at H
    obtain ⟨rfl, rfl, rfl, rfl⟩ := H
    go_enter Try.func33, Try.ntmps33
    try go_wp2_with (first | ((with_reducible refine gate_dst (N := 2) rfl ?_); refine box_event ?hg (N := 2) ?hd (cs := #[.int .i64 0, .slice none 0 0]) (t := 29) ?hr ?_; (case hd => rfl); (case hg => rfl); (case hr => first | (go_simp; done) | (go_simp; rfl)); intro gb231 hg w10 hbox hb; have n0_ := Aside0.mk (below_step (spec_DrawPostTo_auHB) hb); have n1_ := Aside0.mk (hbox); have n2_ := Aside0.mk ((by rw [hg]; exact (below_size (spec_DrawPostTo_auHB)) : w.heap.size ≤ gb231)); have n3_ := Aside0.mk ((by rw [hg]; exact (below_size (spec_DrawPostTo_auHB)) : w.heap.size ≤ gb231)); clear HB; have HB := n0_; have BK231 := n1_; have GW231 := n2_; have GE231 := n3_; clear n0_ n1_ n2_ n3_; clear hb hbox hg) | ((with_reducible refine gate_callee (f := 40) rfl ?_); refine goesL_ (some 9) rfl rfl Try.func40 (by kernel_rfl) rfl #[.slice A0 l0.length c0] rfl (by (try simp only [List.map_toArray, List.map_cons, List.map_nil]); first | done | rfl | (simp only [List.length_drop, List.length_take]; rfl)) ?_; (with_reducible refine (spec_l9Open.calls _ _ l0 t232 t233 w _ ?side1 ?side2 ?side3 A2.out).mono ?_); (case side1 => exact spec_DrawPostTo_auHB); (case side2 => exact HR0.out); (case side3 => exact HC0.out); rintro e w11 ⟨g234, rfl, hi, hb, hb2⟩; refine ⟨_, rfl, ?_⟩; have n0_ := Aside0.mk (blk_below (g := gb231) (o := .cells #[.int .i64 0, .slice none 0 0] 29 (0, 0)) (spec_DrawPostTo_vb BK231) hb2); have n1_ := Aside0.mk (hb); have n2_ := Aside0.mk (hi); have n3_ := Aside0.mk (IsS74.ne_blk hi (blk_below (g := gb231) (o := .cells #[.int .i64 0, .slice none 0 0] 29 (0, 0)) (spec_DrawPostTo_vb BK231) hb2) (by decide)); have n4_ := Aside0.mk (Ne.symm (IsS74.ne_blk hi (blk_below (g := gb231) (o := .cells #[.int .i64 0, .slice none 0 0] 29 (0, 0)) (spec_DrawPostTo_vb BK231) hb2) (by decide))); clear BK231; clear HB; have BK231 := n0_; have HB := n1_; have HI234 := n2_; have NB234_231 := n3_; have NB231_234 := n4_; clear n0_ n1_ n2_ n3_ n4_; (try clear hb); (try clear hb2); (try clear hk); (try clear hi)) | ((with_reducible refine gate_callee (f := 41) rfl ?_); refine goesL_ (some 12) rfl rfl Try.func41 (by kernel_rfl) rfl #[.pointer (some ⟨g234, 0, none⟩)] rfl (by (try simp only [List.map_toArray, List.map_cons, List.map_nil]); first | done | rfl | (simp only [List.length_drop, List.length_take]; rfl)) ?_; (with_reducible refine (spec_l1Post.calls k g234 t232 t233 t235 t236 t239 w _ ?side1 ?side2 A3.out).mono ?_); (case side1 => exact spec_DrawPostTo_auHI234); (case side2 => exact spec_DrawPostTo_auHB); rintro e w12 ⟨v237, rfl, ho0, hi, hb, hk⟩; refine ⟨_, rfl, ?_⟩; have n0_ := Aside0.mk (KeepBut.blk hk (g' := gb231) (o := .cells #[.int .i64 0, .slice none 0 0] 29 (0, 0)) (spec_DrawPostTo_vb BK231) NB231_234.out (by simp)); have n1_ := Aside0.mk (Kd.R_lower ho0 (below_size (spec_DrawPostTo_auHB))); have n2_ := Aside0.mk (hb); have n3_ := Aside0.mk (hi); clear BK231; clear HB; clear HI234; have BK231 := n0_; have HO238 := n1_; have HB := n2_; have HI234 := n3_; clear n0_ n1_ n2_ n3_; (try clear hb); (try clear hb2); (try clear hk); (try clear hi); (try clear ho0); obtain ⟨Ao13, co13, eo13⟩ := Kd.R_slice HO238.out; subst eo13) | ((with_reducible refine gate_callee (f := 42) rfl ?_); refine goesL_ (some 13) rfl rfl Try.func42 (by kernel_rfl) rfl #[.pointer (some ⟨g234, 0, none⟩), .agg #[.int .i64 t235, .slice Ao13 t236.length co13]] rfl (by (try simp only [List.map_toArray, List.map_cons, List.map_nil]); first | done | rfl | (simp only [List.length_drop, List.length_take]; rfl)) ?_; (with_reducible refine (spec_l1Bent.calls k g234 t232 t239 t235 _ _ t236 t240 t241 t244 w _ ?side1 ?side2 ?side3 ?side4 A4.out).mono ?_); (case side1 => exact spec_DrawPostTo_auHI234); (case side2 => exact spec_DrawPostTo_auHB); (case side3 => exact Kd.C_foot_own (IsS74.apart (show IsS74 w _ g234 t232 t239 from spec_DrawPostTo_auHI234) (by (with_reducible repeat (first | apply Kd.R_alloc | apply Kd.R_drewN | apply Kd.R_drew)); exact HO238.out) (by decide)) (fun _ h_ => h_.2)); (case side4 => exact (Kd.R_reads' HO238.out).2.1); rintro e w14 ⟨v242, rfl, ho0, hi, hb, hk⟩; refine ⟨_, rfl, ?_⟩; have n0_ := Aside0.mk (KeepBut.blk hk (g' := gb231) (o := .cells #[.int .i64 0, .slice none 0 0] 29 (0, 0)) (spec_DrawPostTo_vb BK231) NB231_234.out (by simp)); have n1_ := Aside0.mk (Kd.R_mono (Kd.R_told (Kd.R_oldK (IsS74.apart (show IsS74 w _ g234 t232 t239 from spec_DrawPostTo_auHI234) (by (with_reducible repeat (first | apply Kd.R_alloc | apply Kd.R_drewN | apply Kd.R_drew)); exact HO238.out) (by decide)) hk) (Kd.R_base ho0)) (fun _ h_ => h_.1)); have n2_ := Aside0.mk (Kd.R_lower (Kd.R_new' ho0 (Kd.R_lt (by (with_reducible repeat (first | apply Kd.R_alloc | apply Kd.R_drewN | apply Kd.R_drew)); exact HO238.out))) (below_size (spec_DrawPostTo_auHB))); have n3_ := Aside0.mk (hb); have n4_ := Aside0.mk (hi); clear BK231; clear HO238; clear HB; clear HI234; have BK231 := n0_; have HO238 := n1_; have HO243 := n2_; have HB := n3_; have HI234 := n4_; clear n0_ n1_ n2_ n3_ n4_; (try clear hb); (try clear hb2); (try clear hk); (try clear hi); (try clear ho0)) | ((with_reducible refine gate_dst (N := 6) rfl ?_); refine box_event ?hg (N := 6) ?hd (cs := #[.int .i64 0, .slice none 0 0]) (t := 29) ?hr ?_; (case hd => rfl); (case hg => rfl); (case hr => first | (go_simp; done) | (go_simp; rfl)); intro gb245 hg w15 hbox hb; have n0_ := Aside0.mk (Kd.R_below (by (with_reducible repeat (first | apply Kd.R_alloc | apply Kd.R_drewN | apply Kd.R_drew)); exact HO238.out) hb); have n1_ := Aside0.mk (Kd.R_below (by (with_reducible repeat (first | apply Kd.R_alloc | apply Kd.R_drewN | apply Kd.R_drew)); exact HO243.out) hb); have n2_ := Aside0.mk (blk_below (g := gb231) (o := .cells #[.int .i64 0, .slice none 0 0] 29 (0, 0)) (spec_DrawPostTo_vb BK231) hb); have n3_ := Aside0.mk (IsS74.below (spec_DrawPostTo_auHI234) hb); have n4_ := Aside0.mk (below_step (spec_DrawPostTo_auHB) hb); have n5_ := Aside0.mk (hbox); have n6_ := Aside0.mk ((by rw [hg]; exact (below_size (spec_DrawPostTo_auHB)) : w.heap.size ≤ gb245)); have n7_ := Aside0.mk ((by rw [hg]; exact (below_size (spec_DrawPostTo_auHB)) : w.heap.size ≤ gb245)); have n8_ := Aside0.mk ((by rw [hg]; exact Nat.ne_of_lt (blk_lt (g := gb231) (o := .cells #[.int .i64 0, .slice none 0 0] 29 (0, 0)) (spec_DrawPostTo_vb BK231)) : gb231 ≠ gb245)); have n9_ := Aside0.mk ((by rw [hg]; exact Nat.ne_of_gt (blk_lt (g := gb231) (o := .cells #[.int .i64 0, .slice none 0 0] 29 (0, 0)) (spec_DrawPostTo_vb BK231)) : gb245 ≠ gb231)); have n10_ := Aside0.mk ((by rw [hg]; exact Nat.ne_of_lt (IsS74.lt (show IsS74 w _ g234 t232 t244 from spec_DrawPostTo_auHI234)) : g234 ≠ gb245)); have n11_ := Aside0.mk ((by rw [hg]; exact Nat.ne_of_gt (IsS74.lt (show IsS74 w _ g234 t232 t244 from spec_DrawPostTo_auHI234)) : gb245 ≠ g234)); clear HO238; clear HO243; clear BK231; clear HI234; clear HB; have HO238 := n0_; have HO243 := n1_; have BK231 := n2_; have HI234 := n3_; have HB := n4_; have BK245 := n5_; have GW245 := n6_; have GE245 := n7_; have NB231_245 := n8_; have NB245_231 := n9_; have NB234_245 := n10_; have NB245_234 := n11_; clear n0_ n1_ n2_ n3_ n4_ n5_ n6_ n7_ n8_ n9_ n10_ n11_; clear hb hbox hg; have hnb16 := NB245_231.out; have hnc16 := NB231_245.out; have hnb17 := NB245_234.out; have hnc17 := NB234_245.out; have hcz18_0 : w15.cell? ⟨gb245, 0, none⟩ = some (.int .i64 0) := (blk_cell BK245.out 0).trans rfl; have hcz18_1 : w15.cell? ⟨gb245, 1, none⟩ = some (.slice none 0 0) := (blk_cell BK245.out 1).trans rfl; have hfz18_0 := blk_frozen BK245.out 0; have hfz18_1 := blk_frozen BK245.out 1; obtain ⟨Ao19, co19, eo19⟩ := Kd.R_slice HO243.out; subst eo19) | ((with_reducible refine gate_callee (f := 45) rfl ?_); refine goesL_ (some 15) rfl rfl Try.func45 (by kernel_rfl) rfl #[.pointer (some ⟨g234, 0, none⟩)] rfl (by (try simp only [List.map_toArray, List.map_cons, List.map_nil]); first | done | rfl | (simp only [List.length_drop, List.length_take]; rfl)) ?_; (with_reducible refine (spec_l1Acct.calls k g234 t232 t244 t246 t247 w _ ?side1 ?side2 A5.out).mono ?_); (case side1 => exact spec_DrawPostTo_auHI234); (case side2 => exact spec_DrawPostTo_auHB); rintro e w20 ⟨rfl, hi, hb, hk⟩; refine ⟨_, rfl, ?_⟩; have n0_ := Aside0.mk (KeepBut.blk hk (g' := gb231) (o := .cells #[.int .i64 0, .slice none 0 0] 29 (0, 0)) (by (with_reducible repeat (first | refine blk_drewN ?_ _ | refine blk_drew ?_ | refine blk_alloc ?_ _)); refine blk_far ?_ NB231_245.out _; (with_reducible repeat (first | refine blk_drewN ?_ _ | refine blk_drew ?_ | refine blk_alloc ?_ _)); refine blk_far ?_ NB231_245.out _; (with_reducible repeat (first | refine blk_drewN ?_ _ | refine blk_drew ?_ | refine blk_alloc ?_ _)); exact BK231.out) NB231_234.out (by simp)); have n1_ := Aside0.mk (Kd.R_mono (Kd.R_keep (IsS74.apart (show IsS74 w _ g234 t232 t244 from spec_DrawPostTo_auHI234) (by (with_reducible repeat (first | apply Kd.R_alloc | apply Kd.R_drewN | apply Kd.R_drew)); exact (Kd.R_mono (Kd.R_far (p := ⟨gb245, 1, none⟩) (Kd.R_far (p := ⟨gb245, 0, none⟩) (Kd.R_types HO238.out BK245.out (by decide)) (fun _ hk => hk.2) (.int .i64 t240)) (fun _ hk => hk.2) (.slice Ao19 t241.length co19)) (fun _ h_ => h_.1))) (by decide)) hk (fun _ h => h.2)) (fun _ h => h.1)); have n2_ := Aside0.mk (Kd.R_mono (Kd.R_keep (IsS74.apart (show IsS74 w _ g234 t232 t244 from spec_DrawPostTo_auHI234) (by (with_reducible repeat (first | apply Kd.R_alloc | apply Kd.R_drewN | apply Kd.R_drew)); exact (Kd.R_mono (Kd.R_far (p := ⟨gb245, 1, none⟩) (Kd.R_far (p := ⟨gb245, 0, none⟩) (Kd.R_types HO243.out BK245.out (by decide)) (fun _ hk => hk.2) (.int .i64 t240)) (fun _ hk => hk.2) (.slice Ao19 t241.length co19)) (fun _ h_ => h_.1))) (by decide)) hk (fun _ h => h.2)) (fun _ h => h.1)); have n3_ := Aside0.mk (KeepBut.blk hk (g' := gb245) (o := .cells #[.int .i64 t240, .slice Ao19 t241.length co19] 29 (0, 0)) (by (with_reducible repeat (first | refine blk_drewN ?_ _ | refine blk_drew ?_ | refine blk_alloc ?_ _)); refine blk_put (cs := #[.int .i64 t240, .slice none 0 0]) ?_ 1 _ rfl; (with_reducible repeat (first | refine blk_drewN ?_ _ | refine blk_drew ?_ | refine blk_alloc ?_ _)); refine blk_put (cs := #[.int .i64 0, .slice none 0 0]) ?_ 0 _ rfl; (with_reducible repeat (first | refine blk_drewN ?_ _ | refine blk_drew ?_ | refine blk_alloc ?_ _)); exact BK245.out) NB245_234.out (by simp)); have n4_ := Aside0.mk (hb); have n5_ := Aside0.mk (hi); clear BK231; clear HO238; clear HO243; clear BK245; clear HB; clear HI234; have BK231 := n0_; have HO238 := n1_; have HO243 := n2_; have BK245 := n3_; have HB := n4_; have HI234 := n5_; clear n0_ n1_ n2_ n3_ n4_ n5_; (try clear hb); (try clear hb2); (try clear hk); (try clear hi); have hcz21_0 : w20.cell? ⟨gb245, 0, none⟩ = some (.int .i64 t240) := (blk_cell BK245.out 0).trans rfl; have hcz21_1 : w20.cell? ⟨gb245, 1, none⟩ = some (.slice Ao19 t241.length co19) := (blk_cell BK245.out 1).trans rfl; have hfz21_0 := blk_frozen BK245.out 0; have hfz21_1 := blk_frozen BK245.out 1) | (go_at_call 43; (with_reducible refine (spec_l9Rd_pick.calls k g234 t232 t247 3 t248 t249 w _ ?side1 ?side2 A7.out).mono ?_); (case side1 => exact spec_DrawPostTo_auHI234); (case side2 => exact spec_DrawPostTo_auHB); rintro e w22 ⟨rfl, hi, hb, hk⟩; have n0_ := Aside0.mk (KeepBut.blk hk (g' := gb231) (o := .cells #[.int .i64 0, .slice none 0 0] 29 (0, 0)) (spec_DrawPostTo_vb BK231) NB231_234.out (by simp)); have n1_ := Aside0.mk (Kd.R_mono (Kd.R_keep (IsS74.apart (show IsS74 w _ g234 t232 t247 from spec_DrawPostTo_auHI234) (by (with_reducible repeat (first | apply Kd.R_alloc | apply Kd.R_drewN | apply Kd.R_drew)); exact HO238.out) (by decide)) hk (fun _ h => h.2)) (fun _ h => h.1)); have n2_ := Aside0.mk (Kd.R_mono (Kd.R_keep (IsS74.apart (show IsS74 w _ g234 t232 t247 from spec_DrawPostTo_auHI234) (by (with_reducible repeat (first | apply Kd.R_alloc | apply Kd.R_drewN | apply Kd.R_drew)); exact HO243.out) (by decide)) hk (fun _ h => h.2)) (fun _ h => h.1)); have n3_ := Aside0.mk (KeepBut.blk hk (g' := gb245) (o := .cells #[.int .i64 t240, .slice Ao19 t241.length co19] 29 (0, 0)) (spec_DrawPostTo_vb BK245) NB245_234.out (by simp)); have n4_ := Aside0.mk (hb); have n5_ := Aside0.mk (hi); clear BK231; clear HO238; clear HO243; clear BK245; clear HB; clear HI234; have BK231 := n0_; have HO238 := n1_; have HO243 := n2_; have BK245 := n3_; have HB := n4_; have HI234 := n5_; clear n0_ n1_ n2_ n3_ n4_ n5_; (try clear hb); (try clear hb2); (try clear hk); (try clear hi)))
    have n0_ := Aside0.mk (Kd.R_drew HO238.out)
    have n1_ := Aside0.mk (Kd.R_drew HO243.out)
    have n2_ := Aside0.mk (blk_drew BK231.out)
    have n3_ := Aside0.mk (blk_drew BK245.out)
    have n4_ := Aside0.mk (IsS74.drew HI234.out)
    have n5_ := Aside0.mk (below_drew1 HB.out)
    clear HO238
    clear HO243
    clear BK231
    clear BK245
    clear HI234
    clear HB
    have HO238 := n0_
    have HO243 := n1_
    have BK231 := n2_
    have BK245 := n3_
    have HI234 := n4_
    have HB := n5_
    clear n0_ n1_ n2_ n3_ n4_ n5_
    have p250 : 0 ≤ (0 : Int) := (by omega)
    have q250 : 0 < (t241.length : Int) := of_decide_eq_true (by first | (with_reducible assumption) | assumption)
    obtain ⟨ad250, e250, hx250_0, hx250_1, hx250_2⟩ := at_T41 (Kd.R_reads' HO243.out).2.2 0 p250 q250
    cases e250
    have qi250 : (0 < t241.length) = True := eq_true (by omega)
    (try rw [show ((0 : Int)).toNat = 0 from rfl] at hx250_0)
    (try rw [show 0 * 3 = 0 from rfl] at hx250_0)
    (try rw [Addr.add_zero'] at hx250_0)
    (try rw [show ((0 : Int)).toNat = 0 from rfl] at hx250_1)
    (try rw [show 0 * 3 = 0 from rfl] at hx250_1)
    (try rw [Addr.add_zero'] at hx250_1)
    (try rw [show ((0 : Int)).toNat = 0 from rfl] at hx250_2)
    (try rw [show 0 * 3 = 0 from rfl] at hx250_2)
    (try rw [Addr.add_zero'] at hx250_2)
    replace p250 := eq_true p250
    replace q250 := eq_true q250
    have p251 : 0 ≤ (0 : Int) := (by omega)
    have q251 : 0 < (t241.length : Int) := of_decide_eq_true (by first | (with_reducible assumption) | assumption)
    obtain ⟨ad251, e251, hx251_0, hx251_1, hx251_2⟩ := at_T41 (Kd.R_reads' HO243.out).2.2 0 p251 q251
    obtain rfl : ad250 = ad251 := (by injection e251)
    have qi251 : (0 < t241.length) = True := eq_true (by omega)
    (try rw [show ((0 : Int)).toNat = 0 from rfl] at hx251_0)
    (try rw [show 0 * 3 = 0 from rfl] at hx251_0)
    (try rw [Addr.add_zero'] at hx251_0)
    (try rw [show ((0 : Int)).toNat = 0 from rfl] at hx251_1)
    (try rw [show 0 * 3 = 0 from rfl] at hx251_1)
    (try rw [Addr.add_zero'] at hx251_1)
    (try rw [show ((0 : Int)).toNat = 0 from rfl] at hx251_2)
    (try rw [show 0 * 3 = 0 from rfl] at hx251_2)
    (try rw [Addr.add_zero'] at hx251_2)
    replace p251 := eq_true p251
    replace q251 := eq_true q251
    refine start_ (n := 14) (S := fun w' => w'.cell? ⟨gb245, 0, none⟩ = some (.int .i64 t240) ∧ w'.cell? ⟨gb245, 1, none⟩ = some (.slice (some ad250) t241.length co19) ∧ w'.cell? ad250 = some (.string ((rd_T41 t241 0).f0)) ∧ w'.cell? ⟨ad250.block, ad250.off + 1, none⟩ = some (.int .i64 ((rd_T41 t241 0).f1)) ∧ w'.cell? ⟨ad250.block, ad250.off + 2, none⟩ = some (.int .i64 ((rd_T41 t241 0).f2)) ∧ w'.cell? ad250 = some (.string ((rd_T41 t241 0).f0)) ∧ w'.cell? ⟨ad250.block, ad250.off + 1, none⟩ = some (.int .i64 ((rd_T41 t241 0).f1)) ∧ w'.cell? ⟨ad250.block, ad250.off + 2, none⟩ = some (.int .i64 ((rd_T41 t241 0).f2))) (ds := []) #[false, false, false, false, false, false, false, false, false, false, false, false, false, false] (by kernel_rfl) rfl rfl ⟨(blk_cell BK245.out 0).trans rfl, (blk_cell BK245.out 1).trans rfl, hx250_0, hx250_1, hx250_2, hx251_0, hx251_1, hx251_2⟩ (fun hHeld => ?_); refine with_tabW spec_DrawPostTo.tab5 spec_DrawPostTo.bits5 (fun HT_ HW_ => ?_)
    generalize w22.drew = w23 at HO238 HO243 BK231 BK245 HI234 HB hx250_0 hx250_1 hx250_2 hx251_0 hx251_1 hx251_2 hHeld ⊢
    refine pure_ (i := 1) (N := some 26) (v := ?_) (a' := ?_) #[false, true, false, false, false, false, false, false, false, false, false, false, false, false] rfl rfl (any_of HT_.out (by kernel_rfl)) (fun _ _ _ h => h) (Or.inl ⟨by rfl, ?_⟩) ?_ ?_
    rotate_left
    ·
     intro w'
     go_simp
     with_reducible rfl
    rotate_left
    ·
     simp only [Act.put, List.setIfInBounds_toArray, List.set_cons_zero, List.set_cons_succ, i64_w, i32_w]
     rfl
    refine pure_ (i := 6) (N := some 31) (v := ?_) (a' := ?_) #[false, true, false, false, false, false, true, false, false, false, false, false, false, false] rfl rfl (any_of HT_.out (by kernel_rfl)) (fun _ _ _ h => h) (Or.inl ⟨by rfl, ?_⟩) ?_ ?_
    rotate_left
    ·
     intro w'
     go_simp
     with_reducible rfl
    rotate_left
    ·
     simp only [Act.put, List.setIfInBounds_toArray, List.set_cons_zero, List.set_cons_succ, i64_w, i32_w]
     rfl
    refine take_ (i := 0) (N := some 25) (v := ?_) (a' := ?_) #[true, true, false, false, false, false, true, false, false, false, false, false, false, false] rfl rfl (take_ofW HT_.out HW_.out (by kernel_rfl)) (fun _ _ _ h => h) (Or.inl ⟨by rfl, ?_⟩) hHeld ?_ ?_
    rotate_left
    ·
     rintro w' ⟨s0, s1, s2, s3, s4, s5, s6, s7⟩
     go_simp
     with_reducible rfl
    rotate_left
    ·
     simp only [Act.put, List.setIfInBounds_toArray, List.set_cons_zero, List.set_cons_succ, i64_w, i32_w]
     rfl
    refine take_ (i := 2) (N := some 27) (v := ?_) (a' := ?_) #[true, true, true, false, false, false, true, false, false, false, false, false, false, false] rfl rfl (take_ofW HT_.out HW_.out (by kernel_rfl)) (fun _ _ _ h => h) (Or.inl ⟨by rfl, ?_⟩) hHeld ?_ ?_
    rotate_left
    ·
     rintro w' ⟨s0, s1, s2, s3, s4, s5, s6, s7⟩
     go_simp
     with_reducible rfl
    rotate_left
    ·
     simp only [Act.put, List.setIfInBounds_toArray, List.set_cons_zero, List.set_cons_succ, i64_w, i32_w]
     rfl
    refine pure_ (i := 3) (N := some 28) (v := ?_) (a' := ?_) #[true, true, true, true, false, false, true, false, false, false, false, false, false, false] rfl rfl (any_of HT_.out (by kernel_rfl)) (fun _ _ _ h => h) (Or.inl ⟨by rfl, ?_⟩) ?_ ?_
    rotate_left
    ·
     intro w'
     go_simp
     with_reducible rfl
    rotate_left
    ·
     simp only [Act.put, List.setIfInBounds_toArray, List.set_cons_zero, List.set_cons_succ, i64_w, i32_w]
     rfl
    refine pure_ (i := 4) (N := some 29) (v := ?_) (a' := ?_) #[true, true, true, true, true, false, true, false, false, false, false, false, false, false] rfl rfl (any_of HT_.out (by kernel_rfl)) (fun _ _ _ h => h) (Or.inl ⟨by rfl, ?_⟩) ?_ ?_
    rotate_left
    ·
     intro w'
     go_simp
     with_reducible rfl
    rotate_left
    ·
     simp only [Act.put, List.setIfInBounds_toArray, List.set_cons_zero, List.set_cons_succ, i64_w, i32_w]
     rfl
    refine take_ (i := 5) (N := some 30) (v := ?_) (a' := ?_) #[true, true, true, true, true, true, true, false, false, false, false, false, false, false] rfl rfl (take_ofW HT_.out HW_.out (by kernel_rfl)) (fun _ _ _ h => h) (Or.inl ⟨by rfl, ?_⟩) hHeld ?_ ?_
    rotate_left
    ·
     rintro w' ⟨s0, s1, s2, s3, s4, s5, s6, s7⟩
     go_simp
     with_reducible rfl
    rotate_left
    ·
     simp only [Act.put, List.setIfInBounds_toArray, List.set_cons_zero, List.set_cons_succ, i64_w, i32_w]
     rfl
    refine take_ (i := 7) (N := some 32) (v := ?_) (a' := ?_) #[true, true, true, true, true, true, true, true, false, false, false, false, false, false] rfl rfl (take_ofW HT_.out HW_.out (by kernel_rfl)) (fun _ _ _ h => h) (Or.inl ⟨by rfl, ?_⟩) hHeld ?_ ?_
    rotate_left
    ·
     rintro w' ⟨s0, s1, s2, s3, s4, s5, s6, s7⟩
     go_simp
     with_reducible rfl
    rotate_left
    ·
     simp only [Act.put, List.setIfInBounds_toArray, List.set_cons_zero, List.set_cons_succ, i64_w, i32_w]
     rfl
    refine pure_ (i := 8) (N := some 33) (v := ?_) (a' := ?_) #[true, true, true, true, true, true, true, true, true, false, false, false, false, false] rfl rfl (any_of HT_.out (by kernel_rfl)) (fun _ _ _ h => h) (Or.inl ⟨by rfl, ?_⟩) ?_ ?_
    rotate_left
    ·
     intro w'
     go_simp
     with_reducible rfl
    rotate_left
    ·
     simp only [Act.put, List.setIfInBounds_toArray, List.set_cons_zero, List.set_cons_succ, i64_w, i32_w]
     rfl
    refine pure_ (i := 9) (N := some 34) (v := ?_) (a' := ?_) #[true, true, true, true, true, true, true, true, true, true, false, false, false, false] rfl rfl (any_of HT_.out (by kernel_rfl)) (fun _ _ _ h => h) (Or.inl ⟨by rfl, ?_⟩) ?_ ?_
    rotate_left
    ·
     intro w'
     go_simp
     with_reducible rfl
    rotate_left
    ·
     simp only [Act.put, List.setIfInBounds_toArray, List.set_cons_zero, List.set_cons_succ, i64_w, i32_w]
     rfl
    refine take_ (i := 10) (N := some 35) (v := ?_) (a' := ?_) #[true, true, true, true, true, true, true, true, true, true, true, false, false, false] rfl rfl (take_ofW HT_.out HW_.out (by kernel_rfl)) (fun _ _ _ h => h) (Or.inl ⟨by rfl, ?_⟩) hHeld ?_ ?_
    rotate_left
    ·
     rintro w' ⟨s0, s1, s2, s3, s4, s5, s6, s7⟩
     go_simp
     with_reducible rfl
    rotate_left
    ·
     simp only [Act.put, List.setIfInBounds_toArray, List.set_cons_zero, List.set_cons_succ, i64_w, i32_w]
     rfl
    refine one_ (i := 11) (N := none) #[true, true, true, true, true, true, true, true, true, true, true, true, false, false] rfl rfl (one_of HT_.out (by kernel_rfl)) (by decide) (fun K hK => ?_)
    have hs24 : w23.cell? ⟨gb231, 0, none⟩ = some (.int .i64 0) := (blk_cell BK231.out 0).trans rfl
    have hfs24 := blk_frozen BK231.out 0
    have hns24_1 := NB245_231.out
    have hms24_1 := NB231_245.out
    have hs25 : w23.cell? ⟨gb231, 1, none⟩ = some (.slice none 0 0) := (blk_cell BK231.out 1).trans rfl
    have hfs25 := blk_frozen BK231.out 1
    have hns25_1 := NB245_231.out
    have hms25_1 := NB231_245.out
    refine skip_ (w1 := ?_) (by rfl) rfl ?_ ?_
    rotate_left
    ·
     go_simp
     rfl
    refine hK.out _ _ ⟨((cell_far (p := ⟨gb231, _, none⟩) NB245_231.out _).trans (((cell_far (p := ⟨gb231, _, none⟩) NB245_231.out _).trans (hHeld.1)))), ((cell_far (p := ⟨gb231, _, none⟩) NB245_231.out _).trans (((cell_far (p := ⟨gb231, _, none⟩) NB245_231.out _).trans (hHeld.2.1)))), ((cell_far (p := ⟨gb231, _, none⟩) (by first | exact Kd.own_blk (Kd.R_ne HO243.out BK231.out (by decide)) | (rw [add_block]; exact Kd.own_blk (Kd.R_ne HO243.out BK231.out (by decide))) | (show (Addr.add _ _).block ≠ _; rw [add_block]; exact Kd.own_blk (Kd.R_ne HO243.out BK231.out (by decide))) | (dsimp only; exact Kd.own_blk (Kd.R_ne HO243.out BK231.out (by decide)))) _).trans (((cell_far (p := ⟨gb231, _, none⟩) (by first | exact Kd.own_blk (Kd.R_ne HO243.out BK231.out (by decide)) | (rw [add_block]; exact Kd.own_blk (Kd.R_ne HO243.out BK231.out (by decide))) | (show (Addr.add _ _).block ≠ _; rw [add_block]; exact Kd.own_blk (Kd.R_ne HO243.out BK231.out (by decide))) | (dsimp only; exact Kd.own_blk (Kd.R_ne HO243.out BK231.out (by decide)))) _).trans (hHeld.2.2.1)))), ((cell_far (p := ⟨gb231, _, none⟩) (by first | exact Kd.own_blk (Kd.R_ne HO243.out BK231.out (by decide)) | (rw [add_block]; exact Kd.own_blk (Kd.R_ne HO243.out BK231.out (by decide))) | (show (Addr.add _ _).block ≠ _; rw [add_block]; exact Kd.own_blk (Kd.R_ne HO243.out BK231.out (by decide))) | (dsimp only; exact Kd.own_blk (Kd.R_ne HO243.out BK231.out (by decide)))) _).trans (((cell_far (p := ⟨gb231, _, none⟩) (by first | exact Kd.own_blk (Kd.R_ne HO243.out BK231.out (by decide)) | (rw [add_block]; exact Kd.own_blk (Kd.R_ne HO243.out BK231.out (by decide))) | (show (Addr.add _ _).block ≠ _; rw [add_block]; exact Kd.own_blk (Kd.R_ne HO243.out BK231.out (by decide))) | (dsimp only; exact Kd.own_blk (Kd.R_ne HO243.out BK231.out (by decide)))) _).trans (hHeld.2.2.2.1)))), ((cell_far (p := ⟨gb231, _, none⟩) (by first | exact Kd.own_blk (Kd.R_ne HO243.out BK231.out (by decide)) | (rw [add_block]; exact Kd.own_blk (Kd.R_ne HO243.out BK231.out (by decide))) | (show (Addr.add _ _).block ≠ _; rw [add_block]; exact Kd.own_blk (Kd.R_ne HO243.out BK231.out (by decide))) | (dsimp only; exact Kd.own_blk (Kd.R_ne HO243.out BK231.out (by decide)))) _).trans (((cell_far (p := ⟨gb231, _, none⟩) (by first | exact Kd.own_blk (Kd.R_ne HO243.out BK231.out (by decide)) | (rw [add_block]; exact Kd.own_blk (Kd.R_ne HO243.out BK231.out (by decide))) | (show (Addr.add _ _).block ≠ _; rw [add_block]; exact Kd.own_blk (Kd.R_ne HO243.out BK231.out (by decide))) | (dsimp only; exact Kd.own_blk (Kd.R_ne HO243.out BK231.out (by decide)))) _).trans (hHeld.2.2.2.2.1)))), ((cell_far (p := ⟨gb231, _, none⟩) (by first | exact Kd.own_blk (Kd.R_ne HO243.out BK231.out (by decide)) | (rw [add_block]; exact Kd.own_blk (Kd.R_ne HO243.out BK231.out (by decide))) | (show (Addr.add _ _).block ≠ _; rw [add_block]; exact Kd.own_blk (Kd.R_ne HO243.out BK231.out (by decide))) | (dsimp only; exact Kd.own_blk (Kd.R_ne HO243.out BK231.out (by decide)))) _).trans (((cell_far (p := ⟨gb231, _, none⟩) (by first | exact Kd.own_blk (Kd.R_ne HO243.out BK231.out (by decide)) | (rw [add_block]; exact Kd.own_blk (Kd.R_ne HO243.out BK231.out (by decide))) | (show (Addr.add _ _).block ≠ _; rw [add_block]; exact Kd.own_blk (Kd.R_ne HO243.out BK231.out (by decide))) | (dsimp only; exact Kd.own_blk (Kd.R_ne HO243.out BK231.out (by decide)))) _).trans (hHeld.2.2.2.2.2.1)))), ((cell_far (p := ⟨gb231, _, none⟩) (by first | exact Kd.own_blk (Kd.R_ne HO243.out BK231.out (by decide)) | (rw [add_block]; exact Kd.own_blk (Kd.R_ne HO243.out BK231.out (by decide))) | (show (Addr.add _ _).block ≠ _; rw [add_block]; exact Kd.own_blk (Kd.R_ne HO243.out BK231.out (by decide))) | (dsimp only; exact Kd.own_blk (Kd.R_ne HO243.out BK231.out (by decide)))) _).trans (((cell_far (p := ⟨gb231, _, none⟩) (by first | exact Kd.own_blk (Kd.R_ne HO243.out BK231.out (by decide)) | (rw [add_block]; exact Kd.own_blk (Kd.R_ne HO243.out BK231.out (by decide))) | (show (Addr.add _ _).block ≠ _; rw [add_block]; exact Kd.own_blk (Kd.R_ne HO243.out BK231.out (by decide))) | (dsimp only; exact Kd.own_blk (Kd.R_ne HO243.out BK231.out (by decide)))) _).trans (hHeld.2.2.2.2.2.2.1)))), ((cell_far (p := ⟨gb231, _, none⟩) (by first | exact Kd.own_blk (Kd.R_ne HO243.out BK231.out (by decide)) | (rw [add_block]; exact Kd.own_blk (Kd.R_ne HO243.out BK231.out (by decide))) | (show (Addr.add _ _).block ≠ _; rw [add_block]; exact Kd.own_blk (Kd.R_ne HO243.out BK231.out (by decide))) | (dsimp only; exact Kd.own_blk (Kd.R_ne HO243.out BK231.out (by decide)))) _).trans (((cell_far (p := ⟨gb231, _, none⟩) (by first | exact Kd.own_blk (Kd.R_ne HO243.out BK231.out (by decide)) | (rw [add_block]; exact Kd.own_blk (Kd.R_ne HO243.out BK231.out (by decide))) | (show (Addr.add _ _).block ≠ _; rw [add_block]; exact Kd.own_blk (Kd.R_ne HO243.out BK231.out (by decide))) | (dsimp only; exact Kd.own_blk (Kd.R_ne HO243.out BK231.out (by decide)))) _).trans (hHeld.2.2.2.2.2.2.2))))⟩ (fun hHeld => ?_)
    clear hK K
    refine pure_ (i := 12) (N := some 3) (v := ?_) (a' := ?_) #[true, true, true, true, true, true, true, true, true, true, true, true, true, false] rfl rfl (any_of HT_.out (by kernel_rfl)) (fun _ _ _ h => h) (Or.inl ⟨by rfl, ?_⟩) ?_ ?_
    rotate_left
    ·
     intro w'
     go_simp
     with_reducible rfl
    rotate_left
    ·
     simp only [Act.put, List.setIfInBounds_toArray, List.set_cons_zero, List.set_cons_succ, i64_w, i32_w]
     rfl
    refine pure_ (i := 13) (N := some 4) (v := ?_) (a' := ?_) #[true, true, true, true, true, true, true, true, true, true, true, true, true, true] rfl rfl (any_of HT_.out (by kernel_rfl)) (fun _ _ _ h => h) (Or.inl ⟨by rfl, ?_⟩) ?_ ?_
    rotate_left
    ·
     intro w'
     go_simp
     with_reducible rfl
    rotate_left
    ·
     simp only [Act.put, List.setIfInBounds_toArray, List.set_cons_zero, List.set_cons_succ, i64_w, i32_w]
     rfl
    refine done_ (done_of HT_.out (by kernel_rfl)) ?_
    try go_wp2
    refine bodyPost_ret (results_ctt rfl _ _ gb231 29 #[.int .i64 t240, .slice (some ad250) t241.length co19] (0, 0) _ rfl (by (with_reducible repeat (first | refine blk_drewN ?_ _ | refine blk_drew ?_ | refine blk_alloc ?_ _)); refine blk_put (cs := #[.int .i64 t240, .slice none 0 0]) ?_ 1 _ rfl; (with_reducible repeat (first | refine blk_drewN ?_ _ | refine blk_drew ?_ | refine blk_alloc ?_ _)); refine blk_put (cs := #[.int .i64 0, .slice none 0 0]) ?_ 0 _ rfl; (with_reducible repeat (first | refine blk_drewN ?_ _ | refine blk_drew ?_ | refine blk_alloc ?_ _)); exact BK231.out) Try.underlying29 rfl (by kernel_rfl)) rfl ?_
    exact ⟨_, by first | rfl | (simp [errW_none, errW_some] <;> rfl) | (simp [*, errW_none, errW_some] <;> rfl), by (with_reducible repeat (first | apply Kd.R_alloc | apply Kd.R_drewN | apply Kd.R_drew)); exact Kd.R_mono (Kd.R_far (p := ⟨gb231, 1, none⟩) (Kd.R_far (p := ⟨gb231, 0, none⟩) (Kd.R_types HO243.out BK231.out (by decide)) (fun _ hk => hk.2) (.int .i64 t240)) (fun _ hk => hk.2) (.slice (some ad250) t241.length co19)) (fun _ hk => trivial), spec_DrawPostTo_auHB⟩
   ·
    rw [if_neg c9] at H
    exact absurd H (by simp)
  ·
   rw [if_neg c8] at H
   have c8b0 : decide (0 < t248) = false := decide_eq_false c8
   clear c8
   obtain ⟨y252, hy252⟩ : ∃ y_ : List Int, y_ = (([1, 2, 3, 0, 4] : List Int)) := ⟨_, rfl⟩
   replace H : ((spec_l9Rd_num.f k t232 t249 y252).bind fun bt255 => (some (t240, t241, t246, bt255.1))) = some (r1, r2, r3, r4) := by first | (rw [hy252]; with_reducible exact H) | (have H2_ := (Option.bind_some _ _).symm.trans H; rw [hy252]; with_reducible exact H2_) | (have H2_ := (Option.bind_some _ _).symm.trans H; with_reducible exact H2_) | with_reducible exact H | (rw [hy252]; exact H) | exact H
   have Ny252 := Aside0.mk hy252
   clear hy252
   replace H := Option.bind_eq_some_iff.mp H
   obtain ⟨⟨t255, t256⟩, A260, H⟩ := H
   replace H : (some (t240, t241, t246, t255)) = some (r1, r2, r3, r4) := H
   have A26 := Aside0.mk A260
   clear A260
   simp only [Option.some.injEq, Prod.mk.injEq] at H
   obtain ⟨rfl, rfl, rfl, rfl⟩ := H
   go_enter Try.func33, Try.ntmps33
   try go_wp2_with (first | ((with_reducible refine gate_dst (N := 2) rfl ?_); refine box_event ?hg (N := 2) ?hd (cs := #[.int .i64 0, .slice none 0 0]) (t := 29) ?hr ?_; (case hd => rfl); (case hg => rfl); (case hr => first | (go_simp; done) | (go_simp; rfl)); intro gb231 hg w27 hbox hb; have n0_ := Aside0.mk (below_step (spec_DrawPostTo_auHB) hb); have n1_ := Aside0.mk (hbox); have n2_ := Aside0.mk ((by rw [hg]; exact (below_size (spec_DrawPostTo_auHB)) : w.heap.size ≤ gb231)); have n3_ := Aside0.mk ((by rw [hg]; exact (below_size (spec_DrawPostTo_auHB)) : w.heap.size ≤ gb231)); clear HB; have HB := n0_; have BK231 := n1_; have GW231 := n2_; have GE231 := n3_; clear n0_ n1_ n2_ n3_; clear hb hbox hg) | ((with_reducible refine gate_callee (f := 40) rfl ?_); refine goesL_ (some 9) rfl rfl Try.func40 (by kernel_rfl) rfl #[.slice A0 l0.length c0] rfl (by (try simp only [List.map_toArray, List.map_cons, List.map_nil]); first | done | rfl | (simp only [List.length_drop, List.length_take]; rfl)) ?_; (with_reducible refine (spec_l9Open.calls _ _ l0 t232 t233 w _ ?side1 ?side2 ?side3 A2.out).mono ?_); (case side1 => exact spec_DrawPostTo_auHB); (case side2 => exact HR0.out); (case side3 => exact HC0.out); rintro e w28 ⟨g234, rfl, hi, hb, hb2⟩; refine ⟨_, rfl, ?_⟩; have n0_ := Aside0.mk (blk_below (g := gb231) (o := .cells #[.int .i64 0, .slice none 0 0] 29 (0, 0)) (spec_DrawPostTo_vb BK231) hb2); have n1_ := Aside0.mk (hb); have n2_ := Aside0.mk (hi); have n3_ := Aside0.mk (IsS74.ne_blk hi (blk_below (g := gb231) (o := .cells #[.int .i64 0, .slice none 0 0] 29 (0, 0)) (spec_DrawPostTo_vb BK231) hb2) (by decide)); have n4_ := Aside0.mk (Ne.symm (IsS74.ne_blk hi (blk_below (g := gb231) (o := .cells #[.int .i64 0, .slice none 0 0] 29 (0, 0)) (spec_DrawPostTo_vb BK231) hb2) (by decide))); clear BK231; clear HB; have BK231 := n0_; have HB := n1_; have HI234 := n2_; have NB234_231 := n3_; have NB231_234 := n4_; clear n0_ n1_ n2_ n3_ n4_; (try clear hb); (try clear hb2); (try clear hk); (try clear hi)) | ((with_reducible refine gate_callee (f := 41) rfl ?_); refine goesL_ (some 12) rfl rfl Try.func41 (by kernel_rfl) rfl #[.pointer (some ⟨g234, 0, none⟩)] rfl (by (try simp only [List.map_toArray, List.map_cons, List.map_nil]); first | done | rfl | (simp only [List.length_drop, List.length_take]; rfl)) ?_; (with_reducible refine (spec_l1Post.calls k g234 t232 t233 t235 t236 t239 w _ ?side1 ?side2 A3.out).mono ?_); (case side1 => exact spec_DrawPostTo_auHI234); (case side2 => exact spec_DrawPostTo_auHB); rintro e w29 ⟨v237, rfl, ho0, hi, hb, hk⟩; refine ⟨_, rfl, ?_⟩; have n0_ := Aside0.mk (KeepBut.blk hk (g' := gb231) (o := .cells #[.int .i64 0, .slice none 0 0] 29 (0, 0)) (spec_DrawPostTo_vb BK231) NB231_234.out (by simp)); have n1_ := Aside0.mk (Kd.R_lower ho0 (below_size (spec_DrawPostTo_auHB))); have n2_ := Aside0.mk (hb); have n3_ := Aside0.mk (hi); clear BK231; clear HB; clear HI234; have BK231 := n0_; have HO238 := n1_; have HB := n2_; have HI234 := n3_; clear n0_ n1_ n2_ n3_; (try clear hb); (try clear hb2); (try clear hk); (try clear hi); (try clear ho0); obtain ⟨Ao30, co30, eo30⟩ := Kd.R_slice HO238.out; subst eo30) | ((with_reducible refine gate_callee (f := 42) rfl ?_); refine goesL_ (some 13) rfl rfl Try.func42 (by kernel_rfl) rfl #[.pointer (some ⟨g234, 0, none⟩), .agg #[.int .i64 t235, .slice Ao30 t236.length co30]] rfl (by (try simp only [List.map_toArray, List.map_cons, List.map_nil]); first | done | rfl | (simp only [List.length_drop, List.length_take]; rfl)) ?_; (with_reducible refine (spec_l1Bent.calls k g234 t232 t239 t235 _ _ t236 t240 t241 t244 w _ ?side1 ?side2 ?side3 ?side4 A4.out).mono ?_); (case side1 => exact spec_DrawPostTo_auHI234); (case side2 => exact spec_DrawPostTo_auHB); (case side3 => exact Kd.C_foot_own (IsS74.apart (show IsS74 w _ g234 t232 t239 from spec_DrawPostTo_auHI234) (by (with_reducible repeat (first | apply Kd.R_alloc | apply Kd.R_drewN | apply Kd.R_drew)); exact HO238.out) (by decide)) (fun _ h_ => h_.2)); (case side4 => exact (Kd.R_reads' HO238.out).2.1); rintro e w31 ⟨v242, rfl, ho0, hi, hb, hk⟩; refine ⟨_, rfl, ?_⟩; have n0_ := Aside0.mk (KeepBut.blk hk (g' := gb231) (o := .cells #[.int .i64 0, .slice none 0 0] 29 (0, 0)) (spec_DrawPostTo_vb BK231) NB231_234.out (by simp)); have n1_ := Aside0.mk (Kd.R_mono (Kd.R_told (Kd.R_oldK (IsS74.apart (show IsS74 w _ g234 t232 t239 from spec_DrawPostTo_auHI234) (by (with_reducible repeat (first | apply Kd.R_alloc | apply Kd.R_drewN | apply Kd.R_drew)); exact HO238.out) (by decide)) hk) (Kd.R_base ho0)) (fun _ h_ => h_.1)); have n2_ := Aside0.mk (Kd.R_lower (Kd.R_new' ho0 (Kd.R_lt (by (with_reducible repeat (first | apply Kd.R_alloc | apply Kd.R_drewN | apply Kd.R_drew)); exact HO238.out))) (below_size (spec_DrawPostTo_auHB))); have n3_ := Aside0.mk (hb); have n4_ := Aside0.mk (hi); clear BK231; clear HO238; clear HB; clear HI234; have BK231 := n0_; have HO238 := n1_; have HO243 := n2_; have HB := n3_; have HI234 := n4_; clear n0_ n1_ n2_ n3_ n4_; (try clear hb); (try clear hb2); (try clear hk); (try clear hi); (try clear ho0)) | ((with_reducible refine gate_dst (N := 6) rfl ?_); refine box_event ?hg (N := 6) ?hd (cs := #[.int .i64 0, .slice none 0 0]) (t := 29) ?hr ?_; (case hd => rfl); (case hg => rfl); (case hr => first | (go_simp; done) | (go_simp; rfl)); intro gb245 hg w32 hbox hb; have n0_ := Aside0.mk (Kd.R_below (by (with_reducible repeat (first | apply Kd.R_alloc | apply Kd.R_drewN | apply Kd.R_drew)); exact HO238.out) hb); have n1_ := Aside0.mk (Kd.R_below (by (with_reducible repeat (first | apply Kd.R_alloc | apply Kd.R_drewN | apply Kd.R_drew)); exact HO243.out) hb); have n2_ := Aside0.mk (blk_below (g := gb231) (o := .cells #[.int .i64 0, .slice none 0 0] 29 (0, 0)) (spec_DrawPostTo_vb BK231) hb); have n3_ := Aside0.mk (IsS74.below (spec_DrawPostTo_auHI234) hb); have n4_ := Aside0.mk (below_step (spec_DrawPostTo_auHB) hb); have n5_ := Aside0.mk (hbox); have n6_ := Aside0.mk ((by rw [hg]; exact (below_size (spec_DrawPostTo_auHB)) : w.heap.size ≤ gb245)); have n7_ := Aside0.mk ((by rw [hg]; exact (below_size (spec_DrawPostTo_auHB)) : w.heap.size ≤ gb245)); have n8_ := Aside0.mk ((by rw [hg]; exact Nat.ne_of_lt (blk_lt (g := gb231) (o := .cells #[.int .i64 0, .slice none 0 0] 29 (0, 0)) (spec_DrawPostTo_vb BK231)) : gb231 ≠ gb245)); have n9_ := Aside0.mk ((by rw [hg]; exact Nat.ne_of_gt (blk_lt (g := gb231) (o := .cells #[.int .i64 0, .slice none 0 0] 29 (0, 0)) (spec_DrawPostTo_vb BK231)) : gb245 ≠ gb231)); have n10_ := Aside0.mk ((by rw [hg]; exact Nat.ne_of_lt (IsS74.lt (show IsS74 w _ g234 t232 t244 from spec_DrawPostTo_auHI234)) : g234 ≠ gb245)); have n11_ := Aside0.mk ((by rw [hg]; exact Nat.ne_of_gt (IsS74.lt (show IsS74 w _ g234 t232 t244 from spec_DrawPostTo_auHI234)) : gb245 ≠ g234)); clear HO238; clear HO243; clear BK231; clear HI234; clear HB; have HO238 := n0_; have HO243 := n1_; have BK231 := n2_; have HI234 := n3_; have HB := n4_; have BK245 := n5_; have GW245 := n6_; have GE245 := n7_; have NB231_245 := n8_; have NB245_231 := n9_; have NB234_245 := n10_; have NB245_234 := n11_; clear n0_ n1_ n2_ n3_ n4_ n5_ n6_ n7_ n8_ n9_ n10_ n11_; clear hb hbox hg; have hnb33 := NB245_231.out; have hnc33 := NB231_245.out; have hnb34 := NB245_234.out; have hnc34 := NB234_245.out; have hcz35_0 : w32.cell? ⟨gb245, 0, none⟩ = some (.int .i64 0) := (blk_cell BK245.out 0).trans rfl; have hcz35_1 : w32.cell? ⟨gb245, 1, none⟩ = some (.slice none 0 0) := (blk_cell BK245.out 1).trans rfl; have hfz35_0 := blk_frozen BK245.out 0; have hfz35_1 := blk_frozen BK245.out 1; obtain ⟨Ao36, co36, eo36⟩ := Kd.R_slice HO243.out; subst eo36) | ((with_reducible refine gate_callee (f := 45) rfl ?_); refine goesL_ (some 15) rfl rfl Try.func45 (by kernel_rfl) rfl #[.pointer (some ⟨g234, 0, none⟩)] rfl (by (try simp only [List.map_toArray, List.map_cons, List.map_nil]); first | done | rfl | (simp only [List.length_drop, List.length_take]; rfl)) ?_; (with_reducible refine (spec_l1Acct.calls k g234 t232 t244 t246 t247 w _ ?side1 ?side2 A5.out).mono ?_); (case side1 => exact spec_DrawPostTo_auHI234); (case side2 => exact spec_DrawPostTo_auHB); rintro e w37 ⟨rfl, hi, hb, hk⟩; refine ⟨_, rfl, ?_⟩; have n0_ := Aside0.mk (KeepBut.blk hk (g' := gb231) (o := .cells #[.int .i64 0, .slice none 0 0] 29 (0, 0)) (by (with_reducible repeat (first | refine blk_drewN ?_ _ | refine blk_drew ?_ | refine blk_alloc ?_ _)); refine blk_far ?_ NB231_245.out _; (with_reducible repeat (first | refine blk_drewN ?_ _ | refine blk_drew ?_ | refine blk_alloc ?_ _)); refine blk_far ?_ NB231_245.out _; (with_reducible repeat (first | refine blk_drewN ?_ _ | refine blk_drew ?_ | refine blk_alloc ?_ _)); exact BK231.out) NB231_234.out (by simp)); have n1_ := Aside0.mk (Kd.R_mono (Kd.R_keep (IsS74.apart (show IsS74 w _ g234 t232 t244 from spec_DrawPostTo_auHI234) (by (with_reducible repeat (first | apply Kd.R_alloc | apply Kd.R_drewN | apply Kd.R_drew)); exact (Kd.R_mono (Kd.R_far (p := ⟨gb245, 1, none⟩) (Kd.R_far (p := ⟨gb245, 0, none⟩) (Kd.R_types HO238.out BK245.out (by decide)) (fun _ hk => hk.2) (.int .i64 t240)) (fun _ hk => hk.2) (.slice Ao36 t241.length co36)) (fun _ h_ => h_.1))) (by decide)) hk (fun _ h => h.2)) (fun _ h => h.1)); have n2_ := Aside0.mk (Kd.R_mono (Kd.R_keep (IsS74.apart (show IsS74 w _ g234 t232 t244 from spec_DrawPostTo_auHI234) (by (with_reducible repeat (first | apply Kd.R_alloc | apply Kd.R_drewN | apply Kd.R_drew)); exact (Kd.R_mono (Kd.R_far (p := ⟨gb245, 1, none⟩) (Kd.R_far (p := ⟨gb245, 0, none⟩) (Kd.R_types HO243.out BK245.out (by decide)) (fun _ hk => hk.2) (.int .i64 t240)) (fun _ hk => hk.2) (.slice Ao36 t241.length co36)) (fun _ h_ => h_.1))) (by decide)) hk (fun _ h => h.2)) (fun _ h => h.1)); have n3_ := Aside0.mk (KeepBut.blk hk (g' := gb245) (o := .cells #[.int .i64 t240, .slice Ao36 t241.length co36] 29 (0, 0)) (by (with_reducible repeat (first | refine blk_drewN ?_ _ | refine blk_drew ?_ | refine blk_alloc ?_ _)); refine blk_put (cs := #[.int .i64 t240, .slice none 0 0]) ?_ 1 _ rfl; (with_reducible repeat (first | refine blk_drewN ?_ _ | refine blk_drew ?_ | refine blk_alloc ?_ _)); refine blk_put (cs := #[.int .i64 0, .slice none 0 0]) ?_ 0 _ rfl; (with_reducible repeat (first | refine blk_drewN ?_ _ | refine blk_drew ?_ | refine blk_alloc ?_ _)); exact BK245.out) NB245_234.out (by simp)); have n4_ := Aside0.mk (hb); have n5_ := Aside0.mk (hi); clear BK231; clear HO238; clear HO243; clear BK245; clear HB; clear HI234; have BK231 := n0_; have HO238 := n1_; have HO243 := n2_; have BK245 := n3_; have HB := n4_; have HI234 := n5_; clear n0_ n1_ n2_ n3_ n4_ n5_; (try clear hb); (try clear hb2); (try clear hk); (try clear hi); have hcz38_0 : w37.cell? ⟨gb245, 0, none⟩ = some (.int .i64 t240) := (blk_cell BK245.out 0).trans rfl; have hcz38_1 : w37.cell? ⟨gb245, 1, none⟩ = some (.slice Ao36 t241.length co36) := (blk_cell BK245.out 1).trans rfl; have hfz38_0 := blk_frozen BK245.out 0; have hfz38_1 := blk_frozen BK245.out 1) | (go_at_call 43; (with_reducible refine (spec_l9Rd_pick.calls k g234 t232 t247 3 t248 t249 w _ ?side1 ?side2 A7.out).mono ?_); (case side1 => exact spec_DrawPostTo_auHI234); (case side2 => exact spec_DrawPostTo_auHB); rintro e w39 ⟨rfl, hi, hb, hk⟩; have n0_ := Aside0.mk (KeepBut.blk hk (g' := gb231) (o := .cells #[.int .i64 0, .slice none 0 0] 29 (0, 0)) (spec_DrawPostTo_vb BK231) NB231_234.out (by simp)); have n1_ := Aside0.mk (Kd.R_mono (Kd.R_keep (IsS74.apart (show IsS74 w _ g234 t232 t247 from spec_DrawPostTo_auHI234) (by (with_reducible repeat (first | apply Kd.R_alloc | apply Kd.R_drewN | apply Kd.R_drew)); exact HO238.out) (by decide)) hk (fun _ h => h.2)) (fun _ h => h.1)); have n2_ := Aside0.mk (Kd.R_mono (Kd.R_keep (IsS74.apart (show IsS74 w _ g234 t232 t247 from spec_DrawPostTo_auHI234) (by (with_reducible repeat (first | apply Kd.R_alloc | apply Kd.R_drewN | apply Kd.R_drew)); exact HO243.out) (by decide)) hk (fun _ h => h.2)) (fun _ h => h.1)); have n3_ := Aside0.mk (KeepBut.blk hk (g' := gb245) (o := .cells #[.int .i64 t240, .slice Ao36 t241.length co36] 29 (0, 0)) (spec_DrawPostTo_vb BK245) NB245_234.out (by simp)); have n4_ := Aside0.mk (hb); have n5_ := Aside0.mk (hi); clear BK231; clear HO238; clear HO243; clear BK245; clear HB; clear HI234; have BK231 := n0_; have HO238 := n1_; have HO243 := n2_; have BK245 := n3_; have HB := n4_; have HI234 := n5_; clear n0_ n1_ n2_ n3_ n4_ n5_; (try clear hb); (try clear hb2); (try clear hk); (try clear hi)))
   have n0_ := Aside0.mk (Kd.R_drew HO238.out)
   have n1_ := Aside0.mk (Kd.R_drew HO243.out)
   have n2_ := Aside0.mk (blk_drew BK231.out)
   have n3_ := Aside0.mk (blk_drew BK245.out)
   have n4_ := Aside0.mk (IsS74.drew HI234.out)
   have n5_ := Aside0.mk (below_drew1 HB.out)
   clear HO238
   clear HO243
   clear BK231
   clear BK245
   clear HI234
   clear HB
   have HO238 := n0_
   have HO243 := n1_
   have BK231 := n2_
   have BK245 := n3_
   have HI234 := n4_
   have HB := n5_
   clear n0_ n1_ n2_ n3_ n4_ n5_
   refine start_ (n := 8) (S := fun w' => w'.cell? ⟨gb245, 0, none⟩ = some (.int .i64 t240) ∧ w'.cell? ⟨gb245, 1, none⟩ = some (.slice Ao36 t241.length co36)) (ds := []) #[false, false, false, false, false, false, false, false] (by kernel_rfl) rfl rfl ⟨(blk_cell BK245.out 0).trans rfl, (blk_cell BK245.out 1).trans rfl⟩ (fun hHeld => ?_); refine with_tabW spec_DrawPostTo.tab6 spec_DrawPostTo.bits6 (fun HT_ HW_ => ?_)
   generalize w39.drew = w40 at HO238 HO243 BK231 BK245 HI234 HB hHeld ⊢
   refine pure_ (i := 1) (N := some 37) (v := ?_) (a' := ?_) #[false, true, false, false, false, false, false, false] rfl rfl (any_of HT_.out (by kernel_rfl)) (fun _ _ _ h => h) (Or.inl ⟨by rfl, ?_⟩) ?_ ?_
   rotate_left
   ·
    intro w'
    go_simp
    with_reducible rfl
   rotate_left
   ·
    simp only [Act.put, List.setIfInBounds_toArray, List.set_cons_zero, List.set_cons_succ, i64_w, i32_w]
    rfl
   refine pure_ (i := 2) (N := some 38) (v := ?_) (a' := ?_) #[false, true, true, false, false, false, false, false] rfl rfl (any_of HT_.out (by kernel_rfl)) (fun _ _ _ h => h) (Or.inl ⟨by rfl, ?_⟩) ?_ ?_
   rotate_left
   ·
    intro w'
    go_simp
    with_reducible rfl
   rotate_left
   ·
    simp only [Act.put, List.setIfInBounds_toArray, List.set_cons_zero, List.set_cons_succ, i64_w, i32_w]
    rfl
   refine take_ (i := 0) (N := some 36) (v := ?_) (a' := ?_) #[true, true, true, false, false, false, false, false] rfl rfl (take_ofW HT_.out HW_.out (by kernel_rfl)) (fun _ _ _ h => h) (Or.inl ⟨by rfl, ?_⟩) hHeld ?_ ?_
   rotate_left
   ·
    rintro w' ⟨s0, s1⟩
    go_simp
    with_reducible rfl
   rotate_left
   ·
    simp only [Act.put, List.setIfInBounds_toArray, List.set_cons_zero, List.set_cons_succ, i64_w, i32_w]
    rfl
   refine one_ (i := 3) (N := some 39) #[true, true, true, true, false, false, false, false] rfl rfl (one_of HT_.out (by kernel_rfl)) (by decide) (fun K hK => ?_)
   refine Kd.R_lit_step (Kd.int .i64) _ 3 ?hg (N := 39) ?hd (xs := ([1, 2, 3, 0, 4] : List Int)) (inner := [.int .i64 1, .int .i64 2, .int .i64 3, .int .i64 0, .int .i64 4]) (ok := fun _ => True) (okp := fun _ => True) ?hr ?hp (fun _ hk => hk) trivial (Below.refl _ _) (Nat.le_refl _) (by simp) ?_; (case hd => rfl); (case hg => rfl); (case hr => first | (go_simp; done) | (go_simp; rfl)); (case hp => exact (Reps.one (show Kd.M (Kd.int .i64) _ _ _ 1 [.int .i64 1] from rfl) (Reps.one (show Kd.M (Kd.int .i64) _ _ _ 2 [.int .i64 2] from rfl) (Reps.one (show Kd.M (Kd.int .i64) _ _ _ 3 [.int .i64 3] from rfl) (Reps.one (show Kd.M (Kd.int .i64) _ _ _ 0 [.int .i64 0] from rfl) (Reps.one (show Kd.M (Kd.int .i64) _ _ _ 4 [.int .i64 4] from rfl) (Reps.none _ _)))))))
   intro v253 w41 ho42 hb hg_ hnew_
   clear hg_ hnew_
   (first | rw [← Ny252.out] at ho42 | (simp only [Int.reduceToNat] at ho42; rw [← Ny252.out] at ho42))
   have n0_ := Aside0.mk (Kd.R_below (by (with_reducible repeat (first | apply Kd.R_alloc | apply Kd.R_drewN | apply Kd.R_drew)); exact HO238.out) hb)
   have n1_ := Aside0.mk (Kd.R_below (by (with_reducible repeat (first | apply Kd.R_alloc | apply Kd.R_drewN | apply Kd.R_drew)); exact HO243.out) hb)
   have n2_ := Aside0.mk (Kd.R_lower ho42 (below_size (spec_DrawPostTo_auHB)))
   have n3_ := Aside0.mk (blk_below (g := gb231) (o := .cells #[.int .i64 0, .slice none 0 0] 29 (0, 0)) (spec_DrawPostTo_vb BK231) hb)
   have n4_ := Aside0.mk (IsS74.below (spec_DrawPostTo_auHI234) hb)
   have n5_ := Aside0.mk (blk_below (g := gb245) (o := .cells #[.int .i64 t240, .slice Ao36 t241.length co36] 29 (0, 0)) (spec_DrawPostTo_vb BK245) hb)
   have n6_ := Aside0.mk (below_step (spec_DrawPostTo_auHB) hb)
   clear HO238
   clear HO243
   clear BK231
   clear HI234
   clear BK245
   clear HB
   have HO238 := n0_
   have HO243 := n1_
   have HO254 := n2_
   have BK231 := n3_
   have HI234 := n4_
   have BK245 := n5_
   have HB := n6_
   clear n0_ n1_ n2_ n3_ n4_ n5_ n6_
   clear hb ho42
   obtain ⟨Ao43, co43, eo43⟩ := Kd.R_slice HO254.out
   (first | subst eo43 | (injection eo43 with f1_ f2_ f3_; have f4_ := f1_.symm; have f5_ := f3_.symm; clear f1_ f2_ f3_; subst f4_; subst f5_))
   refine hK.out _ _ ⟨(blk_cell BK245.out 0).trans rfl, (blk_cell BK245.out 1).trans rfl⟩ (fun hHeld => ?_)
   clear hK K
   refine norm_ (a' := ?_) ?_ ?_
   rotate_left
   ·
    show Act.put _ (some 39) _ = _
    simp only [Act.put, List.setIfInBounds_toArray, List.set_cons_zero, List.set_cons_succ, i64_w, i32_w]
    rfl
   refine one_ (i := 4) (N := some 40) #[true, true, true, true, true, false, false, false] rfl rfl (one_of HT_.out (by kernel_rfl)) (by decide) (fun K hK => ?_)
   refine goes_ Try.func46 (by kernel_rfl) rfl #[.pointer (some ⟨g234, 0, none⟩), .slice Ao43 y252.length co43] (by rfl) rfl rfl (by (try simp only [List.map_toArray, List.map_cons, List.map_nil]); first | done | rfl | (simp only [List.length_drop, List.length_take]; rfl)) ?_
   with_reducible refine (spec_l9Rd_num.calls k g234 t232 t249 _ _ y252 t255 t256 w _ ?side1 ?side2 ?side3 ?side4 ?side5 A26.out).mono ?_
   (case side1 => exact spec_DrawPostTo_auHI234)
   (case side2 => exact spec_DrawPostTo_auHB)
   (case side3 => repeat (first | exact (Kd.R_reads' HO254.out).2.2 | (with_reducible refine Kd.C_alloc ?_ _) | (with_reducible refine Kd.C_drewN ?_ _) | (with_reducible refine Kd.C_drew ?_)))
   (case side4 => exact (Kd.R_reads' HO254.out).2.1)
   (case side5 => exact far_slice (IsS74.own_ne HI234.out HO254.out (by decide)))
   rintro e w44 ⟨rfl, hi, hb, hk⟩
   refine ⟨_, rfl, ?_⟩
   have n0_ := Aside0.mk (KeepBut.blk hk (g' := gb231) (o := .cells #[.int .i64 0, .slice none 0 0] 29 (0, 0)) (spec_DrawPostTo_vb BK231) NB231_234.out (by simp))
   have n1_ := Aside0.mk (Kd.R_mono (Kd.R_keep (IsS74.apart (show IsS74 w _ g234 t232 t249 from spec_DrawPostTo_auHI234) (by (with_reducible repeat (first | apply Kd.R_alloc | apply Kd.R_drewN | apply Kd.R_drew)); exact HO238.out) (by decide)) hk (fun _ h => h.2)) (fun _ h => h.1))
   have n2_ := Aside0.mk (Kd.R_mono (Kd.R_keep (IsS74.apart (show IsS74 w _ g234 t232 t249 from spec_DrawPostTo_auHI234) (by (with_reducible repeat (first | apply Kd.R_alloc | apply Kd.R_drewN | apply Kd.R_drew)); exact HO243.out) (by decide)) hk (fun _ h => h.2)) (fun _ h => h.1))
   have n3_ := Aside0.mk (KeepBut.blk hk (g' := gb245) (o := .cells #[.int .i64 t240, .slice Ao36 t241.length co36] 29 (0, 0)) (spec_DrawPostTo_vb BK245) NB245_234.out (by simp))
   have n4_ := Aside0.mk (Kd.R_mono (Kd.R_keep (IsS74.apart (show IsS74 w _ g234 t232 t249 from spec_DrawPostTo_auHI234) (by (with_reducible repeat (first | apply Kd.R_alloc | apply Kd.R_drewN | apply Kd.R_drew)); exact HO254.out) (by decide)) hk (fun _ h => h.2)) (fun _ h => h.1))
   have n5_ := Aside0.mk (hb)
   have n6_ := Aside0.mk (hi)
   clear BK231
   clear HO238
   clear HO243
   clear BK245
   clear HO254
   clear HB
   clear HI234
   have BK231 := n0_
   have HO238 := n1_
   have HO243 := n2_
   have BK245 := n3_
   have HO254 := n4_
   have HB := n5_
   have HI234 := n6_
   clear n0_ n1_ n2_ n3_ n4_ n5_ n6_
   (try clear hb)
   (try clear hb2)
   (try clear hk)
   (try clear hi)
   refine hK.out _ _ ⟨(blk_cell BK245.out 0).trans rfl, (blk_cell BK245.out 1).trans rfl⟩ (fun hHeld => ?_)
   clear hK K
   refine norm_ (a' := ?_) ?_ ?_
   rotate_left
   ·
    show Act.put _ (some 40) _ = _
    simp only [Act.put, List.setIfInBounds_toArray, List.set_cons_zero, List.set_cons_succ, i64_w, i32_w]
    rfl
   refine one_ (i := 5) (N := none) #[true, true, true, true, true, true, false, false] rfl rfl (one_of HT_.out (by kernel_rfl)) (by decide) (fun K hK => ?_)
   have hs45 : w44.cell? ⟨gb231, 0, none⟩ = some (.int .i64 0) := (blk_cell BK231.out 0).trans rfl
   have hfs45 := blk_frozen BK231.out 0
   have hns45_1 := NB245_231.out
   have hms45_1 := NB231_245.out
   have hs46 : w44.cell? ⟨gb231, 1, none⟩ = some (.slice none 0 0) := (blk_cell BK231.out 1).trans rfl
   have hfs46 := blk_frozen BK231.out 1
   have hns46_1 := NB245_231.out
   have hms46_1 := NB231_245.out
   refine skip_ (w1 := ?_) (by rfl) rfl ?_ ?_
   rotate_left
   ·
    go_simp
    rfl
   refine hK.out _ _ ⟨((cell_far (p := ⟨gb231, _, none⟩) NB245_231.out _).trans (((cell_far (p := ⟨gb231, _, none⟩) NB245_231.out _).trans (hHeld.1)))), ((cell_far (p := ⟨gb231, _, none⟩) NB245_231.out _).trans (((cell_far (p := ⟨gb231, _, none⟩) NB245_231.out _).trans (hHeld.2))))⟩ (fun hHeld => ?_)
   clear hK K
   refine pure_ (i := 6) (N := some 3) (v := ?_) (a' := ?_) #[true, true, true, true, true, true, true, false] rfl rfl (any_of HT_.out (by kernel_rfl)) (fun _ _ _ h => h) (Or.inl ⟨by rfl, ?_⟩) ?_ ?_
   rotate_left
   ·
    intro w'
    go_simp
    with_reducible rfl
   rotate_left
   ·
    simp only [Act.put, List.setIfInBounds_toArray, List.set_cons_zero, List.set_cons_succ, i64_w, i32_w]
    rfl
   refine pure_ (i := 7) (N := some 4) (v := ?_) (a' := ?_) #[true, true, true, true, true, true, true, true] rfl rfl (any_of HT_.out (by kernel_rfl)) (fun _ _ _ h => h) (Or.inl ⟨by rfl, ?_⟩) ?_ ?_
   rotate_left
   ·
    intro w'
    go_simp
    with_reducible rfl
   rotate_left
   ·
    simp only [Act.put, List.setIfInBounds_toArray, List.set_cons_zero, List.set_cons_succ, i64_w, i32_w]
    rfl
   refine done_ (done_of HT_.out (by kernel_rfl)) ?_
   try go_wp2
   refine bodyPost_ret (results_ctt rfl _ _ gb231 29 #[.int .i64 t240, .slice Ao36 t241.length co36] (0, 0) _ rfl (by (with_reducible repeat (first | refine blk_drewN ?_ _ | refine blk_drew ?_ | refine blk_alloc ?_ _)); refine blk_put (cs := #[.int .i64 t240, .slice none 0 0]) ?_ 1 _ rfl; (with_reducible repeat (first | refine blk_drewN ?_ _ | refine blk_drew ?_ | refine blk_alloc ?_ _)); refine blk_put (cs := #[.int .i64 0, .slice none 0 0]) ?_ 0 _ rfl; (with_reducible repeat (first | refine blk_drewN ?_ _ | refine blk_drew ?_ | refine blk_alloc ?_ _)); exact BK231.out) Try.underlying29 rfl (by kernel_rfl)) rfl ?_
   exact ⟨_, by first | rfl | (simp [errW_none, errW_some] <;> rfl) | (simp [*, errW_none, errW_some] <;> rfl), by (with_reducible repeat (first | apply Kd.R_alloc | apply Kd.R_drewN | apply Kd.R_drew)); exact Kd.R_mono (Kd.R_far (p := ⟨gb231, 1, none⟩) (Kd.R_far (p := ⟨gb231, 0, none⟩) (Kd.R_types HO243.out BK231.out (by decide)) (fun _ hk => hk.2) (.int .i64 t240)) (fun _ hk => hk.2) (.slice Ao36 t241.length co36)) (fun _ hk => trivial), spec_DrawPostTo_auHB⟩
 ·
  rw [if_neg c6] at H
  have c6b0 : decide (0 < (t241.length : Int)) = false := decide_eq_false c6
  have c6b1 : decide (0 < t241.length) = false := decide_eq_false (by omega)
  clear c6
  obtain ⟨y257, hy257⟩ : ∃ y_ : List Int, y_ = (([1, 2, 3, 0, 4] : List Int)) := ⟨_, rfl⟩
  replace H : ((spec_l9Rd_num.f k t232 t247 y257).bind fun bt260 => (some (t240, t241, t246, bt260.1))) = some (r1, r2, r3, r4) := by first | (rw [hy257]; with_reducible exact H) | (have H2_ := (Option.bind_some _ _).symm.trans H; rw [hy257]; with_reducible exact H2_) | (have H2_ := (Option.bind_some _ _).symm.trans H; with_reducible exact H2_) | with_reducible exact H | (rw [hy257]; exact H) | exact H
  have Ny257 := Aside0.mk hy257
  clear hy257
  replace H := Option.bind_eq_some_iff.mp H
  obtain ⟨⟨t260, t261⟩, A470, H⟩ := H
  replace H : (some (t240, t241, t246, t260)) = some (r1, r2, r3, r4) := H
  have A47 := Aside0.mk A470
  clear A470
  simp only [Option.some.injEq, Prod.mk.injEq] at H
  obtain ⟨rfl, rfl, rfl, rfl⟩ := H
  go_enter Try.func33, Try.ntmps33
  try go_wp2_with (first | ((with_reducible refine gate_dst (N := 2) rfl ?_); refine box_event ?hg (N := 2) ?hd (cs := #[.int .i64 0, .slice none 0 0]) (t := 29) ?hr ?_; (case hd => rfl); (case hg => rfl); (case hr => first | (go_simp; done) | (go_simp; rfl)); intro gb231 hg w48 hbox hb; have n0_ := Aside0.mk (below_step (spec_DrawPostTo_auHB) hb); have n1_ := Aside0.mk (hbox); have n2_ := Aside0.mk ((by rw [hg]; exact (below_size (spec_DrawPostTo_auHB)) : w.heap.size ≤ gb231)); have n3_ := Aside0.mk ((by rw [hg]; exact (below_size (spec_DrawPostTo_auHB)) : w.heap.size ≤ gb231)); clear HB; have HB := n0_; have BK231 := n1_; have GW231 := n2_; have GE231 := n3_; clear n0_ n1_ n2_ n3_; clear hb hbox hg) | ((with_reducible refine gate_callee (f := 40) rfl ?_); refine goesL_ (some 9) rfl rfl Try.func40 (by kernel_rfl) rfl #[.slice A0 l0.length c0] rfl (by (try simp only [List.map_toArray, List.map_cons, List.map_nil]); first | done | rfl | (simp only [List.length_drop, List.length_take]; rfl)) ?_; (with_reducible refine (spec_l9Open.calls _ _ l0 t232 t233 w _ ?side1 ?side2 ?side3 A2.out).mono ?_); (case side1 => exact spec_DrawPostTo_auHB); (case side2 => exact HR0.out); (case side3 => exact HC0.out); rintro e w49 ⟨g234, rfl, hi, hb, hb2⟩; refine ⟨_, rfl, ?_⟩; have n0_ := Aside0.mk (blk_below (g := gb231) (o := .cells #[.int .i64 0, .slice none 0 0] 29 (0, 0)) (spec_DrawPostTo_vb BK231) hb2); have n1_ := Aside0.mk (hb); have n2_ := Aside0.mk (hi); have n3_ := Aside0.mk (IsS74.ne_blk hi (blk_below (g := gb231) (o := .cells #[.int .i64 0, .slice none 0 0] 29 (0, 0)) (spec_DrawPostTo_vb BK231) hb2) (by decide)); have n4_ := Aside0.mk (Ne.symm (IsS74.ne_blk hi (blk_below (g := gb231) (o := .cells #[.int .i64 0, .slice none 0 0] 29 (0, 0)) (spec_DrawPostTo_vb BK231) hb2) (by decide))); clear BK231; clear HB; have BK231 := n0_; have HB := n1_; have HI234 := n2_; have NB234_231 := n3_; have NB231_234 := n4_; clear n0_ n1_ n2_ n3_ n4_; (try clear hb); (try clear hb2); (try clear hk); (try clear hi)) | ((with_reducible refine gate_callee (f := 41) rfl ?_); refine goesL_ (some 12) rfl rfl Try.func41 (by kernel_rfl) rfl #[.pointer (some ⟨g234, 0, none⟩)] rfl (by (try simp only [List.map_toArray, List.map_cons, List.map_nil]); first | done | rfl | (simp only [List.length_drop, List.length_take]; rfl)) ?_; (with_reducible refine (spec_l1Post.calls k g234 t232 t233 t235 t236 t239 w _ ?side1 ?side2 A3.out).mono ?_); (case side1 => exact spec_DrawPostTo_auHI234); (case side2 => exact spec_DrawPostTo_auHB); rintro e w50 ⟨v237, rfl, ho0, hi, hb, hk⟩; refine ⟨_, rfl, ?_⟩; have n0_ := Aside0.mk (KeepBut.blk hk (g' := gb231) (o := .cells #[.int .i64 0, .slice none 0 0] 29 (0, 0)) (spec_DrawPostTo_vb BK231) NB231_234.out (by simp)); have n1_ := Aside0.mk (Kd.R_lower ho0 (below_size (spec_DrawPostTo_auHB))); have n2_ := Aside0.mk (hb); have n3_ := Aside0.mk (hi); clear BK231; clear HB; clear HI234; have BK231 := n0_; have HO238 := n1_; have HB := n2_; have HI234 := n3_; clear n0_ n1_ n2_ n3_; (try clear hb); (try clear hb2); (try clear hk); (try clear hi); (try clear ho0); obtain ⟨Ao51, co51, eo51⟩ := Kd.R_slice HO238.out; subst eo51) | ((with_reducible refine gate_callee (f := 42) rfl ?_); refine goesL_ (some 13) rfl rfl Try.func42 (by kernel_rfl) rfl #[.pointer (some ⟨g234, 0, none⟩), .agg #[.int .i64 t235, .slice Ao51 t236.length co51]] rfl (by (try simp only [List.map_toArray, List.map_cons, List.map_nil]); first | done | rfl | (simp only [List.length_drop, List.length_take]; rfl)) ?_; (with_reducible refine (spec_l1Bent.calls k g234 t232 t239 t235 _ _ t236 t240 t241 t244 w _ ?side1 ?side2 ?side3 ?side4 A4.out).mono ?_); (case side1 => exact spec_DrawPostTo_auHI234); (case side2 => exact spec_DrawPostTo_auHB); (case side3 => exact Kd.C_foot_own (IsS74.apart (show IsS74 w _ g234 t232 t239 from spec_DrawPostTo_auHI234) (by (with_reducible repeat (first | apply Kd.R_alloc | apply Kd.R_drewN | apply Kd.R_drew)); exact HO238.out) (by decide)) (fun _ h_ => h_.2)); (case side4 => exact (Kd.R_reads' HO238.out).2.1); rintro e w52 ⟨v242, rfl, ho0, hi, hb, hk⟩; refine ⟨_, rfl, ?_⟩; have n0_ := Aside0.mk (KeepBut.blk hk (g' := gb231) (o := .cells #[.int .i64 0, .slice none 0 0] 29 (0, 0)) (spec_DrawPostTo_vb BK231) NB231_234.out (by simp)); have n1_ := Aside0.mk (Kd.R_mono (Kd.R_told (Kd.R_oldK (IsS74.apart (show IsS74 w _ g234 t232 t239 from spec_DrawPostTo_auHI234) (by (with_reducible repeat (first | apply Kd.R_alloc | apply Kd.R_drewN | apply Kd.R_drew)); exact HO238.out) (by decide)) hk) (Kd.R_base ho0)) (fun _ h_ => h_.1)); have n2_ := Aside0.mk (Kd.R_lower (Kd.R_new' ho0 (Kd.R_lt (by (with_reducible repeat (first | apply Kd.R_alloc | apply Kd.R_drewN | apply Kd.R_drew)); exact HO238.out))) (below_size (spec_DrawPostTo_auHB))); have n3_ := Aside0.mk (hb); have n4_ := Aside0.mk (hi); clear BK231; clear HO238; clear HB; clear HI234; have BK231 := n0_; have HO238 := n1_; have HO243 := n2_; have HB := n3_; have HI234 := n4_; clear n0_ n1_ n2_ n3_ n4_; (try clear hb); (try clear hb2); (try clear hk); (try clear hi); (try clear ho0)) | ((with_reducible refine gate_dst (N := 6) rfl ?_); refine box_event ?hg (N := 6) ?hd (cs := #[.int .i64 0, .slice none 0 0]) (t := 29) ?hr ?_; (case hd => rfl); (case hg => rfl); (case hr => first | (go_simp; done) | (go_simp; rfl)); intro gb245 hg w53 hbox hb; have n0_ := Aside0.mk (Kd.R_below (by (with_reducible repeat (first | apply Kd.R_alloc | apply Kd.R_drewN | apply Kd.R_drew)); exact HO238.out) hb); have n1_ := Aside0.mk (Kd.R_below (by (with_reducible repeat (first | apply Kd.R_alloc | apply Kd.R_drewN | apply Kd.R_drew)); exact HO243.out) hb); have n2_ := Aside0.mk (blk_below (g := gb231) (o := .cells #[.int .i64 0, .slice none 0 0] 29 (0, 0)) (spec_DrawPostTo_vb BK231) hb); have n3_ := Aside0.mk (IsS74.below (spec_DrawPostTo_auHI234) hb); have n4_ := Aside0.mk (below_step (spec_DrawPostTo_auHB) hb); have n5_ := Aside0.mk (hbox); have n6_ := Aside0.mk ((by rw [hg]; exact (below_size (spec_DrawPostTo_auHB)) : w.heap.size ≤ gb245)); have n7_ := Aside0.mk ((by rw [hg]; exact (below_size (spec_DrawPostTo_auHB)) : w.heap.size ≤ gb245)); have n8_ := Aside0.mk ((by rw [hg]; exact Nat.ne_of_lt (blk_lt (g := gb231) (o := .cells #[.int .i64 0, .slice none 0 0] 29 (0, 0)) (spec_DrawPostTo_vb BK231)) : gb231 ≠ gb245)); have n9_ := Aside0.mk ((by rw [hg]; exact Nat.ne_of_gt (blk_lt (g := gb231) (o := .cells #[.int .i64 0, .slice none 0 0] 29 (0, 0)) (spec_DrawPostTo_vb BK231)) : gb245 ≠ gb231)); have n10_ := Aside0.mk ((by rw [hg]; exact Nat.ne_of_lt (IsS74.lt (show IsS74 w _ g234 t232 t244 from spec_DrawPostTo_auHI234)) : g234 ≠ gb245)); have n11_ := Aside0.mk ((by rw [hg]; exact Nat.ne_of_gt (IsS74.lt (show IsS74 w _ g234 t232 t244 from spec_DrawPostTo_auHI234)) : gb245 ≠ g234)); clear HO238; clear HO243; clear BK231; clear HI234; clear HB; have HO238 := n0_; have HO243 := n1_; have BK231 := n2_; have HI234 := n3_; have HB := n4_; have BK245 := n5_; have GW245 := n6_; have GE245 := n7_; have NB231_245 := n8_; have NB245_231 := n9_; have NB234_245 := n10_; have NB245_234 := n11_; clear n0_ n1_ n2_ n3_ n4_ n5_ n6_ n7_ n8_ n9_ n10_ n11_; clear hb hbox hg; have hnb54 := NB245_231.out; have hnc54 := NB231_245.out; have hnb55 := NB245_234.out; have hnc55 := NB234_245.out; have hcz56_0 : w53.cell? ⟨gb245, 0, none⟩ = some (.int .i64 0) := (blk_cell BK245.out 0).trans rfl; have hcz56_1 : w53.cell? ⟨gb245, 1, none⟩ = some (.slice none 0 0) := (blk_cell BK245.out 1).trans rfl; have hfz56_0 := blk_frozen BK245.out 0; have hfz56_1 := blk_frozen BK245.out 1; obtain ⟨Ao57, co57, eo57⟩ := Kd.R_slice HO243.out; subst eo57) | ((with_reducible refine gate_callee (f := 45) rfl ?_); refine goesL_ (some 15) rfl rfl Try.func45 (by kernel_rfl) rfl #[.pointer (some ⟨g234, 0, none⟩)] rfl (by (try simp only [List.map_toArray, List.map_cons, List.map_nil]); first | done | rfl | (simp only [List.length_drop, List.length_take]; rfl)) ?_; (with_reducible refine (spec_l1Acct.calls k g234 t232 t244 t246 t247 w _ ?side1 ?side2 A5.out).mono ?_); (case side1 => exact spec_DrawPostTo_auHI234); (case side2 => exact spec_DrawPostTo_auHB); rintro e w58 ⟨rfl, hi, hb, hk⟩; refine ⟨_, rfl, ?_⟩; have n0_ := Aside0.mk (KeepBut.blk hk (g' := gb231) (o := .cells #[.int .i64 0, .slice none 0 0] 29 (0, 0)) (by (with_reducible repeat (first | refine blk_drewN ?_ _ | refine blk_drew ?_ | refine blk_alloc ?_ _)); refine blk_far ?_ NB231_245.out _; (with_reducible repeat (first | refine blk_drewN ?_ _ | refine blk_drew ?_ | refine blk_alloc ?_ _)); refine blk_far ?_ NB231_245.out _; (with_reducible repeat (first | refine blk_drewN ?_ _ | refine blk_drew ?_ | refine blk_alloc ?_ _)); exact BK231.out) NB231_234.out (by simp)); have n1_ := Aside0.mk (Kd.R_mono (Kd.R_keep (IsS74.apart (show IsS74 w _ g234 t232 t244 from spec_DrawPostTo_auHI234) (by (with_reducible repeat (first | apply Kd.R_alloc | apply Kd.R_drewN | apply Kd.R_drew)); exact (Kd.R_mono (Kd.R_far (p := ⟨gb245, 1, none⟩) (Kd.R_far (p := ⟨gb245, 0, none⟩) (Kd.R_types HO238.out BK245.out (by decide)) (fun _ hk => hk.2) (.int .i64 t240)) (fun _ hk => hk.2) (.slice Ao57 t241.length co57)) (fun _ h_ => h_.1))) (by decide)) hk (fun _ h => h.2)) (fun _ h => h.1)); have n2_ := Aside0.mk (Kd.R_mono (Kd.R_keep (IsS74.apart (show IsS74 w _ g234 t232 t244 from spec_DrawPostTo_auHI234) (by (with_reducible repeat (first | apply Kd.R_alloc | apply Kd.R_drewN | apply Kd.R_drew)); exact (Kd.R_mono (Kd.R_far (p := ⟨gb245, 1, none⟩) (Kd.R_far (p := ⟨gb245, 0, none⟩) (Kd.R_types HO243.out BK245.out (by decide)) (fun _ hk => hk.2) (.int .i64 t240)) (fun _ hk => hk.2) (.slice Ao57 t241.length co57)) (fun _ h_ => h_.1))) (by decide)) hk (fun _ h => h.2)) (fun _ h => h.1)); have n3_ := Aside0.mk (KeepBut.blk hk (g' := gb245) (o := .cells #[.int .i64 t240, .slice Ao57 t241.length co57] 29 (0, 0)) (by (with_reducible repeat (first | refine blk_drewN ?_ _ | refine blk_drew ?_ | refine blk_alloc ?_ _)); refine blk_put (cs := #[.int .i64 t240, .slice none 0 0]) ?_ 1 _ rfl; (with_reducible repeat (first | refine blk_drewN ?_ _ | refine blk_drew ?_ | refine blk_alloc ?_ _)); refine blk_put (cs := #[.int .i64 0, .slice none 0 0]) ?_ 0 _ rfl; (with_reducible repeat (first | refine blk_drewN ?_ _ | refine blk_drew ?_ | refine blk_alloc ?_ _)); exact BK245.out) NB245_234.out (by simp)); have n4_ := Aside0.mk (hb); have n5_ := Aside0.mk (hi); clear BK231; clear HO238; clear HO243; clear BK245; clear HB; clear HI234; have BK231 := n0_; have HO238 := n1_; have HO243 := n2_; have BK245 := n3_; have HB := n4_; have HI234 := n5_; clear n0_ n1_ n2_ n3_ n4_ n5_; (try clear hb); (try clear hb2); (try clear hk); (try clear hi); have hcz59_0 : w58.cell? ⟨gb245, 0, none⟩ = some (.int .i64 t240) := (blk_cell BK245.out 0).trans rfl; have hcz59_1 : w58.cell? ⟨gb245, 1, none⟩ = some (.slice Ao57 t241.length co57) := (blk_cell BK245.out 1).trans rfl; have hfz59_0 := blk_frozen BK245.out 0; have hfz59_1 := blk_frozen BK245.out 1))
  have n0_ := Aside0.mk (Kd.R_drew HO238.out)
  have n1_ := Aside0.mk (Kd.R_drew HO243.out)
  have n2_ := Aside0.mk (blk_drew BK231.out)
  have n3_ := Aside0.mk (blk_drew BK245.out)
  have n4_ := Aside0.mk (IsS74.drew HI234.out)
  have n5_ := Aside0.mk (below_drew1 HB.out)
  clear HO238
  clear HO243
  clear BK231
  clear BK245
  clear HI234
  clear HB
  have HO238 := n0_
  have HO243 := n1_
  have BK231 := n2_
  have BK245 := n3_
  have HI234 := n4_
  have HB := n5_
  clear n0_ n1_ n2_ n3_ n4_ n5_
  refine start_ (n := 8) (S := fun w' => w'.cell? ⟨gb245, 0, none⟩ = some (.int .i64 t240) ∧ w'.cell? ⟨gb245, 1, none⟩ = some (.slice Ao57 t241.length co57)) (ds := []) #[false, false, false, false, false, false, false, false] (by kernel_rfl) rfl rfl ⟨(blk_cell BK245.out 0).trans rfl, (blk_cell BK245.out 1).trans rfl⟩ (fun hHeld => ?_); refine with_tabW spec_DrawPostTo.tab6 spec_DrawPostTo.bits6 (fun HT_ HW_ => ?_)
  generalize w58.drew = w60 at HO238 HO243 BK231 BK245 HI234 HB hHeld ⊢
  refine pure_ (i := 1) (N := some 37) (v := ?_) (a' := ?_) #[false, true, false, false, false, false, false, false] rfl rfl (any_of HT_.out (by kernel_rfl)) (fun _ _ _ h => h) (Or.inl ⟨by rfl, ?_⟩) ?_ ?_
  rotate_left
  ·
   intro w'
   go_simp
   with_reducible rfl
  rotate_left
  ·
   simp only [Act.put, List.setIfInBounds_toArray, List.set_cons_zero, List.set_cons_succ, i64_w, i32_w]
   rfl
  refine pure_ (i := 2) (N := some 38) (v := ?_) (a' := ?_) #[false, true, true, false, false, false, false, false] rfl rfl (any_of HT_.out (by kernel_rfl)) (fun _ _ _ h => h) (Or.inl ⟨by rfl, ?_⟩) ?_ ?_
  rotate_left
  ·
   intro w'
   go_simp
   with_reducible rfl
  rotate_left
  ·
   simp only [Act.put, List.setIfInBounds_toArray, List.set_cons_zero, List.set_cons_succ, i64_w, i32_w]
   rfl
  refine take_ (i := 0) (N := some 36) (v := ?_) (a' := ?_) #[true, true, true, false, false, false, false, false] rfl rfl (take_ofW HT_.out HW_.out (by kernel_rfl)) (fun _ _ _ h => h) (Or.inl ⟨by rfl, ?_⟩) hHeld ?_ ?_
  rotate_left
  ·
   rintro w' ⟨s0, s1⟩
   go_simp
   with_reducible rfl
  rotate_left
  ·
   simp only [Act.put, List.setIfInBounds_toArray, List.set_cons_zero, List.set_cons_succ, i64_w, i32_w]
   rfl
  refine one_ (i := 3) (N := some 39) #[true, true, true, true, false, false, false, false] rfl rfl (one_of HT_.out (by kernel_rfl)) (by decide) (fun K hK => ?_)
  refine Kd.R_lit_step (Kd.int .i64) _ 3 ?hg (N := 39) ?hd (xs := ([1, 2, 3, 0, 4] : List Int)) (inner := [.int .i64 1, .int .i64 2, .int .i64 3, .int .i64 0, .int .i64 4]) (ok := fun _ => True) (okp := fun _ => True) ?hr ?hp (fun _ hk => hk) trivial (Below.refl _ _) (Nat.le_refl _) (by simp) ?_; (case hd => rfl); (case hg => rfl); (case hr => first | (go_simp; done) | (go_simp; rfl)); (case hp => exact (Reps.one (show Kd.M (Kd.int .i64) _ _ _ 1 [.int .i64 1] from rfl) (Reps.one (show Kd.M (Kd.int .i64) _ _ _ 2 [.int .i64 2] from rfl) (Reps.one (show Kd.M (Kd.int .i64) _ _ _ 3 [.int .i64 3] from rfl) (Reps.one (show Kd.M (Kd.int .i64) _ _ _ 0 [.int .i64 0] from rfl) (Reps.one (show Kd.M (Kd.int .i64) _ _ _ 4 [.int .i64 4] from rfl) (Reps.none _ _)))))))
  intro v258 w61 ho62 hb hg_ hnew_
  clear hg_ hnew_
  (first | rw [← Ny257.out] at ho62 | (simp only [Int.reduceToNat] at ho62; rw [← Ny257.out] at ho62))
  have n0_ := Aside0.mk (Kd.R_below (by (with_reducible repeat (first | apply Kd.R_alloc | apply Kd.R_drewN | apply Kd.R_drew)); exact HO238.out) hb)
  have n1_ := Aside0.mk (Kd.R_below (by (with_reducible repeat (first | apply Kd.R_alloc | apply Kd.R_drewN | apply Kd.R_drew)); exact HO243.out) hb)
  have n2_ := Aside0.mk (Kd.R_lower ho62 (below_size (spec_DrawPostTo_auHB)))
  have n3_ := Aside0.mk (blk_below (g := gb231) (o := .cells #[.int .i64 0, .slice none 0 0] 29 (0, 0)) (spec_DrawPostTo_vb BK231) hb)
  have n4_ := Aside0.mk (IsS74.below (spec_DrawPostTo_auHI234) hb)
  have n5_ := Aside0.mk (blk_below (g := gb245) (o := .cells #[.int .i64 t240, .slice Ao57 t241.length co57] 29 (0, 0)) (spec_DrawPostTo_vb BK245) hb)
  have n6_ := Aside0.mk (below_step (spec_DrawPostTo_auHB) hb)
  clear HO238
  clear HO243
  clear BK231
  clear HI234
  clear BK245
  clear HB
  have HO238 := n0_
  have HO243 := n1_
  have HO259 := n2_
  have BK231 := n3_
  have HI234 := n4_
  have BK245 := n5_
  have HB := n6_
  clear n0_ n1_ n2_ n3_ n4_ n5_ n6_
  clear hb ho62
  obtain ⟨Ao63, co63, eo63⟩ := Kd.R_slice HO259.out
  (first | subst eo63 | (injection eo63 with f1_ f2_ f3_; have f4_ := f1_.symm; have f5_ := f3_.symm; clear f1_ f2_ f3_; subst f4_; subst f5_))
  refine hK.out _ _ ⟨(blk_cell BK245.out 0).trans rfl, (blk_cell BK245.out 1).trans rfl⟩ (fun hHeld => ?_)
  clear hK K
  refine norm_ (a' := ?_) ?_ ?_
  rotate_left
  ·
   show Act.put _ (some 39) _ = _
   simp only [Act.put, List.setIfInBounds_toArray, List.set_cons_zero, List.set_cons_succ, i64_w, i32_w]
   rfl
  refine one_ (i := 4) (N := some 40) #[true, true, true, true, true, false, false, false] rfl rfl (one_of HT_.out (by kernel_rfl)) (by decide) (fun K hK => ?_)
  refine goes_ Try.func46 (by kernel_rfl) rfl #[.pointer (some ⟨g234, 0, none⟩), .slice Ao63 y257.length co63] (by rfl) rfl rfl (by (try simp only [List.map_toArray, List.map_cons, List.map_nil]); first | done | rfl | (simp only [List.length_drop, List.length_take]; rfl)) ?_
  with_reducible refine (spec_l9Rd_num.calls k g234 t232 t247 _ _ y257 t260 t261 w _ ?side1 ?side2 ?side3 ?side4 ?side5 A47.out).mono ?_
  (case side1 => exact spec_DrawPostTo_auHI234)
  (case side2 => exact spec_DrawPostTo_auHB)
  (case side3 => repeat (first | exact (Kd.R_reads' HO259.out).2.2 | (with_reducible refine Kd.C_alloc ?_ _) | (with_reducible refine Kd.C_drewN ?_ _) | (with_reducible refine Kd.C_drew ?_)))
  (case side4 => exact (Kd.R_reads' HO259.out).2.1)
  (case side5 => exact far_slice (IsS74.own_ne HI234.out HO259.out (by decide)))
  rintro e w64 ⟨rfl, hi, hb, hk⟩
  refine ⟨_, rfl, ?_⟩
  have n0_ := Aside0.mk (KeepBut.blk hk (g' := gb231) (o := .cells #[.int .i64 0, .slice none 0 0] 29 (0, 0)) (spec_DrawPostTo_vb BK231) NB231_234.out (by simp))
  have n1_ := Aside0.mk (Kd.R_mono (Kd.R_keep (IsS74.apart (show IsS74 w _ g234 t232 t247 from spec_DrawPostTo_auHI234) (by (with_reducible repeat (first | apply Kd.R_alloc | apply Kd.R_drewN | apply Kd.R_drew)); exact HO238.out) (by decide)) hk (fun _ h => h.2)) (fun _ h => h.1))
  have n2_ := Aside0.mk (Kd.R_mono (Kd.R_keep (IsS74.apart (show IsS74 w _ g234 t232 t247 from spec_DrawPostTo_auHI234) (by (with_reducible repeat (first | apply Kd.R_alloc | apply Kd.R_drewN | apply Kd.R_drew)); exact HO243.out) (by decide)) hk (fun _ h => h.2)) (fun _ h => h.1))
  have n3_ := Aside0.mk (KeepBut.blk hk (g' := gb245) (o := .cells #[.int .i64 t240, .slice Ao57 t241.length co57] 29 (0, 0)) (spec_DrawPostTo_vb BK245) NB245_234.out (by simp))
  have n4_ := Aside0.mk (Kd.R_mono (Kd.R_keep (IsS74.apart (show IsS74 w _ g234 t232 t247 from spec_DrawPostTo_auHI234) (by (with_reducible repeat (first | apply Kd.R_alloc | apply Kd.R_drewN | apply Kd.R_drew)); exact HO259.out) (by decide)) hk (fun _ h => h.2)) (fun _ h => h.1))
  have n5_ := Aside0.mk (hb)
  have n6_ := Aside0.mk (hi)
  clear BK231
  clear HO238
  clear HO243
  clear BK245
  clear HO259
  clear HB
  clear HI234
  have BK231 := n0_
  have HO238 := n1_
  have HO243 := n2_
  have BK245 := n3_
  have HO259 := n4_
  have HB := n5_
  have HI234 := n6_
  clear n0_ n1_ n2_ n3_ n4_ n5_ n6_
  (try clear hb)
  (try clear hb2)
  (try clear hk)
  (try clear hi)
  refine hK.out _ _ ⟨(blk_cell BK245.out 0).trans rfl, (blk_cell BK245.out 1).trans rfl⟩ (fun hHeld => ?_)
  clear hK K
  refine norm_ (a' := ?_) ?_ ?_
  rotate_left
  ·
   show Act.put _ (some 40) _ = _
   simp only [Act.put, List.setIfInBounds_toArray, List.set_cons_zero, List.set_cons_succ, i64_w, i32_w]
   rfl
  refine one_ (i := 5) (N := none) #[true, true, true, true, true, true, false, false] rfl rfl (one_of HT_.out (by kernel_rfl)) (by decide) (fun K hK => ?_)
  have hs65 : w64.cell? ⟨gb231, 0, none⟩ = some (.int .i64 0) := (blk_cell BK231.out 0).trans rfl
  have hfs65 := blk_frozen BK231.out 0
  have hns65_1 := NB245_231.out
  have hms65_1 := NB231_245.out
  have hs66 : w64.cell? ⟨gb231, 1, none⟩ = some (.slice none 0 0) := (blk_cell BK231.out 1).trans rfl
  have hfs66 := blk_frozen BK231.out 1
  have hns66_1 := NB245_231.out
  have hms66_1 := NB231_245.out
  refine skip_ (w1 := ?_) (by rfl) rfl ?_ ?_
  rotate_left
  ·
   go_simp
   rfl
  refine hK.out _ _ ⟨((cell_far (p := ⟨gb231, _, none⟩) NB245_231.out _).trans (((cell_far (p := ⟨gb231, _, none⟩) NB245_231.out _).trans (hHeld.1)))), ((cell_far (p := ⟨gb231, _, none⟩) NB245_231.out _).trans (((cell_far (p := ⟨gb231, _, none⟩) NB245_231.out _).trans (hHeld.2))))⟩ (fun hHeld => ?_)
  clear hK K
  refine pure_ (i := 6) (N := some 3) (v := ?_) (a' := ?_) #[true, true, true, true, true, true, true, false] rfl rfl (any_of HT_.out (by kernel_rfl)) (fun _ _ _ h => h) (Or.inl ⟨by rfl, ?_⟩) ?_ ?_
  rotate_left
  ·
   intro w'
   go_simp
   with_reducible rfl
  rotate_left
  ·
   simp only [Act.put, List.setIfInBounds_toArray, List.set_cons_zero, List.set_cons_succ, i64_w, i32_w]
   rfl
  refine pure_ (i := 7) (N := some 4) (v := ?_) (a' := ?_) #[true, true, true, true, true, true, true, true] rfl rfl (any_of HT_.out (by kernel_rfl)) (fun _ _ _ h => h) (Or.inl ⟨by rfl, ?_⟩) ?_ ?_
  rotate_left
  ·
   intro w'
   go_simp
   with_reducible rfl
  rotate_left
  ·
   simp only [Act.put, List.setIfInBounds_toArray, List.set_cons_zero, List.set_cons_succ, i64_w, i32_w]
   rfl
  refine done_ (done_of HT_.out (by kernel_rfl)) ?_
  try go_wp2
  refine bodyPost_ret (results_ctt rfl _ _ gb231 29 #[.int .i64 t240, .slice Ao57 t241.length co57] (0, 0) _ rfl (by (with_reducible repeat (first | refine blk_drewN ?_ _ | refine blk_drew ?_ | refine blk_alloc ?_ _)); refine blk_put (cs := #[.int .i64 t240, .slice none 0 0]) ?_ 1 _ rfl; (with_reducible repeat (first | refine blk_drewN ?_ _ | refine blk_drew ?_ | refine blk_alloc ?_ _)); refine blk_put (cs := #[.int .i64 0, .slice none 0 0]) ?_ 0 _ rfl; (with_reducible repeat (first | refine blk_drewN ?_ _ | refine blk_drew ?_ | refine blk_alloc ?_ _)); exact BK231.out) Try.underlying29 rfl (by kernel_rfl)) rfl ?_
  exact ⟨_, by first | rfl | (simp [errW_none, errW_some] <;> rfl) | (simp [*, errW_none, errW_some] <;> rfl), by (with_reducible repeat (first | apply Kd.R_alloc | apply Kd.R_drewN | apply Kd.R_drew)); exact Kd.R_mono (Kd.R_far (p := ⟨gb231, 1, none⟩) (Kd.R_far (p := ⟨gb231, 0, none⟩) (Kd.R_types HO243.out BK231.out (by decide)) (fun _ hk => hk.2) (.int .i64 t240)) (fun _ hk => hk.2) (.slice Ao57 t241.length co57)) (fun _ hk => trivial), spec_DrawPostTo_auHB⟩

end Go.Proofs.Ytogggmipcldkaaa.QFnPostTurn

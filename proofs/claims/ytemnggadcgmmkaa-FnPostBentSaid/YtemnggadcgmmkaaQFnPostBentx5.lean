/- What the law FnPostBent reaches, function by function: what each computes, and that the machine's call comes to it. Laid by a program. -/
import Derived.Test.YtemnggadcgmmkaaQFnPostBentx0
import Derived.Test.YtemnggadcgmmkaaQFnPostBentx2
import Derived.Test.YtemnggadcgmmkaaQFnPostBentx3
import Derived.Test.YtemnggadcgmmkaaQFnPostBentx4
namespace Go.Proofs.Ytemnggadcgmmkaa.QFnPostBent
open Go.RowKit Go.Proofs.YtemnggadcgmmkaaW.PrintWords Go.Proofs.YtemnggadcgmmkaaW.PrintLast Go.Proofs.YtemnggadcgmmkaaW.PrintMore
attribute [local go_sem] max2_int min2_int max_two min_two max_three min_three max_four min_four   -- for this text's walks alone
set_option linter.unusedVariables false
set_option linter.unusedSimpArgs false

/-! ### spec_DrawPostSame: function 5 -/
def spec_DrawPostSame.f (k : Nat) (l0 : List Int) : Option (Int × (List (S29)) × Int × (List (S29))) := (spec_l9Open.f l0).bind fun bt212 => ((spec_l1Post.f k bt212.1 bt212.2).bind fun bt215 => ((spec_l1Bent.f k bt212.1 bt215.2.2 bt215.1 bt215.2.1).bind fun bt221 => ((spec_l1Bent.f k bt212.1 bt221.2.2 bt221.1 bt221.2.1).bind fun bt226 => ((spec_l1Bent.f k bt212.1 bt226.2.2 bt226.1 bt226.2.1).bind fun bt231 => ((spec_l1Bent.f k bt212.1 bt231.2.2 bt231.1 bt231.2.1).bind fun bt236 => (some (bt215.1, bt215.2.1, bt236.1, bt236.2.1)))))))
theorem spec_DrawPostSame.mono : ∀ a0 k, LeO (spec_DrawPostSame.f k a0) (spec_DrawPostSame.f (k + 1) a0) := by
  intro a0 k
  unfold spec_DrawPostSame.f
  repeat' first
      | (with_reducible exact spec_l1Bent.mono _ _ _ _ _)
      | (with_reducible exact spec_l1Post.mono _ _ _)
      | (with_reducible exact LeO.refl _)
      | (with_reducible exact LeO.none _)
      | (with_reducible refine LeO.ite ?_ ?_)
      | (with_reducible refine LeO.bind ?_ (fun _ => ?_))
      | exact spec_l1Bent.mono _ _ _ _ _
      | exact spec_l1Post.mono _ _ _
      | exact LeO.none _
      | refine LeO.ite ?_ ?_
      | refine LeO.bind ?_ (fun _ => ?_)
def spec_DrawPostSame.T3 : Bool × List (List Nat × List Nat) := (true, [([], []), ([], []), ([], []), ([], []), ([], []), ([], []), ([4, 5], [4, 5]), ([3, 6, 6], [3, 6]), ([2, 7, 7], [2, 7]), ([1, 8, 8], [1, 8]), ([0, 9, 0], [0]), ([9, 10, 0, 1, 2, 3, 4, 5, 6, 7, 8, 9, 10], [9])])
def spec_DrawPostSame.B3 : List Nat := [0, 0, 0, 0, 0, 0, 48, 120, 252, 510, 1023, 2047]
theorem spec_DrawPostSame.tab3 : rtab .any (opsOf Try.f5 3) = spec_DrawPostSame.T3 := by kernel_rfl
theorem spec_DrawPostSame.bits3 : waitsOk spec_DrawPostSame.T3.2 spec_DrawPostSame.B3 = true := by kernel_rfl
theorem spec_DrawPostSame_vb {p q : Prop} (h : Aside0 p) (k : p → q := by (intro hz; (with_reducible repeat (first | refine blk_drewN ?_ _ | refine blk_drew ?_ | refine blk_alloc ?_ _)); exact hz)) : q := k h.out
theorem spec_DrawPostSame_auHB {q : Prop} (h : q := by (repeat (first | (with_reducible first | exact HB.out | apply below_alloc | apply pw_below_drewN | apply below_drew1 | refine below_set ?_ GE210.out | refine below_set ?_ GE211.out | refine below_set ?_ (IsS58.ge HI214.out) | refine below_set ?_ GE220.out) | exact HB.out))) : q := h
theorem spec_DrawPostSame_auHI214 {q : Prop} (h : q := by (repeat (first | (with_reducible first | exact HI214.out | apply IsS58.alloc | apply IsS58.drewN | apply IsS58.drew | apply IsS58.set_1 | refine IsS58.far ?_ NB214_210.out _ | refine IsS58.far ?_ NB214_211.out _ | refine IsS58.far ?_ NB214_220.out _) | exact HI214.out))) : q := h
set_option maxHeartbeats 8000000 in
set_option maxRecDepth 100000 in
theorem spec_DrawPostSame.calls (k : Nat) (A0 : Option Addr) (c0 : Nat) (l0 : List Int) (r1 : Int) (r2 : List (S29)) (r3 : Int) (r4 : List (S29)) (w : World) (hr0 : Kd.C (Kd.int .u8) w A0 l0.length l0) (hc0 : l0.length ≤ c0) (h : spec_DrawPostSame.f k l0 = some (r1, r2, r3, r4)) :
  Calls Try.prog 5 #[.slice A0 l0.length c0] w fun e w' => ∃ v1_ v3_ : Value, e = .returned (.tuple #[.agg #[.int .i64 r1, v1_], .agg #[.int .i64 r3, v3_]]) ∧ Kd.R k29 29 w' w.heap.size (fun k_ => some k_ ≠ (v3_ : Value).ownBlock) v1_ r2 ∧ Kd.R k29 29 w' w.heap.size (fun k_ => some k_ ≠ (v1_ : Value).ownBlock) v3_ r4 ∧ Below w.heap.size w w' := by
 have hu25 := Try.underlying25
 have HR0 := Aside0.mk hr0
 have HC0 := Aside0.mk hc0
 clear hr0 hc0
 have HB := Aside0.mk (Below.refl w.heap.size w)
 have H : ((spec_l9Open.f l0).bind fun bt212 => ((spec_l1Post.f k bt212.1 bt212.2).bind fun bt215 => ((spec_l1Bent.f k bt212.1 bt215.2.2 bt215.1 bt215.2.1).bind fun bt221 => ((spec_l1Bent.f k bt212.1 bt221.2.2 bt221.1 bt221.2.1).bind fun bt226 => ((spec_l1Bent.f k bt212.1 bt226.2.2 bt226.1 bt226.2.1).bind fun bt231 => ((spec_l1Bent.f k bt212.1 bt231.2.2 bt231.1 bt231.2.1).bind fun bt236 => (some (bt215.1, bt215.2.1, bt236.1, bt236.2.1)))))))) = some (r1, r2, r3, r4) := h
 clear h
 replace H := Option.bind_eq_some_iff.mp H
 obtain ⟨⟨t212, t213⟩, A20, H⟩ := H
 replace H : ((spec_l1Post.f k t212 t213).bind fun bt215 => ((spec_l1Bent.f k t212 bt215.2.2 bt215.1 bt215.2.1).bind fun bt221 => ((spec_l1Bent.f k t212 bt221.2.2 bt221.1 bt221.2.1).bind fun bt226 => ((spec_l1Bent.f k t212 bt226.2.2 bt226.1 bt226.2.1).bind fun bt231 => ((spec_l1Bent.f k t212 bt231.2.2 bt231.1 bt231.2.1).bind fun bt236 => (some (bt215.1, bt215.2.1, bt236.1, bt236.2.1))))))) = some (r1, r2, r3, r4) := H
 have A2 := Aside0.mk A20
 clear A20
 replace H := Option.bind_eq_some_iff.mp H
 obtain ⟨⟨t215, t216, t219⟩, A30, H⟩ := H
 replace H : ((spec_l1Bent.f k t212 t219 t215 t216).bind fun bt221 => ((spec_l1Bent.f k t212 bt221.2.2 bt221.1 bt221.2.1).bind fun bt226 => ((spec_l1Bent.f k t212 bt226.2.2 bt226.1 bt226.2.1).bind fun bt231 => ((spec_l1Bent.f k t212 bt231.2.2 bt231.1 bt231.2.1).bind fun bt236 => (some (t215, t216, bt236.1, bt236.2.1)))))) = some (r1, r2, r3, r4) := H
 have A3 := Aside0.mk A30
 clear A30
 replace H := Option.bind_eq_some_iff.mp H
 obtain ⟨⟨t221, t222, t225⟩, A40, H⟩ := H
 replace H : ((spec_l1Bent.f k t212 t225 t221 t222).bind fun bt226 => ((spec_l1Bent.f k t212 bt226.2.2 bt226.1 bt226.2.1).bind fun bt231 => ((spec_l1Bent.f k t212 bt231.2.2 bt231.1 bt231.2.1).bind fun bt236 => (some (t215, t216, bt236.1, bt236.2.1))))) = some (r1, r2, r3, r4) := H
 have A4 := Aside0.mk A40
 clear A40
 replace H := Option.bind_eq_some_iff.mp H
 obtain ⟨⟨t226, t227, t230⟩, A50, H⟩ := H
 replace H : ((spec_l1Bent.f k t212 t230 t226 t227).bind fun bt231 => ((spec_l1Bent.f k t212 bt231.2.2 bt231.1 bt231.2.1).bind fun bt236 => (some (t215, t216, bt236.1, bt236.2.1)))) = some (r1, r2, r3, r4) := H
 have A5 := Aside0.mk A50
 clear A50
 replace H := Option.bind_eq_some_iff.mp H
 obtain ⟨⟨t231, t232, t235⟩, A60, H⟩ := H
 replace H : ((spec_l1Bent.f k t212 t235 t231 t232).bind fun bt236 => (some (t215, t216, bt236.1, bt236.2.1))) = some (r1, r2, r3, r4) := H
 have A6 := Aside0.mk A60
 clear A60
 replace H := Option.bind_eq_some_iff.mp H
 obtain ⟨⟨t236, t237, t240⟩, A70, H⟩ := H
 replace H : (some (t215, t216, t236, t237)) = some (r1, r2, r3, r4) := H
 have A7 := Aside0.mk A70
 clear A70
 simp only [Option.some.injEq, Prod.mk.injEq] at H
 obtain ⟨rfl, rfl, rfl, rfl⟩ := H
 go_enter Try.func5, Try.ntmps5
 try go_wp2_with (first | ((with_reducible refine gate_dst (N := 2) rfl ?_); refine box_event ?hg (N := 2) ?hd (cs := #[.int .i64 0, .slice none 0 0]) (t := 25) ?hr ?_; (case hd => rfl); (case hg => rfl); (case hr => first | (go_simp; done) | (go_simp; rfl)); intro gb210 hg w8 hbox hb; have BK210 := Aside0.mk (hbox); have GW210 := Aside0.mk ((by rw [hg]; exact (below_size (spec_DrawPostSame_auHB)) : w.heap.size ≤ gb210)); have GE210 := Aside0.mk ((by rw [hg]; exact (below_size (spec_DrawPostSame_auHB)) : w.heap.size ≤ gb210)); replace HB := Aside0.mk (below_step (spec_DrawPostSame_auHB) hb); clear hb hbox hg) | ((with_reducible refine gate_dst (N := 3) rfl ?_); refine box_event ?hg (N := 3) ?hd (cs := #[.int .i64 0, .slice none 0 0]) (t := 25) ?hr ?_; (case hd => rfl); (case hg => rfl); (case hr => first | (go_simp; done) | (go_simp; rfl)); intro gb211 hg w9 hbox hb; have BK211 := Aside0.mk (hbox); have GW211 := Aside0.mk ((by rw [hg]; exact (below_size (spec_DrawPostSame_auHB)) : w.heap.size ≤ gb211)); have GE211 := Aside0.mk ((by rw [hg]; exact (below_size (spec_DrawPostSame_auHB)) : w.heap.size ≤ gb211)); replace HB := Aside0.mk (below_step (spec_DrawPostSame_auHB) hb); have NB210_211 := Aside0.mk ((by rw [hg]; exact Nat.ne_of_lt (blk_lt (g := gb210) (o := .cells #[.int .i64 0, .slice none 0 0] 25 (0, 0)) (spec_DrawPostSame_vb BK210)) : gb210 ≠ gb211)); have NB211_210 := Aside0.mk ((by rw [hg]; exact Nat.ne_of_gt (blk_lt (g := gb210) (o := .cells #[.int .i64 0, .slice none 0 0] 25 (0, 0)) (spec_DrawPostSame_vb BK210)) : gb211 ≠ gb210)); replace BK210 := Aside0.mk (blk_below (g := gb210) (o := .cells #[.int .i64 0, .slice none 0 0] 25 (0, 0)) (spec_DrawPostSame_vb BK210) hb); clear hb hbox hg) | ((with_reducible refine gate_callee (f := 21) rfl ?_); refine goesL_ (some 7) rfl rfl Try.func21 (by kernel_rfl) rfl #[.slice A0 l0.length c0] rfl (by (try simp only [List.map_toArray, List.map_cons, List.map_nil]); first | done | rfl | (simp only [List.length_drop, List.length_take]; rfl)) ?_; (with_reducible refine (spec_l9Open.calls _ _ l0 t212 t213 w _ ?side1 ?side2 ?side3 A2.out).mono ?_); (case side1 => exact spec_DrawPostSame_auHB); (case side2 => exact HR0.out); (case side3 => exact HC0.out); rintro e w10 ⟨g214, rfl, hi, hb, hb2⟩; refine ⟨_, rfl, ?_⟩; replace HB := Aside0.mk (hb); have HI214 := Aside0.mk (hi); have NB214_210 := Aside0.mk (IsS58.ne_blk hi (blk_below (g := gb210) (o := .cells #[.int .i64 0, .slice none 0 0] 25 (0, 0)) (spec_DrawPostSame_vb BK210) hb2) (by decide)); have NB210_214 := Aside0.mk (Ne.symm (IsS58.ne_blk hi (blk_below (g := gb210) (o := .cells #[.int .i64 0, .slice none 0 0] 25 (0, 0)) (spec_DrawPostSame_vb BK210) hb2) (by decide))); replace BK210 := Aside0.mk (blk_below (g := gb210) (o := .cells #[.int .i64 0, .slice none 0 0] 25 (0, 0)) (spec_DrawPostSame_vb BK210) hb2); have NB214_211 := Aside0.mk (IsS58.ne_blk hi (blk_below (g := gb211) (o := .cells #[.int .i64 0, .slice none 0 0] 25 (0, 0)) (spec_DrawPostSame_vb BK211) hb2) (by decide)); have NB211_214 := Aside0.mk (Ne.symm (IsS58.ne_blk hi (blk_below (g := gb211) (o := .cells #[.int .i64 0, .slice none 0 0] 25 (0, 0)) (spec_DrawPostSame_vb BK211) hb2) (by decide))); replace BK211 := Aside0.mk (blk_below (g := gb211) (o := .cells #[.int .i64 0, .slice none 0 0] 25 (0, 0)) (spec_DrawPostSame_vb BK211) hb2); (try clear hb); (try clear hb2); (try clear hk); (try clear hi)) | ((with_reducible refine gate_callee (f := 22) rfl ?_); refine goesL_ (some 9) rfl rfl Try.func22 (by kernel_rfl) rfl #[.pointer (some ⟨g214, 0, none⟩)] rfl (by (try simp only [List.map_toArray, List.map_cons, List.map_nil]); first | done | rfl | (simp only [List.length_drop, List.length_take]; rfl)) ?_; (with_reducible refine (spec_l1Post.calls k g214 t212 t213 t215 t216 t219 w _ ?side1 ?side2 A3.out).mono ?_); (case side1 => exact spec_DrawPostSame_auHI214); (case side2 => exact spec_DrawPostSame_auHB); rintro e w11 ⟨v217, rfl, ho0, hi, hb, hk⟩; refine ⟨_, rfl, ?_⟩; replace BK210 := Aside0.mk (KeepBut.blk hk (g' := gb210) (o := .cells #[.int .i64 0, .slice none 0 0] 25 (0, 0)) (spec_DrawPostSame_vb BK210) NB210_214.out (by simp)); replace BK211 := Aside0.mk (KeepBut.blk hk (g' := gb211) (o := .cells #[.int .i64 0, .slice none 0 0] 25 (0, 0)) (spec_DrawPostSame_vb BK211) NB211_214.out (by simp)); have HO218 := Aside0.mk (Kd.R_lower ho0 (below_size (spec_DrawPostSame_auHB))); replace HB := Aside0.mk (hb); replace HI214 := Aside0.mk (hi); (try clear hb); (try clear hb2); (try clear hk); (try clear hi); (try clear ho0)) | ((with_reducible refine gate_dst (N := 5) rfl ?_); refine box_event ?hg (N := 5) ?hd (cs := #[.int .i64 0, .slice none 0 0]) (t := 25) ?hr ?_; (case hd => rfl); (case hg => rfl); (case hr => first | (go_simp; done) | (go_simp; rfl)); intro gb220 hg w12 hbox hb; replace HO218 := Aside0.mk (Kd.R_below (lo_ HO218) hb); have BK220 := Aside0.mk (hbox); have GW220 := Aside0.mk ((by rw [hg]; exact (below_size (spec_DrawPostSame_auHB)) : w.heap.size ≤ gb220)); have GE220 := Aside0.mk ((by rw [hg]; exact (below_size (spec_DrawPostSame_auHB)) : w.heap.size ≤ gb220)); replace HB := Aside0.mk (below_step (spec_DrawPostSame_auHB) hb); have NB210_220 := Aside0.mk ((by rw [hg]; exact Nat.ne_of_lt (blk_lt (g := gb210) (o := .cells #[.int .i64 0, .slice none 0 0] 25 (0, 0)) (spec_DrawPostSame_vb BK210)) : gb210 ≠ gb220)); have NB220_210 := Aside0.mk ((by rw [hg]; exact Nat.ne_of_gt (blk_lt (g := gb210) (o := .cells #[.int .i64 0, .slice none 0 0] 25 (0, 0)) (spec_DrawPostSame_vb BK210)) : gb220 ≠ gb210)); replace BK210 := Aside0.mk (blk_below (g := gb210) (o := .cells #[.int .i64 0, .slice none 0 0] 25 (0, 0)) (spec_DrawPostSame_vb BK210) hb); have NB211_220 := Aside0.mk ((by rw [hg]; exact Nat.ne_of_lt (blk_lt (g := gb211) (o := .cells #[.int .i64 0, .slice none 0 0] 25 (0, 0)) (spec_DrawPostSame_vb BK211)) : gb211 ≠ gb220)); have NB220_211 := Aside0.mk ((by rw [hg]; exact Nat.ne_of_gt (blk_lt (g := gb211) (o := .cells #[.int .i64 0, .slice none 0 0] 25 (0, 0)) (spec_DrawPostSame_vb BK211)) : gb220 ≠ gb211)); replace BK211 := Aside0.mk (blk_below (g := gb211) (o := .cells #[.int .i64 0, .slice none 0 0] 25 (0, 0)) (spec_DrawPostSame_vb BK211) hb); have NB214_220 := Aside0.mk ((by rw [hg]; exact Nat.ne_of_lt (IsS58.lt (show IsS58 w _ g214 t212 t219 from spec_DrawPostSame_auHI214)) : g214 ≠ gb220)); have NB220_214 := Aside0.mk ((by rw [hg]; exact Nat.ne_of_gt (IsS58.lt (show IsS58 w _ g214 t212 t219 from spec_DrawPostSame_auHI214)) : gb220 ≠ g214)); replace HI214 := Aside0.mk (IsS58.below (spec_DrawPostSame_auHI214) hb); clear hb hbox hg; have hnb13 := NB220_210.out; have hnc13 := NB210_220.out; have hnb14 := NB220_211.out; have hnc14 := NB211_220.out; have hnb15 := NB220_214.out; have hnc15 := NB214_220.out; have hcz16_0 : w12.cell? ⟨gb220, 0, none⟩ = some (.int .i64 0) := (blk_cell BK220.out 0).trans rfl; have hcz16_1 : w12.cell? ⟨gb220, 1, none⟩ = some (.slice none 0 0) := (blk_cell BK220.out 1).trans rfl; have hfz16_0 := blk_frozen BK220.out 0; have hfz16_1 := blk_frozen BK220.out 1; obtain ⟨Ao17, co17, eo17⟩ := Kd.R_slice HO218.out; subst eo17))
 have n0_ : Aside0 (Kd.R k29 29 ((w12.setCell ⟨gb220, 0, none⟩ (.int .i64 t215)).setCell ⟨gb220, 1, none⟩ (.slice Ao17 t216.length co17)) w.heap.size (fun _ => True) (.slice Ao17 t216.length co17) t216) := ⟨by (with_reducible repeat (first | apply Kd.R_alloc | apply Kd.R_drewN | apply Kd.R_drew)); exact Kd.R_mono (Kd.R_far (p := ⟨gb220, 1, none⟩) (Kd.R_far (p := ⟨gb220, 0, none⟩) (Kd.R_types HO218.out BK220.out (by decide)) (fun _ hk => hk.2) (.int .i64 t215)) (fun _ hk => hk.2) (.slice Ao17 t216.length co17)) (fun _ hk => trivial)⟩
 have n1_ : Aside0 (((w12.setCell ⟨gb220, 0, none⟩ (.int .i64 t215)).setCell ⟨gb220, 1, none⟩ (.slice Ao17 t216.length co17)).heap[gb210]? = some (.cells #[.int .i64 0, .slice none 0 0] 25 (0, 0))) := ⟨by (with_reducible repeat (first | refine blk_drewN ?_ _ | refine blk_drew ?_ | refine blk_alloc ?_ _)); refine blk_far ?_ NB210_220.out _; (with_reducible repeat (first | refine blk_drewN ?_ _ | refine blk_drew ?_ | refine blk_alloc ?_ _)); refine blk_far ?_ NB210_220.out _; (with_reducible repeat (first | refine blk_drewN ?_ _ | refine blk_drew ?_ | refine blk_alloc ?_ _)); exact BK210.out⟩
 have n2_ : Aside0 (((w12.setCell ⟨gb220, 0, none⟩ (.int .i64 t215)).setCell ⟨gb220, 1, none⟩ (.slice Ao17 t216.length co17)).heap[gb211]? = some (.cells #[.int .i64 0, .slice none 0 0] 25 (0, 0))) := ⟨by (with_reducible repeat (first | refine blk_drewN ?_ _ | refine blk_drew ?_ | refine blk_alloc ?_ _)); refine blk_far ?_ NB211_220.out _; (with_reducible repeat (first | refine blk_drewN ?_ _ | refine blk_drew ?_ | refine blk_alloc ?_ _)); refine blk_far ?_ NB211_220.out _; (with_reducible repeat (first | refine blk_drewN ?_ _ | refine blk_drew ?_ | refine blk_alloc ?_ _)); exact BK211.out⟩
 have n3_ : Aside0 (((w12.setCell ⟨gb220, 0, none⟩ (.int .i64 t215)).setCell ⟨gb220, 1, none⟩ (.slice Ao17 t216.length co17)).heap[gb220]? = some (.cells #[.int .i64 t215, .slice Ao17 t216.length co17] 25 (0, 0))) := ⟨by (with_reducible repeat (first | refine blk_drewN ?_ _ | refine blk_drew ?_ | refine blk_alloc ?_ _)); refine blk_put (cs := #[.int .i64 t215, .slice none 0 0]) ?_ 1 _ rfl; (with_reducible repeat (first | refine blk_drewN ?_ _ | refine blk_drew ?_ | refine blk_alloc ?_ _)); refine blk_put (cs := #[.int .i64 0, .slice none 0 0]) ?_ 0 _ rfl; (with_reducible repeat (first | refine blk_drewN ?_ _ | refine blk_drew ?_ | refine blk_alloc ?_ _)); exact BK220.out⟩
 have n4_ : Aside0 (IsS58 w ((w12.setCell ⟨gb220, 0, none⟩ (.int .i64 t215)).setCell ⟨gb220, 1, none⟩ (.slice Ao17 t216.length co17)) g214 t212 t219) := ⟨spec_DrawPostSame_auHI214⟩
 have n5_ : Aside0 (Below w.heap.size w ((w12.setCell ⟨gb220, 0, none⟩ (.int .i64 t215)).setCell ⟨gb220, 1, none⟩ (.slice Ao17 t216.length co17))) := ⟨spec_DrawPostSame_auHB⟩
 (try clear HO218)
 (try clear BK210)
 (try clear BK211)
 (try clear BK220)
 (try clear HI214)
 (try clear HB)
 generalize ((w12.setCell ⟨gb220, 0, none⟩ (.int .i64 t215)).setCell ⟨gb220, 1, none⟩ (.slice Ao17 t216.length co17)) = w18 at n0_ n1_ n2_ n3_ n4_ n5_ ⊢
 have HO218 := n0_
 have BK210 := n1_
 have BK211 := n2_
 have BK220 := n3_
 have HI214 := n4_
 have HB := n5_
 clear n0_ n1_ n2_ n3_ n4_ n5_
 replace HO218 := Aside0.mk (Kd.R_drew HO218.out)
 replace BK210 := Aside0.mk (blk_drew BK210.out)
 replace BK211 := Aside0.mk (blk_drew BK211.out)
 replace BK220 := Aside0.mk (blk_drew BK220.out)
 replace HI214 := Aside0.mk (IsS58.drew HI214.out)
 replace HB := Aside0.mk (below_drew1 HB.out)
 refine start_ (n := 12) (S := fun w' => w'.cell? ⟨gb220, 0, none⟩ = some (.int .i64 t215) ∧ w'.cell? ⟨gb220, 1, none⟩ = some (.slice Ao17 t216.length co17)) (ds := []) #[false, false, false, false, false, false, false, false, false, false, false, false] (by kernel_rfl) rfl rfl ⟨(blk_cell BK220.out 0).trans rfl, (blk_cell BK220.out 1).trans rfl⟩ (fun hHeld => ?_); refine with_tabW spec_DrawPostSame.tab3 spec_DrawPostSame.bits3 (fun HT_ HW_ => ?_)
 generalize w18.drew = w19 at HO218 BK210 BK211 BK220 HI214 HB hHeld ⊢
 refine pu_ 1 (some 11) HT_ rfl rfl (by go_simp; rfl) (by kernel_rfl) rfl (by intro w'; go_simp; with_reducible rfl) (fun _ _ _ h => h) (by go_simp; rfl) ?_
 refine pu_ 2 (some 12) HT_ rfl rfl (by go_simp; rfl) (by kernel_rfl) rfl (by intro w'; go_simp; with_reducible rfl) (fun _ _ _ h => h) (by go_simp; rfl) ?_
 refine pu_ 3 (some 13) HT_ rfl rfl (by go_simp; rfl) (by kernel_rfl) rfl (by intro w'; go_simp; with_reducible rfl) (fun _ _ _ h => h) (by go_simp; rfl) ?_
 refine pu_ 4 (some 14) HT_ rfl rfl (by go_simp; rfl) (by kernel_rfl) rfl (by intro w'; go_simp; with_reducible rfl) (fun _ _ _ h => h) (by go_simp; rfl) ?_
 refine ta_ 0 (some 10) HT_ HW_ hHeld rfl rfl (by go_simp; rfl) (by kernel_rfl) rfl (by rintro w' ⟨s0, s1⟩; go_simp; with_reducible rfl) (fun _ _ _ h => h) (by go_simp; rfl) ?_
 refine ta_ 5 (some 15) HT_ HW_ hHeld rfl rfl (by go_simp; rfl) (by kernel_rfl) rfl (by rintro w' ⟨s0, s1⟩; go_simp; with_reducible rfl) (fun _ _ _ h => h) (by go_simp; rfl) ?_
 refine one_ (i := 6) (N := some 16) #[true, true, true, true, true, true, true, false, false, false, false, false] rfl rfl (one_of HT_.out (by kernel_rfl)) (by decide) (fun K hK => ?_)
 refine goes_ Try.func23 (by kernel_rfl) rfl #[.pointer (some ⟨g214, 0, none⟩), .agg #[.int .i64 t215, .slice Ao17 t216.length co17]] (by rfl) rfl rfl (by (try simp only [List.map_toArray, List.map_cons, List.map_nil]); first | done | rfl | (simp only [List.length_drop, List.length_take]; rfl)) ?_
 with_reducible refine (spec_l1Bent.calls k g214 t212 t219 t215 _ _ t216 t221 t222 t225 w _ ?side1 ?side2 ?side3 ?side4 A4.out).mono ?_
 (case side1 => exact spec_DrawPostSame_auHI214)
 (case side2 => exact spec_DrawPostSame_auHB)
 (case side3 => exact Kd.C_foot_own (IsS58.apart (show IsS58 w _ g214 t212 t219 from spec_DrawPostSame_auHI214) (lo_ HO218) (by decide)) (fun _ h_ => h_.2))
 (case side4 => exact (Kd.R_reads' HO218.out).2.1)
 rintro e w20 ⟨v223, rfl, ho0, hi, hb, hk⟩
 refine ⟨_, rfl, ?_⟩
 replace BK210 := Aside0.mk (KeepBut.blk hk (g' := gb210) (o := .cells #[.int .i64 0, .slice none 0 0] 25 (0, 0)) (spec_DrawPostSame_vb BK210) NB210_214.out (by simp))
 replace BK211 := Aside0.mk (KeepBut.blk hk (g' := gb211) (o := .cells #[.int .i64 0, .slice none 0 0] 25 (0, 0)) (spec_DrawPostSame_vb BK211) NB211_214.out (by simp))
 replace BK220 := Aside0.mk (KeepBut.blk hk (g' := gb220) (o := .cells #[.int .i64 t215, .slice Ao17 t216.length co17] 25 (0, 0)) (spec_DrawPostSame_vb BK220) NB220_214.out (by simp))
 have HO224 := Aside0.mk (Kd.R_lower (Kd.R_new' ho0 (Kd.R_lt (lo_ HO218))) (below_size (spec_DrawPostSame_auHB)))
 replace HO218 := Aside0.mk (Kd.R_mono (Kd.R_told (Kd.R_oldK (IsS58.apart (show IsS58 w _ g214 t212 t219 from spec_DrawPostSame_auHI214) (lo_ HO218) (by decide)) hk) (Kd.R_base ho0)) (fun _ h_ => h_.1))
 replace HB := Aside0.mk (hb)
 replace HI214 := Aside0.mk (hi)
 (try clear hb)
 (try clear hb2)
 (try clear hk)
 (try clear hi)
 (try clear ho0)
 obtain ⟨Ao21, co21, eo21⟩ := Kd.R_slice HO224.out
 (first | subst eo21 | (injection eo21 with f1_ f2_ f3_; have f4_ := f1_.symm; have f5_ := f3_.symm; clear f1_ f2_ f3_; subst f4_; subst f5_))
 refine hK.out _ _ ⟨(blk_cell BK220.out 0).trans rfl, (blk_cell BK220.out 1).trans rfl⟩ (fun hHeld => ?_)
 clear hK K
 refine norm_ (a' := ?_) ?_ ?_
 rotate_left
 ·
  show Act.put _ (some 16) _ = _
  simp only [Act.put, List.setIfInBounds_toArray, List.set_cons_zero, List.set_cons_succ, i64_w, i32_w]
  rfl
 refine one_ (i := 7) (N := some 17) #[true, true, true, true, true, true, true, true, false, false, false, false] rfl rfl (one_of HT_.out (by kernel_rfl)) (by decide) (fun K hK => ?_)
 refine goes_ Try.func23 (by kernel_rfl) rfl #[.pointer (some ⟨g214, 0, none⟩), .agg #[.int .i64 t221, .slice Ao21 t222.length co21]] (by rfl) rfl rfl (by (try simp only [List.map_toArray, List.map_cons, List.map_nil]); first | done | rfl | (simp only [List.length_drop, List.length_take]; rfl)) ?_
 with_reducible refine (spec_l1Bent.calls k g214 t212 t225 t221 _ _ t222 t226 t227 t230 w _ ?side1 ?side2 ?side3 ?side4 A5.out).mono ?_
 (case side1 => exact spec_DrawPostSame_auHI214)
 (case side2 => exact spec_DrawPostSame_auHB)
 (case side3 => exact Kd.C_foot_own (IsS58.apart (show IsS58 w _ g214 t212 t225 from spec_DrawPostSame_auHI214) (lo_ HO224) (by decide)) (fun _ h_ => h_.2))
 (case side4 => exact (Kd.R_reads' HO224.out).2.1)
 rintro e w22 ⟨v228, rfl, ho0, hi, hb, hk⟩
 refine ⟨_, rfl, ?_⟩
 replace BK210 := Aside0.mk (KeepBut.blk hk (g' := gb210) (o := .cells #[.int .i64 0, .slice none 0 0] 25 (0, 0)) (spec_DrawPostSame_vb BK210) NB210_214.out (by simp))
 replace BK211 := Aside0.mk (KeepBut.blk hk (g' := gb211) (o := .cells #[.int .i64 0, .slice none 0 0] 25 (0, 0)) (spec_DrawPostSame_vb BK211) NB211_214.out (by simp))
 replace BK220 := Aside0.mk (KeepBut.blk hk (g' := gb220) (o := .cells #[.int .i64 t215, .slice Ao17 t216.length co17] 25 (0, 0)) (spec_DrawPostSame_vb BK220) NB220_214.out (by simp))
 have HO229 := Aside0.mk (Kd.R_lower (Kd.R_new' (Kd.R_new' ho0 (Kd.R_lt (lo_ HO218))) (Kd.R_lt (lo_ HO224))) (below_size (spec_DrawPostSame_auHB)))
 replace HO218 := Aside0.mk (Kd.R_mono (Kd.R_told (Kd.R_oldK (IsS58.apart (show IsS58 w _ g214 t212 t225 from spec_DrawPostSame_auHI214) (lo_ HO218) (by decide)) hk) (Kd.R_base ho0)) (fun _ h_ => h_.1))
 replace HO224 := Aside0.mk (Kd.R_mono (Kd.R_told (Kd.R_oldK (IsS58.apart (show IsS58 w _ g214 t212 t225 from spec_DrawPostSame_auHI214) (lo_ HO224) (by decide)) hk) (Kd.R_base ho0)) (fun _ h_ => h_.1))
 replace HB := Aside0.mk (hb)
 replace HI214 := Aside0.mk (hi)
 (try clear hb)
 (try clear hb2)
 (try clear hk)
 (try clear hi)
 (try clear ho0)
 obtain ⟨Ao23, co23, eo23⟩ := Kd.R_slice HO229.out
 (first | subst eo23 | (injection eo23 with f1_ f2_ f3_; have f4_ := f1_.symm; have f5_ := f3_.symm; clear f1_ f2_ f3_; subst f4_; subst f5_))
 refine hK.out _ _ ⟨(blk_cell BK220.out 0).trans rfl, (blk_cell BK220.out 1).trans rfl⟩ (fun hHeld => ?_)
 clear hK K
 refine norm_ (a' := ?_) ?_ ?_
 rotate_left
 ·
  show Act.put _ (some 17) _ = _
  simp only [Act.put, List.setIfInBounds_toArray, List.set_cons_zero, List.set_cons_succ, i64_w, i32_w]
  rfl
 refine one_ (i := 8) (N := some 18) #[true, true, true, true, true, true, true, true, true, false, false, false] rfl rfl (one_of HT_.out (by kernel_rfl)) (by decide) (fun K hK => ?_)
 refine goes_ Try.func23 (by kernel_rfl) rfl #[.pointer (some ⟨g214, 0, none⟩), .agg #[.int .i64 t226, .slice Ao23 t227.length co23]] (by rfl) rfl rfl (by (try simp only [List.map_toArray, List.map_cons, List.map_nil]); first | done | rfl | (simp only [List.length_drop, List.length_take]; rfl)) ?_
 with_reducible refine (spec_l1Bent.calls k g214 t212 t230 t226 _ _ t227 t231 t232 t235 w _ ?side1 ?side2 ?side3 ?side4 A6.out).mono ?_
 (case side1 => exact spec_DrawPostSame_auHI214)
 (case side2 => exact spec_DrawPostSame_auHB)
 (case side3 => exact Kd.C_foot_own (IsS58.apart (show IsS58 w _ g214 t212 t230 from spec_DrawPostSame_auHI214) (lo_ HO229) (by decide)) (fun _ h_ => h_.2))
 (case side4 => exact (Kd.R_reads' HO229.out).2.1)
 rintro e w24 ⟨v233, rfl, ho0, hi, hb, hk⟩
 refine ⟨_, rfl, ?_⟩
 replace BK210 := Aside0.mk (KeepBut.blk hk (g' := gb210) (o := .cells #[.int .i64 0, .slice none 0 0] 25 (0, 0)) (spec_DrawPostSame_vb BK210) NB210_214.out (by simp))
 replace BK211 := Aside0.mk (KeepBut.blk hk (g' := gb211) (o := .cells #[.int .i64 0, .slice none 0 0] 25 (0, 0)) (spec_DrawPostSame_vb BK211) NB211_214.out (by simp))
 replace BK220 := Aside0.mk (KeepBut.blk hk (g' := gb220) (o := .cells #[.int .i64 t215, .slice Ao17 t216.length co17] 25 (0, 0)) (spec_DrawPostSame_vb BK220) NB220_214.out (by simp))
 have HO234 := Aside0.mk (Kd.R_lower (Kd.R_new' (Kd.R_new' (Kd.R_new' ho0 (Kd.R_lt (lo_ HO218))) (Kd.R_lt (lo_ HO224))) (Kd.R_lt (lo_ HO229))) (below_size (spec_DrawPostSame_auHB)))
 replace HO218 := Aside0.mk (Kd.R_mono (Kd.R_told (Kd.R_oldK (IsS58.apart (show IsS58 w _ g214 t212 t230 from spec_DrawPostSame_auHI214) (lo_ HO218) (by decide)) hk) (Kd.R_base ho0)) (fun _ h_ => h_.1))
 replace HO224 := Aside0.mk (Kd.R_mono (Kd.R_told (Kd.R_oldK (IsS58.apart (show IsS58 w _ g214 t212 t230 from spec_DrawPostSame_auHI214) (lo_ HO224) (by decide)) hk) (Kd.R_base ho0)) (fun _ h_ => h_.1))
 replace HO229 := Aside0.mk (Kd.R_mono (Kd.R_told (Kd.R_oldK (IsS58.apart (show IsS58 w _ g214 t212 t230 from spec_DrawPostSame_auHI214) (lo_ HO229) (by decide)) hk) (Kd.R_base ho0)) (fun _ h_ => h_.1))
 replace HB := Aside0.mk (hb)
 replace HI214 := Aside0.mk (hi)
 (try clear hb)
 (try clear hb2)
 (try clear hk)
 (try clear hi)
 (try clear ho0)
 obtain ⟨Ao25, co25, eo25⟩ := Kd.R_slice HO234.out
 (first | subst eo25 | (injection eo25 with f1_ f2_ f3_; have f4_ := f1_.symm; have f5_ := f3_.symm; clear f1_ f2_ f3_; subst f4_; subst f5_))
 refine hK.out _ _ ⟨(blk_cell BK220.out 0).trans rfl, (blk_cell BK220.out 1).trans rfl⟩ (fun hHeld => ?_)
 clear hK K
 refine norm_ (a' := ?_) ?_ ?_
 rotate_left
 ·
  show Act.put _ (some 18) _ = _
  simp only [Act.put, List.setIfInBounds_toArray, List.set_cons_zero, List.set_cons_succ, i64_w, i32_w]
  rfl
 refine one_ (i := 9) (N := some 19) #[true, true, true, true, true, true, true, true, true, true, false, false] rfl rfl (one_of HT_.out (by kernel_rfl)) (by decide) (fun K hK => ?_)
 refine goes_ Try.func23 (by kernel_rfl) rfl #[.pointer (some ⟨g214, 0, none⟩), .agg #[.int .i64 t231, .slice Ao25 t232.length co25]] (by rfl) rfl rfl (by (try simp only [List.map_toArray, List.map_cons, List.map_nil]); first | done | rfl | (simp only [List.length_drop, List.length_take]; rfl)) ?_
 with_reducible refine (spec_l1Bent.calls k g214 t212 t235 t231 _ _ t232 t236 t237 t240 w _ ?side1 ?side2 ?side3 ?side4 A7.out).mono ?_
 (case side1 => exact spec_DrawPostSame_auHI214)
 (case side2 => exact spec_DrawPostSame_auHB)
 (case side3 => exact Kd.C_foot_own (IsS58.apart (show IsS58 w _ g214 t212 t235 from spec_DrawPostSame_auHI214) (lo_ HO234) (by decide)) (fun _ h_ => h_.2))
 (case side4 => exact (Kd.R_reads' HO234.out).2.1)
 rintro e w26 ⟨v238, rfl, ho0, hi, hb, hk⟩
 refine ⟨_, rfl, ?_⟩
 replace BK210 := Aside0.mk (KeepBut.blk hk (g' := gb210) (o := .cells #[.int .i64 0, .slice none 0 0] 25 (0, 0)) (spec_DrawPostSame_vb BK210) NB210_214.out (by simp))
 replace BK211 := Aside0.mk (KeepBut.blk hk (g' := gb211) (o := .cells #[.int .i64 0, .slice none 0 0] 25 (0, 0)) (spec_DrawPostSame_vb BK211) NB211_214.out (by simp))
 replace BK220 := Aside0.mk (KeepBut.blk hk (g' := gb220) (o := .cells #[.int .i64 t215, .slice Ao17 t216.length co17] 25 (0, 0)) (spec_DrawPostSame_vb BK220) NB220_214.out (by simp))
 have HO239 := Aside0.mk (Kd.R_lower (Kd.R_new' (Kd.R_new' (Kd.R_new' (Kd.R_new' ho0 (Kd.R_lt (lo_ HO218))) (Kd.R_lt (lo_ HO224))) (Kd.R_lt (lo_ HO229))) (Kd.R_lt (lo_ HO234))) (below_size (spec_DrawPostSame_auHB)))
 replace HO218 := Aside0.mk (Kd.R_mono (Kd.R_told (Kd.R_oldK (IsS58.apart (show IsS58 w _ g214 t212 t235 from spec_DrawPostSame_auHI214) (lo_ HO218) (by decide)) hk) (Kd.R_base ho0)) (fun _ h_ => h_.1))
 replace HO224 := Aside0.mk (Kd.R_mono (Kd.R_told (Kd.R_oldK (IsS58.apart (show IsS58 w _ g214 t212 t235 from spec_DrawPostSame_auHI214) (lo_ HO224) (by decide)) hk) (Kd.R_base ho0)) (fun _ h_ => h_.1))
 replace HO229 := Aside0.mk (Kd.R_mono (Kd.R_told (Kd.R_oldK (IsS58.apart (show IsS58 w _ g214 t212 t235 from spec_DrawPostSame_auHI214) (lo_ HO229) (by decide)) hk) (Kd.R_base ho0)) (fun _ h_ => h_.1))
 replace HO234 := Aside0.mk (Kd.R_mono (Kd.R_told (Kd.R_oldK (IsS58.apart (show IsS58 w _ g214 t212 t235 from spec_DrawPostSame_auHI214) (lo_ HO234) (by decide)) hk) (Kd.R_base ho0)) (fun _ h_ => h_.1))
 replace HB := Aside0.mk (hb)
 replace HI214 := Aside0.mk (hi)
 (try clear hb)
 (try clear hb2)
 (try clear hk)
 (try clear hi)
 (try clear ho0)
 obtain ⟨Ao30, co30, eo30⟩ := Kd.R_slice HO239.out
 (first | subst eo30 | (injection eo30 with f1_ f2_ f3_; have f4_ := f1_.symm; have f5_ := f3_.symm; clear f1_ f2_ f3_; subst f4_; subst f5_))
 refine hK.out _ _ ⟨(blk_cell BK220.out 0).trans rfl, (blk_cell BK220.out 1).trans rfl⟩ (fun hHeld => ?_)
 clear hK K
 refine norm_ (a' := ?_) ?_ ?_
 rotate_left
 ·
  show Act.put _ (some 19) _ = _
  simp only [Act.put, List.setIfInBounds_toArray, List.set_cons_zero, List.set_cons_succ, i64_w, i32_w]
  rfl
 refine one_ (i := 10) (N := none) #[true, true, true, true, true, true, true, true, true, true, true, false] rfl rfl (one_of HT_.out (by kernel_rfl)) (by decide) (fun K hK => ?_)
 have hs27 : w26.cell? ⟨gb210, 0, none⟩ = some (.int .i64 0) := (blk_cell BK210.out 0).trans rfl
 have hfs27 := blk_frozen BK210.out 0
 have hns27_1 := NB211_210.out
 have hns27_2 := NB220_210.out
 have hms27_1 := NB210_211.out
 have hms27_2 := NB210_220.out
 have hs28 : w26.cell? ⟨gb210, 1, none⟩ = some (.slice none 0 0) := (blk_cell BK210.out 1).trans rfl
 have hfs28 := blk_frozen BK210.out 1
 have hns28_1 := NB211_210.out
 have hns28_2 := NB220_210.out
 have hms28_1 := NB210_211.out
 have hms28_2 := NB210_220.out
 refine skip_ (w1 := ?_) (by rfl) rfl ?_ ?_
 rotate_left
 ·
  go_simp
  rfl
 refine hK.out _ _ ⟨((cell_far (p := ⟨gb210, _, none⟩) NB220_210.out _).trans (((cell_far (p := ⟨gb210, _, none⟩) NB220_210.out _).trans (hHeld.1)))), ((cell_far (p := ⟨gb210, _, none⟩) NB220_210.out _).trans (((cell_far (p := ⟨gb210, _, none⟩) NB220_210.out _).trans (hHeld.2))))⟩ (fun hHeld => ?_)
 clear hK K
 refine one_ (i := 11) (N := none) #[true, true, true, true, true, true, true, true, true, true, true, true] rfl rfl (one_of HT_.out (by kernel_rfl)) (by decide) (fun K hK => ?_)
 have hs29 : w26.cell? ⟨gb211, 0, none⟩ = some (.int .i64 0) := (blk_cell BK211.out 0).trans rfl
 have hfs29 := blk_frozen BK211.out 0
 have hns29_0 := NB210_211.out
 have hns29_2 := NB220_211.out
 have hms29_0 := NB211_210.out
 have hms29_2 := NB211_220.out
 have hs31 : w26.cell? ⟨gb211, 1, none⟩ = some (.slice none 0 0) := (blk_cell BK211.out 1).trans rfl
 have hfs31 := blk_frozen BK211.out 1
 have hns31_0 := NB210_211.out
 have hns31_2 := NB220_211.out
 have hms31_0 := NB211_210.out
 have hms31_2 := NB211_220.out
 refine skip_ (w1 := ?_) (by rfl) rfl ?_ ?_
 rotate_left
 ·
  go_simp
  rfl
 refine hK.out _ _ ⟨((cell_far (p := ⟨gb211, _, none⟩) NB220_211.out _).trans (((cell_far (p := ⟨gb211, _, none⟩) NB220_211.out _).trans (hHeld.1)))), ((cell_far (p := ⟨gb211, _, none⟩) NB220_211.out _).trans (((cell_far (p := ⟨gb211, _, none⟩) NB220_211.out _).trans (hHeld.2))))⟩ (fun hHeld => ?_)
 clear hK K
 refine done_ (done_of HT_.out (by kernel_rfl)) ?_
 try go_wp2
 refine bodyPost_ret (results_cc rfl _ _ gb210 gb211 25 25 #[.int .i64 t215, .slice Ao17 t216.length co17] #[.int .i64 t236, .slice Ao30 t237.length co30] (0, 0) (0, 0) _ _ rfl (by (with_reducible repeat (first | refine blk_drewN ?_ _ | refine blk_drew ?_ | refine blk_alloc ?_ _)); refine blk_far ?_ NB210_211.out _; (with_reducible repeat (first | refine blk_drewN ?_ _ | refine blk_drew ?_ | refine blk_alloc ?_ _)); refine blk_far ?_ NB210_211.out _; (with_reducible repeat (first | refine blk_drewN ?_ _ | refine blk_drew ?_ | refine blk_alloc ?_ _)); refine blk_put (cs := #[.int .i64 t215, .slice none 0 0]) ?_ 1 _ rfl; (with_reducible repeat (first | refine blk_drewN ?_ _ | refine blk_drew ?_ | refine blk_alloc ?_ _)); refine blk_put (cs := #[.int .i64 0, .slice none 0 0]) ?_ 0 _ rfl; (with_reducible repeat (first | refine blk_drewN ?_ _ | refine blk_drew ?_ | refine blk_alloc ?_ _)); exact BK210.out) Try.underlying25 rfl (by kernel_rfl) rfl (by (with_reducible repeat (first | refine blk_drewN ?_ _ | refine blk_drew ?_ | refine blk_alloc ?_ _)); refine blk_put (cs := #[.int .i64 t236, .slice none 0 0]) ?_ 1 _ rfl; (with_reducible repeat (first | refine blk_drewN ?_ _ | refine blk_drew ?_ | refine blk_alloc ?_ _)); refine blk_put (cs := #[.int .i64 0, .slice none 0 0]) ?_ 0 _ rfl; (with_reducible repeat (first | refine blk_drewN ?_ _ | refine blk_drew ?_ | refine blk_alloc ?_ _)); refine blk_far ?_ NB211_210.out _; (with_reducible repeat (first | refine blk_drewN ?_ _ | refine blk_drew ?_ | refine blk_alloc ?_ _)); refine blk_far ?_ NB211_210.out _; (with_reducible repeat (first | refine blk_drewN ?_ _ | refine blk_drew ?_ | refine blk_alloc ?_ _)); exact BK211.out) Try.underlying25 rfl (by kernel_rfl)) rfl ?_
 exact ⟨_, _, by first | rfl | (simp [errW_none, errW_some] <;> rfl) | (simp [*, errW_none, errW_some] <;> rfl), by (with_reducible repeat (first | apply Kd.R_alloc | apply Kd.R_drewN | apply Kd.R_drew)); exact Kd.R_mono (Kd.R_far (p := ⟨gb211, 1, none⟩) (Kd.R_far (p := ⟨gb211, 0, none⟩) (Kd.R_far (p := ⟨gb210, 1, none⟩) (Kd.R_far (p := ⟨gb210, 0, none⟩) (Kd.R_types (Kd.R_types HO218.out BK210.out (by decide)) BK211.out (by decide)) (fun _ hk => hk.1.2) (.int .i64 t215)) (fun _ hk => hk.1.2) (.slice Ao17 t216.length co17)) (fun _ hk => hk.2) (.int .i64 t236)) (fun _ hk => hk.2) (.slice Ao30 t237.length co30)) (fun _ hk => hk.1.1.2), by (with_reducible repeat (first | apply Kd.R_alloc | apply Kd.R_drewN | apply Kd.R_drew)); exact Kd.R_mono (Kd.R_far (p := ⟨gb211, 1, none⟩) (Kd.R_far (p := ⟨gb211, 0, none⟩) (Kd.R_far (p := ⟨gb210, 1, none⟩) (Kd.R_far (p := ⟨gb210, 0, none⟩) (Kd.R_types (Kd.R_types HO239.out BK210.out (by decide)) BK211.out (by decide)) (fun _ hk => hk.1.2) (.int .i64 t215)) (fun _ hk => hk.1.2) (.slice Ao17 t216.length co17)) (fun _ hk => hk.2) (.int .i64 t236)) (fun _ hk => hk.2) (.slice Ao30 t237.length co30)) (fun _ hk => hk.1.1.1.1.1.2), spec_DrawPostSame_auHB⟩

/-! ### spec_DrawLegOk: function 6 -/
def spec_DrawLegOk.f (k : Nat) (l0 : List Int) : Option (ByteArray × Int × Int) := (spec_l9Open.f l0).bind fun bt242 => ((spec_l1Post.f k bt242.1 bt242.2).bind fun bt245 => ((spec_l1Bent.f k bt242.1 bt245.2.2 bt245.1 bt245.2.1).bind fun bt250 => ((spec_l1Bent.f k bt242.1 bt250.2.2 bt250.1 bt250.2.1).bind fun bt255 => ((spec_l1Bent.f k bt242.1 bt255.2.2 bt255.1 bt255.2.1).bind fun bt260 => (if (bt260.2.1.length : Int) = 0 then (some ((⟨#[]⟩ : ByteArray), 0, 0)) else ((spec_l9Rd_pick.f k bt242.1 bt260.2.2 (bt260.2.1.length : Int)).bind fun bt266 => (if 0 ≤ bt266.1 then (if bt266.1 < (bt260.2.1.length : Int) then (some ((rd_T29 bt260.2.1 bt266.1).f0, (rd_T29 bt260.2.1 bt266.1).f1, (rd_T29 bt260.2.1 bt266.1).f2)) else (none)) else (none))))))))
theorem spec_DrawLegOk.mono : ∀ a0 k, LeO (spec_DrawLegOk.f k a0) (spec_DrawLegOk.f (k + 1) a0) := by
  intro a0 k
  unfold spec_DrawLegOk.f
  repeat' first
      | (with_reducible exact spec_l1Bent.mono _ _ _ _ _)
      | (with_reducible exact spec_l1Post.mono _ _ _)
      | (with_reducible exact spec_l9Rd_pick.mono _ _ _ _)
      | (with_reducible exact LeO.refl _)
      | (with_reducible exact LeO.none _)
      | (with_reducible refine LeO.ite ?_ ?_)
      | (with_reducible refine LeO.bind ?_ (fun _ => ?_))
      | exact spec_l1Bent.mono _ _ _ _ _
      | exact spec_l1Post.mono _ _ _
      | exact spec_l9Rd_pick.mono _ _ _ _
      | exact LeO.none _
      | refine LeO.ite ?_ ?_
      | refine LeO.bind ?_ (fun _ => ?_)
def spec_DrawLegOk.T5 : Bool × List (List Nat × List Nat) := (true, [([], []), ([0], [0]), ([], []), ([], []), ([3], [3]), ([4], [4]), ([2, 5], [2, 5]), ([1, 6], [1, 6]), ([7], [7]), ([8, 6, 0, 1, 2, 3, 4, 5, 6, 7, 8], [8])])
def spec_DrawLegOk.B5 : List Nat := [0, 1, 0, 0, 8, 24, 60, 127, 255, 511]
theorem spec_DrawLegOk.tab5 : rtab .any (opsOf Try.f6 5) = spec_DrawLegOk.T5 := by kernel_rfl
theorem spec_DrawLegOk.bits5 : waitsOk spec_DrawLegOk.T5.2 spec_DrawLegOk.B5 = true := by kernel_rfl
theorem spec_DrawLegOk_vb {p q : Prop} (h : Aside0 p) (k : p → q := by (intro hz; (with_reducible repeat (first | refine blk_drewN ?_ _ | refine blk_drew ?_ | refine blk_alloc ?_ _)); exact hz)) : q := k h.out
theorem spec_DrawLegOk_auHB {q : Prop} (h : q := by (repeat (first | (with_reducible first | exact HB.out | apply below_alloc | apply pw_below_drewN | apply below_drew1 | refine below_set ?_ GE241.out | refine below_set ?_ (IsS58.ge HI244.out) | refine below_set ?_ GE265.out) | exact HB.out))) : q := h
theorem spec_DrawLegOk_auHI244 {q : Prop} (h : q := by (repeat (first | (with_reducible first | exact HI244.out | apply IsS58.alloc | apply IsS58.drewN | apply IsS58.drew | apply IsS58.set_1 | refine IsS58.far ?_ NB244_241.out _ | refine IsS58.far ?_ NB244_265.out _) | exact HI244.out))) : q := h
set_option maxHeartbeats 8000000 in
set_option maxRecDepth 100000 in
theorem spec_DrawLegOk.calls (k : Nat) (A0 : Option Addr) (c0 : Nat) (l0 : List Int) (r1 : ByteArray) (r2 : Int) (r3 : Int) (w : World) (hr0 : Kd.C (Kd.int .u8) w A0 l0.length l0) (hc0 : l0.length ≤ c0) (h : spec_DrawLegOk.f k l0 = some (r1, r2, r3)) :
  Calls Try.prog 6 #[.slice A0 l0.length c0] w fun e w' => e = .returned (.agg #[.string r1, .int .i64 r2, .int .i64 r3]) ∧ Below w.heap.size w w' := by
 have hu29 := Try.underlying29
 have hu25 := Try.underlying25
 have HR0 := Aside0.mk hr0
 have HC0 := Aside0.mk hc0
 clear hr0 hc0
 have HB := Aside0.mk (Below.refl w.heap.size w)
 have H : ((spec_l9Open.f l0).bind fun bt242 => ((spec_l1Post.f k bt242.1 bt242.2).bind fun bt245 => ((spec_l1Bent.f k bt242.1 bt245.2.2 bt245.1 bt245.2.1).bind fun bt250 => ((spec_l1Bent.f k bt242.1 bt250.2.2 bt250.1 bt250.2.1).bind fun bt255 => ((spec_l1Bent.f k bt242.1 bt255.2.2 bt255.1 bt255.2.1).bind fun bt260 => (if (bt260.2.1.length : Int) = 0 then (some ((⟨#[]⟩ : ByteArray), 0, 0)) else ((spec_l9Rd_pick.f k bt242.1 bt260.2.2 (bt260.2.1.length : Int)).bind fun bt266 => (if 0 ≤ bt266.1 then (if bt266.1 < (bt260.2.1.length : Int) then (some ((rd_T29 bt260.2.1 bt266.1).f0, (rd_T29 bt260.2.1 bt266.1).f1, (rd_T29 bt260.2.1 bt266.1).f2)) else (none)) else (none))))))))) = some (r1, r2, r3) := h
 clear h
 replace H := Option.bind_eq_some_iff.mp H
 obtain ⟨⟨t242, t243⟩, A20, H⟩ := H
 replace H : ((spec_l1Post.f k t242 t243).bind fun bt245 => ((spec_l1Bent.f k t242 bt245.2.2 bt245.1 bt245.2.1).bind fun bt250 => ((spec_l1Bent.f k t242 bt250.2.2 bt250.1 bt250.2.1).bind fun bt255 => ((spec_l1Bent.f k t242 bt255.2.2 bt255.1 bt255.2.1).bind fun bt260 => (if (bt260.2.1.length : Int) = 0 then (some ((⟨#[]⟩ : ByteArray), 0, 0)) else ((spec_l9Rd_pick.f k t242 bt260.2.2 (bt260.2.1.length : Int)).bind fun bt266 => (if 0 ≤ bt266.1 then (if bt266.1 < (bt260.2.1.length : Int) then (some ((rd_T29 bt260.2.1 bt266.1).f0, (rd_T29 bt260.2.1 bt266.1).f1, (rd_T29 bt260.2.1 bt266.1).f2)) else (none)) else (none)))))))) = some (r1, r2, r3) := H
 have A2 := Aside0.mk A20
 clear A20
 replace H := Option.bind_eq_some_iff.mp H
 obtain ⟨⟨t245, t246, t249⟩, A30, H⟩ := H
 replace H : ((spec_l1Bent.f k t242 t249 t245 t246).bind fun bt250 => ((spec_l1Bent.f k t242 bt250.2.2 bt250.1 bt250.2.1).bind fun bt255 => ((spec_l1Bent.f k t242 bt255.2.2 bt255.1 bt255.2.1).bind fun bt260 => (if (bt260.2.1.length : Int) = 0 then (some ((⟨#[]⟩ : ByteArray), 0, 0)) else ((spec_l9Rd_pick.f k t242 bt260.2.2 (bt260.2.1.length : Int)).bind fun bt266 => (if 0 ≤ bt266.1 then (if bt266.1 < (bt260.2.1.length : Int) then (some ((rd_T29 bt260.2.1 bt266.1).f0, (rd_T29 bt260.2.1 bt266.1).f1, (rd_T29 bt260.2.1 bt266.1).f2)) else (none)) else (none))))))) = some (r1, r2, r3) := H
 have A3 := Aside0.mk A30
 clear A30
 replace H := Option.bind_eq_some_iff.mp H
 obtain ⟨⟨t250, t251, t254⟩, A40, H⟩ := H
 replace H : ((spec_l1Bent.f k t242 t254 t250 t251).bind fun bt255 => ((spec_l1Bent.f k t242 bt255.2.2 bt255.1 bt255.2.1).bind fun bt260 => (if (bt260.2.1.length : Int) = 0 then (some ((⟨#[]⟩ : ByteArray), 0, 0)) else ((spec_l9Rd_pick.f k t242 bt260.2.2 (bt260.2.1.length : Int)).bind fun bt266 => (if 0 ≤ bt266.1 then (if bt266.1 < (bt260.2.1.length : Int) then (some ((rd_T29 bt260.2.1 bt266.1).f0, (rd_T29 bt260.2.1 bt266.1).f1, (rd_T29 bt260.2.1 bt266.1).f2)) else (none)) else (none)))))) = some (r1, r2, r3) := H
 have A4 := Aside0.mk A40
 clear A40
 replace H := Option.bind_eq_some_iff.mp H
 obtain ⟨⟨t255, t256, t259⟩, A50, H⟩ := H
 replace H : ((spec_l1Bent.f k t242 t259 t255 t256).bind fun bt260 => (if (bt260.2.1.length : Int) = 0 then (some ((⟨#[]⟩ : ByteArray), 0, 0)) else ((spec_l9Rd_pick.f k t242 bt260.2.2 (bt260.2.1.length : Int)).bind fun bt266 => (if 0 ≤ bt266.1 then (if bt266.1 < (bt260.2.1.length : Int) then (some ((rd_T29 bt260.2.1 bt266.1).f0, (rd_T29 bt260.2.1 bt266.1).f1, (rd_T29 bt260.2.1 bt266.1).f2)) else (none)) else (none))))) = some (r1, r2, r3) := H
 have A5 := Aside0.mk A50
 clear A50
 replace H := Option.bind_eq_some_iff.mp H
 obtain ⟨⟨t260, t261, t264⟩, A60, H⟩ := H
 replace H : (if (t261.length : Int) = 0 then (some ((⟨#[]⟩ : ByteArray), 0, 0)) else ((spec_l9Rd_pick.f k t242 t264 (t261.length : Int)).bind fun bt266 => (if 0 ≤ bt266.1 then (if bt266.1 < (t261.length : Int) then (some ((rd_T29 t261 bt266.1).f0, (rd_T29 t261 bt266.1).f1, (rd_T29 t261 bt266.1).f2)) else (none)) else (none)))) = some (r1, r2, r3) := H
 have A6 := Aside0.mk A60
 clear A60
 by_cases c7 : (t261.length : Int) = 0
 ·
  rw [if_pos c7] at H
  have c7b0 : ((t261.length : Int) == 0) = true := beq_iff_eq.mpr c7
  have c7b1 : ((t261.length : Int) != 0) = false := bne_eq_false_iff_eq.mpr c7
  clear c7
  simp only [Option.some.injEq, Prod.mk.injEq] at H
  obtain ⟨rfl, rfl, rfl⟩ := H
  go_enter Try.func6, Try.ntmps6
  go_wp2_with (first | ((with_reducible refine gate_dst (N := 2) rfl ?_); refine box_event ?hg (N := 2) ?hd (cs := #[.string (⟨#[]⟩ : ByteArray), .int .i64 0, .int .i64 0]) (t := 29) ?hr ?_; (case hd => rfl); (case hg => rfl); (case hr => first | (go_simp; done) | (go_simp; rfl)); intro gb241 hg w8 hbox hb; have BK241 := Aside0.mk (hbox); have GW241 := Aside0.mk ((by rw [hg]; exact (below_size (spec_DrawLegOk_auHB)) : w.heap.size ≤ gb241)); have GE241 := Aside0.mk ((by rw [hg]; exact (below_size (spec_DrawLegOk_auHB)) : w.heap.size ≤ gb241)); replace HB := Aside0.mk (below_step (spec_DrawLegOk_auHB) hb); clear hb hbox hg) | ((with_reducible refine gate_callee (f := 21) rfl ?_); refine goesL_ (some 6) rfl rfl Try.func21 (by kernel_rfl) rfl #[.slice A0 l0.length c0] rfl (by (try simp only [List.map_toArray, List.map_cons, List.map_nil]); first | done | rfl | (simp only [List.length_drop, List.length_take]; rfl)) ?_; (with_reducible refine (spec_l9Open.calls _ _ l0 t242 t243 w _ ?side1 ?side2 ?side3 A2.out).mono ?_); (case side1 => exact spec_DrawLegOk_auHB); (case side2 => exact HR0.out); (case side3 => exact HC0.out); rintro e w9 ⟨g244, rfl, hi, hb, hb2⟩; refine ⟨_, rfl, ?_⟩; replace HB := Aside0.mk (hb); have HI244 := Aside0.mk (hi); have NB244_241 := Aside0.mk (IsS58.ne_blk hi (blk_below (g := gb241) (o := .cells #[.string (⟨#[]⟩ : ByteArray), .int .i64 0, .int .i64 0] 29 (0, 0)) (spec_DrawLegOk_vb BK241) hb2) (by decide)); have NB241_244 := Aside0.mk (Ne.symm (IsS58.ne_blk hi (blk_below (g := gb241) (o := .cells #[.string (⟨#[]⟩ : ByteArray), .int .i64 0, .int .i64 0] 29 (0, 0)) (spec_DrawLegOk_vb BK241) hb2) (by decide))); replace BK241 := Aside0.mk (blk_below (g := gb241) (o := .cells #[.string (⟨#[]⟩ : ByteArray), .int .i64 0, .int .i64 0] 29 (0, 0)) (spec_DrawLegOk_vb BK241) hb2); (try clear hb); (try clear hb2); (try clear hk); (try clear hi)) | ((with_reducible refine gate_callee (f := 22) rfl ?_); refine goesL_ (some 11) rfl rfl Try.func22 (by kernel_rfl) rfl #[.pointer (some ⟨g244, 0, none⟩)] rfl (by (try simp only [List.map_toArray, List.map_cons, List.map_nil]); first | done | rfl | (simp only [List.length_drop, List.length_take]; rfl)) ?_; (with_reducible refine (spec_l1Post.calls k g244 t242 t243 t245 t246 t249 w _ ?side1 ?side2 A3.out).mono ?_); (case side1 => exact spec_DrawLegOk_auHI244); (case side2 => exact spec_DrawLegOk_auHB); rintro e w10 ⟨v247, rfl, ho0, hi, hb, hk⟩; refine ⟨_, rfl, ?_⟩; have HO248 := Aside0.mk (Kd.R_lower (Kd.R_newB ho0 (g := gb241) (o := .cells #[.string (⟨#[]⟩ : ByteArray), .int .i64 0, .int .i64 0] 29 (0, 0)) (spec_DrawLegOk_vb BK241)) (below_size (spec_DrawLegOk_auHB))); replace BK241 := Aside0.mk (KeepBut.blk hk (g' := gb241) (o := .cells #[.string (⟨#[]⟩ : ByteArray), .int .i64 0, .int .i64 0] 29 (0, 0)) (spec_DrawLegOk_vb BK241) NB241_244.out (by simp)); replace HB := Aside0.mk (hb); replace HI244 := Aside0.mk (hi); (try clear hb); (try clear hb2); (try clear hk); (try clear hi); (try clear ho0); obtain ⟨Ao11, co11, eo11⟩ := Kd.R_slice HO248.out; subst eo11) | ((with_reducible refine gate_callee (f := 23) rfl ?_); refine goesL_ (some 12) rfl rfl Try.func23 (by kernel_rfl) rfl #[.pointer (some ⟨g244, 0, none⟩), .agg #[.int .i64 t245, .slice Ao11 t246.length co11]] rfl (by (try simp only [List.map_toArray, List.map_cons, List.map_nil]); first | done | rfl | (simp only [List.length_drop, List.length_take]; rfl)) ?_; (with_reducible refine (spec_l1Bent.calls k g244 t242 t249 t245 _ _ t246 t250 t251 t254 w _ ?side1 ?side2 ?side3 ?side4 A4.out).mono ?_); (case side1 => exact spec_DrawLegOk_auHI244); (case side2 => exact spec_DrawLegOk_auHB); (case side3 => exact Kd.C_foot_own (IsS58.apart (show IsS58 w _ g244 t242 t249 from spec_DrawLegOk_auHI244) (lo_ HO248) (by decide)) (fun _ h_ => h_.2)); (case side4 => exact (Kd.R_reads' HO248.out).2.1); rintro e w12 ⟨v252, rfl, ho0, hi, hb, hk⟩; refine ⟨_, rfl, ?_⟩; have HO253 := Aside0.mk (Kd.R_lower (Kd.R_newB (Kd.R_new' ho0 (Kd.R_lt (lo_ HO248))) (g := gb241) (o := .cells #[.string (⟨#[]⟩ : ByteArray), .int .i64 0, .int .i64 0] 29 (0, 0)) (spec_DrawLegOk_vb BK241)) (below_size (spec_DrawLegOk_auHB))); replace BK241 := Aside0.mk (KeepBut.blk hk (g' := gb241) (o := .cells #[.string (⟨#[]⟩ : ByteArray), .int .i64 0, .int .i64 0] 29 (0, 0)) (spec_DrawLegOk_vb BK241) NB241_244.out (by simp)); replace HO248 := Aside0.mk (Kd.R_mono (Kd.R_told (Kd.R_oldK (IsS58.apart (show IsS58 w _ g244 t242 t249 from spec_DrawLegOk_auHI244) (lo_ HO248) (by decide)) hk) (Kd.R_base ho0)) (fun _ h_ => h_.1)); replace HB := Aside0.mk (hb); replace HI244 := Aside0.mk (hi); (try clear hb); (try clear hb2); (try clear hk); (try clear hi); (try clear ho0); obtain ⟨Ao13, co13, eo13⟩ := Kd.R_slice HO253.out; subst eo13) | ((with_reducible refine gate_callee (f := 23) rfl ?_); refine goesL_ (some 13) rfl rfl Try.func23 (by kernel_rfl) rfl #[.pointer (some ⟨g244, 0, none⟩), .agg #[.int .i64 t250, .slice Ao13 t251.length co13]] rfl (by (try simp only [List.map_toArray, List.map_cons, List.map_nil]); first | done | rfl | (simp only [List.length_drop, List.length_take]; rfl)) ?_; (with_reducible refine (spec_l1Bent.calls k g244 t242 t254 t250 _ _ t251 t255 t256 t259 w _ ?side1 ?side2 ?side3 ?side4 A5.out).mono ?_); (case side1 => exact spec_DrawLegOk_auHI244); (case side2 => exact spec_DrawLegOk_auHB); (case side3 => exact Kd.C_foot_own (IsS58.apart (show IsS58 w _ g244 t242 t254 from spec_DrawLegOk_auHI244) (lo_ HO253) (by decide)) (fun _ h_ => h_.2)); (case side4 => exact (Kd.R_reads' HO253.out).2.1); rintro e w14 ⟨v257, rfl, ho0, hi, hb, hk⟩; refine ⟨_, rfl, ?_⟩; have HO258 := Aside0.mk (Kd.R_lower (Kd.R_newB (Kd.R_new' (Kd.R_new' ho0 (Kd.R_lt (lo_ HO248))) (Kd.R_lt (lo_ HO253))) (g := gb241) (o := .cells #[.string (⟨#[]⟩ : ByteArray), .int .i64 0, .int .i64 0] 29 (0, 0)) (spec_DrawLegOk_vb BK241)) (below_size (spec_DrawLegOk_auHB))); replace BK241 := Aside0.mk (KeepBut.blk hk (g' := gb241) (o := .cells #[.string (⟨#[]⟩ : ByteArray), .int .i64 0, .int .i64 0] 29 (0, 0)) (spec_DrawLegOk_vb BK241) NB241_244.out (by simp)); replace HO248 := Aside0.mk (Kd.R_mono (Kd.R_told (Kd.R_oldK (IsS58.apart (show IsS58 w _ g244 t242 t254 from spec_DrawLegOk_auHI244) (lo_ HO248) (by decide)) hk) (Kd.R_base ho0)) (fun _ h_ => h_.1)); replace HO253 := Aside0.mk (Kd.R_mono (Kd.R_told (Kd.R_oldK (IsS58.apart (show IsS58 w _ g244 t242 t254 from spec_DrawLegOk_auHI244) (lo_ HO253) (by decide)) hk) (Kd.R_base ho0)) (fun _ h_ => h_.1)); replace HB := Aside0.mk (hb); replace HI244 := Aside0.mk (hi); (try clear hb); (try clear hb2); (try clear hk); (try clear hi); (try clear ho0); obtain ⟨Ao15, co15, eo15⟩ := Kd.R_slice HO258.out; subst eo15) | ((with_reducible refine gate_callee (f := 23) rfl ?_); refine goesL_ (some 14) rfl rfl Try.func23 (by kernel_rfl) rfl #[.pointer (some ⟨g244, 0, none⟩), .agg #[.int .i64 t255, .slice Ao15 t256.length co15]] rfl (by (try simp only [List.map_toArray, List.map_cons, List.map_nil]); first | done | rfl | (simp only [List.length_drop, List.length_take]; rfl)) ?_; (with_reducible refine (spec_l1Bent.calls k g244 t242 t259 t255 _ _ t256 t260 t261 t264 w _ ?side1 ?side2 ?side3 ?side4 A6.out).mono ?_); (case side1 => exact spec_DrawLegOk_auHI244); (case side2 => exact spec_DrawLegOk_auHB); (case side3 => exact Kd.C_foot_own (IsS58.apart (show IsS58 w _ g244 t242 t259 from spec_DrawLegOk_auHI244) (lo_ HO258) (by decide)) (fun _ h_ => h_.2)); (case side4 => exact (Kd.R_reads' HO258.out).2.1); rintro e w16 ⟨v262, rfl, ho0, hi, hb, hk⟩; refine ⟨_, rfl, ?_⟩; have HO263 := Aside0.mk (Kd.R_lower (Kd.R_newB (Kd.R_new' (Kd.R_new' (Kd.R_new' ho0 (Kd.R_lt (lo_ HO248))) (Kd.R_lt (lo_ HO253))) (Kd.R_lt (lo_ HO258))) (g := gb241) (o := .cells #[.string (⟨#[]⟩ : ByteArray), .int .i64 0, .int .i64 0] 29 (0, 0)) (spec_DrawLegOk_vb BK241)) (below_size (spec_DrawLegOk_auHB))); replace BK241 := Aside0.mk (KeepBut.blk hk (g' := gb241) (o := .cells #[.string (⟨#[]⟩ : ByteArray), .int .i64 0, .int .i64 0] 29 (0, 0)) (spec_DrawLegOk_vb BK241) NB241_244.out (by simp)); replace HO248 := Aside0.mk (Kd.R_mono (Kd.R_told (Kd.R_oldK (IsS58.apart (show IsS58 w _ g244 t242 t259 from spec_DrawLegOk_auHI244) (lo_ HO248) (by decide)) hk) (Kd.R_base ho0)) (fun _ h_ => h_.1)); replace HO253 := Aside0.mk (Kd.R_mono (Kd.R_told (Kd.R_oldK (IsS58.apart (show IsS58 w _ g244 t242 t259 from spec_DrawLegOk_auHI244) (lo_ HO253) (by decide)) hk) (Kd.R_base ho0)) (fun _ h_ => h_.1)); replace HO258 := Aside0.mk (Kd.R_mono (Kd.R_told (Kd.R_oldK (IsS58.apart (show IsS58 w _ g244 t242 t259 from spec_DrawLegOk_auHI244) (lo_ HO258) (by decide)) hk) (Kd.R_base ho0)) (fun _ h_ => h_.1)); replace HB := Aside0.mk (hb); replace HI244 := Aside0.mk (hi); (try clear hb); (try clear hb2); (try clear hk); (try clear hi); (try clear ho0)) | ((with_reducible refine gate_dst (N := 4) rfl ?_); refine box_event ?hg (N := 4) ?hd (cs := #[.int .i64 0, .slice none 0 0]) (t := 25) ?hr ?_; (case hd => rfl); (case hg => rfl); (case hr => first | (go_simp; done) | (go_simp; rfl)); intro gb265 hg w17 hbox hb; replace HO248 := Aside0.mk (Kd.R_below (lo_ HO248) hb); replace HO253 := Aside0.mk (Kd.R_below (lo_ HO253) hb); replace HO258 := Aside0.mk (Kd.R_below (lo_ HO258) hb); replace HO263 := Aside0.mk (Kd.R_below (lo_ HO263) hb); have BK265 := Aside0.mk (hbox); have GW265 := Aside0.mk ((by rw [hg]; exact (below_size (spec_DrawLegOk_auHB)) : w.heap.size ≤ gb265)); have GE265 := Aside0.mk ((by rw [hg]; exact (below_size (spec_DrawLegOk_auHB)) : w.heap.size ≤ gb265)); replace HB := Aside0.mk (below_step (spec_DrawLegOk_auHB) hb); have NB241_265 := Aside0.mk ((by rw [hg]; exact Nat.ne_of_lt (blk_lt (g := gb241) (o := .cells #[.string (⟨#[]⟩ : ByteArray), .int .i64 0, .int .i64 0] 29 (0, 0)) (spec_DrawLegOk_vb BK241)) : gb241 ≠ gb265)); have NB265_241 := Aside0.mk ((by rw [hg]; exact Nat.ne_of_gt (blk_lt (g := gb241) (o := .cells #[.string (⟨#[]⟩ : ByteArray), .int .i64 0, .int .i64 0] 29 (0, 0)) (spec_DrawLegOk_vb BK241)) : gb265 ≠ gb241)); replace BK241 := Aside0.mk (blk_below (g := gb241) (o := .cells #[.string (⟨#[]⟩ : ByteArray), .int .i64 0, .int .i64 0] 29 (0, 0)) (spec_DrawLegOk_vb BK241) hb); have NB244_265 := Aside0.mk ((by rw [hg]; exact Nat.ne_of_lt (IsS58.lt (show IsS58 w _ g244 t242 t264 from spec_DrawLegOk_auHI244)) : g244 ≠ gb265)); have NB265_244 := Aside0.mk ((by rw [hg]; exact Nat.ne_of_gt (IsS58.lt (show IsS58 w _ g244 t242 t264 from spec_DrawLegOk_auHI244)) : gb265 ≠ g244)); replace HI244 := Aside0.mk (IsS58.below (spec_DrawLegOk_auHI244) hb); clear hb hbox hg; have hnb18 := NB265_241.out; have hnc18 := NB241_265.out; have hnb19 := NB265_244.out; have hnc19 := NB244_265.out; have hcz20_0 : w17.cell? ⟨gb265, 0, none⟩ = some (.int .i64 0) := (blk_cell BK265.out 0).trans rfl; have hcz20_1 : w17.cell? ⟨gb265, 1, none⟩ = some (.slice none 0 0) := (blk_cell BK265.out 1).trans rfl; have hfz20_0 := blk_frozen BK265.out 0; have hfz20_1 := blk_frozen BK265.out 1; obtain ⟨Ao21, co21, eo21⟩ := Kd.R_slice HO263.out; subst eo21; have hnb22 := NB241_244.out; have hnc22 := NB244_241.out; have hcz23_0 : w17.cell? ⟨gb241, 0, none⟩ = some (.string (⟨#[]⟩ : ByteArray)) := (blk_cell BK241.out 0).trans rfl; have hcz23_1 : w17.cell? ⟨gb241, 1, none⟩ = some (.int .i64 0) := (blk_cell BK241.out 1).trans rfl; have hcz23_2 : w17.cell? ⟨gb241, 2, none⟩ = some (.int .i64 0) := (blk_cell BK241.out 2).trans rfl; have hfz23_0 := blk_frozen BK241.out 0; have hfz23_1 := blk_frozen BK241.out 1; have hfz23_2 := blk_frozen BK241.out 2))
  refine bodyPost_ret (results_cell_row rfl _ _ gb241 29 #[.string (⟨#[]⟩ : ByteArray), .int .i64 0, .int .i64 0] (0, 0) _ rfl (by (with_reducible repeat (first | refine blk_drewN ?_ _ | refine blk_drew ?_ | refine blk_alloc ?_ _)); refine blk_put (cs := #[.string (⟨#[]⟩ : ByteArray), .int .i64 0, .int .i64 0]) ?_ 2 _ rfl; (with_reducible repeat (first | refine blk_drewN ?_ _ | refine blk_drew ?_ | refine blk_alloc ?_ _)); refine blk_put (cs := #[.string (⟨#[]⟩ : ByteArray), .int .i64 0, .int .i64 0]) ?_ 1 _ rfl; (with_reducible repeat (first | refine blk_drewN ?_ _ | refine blk_drew ?_ | refine blk_alloc ?_ _)); refine blk_put (cs := #[.string (⟨#[]⟩ : ByteArray), .int .i64 0, .int .i64 0]) ?_ 0 _ rfl; (with_reducible repeat (first | refine blk_drewN ?_ _ | refine blk_drew ?_ | refine blk_alloc ?_ _)); refine blk_far ?_ NB241_265.out _; (with_reducible repeat (first | refine blk_drewN ?_ _ | refine blk_drew ?_ | refine blk_alloc ?_ _)); refine blk_far ?_ NB241_265.out _; (with_reducible repeat (first | refine blk_drewN ?_ _ | refine blk_drew ?_ | refine blk_alloc ?_ _)); exact BK241.out) Try.underlying29 rfl (by kernel_rfl)) rfl ?_
  exact ⟨by first | rfl | (simp [errW_none, errW_some] <;> rfl) | (simp [*, errW_none, errW_some] <;> rfl), spec_DrawLegOk_auHB⟩
 rw [if_neg c7] at H
 have c7b0 : ((t261.length : Int) == 0) = false := beq_eq_false_iff_ne.mpr c7
 have c7b1 : ((t261.length : Int) != 0) = true := bne_iff_ne.mpr c7
 have c7b2 : ¬ (t261 = []) := fun h_ => c7 (by rw [h_]; rfl)
 replace H := Option.bind_eq_some_iff.mp H
 obtain ⟨⟨t266, t267⟩, A240, H⟩ := H
 replace H : (if 0 ≤ t266 then (if t266 < (t261.length : Int) then (some ((rd_T29 t261 t266).f0, (rd_T29 t261 t266).f1, (rd_T29 t261 t266).f2)) else (none)) else (none)) = some (r1, r2, r3) := H
 have A24 := Aside0.mk A240
 clear A240
 by_cases c25 : 0 ≤ t266
 rotate_left
 ·
  rw [if_neg c25] at H
  exact absurd H (by simp)
 rw [if_pos c25] at H
 have c25b0 : decide (0 ≤ t266) = true := decide_eq_true c25
 clear c25
 by_cases c26 : t266 < (t261.length : Int)
 rotate_left
 ·
  rw [if_neg c26] at H
  exact absurd H (by simp)
 rw [if_pos c26] at H
 have c26b0 : decide (t266 < (t261.length : Int)) = true := decide_eq_true c26
 clear c26
 simp only [Option.some.injEq, Prod.mk.injEq] at H
 obtain ⟨rfl, rfl, rfl⟩ := H
 go_enter Try.func6, Try.ntmps6
 try go_wp2_with (first | ((with_reducible refine gate_dst (N := 2) rfl ?_); refine box_event ?hg (N := 2) ?hd (cs := #[.string (⟨#[]⟩ : ByteArray), .int .i64 0, .int .i64 0]) (t := 29) ?hr ?_; (case hd => rfl); (case hg => rfl); (case hr => first | (go_simp; done) | (go_simp; rfl)); intro gb241 hg w27 hbox hb; have BK241 := Aside0.mk (hbox); have GW241 := Aside0.mk ((by rw [hg]; exact (below_size (spec_DrawLegOk_auHB)) : w.heap.size ≤ gb241)); have GE241 := Aside0.mk ((by rw [hg]; exact (below_size (spec_DrawLegOk_auHB)) : w.heap.size ≤ gb241)); replace HB := Aside0.mk (below_step (spec_DrawLegOk_auHB) hb); clear hb hbox hg) | ((with_reducible refine gate_callee (f := 21) rfl ?_); refine goesL_ (some 6) rfl rfl Try.func21 (by kernel_rfl) rfl #[.slice A0 l0.length c0] rfl (by (try simp only [List.map_toArray, List.map_cons, List.map_nil]); first | done | rfl | (simp only [List.length_drop, List.length_take]; rfl)) ?_; (with_reducible refine (spec_l9Open.calls _ _ l0 t242 t243 w _ ?side1 ?side2 ?side3 A2.out).mono ?_); (case side1 => exact spec_DrawLegOk_auHB); (case side2 => exact HR0.out); (case side3 => exact HC0.out); rintro e w28 ⟨g244, rfl, hi, hb, hb2⟩; refine ⟨_, rfl, ?_⟩; replace HB := Aside0.mk (hb); have HI244 := Aside0.mk (hi); have NB244_241 := Aside0.mk (IsS58.ne_blk hi (blk_below (g := gb241) (o := .cells #[.string (⟨#[]⟩ : ByteArray), .int .i64 0, .int .i64 0] 29 (0, 0)) (spec_DrawLegOk_vb BK241) hb2) (by decide)); have NB241_244 := Aside0.mk (Ne.symm (IsS58.ne_blk hi (blk_below (g := gb241) (o := .cells #[.string (⟨#[]⟩ : ByteArray), .int .i64 0, .int .i64 0] 29 (0, 0)) (spec_DrawLegOk_vb BK241) hb2) (by decide))); replace BK241 := Aside0.mk (blk_below (g := gb241) (o := .cells #[.string (⟨#[]⟩ : ByteArray), .int .i64 0, .int .i64 0] 29 (0, 0)) (spec_DrawLegOk_vb BK241) hb2); (try clear hb); (try clear hb2); (try clear hk); (try clear hi)) | ((with_reducible refine gate_callee (f := 22) rfl ?_); refine goesL_ (some 11) rfl rfl Try.func22 (by kernel_rfl) rfl #[.pointer (some ⟨g244, 0, none⟩)] rfl (by (try simp only [List.map_toArray, List.map_cons, List.map_nil]); first | done | rfl | (simp only [List.length_drop, List.length_take]; rfl)) ?_; (with_reducible refine (spec_l1Post.calls k g244 t242 t243 t245 t246 t249 w _ ?side1 ?side2 A3.out).mono ?_); (case side1 => exact spec_DrawLegOk_auHI244); (case side2 => exact spec_DrawLegOk_auHB); rintro e w29 ⟨v247, rfl, ho0, hi, hb, hk⟩; refine ⟨_, rfl, ?_⟩; have HO248 := Aside0.mk (Kd.R_lower (Kd.R_newB ho0 (g := gb241) (o := .cells #[.string (⟨#[]⟩ : ByteArray), .int .i64 0, .int .i64 0] 29 (0, 0)) (spec_DrawLegOk_vb BK241)) (below_size (spec_DrawLegOk_auHB))); replace BK241 := Aside0.mk (KeepBut.blk hk (g' := gb241) (o := .cells #[.string (⟨#[]⟩ : ByteArray), .int .i64 0, .int .i64 0] 29 (0, 0)) (spec_DrawLegOk_vb BK241) NB241_244.out (by simp)); replace HB := Aside0.mk (hb); replace HI244 := Aside0.mk (hi); (try clear hb); (try clear hb2); (try clear hk); (try clear hi); (try clear ho0); obtain ⟨Ao30, co30, eo30⟩ := Kd.R_slice HO248.out; subst eo30) | ((with_reducible refine gate_callee (f := 23) rfl ?_); refine goesL_ (some 12) rfl rfl Try.func23 (by kernel_rfl) rfl #[.pointer (some ⟨g244, 0, none⟩), .agg #[.int .i64 t245, .slice Ao30 t246.length co30]] rfl (by (try simp only [List.map_toArray, List.map_cons, List.map_nil]); first | done | rfl | (simp only [List.length_drop, List.length_take]; rfl)) ?_; (with_reducible refine (spec_l1Bent.calls k g244 t242 t249 t245 _ _ t246 t250 t251 t254 w _ ?side1 ?side2 ?side3 ?side4 A4.out).mono ?_); (case side1 => exact spec_DrawLegOk_auHI244); (case side2 => exact spec_DrawLegOk_auHB); (case side3 => exact Kd.C_foot_own (IsS58.apart (show IsS58 w _ g244 t242 t249 from spec_DrawLegOk_auHI244) (lo_ HO248) (by decide)) (fun _ h_ => h_.2)); (case side4 => exact (Kd.R_reads' HO248.out).2.1); rintro e w31 ⟨v252, rfl, ho0, hi, hb, hk⟩; refine ⟨_, rfl, ?_⟩; have HO253 := Aside0.mk (Kd.R_lower (Kd.R_newB (Kd.R_new' ho0 (Kd.R_lt (lo_ HO248))) (g := gb241) (o := .cells #[.string (⟨#[]⟩ : ByteArray), .int .i64 0, .int .i64 0] 29 (0, 0)) (spec_DrawLegOk_vb BK241)) (below_size (spec_DrawLegOk_auHB))); replace BK241 := Aside0.mk (KeepBut.blk hk (g' := gb241) (o := .cells #[.string (⟨#[]⟩ : ByteArray), .int .i64 0, .int .i64 0] 29 (0, 0)) (spec_DrawLegOk_vb BK241) NB241_244.out (by simp)); replace HO248 := Aside0.mk (Kd.R_mono (Kd.R_told (Kd.R_oldK (IsS58.apart (show IsS58 w _ g244 t242 t249 from spec_DrawLegOk_auHI244) (lo_ HO248) (by decide)) hk) (Kd.R_base ho0)) (fun _ h_ => h_.1)); replace HB := Aside0.mk (hb); replace HI244 := Aside0.mk (hi); (try clear hb); (try clear hb2); (try clear hk); (try clear hi); (try clear ho0); obtain ⟨Ao32, co32, eo32⟩ := Kd.R_slice HO253.out; subst eo32) | ((with_reducible refine gate_callee (f := 23) rfl ?_); refine goesL_ (some 13) rfl rfl Try.func23 (by kernel_rfl) rfl #[.pointer (some ⟨g244, 0, none⟩), .agg #[.int .i64 t250, .slice Ao32 t251.length co32]] rfl (by (try simp only [List.map_toArray, List.map_cons, List.map_nil]); first | done | rfl | (simp only [List.length_drop, List.length_take]; rfl)) ?_; (with_reducible refine (spec_l1Bent.calls k g244 t242 t254 t250 _ _ t251 t255 t256 t259 w _ ?side1 ?side2 ?side3 ?side4 A5.out).mono ?_); (case side1 => exact spec_DrawLegOk_auHI244); (case side2 => exact spec_DrawLegOk_auHB); (case side3 => exact Kd.C_foot_own (IsS58.apart (show IsS58 w _ g244 t242 t254 from spec_DrawLegOk_auHI244) (lo_ HO253) (by decide)) (fun _ h_ => h_.2)); (case side4 => exact (Kd.R_reads' HO253.out).2.1); rintro e w33 ⟨v257, rfl, ho0, hi, hb, hk⟩; refine ⟨_, rfl, ?_⟩; have HO258 := Aside0.mk (Kd.R_lower (Kd.R_newB (Kd.R_new' (Kd.R_new' ho0 (Kd.R_lt (lo_ HO248))) (Kd.R_lt (lo_ HO253))) (g := gb241) (o := .cells #[.string (⟨#[]⟩ : ByteArray), .int .i64 0, .int .i64 0] 29 (0, 0)) (spec_DrawLegOk_vb BK241)) (below_size (spec_DrawLegOk_auHB))); replace BK241 := Aside0.mk (KeepBut.blk hk (g' := gb241) (o := .cells #[.string (⟨#[]⟩ : ByteArray), .int .i64 0, .int .i64 0] 29 (0, 0)) (spec_DrawLegOk_vb BK241) NB241_244.out (by simp)); replace HO248 := Aside0.mk (Kd.R_mono (Kd.R_told (Kd.R_oldK (IsS58.apart (show IsS58 w _ g244 t242 t254 from spec_DrawLegOk_auHI244) (lo_ HO248) (by decide)) hk) (Kd.R_base ho0)) (fun _ h_ => h_.1)); replace HO253 := Aside0.mk (Kd.R_mono (Kd.R_told (Kd.R_oldK (IsS58.apart (show IsS58 w _ g244 t242 t254 from spec_DrawLegOk_auHI244) (lo_ HO253) (by decide)) hk) (Kd.R_base ho0)) (fun _ h_ => h_.1)); replace HB := Aside0.mk (hb); replace HI244 := Aside0.mk (hi); (try clear hb); (try clear hb2); (try clear hk); (try clear hi); (try clear ho0); obtain ⟨Ao34, co34, eo34⟩ := Kd.R_slice HO258.out; subst eo34) | ((with_reducible refine gate_callee (f := 23) rfl ?_); refine goesL_ (some 14) rfl rfl Try.func23 (by kernel_rfl) rfl #[.pointer (some ⟨g244, 0, none⟩), .agg #[.int .i64 t255, .slice Ao34 t256.length co34]] rfl (by (try simp only [List.map_toArray, List.map_cons, List.map_nil]); first | done | rfl | (simp only [List.length_drop, List.length_take]; rfl)) ?_; (with_reducible refine (spec_l1Bent.calls k g244 t242 t259 t255 _ _ t256 t260 t261 t264 w _ ?side1 ?side2 ?side3 ?side4 A6.out).mono ?_); (case side1 => exact spec_DrawLegOk_auHI244); (case side2 => exact spec_DrawLegOk_auHB); (case side3 => exact Kd.C_foot_own (IsS58.apart (show IsS58 w _ g244 t242 t259 from spec_DrawLegOk_auHI244) (lo_ HO258) (by decide)) (fun _ h_ => h_.2)); (case side4 => exact (Kd.R_reads' HO258.out).2.1); rintro e w35 ⟨v262, rfl, ho0, hi, hb, hk⟩; refine ⟨_, rfl, ?_⟩; have HO263 := Aside0.mk (Kd.R_lower (Kd.R_newB (Kd.R_new' (Kd.R_new' (Kd.R_new' ho0 (Kd.R_lt (lo_ HO248))) (Kd.R_lt (lo_ HO253))) (Kd.R_lt (lo_ HO258))) (g := gb241) (o := .cells #[.string (⟨#[]⟩ : ByteArray), .int .i64 0, .int .i64 0] 29 (0, 0)) (spec_DrawLegOk_vb BK241)) (below_size (spec_DrawLegOk_auHB))); replace BK241 := Aside0.mk (KeepBut.blk hk (g' := gb241) (o := .cells #[.string (⟨#[]⟩ : ByteArray), .int .i64 0, .int .i64 0] 29 (0, 0)) (spec_DrawLegOk_vb BK241) NB241_244.out (by simp)); replace HO248 := Aside0.mk (Kd.R_mono (Kd.R_told (Kd.R_oldK (IsS58.apart (show IsS58 w _ g244 t242 t259 from spec_DrawLegOk_auHI244) (lo_ HO248) (by decide)) hk) (Kd.R_base ho0)) (fun _ h_ => h_.1)); replace HO253 := Aside0.mk (Kd.R_mono (Kd.R_told (Kd.R_oldK (IsS58.apart (show IsS58 w _ g244 t242 t259 from spec_DrawLegOk_auHI244) (lo_ HO253) (by decide)) hk) (Kd.R_base ho0)) (fun _ h_ => h_.1)); replace HO258 := Aside0.mk (Kd.R_mono (Kd.R_told (Kd.R_oldK (IsS58.apart (show IsS58 w _ g244 t242 t259 from spec_DrawLegOk_auHI244) (lo_ HO258) (by decide)) hk) (Kd.R_base ho0)) (fun _ h_ => h_.1)); replace HB := Aside0.mk (hb); replace HI244 := Aside0.mk (hi); (try clear hb); (try clear hb2); (try clear hk); (try clear hi); (try clear ho0)) | ((with_reducible refine gate_dst (N := 4) rfl ?_); refine box_event ?hg (N := 4) ?hd (cs := #[.int .i64 0, .slice none 0 0]) (t := 25) ?hr ?_; (case hd => rfl); (case hg => rfl); (case hr => first | (go_simp; done) | (go_simp; rfl)); intro gb265 hg w36 hbox hb; replace HO248 := Aside0.mk (Kd.R_below (lo_ HO248) hb); replace HO253 := Aside0.mk (Kd.R_below (lo_ HO253) hb); replace HO258 := Aside0.mk (Kd.R_below (lo_ HO258) hb); replace HO263 := Aside0.mk (Kd.R_below (lo_ HO263) hb); have BK265 := Aside0.mk (hbox); have GW265 := Aside0.mk ((by rw [hg]; exact (below_size (spec_DrawLegOk_auHB)) : w.heap.size ≤ gb265)); have GE265 := Aside0.mk ((by rw [hg]; exact (below_size (spec_DrawLegOk_auHB)) : w.heap.size ≤ gb265)); replace HB := Aside0.mk (below_step (spec_DrawLegOk_auHB) hb); have NB241_265 := Aside0.mk ((by rw [hg]; exact Nat.ne_of_lt (blk_lt (g := gb241) (o := .cells #[.string (⟨#[]⟩ : ByteArray), .int .i64 0, .int .i64 0] 29 (0, 0)) (spec_DrawLegOk_vb BK241)) : gb241 ≠ gb265)); have NB265_241 := Aside0.mk ((by rw [hg]; exact Nat.ne_of_gt (blk_lt (g := gb241) (o := .cells #[.string (⟨#[]⟩ : ByteArray), .int .i64 0, .int .i64 0] 29 (0, 0)) (spec_DrawLegOk_vb BK241)) : gb265 ≠ gb241)); replace BK241 := Aside0.mk (blk_below (g := gb241) (o := .cells #[.string (⟨#[]⟩ : ByteArray), .int .i64 0, .int .i64 0] 29 (0, 0)) (spec_DrawLegOk_vb BK241) hb); have NB244_265 := Aside0.mk ((by rw [hg]; exact Nat.ne_of_lt (IsS58.lt (show IsS58 w _ g244 t242 t264 from spec_DrawLegOk_auHI244)) : g244 ≠ gb265)); have NB265_244 := Aside0.mk ((by rw [hg]; exact Nat.ne_of_gt (IsS58.lt (show IsS58 w _ g244 t242 t264 from spec_DrawLegOk_auHI244)) : gb265 ≠ g244)); replace HI244 := Aside0.mk (IsS58.below (spec_DrawLegOk_auHI244) hb); clear hb hbox hg; have hnb37 := NB265_241.out; have hnc37 := NB241_265.out; have hnb38 := NB265_244.out; have hnc38 := NB244_265.out; have hcz39_0 : w36.cell? ⟨gb265, 0, none⟩ = some (.int .i64 0) := (blk_cell BK265.out 0).trans rfl; have hcz39_1 : w36.cell? ⟨gb265, 1, none⟩ = some (.slice none 0 0) := (blk_cell BK265.out 1).trans rfl; have hfz39_0 := blk_frozen BK265.out 0; have hfz39_1 := blk_frozen BK265.out 1; obtain ⟨Ao40, co40, eo40⟩ := Kd.R_slice HO263.out; subst eo40))
 have n0_ : Aside0 (Kd.R k29 29 ((w36.setCell ⟨gb265, 0, none⟩ (.int .i64 t260)).setCell ⟨gb265, 1, none⟩ (.slice Ao40 t261.length co40)) w.heap.size (fun k_ => some k_ ≠ (.slice Ao32 t251.length co32 : Value).ownBlock ∧ some k_ ≠ (.slice Ao34 t256.length co34 : Value).ownBlock ∧ some k_ ≠ (.slice Ao40 t261.length co40 : Value).ownBlock ∧ k_ ≠ gb241) (.slice Ao30 t246.length co30) t246) := ⟨by (with_reducible repeat (first | apply Kd.R_alloc | apply Kd.R_drewN | apply Kd.R_drew)); exact Kd.R_mono (Kd.R_far (p := ⟨gb265, 1, none⟩) (Kd.R_far (p := ⟨gb265, 0, none⟩) (Kd.R_types HO248.out BK265.out (by decide)) (fun _ hk => hk.2) (.int .i64 t260)) (fun _ hk => hk.2) (.slice Ao40 t261.length co40)) (fun _ hk => ⟨hk.1.1.1.2, ⟨hk.1.1.2, ⟨hk.1.2, hk.1.1.1.1.2⟩⟩⟩)⟩
 have n1_ : Aside0 (Kd.R k29 29 ((w36.setCell ⟨gb265, 0, none⟩ (.int .i64 t260)).setCell ⟨gb265, 1, none⟩ (.slice Ao40 t261.length co40)) w.heap.size (fun k_ => some k_ ≠ (.slice Ao30 t246.length co30 : Value).ownBlock ∧ some k_ ≠ (.slice Ao34 t256.length co34 : Value).ownBlock ∧ some k_ ≠ (.slice Ao40 t261.length co40 : Value).ownBlock ∧ k_ ≠ gb241) (.slice Ao32 t251.length co32) t251) := ⟨by (with_reducible repeat (first | apply Kd.R_alloc | apply Kd.R_drewN | apply Kd.R_drew)); exact Kd.R_mono (Kd.R_far (p := ⟨gb265, 1, none⟩) (Kd.R_far (p := ⟨gb265, 0, none⟩) (Kd.R_types HO253.out BK265.out (by decide)) (fun _ hk => hk.2) (.int .i64 t260)) (fun _ hk => hk.2) (.slice Ao40 t261.length co40)) (fun _ hk => ⟨hk.1.1.1.1.2, ⟨hk.1.1.2, ⟨hk.1.2, hk.1.1.1.2⟩⟩⟩)⟩
 have n2_ : Aside0 (Kd.R k29 29 ((w36.setCell ⟨gb265, 0, none⟩ (.int .i64 t260)).setCell ⟨gb265, 1, none⟩ (.slice Ao40 t261.length co40)) w.heap.size (fun k_ => some k_ ≠ (.slice Ao30 t246.length co30 : Value).ownBlock ∧ some k_ ≠ (.slice Ao32 t251.length co32 : Value).ownBlock ∧ some k_ ≠ (.slice Ao40 t261.length co40 : Value).ownBlock ∧ k_ ≠ gb241) (.slice Ao34 t256.length co34) t256) := ⟨by (with_reducible repeat (first | apply Kd.R_alloc | apply Kd.R_drewN | apply Kd.R_drew)); exact Kd.R_mono (Kd.R_far (p := ⟨gb265, 1, none⟩) (Kd.R_far (p := ⟨gb265, 0, none⟩) (Kd.R_types HO258.out BK265.out (by decide)) (fun _ hk => hk.2) (.int .i64 t260)) (fun _ hk => hk.2) (.slice Ao40 t261.length co40)) (fun _ hk => ⟨hk.1.1.1.1.2, ⟨hk.1.1.1.2, ⟨hk.1.2, hk.1.1.2⟩⟩⟩)⟩
 have n3_ : Aside0 (Kd.R k29 29 ((w36.setCell ⟨gb265, 0, none⟩ (.int .i64 t260)).setCell ⟨gb265, 1, none⟩ (.slice Ao40 t261.length co40)) w.heap.size (fun k_ => some k_ ≠ (.slice Ao30 t246.length co30 : Value).ownBlock ∧ some k_ ≠ (.slice Ao32 t251.length co32 : Value).ownBlock ∧ some k_ ≠ (.slice Ao34 t256.length co34 : Value).ownBlock ∧ k_ ≠ gb241) (.slice Ao40 t261.length co40) t261) := ⟨by (with_reducible repeat (first | apply Kd.R_alloc | apply Kd.R_drewN | apply Kd.R_drew)); exact Kd.R_mono (Kd.R_far (p := ⟨gb265, 1, none⟩) (Kd.R_far (p := ⟨gb265, 0, none⟩) (Kd.R_types HO263.out BK265.out (by decide)) (fun _ hk => hk.2) (.int .i64 t260)) (fun _ hk => hk.2) (.slice Ao40 t261.length co40)) (fun _ hk => ⟨hk.1.1.1.1.2, ⟨hk.1.1.1.2, ⟨hk.1.1.2, hk.1.2⟩⟩⟩)⟩
 have n4_ : Aside0 (((w36.setCell ⟨gb265, 0, none⟩ (.int .i64 t260)).setCell ⟨gb265, 1, none⟩ (.slice Ao40 t261.length co40)).heap[gb241]? = some (.cells #[.string (⟨#[]⟩ : ByteArray), .int .i64 0, .int .i64 0] 29 (0, 0))) := ⟨by (with_reducible repeat (first | refine blk_drewN ?_ _ | refine blk_drew ?_ | refine blk_alloc ?_ _)); refine blk_far ?_ NB241_265.out _; (with_reducible repeat (first | refine blk_drewN ?_ _ | refine blk_drew ?_ | refine blk_alloc ?_ _)); refine blk_far ?_ NB241_265.out _; (with_reducible repeat (first | refine blk_drewN ?_ _ | refine blk_drew ?_ | refine blk_alloc ?_ _)); exact BK241.out⟩
 have n5_ : Aside0 (((w36.setCell ⟨gb265, 0, none⟩ (.int .i64 t260)).setCell ⟨gb265, 1, none⟩ (.slice Ao40 t261.length co40)).heap[gb265]? = some (.cells #[.int .i64 t260, .slice Ao40 t261.length co40] 25 (0, 0))) := ⟨by (with_reducible repeat (first | refine blk_drewN ?_ _ | refine blk_drew ?_ | refine blk_alloc ?_ _)); refine blk_put (cs := #[.int .i64 t260, .slice none 0 0]) ?_ 1 _ rfl; (with_reducible repeat (first | refine blk_drewN ?_ _ | refine blk_drew ?_ | refine blk_alloc ?_ _)); refine blk_put (cs := #[.int .i64 0, .slice none 0 0]) ?_ 0 _ rfl; (with_reducible repeat (first | refine blk_drewN ?_ _ | refine blk_drew ?_ | refine blk_alloc ?_ _)); exact BK265.out⟩
 have n6_ : Aside0 (IsS58 w ((w36.setCell ⟨gb265, 0, none⟩ (.int .i64 t260)).setCell ⟨gb265, 1, none⟩ (.slice Ao40 t261.length co40)) g244 t242 t264) := ⟨spec_DrawLegOk_auHI244⟩
 have n7_ : Aside0 (Below w.heap.size w ((w36.setCell ⟨gb265, 0, none⟩ (.int .i64 t260)).setCell ⟨gb265, 1, none⟩ (.slice Ao40 t261.length co40))) := ⟨spec_DrawLegOk_auHB⟩
 (try clear HO248)
 (try clear HO253)
 (try clear HO258)
 (try clear HO263)
 (try clear BK241)
 (try clear BK265)
 (try clear HI244)
 (try clear HB)
 generalize ((w36.setCell ⟨gb265, 0, none⟩ (.int .i64 t260)).setCell ⟨gb265, 1, none⟩ (.slice Ao40 t261.length co40)) = w41 at n0_ n1_ n2_ n3_ n4_ n5_ n6_ n7_ ⊢
 have HO248 := n0_
 have HO253 := n1_
 have HO258 := n2_
 have HO263 := n3_
 have BK241 := n4_
 have BK265 := n5_
 have HI244 := n6_
 have HB := n7_
 clear n0_ n1_ n2_ n3_ n4_ n5_ n6_ n7_
 replace HO248 := Aside0.mk (Kd.R_drew HO248.out)
 replace HO253 := Aside0.mk (Kd.R_drew HO253.out)
 replace HO258 := Aside0.mk (Kd.R_drew HO258.out)
 replace HO263 := Aside0.mk (Kd.R_drew HO263.out)
 replace BK241 := Aside0.mk (blk_drew BK241.out)
 replace BK265 := Aside0.mk (blk_drew BK265.out)
 replace HI244 := Aside0.mk (IsS58.drew HI244.out)
 replace HB := Aside0.mk (below_drew1 HB.out)
 have p268 : 0 ≤ (t266 : Int) := of_decide_eq_true (by first | (with_reducible assumption) | assumption)
 have q268 : t266 < (t261.length : Int) := of_decide_eq_true (by first | (with_reducible assumption) | assumption)
 obtain ⟨ad268, e268, hx268_0, hx268_1, hx268_2⟩ := at_T29 (Kd.R_reads' HO263.out).2.2 t266 p268 q268
 cases e268
 replace p268 := eq_true p268
 replace q268 := eq_true q268
 refine start_ (n := 10) (S := fun w' => w'.cell? ⟨gb265, 0, none⟩ = some (.int .i64 t260) ∧ w'.cell? ⟨gb265, 1, none⟩ = some (.slice (some ad268) t261.length co40) ∧ w'.cell? (ad268.add ((t266).toNat * 3)) = some (.string ((rd_T29 t261 t266).f0)) ∧ w'.cell? ⟨(ad268.add ((t266).toNat * 3)).block, (ad268.add ((t266).toNat * 3)).off + 1, none⟩ = some (.int .i64 ((rd_T29 t261 t266).f1)) ∧ w'.cell? ⟨(ad268.add ((t266).toNat * 3)).block, (ad268.add ((t266).toNat * 3)).off + 2, none⟩ = some (.int .i64 ((rd_T29 t261 t266).f2))) (ds := []) #[false, false, false, false, false, false, false, false, false, false] (by kernel_rfl) rfl rfl ⟨(blk_cell BK265.out 0).trans rfl, (blk_cell BK265.out 1).trans rfl, hx268_0, hx268_1, hx268_2⟩ (fun hHeld => ?_); refine with_tabW spec_DrawLegOk.tab5 spec_DrawLegOk.bits5 (fun HT_ HW_ => ?_)
 generalize w41.drew = w42 at HO248 HO253 HO258 HO263 BK241 BK265 HI244 HB hx268_0 hx268_1 hx268_2 hHeld ⊢
 refine pu_ 0 (some 20) HT_ rfl rfl (by go_simp; rfl) (by kernel_rfl) rfl (by intro w'; go_simp; with_reducible rfl) (fun _ _ _ h => h) (by go_simp; rfl) ?_
 refine pu_ 2 (some 22) HT_ rfl rfl (by go_simp; rfl) (by kernel_rfl) rfl (by intro w'; go_simp; with_reducible rfl) (fun _ _ _ h => h) (by go_simp; rfl) ?_
 refine pu_ 3 (some 23) HT_ rfl rfl (by go_simp; rfl) (by kernel_rfl) rfl (by intro w'; go_simp; with_reducible rfl) (fun _ _ _ h => h) (by go_simp; rfl) ?_
 refine ta_ 1 (some 21) HT_ HW_ hHeld rfl rfl (by go_simp; rfl) (by kernel_rfl) rfl (by rintro w' ⟨s0, s1, s2, s3, s4⟩; go_simp; with_reducible rfl) (fun _ _ _ h => h) (by go_simp; rfl) ?_
 refine ta_ 4 (some 24) HT_ HW_ hHeld rfl rfl (by go_simp; rfl) (by kernel_rfl) rfl (by rintro w' ⟨s0, s1, s2, s3, s4⟩; go_simp; with_reducible rfl) (fun _ _ _ h => h) (by go_simp; rfl) ?_
 refine pu_ 5 (some 25) HT_ rfl rfl (by go_simp; rfl) (by kernel_rfl) rfl (by intro w'; go_simp; with_reducible rfl) (fun _ _ _ h => h) (by go_simp; rfl) ?_
 refine one_ (i := 6) (N := some 26) #[true, true, true, true, true, true, true, false, false, false] rfl rfl (one_of HT_.out (by kernel_rfl)) (by decide) (fun K hK => ?_)
 refine goes_ Try.func24 (by kernel_rfl) rfl #[.pointer (some ⟨g244, 0, none⟩), .int .i64 (t261.length : Int)] (by rfl) rfl rfl (by (try simp only [List.map_toArray, List.map_cons, List.map_nil]); first | done | rfl | (simp only [List.length_drop, List.length_take]; rfl)) ?_
 with_reducible refine (spec_l9Rd_pick.calls k g244 t242 t264 (t261.length : Int) t266 t267 w _ ?side1 ?side2 A24.out).mono ?_
 (case side1 => exact spec_DrawLegOk_auHI244)
 (case side2 => exact spec_DrawLegOk_auHB)
 rintro e w43 ⟨rfl, hi, hb, hk⟩
 have HS2_ := keep_cell hk (hHeld.2.2.1) (by first | (rw [add_block]; exact Kd.own_blk (IsS58.own_ne HI244.out HO263.out (by decide))) | (show (Addr.add _ _).block ≠ _; rw [add_block]; exact Kd.own_blk (IsS58.own_ne HI244.out HO263.out (by decide))) | exact Kd.own_blk (IsS58.own_ne HI244.out HO263.out (by decide)))
 have HS3_ := keep_cell hk (hHeld.2.2.2.1) (by first | (rw [add_block]; exact Kd.own_blk (IsS58.own_ne HI244.out HO263.out (by decide))) | (show (Addr.add _ _).block ≠ _; rw [add_block]; exact Kd.own_blk (IsS58.own_ne HI244.out HO263.out (by decide))) | exact Kd.own_blk (IsS58.own_ne HI244.out HO263.out (by decide)))
 have HS4_ := keep_cell hk (hHeld.2.2.2.2) (by first | (rw [add_block]; exact Kd.own_blk (IsS58.own_ne HI244.out HO263.out (by decide))) | (show (Addr.add _ _).block ≠ _; rw [add_block]; exact Kd.own_blk (IsS58.own_ne HI244.out HO263.out (by decide))) | exact Kd.own_blk (IsS58.own_ne HI244.out HO263.out (by decide)))
 refine ⟨_, rfl, ?_⟩
 replace BK241 := Aside0.mk (KeepBut.blk hk (g' := gb241) (o := .cells #[.string (⟨#[]⟩ : ByteArray), .int .i64 0, .int .i64 0] 29 (0, 0)) (spec_DrawLegOk_vb BK241) NB241_244.out (by simp))
 replace HO248 := Aside0.mk (Kd.R_mono (Kd.R_keep (IsS58.apart (show IsS58 w _ g244 t242 t264 from spec_DrawLegOk_auHI244) (lo_ HO248) (by decide)) hk (fun _ h => h.2)) (fun _ h => h.1))
 replace HO253 := Aside0.mk (Kd.R_mono (Kd.R_keep (IsS58.apart (show IsS58 w _ g244 t242 t264 from spec_DrawLegOk_auHI244) (lo_ HO253) (by decide)) hk (fun _ h => h.2)) (fun _ h => h.1))
 replace HO258 := Aside0.mk (Kd.R_mono (Kd.R_keep (IsS58.apart (show IsS58 w _ g244 t242 t264 from spec_DrawLegOk_auHI244) (lo_ HO258) (by decide)) hk (fun _ h => h.2)) (fun _ h => h.1))
 replace HO263 := Aside0.mk (Kd.R_mono (Kd.R_keep (IsS58.apart (show IsS58 w _ g244 t242 t264 from spec_DrawLegOk_auHI244) (lo_ HO263) (by decide)) hk (fun _ h => h.2)) (fun _ h => h.1))
 replace BK265 := Aside0.mk (KeepBut.blk hk (g' := gb265) (o := .cells #[.int .i64 t260, .slice (some ad268) t261.length co40] 25 (0, 0)) (spec_DrawLegOk_vb BK265) NB265_244.out (by simp))
 replace HB := Aside0.mk (hb)
 replace HI244 := Aside0.mk (hi)
 (try clear hb)
 (try clear hb2)
 (try clear hk)
 (try clear hi)
 refine hK.out _ _ ⟨(blk_cell BK265.out 0).trans rfl, (blk_cell BK265.out 1).trans rfl, HS2_, HS3_, HS4_⟩ (fun hHeld => ?_)
 clear hK K
 refine norm_ (a' := ?_) ?_ ?_
 rotate_left
 ·
  show Act.put _ (some 26) _ = _
  simp only [Act.put, List.setIfInBounds_toArray, List.set_cons_zero, List.set_cons_succ, i64_w, i32_w]
  rfl
 refine pu_ 7 (some 27) HT_ rfl rfl (by go_simp; rfl) (by kernel_rfl) rfl (by intro w'; go_simp; with_reducible rfl) (fun _ _ _ h => h) (by go_simp; rfl) ?_
 refine ta_ 8 (some 28) HT_ HW_ hHeld rfl rfl (by go_simp; rfl) (by kernel_rfl) rfl (by rintro w' ⟨s0, s1, s2, s3, s4⟩; go_simp; with_reducible rfl) (fun _ _ _ h => h) (by go_simp; rfl) ?_
 refine one_ (i := 9) (N := none) #[true, true, true, true, true, true, true, true, true, true] rfl rfl (one_of HT_.out (by kernel_rfl)) (by decide) (fun K hK => ?_)
 have hs44 : w43.cell? ⟨gb241, 0, none⟩ = some (.string (⟨#[]⟩ : ByteArray)) := (blk_cell BK241.out 0).trans rfl
 have hfs44 := blk_frozen BK241.out 0
 have hns44_1 := NB265_241.out
 have hms44_1 := NB241_265.out
 have hs45 : w43.cell? ⟨gb241, 1, none⟩ = some (.int .i64 0) := (blk_cell BK241.out 1).trans rfl
 have hfs45 := blk_frozen BK241.out 1
 have hns45_1 := NB265_241.out
 have hms45_1 := NB241_265.out
 have hs46 : w43.cell? ⟨gb241, 2, none⟩ = some (.int .i64 0) := (blk_cell BK241.out 2).trans rfl
 have hfs46 := blk_frozen BK241.out 2
 have hns46_1 := NB265_241.out
 have hms46_1 := NB241_265.out
 refine skip_ (w1 := ?_) (by rfl) rfl ?_ ?_
 rotate_left
 ·
  go_simp
  rfl
 refine hK.out _ _ ⟨((cell_far (p := ⟨gb241, _, none⟩) NB265_241.out _).trans (((cell_far (p := ⟨gb241, _, none⟩) NB265_241.out _).trans (((cell_far (p := ⟨gb241, _, none⟩) NB265_241.out _).trans (hHeld.1)))))), ((cell_far (p := ⟨gb241, _, none⟩) NB265_241.out _).trans (((cell_far (p := ⟨gb241, _, none⟩) NB265_241.out _).trans (((cell_far (p := ⟨gb241, _, none⟩) NB265_241.out _).trans (hHeld.2.1)))))), ((cell_far (p := ⟨gb241, _, none⟩) (by first | exact Kd.own_blk (Kd.R_away HO263.out (fun _ hk => hk.2.2.2)) | (rw [add_block]; exact Kd.own_blk (Kd.R_away HO263.out (fun _ hk => hk.2.2.2))) | (show (Addr.add _ _).block ≠ _; rw [add_block]; exact Kd.own_blk (Kd.R_away HO263.out (fun _ hk => hk.2.2.2))) | (dsimp only; exact Kd.own_blk (Kd.R_away HO263.out (fun _ hk => hk.2.2.2)))) _).trans (((cell_far (p := ⟨gb241, _, none⟩) (by first | exact Kd.own_blk (Kd.R_away HO263.out (fun _ hk => hk.2.2.2)) | (rw [add_block]; exact Kd.own_blk (Kd.R_away HO263.out (fun _ hk => hk.2.2.2))) | (show (Addr.add _ _).block ≠ _; rw [add_block]; exact Kd.own_blk (Kd.R_away HO263.out (fun _ hk => hk.2.2.2))) | (dsimp only; exact Kd.own_blk (Kd.R_away HO263.out (fun _ hk => hk.2.2.2)))) _).trans (((cell_far (p := ⟨gb241, _, none⟩) (by first | exact Kd.own_blk (Kd.R_away HO263.out (fun _ hk => hk.2.2.2)) | (rw [add_block]; exact Kd.own_blk (Kd.R_away HO263.out (fun _ hk => hk.2.2.2))) | (show (Addr.add _ _).block ≠ _; rw [add_block]; exact Kd.own_blk (Kd.R_away HO263.out (fun _ hk => hk.2.2.2))) | (dsimp only; exact Kd.own_blk (Kd.R_away HO263.out (fun _ hk => hk.2.2.2)))) _).trans (hHeld.2.2.1)))))), ((cell_far (p := ⟨gb241, _, none⟩) (by first | exact Kd.own_blk (Kd.R_away HO263.out (fun _ hk => hk.2.2.2)) | (rw [add_block]; exact Kd.own_blk (Kd.R_away HO263.out (fun _ hk => hk.2.2.2))) | (show (Addr.add _ _).block ≠ _; rw [add_block]; exact Kd.own_blk (Kd.R_away HO263.out (fun _ hk => hk.2.2.2))) | (dsimp only; exact Kd.own_blk (Kd.R_away HO263.out (fun _ hk => hk.2.2.2)))) _).trans (((cell_far (p := ⟨gb241, _, none⟩) (by first | exact Kd.own_blk (Kd.R_away HO263.out (fun _ hk => hk.2.2.2)) | (rw [add_block]; exact Kd.own_blk (Kd.R_away HO263.out (fun _ hk => hk.2.2.2))) | (show (Addr.add _ _).block ≠ _; rw [add_block]; exact Kd.own_blk (Kd.R_away HO263.out (fun _ hk => hk.2.2.2))) | (dsimp only; exact Kd.own_blk (Kd.R_away HO263.out (fun _ hk => hk.2.2.2)))) _).trans (((cell_far (p := ⟨gb241, _, none⟩) (by first | exact Kd.own_blk (Kd.R_away HO263.out (fun _ hk => hk.2.2.2)) | (rw [add_block]; exact Kd.own_blk (Kd.R_away HO263.out (fun _ hk => hk.2.2.2))) | (show (Addr.add _ _).block ≠ _; rw [add_block]; exact Kd.own_blk (Kd.R_away HO263.out (fun _ hk => hk.2.2.2))) | (dsimp only; exact Kd.own_blk (Kd.R_away HO263.out (fun _ hk => hk.2.2.2)))) _).trans (hHeld.2.2.2.1)))))), ((cell_far (p := ⟨gb241, _, none⟩) (by first | exact Kd.own_blk (Kd.R_away HO263.out (fun _ hk => hk.2.2.2)) | (rw [add_block]; exact Kd.own_blk (Kd.R_away HO263.out (fun _ hk => hk.2.2.2))) | (show (Addr.add _ _).block ≠ _; rw [add_block]; exact Kd.own_blk (Kd.R_away HO263.out (fun _ hk => hk.2.2.2))) | (dsimp only; exact Kd.own_blk (Kd.R_away HO263.out (fun _ hk => hk.2.2.2)))) _).trans (((cell_far (p := ⟨gb241, _, none⟩) (by first | exact Kd.own_blk (Kd.R_away HO263.out (fun _ hk => hk.2.2.2)) | (rw [add_block]; exact Kd.own_blk (Kd.R_away HO263.out (fun _ hk => hk.2.2.2))) | (show (Addr.add _ _).block ≠ _; rw [add_block]; exact Kd.own_blk (Kd.R_away HO263.out (fun _ hk => hk.2.2.2))) | (dsimp only; exact Kd.own_blk (Kd.R_away HO263.out (fun _ hk => hk.2.2.2)))) _).trans (((cell_far (p := ⟨gb241, _, none⟩) (by first | exact Kd.own_blk (Kd.R_away HO263.out (fun _ hk => hk.2.2.2)) | (rw [add_block]; exact Kd.own_blk (Kd.R_away HO263.out (fun _ hk => hk.2.2.2))) | (show (Addr.add _ _).block ≠ _; rw [add_block]; exact Kd.own_blk (Kd.R_away HO263.out (fun _ hk => hk.2.2.2))) | (dsimp only; exact Kd.own_blk (Kd.R_away HO263.out (fun _ hk => hk.2.2.2)))) _).trans (hHeld.2.2.2.2))))))⟩ (fun hHeld => ?_)
 clear hK K
 refine done_ (done_of HT_.out (by kernel_rfl)) ?_
 try go_wp2
 refine bodyPost_ret (results_cell_row rfl _ _ gb241 29 #[.string ((rd_T29 t261 t266).f0), .int .i64 ((rd_T29 t261 t266).f1), .int .i64 ((rd_T29 t261 t266).f2)] (0, 0) _ rfl (by (with_reducible repeat (first | refine blk_drewN ?_ _ | refine blk_drew ?_ | refine blk_alloc ?_ _)); refine blk_put (cs := #[.string ((rd_T29 t261 t266).f0), .int .i64 ((rd_T29 t261 t266).f1), .int .i64 0]) ?_ 2 _ rfl; (with_reducible repeat (first | refine blk_drewN ?_ _ | refine blk_drew ?_ | refine blk_alloc ?_ _)); refine blk_put (cs := #[.string ((rd_T29 t261 t266).f0), .int .i64 0, .int .i64 0]) ?_ 1 _ rfl; (with_reducible repeat (first | refine blk_drewN ?_ _ | refine blk_drew ?_ | refine blk_alloc ?_ _)); refine blk_put (cs := #[.string (⟨#[]⟩ : ByteArray), .int .i64 0, .int .i64 0]) ?_ 0 _ rfl; (with_reducible repeat (first | refine blk_drewN ?_ _ | refine blk_drew ?_ | refine blk_alloc ?_ _)); exact BK241.out) Try.underlying29 rfl (by kernel_rfl)) rfl ?_
 exact ⟨by first | rfl | (simp [errW_none, errW_some] <;> rfl) | (simp [*, errW_none, errW_some] <;> rfl), spec_DrawLegOk_auHB⟩

/-! ### spec_DrawAcctOk: function 7 -/
def spec_DrawAcctOk.f (k : Nat) (l0 : List Int) : Option (ByteArray) := (spec_l9Open.f l0).bind fun bt269 => ((spec_l9Rd_of.f k bt269.1 bt269.2 (([(⟨#[97]⟩ : ByteArray), (⟨#[99, 97, 115, 104]⟩ : ByteArray), (⟨#[]⟩ : ByteArray), (⟨#[97, 98, 99, 100, 101]⟩ : ByteArray), (⟨#[65]⟩ : ByteArray), (⟨#[97, 49]⟩ : ByteArray), (⟨#[122, 122]⟩ : ByteArray), (⟨#[97, 32, 98]⟩ : ByteArray)] : List ByteArray))).bind fun bt275 => (some bt275.1))
theorem spec_DrawAcctOk.mono : ∀ a0 k, LeO (spec_DrawAcctOk.f k a0) (spec_DrawAcctOk.f (k + 1) a0) := by
  intro a0 k
  unfold spec_DrawAcctOk.f
  repeat' first
      | (with_reducible exact spec_l9Rd_of.mono _ _ _ _)
      | (with_reducible exact LeO.refl _)
      | (with_reducible exact LeO.none _)
      | (with_reducible refine LeO.ite ?_ ?_)
      | (with_reducible refine LeO.bind ?_ (fun _ => ?_))
      | exact spec_l9Rd_of.mono _ _ _ _
      | exact LeO.none _
      | refine LeO.ite ?_ ?_
      | refine LeO.bind ?_ (fun _ => ?_)
set_option maxHeartbeats 8000000 in
set_option maxRecDepth 100000 in
theorem spec_DrawAcctOk.calls (k : Nat) (A0 : Option Addr) (c0 : Nat) (l0 : List Int) (r : ByteArray) (w : World) (hr0 : Kd.C (Kd.int .u8) w A0 l0.length l0) (hc0 : l0.length ≤ c0) (h : spec_DrawAcctOk.f k l0 = some r) :
    Calls Try.prog 7 #[.slice A0 l0.length c0] w fun e w' => e = .returned (.string r) ∧ Below w.heap.size w w' := by
  have HR0 := Aside0.mk hr0
  have HC0 := Aside0.mk hc0
  clear hr0 hc0
  have HB := Aside0.mk (Below.refl w.heap.size w)
  have H : ((spec_l9Open.f l0).bind fun bt269 => ((spec_l9Rd_of.f k bt269.1 bt269.2 (([(⟨#[97]⟩ : ByteArray), (⟨#[99, 97, 115, 104]⟩ : ByteArray), (⟨#[]⟩ : ByteArray), (⟨#[97, 98, 99, 100, 101]⟩ : ByteArray), (⟨#[65]⟩ : ByteArray), (⟨#[97, 49]⟩ : ByteArray), (⟨#[122, 122]⟩ : ByteArray), (⟨#[97, 32, 98]⟩ : ByteArray)] : List ByteArray))).bind fun bt275 => (some bt275.1))) = some r := h
  clear h
  replace H := Option.bind_eq_some_iff.mp H
  obtain ⟨⟨t269, t270⟩, A20, H⟩ := H
  replace H : ((spec_l9Rd_of.f k t269 t270 (([(⟨#[97]⟩ : ByteArray), (⟨#[99, 97, 115, 104]⟩ : ByteArray), (⟨#[]⟩ : ByteArray), (⟨#[97, 98, 99, 100, 101]⟩ : ByteArray), (⟨#[65]⟩ : ByteArray), (⟨#[97, 49]⟩ : ByteArray), (⟨#[122, 122]⟩ : ByteArray), (⟨#[97, 32, 98]⟩ : ByteArray)] : List ByteArray))).bind fun bt275 => (some bt275.1)) = some r := H
  have A2 := Aside0.mk A20
  clear A20
  obtain ⟨y272, hy272⟩ : ∃ y_ : List ByteArray, y_ = (([(⟨#[97]⟩ : ByteArray), (⟨#[99, 97, 115, 104]⟩ : ByteArray), (⟨#[]⟩ : ByteArray), (⟨#[97, 98, 99, 100, 101]⟩ : ByteArray), (⟨#[65]⟩ : ByteArray), (⟨#[97, 49]⟩ : ByteArray), (⟨#[122, 122]⟩ : ByteArray), (⟨#[97, 32, 98]⟩ : ByteArray)] : List ByteArray)) := ⟨_, rfl⟩
  replace H : ((spec_l9Rd_of.f k t269 t270 y272).bind fun bt275 => (some bt275.1)) = some r := by first | (rw [hy272]; with_reducible exact H) | (have H2_ := (Option.bind_some _ _).symm.trans H; rw [hy272]; with_reducible exact H2_) | (have H2_ := (Option.bind_some _ _).symm.trans H; with_reducible exact H2_) | with_reducible exact H | (rw [hy272]; exact H) | exact H
  have Ny272 := Aside0.mk hy272
  clear hy272
  replace H := Option.bind_eq_some_iff.mp H
  obtain ⟨⟨t275, t276⟩, A30, H⟩ := H
  replace H : (some t275) = some r := H
  have A3 := Aside0.mk A30
  clear A30
  obtain rfl := Option.some.inj H
  go_enter Try.func7, Try.ntmps7
  go_wp2_with (first | ((with_reducible refine gate_callee (f := 21) rfl ?_); refine goesL_ (some 4) rfl rfl Try.func21 (by kernel_rfl) rfl #[.slice A0 l0.length c0] rfl (by (try simp only [List.map_toArray, List.map_cons, List.map_nil]); first | done | rfl | (simp only [List.length_drop, List.length_take]; rfl)) ?_; (with_reducible refine (spec_l9Open.calls _ _ l0 t269 t270 w _ ?side1 ?side2 ?side3 A2.out).mono ?_); (case side1 => repeat (first | (with_reducible first | exact HB.out | apply below_alloc | apply pw_below_drewN | apply below_drew1) | exact HB.out)); (case side2 => exact HR0.out); (case side3 => exact HC0.out); rintro e w4 ⟨g271, rfl, hi, hb, hb2⟩; refine ⟨_, rfl, ?_⟩; replace HB := Aside0.mk (hb); have HI271 := Aside0.mk (hi); (try clear hb); (try clear hb2); (try clear hk); (try clear hi)) | ((with_reducible refine gate_dst (N := 5) rfl ?_); refine Kd.R_lit Kd.string _ 9 ?hg (N := 5) ?hd (xs := ([(⟨#[97]⟩ : ByteArray), (⟨#[99, 97, 115, 104]⟩ : ByteArray), (⟨#[]⟩ : ByteArray), (⟨#[97, 98, 99, 100, 101]⟩ : ByteArray), (⟨#[65]⟩ : ByteArray), (⟨#[97, 49]⟩ : ByteArray), (⟨#[122, 122]⟩ : ByteArray), (⟨#[97, 32, 98]⟩ : ByteArray)] : List ByteArray)) (inner := [.string (⟨#[97]⟩ : ByteArray), .string (⟨#[99, 97, 115, 104]⟩ : ByteArray), .string (⟨#[]⟩ : ByteArray), .string (⟨#[97, 98, 99, 100, 101]⟩ : ByteArray), .string (⟨#[65]⟩ : ByteArray), .string (⟨#[97, 49]⟩ : ByteArray), .string (⟨#[122, 122]⟩ : ByteArray), .string (⟨#[97, 32, 98]⟩ : ByteArray)]) (ok := fun _ => True) (okp := fun _ => True) ?hr ?hp (fun _ hk => hk) trivial (Below.refl _ _) (Nat.le_refl _) (by simp) ?_; (case hd => rfl); (case hg => rfl); (case hr => first | (go_simp; done) | (go_simp; rfl)); (case hp => exact (Reps.one (show Kd.M Kd.string _ _ _ (⟨#[97]⟩ : ByteArray) [.string (⟨#[97]⟩ : ByteArray)] from rfl) (Reps.one (show Kd.M Kd.string _ _ _ (⟨#[99, 97, 115, 104]⟩ : ByteArray) [.string (⟨#[99, 97, 115, 104]⟩ : ByteArray)] from rfl) (Reps.one (show Kd.M Kd.string _ _ _ (⟨#[]⟩ : ByteArray) [.string (⟨#[]⟩ : ByteArray)] from rfl) (Reps.one (show Kd.M Kd.string _ _ _ (⟨#[97, 98, 99, 100, 101]⟩ : ByteArray) [.string (⟨#[97, 98, 99, 100, 101]⟩ : ByteArray)] from rfl) (Reps.one (show Kd.M Kd.string _ _ _ (⟨#[65]⟩ : ByteArray) [.string (⟨#[65]⟩ : ByteArray)] from rfl) (Reps.one (show Kd.M Kd.string _ _ _ (⟨#[97, 49]⟩ : ByteArray) [.string (⟨#[97, 49]⟩ : ByteArray)] from rfl) (Reps.one (show Kd.M Kd.string _ _ _ (⟨#[122, 122]⟩ : ByteArray) [.string (⟨#[122, 122]⟩ : ByteArray)] from rfl) (Reps.one (show Kd.M Kd.string _ _ _ (⟨#[97, 32, 98]⟩ : ByteArray) [.string (⟨#[97, 32, 98]⟩ : ByteArray)] from rfl) (Reps.none _ _)))))))))); intro v273 w5 ho6 hb hg_ hnew_; clear hg_ hnew_; (first | rw [← Ny272.out] at ho6 | (simp only [Int.reduceToNat] at ho6; rw [← Ny272.out] at ho6)); have HO274 := Aside0.mk (Kd.R_lower ho6 (below_size (by repeat (first | (with_reducible first | exact HB.out | apply below_alloc | apply pw_below_drewN | apply below_drew1 | refine below_set ?_ (IsS58.ge HI271.out)) | exact HB.out)))); replace HB := Aside0.mk (below_step (by repeat (first | (with_reducible first | exact HB.out | apply below_alloc | apply pw_below_drewN | apply below_drew1 | refine below_set ?_ (IsS58.ge HI271.out)) | exact HB.out)) hb); replace HI271 := Aside0.mk (IsS58.below (by repeat (first | (with_reducible first | exact HI271.out | apply IsS58.alloc | apply IsS58.drewN | apply IsS58.drew | apply IsS58.set_1) | exact HI271.out)) hb); clear hb ho6; obtain ⟨Ao7, co7, eo7⟩ := Kd.R_slice HO274.out; subst eo7) | ((with_reducible refine gate_callee (f := 25) rfl ?_); refine goesL_ (some 6) rfl rfl Try.func25 (by kernel_rfl) rfl #[.pointer (some ⟨g271, 0, none⟩), .slice Ao7 y272.length co7] rfl (by (try simp only [List.map_toArray, List.map_cons, List.map_nil]); first | done | rfl | (simp only [List.length_drop, List.length_take]; rfl)) ?_; (with_reducible refine (spec_l9Rd_of.calls k g271 t269 t270 _ _ y272 t275 t276 w _ ?side1 ?side2 ?side3 ?side4 ?side5 A3.out).mono ?_); (case side1 => repeat (first | (with_reducible first | exact HI271.out | apply IsS58.alloc | apply IsS58.drewN | apply IsS58.drew | apply IsS58.set_1) | exact HI271.out)); (case side2 => repeat (first | (with_reducible first | exact HB.out | apply below_alloc | apply pw_below_drewN | apply below_drew1 | refine below_set ?_ (IsS58.ge HI271.out)) | exact HB.out)); (case side3 => exact co_ (Kd.R_reads' HO274.out).2.2); (case side4 => exact (Kd.R_reads' HO274.out).2.1); (case side5 => exact far_slice (IsS58.own_ne HI271.out HO274.out (by decide))); rintro e w8 ⟨rfl, hi, hb, hk⟩; refine ⟨_, rfl, ?_⟩; replace HO274 := Aside0.mk (Kd.R_mono (Kd.R_keep (IsS58.apart (show IsS58 w _ g271 t269 t270 from by repeat (first | (with_reducible first | exact HI271.out | apply IsS58.alloc | apply IsS58.drewN | apply IsS58.drew | apply IsS58.set_1) | exact HI271.out)) (lo_ HO274) (by decide)) hk (fun _ h => h.2)) (fun _ h => h.1)); replace HB := Aside0.mk (hb); replace HI271 := Aside0.mk (hi); (try clear hb); (try clear hb2); (try clear hk); (try clear hi)))
  go_ret
  exact ⟨by first | rfl | (simp [errW_none, errW_some] <;> rfl) | (simp [*, errW_none, errW_some] <;> rfl), by repeat (first | (with_reducible first | exact HB.out | apply below_alloc | apply pw_below_drewN | apply below_drew1 | refine below_set ?_ (IsS58.ge HI271.out)) | exact HB.out)⟩


end Go.Proofs.Ytemnggadcgmmkaa.QFnPostBent

/- What the law FnPostBent reaches, function by function: what each computes, and that the machine's call comes to it. Laid by a program. -/
import Derived.Test.YtemnggadcgmmkaaQFnPostBentxR13
namespace Go.Proofs.Ytemnggadcgmmkaa.QFnPostBent
open Go.RowKit Go.Proofs.YtemnggadcgmmkaaW.PrintWords Go.Proofs.YtemnggadcgmmkaaW.PrintLast Go.Proofs.YtemnggadcgmmkaaW.PrintMore
attribute [local go_sem] max2_int min2_int max_two min_two max_three min_three max_four min_four   -- for this text's walks alone
set_option linter.unusedVariables false
set_option linter.unusedSimpArgs false
set_option maxHeartbeats 8000000 in
set_option maxRecDepth 100000 in
theorem laws_FnPostBent.rest8 (k : Nat) (A0 : Option Addr) (c0 : Nat) (l0 : List Int) (r : Bool) (w : World) (t294 : Int) (t295 : List S29) (t298 : Int) (t299 : List S29) (t304 : ByteArray) (t305 t306 : Int) (t308 : ByteArray) (gb302 : Nat) (gb303 : Nat) (NB302_303 : Aside0 (gb302 ≠ gb303)) (NB303_302 : Aside0 (gb303 ≠ gb302)) (Ao12 : Option Addr) (co12 : Nat) (Ao14 : Option Addr) (co14 : Nat) (gb307 : Nat) (NB302_307 : Aside0 (gb302 ≠ gb307)) (NB307_302 : Aside0 (gb307 ≠ gb302)) (wc : World) (u11 u12 u13 u14 u15 u16 u17 u18 u19 u20 u21 u22 u23 u24 u25 u26 u27 u28 u29 u30 u31 u32 u33 u34 u35 u36 u37 u38 u39 u40 u41 u42 u43 u44 u45 u46 u47 u48 u49 u50 u51 u52 u53 u54 u55 u56 u57 u59 u60 u61 u62 u63 u64 u65 u66 u67 u68 u69 u70 u71 u72 u73 u74 u75 u76 u77 u78 u79 u80 u81 u82 u83 u84 u85 u86 u87 u88 u89 u90 u91 u92 u93 u94 u95 u96 u97 u98 u99 u100 u101 u102 u103 u104 u105 u106 u107 u108 u109 u110 u111 u112 u113 u114 u115 u116 u117 u118 u119 u120 u121 u122 u123 u124 u125 u126 u127 u128 u129 :  Value) (HO_303001 :  Aside0 (Kd.R k29 29 wc (Array.size (World.heap w)) (fun k_ => Option.some k_ ≠ Value.ownBlock (Value.slice Ao14 (List.length t299) co14) ∧ k_ ≠ gb307) (Value.slice Ao12 (List.length t295) co12) t295)) (HO_304001 :  Aside0 (Kd.R k29 29 wc (Array.size (World.heap w)) (fun k_ => Option.some k_ ≠ Value.ownBlock (Value.slice Ao12 (List.length t295) co12) ∧ k_ ≠ gb307) (Value.slice Ao14 (List.length t299) co14) t299)) (BK302 :  Aside0 ((World.heap wc)[gb302]? = Option.some (Obj.cells #[Value.int IntKind.i64 t294, Value.slice Ao12 (List.length t295) co12] 25))) (BK303 :  Aside0 ((World.heap wc)[gb303]? = Option.some (Obj.cells #[Value.int IntKind.i64 t298, Value.slice Ao14 (List.length t299) co14] 25))) (BK307 :  Aside0 ((World.heap wc)[gb307]? = Option.some (Obj.cells #[Value.string t304, Value.int IntKind.i64 t305, Value.int IntKind.i64 t306] 29))) (HB : Aside0 (RowKit.Below (Array.size (World.heap w)) w wc)) (kj5 : Nat) (H :  (Option.bind (impl_PostOk.f kj5 t294 t295) fun t318 => if t318 = Bool.true then Option.bind (Option.some []) fun y321 => if List.length y321 + List.length t295 < 4398046511104 then Option.bind (Option.some (y321 ++ t295)) fun y324 => Option.bind (Option.some [{ f0 := { data := #[97] }, f1 := 1, f2 := 0 }]) fun y327 => if List.length y324 + List.length y327 < 4398046511104 then Option.bind (Option.some (y324 ++ y327)) fun y330 => Option.bind (Option.some []) fun y334 => if List.length y334 + List.length t295 < 4398046511104 then Option.bind (Option.some (y334 ++ t295)) fun y337 => if List.length y337 + List.length t295 < 4398046511104 then Option.bind (Option.some (y337 ++ t295)) fun y340 => if List.length y340 + List.length y340 < 4398046511104 then Option.bind (Option.some (y340 ++ y340)) fun y344 => Option.bind (impl_PostOk.f kj5 t294 []) fun t347 => if t347 = Bool.true then Option.none else Option.bind (impl_PostOk.f kj5 100 t295) fun t348 => if t348 = Bool.true then Option.none else Option.bind (impl_PostOk.f kj5 t294 y330) fun t349 => if t349 = Bool.true then Option.none else if ((List.length y344 : Nat) : Int) ≤ 4 then Option.bind (impl_PostSame.f kj5 t294 t295 100 t295) fun t350 => if t350 = Bool.true then Option.none else Option.bind (impl_PostSame.f kj5 t294 t295 t294 y330) fun t351 => Option.some !t351 else Option.bind (impl_PostOk.f kj5 t294 y344) fun t352 => if t352 = Bool.true then Option.none else Option.bind (impl_PostSame.f kj5 t294 t295 100 t295) fun t353 => if t353 = Bool.true then Option.none else Option.bind (impl_PostSame.f kj5 t294 t295 t294 y330) fun t354 => Option.some !t354 else Option.none else Option.none else Option.none else Option.none else Option.none else Option.some Bool.true) = Option.some r) :
  Code.wp Try.prog (restOf 6 (Try.f3.body.getD .skip)) (bodyPost Try.prog Try.f3 fun e w' => e = Ending.returned (Value.bool r) ∧ Below w.heap.size w w') { tmps := #[Value.slice A0 (List.length l0) c0, Go.undef, Value.bool Bool.false, Value.pointer (Option.some { block := gb302, off := 0 }), Value.pointer (Option.some { block := gb303, off := 0 }), Value.pointer (Option.some { block := gb307, off := 0 }), Value.string t308, Go.undef, Go.undef, Go.undef, Go.undef, u11, u12, u13, u14, u15, u16, u17, u18, u19, u20, u21, u22, u23, u24, u25, u26, u27, u28, u29, u30, u31, u32, u33, u34, u35, u36, u37, u38, u39, u40, u41, u42, u43, u44, u45, u46, u47, u48, u49, u50, u51, u52, u53, u54, u55, u56, u57, Value.bool Bool.false, u59, u60, u61, u62, u63, u64, u65, u66, u67, u68, u69, u70, u71, u72, u73, u74, u75, u76, u77, u78, u79, u80, u81, u82, u83, u84, u85, u86, u87, u88, u89, u90, u91, u92, u93, u94, u95, u96, u97, u98, u99, u100, u101, u102, u103, u104, u105, u106, u107, u108, u109, u110, u111, u112, u113, u114, u115, u116, u117, u118, u119, u120, u121, u122, u123, u124, u125, u126, u127, u128, u129], defers := [] } wc := by
 conv => arg 2; whnf
 replace H := Option.bind_eq_some_iff.mp H
 obtain ⟨t318, A430, H⟩ := H
 replace H : (if t318 = true then ((some (([] : List (S29)) : List (S29))).bind fun y321 => (if y321.length + t295.length < 4398046511104 then ((some (y321 ++ t295 : List (S29))).bind fun y324 => ((some (([(⟨(⟨#[97]⟩ : ByteArray), 1, 0⟩ : S29)] : List (S29)) : List (S29))).bind fun y327 => (if y324.length + y327.length < 4398046511104 then ((some (y324 ++ y327 : List (S29))).bind fun y330 => ((some (([] : List (S29)) : List (S29))).bind fun y334 => (if y334.length + t295.length < 4398046511104 then ((some (y334 ++ t295 : List (S29))).bind fun y337 => (if y337.length + t295.length < 4398046511104 then ((some (y337 ++ t295 : List (S29))).bind fun y340 => (if y340.length + y340.length < 4398046511104 then ((some (y340 ++ y340 : List (S29))).bind fun y344 => ((impl_PostOk.f kj5 t294 ([] : List (S29))).bind fun t347 => (if t347 = true then (none) else ((impl_PostOk.f kj5 100 t295).bind fun t348 => (if t348 = true then (none) else ((impl_PostOk.f kj5 t294 y330).bind fun t349 => (if t349 = true then (none) else (if (y344.length : Int) ≤ 4 then ((impl_PostSame.f kj5 t294 t295 100 t295).bind fun t350 => (if t350 = true then (none) else ((impl_PostSame.f kj5 t294 t295 t294 y330).bind fun t351 => (some (!t351))))) else ((impl_PostOk.f kj5 t294 y344).bind fun t352 => (if t352 = true then (none) else ((impl_PostSame.f kj5 t294 t295 100 t295).bind fun t353 => (if t353 = true then (none) else ((impl_PostSame.f kj5 t294 t295 t294 y330).bind fun t354 => (some (!t354))))))))))))))) else (none))) else (none))) else (none)))) else (none)))) else (none))) else (some true)) = some r := H
 have A43 := Aside0.mk A430
 clear A430
 by_cases c44 : t318 = true
 rotate_left
 ·
  replace c44 := Bool.eq_false_iff.mpr c44
  subst c44
  have H1 : (some true) = some r := by rw [if_neg (show ¬ (false = true) by decide)] at H; exact H
  clear H
  have H := H1
  clear H1
  obtain rfl := Option.some.inj H
  have hnb210 := NB302_303.out
  have hnc210 := NB303_302.out
  have hnb211 := NB302_307.out
  have hnc211 := NB307_302.out
  have hcz212_0 : wc.cell? ⟨gb302, 0, none⟩ = some (.int .i64 t294) := (blk_cell BK302.out 0).trans rfl
  have hcz212_1 : wc.cell? ⟨gb302, 1, none⟩ = some (.slice Ao12 t295.length co12) := (blk_cell BK302.out 1).trans rfl
  have hfz212_0 := blk_frozen BK302.out 0
  have hfz212_1 := blk_frozen BK302.out 1
  go_wp2_with (first | ((with_reducible refine gate_callee (f := 14) rfl ?_); refine goesL_ (some 60) rfl rfl Try.func14 (by kernel_rfl) rfl #[.agg #[.int .i64 t294, .slice Ao12 t295.length co12]] rfl (by (try simp only [List.map_toArray, List.map_cons, List.map_nil]); first | done | rfl | (simp only [List.length_drop, List.length_take]; rfl)) ?_; (with_reducible refine (impl_PostOk.calls kj5 t294 _ _ t295 false _ ?side1 ?side2 A43.out).mono ?_); (case side1 => exact co_ (Kd.R_reads' HO_303001.out).2.2); (case side2 => exact (Kd.R_reads' HO_303001.out).2.1); rintro e w213 ⟨rfl, hb⟩; refine ⟨_, rfl, ?_⟩; replace HO_303001 := Aside0.mk (Kd.R_below (lo_ HO_303001) hb); replace HO_304001 := Aside0.mk (Kd.R_below (lo_ HO_304001) hb); replace BK302 := Aside0.mk (blk_below (g := gb302) (o := .cells #[.int .i64 t294, .slice Ao12 t295.length co12] 25 (0, 0)) (laws_FnPostBent_vb BK302) hb); replace BK303 := Aside0.mk (blk_below (g := gb303) (o := .cells #[.int .i64 t298, .slice Ao14 t299.length co14] 25 (0, 0)) (laws_FnPostBent_vb BK303) hb); replace BK307 := Aside0.mk (blk_below (g := gb307) (o := .cells #[.string t304, .int .i64 t305, .int .i64 t306] 29 (0, 0)) (laws_FnPostBent_vb BK307) hb); replace HB := Aside0.mk (below_step (laws_FnPostBent_auHB) hb); (try clear hb); (try clear hb2); (try clear hk); (try clear hi)))
  go_ret
  exact ⟨by first | rfl | (simp [errW_none, errW_some] <;> rfl) | (simp [*, errW_none, errW_some] <;> rfl), laws_FnPostBent_auHB⟩
 subst c44
 have H1 : ((some (([] : List (S29)) : List (S29))).bind fun y321 => (if y321.length + t295.length < 4398046511104 then ((some (y321 ++ t295 : List (S29))).bind fun y324 => ((some (([(⟨(⟨#[97]⟩ : ByteArray), 1, 0⟩ : S29)] : List (S29)) : List (S29))).bind fun y327 => (if y324.length + y327.length < 4398046511104 then ((some (y324 ++ y327 : List (S29))).bind fun y330 => ((some (([] : List (S29)) : List (S29))).bind fun y334 => (if y334.length + t295.length < 4398046511104 then ((some (y334 ++ t295 : List (S29))).bind fun y337 => (if y337.length + t295.length < 4398046511104 then ((some (y337 ++ t295 : List (S29))).bind fun y340 => (if y340.length + y340.length < 4398046511104 then ((some (y340 ++ y340 : List (S29))).bind fun y344 => ((impl_PostOk.f kj5 t294 ([] : List (S29))).bind fun t347 => (if t347 = true then (none) else ((impl_PostOk.f kj5 100 t295).bind fun t348 => (if t348 = true then (none) else ((impl_PostOk.f kj5 t294 y330).bind fun t349 => (if t349 = true then (none) else (if (y344.length : Int) ≤ 4 then ((impl_PostSame.f kj5 t294 t295 100 t295).bind fun t350 => (if t350 = true then (none) else ((impl_PostSame.f kj5 t294 t295 t294 y330).bind fun t351 => (some (!t351))))) else ((impl_PostOk.f kj5 t294 y344).bind fun t352 => (if t352 = true then (none) else ((impl_PostSame.f kj5 t294 t295 100 t295).bind fun t353 => (if t353 = true then (none) else ((impl_PostSame.f kj5 t294 t295 t294 y330).bind fun t354 => (some (!t354))))))))))))))) else (none))) else (none))) else (none)))) else (none)))) else (none))) = some r := by rw [if_pos rfl] at H; exact H
 clear H
 have H := H1
 clear H1
 obtain ⟨y321, hy321⟩ : ∃ y_ : List (S29), y_ = (([] : List (S29))) := ⟨_, rfl⟩
 replace H : (if y321.length + t295.length < 4398046511104 then ((some (y321 ++ t295 : List (S29))).bind fun y324 => ((some (([(⟨(⟨#[97]⟩ : ByteArray), 1, 0⟩ : S29)] : List (S29)) : List (S29))).bind fun y327 => (if y324.length + y327.length < 4398046511104 then ((some (y324 ++ y327 : List (S29))).bind fun y330 => ((some (([] : List (S29)) : List (S29))).bind fun y334 => (if y334.length + t295.length < 4398046511104 then ((some (y334 ++ t295 : List (S29))).bind fun y337 => (if y337.length + t295.length < 4398046511104 then ((some (y337 ++ t295 : List (S29))).bind fun y340 => (if y340.length + y340.length < 4398046511104 then ((some (y340 ++ y340 : List (S29))).bind fun y344 => ((impl_PostOk.f kj5 t294 ([] : List (S29))).bind fun t347 => (if t347 = true then (none) else ((impl_PostOk.f kj5 100 t295).bind fun t348 => (if t348 = true then (none) else ((impl_PostOk.f kj5 t294 y330).bind fun t349 => (if t349 = true then (none) else (if (y344.length : Int) ≤ 4 then ((impl_PostSame.f kj5 t294 t295 100 t295).bind fun t350 => (if t350 = true then (none) else ((impl_PostSame.f kj5 t294 t295 t294 y330).bind fun t351 => (some (!t351))))) else ((impl_PostOk.f kj5 t294 y344).bind fun t352 => (if t352 = true then (none) else ((impl_PostSame.f kj5 t294 t295 100 t295).bind fun t353 => (if t353 = true then (none) else ((impl_PostSame.f kj5 t294 t295 t294 y330).bind fun t354 => (some (!t354))))))))))))))) else (none))) else (none))) else (none)))) else (none)))) else (none)) = some r := by first | (rw [hy321]; with_reducible exact H) | (have H2_ := (Option.bind_some _ _).symm.trans H; rw [hy321]; with_reducible exact H2_) | (have H2_ := (Option.bind_some _ _).symm.trans H; with_reducible exact H2_) | with_reducible exact H | (rw [hy321]; exact H) | exact H
 have Ny321 := Aside0.mk hy321
 clear hy321
 by_cases c45 : y321.length + t295.length < 4398046511104
 rotate_left
 ·
  rw [if_neg c45] at H
  exact absurd H (by simp)
 rw [if_pos c45] at H
 have LMc45 := Aside0.mk c45
 clear c45
 obtain ⟨y324, hy324⟩ : ∃ y_ : List (S29), y_ = (y321 ++ t295) := ⟨_, rfl⟩
 replace H : ((some (([(⟨(⟨#[97]⟩ : ByteArray), 1, 0⟩ : S29)] : List (S29)) : List (S29))).bind fun y327 => (if y324.length + y327.length < 4398046511104 then ((some (y324 ++ y327 : List (S29))).bind fun y330 => ((some (([] : List (S29)) : List (S29))).bind fun y334 => (if y334.length + t295.length < 4398046511104 then ((some (y334 ++ t295 : List (S29))).bind fun y337 => (if y337.length + t295.length < 4398046511104 then ((some (y337 ++ t295 : List (S29))).bind fun y340 => (if y340.length + y340.length < 4398046511104 then ((some (y340 ++ y340 : List (S29))).bind fun y344 => ((impl_PostOk.f kj5 t294 ([] : List (S29))).bind fun t347 => (if t347 = true then (none) else ((impl_PostOk.f kj5 100 t295).bind fun t348 => (if t348 = true then (none) else ((impl_PostOk.f kj5 t294 y330).bind fun t349 => (if t349 = true then (none) else (if (y344.length : Int) ≤ 4 then ((impl_PostSame.f kj5 t294 t295 100 t295).bind fun t350 => (if t350 = true then (none) else ((impl_PostSame.f kj5 t294 t295 t294 y330).bind fun t351 => (some (!t351))))) else ((impl_PostOk.f kj5 t294 y344).bind fun t352 => (if t352 = true then (none) else ((impl_PostSame.f kj5 t294 t295 100 t295).bind fun t353 => (if t353 = true then (none) else ((impl_PostSame.f kj5 t294 t295 t294 y330).bind fun t354 => (some (!t354))))))))))))))) else (none))) else (none))) else (none)))) else (none))) = some r := by first | (rw [hy324]; with_reducible exact H) | (have H2_ := (Option.bind_some _ _).symm.trans H; rw [hy324]; with_reducible exact H2_) | (have H2_ := (Option.bind_some _ _).symm.trans H; with_reducible exact H2_) | with_reducible exact H | (rw [hy324]; exact H) | exact H
 have Ny324 := Aside0.mk hy324
 clear hy324
 obtain ⟨y327, hy327⟩ : ∃ y_ : List (S29), y_ = (([(⟨(⟨#[97]⟩ : ByteArray), 1, 0⟩ : S29)] : List (S29))) := ⟨_, rfl⟩
 replace H : (if y324.length + y327.length < 4398046511104 then ((some (y324 ++ y327 : List (S29))).bind fun y330 => ((some (([] : List (S29)) : List (S29))).bind fun y334 => (if y334.length + t295.length < 4398046511104 then ((some (y334 ++ t295 : List (S29))).bind fun y337 => (if y337.length + t295.length < 4398046511104 then ((some (y337 ++ t295 : List (S29))).bind fun y340 => (if y340.length + y340.length < 4398046511104 then ((some (y340 ++ y340 : List (S29))).bind fun y344 => ((impl_PostOk.f kj5 t294 ([] : List (S29))).bind fun t347 => (if t347 = true then (none) else ((impl_PostOk.f kj5 100 t295).bind fun t348 => (if t348 = true then (none) else ((impl_PostOk.f kj5 t294 y330).bind fun t349 => (if t349 = true then (none) else (if (y344.length : Int) ≤ 4 then ((impl_PostSame.f kj5 t294 t295 100 t295).bind fun t350 => (if t350 = true then (none) else ((impl_PostSame.f kj5 t294 t295 t294 y330).bind fun t351 => (some (!t351))))) else ((impl_PostOk.f kj5 t294 y344).bind fun t352 => (if t352 = true then (none) else ((impl_PostSame.f kj5 t294 t295 100 t295).bind fun t353 => (if t353 = true then (none) else ((impl_PostSame.f kj5 t294 t295 t294 y330).bind fun t354 => (some (!t354))))))))))))))) else (none))) else (none))) else (none)))) else (none)) = some r := by first | (rw [hy327]; with_reducible exact H) | (have H2_ := (Option.bind_some _ _).symm.trans H; rw [hy327]; with_reducible exact H2_) | (have H2_ := (Option.bind_some _ _).symm.trans H; with_reducible exact H2_) | with_reducible exact H | (rw [hy327]; exact H) | exact H
 have Ny327 := Aside0.mk hy327
 clear hy327
 by_cases c46 : y324.length + y327.length < 4398046511104
 rotate_left
 ·
  rw [if_neg c46] at H
  exact absurd H (by simp)
 rw [if_pos c46] at H
 have LMc46 := Aside0.mk c46
 clear c46
 obtain ⟨y330, hy330⟩ : ∃ y_ : List (S29), y_ = (y324 ++ y327) := ⟨_, rfl⟩
 replace H : ((some (([] : List (S29)) : List (S29))).bind fun y334 => (if y334.length + t295.length < 4398046511104 then ((some (y334 ++ t295 : List (S29))).bind fun y337 => (if y337.length + t295.length < 4398046511104 then ((some (y337 ++ t295 : List (S29))).bind fun y340 => (if y340.length + y340.length < 4398046511104 then ((some (y340 ++ y340 : List (S29))).bind fun y344 => ((impl_PostOk.f kj5 t294 ([] : List (S29))).bind fun t347 => (if t347 = true then (none) else ((impl_PostOk.f kj5 100 t295).bind fun t348 => (if t348 = true then (none) else ((impl_PostOk.f kj5 t294 y330).bind fun t349 => (if t349 = true then (none) else (if (y344.length : Int) ≤ 4 then ((impl_PostSame.f kj5 t294 t295 100 t295).bind fun t350 => (if t350 = true then (none) else ((impl_PostSame.f kj5 t294 t295 t294 y330).bind fun t351 => (some (!t351))))) else ((impl_PostOk.f kj5 t294 y344).bind fun t352 => (if t352 = true then (none) else ((impl_PostSame.f kj5 t294 t295 100 t295).bind fun t353 => (if t353 = true then (none) else ((impl_PostSame.f kj5 t294 t295 t294 y330).bind fun t354 => (some (!t354))))))))))))))) else (none))) else (none))) else (none))) = some r := by first | (rw [hy330]; with_reducible exact H) | (have H2_ := (Option.bind_some _ _).symm.trans H; rw [hy330]; with_reducible exact H2_) | (have H2_ := (Option.bind_some _ _).symm.trans H; with_reducible exact H2_) | with_reducible exact H | (rw [hy330]; exact H) | exact H
 have Ny330 := Aside0.mk hy330
 clear hy330
 obtain ⟨y334, hy334⟩ : ∃ y_ : List (S29), y_ = (([] : List (S29))) := ⟨_, rfl⟩
 replace H : (if y334.length + t295.length < 4398046511104 then ((some (y334 ++ t295 : List (S29))).bind fun y337 => (if y337.length + t295.length < 4398046511104 then ((some (y337 ++ t295 : List (S29))).bind fun y340 => (if y340.length + y340.length < 4398046511104 then ((some (y340 ++ y340 : List (S29))).bind fun y344 => ((impl_PostOk.f kj5 t294 ([] : List (S29))).bind fun t347 => (if t347 = true then (none) else ((impl_PostOk.f kj5 100 t295).bind fun t348 => (if t348 = true then (none) else ((impl_PostOk.f kj5 t294 y330).bind fun t349 => (if t349 = true then (none) else (if (y344.length : Int) ≤ 4 then ((impl_PostSame.f kj5 t294 t295 100 t295).bind fun t350 => (if t350 = true then (none) else ((impl_PostSame.f kj5 t294 t295 t294 y330).bind fun t351 => (some (!t351))))) else ((impl_PostOk.f kj5 t294 y344).bind fun t352 => (if t352 = true then (none) else ((impl_PostSame.f kj5 t294 t295 100 t295).bind fun t353 => (if t353 = true then (none) else ((impl_PostSame.f kj5 t294 t295 t294 y330).bind fun t354 => (some (!t354))))))))))))))) else (none))) else (none))) else (none)) = some r := by first | (rw [hy334]; with_reducible exact H) | (have H2_ := (Option.bind_some _ _).symm.trans H; rw [hy334]; with_reducible exact H2_) | (have H2_ := (Option.bind_some _ _).symm.trans H; with_reducible exact H2_) | with_reducible exact H | (rw [hy334]; exact H) | exact H
 have Ny334 := Aside0.mk hy334
 clear hy334
 by_cases c47 : y334.length + t295.length < 4398046511104
 rotate_left
 ·
  rw [if_neg c47] at H
  exact absurd H (by simp)
 rw [if_pos c47] at H
 have LMc47 := Aside0.mk c47
 clear c47
 obtain ⟨y337, hy337⟩ : ∃ y_ : List (S29), y_ = (y334 ++ t295) := ⟨_, rfl⟩
 replace H : (if y337.length + t295.length < 4398046511104 then ((some (y337 ++ t295 : List (S29))).bind fun y340 => (if y340.length + y340.length < 4398046511104 then ((some (y340 ++ y340 : List (S29))).bind fun y344 => ((impl_PostOk.f kj5 t294 ([] : List (S29))).bind fun t347 => (if t347 = true then (none) else ((impl_PostOk.f kj5 100 t295).bind fun t348 => (if t348 = true then (none) else ((impl_PostOk.f kj5 t294 y330).bind fun t349 => (if t349 = true then (none) else (if (y344.length : Int) ≤ 4 then ((impl_PostSame.f kj5 t294 t295 100 t295).bind fun t350 => (if t350 = true then (none) else ((impl_PostSame.f kj5 t294 t295 t294 y330).bind fun t351 => (some (!t351))))) else ((impl_PostOk.f kj5 t294 y344).bind fun t352 => (if t352 = true then (none) else ((impl_PostSame.f kj5 t294 t295 100 t295).bind fun t353 => (if t353 = true then (none) else ((impl_PostSame.f kj5 t294 t295 t294 y330).bind fun t354 => (some (!t354))))))))))))))) else (none))) else (none)) = some r := by first | (rw [hy337]; with_reducible exact H) | (have H2_ := (Option.bind_some _ _).symm.trans H; rw [hy337]; with_reducible exact H2_) | (have H2_ := (Option.bind_some _ _).symm.trans H; with_reducible exact H2_) | with_reducible exact H | (rw [hy337]; exact H) | exact H
 have Ny337 := Aside0.mk hy337
 clear hy337
 by_cases c48 : y337.length + t295.length < 4398046511104
 rotate_left
 ·
  rw [if_neg c48] at H
  exact absurd H (by simp)
 rw [if_pos c48] at H
 have LMc48 := Aside0.mk c48
 clear c48
 obtain ⟨y340, hy340⟩ : ∃ y_ : List (S29), y_ = (y337 ++ t295) := ⟨_, rfl⟩
 replace H : (if y340.length + y340.length < 4398046511104 then ((some (y340 ++ y340 : List (S29))).bind fun y344 => ((impl_PostOk.f kj5 t294 ([] : List (S29))).bind fun t347 => (if t347 = true then (none) else ((impl_PostOk.f kj5 100 t295).bind fun t348 => (if t348 = true then (none) else ((impl_PostOk.f kj5 t294 y330).bind fun t349 => (if t349 = true then (none) else (if (y344.length : Int) ≤ 4 then ((impl_PostSame.f kj5 t294 t295 100 t295).bind fun t350 => (if t350 = true then (none) else ((impl_PostSame.f kj5 t294 t295 t294 y330).bind fun t351 => (some (!t351))))) else ((impl_PostOk.f kj5 t294 y344).bind fun t352 => (if t352 = true then (none) else ((impl_PostSame.f kj5 t294 t295 100 t295).bind fun t353 => (if t353 = true then (none) else ((impl_PostSame.f kj5 t294 t295 t294 y330).bind fun t354 => (some (!t354))))))))))))))) else (none)) = some r := by first | (rw [hy340]; with_reducible exact H) | (have H2_ := (Option.bind_some _ _).symm.trans H; rw [hy340]; with_reducible exact H2_) | (have H2_ := (Option.bind_some _ _).symm.trans H; with_reducible exact H2_) | with_reducible exact H | (rw [hy340]; exact H) | exact H
 have Ny340 := Aside0.mk hy340
 clear hy340
 by_cases c49 : y340.length + y340.length < 4398046511104
 rotate_left
 ·
  rw [if_neg c49] at H
  exact absurd H (by simp)
 rw [if_pos c49] at H
 have LMc49 := Aside0.mk c49
 clear c49
 obtain ⟨y344, hy344⟩ : ∃ y_ : List (S29), y_ = (y340 ++ y340) := ⟨_, rfl⟩
 replace H : ((impl_PostOk.f kj5 t294 ([] : List (S29))).bind fun t347 => (if t347 = true then (none) else ((impl_PostOk.f kj5 100 t295).bind fun t348 => (if t348 = true then (none) else ((impl_PostOk.f kj5 t294 y330).bind fun t349 => (if t349 = true then (none) else (if (y344.length : Int) ≤ 4 then ((impl_PostSame.f kj5 t294 t295 100 t295).bind fun t350 => (if t350 = true then (none) else ((impl_PostSame.f kj5 t294 t295 t294 y330).bind fun t351 => (some (!t351))))) else ((impl_PostOk.f kj5 t294 y344).bind fun t352 => (if t352 = true then (none) else ((impl_PostSame.f kj5 t294 t295 100 t295).bind fun t353 => (if t353 = true then (none) else ((impl_PostSame.f kj5 t294 t295 t294 y330).bind fun t354 => (some (!t354)))))))))))))) = some r := by first | (rw [hy344]; with_reducible exact H) | (have H2_ := (Option.bind_some _ _).symm.trans H; rw [hy344]; with_reducible exact H2_) | (have H2_ := (Option.bind_some _ _).symm.trans H; with_reducible exact H2_) | with_reducible exact H | (rw [hy344]; exact H) | exact H
 have Ny344 := Aside0.mk hy344
 clear hy344
 replace H := Option.bind_eq_some_iff.mp H
 obtain ⟨t347, A500, H⟩ := H
 replace H : (if t347 = true then (none) else ((impl_PostOk.f kj5 100 t295).bind fun t348 => (if t348 = true then (none) else ((impl_PostOk.f kj5 t294 y330).bind fun t349 => (if t349 = true then (none) else (if (y344.length : Int) ≤ 4 then ((impl_PostSame.f kj5 t294 t295 100 t295).bind fun t350 => (if t350 = true then (none) else ((impl_PostSame.f kj5 t294 t295 t294 y330).bind fun t351 => (some (!t351))))) else ((impl_PostOk.f kj5 t294 y344).bind fun t352 => (if t352 = true then (none) else ((impl_PostSame.f kj5 t294 t295 100 t295).bind fun t353 => (if t353 = true then (none) else ((impl_PostSame.f kj5 t294 t295 t294 y330).bind fun t354 => (some (!t354))))))))))))) = some r := H
 have A50 := Aside0.mk A500
 clear A500
 by_cases c51 : t347 = true
 ·
  subst c51
  have H1 : (none) = some r := by rw [if_pos rfl] at H; exact H
  clear H
  have H := H1
  clear H1
  exact absurd H (by simp)
 replace c51 := Bool.eq_false_iff.mpr c51
 subst c51
 have H1 : ((impl_PostOk.f kj5 100 t295).bind fun t348 => (if t348 = true then (none) else ((impl_PostOk.f kj5 t294 y330).bind fun t349 => (if t349 = true then (none) else (if (y344.length : Int) ≤ 4 then ((impl_PostSame.f kj5 t294 t295 100 t295).bind fun t350 => (if t350 = true then (none) else ((impl_PostSame.f kj5 t294 t295 t294 y330).bind fun t351 => (some (!t351))))) else ((impl_PostOk.f kj5 t294 y344).bind fun t352 => (if t352 = true then (none) else ((impl_PostSame.f kj5 t294 t295 100 t295).bind fun t353 => (if t353 = true then (none) else ((impl_PostSame.f kj5 t294 t295 t294 y330).bind fun t354 => (some (!t354)))))))))))) = some r := by rw [if_neg (show ¬ (false = true) by decide)] at H; exact H
 clear H
 have H := H1
 clear H1
 replace H := Option.bind_eq_some_iff.mp H
 obtain ⟨t348, A520, H⟩ := H
 replace H : (if t348 = true then (none) else ((impl_PostOk.f kj5 t294 y330).bind fun t349 => (if t349 = true then (none) else (if (y344.length : Int) ≤ 4 then ((impl_PostSame.f kj5 t294 t295 100 t295).bind fun t350 => (if t350 = true then (none) else ((impl_PostSame.f kj5 t294 t295 t294 y330).bind fun t351 => (some (!t351))))) else ((impl_PostOk.f kj5 t294 y344).bind fun t352 => (if t352 = true then (none) else ((impl_PostSame.f kj5 t294 t295 100 t295).bind fun t353 => (if t353 = true then (none) else ((impl_PostSame.f kj5 t294 t295 t294 y330).bind fun t354 => (some (!t354))))))))))) = some r := H
 have A52 := Aside0.mk A520
 clear A520
 by_cases c53 : t348 = true
 ·
  subst c53
  have H1 : (none) = some r := by rw [if_pos rfl] at H; exact H
  clear H
  have H := H1
  clear H1
  exact absurd H (by simp)
 replace c53 := Bool.eq_false_iff.mpr c53
 subst c53
 have H1 : ((impl_PostOk.f kj5 t294 y330).bind fun t349 => (if t349 = true then (none) else (if (y344.length : Int) ≤ 4 then ((impl_PostSame.f kj5 t294 t295 100 t295).bind fun t350 => (if t350 = true then (none) else ((impl_PostSame.f kj5 t294 t295 t294 y330).bind fun t351 => (some (!t351))))) else ((impl_PostOk.f kj5 t294 y344).bind fun t352 => (if t352 = true then (none) else ((impl_PostSame.f kj5 t294 t295 100 t295).bind fun t353 => (if t353 = true then (none) else ((impl_PostSame.f kj5 t294 t295 t294 y330).bind fun t354 => (some (!t354)))))))))) = some r := by rw [if_neg (show ¬ (false = true) by decide)] at H; exact H
 clear H
 have H := H1
 clear H1
 replace H := Option.bind_eq_some_iff.mp H
 obtain ⟨t349, A540, H⟩ := H
 replace H : (if t349 = true then (none) else (if (y344.length : Int) ≤ 4 then ((impl_PostSame.f kj5 t294 t295 100 t295).bind fun t350 => (if t350 = true then (none) else ((impl_PostSame.f kj5 t294 t295 t294 y330).bind fun t351 => (some (!t351))))) else ((impl_PostOk.f kj5 t294 y344).bind fun t352 => (if t352 = true then (none) else ((impl_PostSame.f kj5 t294 t295 100 t295).bind fun t353 => (if t353 = true then (none) else ((impl_PostSame.f kj5 t294 t295 t294 y330).bind fun t354 => (some (!t354))))))))) = some r := H
 have A54 := Aside0.mk A540
 clear A540
 by_cases c55 : t349 = true
 ·
  subst c55
  have H1 : (none) = some r := by rw [if_pos rfl] at H; exact H
  clear H
  have H := H1
  clear H1
  exact absurd H (by simp)
 replace c55 := Bool.eq_false_iff.mpr c55
 subst c55
 have H1 : (if (y344.length : Int) ≤ 4 then ((impl_PostSame.f kj5 t294 t295 100 t295).bind fun t350 => (if t350 = true then (none) else ((impl_PostSame.f kj5 t294 t295 t294 y330).bind fun t351 => (some (!t351))))) else ((impl_PostOk.f kj5 t294 y344).bind fun t352 => (if t352 = true then (none) else ((impl_PostSame.f kj5 t294 t295 100 t295).bind fun t353 => (if t353 = true then (none) else ((impl_PostSame.f kj5 t294 t295 t294 y330).bind fun t354 => (some (!t354)))))))) = some r := by rw [if_neg (show ¬ (false = true) by decide)] at H; exact H
 clear H
 have H := H1
 clear H1
 have HWAY := Aside0.mk H
 clear H
 have hnb60 := NB302_303.out
 have hnc60 := NB303_302.out
 have hnb61 := NB302_307.out
 have hnc61 := NB307_302.out
 have hcz62_0 : wc.cell? ⟨gb302, 0, none⟩ = some (.int .i64 t294) := (blk_cell BK302.out 0).trans rfl
 have hcz62_1 : wc.cell? ⟨gb302, 1, none⟩ = some (.slice Ao12 t295.length co12) := (blk_cell BK302.out 1).trans rfl
 have hfz62_0 := blk_frozen BK302.out 0
 have hfz62_1 := blk_frozen BK302.out 1
 try go_wp2_with (first | ((with_reducible refine gate_callee (f := 14) rfl ?_); refine goesL_ (some 60) rfl rfl Try.func14 (by kernel_rfl) rfl #[.agg #[.int .i64 t294, .slice Ao12 t295.length co12]] rfl (by (try simp only [List.map_toArray, List.map_cons, List.map_nil]); first | done | rfl | (simp only [List.length_drop, List.length_take]; rfl)) ?_; (with_reducible refine (impl_PostOk.calls kj5 t294 _ _ t295 true _ ?side1 ?side2 A43.out).mono ?_); (case side1 => exact co_ (Kd.R_reads' HO_303001.out).2.2); (case side2 => exact (Kd.R_reads' HO_303001.out).2.1); rintro e w63 ⟨rfl, hb⟩; refine ⟨_, rfl, ?_⟩; replace HO_303001 := Aside0.mk (Kd.R_below (lo_ HO_303001) hb); replace HO_304001 := Aside0.mk (Kd.R_below (lo_ HO_304001) hb); replace BK302 := Aside0.mk (blk_below (g := gb302) (o := .cells #[.int .i64 t294, .slice Ao12 t295.length co12] 25 (0, 0)) (laws_FnPostBent_vb BK302) hb); replace BK303 := Aside0.mk (blk_below (g := gb303) (o := .cells #[.int .i64 t298, .slice Ao14 t299.length co14] 25 (0, 0)) (laws_FnPostBent_vb BK303) hb); replace BK307 := Aside0.mk (blk_below (g := gb307) (o := .cells #[.string t304, .int .i64 t305, .int .i64 t306] 29 (0, 0)) (laws_FnPostBent_vb BK307) hb); replace HB := Aside0.mk (below_step (laws_FnPostBent_auHB) hb); (try clear hb); (try clear hb2); (try clear hk); (try clear hi); have hcz64_0 : w63.cell? ⟨gb302, 0, none⟩ = some (.int .i64 t294) := (blk_cell BK302.out 0).trans rfl; have hcz64_1 : w63.cell? ⟨gb302, 1, none⟩ = some (.slice Ao12 t295.length co12) := (blk_cell BK302.out 1).trans rfl; have hfz64_0 := blk_frozen BK302.out 0; have hfz64_1 := blk_frozen BK302.out 1) | ((with_reducible refine gate_dst (N := 7) rfl ?_); (try (refine gate_guard (by rfl) ?_; dsimp only)); refine box_event ?hg (N := 7) ?hd (cs := #[.int .i64 0, .slice none 0 0]) (t := 25) ?hr ?_; (case hd => rfl); (case hg => rfl); (case hr => first | (go_simp; done) | (go_simp; rfl)); intro gb319 hg w65 hbox hb; replace HO_303001 := Aside0.mk (Kd.R_below (lo_ HO_303001) hb); replace HO_304001 := Aside0.mk (Kd.R_below (lo_ HO_304001) hb); have BK319 := Aside0.mk (hbox); have GW319 := Aside0.mk ((by rw [hg]; exact (below_size (laws_FnPostBent_auHB)) : w.heap.size ≤ gb319)); have GE319 := Aside0.mk ((by rw [hg]; exact (below_size (laws_FnPostBent_auHB)) : w.heap.size ≤ gb319)); replace HB := Aside0.mk (below_step (laws_FnPostBent_auHB) hb); have NB302_319 := Aside0.mk ((by rw [hg]; exact Nat.ne_of_lt (blk_lt (g := gb302) (o := .cells #[.int .i64 t294, .slice Ao12 t295.length co12] 25 (0, 0)) (laws_FnPostBent_vb BK302)) : gb302 ≠ gb319)); have NB319_302 := Aside0.mk ((by rw [hg]; exact Nat.ne_of_gt (blk_lt (g := gb302) (o := .cells #[.int .i64 t294, .slice Ao12 t295.length co12] 25 (0, 0)) (laws_FnPostBent_vb BK302)) : gb319 ≠ gb302)); replace BK302 := Aside0.mk (blk_below (g := gb302) (o := .cells #[.int .i64 t294, .slice Ao12 t295.length co12] 25 (0, 0)) (laws_FnPostBent_vb BK302) hb); have NB303_319 := Aside0.mk ((by rw [hg]; exact Nat.ne_of_lt (blk_lt (g := gb303) (o := .cells #[.int .i64 t298, .slice Ao14 t299.length co14] 25 (0, 0)) (laws_FnPostBent_vb BK303)) : gb303 ≠ gb319)); have NB319_303 := Aside0.mk ((by rw [hg]; exact Nat.ne_of_gt (blk_lt (g := gb303) (o := .cells #[.int .i64 t298, .slice Ao14 t299.length co14] 25 (0, 0)) (laws_FnPostBent_vb BK303)) : gb319 ≠ gb303)); replace BK303 := Aside0.mk (blk_below (g := gb303) (o := .cells #[.int .i64 t298, .slice Ao14 t299.length co14] 25 (0, 0)) (laws_FnPostBent_vb BK303) hb); have NB307_319 := Aside0.mk ((by rw [hg]; exact Nat.ne_of_lt (blk_lt (g := gb307) (o := .cells #[.string t304, .int .i64 t305, .int .i64 t306] 29 (0, 0)) (laws_FnPostBent_vb BK307)) : gb307 ≠ gb319)); have NB319_307 := Aside0.mk ((by rw [hg]; exact Nat.ne_of_gt (blk_lt (g := gb307) (o := .cells #[.string t304, .int .i64 t305, .int .i64 t306] 29 (0, 0)) (laws_FnPostBent_vb BK307)) : gb319 ≠ gb307)); replace BK307 := Aside0.mk (blk_below (g := gb307) (o := .cells #[.string t304, .int .i64 t305, .int .i64 t306] 29 (0, 0)) (laws_FnPostBent_vb BK307) hb); clear hb hbox hg; have hnb66 := NB319_302.out; have hnc66 := NB302_319.out; have hnb67 := NB319_303.out; have hnc67 := NB303_319.out; have hnb68 := NB319_307.out; have hnc68 := NB307_319.out; have hcz69_0 : w65.cell? ⟨gb319, 0, none⟩ = some (.int .i64 0) := (blk_cell BK319.out 0).trans rfl; have hcz69_1 : w65.cell? ⟨gb319, 1, none⟩ = some (.slice none 0 0) := (blk_cell BK319.out 1).trans rfl; have hfz69_0 := blk_frozen BK319.out 0; have hfz69_1 := blk_frozen BK319.out 1; have hcz70_0 : w65.cell? ⟨gb302, 0, none⟩ = some (.int .i64 t294) := (blk_cell BK302.out 0).trans rfl; have hcz70_1 : w65.cell? ⟨gb302, 1, none⟩ = some (.slice Ao12 t295.length co12) := (blk_cell BK302.out 1).trans rfl; have hfz70_0 := blk_frozen BK302.out 0; have hfz70_1 := blk_frozen BK302.out 1) | ((with_reducible refine gate_dst (N := 8) rfl ?_); (try (refine gate_guard (by rfl) ?_; dsimp only)); refine box_event ?hg (N := 8) ?hd (cs := #[.int .i64 0, .slice none 0 0]) (t := 25) ?hr ?_; (case hd => rfl); (case hg => rfl); (case hr => first | (go_simp; done) | (go_simp; rfl)); intro gb320 hg w71 hbox hb; replace HO_303001 := Aside0.mk (Kd.R_below (by (with_reducible repeat (first | apply Kd.R_alloc | apply Kd.R_drewN | apply Kd.R_drew)); exact (Kd.R_mono (Kd.R_far (p := ⟨gb319, 1, none⟩) (Kd.R_far (p := ⟨gb319, 0, none⟩) (Kd.R_types HO_303001.out BK319.out (by decide)) (fun _ hk => hk.2) (.int .i64 t294)) (fun _ hk => hk.2) (.slice none 0 0)) (fun _ h_ => h_.1))) hb); replace HO_304001 := Aside0.mk (Kd.R_below (by (with_reducible repeat (first | apply Kd.R_alloc | apply Kd.R_drewN | apply Kd.R_drew)); exact (Kd.R_mono (Kd.R_far (p := ⟨gb319, 1, none⟩) (Kd.R_far (p := ⟨gb319, 0, none⟩) (Kd.R_types HO_304001.out BK319.out (by decide)) (fun _ hk => hk.2) (.int .i64 t294)) (fun _ hk => hk.2) (.slice none 0 0)) (fun _ h_ => h_.1))) hb); have BK320 := Aside0.mk (hbox); have GW320 := Aside0.mk ((by rw [hg]; exact (below_size (laws_FnPostBent_auHB)) : w.heap.size ≤ gb320)); have GE320 := Aside0.mk ((by rw [hg]; exact (below_size (laws_FnPostBent_auHB)) : w.heap.size ≤ gb320)); replace HB := Aside0.mk (below_step (laws_FnPostBent_auHB) hb); have NB302_320 := Aside0.mk ((by rw [hg]; exact Nat.ne_of_lt (blk_lt (g := gb302) (o := .cells #[.int .i64 t294, .slice Ao12 t295.length co12] 25 (0, 0)) (by (with_reducible repeat (first | refine blk_drewN ?_ _ | refine blk_drew ?_ | refine blk_alloc ?_ _)); refine blk_far ?_ NB302_319.out _; (with_reducible repeat (first | refine blk_drewN ?_ _ | refine blk_drew ?_ | refine blk_alloc ?_ _)); refine blk_far ?_ NB302_319.out _; (with_reducible repeat (first | refine blk_drewN ?_ _ | refine blk_drew ?_ | refine blk_alloc ?_ _)); exact BK302.out)) : gb302 ≠ gb320)); have NB320_302 := Aside0.mk ((by rw [hg]; exact Nat.ne_of_gt (blk_lt (g := gb302) (o := .cells #[.int .i64 t294, .slice Ao12 t295.length co12] 25 (0, 0)) (by (with_reducible repeat (first | refine blk_drewN ?_ _ | refine blk_drew ?_ | refine blk_alloc ?_ _)); refine blk_far ?_ NB302_319.out _; (with_reducible repeat (first | refine blk_drewN ?_ _ | refine blk_drew ?_ | refine blk_alloc ?_ _)); refine blk_far ?_ NB302_319.out _; (with_reducible repeat (first | refine blk_drewN ?_ _ | refine blk_drew ?_ | refine blk_alloc ?_ _)); exact BK302.out)) : gb320 ≠ gb302)); replace BK302 := Aside0.mk (blk_below (g := gb302) (o := .cells #[.int .i64 t294, .slice Ao12 t295.length co12] 25 (0, 0)) (by (with_reducible repeat (first | refine blk_drewN ?_ _ | refine blk_drew ?_ | refine blk_alloc ?_ _)); refine blk_far ?_ NB302_319.out _; (with_reducible repeat (first | refine blk_drewN ?_ _ | refine blk_drew ?_ | refine blk_alloc ?_ _)); refine blk_far ?_ NB302_319.out _; (with_reducible repeat (first | refine blk_drewN ?_ _ | refine blk_drew ?_ | refine blk_alloc ?_ _)); exact BK302.out) hb); have NB303_320 := Aside0.mk ((by rw [hg]; exact Nat.ne_of_lt (blk_lt (g := gb303) (o := .cells #[.int .i64 t298, .slice Ao14 t299.length co14] 25 (0, 0)) (by (with_reducible repeat (first | refine blk_drewN ?_ _ | refine blk_drew ?_ | refine blk_alloc ?_ _)); refine blk_far ?_ NB303_319.out _; (with_reducible repeat (first | refine blk_drewN ?_ _ | refine blk_drew ?_ | refine blk_alloc ?_ _)); refine blk_far ?_ NB303_319.out _; (with_reducible repeat (first | refine blk_drewN ?_ _ | refine blk_drew ?_ | refine blk_alloc ?_ _)); exact BK303.out)) : gb303 ≠ gb320)); have NB320_303 := Aside0.mk ((by rw [hg]; exact Nat.ne_of_gt (blk_lt (g := gb303) (o := .cells #[.int .i64 t298, .slice Ao14 t299.length co14] 25 (0, 0)) (by (with_reducible repeat (first | refine blk_drewN ?_ _ | refine blk_drew ?_ | refine blk_alloc ?_ _)); refine blk_far ?_ NB303_319.out _; (with_reducible repeat (first | refine blk_drewN ?_ _ | refine blk_drew ?_ | refine blk_alloc ?_ _)); refine blk_far ?_ NB303_319.out _; (with_reducible repeat (first | refine blk_drewN ?_ _ | refine blk_drew ?_ | refine blk_alloc ?_ _)); exact BK303.out)) : gb320 ≠ gb303)); replace BK303 := Aside0.mk (blk_below (g := gb303) (o := .cells #[.int .i64 t298, .slice Ao14 t299.length co14] 25 (0, 0)) (by (with_reducible repeat (first | refine blk_drewN ?_ _ | refine blk_drew ?_ | refine blk_alloc ?_ _)); refine blk_far ?_ NB303_319.out _; (with_reducible repeat (first | refine blk_drewN ?_ _ | refine blk_drew ?_ | refine blk_alloc ?_ _)); refine blk_far ?_ NB303_319.out _; (with_reducible repeat (first | refine blk_drewN ?_ _ | refine blk_drew ?_ | refine blk_alloc ?_ _)); exact BK303.out) hb); have NB307_320 := Aside0.mk ((by rw [hg]; exact Nat.ne_of_lt (blk_lt (g := gb307) (o := .cells #[.string t304, .int .i64 t305, .int .i64 t306] 29 (0, 0)) (by (with_reducible repeat (first | refine blk_drewN ?_ _ | refine blk_drew ?_ | refine blk_alloc ?_ _)); refine blk_far ?_ NB307_319.out _; (with_reducible repeat (first | refine blk_drewN ?_ _ | refine blk_drew ?_ | refine blk_alloc ?_ _)); refine blk_far ?_ NB307_319.out _; (with_reducible repeat (first | refine blk_drewN ?_ _ | refine blk_drew ?_ | refine blk_alloc ?_ _)); exact BK307.out)) : gb307 ≠ gb320)); have NB320_307 := Aside0.mk ((by rw [hg]; exact Nat.ne_of_gt (blk_lt (g := gb307) (o := .cells #[.string t304, .int .i64 t305, .int .i64 t306] 29 (0, 0)) (by (with_reducible repeat (first | refine blk_drewN ?_ _ | refine blk_drew ?_ | refine blk_alloc ?_ _)); refine blk_far ?_ NB307_319.out _; (with_reducible repeat (first | refine blk_drewN ?_ _ | refine blk_drew ?_ | refine blk_alloc ?_ _)); refine blk_far ?_ NB307_319.out _; (with_reducible repeat (first | refine blk_drewN ?_ _ | refine blk_drew ?_ | refine blk_alloc ?_ _)); exact BK307.out)) : gb320 ≠ gb307)); replace BK307 := Aside0.mk (blk_below (g := gb307) (o := .cells #[.string t304, .int .i64 t305, .int .i64 t306] 29 (0, 0)) (by (with_reducible repeat (first | refine blk_drewN ?_ _ | refine blk_drew ?_ | refine blk_alloc ?_ _)); refine blk_far ?_ NB307_319.out _; (with_reducible repeat (first | refine blk_drewN ?_ _ | refine blk_drew ?_ | refine blk_alloc ?_ _)); refine blk_far ?_ NB307_319.out _; (with_reducible repeat (first | refine blk_drewN ?_ _ | refine blk_drew ?_ | refine blk_alloc ?_ _)); exact BK307.out) hb); have NB319_320 := Aside0.mk ((by rw [hg]; exact Nat.ne_of_lt (blk_lt (g := gb319) (o := .cells #[.int .i64 t294, .slice none 0 0] 25 (0, 0)) (by (with_reducible repeat (first | refine blk_drewN ?_ _ | refine blk_drew ?_ | refine blk_alloc ?_ _)); refine blk_put (cs := #[.int .i64 t294, .slice none 0 0]) ?_ 1 _ rfl; (with_reducible repeat (first | refine blk_drewN ?_ _ | refine blk_drew ?_ | refine blk_alloc ?_ _)); refine blk_put (cs := #[.int .i64 0, .slice none 0 0]) ?_ 0 _ rfl; (with_reducible repeat (first | refine blk_drewN ?_ _ | refine blk_drew ?_ | refine blk_alloc ?_ _)); exact BK319.out)) : gb319 ≠ gb320)); have NB320_319 := Aside0.mk ((by rw [hg]; exact Nat.ne_of_gt (blk_lt (g := gb319) (o := .cells #[.int .i64 t294, .slice none 0 0] 25 (0, 0)) (by (with_reducible repeat (first | refine blk_drewN ?_ _ | refine blk_drew ?_ | refine blk_alloc ?_ _)); refine blk_put (cs := #[.int .i64 t294, .slice none 0 0]) ?_ 1 _ rfl; (with_reducible repeat (first | refine blk_drewN ?_ _ | refine blk_drew ?_ | refine blk_alloc ?_ _)); refine blk_put (cs := #[.int .i64 0, .slice none 0 0]) ?_ 0 _ rfl; (with_reducible repeat (first | refine blk_drewN ?_ _ | refine blk_drew ?_ | refine blk_alloc ?_ _)); exact BK319.out)) : gb320 ≠ gb319)); replace BK319 := Aside0.mk (blk_below (g := gb319) (o := .cells #[.int .i64 t294, .slice none 0 0] 25 (0, 0)) (by (with_reducible repeat (first | refine blk_drewN ?_ _ | refine blk_drew ?_ | refine blk_alloc ?_ _)); refine blk_put (cs := #[.int .i64 t294, .slice none 0 0]) ?_ 1 _ rfl; (with_reducible repeat (first | refine blk_drewN ?_ _ | refine blk_drew ?_ | refine blk_alloc ?_ _)); refine blk_put (cs := #[.int .i64 0, .slice none 0 0]) ?_ 0 _ rfl; (with_reducible repeat (first | refine blk_drewN ?_ _ | refine blk_drew ?_ | refine blk_alloc ?_ _)); exact BK319.out) hb); clear hb hbox hg; have hnb72 := NB320_302.out; have hnc72 := NB302_320.out; have hnb73 := NB320_303.out; have hnc73 := NB303_320.out; have hnb74 := NB320_307.out; have hnc74 := NB307_320.out; have hnb75 := NB320_319.out; have hnc75 := NB319_320.out; have hcz76_0 : w71.cell? ⟨gb320, 0, none⟩ = some (.int .i64 0) := (blk_cell BK320.out 0).trans rfl; have hcz76_1 : w71.cell? ⟨gb320, 1, none⟩ = some (.slice none 0 0) := (blk_cell BK320.out 1).trans rfl; have hfz76_0 := blk_frozen BK320.out 0; have hfz76_1 := blk_frozen BK320.out 1))
 have n0_ : Aside0 (Kd.R k29 29 ((w71.setCell ⟨gb320, 0, none⟩ (.int .i64 100)).setCell ⟨gb320, 1, none⟩ (.slice Ao12 t295.length co12)) w.heap.size (fun k_ => some k_ ≠ (.slice Ao14 t299.length co14 : Value).ownBlock ∧ k_ ≠ gb307) (.slice Ao12 t295.length co12) t295) := ⟨by (with_reducible repeat (first | apply Kd.R_alloc | apply Kd.R_drewN | apply Kd.R_drew)); exact Kd.R_mono (Kd.R_far (p := ⟨gb320, 1, none⟩) (Kd.R_far (p := ⟨gb320, 0, none⟩) (Kd.R_types HO_303001.out BK320.out (by decide)) (fun _ hk => hk.2) (.int .i64 100)) (fun _ hk => hk.2) (.slice Ao12 t295.length co12)) (fun _ hk => ⟨hk.1.1, hk.1.2⟩)⟩
 have n1_ : Aside0 (Kd.R k29 29 ((w71.setCell ⟨gb320, 0, none⟩ (.int .i64 100)).setCell ⟨gb320, 1, none⟩ (.slice Ao12 t295.length co12)) w.heap.size (fun k_ => some k_ ≠ (.slice Ao12 t295.length co12 : Value).ownBlock ∧ k_ ≠ gb307) (.slice Ao14 t299.length co14) t299) := ⟨by (with_reducible repeat (first | apply Kd.R_alloc | apply Kd.R_drewN | apply Kd.R_drew)); exact Kd.R_mono (Kd.R_far (p := ⟨gb320, 1, none⟩) (Kd.R_far (p := ⟨gb320, 0, none⟩) (Kd.R_types HO_304001.out BK320.out (by decide)) (fun _ hk => hk.2) (.int .i64 100)) (fun _ hk => hk.2) (.slice Ao12 t295.length co12)) (fun _ hk => ⟨hk.1.1, hk.1.2⟩)⟩
 have n2_ : Aside0 (((w71.setCell ⟨gb320, 0, none⟩ (.int .i64 100)).setCell ⟨gb320, 1, none⟩ (.slice Ao12 t295.length co12)).heap[gb302]? = some (.cells #[.int .i64 t294, .slice Ao12 t295.length co12] 25 (0, 0))) := ⟨by (with_reducible repeat (first | refine blk_drewN ?_ _ | refine blk_drew ?_ | refine blk_alloc ?_ _)); refine blk_far ?_ NB302_320.out _; (with_reducible repeat (first | refine blk_drewN ?_ _ | refine blk_drew ?_ | refine blk_alloc ?_ _)); refine blk_far ?_ NB302_320.out _; (with_reducible repeat (first | refine blk_drewN ?_ _ | refine blk_drew ?_ | refine blk_alloc ?_ _)); exact BK302.out⟩
 have n3_ : Aside0 (((w71.setCell ⟨gb320, 0, none⟩ (.int .i64 100)).setCell ⟨gb320, 1, none⟩ (.slice Ao12 t295.length co12)).heap[gb303]? = some (.cells #[.int .i64 t298, .slice Ao14 t299.length co14] 25 (0, 0))) := ⟨by (with_reducible repeat (first | refine blk_drewN ?_ _ | refine blk_drew ?_ | refine blk_alloc ?_ _)); refine blk_far ?_ NB303_320.out _; (with_reducible repeat (first | refine blk_drewN ?_ _ | refine blk_drew ?_ | refine blk_alloc ?_ _)); refine blk_far ?_ NB303_320.out _; (with_reducible repeat (first | refine blk_drewN ?_ _ | refine blk_drew ?_ | refine blk_alloc ?_ _)); exact BK303.out⟩
 have n4_ : Aside0 (((w71.setCell ⟨gb320, 0, none⟩ (.int .i64 100)).setCell ⟨gb320, 1, none⟩ (.slice Ao12 t295.length co12)).heap[gb307]? = some (.cells #[.string t304, .int .i64 t305, .int .i64 t306] 29 (0, 0))) := ⟨by (with_reducible repeat (first | refine blk_drewN ?_ _ | refine blk_drew ?_ | refine blk_alloc ?_ _)); refine blk_far ?_ NB307_320.out _; (with_reducible repeat (first | refine blk_drewN ?_ _ | refine blk_drew ?_ | refine blk_alloc ?_ _)); refine blk_far ?_ NB307_320.out _; (with_reducible repeat (first | refine blk_drewN ?_ _ | refine blk_drew ?_ | refine blk_alloc ?_ _)); exact BK307.out⟩
 have n5_ : Aside0 (((w71.setCell ⟨gb320, 0, none⟩ (.int .i64 100)).setCell ⟨gb320, 1, none⟩ (.slice Ao12 t295.length co12)).heap[gb319]? = some (.cells #[.int .i64 t294, .slice none 0 0] 25 (0, 0))) := ⟨by (with_reducible repeat (first | refine blk_drewN ?_ _ | refine blk_drew ?_ | refine blk_alloc ?_ _)); refine blk_far ?_ NB319_320.out _; (with_reducible repeat (first | refine blk_drewN ?_ _ | refine blk_drew ?_ | refine blk_alloc ?_ _)); refine blk_far ?_ NB319_320.out _; (with_reducible repeat (first | refine blk_drewN ?_ _ | refine blk_drew ?_ | refine blk_alloc ?_ _)); exact BK319.out⟩
 have n6_ : Aside0 (((w71.setCell ⟨gb320, 0, none⟩ (.int .i64 100)).setCell ⟨gb320, 1, none⟩ (.slice Ao12 t295.length co12)).heap[gb320]? = some (.cells #[.int .i64 100, .slice Ao12 t295.length co12] 25 (0, 0))) := ⟨by (with_reducible repeat (first | refine blk_drewN ?_ _ | refine blk_drew ?_ | refine blk_alloc ?_ _)); refine blk_put (cs := #[.int .i64 100, .slice none 0 0]) ?_ 1 _ rfl; (with_reducible repeat (first | refine blk_drewN ?_ _ | refine blk_drew ?_ | refine blk_alloc ?_ _)); refine blk_put (cs := #[.int .i64 0, .slice none 0 0]) ?_ 0 _ rfl; (with_reducible repeat (first | refine blk_drewN ?_ _ | refine blk_drew ?_ | refine blk_alloc ?_ _)); exact BK320.out⟩
 have n7_ : Aside0 (Below w.heap.size w ((w71.setCell ⟨gb320, 0, none⟩ (.int .i64 100)).setCell ⟨gb320, 1, none⟩ (.slice Ao12 t295.length co12))) := ⟨laws_FnPostBent_auHB⟩
 (try clear HO_303001)
 (try clear HO_304001)
 (try clear BK302)
 (try clear BK303)
 (try clear BK307)
 (try clear BK319)
 (try clear BK320)
 (try clear HB)
 generalize ((w71.setCell ⟨gb320, 0, none⟩ (.int .i64 100)).setCell ⟨gb320, 1, none⟩ (.slice Ao12 t295.length co12)) = w77 at n0_ n1_ n2_ n3_ n4_ n5_ n6_ n7_ ⊢
 have HO_303001 := n0_
 have HO_304001 := n1_
 have BK302 := n2_
 have BK303 := n3_
 have BK307 := n4_
 have BK319 := n5_
 have BK320 := n6_
 have HB := n7_
 clear n0_ n1_ n2_ n3_ n4_ n5_ n6_ n7_
 replace HO_303001 := Aside0.mk (Kd.R_drew HO_303001.out)
 replace HO_304001 := Aside0.mk (Kd.R_drew HO_304001.out)
 replace BK302 := Aside0.mk (blk_drew BK302.out)
 replace BK303 := Aside0.mk (blk_drew BK303.out)
 replace BK307 := Aside0.mk (blk_drew BK307.out)
 replace BK319 := Aside0.mk (blk_drew BK319.out)
 replace BK320 := Aside0.mk (blk_drew BK320.out)
 replace HB := Aside0.mk (below_drew1 HB.out)
 refine start_ (n := 12) (S := fun w' => w'.cell? ⟨gb302, 0, none⟩ = some (.int .i64 t294) ∧ w'.cell? ⟨gb302, 1, none⟩ = some (.slice Ao12 t295.length co12)) (ds := []) #[false, false, false, false, false, false, false, false, false, false, false, false] (by kernel_rfl) rfl rfl ⟨(blk_cell BK302.out 0).trans rfl, (blk_cell BK302.out 1).trans rfl⟩ (fun hHeld => ?_); refine with_tabW laws_FnPostBent.tab12 laws_FnPostBent.bits12 (fun HT_ HW_ => ?_)
 generalize w77.drew = w78 at HO_303001 HO_304001 BK302 BK303 BK307 BK319 BK320 HB hHeld ⊢
 refine pu_ 0 (some 68) HT_ rfl rfl (by go_simp; rfl) (by kernel_rfl) rfl (by intro w'; go_simp; with_reducible rfl) (fun _ _ _ h => h) (by go_simp; rfl) ?_
 refine pu_ 3 (some 71) HT_ rfl rfl (by go_simp; rfl) (by kernel_rfl) rfl (by intro w'; go_simp; with_reducible rfl) (fun _ _ _ h => h) (by go_simp; rfl) ?_
 refine pu_ 6 (some 74) HT_ rfl rfl (by go_simp; rfl) (by kernel_rfl) rfl (by intro w'; go_simp; with_reducible rfl) (fun _ _ _ h => h) (by go_simp; rfl) ?_
 refine ta_ 1 (some 69) HT_ HW_ hHeld rfl rfl (by go_simp; rfl) (by kernel_rfl) rfl (by rintro w' ⟨s0, s1⟩; go_simp; with_reducible rfl) (fun _ _ _ h => h) (by go_simp; rfl) ?_
 refine ta_ 4 (some 72) HT_ HW_ hHeld rfl rfl (by go_simp; rfl) (by kernel_rfl) rfl (by rintro w' ⟨s0, s1⟩; go_simp; with_reducible rfl) (fun _ _ _ h => h) (by go_simp; rfl) ?_
 refine join_ (σ := Value × Value × Value × Value × Nat) 1 #[true, true, true, true, true, true, true, true, true, true, true, false] (fun s_ => [(70, s_.1), (73, s_.2.1), (75, s_.2.2.1), (76, s_.2.2.2.1), (9, .pointer (some ⟨s_.2.2.2.2, 0, none⟩)), (77, .agg #[.int .i64 t294, s_.2.2.2.1])]) (fun s_ w' => (w'.cell? ⟨gb302, 0, none⟩ = some (.int .i64 t294) ∧ w'.cell? ⟨gb302, 1, none⟩ = some (.slice Ao12 t295.length co12)) ∧ (Kd.R k29 29 w' w.heap.size (fun k_ => some k_ ≠ (s_.2.2.2.1 : Value).ownBlock ∧ some k_ ≠ (.slice Ao12 t295.length co12 : Value).ownBlock ∧ some k_ ≠ (.slice Ao14 t299.length co14 : Value).ownBlock ∧ k_ ≠ gb307) s_.2.2.1 y327) ∧ (Kd.R k29 29 w' w.heap.size (fun k_ => some k_ ≠ (s_.2.2.1 : Value).ownBlock ∧ some k_ ≠ (.slice Ao12 t295.length co12 : Value).ownBlock ∧ some k_ ≠ (.slice Ao14 t299.length co14 : Value).ownBlock ∧ k_ ≠ gb307) s_.2.2.2.1 y330) ∧ (Kd.R k29 29 w' w.heap.size (fun k_ => some k_ ≠ (s_.2.2.1 : Value).ownBlock ∧ some k_ ≠ (s_.2.2.2.1 : Value).ownBlock ∧ some k_ ≠ (.slice Ao14 t299.length co14 : Value).ownBlock ∧ k_ ≠ gb307) (.slice Ao12 t295.length co12) t295) ∧ (Kd.R k29 29 w' w.heap.size (fun k_ => some k_ ≠ (s_.2.2.1 : Value).ownBlock ∧ some k_ ≠ (s_.2.2.2.1 : Value).ownBlock ∧ some k_ ≠ (.slice Ao12 t295.length co12 : Value).ownBlock ∧ k_ ≠ gb307) (.slice Ao14 t299.length co14) t299) ∧ (w'.heap[gb302]? = some (.cells #[.int .i64 t294, .slice Ao12 t295.length co12] 25 (0, 0))) ∧ (w'.heap[gb303]? = some (.cells #[.int .i64 t298, .slice Ao14 t299.length co14] 25 (0, 0))) ∧ (w'.heap[gb307]? = some (.cells #[.string t304, .int .i64 t305, .int .i64 t306] 29 (0, 0))) ∧ (w'.heap[gb319]? = some (.cells #[.int .i64 t294, .slice none 0 0] 25 (0, 0))) ∧ (w'.heap[gb320]? = some (.cells #[.int .i64 100, .slice Ao12 t295.length co12] 25 (0, 0))) ∧ (w'.heap[s_.2.2.2.2]? = some (.cells #[.int .i64 0, .slice none 0 0] 25 (0, 0))) ∧ (w.heap.size ≤ s_.2.2.2.2) ∧ (w.heap.size ≤ s_.2.2.2.2) ∧ (gb302 ≠ s_.2.2.2.2) ∧ (s_.2.2.2.2 ≠ gb302) ∧ (gb303 ≠ s_.2.2.2.2) ∧ (s_.2.2.2.2 ≠ gb303) ∧ (gb307 ≠ s_.2.2.2.2) ∧ (s_.2.2.2.2 ≠ gb307) ∧ (gb319 ≠ s_.2.2.2.2) ∧ (s_.2.2.2.2 ≠ gb319) ∧ (gb320 ≠ s_.2.2.2.2) ∧ (s_.2.2.2.2 ≠ gb320) ∧ (Below w.heap.size w w')) ?_ ?_
 rotate_left
 ·
  intro hJ2_5_7_8_10
  refine join_ (σ := Value × Value × Value × Value) 2 #[true, true, true, true, true, true, true, true, true, true, false, false] (fun s_ => [(70, s_.1), (73, s_.2.1), (75, s_.2.2.1), (76, s_.2.2.2), (77, .agg #[.int .i64 t294, s_.2.2.2])]) (fun s_ w' => (w'.cell? ⟨gb302, 0, none⟩ = some (.int .i64 t294) ∧ w'.cell? ⟨gb302, 1, none⟩ = some (.slice Ao12 t295.length co12)) ∧ (Kd.R k29 29 w' w.heap.size (fun k_ => some k_ ≠ (s_.2.2.2 : Value).ownBlock ∧ some k_ ≠ (.slice Ao12 t295.length co12 : Value).ownBlock ∧ some k_ ≠ (.slice Ao14 t299.length co14 : Value).ownBlock ∧ k_ ≠ gb307) s_.2.2.1 y327) ∧ (Kd.R k29 29 w' w.heap.size (fun k_ => some k_ ≠ (s_.2.2.1 : Value).ownBlock ∧ some k_ ≠ (.slice Ao12 t295.length co12 : Value).ownBlock ∧ some k_ ≠ (.slice Ao14 t299.length co14 : Value).ownBlock ∧ k_ ≠ gb307) s_.2.2.2 y330) ∧ (Kd.R k29 29 w' w.heap.size (fun k_ => some k_ ≠ (s_.2.2.1 : Value).ownBlock ∧ some k_ ≠ (s_.2.2.2 : Value).ownBlock ∧ some k_ ≠ (.slice Ao14 t299.length co14 : Value).ownBlock ∧ k_ ≠ gb307) (.slice Ao12 t295.length co12) t295) ∧ (Kd.R k29 29 w' w.heap.size (fun k_ => some k_ ≠ (s_.2.2.1 : Value).ownBlock ∧ some k_ ≠ (s_.2.2.2 : Value).ownBlock ∧ some k_ ≠ (.slice Ao12 t295.length co12 : Value).ownBlock ∧ k_ ≠ gb307) (.slice Ao14 t299.length co14) t299) ∧ (w'.heap[gb302]? = some (.cells #[.int .i64 t294, .slice Ao12 t295.length co12] 25 (0, 0))) ∧ (w'.heap[gb303]? = some (.cells #[.int .i64 t298, .slice Ao14 t299.length co14] 25 (0, 0))) ∧ (w'.heap[gb307]? = some (.cells #[.string t304, .int .i64 t305, .int .i64 t306] 29 (0, 0))) ∧ (w'.heap[gb319]? = some (.cells #[.int .i64 t294, .slice none 0 0] 25 (0, 0))) ∧ (w'.heap[gb320]? = some (.cells #[.int .i64 100, .slice Ao12 t295.length co12] 25 (0, 0))) ∧ (Below w.heap.size w w')) ?_ ?_
  rotate_left
  ·
   intro hJ2_5_7_8
   refine join_ (σ := Value × Value × Value × Nat) 3 #[true, true, true, true, true, true, true, true, false, false, true, false] (fun s_ => [(70, s_.1), (73, s_.2.1), (75, s_.2.2.1), (9, .pointer (some ⟨s_.2.2.2, 0, none⟩))]) (fun s_ w' => (w'.cell? ⟨gb302, 0, none⟩ = some (.int .i64 t294) ∧ w'.cell? ⟨gb302, 1, none⟩ = some (.slice Ao12 t295.length co12)) ∧ (Kd.R k29 29 w' w.heap.size (fun k_ => some k_ ≠ (s_.2.2.1 : Value).ownBlock ∧ some k_ ≠ (.slice Ao12 t295.length co12 : Value).ownBlock ∧ some k_ ≠ (.slice Ao14 t299.length co14 : Value).ownBlock ∧ k_ ≠ gb307) s_.2.1 y324) ∧ (Kd.R k29 29 w' w.heap.size (fun k_ => some k_ ≠ (s_.2.1 : Value).ownBlock ∧ some k_ ≠ (.slice Ao12 t295.length co12 : Value).ownBlock ∧ some k_ ≠ (.slice Ao14 t299.length co14 : Value).ownBlock ∧ k_ ≠ gb307) s_.2.2.1 y327) ∧ (Kd.R k29 29 w' w.heap.size (fun k_ => some k_ ≠ (s_.2.1 : Value).ownBlock ∧ some k_ ≠ (s_.2.2.1 : Value).ownBlock ∧ some k_ ≠ (.slice Ao14 t299.length co14 : Value).ownBlock ∧ k_ ≠ gb307) (.slice Ao12 t295.length co12) t295) ∧ (Kd.R k29 29 w' w.heap.size (fun k_ => some k_ ≠ (s_.2.1 : Value).ownBlock ∧ some k_ ≠ (s_.2.2.1 : Value).ownBlock ∧ some k_ ≠ (.slice Ao12 t295.length co12 : Value).ownBlock ∧ k_ ≠ gb307) (.slice Ao14 t299.length co14) t299) ∧ (w'.heap[gb302]? = some (.cells #[.int .i64 t294, .slice Ao12 t295.length co12] 25 (0, 0))) ∧ (w'.heap[gb303]? = some (.cells #[.int .i64 t298, .slice Ao14 t299.length co14] 25 (0, 0))) ∧ (w'.heap[gb307]? = some (.cells #[.string t304, .int .i64 t305, .int .i64 t306] 29 (0, 0))) ∧ (w'.heap[gb319]? = some (.cells #[.int .i64 t294, .slice none 0 0] 25 (0, 0))) ∧ (w'.heap[gb320]? = some (.cells #[.int .i64 100, .slice Ao12 t295.length co12] 25 (0, 0))) ∧ (w'.heap[s_.2.2.2]? = some (.cells #[.int .i64 0, .slice none 0 0] 25 (0, 0))) ∧ (w.heap.size ≤ s_.2.2.2) ∧ (w.heap.size ≤ s_.2.2.2) ∧ (gb302 ≠ s_.2.2.2) ∧ (s_.2.2.2 ≠ gb302) ∧ (gb303 ≠ s_.2.2.2) ∧ (s_.2.2.2 ≠ gb303) ∧ (gb307 ≠ s_.2.2.2) ∧ (s_.2.2.2 ≠ gb307) ∧ (gb319 ≠ s_.2.2.2) ∧ (s_.2.2.2 ≠ gb319) ∧ (gb320 ≠ s_.2.2.2) ∧ (s_.2.2.2 ≠ gb320) ∧ (Below w.heap.size w w')) ?_ ?_
   rotate_left
   ·
    intro hJ2_5_7_10
    refine join_ (σ := Value × Value × Value) 4 #[true, true, true, true, true, true, true, true, false, false, false, false] (fun s_ => [(70, s_.1), (73, s_.2.1), (75, s_.2.2)]) (fun s_ w' => (w'.cell? ⟨gb302, 0, none⟩ = some (.int .i64 t294) ∧ w'.cell? ⟨gb302, 1, none⟩ = some (.slice Ao12 t295.length co12)) ∧ (Kd.R k29 29 w' w.heap.size (fun k_ => some k_ ≠ (s_.2.2 : Value).ownBlock ∧ some k_ ≠ (.slice Ao12 t295.length co12 : Value).ownBlock ∧ some k_ ≠ (.slice Ao14 t299.length co14 : Value).ownBlock ∧ k_ ≠ gb307) s_.2.1 y324) ∧ (Kd.R k29 29 w' w.heap.size (fun k_ => some k_ ≠ (s_.2.1 : Value).ownBlock ∧ some k_ ≠ (.slice Ao12 t295.length co12 : Value).ownBlock ∧ some k_ ≠ (.slice Ao14 t299.length co14 : Value).ownBlock ∧ k_ ≠ gb307) s_.2.2 y327) ∧ (Kd.R k29 29 w' w.heap.size (fun k_ => some k_ ≠ (s_.2.1 : Value).ownBlock ∧ some k_ ≠ (s_.2.2 : Value).ownBlock ∧ some k_ ≠ (.slice Ao14 t299.length co14 : Value).ownBlock ∧ k_ ≠ gb307) (.slice Ao12 t295.length co12) t295) ∧ (Kd.R k29 29 w' w.heap.size (fun k_ => some k_ ≠ (s_.2.1 : Value).ownBlock ∧ some k_ ≠ (s_.2.2 : Value).ownBlock ∧ some k_ ≠ (.slice Ao12 t295.length co12 : Value).ownBlock ∧ k_ ≠ gb307) (.slice Ao14 t299.length co14) t299) ∧ (w'.heap[gb302]? = some (.cells #[.int .i64 t294, .slice Ao12 t295.length co12] 25 (0, 0))) ∧ (w'.heap[gb303]? = some (.cells #[.int .i64 t298, .slice Ao14 t299.length co14] 25 (0, 0))) ∧ (w'.heap[gb307]? = some (.cells #[.string t304, .int .i64 t305, .int .i64 t306] 29 (0, 0))) ∧ (w'.heap[gb319]? = some (.cells #[.int .i64 t294, .slice none 0 0] 25 (0, 0))) ∧ (w'.heap[gb320]? = some (.cells #[.int .i64 100, .slice Ao12 t295.length co12] 25 (0, 0))) ∧ (Below w.heap.size w w')) ?_ ?_
    rotate_left
    ·
     intro hJ2_5_7
     refine join_ (σ := Value × Value × Nat) 4 #[true, true, true, true, true, true, true, false, false, false, true, false] (fun s_ => [(70, s_.1), (73, s_.2.1), (9, .pointer (some ⟨s_.2.2, 0, none⟩))]) (fun s_ w' => (w'.cell? ⟨gb302, 0, none⟩ = some (.int .i64 t294) ∧ w'.cell? ⟨gb302, 1, none⟩ = some (.slice Ao12 t295.length co12)) ∧ (Kd.R k29 29 w' w.heap.size (fun k_ => some k_ ≠ (.slice Ao12 t295.length co12 : Value).ownBlock ∧ some k_ ≠ (.slice Ao14 t299.length co14 : Value).ownBlock ∧ k_ ≠ gb307) s_.2.1 y324) ∧ (Kd.R k29 29 w' w.heap.size (fun k_ => some k_ ≠ (s_.2.1 : Value).ownBlock ∧ some k_ ≠ (.slice Ao14 t299.length co14 : Value).ownBlock ∧ k_ ≠ gb307) (.slice Ao12 t295.length co12) t295) ∧ (Kd.R k29 29 w' w.heap.size (fun k_ => some k_ ≠ (s_.2.1 : Value).ownBlock ∧ some k_ ≠ (.slice Ao12 t295.length co12 : Value).ownBlock ∧ k_ ≠ gb307) (.slice Ao14 t299.length co14) t299) ∧ (w'.heap[gb302]? = some (.cells #[.int .i64 t294, .slice Ao12 t295.length co12] 25 (0, 0))) ∧ (w'.heap[gb303]? = some (.cells #[.int .i64 t298, .slice Ao14 t299.length co14] 25 (0, 0))) ∧ (w'.heap[gb307]? = some (.cells #[.string t304, .int .i64 t305, .int .i64 t306] 29 (0, 0))) ∧ (w'.heap[gb319]? = some (.cells #[.int .i64 t294, .slice none 0 0] 25 (0, 0))) ∧ (w'.heap[gb320]? = some (.cells #[.int .i64 100, .slice Ao12 t295.length co12] 25 (0, 0))) ∧ (w'.heap[s_.2.2]? = some (.cells #[.int .i64 0, .slice none 0 0] 25 (0, 0))) ∧ (w.heap.size ≤ s_.2.2) ∧ (w.heap.size ≤ s_.2.2) ∧ (gb302 ≠ s_.2.2) ∧ (s_.2.2 ≠ gb302) ∧ (gb303 ≠ s_.2.2) ∧ (s_.2.2 ≠ gb303) ∧ (gb307 ≠ s_.2.2) ∧ (s_.2.2 ≠ gb307) ∧ (gb319 ≠ s_.2.2) ∧ (s_.2.2 ≠ gb319) ∧ (gb320 ≠ s_.2.2) ∧ (s_.2.2 ≠ gb320) ∧ (Below w.heap.size w w')) ?_ ?_
     rotate_left
     ·
      intro hJ2_5_10
      refine join_ (σ := Value × Value × Nat) 4 #[true, true, true, true, true, false, true, true, false, false, true, false] (fun s_ => [(70, s_.1), (75, s_.2.1), (9, .pointer (some ⟨s_.2.2, 0, none⟩))]) (fun s_ w' => (w'.cell? ⟨gb302, 0, none⟩ = some (.int .i64 t294) ∧ w'.cell? ⟨gb302, 1, none⟩ = some (.slice Ao12 t295.length co12)) ∧ (Kd.R k29 29 w' w.heap.size (fun k_ => some k_ ≠ (s_.2.1 : Value).ownBlock ∧ some k_ ≠ (.slice Ao12 t295.length co12 : Value).ownBlock ∧ some k_ ≠ (.slice Ao14 t299.length co14 : Value).ownBlock ∧ k_ ≠ gb307) s_.1 y321) ∧ (Kd.R k29 29 w' w.heap.size (fun k_ => some k_ ≠ (s_.1 : Value).ownBlock ∧ some k_ ≠ (.slice Ao12 t295.length co12 : Value).ownBlock ∧ some k_ ≠ (.slice Ao14 t299.length co14 : Value).ownBlock ∧ k_ ≠ gb307) s_.2.1 y327) ∧ (Kd.R k29 29 w' w.heap.size (fun k_ => some k_ ≠ (s_.1 : Value).ownBlock ∧ some k_ ≠ (s_.2.1 : Value).ownBlock ∧ some k_ ≠ (.slice Ao14 t299.length co14 : Value).ownBlock ∧ k_ ≠ gb307) (.slice Ao12 t295.length co12) t295) ∧ (Kd.R k29 29 w' w.heap.size (fun k_ => some k_ ≠ (s_.1 : Value).ownBlock ∧ some k_ ≠ (s_.2.1 : Value).ownBlock ∧ some k_ ≠ (.slice Ao12 t295.length co12 : Value).ownBlock ∧ k_ ≠ gb307) (.slice Ao14 t299.length co14) t299) ∧ (w'.heap[gb302]? = some (.cells #[.int .i64 t294, .slice Ao12 t295.length co12] 25 (0, 0))) ∧ (w'.heap[gb303]? = some (.cells #[.int .i64 t298, .slice Ao14 t299.length co14] 25 (0, 0))) ∧ (w'.heap[gb307]? = some (.cells #[.string t304, .int .i64 t305, .int .i64 t306] 29 (0, 0))) ∧ (w'.heap[gb319]? = some (.cells #[.int .i64 t294, .slice none 0 0] 25 (0, 0))) ∧ (w'.heap[gb320]? = some (.cells #[.int .i64 100, .slice Ao12 t295.length co12] 25 (0, 0))) ∧ (w'.heap[s_.2.2]? = some (.cells #[.int .i64 0, .slice none 0 0] 25 (0, 0))) ∧ (w.heap.size ≤ s_.2.2) ∧ (w.heap.size ≤ s_.2.2) ∧ (gb302 ≠ s_.2.2) ∧ (s_.2.2 ≠ gb302) ∧ (gb303 ≠ s_.2.2) ∧ (s_.2.2 ≠ gb303) ∧ (gb307 ≠ s_.2.2) ∧ (s_.2.2 ≠ gb307) ∧ (gb319 ≠ s_.2.2) ∧ (s_.2.2 ≠ gb319) ∧ (gb320 ≠ s_.2.2) ∧ (s_.2.2 ≠ gb320) ∧ (Below w.heap.size w w')) ?_ ?_
      rotate_left
      ·
       intro hJ2_7_10
       refine join_ (σ := Value × Value) 5 #[true, true, true, true, true, true, true, false, false, false, false, false] (fun s_ => [(70, s_.1), (73, s_.2)]) (fun s_ w' => (w'.cell? ⟨gb302, 0, none⟩ = some (.int .i64 t294) ∧ w'.cell? ⟨gb302, 1, none⟩ = some (.slice Ao12 t295.length co12)) ∧ (Kd.R k29 29 w' w.heap.size (fun k_ => some k_ ≠ (.slice Ao12 t295.length co12 : Value).ownBlock ∧ some k_ ≠ (.slice Ao14 t299.length co14 : Value).ownBlock ∧ k_ ≠ gb307) s_.2 y324) ∧ (Kd.R k29 29 w' w.heap.size (fun k_ => some k_ ≠ (s_.2 : Value).ownBlock ∧ some k_ ≠ (.slice Ao14 t299.length co14 : Value).ownBlock ∧ k_ ≠ gb307) (.slice Ao12 t295.length co12) t295) ∧ (Kd.R k29 29 w' w.heap.size (fun k_ => some k_ ≠ (s_.2 : Value).ownBlock ∧ some k_ ≠ (.slice Ao12 t295.length co12 : Value).ownBlock ∧ k_ ≠ gb307) (.slice Ao14 t299.length co14) t299) ∧ (w'.heap[gb302]? = some (.cells #[.int .i64 t294, .slice Ao12 t295.length co12] 25 (0, 0))) ∧ (w'.heap[gb303]? = some (.cells #[.int .i64 t298, .slice Ao14 t299.length co14] 25 (0, 0))) ∧ (w'.heap[gb307]? = some (.cells #[.string t304, .int .i64 t305, .int .i64 t306] 29 (0, 0))) ∧ (w'.heap[gb319]? = some (.cells #[.int .i64 t294, .slice none 0 0] 25 (0, 0))) ∧ (w'.heap[gb320]? = some (.cells #[.int .i64 100, .slice Ao12 t295.length co12] 25 (0, 0))) ∧ (Below w.heap.size w w')) ?_ ?_
       rotate_left
       ·
        intro hJ2_5
        refine join_ (σ := Value × Value) 5 #[true, true, true, true, true, false, true, true, false, false, false, false] (fun s_ => [(70, s_.1), (75, s_.2)]) (fun s_ w' => (w'.cell? ⟨gb302, 0, none⟩ = some (.int .i64 t294) ∧ w'.cell? ⟨gb302, 1, none⟩ = some (.slice Ao12 t295.length co12)) ∧ (Kd.R k29 29 w' w.heap.size (fun k_ => some k_ ≠ (s_.2 : Value).ownBlock ∧ some k_ ≠ (.slice Ao12 t295.length co12 : Value).ownBlock ∧ some k_ ≠ (.slice Ao14 t299.length co14 : Value).ownBlock ∧ k_ ≠ gb307) s_.1 y321) ∧ (Kd.R k29 29 w' w.heap.size (fun k_ => some k_ ≠ (s_.1 : Value).ownBlock ∧ some k_ ≠ (.slice Ao12 t295.length co12 : Value).ownBlock ∧ some k_ ≠ (.slice Ao14 t299.length co14 : Value).ownBlock ∧ k_ ≠ gb307) s_.2 y327) ∧ (Kd.R k29 29 w' w.heap.size (fun k_ => some k_ ≠ (s_.1 : Value).ownBlock ∧ some k_ ≠ (s_.2 : Value).ownBlock ∧ some k_ ≠ (.slice Ao14 t299.length co14 : Value).ownBlock ∧ k_ ≠ gb307) (.slice Ao12 t295.length co12) t295) ∧ (Kd.R k29 29 w' w.heap.size (fun k_ => some k_ ≠ (s_.1 : Value).ownBlock ∧ some k_ ≠ (s_.2 : Value).ownBlock ∧ some k_ ≠ (.slice Ao12 t295.length co12 : Value).ownBlock ∧ k_ ≠ gb307) (.slice Ao14 t299.length co14) t299) ∧ (w'.heap[gb302]? = some (.cells #[.int .i64 t294, .slice Ao12 t295.length co12] 25 (0, 0))) ∧ (w'.heap[gb303]? = some (.cells #[.int .i64 t298, .slice Ao14 t299.length co14] 25 (0, 0))) ∧ (w'.heap[gb307]? = some (.cells #[.string t304, .int .i64 t305, .int .i64 t306] 29 (0, 0))) ∧ (w'.heap[gb319]? = some (.cells #[.int .i64 t294, .slice none 0 0] 25 (0, 0))) ∧ (w'.heap[gb320]? = some (.cells #[.int .i64 100, .slice Ao12 t295.length co12] 25 (0, 0))) ∧ (Below w.heap.size w w')) ?_ ?_
        rotate_left
        ·
         intro hJ2_7
         refine join_ (σ := Value × Nat) 5 #[true, true, true, true, true, false, true, false, false, false, true, false] (fun s_ => [(70, s_.1), (9, .pointer (some ⟨s_.2, 0, none⟩))]) (fun s_ w' => (w'.cell? ⟨gb302, 0, none⟩ = some (.int .i64 t294) ∧ w'.cell? ⟨gb302, 1, none⟩ = some (.slice Ao12 t295.length co12)) ∧ (Kd.R k29 29 w' w.heap.size (fun k_ => some k_ ≠ (.slice Ao12 t295.length co12 : Value).ownBlock ∧ some k_ ≠ (.slice Ao14 t299.length co14 : Value).ownBlock ∧ k_ ≠ gb307) s_.1 y321) ∧ (Kd.R k29 29 w' w.heap.size (fun k_ => some k_ ≠ (s_.1 : Value).ownBlock ∧ some k_ ≠ (.slice Ao14 t299.length co14 : Value).ownBlock ∧ k_ ≠ gb307) (.slice Ao12 t295.length co12) t295) ∧ (Kd.R k29 29 w' w.heap.size (fun k_ => some k_ ≠ (s_.1 : Value).ownBlock ∧ some k_ ≠ (.slice Ao12 t295.length co12 : Value).ownBlock ∧ k_ ≠ gb307) (.slice Ao14 t299.length co14) t299) ∧ (w'.heap[gb302]? = some (.cells #[.int .i64 t294, .slice Ao12 t295.length co12] 25 (0, 0))) ∧ (w'.heap[gb303]? = some (.cells #[.int .i64 t298, .slice Ao14 t299.length co14] 25 (0, 0))) ∧ (w'.heap[gb307]? = some (.cells #[.string t304, .int .i64 t305, .int .i64 t306] 29 (0, 0))) ∧ (w'.heap[gb319]? = some (.cells #[.int .i64 t294, .slice none 0 0] 25 (0, 0))) ∧ (w'.heap[gb320]? = some (.cells #[.int .i64 100, .slice Ao12 t295.length co12] 25 (0, 0))) ∧ (w'.heap[s_.2]? = some (.cells #[.int .i64 0, .slice none 0 0] 25 (0, 0))) ∧ (w.heap.size ≤ s_.2) ∧ (w.heap.size ≤ s_.2) ∧ (gb302 ≠ s_.2) ∧ (s_.2 ≠ gb302) ∧ (gb303 ≠ s_.2) ∧ (s_.2 ≠ gb303) ∧ (gb307 ≠ s_.2) ∧ (s_.2 ≠ gb307) ∧ (gb319 ≠ s_.2) ∧ (s_.2 ≠ gb319) ∧ (gb320 ≠ s_.2) ∧ (s_.2 ≠ gb320) ∧ (Below w.heap.size w w')) ?_ ?_
         rotate_left
         ·
          intro hJ2_10
          refine join_ (σ := Value × Nat) 5 #[true, true, false, true, true, false, true, true, false, false, true, false] (fun s_ => [(75, s_.1), (9, .pointer (some ⟨s_.2, 0, none⟩))]) (fun s_ w' => (w'.cell? ⟨gb302, 0, none⟩ = some (.int .i64 t294) ∧ w'.cell? ⟨gb302, 1, none⟩ = some (.slice Ao12 t295.length co12)) ∧ (Kd.R k29 29 w' w.heap.size (fun k_ => some k_ ≠ (.slice Ao12 t295.length co12 : Value).ownBlock ∧ some k_ ≠ (.slice Ao14 t299.length co14 : Value).ownBlock ∧ k_ ≠ gb307) s_.1 y327) ∧ (Kd.R k29 29 w' w.heap.size (fun k_ => some k_ ≠ (s_.1 : Value).ownBlock ∧ some k_ ≠ (.slice Ao14 t299.length co14 : Value).ownBlock ∧ k_ ≠ gb307) (.slice Ao12 t295.length co12) t295) ∧ (Kd.R k29 29 w' w.heap.size (fun k_ => some k_ ≠ (s_.1 : Value).ownBlock ∧ some k_ ≠ (.slice Ao12 t295.length co12 : Value).ownBlock ∧ k_ ≠ gb307) (.slice Ao14 t299.length co14) t299) ∧ (w'.heap[gb302]? = some (.cells #[.int .i64 t294, .slice Ao12 t295.length co12] 25 (0, 0))) ∧ (w'.heap[gb303]? = some (.cells #[.int .i64 t298, .slice Ao14 t299.length co14] 25 (0, 0))) ∧ (w'.heap[gb307]? = some (.cells #[.string t304, .int .i64 t305, .int .i64 t306] 29 (0, 0))) ∧ (w'.heap[gb319]? = some (.cells #[.int .i64 t294, .slice none 0 0] 25 (0, 0))) ∧ (w'.heap[gb320]? = some (.cells #[.int .i64 100, .slice Ao12 t295.length co12] 25 (0, 0))) ∧ (w'.heap[s_.2]? = some (.cells #[.int .i64 0, .slice none 0 0] 25 (0, 0))) ∧ (w.heap.size ≤ s_.2) ∧ (w.heap.size ≤ s_.2) ∧ (gb302 ≠ s_.2) ∧ (s_.2 ≠ gb302) ∧ (gb303 ≠ s_.2) ∧ (s_.2 ≠ gb303) ∧ (gb307 ≠ s_.2) ∧ (s_.2 ≠ gb307) ∧ (gb319 ≠ s_.2) ∧ (s_.2 ≠ gb319) ∧ (gb320 ≠ s_.2) ∧ (s_.2 ≠ gb320) ∧ (Below w.heap.size w w')) ?_ ?_
          rotate_left
          ·
           intro hJ7_10
           refine join_ (σ := Value) 6 #[true, true, true, true, true, false, true, false, false, false, false, false] (fun s_ => [(70, s_)]) (fun s_ w' => (w'.cell? ⟨gb302, 0, none⟩ = some (.int .i64 t294) ∧ w'.cell? ⟨gb302, 1, none⟩ = some (.slice Ao12 t295.length co12)) ∧ (Kd.R k29 29 w' w.heap.size (fun k_ => some k_ ≠ (.slice Ao12 t295.length co12 : Value).ownBlock ∧ some k_ ≠ (.slice Ao14 t299.length co14 : Value).ownBlock ∧ k_ ≠ gb307) s_ y321) ∧ (Kd.R k29 29 w' w.heap.size (fun k_ => some k_ ≠ (s_ : Value).ownBlock ∧ some k_ ≠ (.slice Ao14 t299.length co14 : Value).ownBlock ∧ k_ ≠ gb307) (.slice Ao12 t295.length co12) t295) ∧ (Kd.R k29 29 w' w.heap.size (fun k_ => some k_ ≠ (s_ : Value).ownBlock ∧ some k_ ≠ (.slice Ao12 t295.length co12 : Value).ownBlock ∧ k_ ≠ gb307) (.slice Ao14 t299.length co14) t299) ∧ (w'.heap[gb302]? = some (.cells #[.int .i64 t294, .slice Ao12 t295.length co12] 25 (0, 0))) ∧ (w'.heap[gb303]? = some (.cells #[.int .i64 t298, .slice Ao14 t299.length co14] 25 (0, 0))) ∧ (w'.heap[gb307]? = some (.cells #[.string t304, .int .i64 t305, .int .i64 t306] 29 (0, 0))) ∧ (w'.heap[gb319]? = some (.cells #[.int .i64 t294, .slice none 0 0] 25 (0, 0))) ∧ (w'.heap[gb320]? = some (.cells #[.int .i64 100, .slice Ao12 t295.length co12] 25 (0, 0))) ∧ (Below w.heap.size w w')) ?_ ?_
           rotate_left
           ·
            intro hJ2
            refine join_ (σ := Value) 6 #[true, true, false, true, true, false, true, true, false, false, false, false] (fun s_ => [(75, s_)]) (fun s_ w' => (w'.cell? ⟨gb302, 0, none⟩ = some (.int .i64 t294) ∧ w'.cell? ⟨gb302, 1, none⟩ = some (.slice Ao12 t295.length co12)) ∧ (Kd.R k29 29 w' w.heap.size (fun k_ => some k_ ≠ (.slice Ao12 t295.length co12 : Value).ownBlock ∧ some k_ ≠ (.slice Ao14 t299.length co14 : Value).ownBlock ∧ k_ ≠ gb307) s_ y327) ∧ (Kd.R k29 29 w' w.heap.size (fun k_ => some k_ ≠ (s_ : Value).ownBlock ∧ some k_ ≠ (.slice Ao14 t299.length co14 : Value).ownBlock ∧ k_ ≠ gb307) (.slice Ao12 t295.length co12) t295) ∧ (Kd.R k29 29 w' w.heap.size (fun k_ => some k_ ≠ (s_ : Value).ownBlock ∧ some k_ ≠ (.slice Ao12 t295.length co12 : Value).ownBlock ∧ k_ ≠ gb307) (.slice Ao14 t299.length co14) t299) ∧ (w'.heap[gb302]? = some (.cells #[.int .i64 t294, .slice Ao12 t295.length co12] 25 (0, 0))) ∧ (w'.heap[gb303]? = some (.cells #[.int .i64 t298, .slice Ao14 t299.length co14] 25 (0, 0))) ∧ (w'.heap[gb307]? = some (.cells #[.string t304, .int .i64 t305, .int .i64 t306] 29 (0, 0))) ∧ (w'.heap[gb319]? = some (.cells #[.int .i64 t294, .slice none 0 0] 25 (0, 0))) ∧ (w'.heap[gb320]? = some (.cells #[.int .i64 100, .slice Ao12 t295.length co12] 25 (0, 0))) ∧ (Below w.heap.size w w')) ?_ ?_
            rotate_left
            ·
             intro hJ7
             refine join_ (σ := Nat) 6 #[true, true, false, true, true, false, true, false, false, false, true, false] (fun s_ => [(9, .pointer (some ⟨s_, 0, none⟩))]) (fun s_ w' => (w'.cell? ⟨gb302, 0, none⟩ = some (.int .i64 t294) ∧ w'.cell? ⟨gb302, 1, none⟩ = some (.slice Ao12 t295.length co12)) ∧ (Kd.R k29 29 w' w.heap.size (fun k_ => some k_ ≠ (.slice Ao14 t299.length co14 : Value).ownBlock ∧ k_ ≠ gb307) (.slice Ao12 t295.length co12) t295) ∧ (Kd.R k29 29 w' w.heap.size (fun k_ => some k_ ≠ (.slice Ao12 t295.length co12 : Value).ownBlock ∧ k_ ≠ gb307) (.slice Ao14 t299.length co14) t299) ∧ (w'.heap[gb302]? = some (.cells #[.int .i64 t294, .slice Ao12 t295.length co12] 25 (0, 0))) ∧ (w'.heap[gb303]? = some (.cells #[.int .i64 t298, .slice Ao14 t299.length co14] 25 (0, 0))) ∧ (w'.heap[gb307]? = some (.cells #[.string t304, .int .i64 t305, .int .i64 t306] 29 (0, 0))) ∧ (w'.heap[gb319]? = some (.cells #[.int .i64 t294, .slice none 0 0] 25 (0, 0))) ∧ (w'.heap[gb320]? = some (.cells #[.int .i64 100, .slice Ao12 t295.length co12] 25 (0, 0))) ∧ (w'.heap[s_]? = some (.cells #[.int .i64 0, .slice none 0 0] 25 (0, 0))) ∧ (w.heap.size ≤ s_) ∧ (w.heap.size ≤ s_) ∧ (gb302 ≠ s_) ∧ (s_ ≠ gb302) ∧ (gb303 ≠ s_) ∧ (s_ ≠ gb303) ∧ (gb307 ≠ s_) ∧ (s_ ≠ gb307) ∧ (gb319 ≠ s_) ∧ (s_ ≠ gb319) ∧ (gb320 ≠ s_) ∧ (s_ ≠ gb320) ∧ (Below w.heap.size w w')) ?_ ?_
             rotate_left
             ·
              intro hJ10
              refine three_ (i := 2) (j := 7) (k := 10) (Ni := some 70) (Nj := some 75) (Nk := some 9) #[true, true, true, true, true, false, true, false, false, false, false, false] #[true, true, false, true, true, false, true, true, false, false, false, false] #[true, true, false, true, true, false, true, false, false, false, true, false] rfl rfl rfl rfl rfl rfl (three_of HT_.out (by kernel_rfl)) (by decide) (by decide) (by decide) (fun K hK => ?_) (fun K hK => ?_) (fun K hK => ?_)
              ·
               skip
               refine Kd.R_lit_step k29 _ 29 ?hg (N := 70) ?hd (xs := ([] : List (S29))) (inner := []) (ok := fun _ => True) (okp := fun _ => True) ?hr ?hp (fun _ hk => hk) trivial (Below.refl _ _) (Nat.le_refl _) (by simp) ?_; (case hd => rfl); (case hg => rfl); (case hr => first | (go_simp; done) | (go_simp; rfl)); (case hp => exact (Reps.none _ _))
               intro v322 w79 ho80 hb hg_ hnew_
               clear hg_ hnew_
               (first | rw [← Ny321.out] at ho80 | (simp only [Int.reduceToNat] at ho80; rw [← Ny321.out] at ho80))
               have HO323 := Aside0.mk (Kd.R_lower (Kd.R_newB (Kd.R_new' (Kd.R_new' ho80 (Kd.R_lt (lo_ HO_303001))) (Kd.R_lt (lo_ HO_304001))) (g := gb307) (o := .cells #[.string t304, .int .i64 t305, .int .i64 t306] 29 (0, 0)) (laws_FnPostBent_vb BK307)) (below_size (laws_FnPostBent_auHB)))
               replace HO_303001 := Aside0.mk (Kd.R_elder' (lo_ HO_303001) (Kd.R_base ho80) hb)
               replace HO_304001 := Aside0.mk (Kd.R_elder' (lo_ HO_304001) (Kd.R_base ho80) hb)
               replace BK302 := Aside0.mk (blk_below (g := gb302) (o := .cells #[.int .i64 t294, .slice Ao12 t295.length co12] 25 (0, 0)) (laws_FnPostBent_vb BK302) hb)
               replace BK303 := Aside0.mk (blk_below (g := gb303) (o := .cells #[.int .i64 t298, .slice Ao14 t299.length co14] 25 (0, 0)) (laws_FnPostBent_vb BK303) hb)
               replace BK307 := Aside0.mk (blk_below (g := gb307) (o := .cells #[.string t304, .int .i64 t305, .int .i64 t306] 29 (0, 0)) (laws_FnPostBent_vb BK307) hb)
               replace BK319 := Aside0.mk (blk_below (g := gb319) (o := .cells #[.int .i64 t294, .slice none 0 0] 25 (0, 0)) (laws_FnPostBent_vb BK319) hb)
               replace BK320 := Aside0.mk (blk_below (g := gb320) (o := .cells #[.int .i64 100, .slice Ao12 t295.length co12] 25 (0, 0)) (laws_FnPostBent_vb BK320) hb)
               replace HB := Aside0.mk (below_step (laws_FnPostBent_auHB) hb)
               clear hb ho80
               refine hK.out _ _ ⟨(blk_cell BK302.out 0).trans rfl, (blk_cell BK302.out 1).trans rfl⟩ (fun hHeld => ?_)
               clear hK K
               refine norm_ (a' := ?_) ?_ ?_
               rotate_left
               ·
                show Act.put _ (some 70) _ = _
                simp only [Act.put, List.setIfInBounds_toArray, List.set_cons_zero, List.set_cons_succ, i64_w, i32_w]
                rfl
               exact norm_ (by first | (simp only [putAll, Act.put, List.setIfInBounds_toArray, List.set_cons_zero, List.set_cons_succ]; done) | (simp only [putAll, Act.put, List.setIfInBounds_toArray, List.set_cons_zero, List.set_cons_succ]; rfl)) (hJ2 (v322) _ ⟨hHeld, (by (with_reducible repeat (first | apply Kd.R_alloc | apply Kd.R_drewN | apply Kd.R_drew)); exact Kd.R_mono HO323.out (fun _ hk => ⟨hk.1.1.2, ⟨hk.1.2, hk.2⟩⟩)), (by (with_reducible repeat (first | apply Kd.R_alloc | apply Kd.R_drewN | apply Kd.R_drew)); exact Kd.R_mono HO_303001.out (fun _ hk => ⟨hk.2, ⟨hk.1.1, hk.1.2⟩⟩)), (by (with_reducible repeat (first | apply Kd.R_alloc | apply Kd.R_drewN | apply Kd.R_drew)); exact Kd.R_mono HO_304001.out (fun _ hk => ⟨hk.2, ⟨hk.1.1, hk.1.2⟩⟩)), (laws_FnPostBent_vb BK302), (laws_FnPostBent_vb BK303), (laws_FnPostBent_vb BK307), (laws_FnPostBent_vb BK319), (laws_FnPostBent_vb BK320), (laws_FnPostBent_auHB)⟩)
              ·
               skip
               refine Kd.R_lit_step k29 _ 29 ?hg (N := 75) ?hd (xs := ([(⟨(⟨#[97]⟩ : ByteArray), 1, 0⟩ : S29)] : List (S29))) (inner := [.string (⟨#[97]⟩ : ByteArray), .int .i64 1, .int .i64 0]) (ok := fun _ => True) (okp := fun _ => True) ?hr ?hp (fun _ hk => hk) trivial (Below.refl _ _) (Nat.le_refl _) (by simp) ?_; (case hd => rfl); (case hg => rfl); (case hr => first | (go_simp; done) | (go_simp; rfl)); (case hp => exact (Reps.c3 (show Kd.M k29 _ _ _ (⟨(⟨#[97]⟩ : ByteArray), 1, 0⟩ : S29) [.string (⟨#[97]⟩ : ByteArray), .int .i64 1, .int .i64 0] from (k29_mkM _ _ _ (⟨(⟨#[97]⟩ : ByteArray), 1, 0⟩ : S29) )) (Reps.none _ _)))
               intro v328 w79 ho80 hb hg_ hnew_
               clear hg_ hnew_
               (first | rw [← Ny327.out] at ho80 | (simp only [Int.reduceToNat] at ho80; rw [← Ny327.out] at ho80))
               have HO329 := Aside0.mk (Kd.R_lower (Kd.R_newB (Kd.R_new' (Kd.R_new' ho80 (Kd.R_lt (lo_ HO_303001))) (Kd.R_lt (lo_ HO_304001))) (g := gb307) (o := .cells #[.string t304, .int .i64 t305, .int .i64 t306] 29 (0, 0)) (laws_FnPostBent_vb BK307)) (below_size (laws_FnPostBent_auHB)))
               replace HO_303001 := Aside0.mk (Kd.R_elder' (lo_ HO_303001) (Kd.R_base ho80) hb)
               replace HO_304001 := Aside0.mk (Kd.R_elder' (lo_ HO_304001) (Kd.R_base ho80) hb)
               replace BK302 := Aside0.mk (blk_below (g := gb302) (o := .cells #[.int .i64 t294, .slice Ao12 t295.length co12] 25 (0, 0)) (laws_FnPostBent_vb BK302) hb)
               replace BK303 := Aside0.mk (blk_below (g := gb303) (o := .cells #[.int .i64 t298, .slice Ao14 t299.length co14] 25 (0, 0)) (laws_FnPostBent_vb BK303) hb)
               replace BK307 := Aside0.mk (blk_below (g := gb307) (o := .cells #[.string t304, .int .i64 t305, .int .i64 t306] 29 (0, 0)) (laws_FnPostBent_vb BK307) hb)
               replace BK319 := Aside0.mk (blk_below (g := gb319) (o := .cells #[.int .i64 t294, .slice none 0 0] 25 (0, 0)) (laws_FnPostBent_vb BK319) hb)
               replace BK320 := Aside0.mk (blk_below (g := gb320) (o := .cells #[.int .i64 100, .slice Ao12 t295.length co12] 25 (0, 0)) (laws_FnPostBent_vb BK320) hb)
               replace HB := Aside0.mk (below_step (laws_FnPostBent_auHB) hb)
               clear hb ho80
               refine hK.out _ _ ⟨(blk_cell BK302.out 0).trans rfl, (blk_cell BK302.out 1).trans rfl⟩ (fun hHeld => ?_)
               clear hK K
               refine norm_ (a' := ?_) ?_ ?_
               rotate_left
               ·
                show Act.put _ (some 75) _ = _
                simp only [Act.put, List.setIfInBounds_toArray, List.set_cons_zero, List.set_cons_succ, i64_w, i32_w]
                rfl
               exact norm_ (by first | (simp only [putAll, Act.put, List.setIfInBounds_toArray, List.set_cons_zero, List.set_cons_succ]; done) | (simp only [putAll, Act.put, List.setIfInBounds_toArray, List.set_cons_zero, List.set_cons_succ]; rfl)) (hJ7 (v328) _ ⟨hHeld, (by (with_reducible repeat (first | apply Kd.R_alloc | apply Kd.R_drewN | apply Kd.R_drew)); exact Kd.R_mono HO329.out (fun _ hk => ⟨hk.1.1.2, ⟨hk.1.2, hk.2⟩⟩)), (by (with_reducible repeat (first | apply Kd.R_alloc | apply Kd.R_drewN | apply Kd.R_drew)); exact Kd.R_mono HO_303001.out (fun _ hk => ⟨hk.2, ⟨hk.1.1, hk.1.2⟩⟩)), (by (with_reducible repeat (first | apply Kd.R_alloc | apply Kd.R_drewN | apply Kd.R_drew)); exact Kd.R_mono HO_304001.out (fun _ hk => ⟨hk.2, ⟨hk.1.1, hk.1.2⟩⟩)), (laws_FnPostBent_vb BK302), (laws_FnPostBent_vb BK303), (laws_FnPostBent_vb BK307), (laws_FnPostBent_vb BK319), (laws_FnPostBent_vb BK320), (laws_FnPostBent_auHB)⟩)
              skip
              refine box_step ?hg (N := 9) ?hd (cs := #[.int .i64 0, .slice none 0 0]) (t := 25) ?hr ?_; (case hd => rfl); (case hg => rfl); (case hr => first | (go_simp; done) | (go_simp; rfl))
              intro gb333 hg w79 hbox hb
              replace HO_303001 := Aside0.mk (Kd.R_below (lo_ HO_303001) hb)
              replace HO_304001 := Aside0.mk (Kd.R_below (lo_ HO_304001) hb)
              have BK333 := Aside0.mk (hbox)
              have GW333 := Aside0.mk ((by rw [hg]; exact (below_size (laws_FnPostBent_auHB)) : w.heap.size ≤ gb333))
              have GE333 := Aside0.mk ((by rw [hg]; exact (below_size (laws_FnPostBent_auHB)) : w.heap.size ≤ gb333))
              replace HB := Aside0.mk (below_step (laws_FnPostBent_auHB) hb)
              have NB302_333 := Aside0.mk ((by rw [hg]; exact Nat.ne_of_lt (blk_lt (g := gb302) (o := .cells #[.int .i64 t294, .slice Ao12 t295.length co12] 25 (0, 0)) (laws_FnPostBent_vb BK302)) : gb302 ≠ gb333))
              have NB333_302 := Aside0.mk ((by rw [hg]; exact Nat.ne_of_gt (blk_lt (g := gb302) (o := .cells #[.int .i64 t294, .slice Ao12 t295.length co12] 25 (0, 0)) (laws_FnPostBent_vb BK302)) : gb333 ≠ gb302))
              replace BK302 := Aside0.mk (blk_below (g := gb302) (o := .cells #[.int .i64 t294, .slice Ao12 t295.length co12] 25 (0, 0)) (laws_FnPostBent_vb BK302) hb)
              have NB303_333 := Aside0.mk ((by rw [hg]; exact Nat.ne_of_lt (blk_lt (g := gb303) (o := .cells #[.int .i64 t298, .slice Ao14 t299.length co14] 25 (0, 0)) (laws_FnPostBent_vb BK303)) : gb303 ≠ gb333))
              have NB333_303 := Aside0.mk ((by rw [hg]; exact Nat.ne_of_gt (blk_lt (g := gb303) (o := .cells #[.int .i64 t298, .slice Ao14 t299.length co14] 25 (0, 0)) (laws_FnPostBent_vb BK303)) : gb333 ≠ gb303))
              replace BK303 := Aside0.mk (blk_below (g := gb303) (o := .cells #[.int .i64 t298, .slice Ao14 t299.length co14] 25 (0, 0)) (laws_FnPostBent_vb BK303) hb)
              have NB307_333 := Aside0.mk ((by rw [hg]; exact Nat.ne_of_lt (blk_lt (g := gb307) (o := .cells #[.string t304, .int .i64 t305, .int .i64 t306] 29 (0, 0)) (laws_FnPostBent_vb BK307)) : gb307 ≠ gb333))
              have NB333_307 := Aside0.mk ((by rw [hg]; exact Nat.ne_of_gt (blk_lt (g := gb307) (o := .cells #[.string t304, .int .i64 t305, .int .i64 t306] 29 (0, 0)) (laws_FnPostBent_vb BK307)) : gb333 ≠ gb307))
              replace BK307 := Aside0.mk (blk_below (g := gb307) (o := .cells #[.string t304, .int .i64 t305, .int .i64 t306] 29 (0, 0)) (laws_FnPostBent_vb BK307) hb)
              have NB319_333 := Aside0.mk ((by rw [hg]; exact Nat.ne_of_lt (blk_lt (g := gb319) (o := .cells #[.int .i64 t294, .slice none 0 0] 25 (0, 0)) (laws_FnPostBent_vb BK319)) : gb319 ≠ gb333))
              have NB333_319 := Aside0.mk ((by rw [hg]; exact Nat.ne_of_gt (blk_lt (g := gb319) (o := .cells #[.int .i64 t294, .slice none 0 0] 25 (0, 0)) (laws_FnPostBent_vb BK319)) : gb333 ≠ gb319))
              replace BK319 := Aside0.mk (blk_below (g := gb319) (o := .cells #[.int .i64 t294, .slice none 0 0] 25 (0, 0)) (laws_FnPostBent_vb BK319) hb)
              have NB320_333 := Aside0.mk ((by rw [hg]; exact Nat.ne_of_lt (blk_lt (g := gb320) (o := .cells #[.int .i64 100, .slice Ao12 t295.length co12] 25 (0, 0)) (laws_FnPostBent_vb BK320)) : gb320 ≠ gb333))
              have NB333_320 := Aside0.mk ((by rw [hg]; exact Nat.ne_of_gt (blk_lt (g := gb320) (o := .cells #[.int .i64 100, .slice Ao12 t295.length co12] 25 (0, 0)) (laws_FnPostBent_vb BK320)) : gb333 ≠ gb320))
              replace BK320 := Aside0.mk (blk_below (g := gb320) (o := .cells #[.int .i64 100, .slice Ao12 t295.length co12] 25 (0, 0)) (laws_FnPostBent_vb BK320) hb)
              clear hb hbox hg
              refine hK.out _ _ ⟨(blk_cell BK302.out 0).trans rfl, (blk_cell BK302.out 1).trans rfl⟩ (fun hHeld => ?_)
              clear hK K
              refine norm_ (a' := ?_) ?_ ?_
              rotate_left
              ·
               show Act.put _ (some 9) _ = _
               simp only [Act.put, List.setIfInBounds_toArray, List.set_cons_zero, List.set_cons_succ, i64_w, i32_w]
               rfl
              exact norm_ (by first | (simp only [putAll, Act.put, List.setIfInBounds_toArray, List.set_cons_zero, List.set_cons_succ]; done) | (simp only [putAll, Act.put, List.setIfInBounds_toArray, List.set_cons_zero, List.set_cons_succ]; rfl)) (hJ10 (gb333) _ ⟨hHeld, (lo_ HO_303001), (lo_ HO_304001), (laws_FnPostBent_vb BK302), (laws_FnPostBent_vb BK303), (laws_FnPostBent_vb BK307), (laws_FnPostBent_vb BK319), (laws_FnPostBent_vb BK320), (laws_FnPostBent_vb BK333), GW333.out, GE333.out, NB302_333.out, NB333_302.out, NB303_333.out, NB333_303.out, NB307_333.out, NB333_307.out, NB319_333.out, NB333_319.out, NB320_333.out, NB333_320.out, (laws_FnPostBent_auHB)⟩)
             skip
             rintro gb333 w80 ⟨hS_, h0_, h1_, h2_, h3_, h4_, h5_, h6_, h7_, h8_, h9_, h10_, h11_, h12_, h13_, h14_, h15_, h16_, h17_, h18_, h19_, h20_⟩
             have n0_ : Aside0 (Kd.R k29 29 w80 w.heap.size (fun k_ => some k_ ≠ (.slice Ao14 t299.length co14 : Value).ownBlock ∧ k_ ≠ gb307) (.slice Ao12 t295.length co12) t295) := ⟨h0_⟩
             have n1_ : Aside0 (Kd.R k29 29 w80 w.heap.size (fun k_ => some k_ ≠ (.slice Ao12 t295.length co12 : Value).ownBlock ∧ k_ ≠ gb307) (.slice Ao14 t299.length co14) t299) := ⟨h1_⟩
             have n2_ : Aside0 (w80.heap[gb302]? = some (.cells #[.int .i64 t294, .slice Ao12 t295.length co12] 25 (0, 0))) := ⟨h2_⟩
             have n3_ : Aside0 (w80.heap[gb303]? = some (.cells #[.int .i64 t298, .slice Ao14 t299.length co14] 25 (0, 0))) := ⟨h3_⟩
             have n4_ : Aside0 (w80.heap[gb307]? = some (.cells #[.string t304, .int .i64 t305, .int .i64 t306] 29 (0, 0))) := ⟨h4_⟩
             have n5_ : Aside0 (w80.heap[gb319]? = some (.cells #[.int .i64 t294, .slice none 0 0] 25 (0, 0))) := ⟨h5_⟩
             have n6_ : Aside0 (w80.heap[gb320]? = some (.cells #[.int .i64 100, .slice Ao12 t295.length co12] 25 (0, 0))) := ⟨h6_⟩
             have n7_ : Aside0 (w80.heap[gb333]? = some (.cells #[.int .i64 0, .slice none 0 0] 25 (0, 0))) := ⟨h7_⟩
             have n8_ : Aside0 (w.heap.size ≤ gb333) := ⟨h8_⟩
             have n9_ : Aside0 (w.heap.size ≤ gb333) := ⟨h9_⟩
             have n10_ : Aside0 (gb302 ≠ gb333) := ⟨h10_⟩
             have n11_ : Aside0 (gb333 ≠ gb302) := ⟨h11_⟩
             have n12_ : Aside0 (gb303 ≠ gb333) := ⟨h12_⟩
             have n13_ : Aside0 (gb333 ≠ gb303) := ⟨h13_⟩
             have n14_ : Aside0 (gb307 ≠ gb333) := ⟨h14_⟩
             have n15_ : Aside0 (gb333 ≠ gb307) := ⟨h15_⟩
             have n16_ : Aside0 (gb319 ≠ gb333) := ⟨h16_⟩
             have n17_ : Aside0 (gb333 ≠ gb319) := ⟨h17_⟩
             have n18_ : Aside0 (gb320 ≠ gb333) := ⟨h18_⟩
             have n19_ : Aside0 (gb333 ≠ gb320) := ⟨h19_⟩
             have n20_ : Aside0 (Below w.heap.size w w80) := ⟨h20_⟩
             clear HO_303001
             clear HO_304001
             clear BK302
             clear BK303
             clear BK307
             clear BK319
             clear BK320
             clear HB
             clear h0_ h1_ h2_ h3_ h4_ h5_ h6_ h7_ h8_ h9_ h10_ h11_ h12_ h13_ h14_ h15_ h16_ h17_ h18_ h19_ h20_
             have HO_303001 := n0_
             have HO_304001 := n1_
             have BK302 := n2_
             have BK303 := n3_
             have BK307 := n4_
             have BK319 := n5_
             have BK320 := n6_
             have BK333 := n7_
             have GW333 := n8_
             have GE333 := n9_
             have NB302_333 := n10_
             have NB333_302 := n11_
             have NB303_333 := n12_
             have NB333_303 := n13_
             have NB307_333 := n14_
             have NB333_307 := n15_
             have NB319_333 := n16_
             have NB333_319 := n17_
             have NB320_333 := n18_
             have NB333_320 := n19_
             have HB := n20_
             clear n0_ n1_ n2_ n3_ n4_ n5_ n6_ n7_ n8_ n9_ n10_ n11_ n12_ n13_ n14_ n15_ n16_ n17_ n18_ n19_ n20_
             have hHeld : w80.cell? ⟨gb302, 0, none⟩ = some (.int .i64 t294) ∧ w80.cell? ⟨gb302, 1, none⟩ = some (.slice Ao12 t295.length co12) := hS_
             refine norm_ (a' := ?_) ?_ ?_
             rotate_left
             ·
              simp only [putAll, Act.put, List.setIfInBounds_toArray, List.set_cons_zero, List.set_cons_succ]
              rfl
             refine two_ (i := 2) (j := 7) (Ni := some 70) (Nj := some 75) #[true, true, true, true, true, false, true, false, false, false, true, false] #[true, true, false, true, true, false, true, true, false, false, true, false] rfl rfl rfl rfl (two_of HT_.out (by kernel_rfl)) (by decide) (by decide) (fun K hK => ?_) (fun K hK => ?_)
             ·
              skip
              refine Kd.R_lit_step k29 _ 29 ?hg (N := 70) ?hd (xs := ([] : List (S29))) (inner := []) (ok := fun _ => True) (okp := fun _ => True) ?hr ?hp (fun _ hk => hk) trivial (Below.refl _ _) (Nat.le_refl _) (by simp) ?_; (case hd => rfl); (case hg => rfl); (case hr => first | (go_simp; done) | (go_simp; rfl)); (case hp => exact (Reps.none _ _))
              intro v322 w81 ho82 hb hg_ hnew_
              clear hg_ hnew_
              (first | rw [← Ny321.out] at ho82 | (simp only [Int.reduceToNat] at ho82; rw [← Ny321.out] at ho82))
              have HO323 := Aside0.mk (Kd.R_lower (Kd.R_newB (Kd.R_new' (Kd.R_new' ho82 (Kd.R_lt (lo_ HO_303001))) (Kd.R_lt (lo_ HO_304001))) (g := gb307) (o := .cells #[.string t304, .int .i64 t305, .int .i64 t306] 29 (0, 0)) (laws_FnPostBent_vb BK307)) (below_size (laws_FnPostBent_auHB)))
              replace HO_303001 := Aside0.mk (Kd.R_elder' (lo_ HO_303001) (Kd.R_base ho82) hb)
              replace HO_304001 := Aside0.mk (Kd.R_elder' (lo_ HO_304001) (Kd.R_base ho82) hb)
              replace BK302 := Aside0.mk (blk_below (g := gb302) (o := .cells #[.int .i64 t294, .slice Ao12 t295.length co12] 25 (0, 0)) (laws_FnPostBent_vb BK302) hb)
              replace BK303 := Aside0.mk (blk_below (g := gb303) (o := .cells #[.int .i64 t298, .slice Ao14 t299.length co14] 25 (0, 0)) (laws_FnPostBent_vb BK303) hb)
              replace BK307 := Aside0.mk (blk_below (g := gb307) (o := .cells #[.string t304, .int .i64 t305, .int .i64 t306] 29 (0, 0)) (laws_FnPostBent_vb BK307) hb)
              replace BK319 := Aside0.mk (blk_below (g := gb319) (o := .cells #[.int .i64 t294, .slice none 0 0] 25 (0, 0)) (laws_FnPostBent_vb BK319) hb)
              replace BK320 := Aside0.mk (blk_below (g := gb320) (o := .cells #[.int .i64 100, .slice Ao12 t295.length co12] 25 (0, 0)) (laws_FnPostBent_vb BK320) hb)
              replace BK333 := Aside0.mk (blk_below (g := gb333) (o := .cells #[.int .i64 0, .slice none 0 0] 25 (0, 0)) (laws_FnPostBent_vb BK333) hb)
              replace HB := Aside0.mk (below_step (laws_FnPostBent_auHB) hb)
              clear hb ho82
              refine hK.out _ _ ⟨(blk_cell BK302.out 0).trans rfl, (blk_cell BK302.out 1).trans rfl⟩ (fun hHeld => ?_)
              clear hK K
              refine norm_ (a' := ?_) ?_ ?_
              rotate_left
              ·
               show Act.put _ (some 70) _ = _
               simp only [Act.put, List.setIfInBounds_toArray, List.set_cons_zero, List.set_cons_succ, i64_w, i32_w]
               rfl
              exact norm_ (by first | (simp only [putAll, Act.put, List.setIfInBounds_toArray, List.set_cons_zero, List.set_cons_succ]; done) | (simp only [putAll, Act.put, List.setIfInBounds_toArray, List.set_cons_zero, List.set_cons_succ]; rfl)) (hJ2_10 (v322, gb333) _ ⟨hHeld, (by (with_reducible repeat (first | apply Kd.R_alloc | apply Kd.R_drewN | apply Kd.R_drew)); exact Kd.R_mono HO323.out (fun _ hk => ⟨hk.1.1.2, ⟨hk.1.2, hk.2⟩⟩)), (by (with_reducible repeat (first | apply Kd.R_alloc | apply Kd.R_drewN | apply Kd.R_drew)); exact Kd.R_mono HO_303001.out (fun _ hk => ⟨hk.2, ⟨hk.1.1, hk.1.2⟩⟩)), (by (with_reducible repeat (first | apply Kd.R_alloc | apply Kd.R_drewN | apply Kd.R_drew)); exact Kd.R_mono HO_304001.out (fun _ hk => ⟨hk.2, ⟨hk.1.1, hk.1.2⟩⟩)), (laws_FnPostBent_vb BK302), (laws_FnPostBent_vb BK303), (laws_FnPostBent_vb BK307), (laws_FnPostBent_vb BK319), (laws_FnPostBent_vb BK320), (laws_FnPostBent_vb BK333), GW333.out, GE333.out, NB302_333.out, NB333_302.out, NB303_333.out, NB333_303.out, NB307_333.out, NB333_307.out, NB319_333.out, NB333_319.out, NB320_333.out, NB333_320.out, (laws_FnPostBent_auHB)⟩)
             skip
             refine Kd.R_lit_step k29 _ 29 ?hg (N := 75) ?hd (xs := ([(⟨(⟨#[97]⟩ : ByteArray), 1, 0⟩ : S29)] : List (S29))) (inner := [.string (⟨#[97]⟩ : ByteArray), .int .i64 1, .int .i64 0]) (ok := fun _ => True) (okp := fun _ => True) ?hr ?hp (fun _ hk => hk) trivial (Below.refl _ _) (Nat.le_refl _) (by simp) ?_; (case hd => rfl); (case hg => rfl); (case hr => first | (go_simp; done) | (go_simp; rfl)); (case hp => exact (Reps.c3 (show Kd.M k29 _ _ _ (⟨(⟨#[97]⟩ : ByteArray), 1, 0⟩ : S29) [.string (⟨#[97]⟩ : ByteArray), .int .i64 1, .int .i64 0] from (k29_mkM _ _ _ (⟨(⟨#[97]⟩ : ByteArray), 1, 0⟩ : S29) )) (Reps.none _ _)))
             intro v328 w81 ho82 hb hg_ hnew_
             clear hg_ hnew_
             (first | rw [← Ny327.out] at ho82 | (simp only [Int.reduceToNat] at ho82; rw [← Ny327.out] at ho82))
             have HO329 := Aside0.mk (Kd.R_lower (Kd.R_newB (Kd.R_new' (Kd.R_new' ho82 (Kd.R_lt (lo_ HO_303001))) (Kd.R_lt (lo_ HO_304001))) (g := gb307) (o := .cells #[.string t304, .int .i64 t305, .int .i64 t306] 29 (0, 0)) (laws_FnPostBent_vb BK307)) (below_size (laws_FnPostBent_auHB)))
             replace HO_303001 := Aside0.mk (Kd.R_elder' (lo_ HO_303001) (Kd.R_base ho82) hb)
             replace HO_304001 := Aside0.mk (Kd.R_elder' (lo_ HO_304001) (Kd.R_base ho82) hb)
             replace BK302 := Aside0.mk (blk_below (g := gb302) (o := .cells #[.int .i64 t294, .slice Ao12 t295.length co12] 25 (0, 0)) (laws_FnPostBent_vb BK302) hb)
             replace BK303 := Aside0.mk (blk_below (g := gb303) (o := .cells #[.int .i64 t298, .slice Ao14 t299.length co14] 25 (0, 0)) (laws_FnPostBent_vb BK303) hb)
             replace BK307 := Aside0.mk (blk_below (g := gb307) (o := .cells #[.string t304, .int .i64 t305, .int .i64 t306] 29 (0, 0)) (laws_FnPostBent_vb BK307) hb)
             replace BK319 := Aside0.mk (blk_below (g := gb319) (o := .cells #[.int .i64 t294, .slice none 0 0] 25 (0, 0)) (laws_FnPostBent_vb BK319) hb)
             replace BK320 := Aside0.mk (blk_below (g := gb320) (o := .cells #[.int .i64 100, .slice Ao12 t295.length co12] 25 (0, 0)) (laws_FnPostBent_vb BK320) hb)
             replace BK333 := Aside0.mk (blk_below (g := gb333) (o := .cells #[.int .i64 0, .slice none 0 0] 25 (0, 0)) (laws_FnPostBent_vb BK333) hb)
             replace HB := Aside0.mk (below_step (laws_FnPostBent_auHB) hb)
             clear hb ho82
             refine hK.out _ _ ⟨(blk_cell BK302.out 0).trans rfl, (blk_cell BK302.out 1).trans rfl⟩ (fun hHeld => ?_)
             clear hK K
             refine norm_ (a' := ?_) ?_ ?_
             rotate_left
             ·
              show Act.put _ (some 75) _ = _
              simp only [Act.put, List.setIfInBounds_toArray, List.set_cons_zero, List.set_cons_succ, i64_w, i32_w]
              rfl
             exact norm_ (by first | (simp only [putAll, Act.put, List.setIfInBounds_toArray, List.set_cons_zero, List.set_cons_succ]; done) | (simp only [putAll, Act.put, List.setIfInBounds_toArray, List.set_cons_zero, List.set_cons_succ]; rfl)) (hJ7_10 (v328, gb333) _ ⟨hHeld, (by (with_reducible repeat (first | apply Kd.R_alloc | apply Kd.R_drewN | apply Kd.R_drew)); exact Kd.R_mono HO329.out (fun _ hk => ⟨hk.1.1.2, ⟨hk.1.2, hk.2⟩⟩)), (by (with_reducible repeat (first | apply Kd.R_alloc | apply Kd.R_drewN | apply Kd.R_drew)); exact Kd.R_mono HO_303001.out (fun _ hk => ⟨hk.2, ⟨hk.1.1, hk.1.2⟩⟩)), (by (with_reducible repeat (first | apply Kd.R_alloc | apply Kd.R_drewN | apply Kd.R_drew)); exact Kd.R_mono HO_304001.out (fun _ hk => ⟨hk.2, ⟨hk.1.1, hk.1.2⟩⟩)), (laws_FnPostBent_vb BK302), (laws_FnPostBent_vb BK303), (laws_FnPostBent_vb BK307), (laws_FnPostBent_vb BK319), (laws_FnPostBent_vb BK320), (laws_FnPostBent_vb BK333), GW333.out, GE333.out, NB302_333.out, NB333_302.out, NB303_333.out, NB333_303.out, NB307_333.out, NB333_307.out, NB319_333.out, NB333_319.out, NB320_333.out, NB333_320.out, (laws_FnPostBent_auHB)⟩)
            skip
            rintro v328 w81 ⟨hS_, h0_, h1_, h2_, h3_, h4_, h5_, h6_, h7_, h8_⟩
            have n0_ : Aside0 (Kd.R k29 29 w81 w.heap.size (fun k_ => some k_ ≠ (.slice Ao12 t295.length co12 : Value).ownBlock ∧ some k_ ≠ (.slice Ao14 t299.length co14 : Value).ownBlock ∧ k_ ≠ gb307) v328 y327) := ⟨h0_⟩
            have n1_ : Aside0 (Kd.R k29 29 w81 w.heap.size (fun k_ => some k_ ≠ (v328 : Value).ownBlock ∧ some k_ ≠ (.slice Ao14 t299.length co14 : Value).ownBlock ∧ k_ ≠ gb307) (.slice Ao12 t295.length co12) t295) := ⟨h1_⟩
            have n2_ : Aside0 (Kd.R k29 29 w81 w.heap.size (fun k_ => some k_ ≠ (v328 : Value).ownBlock ∧ some k_ ≠ (.slice Ao12 t295.length co12 : Value).ownBlock ∧ k_ ≠ gb307) (.slice Ao14 t299.length co14) t299) := ⟨h2_⟩
            have n3_ : Aside0 (w81.heap[gb302]? = some (.cells #[.int .i64 t294, .slice Ao12 t295.length co12] 25 (0, 0))) := ⟨h3_⟩
            have n4_ : Aside0 (w81.heap[gb303]? = some (.cells #[.int .i64 t298, .slice Ao14 t299.length co14] 25 (0, 0))) := ⟨h4_⟩
            have n5_ : Aside0 (w81.heap[gb307]? = some (.cells #[.string t304, .int .i64 t305, .int .i64 t306] 29 (0, 0))) := ⟨h5_⟩
            have n6_ : Aside0 (w81.heap[gb319]? = some (.cells #[.int .i64 t294, .slice none 0 0] 25 (0, 0))) := ⟨h6_⟩
            have n7_ : Aside0 (w81.heap[gb320]? = some (.cells #[.int .i64 100, .slice Ao12 t295.length co12] 25 (0, 0))) := ⟨h7_⟩
            have n8_ : Aside0 (Below w.heap.size w w81) := ⟨h8_⟩
            clear HO_303001
            clear HO_304001
            clear BK302
            clear BK303
            clear BK307
            clear BK319
            clear BK320
            clear HB
            clear h0_ h1_ h2_ h3_ h4_ h5_ h6_ h7_ h8_
            have HO329 := n0_
            have HO_303001 := n1_
            have HO_304001 := n2_
            have BK302 := n3_
            have BK303 := n4_
            have BK307 := n5_
            have BK319 := n6_
            have BK320 := n7_
            have HB := n8_
            clear n0_ n1_ n2_ n3_ n4_ n5_ n6_ n7_ n8_
            have hHeld : w81.cell? ⟨gb302, 0, none⟩ = some (.int .i64 t294) ∧ w81.cell? ⟨gb302, 1, none⟩ = some (.slice Ao12 t295.length co12) := hS_
            refine norm_ (a' := ?_) ?_ ?_
            rotate_left
            ·
             simp only [putAll, Act.put, List.setIfInBounds_toArray, List.set_cons_zero, List.set_cons_succ]
             rfl
            refine two_ (i := 2) (j := 10) (Ni := some 70) (Nj := some 9) #[true, true, true, true, true, false, true, true, false, false, false, false] #[true, true, false, true, true, false, true, true, false, false, true, false] rfl rfl rfl rfl (two_of HT_.out (by kernel_rfl)) (by decide) (by decide) (fun K hK => ?_) (fun K hK => ?_)
            ·
             skip
             refine Kd.R_lit_step k29 _ 29 ?hg (N := 70) ?hd (xs := ([] : List (S29))) (inner := []) (ok := fun _ => True) (okp := fun _ => True) ?hr ?hp (fun _ hk => hk) trivial (Below.refl _ _) (Nat.le_refl _) (by simp) ?_; (case hd => rfl); (case hg => rfl); (case hr => first | (go_simp; done) | (go_simp; rfl)); (case hp => exact (Reps.none _ _))
             intro v322 w82 ho83 hb hg_ hnew_
             clear hg_ hnew_
             (first | rw [← Ny321.out] at ho83 | (simp only [Int.reduceToNat] at ho83; rw [← Ny321.out] at ho83))
             have HO323 := Aside0.mk (Kd.R_lower (Kd.R_newB (Kd.R_new' (Kd.R_new' (Kd.R_new' ho83 (Kd.R_lt (lo_ HO_303001))) (Kd.R_lt (lo_ HO_304001))) (Kd.R_lt (lo_ HO329))) (g := gb307) (o := .cells #[.string t304, .int .i64 t305, .int .i64 t306] 29 (0, 0)) (laws_FnPostBent_vb BK307)) (below_size (laws_FnPostBent_auHB)))
             replace HO_303001 := Aside0.mk (Kd.R_elder' (lo_ HO_303001) (Kd.R_base ho83) hb)
             replace HO_304001 := Aside0.mk (Kd.R_elder' (lo_ HO_304001) (Kd.R_base ho83) hb)
             replace HO329 := Aside0.mk (Kd.R_elder' (lo_ HO329) (Kd.R_base ho83) hb)
             replace BK302 := Aside0.mk (blk_below (g := gb302) (o := .cells #[.int .i64 t294, .slice Ao12 t295.length co12] 25 (0, 0)) (laws_FnPostBent_vb BK302) hb)
             replace BK303 := Aside0.mk (blk_below (g := gb303) (o := .cells #[.int .i64 t298, .slice Ao14 t299.length co14] 25 (0, 0)) (laws_FnPostBent_vb BK303) hb)
             replace BK307 := Aside0.mk (blk_below (g := gb307) (o := .cells #[.string t304, .int .i64 t305, .int .i64 t306] 29 (0, 0)) (laws_FnPostBent_vb BK307) hb)
             replace BK319 := Aside0.mk (blk_below (g := gb319) (o := .cells #[.int .i64 t294, .slice none 0 0] 25 (0, 0)) (laws_FnPostBent_vb BK319) hb)
             replace BK320 := Aside0.mk (blk_below (g := gb320) (o := .cells #[.int .i64 100, .slice Ao12 t295.length co12] 25 (0, 0)) (laws_FnPostBent_vb BK320) hb)
             replace HB := Aside0.mk (below_step (laws_FnPostBent_auHB) hb)
             clear hb ho83
             refine hK.out _ _ ⟨(blk_cell BK302.out 0).trans rfl, (blk_cell BK302.out 1).trans rfl⟩ (fun hHeld => ?_)
             clear hK K
             refine norm_ (a' := ?_) ?_ ?_
             rotate_left
             ·
              show Act.put _ (some 70) _ = _
              simp only [Act.put, List.setIfInBounds_toArray, List.set_cons_zero, List.set_cons_succ, i64_w, i32_w]
              rfl
             exact norm_ (by first | (simp only [putAll, Act.put, List.setIfInBounds_toArray, List.set_cons_zero, List.set_cons_succ]; done) | (simp only [putAll, Act.put, List.setIfInBounds_toArray, List.set_cons_zero, List.set_cons_succ]; rfl)) (hJ2_7 (v322, v328) _ ⟨hHeld, (by (with_reducible repeat (first | apply Kd.R_alloc | apply Kd.R_drewN | apply Kd.R_drew)); exact Kd.R_mono HO323.out (fun _ hk => ⟨hk.1.2, ⟨hk.1.1.1.2, ⟨hk.1.1.2, hk.2⟩⟩⟩)), (by (with_reducible repeat (first | apply Kd.R_alloc | apply Kd.R_drewN | apply Kd.R_drew)); exact Kd.R_mono HO329.out (fun _ hk => ⟨hk.2, ⟨hk.1.1, ⟨hk.1.2.1, hk.1.2.2⟩⟩⟩)), (by (with_reducible repeat (first | apply Kd.R_alloc | apply Kd.R_drewN | apply Kd.R_drew)); exact Kd.R_mono HO_303001.out (fun _ hk => ⟨hk.2, ⟨hk.1.1, ⟨hk.1.2.1, hk.1.2.2⟩⟩⟩)), (by (with_reducible repeat (first | apply Kd.R_alloc | apply Kd.R_drewN | apply Kd.R_drew)); exact Kd.R_mono HO_304001.out (fun _ hk => ⟨hk.2, ⟨hk.1.1, ⟨hk.1.2.1, hk.1.2.2⟩⟩⟩)), (laws_FnPostBent_vb BK302), (laws_FnPostBent_vb BK303), (laws_FnPostBent_vb BK307), (laws_FnPostBent_vb BK319), (laws_FnPostBent_vb BK320), (laws_FnPostBent_auHB)⟩)
            skip
            refine box_step ?hg (N := 9) ?hd (cs := #[.int .i64 0, .slice none 0 0]) (t := 25) ?hr ?_; (case hd => rfl); (case hg => rfl); (case hr => first | (go_simp; done) | (go_simp; rfl))
            intro gb333 hg w82 hbox hb
            replace HO_303001 := Aside0.mk (Kd.R_below (lo_ HO_303001) hb)
            replace HO_304001 := Aside0.mk (Kd.R_below (lo_ HO_304001) hb)
            replace HO329 := Aside0.mk (Kd.R_below (lo_ HO329) hb)
            have BK333 := Aside0.mk (hbox)
            have GW333 := Aside0.mk ((by rw [hg]; exact (below_size (laws_FnPostBent_auHB)) : w.heap.size ≤ gb333))
            have GE333 := Aside0.mk ((by rw [hg]; exact (below_size (laws_FnPostBent_auHB)) : w.heap.size ≤ gb333))
            replace HB := Aside0.mk (below_step (laws_FnPostBent_auHB) hb)
            have NB302_333 := Aside0.mk ((by rw [hg]; exact Nat.ne_of_lt (blk_lt (g := gb302) (o := .cells #[.int .i64 t294, .slice Ao12 t295.length co12] 25 (0, 0)) (laws_FnPostBent_vb BK302)) : gb302 ≠ gb333))
            have NB333_302 := Aside0.mk ((by rw [hg]; exact Nat.ne_of_gt (blk_lt (g := gb302) (o := .cells #[.int .i64 t294, .slice Ao12 t295.length co12] 25 (0, 0)) (laws_FnPostBent_vb BK302)) : gb333 ≠ gb302))
            replace BK302 := Aside0.mk (blk_below (g := gb302) (o := .cells #[.int .i64 t294, .slice Ao12 t295.length co12] 25 (0, 0)) (laws_FnPostBent_vb BK302) hb)
            have NB303_333 := Aside0.mk ((by rw [hg]; exact Nat.ne_of_lt (blk_lt (g := gb303) (o := .cells #[.int .i64 t298, .slice Ao14 t299.length co14] 25 (0, 0)) (laws_FnPostBent_vb BK303)) : gb303 ≠ gb333))
            have NB333_303 := Aside0.mk ((by rw [hg]; exact Nat.ne_of_gt (blk_lt (g := gb303) (o := .cells #[.int .i64 t298, .slice Ao14 t299.length co14] 25 (0, 0)) (laws_FnPostBent_vb BK303)) : gb333 ≠ gb303))
            replace BK303 := Aside0.mk (blk_below (g := gb303) (o := .cells #[.int .i64 t298, .slice Ao14 t299.length co14] 25 (0, 0)) (laws_FnPostBent_vb BK303) hb)
            have NB307_333 := Aside0.mk ((by rw [hg]; exact Nat.ne_of_lt (blk_lt (g := gb307) (o := .cells #[.string t304, .int .i64 t305, .int .i64 t306] 29 (0, 0)) (laws_FnPostBent_vb BK307)) : gb307 ≠ gb333))
            have NB333_307 := Aside0.mk ((by rw [hg]; exact Nat.ne_of_gt (blk_lt (g := gb307) (o := .cells #[.string t304, .int .i64 t305, .int .i64 t306] 29 (0, 0)) (laws_FnPostBent_vb BK307)) : gb333 ≠ gb307))
            replace BK307 := Aside0.mk (blk_below (g := gb307) (o := .cells #[.string t304, .int .i64 t305, .int .i64 t306] 29 (0, 0)) (laws_FnPostBent_vb BK307) hb)
            have NB319_333 := Aside0.mk ((by rw [hg]; exact Nat.ne_of_lt (blk_lt (g := gb319) (o := .cells #[.int .i64 t294, .slice none 0 0] 25 (0, 0)) (laws_FnPostBent_vb BK319)) : gb319 ≠ gb333))
            have NB333_319 := Aside0.mk ((by rw [hg]; exact Nat.ne_of_gt (blk_lt (g := gb319) (o := .cells #[.int .i64 t294, .slice none 0 0] 25 (0, 0)) (laws_FnPostBent_vb BK319)) : gb333 ≠ gb319))
            replace BK319 := Aside0.mk (blk_below (g := gb319) (o := .cells #[.int .i64 t294, .slice none 0 0] 25 (0, 0)) (laws_FnPostBent_vb BK319) hb)
            have NB320_333 := Aside0.mk ((by rw [hg]; exact Nat.ne_of_lt (blk_lt (g := gb320) (o := .cells #[.int .i64 100, .slice Ao12 t295.length co12] 25 (0, 0)) (laws_FnPostBent_vb BK320)) : gb320 ≠ gb333))
            have NB333_320 := Aside0.mk ((by rw [hg]; exact Nat.ne_of_gt (blk_lt (g := gb320) (o := .cells #[.int .i64 100, .slice Ao12 t295.length co12] 25 (0, 0)) (laws_FnPostBent_vb BK320)) : gb333 ≠ gb320))
            replace BK320 := Aside0.mk (blk_below (g := gb320) (o := .cells #[.int .i64 100, .slice Ao12 t295.length co12] 25 (0, 0)) (laws_FnPostBent_vb BK320) hb)
            clear hb hbox hg
            refine hK.out _ _ ⟨(blk_cell BK302.out 0).trans rfl, (blk_cell BK302.out 1).trans rfl⟩ (fun hHeld => ?_)
            clear hK K
            refine norm_ (a' := ?_) ?_ ?_
            rotate_left
            ·
             show Act.put _ (some 9) _ = _
             simp only [Act.put, List.setIfInBounds_toArray, List.set_cons_zero, List.set_cons_succ, i64_w, i32_w]
             rfl
            exact norm_ (by first | (simp only [putAll, Act.put, List.setIfInBounds_toArray, List.set_cons_zero, List.set_cons_succ]; done) | (simp only [putAll, Act.put, List.setIfInBounds_toArray, List.set_cons_zero, List.set_cons_succ]; rfl)) (hJ7_10 (v328, gb333) _ ⟨hHeld, (lo_ HO329), (lo_ HO_303001), (lo_ HO_304001), (laws_FnPostBent_vb BK302), (laws_FnPostBent_vb BK303), (laws_FnPostBent_vb BK307), (laws_FnPostBent_vb BK319), (laws_FnPostBent_vb BK320), (laws_FnPostBent_vb BK333), GW333.out, GE333.out, NB302_333.out, NB333_302.out, NB303_333.out, NB333_303.out, NB307_333.out, NB333_307.out, NB319_333.out, NB333_319.out, NB320_333.out, NB333_320.out, (laws_FnPostBent_auHB)⟩)
           skip
           rintro v322 w81 ⟨hS_, h0_, h1_, h2_, h3_, h4_, h5_, h6_, h7_, h8_⟩
           have n0_ : Aside0 (Kd.R k29 29 w81 w.heap.size (fun k_ => some k_ ≠ (.slice Ao12 t295.length co12 : Value).ownBlock ∧ some k_ ≠ (.slice Ao14 t299.length co14 : Value).ownBlock ∧ k_ ≠ gb307) v322 y321) := ⟨h0_⟩
           have n1_ : Aside0 (Kd.R k29 29 w81 w.heap.size (fun k_ => some k_ ≠ (v322 : Value).ownBlock ∧ some k_ ≠ (.slice Ao14 t299.length co14 : Value).ownBlock ∧ k_ ≠ gb307) (.slice Ao12 t295.length co12) t295) := ⟨h1_⟩
           have n2_ : Aside0 (Kd.R k29 29 w81 w.heap.size (fun k_ => some k_ ≠ (v322 : Value).ownBlock ∧ some k_ ≠ (.slice Ao12 t295.length co12 : Value).ownBlock ∧ k_ ≠ gb307) (.slice Ao14 t299.length co14) t299) := ⟨h2_⟩
           have n3_ : Aside0 (w81.heap[gb302]? = some (.cells #[.int .i64 t294, .slice Ao12 t295.length co12] 25 (0, 0))) := ⟨h3_⟩
           have n4_ : Aside0 (w81.heap[gb303]? = some (.cells #[.int .i64 t298, .slice Ao14 t299.length co14] 25 (0, 0))) := ⟨h4_⟩
           have n5_ : Aside0 (w81.heap[gb307]? = some (.cells #[.string t304, .int .i64 t305, .int .i64 t306] 29 (0, 0))) := ⟨h5_⟩
           have n6_ : Aside0 (w81.heap[gb319]? = some (.cells #[.int .i64 t294, .slice none 0 0] 25 (0, 0))) := ⟨h6_⟩
           have n7_ : Aside0 (w81.heap[gb320]? = some (.cells #[.int .i64 100, .slice Ao12 t295.length co12] 25 (0, 0))) := ⟨h7_⟩
           have n8_ : Aside0 (Below w.heap.size w w81) := ⟨h8_⟩
           clear HO_303001
           clear HO_304001
           clear BK302
           clear BK303
           clear BK307
           clear BK319
           clear BK320
           clear HB
           clear h0_ h1_ h2_ h3_ h4_ h5_ h6_ h7_ h8_
           have HO323 := n0_
           have HO_303001 := n1_
           have HO_304001 := n2_
           have BK302 := n3_
           have BK303 := n4_
           have BK307 := n5_
           have BK319 := n6_
           have BK320 := n7_
           have HB := n8_
           clear n0_ n1_ n2_ n3_ n4_ n5_ n6_ n7_ n8_
           have hHeld : w81.cell? ⟨gb302, 0, none⟩ = some (.int .i64 t294) ∧ w81.cell? ⟨gb302, 1, none⟩ = some (.slice Ao12 t295.length co12) := hS_
           refine norm_ (a' := ?_) ?_ ?_
           rotate_left
           ·
            simp only [putAll, Act.put, List.setIfInBounds_toArray, List.set_cons_zero, List.set_cons_succ]
            rfl
           refine three_ (i := 5) (j := 7) (k := 10) (Ni := some 73) (Nj := some 75) (Nk := some 9) #[true, true, true, true, true, true, true, false, false, false, false, false] #[true, true, true, true, true, false, true, true, false, false, false, false] #[true, true, true, true, true, false, true, false, false, false, true, false] rfl rfl rfl rfl rfl rfl (three_of HT_.out (by kernel_rfl)) (by decide) (by decide) (by decide) (fun K hK => ?_) (fun K hK => ?_) (fun K hK => ?_)
           ·
            skip
            refine Kd.R_append_rows_step k29 (w0 := w) w.heap.size (by rfl) (.tmp 70) (.tmp 72) 23 29 (.agg #[(.string ⟨#[]⟩), (.int .i64 0), (.int .i64 0)]) 32 rfl Try.underlying23 info29 rfl (by decide) (by omega) v322 y321 t295 _ _ _ (fun k_ => some k_ ≠ (.slice Ao12 t295.length co12 : Value).ownBlock ∧ some k_ ≠ (.slice Ao14 t299.length co14 : Value).ownBlock ∧ k_ ≠ gb307) (fun _ => False) rfl rfl ?aO ?aR (fun _ _ h => h) (fun _ h => h.elim) ?aF ?aB ?aS ?aL ?_
            (case aR => exact co_ (Kd.R_reads' HO_303001.out).2.2)
            (case aB => exact (laws_FnPostBent_auHB))
            (case aF => exact (fun k_ hk => ⟨Kd.fresh' (Kd.R_lt (lo_ HO_303001)) k_ hk, Kd.fresh' (Kd.R_lt (lo_ HO_304001)) k_ hk, Kd.freshB (g := gb307) (o := .cells #[.string t304, .int .i64 t305, .int .i64 t306] 29 (0, 0)) (laws_FnPostBent_vb BK307) k_ hk⟩))
            (case aO => exact (lo_ HO323))
            (case aS => exact (below_size (laws_FnPostBent_auHB)))
            (case aL => have := LMc45.out; omega)
            intro v325 w82 ho hb hg hat
            rw [← Ny324.out] at ho
            have n0_ := Aside0.mk (Kd.R_after (ok := (fun k_ => some k_ ≠ (.slice Ao14 t299.length co14 : Value).ownBlock ∧ k_ ≠ gb307)) (by (with_reducible repeat (first | apply Kd.R_alloc | apply Kd.R_drewN | apply Kd.R_drew)); exact Kd.R_mono HO_303001.out (fun _ hk => ⟨⟨hk.2.1, hk.2.2⟩, hk.1⟩)) hg hat)
            have n1_ := Aside0.mk (Kd.R_after (ok := (fun k_ => some k_ ≠ (.slice Ao12 t295.length co12 : Value).ownBlock ∧ k_ ≠ gb307)) (by (with_reducible repeat (first | apply Kd.R_alloc | apply Kd.R_drewN | apply Kd.R_drew)); exact Kd.R_mono HO_304001.out (fun _ hk => ⟨⟨hk.2.1, hk.2.2⟩, hk.1⟩)) hg hat)
            have n2_ := Aside0.mk (blk_grown (g := gb302) (o := .cells #[.int .i64 t294, .slice Ao12 t295.length co12] 25 (0, 0)) (laws_FnPostBent_vb BK302) hg (Kd.R_ne HO323.out BK302.out (by decide)))
            have n3_ := Aside0.mk (blk_grown (g := gb303) (o := .cells #[.int .i64 t298, .slice Ao14 t299.length co14] 25 (0, 0)) (laws_FnPostBent_vb BK303) hg (Kd.R_ne HO323.out BK303.out (by decide)))
            have n4_ := Aside0.mk (blk_grown (g := gb307) (o := .cells #[.string t304, .int .i64 t305, .int .i64 t306] 29 (0, 0)) (laws_FnPostBent_vb BK307) hg (Kd.R_away HO323.out (fun _ hk => hk.2.2)))
            have n5_ := Aside0.mk (blk_grown (g := gb319) (o := .cells #[.int .i64 t294, .slice none 0 0] 25 (0, 0)) (laws_FnPostBent_vb BK319) hg (Kd.R_ne HO323.out BK319.out (by decide)))
            have n6_ := Aside0.mk (blk_grown (g := gb320) (o := .cells #[.int .i64 100, .slice Ao12 t295.length co12] 25 (0, 0)) (laws_FnPostBent_vb BK320) hg (Kd.R_ne HO323.out BK320.out (by decide)))
            have n7_ := Aside0.mk (hb)
            have n8_ := Aside0.mk (ho)
            clear HO_303001
            clear HO_304001
            clear BK302
            clear BK303
            clear BK307
            clear BK319
            clear BK320
            clear HB
            clear HO323
            have HO_303001 := n0_
            have HO_304001 := n1_
            have BK302 := n2_
            have BK303 := n3_
            have BK307 := n4_
            have BK319 := n5_
            have BK320 := n6_
            have HB := n7_
            have HO326 := n8_
            clear n0_ n1_ n2_ n3_ n4_ n5_ n6_ n7_ n8_
            clear ho hb hg hat
            refine hK.out _ _ ⟨(blk_cell BK302.out 0).trans rfl, (blk_cell BK302.out 1).trans rfl⟩ (fun hHeld => ?_)
            clear hK K
            refine norm_ (a' := ?_) ?_ ?_
            rotate_left
            ·
             show Act.put _ (some 73) _ = _
             simp only [Act.put, List.setIfInBounds_toArray, List.set_cons_zero, List.set_cons_succ, i64_w, i32_w]
             rfl
            exact norm_ (by first | (simp only [putAll, Act.put, List.setIfInBounds_toArray, List.set_cons_zero, List.set_cons_succ]; done) | (simp only [putAll, Act.put, List.setIfInBounds_toArray, List.set_cons_zero, List.set_cons_succ]; rfl)) (hJ2_5 (v322, v325) _ ⟨hHeld, (lo_ HO326), (by (with_reducible repeat (first | apply Kd.R_alloc | apply Kd.R_drewN | apply Kd.R_drew)); exact Kd.R_mono HO_303001.out (fun _ hk => ⟨hk.2, ⟨hk.1.1, hk.1.2⟩⟩)), (by (with_reducible repeat (first | apply Kd.R_alloc | apply Kd.R_drewN | apply Kd.R_drew)); exact Kd.R_mono HO_304001.out (fun _ hk => ⟨hk.2, ⟨hk.1.1, hk.1.2⟩⟩)), (laws_FnPostBent_vb BK302), (laws_FnPostBent_vb BK303), (laws_FnPostBent_vb BK307), (laws_FnPostBent_vb BK319), (laws_FnPostBent_vb BK320), (laws_FnPostBent_auHB)⟩)
           ·
            skip
            refine Kd.R_lit_step k29 _ 29 ?hg (N := 75) ?hd (xs := ([(⟨(⟨#[97]⟩ : ByteArray), 1, 0⟩ : S29)] : List (S29))) (inner := [.string (⟨#[97]⟩ : ByteArray), .int .i64 1, .int .i64 0]) (ok := fun _ => True) (okp := fun _ => True) ?hr ?hp (fun _ hk => hk) trivial (Below.refl _ _) (Nat.le_refl _) (by simp) ?_; (case hd => rfl); (case hg => rfl); (case hr => first | (go_simp; done) | (go_simp; rfl)); (case hp => exact (Reps.c3 (show Kd.M k29 _ _ _ (⟨(⟨#[97]⟩ : ByteArray), 1, 0⟩ : S29) [.string (⟨#[97]⟩ : ByteArray), .int .i64 1, .int .i64 0] from (k29_mkM _ _ _ (⟨(⟨#[97]⟩ : ByteArray), 1, 0⟩ : S29) )) (Reps.none _ _)))
            intro v328 w82 ho83 hb hg_ hnew_
            clear hg_ hnew_
            (first | rw [← Ny327.out] at ho83 | (simp only [Int.reduceToNat] at ho83; rw [← Ny327.out] at ho83))
            have HO329 := Aside0.mk (Kd.R_lower (Kd.R_newB (Kd.R_new' (Kd.R_new' (Kd.R_new' ho83 (Kd.R_lt (lo_ HO_303001))) (Kd.R_lt (lo_ HO_304001))) (Kd.R_lt (lo_ HO323))) (g := gb307) (o := .cells #[.string t304, .int .i64 t305, .int .i64 t306] 29 (0, 0)) (laws_FnPostBent_vb BK307)) (below_size (laws_FnPostBent_auHB)))
            replace HO_303001 := Aside0.mk (Kd.R_elder' (lo_ HO_303001) (Kd.R_base ho83) hb)
            replace HO_304001 := Aside0.mk (Kd.R_elder' (lo_ HO_304001) (Kd.R_base ho83) hb)
            replace HO323 := Aside0.mk (Kd.R_elder' (lo_ HO323) (Kd.R_base ho83) hb)
            replace BK302 := Aside0.mk (blk_below (g := gb302) (o := .cells #[.int .i64 t294, .slice Ao12 t295.length co12] 25 (0, 0)) (laws_FnPostBent_vb BK302) hb)
            replace BK303 := Aside0.mk (blk_below (g := gb303) (o := .cells #[.int .i64 t298, .slice Ao14 t299.length co14] 25 (0, 0)) (laws_FnPostBent_vb BK303) hb)
            replace BK307 := Aside0.mk (blk_below (g := gb307) (o := .cells #[.string t304, .int .i64 t305, .int .i64 t306] 29 (0, 0)) (laws_FnPostBent_vb BK307) hb)
            replace BK319 := Aside0.mk (blk_below (g := gb319) (o := .cells #[.int .i64 t294, .slice none 0 0] 25 (0, 0)) (laws_FnPostBent_vb BK319) hb)
            replace BK320 := Aside0.mk (blk_below (g := gb320) (o := .cells #[.int .i64 100, .slice Ao12 t295.length co12] 25 (0, 0)) (laws_FnPostBent_vb BK320) hb)
            replace HB := Aside0.mk (below_step (laws_FnPostBent_auHB) hb)
            clear hb ho83
            refine hK.out _ _ ⟨(blk_cell BK302.out 0).trans rfl, (blk_cell BK302.out 1).trans rfl⟩ (fun hHeld => ?_)
            clear hK K
            refine norm_ (a' := ?_) ?_ ?_
            rotate_left
            ·
             show Act.put _ (some 75) _ = _
             simp only [Act.put, List.setIfInBounds_toArray, List.set_cons_zero, List.set_cons_succ, i64_w, i32_w]
             rfl
            exact norm_ (by first | (simp only [putAll, Act.put, List.setIfInBounds_toArray, List.set_cons_zero, List.set_cons_succ]; done) | (simp only [putAll, Act.put, List.setIfInBounds_toArray, List.set_cons_zero, List.set_cons_succ]; rfl)) (hJ2_7 (v322, v328) _ ⟨hHeld, (by (with_reducible repeat (first | apply Kd.R_alloc | apply Kd.R_drewN | apply Kd.R_drew)); exact Kd.R_mono HO323.out (fun _ hk => ⟨hk.2, ⟨hk.1.1, ⟨hk.1.2.1, hk.1.2.2⟩⟩⟩)), (by (with_reducible repeat (first | apply Kd.R_alloc | apply Kd.R_drewN | apply Kd.R_drew)); exact Kd.R_mono HO329.out (fun _ hk => ⟨hk.1.2, ⟨hk.1.1.1.2, ⟨hk.1.1.2, hk.2⟩⟩⟩)), (by (with_reducible repeat (first | apply Kd.R_alloc | apply Kd.R_drewN | apply Kd.R_drew)); exact Kd.R_mono HO_303001.out (fun _ hk => ⟨hk.1.1, ⟨hk.2, ⟨hk.1.2.1, hk.1.2.2⟩⟩⟩)), (by (with_reducible repeat (first | apply Kd.R_alloc | apply Kd.R_drewN | apply Kd.R_drew)); exact Kd.R_mono HO_304001.out (fun _ hk => ⟨hk.1.1, ⟨hk.2, ⟨hk.1.2.1, hk.1.2.2⟩⟩⟩)), (laws_FnPostBent_vb BK302), (laws_FnPostBent_vb BK303), (laws_FnPostBent_vb BK307), (laws_FnPostBent_vb BK319), (laws_FnPostBent_vb BK320), (laws_FnPostBent_auHB)⟩)
           skip
           refine box_step ?hg (N := 9) ?hd (cs := #[.int .i64 0, .slice none 0 0]) (t := 25) ?hr ?_; (case hd => rfl); (case hg => rfl); (case hr => first | (go_simp; done) | (go_simp; rfl))
           intro gb333 hg w82 hbox hb
           replace HO_303001 := Aside0.mk (Kd.R_below (lo_ HO_303001) hb)
           replace HO_304001 := Aside0.mk (Kd.R_below (lo_ HO_304001) hb)
           replace HO323 := Aside0.mk (Kd.R_below (lo_ HO323) hb)
           have BK333 := Aside0.mk (hbox)
           have GW333 := Aside0.mk ((by rw [hg]; exact (below_size (laws_FnPostBent_auHB)) : w.heap.size ≤ gb333))
           have GE333 := Aside0.mk ((by rw [hg]; exact (below_size (laws_FnPostBent_auHB)) : w.heap.size ≤ gb333))
           replace HB := Aside0.mk (below_step (laws_FnPostBent_auHB) hb)
           have NB302_333 := Aside0.mk ((by rw [hg]; exact Nat.ne_of_lt (blk_lt (g := gb302) (o := .cells #[.int .i64 t294, .slice Ao12 t295.length co12] 25 (0, 0)) (laws_FnPostBent_vb BK302)) : gb302 ≠ gb333))
           have NB333_302 := Aside0.mk ((by rw [hg]; exact Nat.ne_of_gt (blk_lt (g := gb302) (o := .cells #[.int .i64 t294, .slice Ao12 t295.length co12] 25 (0, 0)) (laws_FnPostBent_vb BK302)) : gb333 ≠ gb302))
           replace BK302 := Aside0.mk (blk_below (g := gb302) (o := .cells #[.int .i64 t294, .slice Ao12 t295.length co12] 25 (0, 0)) (laws_FnPostBent_vb BK302) hb)
           have NB303_333 := Aside0.mk ((by rw [hg]; exact Nat.ne_of_lt (blk_lt (g := gb303) (o := .cells #[.int .i64 t298, .slice Ao14 t299.length co14] 25 (0, 0)) (laws_FnPostBent_vb BK303)) : gb303 ≠ gb333))
           have NB333_303 := Aside0.mk ((by rw [hg]; exact Nat.ne_of_gt (blk_lt (g := gb303) (o := .cells #[.int .i64 t298, .slice Ao14 t299.length co14] 25 (0, 0)) (laws_FnPostBent_vb BK303)) : gb333 ≠ gb303))
           replace BK303 := Aside0.mk (blk_below (g := gb303) (o := .cells #[.int .i64 t298, .slice Ao14 t299.length co14] 25 (0, 0)) (laws_FnPostBent_vb BK303) hb)
           have NB307_333 := Aside0.mk ((by rw [hg]; exact Nat.ne_of_lt (blk_lt (g := gb307) (o := .cells #[.string t304, .int .i64 t305, .int .i64 t306] 29 (0, 0)) (laws_FnPostBent_vb BK307)) : gb307 ≠ gb333))
           have NB333_307 := Aside0.mk ((by rw [hg]; exact Nat.ne_of_gt (blk_lt (g := gb307) (o := .cells #[.string t304, .int .i64 t305, .int .i64 t306] 29 (0, 0)) (laws_FnPostBent_vb BK307)) : gb333 ≠ gb307))
           replace BK307 := Aside0.mk (blk_below (g := gb307) (o := .cells #[.string t304, .int .i64 t305, .int .i64 t306] 29 (0, 0)) (laws_FnPostBent_vb BK307) hb)
           have NB319_333 := Aside0.mk ((by rw [hg]; exact Nat.ne_of_lt (blk_lt (g := gb319) (o := .cells #[.int .i64 t294, .slice none 0 0] 25 (0, 0)) (laws_FnPostBent_vb BK319)) : gb319 ≠ gb333))
           have NB333_319 := Aside0.mk ((by rw [hg]; exact Nat.ne_of_gt (blk_lt (g := gb319) (o := .cells #[.int .i64 t294, .slice none 0 0] 25 (0, 0)) (laws_FnPostBent_vb BK319)) : gb333 ≠ gb319))
           replace BK319 := Aside0.mk (blk_below (g := gb319) (o := .cells #[.int .i64 t294, .slice none 0 0] 25 (0, 0)) (laws_FnPostBent_vb BK319) hb)
           have NB320_333 := Aside0.mk ((by rw [hg]; exact Nat.ne_of_lt (blk_lt (g := gb320) (o := .cells #[.int .i64 100, .slice Ao12 t295.length co12] 25 (0, 0)) (laws_FnPostBent_vb BK320)) : gb320 ≠ gb333))
           have NB333_320 := Aside0.mk ((by rw [hg]; exact Nat.ne_of_gt (blk_lt (g := gb320) (o := .cells #[.int .i64 100, .slice Ao12 t295.length co12] 25 (0, 0)) (laws_FnPostBent_vb BK320)) : gb333 ≠ gb320))
           replace BK320 := Aside0.mk (blk_below (g := gb320) (o := .cells #[.int .i64 100, .slice Ao12 t295.length co12] 25 (0, 0)) (laws_FnPostBent_vb BK320) hb)
           clear hb hbox hg
           refine hK.out _ _ ⟨(blk_cell BK302.out 0).trans rfl, (blk_cell BK302.out 1).trans rfl⟩ (fun hHeld => ?_)
           clear hK K
           refine norm_ (a' := ?_) ?_ ?_
           rotate_left
           ·
            show Act.put _ (some 9) _ = _
            simp only [Act.put, List.setIfInBounds_toArray, List.set_cons_zero, List.set_cons_succ, i64_w, i32_w]
            rfl
           exact norm_ (by first | (simp only [putAll, Act.put, List.setIfInBounds_toArray, List.set_cons_zero, List.set_cons_succ]; done) | (simp only [putAll, Act.put, List.setIfInBounds_toArray, List.set_cons_zero, List.set_cons_succ]; rfl)) (hJ2_10 (v322, gb333) _ ⟨hHeld, (lo_ HO323), (lo_ HO_303001), (lo_ HO_304001), (laws_FnPostBent_vb BK302), (laws_FnPostBent_vb BK303), (laws_FnPostBent_vb BK307), (laws_FnPostBent_vb BK319), (laws_FnPostBent_vb BK320), (laws_FnPostBent_vb BK333), GW333.out, GE333.out, NB302_333.out, NB333_302.out, NB303_333.out, NB333_303.out, NB307_333.out, NB333_307.out, NB319_333.out, NB333_319.out, NB320_333.out, NB333_320.out, (laws_FnPostBent_auHB)⟩)
          skip
          rintro ⟨v328, gb333⟩ w82 ⟨hS_, h0_, h1_, h2_, h3_, h4_, h5_, h6_, h7_, h8_, h9_, h10_, h11_, h12_, h13_, h14_, h15_, h16_, h17_, h18_, h19_, h20_, h21_⟩
          have n0_ : Aside0 (Kd.R k29 29 w82 w.heap.size (fun k_ => some k_ ≠ (.slice Ao12 t295.length co12 : Value).ownBlock ∧ some k_ ≠ (.slice Ao14 t299.length co14 : Value).ownBlock ∧ k_ ≠ gb307) v328 y327) := ⟨h0_⟩
          have n1_ : Aside0 (Kd.R k29 29 w82 w.heap.size (fun k_ => some k_ ≠ (v328 : Value).ownBlock ∧ some k_ ≠ (.slice Ao14 t299.length co14 : Value).ownBlock ∧ k_ ≠ gb307) (.slice Ao12 t295.length co12) t295) := ⟨h1_⟩
          have n2_ : Aside0 (Kd.R k29 29 w82 w.heap.size (fun k_ => some k_ ≠ (v328 : Value).ownBlock ∧ some k_ ≠ (.slice Ao12 t295.length co12 : Value).ownBlock ∧ k_ ≠ gb307) (.slice Ao14 t299.length co14) t299) := ⟨h2_⟩
          have n3_ : Aside0 (w82.heap[gb302]? = some (.cells #[.int .i64 t294, .slice Ao12 t295.length co12] 25 (0, 0))) := ⟨h3_⟩
          have n4_ : Aside0 (w82.heap[gb303]? = some (.cells #[.int .i64 t298, .slice Ao14 t299.length co14] 25 (0, 0))) := ⟨h4_⟩
          have n5_ : Aside0 (w82.heap[gb307]? = some (.cells #[.string t304, .int .i64 t305, .int .i64 t306] 29 (0, 0))) := ⟨h5_⟩
          have n6_ : Aside0 (w82.heap[gb319]? = some (.cells #[.int .i64 t294, .slice none 0 0] 25 (0, 0))) := ⟨h6_⟩
          have n7_ : Aside0 (w82.heap[gb320]? = some (.cells #[.int .i64 100, .slice Ao12 t295.length co12] 25 (0, 0))) := ⟨h7_⟩
          have n8_ : Aside0 (w82.heap[gb333]? = some (.cells #[.int .i64 0, .slice none 0 0] 25 (0, 0))) := ⟨h8_⟩
          have n9_ : Aside0 (w.heap.size ≤ gb333) := ⟨h9_⟩
          have n10_ : Aside0 (w.heap.size ≤ gb333) := ⟨h10_⟩
          have n11_ : Aside0 (gb302 ≠ gb333) := ⟨h11_⟩
          have n12_ : Aside0 (gb333 ≠ gb302) := ⟨h12_⟩
          have n13_ : Aside0 (gb303 ≠ gb333) := ⟨h13_⟩
          have n14_ : Aside0 (gb333 ≠ gb303) := ⟨h14_⟩
          have n15_ : Aside0 (gb307 ≠ gb333) := ⟨h15_⟩
          have n16_ : Aside0 (gb333 ≠ gb307) := ⟨h16_⟩
          have n17_ : Aside0 (gb319 ≠ gb333) := ⟨h17_⟩
          have n18_ : Aside0 (gb333 ≠ gb319) := ⟨h18_⟩
          have n19_ : Aside0 (gb320 ≠ gb333) := ⟨h19_⟩
          have n20_ : Aside0 (gb333 ≠ gb320) := ⟨h20_⟩
          have n21_ : Aside0 (Below w.heap.size w w82) := ⟨h21_⟩
          clear HO_303001
          clear HO_304001
          clear BK302
          clear BK303
          clear BK307
          clear BK319
          clear BK320
          clear HB
          clear h0_ h1_ h2_ h3_ h4_ h5_ h6_ h7_ h8_ h9_ h10_ h11_ h12_ h13_ h14_ h15_ h16_ h17_ h18_ h19_ h20_ h21_
          have HO329 := n0_
          have HO_303001 := n1_
          have HO_304001 := n2_
          have BK302 := n3_
          have BK303 := n4_
          have BK307 := n5_
          have BK319 := n6_
          have BK320 := n7_
          have BK333 := n8_
          have GW333 := n9_
          have GE333 := n10_
          have NB302_333 := n11_
          have NB333_302 := n12_
          have NB303_333 := n13_
          have NB333_303 := n14_
          have NB307_333 := n15_
          have NB333_307 := n16_
          have NB319_333 := n17_
          have NB333_319 := n18_
          have NB320_333 := n19_
          have NB333_320 := n20_
          have HB := n21_
          clear n0_ n1_ n2_ n3_ n4_ n5_ n6_ n7_ n8_ n9_ n10_ n11_ n12_ n13_ n14_ n15_ n16_ n17_ n18_ n19_ n20_ n21_
          have hHeld : w82.cell? ⟨gb302, 0, none⟩ = some (.int .i64 t294) ∧ w82.cell? ⟨gb302, 1, none⟩ = some (.slice Ao12 t295.length co12) := hS_
          refine norm_ (a' := ?_) ?_ ?_
          rotate_left
          ·
           simp only [putAll, Act.put, List.setIfInBounds_toArray, List.set_cons_zero, List.set_cons_succ]
           rfl
          refine one_ (i := 2) (N := some 70) #[true, true, true, true, true, false, true, true, false, false, true, false] rfl rfl (one_of HT_.out (by kernel_rfl)) (by decide) (fun K hK => ?_)
          refine Kd.R_lit_step k29 _ 29 ?hg (N := 70) ?hd (xs := ([] : List (S29))) (inner := []) (ok := fun _ => True) (okp := fun _ => True) ?hr ?hp (fun _ hk => hk) trivial (Below.refl _ _) (Nat.le_refl _) (by simp) ?_; (case hd => rfl); (case hg => rfl); (case hr => first | (go_simp; done) | (go_simp; rfl)); (case hp => exact (Reps.none _ _))
          intro v322 w83 ho84 hb hg_ hnew_
          clear hg_ hnew_
          (first | rw [← Ny321.out] at ho84 | (simp only [Int.reduceToNat] at ho84; rw [← Ny321.out] at ho84))
          have HO323 := Aside0.mk (Kd.R_lower (Kd.R_newB (Kd.R_new' (Kd.R_new' (Kd.R_new' ho84 (Kd.R_lt (lo_ HO_303001))) (Kd.R_lt (lo_ HO_304001))) (Kd.R_lt (lo_ HO329))) (g := gb307) (o := .cells #[.string t304, .int .i64 t305, .int .i64 t306] 29 (0, 0)) (laws_FnPostBent_vb BK307)) (below_size (laws_FnPostBent_auHB)))
          replace HO_303001 := Aside0.mk (Kd.R_elder' (lo_ HO_303001) (Kd.R_base ho84) hb)
          replace HO_304001 := Aside0.mk (Kd.R_elder' (lo_ HO_304001) (Kd.R_base ho84) hb)
          replace HO329 := Aside0.mk (Kd.R_elder' (lo_ HO329) (Kd.R_base ho84) hb)
          replace BK302 := Aside0.mk (blk_below (g := gb302) (o := .cells #[.int .i64 t294, .slice Ao12 t295.length co12] 25 (0, 0)) (laws_FnPostBent_vb BK302) hb)
          replace BK303 := Aside0.mk (blk_below (g := gb303) (o := .cells #[.int .i64 t298, .slice Ao14 t299.length co14] 25 (0, 0)) (laws_FnPostBent_vb BK303) hb)
          replace BK307 := Aside0.mk (blk_below (g := gb307) (o := .cells #[.string t304, .int .i64 t305, .int .i64 t306] 29 (0, 0)) (laws_FnPostBent_vb BK307) hb)
          replace BK319 := Aside0.mk (blk_below (g := gb319) (o := .cells #[.int .i64 t294, .slice none 0 0] 25 (0, 0)) (laws_FnPostBent_vb BK319) hb)
          replace BK320 := Aside0.mk (blk_below (g := gb320) (o := .cells #[.int .i64 100, .slice Ao12 t295.length co12] 25 (0, 0)) (laws_FnPostBent_vb BK320) hb)
          replace BK333 := Aside0.mk (blk_below (g := gb333) (o := .cells #[.int .i64 0, .slice none 0 0] 25 (0, 0)) (laws_FnPostBent_vb BK333) hb)
          replace HB := Aside0.mk (below_step (laws_FnPostBent_auHB) hb)
          clear hb ho84
          refine hK.out _ _ ⟨(blk_cell BK302.out 0).trans rfl, (blk_cell BK302.out 1).trans rfl⟩ (fun hHeld => ?_)
          clear hK K
          refine norm_ (a' := ?_) ?_ ?_
          rotate_left
          ·
           show Act.put _ (some 70) _ = _
           simp only [Act.put, List.setIfInBounds_toArray, List.set_cons_zero, List.set_cons_succ, i64_w, i32_w]
           rfl
          exact norm_ (by first | (simp only [putAll, Act.put, List.setIfInBounds_toArray, List.set_cons_zero, List.set_cons_succ]; done) | (simp only [putAll, Act.put, List.setIfInBounds_toArray, List.set_cons_zero, List.set_cons_succ]; rfl)) (hJ2_7_10 (v322, v328, gb333) _ ⟨hHeld, (by (with_reducible repeat (first | apply Kd.R_alloc | apply Kd.R_drewN | apply Kd.R_drew)); exact Kd.R_mono HO323.out (fun _ hk => ⟨hk.1.2, ⟨hk.1.1.1.2, ⟨hk.1.1.2, hk.2⟩⟩⟩)), (by (with_reducible repeat (first | apply Kd.R_alloc | apply Kd.R_drewN | apply Kd.R_drew)); exact Kd.R_mono HO329.out (fun _ hk => ⟨hk.2, ⟨hk.1.1, ⟨hk.1.2.1, hk.1.2.2⟩⟩⟩)), (by (with_reducible repeat (first | apply Kd.R_alloc | apply Kd.R_drewN | apply Kd.R_drew)); exact Kd.R_mono HO_303001.out (fun _ hk => ⟨hk.2, ⟨hk.1.1, ⟨hk.1.2.1, hk.1.2.2⟩⟩⟩)), (by (with_reducible repeat (first | apply Kd.R_alloc | apply Kd.R_drewN | apply Kd.R_drew)); exact Kd.R_mono HO_304001.out (fun _ hk => ⟨hk.2, ⟨hk.1.1, ⟨hk.1.2.1, hk.1.2.2⟩⟩⟩)), (laws_FnPostBent_vb BK302), (laws_FnPostBent_vb BK303), (laws_FnPostBent_vb BK307), (laws_FnPostBent_vb BK319), (laws_FnPostBent_vb BK320), (laws_FnPostBent_vb BK333), GW333.out, GE333.out, NB302_333.out, NB333_302.out, NB303_333.out, NB333_303.out, NB307_333.out, NB333_307.out, NB319_333.out, NB333_319.out, NB320_333.out, NB333_320.out, (laws_FnPostBent_auHB)⟩)
         skip
         rintro ⟨v322, gb333⟩ w82 ⟨hS_, h0_, h1_, h2_, h3_, h4_, h5_, h6_, h7_, h8_, h9_, h10_, h11_, h12_, h13_, h14_, h15_, h16_, h17_, h18_, h19_, h20_, h21_⟩
         have n0_ : Aside0 (Kd.R k29 29 w82 w.heap.size (fun k_ => some k_ ≠ (.slice Ao12 t295.length co12 : Value).ownBlock ∧ some k_ ≠ (.slice Ao14 t299.length co14 : Value).ownBlock ∧ k_ ≠ gb307) v322 y321) := ⟨h0_⟩
         have n1_ : Aside0 (Kd.R k29 29 w82 w.heap.size (fun k_ => some k_ ≠ (v322 : Value).ownBlock ∧ some k_ ≠ (.slice Ao14 t299.length co14 : Value).ownBlock ∧ k_ ≠ gb307) (.slice Ao12 t295.length co12) t295) := ⟨h1_⟩
         have n2_ : Aside0 (Kd.R k29 29 w82 w.heap.size (fun k_ => some k_ ≠ (v322 : Value).ownBlock ∧ some k_ ≠ (.slice Ao12 t295.length co12 : Value).ownBlock ∧ k_ ≠ gb307) (.slice Ao14 t299.length co14) t299) := ⟨h2_⟩
         have n3_ : Aside0 (w82.heap[gb302]? = some (.cells #[.int .i64 t294, .slice Ao12 t295.length co12] 25 (0, 0))) := ⟨h3_⟩
         have n4_ : Aside0 (w82.heap[gb303]? = some (.cells #[.int .i64 t298, .slice Ao14 t299.length co14] 25 (0, 0))) := ⟨h4_⟩
         have n5_ : Aside0 (w82.heap[gb307]? = some (.cells #[.string t304, .int .i64 t305, .int .i64 t306] 29 (0, 0))) := ⟨h5_⟩
         have n6_ : Aside0 (w82.heap[gb319]? = some (.cells #[.int .i64 t294, .slice none 0 0] 25 (0, 0))) := ⟨h6_⟩
         have n7_ : Aside0 (w82.heap[gb320]? = some (.cells #[.int .i64 100, .slice Ao12 t295.length co12] 25 (0, 0))) := ⟨h7_⟩
         have n8_ : Aside0 (w82.heap[gb333]? = some (.cells #[.int .i64 0, .slice none 0 0] 25 (0, 0))) := ⟨h8_⟩
         have n9_ : Aside0 (w.heap.size ≤ gb333) := ⟨h9_⟩
         have n10_ : Aside0 (w.heap.size ≤ gb333) := ⟨h10_⟩
         have n11_ : Aside0 (gb302 ≠ gb333) := ⟨h11_⟩
         have n12_ : Aside0 (gb333 ≠ gb302) := ⟨h12_⟩
         have n13_ : Aside0 (gb303 ≠ gb333) := ⟨h13_⟩
         have n14_ : Aside0 (gb333 ≠ gb303) := ⟨h14_⟩
         have n15_ : Aside0 (gb307 ≠ gb333) := ⟨h15_⟩
         have n16_ : Aside0 (gb333 ≠ gb307) := ⟨h16_⟩
         have n17_ : Aside0 (gb319 ≠ gb333) := ⟨h17_⟩
         have n18_ : Aside0 (gb333 ≠ gb319) := ⟨h18_⟩
         have n19_ : Aside0 (gb320 ≠ gb333) := ⟨h19_⟩
         have n20_ : Aside0 (gb333 ≠ gb320) := ⟨h20_⟩
         have n21_ : Aside0 (Below w.heap.size w w82) := ⟨h21_⟩
         clear HO_303001
         clear HO_304001
         clear BK302
         clear BK303
         clear BK307
         clear BK319
         clear BK320
         clear HB
         clear h0_ h1_ h2_ h3_ h4_ h5_ h6_ h7_ h8_ h9_ h10_ h11_ h12_ h13_ h14_ h15_ h16_ h17_ h18_ h19_ h20_ h21_
         have HO323 := n0_
         have HO_303001 := n1_
         have HO_304001 := n2_
         have BK302 := n3_
         have BK303 := n4_
         have BK307 := n5_
         have BK319 := n6_
         have BK320 := n7_
         have BK333 := n8_
         have GW333 := n9_
         have GE333 := n10_
         have NB302_333 := n11_
         have NB333_302 := n12_
         have NB303_333 := n13_
         have NB333_303 := n14_
         have NB307_333 := n15_
         have NB333_307 := n16_
         have NB319_333 := n17_
         have NB333_319 := n18_
         have NB320_333 := n19_
         have NB333_320 := n20_
         have HB := n21_
         clear n0_ n1_ n2_ n3_ n4_ n5_ n6_ n7_ n8_ n9_ n10_ n11_ n12_ n13_ n14_ n15_ n16_ n17_ n18_ n19_ n20_ n21_
         have hHeld : w82.cell? ⟨gb302, 0, none⟩ = some (.int .i64 t294) ∧ w82.cell? ⟨gb302, 1, none⟩ = some (.slice Ao12 t295.length co12) := hS_
         refine norm_ (a' := ?_) ?_ ?_
         rotate_left
         ·
          simp only [putAll, Act.put, List.setIfInBounds_toArray, List.set_cons_zero, List.set_cons_succ]
          rfl
         refine two_ (i := 5) (j := 7) (Ni := some 73) (Nj := some 75) #[true, true, true, true, true, true, true, false, false, false, true, false] #[true, true, true, true, true, false, true, true, false, false, true, false] rfl rfl rfl rfl (two_of HT_.out (by kernel_rfl)) (by decide) (by decide) (fun K hK => ?_) (fun K hK => ?_)
         ·
          skip
          refine Kd.R_append_rows_step k29 (w0 := w) w.heap.size (by rfl) (.tmp 70) (.tmp 72) 23 29 (.agg #[(.string ⟨#[]⟩), (.int .i64 0), (.int .i64 0)]) 32 rfl Try.underlying23 info29 rfl (by decide) (by omega) v322 y321 t295 _ _ _ (fun k_ => some k_ ≠ (.slice Ao12 t295.length co12 : Value).ownBlock ∧ some k_ ≠ (.slice Ao14 t299.length co14 : Value).ownBlock ∧ k_ ≠ gb307) (fun _ => False) rfl rfl ?aO ?aR (fun _ _ h => h) (fun _ h => h.elim) ?aF ?aB ?aS ?aL ?_
          (case aR => exact co_ (Kd.R_reads' HO_303001.out).2.2)
          (case aB => exact (laws_FnPostBent_auHB))
          (case aF => exact (fun k_ hk => ⟨Kd.fresh' (Kd.R_lt (lo_ HO_303001)) k_ hk, Kd.fresh' (Kd.R_lt (lo_ HO_304001)) k_ hk, Kd.freshB (g := gb307) (o := .cells #[.string t304, .int .i64 t305, .int .i64 t306] 29 (0, 0)) (laws_FnPostBent_vb BK307) k_ hk⟩))
          (case aO => exact (lo_ HO323))
          (case aS => exact (below_size (laws_FnPostBent_auHB)))
          (case aL => have := LMc45.out; omega)
          intro v325 w83 ho hb hg hat
          rw [← Ny324.out] at ho
          have n0_ := Aside0.mk (Kd.R_after (ok := (fun k_ => some k_ ≠ (.slice Ao14 t299.length co14 : Value).ownBlock ∧ k_ ≠ gb307)) (by (with_reducible repeat (first | apply Kd.R_alloc | apply Kd.R_drewN | apply Kd.R_drew)); exact Kd.R_mono HO_303001.out (fun _ hk => ⟨⟨hk.2.1, hk.2.2⟩, hk.1⟩)) hg hat)
          have n1_ := Aside0.mk (Kd.R_after (ok := (fun k_ => some k_ ≠ (.slice Ao12 t295.length co12 : Value).ownBlock ∧ k_ ≠ gb307)) (by (with_reducible repeat (first | apply Kd.R_alloc | apply Kd.R_drewN | apply Kd.R_drew)); exact Kd.R_mono HO_304001.out (fun _ hk => ⟨⟨hk.2.1, hk.2.2⟩, hk.1⟩)) hg hat)
          have n2_ := Aside0.mk (blk_grown (g := gb302) (o := .cells #[.int .i64 t294, .slice Ao12 t295.length co12] 25 (0, 0)) (laws_FnPostBent_vb BK302) hg (Kd.R_ne HO323.out BK302.out (by decide)))
          have n3_ := Aside0.mk (blk_grown (g := gb303) (o := .cells #[.int .i64 t298, .slice Ao14 t299.length co14] 25 (0, 0)) (laws_FnPostBent_vb BK303) hg (Kd.R_ne HO323.out BK303.out (by decide)))
          have n4_ := Aside0.mk (blk_grown (g := gb307) (o := .cells #[.string t304, .int .i64 t305, .int .i64 t306] 29 (0, 0)) (laws_FnPostBent_vb BK307) hg (Kd.R_away HO323.out (fun _ hk => hk.2.2)))
          have n5_ := Aside0.mk (blk_grown (g := gb319) (o := .cells #[.int .i64 t294, .slice none 0 0] 25 (0, 0)) (laws_FnPostBent_vb BK319) hg (Kd.R_ne HO323.out BK319.out (by decide)))
          have n6_ := Aside0.mk (blk_grown (g := gb320) (o := .cells #[.int .i64 100, .slice Ao12 t295.length co12] 25 (0, 0)) (laws_FnPostBent_vb BK320) hg (Kd.R_ne HO323.out BK320.out (by decide)))
          have n7_ := Aside0.mk (blk_grown (g := gb333) (o := .cells #[.int .i64 0, .slice none 0 0] 25 (0, 0)) (laws_FnPostBent_vb BK333) hg (Kd.R_ne HO323.out BK333.out (by decide)))
          have n8_ := Aside0.mk (hb)
          have n9_ := Aside0.mk (ho)
          clear HO_303001
          clear HO_304001
          clear BK302
          clear BK303
          clear BK307
          clear BK319
          clear BK320
          clear BK333
          clear HB
          clear HO323
          have HO_303001 := n0_
          have HO_304001 := n1_
          have BK302 := n2_
          have BK303 := n3_
          have BK307 := n4_
          have BK319 := n5_
          have BK320 := n6_
          have BK333 := n7_
          have HB := n8_
          have HO326 := n9_
          clear n0_ n1_ n2_ n3_ n4_ n5_ n6_ n7_ n8_ n9_
          clear ho hb hg hat
          refine hK.out _ _ ⟨(blk_cell BK302.out 0).trans rfl, (blk_cell BK302.out 1).trans rfl⟩ (fun hHeld => ?_)
          clear hK K
          refine norm_ (a' := ?_) ?_ ?_
          rotate_left
          ·
           show Act.put _ (some 73) _ = _
           simp only [Act.put, List.setIfInBounds_toArray, List.set_cons_zero, List.set_cons_succ, i64_w, i32_w]
           rfl
          exact norm_ (by first | (simp only [putAll, Act.put, List.setIfInBounds_toArray, List.set_cons_zero, List.set_cons_succ]; done) | (simp only [putAll, Act.put, List.setIfInBounds_toArray, List.set_cons_zero, List.set_cons_succ]; rfl)) (hJ2_5_10 (v322, v325, gb333) _ ⟨hHeld, (lo_ HO326), (by (with_reducible repeat (first | apply Kd.R_alloc | apply Kd.R_drewN | apply Kd.R_drew)); exact Kd.R_mono HO_303001.out (fun _ hk => ⟨hk.2, ⟨hk.1.1, hk.1.2⟩⟩)), (by (with_reducible repeat (first | apply Kd.R_alloc | apply Kd.R_drewN | apply Kd.R_drew)); exact Kd.R_mono HO_304001.out (fun _ hk => ⟨hk.2, ⟨hk.1.1, hk.1.2⟩⟩)), (laws_FnPostBent_vb BK302), (laws_FnPostBent_vb BK303), (laws_FnPostBent_vb BK307), (laws_FnPostBent_vb BK319), (laws_FnPostBent_vb BK320), (laws_FnPostBent_vb BK333), GW333.out, GE333.out, NB302_333.out, NB333_302.out, NB303_333.out, NB333_303.out, NB307_333.out, NB333_307.out, NB319_333.out, NB333_319.out, NB320_333.out, NB333_320.out, (laws_FnPostBent_auHB)⟩)
         skip
         refine Kd.R_lit_step k29 _ 29 ?hg (N := 75) ?hd (xs := ([(⟨(⟨#[97]⟩ : ByteArray), 1, 0⟩ : S29)] : List (S29))) (inner := [.string (⟨#[97]⟩ : ByteArray), .int .i64 1, .int .i64 0]) (ok := fun _ => True) (okp := fun _ => True) ?hr ?hp (fun _ hk => hk) trivial (Below.refl _ _) (Nat.le_refl _) (by simp) ?_; (case hd => rfl); (case hg => rfl); (case hr => first | (go_simp; done) | (go_simp; rfl)); (case hp => exact (Reps.c3 (show Kd.M k29 _ _ _ (⟨(⟨#[97]⟩ : ByteArray), 1, 0⟩ : S29) [.string (⟨#[97]⟩ : ByteArray), .int .i64 1, .int .i64 0] from (k29_mkM _ _ _ (⟨(⟨#[97]⟩ : ByteArray), 1, 0⟩ : S29) )) (Reps.none _ _)))
         intro v328 w83 ho84 hb hg_ hnew_
         clear hg_ hnew_
         (first | rw [← Ny327.out] at ho84 | (simp only [Int.reduceToNat] at ho84; rw [← Ny327.out] at ho84))
         have HO329 := Aside0.mk (Kd.R_lower (Kd.R_newB (Kd.R_new' (Kd.R_new' (Kd.R_new' ho84 (Kd.R_lt (lo_ HO_303001))) (Kd.R_lt (lo_ HO_304001))) (Kd.R_lt (lo_ HO323))) (g := gb307) (o := .cells #[.string t304, .int .i64 t305, .int .i64 t306] 29 (0, 0)) (laws_FnPostBent_vb BK307)) (below_size (laws_FnPostBent_auHB)))
         replace HO_303001 := Aside0.mk (Kd.R_elder' (lo_ HO_303001) (Kd.R_base ho84) hb)
         replace HO_304001 := Aside0.mk (Kd.R_elder' (lo_ HO_304001) (Kd.R_base ho84) hb)
         replace HO323 := Aside0.mk (Kd.R_elder' (lo_ HO323) (Kd.R_base ho84) hb)
         replace BK302 := Aside0.mk (blk_below (g := gb302) (o := .cells #[.int .i64 t294, .slice Ao12 t295.length co12] 25 (0, 0)) (laws_FnPostBent_vb BK302) hb)
         replace BK303 := Aside0.mk (blk_below (g := gb303) (o := .cells #[.int .i64 t298, .slice Ao14 t299.length co14] 25 (0, 0)) (laws_FnPostBent_vb BK303) hb)
         replace BK307 := Aside0.mk (blk_below (g := gb307) (o := .cells #[.string t304, .int .i64 t305, .int .i64 t306] 29 (0, 0)) (laws_FnPostBent_vb BK307) hb)
         replace BK319 := Aside0.mk (blk_below (g := gb319) (o := .cells #[.int .i64 t294, .slice none 0 0] 25 (0, 0)) (laws_FnPostBent_vb BK319) hb)
         replace BK320 := Aside0.mk (blk_below (g := gb320) (o := .cells #[.int .i64 100, .slice Ao12 t295.length co12] 25 (0, 0)) (laws_FnPostBent_vb BK320) hb)
         replace BK333 := Aside0.mk (blk_below (g := gb333) (o := .cells #[.int .i64 0, .slice none 0 0] 25 (0, 0)) (laws_FnPostBent_vb BK333) hb)
         replace HB := Aside0.mk (below_step (laws_FnPostBent_auHB) hb)
         clear hb ho84
         refine hK.out _ _ ⟨(blk_cell BK302.out 0).trans rfl, (blk_cell BK302.out 1).trans rfl⟩ (fun hHeld => ?_)
         clear hK K
         refine norm_ (a' := ?_) ?_ ?_
         rotate_left
         ·
          show Act.put _ (some 75) _ = _
          simp only [Act.put, List.setIfInBounds_toArray, List.set_cons_zero, List.set_cons_succ, i64_w, i32_w]
          rfl
         exact norm_ (by first | (simp only [putAll, Act.put, List.setIfInBounds_toArray, List.set_cons_zero, List.set_cons_succ]; done) | (simp only [putAll, Act.put, List.setIfInBounds_toArray, List.set_cons_zero, List.set_cons_succ]; rfl)) (hJ2_7_10 (v322, v328, gb333) _ ⟨hHeld, (by (with_reducible repeat (first | apply Kd.R_alloc | apply Kd.R_drewN | apply Kd.R_drew)); exact Kd.R_mono HO323.out (fun _ hk => ⟨hk.2, ⟨hk.1.1, ⟨hk.1.2.1, hk.1.2.2⟩⟩⟩)), (by (with_reducible repeat (first | apply Kd.R_alloc | apply Kd.R_drewN | apply Kd.R_drew)); exact Kd.R_mono HO329.out (fun _ hk => ⟨hk.1.2, ⟨hk.1.1.1.2, ⟨hk.1.1.2, hk.2⟩⟩⟩)), (by (with_reducible repeat (first | apply Kd.R_alloc | apply Kd.R_drewN | apply Kd.R_drew)); exact Kd.R_mono HO_303001.out (fun _ hk => ⟨hk.1.1, ⟨hk.2, ⟨hk.1.2.1, hk.1.2.2⟩⟩⟩)), (by (with_reducible repeat (first | apply Kd.R_alloc | apply Kd.R_drewN | apply Kd.R_drew)); exact Kd.R_mono HO_304001.out (fun _ hk => ⟨hk.1.1, ⟨hk.2, ⟨hk.1.2.1, hk.1.2.2⟩⟩⟩)), (laws_FnPostBent_vb BK302), (laws_FnPostBent_vb BK303), (laws_FnPostBent_vb BK307), (laws_FnPostBent_vb BK319), (laws_FnPostBent_vb BK320), (laws_FnPostBent_vb BK333), GW333.out, GE333.out, NB302_333.out, NB333_302.out, NB303_333.out, NB333_303.out, NB307_333.out, NB333_307.out, NB319_333.out, NB333_319.out, NB320_333.out, NB333_320.out, (laws_FnPostBent_auHB)⟩)
        skip
        rintro ⟨v322, v328⟩ w83 ⟨hS_, h0_, h1_, h2_, h3_, h4_, h5_, h6_, h7_, h8_, h9_⟩
        have n0_ : Aside0 (Kd.R k29 29 w83 w.heap.size (fun k_ => some k_ ≠ (v328 : Value).ownBlock ∧ some k_ ≠ (.slice Ao12 t295.length co12 : Value).ownBlock ∧ some k_ ≠ (.slice Ao14 t299.length co14 : Value).ownBlock ∧ k_ ≠ gb307) v322 y321) := ⟨h0_⟩
        have n1_ : Aside0 (Kd.R k29 29 w83 w.heap.size (fun k_ => some k_ ≠ (v322 : Value).ownBlock ∧ some k_ ≠ (.slice Ao12 t295.length co12 : Value).ownBlock ∧ some k_ ≠ (.slice Ao14 t299.length co14 : Value).ownBlock ∧ k_ ≠ gb307) v328 y327) := ⟨h1_⟩
        have n2_ : Aside0 (Kd.R k29 29 w83 w.heap.size (fun k_ => some k_ ≠ (v322 : Value).ownBlock ∧ some k_ ≠ (v328 : Value).ownBlock ∧ some k_ ≠ (.slice Ao14 t299.length co14 : Value).ownBlock ∧ k_ ≠ gb307) (.slice Ao12 t295.length co12) t295) := ⟨h2_⟩
        have n3_ : Aside0 (Kd.R k29 29 w83 w.heap.size (fun k_ => some k_ ≠ (v322 : Value).ownBlock ∧ some k_ ≠ (v328 : Value).ownBlock ∧ some k_ ≠ (.slice Ao12 t295.length co12 : Value).ownBlock ∧ k_ ≠ gb307) (.slice Ao14 t299.length co14) t299) := ⟨h3_⟩
        have n4_ : Aside0 (w83.heap[gb302]? = some (.cells #[.int .i64 t294, .slice Ao12 t295.length co12] 25 (0, 0))) := ⟨h4_⟩
        have n5_ : Aside0 (w83.heap[gb303]? = some (.cells #[.int .i64 t298, .slice Ao14 t299.length co14] 25 (0, 0))) := ⟨h5_⟩
        have n6_ : Aside0 (w83.heap[gb307]? = some (.cells #[.string t304, .int .i64 t305, .int .i64 t306] 29 (0, 0))) := ⟨h6_⟩
        have n7_ : Aside0 (w83.heap[gb319]? = some (.cells #[.int .i64 t294, .slice none 0 0] 25 (0, 0))) := ⟨h7_⟩
        have n8_ : Aside0 (w83.heap[gb320]? = some (.cells #[.int .i64 100, .slice Ao12 t295.length co12] 25 (0, 0))) := ⟨h8_⟩
        have n9_ : Aside0 (Below w.heap.size w w83) := ⟨h9_⟩
        clear HO_303001
        clear HO_304001
        clear BK302
        clear BK303
        clear BK307
        clear BK319
        clear BK320
        clear HB
        clear h0_ h1_ h2_ h3_ h4_ h5_ h6_ h7_ h8_ h9_
        have HO323 := n0_
        have HO329 := n1_
        have HO_303001 := n2_
        have HO_304001 := n3_
        have BK302 := n4_
        have BK303 := n5_
        have BK307 := n6_
        have BK319 := n7_
        have BK320 := n8_
        have HB := n9_
        clear n0_ n1_ n2_ n3_ n4_ n5_ n6_ n7_ n8_ n9_
        have hHeld : w83.cell? ⟨gb302, 0, none⟩ = some (.int .i64 t294) ∧ w83.cell? ⟨gb302, 1, none⟩ = some (.slice Ao12 t295.length co12) := hS_
        refine norm_ (a' := ?_) ?_ ?_
        rotate_left
        ·
         simp only [putAll, Act.put, List.setIfInBounds_toArray, List.set_cons_zero, List.set_cons_succ]
         rfl
        refine two_ (i := 5) (j := 10) (Ni := some 73) (Nj := some 9) #[true, true, true, true, true, true, true, true, false, false, false, false] #[true, true, true, true, true, false, true, true, false, false, true, false] rfl rfl rfl rfl (two_of HT_.out (by kernel_rfl)) (by decide) (by decide) (fun K hK => ?_) (fun K hK => ?_)
        ·
         skip
         refine Kd.R_append_rows_step k29 (w0 := w) w.heap.size (by rfl) (.tmp 70) (.tmp 72) 23 29 (.agg #[(.string ⟨#[]⟩), (.int .i64 0), (.int .i64 0)]) 32 rfl Try.underlying23 info29 rfl (by decide) (by omega) v322 y321 t295 _ _ _ (fun k_ => some k_ ≠ (.slice Ao12 t295.length co12 : Value).ownBlock ∧ some k_ ≠ (.slice Ao14 t299.length co14 : Value).ownBlock ∧ some k_ ≠ (v328 : Value).ownBlock ∧ k_ ≠ gb307) (fun _ => False) rfl rfl ?aO ?aR (fun _ _ h => h) (fun _ h => h.elim) ?aF ?aB ?aS ?aL ?_
         (case aR => exact co_ (Kd.R_reads' HO_303001.out).2.2)
         (case aB => exact (laws_FnPostBent_auHB))
         (case aF => exact (fun k_ hk => ⟨Kd.fresh' (Kd.R_lt (lo_ HO_303001)) k_ hk, Kd.fresh' (Kd.R_lt (lo_ HO_304001)) k_ hk, Kd.fresh' (Kd.R_lt (lo_ HO329)) k_ hk, Kd.freshB (g := gb307) (o := .cells #[.string t304, .int .i64 t305, .int .i64 t306] 29 (0, 0)) (laws_FnPostBent_vb BK307) k_ hk⟩))
         (case aO => exact (by (with_reducible repeat (first | apply Kd.R_alloc | apply Kd.R_drewN | apply Kd.R_drew)); exact Kd.R_mono HO323.out (fun _ hk => ⟨hk.2.1, ⟨hk.2.2.1, ⟨hk.1, hk.2.2.2⟩⟩⟩)))
         (case aS => exact (below_size (laws_FnPostBent_auHB)))
         (case aL => have := LMc45.out; omega)
         intro v325 w84 ho hb hg hat
         rw [← Ny324.out] at ho
         have n0_ := Aside0.mk (Kd.R_after (ok := (fun k_ => some k_ ≠ (.slice Ao14 t299.length co14 : Value).ownBlock ∧ some k_ ≠ (v328 : Value).ownBlock ∧ k_ ≠ gb307)) (by (with_reducible repeat (first | apply Kd.R_alloc | apply Kd.R_drewN | apply Kd.R_drew)); exact Kd.R_mono HO_303001.out (fun _ hk => ⟨⟨hk.2.2.1, ⟨hk.2.1, hk.2.2.2⟩⟩, hk.1⟩)) hg hat)
         have n1_ := Aside0.mk (Kd.R_after (ok := (fun k_ => some k_ ≠ (.slice Ao12 t295.length co12 : Value).ownBlock ∧ some k_ ≠ (v328 : Value).ownBlock ∧ k_ ≠ gb307)) (by (with_reducible repeat (first | apply Kd.R_alloc | apply Kd.R_drewN | apply Kd.R_drew)); exact Kd.R_mono HO_304001.out (fun _ hk => ⟨⟨hk.2.2.1, ⟨hk.2.1, hk.2.2.2⟩⟩, hk.1⟩)) hg hat)
         have n2_ := Aside0.mk (blk_grown (g := gb302) (o := .cells #[.int .i64 t294, .slice Ao12 t295.length co12] 25 (0, 0)) (laws_FnPostBent_vb BK302) hg (Kd.R_ne HO323.out BK302.out (by decide)))
         have n3_ := Aside0.mk (blk_grown (g := gb303) (o := .cells #[.int .i64 t298, .slice Ao14 t299.length co14] 25 (0, 0)) (laws_FnPostBent_vb BK303) hg (Kd.R_ne HO323.out BK303.out (by decide)))
         have n4_ := Aside0.mk (blk_grown (g := gb307) (o := .cells #[.string t304, .int .i64 t305, .int .i64 t306] 29 (0, 0)) (laws_FnPostBent_vb BK307) hg (Kd.R_away HO323.out (fun _ hk => hk.2.2.2)))
         have n5_ := Aside0.mk (blk_grown (g := gb319) (o := .cells #[.int .i64 t294, .slice none 0 0] 25 (0, 0)) (laws_FnPostBent_vb BK319) hg (Kd.R_ne HO323.out BK319.out (by decide)))
         have n6_ := Aside0.mk (blk_grown (g := gb320) (o := .cells #[.int .i64 100, .slice Ao12 t295.length co12] 25 (0, 0)) (laws_FnPostBent_vb BK320) hg (Kd.R_ne HO323.out BK320.out (by decide)))
         have n7_ := Aside0.mk (Kd.R_after (ok := (fun k_ => some k_ ≠ (.slice Ao12 t295.length co12 : Value).ownBlock ∧ some k_ ≠ (.slice Ao14 t299.length co14 : Value).ownBlock ∧ k_ ≠ gb307)) (by (with_reducible repeat (first | apply Kd.R_alloc | apply Kd.R_drewN | apply Kd.R_drew)); exact Kd.R_mono HO329.out (fun _ hk => ⟨⟨hk.2.1, ⟨hk.2.2.1, hk.2.2.2⟩⟩, hk.1⟩)) hg hat)
         have n8_ := Aside0.mk (hb)
         have n9_ := Aside0.mk (ho)
         clear HO_303001
         clear HO_304001
         clear BK302
         clear BK303
         clear BK307
         clear BK319
         clear BK320
         clear HO329
         clear HB
         clear HO323
         have HO_303001 := n0_
         have HO_304001 := n1_
         have BK302 := n2_
         have BK303 := n3_
         have BK307 := n4_
         have BK319 := n5_
         have BK320 := n6_
         have HO329 := n7_
         have HB := n8_
         have HO326 := n9_
         clear n0_ n1_ n2_ n3_ n4_ n5_ n6_ n7_ n8_ n9_
         clear ho hb hg hat
         refine hK.out _ _ ⟨(blk_cell BK302.out 0).trans rfl, (blk_cell BK302.out 1).trans rfl⟩ (fun hHeld => ?_)
         clear hK K
         refine norm_ (a' := ?_) ?_ ?_
         rotate_left
         ·
          show Act.put _ (some 73) _ = _
          simp only [Act.put, List.setIfInBounds_toArray, List.set_cons_zero, List.set_cons_succ, i64_w, i32_w]
          rfl
         exact norm_ (by first | (simp only [putAll, Act.put, List.setIfInBounds_toArray, List.set_cons_zero, List.set_cons_succ]; done) | (simp only [putAll, Act.put, List.setIfInBounds_toArray, List.set_cons_zero, List.set_cons_succ]; rfl)) (hJ2_5_7 (v322, v325, v328) _ ⟨hHeld, (by (with_reducible repeat (first | apply Kd.R_alloc | apply Kd.R_drewN | apply Kd.R_drew)); exact Kd.R_mono HO326.out (fun _ hk => ⟨hk.2.2.1, ⟨hk.1, ⟨hk.2.1, hk.2.2.2⟩⟩⟩)), (by (with_reducible repeat (first | apply Kd.R_alloc | apply Kd.R_drewN | apply Kd.R_drew)); exact Kd.R_mono HO329.out (fun _ hk => ⟨hk.2, ⟨hk.1.1, ⟨hk.1.2.1, hk.1.2.2⟩⟩⟩)), (by (with_reducible repeat (first | apply Kd.R_alloc | apply Kd.R_drewN | apply Kd.R_drew)); exact Kd.R_mono HO_303001.out (fun _ hk => ⟨hk.2, ⟨hk.1.2.1, ⟨hk.1.1, hk.1.2.2⟩⟩⟩)), (by (with_reducible repeat (first | apply Kd.R_alloc | apply Kd.R_drewN | apply Kd.R_drew)); exact Kd.R_mono HO_304001.out (fun _ hk => ⟨hk.2, ⟨hk.1.2.1, ⟨hk.1.1, hk.1.2.2⟩⟩⟩)), (laws_FnPostBent_vb BK302), (laws_FnPostBent_vb BK303), (laws_FnPostBent_vb BK307), (laws_FnPostBent_vb BK319), (laws_FnPostBent_vb BK320), (laws_FnPostBent_auHB)⟩)
        skip
        refine box_step ?hg (N := 9) ?hd (cs := #[.int .i64 0, .slice none 0 0]) (t := 25) ?hr ?_; (case hd => rfl); (case hg => rfl); (case hr => first | (go_simp; done) | (go_simp; rfl))
        intro gb333 hg w84 hbox hb
        replace HO_303001 := Aside0.mk (Kd.R_below (lo_ HO_303001) hb)
        replace HO_304001 := Aside0.mk (Kd.R_below (lo_ HO_304001) hb)
        replace HO323 := Aside0.mk (Kd.R_below (lo_ HO323) hb)
        replace HO329 := Aside0.mk (Kd.R_below (lo_ HO329) hb)
        have BK333 := Aside0.mk (hbox)
        have GW333 := Aside0.mk ((by rw [hg]; exact (below_size (laws_FnPostBent_auHB)) : w.heap.size ≤ gb333))
        have GE333 := Aside0.mk ((by rw [hg]; exact (below_size (laws_FnPostBent_auHB)) : w.heap.size ≤ gb333))
        replace HB := Aside0.mk (below_step (laws_FnPostBent_auHB) hb)
        have NB302_333 := Aside0.mk ((by rw [hg]; exact Nat.ne_of_lt (blk_lt (g := gb302) (o := .cells #[.int .i64 t294, .slice Ao12 t295.length co12] 25 (0, 0)) (laws_FnPostBent_vb BK302)) : gb302 ≠ gb333))
        have NB333_302 := Aside0.mk ((by rw [hg]; exact Nat.ne_of_gt (blk_lt (g := gb302) (o := .cells #[.int .i64 t294, .slice Ao12 t295.length co12] 25 (0, 0)) (laws_FnPostBent_vb BK302)) : gb333 ≠ gb302))
        replace BK302 := Aside0.mk (blk_below (g := gb302) (o := .cells #[.int .i64 t294, .slice Ao12 t295.length co12] 25 (0, 0)) (laws_FnPostBent_vb BK302) hb)
        have NB303_333 := Aside0.mk ((by rw [hg]; exact Nat.ne_of_lt (blk_lt (g := gb303) (o := .cells #[.int .i64 t298, .slice Ao14 t299.length co14] 25 (0, 0)) (laws_FnPostBent_vb BK303)) : gb303 ≠ gb333))
        have NB333_303 := Aside0.mk ((by rw [hg]; exact Nat.ne_of_gt (blk_lt (g := gb303) (o := .cells #[.int .i64 t298, .slice Ao14 t299.length co14] 25 (0, 0)) (laws_FnPostBent_vb BK303)) : gb333 ≠ gb303))
        replace BK303 := Aside0.mk (blk_below (g := gb303) (o := .cells #[.int .i64 t298, .slice Ao14 t299.length co14] 25 (0, 0)) (laws_FnPostBent_vb BK303) hb)
        have NB307_333 := Aside0.mk ((by rw [hg]; exact Nat.ne_of_lt (blk_lt (g := gb307) (o := .cells #[.string t304, .int .i64 t305, .int .i64 t306] 29 (0, 0)) (laws_FnPostBent_vb BK307)) : gb307 ≠ gb333))
        have NB333_307 := Aside0.mk ((by rw [hg]; exact Nat.ne_of_gt (blk_lt (g := gb307) (o := .cells #[.string t304, .int .i64 t305, .int .i64 t306] 29 (0, 0)) (laws_FnPostBent_vb BK307)) : gb333 ≠ gb307))
        replace BK307 := Aside0.mk (blk_below (g := gb307) (o := .cells #[.string t304, .int .i64 t305, .int .i64 t306] 29 (0, 0)) (laws_FnPostBent_vb BK307) hb)
        have NB319_333 := Aside0.mk ((by rw [hg]; exact Nat.ne_of_lt (blk_lt (g := gb319) (o := .cells #[.int .i64 t294, .slice none 0 0] 25 (0, 0)) (laws_FnPostBent_vb BK319)) : gb319 ≠ gb333))
        have NB333_319 := Aside0.mk ((by rw [hg]; exact Nat.ne_of_gt (blk_lt (g := gb319) (o := .cells #[.int .i64 t294, .slice none 0 0] 25 (0, 0)) (laws_FnPostBent_vb BK319)) : gb333 ≠ gb319))
        replace BK319 := Aside0.mk (blk_below (g := gb319) (o := .cells #[.int .i64 t294, .slice none 0 0] 25 (0, 0)) (laws_FnPostBent_vb BK319) hb)
        have NB320_333 := Aside0.mk ((by rw [hg]; exact Nat.ne_of_lt (blk_lt (g := gb320) (o := .cells #[.int .i64 100, .slice Ao12 t295.length co12] 25 (0, 0)) (laws_FnPostBent_vb BK320)) : gb320 ≠ gb333))
        have NB333_320 := Aside0.mk ((by rw [hg]; exact Nat.ne_of_gt (blk_lt (g := gb320) (o := .cells #[.int .i64 100, .slice Ao12 t295.length co12] 25 (0, 0)) (laws_FnPostBent_vb BK320)) : gb333 ≠ gb320))
        replace BK320 := Aside0.mk (blk_below (g := gb320) (o := .cells #[.int .i64 100, .slice Ao12 t295.length co12] 25 (0, 0)) (laws_FnPostBent_vb BK320) hb)
        clear hb hbox hg
        refine hK.out _ _ ⟨(blk_cell BK302.out 0).trans rfl, (blk_cell BK302.out 1).trans rfl⟩ (fun hHeld => ?_)
        clear hK K
        refine norm_ (a' := ?_) ?_ ?_
        rotate_left
        ·
         show Act.put _ (some 9) _ = _
         simp only [Act.put, List.setIfInBounds_toArray, List.set_cons_zero, List.set_cons_succ, i64_w, i32_w]
         rfl
        exact norm_ (by first | (simp only [putAll, Act.put, List.setIfInBounds_toArray, List.set_cons_zero, List.set_cons_succ]; done) | (simp only [putAll, Act.put, List.setIfInBounds_toArray, List.set_cons_zero, List.set_cons_succ]; rfl)) (hJ2_7_10 (v322, v328, gb333) _ ⟨hHeld, (lo_ HO323), (lo_ HO329), (lo_ HO_303001), (lo_ HO_304001), (laws_FnPostBent_vb BK302), (laws_FnPostBent_vb BK303), (laws_FnPostBent_vb BK307), (laws_FnPostBent_vb BK319), (laws_FnPostBent_vb BK320), (laws_FnPostBent_vb BK333), GW333.out, GE333.out, NB302_333.out, NB333_302.out, NB303_333.out, NB333_303.out, NB307_333.out, NB333_307.out, NB319_333.out, NB333_319.out, NB320_333.out, NB333_320.out, (laws_FnPostBent_auHB)⟩)
       skip
       rintro ⟨v322, v325⟩ w82 ⟨hS_, h0_, h1_, h2_, h3_, h4_, h5_, h6_, h7_, h8_⟩
       have n0_ : Aside0 (Kd.R k29 29 w82 w.heap.size (fun k_ => some k_ ≠ (.slice Ao12 t295.length co12 : Value).ownBlock ∧ some k_ ≠ (.slice Ao14 t299.length co14 : Value).ownBlock ∧ k_ ≠ gb307) v325 y324) := ⟨h0_⟩
       have n1_ : Aside0 (Kd.R k29 29 w82 w.heap.size (fun k_ => some k_ ≠ (v325 : Value).ownBlock ∧ some k_ ≠ (.slice Ao14 t299.length co14 : Value).ownBlock ∧ k_ ≠ gb307) (.slice Ao12 t295.length co12) t295) := ⟨h1_⟩
       have n2_ : Aside0 (Kd.R k29 29 w82 w.heap.size (fun k_ => some k_ ≠ (v325 : Value).ownBlock ∧ some k_ ≠ (.slice Ao12 t295.length co12 : Value).ownBlock ∧ k_ ≠ gb307) (.slice Ao14 t299.length co14) t299) := ⟨h2_⟩
       have n3_ : Aside0 (w82.heap[gb302]? = some (.cells #[.int .i64 t294, .slice Ao12 t295.length co12] 25 (0, 0))) := ⟨h3_⟩
       have n4_ : Aside0 (w82.heap[gb303]? = some (.cells #[.int .i64 t298, .slice Ao14 t299.length co14] 25 (0, 0))) := ⟨h4_⟩
       have n5_ : Aside0 (w82.heap[gb307]? = some (.cells #[.string t304, .int .i64 t305, .int .i64 t306] 29 (0, 0))) := ⟨h5_⟩
       have n6_ : Aside0 (w82.heap[gb319]? = some (.cells #[.int .i64 t294, .slice none 0 0] 25 (0, 0))) := ⟨h6_⟩
       have n7_ : Aside0 (w82.heap[gb320]? = some (.cells #[.int .i64 100, .slice Ao12 t295.length co12] 25 (0, 0))) := ⟨h7_⟩
       have n8_ : Aside0 (Below w.heap.size w w82) := ⟨h8_⟩
       clear HO_303001
       clear HO_304001
       clear BK302
       clear BK303
       clear BK307
       clear BK319
       clear BK320
       clear HB
       clear h0_ h1_ h2_ h3_ h4_ h5_ h6_ h7_ h8_
       have HO326 := n0_
       have HO_303001 := n1_
       have HO_304001 := n2_
       have BK302 := n3_
       have BK303 := n4_
       have BK307 := n5_
       have BK319 := n6_
       have BK320 := n7_
       have HB := n8_
       clear n0_ n1_ n2_ n3_ n4_ n5_ n6_ n7_ n8_
       have hHeld : w82.cell? ⟨gb302, 0, none⟩ = some (.int .i64 t294) ∧ w82.cell? ⟨gb302, 1, none⟩ = some (.slice Ao12 t295.length co12) := hS_
       refine norm_ (a' := ?_) ?_ ?_
       rotate_left
       ·
        simp only [putAll, Act.put, List.setIfInBounds_toArray, List.set_cons_zero, List.set_cons_succ]
        rfl
       refine two_ (i := 7) (j := 10) (Ni := some 75) (Nj := some 9) #[true, true, true, true, true, true, true, true, false, false, false, false] #[true, true, true, true, true, true, true, false, false, false, true, false] rfl rfl rfl rfl (two_of HT_.out (by kernel_rfl)) (by decide) (by decide) (fun K hK => ?_) (fun K hK => ?_)
       ·
        skip
        refine Kd.R_lit_step k29 _ 29 ?hg (N := 75) ?hd (xs := ([(⟨(⟨#[97]⟩ : ByteArray), 1, 0⟩ : S29)] : List (S29))) (inner := [.string (⟨#[97]⟩ : ByteArray), .int .i64 1, .int .i64 0]) (ok := fun _ => True) (okp := fun _ => True) ?hr ?hp (fun _ hk => hk) trivial (Below.refl _ _) (Nat.le_refl _) (by simp) ?_; (case hd => rfl); (case hg => rfl); (case hr => first | (go_simp; done) | (go_simp; rfl)); (case hp => exact (Reps.c3 (show Kd.M k29 _ _ _ (⟨(⟨#[97]⟩ : ByteArray), 1, 0⟩ : S29) [.string (⟨#[97]⟩ : ByteArray), .int .i64 1, .int .i64 0] from (k29_mkM _ _ _ (⟨(⟨#[97]⟩ : ByteArray), 1, 0⟩ : S29) )) (Reps.none _ _)))
        intro v328 w83 ho84 hb hg_ hnew_
        clear hg_ hnew_
        (first | rw [← Ny327.out] at ho84 | (simp only [Int.reduceToNat] at ho84; rw [← Ny327.out] at ho84))
        have HO329 := Aside0.mk (Kd.R_lower (Kd.R_newB (Kd.R_new' (Kd.R_new' (Kd.R_new' ho84 (Kd.R_lt (lo_ HO_303001))) (Kd.R_lt (lo_ HO_304001))) (Kd.R_lt (lo_ HO326))) (g := gb307) (o := .cells #[.string t304, .int .i64 t305, .int .i64 t306] 29 (0, 0)) (laws_FnPostBent_vb BK307)) (below_size (laws_FnPostBent_auHB)))
        replace HO_303001 := Aside0.mk (Kd.R_elder' (lo_ HO_303001) (Kd.R_base ho84) hb)
        replace HO_304001 := Aside0.mk (Kd.R_elder' (lo_ HO_304001) (Kd.R_base ho84) hb)
        replace HO326 := Aside0.mk (Kd.R_elder' (lo_ HO326) (Kd.R_base ho84) hb)
        replace BK302 := Aside0.mk (blk_below (g := gb302) (o := .cells #[.int .i64 t294, .slice Ao12 t295.length co12] 25 (0, 0)) (laws_FnPostBent_vb BK302) hb)
        replace BK303 := Aside0.mk (blk_below (g := gb303) (o := .cells #[.int .i64 t298, .slice Ao14 t299.length co14] 25 (0, 0)) (laws_FnPostBent_vb BK303) hb)
        replace BK307 := Aside0.mk (blk_below (g := gb307) (o := .cells #[.string t304, .int .i64 t305, .int .i64 t306] 29 (0, 0)) (laws_FnPostBent_vb BK307) hb)
        replace BK319 := Aside0.mk (blk_below (g := gb319) (o := .cells #[.int .i64 t294, .slice none 0 0] 25 (0, 0)) (laws_FnPostBent_vb BK319) hb)
        replace BK320 := Aside0.mk (blk_below (g := gb320) (o := .cells #[.int .i64 100, .slice Ao12 t295.length co12] 25 (0, 0)) (laws_FnPostBent_vb BK320) hb)
        replace HB := Aside0.mk (below_step (laws_FnPostBent_auHB) hb)
        clear hb ho84
        refine hK.out _ _ ⟨(blk_cell BK302.out 0).trans rfl, (blk_cell BK302.out 1).trans rfl⟩ (fun hHeld => ?_)
        clear hK K
        refine norm_ (a' := ?_) ?_ ?_
        rotate_left
        ·
         show Act.put _ (some 75) _ = _
         simp only [Act.put, List.setIfInBounds_toArray, List.set_cons_zero, List.set_cons_succ, i64_w, i32_w]
         rfl
        exact norm_ (by first | (simp only [putAll, Act.put, List.setIfInBounds_toArray, List.set_cons_zero, List.set_cons_succ]; done) | (simp only [putAll, Act.put, List.setIfInBounds_toArray, List.set_cons_zero, List.set_cons_succ]; rfl)) (hJ2_5_7 (v322, v325, v328) _ ⟨hHeld, (by (with_reducible repeat (first | apply Kd.R_alloc | apply Kd.R_drewN | apply Kd.R_drew)); exact Kd.R_mono HO326.out (fun _ hk => ⟨hk.2, ⟨hk.1.1, ⟨hk.1.2.1, hk.1.2.2⟩⟩⟩)), (by (with_reducible repeat (first | apply Kd.R_alloc | apply Kd.R_drewN | apply Kd.R_drew)); exact Kd.R_mono HO329.out (fun _ hk => ⟨hk.1.2, ⟨hk.1.1.1.2, ⟨hk.1.1.2, hk.2⟩⟩⟩)), (by (with_reducible repeat (first | apply Kd.R_alloc | apply Kd.R_drewN | apply Kd.R_drew)); exact Kd.R_mono HO_303001.out (fun _ hk => ⟨hk.1.1, ⟨hk.2, ⟨hk.1.2.1, hk.1.2.2⟩⟩⟩)), (by (with_reducible repeat (first | apply Kd.R_alloc | apply Kd.R_drewN | apply Kd.R_drew)); exact Kd.R_mono HO_304001.out (fun _ hk => ⟨hk.1.1, ⟨hk.2, ⟨hk.1.2.1, hk.1.2.2⟩⟩⟩)), (laws_FnPostBent_vb BK302), (laws_FnPostBent_vb BK303), (laws_FnPostBent_vb BK307), (laws_FnPostBent_vb BK319), (laws_FnPostBent_vb BK320), (laws_FnPostBent_auHB)⟩)
       skip
       refine box_step ?hg (N := 9) ?hd (cs := #[.int .i64 0, .slice none 0 0]) (t := 25) ?hr ?_; (case hd => rfl); (case hg => rfl); (case hr => first | (go_simp; done) | (go_simp; rfl))
       intro gb333 hg w83 hbox hb
       replace HO_303001 := Aside0.mk (Kd.R_below (lo_ HO_303001) hb)
       replace HO_304001 := Aside0.mk (Kd.R_below (lo_ HO_304001) hb)
       replace HO326 := Aside0.mk (Kd.R_below (lo_ HO326) hb)
       have BK333 := Aside0.mk (hbox)
       have GW333 := Aside0.mk ((by rw [hg]; exact (below_size (laws_FnPostBent_auHB)) : w.heap.size ≤ gb333))
       have GE333 := Aside0.mk ((by rw [hg]; exact (below_size (laws_FnPostBent_auHB)) : w.heap.size ≤ gb333))
       replace HB := Aside0.mk (below_step (laws_FnPostBent_auHB) hb)
       have NB302_333 := Aside0.mk ((by rw [hg]; exact Nat.ne_of_lt (blk_lt (g := gb302) (o := .cells #[.int .i64 t294, .slice Ao12 t295.length co12] 25 (0, 0)) (laws_FnPostBent_vb BK302)) : gb302 ≠ gb333))
       have NB333_302 := Aside0.mk ((by rw [hg]; exact Nat.ne_of_gt (blk_lt (g := gb302) (o := .cells #[.int .i64 t294, .slice Ao12 t295.length co12] 25 (0, 0)) (laws_FnPostBent_vb BK302)) : gb333 ≠ gb302))
       replace BK302 := Aside0.mk (blk_below (g := gb302) (o := .cells #[.int .i64 t294, .slice Ao12 t295.length co12] 25 (0, 0)) (laws_FnPostBent_vb BK302) hb)
       have NB303_333 := Aside0.mk ((by rw [hg]; exact Nat.ne_of_lt (blk_lt (g := gb303) (o := .cells #[.int .i64 t298, .slice Ao14 t299.length co14] 25 (0, 0)) (laws_FnPostBent_vb BK303)) : gb303 ≠ gb333))
       have NB333_303 := Aside0.mk ((by rw [hg]; exact Nat.ne_of_gt (blk_lt (g := gb303) (o := .cells #[.int .i64 t298, .slice Ao14 t299.length co14] 25 (0, 0)) (laws_FnPostBent_vb BK303)) : gb333 ≠ gb303))
       replace BK303 := Aside0.mk (blk_below (g := gb303) (o := .cells #[.int .i64 t298, .slice Ao14 t299.length co14] 25 (0, 0)) (laws_FnPostBent_vb BK303) hb)
       have NB307_333 := Aside0.mk ((by rw [hg]; exact Nat.ne_of_lt (blk_lt (g := gb307) (o := .cells #[.string t304, .int .i64 t305, .int .i64 t306] 29 (0, 0)) (laws_FnPostBent_vb BK307)) : gb307 ≠ gb333))
       have NB333_307 := Aside0.mk ((by rw [hg]; exact Nat.ne_of_gt (blk_lt (g := gb307) (o := .cells #[.string t304, .int .i64 t305, .int .i64 t306] 29 (0, 0)) (laws_FnPostBent_vb BK307)) : gb333 ≠ gb307))
       replace BK307 := Aside0.mk (blk_below (g := gb307) (o := .cells #[.string t304, .int .i64 t305, .int .i64 t306] 29 (0, 0)) (laws_FnPostBent_vb BK307) hb)
       have NB319_333 := Aside0.mk ((by rw [hg]; exact Nat.ne_of_lt (blk_lt (g := gb319) (o := .cells #[.int .i64 t294, .slice none 0 0] 25 (0, 0)) (laws_FnPostBent_vb BK319)) : gb319 ≠ gb333))
       have NB333_319 := Aside0.mk ((by rw [hg]; exact Nat.ne_of_gt (blk_lt (g := gb319) (o := .cells #[.int .i64 t294, .slice none 0 0] 25 (0, 0)) (laws_FnPostBent_vb BK319)) : gb333 ≠ gb319))
       replace BK319 := Aside0.mk (blk_below (g := gb319) (o := .cells #[.int .i64 t294, .slice none 0 0] 25 (0, 0)) (laws_FnPostBent_vb BK319) hb)
       have NB320_333 := Aside0.mk ((by rw [hg]; exact Nat.ne_of_lt (blk_lt (g := gb320) (o := .cells #[.int .i64 100, .slice Ao12 t295.length co12] 25 (0, 0)) (laws_FnPostBent_vb BK320)) : gb320 ≠ gb333))
       have NB333_320 := Aside0.mk ((by rw [hg]; exact Nat.ne_of_gt (blk_lt (g := gb320) (o := .cells #[.int .i64 100, .slice Ao12 t295.length co12] 25 (0, 0)) (laws_FnPostBent_vb BK320)) : gb333 ≠ gb320))
       replace BK320 := Aside0.mk (blk_below (g := gb320) (o := .cells #[.int .i64 100, .slice Ao12 t295.length co12] 25 (0, 0)) (laws_FnPostBent_vb BK320) hb)
       clear hb hbox hg
       refine hK.out _ _ ⟨(blk_cell BK302.out 0).trans rfl, (blk_cell BK302.out 1).trans rfl⟩ (fun hHeld => ?_)
       clear hK K
       refine norm_ (a' := ?_) ?_ ?_
       rotate_left
       ·
        show Act.put _ (some 9) _ = _
        simp only [Act.put, List.setIfInBounds_toArray, List.set_cons_zero, List.set_cons_succ, i64_w, i32_w]
        rfl
       exact norm_ (by first | (simp only [putAll, Act.put, List.setIfInBounds_toArray, List.set_cons_zero, List.set_cons_succ]; done) | (simp only [putAll, Act.put, List.setIfInBounds_toArray, List.set_cons_zero, List.set_cons_succ]; rfl)) (hJ2_5_10 (v322, v325, gb333) _ ⟨hHeld, (lo_ HO326), (lo_ HO_303001), (lo_ HO_304001), (laws_FnPostBent_vb BK302), (laws_FnPostBent_vb BK303), (laws_FnPostBent_vb BK307), (laws_FnPostBent_vb BK319), (laws_FnPostBent_vb BK320), (laws_FnPostBent_vb BK333), GW333.out, GE333.out, NB302_333.out, NB333_302.out, NB303_333.out, NB333_303.out, NB307_333.out, NB333_307.out, NB319_333.out, NB333_319.out, NB320_333.out, NB333_320.out, (laws_FnPostBent_auHB)⟩)
      skip
      rintro ⟨v322, v328, gb333⟩ w84 ⟨hS_, h0_, h1_, h2_, h3_, h4_, h5_, h6_, h7_, h8_, h9_, h10_, h11_, h12_, h13_, h14_, h15_, h16_, h17_, h18_, h19_, h20_, h21_, h22_⟩
      have n0_ : Aside0 (Kd.R k29 29 w84 w.heap.size (fun k_ => some k_ ≠ (v328 : Value).ownBlock ∧ some k_ ≠ (.slice Ao12 t295.length co12 : Value).ownBlock ∧ some k_ ≠ (.slice Ao14 t299.length co14 : Value).ownBlock ∧ k_ ≠ gb307) v322 y321) := ⟨h0_⟩
      have n1_ : Aside0 (Kd.R k29 29 w84 w.heap.size (fun k_ => some k_ ≠ (v322 : Value).ownBlock ∧ some k_ ≠ (.slice Ao12 t295.length co12 : Value).ownBlock ∧ some k_ ≠ (.slice Ao14 t299.length co14 : Value).ownBlock ∧ k_ ≠ gb307) v328 y327) := ⟨h1_⟩
      have n2_ : Aside0 (Kd.R k29 29 w84 w.heap.size (fun k_ => some k_ ≠ (v322 : Value).ownBlock ∧ some k_ ≠ (v328 : Value).ownBlock ∧ some k_ ≠ (.slice Ao14 t299.length co14 : Value).ownBlock ∧ k_ ≠ gb307) (.slice Ao12 t295.length co12) t295) := ⟨h2_⟩
      have n3_ : Aside0 (Kd.R k29 29 w84 w.heap.size (fun k_ => some k_ ≠ (v322 : Value).ownBlock ∧ some k_ ≠ (v328 : Value).ownBlock ∧ some k_ ≠ (.slice Ao12 t295.length co12 : Value).ownBlock ∧ k_ ≠ gb307) (.slice Ao14 t299.length co14) t299) := ⟨h3_⟩
      have n4_ : Aside0 (w84.heap[gb302]? = some (.cells #[.int .i64 t294, .slice Ao12 t295.length co12] 25 (0, 0))) := ⟨h4_⟩
      have n5_ : Aside0 (w84.heap[gb303]? = some (.cells #[.int .i64 t298, .slice Ao14 t299.length co14] 25 (0, 0))) := ⟨h5_⟩
      have n6_ : Aside0 (w84.heap[gb307]? = some (.cells #[.string t304, .int .i64 t305, .int .i64 t306] 29 (0, 0))) := ⟨h6_⟩
      have n7_ : Aside0 (w84.heap[gb319]? = some (.cells #[.int .i64 t294, .slice none 0 0] 25 (0, 0))) := ⟨h7_⟩
      have n8_ : Aside0 (w84.heap[gb320]? = some (.cells #[.int .i64 100, .slice Ao12 t295.length co12] 25 (0, 0))) := ⟨h8_⟩
      have n9_ : Aside0 (w84.heap[gb333]? = some (.cells #[.int .i64 0, .slice none 0 0] 25 (0, 0))) := ⟨h9_⟩
      have n10_ : Aside0 (w.heap.size ≤ gb333) := ⟨h10_⟩
      have n11_ : Aside0 (w.heap.size ≤ gb333) := ⟨h11_⟩
      have n12_ : Aside0 (gb302 ≠ gb333) := ⟨h12_⟩
      have n13_ : Aside0 (gb333 ≠ gb302) := ⟨h13_⟩
      have n14_ : Aside0 (gb303 ≠ gb333) := ⟨h14_⟩
      have n15_ : Aside0 (gb333 ≠ gb303) := ⟨h15_⟩
      have n16_ : Aside0 (gb307 ≠ gb333) := ⟨h16_⟩
      have n17_ : Aside0 (gb333 ≠ gb307) := ⟨h17_⟩
      have n18_ : Aside0 (gb319 ≠ gb333) := ⟨h18_⟩
      have n19_ : Aside0 (gb333 ≠ gb319) := ⟨h19_⟩
      have n20_ : Aside0 (gb320 ≠ gb333) := ⟨h20_⟩
      have n21_ : Aside0 (gb333 ≠ gb320) := ⟨h21_⟩
      have n22_ : Aside0 (Below w.heap.size w w84) := ⟨h22_⟩
      clear HO_303001
      clear HO_304001
      clear BK302
      clear BK303
      clear BK307
      clear BK319
      clear BK320
      clear HB
      clear h0_ h1_ h2_ h3_ h4_ h5_ h6_ h7_ h8_ h9_ h10_ h11_ h12_ h13_ h14_ h15_ h16_ h17_ h18_ h19_ h20_ h21_ h22_
      have HO323 := n0_
      have HO329 := n1_
      have HO_303001 := n2_
      have HO_304001 := n3_
      have BK302 := n4_
      have BK303 := n5_
      have BK307 := n6_
      have BK319 := n7_
      have BK320 := n8_
      have BK333 := n9_
      have GW333 := n10_
      have GE333 := n11_
      have NB302_333 := n12_
      have NB333_302 := n13_
      have NB303_333 := n14_
      have NB333_303 := n15_
      have NB307_333 := n16_
      have NB333_307 := n17_
      have NB319_333 := n18_
      have NB333_319 := n19_
      have NB320_333 := n20_
      have NB333_320 := n21_
      have HB := n22_
      clear n0_ n1_ n2_ n3_ n4_ n5_ n6_ n7_ n8_ n9_ n10_ n11_ n12_ n13_ n14_ n15_ n16_ n17_ n18_ n19_ n20_ n21_ n22_
      have hHeld : w84.cell? ⟨gb302, 0, none⟩ = some (.int .i64 t294) ∧ w84.cell? ⟨gb302, 1, none⟩ = some (.slice Ao12 t295.length co12) := hS_
      refine norm_ (a' := ?_) ?_ ?_
      rotate_left
      ·
       simp only [putAll, Act.put, List.setIfInBounds_toArray, List.set_cons_zero, List.set_cons_succ]
       rfl
      refine one_ (i := 5) (N := some 73) #[true, true, true, true, true, true, true, true, false, false, true, false] rfl rfl (one_of HT_.out (by kernel_rfl)) (by decide) (fun K hK => ?_)
      refine Kd.R_append_rows_step k29 (w0 := w) w.heap.size (by rfl) (.tmp 70) (.tmp 72) 23 29 (.agg #[(.string ⟨#[]⟩), (.int .i64 0), (.int .i64 0)]) 32 rfl Try.underlying23 info29 rfl (by decide) (by omega) v322 y321 t295 _ _ _ (fun k_ => some k_ ≠ (.slice Ao12 t295.length co12 : Value).ownBlock ∧ some k_ ≠ (.slice Ao14 t299.length co14 : Value).ownBlock ∧ some k_ ≠ (v328 : Value).ownBlock ∧ k_ ≠ gb307) (fun _ => False) rfl rfl ?aO ?aR (fun _ _ h => h) (fun _ h => h.elim) ?aF ?aB ?aS ?aL ?_
      (case aR => exact co_ (Kd.R_reads' HO_303001.out).2.2)
      (case aB => exact (laws_FnPostBent_auHB))
      (case aF => exact (fun k_ hk => ⟨Kd.fresh' (Kd.R_lt (lo_ HO_303001)) k_ hk, Kd.fresh' (Kd.R_lt (lo_ HO_304001)) k_ hk, Kd.fresh' (Kd.R_lt (lo_ HO329)) k_ hk, Kd.freshB (g := gb307) (o := .cells #[.string t304, .int .i64 t305, .int .i64 t306] 29 (0, 0)) (laws_FnPostBent_vb BK307) k_ hk⟩))
      (case aO => exact (by (with_reducible repeat (first | apply Kd.R_alloc | apply Kd.R_drewN | apply Kd.R_drew)); exact Kd.R_mono HO323.out (fun _ hk => ⟨hk.2.1, ⟨hk.2.2.1, ⟨hk.1, hk.2.2.2⟩⟩⟩)))
      (case aS => exact (below_size (laws_FnPostBent_auHB)))
      (case aL => have := LMc45.out; omega)
      intro v325 w85 ho hb hg hat
      rw [← Ny324.out] at ho
      have n0_ := Aside0.mk (Kd.R_after (ok := (fun k_ => some k_ ≠ (.slice Ao14 t299.length co14 : Value).ownBlock ∧ some k_ ≠ (v328 : Value).ownBlock ∧ k_ ≠ gb307)) (by (with_reducible repeat (first | apply Kd.R_alloc | apply Kd.R_drewN | apply Kd.R_drew)); exact Kd.R_mono HO_303001.out (fun _ hk => ⟨⟨hk.2.2.1, ⟨hk.2.1, hk.2.2.2⟩⟩, hk.1⟩)) hg hat)
      have n1_ := Aside0.mk (Kd.R_after (ok := (fun k_ => some k_ ≠ (.slice Ao12 t295.length co12 : Value).ownBlock ∧ some k_ ≠ (v328 : Value).ownBlock ∧ k_ ≠ gb307)) (by (with_reducible repeat (first | apply Kd.R_alloc | apply Kd.R_drewN | apply Kd.R_drew)); exact Kd.R_mono HO_304001.out (fun _ hk => ⟨⟨hk.2.2.1, ⟨hk.2.1, hk.2.2.2⟩⟩, hk.1⟩)) hg hat)
      have n2_ := Aside0.mk (blk_grown (g := gb302) (o := .cells #[.int .i64 t294, .slice Ao12 t295.length co12] 25 (0, 0)) (laws_FnPostBent_vb BK302) hg (Kd.R_ne HO323.out BK302.out (by decide)))
      have n3_ := Aside0.mk (blk_grown (g := gb303) (o := .cells #[.int .i64 t298, .slice Ao14 t299.length co14] 25 (0, 0)) (laws_FnPostBent_vb BK303) hg (Kd.R_ne HO323.out BK303.out (by decide)))
      have n4_ := Aside0.mk (blk_grown (g := gb307) (o := .cells #[.string t304, .int .i64 t305, .int .i64 t306] 29 (0, 0)) (laws_FnPostBent_vb BK307) hg (Kd.R_away HO323.out (fun _ hk => hk.2.2.2)))
      have n5_ := Aside0.mk (blk_grown (g := gb319) (o := .cells #[.int .i64 t294, .slice none 0 0] 25 (0, 0)) (laws_FnPostBent_vb BK319) hg (Kd.R_ne HO323.out BK319.out (by decide)))
      have n6_ := Aside0.mk (blk_grown (g := gb320) (o := .cells #[.int .i64 100, .slice Ao12 t295.length co12] 25 (0, 0)) (laws_FnPostBent_vb BK320) hg (Kd.R_ne HO323.out BK320.out (by decide)))
      have n7_ := Aside0.mk (Kd.R_after (ok := (fun k_ => some k_ ≠ (.slice Ao12 t295.length co12 : Value).ownBlock ∧ some k_ ≠ (.slice Ao14 t299.length co14 : Value).ownBlock ∧ k_ ≠ gb307)) (by (with_reducible repeat (first | apply Kd.R_alloc | apply Kd.R_drewN | apply Kd.R_drew)); exact Kd.R_mono HO329.out (fun _ hk => ⟨⟨hk.2.1, ⟨hk.2.2.1, hk.2.2.2⟩⟩, hk.1⟩)) hg hat)
      have n8_ := Aside0.mk (blk_grown (g := gb333) (o := .cells #[.int .i64 0, .slice none 0 0] 25 (0, 0)) (laws_FnPostBent_vb BK333) hg (Kd.R_ne HO323.out BK333.out (by decide)))
      have n9_ := Aside0.mk (hb)
      have n10_ := Aside0.mk (ho)
      clear HO_303001
      clear HO_304001
      clear BK302
      clear BK303
      clear BK307
      clear BK319
      clear BK320
      clear HO329
      clear BK333
      clear HB
      clear HO323
      have HO_303001 := n0_
      have HO_304001 := n1_
      have BK302 := n2_
      have BK303 := n3_
      have BK307 := n4_
      have BK319 := n5_
      have BK320 := n6_
      have HO329 := n7_
      have BK333 := n8_
      have HB := n9_
      have HO326 := n10_
      clear n0_ n1_ n2_ n3_ n4_ n5_ n6_ n7_ n8_ n9_ n10_
      clear ho hb hg hat
      refine hK.out _ _ ⟨(blk_cell BK302.out 0).trans rfl, (blk_cell BK302.out 1).trans rfl⟩ (fun hHeld => ?_)
      clear hK K
      refine norm_ (a' := ?_) ?_ ?_
      rotate_left
      ·
       show Act.put _ (some 73) _ = _
       simp only [Act.put, List.setIfInBounds_toArray, List.set_cons_zero, List.set_cons_succ, i64_w, i32_w]
       rfl
      exact norm_ (by first | (simp only [putAll, Act.put, List.setIfInBounds_toArray, List.set_cons_zero, List.set_cons_succ]; done) | (simp only [putAll, Act.put, List.setIfInBounds_toArray, List.set_cons_zero, List.set_cons_succ]; rfl)) (hJ2_5_7_10 (v322, v325, v328, gb333) _ ⟨hHeld, (by (with_reducible repeat (first | apply Kd.R_alloc | apply Kd.R_drewN | apply Kd.R_drew)); exact Kd.R_mono HO326.out (fun _ hk => ⟨hk.2.2.1, ⟨hk.1, ⟨hk.2.1, hk.2.2.2⟩⟩⟩)), (by (with_reducible repeat (first | apply Kd.R_alloc | apply Kd.R_drewN | apply Kd.R_drew)); exact Kd.R_mono HO329.out (fun _ hk => ⟨hk.2, ⟨hk.1.1, ⟨hk.1.2.1, hk.1.2.2⟩⟩⟩)), (by (with_reducible repeat (first | apply Kd.R_alloc | apply Kd.R_drewN | apply Kd.R_drew)); exact Kd.R_mono HO_303001.out (fun _ hk => ⟨hk.2, ⟨hk.1.2.1, ⟨hk.1.1, hk.1.2.2⟩⟩⟩)), (by (with_reducible repeat (first | apply Kd.R_alloc | apply Kd.R_drewN | apply Kd.R_drew)); exact Kd.R_mono HO_304001.out (fun _ hk => ⟨hk.2, ⟨hk.1.2.1, ⟨hk.1.1, hk.1.2.2⟩⟩⟩)), (laws_FnPostBent_vb BK302), (laws_FnPostBent_vb BK303), (laws_FnPostBent_vb BK307), (laws_FnPostBent_vb BK319), (laws_FnPostBent_vb BK320), (laws_FnPostBent_vb BK333), GW333.out, GE333.out, NB302_333.out, NB333_302.out, NB303_333.out, NB333_303.out, NB307_333.out, NB333_307.out, NB319_333.out, NB333_319.out, NB320_333.out, NB333_320.out, (laws_FnPostBent_auHB)⟩)
     skip
     rintro ⟨v322, v325, gb333⟩ w83 ⟨hS_, h0_, h1_, h2_, h3_, h4_, h5_, h6_, h7_, h8_, h9_, h10_, h11_, h12_, h13_, h14_, h15_, h16_, h17_, h18_, h19_, h20_, h21_⟩
     have n0_ : Aside0 (Kd.R k29 29 w83 w.heap.size (fun k_ => some k_ ≠ (.slice Ao12 t295.length co12 : Value).ownBlock ∧ some k_ ≠ (.slice Ao14 t299.length co14 : Value).ownBlock ∧ k_ ≠ gb307) v325 y324) := ⟨h0_⟩
     have n1_ : Aside0 (Kd.R k29 29 w83 w.heap.size (fun k_ => some k_ ≠ (v325 : Value).ownBlock ∧ some k_ ≠ (.slice Ao14 t299.length co14 : Value).ownBlock ∧ k_ ≠ gb307) (.slice Ao12 t295.length co12) t295) := ⟨h1_⟩
     have n2_ : Aside0 (Kd.R k29 29 w83 w.heap.size (fun k_ => some k_ ≠ (v325 : Value).ownBlock ∧ some k_ ≠ (.slice Ao12 t295.length co12 : Value).ownBlock ∧ k_ ≠ gb307) (.slice Ao14 t299.length co14) t299) := ⟨h2_⟩
     have n3_ : Aside0 (w83.heap[gb302]? = some (.cells #[.int .i64 t294, .slice Ao12 t295.length co12] 25 (0, 0))) := ⟨h3_⟩
     have n4_ : Aside0 (w83.heap[gb303]? = some (.cells #[.int .i64 t298, .slice Ao14 t299.length co14] 25 (0, 0))) := ⟨h4_⟩
     have n5_ : Aside0 (w83.heap[gb307]? = some (.cells #[.string t304, .int .i64 t305, .int .i64 t306] 29 (0, 0))) := ⟨h5_⟩
     have n6_ : Aside0 (w83.heap[gb319]? = some (.cells #[.int .i64 t294, .slice none 0 0] 25 (0, 0))) := ⟨h6_⟩
     have n7_ : Aside0 (w83.heap[gb320]? = some (.cells #[.int .i64 100, .slice Ao12 t295.length co12] 25 (0, 0))) := ⟨h7_⟩
     have n8_ : Aside0 (w83.heap[gb333]? = some (.cells #[.int .i64 0, .slice none 0 0] 25 (0, 0))) := ⟨h8_⟩
     have n9_ : Aside0 (w.heap.size ≤ gb333) := ⟨h9_⟩
     have n10_ : Aside0 (w.heap.size ≤ gb333) := ⟨h10_⟩
     have n11_ : Aside0 (gb302 ≠ gb333) := ⟨h11_⟩
     have n12_ : Aside0 (gb333 ≠ gb302) := ⟨h12_⟩
     have n13_ : Aside0 (gb303 ≠ gb333) := ⟨h13_⟩
     have n14_ : Aside0 (gb333 ≠ gb303) := ⟨h14_⟩
     have n15_ : Aside0 (gb307 ≠ gb333) := ⟨h15_⟩
     have n16_ : Aside0 (gb333 ≠ gb307) := ⟨h16_⟩
     have n17_ : Aside0 (gb319 ≠ gb333) := ⟨h17_⟩
     have n18_ : Aside0 (gb333 ≠ gb319) := ⟨h18_⟩
     have n19_ : Aside0 (gb320 ≠ gb333) := ⟨h19_⟩
     have n20_ : Aside0 (gb333 ≠ gb320) := ⟨h20_⟩
     have n21_ : Aside0 (Below w.heap.size w w83) := ⟨h21_⟩
     clear HO_303001
     clear HO_304001
     clear BK302
     clear BK303
     clear BK307
     clear BK319
     clear BK320
     clear HB
     clear h0_ h1_ h2_ h3_ h4_ h5_ h6_ h7_ h8_ h9_ h10_ h11_ h12_ h13_ h14_ h15_ h16_ h17_ h18_ h19_ h20_ h21_
     have HO326 := n0_
     have HO_303001 := n1_
     have HO_304001 := n2_
     have BK302 := n3_
     have BK303 := n4_
     have BK307 := n5_
     have BK319 := n6_
     have BK320 := n7_
     have BK333 := n8_
     have GW333 := n9_
     have GE333 := n10_
     have NB302_333 := n11_
     have NB333_302 := n12_
     have NB303_333 := n13_
     have NB333_303 := n14_
     have NB307_333 := n15_
     have NB333_307 := n16_
     have NB319_333 := n17_
     have NB333_319 := n18_
     have NB320_333 := n19_
     have NB333_320 := n20_
     have HB := n21_
     clear n0_ n1_ n2_ n3_ n4_ n5_ n6_ n7_ n8_ n9_ n10_ n11_ n12_ n13_ n14_ n15_ n16_ n17_ n18_ n19_ n20_ n21_
     have hHeld : w83.cell? ⟨gb302, 0, none⟩ = some (.int .i64 t294) ∧ w83.cell? ⟨gb302, 1, none⟩ = some (.slice Ao12 t295.length co12) := hS_
     refine norm_ (a' := ?_) ?_ ?_
     rotate_left
     ·
      simp only [putAll, Act.put, List.setIfInBounds_toArray, List.set_cons_zero, List.set_cons_succ]
      rfl
     refine one_ (i := 7) (N := some 75) #[true, true, true, true, true, true, true, true, false, false, true, false] rfl rfl (one_of HT_.out (by kernel_rfl)) (by decide) (fun K hK => ?_)
     refine Kd.R_lit_step k29 _ 29 ?hg (N := 75) ?hd (xs := ([(⟨(⟨#[97]⟩ : ByteArray), 1, 0⟩ : S29)] : List (S29))) (inner := [.string (⟨#[97]⟩ : ByteArray), .int .i64 1, .int .i64 0]) (ok := fun _ => True) (okp := fun _ => True) ?hr ?hp (fun _ hk => hk) trivial (Below.refl _ _) (Nat.le_refl _) (by simp) ?_; (case hd => rfl); (case hg => rfl); (case hr => first | (go_simp; done) | (go_simp; rfl)); (case hp => exact (Reps.c3 (show Kd.M k29 _ _ _ (⟨(⟨#[97]⟩ : ByteArray), 1, 0⟩ : S29) [.string (⟨#[97]⟩ : ByteArray), .int .i64 1, .int .i64 0] from (k29_mkM _ _ _ (⟨(⟨#[97]⟩ : ByteArray), 1, 0⟩ : S29) )) (Reps.none _ _)))
     intro v328 w84 ho85 hb hg_ hnew_
     clear hg_ hnew_
     (first | rw [← Ny327.out] at ho85 | (simp only [Int.reduceToNat] at ho85; rw [← Ny327.out] at ho85))
     have HO329 := Aside0.mk (Kd.R_lower (Kd.R_newB (Kd.R_new' (Kd.R_new' (Kd.R_new' ho85 (Kd.R_lt (lo_ HO_303001))) (Kd.R_lt (lo_ HO_304001))) (Kd.R_lt (lo_ HO326))) (g := gb307) (o := .cells #[.string t304, .int .i64 t305, .int .i64 t306] 29 (0, 0)) (laws_FnPostBent_vb BK307)) (below_size (laws_FnPostBent_auHB)))
     replace HO_303001 := Aside0.mk (Kd.R_elder' (lo_ HO_303001) (Kd.R_base ho85) hb)
     replace HO_304001 := Aside0.mk (Kd.R_elder' (lo_ HO_304001) (Kd.R_base ho85) hb)
     replace HO326 := Aside0.mk (Kd.R_elder' (lo_ HO326) (Kd.R_base ho85) hb)
     replace BK302 := Aside0.mk (blk_below (g := gb302) (o := .cells #[.int .i64 t294, .slice Ao12 t295.length co12] 25 (0, 0)) (laws_FnPostBent_vb BK302) hb)
     replace BK303 := Aside0.mk (blk_below (g := gb303) (o := .cells #[.int .i64 t298, .slice Ao14 t299.length co14] 25 (0, 0)) (laws_FnPostBent_vb BK303) hb)
     replace BK307 := Aside0.mk (blk_below (g := gb307) (o := .cells #[.string t304, .int .i64 t305, .int .i64 t306] 29 (0, 0)) (laws_FnPostBent_vb BK307) hb)
     replace BK319 := Aside0.mk (blk_below (g := gb319) (o := .cells #[.int .i64 t294, .slice none 0 0] 25 (0, 0)) (laws_FnPostBent_vb BK319) hb)
     replace BK320 := Aside0.mk (blk_below (g := gb320) (o := .cells #[.int .i64 100, .slice Ao12 t295.length co12] 25 (0, 0)) (laws_FnPostBent_vb BK320) hb)
     replace BK333 := Aside0.mk (blk_below (g := gb333) (o := .cells #[.int .i64 0, .slice none 0 0] 25 (0, 0)) (laws_FnPostBent_vb BK333) hb)
     replace HB := Aside0.mk (below_step (laws_FnPostBent_auHB) hb)
     clear hb ho85
     refine hK.out _ _ ⟨(blk_cell BK302.out 0).trans rfl, (blk_cell BK302.out 1).trans rfl⟩ (fun hHeld => ?_)
     clear hK K
     refine norm_ (a' := ?_) ?_ ?_
     rotate_left
     ·
      show Act.put _ (some 75) _ = _
      simp only [Act.put, List.setIfInBounds_toArray, List.set_cons_zero, List.set_cons_succ, i64_w, i32_w]
      rfl
     exact norm_ (by first | (simp only [putAll, Act.put, List.setIfInBounds_toArray, List.set_cons_zero, List.set_cons_succ]; done) | (simp only [putAll, Act.put, List.setIfInBounds_toArray, List.set_cons_zero, List.set_cons_succ]; rfl)) (hJ2_5_7_10 (v322, v325, v328, gb333) _ ⟨hHeld, (by (with_reducible repeat (first | apply Kd.R_alloc | apply Kd.R_drewN | apply Kd.R_drew)); exact Kd.R_mono HO326.out (fun _ hk => ⟨hk.2, ⟨hk.1.1, ⟨hk.1.2.1, hk.1.2.2⟩⟩⟩)), (by (with_reducible repeat (first | apply Kd.R_alloc | apply Kd.R_drewN | apply Kd.R_drew)); exact Kd.R_mono HO329.out (fun _ hk => ⟨hk.1.2, ⟨hk.1.1.1.2, ⟨hk.1.1.2, hk.2⟩⟩⟩)), (by (with_reducible repeat (first | apply Kd.R_alloc | apply Kd.R_drewN | apply Kd.R_drew)); exact Kd.R_mono HO_303001.out (fun _ hk => ⟨hk.1.1, ⟨hk.2, ⟨hk.1.2.1, hk.1.2.2⟩⟩⟩)), (by (with_reducible repeat (first | apply Kd.R_alloc | apply Kd.R_drewN | apply Kd.R_drew)); exact Kd.R_mono HO_304001.out (fun _ hk => ⟨hk.1.1, ⟨hk.2, ⟨hk.1.2.1, hk.1.2.2⟩⟩⟩)), (laws_FnPostBent_vb BK302), (laws_FnPostBent_vb BK303), (laws_FnPostBent_vb BK307), (laws_FnPostBent_vb BK319), (laws_FnPostBent_vb BK320), (laws_FnPostBent_vb BK333), GW333.out, GE333.out, NB302_333.out, NB333_302.out, NB303_333.out, NB333_303.out, NB307_333.out, NB333_307.out, NB319_333.out, NB333_319.out, NB320_333.out, NB333_320.out, (laws_FnPostBent_auHB)⟩)
    skip
    rintro ⟨v322, v325, v328⟩ w84 ⟨hS_, h0_, h1_, h2_, h3_, h4_, h5_, h6_, h7_, h8_, h9_⟩
    have n0_ : Aside0 (Kd.R k29 29 w84 w.heap.size (fun k_ => some k_ ≠ (v328 : Value).ownBlock ∧ some k_ ≠ (.slice Ao12 t295.length co12 : Value).ownBlock ∧ some k_ ≠ (.slice Ao14 t299.length co14 : Value).ownBlock ∧ k_ ≠ gb307) v325 y324) := ⟨h0_⟩
    have n1_ : Aside0 (Kd.R k29 29 w84 w.heap.size (fun k_ => some k_ ≠ (v325 : Value).ownBlock ∧ some k_ ≠ (.slice Ao12 t295.length co12 : Value).ownBlock ∧ some k_ ≠ (.slice Ao14 t299.length co14 : Value).ownBlock ∧ k_ ≠ gb307) v328 y327) := ⟨h1_⟩
    have n2_ : Aside0 (Kd.R k29 29 w84 w.heap.size (fun k_ => some k_ ≠ (v325 : Value).ownBlock ∧ some k_ ≠ (v328 : Value).ownBlock ∧ some k_ ≠ (.slice Ao14 t299.length co14 : Value).ownBlock ∧ k_ ≠ gb307) (.slice Ao12 t295.length co12) t295) := ⟨h2_⟩
    have n3_ : Aside0 (Kd.R k29 29 w84 w.heap.size (fun k_ => some k_ ≠ (v325 : Value).ownBlock ∧ some k_ ≠ (v328 : Value).ownBlock ∧ some k_ ≠ (.slice Ao12 t295.length co12 : Value).ownBlock ∧ k_ ≠ gb307) (.slice Ao14 t299.length co14) t299) := ⟨h3_⟩
    have n4_ : Aside0 (w84.heap[gb302]? = some (.cells #[.int .i64 t294, .slice Ao12 t295.length co12] 25 (0, 0))) := ⟨h4_⟩
    have n5_ : Aside0 (w84.heap[gb303]? = some (.cells #[.int .i64 t298, .slice Ao14 t299.length co14] 25 (0, 0))) := ⟨h5_⟩
    have n6_ : Aside0 (w84.heap[gb307]? = some (.cells #[.string t304, .int .i64 t305, .int .i64 t306] 29 (0, 0))) := ⟨h6_⟩
    have n7_ : Aside0 (w84.heap[gb319]? = some (.cells #[.int .i64 t294, .slice none 0 0] 25 (0, 0))) := ⟨h7_⟩
    have n8_ : Aside0 (w84.heap[gb320]? = some (.cells #[.int .i64 100, .slice Ao12 t295.length co12] 25 (0, 0))) := ⟨h8_⟩
    have n9_ : Aside0 (Below w.heap.size w w84) := ⟨h9_⟩
    clear HO_303001
    clear HO_304001
    clear BK302
    clear BK303
    clear BK307
    clear BK319
    clear BK320
    clear HB
    clear h0_ h1_ h2_ h3_ h4_ h5_ h6_ h7_ h8_ h9_
    have HO326 := n0_
    have HO329 := n1_
    have HO_303001 := n2_
    have HO_304001 := n3_
    have BK302 := n4_
    have BK303 := n5_
    have BK307 := n6_
    have BK319 := n7_
    have BK320 := n8_
    have HB := n9_
    clear n0_ n1_ n2_ n3_ n4_ n5_ n6_ n7_ n8_ n9_
    have hHeld : w84.cell? ⟨gb302, 0, none⟩ = some (.int .i64 t294) ∧ w84.cell? ⟨gb302, 1, none⟩ = some (.slice Ao12 t295.length co12) := hS_
    obtain ⟨Ao86, co86, eo86⟩ := Kd.R_slice HO329.out
    (first | subst eo86 | (injection eo86 with f1_ f2_ f3_; have f4_ := f1_.symm; have f5_ := f3_.symm; clear f1_ f2_ f3_; subst f4_; subst f5_))
    refine norm_ (a' := ?_) ?_ ?_
    rotate_left
    ·
     simp only [putAll, Act.put, List.setIfInBounds_toArray, List.set_cons_zero, List.set_cons_succ]
     rfl
    refine two_ (i := 8) (j := 10) (Ni := some 76) (Nj := some 9) #[true, true, true, true, true, true, true, true, true, false, false, false] #[true, true, true, true, true, true, true, true, false, false, true, false] rfl rfl rfl rfl (two_of HT_.out (by kernel_rfl)) (by decide) (by decide) (fun K hK => ?_) (fun K hK => ?_)
    ·
     skip
     refine Kd.R_append_rows_step k29 (w0 := w) w.heap.size (by rfl) (.tmp 73) (.tmp 75) 23 29 (.agg #[(.string ⟨#[]⟩), (.int .i64 0), (.int .i64 0)]) 32 rfl Try.underlying23 info29 rfl (by decide) (by omega) v325 y324 y327 _ _ _ (fun k_ => some k_ ≠ (.slice Ao12 t295.length co12 : Value).ownBlock ∧ some k_ ≠ (.slice Ao14 t299.length co14 : Value).ownBlock ∧ some k_ ≠ (.slice Ao86 y327.length co86 : Value).ownBlock ∧ k_ ≠ gb307) (fun _ => False) rfl rfl ?aO ?aR (fun _ _ h => h) (fun _ h => h.elim) ?aF ?aB ?aS ?aL ?_
     (case aR => exact co_ (Kd.R_reads' HO329.out).2.2)
     (case aB => exact (laws_FnPostBent_auHB))
     (case aF => exact (fun k_ hk => ⟨Kd.fresh' (Kd.R_lt (lo_ HO_303001)) k_ hk, Kd.fresh' (Kd.R_lt (lo_ HO_304001)) k_ hk, Kd.fresh' (Kd.R_lt (lo_ HO329)) k_ hk, Kd.freshB (g := gb307) (o := .cells #[.string t304, .int .i64 t305, .int .i64 t306] 29 (0, 0)) (laws_FnPostBent_vb BK307) k_ hk⟩))
     (case aO => exact (by (with_reducible repeat (first | apply Kd.R_alloc | apply Kd.R_drewN | apply Kd.R_drew)); exact Kd.R_mono HO326.out (fun _ hk => ⟨hk.2.1, ⟨hk.2.2.1, ⟨hk.1, hk.2.2.2⟩⟩⟩)))
     (case aS => exact (below_size (laws_FnPostBent_auHB)))
     (case aL => have := LMc46.out; omega)
     intro v331 w85 ho hb hg hat
     rw [← Ny330.out] at ho
     have n0_ := Aside0.mk (Kd.R_after (ok := (fun k_ => some k_ ≠ (.slice Ao14 t299.length co14 : Value).ownBlock ∧ some k_ ≠ (.slice Ao86 y327.length co86 : Value).ownBlock ∧ k_ ≠ gb307)) (by (with_reducible repeat (first | apply Kd.R_alloc | apply Kd.R_drewN | apply Kd.R_drew)); exact Kd.R_mono HO_303001.out (fun _ hk => ⟨⟨hk.2.2.1, ⟨hk.2.1, hk.2.2.2⟩⟩, hk.1⟩)) hg hat)
     have n1_ := Aside0.mk (Kd.R_after (ok := (fun k_ => some k_ ≠ (.slice Ao12 t295.length co12 : Value).ownBlock ∧ some k_ ≠ (.slice Ao86 y327.length co86 : Value).ownBlock ∧ k_ ≠ gb307)) (by (with_reducible repeat (first | apply Kd.R_alloc | apply Kd.R_drewN | apply Kd.R_drew)); exact Kd.R_mono HO_304001.out (fun _ hk => ⟨⟨hk.2.2.1, ⟨hk.2.1, hk.2.2.2⟩⟩, hk.1⟩)) hg hat)
     have n2_ := Aside0.mk (blk_grown (g := gb302) (o := .cells #[.int .i64 t294, .slice Ao12 t295.length co12] 25 (0, 0)) (laws_FnPostBent_vb BK302) hg (Kd.R_ne HO326.out BK302.out (by decide)))
     have n3_ := Aside0.mk (blk_grown (g := gb303) (o := .cells #[.int .i64 t298, .slice Ao14 t299.length co14] 25 (0, 0)) (laws_FnPostBent_vb BK303) hg (Kd.R_ne HO326.out BK303.out (by decide)))
     have n4_ := Aside0.mk (blk_grown (g := gb307) (o := .cells #[.string t304, .int .i64 t305, .int .i64 t306] 29 (0, 0)) (laws_FnPostBent_vb BK307) hg (Kd.R_away HO326.out (fun _ hk => hk.2.2.2)))
     have n5_ := Aside0.mk (blk_grown (g := gb319) (o := .cells #[.int .i64 t294, .slice none 0 0] 25 (0, 0)) (laws_FnPostBent_vb BK319) hg (Kd.R_ne HO326.out BK319.out (by decide)))
     have n6_ := Aside0.mk (blk_grown (g := gb320) (o := .cells #[.int .i64 100, .slice Ao12 t295.length co12] 25 (0, 0)) (laws_FnPostBent_vb BK320) hg (Kd.R_ne HO326.out BK320.out (by decide)))
     have n7_ := Aside0.mk (Kd.R_after (ok := (fun k_ => some k_ ≠ (.slice Ao12 t295.length co12 : Value).ownBlock ∧ some k_ ≠ (.slice Ao14 t299.length co14 : Value).ownBlock ∧ k_ ≠ gb307)) (by (with_reducible repeat (first | apply Kd.R_alloc | apply Kd.R_drewN | apply Kd.R_drew)); exact Kd.R_mono HO329.out (fun _ hk => ⟨⟨hk.2.1, ⟨hk.2.2.1, hk.2.2.2⟩⟩, hk.1⟩)) hg hat)
     have n8_ := Aside0.mk (hb)
     have n9_ := Aside0.mk (ho)
     clear HO_303001
     clear HO_304001
     clear BK302
     clear BK303
     clear BK307
     clear BK319
     clear BK320
     clear HO329
     clear HB
     clear HO326
     have HO_303001 := n0_
     have HO_304001 := n1_
     have BK302 := n2_
     have BK303 := n3_
     have BK307 := n4_
     have BK319 := n5_
     have BK320 := n6_
     have HO329 := n7_
     have HB := n8_
     have HO332 := n9_
     clear n0_ n1_ n2_ n3_ n4_ n5_ n6_ n7_ n8_ n9_
     clear ho hb hg hat
     obtain ⟨Ao87, co87, eo87⟩ := Kd.R_slice HO332.out
     (first | subst eo87 | (injection eo87 with f1_ f2_ f3_; have f4_ := f1_.symm; have f5_ := f3_.symm; clear f1_ f2_ f3_; subst f4_; subst f5_))
     refine hK.out _ _ ⟨(blk_cell BK302.out 0).trans rfl, (blk_cell BK302.out 1).trans rfl⟩ (fun hHeld => ?_)
     clear hK K
     refine norm_ (a' := ?_) ?_ ?_
     rotate_left
     ·
      show Act.put _ (some 76) _ = _
      simp only [Act.put, List.setIfInBounds_toArray, List.set_cons_zero, List.set_cons_succ, i64_w, i32_w]
      rfl
     refine pu_ 9 (some 77) HT_ rfl rfl (by go_simp; rfl) (by kernel_rfl) rfl (by intro w'; go_simp; with_reducible rfl) (fun _ _ _ h => h) (by go_simp; rfl) ?_
     exact norm_ (by first | (simp only [putAll, Act.put, List.setIfInBounds_toArray, List.set_cons_zero, List.set_cons_succ]; done) | (simp only [putAll, Act.put, List.setIfInBounds_toArray, List.set_cons_zero, List.set_cons_succ]; rfl)) (hJ2_5_7_8 (v322, v325, .slice Ao86 y327.length co86, .slice Ao87 y330.length co87) _ ⟨hHeld, (by (with_reducible repeat (first | apply Kd.R_alloc | apply Kd.R_drewN | apply Kd.R_drew)); exact Kd.R_mono HO329.out (fun _ hk => ⟨hk.2, ⟨hk.1.1, ⟨hk.1.2.1, hk.1.2.2⟩⟩⟩)), (by (with_reducible repeat (first | apply Kd.R_alloc | apply Kd.R_drewN | apply Kd.R_drew)); exact Kd.R_mono HO332.out (fun _ hk => ⟨hk.2.2.1, ⟨hk.1, ⟨hk.2.1, hk.2.2.2⟩⟩⟩)), (by (with_reducible repeat (first | apply Kd.R_alloc | apply Kd.R_drewN | apply Kd.R_drew)); exact Kd.R_mono HO_303001.out (fun _ hk => ⟨hk.1.2.1, ⟨hk.2, ⟨hk.1.1, hk.1.2.2⟩⟩⟩)), (by (with_reducible repeat (first | apply Kd.R_alloc | apply Kd.R_drewN | apply Kd.R_drew)); exact Kd.R_mono HO_304001.out (fun _ hk => ⟨hk.1.2.1, ⟨hk.2, ⟨hk.1.1, hk.1.2.2⟩⟩⟩)), (laws_FnPostBent_vb BK302), (laws_FnPostBent_vb BK303), (laws_FnPostBent_vb BK307), (laws_FnPostBent_vb BK319), (laws_FnPostBent_vb BK320), (laws_FnPostBent_auHB)⟩)
    skip
    refine box_step ?hg (N := 9) ?hd (cs := #[.int .i64 0, .slice none 0 0]) (t := 25) ?hr ?_; (case hd => rfl); (case hg => rfl); (case hr => first | (go_simp; done) | (go_simp; rfl))
    intro gb333 hg w85 hbox hb
    replace HO_303001 := Aside0.mk (Kd.R_below (lo_ HO_303001) hb)
    replace HO_304001 := Aside0.mk (Kd.R_below (lo_ HO_304001) hb)
    replace HO326 := Aside0.mk (Kd.R_below (lo_ HO326) hb)
    replace HO329 := Aside0.mk (Kd.R_below (lo_ HO329) hb)
    have BK333 := Aside0.mk (hbox)
    have GW333 := Aside0.mk ((by rw [hg]; exact (below_size (laws_FnPostBent_auHB)) : w.heap.size ≤ gb333))
    have GE333 := Aside0.mk ((by rw [hg]; exact (below_size (laws_FnPostBent_auHB)) : w.heap.size ≤ gb333))
    replace HB := Aside0.mk (below_step (laws_FnPostBent_auHB) hb)
    have NB302_333 := Aside0.mk ((by rw [hg]; exact Nat.ne_of_lt (blk_lt (g := gb302) (o := .cells #[.int .i64 t294, .slice Ao12 t295.length co12] 25 (0, 0)) (laws_FnPostBent_vb BK302)) : gb302 ≠ gb333))
    have NB333_302 := Aside0.mk ((by rw [hg]; exact Nat.ne_of_gt (blk_lt (g := gb302) (o := .cells #[.int .i64 t294, .slice Ao12 t295.length co12] 25 (0, 0)) (laws_FnPostBent_vb BK302)) : gb333 ≠ gb302))
    replace BK302 := Aside0.mk (blk_below (g := gb302) (o := .cells #[.int .i64 t294, .slice Ao12 t295.length co12] 25 (0, 0)) (laws_FnPostBent_vb BK302) hb)
    have NB303_333 := Aside0.mk ((by rw [hg]; exact Nat.ne_of_lt (blk_lt (g := gb303) (o := .cells #[.int .i64 t298, .slice Ao14 t299.length co14] 25 (0, 0)) (laws_FnPostBent_vb BK303)) : gb303 ≠ gb333))
    have NB333_303 := Aside0.mk ((by rw [hg]; exact Nat.ne_of_gt (blk_lt (g := gb303) (o := .cells #[.int .i64 t298, .slice Ao14 t299.length co14] 25 (0, 0)) (laws_FnPostBent_vb BK303)) : gb333 ≠ gb303))
    replace BK303 := Aside0.mk (blk_below (g := gb303) (o := .cells #[.int .i64 t298, .slice Ao14 t299.length co14] 25 (0, 0)) (laws_FnPostBent_vb BK303) hb)
    have NB307_333 := Aside0.mk ((by rw [hg]; exact Nat.ne_of_lt (blk_lt (g := gb307) (o := .cells #[.string t304, .int .i64 t305, .int .i64 t306] 29 (0, 0)) (laws_FnPostBent_vb BK307)) : gb307 ≠ gb333))
    have NB333_307 := Aside0.mk ((by rw [hg]; exact Nat.ne_of_gt (blk_lt (g := gb307) (o := .cells #[.string t304, .int .i64 t305, .int .i64 t306] 29 (0, 0)) (laws_FnPostBent_vb BK307)) : gb333 ≠ gb307))
    replace BK307 := Aside0.mk (blk_below (g := gb307) (o := .cells #[.string t304, .int .i64 t305, .int .i64 t306] 29 (0, 0)) (laws_FnPostBent_vb BK307) hb)
    have NB319_333 := Aside0.mk ((by rw [hg]; exact Nat.ne_of_lt (blk_lt (g := gb319) (o := .cells #[.int .i64 t294, .slice none 0 0] 25 (0, 0)) (laws_FnPostBent_vb BK319)) : gb319 ≠ gb333))
    have NB333_319 := Aside0.mk ((by rw [hg]; exact Nat.ne_of_gt (blk_lt (g := gb319) (o := .cells #[.int .i64 t294, .slice none 0 0] 25 (0, 0)) (laws_FnPostBent_vb BK319)) : gb333 ≠ gb319))
    replace BK319 := Aside0.mk (blk_below (g := gb319) (o := .cells #[.int .i64 t294, .slice none 0 0] 25 (0, 0)) (laws_FnPostBent_vb BK319) hb)
    have NB320_333 := Aside0.mk ((by rw [hg]; exact Nat.ne_of_lt (blk_lt (g := gb320) (o := .cells #[.int .i64 100, .slice Ao12 t295.length co12] 25 (0, 0)) (laws_FnPostBent_vb BK320)) : gb320 ≠ gb333))
    have NB333_320 := Aside0.mk ((by rw [hg]; exact Nat.ne_of_gt (blk_lt (g := gb320) (o := .cells #[.int .i64 100, .slice Ao12 t295.length co12] 25 (0, 0)) (laws_FnPostBent_vb BK320)) : gb333 ≠ gb320))
    replace BK320 := Aside0.mk (blk_below (g := gb320) (o := .cells #[.int .i64 100, .slice Ao12 t295.length co12] 25 (0, 0)) (laws_FnPostBent_vb BK320) hb)
    clear hb hbox hg
    refine hK.out _ _ ⟨(blk_cell BK302.out 0).trans rfl, (blk_cell BK302.out 1).trans rfl⟩ (fun hHeld => ?_)
    clear hK K
    refine norm_ (a' := ?_) ?_ ?_
    rotate_left
    ·
     show Act.put _ (some 9) _ = _
     simp only [Act.put, List.setIfInBounds_toArray, List.set_cons_zero, List.set_cons_succ, i64_w, i32_w]
     rfl
    exact norm_ (by first | (simp only [putAll, Act.put, List.setIfInBounds_toArray, List.set_cons_zero, List.set_cons_succ]; done) | (simp only [putAll, Act.put, List.setIfInBounds_toArray, List.set_cons_zero, List.set_cons_succ]; rfl)) (hJ2_5_7_10 (v322, v325, .slice Ao86 y327.length co86, gb333) _ ⟨hHeld, (lo_ HO326), (lo_ HO329), (lo_ HO_303001), (lo_ HO_304001), (laws_FnPostBent_vb BK302), (laws_FnPostBent_vb BK303), (laws_FnPostBent_vb BK307), (laws_FnPostBent_vb BK319), (laws_FnPostBent_vb BK320), (laws_FnPostBent_vb BK333), GW333.out, GE333.out, NB302_333.out, NB333_302.out, NB303_333.out, NB333_303.out, NB307_333.out, NB333_307.out, NB319_333.out, NB333_319.out, NB320_333.out, NB333_320.out, (laws_FnPostBent_auHB)⟩)
   skip
   rintro ⟨v322, v325, v328, gb333⟩ w85 ⟨hS_, h0_, h1_, h2_, h3_, h4_, h5_, h6_, h7_, h8_, h9_, h10_, h11_, h12_, h13_, h14_, h15_, h16_, h17_, h18_, h19_, h20_, h21_, h22_⟩
   have n0_ : Aside0 (Kd.R k29 29 w85 w.heap.size (fun k_ => some k_ ≠ (v328 : Value).ownBlock ∧ some k_ ≠ (.slice Ao12 t295.length co12 : Value).ownBlock ∧ some k_ ≠ (.slice Ao14 t299.length co14 : Value).ownBlock ∧ k_ ≠ gb307) v325 y324) := ⟨h0_⟩
   have n1_ : Aside0 (Kd.R k29 29 w85 w.heap.size (fun k_ => some k_ ≠ (v325 : Value).ownBlock ∧ some k_ ≠ (.slice Ao12 t295.length co12 : Value).ownBlock ∧ some k_ ≠ (.slice Ao14 t299.length co14 : Value).ownBlock ∧ k_ ≠ gb307) v328 y327) := ⟨h1_⟩
   have n2_ : Aside0 (Kd.R k29 29 w85 w.heap.size (fun k_ => some k_ ≠ (v325 : Value).ownBlock ∧ some k_ ≠ (v328 : Value).ownBlock ∧ some k_ ≠ (.slice Ao14 t299.length co14 : Value).ownBlock ∧ k_ ≠ gb307) (.slice Ao12 t295.length co12) t295) := ⟨h2_⟩
   have n3_ : Aside0 (Kd.R k29 29 w85 w.heap.size (fun k_ => some k_ ≠ (v325 : Value).ownBlock ∧ some k_ ≠ (v328 : Value).ownBlock ∧ some k_ ≠ (.slice Ao12 t295.length co12 : Value).ownBlock ∧ k_ ≠ gb307) (.slice Ao14 t299.length co14) t299) := ⟨h3_⟩
   have n4_ : Aside0 (w85.heap[gb302]? = some (.cells #[.int .i64 t294, .slice Ao12 t295.length co12] 25 (0, 0))) := ⟨h4_⟩
   have n5_ : Aside0 (w85.heap[gb303]? = some (.cells #[.int .i64 t298, .slice Ao14 t299.length co14] 25 (0, 0))) := ⟨h5_⟩
   have n6_ : Aside0 (w85.heap[gb307]? = some (.cells #[.string t304, .int .i64 t305, .int .i64 t306] 29 (0, 0))) := ⟨h6_⟩
   have n7_ : Aside0 (w85.heap[gb319]? = some (.cells #[.int .i64 t294, .slice none 0 0] 25 (0, 0))) := ⟨h7_⟩
   have n8_ : Aside0 (w85.heap[gb320]? = some (.cells #[.int .i64 100, .slice Ao12 t295.length co12] 25 (0, 0))) := ⟨h8_⟩
   have n9_ : Aside0 (w85.heap[gb333]? = some (.cells #[.int .i64 0, .slice none 0 0] 25 (0, 0))) := ⟨h9_⟩
   have n10_ : Aside0 (w.heap.size ≤ gb333) := ⟨h10_⟩
   have n11_ : Aside0 (w.heap.size ≤ gb333) := ⟨h11_⟩
   have n12_ : Aside0 (gb302 ≠ gb333) := ⟨h12_⟩
   have n13_ : Aside0 (gb333 ≠ gb302) := ⟨h13_⟩
   have n14_ : Aside0 (gb303 ≠ gb333) := ⟨h14_⟩
   have n15_ : Aside0 (gb333 ≠ gb303) := ⟨h15_⟩
   have n16_ : Aside0 (gb307 ≠ gb333) := ⟨h16_⟩
   have n17_ : Aside0 (gb333 ≠ gb307) := ⟨h17_⟩
   have n18_ : Aside0 (gb319 ≠ gb333) := ⟨h18_⟩
   have n19_ : Aside0 (gb333 ≠ gb319) := ⟨h19_⟩
   have n20_ : Aside0 (gb320 ≠ gb333) := ⟨h20_⟩
   have n21_ : Aside0 (gb333 ≠ gb320) := ⟨h21_⟩
   have n22_ : Aside0 (Below w.heap.size w w85) := ⟨h22_⟩
   clear HO_303001
   clear HO_304001
   clear BK302
   clear BK303
   clear BK307
   clear BK319
   clear BK320
   clear HB
   clear h0_ h1_ h2_ h3_ h4_ h5_ h6_ h7_ h8_ h9_ h10_ h11_ h12_ h13_ h14_ h15_ h16_ h17_ h18_ h19_ h20_ h21_ h22_
   have HO326 := n0_
   have HO329 := n1_
   have HO_303001 := n2_
   have HO_304001 := n3_
   have BK302 := n4_
   have BK303 := n5_
   have BK307 := n6_
   have BK319 := n7_
   have BK320 := n8_
   have BK333 := n9_
   have GW333 := n10_
   have GE333 := n11_
   have NB302_333 := n12_
   have NB333_302 := n13_
   have NB303_333 := n14_
   have NB333_303 := n15_
   have NB307_333 := n16_
   have NB333_307 := n17_
   have NB319_333 := n18_
   have NB333_319 := n19_
   have NB320_333 := n20_
   have NB333_320 := n21_
   have HB := n22_
   clear n0_ n1_ n2_ n3_ n4_ n5_ n6_ n7_ n8_ n9_ n10_ n11_ n12_ n13_ n14_ n15_ n16_ n17_ n18_ n19_ n20_ n21_ n22_
   have hHeld : w85.cell? ⟨gb302, 0, none⟩ = some (.int .i64 t294) ∧ w85.cell? ⟨gb302, 1, none⟩ = some (.slice Ao12 t295.length co12) := hS_
   obtain ⟨Ao87, co87, eo87⟩ := Kd.R_slice HO329.out
   (first | subst eo87 | (injection eo87 with f1_ f2_ f3_; have f4_ := f1_.symm; have f5_ := f3_.symm; clear f1_ f2_ f3_; subst f4_; subst f5_))
   refine norm_ (a' := ?_) ?_ ?_
   rotate_left
   ·
    simp only [putAll, Act.put, List.setIfInBounds_toArray, List.set_cons_zero, List.set_cons_succ]
    rfl
   refine one_ (i := 8) (N := some 76) #[true, true, true, true, true, true, true, true, true, false, true, false] rfl rfl (one_of HT_.out (by kernel_rfl)) (by decide) (fun K hK => ?_)
   refine Kd.R_append_rows_step k29 (w0 := w) w.heap.size (by rfl) (.tmp 73) (.tmp 75) 23 29 (.agg #[(.string ⟨#[]⟩), (.int .i64 0), (.int .i64 0)]) 32 rfl Try.underlying23 info29 rfl (by decide) (by omega) v325 y324 y327 _ _ _ (fun k_ => some k_ ≠ (.slice Ao12 t295.length co12 : Value).ownBlock ∧ some k_ ≠ (.slice Ao14 t299.length co14 : Value).ownBlock ∧ some k_ ≠ (.slice Ao87 y327.length co87 : Value).ownBlock ∧ k_ ≠ gb307) (fun _ => False) rfl rfl ?aO ?aR (fun _ _ h => h) (fun _ h => h.elim) ?aF ?aB ?aS ?aL ?_
   (case aR => exact co_ (Kd.R_reads' HO329.out).2.2)
   (case aB => exact (laws_FnPostBent_auHB))
   (case aF => exact (fun k_ hk => ⟨Kd.fresh' (Kd.R_lt (lo_ HO_303001)) k_ hk, Kd.fresh' (Kd.R_lt (lo_ HO_304001)) k_ hk, Kd.fresh' (Kd.R_lt (lo_ HO329)) k_ hk, Kd.freshB (g := gb307) (o := .cells #[.string t304, .int .i64 t305, .int .i64 t306] 29 (0, 0)) (laws_FnPostBent_vb BK307) k_ hk⟩))
   (case aO => exact (by (with_reducible repeat (first | apply Kd.R_alloc | apply Kd.R_drewN | apply Kd.R_drew)); exact Kd.R_mono HO326.out (fun _ hk => ⟨hk.2.1, ⟨hk.2.2.1, ⟨hk.1, hk.2.2.2⟩⟩⟩)))
   (case aS => exact (below_size (laws_FnPostBent_auHB)))
   (case aL => have := LMc46.out; omega)
   intro v331 w86 ho hb hg hat
   rw [← Ny330.out] at ho
   have n0_ := Aside0.mk (Kd.R_after (ok := (fun k_ => some k_ ≠ (.slice Ao14 t299.length co14 : Value).ownBlock ∧ some k_ ≠ (.slice Ao87 y327.length co87 : Value).ownBlock ∧ k_ ≠ gb307)) (by (with_reducible repeat (first | apply Kd.R_alloc | apply Kd.R_drewN | apply Kd.R_drew)); exact Kd.R_mono HO_303001.out (fun _ hk => ⟨⟨hk.2.2.1, ⟨hk.2.1, hk.2.2.2⟩⟩, hk.1⟩)) hg hat)
   have n1_ := Aside0.mk (Kd.R_after (ok := (fun k_ => some k_ ≠ (.slice Ao12 t295.length co12 : Value).ownBlock ∧ some k_ ≠ (.slice Ao87 y327.length co87 : Value).ownBlock ∧ k_ ≠ gb307)) (by (with_reducible repeat (first | apply Kd.R_alloc | apply Kd.R_drewN | apply Kd.R_drew)); exact Kd.R_mono HO_304001.out (fun _ hk => ⟨⟨hk.2.2.1, ⟨hk.2.1, hk.2.2.2⟩⟩, hk.1⟩)) hg hat)
   have n2_ := Aside0.mk (blk_grown (g := gb302) (o := .cells #[.int .i64 t294, .slice Ao12 t295.length co12] 25 (0, 0)) (laws_FnPostBent_vb BK302) hg (Kd.R_ne HO326.out BK302.out (by decide)))
   have n3_ := Aside0.mk (blk_grown (g := gb303) (o := .cells #[.int .i64 t298, .slice Ao14 t299.length co14] 25 (0, 0)) (laws_FnPostBent_vb BK303) hg (Kd.R_ne HO326.out BK303.out (by decide)))
   have n4_ := Aside0.mk (blk_grown (g := gb307) (o := .cells #[.string t304, .int .i64 t305, .int .i64 t306] 29 (0, 0)) (laws_FnPostBent_vb BK307) hg (Kd.R_away HO326.out (fun _ hk => hk.2.2.2)))
   have n5_ := Aside0.mk (blk_grown (g := gb319) (o := .cells #[.int .i64 t294, .slice none 0 0] 25 (0, 0)) (laws_FnPostBent_vb BK319) hg (Kd.R_ne HO326.out BK319.out (by decide)))
   have n6_ := Aside0.mk (blk_grown (g := gb320) (o := .cells #[.int .i64 100, .slice Ao12 t295.length co12] 25 (0, 0)) (laws_FnPostBent_vb BK320) hg (Kd.R_ne HO326.out BK320.out (by decide)))
   have n7_ := Aside0.mk (Kd.R_after (ok := (fun k_ => some k_ ≠ (.slice Ao12 t295.length co12 : Value).ownBlock ∧ some k_ ≠ (.slice Ao14 t299.length co14 : Value).ownBlock ∧ k_ ≠ gb307)) (by (with_reducible repeat (first | apply Kd.R_alloc | apply Kd.R_drewN | apply Kd.R_drew)); exact Kd.R_mono HO329.out (fun _ hk => ⟨⟨hk.2.1, ⟨hk.2.2.1, hk.2.2.2⟩⟩, hk.1⟩)) hg hat)
   have n8_ := Aside0.mk (blk_grown (g := gb333) (o := .cells #[.int .i64 0, .slice none 0 0] 25 (0, 0)) (laws_FnPostBent_vb BK333) hg (Kd.R_ne HO326.out BK333.out (by decide)))
   have n9_ := Aside0.mk (hb)
   have n10_ := Aside0.mk (ho)
   clear HO_303001
   clear HO_304001
   clear BK302
   clear BK303
   clear BK307
   clear BK319
   clear BK320
   clear HO329
   clear BK333
   clear HB
   clear HO326
   have HO_303001 := n0_
   have HO_304001 := n1_
   have BK302 := n2_
   have BK303 := n3_
   have BK307 := n4_
   have BK319 := n5_
   have BK320 := n6_
   have HO329 := n7_
   have BK333 := n8_
   have HB := n9_
   have HO332 := n10_
   clear n0_ n1_ n2_ n3_ n4_ n5_ n6_ n7_ n8_ n9_ n10_
   clear ho hb hg hat
   obtain ⟨Ao88, co88, eo88⟩ := Kd.R_slice HO332.out
   (first | subst eo88 | (injection eo88 with f1_ f2_ f3_; have f4_ := f1_.symm; have f5_ := f3_.symm; clear f1_ f2_ f3_; subst f4_; subst f5_))
   refine hK.out _ _ ⟨(blk_cell BK302.out 0).trans rfl, (blk_cell BK302.out 1).trans rfl⟩ (fun hHeld => ?_)
   clear hK K
   refine norm_ (a' := ?_) ?_ ?_
   rotate_left
   ·
    show Act.put _ (some 76) _ = _
    simp only [Act.put, List.setIfInBounds_toArray, List.set_cons_zero, List.set_cons_succ, i64_w, i32_w]
    rfl
   refine pu_ 9 (some 77) HT_ rfl rfl (by go_simp; rfl) (by kernel_rfl) rfl (by intro w'; go_simp; with_reducible rfl) (fun _ _ _ h => h) (by go_simp; rfl) ?_
   exact norm_ (by first | (simp only [putAll, Act.put, List.setIfInBounds_toArray, List.set_cons_zero, List.set_cons_succ]; done) | (simp only [putAll, Act.put, List.setIfInBounds_toArray, List.set_cons_zero, List.set_cons_succ]; rfl)) (hJ2_5_7_8_10 (v322, v325, .slice Ao87 y327.length co87, .slice Ao88 y330.length co88, gb333) _ ⟨hHeld, (by (with_reducible repeat (first | apply Kd.R_alloc | apply Kd.R_drewN | apply Kd.R_drew)); exact Kd.R_mono HO329.out (fun _ hk => ⟨hk.2, ⟨hk.1.1, ⟨hk.1.2.1, hk.1.2.2⟩⟩⟩)), (by (with_reducible repeat (first | apply Kd.R_alloc | apply Kd.R_drewN | apply Kd.R_drew)); exact Kd.R_mono HO332.out (fun _ hk => ⟨hk.2.2.1, ⟨hk.1, ⟨hk.2.1, hk.2.2.2⟩⟩⟩)), (by (with_reducible repeat (first | apply Kd.R_alloc | apply Kd.R_drewN | apply Kd.R_drew)); exact Kd.R_mono HO_303001.out (fun _ hk => ⟨hk.1.2.1, ⟨hk.2, ⟨hk.1.1, hk.1.2.2⟩⟩⟩)), (by (with_reducible repeat (first | apply Kd.R_alloc | apply Kd.R_drewN | apply Kd.R_drew)); exact Kd.R_mono HO_304001.out (fun _ hk => ⟨hk.1.2.1, ⟨hk.2, ⟨hk.1.1, hk.1.2.2⟩⟩⟩)), (laws_FnPostBent_vb BK302), (laws_FnPostBent_vb BK303), (laws_FnPostBent_vb BK307), (laws_FnPostBent_vb BK319), (laws_FnPostBent_vb BK320), (laws_FnPostBent_vb BK333), GW333.out, GE333.out, NB302_333.out, NB333_302.out, NB303_333.out, NB333_303.out, NB307_333.out, NB333_307.out, NB319_333.out, NB333_319.out, NB320_333.out, NB333_320.out, (laws_FnPostBent_auHB)⟩)
  skip
  rintro ⟨v322, v325, v328, v331⟩ w87 ⟨hS_, h0_, h1_, h2_, h3_, h4_, h5_, h6_, h7_, h8_, h9_⟩
  have n0_ : Aside0 (Kd.R k29 29 w87 w.heap.size (fun k_ => some k_ ≠ (v331 : Value).ownBlock ∧ some k_ ≠ (.slice Ao12 t295.length co12 : Value).ownBlock ∧ some k_ ≠ (.slice Ao14 t299.length co14 : Value).ownBlock ∧ k_ ≠ gb307) v328 y327) := ⟨h0_⟩
  have n1_ : Aside0 (Kd.R k29 29 w87 w.heap.size (fun k_ => some k_ ≠ (v328 : Value).ownBlock ∧ some k_ ≠ (.slice Ao12 t295.length co12 : Value).ownBlock ∧ some k_ ≠ (.slice Ao14 t299.length co14 : Value).ownBlock ∧ k_ ≠ gb307) v331 y330) := ⟨h1_⟩
  have n2_ : Aside0 (Kd.R k29 29 w87 w.heap.size (fun k_ => some k_ ≠ (v328 : Value).ownBlock ∧ some k_ ≠ (v331 : Value).ownBlock ∧ some k_ ≠ (.slice Ao14 t299.length co14 : Value).ownBlock ∧ k_ ≠ gb307) (.slice Ao12 t295.length co12) t295) := ⟨h2_⟩
  have n3_ : Aside0 (Kd.R k29 29 w87 w.heap.size (fun k_ => some k_ ≠ (v328 : Value).ownBlock ∧ some k_ ≠ (v331 : Value).ownBlock ∧ some k_ ≠ (.slice Ao12 t295.length co12 : Value).ownBlock ∧ k_ ≠ gb307) (.slice Ao14 t299.length co14) t299) := ⟨h3_⟩
  have n4_ : Aside0 (w87.heap[gb302]? = some (.cells #[.int .i64 t294, .slice Ao12 t295.length co12] 25 (0, 0))) := ⟨h4_⟩
  have n5_ : Aside0 (w87.heap[gb303]? = some (.cells #[.int .i64 t298, .slice Ao14 t299.length co14] 25 (0, 0))) := ⟨h5_⟩
  have n6_ : Aside0 (w87.heap[gb307]? = some (.cells #[.string t304, .int .i64 t305, .int .i64 t306] 29 (0, 0))) := ⟨h6_⟩
  have n7_ : Aside0 (w87.heap[gb319]? = some (.cells #[.int .i64 t294, .slice none 0 0] 25 (0, 0))) := ⟨h7_⟩
  have n8_ : Aside0 (w87.heap[gb320]? = some (.cells #[.int .i64 100, .slice Ao12 t295.length co12] 25 (0, 0))) := ⟨h8_⟩
  have n9_ : Aside0 (Below w.heap.size w w87) := ⟨h9_⟩
  clear HO_303001
  clear HO_304001
  clear BK302
  clear BK303
  clear BK307
  clear BK319
  clear BK320
  clear HB
  clear h0_ h1_ h2_ h3_ h4_ h5_ h6_ h7_ h8_ h9_
  have HO329 := n0_
  have HO332 := n1_
  have HO_303001 := n2_
  have HO_304001 := n3_
  have BK302 := n4_
  have BK303 := n5_
  have BK307 := n6_
  have BK319 := n7_
  have BK320 := n8_
  have HB := n9_
  clear n0_ n1_ n2_ n3_ n4_ n5_ n6_ n7_ n8_ n9_
  have hHeld : w87.cell? ⟨gb302, 0, none⟩ = some (.int .i64 t294) ∧ w87.cell? ⟨gb302, 1, none⟩ = some (.slice Ao12 t295.length co12) := hS_
  obtain ⟨Ao88, co88, eo88⟩ := Kd.R_slice HO332.out
  (first | subst eo88 | (injection eo88 with f1_ f2_ f3_; have f4_ := f1_.symm; have f5_ := f3_.symm; clear f1_ f2_ f3_; subst f4_; subst f5_))
  refine norm_ (a' := ?_) ?_ ?_
  rotate_left
  ·
   simp only [putAll, Act.put, List.setIfInBounds_toArray, List.set_cons_zero, List.set_cons_succ]
   rfl
  refine one_ (i := 10) (N := some 9) #[true, true, true, true, true, true, true, true, true, true, true, false] rfl rfl (one_of HT_.out (by kernel_rfl)) (by decide) (fun K hK => ?_)
  refine box_step ?hg (N := 9) ?hd (cs := #[.int .i64 0, .slice none 0 0]) (t := 25) ?hr ?_; (case hd => rfl); (case hg => rfl); (case hr => first | (go_simp; done) | (go_simp; rfl))
  intro gb333 hg w89 hbox hb
  replace HO_303001 := Aside0.mk (Kd.R_below (lo_ HO_303001) hb)
  replace HO_304001 := Aside0.mk (Kd.R_below (lo_ HO_304001) hb)
  replace HO329 := Aside0.mk (Kd.R_below (lo_ HO329) hb)
  replace HO332 := Aside0.mk (Kd.R_below (lo_ HO332) hb)
  have BK333 := Aside0.mk (hbox)
  have GW333 := Aside0.mk ((by rw [hg]; exact (below_size (laws_FnPostBent_auHB)) : w.heap.size ≤ gb333))
  have GE333 := Aside0.mk ((by rw [hg]; exact (below_size (laws_FnPostBent_auHB)) : w.heap.size ≤ gb333))
  replace HB := Aside0.mk (below_step (laws_FnPostBent_auHB) hb)
  have NB302_333 := Aside0.mk ((by rw [hg]; exact Nat.ne_of_lt (blk_lt (g := gb302) (o := .cells #[.int .i64 t294, .slice Ao12 t295.length co12] 25 (0, 0)) (laws_FnPostBent_vb BK302)) : gb302 ≠ gb333))
  have NB333_302 := Aside0.mk ((by rw [hg]; exact Nat.ne_of_gt (blk_lt (g := gb302) (o := .cells #[.int .i64 t294, .slice Ao12 t295.length co12] 25 (0, 0)) (laws_FnPostBent_vb BK302)) : gb333 ≠ gb302))
  replace BK302 := Aside0.mk (blk_below (g := gb302) (o := .cells #[.int .i64 t294, .slice Ao12 t295.length co12] 25 (0, 0)) (laws_FnPostBent_vb BK302) hb)
  have NB303_333 := Aside0.mk ((by rw [hg]; exact Nat.ne_of_lt (blk_lt (g := gb303) (o := .cells #[.int .i64 t298, .slice Ao14 t299.length co14] 25 (0, 0)) (laws_FnPostBent_vb BK303)) : gb303 ≠ gb333))
  have NB333_303 := Aside0.mk ((by rw [hg]; exact Nat.ne_of_gt (blk_lt (g := gb303) (o := .cells #[.int .i64 t298, .slice Ao14 t299.length co14] 25 (0, 0)) (laws_FnPostBent_vb BK303)) : gb333 ≠ gb303))
  replace BK303 := Aside0.mk (blk_below (g := gb303) (o := .cells #[.int .i64 t298, .slice Ao14 t299.length co14] 25 (0, 0)) (laws_FnPostBent_vb BK303) hb)
  have NB307_333 := Aside0.mk ((by rw [hg]; exact Nat.ne_of_lt (blk_lt (g := gb307) (o := .cells #[.string t304, .int .i64 t305, .int .i64 t306] 29 (0, 0)) (laws_FnPostBent_vb BK307)) : gb307 ≠ gb333))
  have NB333_307 := Aside0.mk ((by rw [hg]; exact Nat.ne_of_gt (blk_lt (g := gb307) (o := .cells #[.string t304, .int .i64 t305, .int .i64 t306] 29 (0, 0)) (laws_FnPostBent_vb BK307)) : gb333 ≠ gb307))
  replace BK307 := Aside0.mk (blk_below (g := gb307) (o := .cells #[.string t304, .int .i64 t305, .int .i64 t306] 29 (0, 0)) (laws_FnPostBent_vb BK307) hb)
  have NB319_333 := Aside0.mk ((by rw [hg]; exact Nat.ne_of_lt (blk_lt (g := gb319) (o := .cells #[.int .i64 t294, .slice none 0 0] 25 (0, 0)) (laws_FnPostBent_vb BK319)) : gb319 ≠ gb333))
  have NB333_319 := Aside0.mk ((by rw [hg]; exact Nat.ne_of_gt (blk_lt (g := gb319) (o := .cells #[.int .i64 t294, .slice none 0 0] 25 (0, 0)) (laws_FnPostBent_vb BK319)) : gb333 ≠ gb319))
  replace BK319 := Aside0.mk (blk_below (g := gb319) (o := .cells #[.int .i64 t294, .slice none 0 0] 25 (0, 0)) (laws_FnPostBent_vb BK319) hb)
  have NB320_333 := Aside0.mk ((by rw [hg]; exact Nat.ne_of_lt (blk_lt (g := gb320) (o := .cells #[.int .i64 100, .slice Ao12 t295.length co12] 25 (0, 0)) (laws_FnPostBent_vb BK320)) : gb320 ≠ gb333))
  have NB333_320 := Aside0.mk ((by rw [hg]; exact Nat.ne_of_gt (blk_lt (g := gb320) (o := .cells #[.int .i64 100, .slice Ao12 t295.length co12] 25 (0, 0)) (laws_FnPostBent_vb BK320)) : gb333 ≠ gb320))
  replace BK320 := Aside0.mk (blk_below (g := gb320) (o := .cells #[.int .i64 100, .slice Ao12 t295.length co12] 25 (0, 0)) (laws_FnPostBent_vb BK320) hb)
  clear hb hbox hg
  refine hK.out _ _ ⟨(blk_cell BK302.out 0).trans rfl, (blk_cell BK302.out 1).trans rfl⟩ (fun hHeld => ?_)
  clear hK K
  refine norm_ (a' := ?_) ?_ ?_
  rotate_left
  ·
   show Act.put _ (some 9) _ = _
   simp only [Act.put, List.setIfInBounds_toArray, List.set_cons_zero, List.set_cons_succ, i64_w, i32_w]
   rfl
  exact norm_ (by first | (simp only [putAll, Act.put, List.setIfInBounds_toArray, List.set_cons_zero, List.set_cons_succ]; done) | (simp only [putAll, Act.put, List.setIfInBounds_toArray, List.set_cons_zero, List.set_cons_succ]; rfl)) (hJ2_5_7_8_10 (v322, v325, v328, .slice Ao88 y330.length co88, gb333) _ ⟨hHeld, (lo_ HO329), (lo_ HO332), (lo_ HO_303001), (lo_ HO_304001), (laws_FnPostBent_vb BK302), (laws_FnPostBent_vb BK303), (laws_FnPostBent_vb BK307), (laws_FnPostBent_vb BK319), (laws_FnPostBent_vb BK320), (laws_FnPostBent_vb BK333), GW333.out, GE333.out, NB302_333.out, NB333_302.out, NB303_333.out, NB333_303.out, NB307_333.out, NB333_307.out, NB319_333.out, NB333_319.out, NB320_333.out, NB333_320.out, (laws_FnPostBent_auHB)⟩)
 rintro ⟨v322, v325, v328, v331, gb333⟩ w88 ⟨hS_, h0_, h1_, h2_, h3_, h4_, h5_, h6_, h7_, h8_, h9_, h10_, h11_, h12_, h13_, h14_, h15_, h16_, h17_, h18_, h19_, h20_, h21_, h22_⟩
 have n0_ : Aside0 (Kd.R k29 29 w88 w.heap.size (fun k_ => some k_ ≠ (v331 : Value).ownBlock ∧ some k_ ≠ (.slice Ao12 t295.length co12 : Value).ownBlock ∧ some k_ ≠ (.slice Ao14 t299.length co14 : Value).ownBlock ∧ k_ ≠ gb307) v328 y327) := ⟨h0_⟩
 have n1_ : Aside0 (Kd.R k29 29 w88 w.heap.size (fun k_ => some k_ ≠ (v328 : Value).ownBlock ∧ some k_ ≠ (.slice Ao12 t295.length co12 : Value).ownBlock ∧ some k_ ≠ (.slice Ao14 t299.length co14 : Value).ownBlock ∧ k_ ≠ gb307) v331 y330) := ⟨h1_⟩
 have n2_ : Aside0 (Kd.R k29 29 w88 w.heap.size (fun k_ => some k_ ≠ (v328 : Value).ownBlock ∧ some k_ ≠ (v331 : Value).ownBlock ∧ some k_ ≠ (.slice Ao14 t299.length co14 : Value).ownBlock ∧ k_ ≠ gb307) (.slice Ao12 t295.length co12) t295) := ⟨h2_⟩
 have n3_ : Aside0 (Kd.R k29 29 w88 w.heap.size (fun k_ => some k_ ≠ (v328 : Value).ownBlock ∧ some k_ ≠ (v331 : Value).ownBlock ∧ some k_ ≠ (.slice Ao12 t295.length co12 : Value).ownBlock ∧ k_ ≠ gb307) (.slice Ao14 t299.length co14) t299) := ⟨h3_⟩
 have n4_ : Aside0 (w88.heap[gb302]? = some (.cells #[.int .i64 t294, .slice Ao12 t295.length co12] 25 (0, 0))) := ⟨h4_⟩
 have n5_ : Aside0 (w88.heap[gb303]? = some (.cells #[.int .i64 t298, .slice Ao14 t299.length co14] 25 (0, 0))) := ⟨h5_⟩
 have n6_ : Aside0 (w88.heap[gb307]? = some (.cells #[.string t304, .int .i64 t305, .int .i64 t306] 29 (0, 0))) := ⟨h6_⟩
 have n7_ : Aside0 (w88.heap[gb319]? = some (.cells #[.int .i64 t294, .slice none 0 0] 25 (0, 0))) := ⟨h7_⟩
 have n8_ : Aside0 (w88.heap[gb320]? = some (.cells #[.int .i64 100, .slice Ao12 t295.length co12] 25 (0, 0))) := ⟨h8_⟩
 have n9_ : Aside0 (w88.heap[gb333]? = some (.cells #[.int .i64 0, .slice none 0 0] 25 (0, 0))) := ⟨h9_⟩
 have n10_ : Aside0 (w.heap.size ≤ gb333) := ⟨h10_⟩
 have n11_ : Aside0 (w.heap.size ≤ gb333) := ⟨h11_⟩
 have n12_ : Aside0 (gb302 ≠ gb333) := ⟨h12_⟩
 have n13_ : Aside0 (gb333 ≠ gb302) := ⟨h13_⟩
 have n14_ : Aside0 (gb303 ≠ gb333) := ⟨h14_⟩
 have n15_ : Aside0 (gb333 ≠ gb303) := ⟨h15_⟩
 have n16_ : Aside0 (gb307 ≠ gb333) := ⟨h16_⟩
 have n17_ : Aside0 (gb333 ≠ gb307) := ⟨h17_⟩
 have n18_ : Aside0 (gb319 ≠ gb333) := ⟨h18_⟩
 have n19_ : Aside0 (gb333 ≠ gb319) := ⟨h19_⟩
 have n20_ : Aside0 (gb320 ≠ gb333) := ⟨h20_⟩
 have n21_ : Aside0 (gb333 ≠ gb320) := ⟨h21_⟩
 have n22_ : Aside0 (Below w.heap.size w w88) := ⟨h22_⟩
 clear HO_303001
 clear HO_304001
 clear BK302
 clear BK303
 clear BK307
 clear BK319
 clear BK320
 clear HB
 clear h0_ h1_ h2_ h3_ h4_ h5_ h6_ h7_ h8_ h9_ h10_ h11_ h12_ h13_ h14_ h15_ h16_ h17_ h18_ h19_ h20_ h21_ h22_
 have HO329 := n0_
 have HO332 := n1_
 have HO_303001 := n2_
 have HO_304001 := n3_
 have BK302 := n4_
 have BK303 := n5_
 have BK307 := n6_
 have BK319 := n7_
 have BK320 := n8_
 have BK333 := n9_
 have GW333 := n10_
 have GE333 := n11_
 have NB302_333 := n12_
 have NB333_302 := n13_
 have NB303_333 := n14_
 have NB333_303 := n15_
 have NB307_333 := n16_
 have NB333_307 := n17_
 have NB319_333 := n18_
 have NB333_319 := n19_
 have NB320_333 := n20_
 have NB333_320 := n21_
 have HB := n22_
 clear n0_ n1_ n2_ n3_ n4_ n5_ n6_ n7_ n8_ n9_ n10_ n11_ n12_ n13_ n14_ n15_ n16_ n17_ n18_ n19_ n20_ n21_ n22_
 have hHeld : w88.cell? ⟨gb302, 0, none⟩ = some (.int .i64 t294) ∧ w88.cell? ⟨gb302, 1, none⟩ = some (.slice Ao12 t295.length co12) := hS_
 obtain ⟨Ao89, co89, eo89⟩ := Kd.R_slice HO332.out
 (first | subst eo89 | (injection eo89 with f1_ f2_ f3_; have f4_ := f1_.symm; have f5_ := f3_.symm; clear f1_ f2_ f3_; subst f4_; subst f5_))
 refine norm_ (a' := ?_) ?_ ?_
 rotate_left
 ·
  simp only [putAll, Act.put, List.setIfInBounds_toArray, List.set_cons_zero, List.set_cons_succ]
  rfl
 refine one_ (i := 11) (N := none) #[true, true, true, true, true, true, true, true, true, true, true, true] rfl rfl (one_of HT_.out (by kernel_rfl)) (by decide) (fun K hK => ?_)
 have hs90 : w88.cell? ⟨gb333, 0, none⟩ = some (.int .i64 0) := (blk_cell BK333.out 0).trans rfl
 have hfs90 := blk_frozen BK333.out 0
 have hns90_0 := NB302_333.out
 have hns90_1 := NB303_333.out
 have hns90_2 := NB307_333.out
 have hns90_3 := NB319_333.out
 have hns90_4 := NB320_333.out
 have hms90_0 := NB333_302.out
 have hms90_1 := NB333_303.out
 have hms90_2 := NB333_307.out
 have hms90_3 := NB333_319.out
 have hms90_4 := NB333_320.out
 have hs91 : w88.cell? ⟨gb333, 1, none⟩ = some (.slice none 0 0) := (blk_cell BK333.out 1).trans rfl
 have hfs91 := blk_frozen BK333.out 1
 have hns91_0 := NB302_333.out
 have hns91_1 := NB303_333.out
 have hns91_2 := NB307_333.out
 have hns91_3 := NB319_333.out
 have hns91_4 := NB320_333.out
 have hms91_0 := NB333_302.out
 have hms91_1 := NB333_303.out
 have hms91_2 := NB333_307.out
 have hms91_3 := NB333_319.out
 have hms91_4 := NB333_320.out
 refine skip_ (w1 := ?_) (by rfl) rfl ?_ ?_
 rotate_left
 ·
  go_simp
  rfl
 refine hK.out _ _ ⟨((cell_far (p := ⟨gb333, _, none⟩) NB302_333.out _).trans (((cell_far (p := ⟨gb333, _, none⟩) NB302_333.out _).trans (hHeld.1)))), ((cell_far (p := ⟨gb333, _, none⟩) NB302_333.out _).trans (((cell_far (p := ⟨gb333, _, none⟩) NB302_333.out _).trans (hHeld.2))))⟩ (fun hHeld => ?_)
 clear hK K
 refine done_ (done_of HT_.out (by kernel_rfl)) ?_
 try go_wp2
 have n0_ : Aside0 (Kd.R k29 29 ((w88.setCell ⟨gb333, 0, none⟩ (.int .i64 t294)).setCell ⟨gb333, 1, none⟩ (.slice Ao89 y330.length co89)) w.heap.size (fun k_ => some k_ ≠ (.slice Ao14 t299.length co14 : Value).ownBlock ∧ some k_ ≠ (v328 : Value).ownBlock ∧ some k_ ≠ (.slice Ao89 y330.length co89 : Value).ownBlock ∧ k_ ≠ gb307) (.slice Ao12 t295.length co12) t295) := ⟨by (with_reducible repeat (first | apply Kd.R_alloc | apply Kd.R_drewN | apply Kd.R_drew)); exact Kd.R_mono (Kd.R_far (p := ⟨gb333, 1, none⟩) (Kd.R_far (p := ⟨gb333, 0, none⟩) (Kd.R_types HO_303001.out BK333.out (by decide)) (fun _ hk => hk.2) (.int .i64 t294)) (fun _ hk => hk.2) (.slice Ao89 y330.length co89)) (fun _ hk => ⟨hk.1.2.2.1, ⟨hk.1.1, ⟨hk.1.2.1, hk.1.2.2.2⟩⟩⟩)⟩
 have n1_ : Aside0 (Kd.R k29 29 ((w88.setCell ⟨gb333, 0, none⟩ (.int .i64 t294)).setCell ⟨gb333, 1, none⟩ (.slice Ao89 y330.length co89)) w.heap.size (fun k_ => some k_ ≠ (.slice Ao12 t295.length co12 : Value).ownBlock ∧ some k_ ≠ (v328 : Value).ownBlock ∧ some k_ ≠ (.slice Ao89 y330.length co89 : Value).ownBlock ∧ k_ ≠ gb307) (.slice Ao14 t299.length co14) t299) := ⟨by (with_reducible repeat (first | apply Kd.R_alloc | apply Kd.R_drewN | apply Kd.R_drew)); exact Kd.R_mono (Kd.R_far (p := ⟨gb333, 1, none⟩) (Kd.R_far (p := ⟨gb333, 0, none⟩) (Kd.R_types HO_304001.out BK333.out (by decide)) (fun _ hk => hk.2) (.int .i64 t294)) (fun _ hk => hk.2) (.slice Ao89 y330.length co89)) (fun _ hk => ⟨hk.1.2.2.1, ⟨hk.1.1, ⟨hk.1.2.1, hk.1.2.2.2⟩⟩⟩)⟩
 have n2_ : Aside0 (Kd.R k29 29 ((w88.setCell ⟨gb333, 0, none⟩ (.int .i64 t294)).setCell ⟨gb333, 1, none⟩ (.slice Ao89 y330.length co89)) w.heap.size (fun k_ => some k_ ≠ (.slice Ao12 t295.length co12 : Value).ownBlock ∧ some k_ ≠ (.slice Ao14 t299.length co14 : Value).ownBlock ∧ some k_ ≠ (.slice Ao89 y330.length co89 : Value).ownBlock ∧ k_ ≠ gb307) v328 y327) := ⟨by (with_reducible repeat (first | apply Kd.R_alloc | apply Kd.R_drewN | apply Kd.R_drew)); exact Kd.R_mono (Kd.R_far (p := ⟨gb333, 1, none⟩) (Kd.R_far (p := ⟨gb333, 0, none⟩) (Kd.R_types HO329.out BK333.out (by decide)) (fun _ hk => hk.2) (.int .i64 t294)) (fun _ hk => hk.2) (.slice Ao89 y330.length co89)) (fun _ hk => ⟨hk.1.2.1, ⟨hk.1.2.2.1, ⟨hk.1.1, hk.1.2.2.2⟩⟩⟩)⟩
 have n3_ : Aside0 (Kd.R k29 29 ((w88.setCell ⟨gb333, 0, none⟩ (.int .i64 t294)).setCell ⟨gb333, 1, none⟩ (.slice Ao89 y330.length co89)) w.heap.size (fun k_ => some k_ ≠ (.slice Ao12 t295.length co12 : Value).ownBlock ∧ some k_ ≠ (.slice Ao14 t299.length co14 : Value).ownBlock ∧ some k_ ≠ (v328 : Value).ownBlock ∧ k_ ≠ gb307) (.slice Ao89 y330.length co89) y330) := ⟨by (with_reducible repeat (first | apply Kd.R_alloc | apply Kd.R_drewN | apply Kd.R_drew)); exact Kd.R_mono (Kd.R_far (p := ⟨gb333, 1, none⟩) (Kd.R_far (p := ⟨gb333, 0, none⟩) (Kd.R_types HO332.out BK333.out (by decide)) (fun _ hk => hk.2) (.int .i64 t294)) (fun _ hk => hk.2) (.slice Ao89 y330.length co89)) (fun _ hk => ⟨hk.1.2.1, ⟨hk.1.2.2.1, ⟨hk.1.1, hk.1.2.2.2⟩⟩⟩)⟩
 have n4_ : Aside0 (((w88.setCell ⟨gb333, 0, none⟩ (.int .i64 t294)).setCell ⟨gb333, 1, none⟩ (.slice Ao89 y330.length co89)).heap[gb302]? = some (.cells #[.int .i64 t294, .slice Ao12 t295.length co12] 25 (0, 0))) := ⟨by (with_reducible repeat (first | refine blk_drewN ?_ _ | refine blk_drew ?_ | refine blk_alloc ?_ _)); refine blk_far ?_ NB302_333.out _; (with_reducible repeat (first | refine blk_drewN ?_ _ | refine blk_drew ?_ | refine blk_alloc ?_ _)); refine blk_far ?_ NB302_333.out _; (with_reducible repeat (first | refine blk_drewN ?_ _ | refine blk_drew ?_ | refine blk_alloc ?_ _)); exact BK302.out⟩
 have n5_ : Aside0 (((w88.setCell ⟨gb333, 0, none⟩ (.int .i64 t294)).setCell ⟨gb333, 1, none⟩ (.slice Ao89 y330.length co89)).heap[gb303]? = some (.cells #[.int .i64 t298, .slice Ao14 t299.length co14] 25 (0, 0))) := ⟨by (with_reducible repeat (first | refine blk_drewN ?_ _ | refine blk_drew ?_ | refine blk_alloc ?_ _)); refine blk_far ?_ NB303_333.out _; (with_reducible repeat (first | refine blk_drewN ?_ _ | refine blk_drew ?_ | refine blk_alloc ?_ _)); refine blk_far ?_ NB303_333.out _; (with_reducible repeat (first | refine blk_drewN ?_ _ | refine blk_drew ?_ | refine blk_alloc ?_ _)); exact BK303.out⟩
 have n6_ : Aside0 (((w88.setCell ⟨gb333, 0, none⟩ (.int .i64 t294)).setCell ⟨gb333, 1, none⟩ (.slice Ao89 y330.length co89)).heap[gb307]? = some (.cells #[.string t304, .int .i64 t305, .int .i64 t306] 29 (0, 0))) := ⟨by (with_reducible repeat (first | refine blk_drewN ?_ _ | refine blk_drew ?_ | refine blk_alloc ?_ _)); refine blk_far ?_ NB307_333.out _; (with_reducible repeat (first | refine blk_drewN ?_ _ | refine blk_drew ?_ | refine blk_alloc ?_ _)); refine blk_far ?_ NB307_333.out _; (with_reducible repeat (first | refine blk_drewN ?_ _ | refine blk_drew ?_ | refine blk_alloc ?_ _)); exact BK307.out⟩
 have n7_ : Aside0 (((w88.setCell ⟨gb333, 0, none⟩ (.int .i64 t294)).setCell ⟨gb333, 1, none⟩ (.slice Ao89 y330.length co89)).heap[gb319]? = some (.cells #[.int .i64 t294, .slice none 0 0] 25 (0, 0))) := ⟨by (with_reducible repeat (first | refine blk_drewN ?_ _ | refine blk_drew ?_ | refine blk_alloc ?_ _)); refine blk_far ?_ NB319_333.out _; (with_reducible repeat (first | refine blk_drewN ?_ _ | refine blk_drew ?_ | refine blk_alloc ?_ _)); refine blk_far ?_ NB319_333.out _; (with_reducible repeat (first | refine blk_drewN ?_ _ | refine blk_drew ?_ | refine blk_alloc ?_ _)); exact BK319.out⟩
 have n8_ : Aside0 (((w88.setCell ⟨gb333, 0, none⟩ (.int .i64 t294)).setCell ⟨gb333, 1, none⟩ (.slice Ao89 y330.length co89)).heap[gb320]? = some (.cells #[.int .i64 100, .slice Ao12 t295.length co12] 25 (0, 0))) := ⟨by (with_reducible repeat (first | refine blk_drewN ?_ _ | refine blk_drew ?_ | refine blk_alloc ?_ _)); refine blk_far ?_ NB320_333.out _; (with_reducible repeat (first | refine blk_drewN ?_ _ | refine blk_drew ?_ | refine blk_alloc ?_ _)); refine blk_far ?_ NB320_333.out _; (with_reducible repeat (first | refine blk_drewN ?_ _ | refine blk_drew ?_ | refine blk_alloc ?_ _)); exact BK320.out⟩
 have n9_ : Aside0 (((w88.setCell ⟨gb333, 0, none⟩ (.int .i64 t294)).setCell ⟨gb333, 1, none⟩ (.slice Ao89 y330.length co89)).heap[gb333]? = some (.cells #[.int .i64 t294, .slice Ao89 y330.length co89] 25 (0, 0))) := ⟨by (with_reducible repeat (first | refine blk_drewN ?_ _ | refine blk_drew ?_ | refine blk_alloc ?_ _)); refine blk_put (cs := #[.int .i64 t294, .slice none 0 0]) ?_ 1 _ rfl; (with_reducible repeat (first | refine blk_drewN ?_ _ | refine blk_drew ?_ | refine blk_alloc ?_ _)); refine blk_put (cs := #[.int .i64 0, .slice none 0 0]) ?_ 0 _ rfl; (with_reducible repeat (first | refine blk_drewN ?_ _ | refine blk_drew ?_ | refine blk_alloc ?_ _)); exact BK333.out⟩
 have n10_ : Aside0 (Below w.heap.size w ((w88.setCell ⟨gb333, 0, none⟩ (.int .i64 t294)).setCell ⟨gb333, 1, none⟩ (.slice Ao89 y330.length co89))) := ⟨laws_FnPostBent_auHB⟩
 (try clear HO_303001)
 (try clear HO_304001)
 (try clear HO329)
 (try clear HO332)
 (try clear BK302)
 (try clear BK303)
 (try clear BK307)
 (try clear BK319)
 (try clear BK320)
 (try clear BK333)
 (try clear HB)
 generalize ((w88.setCell ⟨gb333, 0, none⟩ (.int .i64 t294)).setCell ⟨gb333, 1, none⟩ (.slice Ao89 y330.length co89)) = w92 at n0_ n1_ n2_ n3_ n4_ n5_ n6_ n7_ n8_ n9_ n10_ ⊢
 have HO_303001 := n0_
 have HO_304001 := n1_
 have HO329 := n2_
 have HO332 := n3_
 have BK302 := n4_
 have BK303 := n5_
 have BK307 := n6_
 have BK319 := n7_
 have BK320 := n8_
 have BK333 := n9_
 have HB := n10_
 clear n0_ n1_ n2_ n3_ n4_ n5_ n6_ n7_ n8_ n9_ n10_
 rename_i K0 a0
 exact laws_FnPostBent.rest13 (A0 := A0) (c0 := c0) (l0 := l0) (r := r) (w := w) (t294 := t294) (t295 := t295) (t298 := t298) (t299 := t299) (t304 := t304) (t305 := t305) (t306 := t306) (t308 := t308) (gb302 := gb302) (gb303 := gb303) (Ao12 := Ao12) (co12 := co12) (Ao14 := Ao14) (co14 := co14) (gb307 := gb307) (u11 := u11) (u12 := u12) (u13 := u13) (u14 := u14) (u15 := u15) (u16 := u16) (u17 := u17) (u18 := u18) (u19 := u19) (u20 := u20) (u21 := u21) (u22 := u22) (u23 := u23) (u24 := u24) (u25 := u25) (u26 := u26) (u27 := u27) (u28 := u28) (u29 := u29) (u30 := u30) (u31 := u31) (u32 := u32) (u33 := u33) (u34 := u34) (u35 := u35) (u36 := u36) (u37 := u37) (u38 := u38) (u39 := u39) (u40 := u40) (u41 := u41) (u42 := u42) (u43 := u43) (u44 := u44) (u45 := u45) (u46 := u46) (u47 := u47) (u48 := u48) (u49 := u49) (u50 := u50) (u51 := u51) (u52 := u52) (u53 := u53) (u54 := u54) (u55 := u55) (u56 := u56) (u57 := u57) (u78 := u78) (u79 := u79) (u80 := u80) (u81 := u81) (u82 := u82) (u83 := u83) (u84 := u84) (u85 := u85) (u86 := u86) (u87 := u87) (u88 := u88) (u89 := u89) (u90 := u90) (u91 := u91) (u92 := u92) (u93 := u93) (u94 := u94) (u95 := u95) (u96 := u96) (u97 := u97) (u98 := u98) (u99 := u99) (u100 := u100) (u101 := u101) (u102 := u102) (u103 := u103) (u104 := u104) (u105 := u105) (u106 := u106) (u107 := u107) (u108 := u108) (u109 := u109) (u110 := u110) (u111 := u111) (u112 := u112) (u113 := u113) (u114 := u114) (u115 := u115) (u116 := u116) (u117 := u117) (u118 := u118) (u119 := u119) (u120 := u120) (u121 := u121) (u122 := u122) (u123 := u123) (u124 := u124) (u125 := u125) (u126 := u126) (u127 := u127) (u128 := u128) (u129 := u129) (kj5 := kj5) (y327 := y327) (y330 := y330) (y334 := y334) (Ny334 := Ny334) (LMc47 := LMc47) (y337 := y337) (Ny337 := Ny337) (LMc48 := LMc48) (y340 := y340) (Ny340 := Ny340) (LMc49 := LMc49) (y344 := y344) (Ny344 := Ny344) (A50 := A50) (A52 := A52) (A54 := A54) (HWAY := HWAY) (gb319 := gb319) (gb320 := gb320) (HT_ := HT_) (HW_ := HW_) (v322 := v322) (v325 := v325) (v328 := v328) (gb333 := gb333) (w88 := w88) (hS_ := hS_) (NB302_333 := NB302_333) (NB333_302 := NB333_302) (NB303_333 := NB303_333) (NB333_303 := NB333_303) (NB307_333 := NB307_333) (NB333_307 := NB333_307) (NB319_333 := NB319_333) (NB333_319 := NB333_319) (NB320_333 := NB320_333) (NB333_320 := NB333_320) (Ao89 := Ao89) (co89 := co89) (hHeld := hHeld) (w92 := w92) (HO_303001 := HO_303001) (HO_304001 := HO_304001) (HO329 := HO329) (HO332 := HO332) (BK302 := BK302) (BK303 := BK303) (BK307 := BK307) (BK319 := BK319) (BK320 := BK320) (BK333 := BK333) (HB := HB) (K0 := K0) (a0 := a0)

end Go.Proofs.Ytemnggadcgmmkaa.QFnPostBent

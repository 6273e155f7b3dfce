/- What the law FnPostBent reaches, function by function: what each computes, and that the machine's call comes to it. Laid by a program. -/
import Derived.Test.YtemnggadcgmmkaaQFnPostBentx0
import Derived.Test.YtemnggadcgmmkaaQFnPostBentx5
import Derived.Test.YtemnggadcgmmkaaQFnPostBentx6
import Derived.Test.YtemnggadcgmmkaaQFnPostBentx7
namespace Go.Proofs.Ytemnggadcgmmkaa.QFnPostBent
open Go.RowKit Go.Proofs.YtemnggadcgmmkaaW.PrintWords Go.Proofs.YtemnggadcgmmkaaW.PrintLast Go.Proofs.YtemnggadcgmmkaaW.PrintMore
attribute [local go_sem] max2_int min2_int max_two min_two max_three min_three max_four min_four   -- for this text's walks alone
set_option linter.unusedVariables false
set_option linter.unusedSimpArgs false

/-! ### laws_FnPostBent: function 3 -/
def laws_FnPostBent.j0 : Nat → Bool → Int → List (S29) → Option (Bool)
  | 0, _, _, _ => none
  | k + 1, x58, x303000, x303001 => if x58 = true then (none) else ((impl_PostOk.f k x303000 x303001).bind fun t318 => (if t318 = true then ((some (([] : List (S29)) : List (S29))).bind fun y321 => (if y321.length + x303001.length < 4398046511104 then ((some (y321 ++ x303001 : List (S29))).bind fun y324 => ((some (([(⟨(⟨#[97]⟩ : ByteArray), 1, 0⟩ : S29)] : List (S29)) : List (S29))).bind fun y327 => (if y324.length + y327.length < 4398046511104 then ((some (y324 ++ y327 : List (S29))).bind fun y330 => ((some (([] : List (S29)) : List (S29))).bind fun y334 => (if y334.length + x303001.length < 4398046511104 then ((some (y334 ++ x303001 : List (S29))).bind fun y337 => (if y337.length + x303001.length < 4398046511104 then ((some (y337 ++ x303001 : List (S29))).bind fun y340 => (if y340.length + y340.length < 4398046511104 then ((some (y340 ++ y340 : List (S29))).bind fun y344 => ((impl_PostOk.f k x303000 ([] : List (S29))).bind fun t347 => (if t347 = true then (none) else ((impl_PostOk.f k 100 x303001).bind fun t348 => (if t348 = true then (none) else ((impl_PostOk.f k x303000 y330).bind fun t349 => (if t349 = true then (none) else (if (y344.length : Int) ≤ 4 then ((impl_PostSame.f k x303000 x303001 100 x303001).bind fun t350 => (if t350 = true then (none) else ((impl_PostSame.f k x303000 x303001 x303000 y330).bind fun t351 => (some (!t351))))) else ((impl_PostOk.f k x303000 y344).bind fun t352 => (if t352 = true then (none) else ((impl_PostSame.f k x303000 x303001 100 x303001).bind fun t353 => (if t353 = true then (none) else ((impl_PostSame.f k x303000 x303001 x303000 y330).bind fun t354 => (some (!t354))))))))))))))) else (none))) else (none))) else (none)))) else (none)))) else (none))) else (some true)))
def laws_FnPostBent.f (k : Nat) (l0 : List Int) : Option (Bool) := if (l0.length : Int) > 1048576 then (some true) else ((spec_DrawPostSame.f k l0).bind fun bt294 => ((spec_DrawLegOk.f k l0).bind fun bt304 => ((spec_DrawAcctOk.f k l0).bind fun t308 => ((impl_PostSame.f k bt294.1 bt294.2.1 bt294.2.2.1 bt294.2.2.2).bind fun t309 => ((spec_PostSame.f k bt294.1 bt294.2.1 bt294.2.2.1 bt294.2.2.2).bind fun t310 => (if (t309 != t310) = true then (none) else ((impl_PostSame.f k bt294.1 bt294.2.1 bt294.2.2.1 bt294.2.2.2).bind fun t311 => ((impl_PostSame.f k bt294.2.2.1 bt294.2.2.2 bt294.1 bt294.2.1).bind fun t312 => (if (t311 != t312) = true then (none) else ((impl_LegOk.f k bt304.1 bt304.2.1 bt304.2.2).bind fun t313 => ((spec_LegOk.f k bt304.1 bt304.2.1 bt304.2.2).bind fun t314 => (if (t313 != t314) = true then (none) else ((impl_AcctOk.f k t308).bind fun t315 => ((spec_AcctOk.f k t308).bind fun t316 => (if (t315 != t316) = true then (none) else ((impl_PostSame.f k bt294.1 bt294.2.1 bt294.1 bt294.2.1).bind fun t317 => (laws_FnPostBent.j0 k (!t317) bt294.1 bt294.2.1)))))))))))))))))
theorem laws_FnPostBent.mono_l : ∀ k, (∀ y0 y1 y2, LeO (laws_FnPostBent.j0 k y0 y1 y2) (laws_FnPostBent.j0 (k + 1) y0 y1 y2))
  | 0 => fun _ _ _ r h => by simp [laws_FnPostBent.j0] at h
  | k + 1 => by
    have ih0 := laws_FnPostBent.mono_l k
    · intro y0 y1 y2
      unfold laws_FnPostBent.j0
      repeat' first
      | (with_reducible exact ih0 _ _ _)
      | (with_reducible exact impl_AcctOk.mono _ _)
      | (with_reducible exact impl_LegOk.mono _ _ _ _)
      | (with_reducible exact impl_PostOk.mono _ _ _)
      | (with_reducible exact impl_PostSame.mono _ _ _ _ _)
      | (with_reducible exact spec_AcctOk.mono _ _)
      | (with_reducible exact spec_DrawAcctOk.mono _ _)
      | (with_reducible exact spec_DrawLegOk.mono _ _)
      | (with_reducible exact spec_DrawPostSame.mono _ _)
      | (with_reducible exact spec_LegOk.mono _ _ _ _)
      | (with_reducible exact spec_PostSame.mono _ _ _ _ _)
      | (with_reducible exact LeO.refl _)
      | (with_reducible exact LeO.none _)
      | (with_reducible refine LeO.ite ?_ ?_)
      | (with_reducible refine LeO.bind ?_ (fun _ => ?_))
      | exact ih0 _ _ _
      | exact impl_AcctOk.mono _ _
      | exact impl_LegOk.mono _ _ _ _
      | exact impl_PostOk.mono _ _ _
      | exact impl_PostSame.mono _ _ _ _ _
      | exact spec_AcctOk.mono _ _
      | exact spec_DrawAcctOk.mono _ _
      | exact spec_DrawLegOk.mono _ _
      | exact spec_DrawPostSame.mono _ _
      | exact spec_LegOk.mono _ _ _ _
      | exact spec_PostSame.mono _ _ _ _ _
      | exact LeO.none _
      | refine LeO.ite ?_ ?_
      | refine LeO.bind ?_ (fun _ => ?_)
theorem laws_FnPostBent.mono : ∀ a0 k, LeO (laws_FnPostBent.f k a0) (laws_FnPostBent.f (k + 1) a0) := by
  intro a0 k
  have ih0 := laws_FnPostBent.mono_l k
  unfold laws_FnPostBent.f
  repeat' first
      | (with_reducible exact ih0 _ _ _)
      | (with_reducible exact impl_AcctOk.mono _ _)
      | (with_reducible exact impl_LegOk.mono _ _ _ _)
      | (with_reducible exact impl_PostOk.mono _ _ _)
      | (with_reducible exact impl_PostSame.mono _ _ _ _ _)
      | (with_reducible exact spec_AcctOk.mono _ _)
      | (with_reducible exact spec_DrawAcctOk.mono _ _)
      | (with_reducible exact spec_DrawLegOk.mono _ _)
      | (with_reducible exact spec_DrawPostSame.mono _ _)
      | (with_reducible exact spec_LegOk.mono _ _ _ _)
      | (with_reducible exact spec_PostSame.mono _ _ _ _ _)
      | (with_reducible exact LeO.refl _)
      | (with_reducible exact LeO.none _)
      | (with_reducible refine LeO.ite ?_ ?_)
      | (with_reducible refine LeO.bind ?_ (fun _ => ?_))
      | exact ih0 _ _ _
      | exact impl_AcctOk.mono _ _
      | exact impl_LegOk.mono _ _ _ _
      | exact impl_PostOk.mono _ _ _
      | exact impl_PostSame.mono _ _ _ _ _
      | exact spec_AcctOk.mono _ _
      | exact spec_DrawAcctOk.mono _ _
      | exact spec_DrawLegOk.mono _ _
      | exact spec_DrawPostSame.mono _ _
      | exact spec_LegOk.mono _ _ _ _
      | exact spec_PostSame.mono _ _ _ _ _
      | exact LeO.none _
      | refine LeO.ite ?_ ?_
      | refine LeO.bind ?_ (fun _ => ?_)
def laws_FnPostBent.T6 : Bool × List (List Nat × List Nat) := (true, [([], []), ([], []), ([0, 1], [0, 1]), ([], []), ([], []), ([3, 4, 2], [3, 4]), ([2, 5], [2, 5]), ([6, 5], [6]), ([7], [7]), ([7], [7]), ([8, 9, 7, 7], [7, 8, 9]), ([7], [7]), ([7], [7]), ([11, 12, 10, 7], [7, 11, 12]), ([10, 13, 7], [7, 10, 13]), ([7, 14], [7, 14]), ([15, 13], [15]), ([16], [16]), ([17, 16, 16], [16, 17]), ([16], [16]), ([19, 18, 16], [16, 19]), ([18, 20, 16], [16, 18, 20]), ([16, 21], [16, 21]), ([22, 20], [22]), ([23], [23]), ([24, 23, 23], [23, 24]), ([23], [23]), ([26, 25, 23], [23, 26]), ([25, 27, 23], [23, 25, 27]), ([23, 28], [23, 28]), ([29, 27], [29]), ([30], [30]), ([30], [30]), ([31, 32, 30, 30], [30, 31, 32]), ([33, 30], [30, 33]), ([30, 34], [30, 34])])
def laws_FnPostBent.B6 : List Nat := [0, 0, 3, 0, 0, 31, 63, 127, 255, 255, 1023, 255, 255, 8191, 16383, 32767, 65535, 131071, 262143, 131071, 1048575, 2097151, 4194303, 8388607, 16777215, 33554431, 16777215, 134217727, 268435455, 536870911, 1073741823, 2147483647, 2147483647, 8589934591, 17179869183, 34359738367]
theorem laws_FnPostBent.tab6 : rtab .any (opsOf Try.f3 6) = laws_FnPostBent.T6 := by kernel_rfl
theorem laws_FnPostBent.bits6 : waitsOk laws_FnPostBent.T6.2 laws_FnPostBent.B6 = true := by kernel_rfl
def laws_FnPostBent.T12 : Bool × List (List Nat × List Nat) := (true, [([], []), ([0], [0]), ([], []), ([], []), ([3], [3]), ([2, 4], [2, 4]), ([], []), ([6], [6]), ([5, 7, 5], [5, 7]), ([1, 8], [1, 8]), ([], []), ([10, 9, 8, 0, 1, 2, 3, 4, 5, 6, 7, 8, 9, 10], [9, 10])])
def laws_FnPostBent.B12 : List Nat := [0, 1, 0, 0, 8, 28, 0, 64, 252, 511, 0, 2047]
theorem laws_FnPostBent.tab12 : rtab .any (opsOf Try.f3 12) = laws_FnPostBent.T12 := by kernel_rfl
theorem laws_FnPostBent.bits12 : waitsOk laws_FnPostBent.T12.2 laws_FnPostBent.B12 = true := by kernel_rfl
def laws_FnPostBent.T13 : Bool × List (List Nat × List Nat) := (true, [([], []), ([0], [0]), ([], []), ([], []), ([3], [3]), ([2, 4], [2, 4]), ([], []), ([6], [6]), ([5, 7, 5], [5, 7]), ([1, 8], [1, 8]), ([], []), ([10, 9, 8, 0, 1, 2, 3, 4, 5, 6, 7, 8, 9, 10], [9, 10])])
def laws_FnPostBent.B13 : List Nat := [0, 1, 0, 0, 8, 28, 0, 64, 252, 511, 0, 2047]
theorem laws_FnPostBent.tab13 : rtab .any (opsOf Try.f3 13) = laws_FnPostBent.T13 := by kernel_rfl
theorem laws_FnPostBent.bits13 : waitsOk laws_FnPostBent.T13.2 laws_FnPostBent.B13 = true := by kernel_rfl
theorem laws_FnPostBent_vb {p q : Prop} (h : Aside0 p) (k : p → q := by (intro hz; (with_reducible repeat (first | refine blk_drewN ?_ _ | refine blk_drew ?_ | refine blk_alloc ?_ _)); exact hz)) : q := k h.out
theorem laws_FnPostBent_auHB {q : Prop} (h : q := by (repeat (first | (with_reducible first | exact HB.out | apply below_alloc | apply pw_below_drewN | apply below_drew1 | refine below_set ?_ GE302.out | refine below_set ?_ GE303.out | refine below_set ?_ GE307.out | refine below_set ?_ GE319.out | refine below_set ?_ GE320.out | refine below_set ?_ GE333.out | refine below_set ?_ GE343.out) | exact HB.out))) : q := h
/-- What is left of a text behind its first statements. -/
def restOf : Nat → Code → Code
 | 0, c => c
 | n + 1, .seq _ b => restOf n b
 | _, c => c
/-- A text's first statement. -/
def firstOf : Code → Code
 | .seq a _ => a
 | c => c
set_option maxHeartbeats 8000000 in
set_option maxRecDepth 100000 in
theorem laws_FnPostBent.rest13 (A0 : Option Addr) (c0 : Nat) (l0 : List Int) (r : Bool) (w : World) (t294 : Int) (t295 : List S29) (t298 : Int) (t299 : List S29) (t304 : ByteArray) (t305 t306 : Int) (t308 : ByteArray) (gb302 : Nat) (gb303 : Nat) (Ao12 : Option Addr) (co12 : Nat) (Ao14 : Option Addr) (co14 : Nat) (gb307 : Nat) (u11 u12 u13 u14 u15 u16 u17 u18 u19 u20 u21 u22 u23 u24 u25 u26 u27 u28 u29 u30 u31 u32 u33 u34 u35 u36 u37 u38 u39 u40 u41 u42 u43 u44 u45 u46 u47 u48 u49 u50 u51 u52 u53 u54 u55 u56 u57 u78 u79 u80 u81 u82 u83 u84 u85 u86 u87 u88 u89 u90 u91 u92 u93 u94 u95 u96 u97 u98 u99 u100 u101 u102 u103 u104 u105 u106 u107 u108 u109 u110 u111 u112 u113 u114 u115 u116 u117 u118 u119 u120 u121 u122 u123 u124 u125 u126 u127 u128 u129 :  Value) (kj5 : Nat) (y327 : List S29) (y330 : List S29) (y334 : List S29) (Ny334 : Aside0 (y334 = [])) (LMc47 : Aside0 (List.length y334 + List.length t295 < 4398046511104)) (y337 : List S29) (Ny337 : Aside0 (y337 = y334 ++ t295)) (LMc48 : Aside0 (List.length y337 + List.length t295 < 4398046511104)) (y340 : List S29) (Ny340 : Aside0 (y340 = y337 ++ t295)) (LMc49 : Aside0 (List.length y340 + List.length y340 < 4398046511104)) (y344 : List S29) (Ny344 : Aside0 (y344 = y340 ++ y340)) (A50 :  Aside0 (impl_PostOk.f kj5 t294 [] = Option.some Bool.false)) (A52 :  Aside0 (impl_PostOk.f kj5 100 t295 = Option.some Bool.false)) (A54 :  Aside0 (impl_PostOk.f kj5 t294 y330 = Option.some Bool.false)) (HWAY :  Aside0 ((if ((List.length y344 : Nat) : Int) ≤ 4 then Option.bind (impl_PostSame.f kj5 t294 t295 100 t295) fun t350 => if t350 = Bool.true then Option.none else Option.bind (impl_PostSame.f kj5 t294 t295 t294 y330) fun t351 => Option.some !t351 else Option.bind (impl_PostOk.f kj5 t294 y344) fun t352 => if t352 = Bool.true then Option.none else Option.bind (impl_PostSame.f kj5 t294 t295 100 t295) fun t353 => if t353 = Bool.true then Option.none else Option.bind (impl_PostSame.f kj5 t294 t295 t294 y330) fun t354 => Option.some !t354) = Option.some r)) (gb319 : Nat) (gb320 : Nat) (HT_ :  Aside0 (rtab Region.Mode.any #[{ dst := Option.some 68, op := Op.fieldAddr 25 (Operand.tmp 3) 0, type := 0, pos := "laws.go:120", after := #[], guard := Option.none }, { dst := Option.some 69, op := Op.load 3 (Operand.tmp 68), type := 3, pos := "laws.go:120", after := #[{ on := 0, ground := Ground.data }], guard := Option.none }, { dst := Option.some 70, op := Op.buildSlice 23 0 #[], type := 23, pos := "laws.go:120", after := #[], guard := Option.none }, { dst := Option.some 71, op := Op.fieldAddr 25 (Operand.tmp 3) 1, type := 0, pos := "laws.go:120", after := #[], guard := Option.none }, { dst := Option.some 72, op := Op.load 23 (Operand.tmp 71), type := 23, pos := "laws.go:120", after := #[{ on := 3, ground := Ground.data }], guard := Option.none }, { dst := Option.some 73, op := Op.call { callee := Callee.builtin Builtin.append, args := #[Operand.tmp 70, Operand.tmp 72], argTypes := #[23, 23] }, type := 23, pos := "laws.go:120", after := #[{ on := 2, ground := Ground.data }, { on := 4, ground := Ground.data }], guard := Option.none }, { dst := Option.some 74, op := Op.build 29 #[(0, Operand.const (Value.string { data := #[97] })), (1, Operand.const (Value.int IntKind.i64 1))], type := 29, pos := "laws.go:120", after := #[], guard := Option.none }, { dst := Option.some 75, op := Op.buildSlice 23 1 #[(0, Operand.tmp 74)], type := 23, pos := "laws.go:120", after := #[{ on := 6, ground := Ground.data }], guard := Option.none }, { dst := Option.some 76, op := Op.call { callee := Callee.builtin Builtin.append, args := #[Operand.tmp 73, Operand.tmp 75], argTypes := #[23, 23] }, type := 23, pos := "laws.go:120", after := #[{ on := 5, ground := Ground.data }, { on := 7, ground := Ground.data }, { on := 5, ground := Ground.chain }], guard := Option.none }, { dst := Option.some 77, op := Op.build 25 #[(0, Operand.tmp 69), (1, Operand.tmp 76)], type := 25, pos := "laws.go:120", after := #[{ on := 1, ground := Ground.data }, { on := 8, ground := Ground.data }], guard := Option.none }, { dst := Option.some 9, op := Op.alloc 25, type := 0, pos := "laws.go:120", after := #[], guard := Option.none }, { dst := Option.none, op := Op.store 25 (Operand.tmp 9) (Operand.tmp 77), type := 0, pos := "laws.go:120", after := #[{ on := 10, ground := Ground.data }, { on := 9, ground := Ground.data }, { on := 8, ground := Ground.chain }, { on := 0, ground := Ground.phase }, { on := 1, ground := Ground.phase }, { on := 2, ground := Ground.phase }, { on := 3, ground := Ground.phase }, { on := 4, ground := Ground.phase }, { on := 5, ground := Ground.phase }, { on := 6, ground := Ground.phase }, { on := 7, ground := Ground.phase }, { on := 8, ground := Ground.phase }, { on := 9, ground := Ground.phase }, { on := 10, ground := Ground.phase }], guard := Option.none }] = laws_FnPostBent.T12)) (HW_ :  Aside0 (waitsOk (Prod.snd laws_FnPostBent.T12) laws_FnPostBent.B12 = Bool.true)) (v322 v325 v328 : Value) (gb333 : Nat) (w88 : World) (hS_ :  World.cell? w88 { block := gb302, off := 0 } = Option.some (Value.int IntKind.i64 t294) ∧ World.cell? w88 { block := gb302, off := 1 } = Option.some (Value.slice Ao12 (List.length t295) co12)) (NB302_333 : Aside0 (gb302 ≠ gb333)) (NB333_302 : Aside0 (gb333 ≠ gb302)) (NB303_333 : Aside0 (gb303 ≠ gb333)) (NB333_303 : Aside0 (gb333 ≠ gb303)) (NB307_333 : Aside0 (gb307 ≠ gb333)) (NB333_307 : Aside0 (gb333 ≠ gb307)) (NB319_333 : Aside0 (gb319 ≠ gb333)) (NB333_319 : Aside0 (gb333 ≠ gb319)) (NB320_333 : Aside0 (gb320 ≠ gb333)) (NB333_320 : Aside0 (gb333 ≠ gb320)) (Ao89 : Option Addr) (co89 : Nat) (hHeld :  World.cell? (World.setCell (World.setCell w88 { block := gb333, off := 0 } (Value.int IntKind.i64 t294)) { block := gb333, off := 1 } (Value.slice Ao89 (List.length y330) co89)) { block := gb302, off := 0 } = Option.some (Value.int IntKind.i64 t294) ∧ World.cell? (World.setCell (World.setCell w88 { block := gb333, off := 0 } (Value.int IntKind.i64 t294)) { block := gb333, off := 1 } (Value.slice Ao89 (List.length y330) co89)) { block := gb302, off := 1 } = Option.some (Value.slice Ao12 (List.length t295) co12)) (w92 : World) (HO_303001 :  Aside0 (Kd.R k29 29 w92 (Array.size (World.heap w)) (fun k_ => Option.some k_ ≠ Value.ownBlock (Value.slice Ao14 (List.length t299) co14) ∧ Option.some k_ ≠ Value.ownBlock v328 ∧ Option.some k_ ≠ Value.ownBlock (Value.slice Ao89 (List.length y330) co89) ∧ k_ ≠ gb307) (Value.slice Ao12 (List.length t295) co12) t295)) (HO_304001 :  Aside0 (Kd.R k29 29 w92 (Array.size (World.heap w)) (fun k_ => Option.some k_ ≠ Value.ownBlock (Value.slice Ao12 (List.length t295) co12) ∧ Option.some k_ ≠ Value.ownBlock v328 ∧ Option.some k_ ≠ Value.ownBlock (Value.slice Ao89 (List.length y330) co89) ∧ k_ ≠ gb307) (Value.slice Ao14 (List.length t299) co14) t299)) (HO329 :  Aside0 (Kd.R k29 29 w92 (Array.size (World.heap w)) (fun k_ => Option.some k_ ≠ Value.ownBlock (Value.slice Ao12 (List.length t295) co12) ∧ Option.some k_ ≠ Value.ownBlock (Value.slice Ao14 (List.length t299) co14) ∧ Option.some k_ ≠ Value.ownBlock (Value.slice Ao89 (List.length y330) co89) ∧ k_ ≠ gb307) v328 y327)) (HO332 :  Aside0 (Kd.R k29 29 w92 (Array.size (World.heap w)) (fun k_ => Option.some k_ ≠ Value.ownBlock (Value.slice Ao12 (List.length t295) co12) ∧ Option.some k_ ≠ Value.ownBlock (Value.slice Ao14 (List.length t299) co14) ∧ Option.some k_ ≠ Value.ownBlock v328 ∧ k_ ≠ gb307) (Value.slice Ao89 (List.length y330) co89) y330)) (BK302 :  Aside0 ((World.heap w92)[gb302]? = Option.some (Obj.cells #[Value.int IntKind.i64 t294, Value.slice Ao12 (List.length t295) co12] 25))) (BK303 :  Aside0 ((World.heap w92)[gb303]? = Option.some (Obj.cells #[Value.int IntKind.i64 t298, Value.slice Ao14 (List.length t299) co14] 25))) (BK307 :  Aside0 ((World.heap w92)[gb307]? = Option.some (Obj.cells #[Value.string t304, Value.int IntKind.i64 t305, Value.int IntKind.i64 t306] 29))) (BK319 :  Aside0 ((World.heap w92)[gb319]? = Option.some (Obj.cells #[Value.int IntKind.i64 t294, Value.slice Option.none 0 0] 25))) (BK320 :  Aside0 ((World.heap w92)[gb320]? = Option.some (Obj.cells #[Value.int IntKind.i64 100, Value.slice Ao12 (List.length t295) co12] 25))) (BK333 :  Aside0 ((World.heap w92)[gb333]? = Option.some (Obj.cells #[Value.int IntKind.i64 t294, Value.slice Ao89 (List.length y330) co89] 25))) (HB : Aside0 (RowKit.Below (Array.size (World.heap w)) w w92)) (K0 : Act → World → Prop) (a0 : ∀ a W, Code.wp Try.prog (restOf 11 (Try.f3.body.getD .skip)) (bodyPost Try.prog Try.f3 fun e w' => e = Ending.returned (Value.bool r) ∧ Below w.heap.size w w') a W → K0 a W) :
  Code.wp Try.prog (firstOf (restOf 10 (Try.f3.body.getD .skip))) (Exit.then K0 (bodyPost Try.prog Try.f3 fun e w' => e = Ending.returned (Value.bool r) ∧ Below w.heap.size w w')) { tmps := #[Value.slice A0 (List.length l0) c0, Go.undef, Value.bool Bool.false, Value.pointer (Option.some { block := gb302, off := 0 }), Value.pointer (Option.some { block := gb303, off := 0 }), Value.pointer (Option.some { block := gb307, off := 0 }), Value.string t308, Value.pointer (Option.some { block := gb319, off := 0 }), Value.pointer (Option.some { block := gb320, off := 0 }), Value.pointer (Option.some { block := gb333, off := 0 }), Go.undef, u11, u12, u13, u14, u15, u16, u17, u18, u19, u20, u21, u22, u23, u24, u25, u26, u27, u28, u29, u30, u31, u32, u33, u34, u35, u36, u37, u38, u39, u40, u41, u42, u43, u44, u45, u46, u47, u48, u49, u50, u51, u52, u53, u54, u55, u56, u57, Value.bool Bool.false, Value.agg #[Value.int IntKind.i64 t294, Value.slice Ao12 (List.length t295) co12], Value.bool Bool.true, Value.bool Bool.false, Value.pointer (Option.some { block := gb302, off := 0 }), Value.int IntKind.i64 t294, Value.agg #[Value.int IntKind.i64 t294, Value.slice Option.none 0 0], Value.pointer (Option.some { block := gb302, off := 1 }), Value.slice Ao12 (List.length t295) co12, Value.agg #[Value.int IntKind.i64 100, Value.slice Ao12 (List.length t295) co12], Value.pointer (Option.some { block := gb302, off := 0 }), Value.int IntKind.i64 t294, v322, Value.pointer (Option.some { block := gb302, off := 1 }), Value.slice Ao12 (List.length t295) co12, v325, Value.agg #[Value.string { data := #[97] }, Value.int IntKind.i64 1, Value.int IntKind.i64 0], v328, Value.slice Ao89 (List.length y330) co89, Value.agg #[Value.int IntKind.i64 t294, Value.slice Ao89 (List.length y330) co89], u78, u79, u80, u81, u82, u83, u84, u85, u86, u87, u88, u89, u90, u91, u92, u93, u94, u95, u96, u97, u98, u99, u100, u101, u102, u103, u104, u105, u106, u107, u108, u109, u110, u111, u112, u113, u114, u115, u116, u117, u118, u119, u120, u121, u122, u123, u124, u125, u126, u127, u128, u129], defers := [] } w92 := by
 conv => arg 2; whnf
 conv at a0 => enter [a, W, 1, 2]; whnf
 replace HO_303001 := Aside0.mk (Kd.R_drew HO_303001.out)
 replace HO_304001 := Aside0.mk (Kd.R_drew HO_304001.out)
 replace HO329 := Aside0.mk (Kd.R_drew HO329.out)
 replace HO332 := Aside0.mk (Kd.R_drew HO332.out)
 replace BK302 := Aside0.mk (blk_drew BK302.out)
 replace BK303 := Aside0.mk (blk_drew BK303.out)
 replace BK307 := Aside0.mk (blk_drew BK307.out)
 replace BK319 := Aside0.mk (blk_drew BK319.out)
 replace BK320 := Aside0.mk (blk_drew BK320.out)
 replace BK333 := Aside0.mk (blk_drew BK333.out)
 replace HB := Aside0.mk (below_drew1 HB.out)
 refine start_ (n := 12) (S := fun w' => w'.cell? ⟨gb302, 0, none⟩ = some (.int .i64 t294) ∧ w'.cell? ⟨gb302, 1, none⟩ = some (.slice Ao12 t295.length co12)) (ds := []) #[false, false, false, false, false, false, false, false, false, false, false, false] (by kernel_rfl) rfl rfl ⟨(blk_cell BK302.out 0).trans rfl, (blk_cell BK302.out 1).trans rfl⟩ (fun hHeld => ?_); refine with_tabW laws_FnPostBent.tab13 laws_FnPostBent.bits13 (fun HT_ HW_ => ?_)
 generalize w92.drew = w93 at HO_303001 HO_304001 HO329 HO332 BK302 BK303 BK307 BK319 BK320 BK333 HB hHeld ⊢
 refine pu_ 0 (some 78) HT_ rfl rfl (by go_simp; rfl) (by kernel_rfl) rfl (by intro w'; go_simp; with_reducible rfl) (fun _ _ _ h => h) (by go_simp; rfl) ?_
 refine pu_ 3 (some 81) HT_ rfl rfl (by go_simp; rfl) (by kernel_rfl) rfl (by intro w'; go_simp; with_reducible rfl) (fun _ _ _ h => h) (by go_simp; rfl) ?_
 refine pu_ 6 (some 84) HT_ rfl rfl (by go_simp; rfl) (by kernel_rfl) rfl (by intro w'; go_simp; with_reducible rfl) (fun _ _ _ h => h) (by go_simp; rfl) ?_
 refine ta_ 1 (some 79) HT_ HW_ hHeld rfl rfl (by go_simp; rfl) (by kernel_rfl) rfl (by rintro w' ⟨s0, s1⟩; go_simp; with_reducible rfl) (fun _ _ _ h => h) (by go_simp; rfl) ?_
 refine ta_ 4 (some 82) HT_ HW_ hHeld rfl rfl (by go_simp; rfl) (by kernel_rfl) rfl (by rintro w' ⟨s0, s1⟩; go_simp; with_reducible rfl) (fun _ _ _ h => h) (by go_simp; rfl) ?_
 refine ta_ 7 (some 85) HT_ HW_ hHeld rfl rfl (by go_simp; rfl) (by kernel_rfl) rfl (by rintro w' ⟨s0, s1⟩; go_simp; with_reducible rfl) (fun _ _ _ h => h) (by go_simp; rfl) ?_
 refine join_ (σ := Value × Value × Value × Nat) 1 #[true, true, true, true, true, true, true, true, true, true, true, false] (fun s_ => [(80, s_.1), (83, s_.2.1), (86, s_.2.2.1), (10, .pointer (some ⟨s_.2.2.2, 0, none⟩)), (87, .agg #[.int .i64 t294, s_.2.2.1])]) (fun s_ w' => (w'.cell? ⟨gb302, 0, none⟩ = some (.int .i64 t294) ∧ w'.cell? ⟨gb302, 1, none⟩ = some (.slice Ao12 t295.length co12)) ∧ (Kd.R k29 29 w' w.heap.size (fun k_ => some k_ ≠ (.slice Ao89 y330.length co89 : Value).ownBlock ∧ some k_ ≠ (s_.2.2.1 : Value).ownBlock ∧ some k_ ≠ (.slice Ao12 t295.length co12 : Value).ownBlock ∧ some k_ ≠ (.slice Ao14 t299.length co14 : Value).ownBlock ∧ k_ ≠ gb307) v328 y327) ∧ (Kd.R k29 29 w' w.heap.size (fun k_ => some k_ ≠ (v328 : Value).ownBlock ∧ some k_ ≠ (s_.2.2.1 : Value).ownBlock ∧ some k_ ≠ (.slice Ao12 t295.length co12 : Value).ownBlock ∧ some k_ ≠ (.slice Ao14 t299.length co14 : Value).ownBlock ∧ k_ ≠ gb307) (.slice Ao89 y330.length co89) y330) ∧ (Kd.R k29 29 w' w.heap.size (fun k_ => some k_ ≠ (v328 : Value).ownBlock ∧ some k_ ≠ (.slice Ao89 y330.length co89 : Value).ownBlock ∧ some k_ ≠ (.slice Ao12 t295.length co12 : Value).ownBlock ∧ some k_ ≠ (.slice Ao14 t299.length co14 : Value).ownBlock ∧ k_ ≠ gb307) s_.2.2.1 y340) ∧ (Kd.R k29 29 w' w.heap.size (fun k_ => some k_ ≠ (v328 : Value).ownBlock ∧ some k_ ≠ (.slice Ao89 y330.length co89 : Value).ownBlock ∧ some k_ ≠ (s_.2.2.1 : Value).ownBlock ∧ some k_ ≠ (.slice Ao14 t299.length co14 : Value).ownBlock ∧ k_ ≠ gb307) (.slice Ao12 t295.length co12) t295) ∧ (Kd.R k29 29 w' w.heap.size (fun k_ => some k_ ≠ (v328 : Value).ownBlock ∧ some k_ ≠ (.slice Ao89 y330.length co89 : Value).ownBlock ∧ some k_ ≠ (s_.2.2.1 : Value).ownBlock ∧ some k_ ≠ (.slice Ao12 t295.length co12 : Value).ownBlock ∧ k_ ≠ gb307) (.slice Ao14 t299.length co14) t299) ∧ (w'.heap[gb302]? = some (.cells #[.int .i64 t294, .slice Ao12 t295.length co12] 25 (0, 0))) ∧ (w'.heap[gb303]? = some (.cells #[.int .i64 t298, .slice Ao14 t299.length co14] 25 (0, 0))) ∧ (w'.heap[gb307]? = some (.cells #[.string t304, .int .i64 t305, .int .i64 t306] 29 (0, 0))) ∧ (w'.heap[gb319]? = some (.cells #[.int .i64 t294, .slice none 0 0] 25 (0, 0))) ∧ (w'.heap[gb320]? = some (.cells #[.int .i64 100, .slice Ao12 t295.length co12] 25 (0, 0))) ∧ (w'.heap[gb333]? = some (.cells #[.int .i64 t294, .slice Ao89 y330.length co89] 25 (0, 0))) ∧ (w'.heap[s_.2.2.2]? = some (.cells #[.int .i64 0, .slice none 0 0] 25 (0, 0))) ∧ (w.heap.size ≤ s_.2.2.2) ∧ (w.heap.size ≤ s_.2.2.2) ∧ (gb302 ≠ s_.2.2.2) ∧ (s_.2.2.2 ≠ gb302) ∧ (gb303 ≠ s_.2.2.2) ∧ (s_.2.2.2 ≠ gb303) ∧ (gb307 ≠ s_.2.2.2) ∧ (s_.2.2.2 ≠ gb307) ∧ (gb319 ≠ s_.2.2.2) ∧ (s_.2.2.2 ≠ gb319) ∧ (gb320 ≠ s_.2.2.2) ∧ (s_.2.2.2 ≠ gb320) ∧ (gb333 ≠ s_.2.2.2) ∧ (s_.2.2.2 ≠ gb333) ∧ (Below w.heap.size w w')) ?_ ?_
 rotate_left
 ·
  intro hCont
  refine two_ (i := 2) (j := 10) (Ni := some 80) (Nj := some 10) #[true, true, true, true, true, false, true, true, false, false, false, false] #[true, true, false, true, true, false, true, true, false, false, true, false] rfl rfl rfl rfl (two_of HT_.out (by kernel_rfl)) (by decide) (by decide) (fun K hK => ?_) (fun K hK => ?_)
  ·
   skip
   refine Kd.R_lit_step k29 _ 29 ?hg (N := 80) ?hd (xs := ([] : List (S29))) (inner := []) (ok := fun _ => True) (okp := fun _ => True) ?hr ?hp (fun _ hk => hk) trivial (Below.refl _ _) (Nat.le_refl _) (by simp) ?_; (case hd => rfl); (case hg => rfl); (case hr => first | (go_simp; done) | (go_simp; rfl)); (case hp => exact (Reps.none _ _))
   intro v335 w94 ho95 hb hg_ hnew_
   clear hg_ hnew_
   (first | rw [← Ny334.out] at ho95 | (simp only [Int.reduceToNat] at ho95; rw [← Ny334.out] at ho95))
   have HO336 := Aside0.mk (Kd.R_lower (Kd.R_newB (Kd.R_new' (Kd.R_new' (Kd.R_new' (Kd.R_new' ho95 (Kd.R_lt (lo_ HO_303001))) (Kd.R_lt (lo_ HO_304001))) (Kd.R_lt (lo_ HO329))) (Kd.R_lt (lo_ HO332))) (g := gb307) (o := .cells #[.string t304, .int .i64 t305, .int .i64 t306] 29 (0, 0)) (laws_FnPostBent_vb BK307)) (below_size (laws_FnPostBent_auHB)))
   replace HO_303001 := Aside0.mk (Kd.R_elder' (lo_ HO_303001) (Kd.R_base ho95) hb)
   replace HO_304001 := Aside0.mk (Kd.R_elder' (lo_ HO_304001) (Kd.R_base ho95) hb)
   replace HO329 := Aside0.mk (Kd.R_elder' (lo_ HO329) (Kd.R_base ho95) hb)
   replace HO332 := Aside0.mk (Kd.R_elder' (lo_ HO332) (Kd.R_base ho95) hb)
   replace BK302 := Aside0.mk (blk_below (g := gb302) (o := .cells #[.int .i64 t294, .slice Ao12 t295.length co12] 25 (0, 0)) (laws_FnPostBent_vb BK302) hb)
   replace BK303 := Aside0.mk (blk_below (g := gb303) (o := .cells #[.int .i64 t298, .slice Ao14 t299.length co14] 25 (0, 0)) (laws_FnPostBent_vb BK303) hb)
   replace BK307 := Aside0.mk (blk_below (g := gb307) (o := .cells #[.string t304, .int .i64 t305, .int .i64 t306] 29 (0, 0)) (laws_FnPostBent_vb BK307) hb)
   replace BK319 := Aside0.mk (blk_below (g := gb319) (o := .cells #[.int .i64 t294, .slice none 0 0] 25 (0, 0)) (laws_FnPostBent_vb BK319) hb)
   replace BK320 := Aside0.mk (blk_below (g := gb320) (o := .cells #[.int .i64 100, .slice Ao12 t295.length co12] 25 (0, 0)) (laws_FnPostBent_vb BK320) hb)
   replace BK333 := Aside0.mk (blk_below (g := gb333) (o := .cells #[.int .i64 t294, .slice Ao89 y330.length co89] 25 (0, 0)) (laws_FnPostBent_vb BK333) hb)
   replace HB := Aside0.mk (below_step (laws_FnPostBent_auHB) hb)
   clear hb ho95
   refine hK.out _ _ ⟨(blk_cell BK302.out 0).trans rfl, (blk_cell BK302.out 1).trans rfl⟩ (fun hHeld => ?_)
   clear hK K
   refine norm_ (a' := ?_) ?_ ?_
   rotate_left
   ·
    show Act.put _ (some 80) _ = _
    simp only [Act.put, List.setIfInBounds_toArray, List.set_cons_zero, List.set_cons_succ, i64_w, i32_w]
    rfl
   refine two_ (i := 5) (j := 10) (Ni := some 83) (Nj := some 10) #[true, true, true, true, true, true, true, true, false, false, false, false] #[true, true, true, true, true, false, true, true, false, false, true, false] rfl rfl rfl rfl (two_of HT_.out (by kernel_rfl)) (by decide) (by decide) (fun K hK => ?_) (fun K hK => ?_)
   ·
    skip
    refine Kd.R_append_rows_step k29 (w0 := w) w.heap.size (by rfl) (.tmp 80) (.tmp 82) 23 29 (.agg #[(.string ⟨#[]⟩), (.int .i64 0), (.int .i64 0)]) 32 rfl Try.underlying23 info29 rfl (by decide) (by omega) v335 y334 t295 _ _ _ (fun k_ => some k_ ≠ (.slice Ao12 t295.length co12 : Value).ownBlock ∧ some k_ ≠ (.slice Ao14 t299.length co14 : Value).ownBlock ∧ some k_ ≠ (v328 : Value).ownBlock ∧ some k_ ≠ (.slice Ao89 y330.length co89 : Value).ownBlock ∧ k_ ≠ gb307) (fun _ => False) rfl rfl ?aO ?aR (fun _ _ h => h) (fun _ h => h.elim) ?aF ?aB ?aS ?aL ?_
    (case aR => exact co_ (Kd.R_reads' HO_303001.out).2.2)
    (case aB => exact (laws_FnPostBent_auHB))
    (case aF => exact (fun k_ hk => ⟨Kd.fresh' (Kd.R_lt (lo_ HO_303001)) k_ hk, Kd.fresh' (Kd.R_lt (lo_ HO_304001)) k_ hk, Kd.fresh' (Kd.R_lt (lo_ HO329)) k_ hk, Kd.fresh' (Kd.R_lt (lo_ HO332)) k_ hk, Kd.freshB (g := gb307) (o := .cells #[.string t304, .int .i64 t305, .int .i64 t306] 29 (0, 0)) (laws_FnPostBent_vb BK307) k_ hk⟩))
    (case aO => exact (by (with_reducible repeat (first | apply Kd.R_alloc | apply Kd.R_drewN | apply Kd.R_drew)); exact Kd.R_mono HO336.out (fun _ hk => ⟨hk.1.1.1.1.2, ⟨hk.1.1.1.2, ⟨hk.1.1.2, ⟨hk.1.2, hk.2⟩⟩⟩⟩)))
    (case aS => exact (below_size (laws_FnPostBent_auHB)))
    (case aL => have := LMc47.out; omega)
    intro v338 w96 ho hb hg hat
    rw [← Ny337.out] at ho
    have n0_ := Aside0.mk (Kd.R_after (ok := (fun k_ => some k_ ≠ (.slice Ao14 t299.length co14 : Value).ownBlock ∧ some k_ ≠ (v328 : Value).ownBlock ∧ some k_ ≠ (.slice Ao89 y330.length co89 : Value).ownBlock ∧ k_ ≠ gb307)) (lo_ HO_303001) hg hat)
    have n1_ := Aside0.mk (Kd.R_after (ok := (fun k_ => some k_ ≠ (.slice Ao12 t295.length co12 : Value).ownBlock ∧ some k_ ≠ (v328 : Value).ownBlock ∧ some k_ ≠ (.slice Ao89 y330.length co89 : Value).ownBlock ∧ k_ ≠ gb307)) (lo_ HO_304001) hg hat)
    have n2_ := Aside0.mk (blk_grown (g := gb302) (o := .cells #[.int .i64 t294, .slice Ao12 t295.length co12] 25 (0, 0)) (laws_FnPostBent_vb BK302) hg (Kd.R_ne HO336.out BK302.out (by decide)))
    have n3_ := Aside0.mk (blk_grown (g := gb303) (o := .cells #[.int .i64 t298, .slice Ao14 t299.length co14] 25 (0, 0)) (laws_FnPostBent_vb BK303) hg (Kd.R_ne HO336.out BK303.out (by decide)))
    have n4_ := Aside0.mk (blk_grown (g := gb307) (o := .cells #[.string t304, .int .i64 t305, .int .i64 t306] 29 (0, 0)) (laws_FnPostBent_vb BK307) hg (Kd.R_away HO336.out (fun _ hk => hk.2)))
    have n5_ := Aside0.mk (blk_grown (g := gb319) (o := .cells #[.int .i64 t294, .slice none 0 0] 25 (0, 0)) (laws_FnPostBent_vb BK319) hg (Kd.R_ne HO336.out BK319.out (by decide)))
    have n6_ := Aside0.mk (blk_grown (g := gb320) (o := .cells #[.int .i64 100, .slice Ao12 t295.length co12] 25 (0, 0)) (laws_FnPostBent_vb BK320) hg (Kd.R_ne HO336.out BK320.out (by decide)))
    have n7_ := Aside0.mk (Kd.R_after (ok := (fun k_ => some k_ ≠ (.slice Ao12 t295.length co12 : Value).ownBlock ∧ some k_ ≠ (.slice Ao14 t299.length co14 : Value).ownBlock ∧ some k_ ≠ (.slice Ao89 y330.length co89 : Value).ownBlock ∧ k_ ≠ gb307)) (lo_ HO329) hg hat)
    have n8_ := Aside0.mk (Kd.R_after (ok := (fun k_ => some k_ ≠ (.slice Ao12 t295.length co12 : Value).ownBlock ∧ some k_ ≠ (.slice Ao14 t299.length co14 : Value).ownBlock ∧ some k_ ≠ (v328 : Value).ownBlock ∧ k_ ≠ gb307)) (lo_ HO332) hg hat)
    have n9_ := Aside0.mk (blk_grown (g := gb333) (o := .cells #[.int .i64 t294, .slice Ao89 y330.length co89] 25 (0, 0)) (laws_FnPostBent_vb BK333) hg (Kd.R_ne HO336.out BK333.out (by decide)))
    have n10_ := Aside0.mk (hb)
    have n11_ := Aside0.mk (ho)
    clear HO_303001
    clear HO_304001
    clear BK302
    clear BK303
    clear BK307
    clear BK319
    clear BK320
    clear HO329
    clear HO332
    clear BK333
    clear HB
    clear HO336
    have HO_303001 := n0_
    have HO_304001 := n1_
    have BK302 := n2_
    have BK303 := n3_
    have BK307 := n4_
    have BK319 := n5_
    have BK320 := n6_
    have HO329 := n7_
    have HO332 := n8_
    have BK333 := n9_
    have HB := n10_
    have HO339 := n11_
    clear n0_ n1_ n2_ n3_ n4_ n5_ n6_ n7_ n8_ n9_ n10_ n11_
    clear ho hb hg hat
    refine hK.out _ _ ⟨(blk_cell BK302.out 0).trans rfl, (blk_cell BK302.out 1).trans rfl⟩ (fun hHeld => ?_)
    clear hK K
    refine norm_ (a' := ?_) ?_ ?_
    rotate_left
    ·
     show Act.put _ (some 83) _ = _
     simp only [Act.put, List.setIfInBounds_toArray, List.set_cons_zero, List.set_cons_succ, i64_w, i32_w]
     rfl
    refine two_ (i := 8) (j := 10) (Ni := some 86) (Nj := some 10) #[true, true, true, true, true, true, true, true, true, false, false, false] #[true, true, true, true, true, true, true, true, false, false, true, false] rfl rfl rfl rfl (two_of HT_.out (by kernel_rfl)) (by decide) (by decide) (fun K hK => ?_) (fun K hK => ?_)
    ·
     skip
     refine Kd.R_append_rows_step k29 (w0 := w) w.heap.size (by rfl) (.tmp 83) (.tmp 85) 23 29 (.agg #[(.string ⟨#[]⟩), (.int .i64 0), (.int .i64 0)]) 32 rfl Try.underlying23 info29 rfl (by decide) (by omega) v338 y337 t295 _ _ _ (fun k_ => some k_ ≠ (.slice Ao12 t295.length co12 : Value).ownBlock ∧ some k_ ≠ (.slice Ao14 t299.length co14 : Value).ownBlock ∧ some k_ ≠ (v328 : Value).ownBlock ∧ some k_ ≠ (.slice Ao89 y330.length co89 : Value).ownBlock ∧ k_ ≠ gb307) (fun _ => False) rfl rfl ?aO ?aR (fun _ _ h => h) (fun _ h => h.elim) ?aF ?aB ?aS ?aL ?_
     (case aR => exact co_ (Kd.R_reads' HO_303001.out).2.2)
     (case aB => exact (laws_FnPostBent_auHB))
     (case aF => exact (fun k_ hk => ⟨Kd.fresh' (Kd.R_lt (lo_ HO_303001)) k_ hk, Kd.fresh' (Kd.R_lt (lo_ HO_304001)) k_ hk, Kd.fresh' (Kd.R_lt (lo_ HO329)) k_ hk, Kd.fresh' (Kd.R_lt (lo_ HO332)) k_ hk, Kd.freshB (g := gb307) (o := .cells #[.string t304, .int .i64 t305, .int .i64 t306] 29 (0, 0)) (laws_FnPostBent_vb BK307) k_ hk⟩))
     (case aO => exact (lo_ HO339))
     (case aS => exact (below_size (laws_FnPostBent_auHB)))
     (case aL => have := LMc48.out; omega)
     intro v341 w97 ho hb hg hat
     rw [← Ny340.out] at ho
     have n0_ := Aside0.mk (Kd.R_after (ok := (fun k_ => some k_ ≠ (.slice Ao14 t299.length co14 : Value).ownBlock ∧ some k_ ≠ (v328 : Value).ownBlock ∧ some k_ ≠ (.slice Ao89 y330.length co89 : Value).ownBlock ∧ k_ ≠ gb307)) (lo_ HO_303001) hg hat)
     have n1_ := Aside0.mk (Kd.R_after (ok := (fun k_ => some k_ ≠ (.slice Ao12 t295.length co12 : Value).ownBlock ∧ some k_ ≠ (v328 : Value).ownBlock ∧ some k_ ≠ (.slice Ao89 y330.length co89 : Value).ownBlock ∧ k_ ≠ gb307)) (lo_ HO_304001) hg hat)
     have n2_ := Aside0.mk (blk_grown (g := gb302) (o := .cells #[.int .i64 t294, .slice Ao12 t295.length co12] 25 (0, 0)) (laws_FnPostBent_vb BK302) hg (Kd.R_ne HO339.out BK302.out (by decide)))
     have n3_ := Aside0.mk (blk_grown (g := gb303) (o := .cells #[.int .i64 t298, .slice Ao14 t299.length co14] 25 (0, 0)) (laws_FnPostBent_vb BK303) hg (Kd.R_ne HO339.out BK303.out (by decide)))
     have n4_ := Aside0.mk (blk_grown (g := gb307) (o := .cells #[.string t304, .int .i64 t305, .int .i64 t306] 29 (0, 0)) (laws_FnPostBent_vb BK307) hg (Kd.R_away HO339.out (fun _ hk => hk.2.2.2.2)))
     have n5_ := Aside0.mk (blk_grown (g := gb319) (o := .cells #[.int .i64 t294, .slice none 0 0] 25 (0, 0)) (laws_FnPostBent_vb BK319) hg (Kd.R_ne HO339.out BK319.out (by decide)))
     have n6_ := Aside0.mk (blk_grown (g := gb320) (o := .cells #[.int .i64 100, .slice Ao12 t295.length co12] 25 (0, 0)) (laws_FnPostBent_vb BK320) hg (Kd.R_ne HO339.out BK320.out (by decide)))
     have n7_ := Aside0.mk (Kd.R_after (ok := (fun k_ => some k_ ≠ (.slice Ao12 t295.length co12 : Value).ownBlock ∧ some k_ ≠ (.slice Ao14 t299.length co14 : Value).ownBlock ∧ some k_ ≠ (.slice Ao89 y330.length co89 : Value).ownBlock ∧ k_ ≠ gb307)) (lo_ HO329) hg hat)
     have n8_ := Aside0.mk (Kd.R_after (ok := (fun k_ => some k_ ≠ (.slice Ao12 t295.length co12 : Value).ownBlock ∧ some k_ ≠ (.slice Ao14 t299.length co14 : Value).ownBlock ∧ some k_ ≠ (v328 : Value).ownBlock ∧ k_ ≠ gb307)) (lo_ HO332) hg hat)
     have n9_ := Aside0.mk (blk_grown (g := gb333) (o := .cells #[.int .i64 t294, .slice Ao89 y330.length co89] 25 (0, 0)) (laws_FnPostBent_vb BK333) hg (Kd.R_ne HO339.out BK333.out (by decide)))
     have n10_ := Aside0.mk (hb)
     have n11_ := Aside0.mk (ho)
     clear HO_303001
     clear HO_304001
     clear BK302
     clear BK303
     clear BK307
     clear BK319
     clear BK320
     clear HO329
     clear HO332
     clear BK333
     clear HB
     clear HO339
     have HO_303001 := n0_
     have HO_304001 := n1_
     have BK302 := n2_
     have BK303 := n3_
     have BK307 := n4_
     have BK319 := n5_
     have BK320 := n6_
     have HO329 := n7_
     have HO332 := n8_
     have BK333 := n9_
     have HB := n10_
     have HO342 := n11_
     clear n0_ n1_ n2_ n3_ n4_ n5_ n6_ n7_ n8_ n9_ n10_ n11_
     clear ho hb hg hat
     obtain ⟨Ao98, co98, eo98⟩ := Kd.R_slice HO342.out
     (first | subst eo98 | (injection eo98 with f1_ f2_ f3_; have f4_ := f1_.symm; have f5_ := f3_.symm; clear f1_ f2_ f3_; subst f4_; subst f5_))
     refine hK.out _ _ ⟨(blk_cell BK302.out 0).trans rfl, (blk_cell BK302.out 1).trans rfl⟩ (fun hHeld => ?_)
     clear hK K
     refine norm_ (a' := ?_) ?_ ?_
     rotate_left
     ·
      show Act.put _ (some 86) _ = _
      simp only [Act.put, List.setIfInBounds_toArray, List.set_cons_zero, List.set_cons_succ, i64_w, i32_w]
      rfl
     refine pu_ 9 (some 87) HT_ rfl rfl (by go_simp; rfl) (by kernel_rfl) rfl (by intro w'; go_simp; with_reducible rfl) (fun _ _ _ h => h) (by go_simp; rfl) ?_
     refine one_ (i := 10) (N := some 10) #[true, true, true, true, true, true, true, true, true, true, true, false] rfl rfl (one_of HT_.out (by kernel_rfl)) (by decide) (fun K hK => ?_)
     refine box_step ?hg (N := 10) ?hd (cs := #[.int .i64 0, .slice none 0 0]) (t := 25) ?hr ?_; (case hd => rfl); (case hg => rfl); (case hr => first | (go_simp; done) | (go_simp; rfl))
     intro gb343 hg w99 hbox hb
     replace HO_303001 := Aside0.mk (Kd.R_below (lo_ HO_303001) hb)
     replace HO_304001 := Aside0.mk (Kd.R_below (lo_ HO_304001) hb)
     replace HO329 := Aside0.mk (Kd.R_below (lo_ HO329) hb)
     replace HO332 := Aside0.mk (Kd.R_below (lo_ HO332) hb)
     replace HO342 := Aside0.mk (Kd.R_below (lo_ HO342) hb)
     have BK343 := Aside0.mk (hbox)
     have GW343 := Aside0.mk ((by rw [hg]; exact (below_size (laws_FnPostBent_auHB)) : w.heap.size ≤ gb343))
     have GE343 := Aside0.mk ((by rw [hg]; exact (below_size (laws_FnPostBent_auHB)) : w.heap.size ≤ gb343))
     replace HB := Aside0.mk (below_step (laws_FnPostBent_auHB) hb)
     have NB302_343 := Aside0.mk ((by rw [hg]; exact Nat.ne_of_lt (blk_lt (g := gb302) (o := .cells #[.int .i64 t294, .slice Ao12 t295.length co12] 25 (0, 0)) (laws_FnPostBent_vb BK302)) : gb302 ≠ gb343))
     have NB343_302 := Aside0.mk ((by rw [hg]; exact Nat.ne_of_gt (blk_lt (g := gb302) (o := .cells #[.int .i64 t294, .slice Ao12 t295.length co12] 25 (0, 0)) (laws_FnPostBent_vb BK302)) : gb343 ≠ gb302))
     replace BK302 := Aside0.mk (blk_below (g := gb302) (o := .cells #[.int .i64 t294, .slice Ao12 t295.length co12] 25 (0, 0)) (laws_FnPostBent_vb BK302) hb)
     have NB303_343 := Aside0.mk ((by rw [hg]; exact Nat.ne_of_lt (blk_lt (g := gb303) (o := .cells #[.int .i64 t298, .slice Ao14 t299.length co14] 25 (0, 0)) (laws_FnPostBent_vb BK303)) : gb303 ≠ gb343))
     have NB343_303 := Aside0.mk ((by rw [hg]; exact Nat.ne_of_gt (blk_lt (g := gb303) (o := .cells #[.int .i64 t298, .slice Ao14 t299.length co14] 25 (0, 0)) (laws_FnPostBent_vb BK303)) : gb343 ≠ gb303))
     replace BK303 := Aside0.mk (blk_below (g := gb303) (o := .cells #[.int .i64 t298, .slice Ao14 t299.length co14] 25 (0, 0)) (laws_FnPostBent_vb BK303) hb)
     have NB307_343 := Aside0.mk ((by rw [hg]; exact Nat.ne_of_lt (blk_lt (g := gb307) (o := .cells #[.string t304, .int .i64 t305, .int .i64 t306] 29 (0, 0)) (laws_FnPostBent_vb BK307)) : gb307 ≠ gb343))
     have NB343_307 := Aside0.mk ((by rw [hg]; exact Nat.ne_of_gt (blk_lt (g := gb307) (o := .cells #[.string t304, .int .i64 t305, .int .i64 t306] 29 (0, 0)) (laws_FnPostBent_vb BK307)) : gb343 ≠ gb307))
     replace BK307 := Aside0.mk (blk_below (g := gb307) (o := .cells #[.string t304, .int .i64 t305, .int .i64 t306] 29 (0, 0)) (laws_FnPostBent_vb BK307) hb)
     have NB319_343 := Aside0.mk ((by rw [hg]; exact Nat.ne_of_lt (blk_lt (g := gb319) (o := .cells #[.int .i64 t294, .slice none 0 0] 25 (0, 0)) (laws_FnPostBent_vb BK319)) : gb319 ≠ gb343))
     have NB343_319 := Aside0.mk ((by rw [hg]; exact Nat.ne_of_gt (blk_lt (g := gb319) (o := .cells #[.int .i64 t294, .slice none 0 0] 25 (0, 0)) (laws_FnPostBent_vb BK319)) : gb343 ≠ gb319))
     replace BK319 := Aside0.mk (blk_below (g := gb319) (o := .cells #[.int .i64 t294, .slice none 0 0] 25 (0, 0)) (laws_FnPostBent_vb BK319) hb)
     have NB320_343 := Aside0.mk ((by rw [hg]; exact Nat.ne_of_lt (blk_lt (g := gb320) (o := .cells #[.int .i64 100, .slice Ao12 t295.length co12] 25 (0, 0)) (laws_FnPostBent_vb BK320)) : gb320 ≠ gb343))
     have NB343_320 := Aside0.mk ((by rw [hg]; exact Nat.ne_of_gt (blk_lt (g := gb320) (o := .cells #[.int .i64 100, .slice Ao12 t295.length co12] 25 (0, 0)) (laws_FnPostBent_vb BK320)) : gb343 ≠ gb320))
     replace BK320 := Aside0.mk (blk_below (g := gb320) (o := .cells #[.int .i64 100, .slice Ao12 t295.length co12] 25 (0, 0)) (laws_FnPostBent_vb BK320) hb)
     have NB333_343 := Aside0.mk ((by rw [hg]; exact Nat.ne_of_lt (blk_lt (g := gb333) (o := .cells #[.int .i64 t294, .slice Ao89 y330.length co89] 25 (0, 0)) (laws_FnPostBent_vb BK333)) : gb333 ≠ gb343))
     have NB343_333 := Aside0.mk ((by rw [hg]; exact Nat.ne_of_gt (blk_lt (g := gb333) (o := .cells #[.int .i64 t294, .slice Ao89 y330.length co89] 25 (0, 0)) (laws_FnPostBent_vb BK333)) : gb343 ≠ gb333))
     replace BK333 := Aside0.mk (blk_below (g := gb333) (o := .cells #[.int .i64 t294, .slice Ao89 y330.length co89] 25 (0, 0)) (laws_FnPostBent_vb BK333) hb)
     clear hb hbox hg
     refine hK.out _ _ ⟨(blk_cell BK302.out 0).trans rfl, (blk_cell BK302.out 1).trans rfl⟩ (fun hHeld => ?_)
     clear hK K
     refine norm_ (a' := ?_) ?_ ?_
     rotate_left
     ·
      show Act.put _ (some 10) _ = _
      simp only [Act.put, List.setIfInBounds_toArray, List.set_cons_zero, List.set_cons_succ, i64_w, i32_w]
      rfl
     exact norm_ (by simp only [putAll, Act.put, List.setIfInBounds_toArray, List.set_cons_zero, List.set_cons_succ]) (hCont (v335, v338, .slice Ao98 y340.length co98, gb343) _ ⟨hHeld, (by (with_reducible repeat (first | apply Kd.R_alloc | apply Kd.R_drewN | apply Kd.R_drew)); exact Kd.R_mono HO329.out (fun _ hk => ⟨hk.1.2.2.1, ⟨hk.2, ⟨hk.1.1, ⟨hk.1.2.1, hk.1.2.2.2⟩⟩⟩⟩)), (by (with_reducible repeat (first | apply Kd.R_alloc | apply Kd.R_drewN | apply Kd.R_drew)); exact Kd.R_mono HO332.out (fun _ hk => ⟨hk.1.2.2.1, ⟨hk.2, ⟨hk.1.1, ⟨hk.1.2.1, hk.1.2.2.2⟩⟩⟩⟩)), (by (with_reducible repeat (first | apply Kd.R_alloc | apply Kd.R_drewN | apply Kd.R_drew)); exact Kd.R_mono HO342.out (fun _ hk => ⟨hk.2.2.1, ⟨hk.2.2.2.1, ⟨hk.1, ⟨hk.2.1, hk.2.2.2.2⟩⟩⟩⟩)), (by (with_reducible repeat (first | apply Kd.R_alloc | apply Kd.R_drewN | apply Kd.R_drew)); exact Kd.R_mono HO_303001.out (fun _ hk => ⟨hk.1.2.1, ⟨hk.1.2.2.1, ⟨hk.2, ⟨hk.1.1, hk.1.2.2.2⟩⟩⟩⟩)), (by (with_reducible repeat (first | apply Kd.R_alloc | apply Kd.R_drewN | apply Kd.R_drew)); exact Kd.R_mono HO_304001.out (fun _ hk => ⟨hk.1.2.1, ⟨hk.1.2.2.1, ⟨hk.2, ⟨hk.1.1, hk.1.2.2.2⟩⟩⟩⟩)), (laws_FnPostBent_vb BK302), (laws_FnPostBent_vb BK303), (laws_FnPostBent_vb BK307), (laws_FnPostBent_vb BK319), (laws_FnPostBent_vb BK320), (laws_FnPostBent_vb BK333), (laws_FnPostBent_vb BK343), GW343.out, GE343.out, NB302_343.out, NB343_302.out, NB303_343.out, NB343_303.out, NB307_343.out, NB343_307.out, NB319_343.out, NB343_319.out, NB320_343.out, NB343_320.out, NB333_343.out, NB343_333.out, (laws_FnPostBent_auHB)⟩)
    skip
    refine box_step ?hg (N := 10) ?hd (cs := #[.int .i64 0, .slice none 0 0]) (t := 25) ?hr ?_; (case hd => rfl); (case hg => rfl); (case hr => first | (go_simp; done) | (go_simp; rfl))
    intro gb343 hg w97 hbox hb
    replace HO_303001 := Aside0.mk (Kd.R_below (lo_ HO_303001) hb)
    replace HO_304001 := Aside0.mk (Kd.R_below (lo_ HO_304001) hb)
    replace HO329 := Aside0.mk (Kd.R_below (lo_ HO329) hb)
    replace HO332 := Aside0.mk (Kd.R_below (lo_ HO332) hb)
    replace HO339 := Aside0.mk (Kd.R_below (lo_ HO339) hb)
    have BK343 := Aside0.mk (hbox)
    have GW343 := Aside0.mk ((by rw [hg]; exact (below_size (laws_FnPostBent_auHB)) : w.heap.size ≤ gb343))
    have GE343 := Aside0.mk ((by rw [hg]; exact (below_size (laws_FnPostBent_auHB)) : w.heap.size ≤ gb343))
    replace HB := Aside0.mk (below_step (laws_FnPostBent_auHB) hb)
    have NB302_343 := Aside0.mk ((by rw [hg]; exact Nat.ne_of_lt (blk_lt (g := gb302) (o := .cells #[.int .i64 t294, .slice Ao12 t295.length co12] 25 (0, 0)) (laws_FnPostBent_vb BK302)) : gb302 ≠ gb343))
    have NB343_302 := Aside0.mk ((by rw [hg]; exact Nat.ne_of_gt (blk_lt (g := gb302) (o := .cells #[.int .i64 t294, .slice Ao12 t295.length co12] 25 (0, 0)) (laws_FnPostBent_vb BK302)) : gb343 ≠ gb302))
    replace BK302 := Aside0.mk (blk_below (g := gb302) (o := .cells #[.int .i64 t294, .slice Ao12 t295.length co12] 25 (0, 0)) (laws_FnPostBent_vb BK302) hb)
    have NB303_343 := Aside0.mk ((by rw [hg]; exact Nat.ne_of_lt (blk_lt (g := gb303) (o := .cells #[.int .i64 t298, .slice Ao14 t299.length co14] 25 (0, 0)) (laws_FnPostBent_vb BK303)) : gb303 ≠ gb343))
    have NB343_303 := Aside0.mk ((by rw [hg]; exact Nat.ne_of_gt (blk_lt (g := gb303) (o := .cells #[.int .i64 t298, .slice Ao14 t299.length co14] 25 (0, 0)) (laws_FnPostBent_vb BK303)) : gb343 ≠ gb303))
    replace BK303 := Aside0.mk (blk_below (g := gb303) (o := .cells #[.int .i64 t298, .slice Ao14 t299.length co14] 25 (0, 0)) (laws_FnPostBent_vb BK303) hb)
    have NB307_343 := Aside0.mk ((by rw [hg]; exact Nat.ne_of_lt (blk_lt (g := gb307) (o := .cells #[.string t304, .int .i64 t305, .int .i64 t306] 29 (0, 0)) (laws_FnPostBent_vb BK307)) : gb307 ≠ gb343))
    have NB343_307 := Aside0.mk ((by rw [hg]; exact Nat.ne_of_gt (blk_lt (g := gb307) (o := .cells #[.string t304, .int .i64 t305, .int .i64 t306] 29 (0, 0)) (laws_FnPostBent_vb BK307)) : gb343 ≠ gb307))
    replace BK307 := Aside0.mk (blk_below (g := gb307) (o := .cells #[.string t304, .int .i64 t305, .int .i64 t306] 29 (0, 0)) (laws_FnPostBent_vb BK307) hb)
    have NB319_343 := Aside0.mk ((by rw [hg]; exact Nat.ne_of_lt (blk_lt (g := gb319) (o := .cells #[.int .i64 t294, .slice none 0 0] 25 (0, 0)) (laws_FnPostBent_vb BK319)) : gb319 ≠ gb343))
    have NB343_319 := Aside0.mk ((by rw [hg]; exact Nat.ne_of_gt (blk_lt (g := gb319) (o := .cells #[.int .i64 t294, .slice none 0 0] 25 (0, 0)) (laws_FnPostBent_vb BK319)) : gb343 ≠ gb319))
    replace BK319 := Aside0.mk (blk_below (g := gb319) (o := .cells #[.int .i64 t294, .slice none 0 0] 25 (0, 0)) (laws_FnPostBent_vb BK319) hb)
    have NB320_343 := Aside0.mk ((by rw [hg]; exact Nat.ne_of_lt (blk_lt (g := gb320) (o := .cells #[.int .i64 100, .slice Ao12 t295.length co12] 25 (0, 0)) (laws_FnPostBent_vb BK320)) : gb320 ≠ gb343))
    have NB343_320 := Aside0.mk ((by rw [hg]; exact Nat.ne_of_gt (blk_lt (g := gb320) (o := .cells #[.int .i64 100, .slice Ao12 t295.length co12] 25 (0, 0)) (laws_FnPostBent_vb BK320)) : gb343 ≠ gb320))
    replace BK320 := Aside0.mk (blk_below (g := gb320) (o := .cells #[.int .i64 100, .slice Ao12 t295.length co12] 25 (0, 0)) (laws_FnPostBent_vb BK320) hb)
    have NB333_343 := Aside0.mk ((by rw [hg]; exact Nat.ne_of_lt (blk_lt (g := gb333) (o := .cells #[.int .i64 t294, .slice Ao89 y330.length co89] 25 (0, 0)) (laws_FnPostBent_vb BK333)) : gb333 ≠ gb343))
    have NB343_333 := Aside0.mk ((by rw [hg]; exact Nat.ne_of_gt (blk_lt (g := gb333) (o := .cells #[.int .i64 t294, .slice Ao89 y330.length co89] 25 (0, 0)) (laws_FnPostBent_vb BK333)) : gb343 ≠ gb333))
    replace BK333 := Aside0.mk (blk_below (g := gb333) (o := .cells #[.int .i64 t294, .slice Ao89 y330.length co89] 25 (0, 0)) (laws_FnPostBent_vb BK333) hb)
    clear hb hbox hg
    refine hK.out _ _ ⟨(blk_cell BK302.out 0).trans rfl, (blk_cell BK302.out 1).trans rfl⟩ (fun hHeld => ?_)
    clear hK K
    refine norm_ (a' := ?_) ?_ ?_
    rotate_left
    ·
     show Act.put _ (some 10) _ = _
     simp only [Act.put, List.setIfInBounds_toArray, List.set_cons_zero, List.set_cons_succ, i64_w, i32_w]
     rfl
    refine one_ (i := 8) (N := some 86) #[true, true, true, true, true, true, true, true, true, false, true, false] rfl rfl (one_of HT_.out (by kernel_rfl)) (by decide) (fun K hK => ?_)
    refine Kd.R_append_rows_step k29 (w0 := w) w.heap.size (by rfl) (.tmp 83) (.tmp 85) 23 29 (.agg #[(.string ⟨#[]⟩), (.int .i64 0), (.int .i64 0)]) 32 rfl Try.underlying23 info29 rfl (by decide) (by omega) v338 y337 t295 _ _ _ (fun k_ => some k_ ≠ (.slice Ao12 t295.length co12 : Value).ownBlock ∧ some k_ ≠ (.slice Ao14 t299.length co14 : Value).ownBlock ∧ some k_ ≠ (v328 : Value).ownBlock ∧ some k_ ≠ (.slice Ao89 y330.length co89 : Value).ownBlock ∧ k_ ≠ gb307) (fun _ => False) rfl rfl ?aO ?aR (fun _ _ h => h) (fun _ h => h.elim) ?aF ?aB ?aS ?aL ?_
    (case aR => exact co_ (Kd.R_reads' HO_303001.out).2.2)
    (case aB => exact (laws_FnPostBent_auHB))
    (case aF => exact (fun k_ hk => ⟨Kd.fresh' (Kd.R_lt (lo_ HO_303001)) k_ hk, Kd.fresh' (Kd.R_lt (lo_ HO_304001)) k_ hk, Kd.fresh' (Kd.R_lt (lo_ HO329)) k_ hk, Kd.fresh' (Kd.R_lt (lo_ HO332)) k_ hk, Kd.freshB (g := gb307) (o := .cells #[.string t304, .int .i64 t305, .int .i64 t306] 29 (0, 0)) (laws_FnPostBent_vb BK307) k_ hk⟩))
    (case aO => exact (lo_ HO339))
    (case aS => exact (below_size (laws_FnPostBent_auHB)))
    (case aL => have := LMc48.out; omega)
    intro v341 w98 ho hb hg hat
    rw [← Ny340.out] at ho
    have n0_ := Aside0.mk (Kd.R_after (ok := (fun k_ => some k_ ≠ (.slice Ao14 t299.length co14 : Value).ownBlock ∧ some k_ ≠ (v328 : Value).ownBlock ∧ some k_ ≠ (.slice Ao89 y330.length co89 : Value).ownBlock ∧ k_ ≠ gb307)) (lo_ HO_303001) hg hat)
    have n1_ := Aside0.mk (Kd.R_after (ok := (fun k_ => some k_ ≠ (.slice Ao12 t295.length co12 : Value).ownBlock ∧ some k_ ≠ (v328 : Value).ownBlock ∧ some k_ ≠ (.slice Ao89 y330.length co89 : Value).ownBlock ∧ k_ ≠ gb307)) (lo_ HO_304001) hg hat)
    have n2_ := Aside0.mk (blk_grown (g := gb302) (o := .cells #[.int .i64 t294, .slice Ao12 t295.length co12] 25 (0, 0)) (laws_FnPostBent_vb BK302) hg (Kd.R_ne HO339.out BK302.out (by decide)))
    have n3_ := Aside0.mk (blk_grown (g := gb303) (o := .cells #[.int .i64 t298, .slice Ao14 t299.length co14] 25 (0, 0)) (laws_FnPostBent_vb BK303) hg (Kd.R_ne HO339.out BK303.out (by decide)))
    have n4_ := Aside0.mk (blk_grown (g := gb307) (o := .cells #[.string t304, .int .i64 t305, .int .i64 t306] 29 (0, 0)) (laws_FnPostBent_vb BK307) hg (Kd.R_away HO339.out (fun _ hk => hk.2.2.2.2)))
    have n5_ := Aside0.mk (blk_grown (g := gb319) (o := .cells #[.int .i64 t294, .slice none 0 0] 25 (0, 0)) (laws_FnPostBent_vb BK319) hg (Kd.R_ne HO339.out BK319.out (by decide)))
    have n6_ := Aside0.mk (blk_grown (g := gb320) (o := .cells #[.int .i64 100, .slice Ao12 t295.length co12] 25 (0, 0)) (laws_FnPostBent_vb BK320) hg (Kd.R_ne HO339.out BK320.out (by decide)))
    have n7_ := Aside0.mk (Kd.R_after (ok := (fun k_ => some k_ ≠ (.slice Ao12 t295.length co12 : Value).ownBlock ∧ some k_ ≠ (.slice Ao14 t299.length co14 : Value).ownBlock ∧ some k_ ≠ (.slice Ao89 y330.length co89 : Value).ownBlock ∧ k_ ≠ gb307)) (lo_ HO329) hg hat)
    have n8_ := Aside0.mk (Kd.R_after (ok := (fun k_ => some k_ ≠ (.slice Ao12 t295.length co12 : Value).ownBlock ∧ some k_ ≠ (.slice Ao14 t299.length co14 : Value).ownBlock ∧ some k_ ≠ (v328 : Value).ownBlock ∧ k_ ≠ gb307)) (lo_ HO332) hg hat)
    have n9_ := Aside0.mk (blk_grown (g := gb333) (o := .cells #[.int .i64 t294, .slice Ao89 y330.length co89] 25 (0, 0)) (laws_FnPostBent_vb BK333) hg (Kd.R_ne HO339.out BK333.out (by decide)))
    have n10_ := Aside0.mk (blk_grown (g := gb343) (o := .cells #[.int .i64 0, .slice none 0 0] 25 (0, 0)) (laws_FnPostBent_vb BK343) hg (Kd.R_ne HO339.out BK343.out (by decide)))
    have n11_ := Aside0.mk (hb)
    have n12_ := Aside0.mk (ho)
    clear HO_303001
    clear HO_304001
    clear BK302
    clear BK303
    clear BK307
    clear BK319
    clear BK320
    clear HO329
    clear HO332
    clear BK333
    clear BK343
    clear HB
    clear HO339
    have HO_303001 := n0_
    have HO_304001 := n1_
    have BK302 := n2_
    have BK303 := n3_
    have BK307 := n4_
    have BK319 := n5_
    have BK320 := n6_
    have HO329 := n7_
    have HO332 := n8_
    have BK333 := n9_
    have BK343 := n10_
    have HB := n11_
    have HO342 := n12_
    clear n0_ n1_ n2_ n3_ n4_ n5_ n6_ n7_ n8_ n9_ n10_ n11_ n12_
    clear ho hb hg hat
    obtain ⟨Ao99, co99, eo99⟩ := Kd.R_slice HO342.out
    (first | subst eo99 | (injection eo99 with f1_ f2_ f3_; have f4_ := f1_.symm; have f5_ := f3_.symm; clear f1_ f2_ f3_; subst f4_; subst f5_))
    refine hK.out _ _ ⟨(blk_cell BK302.out 0).trans rfl, (blk_cell BK302.out 1).trans rfl⟩ (fun hHeld => ?_)
    clear hK K
    refine norm_ (a' := ?_) ?_ ?_
    rotate_left
    ·
     show Act.put _ (some 86) _ = _
     simp only [Act.put, List.setIfInBounds_toArray, List.set_cons_zero, List.set_cons_succ, i64_w, i32_w]
     rfl
    refine pu_ 9 (some 87) HT_ rfl rfl (by go_simp; rfl) (by kernel_rfl) rfl (by intro w'; go_simp; with_reducible rfl) (fun _ _ _ h => h) (by go_simp; rfl) ?_
    exact norm_ (by simp only [putAll, Act.put, List.setIfInBounds_toArray, List.set_cons_zero, List.set_cons_succ]) (hCont (v335, v338, .slice Ao99 y340.length co99, gb343) _ ⟨hHeld, (by (with_reducible repeat (first | apply Kd.R_alloc | apply Kd.R_drewN | apply Kd.R_drew)); exact Kd.R_mono HO329.out (fun _ hk => ⟨hk.1.2.2.1, ⟨hk.2, ⟨hk.1.1, ⟨hk.1.2.1, hk.1.2.2.2⟩⟩⟩⟩)), (by (with_reducible repeat (first | apply Kd.R_alloc | apply Kd.R_drewN | apply Kd.R_drew)); exact Kd.R_mono HO332.out (fun _ hk => ⟨hk.1.2.2.1, ⟨hk.2, ⟨hk.1.1, ⟨hk.1.2.1, hk.1.2.2.2⟩⟩⟩⟩)), (by (with_reducible repeat (first | apply Kd.R_alloc | apply Kd.R_drewN | apply Kd.R_drew)); exact Kd.R_mono HO342.out (fun _ hk => ⟨hk.2.2.1, ⟨hk.2.2.2.1, ⟨hk.1, ⟨hk.2.1, hk.2.2.2.2⟩⟩⟩⟩)), (by (with_reducible repeat (first | apply Kd.R_alloc | apply Kd.R_drewN | apply Kd.R_drew)); exact Kd.R_mono HO_303001.out (fun _ hk => ⟨hk.1.2.1, ⟨hk.1.2.2.1, ⟨hk.2, ⟨hk.1.1, hk.1.2.2.2⟩⟩⟩⟩)), (by (with_reducible repeat (first | apply Kd.R_alloc | apply Kd.R_drewN | apply Kd.R_drew)); exact Kd.R_mono HO_304001.out (fun _ hk => ⟨hk.1.2.1, ⟨hk.1.2.2.1, ⟨hk.2, ⟨hk.1.1, hk.1.2.2.2⟩⟩⟩⟩)), (laws_FnPostBent_vb BK302), (laws_FnPostBent_vb BK303), (laws_FnPostBent_vb BK307), (laws_FnPostBent_vb BK319), (laws_FnPostBent_vb BK320), (laws_FnPostBent_vb BK333), (laws_FnPostBent_vb BK343), GW343.out, GE343.out, NB302_343.out, NB343_302.out, NB303_343.out, NB343_303.out, NB307_343.out, NB343_307.out, NB319_343.out, NB343_319.out, NB320_343.out, NB343_320.out, NB333_343.out, NB343_333.out, (laws_FnPostBent_auHB)⟩)
   skip
   refine box_step ?hg (N := 10) ?hd (cs := #[.int .i64 0, .slice none 0 0]) (t := 25) ?hr ?_; (case hd => rfl); (case hg => rfl); (case hr => first | (go_simp; done) | (go_simp; rfl))
   intro gb343 hg w96 hbox hb
   replace HO_303001 := Aside0.mk (Kd.R_below (lo_ HO_303001) hb)
   replace HO_304001 := Aside0.mk (Kd.R_below (lo_ HO_304001) hb)
   replace HO329 := Aside0.mk (Kd.R_below (lo_ HO329) hb)
   replace HO332 := Aside0.mk (Kd.R_below (lo_ HO332) hb)
   replace HO336 := Aside0.mk (Kd.R_below (lo_ HO336) hb)
   have BK343 := Aside0.mk (hbox)
   have GW343 := Aside0.mk ((by rw [hg]; exact (below_size (laws_FnPostBent_auHB)) : w.heap.size ≤ gb343))
   have GE343 := Aside0.mk ((by rw [hg]; exact (below_size (laws_FnPostBent_auHB)) : w.heap.size ≤ gb343))
   replace HB := Aside0.mk (below_step (laws_FnPostBent_auHB) hb)
   have NB302_343 := Aside0.mk ((by rw [hg]; exact Nat.ne_of_lt (blk_lt (g := gb302) (o := .cells #[.int .i64 t294, .slice Ao12 t295.length co12] 25 (0, 0)) (laws_FnPostBent_vb BK302)) : gb302 ≠ gb343))
   have NB343_302 := Aside0.mk ((by rw [hg]; exact Nat.ne_of_gt (blk_lt (g := gb302) (o := .cells #[.int .i64 t294, .slice Ao12 t295.length co12] 25 (0, 0)) (laws_FnPostBent_vb BK302)) : gb343 ≠ gb302))
   replace BK302 := Aside0.mk (blk_below (g := gb302) (o := .cells #[.int .i64 t294, .slice Ao12 t295.length co12] 25 (0, 0)) (laws_FnPostBent_vb BK302) hb)
   have NB303_343 := Aside0.mk ((by rw [hg]; exact Nat.ne_of_lt (blk_lt (g := gb303) (o := .cells #[.int .i64 t298, .slice Ao14 t299.length co14] 25 (0, 0)) (laws_FnPostBent_vb BK303)) : gb303 ≠ gb343))
   have NB343_303 := Aside0.mk ((by rw [hg]; exact Nat.ne_of_gt (blk_lt (g := gb303) (o := .cells #[.int .i64 t298, .slice Ao14 t299.length co14] 25 (0, 0)) (laws_FnPostBent_vb BK303)) : gb343 ≠ gb303))
   replace BK303 := Aside0.mk (blk_below (g := gb303) (o := .cells #[.int .i64 t298, .slice Ao14 t299.length co14] 25 (0, 0)) (laws_FnPostBent_vb BK303) hb)
   have NB307_343 := Aside0.mk ((by rw [hg]; exact Nat.ne_of_lt (blk_lt (g := gb307) (o := .cells #[.string t304, .int .i64 t305, .int .i64 t306] 29 (0, 0)) (laws_FnPostBent_vb BK307)) : gb307 ≠ gb343))
   have NB343_307 := Aside0.mk ((by rw [hg]; exact Nat.ne_of_gt (blk_lt (g := gb307) (o := .cells #[.string t304, .int .i64 t305, .int .i64 t306] 29 (0, 0)) (laws_FnPostBent_vb BK307)) : gb343 ≠ gb307))
   replace BK307 := Aside0.mk (blk_below (g := gb307) (o := .cells #[.string t304, .int .i64 t305, .int .i64 t306] 29 (0, 0)) (laws_FnPostBent_vb BK307) hb)
   have NB319_343 := Aside0.mk ((by rw [hg]; exact Nat.ne_of_lt (blk_lt (g := gb319) (o := .cells #[.int .i64 t294, .slice none 0 0] 25 (0, 0)) (laws_FnPostBent_vb BK319)) : gb319 ≠ gb343))
   have NB343_319 := Aside0.mk ((by rw [hg]; exact Nat.ne_of_gt (blk_lt (g := gb319) (o := .cells #[.int .i64 t294, .slice none 0 0] 25 (0, 0)) (laws_FnPostBent_vb BK319)) : gb343 ≠ gb319))
   replace BK319 := Aside0.mk (blk_below (g := gb319) (o := .cells #[.int .i64 t294, .slice none 0 0] 25 (0, 0)) (laws_FnPostBent_vb BK319) hb)
   have NB320_343 := Aside0.mk ((by rw [hg]; exact Nat.ne_of_lt (blk_lt (g := gb320) (o := .cells #[.int .i64 100, .slice Ao12 t295.length co12] 25 (0, 0)) (laws_FnPostBent_vb BK320)) : gb320 ≠ gb343))
   have NB343_320 := Aside0.mk ((by rw [hg]; exact Nat.ne_of_gt (blk_lt (g := gb320) (o := .cells #[.int .i64 100, .slice Ao12 t295.length co12] 25 (0, 0)) (laws_FnPostBent_vb BK320)) : gb343 ≠ gb320))
   replace BK320 := Aside0.mk (blk_below (g := gb320) (o := .cells #[.int .i64 100, .slice Ao12 t295.length co12] 25 (0, 0)) (laws_FnPostBent_vb BK320) hb)
   have NB333_343 := Aside0.mk ((by rw [hg]; exact Nat.ne_of_lt (blk_lt (g := gb333) (o := .cells #[.int .i64 t294, .slice Ao89 y330.length co89] 25 (0, 0)) (laws_FnPostBent_vb BK333)) : gb333 ≠ gb343))
   have NB343_333 := Aside0.mk ((by rw [hg]; exact Nat.ne_of_gt (blk_lt (g := gb333) (o := .cells #[.int .i64 t294, .slice Ao89 y330.length co89] 25 (0, 0)) (laws_FnPostBent_vb BK333)) : gb343 ≠ gb333))
   replace BK333 := Aside0.mk (blk_below (g := gb333) (o := .cells #[.int .i64 t294, .slice Ao89 y330.length co89] 25 (0, 0)) (laws_FnPostBent_vb BK333) hb)
   clear hb hbox hg
   refine hK.out _ _ ⟨(blk_cell BK302.out 0).trans rfl, (blk_cell BK302.out 1).trans rfl⟩ (fun hHeld => ?_)
   clear hK K
   refine norm_ (a' := ?_) ?_ ?_
   rotate_left
   ·
    show Act.put _ (some 10) _ = _
    simp only [Act.put, List.setIfInBounds_toArray, List.set_cons_zero, List.set_cons_succ, i64_w, i32_w]
    rfl
   refine one_ (i := 5) (N := some 83) #[true, true, true, true, true, true, true, true, false, false, true, false] rfl rfl (one_of HT_.out (by kernel_rfl)) (by decide) (fun K hK => ?_)
   refine Kd.R_append_rows_step k29 (w0 := w) w.heap.size (by rfl) (.tmp 80) (.tmp 82) 23 29 (.agg #[(.string ⟨#[]⟩), (.int .i64 0), (.int .i64 0)]) 32 rfl Try.underlying23 info29 rfl (by decide) (by omega) v335 y334 t295 _ _ _ (fun k_ => some k_ ≠ (.slice Ao12 t295.length co12 : Value).ownBlock ∧ some k_ ≠ (.slice Ao14 t299.length co14 : Value).ownBlock ∧ some k_ ≠ (v328 : Value).ownBlock ∧ some k_ ≠ (.slice Ao89 y330.length co89 : Value).ownBlock ∧ k_ ≠ gb307) (fun _ => False) rfl rfl ?aO ?aR (fun _ _ h => h) (fun _ h => h.elim) ?aF ?aB ?aS ?aL ?_
   (case aR => exact co_ (Kd.R_reads' HO_303001.out).2.2)
   (case aB => exact (laws_FnPostBent_auHB))
   (case aF => exact (fun k_ hk => ⟨Kd.fresh' (Kd.R_lt (lo_ HO_303001)) k_ hk, Kd.fresh' (Kd.R_lt (lo_ HO_304001)) k_ hk, Kd.fresh' (Kd.R_lt (lo_ HO329)) k_ hk, Kd.fresh' (Kd.R_lt (lo_ HO332)) k_ hk, Kd.freshB (g := gb307) (o := .cells #[.string t304, .int .i64 t305, .int .i64 t306] 29 (0, 0)) (laws_FnPostBent_vb BK307) k_ hk⟩))
   (case aO => exact (by (with_reducible repeat (first | apply Kd.R_alloc | apply Kd.R_drewN | apply Kd.R_drew)); exact Kd.R_mono HO336.out (fun _ hk => ⟨hk.1.1.1.1.2, ⟨hk.1.1.1.2, ⟨hk.1.1.2, ⟨hk.1.2, hk.2⟩⟩⟩⟩)))
   (case aS => exact (below_size (laws_FnPostBent_auHB)))
   (case aL => have := LMc47.out; omega)
   intro v338 w97 ho hb hg hat
   rw [← Ny337.out] at ho
   have n0_ := Aside0.mk (Kd.R_after (ok := (fun k_ => some k_ ≠ (.slice Ao14 t299.length co14 : Value).ownBlock ∧ some k_ ≠ (v328 : Value).ownBlock ∧ some k_ ≠ (.slice Ao89 y330.length co89 : Value).ownBlock ∧ k_ ≠ gb307)) (lo_ HO_303001) hg hat)
   have n1_ := Aside0.mk (Kd.R_after (ok := (fun k_ => some k_ ≠ (.slice Ao12 t295.length co12 : Value).ownBlock ∧ some k_ ≠ (v328 : Value).ownBlock ∧ some k_ ≠ (.slice Ao89 y330.length co89 : Value).ownBlock ∧ k_ ≠ gb307)) (lo_ HO_304001) hg hat)
   have n2_ := Aside0.mk (blk_grown (g := gb302) (o := .cells #[.int .i64 t294, .slice Ao12 t295.length co12] 25 (0, 0)) (laws_FnPostBent_vb BK302) hg (Kd.R_ne HO336.out BK302.out (by decide)))
   have n3_ := Aside0.mk (blk_grown (g := gb303) (o := .cells #[.int .i64 t298, .slice Ao14 t299.length co14] 25 (0, 0)) (laws_FnPostBent_vb BK303) hg (Kd.R_ne HO336.out BK303.out (by decide)))
   have n4_ := Aside0.mk (blk_grown (g := gb307) (o := .cells #[.string t304, .int .i64 t305, .int .i64 t306] 29 (0, 0)) (laws_FnPostBent_vb BK307) hg (Kd.R_away HO336.out (fun _ hk => hk.2)))
   have n5_ := Aside0.mk (blk_grown (g := gb319) (o := .cells #[.int .i64 t294, .slice none 0 0] 25 (0, 0)) (laws_FnPostBent_vb BK319) hg (Kd.R_ne HO336.out BK319.out (by decide)))
   have n6_ := Aside0.mk (blk_grown (g := gb320) (o := .cells #[.int .i64 100, .slice Ao12 t295.length co12] 25 (0, 0)) (laws_FnPostBent_vb BK320) hg (Kd.R_ne HO336.out BK320.out (by decide)))
   have n7_ := Aside0.mk (Kd.R_after (ok := (fun k_ => some k_ ≠ (.slice Ao12 t295.length co12 : Value).ownBlock ∧ some k_ ≠ (.slice Ao14 t299.length co14 : Value).ownBlock ∧ some k_ ≠ (.slice Ao89 y330.length co89 : Value).ownBlock ∧ k_ ≠ gb307)) (lo_ HO329) hg hat)
   have n8_ := Aside0.mk (Kd.R_after (ok := (fun k_ => some k_ ≠ (.slice Ao12 t295.length co12 : Value).ownBlock ∧ some k_ ≠ (.slice Ao14 t299.length co14 : Value).ownBlock ∧ some k_ ≠ (v328 : Value).ownBlock ∧ k_ ≠ gb307)) (lo_ HO332) hg hat)
   have n9_ := Aside0.mk (blk_grown (g := gb333) (o := .cells #[.int .i64 t294, .slice Ao89 y330.length co89] 25 (0, 0)) (laws_FnPostBent_vb BK333) hg (Kd.R_ne HO336.out BK333.out (by decide)))
   have n10_ := Aside0.mk (blk_grown (g := gb343) (o := .cells #[.int .i64 0, .slice none 0 0] 25 (0, 0)) (laws_FnPostBent_vb BK343) hg (Kd.R_ne HO336.out BK343.out (by decide)))
   have n11_ := Aside0.mk (hb)
   have n12_ := Aside0.mk (ho)
   clear HO_303001
   clear HO_304001
   clear BK302
   clear BK303
   clear BK307
   clear BK319
   clear BK320
   clear HO329
   clear HO332
   clear BK333
   clear BK343
   clear HB
   clear HO336
   have HO_303001 := n0_
   have HO_304001 := n1_
   have BK302 := n2_
   have BK303 := n3_
   have BK307 := n4_
   have BK319 := n5_
   have BK320 := n6_
   have HO329 := n7_
   have HO332 := n8_
   have BK333 := n9_
   have BK343 := n10_
   have HB := n11_
   have HO339 := n12_
   clear n0_ n1_ n2_ n3_ n4_ n5_ n6_ n7_ n8_ n9_ n10_ n11_ n12_
   clear ho hb hg hat
   refine hK.out _ _ ⟨(blk_cell BK302.out 0).trans rfl, (blk_cell BK302.out 1).trans rfl⟩ (fun hHeld => ?_)
   clear hK K
   refine norm_ (a' := ?_) ?_ ?_
   rotate_left
   ·
    show Act.put _ (some 83) _ = _
    simp only [Act.put, List.setIfInBounds_toArray, List.set_cons_zero, List.set_cons_succ, i64_w, i32_w]
    rfl
   refine one_ (i := 8) (N := some 86) #[true, true, true, true, true, true, true, true, true, false, true, false] rfl rfl (one_of HT_.out (by kernel_rfl)) (by decide) (fun K hK => ?_)
   refine Kd.R_append_rows_step k29 (w0 := w) w.heap.size (by rfl) (.tmp 83) (.tmp 85) 23 29 (.agg #[(.string ⟨#[]⟩), (.int .i64 0), (.int .i64 0)]) 32 rfl Try.underlying23 info29 rfl (by decide) (by omega) v338 y337 t295 _ _ _ (fun k_ => some k_ ≠ (.slice Ao12 t295.length co12 : Value).ownBlock ∧ some k_ ≠ (.slice Ao14 t299.length co14 : Value).ownBlock ∧ some k_ ≠ (v328 : Value).ownBlock ∧ some k_ ≠ (.slice Ao89 y330.length co89 : Value).ownBlock ∧ k_ ≠ gb307) (fun _ => False) rfl rfl ?aO ?aR (fun _ _ h => h) (fun _ h => h.elim) ?aF ?aB ?aS ?aL ?_
   (case aR => exact co_ (Kd.R_reads' HO_303001.out).2.2)
   (case aB => exact (laws_FnPostBent_auHB))
   (case aF => exact (fun k_ hk => ⟨Kd.fresh' (Kd.R_lt (lo_ HO_303001)) k_ hk, Kd.fresh' (Kd.R_lt (lo_ HO_304001)) k_ hk, Kd.fresh' (Kd.R_lt (lo_ HO329)) k_ hk, Kd.fresh' (Kd.R_lt (lo_ HO332)) k_ hk, Kd.freshB (g := gb307) (o := .cells #[.string t304, .int .i64 t305, .int .i64 t306] 29 (0, 0)) (laws_FnPostBent_vb BK307) k_ hk⟩))
   (case aO => exact (lo_ HO339))
   (case aS => exact (below_size (laws_FnPostBent_auHB)))
   (case aL => have := LMc48.out; omega)
   intro v341 w98 ho hb hg hat
   rw [← Ny340.out] at ho
   have n0_ := Aside0.mk (Kd.R_after (ok := (fun k_ => some k_ ≠ (.slice Ao14 t299.length co14 : Value).ownBlock ∧ some k_ ≠ (v328 : Value).ownBlock ∧ some k_ ≠ (.slice Ao89 y330.length co89 : Value).ownBlock ∧ k_ ≠ gb307)) (lo_ HO_303001) hg hat)
   have n1_ := Aside0.mk (Kd.R_after (ok := (fun k_ => some k_ ≠ (.slice Ao12 t295.length co12 : Value).ownBlock ∧ some k_ ≠ (v328 : Value).ownBlock ∧ some k_ ≠ (.slice Ao89 y330.length co89 : Value).ownBlock ∧ k_ ≠ gb307)) (lo_ HO_304001) hg hat)
   have n2_ := Aside0.mk (blk_grown (g := gb302) (o := .cells #[.int .i64 t294, .slice Ao12 t295.length co12] 25 (0, 0)) (laws_FnPostBent_vb BK302) hg (Kd.R_ne HO339.out BK302.out (by decide)))
   have n3_ := Aside0.mk (blk_grown (g := gb303) (o := .cells #[.int .i64 t298, .slice Ao14 t299.length co14] 25 (0, 0)) (laws_FnPostBent_vb BK303) hg (Kd.R_ne HO339.out BK303.out (by decide)))
   have n4_ := Aside0.mk (blk_grown (g := gb307) (o := .cells #[.string t304, .int .i64 t305, .int .i64 t306] 29 (0, 0)) (laws_FnPostBent_vb BK307) hg (Kd.R_away HO339.out (fun _ hk => hk.2.2.2.2)))
   have n5_ := Aside0.mk (blk_grown (g := gb319) (o := .cells #[.int .i64 t294, .slice none 0 0] 25 (0, 0)) (laws_FnPostBent_vb BK319) hg (Kd.R_ne HO339.out BK319.out (by decide)))
   have n6_ := Aside0.mk (blk_grown (g := gb320) (o := .cells #[.int .i64 100, .slice Ao12 t295.length co12] 25 (0, 0)) (laws_FnPostBent_vb BK320) hg (Kd.R_ne HO339.out BK320.out (by decide)))
   have n7_ := Aside0.mk (Kd.R_after (ok := (fun k_ => some k_ ≠ (.slice Ao12 t295.length co12 : Value).ownBlock ∧ some k_ ≠ (.slice Ao14 t299.length co14 : Value).ownBlock ∧ some k_ ≠ (.slice Ao89 y330.length co89 : Value).ownBlock ∧ k_ ≠ gb307)) (lo_ HO329) hg hat)
   have n8_ := Aside0.mk (Kd.R_after (ok := (fun k_ => some k_ ≠ (.slice Ao12 t295.length co12 : Value).ownBlock ∧ some k_ ≠ (.slice Ao14 t299.length co14 : Value).ownBlock ∧ some k_ ≠ (v328 : Value).ownBlock ∧ k_ ≠ gb307)) (lo_ HO332) hg hat)
   have n9_ := Aside0.mk (blk_grown (g := gb333) (o := .cells #[.int .i64 t294, .slice Ao89 y330.length co89] 25 (0, 0)) (laws_FnPostBent_vb BK333) hg (Kd.R_ne HO339.out BK333.out (by decide)))
   have n10_ := Aside0.mk (blk_grown (g := gb343) (o := .cells #[.int .i64 0, .slice none 0 0] 25 (0, 0)) (laws_FnPostBent_vb BK343) hg (Kd.R_ne HO339.out BK343.out (by decide)))
   have n11_ := Aside0.mk (hb)
   have n12_ := Aside0.mk (ho)
   clear HO_303001
   clear HO_304001
   clear BK302
   clear BK303
   clear BK307
   clear BK319
   clear BK320
   clear HO329
   clear HO332
   clear BK333
   clear BK343
   clear HB
   clear HO339
   have HO_303001 := n0_
   have HO_304001 := n1_
   have BK302 := n2_
   have BK303 := n3_
   have BK307 := n4_
   have BK319 := n5_
   have BK320 := n6_
   have HO329 := n7_
   have HO332 := n8_
   have BK333 := n9_
   have BK343 := n10_
   have HB := n11_
   have HO342 := n12_
   clear n0_ n1_ n2_ n3_ n4_ n5_ n6_ n7_ n8_ n9_ n10_ n11_ n12_
   clear ho hb hg hat
   obtain ⟨Ao99, co99, eo99⟩ := Kd.R_slice HO342.out
   (first | subst eo99 | (injection eo99 with f1_ f2_ f3_; have f4_ := f1_.symm; have f5_ := f3_.symm; clear f1_ f2_ f3_; subst f4_; subst f5_))
   refine hK.out _ _ ⟨(blk_cell BK302.out 0).trans rfl, (blk_cell BK302.out 1).trans rfl⟩ (fun hHeld => ?_)
   clear hK K
   refine norm_ (a' := ?_) ?_ ?_
   rotate_left
   ·
    show Act.put _ (some 86) _ = _
    simp only [Act.put, List.setIfInBounds_toArray, List.set_cons_zero, List.set_cons_succ, i64_w, i32_w]
    rfl
   refine pu_ 9 (some 87) HT_ rfl rfl (by go_simp; rfl) (by kernel_rfl) rfl (by intro w'; go_simp; with_reducible rfl) (fun _ _ _ h => h) (by go_simp; rfl) ?_
   exact norm_ (by simp only [putAll, Act.put, List.setIfInBounds_toArray, List.set_cons_zero, List.set_cons_succ]) (hCont (v335, v338, .slice Ao99 y340.length co99, gb343) _ ⟨hHeld, (by (with_reducible repeat (first | apply Kd.R_alloc | apply Kd.R_drewN | apply Kd.R_drew)); exact Kd.R_mono HO329.out (fun _ hk => ⟨hk.1.2.2.1, ⟨hk.2, ⟨hk.1.1, ⟨hk.1.2.1, hk.1.2.2.2⟩⟩⟩⟩)), (by (with_reducible repeat (first | apply Kd.R_alloc | apply Kd.R_drewN | apply Kd.R_drew)); exact Kd.R_mono HO332.out (fun _ hk => ⟨hk.1.2.2.1, ⟨hk.2, ⟨hk.1.1, ⟨hk.1.2.1, hk.1.2.2.2⟩⟩⟩⟩)), (by (with_reducible repeat (first | apply Kd.R_alloc | apply Kd.R_drewN | apply Kd.R_drew)); exact Kd.R_mono HO342.out (fun _ hk => ⟨hk.2.2.1, ⟨hk.2.2.2.1, ⟨hk.1, ⟨hk.2.1, hk.2.2.2.2⟩⟩⟩⟩)), (by (with_reducible repeat (first | apply Kd.R_alloc | apply Kd.R_drewN | apply Kd.R_drew)); exact Kd.R_mono HO_303001.out (fun _ hk => ⟨hk.1.2.1, ⟨hk.1.2.2.1, ⟨hk.2, ⟨hk.1.1, hk.1.2.2.2⟩⟩⟩⟩)), (by (with_reducible repeat (first | apply Kd.R_alloc | apply Kd.R_drewN | apply Kd.R_drew)); exact Kd.R_mono HO_304001.out (fun _ hk => ⟨hk.1.2.1, ⟨hk.1.2.2.1, ⟨hk.2, ⟨hk.1.1, hk.1.2.2.2⟩⟩⟩⟩)), (laws_FnPostBent_vb BK302), (laws_FnPostBent_vb BK303), (laws_FnPostBent_vb BK307), (laws_FnPostBent_vb BK319), (laws_FnPostBent_vb BK320), (laws_FnPostBent_vb BK333), (laws_FnPostBent_vb BK343), GW343.out, GE343.out, NB302_343.out, NB343_302.out, NB303_343.out, NB343_303.out, NB307_343.out, NB343_307.out, NB319_343.out, NB343_319.out, NB320_343.out, NB343_320.out, NB333_343.out, NB343_333.out, (laws_FnPostBent_auHB)⟩)
  skip
  refine box_step ?hg (N := 10) ?hd (cs := #[.int .i64 0, .slice none 0 0]) (t := 25) ?hr ?_; (case hd => rfl); (case hg => rfl); (case hr => first | (go_simp; done) | (go_simp; rfl))
  intro gb343 hg w94 hbox hb
  replace HO_303001 := Aside0.mk (Kd.R_below (lo_ HO_303001) hb)
  replace HO_304001 := Aside0.mk (Kd.R_below (lo_ HO_304001) hb)
  replace HO329 := Aside0.mk (Kd.R_below (lo_ HO329) hb)
  replace HO332 := Aside0.mk (Kd.R_below (lo_ HO332) hb)
  have BK343 := Aside0.mk (hbox)
  have GW343 := Aside0.mk ((by rw [hg]; exact (below_size (laws_FnPostBent_auHB)) : w.heap.size ≤ gb343))
  have GE343 := Aside0.mk ((by rw [hg]; exact (below_size (laws_FnPostBent_auHB)) : w.heap.size ≤ gb343))
  replace HB := Aside0.mk (below_step (laws_FnPostBent_auHB) hb)
  have NB302_343 := Aside0.mk ((by rw [hg]; exact Nat.ne_of_lt (blk_lt (g := gb302) (o := .cells #[.int .i64 t294, .slice Ao12 t295.length co12] 25 (0, 0)) (laws_FnPostBent_vb BK302)) : gb302 ≠ gb343))
  have NB343_302 := Aside0.mk ((by rw [hg]; exact Nat.ne_of_gt (blk_lt (g := gb302) (o := .cells #[.int .i64 t294, .slice Ao12 t295.length co12] 25 (0, 0)) (laws_FnPostBent_vb BK302)) : gb343 ≠ gb302))
  replace BK302 := Aside0.mk (blk_below (g := gb302) (o := .cells #[.int .i64 t294, .slice Ao12 t295.length co12] 25 (0, 0)) (laws_FnPostBent_vb BK302) hb)
  have NB303_343 := Aside0.mk ((by rw [hg]; exact Nat.ne_of_lt (blk_lt (g := gb303) (o := .cells #[.int .i64 t298, .slice Ao14 t299.length co14] 25 (0, 0)) (laws_FnPostBent_vb BK303)) : gb303 ≠ gb343))
  have NB343_303 := Aside0.mk ((by rw [hg]; exact Nat.ne_of_gt (blk_lt (g := gb303) (o := .cells #[.int .i64 t298, .slice Ao14 t299.length co14] 25 (0, 0)) (laws_FnPostBent_vb BK303)) : gb343 ≠ gb303))
  replace BK303 := Aside0.mk (blk_below (g := gb303) (o := .cells #[.int .i64 t298, .slice Ao14 t299.length co14] 25 (0, 0)) (laws_FnPostBent_vb BK303) hb)
  have NB307_343 := Aside0.mk ((by rw [hg]; exact Nat.ne_of_lt (blk_lt (g := gb307) (o := .cells #[.string t304, .int .i64 t305, .int .i64 t306] 29 (0, 0)) (laws_FnPostBent_vb BK307)) : gb307 ≠ gb343))
  have NB343_307 := Aside0.mk ((by rw [hg]; exact Nat.ne_of_gt (blk_lt (g := gb307) (o := .cells #[.string t304, .int .i64 t305, .int .i64 t306] 29 (0, 0)) (laws_FnPostBent_vb BK307)) : gb343 ≠ gb307))
  replace BK307 := Aside0.mk (blk_below (g := gb307) (o := .cells #[.string t304, .int .i64 t305, .int .i64 t306] 29 (0, 0)) (laws_FnPostBent_vb BK307) hb)
  have NB319_343 := Aside0.mk ((by rw [hg]; exact Nat.ne_of_lt (blk_lt (g := gb319) (o := .cells #[.int .i64 t294, .slice none 0 0] 25 (0, 0)) (laws_FnPostBent_vb BK319)) : gb319 ≠ gb343))
  have NB343_319 := Aside0.mk ((by rw [hg]; exact Nat.ne_of_gt (blk_lt (g := gb319) (o := .cells #[.int .i64 t294, .slice none 0 0] 25 (0, 0)) (laws_FnPostBent_vb BK319)) : gb343 ≠ gb319))
  replace BK319 := Aside0.mk (blk_below (g := gb319) (o := .cells #[.int .i64 t294, .slice none 0 0] 25 (0, 0)) (laws_FnPostBent_vb BK319) hb)
  have NB320_343 := Aside0.mk ((by rw [hg]; exact Nat.ne_of_lt (blk_lt (g := gb320) (o := .cells #[.int .i64 100, .slice Ao12 t295.length co12] 25 (0, 0)) (laws_FnPostBent_vb BK320)) : gb320 ≠ gb343))
  have NB343_320 := Aside0.mk ((by rw [hg]; exact Nat.ne_of_gt (blk_lt (g := gb320) (o := .cells #[.int .i64 100, .slice Ao12 t295.length co12] 25 (0, 0)) (laws_FnPostBent_vb BK320)) : gb343 ≠ gb320))
  replace BK320 := Aside0.mk (blk_below (g := gb320) (o := .cells #[.int .i64 100, .slice Ao12 t295.length co12] 25 (0, 0)) (laws_FnPostBent_vb BK320) hb)
  have NB333_343 := Aside0.mk ((by rw [hg]; exact Nat.ne_of_lt (blk_lt (g := gb333) (o := .cells #[.int .i64 t294, .slice Ao89 y330.length co89] 25 (0, 0)) (laws_FnPostBent_vb BK333)) : gb333 ≠ gb343))
  have NB343_333 := Aside0.mk ((by rw [hg]; exact Nat.ne_of_gt (blk_lt (g := gb333) (o := .cells #[.int .i64 t294, .slice Ao89 y330.length co89] 25 (0, 0)) (laws_FnPostBent_vb BK333)) : gb343 ≠ gb333))
  replace BK333 := Aside0.mk (blk_below (g := gb333) (o := .cells #[.int .i64 t294, .slice Ao89 y330.length co89] 25 (0, 0)) (laws_FnPostBent_vb BK333) hb)
  clear hb hbox hg
  refine hK.out _ _ ⟨(blk_cell BK302.out 0).trans rfl, (blk_cell BK302.out 1).trans rfl⟩ (fun hHeld => ?_)
  clear hK K
  refine norm_ (a' := ?_) ?_ ?_
  rotate_left
  ·
   show Act.put _ (some 10) _ = _
   simp only [Act.put, List.setIfInBounds_toArray, List.set_cons_zero, List.set_cons_succ, i64_w, i32_w]
   rfl
  refine one_ (i := 2) (N := some 80) #[true, true, true, true, true, false, true, true, false, false, true, false] rfl rfl (one_of HT_.out (by kernel_rfl)) (by decide) (fun K hK => ?_)
  refine Kd.R_lit_step k29 _ 29 ?hg (N := 80) ?hd (xs := ([] : List (S29))) (inner := []) (ok := fun _ => True) (okp := fun _ => True) ?hr ?hp (fun _ hk => hk) trivial (Below.refl _ _) (Nat.le_refl _) (by simp) ?_; (case hd => rfl); (case hg => rfl); (case hr => first | (go_simp; done) | (go_simp; rfl)); (case hp => exact (Reps.none _ _))
  intro v335 w95 ho96 hb hg_ hnew_
  clear hg_ hnew_
  (first | rw [← Ny334.out] at ho96 | (simp only [Int.reduceToNat] at ho96; rw [← Ny334.out] at ho96))
  have HO336 := Aside0.mk (Kd.R_lower (Kd.R_newB (Kd.R_new' (Kd.R_new' (Kd.R_new' (Kd.R_new' ho96 (Kd.R_lt (lo_ HO_303001))) (Kd.R_lt (lo_ HO_304001))) (Kd.R_lt (lo_ HO329))) (Kd.R_lt (lo_ HO332))) (g := gb307) (o := .cells #[.string t304, .int .i64 t305, .int .i64 t306] 29 (0, 0)) (laws_FnPostBent_vb BK307)) (below_size (laws_FnPostBent_auHB)))
  replace HO_303001 := Aside0.mk (Kd.R_elder' (lo_ HO_303001) (Kd.R_base ho96) hb)
  replace HO_304001 := Aside0.mk (Kd.R_elder' (lo_ HO_304001) (Kd.R_base ho96) hb)
  replace HO329 := Aside0.mk (Kd.R_elder' (lo_ HO329) (Kd.R_base ho96) hb)
  replace HO332 := Aside0.mk (Kd.R_elder' (lo_ HO332) (Kd.R_base ho96) hb)
  replace BK302 := Aside0.mk (blk_below (g := gb302) (o := .cells #[.int .i64 t294, .slice Ao12 t295.length co12] 25 (0, 0)) (laws_FnPostBent_vb BK302) hb)
  replace BK303 := Aside0.mk (blk_below (g := gb303) (o := .cells #[.int .i64 t298, .slice Ao14 t299.length co14] 25 (0, 0)) (laws_FnPostBent_vb BK303) hb)
  replace BK307 := Aside0.mk (blk_below (g := gb307) (o := .cells #[.string t304, .int .i64 t305, .int .i64 t306] 29 (0, 0)) (laws_FnPostBent_vb BK307) hb)
  replace BK319 := Aside0.mk (blk_below (g := gb319) (o := .cells #[.int .i64 t294, .slice none 0 0] 25 (0, 0)) (laws_FnPostBent_vb BK319) hb)
  replace BK320 := Aside0.mk (blk_below (g := gb320) (o := .cells #[.int .i64 100, .slice Ao12 t295.length co12] 25 (0, 0)) (laws_FnPostBent_vb BK320) hb)
  replace BK333 := Aside0.mk (blk_below (g := gb333) (o := .cells #[.int .i64 t294, .slice Ao89 y330.length co89] 25 (0, 0)) (laws_FnPostBent_vb BK333) hb)
  replace BK343 := Aside0.mk (blk_below (g := gb343) (o := .cells #[.int .i64 0, .slice none 0 0] 25 (0, 0)) (laws_FnPostBent_vb BK343) hb)
  replace HB := Aside0.mk (below_step (laws_FnPostBent_auHB) hb)
  clear hb ho96
  refine hK.out _ _ ⟨(blk_cell BK302.out 0).trans rfl, (blk_cell BK302.out 1).trans rfl⟩ (fun hHeld => ?_)
  clear hK K
  refine norm_ (a' := ?_) ?_ ?_
  rotate_left
  ·
   show Act.put _ (some 80) _ = _
   simp only [Act.put, List.setIfInBounds_toArray, List.set_cons_zero, List.set_cons_succ, i64_w, i32_w]
   rfl
  refine one_ (i := 5) (N := some 83) #[true, true, true, true, true, true, true, true, false, false, true, false] rfl rfl (one_of HT_.out (by kernel_rfl)) (by decide) (fun K hK => ?_)
  refine Kd.R_append_rows_step k29 (w0 := w) w.heap.size (by rfl) (.tmp 80) (.tmp 82) 23 29 (.agg #[(.string ⟨#[]⟩), (.int .i64 0), (.int .i64 0)]) 32 rfl Try.underlying23 info29 rfl (by decide) (by omega) v335 y334 t295 _ _ _ (fun k_ => some k_ ≠ (.slice Ao12 t295.length co12 : Value).ownBlock ∧ some k_ ≠ (.slice Ao14 t299.length co14 : Value).ownBlock ∧ some k_ ≠ (v328 : Value).ownBlock ∧ some k_ ≠ (.slice Ao89 y330.length co89 : Value).ownBlock ∧ k_ ≠ gb307) (fun _ => False) rfl rfl ?aO ?aR (fun _ _ h => h) (fun _ h => h.elim) ?aF ?aB ?aS ?aL ?_
  (case aR => exact co_ (Kd.R_reads' HO_303001.out).2.2)
  (case aB => exact (laws_FnPostBent_auHB))
  (case aF => exact (fun k_ hk => ⟨Kd.fresh' (Kd.R_lt (lo_ HO_303001)) k_ hk, Kd.fresh' (Kd.R_lt (lo_ HO_304001)) k_ hk, Kd.fresh' (Kd.R_lt (lo_ HO329)) k_ hk, Kd.fresh' (Kd.R_lt (lo_ HO332)) k_ hk, Kd.freshB (g := gb307) (o := .cells #[.string t304, .int .i64 t305, .int .i64 t306] 29 (0, 0)) (laws_FnPostBent_vb BK307) k_ hk⟩))
  (case aO => exact (by (with_reducible repeat (first | apply Kd.R_alloc | apply Kd.R_drewN | apply Kd.R_drew)); exact Kd.R_mono HO336.out (fun _ hk => ⟨hk.1.1.1.1.2, ⟨hk.1.1.1.2, ⟨hk.1.1.2, ⟨hk.1.2, hk.2⟩⟩⟩⟩)))
  (case aS => exact (below_size (laws_FnPostBent_auHB)))
  (case aL => have := LMc47.out; omega)
  intro v338 w97 ho hb hg hat
  rw [← Ny337.out] at ho
  have n0_ := Aside0.mk (Kd.R_after (ok := (fun k_ => some k_ ≠ (.slice Ao14 t299.length co14 : Value).ownBlock ∧ some k_ ≠ (v328 : Value).ownBlock ∧ some k_ ≠ (.slice Ao89 y330.length co89 : Value).ownBlock ∧ k_ ≠ gb307)) (lo_ HO_303001) hg hat)
  have n1_ := Aside0.mk (Kd.R_after (ok := (fun k_ => some k_ ≠ (.slice Ao12 t295.length co12 : Value).ownBlock ∧ some k_ ≠ (v328 : Value).ownBlock ∧ some k_ ≠ (.slice Ao89 y330.length co89 : Value).ownBlock ∧ k_ ≠ gb307)) (lo_ HO_304001) hg hat)
  have n2_ := Aside0.mk (blk_grown (g := gb302) (o := .cells #[.int .i64 t294, .slice Ao12 t295.length co12] 25 (0, 0)) (laws_FnPostBent_vb BK302) hg (Kd.R_ne HO336.out BK302.out (by decide)))
  have n3_ := Aside0.mk (blk_grown (g := gb303) (o := .cells #[.int .i64 t298, .slice Ao14 t299.length co14] 25 (0, 0)) (laws_FnPostBent_vb BK303) hg (Kd.R_ne HO336.out BK303.out (by decide)))
  have n4_ := Aside0.mk (blk_grown (g := gb307) (o := .cells #[.string t304, .int .i64 t305, .int .i64 t306] 29 (0, 0)) (laws_FnPostBent_vb BK307) hg (Kd.R_away HO336.out (fun _ hk => hk.2)))
  have n5_ := Aside0.mk (blk_grown (g := gb319) (o := .cells #[.int .i64 t294, .slice none 0 0] 25 (0, 0)) (laws_FnPostBent_vb BK319) hg (Kd.R_ne HO336.out BK319.out (by decide)))
  have n6_ := Aside0.mk (blk_grown (g := gb320) (o := .cells #[.int .i64 100, .slice Ao12 t295.length co12] 25 (0, 0)) (laws_FnPostBent_vb BK320) hg (Kd.R_ne HO336.out BK320.out (by decide)))
  have n7_ := Aside0.mk (Kd.R_after (ok := (fun k_ => some k_ ≠ (.slice Ao12 t295.length co12 : Value).ownBlock ∧ some k_ ≠ (.slice Ao14 t299.length co14 : Value).ownBlock ∧ some k_ ≠ (.slice Ao89 y330.length co89 : Value).ownBlock ∧ k_ ≠ gb307)) (lo_ HO329) hg hat)
  have n8_ := Aside0.mk (Kd.R_after (ok := (fun k_ => some k_ ≠ (.slice Ao12 t295.length co12 : Value).ownBlock ∧ some k_ ≠ (.slice Ao14 t299.length co14 : Value).ownBlock ∧ some k_ ≠ (v328 : Value).ownBlock ∧ k_ ≠ gb307)) (lo_ HO332) hg hat)
  have n9_ := Aside0.mk (blk_grown (g := gb333) (o := .cells #[.int .i64 t294, .slice Ao89 y330.length co89] 25 (0, 0)) (laws_FnPostBent_vb BK333) hg (Kd.R_ne HO336.out BK333.out (by decide)))
  have n10_ := Aside0.mk (blk_grown (g := gb343) (o := .cells #[.int .i64 0, .slice none 0 0] 25 (0, 0)) (laws_FnPostBent_vb BK343) hg (Kd.R_ne HO336.out BK343.out (by decide)))
  have n11_ := Aside0.mk (hb)
  have n12_ := Aside0.mk (ho)
  clear HO_303001
  clear HO_304001
  clear BK302
  clear BK303
  clear BK307
  clear BK319
  clear BK320
  clear HO329
  clear HO332
  clear BK333
  clear BK343
  clear HB
  clear HO336
  have HO_303001 := n0_
  have HO_304001 := n1_
  have BK302 := n2_
  have BK303 := n3_
  have BK307 := n4_
  have BK319 := n5_
  have BK320 := n6_
  have HO329 := n7_
  have HO332 := n8_
  have BK333 := n9_
  have BK343 := n10_
  have HB := n11_
  have HO339 := n12_
  clear n0_ n1_ n2_ n3_ n4_ n5_ n6_ n7_ n8_ n9_ n10_ n11_ n12_
  clear ho hb hg hat
  refine hK.out _ _ ⟨(blk_cell BK302.out 0).trans rfl, (blk_cell BK302.out 1).trans rfl⟩ (fun hHeld => ?_)
  clear hK K
  refine norm_ (a' := ?_) ?_ ?_
  rotate_left
  ·
   show Act.put _ (some 83) _ = _
   simp only [Act.put, List.setIfInBounds_toArray, List.set_cons_zero, List.set_cons_succ, i64_w, i32_w]
   rfl
  refine one_ (i := 8) (N := some 86) #[true, true, true, true, true, true, true, true, true, false, true, false] rfl rfl (one_of HT_.out (by kernel_rfl)) (by decide) (fun K hK => ?_)
  refine Kd.R_append_rows_step k29 (w0 := w) w.heap.size (by rfl) (.tmp 83) (.tmp 85) 23 29 (.agg #[(.string ⟨#[]⟩), (.int .i64 0), (.int .i64 0)]) 32 rfl Try.underlying23 info29 rfl (by decide) (by omega) v338 y337 t295 _ _ _ (fun k_ => some k_ ≠ (.slice Ao12 t295.length co12 : Value).ownBlock ∧ some k_ ≠ (.slice Ao14 t299.length co14 : Value).ownBlock ∧ some k_ ≠ (v328 : Value).ownBlock ∧ some k_ ≠ (.slice Ao89 y330.length co89 : Value).ownBlock ∧ k_ ≠ gb307) (fun _ => False) rfl rfl ?aO ?aR (fun _ _ h => h) (fun _ h => h.elim) ?aF ?aB ?aS ?aL ?_
  (case aR => exact co_ (Kd.R_reads' HO_303001.out).2.2)
  (case aB => exact (laws_FnPostBent_auHB))
  (case aF => exact (fun k_ hk => ⟨Kd.fresh' (Kd.R_lt (lo_ HO_303001)) k_ hk, Kd.fresh' (Kd.R_lt (lo_ HO_304001)) k_ hk, Kd.fresh' (Kd.R_lt (lo_ HO329)) k_ hk, Kd.fresh' (Kd.R_lt (lo_ HO332)) k_ hk, Kd.freshB (g := gb307) (o := .cells #[.string t304, .int .i64 t305, .int .i64 t306] 29 (0, 0)) (laws_FnPostBent_vb BK307) k_ hk⟩))
  (case aO => exact (lo_ HO339))
  (case aS => exact (below_size (laws_FnPostBent_auHB)))
  (case aL => have := LMc48.out; omega)
  intro v341 w98 ho hb hg hat
  rw [← Ny340.out] at ho
  have n0_ := Aside0.mk (Kd.R_after (ok := (fun k_ => some k_ ≠ (.slice Ao14 t299.length co14 : Value).ownBlock ∧ some k_ ≠ (v328 : Value).ownBlock ∧ some k_ ≠ (.slice Ao89 y330.length co89 : Value).ownBlock ∧ k_ ≠ gb307)) (lo_ HO_303001) hg hat)
  have n1_ := Aside0.mk (Kd.R_after (ok := (fun k_ => some k_ ≠ (.slice Ao12 t295.length co12 : Value).ownBlock ∧ some k_ ≠ (v328 : Value).ownBlock ∧ some k_ ≠ (.slice Ao89 y330.length co89 : Value).ownBlock ∧ k_ ≠ gb307)) (lo_ HO_304001) hg hat)
  have n2_ := Aside0.mk (blk_grown (g := gb302) (o := .cells #[.int .i64 t294, .slice Ao12 t295.length co12] 25 (0, 0)) (laws_FnPostBent_vb BK302) hg (Kd.R_ne HO339.out BK302.out (by decide)))
  have n3_ := Aside0.mk (blk_grown (g := gb303) (o := .cells #[.int .i64 t298, .slice Ao14 t299.length co14] 25 (0, 0)) (laws_FnPostBent_vb BK303) hg (Kd.R_ne HO339.out BK303.out (by decide)))
  have n4_ := Aside0.mk (blk_grown (g := gb307) (o := .cells #[.string t304, .int .i64 t305, .int .i64 t306] 29 (0, 0)) (laws_FnPostBent_vb BK307) hg (Kd.R_away HO339.out (fun _ hk => hk.2.2.2.2)))
  have n5_ := Aside0.mk (blk_grown (g := gb319) (o := .cells #[.int .i64 t294, .slice none 0 0] 25 (0, 0)) (laws_FnPostBent_vb BK319) hg (Kd.R_ne HO339.out BK319.out (by decide)))
  have n6_ := Aside0.mk (blk_grown (g := gb320) (o := .cells #[.int .i64 100, .slice Ao12 t295.length co12] 25 (0, 0)) (laws_FnPostBent_vb BK320) hg (Kd.R_ne HO339.out BK320.out (by decide)))
  have n7_ := Aside0.mk (Kd.R_after (ok := (fun k_ => some k_ ≠ (.slice Ao12 t295.length co12 : Value).ownBlock ∧ some k_ ≠ (.slice Ao14 t299.length co14 : Value).ownBlock ∧ some k_ ≠ (.slice Ao89 y330.length co89 : Value).ownBlock ∧ k_ ≠ gb307)) (lo_ HO329) hg hat)
  have n8_ := Aside0.mk (Kd.R_after (ok := (fun k_ => some k_ ≠ (.slice Ao12 t295.length co12 : Value).ownBlock ∧ some k_ ≠ (.slice Ao14 t299.length co14 : Value).ownBlock ∧ some k_ ≠ (v328 : Value).ownBlock ∧ k_ ≠ gb307)) (lo_ HO332) hg hat)
  have n9_ := Aside0.mk (blk_grown (g := gb333) (o := .cells #[.int .i64 t294, .slice Ao89 y330.length co89] 25 (0, 0)) (laws_FnPostBent_vb BK333) hg (Kd.R_ne HO339.out BK333.out (by decide)))
  have n10_ := Aside0.mk (blk_grown (g := gb343) (o := .cells #[.int .i64 0, .slice none 0 0] 25 (0, 0)) (laws_FnPostBent_vb BK343) hg (Kd.R_ne HO339.out BK343.out (by decide)))
  have n11_ := Aside0.mk (hb)
  have n12_ := Aside0.mk (ho)
  clear HO_303001
  clear HO_304001
  clear BK302
  clear BK303
  clear BK307
  clear BK319
  clear BK320
  clear HO329
  clear HO332
  clear BK333
  clear BK343
  clear HB
  clear HO339
  have HO_303001 := n0_
  have HO_304001 := n1_
  have BK302 := n2_
  have BK303 := n3_
  have BK307 := n4_
  have BK319 := n5_
  have BK320 := n6_
  have HO329 := n7_
  have HO332 := n8_
  have BK333 := n9_
  have BK343 := n10_
  have HB := n11_
  have HO342 := n12_
  clear n0_ n1_ n2_ n3_ n4_ n5_ n6_ n7_ n8_ n9_ n10_ n11_ n12_
  clear ho hb hg hat
  obtain ⟨Ao99, co99, eo99⟩ := Kd.R_slice HO342.out
  (first | subst eo99 | (injection eo99 with f1_ f2_ f3_; have f4_ := f1_.symm; have f5_ := f3_.symm; clear f1_ f2_ f3_; subst f4_; subst f5_))
  refine hK.out _ _ ⟨(blk_cell BK302.out 0).trans rfl, (blk_cell BK302.out 1).trans rfl⟩ (fun hHeld => ?_)
  clear hK K
  refine norm_ (a' := ?_) ?_ ?_
  rotate_left
  ·
   show Act.put _ (some 86) _ = _
   simp only [Act.put, List.setIfInBounds_toArray, List.set_cons_zero, List.set_cons_succ, i64_w, i32_w]
   rfl
  refine pu_ 9 (some 87) HT_ rfl rfl (by go_simp; rfl) (by kernel_rfl) rfl (by intro w'; go_simp; with_reducible rfl) (fun _ _ _ h => h) (by go_simp; rfl) ?_
  exact norm_ (by simp only [putAll, Act.put, List.setIfInBounds_toArray, List.set_cons_zero, List.set_cons_succ]) (hCont (v335, v338, .slice Ao99 y340.length co99, gb343) _ ⟨hHeld, (by (with_reducible repeat (first | apply Kd.R_alloc | apply Kd.R_drewN | apply Kd.R_drew)); exact Kd.R_mono HO329.out (fun _ hk => ⟨hk.1.2.2.1, ⟨hk.2, ⟨hk.1.1, ⟨hk.1.2.1, hk.1.2.2.2⟩⟩⟩⟩)), (by (with_reducible repeat (first | apply Kd.R_alloc | apply Kd.R_drewN | apply Kd.R_drew)); exact Kd.R_mono HO332.out (fun _ hk => ⟨hk.1.2.2.1, ⟨hk.2, ⟨hk.1.1, ⟨hk.1.2.1, hk.1.2.2.2⟩⟩⟩⟩)), (by (with_reducible repeat (first | apply Kd.R_alloc | apply Kd.R_drewN | apply Kd.R_drew)); exact Kd.R_mono HO342.out (fun _ hk => ⟨hk.2.2.1, ⟨hk.2.2.2.1, ⟨hk.1, ⟨hk.2.1, hk.2.2.2.2⟩⟩⟩⟩)), (by (with_reducible repeat (first | apply Kd.R_alloc | apply Kd.R_drewN | apply Kd.R_drew)); exact Kd.R_mono HO_303001.out (fun _ hk => ⟨hk.1.2.1, ⟨hk.1.2.2.1, ⟨hk.2, ⟨hk.1.1, hk.1.2.2.2⟩⟩⟩⟩)), (by (with_reducible repeat (first | apply Kd.R_alloc | apply Kd.R_drewN | apply Kd.R_drew)); exact Kd.R_mono HO_304001.out (fun _ hk => ⟨hk.1.2.1, ⟨hk.1.2.2.1, ⟨hk.2, ⟨hk.1.1, hk.1.2.2.2⟩⟩⟩⟩)), (laws_FnPostBent_vb BK302), (laws_FnPostBent_vb BK303), (laws_FnPostBent_vb BK307), (laws_FnPostBent_vb BK319), (laws_FnPostBent_vb BK320), (laws_FnPostBent_vb BK333), (laws_FnPostBent_vb BK343), GW343.out, GE343.out, NB302_343.out, NB343_302.out, NB303_343.out, NB343_303.out, NB307_343.out, NB343_307.out, NB319_343.out, NB343_319.out, NB320_343.out, NB343_320.out, NB333_343.out, NB343_333.out, (laws_FnPostBent_auHB)⟩)
 rintro ⟨v335, v338, v341, gb343⟩ w100 ⟨hS_, h0_, h1_, h2_, h3_, h4_, h5_, h6_, h7_, h8_, h9_, h10_, h11_, h12_, h13_, h14_, h15_, h16_, h17_, h18_, h19_, h20_, h21_, h22_, h23_, h24_, h25_, h26_⟩
 have n0_ : Aside0 (Kd.R k29 29 w100 w.heap.size (fun k_ => some k_ ≠ (.slice Ao89 y330.length co89 : Value).ownBlock ∧ some k_ ≠ (v341 : Value).ownBlock ∧ some k_ ≠ (.slice Ao12 t295.length co12 : Value).ownBlock ∧ some k_ ≠ (.slice Ao14 t299.length co14 : Value).ownBlock ∧ k_ ≠ gb307) v328 y327) := ⟨h0_⟩
 have n1_ : Aside0 (Kd.R k29 29 w100 w.heap.size (fun k_ => some k_ ≠ (v328 : Value).ownBlock ∧ some k_ ≠ (v341 : Value).ownBlock ∧ some k_ ≠ (.slice Ao12 t295.length co12 : Value).ownBlock ∧ some k_ ≠ (.slice Ao14 t299.length co14 : Value).ownBlock ∧ k_ ≠ gb307) (.slice Ao89 y330.length co89) y330) := ⟨h1_⟩
 have n2_ : Aside0 (Kd.R k29 29 w100 w.heap.size (fun k_ => some k_ ≠ (v328 : Value).ownBlock ∧ some k_ ≠ (.slice Ao89 y330.length co89 : Value).ownBlock ∧ some k_ ≠ (.slice Ao12 t295.length co12 : Value).ownBlock ∧ some k_ ≠ (.slice Ao14 t299.length co14 : Value).ownBlock ∧ k_ ≠ gb307) v341 y340) := ⟨h2_⟩
 have n3_ : Aside0 (Kd.R k29 29 w100 w.heap.size (fun k_ => some k_ ≠ (v328 : Value).ownBlock ∧ some k_ ≠ (.slice Ao89 y330.length co89 : Value).ownBlock ∧ some k_ ≠ (v341 : Value).ownBlock ∧ some k_ ≠ (.slice Ao14 t299.length co14 : Value).ownBlock ∧ k_ ≠ gb307) (.slice Ao12 t295.length co12) t295) := ⟨h3_⟩
 have n4_ : Aside0 (Kd.R k29 29 w100 w.heap.size (fun k_ => some k_ ≠ (v328 : Value).ownBlock ∧ some k_ ≠ (.slice Ao89 y330.length co89 : Value).ownBlock ∧ some k_ ≠ (v341 : Value).ownBlock ∧ some k_ ≠ (.slice Ao12 t295.length co12 : Value).ownBlock ∧ k_ ≠ gb307) (.slice Ao14 t299.length co14) t299) := ⟨h4_⟩
 have n5_ : Aside0 (w100.heap[gb302]? = some (.cells #[.int .i64 t294, .slice Ao12 t295.length co12] 25 (0, 0))) := ⟨h5_⟩
 have n6_ : Aside0 (w100.heap[gb303]? = some (.cells #[.int .i64 t298, .slice Ao14 t299.length co14] 25 (0, 0))) := ⟨h6_⟩
 have n7_ : Aside0 (w100.heap[gb307]? = some (.cells #[.string t304, .int .i64 t305, .int .i64 t306] 29 (0, 0))) := ⟨h7_⟩
 have n8_ : Aside0 (w100.heap[gb319]? = some (.cells #[.int .i64 t294, .slice none 0 0] 25 (0, 0))) := ⟨h8_⟩
 have n9_ : Aside0 (w100.heap[gb320]? = some (.cells #[.int .i64 100, .slice Ao12 t295.length co12] 25 (0, 0))) := ⟨h9_⟩
 have n10_ : Aside0 (w100.heap[gb333]? = some (.cells #[.int .i64 t294, .slice Ao89 y330.length co89] 25 (0, 0))) := ⟨h10_⟩
 have n11_ : Aside0 (w100.heap[gb343]? = some (.cells #[.int .i64 0, .slice none 0 0] 25 (0, 0))) := ⟨h11_⟩
 have n12_ : Aside0 (w.heap.size ≤ gb343) := ⟨h12_⟩
 have n13_ : Aside0 (w.heap.size ≤ gb343) := ⟨h13_⟩
 have n14_ : Aside0 (gb302 ≠ gb343) := ⟨h14_⟩
 have n15_ : Aside0 (gb343 ≠ gb302) := ⟨h15_⟩
 have n16_ : Aside0 (gb303 ≠ gb343) := ⟨h16_⟩
 have n17_ : Aside0 (gb343 ≠ gb303) := ⟨h17_⟩
 have n18_ : Aside0 (gb307 ≠ gb343) := ⟨h18_⟩
 have n19_ : Aside0 (gb343 ≠ gb307) := ⟨h19_⟩
 have n20_ : Aside0 (gb319 ≠ gb343) := ⟨h20_⟩
 have n21_ : Aside0 (gb343 ≠ gb319) := ⟨h21_⟩
 have n22_ : Aside0 (gb320 ≠ gb343) := ⟨h22_⟩
 have n23_ : Aside0 (gb343 ≠ gb320) := ⟨h23_⟩
 have n24_ : Aside0 (gb333 ≠ gb343) := ⟨h24_⟩
 have n25_ : Aside0 (gb343 ≠ gb333) := ⟨h25_⟩
 have n26_ : Aside0 (Below w.heap.size w w100) := ⟨h26_⟩
 clear HO_303001
 clear HO_304001
 clear HO329
 clear HO332
 clear BK302
 clear BK303
 clear BK307
 clear BK319
 clear BK320
 clear BK333
 clear HB
 clear h0_ h1_ h2_ h3_ h4_ h5_ h6_ h7_ h8_ h9_ h10_ h11_ h12_ h13_ h14_ h15_ h16_ h17_ h18_ h19_ h20_ h21_ h22_ h23_ h24_ h25_ h26_
 have HO329 := n0_
 have HO332 := n1_
 have HO342 := n2_
 have HO_303001 := n3_
 have HO_304001 := n4_
 have BK302 := n5_
 have BK303 := n6_
 have BK307 := n7_
 have BK319 := n8_
 have BK320 := n9_
 have BK333 := n10_
 have BK343 := n11_
 have GW343 := n12_
 have GE343 := n13_
 have NB302_343 := n14_
 have NB343_302 := n15_
 have NB303_343 := n16_
 have NB343_303 := n17_
 have NB307_343 := n18_
 have NB343_307 := n19_
 have NB319_343 := n20_
 have NB343_319 := n21_
 have NB320_343 := n22_
 have NB343_320 := n23_
 have NB333_343 := n24_
 have NB343_333 := n25_
 have HB := n26_
 clear n0_ n1_ n2_ n3_ n4_ n5_ n6_ n7_ n8_ n9_ n10_ n11_ n12_ n13_ n14_ n15_ n16_ n17_ n18_ n19_ n20_ n21_ n22_ n23_ n24_ n25_ n26_
 have hHeld : w100.cell? ⟨gb302, 0, none⟩ = some (.int .i64 t294) ∧ w100.cell? ⟨gb302, 1, none⟩ = some (.slice Ao12 t295.length co12) := hS_
 obtain ⟨Ao101, co101, eo101⟩ := Kd.R_slice HO342.out
 (first | subst eo101 | (injection eo101 with f1_ f2_ f3_; have f4_ := f1_.symm; have f5_ := f3_.symm; clear f1_ f2_ f3_; subst f4_; subst f5_))
 refine norm_ (a' := ?_) ?_ ?_
 rotate_left
 ·
  simp only [putAll, Act.put, List.setIfInBounds_toArray, List.set_cons_zero, List.set_cons_succ]
  rfl
 refine one_ (i := 11) (N := none) #[true, true, true, true, true, true, true, true, true, true, true, true] rfl rfl (one_of HT_.out (by kernel_rfl)) (by decide) (fun K hK => ?_)
 have hs102 : w100.cell? ⟨gb343, 0, none⟩ = some (.int .i64 0) := (blk_cell BK343.out 0).trans rfl
 have hfs102 := blk_frozen BK343.out 0
 have hns102_0 := NB302_343.out
 have hns102_1 := NB303_343.out
 have hns102_2 := NB307_343.out
 have hns102_3 := NB319_343.out
 have hns102_4 := NB320_343.out
 have hns102_5 := NB333_343.out
 have hms102_0 := NB343_302.out
 have hms102_1 := NB343_303.out
 have hms102_2 := NB343_307.out
 have hms102_3 := NB343_319.out
 have hms102_4 := NB343_320.out
 have hms102_5 := NB343_333.out
 have hs103 : w100.cell? ⟨gb343, 1, none⟩ = some (.slice none 0 0) := (blk_cell BK343.out 1).trans rfl
 have hfs103 := blk_frozen BK343.out 1
 have hns103_0 := NB302_343.out
 have hns103_1 := NB303_343.out
 have hns103_2 := NB307_343.out
 have hns103_3 := NB319_343.out
 have hns103_4 := NB320_343.out
 have hns103_5 := NB333_343.out
 have hms103_0 := NB343_302.out
 have hms103_1 := NB343_303.out
 have hms103_2 := NB343_307.out
 have hms103_3 := NB343_319.out
 have hms103_4 := NB343_320.out
 have hms103_5 := NB343_333.out
 refine skip_ (w1 := ?_) (by rfl) rfl ?_ ?_
 rotate_left
 ·
  go_simp
  rfl
 refine hK.out _ _ ⟨((cell_far (p := ⟨gb343, _, none⟩) NB302_343.out _).trans (((cell_far (p := ⟨gb343, _, none⟩) NB302_343.out _).trans (hHeld.1)))), ((cell_far (p := ⟨gb343, _, none⟩) NB302_343.out _).trans (((cell_far (p := ⟨gb343, _, none⟩) NB302_343.out _).trans (hHeld.2))))⟩ (fun hHeld => ?_)
 clear hK K
 refine done_ (done_of HT_.out (by kernel_rfl)) ?_
 have hnb104 := NB343_302.out
 have hnc104 := NB302_343.out
 have hnb105 := NB343_303.out
 have hnc105 := NB303_343.out
 have hnb106 := NB343_307.out
 have hnc106 := NB307_343.out
 have hnb107 := NB343_319.out
 have hnc107 := NB319_343.out
 have hnb108 := NB343_320.out
 have hnc108 := NB320_343.out
 have hnb109 := NB343_333.out
 have hnc109 := NB333_343.out
 have hcz110_0 : w100.cell? ⟨gb343, 0, none⟩ = some (.int .i64 0) := (blk_cell BK343.out 0).trans rfl
 have hcz110_1 : w100.cell? ⟨gb343, 1, none⟩ = some (.slice none 0 0) := (blk_cell BK343.out 1).trans rfl
 have hfz110_0 := blk_frozen BK343.out 0
 have hfz110_1 := blk_frozen BK343.out 1
 have H := HWAY.out
 clear HWAY
 by_cases c56 : (y344.length : Int) ≤ 4
 ·
  rw [if_pos c56] at H
  have c56b0 : decide ((y344.length : Int) ≤ 4) = true := decide_eq_true c56
  have c56b1 : decide (y344.length ≤ 4) = true := decide_eq_true (by omega)
  clear c56
  replace H := Option.bind_eq_some_iff.mp H
  obtain ⟨t350, A570, H⟩ := H
  replace H : (if t350 = true then (none) else ((impl_PostSame.f kj5 t294 t295 t294 y330).bind fun t351 => (some (!t351)))) = some r := H
  have A57 := Aside0.mk A570
  clear A570
  by_cases c58 : t350 = true
  ·
   subst c58
   have H1 : (none) = some r := by rw [if_pos rfl] at H; exact H
   clear H
   have H := H1
   clear H1
   exact absurd H (by simp)
  replace c58 := Bool.eq_false_iff.mpr c58
  subst c58
  have H1 : ((impl_PostSame.f kj5 t294 t295 t294 y330).bind fun t351 => (some (!t351))) = some r := by rw [if_neg (show ¬ (false = true) by decide)] at H; exact H
  clear H
  have H := H1
  clear H1
  replace H := Option.bind_eq_some_iff.mp H
  obtain ⟨t351, A590, H⟩ := H
  replace H : (some (!t351)) = some r := H
  have A59 := Aside0.mk A590
  clear A590
  obtain rfl := Option.some.inj H
  try go_wp2_with (first | ((with_reducible refine gate_builtin (b := .append) (xs := #[.tmp 89, .tmp 91]) rfl ?_); (try (refine gate_guard (by rfl) ?_; dsimp only)); at_builtin; refine Kd.R_append_rows k29 (w0 := w) w.heap.size rfl (.tmp 89) (.tmp 91) 23 29 (.agg #[(.string ⟨#[]⟩), (.int .i64 0), (.int .i64 0)]) 32 rfl Try.underlying23 info29 rfl (by decide) (by omega) (.slice Ao101 y340.length co101) y340 y340 _ _ _ (fun k_ => some k_ ≠ (.slice Ao12 t295.length co12 : Value).ownBlock ∧ some k_ ≠ (.slice Ao14 t299.length co14 : Value).ownBlock ∧ some k_ ≠ (v328 : Value).ownBlock ∧ some k_ ≠ (.slice Ao89 y330.length co89 : Value).ownBlock ∧ k_ ≠ gb307) (fun _ => False) rfl rfl ?aO ?aR (fun _ _ h => h) (fun _ h => h.elim) ?aF ?aB ?aS ?aL ?_; (case aR => refine (Kd.R_reads' (e := 29) (base := w.heap.size) (ok := fun k_ => (some k_ ≠ (v328 : Value).ownBlock ∧ (some k_ ≠ (.slice Ao89 y330.length co89 : Value).ownBlock ∧ (some k_ ≠ (.slice Ao12 t295.length co12 : Value).ownBlock ∧ (some k_ ≠ (.slice Ao14 t299.length co14 : Value).ownBlock ∧ k_ ≠ gb307))))) (n := y340.length) (c := co101) ?_).2.2; exact (by (with_reducible repeat (first | apply Kd.R_alloc | apply Kd.R_drewN | apply Kd.R_drew)); exact (Kd.R_mono (Kd.R_far (p := ⟨gb343, 1, none⟩) (Kd.R_far (p := ⟨gb343, 0, none⟩) (Kd.R_types HO342.out BK343.out (by decide)) (fun _ hk => hk.2) (.int .i64 t294)) (fun _ hk => hk.2) (.slice Ao101 y340.length co101)) (fun _ h_ => h_.1)))); (case aB => exact (laws_FnPostBent_auHB)); (case aF => exact (fun k_ hk => ⟨Kd.fresh' (Kd.R_lt (by (with_reducible repeat (first | apply Kd.R_alloc | apply Kd.R_drewN | apply Kd.R_drew)); exact (Kd.R_mono (Kd.R_far (p := ⟨gb343, 1, none⟩) (Kd.R_far (p := ⟨gb343, 0, none⟩) (Kd.R_types HO_303001.out BK343.out (by decide)) (fun _ hk => hk.2) (.int .i64 t294)) (fun _ hk => hk.2) (.slice Ao101 y340.length co101)) (fun _ h_ => h_.1)))) k_ hk, Kd.fresh' (Kd.R_lt (by (with_reducible repeat (first | apply Kd.R_alloc | apply Kd.R_drewN | apply Kd.R_drew)); exact (Kd.R_mono (Kd.R_far (p := ⟨gb343, 1, none⟩) (Kd.R_far (p := ⟨gb343, 0, none⟩) (Kd.R_types HO_304001.out BK343.out (by decide)) (fun _ hk => hk.2) (.int .i64 t294)) (fun _ hk => hk.2) (.slice Ao101 y340.length co101)) (fun _ h_ => h_.1)))) k_ hk, Kd.fresh' (Kd.R_lt (by (with_reducible repeat (first | apply Kd.R_alloc | apply Kd.R_drewN | apply Kd.R_drew)); exact (Kd.R_mono (Kd.R_far (p := ⟨gb343, 1, none⟩) (Kd.R_far (p := ⟨gb343, 0, none⟩) (Kd.R_types HO329.out BK343.out (by decide)) (fun _ hk => hk.2) (.int .i64 t294)) (fun _ hk => hk.2) (.slice Ao101 y340.length co101)) (fun _ h_ => h_.1)))) k_ hk, Kd.fresh' (Kd.R_lt (by (with_reducible repeat (first | apply Kd.R_alloc | apply Kd.R_drewN | apply Kd.R_drew)); exact (Kd.R_mono (Kd.R_far (p := ⟨gb343, 1, none⟩) (Kd.R_far (p := ⟨gb343, 0, none⟩) (Kd.R_types HO332.out BK343.out (by decide)) (fun _ hk => hk.2) (.int .i64 t294)) (fun _ hk => hk.2) (.slice Ao101 y340.length co101)) (fun _ h_ => h_.1)))) k_ hk, Kd.freshB (g := gb307) (o := .cells #[.string t304, .int .i64 t305, .int .i64 t306] 29 (0, 0)) (by (with_reducible repeat (first | refine blk_drewN ?_ _ | refine blk_drew ?_ | refine blk_alloc ?_ _)); refine blk_far ?_ NB307_343.out _; (with_reducible repeat (first | refine blk_drewN ?_ _ | refine blk_drew ?_ | refine blk_alloc ?_ _)); refine blk_far ?_ NB307_343.out _; (with_reducible repeat (first | refine blk_drewN ?_ _ | refine blk_drew ?_ | refine blk_alloc ?_ _)); exact BK307.out) k_ hk⟩)); (case aO => exact (by (with_reducible repeat (first | apply Kd.R_alloc | apply Kd.R_drewN | apply Kd.R_drew)); exact Kd.R_mono (Kd.R_far (p := ⟨gb343, 1, none⟩) (Kd.R_far (p := ⟨gb343, 0, none⟩) (Kd.R_types HO342.out BK343.out (by decide)) (fun _ hk => hk.2) (.int .i64 t294)) (fun _ hk => hk.2) (.slice Ao101 y340.length co101)) (fun _ hk => ⟨hk.1.2.2.1, ⟨hk.1.2.2.2.1, ⟨hk.1.1, ⟨hk.1.2.1, hk.1.2.2.2.2⟩⟩⟩⟩))); (case aS => exact (below_size (laws_FnPostBent_auHB))); (case aL => have := LMc49.out; omega); intro v345 w111 ho hb hg hat; rw [← Ny344.out] at ho; have n0_ := Aside0.mk (Kd.R_after (ok := (fun k_ => some k_ ≠ (.slice Ao14 t299.length co14 : Value).ownBlock ∧ some k_ ≠ (v328 : Value).ownBlock ∧ some k_ ≠ (.slice Ao89 y330.length co89 : Value).ownBlock ∧ k_ ≠ gb307)) (by (with_reducible repeat (first | apply Kd.R_alloc | apply Kd.R_drewN | apply Kd.R_drew)); exact Kd.R_mono (Kd.R_far (p := ⟨gb343, 1, none⟩) (Kd.R_far (p := ⟨gb343, 0, none⟩) (Kd.R_types HO_303001.out BK343.out (by decide)) (fun _ hk => hk.2) (.int .i64 t294)) (fun _ hk => hk.2) (.slice Ao101 y340.length co101)) (fun _ hk => ⟨⟨hk.1.2.2.2.1, ⟨hk.1.1, ⟨hk.1.2.1, hk.1.2.2.2.2⟩⟩⟩, hk.1.2.2.1⟩)) hg hat); have n1_ := Aside0.mk (Kd.R_after (ok := (fun k_ => some k_ ≠ (.slice Ao12 t295.length co12 : Value).ownBlock ∧ some k_ ≠ (v328 : Value).ownBlock ∧ some k_ ≠ (.slice Ao89 y330.length co89 : Value).ownBlock ∧ k_ ≠ gb307)) (by (with_reducible repeat (first | apply Kd.R_alloc | apply Kd.R_drewN | apply Kd.R_drew)); exact Kd.R_mono (Kd.R_far (p := ⟨gb343, 1, none⟩) (Kd.R_far (p := ⟨gb343, 0, none⟩) (Kd.R_types HO_304001.out BK343.out (by decide)) (fun _ hk => hk.2) (.int .i64 t294)) (fun _ hk => hk.2) (.slice Ao101 y340.length co101)) (fun _ hk => ⟨⟨hk.1.2.2.2.1, ⟨hk.1.1, ⟨hk.1.2.1, hk.1.2.2.2.2⟩⟩⟩, hk.1.2.2.1⟩)) hg hat); have n2_ := Aside0.mk (blk_grown (g := gb302) (o := .cells #[.int .i64 t294, .slice Ao12 t295.length co12] 25 (0, 0)) (by (with_reducible repeat (first | refine blk_drewN ?_ _ | refine blk_drew ?_ | refine blk_alloc ?_ _)); refine blk_far ?_ NB302_343.out _; (with_reducible repeat (first | refine blk_drewN ?_ _ | refine blk_drew ?_ | refine blk_alloc ?_ _)); refine blk_far ?_ NB302_343.out _; (with_reducible repeat (first | refine blk_drewN ?_ _ | refine blk_drew ?_ | refine blk_alloc ?_ _)); exact BK302.out) hg (Kd.R_ne HO342.out BK302.out (by decide))); have n3_ := Aside0.mk (blk_grown (g := gb303) (o := .cells #[.int .i64 t298, .slice Ao14 t299.length co14] 25 (0, 0)) (by (with_reducible repeat (first | refine blk_drewN ?_ _ | refine blk_drew ?_ | refine blk_alloc ?_ _)); refine blk_far ?_ NB303_343.out _; (with_reducible repeat (first | refine blk_drewN ?_ _ | refine blk_drew ?_ | refine blk_alloc ?_ _)); refine blk_far ?_ NB303_343.out _; (with_reducible repeat (first | refine blk_drewN ?_ _ | refine blk_drew ?_ | refine blk_alloc ?_ _)); exact BK303.out) hg (Kd.R_ne HO342.out BK303.out (by decide))); have n4_ := Aside0.mk (blk_grown (g := gb307) (o := .cells #[.string t304, .int .i64 t305, .int .i64 t306] 29 (0, 0)) (by (with_reducible repeat (first | refine blk_drewN ?_ _ | refine blk_drew ?_ | refine blk_alloc ?_ _)); refine blk_far ?_ NB307_343.out _; (with_reducible repeat (first | refine blk_drewN ?_ _ | refine blk_drew ?_ | refine blk_alloc ?_ _)); refine blk_far ?_ NB307_343.out _; (with_reducible repeat (first | refine blk_drewN ?_ _ | refine blk_drew ?_ | refine blk_alloc ?_ _)); exact BK307.out) hg (Kd.R_away HO342.out (fun _ hk => hk.2.2.2.2))); have n5_ := Aside0.mk (blk_grown (g := gb319) (o := .cells #[.int .i64 t294, .slice none 0 0] 25 (0, 0)) (by (with_reducible repeat (first | refine blk_drewN ?_ _ | refine blk_drew ?_ | refine blk_alloc ?_ _)); refine blk_far ?_ NB319_343.out _; (with_reducible repeat (first | refine blk_drewN ?_ _ | refine blk_drew ?_ | refine blk_alloc ?_ _)); refine blk_far ?_ NB319_343.out _; (with_reducible repeat (first | refine blk_drewN ?_ _ | refine blk_drew ?_ | refine blk_alloc ?_ _)); exact BK319.out) hg (Kd.R_ne HO342.out BK319.out (by decide))); have n6_ := Aside0.mk (blk_grown (g := gb320) (o := .cells #[.int .i64 100, .slice Ao12 t295.length co12] 25 (0, 0)) (by (with_reducible repeat (first | refine blk_drewN ?_ _ | refine blk_drew ?_ | refine blk_alloc ?_ _)); refine blk_far ?_ NB320_343.out _; (with_reducible repeat (first | refine blk_drewN ?_ _ | refine blk_drew ?_ | refine blk_alloc ?_ _)); refine blk_far ?_ NB320_343.out _; (with_reducible repeat (first | refine blk_drewN ?_ _ | refine blk_drew ?_ | refine blk_alloc ?_ _)); exact BK320.out) hg (Kd.R_ne HO342.out BK320.out (by decide))); have n7_ := Aside0.mk (Kd.R_after (ok := (fun k_ => some k_ ≠ (.slice Ao12 t295.length co12 : Value).ownBlock ∧ some k_ ≠ (.slice Ao14 t299.length co14 : Value).ownBlock ∧ some k_ ≠ (.slice Ao89 y330.length co89 : Value).ownBlock ∧ k_ ≠ gb307)) (by (with_reducible repeat (first | apply Kd.R_alloc | apply Kd.R_drewN | apply Kd.R_drew)); exact Kd.R_mono (Kd.R_far (p := ⟨gb343, 1, none⟩) (Kd.R_far (p := ⟨gb343, 0, none⟩) (Kd.R_types HO329.out BK343.out (by decide)) (fun _ hk => hk.2) (.int .i64 t294)) (fun _ hk => hk.2) (.slice Ao101 y340.length co101)) (fun _ hk => ⟨⟨hk.1.2.2.1, ⟨hk.1.2.2.2.1, ⟨hk.1.1, hk.1.2.2.2.2⟩⟩⟩, hk.1.2.1⟩)) hg hat); have n8_ := Aside0.mk (Kd.R_after (ok := (fun k_ => some k_ ≠ (.slice Ao12 t295.length co12 : Value).ownBlock ∧ some k_ ≠ (.slice Ao14 t299.length co14 : Value).ownBlock ∧ some k_ ≠ (v328 : Value).ownBlock ∧ k_ ≠ gb307)) (by (with_reducible repeat (first | apply Kd.R_alloc | apply Kd.R_drewN | apply Kd.R_drew)); exact Kd.R_mono (Kd.R_far (p := ⟨gb343, 1, none⟩) (Kd.R_far (p := ⟨gb343, 0, none⟩) (Kd.R_types HO332.out BK343.out (by decide)) (fun _ hk => hk.2) (.int .i64 t294)) (fun _ hk => hk.2) (.slice Ao101 y340.length co101)) (fun _ hk => ⟨⟨hk.1.2.2.1, ⟨hk.1.2.2.2.1, ⟨hk.1.1, hk.1.2.2.2.2⟩⟩⟩, hk.1.2.1⟩)) hg hat); have n9_ := Aside0.mk (blk_grown (g := gb333) (o := .cells #[.int .i64 t294, .slice Ao89 y330.length co89] 25 (0, 0)) (by (with_reducible repeat (first | refine blk_drewN ?_ _ | refine blk_drew ?_ | refine blk_alloc ?_ _)); refine blk_far ?_ NB333_343.out _; (with_reducible repeat (first | refine blk_drewN ?_ _ | refine blk_drew ?_ | refine blk_alloc ?_ _)); refine blk_far ?_ NB333_343.out _; (with_reducible repeat (first | refine blk_drewN ?_ _ | refine blk_drew ?_ | refine blk_alloc ?_ _)); exact BK333.out) hg (Kd.R_ne HO342.out BK333.out (by decide))); have n10_ := Aside0.mk (blk_grown (g := gb343) (o := .cells #[.int .i64 t294, .slice Ao101 y340.length co101] 25 (0, 0)) (by (with_reducible repeat (first | refine blk_drewN ?_ _ | refine blk_drew ?_ | refine blk_alloc ?_ _)); refine blk_put (cs := #[.int .i64 t294, .slice none 0 0]) ?_ 1 _ rfl; (with_reducible repeat (first | refine blk_drewN ?_ _ | refine blk_drew ?_ | refine blk_alloc ?_ _)); refine blk_put (cs := #[.int .i64 0, .slice none 0 0]) ?_ 0 _ rfl; (with_reducible repeat (first | refine blk_drewN ?_ _ | refine blk_drew ?_ | refine blk_alloc ?_ _)); exact BK343.out) hg (Kd.R_ne HO342.out BK343.out (by decide))); have n11_ := Aside0.mk (hb); have n12_ := Aside0.mk (ho); clear HO_303001; clear HO_304001; clear BK302; clear BK303; clear BK307; clear BK319; clear BK320; clear HO329; clear HO332; clear BK333; clear BK343; clear HB; clear HO342; have HO_303001 := n0_; have HO_304001 := n1_; have BK302 := n2_; have BK303 := n3_; have BK307 := n4_; have BK319 := n5_; have BK320 := n6_; have HO329 := n7_; have HO332 := n8_; have BK333 := n9_; have BK343 := n10_; have HB := n11_; have HO346 := n12_; clear n0_ n1_ n2_ n3_ n4_ n5_ n6_ n7_ n8_ n9_ n10_ n11_ n12_; clear ho hb hg hat; obtain ⟨Ao112, co112, eo112⟩ := Kd.R_slice HO346.out; subst eo112; have hcz113_0 : w111.cell? ⟨gb343, 0, none⟩ = some (.int .i64 t294) := (blk_cell BK343.out 0).trans rfl; have hcz113_1 : w111.cell? ⟨gb343, 1, none⟩ = some (.slice Ao101 y340.length co101) := (blk_cell BK343.out 1).trans rfl; have hfz113_0 := blk_frozen BK343.out 0; have hfz113_1 := blk_frozen BK343.out 1; have hnb114 := NB319_333.out; have hnc114 := NB333_319.out; have hcz115_0 : w111.cell? ⟨gb319, 0, none⟩ = some (.int .i64 t294) := (blk_cell BK319.out 0).trans rfl; have hcz115_1 : w111.cell? ⟨gb319, 1, none⟩ = some (.slice none 0 0) := (blk_cell BK319.out 1).trans rfl; have hfz115_0 := blk_frozen BK319.out 0; have hfz115_1 := blk_frozen BK319.out 1) | ((with_reducible refine gate_callee (f := 14) rfl ?_); refine goesL_ (some 95) rfl rfl Try.func14 (by kernel_rfl) rfl #[.agg #[.int .i64 t294, .slice none 0 0]] rfl (by (try simp only [List.map_toArray, List.map_cons, List.map_nil]); first | done | rfl | (simp only [List.length_drop, List.length_take]; rfl)) ?_; (refine (impl_PostOk.calls kj5 t294 _ _ ([] : List (S29)) false _ ?side1 ?side2 A50.out).mono ?_); (case side1 => exact Kd.C_nil _ _); (case side2 => exact Nat.le_refl _); rintro e w116 ⟨rfl, hb⟩; refine ⟨_, rfl, ?_⟩; replace HO_303001 := Aside0.mk (Kd.R_below (by (with_reducible repeat (first | apply Kd.R_alloc | apply Kd.R_drewN | apply Kd.R_drew)); exact (Kd.R_mono (Kd.R_far (p := ⟨gb343, 1, none⟩) (Kd.R_types HO_303001.out BK343.out (by decide)) (fun _ hk => hk.2) (.slice Ao112 y344.length co112)) (fun _ h_ => h_.1))) hb); replace HO_304001 := Aside0.mk (Kd.R_below (by (with_reducible repeat (first | apply Kd.R_alloc | apply Kd.R_drewN | apply Kd.R_drew)); exact (Kd.R_mono (Kd.R_far (p := ⟨gb343, 1, none⟩) (Kd.R_types HO_304001.out BK343.out (by decide)) (fun _ hk => hk.2) (.slice Ao112 y344.length co112)) (fun _ h_ => h_.1))) hb); replace HO329 := Aside0.mk (Kd.R_below (by (with_reducible repeat (first | apply Kd.R_alloc | apply Kd.R_drewN | apply Kd.R_drew)); exact (Kd.R_mono (Kd.R_far (p := ⟨gb343, 1, none⟩) (Kd.R_types HO329.out BK343.out (by decide)) (fun _ hk => hk.2) (.slice Ao112 y344.length co112)) (fun _ h_ => h_.1))) hb); replace HO332 := Aside0.mk (Kd.R_below (by (with_reducible repeat (first | apply Kd.R_alloc | apply Kd.R_drewN | apply Kd.R_drew)); exact (Kd.R_mono (Kd.R_far (p := ⟨gb343, 1, none⟩) (Kd.R_types HO332.out BK343.out (by decide)) (fun _ hk => hk.2) (.slice Ao112 y344.length co112)) (fun _ h_ => h_.1))) hb); replace HO346 := Aside0.mk (Kd.R_below (by (with_reducible repeat (first | apply Kd.R_alloc | apply Kd.R_drewN | apply Kd.R_drew)); exact (Kd.R_mono (Kd.R_far (p := ⟨gb343, 1, none⟩) (Kd.R_types HO346.out BK343.out (by decide)) (fun _ hk => hk.2) (.slice Ao112 y344.length co112)) (fun _ h_ => h_.1))) hb); replace BK302 := Aside0.mk (blk_below (g := gb302) (o := .cells #[.int .i64 t294, .slice Ao12 t295.length co12] 25 (0, 0)) (by (with_reducible repeat (first | refine blk_drewN ?_ _ | refine blk_drew ?_ | refine blk_alloc ?_ _)); refine blk_far ?_ NB302_343.out _; (with_reducible repeat (first | refine blk_drewN ?_ _ | refine blk_drew ?_ | refine blk_alloc ?_ _)); exact BK302.out) hb); replace BK303 := Aside0.mk (blk_below (g := gb303) (o := .cells #[.int .i64 t298, .slice Ao14 t299.length co14] 25 (0, 0)) (by (with_reducible repeat (first | refine blk_drewN ?_ _ | refine blk_drew ?_ | refine blk_alloc ?_ _)); refine blk_far ?_ NB303_343.out _; (with_reducible repeat (first | refine blk_drewN ?_ _ | refine blk_drew ?_ | refine blk_alloc ?_ _)); exact BK303.out) hb); replace BK307 := Aside0.mk (blk_below (g := gb307) (o := .cells #[.string t304, .int .i64 t305, .int .i64 t306] 29 (0, 0)) (by (with_reducible repeat (first | refine blk_drewN ?_ _ | refine blk_drew ?_ | refine blk_alloc ?_ _)); refine blk_far ?_ NB307_343.out _; (with_reducible repeat (first | refine blk_drewN ?_ _ | refine blk_drew ?_ | refine blk_alloc ?_ _)); exact BK307.out) hb); replace BK319 := Aside0.mk (blk_below (g := gb319) (o := .cells #[.int .i64 t294, .slice none 0 0] 25 (0, 0)) (by (with_reducible repeat (first | refine blk_drewN ?_ _ | refine blk_drew ?_ | refine blk_alloc ?_ _)); refine blk_far ?_ NB319_343.out _; (with_reducible repeat (first | refine blk_drewN ?_ _ | refine blk_drew ?_ | refine blk_alloc ?_ _)); exact BK319.out) hb); replace BK320 := Aside0.mk (blk_below (g := gb320) (o := .cells #[.int .i64 100, .slice Ao12 t295.length co12] 25 (0, 0)) (by (with_reducible repeat (first | refine blk_drewN ?_ _ | refine blk_drew ?_ | refine blk_alloc ?_ _)); refine blk_far ?_ NB320_343.out _; (with_reducible repeat (first | refine blk_drewN ?_ _ | refine blk_drew ?_ | refine blk_alloc ?_ _)); exact BK320.out) hb); replace BK333 := Aside0.mk (blk_below (g := gb333) (o := .cells #[.int .i64 t294, .slice Ao89 y330.length co89] 25 (0, 0)) (by (with_reducible repeat (first | refine blk_drewN ?_ _ | refine blk_drew ?_ | refine blk_alloc ?_ _)); refine blk_far ?_ NB333_343.out _; (with_reducible repeat (first | refine blk_drewN ?_ _ | refine blk_drew ?_ | refine blk_alloc ?_ _)); exact BK333.out) hb); replace BK343 := Aside0.mk (blk_below (g := gb343) (o := .cells #[.int .i64 t294, .slice Ao112 y344.length co112] 25 (0, 0)) (by (with_reducible repeat (first | refine blk_drewN ?_ _ | refine blk_drew ?_ | refine blk_alloc ?_ _)); refine blk_put (cs := #[.int .i64 t294, .slice Ao101 y340.length co101]) ?_ 1 _ rfl; (with_reducible repeat (first | refine blk_drewN ?_ _ | refine blk_drew ?_ | refine blk_alloc ?_ _)); exact BK343.out) hb); replace HB := Aside0.mk (below_step (laws_FnPostBent_auHB) hb); (try clear hb); (try clear hb2); (try clear hk); (try clear hi); have hnb117 := NB320_333.out; have hnc117 := NB333_320.out; have hcz118_0 : w116.cell? ⟨gb320, 0, none⟩ = some (.int .i64 100) := (blk_cell BK320.out 0).trans rfl; have hcz118_1 : w116.cell? ⟨gb320, 1, none⟩ = some (.slice Ao12 t295.length co12) := (blk_cell BK320.out 1).trans rfl; have hfz118_0 := blk_frozen BK320.out 0; have hfz118_1 := blk_frozen BK320.out 1) | (go_at_call 14; (with_reducible refine (impl_PostOk.calls kj5 100 _ _ t295 false _ ?side1 ?side2 A52.out).mono ?_); (case side1 => exact co_ (Kd.R_reads' HO_303001.out).2.2); (case side2 => exact (Kd.R_reads' HO_303001.out).2.1); rintro e w119 ⟨rfl, hb⟩; replace HO_303001 := Aside0.mk (Kd.R_below (lo_ HO_303001) hb); replace HO_304001 := Aside0.mk (Kd.R_below (lo_ HO_304001) hb); replace HO329 := Aside0.mk (Kd.R_below (lo_ HO329) hb); replace HO332 := Aside0.mk (Kd.R_below (lo_ HO332) hb); replace HO346 := Aside0.mk (Kd.R_below (lo_ HO346) hb); replace BK302 := Aside0.mk (blk_below (g := gb302) (o := .cells #[.int .i64 t294, .slice Ao12 t295.length co12] 25 (0, 0)) (laws_FnPostBent_vb BK302) hb); replace BK303 := Aside0.mk (blk_below (g := gb303) (o := .cells #[.int .i64 t298, .slice Ao14 t299.length co14] 25 (0, 0)) (laws_FnPostBent_vb BK303) hb); replace BK307 := Aside0.mk (blk_below (g := gb307) (o := .cells #[.string t304, .int .i64 t305, .int .i64 t306] 29 (0, 0)) (laws_FnPostBent_vb BK307) hb); replace BK319 := Aside0.mk (blk_below (g := gb319) (o := .cells #[.int .i64 t294, .slice none 0 0] 25 (0, 0)) (laws_FnPostBent_vb BK319) hb); replace BK320 := Aside0.mk (blk_below (g := gb320) (o := .cells #[.int .i64 100, .slice Ao12 t295.length co12] 25 (0, 0)) (laws_FnPostBent_vb BK320) hb); replace BK333 := Aside0.mk (blk_below (g := gb333) (o := .cells #[.int .i64 t294, .slice Ao89 y330.length co89] 25 (0, 0)) (laws_FnPostBent_vb BK333) hb); replace BK343 := Aside0.mk (blk_below (g := gb343) (o := .cells #[.int .i64 t294, .slice Ao112 y344.length co112] 25 (0, 0)) (laws_FnPostBent_vb BK343) hb); replace HB := Aside0.mk (below_step (laws_FnPostBent_auHB) hb); (try clear hb); (try clear hb2); (try clear hk); (try clear hi); have hnb120 := NB333_302.out; have hnc120 := NB302_333.out; have hnb121 := NB333_303.out; have hnc121 := NB303_333.out; have hnb122 := NB333_307.out; have hnc122 := NB307_333.out; have hcz123_0 : w119.cell? ⟨gb333, 0, none⟩ = some (.int .i64 t294) := (blk_cell BK333.out 0).trans rfl; have hcz123_1 : w119.cell? ⟨gb333, 1, none⟩ = some (.slice Ao89 y330.length co89) := (blk_cell BK333.out 1).trans rfl; have hfz123_0 := blk_frozen BK333.out 0; have hfz123_1 := blk_frozen BK333.out 1) | (go_at_call 14; (with_reducible refine (impl_PostOk.calls kj5 t294 _ _ y330 false _ ?side1 ?side2 A54.out).mono ?_); (case side1 => exact co_ (Kd.R_reads' HO332.out).2.2); (case side2 => exact (Kd.R_reads' HO332.out).2.1); rintro e w124 ⟨rfl, hb⟩; replace HO_303001 := Aside0.mk (Kd.R_below (lo_ HO_303001) hb); replace HO_304001 := Aside0.mk (Kd.R_below (lo_ HO_304001) hb); replace HO329 := Aside0.mk (Kd.R_below (lo_ HO329) hb); replace HO332 := Aside0.mk (Kd.R_below (lo_ HO332) hb); replace HO346 := Aside0.mk (Kd.R_below (lo_ HO346) hb); replace BK302 := Aside0.mk (blk_below (g := gb302) (o := .cells #[.int .i64 t294, .slice Ao12 t295.length co12] 25 (0, 0)) (laws_FnPostBent_vb BK302) hb); replace BK303 := Aside0.mk (blk_below (g := gb303) (o := .cells #[.int .i64 t298, .slice Ao14 t299.length co14] 25 (0, 0)) (laws_FnPostBent_vb BK303) hb); replace BK307 := Aside0.mk (blk_below (g := gb307) (o := .cells #[.string t304, .int .i64 t305, .int .i64 t306] 29 (0, 0)) (laws_FnPostBent_vb BK307) hb); replace BK319 := Aside0.mk (blk_below (g := gb319) (o := .cells #[.int .i64 t294, .slice none 0 0] 25 (0, 0)) (laws_FnPostBent_vb BK319) hb); replace BK320 := Aside0.mk (blk_below (g := gb320) (o := .cells #[.int .i64 100, .slice Ao12 t295.length co12] 25 (0, 0)) (laws_FnPostBent_vb BK320) hb); replace BK333 := Aside0.mk (blk_below (g := gb333) (o := .cells #[.int .i64 t294, .slice Ao89 y330.length co89] 25 (0, 0)) (laws_FnPostBent_vb BK333) hb); replace BK343 := Aside0.mk (blk_below (g := gb343) (o := .cells #[.int .i64 t294, .slice Ao112 y344.length co112] 25 (0, 0)) (laws_FnPostBent_vb BK343) hb); replace HB := Aside0.mk (below_step (laws_FnPostBent_auHB) hb); (try clear hb); (try clear hb2); (try clear hk); (try clear hi); have hcz125_0 : w124.cell? ⟨gb343, 0, none⟩ = some (.int .i64 t294) := (blk_cell BK343.out 0).trans rfl; have hcz125_1 : w124.cell? ⟨gb343, 1, none⟩ = some (.slice Ao112 y344.length co112) := (blk_cell BK343.out 1).trans rfl; have hfz125_0 := blk_frozen BK343.out 0; have hfz125_1 := blk_frozen BK343.out 1; have hcz126_0 : w124.cell? ⟨gb302, 0, none⟩ = some (.int .i64 t294) := (blk_cell BK302.out 0).trans rfl; have hcz126_1 : w124.cell? ⟨gb302, 1, none⟩ = some (.slice Ao12 t295.length co12) := (blk_cell BK302.out 1).trans rfl; have hfz126_0 := blk_frozen BK302.out 0; have hfz126_1 := blk_frozen BK302.out 1; have hcz127_0 : w124.cell? ⟨gb320, 0, none⟩ = some (.int .i64 100) := (blk_cell BK320.out 0).trans rfl; have hcz127_1 : w124.cell? ⟨gb320, 1, none⟩ = some (.slice Ao12 t295.length co12) := (blk_cell BK320.out 1).trans rfl; have hfz127_0 := blk_frozen BK320.out 0; have hfz127_1 := blk_frozen BK320.out 1) | (go_at_call 8; (with_reducible refine (impl_PostSame.calls kj5 t294 _ _ t295 100 _ _ t295 false _ ?side1 ?side2 ?side3 ?side4 A57.out).mono ?_); (case side1 => exact co_ (Kd.R_reads' HO_303001.out).2.2); (case side2 => exact (Kd.R_reads' HO_303001.out).2.1); (case side3 => exact co_ (Kd.R_reads' HO_303001.out).2.2); (case side4 => exact (Kd.R_reads' HO_303001.out).2.1); rintro e w128 ⟨rfl, hb⟩; replace HO_303001 := Aside0.mk (Kd.R_below (lo_ HO_303001) hb); replace HO_304001 := Aside0.mk (Kd.R_below (lo_ HO_304001) hb); replace HO329 := Aside0.mk (Kd.R_below (lo_ HO329) hb); replace HO332 := Aside0.mk (Kd.R_below (lo_ HO332) hb); replace HO346 := Aside0.mk (Kd.R_below (lo_ HO346) hb); replace BK302 := Aside0.mk (blk_below (g := gb302) (o := .cells #[.int .i64 t294, .slice Ao12 t295.length co12] 25 (0, 0)) (laws_FnPostBent_vb BK302) hb); replace BK303 := Aside0.mk (blk_below (g := gb303) (o := .cells #[.int .i64 t298, .slice Ao14 t299.length co14] 25 (0, 0)) (laws_FnPostBent_vb BK303) hb); replace BK307 := Aside0.mk (blk_below (g := gb307) (o := .cells #[.string t304, .int .i64 t305, .int .i64 t306] 29 (0, 0)) (laws_FnPostBent_vb BK307) hb); replace BK319 := Aside0.mk (blk_below (g := gb319) (o := .cells #[.int .i64 t294, .slice none 0 0] 25 (0, 0)) (laws_FnPostBent_vb BK319) hb); replace BK320 := Aside0.mk (blk_below (g := gb320) (o := .cells #[.int .i64 100, .slice Ao12 t295.length co12] 25 (0, 0)) (laws_FnPostBent_vb BK320) hb); replace BK333 := Aside0.mk (blk_below (g := gb333) (o := .cells #[.int .i64 t294, .slice Ao89 y330.length co89] 25 (0, 0)) (laws_FnPostBent_vb BK333) hb); replace BK343 := Aside0.mk (blk_below (g := gb343) (o := .cells #[.int .i64 t294, .slice Ao112 y344.length co112] 25 (0, 0)) (laws_FnPostBent_vb BK343) hb); replace HB := Aside0.mk (below_step (laws_FnPostBent_auHB) hb); (try clear hb); (try clear hb2); (try clear hk); (try clear hi); have hcz129_0 : w128.cell? ⟨gb302, 0, none⟩ = some (.int .i64 t294) := (blk_cell BK302.out 0).trans rfl; have hcz129_1 : w128.cell? ⟨gb302, 1, none⟩ = some (.slice Ao12 t295.length co12) := (blk_cell BK302.out 1).trans rfl; have hfz129_0 := blk_frozen BK302.out 0; have hfz129_1 := blk_frozen BK302.out 1; have hcz130_0 : w128.cell? ⟨gb333, 0, none⟩ = some (.int .i64 t294) := (blk_cell BK333.out 0).trans rfl; have hcz130_1 : w128.cell? ⟨gb333, 1, none⟩ = some (.slice Ao89 y330.length co89) := (blk_cell BK333.out 1).trans rfl; have hfz130_0 := blk_frozen BK333.out 0; have hfz130_1 := blk_frozen BK333.out 1) | (go_at_call 8; (with_reducible refine (impl_PostSame.calls kj5 t294 _ _ t295 t294 _ _ y330 t351 _ ?side1 ?side2 ?side3 ?side4 A59.out).mono ?_); (case side1 => exact co_ (Kd.R_reads' HO_303001.out).2.2); (case side2 => exact (Kd.R_reads' HO_303001.out).2.1); (case side3 => exact co_ (Kd.R_reads' HO332.out).2.2); (case side4 => exact (Kd.R_reads' HO332.out).2.1); rintro e w131 ⟨rfl, hb⟩; replace HO_303001 := Aside0.mk (Kd.R_below (lo_ HO_303001) hb); replace HO_304001 := Aside0.mk (Kd.R_below (lo_ HO_304001) hb); replace HO329 := Aside0.mk (Kd.R_below (lo_ HO329) hb); replace HO332 := Aside0.mk (Kd.R_below (lo_ HO332) hb); replace HO346 := Aside0.mk (Kd.R_below (lo_ HO346) hb); replace BK302 := Aside0.mk (blk_below (g := gb302) (o := .cells #[.int .i64 t294, .slice Ao12 t295.length co12] 25 (0, 0)) (laws_FnPostBent_vb BK302) hb); replace BK303 := Aside0.mk (blk_below (g := gb303) (o := .cells #[.int .i64 t298, .slice Ao14 t299.length co14] 25 (0, 0)) (laws_FnPostBent_vb BK303) hb); replace BK307 := Aside0.mk (blk_below (g := gb307) (o := .cells #[.string t304, .int .i64 t305, .int .i64 t306] 29 (0, 0)) (laws_FnPostBent_vb BK307) hb); replace BK319 := Aside0.mk (blk_below (g := gb319) (o := .cells #[.int .i64 t294, .slice none 0 0] 25 (0, 0)) (laws_FnPostBent_vb BK319) hb); replace BK320 := Aside0.mk (blk_below (g := gb320) (o := .cells #[.int .i64 100, .slice Ao12 t295.length co12] 25 (0, 0)) (laws_FnPostBent_vb BK320) hb); replace BK333 := Aside0.mk (blk_below (g := gb333) (o := .cells #[.int .i64 t294, .slice Ao89 y330.length co89] 25 (0, 0)) (laws_FnPostBent_vb BK333) hb); replace BK343 := Aside0.mk (blk_below (g := gb343) (o := .cells #[.int .i64 t294, .slice Ao112 y344.length co112] 25 (0, 0)) (laws_FnPostBent_vb BK343) hb); replace HB := Aside0.mk (below_step (laws_FnPostBent_auHB) hb); (try clear hb); (try clear hb2); (try clear hk); (try clear hi)))
  go_ret
  exact ⟨by first | rfl | (simp [errW_none, errW_some] <;> rfl) | (simp [*, errW_none, errW_some] <;> rfl), laws_FnPostBent_auHB⟩
 rw [if_neg c56] at H
 have c56b0 : decide ((y344.length : Int) ≤ 4) = false := decide_eq_false c56
 have c56b1 : decide (y344.length ≤ 4) = false := decide_eq_false (by omega)
 clear c56
 replace H := Option.bind_eq_some_iff.mp H
 obtain ⟨t352, A1320, H⟩ := H
 replace H : (if t352 = true then (none) else ((impl_PostSame.f kj5 t294 t295 100 t295).bind fun t353 => (if t353 = true then (none) else ((impl_PostSame.f kj5 t294 t295 t294 y330).bind fun t354 => (some (!t354)))))) = some r := H
 have A132 := Aside0.mk A1320
 clear A1320
 by_cases c133 : t352 = true
 ·
  subst c133
  have H1 : (none) = some r := by rw [if_pos rfl] at H; exact H
  clear H
  have H := H1
  clear H1
  exact absurd H (by simp)
 replace c133 := Bool.eq_false_iff.mpr c133
 subst c133
 have H1 : ((impl_PostSame.f kj5 t294 t295 100 t295).bind fun t353 => (if t353 = true then (none) else ((impl_PostSame.f kj5 t294 t295 t294 y330).bind fun t354 => (some (!t354))))) = some r := by rw [if_neg (show ¬ (false = true) by decide)] at H; exact H
 clear H
 have H := H1
 clear H1
 replace H := Option.bind_eq_some_iff.mp H
 obtain ⟨t353, A1340, H⟩ := H
 replace H : (if t353 = true then (none) else ((impl_PostSame.f kj5 t294 t295 t294 y330).bind fun t354 => (some (!t354)))) = some r := H
 have A134 := Aside0.mk A1340
 clear A1340
 by_cases c135 : t353 = true
 ·
  subst c135
  have H1 : (none) = some r := by rw [if_pos rfl] at H; exact H
  clear H
  have H := H1
  clear H1
  exact absurd H (by simp)
 replace c135 := Bool.eq_false_iff.mpr c135
 subst c135
 have H1 : ((impl_PostSame.f kj5 t294 t295 t294 y330).bind fun t354 => (some (!t354))) = some r := by rw [if_neg (show ¬ (false = true) by decide)] at H; exact H
 clear H
 have H := H1
 clear H1
 replace H := Option.bind_eq_some_iff.mp H
 obtain ⟨t354, A1360, H⟩ := H
 replace H : (some (!t354)) = some r := H
 have A136 := Aside0.mk A1360
 clear A1360
 obtain rfl := Option.some.inj H
 try go_wp2_with (first | ((with_reducible refine gate_builtin (b := .append) (xs := #[.tmp 89, .tmp 91]) rfl ?_); (try (refine gate_guard (by rfl) ?_; dsimp only)); at_builtin; refine Kd.R_append_rows k29 (w0 := w) w.heap.size rfl (.tmp 89) (.tmp 91) 23 29 (.agg #[(.string ⟨#[]⟩), (.int .i64 0), (.int .i64 0)]) 32 rfl Try.underlying23 info29 rfl (by decide) (by omega) (.slice Ao101 y340.length co101) y340 y340 _ _ _ (fun k_ => some k_ ≠ (.slice Ao12 t295.length co12 : Value).ownBlock ∧ some k_ ≠ (.slice Ao14 t299.length co14 : Value).ownBlock ∧ some k_ ≠ (v328 : Value).ownBlock ∧ some k_ ≠ (.slice Ao89 y330.length co89 : Value).ownBlock ∧ k_ ≠ gb307) (fun _ => False) rfl rfl ?aO ?aR (fun _ _ h => h) (fun _ h => h.elim) ?aF ?aB ?aS ?aL ?_; (case aR => refine (Kd.R_reads' (e := 29) (base := w.heap.size) (ok := fun k_ => (some k_ ≠ (v328 : Value).ownBlock ∧ (some k_ ≠ (.slice Ao89 y330.length co89 : Value).ownBlock ∧ (some k_ ≠ (.slice Ao12 t295.length co12 : Value).ownBlock ∧ (some k_ ≠ (.slice Ao14 t299.length co14 : Value).ownBlock ∧ k_ ≠ gb307))))) (n := y340.length) (c := co101) ?_).2.2; exact (by (with_reducible repeat (first | apply Kd.R_alloc | apply Kd.R_drewN | apply Kd.R_drew)); exact (Kd.R_mono (Kd.R_far (p := ⟨gb343, 1, none⟩) (Kd.R_far (p := ⟨gb343, 0, none⟩) (Kd.R_types HO342.out BK343.out (by decide)) (fun _ hk => hk.2) (.int .i64 t294)) (fun _ hk => hk.2) (.slice Ao101 y340.length co101)) (fun _ h_ => h_.1)))); (case aB => exact (laws_FnPostBent_auHB)); (case aF => exact (fun k_ hk => ⟨Kd.fresh' (Kd.R_lt (by (with_reducible repeat (first | apply Kd.R_alloc | apply Kd.R_drewN | apply Kd.R_drew)); exact (Kd.R_mono (Kd.R_far (p := ⟨gb343, 1, none⟩) (Kd.R_far (p := ⟨gb343, 0, none⟩) (Kd.R_types HO_303001.out BK343.out (by decide)) (fun _ hk => hk.2) (.int .i64 t294)) (fun _ hk => hk.2) (.slice Ao101 y340.length co101)) (fun _ h_ => h_.1)))) k_ hk, Kd.fresh' (Kd.R_lt (by (with_reducible repeat (first | apply Kd.R_alloc | apply Kd.R_drewN | apply Kd.R_drew)); exact (Kd.R_mono (Kd.R_far (p := ⟨gb343, 1, none⟩) (Kd.R_far (p := ⟨gb343, 0, none⟩) (Kd.R_types HO_304001.out BK343.out (by decide)) (fun _ hk => hk.2) (.int .i64 t294)) (fun _ hk => hk.2) (.slice Ao101 y340.length co101)) (fun _ h_ => h_.1)))) k_ hk, Kd.fresh' (Kd.R_lt (by (with_reducible repeat (first | apply Kd.R_alloc | apply Kd.R_drewN | apply Kd.R_drew)); exact (Kd.R_mono (Kd.R_far (p := ⟨gb343, 1, none⟩) (Kd.R_far (p := ⟨gb343, 0, none⟩) (Kd.R_types HO329.out BK343.out (by decide)) (fun _ hk => hk.2) (.int .i64 t294)) (fun _ hk => hk.2) (.slice Ao101 y340.length co101)) (fun _ h_ => h_.1)))) k_ hk, Kd.fresh' (Kd.R_lt (by (with_reducible repeat (first | apply Kd.R_alloc | apply Kd.R_drewN | apply Kd.R_drew)); exact (Kd.R_mono (Kd.R_far (p := ⟨gb343, 1, none⟩) (Kd.R_far (p := ⟨gb343, 0, none⟩) (Kd.R_types HO332.out BK343.out (by decide)) (fun _ hk => hk.2) (.int .i64 t294)) (fun _ hk => hk.2) (.slice Ao101 y340.length co101)) (fun _ h_ => h_.1)))) k_ hk, Kd.freshB (g := gb307) (o := .cells #[.string t304, .int .i64 t305, .int .i64 t306] 29 (0, 0)) (by (with_reducible repeat (first | refine blk_drewN ?_ _ | refine blk_drew ?_ | refine blk_alloc ?_ _)); refine blk_far ?_ NB307_343.out _; (with_reducible repeat (first | refine blk_drewN ?_ _ | refine blk_drew ?_ | refine blk_alloc ?_ _)); refine blk_far ?_ NB307_343.out _; (with_reducible repeat (first | refine blk_drewN ?_ _ | refine blk_drew ?_ | refine blk_alloc ?_ _)); exact BK307.out) k_ hk⟩)); (case aO => exact (by (with_reducible repeat (first | apply Kd.R_alloc | apply Kd.R_drewN | apply Kd.R_drew)); exact Kd.R_mono (Kd.R_far (p := ⟨gb343, 1, none⟩) (Kd.R_far (p := ⟨gb343, 0, none⟩) (Kd.R_types HO342.out BK343.out (by decide)) (fun _ hk => hk.2) (.int .i64 t294)) (fun _ hk => hk.2) (.slice Ao101 y340.length co101)) (fun _ hk => ⟨hk.1.2.2.1, ⟨hk.1.2.2.2.1, ⟨hk.1.1, ⟨hk.1.2.1, hk.1.2.2.2.2⟩⟩⟩⟩))); (case aS => exact (below_size (laws_FnPostBent_auHB))); (case aL => have := LMc49.out; omega); intro v345 w188 ho hb hg hat; rw [← Ny344.out] at ho; have n0_ := Aside0.mk (Kd.R_after (ok := (fun k_ => some k_ ≠ (.slice Ao14 t299.length co14 : Value).ownBlock ∧ some k_ ≠ (v328 : Value).ownBlock ∧ some k_ ≠ (.slice Ao89 y330.length co89 : Value).ownBlock ∧ k_ ≠ gb307)) (by (with_reducible repeat (first | apply Kd.R_alloc | apply Kd.R_drewN | apply Kd.R_drew)); exact Kd.R_mono (Kd.R_far (p := ⟨gb343, 1, none⟩) (Kd.R_far (p := ⟨gb343, 0, none⟩) (Kd.R_types HO_303001.out BK343.out (by decide)) (fun _ hk => hk.2) (.int .i64 t294)) (fun _ hk => hk.2) (.slice Ao101 y340.length co101)) (fun _ hk => ⟨⟨hk.1.2.2.2.1, ⟨hk.1.1, ⟨hk.1.2.1, hk.1.2.2.2.2⟩⟩⟩, hk.1.2.2.1⟩)) hg hat); have n1_ := Aside0.mk (Kd.R_after (ok := (fun k_ => some k_ ≠ (.slice Ao12 t295.length co12 : Value).ownBlock ∧ some k_ ≠ (v328 : Value).ownBlock ∧ some k_ ≠ (.slice Ao89 y330.length co89 : Value).ownBlock ∧ k_ ≠ gb307)) (by (with_reducible repeat (first | apply Kd.R_alloc | apply Kd.R_drewN | apply Kd.R_drew)); exact Kd.R_mono (Kd.R_far (p := ⟨gb343, 1, none⟩) (Kd.R_far (p := ⟨gb343, 0, none⟩) (Kd.R_types HO_304001.out BK343.out (by decide)) (fun _ hk => hk.2) (.int .i64 t294)) (fun _ hk => hk.2) (.slice Ao101 y340.length co101)) (fun _ hk => ⟨⟨hk.1.2.2.2.1, ⟨hk.1.1, ⟨hk.1.2.1, hk.1.2.2.2.2⟩⟩⟩, hk.1.2.2.1⟩)) hg hat); have n2_ := Aside0.mk (blk_grown (g := gb302) (o := .cells #[.int .i64 t294, .slice Ao12 t295.length co12] 25 (0, 0)) (by (with_reducible repeat (first | refine blk_drewN ?_ _ | refine blk_drew ?_ | refine blk_alloc ?_ _)); refine blk_far ?_ NB302_343.out _; (with_reducible repeat (first | refine blk_drewN ?_ _ | refine blk_drew ?_ | refine blk_alloc ?_ _)); refine blk_far ?_ NB302_343.out _; (with_reducible repeat (first | refine blk_drewN ?_ _ | refine blk_drew ?_ | refine blk_alloc ?_ _)); exact BK302.out) hg (Kd.R_ne HO342.out BK302.out (by decide))); have n3_ := Aside0.mk (blk_grown (g := gb303) (o := .cells #[.int .i64 t298, .slice Ao14 t299.length co14] 25 (0, 0)) (by (with_reducible repeat (first | refine blk_drewN ?_ _ | refine blk_drew ?_ | refine blk_alloc ?_ _)); refine blk_far ?_ NB303_343.out _; (with_reducible repeat (first | refine blk_drewN ?_ _ | refine blk_drew ?_ | refine blk_alloc ?_ _)); refine blk_far ?_ NB303_343.out _; (with_reducible repeat (first | refine blk_drewN ?_ _ | refine blk_drew ?_ | refine blk_alloc ?_ _)); exact BK303.out) hg (Kd.R_ne HO342.out BK303.out (by decide))); have n4_ := Aside0.mk (blk_grown (g := gb307) (o := .cells #[.string t304, .int .i64 t305, .int .i64 t306] 29 (0, 0)) (by (with_reducible repeat (first | refine blk_drewN ?_ _ | refine blk_drew ?_ | refine blk_alloc ?_ _)); refine blk_far ?_ NB307_343.out _; (with_reducible repeat (first | refine blk_drewN ?_ _ | refine blk_drew ?_ | refine blk_alloc ?_ _)); refine blk_far ?_ NB307_343.out _; (with_reducible repeat (first | refine blk_drewN ?_ _ | refine blk_drew ?_ | refine blk_alloc ?_ _)); exact BK307.out) hg (Kd.R_away HO342.out (fun _ hk => hk.2.2.2.2))); have n5_ := Aside0.mk (blk_grown (g := gb319) (o := .cells #[.int .i64 t294, .slice none 0 0] 25 (0, 0)) (by (with_reducible repeat (first | refine blk_drewN ?_ _ | refine blk_drew ?_ | refine blk_alloc ?_ _)); refine blk_far ?_ NB319_343.out _; (with_reducible repeat (first | refine blk_drewN ?_ _ | refine blk_drew ?_ | refine blk_alloc ?_ _)); refine blk_far ?_ NB319_343.out _; (with_reducible repeat (first | refine blk_drewN ?_ _ | refine blk_drew ?_ | refine blk_alloc ?_ _)); exact BK319.out) hg (Kd.R_ne HO342.out BK319.out (by decide))); have n6_ := Aside0.mk (blk_grown (g := gb320) (o := .cells #[.int .i64 100, .slice Ao12 t295.length co12] 25 (0, 0)) (by (with_reducible repeat (first | refine blk_drewN ?_ _ | refine blk_drew ?_ | refine blk_alloc ?_ _)); refine blk_far ?_ NB320_343.out _; (with_reducible repeat (first | refine blk_drewN ?_ _ | refine blk_drew ?_ | refine blk_alloc ?_ _)); refine blk_far ?_ NB320_343.out _; (with_reducible repeat (first | refine blk_drewN ?_ _ | refine blk_drew ?_ | refine blk_alloc ?_ _)); exact BK320.out) hg (Kd.R_ne HO342.out BK320.out (by decide))); have n7_ := Aside0.mk (Kd.R_after (ok := (fun k_ => some k_ ≠ (.slice Ao12 t295.length co12 : Value).ownBlock ∧ some k_ ≠ (.slice Ao14 t299.length co14 : Value).ownBlock ∧ some k_ ≠ (.slice Ao89 y330.length co89 : Value).ownBlock ∧ k_ ≠ gb307)) (by (with_reducible repeat (first | apply Kd.R_alloc | apply Kd.R_drewN | apply Kd.R_drew)); exact Kd.R_mono (Kd.R_far (p := ⟨gb343, 1, none⟩) (Kd.R_far (p := ⟨gb343, 0, none⟩) (Kd.R_types HO329.out BK343.out (by decide)) (fun _ hk => hk.2) (.int .i64 t294)) (fun _ hk => hk.2) (.slice Ao101 y340.length co101)) (fun _ hk => ⟨⟨hk.1.2.2.1, ⟨hk.1.2.2.2.1, ⟨hk.1.1, hk.1.2.2.2.2⟩⟩⟩, hk.1.2.1⟩)) hg hat); have n8_ := Aside0.mk (Kd.R_after (ok := (fun k_ => some k_ ≠ (.slice Ao12 t295.length co12 : Value).ownBlock ∧ some k_ ≠ (.slice Ao14 t299.length co14 : Value).ownBlock ∧ some k_ ≠ (v328 : Value).ownBlock ∧ k_ ≠ gb307)) (by (with_reducible repeat (first | apply Kd.R_alloc | apply Kd.R_drewN | apply Kd.R_drew)); exact Kd.R_mono (Kd.R_far (p := ⟨gb343, 1, none⟩) (Kd.R_far (p := ⟨gb343, 0, none⟩) (Kd.R_types HO332.out BK343.out (by decide)) (fun _ hk => hk.2) (.int .i64 t294)) (fun _ hk => hk.2) (.slice Ao101 y340.length co101)) (fun _ hk => ⟨⟨hk.1.2.2.1, ⟨hk.1.2.2.2.1, ⟨hk.1.1, hk.1.2.2.2.2⟩⟩⟩, hk.1.2.1⟩)) hg hat); have n9_ := Aside0.mk (blk_grown (g := gb333) (o := .cells #[.int .i64 t294, .slice Ao89 y330.length co89] 25 (0, 0)) (by (with_reducible repeat (first | refine blk_drewN ?_ _ | refine blk_drew ?_ | refine blk_alloc ?_ _)); refine blk_far ?_ NB333_343.out _; (with_reducible repeat (first | refine blk_drewN ?_ _ | refine blk_drew ?_ | refine blk_alloc ?_ _)); refine blk_far ?_ NB333_343.out _; (with_reducible repeat (first | refine blk_drewN ?_ _ | refine blk_drew ?_ | refine blk_alloc ?_ _)); exact BK333.out) hg (Kd.R_ne HO342.out BK333.out (by decide))); have n10_ := Aside0.mk (blk_grown (g := gb343) (o := .cells #[.int .i64 t294, .slice Ao101 y340.length co101] 25 (0, 0)) (by (with_reducible repeat (first | refine blk_drewN ?_ _ | refine blk_drew ?_ | refine blk_alloc ?_ _)); refine blk_put (cs := #[.int .i64 t294, .slice none 0 0]) ?_ 1 _ rfl; (with_reducible repeat (first | refine blk_drewN ?_ _ | refine blk_drew ?_ | refine blk_alloc ?_ _)); refine blk_put (cs := #[.int .i64 0, .slice none 0 0]) ?_ 0 _ rfl; (with_reducible repeat (first | refine blk_drewN ?_ _ | refine blk_drew ?_ | refine blk_alloc ?_ _)); exact BK343.out) hg (Kd.R_ne HO342.out BK343.out (by decide))); have n11_ := Aside0.mk (hb); have n12_ := Aside0.mk (ho); clear HO_303001; clear HO_304001; clear BK302; clear BK303; clear BK307; clear BK319; clear BK320; clear HO329; clear HO332; clear BK333; clear BK343; clear HB; clear HO342; have HO_303001 := n0_; have HO_304001 := n1_; have BK302 := n2_; have BK303 := n3_; have BK307 := n4_; have BK319 := n5_; have BK320 := n6_; have HO329 := n7_; have HO332 := n8_; have BK333 := n9_; have BK343 := n10_; have HB := n11_; have HO346 := n12_; clear n0_ n1_ n2_ n3_ n4_ n5_ n6_ n7_ n8_ n9_ n10_ n11_ n12_; clear ho hb hg hat; obtain ⟨Ao189, co189, eo189⟩ := Kd.R_slice HO346.out; subst eo189; have hcz190_0 : w188.cell? ⟨gb343, 0, none⟩ = some (.int .i64 t294) := (blk_cell BK343.out 0).trans rfl; have hcz190_1 : w188.cell? ⟨gb343, 1, none⟩ = some (.slice Ao101 y340.length co101) := (blk_cell BK343.out 1).trans rfl; have hfz190_0 := blk_frozen BK343.out 0; have hfz190_1 := blk_frozen BK343.out 1; have hnb191 := NB319_333.out; have hnc191 := NB333_319.out; have hcz192_0 : w188.cell? ⟨gb319, 0, none⟩ = some (.int .i64 t294) := (blk_cell BK319.out 0).trans rfl; have hcz192_1 : w188.cell? ⟨gb319, 1, none⟩ = some (.slice none 0 0) := (blk_cell BK319.out 1).trans rfl; have hfz192_0 := blk_frozen BK319.out 0; have hfz192_1 := blk_frozen BK319.out 1) | ((with_reducible refine gate_callee (f := 14) rfl ?_); refine goesL_ (some 95) rfl rfl Try.func14 (by kernel_rfl) rfl #[.agg #[.int .i64 t294, .slice none 0 0]] rfl (by (try simp only [List.map_toArray, List.map_cons, List.map_nil]); first | done | rfl | (simp only [List.length_drop, List.length_take]; rfl)) ?_; (refine (impl_PostOk.calls kj5 t294 _ _ ([] : List (S29)) false _ ?side1 ?side2 A50.out).mono ?_); (case side1 => exact Kd.C_nil _ _); (case side2 => exact Nat.le_refl _); rintro e w193 ⟨rfl, hb⟩; refine ⟨_, rfl, ?_⟩; replace HO_303001 := Aside0.mk (Kd.R_below (by (with_reducible repeat (first | apply Kd.R_alloc | apply Kd.R_drewN | apply Kd.R_drew)); exact (Kd.R_mono (Kd.R_far (p := ⟨gb343, 1, none⟩) (Kd.R_types HO_303001.out BK343.out (by decide)) (fun _ hk => hk.2) (.slice Ao189 y344.length co189)) (fun _ h_ => h_.1))) hb); replace HO_304001 := Aside0.mk (Kd.R_below (by (with_reducible repeat (first | apply Kd.R_alloc | apply Kd.R_drewN | apply Kd.R_drew)); exact (Kd.R_mono (Kd.R_far (p := ⟨gb343, 1, none⟩) (Kd.R_types HO_304001.out BK343.out (by decide)) (fun _ hk => hk.2) (.slice Ao189 y344.length co189)) (fun _ h_ => h_.1))) hb); replace HO329 := Aside0.mk (Kd.R_below (by (with_reducible repeat (first | apply Kd.R_alloc | apply Kd.R_drewN | apply Kd.R_drew)); exact (Kd.R_mono (Kd.R_far (p := ⟨gb343, 1, none⟩) (Kd.R_types HO329.out BK343.out (by decide)) (fun _ hk => hk.2) (.slice Ao189 y344.length co189)) (fun _ h_ => h_.1))) hb); replace HO332 := Aside0.mk (Kd.R_below (by (with_reducible repeat (first | apply Kd.R_alloc | apply Kd.R_drewN | apply Kd.R_drew)); exact (Kd.R_mono (Kd.R_far (p := ⟨gb343, 1, none⟩) (Kd.R_types HO332.out BK343.out (by decide)) (fun _ hk => hk.2) (.slice Ao189 y344.length co189)) (fun _ h_ => h_.1))) hb); replace HO346 := Aside0.mk (Kd.R_below (by (with_reducible repeat (first | apply Kd.R_alloc | apply Kd.R_drewN | apply Kd.R_drew)); exact (Kd.R_mono (Kd.R_far (p := ⟨gb343, 1, none⟩) (Kd.R_types HO346.out BK343.out (by decide)) (fun _ hk => hk.2) (.slice Ao189 y344.length co189)) (fun _ h_ => h_.1))) hb); replace BK302 := Aside0.mk (blk_below (g := gb302) (o := .cells #[.int .i64 t294, .slice Ao12 t295.length co12] 25 (0, 0)) (by (with_reducible repeat (first | refine blk_drewN ?_ _ | refine blk_drew ?_ | refine blk_alloc ?_ _)); refine blk_far ?_ NB302_343.out _; (with_reducible repeat (first | refine blk_drewN ?_ _ | refine blk_drew ?_ | refine blk_alloc ?_ _)); exact BK302.out) hb); replace BK303 := Aside0.mk (blk_below (g := gb303) (o := .cells #[.int .i64 t298, .slice Ao14 t299.length co14] 25 (0, 0)) (by (with_reducible repeat (first | refine blk_drewN ?_ _ | refine blk_drew ?_ | refine blk_alloc ?_ _)); refine blk_far ?_ NB303_343.out _; (with_reducible repeat (first | refine blk_drewN ?_ _ | refine blk_drew ?_ | refine blk_alloc ?_ _)); exact BK303.out) hb); replace BK307 := Aside0.mk (blk_below (g := gb307) (o := .cells #[.string t304, .int .i64 t305, .int .i64 t306] 29 (0, 0)) (by (with_reducible repeat (first | refine blk_drewN ?_ _ | refine blk_drew ?_ | refine blk_alloc ?_ _)); refine blk_far ?_ NB307_343.out _; (with_reducible repeat (first | refine blk_drewN ?_ _ | refine blk_drew ?_ | refine blk_alloc ?_ _)); exact BK307.out) hb); replace BK319 := Aside0.mk (blk_below (g := gb319) (o := .cells #[.int .i64 t294, .slice none 0 0] 25 (0, 0)) (by (with_reducible repeat (first | refine blk_drewN ?_ _ | refine blk_drew ?_ | refine blk_alloc ?_ _)); refine blk_far ?_ NB319_343.out _; (with_reducible repeat (first | refine blk_drewN ?_ _ | refine blk_drew ?_ | refine blk_alloc ?_ _)); exact BK319.out) hb); replace BK320 := Aside0.mk (blk_below (g := gb320) (o := .cells #[.int .i64 100, .slice Ao12 t295.length co12] 25 (0, 0)) (by (with_reducible repeat (first | refine blk_drewN ?_ _ | refine blk_drew ?_ | refine blk_alloc ?_ _)); refine blk_far ?_ NB320_343.out _; (with_reducible repeat (first | refine blk_drewN ?_ _ | refine blk_drew ?_ | refine blk_alloc ?_ _)); exact BK320.out) hb); replace BK333 := Aside0.mk (blk_below (g := gb333) (o := .cells #[.int .i64 t294, .slice Ao89 y330.length co89] 25 (0, 0)) (by (with_reducible repeat (first | refine blk_drewN ?_ _ | refine blk_drew ?_ | refine blk_alloc ?_ _)); refine blk_far ?_ NB333_343.out _; (with_reducible repeat (first | refine blk_drewN ?_ _ | refine blk_drew ?_ | refine blk_alloc ?_ _)); exact BK333.out) hb); replace BK343 := Aside0.mk (blk_below (g := gb343) (o := .cells #[.int .i64 t294, .slice Ao189 y344.length co189] 25 (0, 0)) (by (with_reducible repeat (first | refine blk_drewN ?_ _ | refine blk_drew ?_ | refine blk_alloc ?_ _)); refine blk_put (cs := #[.int .i64 t294, .slice Ao101 y340.length co101]) ?_ 1 _ rfl; (with_reducible repeat (first | refine blk_drewN ?_ _ | refine blk_drew ?_ | refine blk_alloc ?_ _)); exact BK343.out) hb); replace HB := Aside0.mk (below_step (laws_FnPostBent_auHB) hb); (try clear hb); (try clear hb2); (try clear hk); (try clear hi); have hnb194 := NB320_333.out; have hnc194 := NB333_320.out; have hcz195_0 : w193.cell? ⟨gb320, 0, none⟩ = some (.int .i64 100) := (blk_cell BK320.out 0).trans rfl; have hcz195_1 : w193.cell? ⟨gb320, 1, none⟩ = some (.slice Ao12 t295.length co12) := (blk_cell BK320.out 1).trans rfl; have hfz195_0 := blk_frozen BK320.out 0; have hfz195_1 := blk_frozen BK320.out 1) | (go_at_call 14; (with_reducible refine (impl_PostOk.calls kj5 100 _ _ t295 false _ ?side1 ?side2 A52.out).mono ?_); (case side1 => exact co_ (Kd.R_reads' HO_303001.out).2.2); (case side2 => exact (Kd.R_reads' HO_303001.out).2.1); rintro e w196 ⟨rfl, hb⟩; replace HO_303001 := Aside0.mk (Kd.R_below (lo_ HO_303001) hb); replace HO_304001 := Aside0.mk (Kd.R_below (lo_ HO_304001) hb); replace HO329 := Aside0.mk (Kd.R_below (lo_ HO329) hb); replace HO332 := Aside0.mk (Kd.R_below (lo_ HO332) hb); replace HO346 := Aside0.mk (Kd.R_below (lo_ HO346) hb); replace BK302 := Aside0.mk (blk_below (g := gb302) (o := .cells #[.int .i64 t294, .slice Ao12 t295.length co12] 25 (0, 0)) (laws_FnPostBent_vb BK302) hb); replace BK303 := Aside0.mk (blk_below (g := gb303) (o := .cells #[.int .i64 t298, .slice Ao14 t299.length co14] 25 (0, 0)) (laws_FnPostBent_vb BK303) hb); replace BK307 := Aside0.mk (blk_below (g := gb307) (o := .cells #[.string t304, .int .i64 t305, .int .i64 t306] 29 (0, 0)) (laws_FnPostBent_vb BK307) hb); replace BK319 := Aside0.mk (blk_below (g := gb319) (o := .cells #[.int .i64 t294, .slice none 0 0] 25 (0, 0)) (laws_FnPostBent_vb BK319) hb); replace BK320 := Aside0.mk (blk_below (g := gb320) (o := .cells #[.int .i64 100, .slice Ao12 t295.length co12] 25 (0, 0)) (laws_FnPostBent_vb BK320) hb); replace BK333 := Aside0.mk (blk_below (g := gb333) (o := .cells #[.int .i64 t294, .slice Ao89 y330.length co89] 25 (0, 0)) (laws_FnPostBent_vb BK333) hb); replace BK343 := Aside0.mk (blk_below (g := gb343) (o := .cells #[.int .i64 t294, .slice Ao189 y344.length co189] 25 (0, 0)) (laws_FnPostBent_vb BK343) hb); replace HB := Aside0.mk (below_step (laws_FnPostBent_auHB) hb); (try clear hb); (try clear hb2); (try clear hk); (try clear hi); have hnb197 := NB333_302.out; have hnc197 := NB302_333.out; have hnb198 := NB333_303.out; have hnc198 := NB303_333.out; have hnb199 := NB333_307.out; have hnc199 := NB307_333.out; have hcz200_0 : w196.cell? ⟨gb333, 0, none⟩ = some (.int .i64 t294) := (blk_cell BK333.out 0).trans rfl; have hcz200_1 : w196.cell? ⟨gb333, 1, none⟩ = some (.slice Ao89 y330.length co89) := (blk_cell BK333.out 1).trans rfl; have hfz200_0 := blk_frozen BK333.out 0; have hfz200_1 := blk_frozen BK333.out 1) | (go_at_call 14; (with_reducible refine (impl_PostOk.calls kj5 t294 _ _ y330 false _ ?side1 ?side2 A54.out).mono ?_); (case side1 => exact co_ (Kd.R_reads' HO332.out).2.2); (case side2 => exact (Kd.R_reads' HO332.out).2.1); rintro e w201 ⟨rfl, hb⟩; replace HO_303001 := Aside0.mk (Kd.R_below (lo_ HO_303001) hb); replace HO_304001 := Aside0.mk (Kd.R_below (lo_ HO_304001) hb); replace HO329 := Aside0.mk (Kd.R_below (lo_ HO329) hb); replace HO332 := Aside0.mk (Kd.R_below (lo_ HO332) hb); replace HO346 := Aside0.mk (Kd.R_below (lo_ HO346) hb); replace BK302 := Aside0.mk (blk_below (g := gb302) (o := .cells #[.int .i64 t294, .slice Ao12 t295.length co12] 25 (0, 0)) (laws_FnPostBent_vb BK302) hb); replace BK303 := Aside0.mk (blk_below (g := gb303) (o := .cells #[.int .i64 t298, .slice Ao14 t299.length co14] 25 (0, 0)) (laws_FnPostBent_vb BK303) hb); replace BK307 := Aside0.mk (blk_below (g := gb307) (o := .cells #[.string t304, .int .i64 t305, .int .i64 t306] 29 (0, 0)) (laws_FnPostBent_vb BK307) hb); replace BK319 := Aside0.mk (blk_below (g := gb319) (o := .cells #[.int .i64 t294, .slice none 0 0] 25 (0, 0)) (laws_FnPostBent_vb BK319) hb); replace BK320 := Aside0.mk (blk_below (g := gb320) (o := .cells #[.int .i64 100, .slice Ao12 t295.length co12] 25 (0, 0)) (laws_FnPostBent_vb BK320) hb); replace BK333 := Aside0.mk (blk_below (g := gb333) (o := .cells #[.int .i64 t294, .slice Ao89 y330.length co89] 25 (0, 0)) (laws_FnPostBent_vb BK333) hb); replace BK343 := Aside0.mk (blk_below (g := gb343) (o := .cells #[.int .i64 t294, .slice Ao189 y344.length co189] 25 (0, 0)) (laws_FnPostBent_vb BK343) hb); replace HB := Aside0.mk (below_step (laws_FnPostBent_auHB) hb); (try clear hb); (try clear hb2); (try clear hk); (try clear hi); have hcz202_0 : w201.cell? ⟨gb343, 0, none⟩ = some (.int .i64 t294) := (blk_cell BK343.out 0).trans rfl; have hcz202_1 : w201.cell? ⟨gb343, 1, none⟩ = some (.slice Ao189 y344.length co189) := (blk_cell BK343.out 1).trans rfl; have hfz202_0 := blk_frozen BK343.out 0; have hfz202_1 := blk_frozen BK343.out 1) | (go_at_call 14; (with_reducible refine (impl_PostOk.calls kj5 t294 _ _ y344 false _ ?side1 ?side2 A132.out).mono ?_); (case side1 => exact co_ (Kd.R_reads' HO346.out).2.2); (case side2 => exact (Kd.R_reads' HO346.out).2.1); rintro e w203 ⟨rfl, hb⟩; replace HO_303001 := Aside0.mk (Kd.R_below (lo_ HO_303001) hb); replace HO_304001 := Aside0.mk (Kd.R_below (lo_ HO_304001) hb); replace HO329 := Aside0.mk (Kd.R_below (lo_ HO329) hb); replace HO332 := Aside0.mk (Kd.R_below (lo_ HO332) hb); replace HO346 := Aside0.mk (Kd.R_below (lo_ HO346) hb); replace BK302 := Aside0.mk (blk_below (g := gb302) (o := .cells #[.int .i64 t294, .slice Ao12 t295.length co12] 25 (0, 0)) (laws_FnPostBent_vb BK302) hb); replace BK303 := Aside0.mk (blk_below (g := gb303) (o := .cells #[.int .i64 t298, .slice Ao14 t299.length co14] 25 (0, 0)) (laws_FnPostBent_vb BK303) hb); replace BK307 := Aside0.mk (blk_below (g := gb307) (o := .cells #[.string t304, .int .i64 t305, .int .i64 t306] 29 (0, 0)) (laws_FnPostBent_vb BK307) hb); replace BK319 := Aside0.mk (blk_below (g := gb319) (o := .cells #[.int .i64 t294, .slice none 0 0] 25 (0, 0)) (laws_FnPostBent_vb BK319) hb); replace BK320 := Aside0.mk (blk_below (g := gb320) (o := .cells #[.int .i64 100, .slice Ao12 t295.length co12] 25 (0, 0)) (laws_FnPostBent_vb BK320) hb); replace BK333 := Aside0.mk (blk_below (g := gb333) (o := .cells #[.int .i64 t294, .slice Ao89 y330.length co89] 25 (0, 0)) (laws_FnPostBent_vb BK333) hb); replace BK343 := Aside0.mk (blk_below (g := gb343) (o := .cells #[.int .i64 t294, .slice Ao189 y344.length co189] 25 (0, 0)) (laws_FnPostBent_vb BK343) hb); replace HB := Aside0.mk (below_step (laws_FnPostBent_auHB) hb); (try clear hb); (try clear hb2); (try clear hk); (try clear hi); have hcz204_0 : w203.cell? ⟨gb302, 0, none⟩ = some (.int .i64 t294) := (blk_cell BK302.out 0).trans rfl; have hcz204_1 : w203.cell? ⟨gb302, 1, none⟩ = some (.slice Ao12 t295.length co12) := (blk_cell BK302.out 1).trans rfl; have hfz204_0 := blk_frozen BK302.out 0; have hfz204_1 := blk_frozen BK302.out 1; have hcz205_0 : w203.cell? ⟨gb320, 0, none⟩ = some (.int .i64 100) := (blk_cell BK320.out 0).trans rfl; have hcz205_1 : w203.cell? ⟨gb320, 1, none⟩ = some (.slice Ao12 t295.length co12) := (blk_cell BK320.out 1).trans rfl; have hfz205_0 := blk_frozen BK320.out 0; have hfz205_1 := blk_frozen BK320.out 1) | (go_at_call 8; (with_reducible refine (impl_PostSame.calls kj5 t294 _ _ t295 100 _ _ t295 false _ ?side1 ?side2 ?side3 ?side4 A134.out).mono ?_); (case side1 => exact co_ (Kd.R_reads' HO_303001.out).2.2); (case side2 => exact (Kd.R_reads' HO_303001.out).2.1); (case side3 => exact co_ (Kd.R_reads' HO_303001.out).2.2); (case side4 => exact (Kd.R_reads' HO_303001.out).2.1); rintro e w206 ⟨rfl, hb⟩; replace HO_303001 := Aside0.mk (Kd.R_below (lo_ HO_303001) hb); replace HO_304001 := Aside0.mk (Kd.R_below (lo_ HO_304001) hb); replace HO329 := Aside0.mk (Kd.R_below (lo_ HO329) hb); replace HO332 := Aside0.mk (Kd.R_below (lo_ HO332) hb); replace HO346 := Aside0.mk (Kd.R_below (lo_ HO346) hb); replace BK302 := Aside0.mk (blk_below (g := gb302) (o := .cells #[.int .i64 t294, .slice Ao12 t295.length co12] 25 (0, 0)) (laws_FnPostBent_vb BK302) hb); replace BK303 := Aside0.mk (blk_below (g := gb303) (o := .cells #[.int .i64 t298, .slice Ao14 t299.length co14] 25 (0, 0)) (laws_FnPostBent_vb BK303) hb); replace BK307 := Aside0.mk (blk_below (g := gb307) (o := .cells #[.string t304, .int .i64 t305, .int .i64 t306] 29 (0, 0)) (laws_FnPostBent_vb BK307) hb); replace BK319 := Aside0.mk (blk_below (g := gb319) (o := .cells #[.int .i64 t294, .slice none 0 0] 25 (0, 0)) (laws_FnPostBent_vb BK319) hb); replace BK320 := Aside0.mk (blk_below (g := gb320) (o := .cells #[.int .i64 100, .slice Ao12 t295.length co12] 25 (0, 0)) (laws_FnPostBent_vb BK320) hb); replace BK333 := Aside0.mk (blk_below (g := gb333) (o := .cells #[.int .i64 t294, .slice Ao89 y330.length co89] 25 (0, 0)) (laws_FnPostBent_vb BK333) hb); replace BK343 := Aside0.mk (blk_below (g := gb343) (o := .cells #[.int .i64 t294, .slice Ao189 y344.length co189] 25 (0, 0)) (laws_FnPostBent_vb BK343) hb); replace HB := Aside0.mk (below_step (laws_FnPostBent_auHB) hb); (try clear hb); (try clear hb2); (try clear hk); (try clear hi); have hcz207_0 : w206.cell? ⟨gb302, 0, none⟩ = some (.int .i64 t294) := (blk_cell BK302.out 0).trans rfl; have hcz207_1 : w206.cell? ⟨gb302, 1, none⟩ = some (.slice Ao12 t295.length co12) := (blk_cell BK302.out 1).trans rfl; have hfz207_0 := blk_frozen BK302.out 0; have hfz207_1 := blk_frozen BK302.out 1; have hcz208_0 : w206.cell? ⟨gb333, 0, none⟩ = some (.int .i64 t294) := (blk_cell BK333.out 0).trans rfl; have hcz208_1 : w206.cell? ⟨gb333, 1, none⟩ = some (.slice Ao89 y330.length co89) := (blk_cell BK333.out 1).trans rfl; have hfz208_0 := blk_frozen BK333.out 0; have hfz208_1 := blk_frozen BK333.out 1) | (go_at_call 8; (with_reducible refine (impl_PostSame.calls kj5 t294 _ _ t295 t294 _ _ y330 t354 _ ?side1 ?side2 ?side3 ?side4 A136.out).mono ?_); (case side1 => exact co_ (Kd.R_reads' HO_303001.out).2.2); (case side2 => exact (Kd.R_reads' HO_303001.out).2.1); (case side3 => exact co_ (Kd.R_reads' HO332.out).2.2); (case side4 => exact (Kd.R_reads' HO332.out).2.1); rintro e w209 ⟨rfl, hb⟩; replace HO_303001 := Aside0.mk (Kd.R_below (lo_ HO_303001) hb); replace HO_304001 := Aside0.mk (Kd.R_below (lo_ HO_304001) hb); replace HO329 := Aside0.mk (Kd.R_below (lo_ HO329) hb); replace HO332 := Aside0.mk (Kd.R_below (lo_ HO332) hb); replace HO346 := Aside0.mk (Kd.R_below (lo_ HO346) hb); replace BK302 := Aside0.mk (blk_below (g := gb302) (o := .cells #[.int .i64 t294, .slice Ao12 t295.length co12] 25 (0, 0)) (laws_FnPostBent_vb BK302) hb); replace BK303 := Aside0.mk (blk_below (g := gb303) (o := .cells #[.int .i64 t298, .slice Ao14 t299.length co14] 25 (0, 0)) (laws_FnPostBent_vb BK303) hb); replace BK307 := Aside0.mk (blk_below (g := gb307) (o := .cells #[.string t304, .int .i64 t305, .int .i64 t306] 29 (0, 0)) (laws_FnPostBent_vb BK307) hb); replace BK319 := Aside0.mk (blk_below (g := gb319) (o := .cells #[.int .i64 t294, .slice none 0 0] 25 (0, 0)) (laws_FnPostBent_vb BK319) hb); replace BK320 := Aside0.mk (blk_below (g := gb320) (o := .cells #[.int .i64 100, .slice Ao12 t295.length co12] 25 (0, 0)) (laws_FnPostBent_vb BK320) hb); replace BK333 := Aside0.mk (blk_below (g := gb333) (o := .cells #[.int .i64 t294, .slice Ao89 y330.length co89] 25 (0, 0)) (laws_FnPostBent_vb BK333) hb); replace BK343 := Aside0.mk (blk_below (g := gb343) (o := .cells #[.int .i64 t294, .slice Ao189 y344.length co189] 25 (0, 0)) (laws_FnPostBent_vb BK343) hb); replace HB := Aside0.mk (below_step (laws_FnPostBent_auHB) hb); (try clear hb); (try clear hb2); (try clear hk); (try clear hi)))
 go_ret
 exact ⟨by first | rfl | (simp [errW_none, errW_some] <;> rfl) | (simp [*, errW_none, errW_some] <;> rfl), laws_FnPostBent_auHB⟩

end Go.Proofs.Ytemnggadcgmmkaa.QFnPostBent

/- What the law FnSquashTwice reaches, function by function: what each computes, and that the machine's call comes to it. Laid by a program. -/
import Derived.Test.YtcfebbhiehaocaaQFnSquashTwicex0
import Derived.Test.YtcfebbhiehaocaaQFnSquashTwicex8
import Derived.Test.YtcfebbhiehaocaaQFnSquashTwicex9
namespace Go.Proofs.Ytcfebbhiehaocaa.QFnSquashTwice
open Go.RowKit Go.Proofs.YtcfebbhiehaocaaW.PrintWords Go.Proofs.YtcfebbhiehaocaaW.PrintLast Go.Proofs.YtcfebbhiehaocaaW.PrintMore
attribute [local go_sem] max2_int min2_int max_two min_two max_three min_three max_four min_four   -- for this text's walks alone
set_option linter.unusedVariables false
set_option linter.unusedSimpArgs false

/-! ### impl_squashKey: function 38 -/
/-! #### slices.Grow at nil, slices.Concat -/
section
open Go.Shelf Go.Lib
def grRen : Go.Shelf.Ren := ⟨fun | 4 => 82 | n => n, fun | 0 => 0 | 3 => 3 | 4 => 4 | 9 => 9 | 20 => 20 | 22 => 25 | 25 => 48 | n => n, fun n => n⟩
theorem grLays : Go.Proofs.Lays8.n4 Try.prog grRen := {
  mixed := by kernel_rfl
  f4 := ⟨Try.f82.name, by kernel_rfl, Try.func82.trans (congrArg some (by kernel_rfl))⟩
  t0 := Try.underlying0
  a0 := Try.isAgg0
  z0 := Try.sizeOf0
  v0 := Try.zeroValue0
  t3 := Try.underlying3
  a3 := Try.isAgg3
  z3 := Try.sizeOf3
  v3 := Try.zeroValue3
  t4 := Try.underlying4
  a4 := Try.isAgg4
  z4 := Try.sizeOf4
  v4 := Try.zeroValue4
  t9 := Try.underlying9
  a9 := Try.isAgg9
  z9 := Try.sizeOf9
  v9 := Try.zeroValue9
  t20 := Try.underlying20
  a20 := Try.isAgg20
  z20 := Try.sizeOf20
  v20 := Try.zeroValue20
  t22 := Try.underlying25
  a22 := Try.isAgg25
  z22 := Try.sizeOf25
  v22 := Try.zeroValue25 }
theorem Grow_nil (n : Nat) (w : World) (hn : n ≤ 1099511627776) :
    Calls Try.prog 82 #[.slice none 0 0, .int .i64 n] w fun e w' => ∃ v, e = .returned v ∧ Kd.R k48 48 w' w.heap.size (fun _ => True) v ([] : List S48) ∧ Below w.heap.size w w' := by
  by_cases h0 : n = 0
  · subst h0
    refine (Any8.slices_Grow_room grLays none 0 0 0 w (Nat.le_refl _) (by omega) (by omega) (Nat.le_refl _)).mono ?_
    rintro e w' ⟨rfl, rfl⟩
    exact ⟨_, rfl, Kd.R_nil _ _ _ _ _, Below.refl _ _⟩
  · obtain ⟨i0, hi, hii⟩ := Option.map_eq_some_iff.1 info48
    injection hii with e1 e2
    injection e2 with e2 e3
    refine (Any8.slices_Grow_grow grLays i0 _ hi e1 (by rw [e2]; omega) none 0 0 n [] w (Nat.le_refl _) (by omega) (by rw [e3]; omega) (by omega) (by simp) (fun _ => rfl) (fun a h => by cases h)).mono ?_
    rintro e w' ⟨rfl, rfl⟩
    have hge := grownCap_ge w (0 + n) 0 48
    have hle := grownCap_le_maxLen w (0 + n) 0 48 (by unfold maxLen; omega)
    obtain ⟨G, hG⟩ : ∃ G, grownCap w (0 + n) 0 (grRen.t 25) = G := ⟨_, rfl⟩
    have hG2 : grownCap w (0 + n) 0 48 = G := hG
    rw [hG2] at hge hle
    rw [hG]
    refine ⟨_, rfl, ⟨fun _ _ => trivial, [], ⟨by simp, .inr ⟨w.heap.size, _, _, rfl, Nat.le_refl _, heap_alloc_new w.drew _, Nat.zero_le _, hle, ?_, ?_⟩⟩, ⟨by simp, fun j p e => by simp at e⟩⟩, below_alloc (below_drew (Below.refl _ _)) _⟩
    · simp [Builtin.zeroCells, Value.cells, k48, Kd.iso, Kd.pair, Kd.string, Kd.int, Kd.scalar]
      omega
    · simp
end
section
/-- An element of a row of rows. -/
theorem elem_row {α : Type} {e : Nat} {d : Kd α} {w : World} {A : Option Addr} {ls pre rest : List (List α)} {x : List α} (hr : (Kd.slice e d).C w A ls.length ls) (hl : ls = pre ++ x :: rest) :
    ∃ ad A' c', A = some ad ∧ w.cell? (ad.add pre.length) = some (.slice A' x.length c') ∧ x.length ≤ c' ∧ d.C w A' x.length x := by
  have h0 : 0 < ls.length := by rw [hl]; simp; omega
  obtain ⟨ad, ha, hc⟩ := hr.2.2 h0
  obtain ⟨c, h1, ⟨A', c', rfl, h2, h3⟩, h4⟩ := hc pre.length x (by rw [hl]; simp)
  refine ⟨ad, A', c', ha, ?_, h2, h3⟩
  have := h4 0 _ rfl
  rw [show pre.length * (Kd.slice e d).sz + 0 = pre.length from by show pre.length * 1 + 0 = _; omega] at this
  exact this
theorem cat_a {a b n : Nat} (h : a + b ≤ n) (hn : n ≤ 1099511627776) : wrap64 ((a : Int) + (b : Int)) = ((a + b : Nat) : Int) ∧ decide (((a + b : Nat) : Int) < 0) = false ∧ decide (wrap64 ((a : Int) + (b : Int)) < 0) = false := by
  have e : wrap64 ((a : Int) + (b : Int)) = ((a + b : Nat) : Int) := by unfold wrap64; omega
  exact ⟨e, decide_eq_false (by omega), by rw [e]; exact decide_eq_false (by omega)⟩
theorem cat_b {a b n : Nat} (h : a + b ≤ n) (hn : n ≤ 1099511627776) : (a + b) * 56 ≤ 140737488355328 := by omega
theorem cat_i {p n : Nat} (h : p < n) (hn : n ≤ 9223372036854775807) : wrap64 ((p : Int) + 1) = ((p + 1 : Nat) : Int) ∧ decide ((p : Int) < (n : Int)) = true ∧ decide (p < n) = true ∧ ((0 : Int) ≤ (p : Int)) = True ∧ ((p : Int) < (n : Int)) = True ∧ (p < n) = True :=
  ⟨by unfold wrap64; omega, decide_eq_true (by omega), decide_eq_true h, eq_true (by omega), eq_true (by omega), eq_true h⟩
theorem cat_e {p n : Nat} (h : p = n) : decide ((p : Int) < (n : Int)) = false ∧ decide (p < n) = false := ⟨decide_eq_false (by omega), decide_eq_false (by omega)⟩
theorem cat_m {p n : Nat} (h : p < n) : n - ((p + 1 : Nat) : Int).toNat < n - ((p : Nat) : Int).toNat := by omega
theorem cat_len {α : Type} {ls pre rest : List (List α)} {x : List α} (hl : ls = pre ++ x :: rest) : pre.length < ls.length ∧ (pre ++ [x]).length = pre.length + 1 ∧ (pre ++ [x]).flatten.length = pre.flatten.length + x.length ∧ pre.flatten.length + x.length ≤ ls.flatten.length ∧ (pre ++ [x]).flatten = pre.flatten ++ x := by
  subst hl
  refine ⟨by simp, by simp, by simp, by simp, by simp⟩
set_option maxRecDepth 100000 in
set_option maxHeartbeats 4000000 in
theorem Concat_calls (A0 : Option Addr) (c0 : Nat) (l0 : List (List S48)) (w : World) (hr0 : (Kd.slice 48 k48).C w A0 l0.length l0) (hs : l0.flatten.length ≤ 1099511627776) :
    Calls Try.prog 63 #[.slice A0 l0.length c0] w fun e w' => ∃ v, e = .returned v ∧ Kd.R k48 48 w' w.heap.size (fun _ => True) v l0.flatten ∧ Below w.heap.size w w' := by
  have HR := Aside0.mk hr0
  have HLEN := Aside0.mk (show l0.length ≤ 9223372036854775807 from hr0.2.1)
  obtain ⟨T, hT⟩ : ∃ T, l0.flatten.length = T := ⟨_, rfl⟩
  rw [hT] at hs
  have HS := Aside0.mk hs
  have HT := Aside0.mk hT
  have CG := Aside0.mk (Grow_nil T w hs)
  clear hr0 hs hT
  go_enter Try.func63, Try.ntmps63
  go_wp2
  go_loopw [3, 11] (fun v3 v11 wr => ∃ (s : Nat) (pre rest : List (List S48)), v3 = .int .i64 (s : Nat) ∧ v11 = .int .i64 (pre.length : Nat) ∧ Aside0 (l0 = pre ++ rest ∧ s = pre.flatten.length) ∧ wr = w) (fun _ v11 _ => l0.length - (intOf v11).toNat)
  case atStart => exact ⟨0, [], l0, rfl, rfl, ⟨rfl, rfl⟩, rfl⟩
  case round =>
    obtain ⟨s, pre, rest, rfl, rfl, HX, hw⟩ := hrel
    have hw2 := hw.symm
    subst hw2
    clear hw
    cases rest with
    | cons x rest =>
      obtain ⟨hl1, hl2, hl3, hl4, hl5⟩ := cat_len HX.out.1
      obtain ⟨ad, A', c', e0, e1, e2, e3⟩ := elem_row HR.out HX.out.1
      obtain ⟨a1, a2, a3⟩ := cat_a (a := s) (n := T) (by rw [HX.out.2, ← HT.out]; exact hl4) HS.out
      obtain ⟨i1, i2, i3, i4, i5, i6⟩ := cat_i hl1 HLEN.out
      have HM := Aside0.mk (cat_m hl1)
      have HL2 := Aside0.mk hl2
      have HL3 := Aside0.mk hl3
      clear hl1 hl2 hl3 hl4 hl5 e2 e3
      subst e0
      go_wp2
      refine ⟨⟨s + x.length, pre ++ [x], rest, congrArg _ a1, ?_, ⟨by rw [HX.out.1]; simp, by rw [HL3.out, HX.out.2]⟩, trivial⟩, ?_⟩
      · rw [HL2.out, ← i1]
      · rw [i1]; exact HM.out
    | nil =>
      have hpl : pre.length = l0.length := by rw [HX.out.1]; simp
      have hsT : s = T := by rw [HX.out.2, ← HT.out, HX.out.1]; simp
      obtain ⟨i1, i2⟩ := cat_e hpl
      subst hsT
      clear hpl
      go_wp2_with (go_at_call 82; refine CG.out.mono ?_; rintro e w1 ⟨v1, rfl, hg1, hg2⟩; have HG1 := Aside0.mk hg1; have HG2 := Aside0.mk hg2; clear hg1 hg2)
      go_loopw [27, 6] (fun v27 v6 wq => ∃ (pre rest : List (List S48)), v27 = .int .i64 (pre.length : Nat) ∧ Aside0 (l0 = pre ++ rest) ∧ Aside0 (Kd.R k48 48 wq w.heap.size (fun _ => True) v6 pre.flatten) ∧ Aside0 (Below w.heap.size w wq)) (fun v27 _ _ => l0.length - (intOf v27).toNat)
      case atStart => exact ⟨[], l0, rfl, ⟨rfl⟩, HG1, HG2⟩
      case round =>
        clear HG1 HG2 CG
        obtain ⟨pre2, rest2, rfl, HX2, HO, HB⟩ := hrel
        cases rest2 with
        | cons x rest2 =>
          obtain ⟨hl1, hl2, hl3, hl4, hl5⟩ := cat_len HX2.out
          obtain ⟨ad, A', c', e0, e1, e2, e3⟩ := elem_row HR.out HX2.out
          obtain ⟨i1, i2, i3, i4, i5, i6⟩ := cat_i hl1 HLEN.out
          have HM := Aside0.mk (cat_m hl1)
          have HL2 := Aside0.mk hl2
          have HL5 := Aside0.mk hl5
          have HA := Aside0.mk (cat_b (n := l0.flatten.length) hl4 (by rw [HT.out]; exact HS.out))
          have E1 := Aside0.mk ((HB.out.cell (World.block_lt_of_cell? w _ e1)).trans e1)
          have E3 := Aside0.mk (Kd.C_below e3 HB.out)
          subst e0
          have f1 := E1.out
          clear hl1 hl2 hl3 hl4 hl5 e1 e2 e3
          go_wp2_with ((with_reducible refine gate_builtin (b := .append) (xs := #[.tmp 31, .tmp 32]) rfl ?_); (try (refine gate_guard (by rfl) ?_; dsimp only)); at_builtin; refine Kd.R_append_rows k48 (w0 := w) w.heap.size rfl (.tmp 31) (.tmp 32) 25 48 (.agg #[(.string ⟨#[]⟩), (.int .i64 0), (.int .i64 0), (.string ⟨#[]⟩), (.int .i64 0)]) 56 rfl Try.underlying25 info48 rfl (by decide) (by omega) _ pre2.flatten x A' x.length c' (fun _ => True) (fun _ => False) rfl rfl HO.out E3.out (fun y cs hk => by obtain rfl := k48_open hk; exact k48_mkM _ _ _ y) (fun _ h => h.elim) (fun _ _ => trivial) HB.out HB.out.size HA.out ?_; intro v7 w7 ho7 hb7 hg7 ha7; have HO7 := Aside0.mk ho7; have HB7 := Aside0.mk hb7; clear ho7 hb7 hg7 ha7)
          refine ⟨⟨pre2 ++ [x], rest2, ?_, ⟨by rw [HX2.out]; simp⟩, ⟨by rw [HL5.out]; exact HO7.out⟩, HB7⟩, ?_⟩
          · rw [HL2.out, ← i1]
          · rw [i1]; exact HM.out
        | nil =>
          have hpl2 : pre2.length = l0.length := by rw [HX2.out]; simp
          have HE := Aside0.mk (show pre2.flatten = l0.flatten by rw [HX2.out]; simp)
          obtain ⟨i3, i4⟩ := cat_e hpl2
          clear hpl2
          go_wp2
          go_ret
          exact ⟨_, rfl, by rw [← HE.out]; exact HO.out, HB.out⟩
end
/-! #### squashKey -/
def sqParts : List (List S48) → Bool → Option (List (List S48) × Bool)
  | [], b => some ([], b)
  | c :: cs, b => (sqParts cs b).bind fun p => (impl_squashClass.f c p.2).bind fun r => some (r :: p.1, p.2 && decide (r.length = 0))
def clsL (xs : List S48) (p : Nat × Nat) : List S48 := (xs.take p.2).drop p.1
def classesL (xs : List S48) (snaps : List Int) : List (List S48) := (classCuts xs snaps).map (clsL xs)
def impl_squashKey.f (l0 : List S48) (l1 : List Int) (a2 : Bool) : Option (List S48) :=
  if l0.length ≤ 1099511627776 then (sqParts (classesL l0 l1) a2).bind fun p => if p.1.flatten.length ≤ 1099511627776 then some p.1.flatten else none else none
def kPart (w0 : World) : Kd (List S48) := Kd.mix 48 k48 k48 w0
theorem part_E (w : World) : (kPart w).E = [48] := rfl
theorem sqParts_some {b : Bool} : ∀ (cs : List (List S48)) {p}, sqParts cs b = some p → ∀ m, ∃ q, sqParts (cs.drop m) b = some q
  | [], p, h, m => by cases m <;> exact ⟨_, h⟩
  | c :: cs, p, h, 0 => ⟨p, h⟩
  | c :: cs, p, h, m + 1 => by
    obtain ⟨q, hq, _⟩ := Option.bind_eq_some_iff.1 h
    exact sqParts_some cs hq m
theorem sqParts_step {b b' : Bool} {cs : List (List S48)} {m : Nat} {rs : List (List S48)} {p} (hp : sqParts cs b = some p) (hm : m < cs.length) (h : sqParts (cs.drop (m + 1)) b = some (rs, b')) :
    ∃ x r, cs.take (m + 1) = cs.take m ++ [x] ∧ impl_squashClass.f x b' = some r ∧ sqParts (cs.drop m) b = some (r :: rs, b' && decide (r.length = 0)) := by
  obtain ⟨q, hq⟩ := sqParts_some cs hp m
  have hd : cs.drop m = cs[m] :: cs.drop (m + 1) := List.drop_eq_getElem_cons hm
  rw [hd] at hq ⊢
  unfold sqParts at hq ⊢
  rw [h] at hq ⊢
  simp only [Option.bind_some] at hq ⊢
  obtain ⟨r, hr, hq⟩ := Option.bind_eq_some_iff.1 hq
  refine ⟨cs[m], r, by rw [List.take_add_one, List.getElem?_eq_getElem hm]; rfl, hr, ?_⟩
  rw [hr]
  rfl
theorem set_mid {α : Type} {ts rs : List α} {x y : α} {m : Nat} (hl : ts.length = m) : ((ts ++ [x]) ++ rs).set m y = ts ++ y :: rs ∧ ∀ z, ((ts ++ [x]) ++ rs).getD m z = x := by
  subst hl
  constructor
  · rw [List.append_assoc, List.set_append_right _ _ (Nat.le_refl _)]; simp
  · intro z; simp [List.getD_eq_getElem?_getD]
theorem sqk_j {m : Nat} (hm : m + 1 ≤ 1099511627776) : decide ((0 : Int) ≤ (m : Int)) = true ∧ wrap64 ((m : Int) - 1) = (m : Int) - 1 ∧ ((0 : Int) ≤ (m : Int)) = True := ⟨decide_eq_true (by omega), by unfold wrap64; omega, eq_true (by omega)⟩
theorem sqk_lt {m N : Nat} (h : m + 1 ≤ N) : ((m : Int) < (N : Int)) = True ∧ (m < N) = True := ⟨eq_true (by omega), eq_true (by omega)⟩
theorem sqk_w {N : Nat} (h : N ≤ 1099511627776) : wrap64 ((N : Int) - 1) = (N : Int) - 1 := by unfold wrap64; omega
theorem sqk_me {m : Nat} : ((m : Int) - 1 + 1).toNat < ((m : Int) + 1).toNat := by omega
theorem info_part : (Try.prog.info? 25).map (fun i => (i.zero, i.size, i.bytes)) = some (some (.slice none 0 0), 1, 24) := by kernel_rfl
theorem cutAt_bound (ap : Nat → Bool) (n : Nat) : ∀ f s i, s < i → i + f = n + 1 → ∀ p ∈ cutAt ap n f s i, p.1 < p.2 ∧ p.2 ≤ n
  | 0, _, _, _, _, p, h => by simp [cutAt] at h
  | f + 1, s, i, hs, hf, p, h => by
    rw [cutAt] at h
    split at h
    · exact cutAt_bound ap n f s (i + 1) (by omega) (by omega) p h
    · rcases List.mem_cons.1 h with rfl | h
      · exact ⟨hs, by omega⟩
      · exact cutAt_bound ap n f i (i + 1) (by omega) (by omega) p h
theorem cutAt_len (ap : Nat → Bool) (n : Nat) : ∀ f s i, (cutAt ap n f s i).length ≤ f
  | 0, _, _ => by simp [cutAt]
  | f + 1, s, i => by
    rw [cutAt]
    split
    · exact Nat.le_succ_of_le (cutAt_len ap n f s (i + 1))
    · simpa using cutAt_len ap n f i (i + 1)
theorem classCuts_bound (xs : List S48) (snaps : List Int) : ∀ p ∈ classCuts xs snaps, p.1 < p.2 ∧ p.2 ≤ xs.length := cutAt_bound _ _ _ _ _ (by omega) (by omega)
theorem classCuts_len (xs : List S48) (snaps : List Int) : (classCuts xs snaps).length ≤ xs.length := cutAt_len _ _ _ _ _
theorem clsL_length {xs : List S48} {p : Nat × Nat} (h1 : p.1 < p.2) (h2 : p.2 ≤ xs.length) : (clsL xs p).length = p.2 - p.1 := by unfold clsL; rw [List.length_drop, List.length_take]; omega
/-! Rows of a call's own behind other writes, and append of one element within a fence -/
theorem R_other {α : Type} {d : Kd α} {e : Nat} {W W' : World} {base : Nat} {ok : Nat → Prop} {v : Value} {xs : List α} {row : Option Nat} (h : d.R e W base ok v xs) (hg : W.grownBy W' row) (hr : ∀ r, row = some r → ∃ o, W.heap[r]? = some o ∧ o.isCells = false) : d.R e W' base ok v xs :=
  Kd.R_mono (Kd.R_move (Kd.R_bound h) (fun k hk => hg.block k hk.2.2.1 (fun e => by obtain ⟨o, ho, hc⟩ := hr k e.symm; obtain ⟨q, _, cells, hh⟩ := hk.2.2.2; rw [hh] at ho; cases ho; cases hc))) (fun k hk => hk.1)
theorem blk_other {W W' : World} {row : Option Nat} {b : Nat} {cs : Array Value} {t : TypeId} {z : Nat × Nat} (h : W.heap[b]? = some (.cells cs t z)) (hg : W.grownBy W' row) (hr : ∀ r, row = some r → ∃ o, W.heap[r]? = some o ∧ o.isCells = false) : W'.heap[b]? = some (.cells cs t z) :=
  (hg.block b (Array.getElem?_eq_some_iff.1 h).1 (fun e => by obtain ⟨o, ho, hc⟩ := hr b e.symm; rw [h] at ho; cases ho; cases hc)).trans h
theorem cells_new (W : World) (cs : Array Value) (t : TypeId) : ∀ j u, cs.toList[j]? = some u → (W.alloc (.cells cs t)).cell? ((⟨W.heap.size, 0, none⟩ : Addr).add j) = some u := by
  intro j u hj
  have h : (W.alloc (.cells cs t)).heap[W.heap.size]? = some (.cells cs t (0, 0)) := heap_alloc_new W _
  have : cs[j]? = some u := by simpa using hj
  revert h
  generalize W.alloc (.cells cs t) = W1
  intro h
  rcases j with _ | j <;> simp [World.cell?, Addr.add, h, this]
theorem R_appendIn {α : Type} {F : Fence} {n : Nat} {P : Program} {ops : Array Oper} {rest : List Oper} {o : Oper} {a : Act} {Q : Exit → Act → World → Prop} (d : Kd α) (W : World) (base : Nat) (hgd : o.guard = none) (s x : Operand) (t e : TypeId) (z : Value) (bytes : Nat)
    (hop : o.op = .call { callee := .builtin .append, args := #[s, x], argTypes := #[t, t] })
    (ht : P.underlying t = some (.slice e)) (hinfo : (P.info? e).map (fun i => (i.zero, i.size, i.bytes)) = some (some z, d.sz, bytes)) (hz : z.cells.size = d.sz) (hs0 : 0 < d.sz) (hb0 : 0 < bytes)
    (v : Value) (xs : List α) (p : α) (cs : List Value) (ok okp : Nat → Prop) (hs : a.eval s = v) (ad : Addr) (hx : a.eval x = .slice (some ad) 1 1) (hcs : ∀ j u, cs[j]? = some u → W.cell? (ad.add j) = some u) (hp : d.M W base okp p cs) (hokp : ∀ k, okp k → ok k ∧ some k ≠ v.ownBlock) (hfresh : ∀ k, W.heap.size ≤ k → ok k)
    (HO : d.R e W base ok v xs) (hbase : base ≤ W.heap.size) (hl : (xs.length + 1) * bytes ≤ 140737488355328)
    (h : ∀ v1 w1, d.R e w1 base ok v1 (xs ++ [p]) → W.grownBy w1 v.ownBlock → wpListIn F n P ops Q rest (a.put o.dst v1) w1) : wpListIn F n P ops Q (o :: rest) a W := by
  obtain ⟨h0, inner, hown, hr⟩ := HO
  obtain ⟨i, hi, hii⟩ := Option.map_eq_some_iff.1 hinfo
  injection hii with e1 e2
  injection e2 with e2 e3
  have hm : xs.length + 1 ≤ maxLen := by
    have := Nat.le_mul_of_pos_right (xs.length + 1) hb0
    unfold maxLen
    omega
  refine wpListIn_plain hgd fun K hK => ?_
  obtain ⟨v', w', hrun, r1, r2, r3, r4⟩ := run_append_own_at (P := P) W base t o.type e i z d.sz bytes ht hi e1 e2 e3 hz hs0 v xs.length inner hown ad 1 1 cs (by rw [d.K_len (d.K_of_M hp)]; omega) hcs (d.K_one (d.K_of_M hp)) hm hl hbase
  unfold Oper.wpIn
  refine ⟨?_, ?_⟩
  · simp [Oper.about, hop, resolve, Target.leads, Sem.run_pure]
  · rw [Oper.semAt_plain F _ _ (by rw [hop]; intro c hc'; cases hc')]
    simp [execOp, hop, resolve, invoke, builtin, hs, hx, hrun, Result.andThen]
    exact hK _ _ (h v' w' (Kd.R_appended h0 hr hp hokp hfresh r1 r2 (r4.imp id (fun hh => ⟨_, hh, Nat.le_refl _⟩))) r2)
theorem blk_other2 {W : World} {b L : Nat} {cs : Array Value} {t : TypeId} (h : W.heap[b]? = some (.cells cs t (0, 0))) (hne : b ≠ L) (v : Value) : (W.setCell ⟨L, 0, none⟩ v).heap[b]? = some (.cells cs t (0, 0)) := (Below.heap_setCell W ⟨L, 0, none⟩ v b hne).trans h
theorem R_setOther {α : Type} {d : Kd α} {e : Nat} {W : World} {base : Nat} {ok : Nat → Prop} {v : Value} {xs : List α} {L t : Nat} {cs : Array Value} (h : d.R e W base ok v xs) (hL : W.heap[L]? = some (.cells cs t (0, 0))) (ht : t ∉ e :: d.E) (u : Value) : d.R e (W.setCell ⟨L, 0, none⟩ u) base ok v xs :=
  Kd.R_mono (Kd.R_move (Kd.R_bound h) (fun k hk => Below.heap_setCell W ⟨L, 0, none⟩ u k (fun e' => by obtain ⟨q, hq, cells, hh⟩ := hk.2.2.2; subst e'; rw [hL] at hh; injection hh with hh; injection hh with _ hh _; subst hh; exact ht hq))) (fun k hk => hk.1)
/-- A class is read where it lies. -/
theorem cls_came {w0 W : World} {base : Nat} {ok : Nat → Prop} {A : Option Addr} {c : Nat} {xs : List S48} (hr : Kd.C k48 w0 A xs.length xs) (hc : xs.length ≤ c) {p : Nat × Nat} (h1 : p.1 < p.2) (h2 : p.2 ≤ xs.length) : (kPart w0).M W base ok (clsL xs p) [clsVal A c p] := by
  have hm := Kd.C_mid (lo := p.1) (hi := p.2) hr (Nat.le_of_lt h1) h2 hc
  rw [if_neg (by omega)] at hm
  have hl := clsL_length h1 h2
  unfold clsVal
  rw [← hl]
  exact Kd.mix_came (by rw [hl]; omega) hm
/-- A class's place within its key's entries. -/
abbrev Cls (xs : List S48) := { p : Nat × Nat // p.1 < p.2 ∧ p.2 ≤ xs.length }
/-- classesOf over its two boxes, as an iterator. -/
theorem classesOf_stops (n : Nat) (hn : 3 ≤ n) (B1 B2 : Nat) (A : Option Addr) (c : Nat) (xs : List S48) (A2 : Option Addr) (c2 : Nat) (snaps : List Int) (w W0 : World) (hr : Kd.C k48 w A xs.length xs) (hc : xs.length ≤ c) (hsm : xs.length < 9223372036854775807) (hr2 : Kd.C (Kd.int .i64) w A2 snaps.length snaps) (hc2 : snaps.length ≤ c2)
    (hw0 : Below w.heap.size w W0) (hb1 : W0.heap[B1]? = some (.cells #[.slice A xs.length c] 25 (0, 0))) (hb2 : W0.heap[B2]? = some (.cells #[.slice A2 snaps.length c2] 23 (0, 0))) :
    SeqStopsK Fence.wide n Try.prog 79 #[.pointer (some ⟨B1, 0, none⟩), .pointer (some ⟨B2, 0, none⟩)] (fun x : Cls xs => clsEnc A c x.1) (KeepsTwo w.heap.size B1 B2) (fun ys => ys.map (·.1) = classCuts xs snaps) (fun pre => pre.map (·.1) <+: classCuts xs snaps) (classCuts xs snaps).length W0 := fun l J Jx W hW hJ _ hY h0 =>
  (classesOf1_in n hn l B1 B2 A c xs A2 c2 snaps w hr hc hsm hr2 hc2 (fun pre X => ∃ q : List (Cls xs), q.map (·.1) = pre ∧ J q X) (fun pre X => ∃ q : List (Cls xs), q.map (·.1) = pre ∧ Jx q X) W (hw0.trans (hW.mono hw0.size))
    (fun s X Y row ⟨q, e, h⟩ hg hr => ⟨q, e, hJ q X Y row h hg hr⟩)
    (fun pre x W1 ⟨q, e, h⟩ hl hx => by
      obtain ⟨fn, tmps, assign, body, hy, hR⟩ := hY q ⟨x, hx⟩ W1 h (by rw [← e, List.length_map] at hl; exact hl)
      refine ⟨fn, tmps, assign, body, hy, hR.mono ?_⟩
      rintro e' W' (⟨h1, h2, h3⟩ | ⟨h1, h2⟩)
      · exact .inl ⟨h1, ⟨q ++ [⟨x, hx⟩], by rw [← e]; simp, h2⟩, h3⟩
      · exact .inr ⟨h1, ⟨q ++ [⟨x, hx⟩], by rw [← e]; simp, h2⟩⟩)
    ((hW.block _ (blk_lt hb1)).trans hb1) ((hW.block _ (blk_lt hb2)).trans hb2) ⟨[], rfl, h0⟩).mono (fun e W' h => ⟨h.1, h.2.imp (fun ⟨ys, h1, q, h2, h3⟩ => ⟨q, h2.trans h1, h3⟩) (fun ⟨pre, h1, q, h2, h3⟩ => ⟨q, by show q.map (·.1) <+: _; rw [h2]; exact h1, h3⟩)⟩)
section
attribute [local go_sem] Oper.semAt_some
def noPanic (Q : Exit → Act → World → Prop) : Exit → Act → World → Prop
  | .panic _, _, _ => False
  | e, a, w => Q e a w
theorem np_normal {Q : Exit → Act → World → Prop} {a : Act} {w : World} (h : Q .normal a w) : noPanic Q .normal a w := h
/-- As startW_, where marks are kept among the deferred calls: no operation of the region panics. -/
theorem startWP_ {P : Program} {ops : Array Oper} {Q : Exit → Act → World → Prop} {S : World → Prop} {ds : List Nat} {id n N : Nat} {a : Act} {w : World} (L : Array Bool) (hm : P.follows .mixedOrders = true) (hn : ops.size = n) (hl : Array.replicate n false = L) (hout : ∀ a w, Q .outgrown a w → False) (hnd : noDeferW ops = true) (hS : S w.drew)
    (h : S w.drew → wpAnyLast P .any ops (noPanic Q) S ds n L a w.drew) : (Code.region id ops true).wpIn Fence.wide N P Q a w :=
  Code.wpIn_mono (fun e a w h => by cases e <;> first | exact h | exact h.elim) (startW_ (Q := noPanic Q) L hm hn hl hout hnd hS h)
def sqk.T : Bool × List (List Nat × List Nat) := (true, [([], []), ([], []), ([], []), ([], []), ([2, 3], [2, 3]), ([4], [4]), ([], []), ([5, 6], [5, 6]), ([0, 1, 0, 1, 2, 3, 4, 5, 6, 7], [0, 1]), ([8, 7, 7, 0, 1, 2, 3, 4, 5, 6, 7], [7, 8])])
def sqk.B : List Nat := [0, 0, 0, 0, 12, 28, 0, 124, 255, 511]
theorem sqk.tab : rtab .any (opsOf Try.f38 9) = sqk.T := by kernel_rfl
theorem sqk.bits : waitsOk sqk.T.2 sqk.B = true := by kernel_rfl
set_option maxRecDepth 100000 in
set_option maxHeartbeats 4000000 in
theorem impl_squashKey.calls (A0 : Option Addr) (c0 : Nat) (l0 : List (S48)) (A1 : Option Addr) (c1 : Nat) (l1 : List Int) (a2 : Bool) (r : List S48) (w : World) (hr0 : Kd.C k48 w A0 l0.length l0) (hc0 : l0.length ≤ c0) (hr1 : Kd.C (Kd.int .i64) w A1 l1.length l1) (hc1 : l1.length ≤ c1) (h : impl_squashKey.f l0 l1 a2 = some r) :
    Calls Try.prog 38 #[.slice A0 l0.length c0, .slice A1 l1.length c1, .bool a2] w fun e w' => ∃ v0_ : Value, e = .returned v0_ ∧ Kd.R k48 48 w' w.heap.size (fun _ => True) v0_ r ∧ Below w.heap.size w w' := by
  have h40 : l0.length ≤ 1099511627776 := by
    by_cases e : l0.length ≤ 1099511627776
    · exact e
    · unfold impl_squashKey.f at h; rw [if_neg e] at h; cases h
  unfold impl_squashKey.f at h
  rw [if_pos h40] at h
  have H := Aside0.mk h
  have HR := Aside0.mk hr0
  have HC := Aside0.mk hc0
  have HR1 := Aside0.mk hr1
  have HC1 := Aside0.mk hc1
  have H40 := Aside0.mk h40
  clear h hr0 hc0 hr1 hc1 h40
  refine (callsIn_wide (n := 6)).1 ?_
  refine callsIn_of_wp_marks Try.func38 rfl trivial ?_ rfl
  simp only [Try.ntmps38, List.size_toArray, List.length_cons, List.length_nil, Nat.reduceAdd, Nat.reduceSub, Array.replicate_succ, Array.replicate_zero, List.push_toArray, List.append_toArray, List.nil_append, List.cons_append]
  gi_wp2_with (refine ⟨trivial, ?_⟩; gi_at_call 61; refine (callsIn_wide.2 (classesOf_calls A0 _ c0 A1 _ c1 _)).mono ?_; rintro e w' ⟨rfl, rfl⟩)
  have hq0 : ((((w.alloc (.cells #[.slice none 0 0] 44)).alloc (.cells #[.slice A0 l0.length c0] 25)).alloc (.cells #[.slice A1 l1.length c1] 23)) : World).heap[w.heap.size]? = some (.cells #[.slice none 0 0] 44 (0, 0)) :=
    (Below.heap_alloc _ _ _ (by simp; omega)).trans ((Below.heap_alloc _ _ _ (by simp)).trans (heap_alloc_new w _))
  have hq1 : ((((w.alloc (.cells #[.slice none 0 0] 44)).alloc (.cells #[.slice A0 l0.length c0] 25)).alloc (.cells #[.slice A1 l1.length c1] 23)) : World).heap[w.heap.size + 1]? = some (.cells #[.slice A0 l0.length c0] 25 (0, 0)) := by
    have := heap_alloc_new (w.alloc (.cells #[.slice none 0 0] 44)) (.cells #[.slice A0 l0.length c0] 25)
    rw [World.size_alloc] at this
    exact (Below.heap_alloc _ _ _ (by simp)).trans this
  have hq2 : ((((w.alloc (.cells #[.slice none 0 0] 44)).alloc (.cells #[.slice A0 l0.length c0] 25)).alloc (.cells #[.slice A1 l1.length c1] 23)) : World).heap[w.heap.size + 1 + 1]? = some (.cells #[.slice A1 l1.length c1] 23 (0, 0)) := by
    have := heap_alloc_new ((w.alloc (.cells #[.slice none 0 0] 44)).alloc (.cells #[.slice A0 l0.length c0] 25)) (.cells #[.slice A1 l1.length c1] 23)
    rw [World.size_alloc, World.size_alloc] at this
    exact this
  have hsz : ((((w.alloc (.cells #[.slice none 0 0] 44)).alloc (.cells #[.slice A0 l0.length c0] 25)).alloc (.cells #[.slice A1 l1.length c1] 23)) : World).heap.size = w.heap.size + 3 := by simp
  have hB0 : Below w.heap.size w (((w.alloc (.cells #[.slice none 0 0] 44)).alloc (.cells #[.slice A0 l0.length c0] 25)).alloc (.cells #[.slice A1 l1.length c1] 23)) :=
    ((((Below.refl _ w).alloc (Nat.le_refl _) _).alloc (by simp) _).alloc (by simp; omega) _)
  obtain ⟨W0, hW0⟩ : ∃ W0 : World, (((w.alloc (.cells #[.slice none 0 0] 44)).alloc (.cells #[.slice A0 l0.length c0] 25)).alloc (.cells #[.slice A1 l1.length c1] 23)) = W0 := ⟨_, rfl⟩
  rw [hW0] at hq0 hq1 hq2 hsz hB0 ⊢
  clear hW0
  have HSZ := Aside0.mk hsz
  have HB0 := Aside0.mk hB0
  have HQ0 := Aside0.mk hq0
  have HQ1 := Aside0.mk hq1
  have HQ2 := Aside0.mk hq2
  have hBL := Aside0.mk (classCuts_len l0 l1)
  clear hq0 hq1 hq2
  refine wpIn_rangeFunc_ownH rfl (by omega) (gf := 79) (lb := #[.pointer (some ⟨w.heap.size + 1, 0, none⟩), .pointer (some ⟨w.heap.size + 1 + 1, 0, none⟩)]) rfl trivial (enters_of Try.func79 (by kernel_rfl) rfl)
    (classesOf_stops _ (by omega) (w.heap.size + 1) (w.heap.size + 1 + 1) A0 c0 l0 A1 c1 l1 w W0 HR.out HC.out (Nat.lt_of_le_of_lt H40.out (by omega)) HR1.out HC1.out hB0 HQ1.out HQ2.out) keepsTwo_t (keepsTwo_b hB0.size) (Below.refl _ _) (fun _ => rfl)
    (fun done X => (X.heap[w.heap.size + 1]? = some (.cells #[.slice A0 l0.length c0] 25 (0, 0)) ∧ X.heap[w.heap.size + 1 + 1]? = some (.cells #[.slice A1 l1.length c1] 23 (0, 0))) ∧ (∃ v', X.heap[w.heap.size]? = some (.cells #[v'] 44 (0, 0)) ∧ Kd.R (kPart w) 25 X W0.heap.size (fun _ => True) v' (done.map (fun x : Cls l0 => clsL l0 x.1))) ∧ (W0.heap.size ≤ X.heap.size ∧ Below w.heap.size w X))
    (fun _ _ _ => False)
    (fun s X Y row hs hg hr => by
      obtain ⟨⟨h1, h2⟩, ⟨v', h4, h5⟩, h6, h7⟩ := hs
      have hr2 : ∀ j, row = some j → ∃ o, X.heap[j]? = some o ∧ o.isCells = false := fun j e => (hr j e).2
      exact ⟨⟨blk_other h1 hg hr2, blk_other h2 hg hr2⟩, ⟨v', blk_other h4 hg hr2, R_other h5 hg hr2⟩, Nat.le_trans h6 hg.size, h7.grown hg (Nat.le_trans hB0.size h6) (fun j e => Nat.le_trans hB0.size (hr j e).1)⟩)
    (fun _ _ _ _ _ hs _ _ => hs)
    ⟨⟨HQ1.out, HQ2.out⟩, ⟨_, HQ0.out, Kd.R_nil _ _ _ _ _⟩, Nat.le_refl _, hB0⟩
    (fun x a' X => a' = { tmps := #[.slice A0 l0.length c0, .slice A1 l1.length c1, .bool a2, undef, undef, undef, .slice none 0 0, .pointer (some ⟨w.heap.size, 0, none⟩), clsVal A0 c0 x.1, undef, undef, .slice A0 l0.length c0, .slice A1 l1.length c1, .func (.func 79) #[] #[.pointer (some ⟨w.heap.size + 1, 0, none⟩), .pointer (some ⟨w.heap.size + 1 + 1, 0, none⟩)], clsVal A0 c0 x.1, undef, undef, undef, undef, undef, undef, undef, undef, undef, undef, undef, undef, undef, undef, undef, undef, undef, undef, undef, undef, undef, undef, undef, undef, undef, undef, undef, undef, undef, undef, undef, undef], defers := [] })
    (fun x a' _ X Y row hs hg hr => hs)
    ?assign ?body ?done ?stop
  case assign =>
    rintro l done x X K ⟨⟨h1, h2⟩, ⟨v', h4, h5⟩, h6, h7⟩ hK
    dsimp only [clsEnc]
    gi_wp2
    exact hK _ _ (KeepsFrom.refl _ _) ⟨Below.refl _ _, fun _ _ h => h, fun _ _ h => h⟩ ⟨⟨h1, h2⟩, ⟨v', h4, h5⟩, h6, h7⟩ rfl
  case body =>
    rintro l done x a' X hl ⟨rr, hrr⟩ ⟨⟨h1, h2⟩, ⟨v', h4, h5⟩, h6, h7⟩ rfl hlt
    obtain ⟨As, ns, cs, hcv⟩ : ∃ (A : Option Addr) (n c : Nat), clsVal A0 c0 x.1 = .slice A n c := ⟨_, _, _, rfl⟩
    rw [hcv]
    have HCV := Aside0.mk hcv
    clear hcv
    have cL : X.cell? ⟨w.heap.size, 0, none⟩ = some v' := (cell_of_row X _ 0 _ _ _ h4).trans rfl
    have J1 := Aside0.mk (blk_alloc h1 (.cells #[.slice As ns cs] 25))
    have J2 := Aside0.mk (blk_alloc h2 (.cells #[.slice As ns cs] 25))
    have J4 := Aside0.mk (blk_alloc h4 (.cells #[.slice As ns cs] 25))
    have J5 := Aside0.mk (Kd.R_alloc h5 (.cells #[.slice As ns cs] 25))
    have J6 := Aside0.mk h6
    have J7 := Aside0.mk h7
    have JX := Aside0.mk h1
    have JY := Aside0.mk h2
    have JD := Aside0.mk (Nat.le_trans (Nat.succ_le_of_lt hlt) (classCuts_len l0 l1))
    clear h1 h2 h4 h5 h6 h7 hlt
    gi_wp2_with (first
      | (gi_at_builtin
         refine R_appendIn (kPart w) _ W0.heap.size rfl _ _ 44 25 (.slice none 0 0) 24 rfl Try.underlying44 info_part rfl (Nat.one_pos) (by omega) v' (done.map (fun x : Cls l0 => clsL l0 x.1)) (clsL l0 x.1) [.slice As ns cs] (fun _ => True) (fun _ => False) rfl ⟨X.heap.size, 0, none⟩ rfl ?aC ?aP (fun _ hk => hk.elim) (fun _ _ => trivial) J5.out (by rw [World.size_alloc]; exact Nat.le_succ_of_le J6.out) ?aL ?_
         (case aC => exact cells_new X _ _)
         (case aP => rw [← HCV.out]; exact cls_came HR.out HC.out x.2.1 x.2.2)
         (case aL => have h1 := JD.out; have h2 := H40.out; rw [List.length_map]; omega)
         intro v1 w1 ho hg
         obtain ⟨A9, n9, c9, rfl⟩ := (show ∃ (A : Option Addr) (n c : Nat), v1 = .slice A n c from (Kd.R_slice ho).elim fun A h => h.elim fun c h => ⟨A, _, c, h⟩)
         have hRB := (Kd.R_bound J5.out).1
         have g1 := (hg.block _ (blk_lt J1.out) (fun e => by have h9 := (hRB _ e.symm).2.1; have := HSZ.out; omega))
         have g2 := (hg.block _ (blk_lt J2.out) (fun e => by have h9 := (hRB _ e.symm).2.1; have := HSZ.out; omega))
         have g4 := (hg.block _ (blk_lt J4.out) (fun e => by have h9 := (hRB _ e.symm).2.1; have := HSZ.out; omega))
         have kO : KeepsOthers X w1 := (KeepsOthers.alloc X (.cells #[.slice As ns cs] 25)).trans (KeepsOthers.of_grownBy hg (fun j o e hj => by obtain ⟨_, _, _, q, _, cells, hh⟩ := hRB j e; rw [hj] at hh; cases hh; rfl))
         have n4 := g4.trans J4.out
         have cL1 : w1.cell? ⟨w.heap.size, 0, none⟩ = some v' := (cell_of_row w1 _ 0 _ _ _ n4).trans rfl
         have fL1 : w1.frozen? ⟨w.heap.size, 0, none⟩ = false := by unfold World.frozen?; simp [n4]
         have M1 := Aside0.mk (g1.trans (Below.heap_alloc X _ _ (blk_lt JX.out)))
         have M2 := Aside0.mk (g2.trans (Below.heap_alloc X _ _ (blk_lt JY.out)))
         have M4 := Aside0.mk n4
         have MO := Aside0.mk ho
         have MK := Aside0.mk kO
         have MS := Aside0.mk (show X.heap.size ≤ w1.heap.size from kO.size)
         have MBel := Aside0.mk (show Below w.heap.size X w1 from ((Below.refl _ X).alloc J7.out.size (.cells #[.slice As ns cs] 25)).grown hg (by rw [World.size_alloc]; exact Nat.le_succ_of_le J7.out.size) (fun j e => by have h9 := (hRB j e).2.1; have := HSZ.out; omega))
         clear hRB g1 g2 g4 n4 ho kO hg)
      | gi_in)
    have hb1 := (Below.heap_setCell w1 ⟨w.heap.size, 0, none⟩ (.slice A9 n9 c9) (w.heap.size + 1) (by show w.heap.size + 1 ≠ w.heap.size; omega)).trans M1.out
    have hb2 := (Below.heap_setCell w1 ⟨w.heap.size, 0, none⟩ (.slice A9 n9 c9) (w.heap.size + 1 + 1) (by show w.heap.size + 1 + 1 ≠ w.heap.size; omega)).trans M2.out
    have hbB := MBel.out.setCell (p := ⟨w.heap.size, 0, none⟩) (Nat.le_refl _) (.slice A9 n9 c9)
    refine ⟨((MK.out.from _).trans ((KeepsOthers.setCell _ _ _).from _)), ⟨hbB, fun cs t e => hb1.trans e, fun cs t e => hb2.trans e⟩, ⟨hb1.trans JX.out, hb2.trans JY.out⟩, ⟨_, blk_put M4.out 0 _ rfl, ?_⟩, Nat.le_trans J6.out (Nat.le_trans MS.out (by simp [World.setCell])), J7.out.trans hbB⟩
    rw [List.map_append]
    exact R_setOther MO.out M4.out (by rw [part_E]; decide) _
  case done =>
    rintro D zs X hD hz ⟨⟨h1, h2⟩, ⟨v', h4, h5⟩, h6, h7⟩ hK
    have hcl : zs.map (fun x : Cls l0 => clsL l0 x.1) = classesL l0 l1 := by unfold classesL; rw [← hz, List.map_map]; rfl
    rw [hcl] at h5
    have J4 := Aside0.mk h4
    have J5 := Aside0.mk h5
    have J6 := Aside0.mk h6
    have J7 := Aside0.mk h7
    have JK := Aside0.mk hK
    have cL : X.cell? ⟨w.heap.size, 0, none⟩ = some v' := (cell_of_row X _ 0 _ _ _ h4).trans rfl
    obtain ⟨A9, c9, rfl⟩ := Kd.R_slice h5
    clear h1 h2 h4 h5 h6 h7 hK hcl hz
    obtain ⟨N, hN⟩ : ∃ N, (classesL l0 l1).length = N := ⟨_, rfl⟩
    have hN40 : N ≤ 1099511627776 := by
      rw [← hN]
      have h1 := hBL.out
      have h2 := H40.out
      unfold classesL
      rw [List.length_map]
      omega
    have ej := sqk_w hN40
    rw [hN] at J4 J5 cL
    have HN := Aside0.mk hN
    have HN40 := Aside0.mk hN40
    clear hN hN40
    gi_wp2
    gi_loopw [9, 10] (fun v9 v10 wr => ∃ (m : Nat) (rs : List (List S48)) (b : Bool) (j : Int), v9 = .bool b ∧ v10 = .int .i64 j ∧ Aside0 (j = (m : Int) - 1 ∧ m ≤ N ∧ sqParts ((classesL l0 l1).drop m) a2 = some (rs, b)) ∧ Aside0 (wr.heap[w.heap.size]? = some (.cells #[.slice A9 N c9] 44 (0, 0))) ∧ Aside0 (Kd.R (kPart w) 25 wr W0.heap.size (fun _ => True) (.slice A9 N c9) ((classesL l0 l1).take m ++ rs)) ∧ Aside0 (W0.heap.size ≤ wr.heap.size ∧ Below w.heap.size w wr) ∧ Aside0 (wr.heap[D]? = some (.deferred (some [])))) (fun _ v10 _ => (intOf v10 + 1).toNat)
    case atStart => exact ⟨N, [], a2, (N : Int) - 1, rfl, by first | rfl | rw [ej], ⟨rfl, Nat.le_refl _, by rw [← HN.out, List.drop_length]; rfl⟩, J4, ⟨by rw [← HN.out, List.take_length, List.append_nil]; rw [HN.out]; exact J5.out⟩, ⟨J6.out, J7.out⟩, JK⟩
    case round =>
      clear cL ej J4 J5 J6 J7 JK
      obtain ⟨m, rs, b, j, rfl, rfl, HJ, HBX, HRW, HBW, HDK⟩ := hrel
      have cL := (blk_cell HBX.out 0).trans (show _ = some (Value.slice A9 N c9) from rfl)
      cases m with
      | zero =>
        have ej : j = -1 := by rw [HJ.out.1]; rfl
        subst ej
        have HRS := Aside0.mk (show sqParts (classesL l0 l1) a2 = some (rs, b) from HJ.out.2.2)
        have hrw : Kd.R (kPart w) 25 wr W0.heap.size (fun _ => True) (.slice A9 N c9) rs := by simpa using HRW.out
        obtain ⟨hN1, hN2, hN3⟩ := Kd.R_reads' hrw
        have hC := Kd.C_read (d := Kd.slice 48 k48) (dm := kPart w) rfl (fun y cs hk => Kd.mix_read rfl (fun _ _ h => h) HBW.out.2 hk) hN3
        have hH := H.out
        rw [HRS.out, Option.bind_some] at hH
        have hfl : rs.flatten.length ≤ 1099511627776 := by
          by_cases e : rs.flatten.length ≤ 1099511627776
          · exact e
          · rw [if_neg e] at hH; cases hH
        rw [if_pos hfl] at hH
        have HE := Aside0.mk (Option.some.inj hH)
        have CC := Aside0.mk (Concat_calls A9 c9 rs wr hC hfl)
        subst hN1
        clear hC hfl hH hrw hN2 hN3 HRW
        gi_wp2_with (refine ⟨trivial, ?_⟩; gi_at_call 63; refine (callsIn_wide.2 CC.out).mono ?_; rintro e w5 ⟨v5, rfl, hr5, hb5⟩; have HR5 := Aside0.mk hr5; have HB5 := Aside0.mk hb5; clear hr5 hb5)
        have hD5 := (HB5.out.block D (blk_lt HDK.out)).trans HDK.out
        have hDl := blk_lt HDK.out
        refine ⟨by simp, .inl ⟨_, _, rfl, run_takeDeferred hD5, ?_⟩⟩
        refine ⟨_, results_tmp rfl _ _ _, _, rfl, ?_, ?_⟩
        · rw [← HE.out]
          exact R_other (Kd.R_lower HR5.out HBW.out.2.size) (grownBy_putObj' w5 D (.deferred none)) (fun r e => by cases e; exact ⟨_, hD5, rfl⟩)
        · exact (HBW.out.2.trans (HB5.out.mono HBW.out.2.size)).trans (belowK_b (w := w) (Nat.le_refl _) w5 D _ _ (Nat.le_trans HB0.out.size hD) hD5 rfl rfl)
      | succ m =>
        have ej : j = (m : Int) := by rw [HJ.out.1]; omega
        subst ej
        obtain ⟨q, hq⟩ : ∃ q, sqParts (classesL l0 l1) a2 = some q := by
          obtain ⟨q, hq, _⟩ := Option.bind_eq_some_iff.1 H.out
          exact ⟨q, hq⟩
        obtain ⟨x, r', hx1, hx2, hx3⟩ := sqParts_step hq (by rw [HN.out]; exact HJ.out.2.1) HJ.out.2.2
        have hrw := HRW.out
        rw [hx1] at hrw
        obtain ⟨g, cap, hgv, hg1, hg2, gcells, hg3⟩ := Kd.R_form hrw (by simp; omega)
        injection hgv with hA hNn hcc
        have hNl : N = (((classesL l0 l1).take m ++ [x]) ++ rs).length := hNn
        subst hA
        have hml : ((classesL l0 l1).take m).length = m := by rw [List.length_take, HN.out]; have := HJ.out.2.1; omega
        have hst := @set_mid _ _ rs x r' m hml
        have HST := Aside0.mk hst
        obtain ⟨p1, p2', p3'⟩ := sqk_j (m := m) (Nat.le_trans HJ.out.2.1 HN40.out)
        obtain ⟨p4, p5⟩ := sqk_lt HJ.out.2.1
        have p2 : (0 : Int) ≤ (m : Int) := Int.natCast_nonneg m
        have p3 : (m : Int) < (N : Int) := of_eq_true p4
        obtain ⟨ce, hce1, hce2, hce3, hce4⟩ := Kd.R_elem hrw [] (m : Int) p2 p3
        rw [Int.toNat_natCast, hst.2] at hce2
        obtain ⟨As, cs, hcs, hcs2, hcs3⟩ := Kd.mix_read (d := k48) (dm := k48) rfl (fun _ _ h => h) HBW.out.2 ((kPart w).K_of_M hce2)
        subst hcs
        have e1 : wr.cell? ⟨g, m, none⟩ = some (.slice As x.length cs) := by
          have := hce3 0 _ rfl
          rw [Int.toNat_natCast, show m * (kPart w).sz + 0 = m from by show m * 1 + 0 = m; omega] at this
          exact this
        have E2 := Aside0.mk hcs2
        have E3 := Aside0.mk (Kd.C_drew hcs3)
        have HF := Aside0.mk hx2
        have HX3 := Aside0.mk hx3
        have HX1 := Aside0.mk hx1
        have HCE := Aside0.mk hce2
        replace HRW := Aside0.mk hrw
        have HG1 := Aside0.mk hg1
        have HG2 := Aside0.mk hg2
        have HG3 := Aside0.mk hg3
        clear hq hx1 hx2 hx3 hrw hg1 hg2 hg3 hNn hcc hNl hml hst hce1 hce2 hce3 hce4 hcs2 hcs3
        gi_wp2
        rename_i hK
        refine startWP_ (n := 10) (S := fun w' => w'.cell? ⟨w.heap.size, 0, none⟩ = some (.slice (some ⟨g, 0, none⟩) N c9) ∧ w'.cell? ⟨g, m, none⟩ = some (.slice As x.length cs)) (ds := [9]) #[false, false, false, false, false, false, false, false, false, false] (by kernel_rfl) rfl rfl (fun _ _ h => by obtain ⟨v, hv, _⟩ := h; cases hv) (by kernel_rfl) ⟨cL, e1⟩ (fun hHeld => ?_)
        refine with_tabW sqk.tab sqk.bits (fun HT_ HW_ => ?_)
        refine take_ (i := 0) (N := some 27) (v := ?_) (a' := ?_) #[true, false, false, false, false, false, false, false, false, false] rfl rfl (take_ofW HT_.out HW_.out (by kernel_rfl)) (fun _ _ _ h => h) (Or.inl ⟨by rfl, ?_⟩) hHeld ?_ ?_
        rotate_left
        · rintro w' ⟨s0, s1⟩
          go_simp
          with_reducible rfl
        rotate_left
        · simp only [Act.put, List.setIfInBounds_toArray, List.set_cons_zero, List.set_cons_succ, i64_w, i32_w]
          rfl
        refine pure_ (i := 1) (N := some 28) (v := ?_) (a' := ?_) #[true, true, false, false, false, false, false, false, false, false] rfl rfl (any_of HT_.out (by kernel_rfl)) (fun _ _ _ h => h) (Or.inl ⟨by rfl, ?_⟩) ?_ ?_
        rotate_left
        · intro w'
          go_simp
          with_reducible rfl
        rotate_left
        · simp only [Act.put, List.setIfInBounds_toArray, List.set_cons_zero, List.set_cons_succ, i64_w, i32_w]
          rfl
        refine take_ (i := 2) (N := some 29) (v := ?_) (a' := ?_) #[true, true, true, false, false, false, false, false, false, false] rfl rfl (take_ofW HT_.out HW_.out (by kernel_rfl)) (fun _ _ _ h => h) (Or.inl ⟨by rfl, ?_⟩) hHeld ?_ ?_
        rotate_left
        · rintro w' ⟨s0, s1⟩
          go_simp
          with_reducible rfl
        rotate_left
        · simp only [Act.put, List.setIfInBounds_toArray, List.set_cons_zero, List.set_cons_succ, i64_w, i32_w]
          rfl
        refine pure_ (i := 3) (N := some 30) (v := ?_) (a' := ?_) #[true, true, true, true, false, false, false, false, false, false] rfl rfl (any_of HT_.out (by kernel_rfl)) (fun _ _ _ h => h) (Or.inl ⟨by rfl, ?_⟩) ?_ ?_
        rotate_left
        · intro w'
          go_simp
          with_reducible rfl
        rotate_left
        · simp only [Act.put, List.setIfInBounds_toArray, List.set_cons_zero, List.set_cons_succ, i64_w, i32_w]
          rfl
        refine pure_ (i := 4) (N := some 31) (v := ?_) (a' := ?_) #[true, true, true, true, true, false, false, false, false, false] rfl rfl (any_of HT_.out (by kernel_rfl)) (fun _ _ _ h => h) (Or.inl ⟨by rfl, ?_⟩) ?_ ?_
        rotate_left
        · intro w'
          go_simp
          with_reducible rfl
        rotate_left
        · simp only [Act.put, List.setIfInBounds_toArray, List.set_cons_zero, List.set_cons_succ, i64_w, i32_w]
          rfl
        refine take_ (i := 5) (N := some 32) (v := ?_) (a' := ?_) #[true, true, true, true, true, true, false, false, false, false] rfl rfl (take_ofW HT_.out HW_.out (by kernel_rfl)) (fun _ _ _ h => h) (Or.inl ⟨by rfl, ?_⟩) hHeld ?_ ?_
        rotate_left
        · rintro w' ⟨s0, s1⟩
          go_simp
          with_reducible rfl
        rotate_left
        · simp only [Act.put, List.setIfInBounds_toArray, List.set_cons_zero, List.set_cons_succ, i64_w, i32_w]
          rfl
        refine pure_ (i := 6) (N := some 33) (v := ?_) (a' := ?_) #[true, true, true, true, true, true, true, false, false, false] rfl rfl (any_of HT_.out (by kernel_rfl)) (fun _ _ _ h => h) (Or.inl ⟨by rfl, ?_⟩) ?_ ?_
        rotate_left
        · intro w'
          go_simp
          with_reducible rfl
        rotate_left
        · simp only [Act.put, List.setIfInBounds_toArray, List.set_cons_zero, List.set_cons_succ, i64_w, i32_w]
          rfl
        refine one_ (i := 7) (N := some 34) #[true, true, true, true, true, true, true, true, false, false] rfl rfl (one_of HT_.out (by kernel_rfl)) (by decide) (fun K hK => ?_)
        refine goes_ Try.func62 (by kernel_rfl) rfl #[.slice As x.length cs, .bool b] (by rfl) rfl rfl (by (try simp only [List.map_toArray, List.map_cons, List.map_nil]); first | done | rfl) ?_
        refine (impl_squashClass.calls As cs x b r' _ E3.out E2.out HF.out).mono ?_
        rintro e w2 ⟨v0, rfl, hv0, hb⟩
        refine ⟨_, rfl, ?_⟩
        have hBd : Below wr.heap.size wr w2 := (Below.refl _ _).drew.trans hb
        obtain ⟨Av, nv, cv, hvv⟩ : ∃ (A : Option Addr) (n c : Nat), v0 = .slice A n c := by
          rcases hv0 with ⟨h, _⟩ | h
          · exact ⟨_, _, _, h⟩
          · obtain ⟨A, c, h⟩ := Kd.R_slice h
            exact ⟨A, _, c, h⟩
        subst hvv
        have hnv : nv = r'.length := by
          rcases hv0 with ⟨h, h'⟩ | h
          · injection h with _ h _
            rw [h, h']
          · obtain ⟨A, c, h⟩ := Kd.R_slice h
            injection h
        have HW2 := Aside0.mk hBd
        have HNV := Aside0.mk hnv
        have HV0 := Aside0.mk hv0
        have bcs : ∀ {q : Addr} {v : Value}, wr.cell? q = some v → w2.cell? q = some v := fun h => (hBd.cell (World.block_lt_of_cell? _ _ h)).trans h
        have z2 := bcs cL
        have y2 := bcs e1
        have hR2 := Kd.R_below HRW.out hBd
        have hf2 := Kd.R_elem hR2 [] (m : Int) p2 p3
        have fz2 : w2.frozen? ⟨g, m, none⟩ = false := by
          obtain ⟨c, _, _, _, hz⟩ := hf2
          have := hz 0
          rw [Int.toNat_natCast, show m * (kPart w).sz + 0 = m from by show m * 1 + 0 = m; omega] at this
          exact this
        have HR2 := Aside0.mk hR2
        clear hb hBd hnv hv0 hR2 hf2
        refine hK.out _ _ ⟨z2, y2⟩ (fun hHeld => ?_)
        clear hK K
        refine norm_ (a' := ?_) ?_ ?_
        rotate_left
        · show Act.put _ (some 34) _ = _
          simp only [Act.put, List.setIfInBounds_toArray, List.set_cons_zero, List.set_cons_succ, i64_w, i32_w]
          rfl
        refine pure_ (i := 8) (N := some 35) (v := ?_) (a' := ?_) #[true, true, true, true, true, true, true, true, true, false] rfl rfl (any_of HT_.out (by kernel_rfl)) (fun _ _ _ h => h) (Or.inl ⟨by rfl, ?_⟩) ?_ ?_
        rotate_left
        · intro w'
          go_simp
          with_reducible rfl
        rotate_left
        · simp only [Act.put, List.setIfInBounds_toArray, List.set_cons_zero, List.set_cons_succ, i64_w, i32_w]
          rfl
        refine last_ (i := 9) (N := none) #[true, true, true, true, true, true, true, true, true, true] rfl rfl (one_of HT_.out (by kernel_rfl)) (by decide) (fun K hK => ?_)
        refine skip_ (w1 := w2.setCell ⟨g, m, none⟩ (.slice Av nv cv)) (by rfl) rfl ?_ ?_
        · go_simp
          try rfl
        refine hK.out _ _ ?_
        clear hK K
        refine done_ (done_of HT_.out (by kernel_rfl)) ?_
        refine np_normal ?_
        have hsz1 : m * (kPart w).sz + 0 = m := by show m * 1 + 0 = m; omega
        have hsz2 : (m : Int).toNat * (kPart w).sz + 0 = m := by rw [Int.toNat_natCast]; exact hsz1
        have hM : (kPart w).M w2 W0.heap.size (fun k => k ≠ g) r' (([.slice As x.length cs] : List Value).take 0 ++ [.slice Av nv cv] ++ ([.slice As x.length cs] : List Value).drop (0 + 1)) := by
          show (kPart w).M w2 W0.heap.size (fun k => k ≠ g) r' [.slice Av nv cv]
          rcases HV0.out with ⟨h, h'⟩ | h
          · rw [h, h']
            exact (kPart w).M_mono (fun k hk => hk.2) (Kd.M_below HCE.out HW2.out)
          · have hgs := HG2.out
            exact Kd.mix_made (Kd.R_lower (Kd.R_mono (Kd.R_bound h) (fun k hk => by have h9 : wr.heap.size ≤ k := hk.2.1; omega)) HBW.out.1)
        have hseg := Kd.R_seg HR2.out (m : Int) p2 p3 (c := [.slice As x.length cs]) (seg := [.slice Av nv cv]) (j := 0) (okp := fun k => k ≠ g) rfl (fun j u hj => by
          cases j with
          | zero => rw [hsz2]; injection hj with hj; rw [← hj]; exact y2
          | succ j => simp at hj) (Nat.le_refl _) hM (fun k hk => ⟨trivial, hk⟩)
        rw [hsz2, Int.toNat_natCast, HST.out.1] at hseg
        have hW5 : w2.setCells g m [.slice Av nv cv] = w2.setCell ⟨g, m, none⟩ (.slice Av nv cv) := rfl
        rw [hW5] at hseg
        have HR5 := Aside0.mk hseg.1
        have hgne : w.heap.size ≠ g := by have h1 := HG1.out; have h2 := HSZ.out; omega
        have hBX2 := (HW2.out.block _ (blk_lt HBX.out)).trans HBX.out
        have hDne : D ≠ g := by
          rintro rfl
          have h1 := HG3.out
          rw [HDK.out] at h1
          cases h1
        have hB2 : Below w.heap.size w w2 := HBW.out.2.trans (HW2.out.mono HBW.out.2.size)
        have hB5 := (Below.heap_setCell w2 ⟨g, m, none⟩ (.slice Av nv cv) w.heap.size hgne).trans hBX2
        have hD5 := (Below.heap_setCell w2 ⟨g, m, none⟩ (.slice Av nv cv) D hDne).trans ((HW2.out.block _ (blk_lt HDK.out)).trans HDK.out)
        have hBB5 := hB2.setCell (p := ⟨g, m, none⟩) (show w.heap.size ≤ g from Nat.le_trans HB0.out.size HG1.out) (.slice Av nv cv)
        have hs5 : W0.heap.size ≤ (w2.setCell ⟨g, m, none⟩ (.slice Av nv cv)).heap.size := Nat.le_trans HBW.out.1 (Nat.le_trans HW2.out.size (by simp))
        have he5 : (w2.setCell ⟨g, m, none⟩ (.slice Av nv cv)).cell? ⟨g, m, none⟩ = some (.slice Av nv cv) := by go_simp
        obtain ⟨W5, hW6⟩ : ∃ W5, w2.setCell ⟨g, m, none⟩ (.slice Av nv cv) = W5 := ⟨_, rfl⟩
        rw [hW6] at hB5 hD5 hBB5 hs5 he5 HR5 ⊢
        have HB5 := Aside0.mk hB5
        have HD5 := Aside0.mk hD5
        have HBB5 := Aside0.mk (And.intro hs5 hBB5)
        have c5 := (blk_cell hB5 0).trans (show _ = some (Value.slice (some ⟨g, 0, none⟩) N c9) from rfl)
        have HJ2 := Aside0.mk (Nat.le_of_succ_le HJ.out.2.1)
        clear hsz1 hsz2 hM hseg hW5 hgne hBX2 hDne hB2 hB5 hD5 hBB5 hs5 hW6 HR2 HV0 HW2 HCE HRW HST HDK HBX HBW HF E2 E3 HX1 HJ HG1 HG2 HG3 fz2 y2 z2 bcs hHeld HT_ HW_ cL e1
        cases b with
        | false =>
          gi_wp2
          exact ⟨⟨m, r' :: rs, false, (m : Int) - 1, rfl, congrArg _ p2', ⟨rfl, HJ2.out, by rw [HX3.out, Bool.false_and]⟩, HB5, HR5, HBB5, HD5⟩, by rw [p2']; exact sqk_me⟩
        | true =>
          gi_wp2
          have hbb : ((nv : Int) == 0) = (true && decide (r'.length = 0)) := by rw [HNV.out, Bool.true_and, Bool.eq_iff_iff, beq_iff_eq, decide_eq_true_iff]; omega
          exact ⟨⟨m, r' :: rs, true && decide (r'.length = 0), (m : Int) - 1, congrArg _ hbb, congrArg _ p2', ⟨rfl, HJ2.out, HX3.out⟩, HB5, HR5, HBB5, HD5⟩, by rw [p2']; exact sqk_me⟩
  case stop =>
    rintro D c pre W _ _ h _
    exact h.elim
end

end Go.Proofs.Ytcfebbhiehaocaa.QFnSquashTwice

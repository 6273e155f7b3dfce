/- What the law FnExactBookSides reaches, function by function: what each computes, and that the machine's call comes to it. Laid by a program. -/
import Derived.Test.YteijmkjfgieciaaQFnExactBookSidesx0
import Derived.Test.YteijmkjfgieciaaQFnExactBookSidesx7
import Derived.Test.YteijmkjfgieciaaQFnExactBookSidesx8
namespace Go.Proofs.Yteijmkjfgieciaa.QFnExactBookSides
open Go.RowKit Go.Proofs.YteijmkjfgieciaaW.PrintWords Go.Proofs.YteijmkjfgieciaaW.PrintLast Go.Proofs.YteijmkjfgieciaaW.PrintMore
attribute [local go_sem] max2_int min2_int max_two min_two max_three min_three max_four min_four   -- for this text's walks alone
set_option linter.unusedVariables false
set_option linter.unusedSimpArgs false

/-! ### impl_ledger_check: function 65 -/
section
attribute [local go_sem] Oper.semAt_some
/-! #### A region that draws its order, within a round of a range over a function -/
theorem rowsIn_wide {n : Nat} {P : Program} {row : String} {args : Array Value} {w : World} {R : Value → World → Prop} (h : Rows P row args w R) : RowsIn Fence.wide n P row args w R :=
  fun c cs _ => let ⟨v, w', r, s⟩ := h c cs; ⟨v, w', r, stepsIn_wide.2 s⟩
theorem upon_round {P : Program} {o : Oper} {a : Act} {K K' : Act → World → Prop} {Q : Exit → Act → World → Prop} {l n : Nat} (_hout : ∀ a w, ¬ Q .outgrown a w) (hK : ∀ a w, K a w → K' a w) (r : Result Next) (h : o.upon P a K Q r) :
    o.uponIn (Fence.wide.inRound l) n P a K' Q r := by
  cases r with
  | ok x w' =>
    cases x <;> simp only [Oper.upon, Oper.uponIn] at h ⊢ <;> first
      | exact hK _ _ h
      | exact h.elim
      | (refine ⟨(fun h => by cases h), CallsIn.inRound l (callsIn_wide.2 (Calls.mono h ?_))⟩
         intro e w'' he
         cases e with
         | returned v => exact hK _ _ he
         | panicked c => exact he
         | outgrown => exact he)
      | exact ⟨(fun h => by cases h), rowsIn_wide (Rows.mono h (fun v w'' he => hK _ _ he))⟩
  | halt x w' => cases x <;> simp only [Oper.upon, Oper.uponIn] at h ⊢ <;> exact h
def noDefer (ops : Array Oper) : Bool := ops.all fun o => match o.op with | .defer _ => false | _ => true
theorem noDefer_at {ops : Array Oper} (h : noDefer ops = true) {i : Nat} {o : Oper} (hi : ops[i]? = some o) : ∀ c, o.op ≠ .defer c := by
  intro c hc
  have hm : o ∈ ops := Array.mem_of_getElem? hi
  have := Array.all_eq_true_iff_forall_mem.1 h o hm
  rw [hc] at this
  cases this
theorem wpAny_round {P : Program} {md : Region.Mode} {ops : Array Oper} {Q : Exit → Act → World → Prop} {l n : Nat} (hout : ∀ a w, ¬ Q .outgrown a w) (hnd : noDefer ops = true) : ∀ (fuel : Nat) (listed : Array Bool) (a : Act) (w : World), wpAny P md ops Q fuel listed a w → wpAnyIn (Fence.wide.inRound l) n P md ops Q fuel listed a w
  | 0, _, _, _, h => h
  | fuel + 1, listed, a, w, h => by
    refine ⟨h.1, fun i hi => ?_⟩
    have h2 := h.2 i hi
    unfold wpOp at h2
    unfold wpOpIn
    cases ho : ops[i]? with
    | none =>
      rw [ho] at h2
      exact wpAny_round hout hnd fuel _ _ _ h2
    | some o =>
      rw [ho] at h2
      simp only at h2 ⊢
      split
      · rename_i hw
        rw [if_pos hw] at h2
        rcases h2 with h2 | ⟨_, a', w', h3⟩
        · refine ⟨fun _ _ => trivial, ?_⟩
          rw [Oper.semAt_eq _ _ _ (noDefer_at hnd ho)]
          exact upon_round hout (fun a' w' h' => wpAny_round hout hnd fuel _ a' w' h') _ h2
        · exact absurd h3 (hout a' w')
      · rename_i hw
        rw [if_neg hw] at h2
        exact ⟨fun _ _ => trivial, wpAny_round hout hnd fuel _ _ _ h2⟩
/-- A region that draws its order, within a round of a range over a function: as 'start_'. -/
theorem startR_ {P : Program} {ops : Array Oper} {Q : Exit → Act → World → Prop} {S : World → Prop} {ds : List Nat} {id n N l : Nat} {a : Act} {w : World} (L : Array Bool) (hm : P.follows .mixedOrders = true) (hn : ops.size = n) (hl : Array.replicate n false = L) (hout : ∀ a w, ¬ Q .outgrown a w) (hnd : noDefer ops = true) (hS : S w.drew)
    (h : S w.drew → wpAnyLast P .any ops Q S ds n L a w.drew) : (Code.region id ops true).wpIn (Fence.wide.inRound l) N P Q a w := by
  subst hn
  subst hl
  exact wpIn_region_any hm (wpAny_round hout hnd _ _ _ _ (wpAny_of_last _ _ _ _ (h hS)))
/-! #### Keys that are an account and a currency -/
theorem laidOut_ : laidOutB Try.prog = true := by kernel_rfl
theorem side_law : WideMaps.KeyLaw Try.prog 75 := deep_law_gate laidOut_ (of_decide_eq_true (by kernel_rfl)) (of_decide_eq_true (by kernel_rfl)) (by kernel_rfl) (by kernel_rfl)
theorem side_keyed : Maps.Keyed Try.prog 75 := Maps.Keyed.of_law side_law
def sideLit (s : ByteArray) (c : Int) : Lit := .string (keyBytes [.string s.data.toList, .int .i64 c])
theorem lits_string {P : Program} {t : TypeId} (h : P.underlying t = some .string) (m : Nat) (s : ByteArray) (hs : s.size ≤ maxLen) : P.keyLits (m + 1) t [.string s] = some [.string s.data.toList] := by simp [Program.keyLits, h, hs]
theorem lits_int {P : Program} {t : TypeId} {q : IntKind} (h : P.underlying t = some (.int q)) (m : Nat) (c : Int) (hc : (Lit.int q c).wf = true) : P.keyLits (m + 1) t [.int q c] = some [.int q c] := by simp [Program.keyLits, h, hc]
theorem lits_pair {P : Program} {t a b : TypeId} {f g : Field} (h : P.underlying t = some (.struct #[f, g])) (hf : f.type = a) (hg : g.type = b) (of : f.offset = 0) (og : g.offset = 1) (nf : (f.name != "_") = true) (ng : (g.name != "_") = true) (ct : P.cellsOf t = 2) (ca : P.cellsOf a = 1) (cb : P.cellsOf b = 1)
    (m : Nat) (x y : Value) {l r : List Lit} (hx : P.keyLits m a [x] = some l) (hy : P.keyLits m b [y] = some r) : P.keyLits (m + 1) t [x, y] = some (l ++ r) := by
  subst hf hg
  simp [Program.keyLits, h, ct, of, og, ca, cb, hx, hy, nf, ng]
theorem keyOf_struct {P : Program} {t : TypeId} {fs : Array Field} (h : P.underlying t = some (.struct fs)) (hk : P.keyType t = true) {cs : Array Value} (hs : cs.size = P.cellsOf t) {l : List Lit} (hl : P.keyLits (P.types.size + 1) t cs.toList = some l) : keyOf P t (.agg cs) = some (.string (keyBytes l)) := by
  unfold keyOf
  simp [h, hk, Value.formed, hs, Value.cells, hl]
theorem side_key (s : ByteArray) (c : Int) (hs : s.size ≤ maxLen) (hc : (Lit.int .i64 c).wf = true) : keyOf Try.prog 75 (.agg #[.string s, .int .i64 c]) = some (sideLit s c) := by
  refine keyOf_struct Try.underlying75 (by kernel_rfl) (by rw [show Try.prog.cellsOf 75 = 2 by kernel_rfl]; rfl) ?_
  obtain ⟨m, hm⟩ : ∃ m, Try.prog.types.size = m + 1 := Nat.exists_eq_succ_of_ne_zero (Nat.pos_iff_ne_zero.1 (of_decide_eq_true (by kernel_rfl)))
  rw [hm]
  exact lits_pair Try.underlying75 rfl rfl rfl rfl (by decide) (by decide) (by kernel_rfl) (by kernel_rfl) (by kernel_rfl) _ _ _ (lits_string Try.underlying9 _ _ hs) (lits_int Try.underlying3 _ _ hc)
theorem sideLit_inj {s t : ByteArray} {c d : Int} (hs : s.size ≤ maxLen) (ht : t.size ≤ maxLen) (hc : (Lit.int .i64 c).wf = true) (hd : (Lit.int .i64 d).wf = true) (h : sideLit s c = sideLit t d) : s = t ∧ c = d := by
  have h1 := side_key s c hs hc
  have h2 := side_key t d ht hd
  rw [h] at h1
  have h3 := side_keyed.inj h1 h2
  simpa using h3
theorem sideLit_key {s : ByteArray} {c : Int} (hs : s.size ≤ maxLen) (hc : (Lit.int .i64 c).wf = true) : WideAt.IsKeyLit (sideLit s c) := side_keyed.key (side_key s c hs hc)
theorem IntMap.look {W : World} {K B n : Nat} {f : Lit → Int} (h : IntMap W K B n f) {t : TypeId} (hK : Maps.Keyed Try.prog K) (ht : Try.prog.underlying t = some (.map K 3)) {key : Value} {kl : Lit} (hkey : keyOf Try.prog K key = some kl) :
    (Instr.lookup t (.map (some B)) key false).run Try.prog W = .ok (.int .i64 (f kl)) W := by
  obtain ⟨D, h1, h2, h3⟩ := h
  obtain ⟨c, hr, hat, hw⟩ := h1.lookup_int hK ht Try.underlying3 (Try.zeroValue3 _) hkey
  obtain rfl := int_of_at h3 hat
  exact hr
theorem IntMap.drew {W : World} {K B n : Nat} {f : Lit → Int} (h : IntMap W K B n f) : IntMap W.drew K B n f := h
theorem IntMap.below {W W' : World} {K B n N : Nat} {f : Lit → Int} (h : IntMap W K B n f) (hb : Below N W W') (hB : B < N) : IntMap W' K B n f := by
  obtain ⟨D, ⟨es, ck, h1, h4⟩, h2, h3⟩ := h
  exact ⟨D, ⟨es, ck, (hb.block B hB).trans h1, h4⟩, h2, h3⟩
theorem bcell {W w1 : World} (hb : Below W.heap.size W w1) : (∀ b o, b < W.heap.size → w1.cell? ⟨b, o, none⟩ = W.cell? ⟨b, o, none⟩) ∧ (∀ b o, b < W.heap.size → w1.frozen? ⟨b, o, none⟩ = W.frozen? ⟨b, o, none⟩) :=
  ⟨fun b o h => hb.cell (p := ⟨b, o, none⟩) h, fun b o h => hb.frozen (p := ⟨b, o, none⟩) h⟩
theorem results_err {fn : Func} {p : Tmp} (h : fn.results = #[.cell p 101]) (tmps : Array Value) (w : World) (g : Nat) (v : Value) (hp : tmps.getD p undef = .pointer (some ⟨g, 0, none⟩)) (hc : w.cell? ⟨g, 0, none⟩ = some v) :
    (results fn tmps).run Try.prog w = .ok v w := by
  have hp' : tmps[p]?.getD undef = .pointer (some ⟨g, 0, none⟩) := by simpa using hp
  simp [results, h, go_sem, hp', hc]
/-- How posting ends, as the machine holds it. -/
def errV (r : Int) : Value := if r = 0 then .nilIface else .iface 121 (.agg #[.int .i64 r])
/-- A leg whose text is no longer than texts are, and whose currency is a number of the machine's. -/
abbrev LegW := { x : S77 // x.f0.size ≤ maxLen ∧ (Lit.int .i64 x.f1).wf = true }
/-- Whether a leg brings its account too far. -/
def farB (f2 : Lit → Int) (sel : List S77) (x : S77) : Bool := decide (wrap64 (f2 (sideLit x.f0 x.f1) + sumTo x.f0 x.f1 sel) > 2000) || decide (wrap64 (f2 (sideLit x.f0 x.f1) + sumTo x.f0 x.f1 sel) < -2000)
def overB (f2 : Lit → Int) (sel ys : List S77) : Bool := ys.any (farB f2 sel)
theorem overB_snoc (f2 : Lit → Int) (sel pre : List S77) (x : S77) : overB f2 sel (pre ++ [x]) = (overB f2 sel pre || farB f2 sel x) := by simp [overB]
def codeB (f1 f2 : Lit → Int) (cnt id : Int) (fair : Bool) (sel : List S77) : Int :=
  if fair = true then (if f1 (.int .i64 id) > 0 then 2 else if overB f2 sel sel = true then 3 else if cnt ≥ 40 then 4 else 0) else 1
set_option maxRecDepth 100000 in
set_option maxHeartbeats 4000000 in
theorem check_calls (k : Nat) (G B1 B2 n1 n2 : Nat) (cnt : Int) (f1 f2 : Lit → Int) (id : Int) (A : Option Addr) (c : Nat) (xs : List LegW) (w : World) (hG : w.heap[G]? = some (.cells #[.int .i64 cnt, .map (some B1), .map (some B2)] 73 (0, 0))) (m1 : IntMap w 3 B1 n1 f1) (m2 : IntMap w 75 B2 n2 f2)
    (hr0 : Kd.C k77 w A xs.length (xs.map (fun y : LegW => y.1))) (hc0 : xs.length ≤ c) (hid : (Lit.int .i64 id).wf = true) (hmax : xs.length ≤ 1048576) (fair ok : Bool) (hfair : impl_PostFair.f k id (xs.map (fun y : LegW => y.1)) = some fair) (hok : impl_PostOk.f k id (xs.map (fun y : LegW => y.1)) = some ok) (sel : List S77) (hsel : selLegs ok (xs.map (fun y : LegW => y.1)) = sel) (r : Int) (h : r = codeB f1 f2 cnt id fair sel) :
    Calls Try.prog 65 #[.pointer (some ⟨G, 0, none⟩), .agg #[.int .i64 id, .slice A xs.length c]] w fun e w' => e = .returned (errV r) ∧ Below w.heap.size w w' := by
  refine (callsIn_wide (n := 6)).1 ?_
  refine callsIn_of_wp_marks Try.func65 rfl trivial ?_ rfl
  simp only [Try.ntmps65, List.size_toArray, List.length_cons, List.length_nil, Nat.reduceAdd, Nat.reduceSub, Array.replicate_succ, Array.replicate_zero, List.push_toArray, List.append_toArray, List.nil_append, List.cons_append]
  have HR := Aside0.mk hr0
  have HC := Aside0.mk hc0
  have HF := Aside0.mk hfair
  have HX := Aside0.mk hmax
  have HOK := Aside0.mk hok
  have HSEL := Aside0.mk hsel
  have hcnt : w.cell? ⟨G, 0, none⟩ = some (.int .i64 cnt) := (cell_of_row w _ 0 _ _ _ hG).trans rfl
  have hb1 : w.cell? ⟨G, 1, none⟩ = some (.map (some B1)) := (cell_of_row w _ 1 _ _ _ hG).trans rfl
  have hb2 : w.cell? ⟨G, 2, none⟩ = some (.map (some B2)) := (cell_of_row w _ 2 _ _ _ hG).trans rfl
  have HG := Aside0.mk hG
  have cPF : ∀ W, Below w.heap.size w W → Calls Try.prog 83 #[.agg #[.int .i64 id, .slice A xs.length c]] W fun e w' => e = .returned (.bool fair) ∧ Below W.heap.size W w' := by
    intro W hW
    have h := impl_PostFair.calls k id A c (xs.map (fun y : LegW => y.1)) fair W (by rw [List.length_map]; exact Kd.C_below HR.out hW) (by rw [List.length_map]; exact HC.out) hfair
    rw [List.length_map] at h
    exact h
  have CPF := Aside0.mk cPF
  clear hr0 hc0 hfair hG hmax hok hsel cPF
  have HN := Aside0.mk h
  clear h
  have hlt : ∀ {b : Nat} {cs : Array Value} {t : TypeId} {fr : Nat × Nat}, w.heap[b]? = some (.cells cs t fr) → b < w.heap.size := fun h => (Array.getElem?_eq_some_iff.1 h).1
  have hGl := hlt HG.out
  have hB1l := m1.lt
  have hB2l := m2.lt
  have HM1 := Aside0.mk m1
  have HM2 := Aside0.mk m2
  clear m1 m2 hlt
  cases fair with
  | false =>
    have er : r = 1 := by simpa [codeB] using HN.out
    subst er
    gi_wp2_with (refine ⟨trivial, ?_⟩; gi_at_call 83; refine (callsIn_wide.2 (CPF.out _ ?hB1)).mono ?_; (case hB1 => exact (((Below.refl _ w).alloc (Nat.le_refl _) _).alloc (by simp) _).alloc (by simp; omega) _); rintro e w1 ⟨rfl, hb⟩; obtain ⟨hc1, hf1⟩ := bcell hb)
    refine ⟨_, results_err rfl _ _ _ _ rfl (World.cell?_setCell_same' _ _ _ (by rw [hc1 _ _ (by simp)]; simp [go_sem])), rfl, ?_⟩
    exact (((((Below.refl _ w).alloc (Nat.le_refl _) _).alloc (by simp) _).alloc (by simp; omega) _).trans (hb.mono (by simp; omega))).setCell (by simp; omega) _
  | true =>
    gi_wp2_with (refine ⟨trivial, ?_⟩; gi_at_call 83; refine (callsIn_wide.2 (CPF.out _ ?hB1)).mono ?_; (case hB1 => exact (((Below.refl _ w).alloc (Nat.le_refl _) _).alloc (by simp) _).alloc (by simp; omega) _); rintro e w1 ⟨rfl, hb⟩; obtain ⟨hc1, hf1⟩ := bcell hb)
    have HB1 : Below w.heap.size w w1 := ((((Below.refl _ w).alloc (Nat.le_refl _) _).alloc (by simp) _).alloc (by simp; omega) _).trans (hb.mono (by simp; omega))
    have l1 := (IntMap.below HM1.out HB1 hB1l).drew.look (Maps.int_keyed Try.underlying3) Try.underlying70 (Maps.keyOf_int_mk Try.underlying3 hid)
    have c0 := (HB1.cell (p := ⟨G, 0, none⟩) hGl).trans hcnt
    have c1 := (HB1.cell (p := ⟨G, 1, none⟩) hGl).trans hb1
    have c2 := (HB1.cell (p := ⟨G, 2, none⟩) hGl).trans hb2
    by_cases hf : f1 (.int .i64 id) > 0
    · have er : r = 2 := by have h := HN.out; unfold codeB at h; rw [if_pos rfl, if_pos hf] at h; exact h
      subst er
      have hf' : (0 : Int) < f1 (.int .i64 id) := hf
      have hfd : decide ((0 : Int) < f1 (.int .i64 id)) = true := decide_eq_true hf'
      clear hf
      gi_region
      gi_wp2
      refine ⟨_, results_err rfl _ _ _ _ rfl (World.cell?_setCell_same' _ _ _ (by rw [hc1 _ _ (by simp)]; simp [go_sem])), rfl, ?_⟩
      exact HB1.drew.setCell (by simp; omega) _
    · have hfd : decide ((0 : Int) < f1 (.int .i64 id)) = false := decide_eq_false hf
      have HFN := Aside0.mk hf
      clear hf
      gi_region
      gi_wp2_with (refine ⟨trivial, ?_⟩; gi_at_call 47; refine (callsIn_wide.2 (legsOf_calls id A _ c _)).mono ?_; rintro e w' ⟨rfl, rfl⟩)
      have hb' : Below (w.heap.size + 1 + 1 + 1) (((w.alloc (.cells #[.pointer (some ⟨G, 0, none⟩)] 67)).alloc (.cells #[.int .i64 id, .slice A xs.length c] 52)).alloc (.cells #[.nilIface] 101)) w1 := by simpa using hb
      have bR : Boxed w1 (w.heap.size + 1 + 1) 101 .nilIface := (hb'.block _ (by omega)).trans (by have h := heap_alloc_new ((w.alloc (.cells #[.pointer (some ⟨G, 0, none⟩)] 67)).alloc (.cells #[.int .i64 id, .slice A xs.length c] 52)) (.cells #[.nilIface] 101); simpa using h)
      have bP : w1.heap[w.heap.size + 1]? = some (.cells #[.int .i64 id, .slice A xs.length c] 52) := (hb'.block _ (by omega)).trans ((Below.heap_alloc _ _ _ (by simp)).trans (by have h := heap_alloc_new (w.alloc (.cells #[.pointer (some ⟨G, 0, none⟩)] 67)) (.cells #[.int .i64 id, .slice A xs.length c] 52); simpa using h))
      have bG : w1.heap[w.heap.size]? = some (.cells #[.pointer (some ⟨G, 0, none⟩)] 67) := (hb'.block _ (by omega)).trans ((Below.heap_alloc _ _ _ (by simp; omega)).trans ((Below.heap_alloc _ _ _ (by simp)).trans (by have h := heap_alloc_new w (.cells #[.pointer (some ⟨G, 0, none⟩)] 67); simpa using h)))
      have hs1 : w.heap.size + 1 + 1 + 1 ≤ w1.heap.size := by have := hb.size; simp at this; omega
      have hq := heap_alloc_new w1 (.cells #[.int .i64 id, .slice A xs.length c] 52)
      have hBW : Below w1.heap.size w1 ((w1.alloc (.cells #[.int .i64 id, .slice A xs.length c] 52)).drew) := ((Below.refl _ w1).alloc (Nat.le_refl _) _).drew
      have hsz : ((w1.alloc (.cells #[.int .i64 id, .slice A xs.length c] 52)).drew).heap.size = w1.heap.size + 1 := by simp [World.drew]
      replace hq : ((w1.alloc (.cells #[.int .i64 id, .slice A xs.length c] 52)).drew).heap[w1.heap.size]? = some (.cells #[.int .i64 id, .slice A xs.length c] 52) := hq
      obtain ⟨W0, hW0⟩ : ∃ W0, (w1.alloc (.cells #[.int .i64 id, .slice A xs.length c] 52)).drew = W0 := ⟨_, rfl⟩
      rw [hW0] at hBW hsz hq ⊢
      clear hW0 l1 hb hb' hc1 hf1 c0 c1 c2
      have hB0 : Below w.heap.size w W0 := HB1.trans (hBW.mono (by omega))
      have hc0 : W0.cell? ⟨w1.heap.size, 0, none⟩ = some (.int .i64 id) := (cell_of_row W0 _ 0 _ _ _ hq).trans rfl
      have hc1 : W0.cell? ⟨w1.heap.size, 1, none⟩ = some (.slice A xs.length c) := (cell_of_row W0 _ 1 _ _ _ hq).trans rfl
      have bR0 : Boxed W0 (w.heap.size + 1 + 1) 101 .nilIface := (hBW.block _ (by omega)).trans bR
      have bP0 : W0.heap[w.heap.size + 1]? = some (.cells #[.int .i64 id, .slice A xs.length c] 52) := (hBW.block _ (by omega)).trans bP
      have bG0 : W0.heap[w.heap.size]? = some (.cells #[.pointer (some ⟨G, 0, none⟩)] 67) := (hBW.block _ (by omega)).trans bG
      clear bR bP bG hq
      have HSZ := Aside0.mk hsz
      clear hsz
      refine wpIn_rangeFunc_ownH rfl (by omega) (gf := 68) (lb := #[.pointer (some ⟨w1.heap.size, 0, none⟩)]) rfl trivial (enters_of Try.func68 (by kernel_rfl) rfl)
        (legsOf_stops _ (by omega) (fun y : LegW => y.1) w1.heap.size k id A c xs w W0 HR.out HC.out ok HOK.out hB0 (by have := HSZ.out; omega) hc0 hc1) belowK_t (belowK_b (by have := HSZ.out; omega)) (Below.refl _ _) (fun _ => rfl)
        (fun pre W => (overB f2 sel (pre.map (fun y : LegW => y.1)) = false) ∧ Below W0.heap.size W0 W)
        (fun c pre W => (c = .ret ∧ overB f2 sel (pre.map (fun y : LegW => y.1)) = true) ∧ (Boxed W (w.heap.size + 1 + 1) 101 (errV 3) ∧ Below w.heap.size w W))
        (OwnFrom.and (ownFrom_pure _ _) (ownFrom_below (Nat.le_refl _) (Nat.le_refl _)))
        (fun c => OwnFrom.and (ownFrom_pure _ _) (OwnFrom.and (Own.from (boxed_own _ _ _) _) (ownFrom_below (Nat.le_refl _) (by have := HSZ.out; omega))))
        ⟨rfl, Below.refl _ _⟩
        (fun x a' W => ∃ Bx, W0.heap.size ≤ Bx ∧ W.heap[Bx]? = some (.cells #[.string x.1.f0, .int .i64 x.1.f1, .int .i64 x.1.f2] 77 (0, 0)) ∧ a' = { tmps := #[.pointer (some ⟨G, 0, none⟩), .agg #[.int .i64 id, .slice A xs.length c], .pointer (some ⟨w.heap.size, 0, none⟩), .pointer (some ⟨w.heap.size + 1, 0, none⟩), .pointer (some ⟨w.heap.size + 1 + 1, 0, none⟩), .pointer (some ⟨Bx, 0, none⟩), undef, .agg #[.int .i64 id, .slice A xs.length c], .bool true, .bool false, undef, undef, .pointer (some ⟨G, 0, none⟩), .pointer (some ⟨G, 0, none⟩), .pointer (some ⟨G, 1, none⟩), .map (some B1), .pointer (some ⟨w.heap.size + 1, 0, none⟩), .int .i64 id, .int .i64 (f1 (.int .i64 id)), .bool false, undef, undef, .agg #[.int .i64 id, .slice A xs.length c], .func (.func 68) #[] #[.pointer (some ⟨w1.heap.size, 0, none⟩)], .agg #[.string x.1.f0, .int .i64 x.1.f1, .int .i64 x.1.f2], undef, undef, undef, undef, undef, undef, undef, undef, undef, undef, undef, undef, undef, undef, undef, undef, undef, undef, undef, undef, undef, undef, undef, undef, undef, undef, undef, undef, undef, undef, undef, undef], defers := [] })
        (fun x a' _ X Y row hs hg hr => by
          obtain ⟨Bx, h1, h2, h3⟩ := hs
          refine ⟨Bx, h1, (hg.block Bx (Array.getElem?_eq_some_iff.1 h2).1 (fun e => ?_)).trans h2, h3⟩
          obtain ⟨_, o, ho, hcc⟩ := hr Bx e.symm
          rw [h2] at ho
          cases ho
          cases hcc)
        ?assign ?body ?done ?stop
      case assign =>
        rintro l pre x W K ⟨hov, hB1⟩ hK
        dsimp only [legEnc]
        gi_wp2
        exact hK _ _ ((KeepsOthers.alloc _ _).from _) ((Below.refl _ W).alloc (Nat.le_trans hB0.size hB1.size) _) ⟨hov, hB1.alloc hB1.size _⟩ ⟨W.heap.size, hB1.size, heap_alloc_new W _, rfl⟩
      case body =>
        rintro l pre x a' W hl ⟨rr, hrr⟩ ⟨hov, hB1⟩ ⟨Bx, hBx, bX, rfl⟩ hlt
        have hBx2 : w.heap.size + 1 + 1 + 1 ≤ Bx := by have := HSZ.out; omega
        have x0 : W.cell? ⟨Bx, 0, none⟩ = some (.string x.1.f0) := (cell_of_row W _ 0 _ _ _ bX).trans rfl
        have x1 : W.cell? ⟨Bx, 1, none⟩ = some (.int .i64 x.1.f1) := (cell_of_row W _ 1 _ _ _ bX).trans rfl
        have hBW1 : Below w.heap.size w W := hB0.trans (hB1.mono hB0.size)
        have d2 := (hBW1.cell (p := ⟨G, 2, none⟩) hGl).trans hb2
        have bP1 := (hB1.block _ (by have := HSZ.out; omega)).trans bP0
        have bG1 := (hB1.block _ (by have := HSZ.out; omega)).trans bG0
        have bR1 : Boxed W (w.heap.size + 1 + 1) 101 .nilIface := (hB1.block _ (by have := HSZ.out; omega)).trans bR0
        have g0 : W.cell? ⟨w.heap.size, 0, none⟩ = some (.pointer (some ⟨G, 0, none⟩)) := (cell_of_row W _ 0 _ _ _ bG1).trans rfl
        have p0 : W.cell? ⟨w.heap.size + 1, 0, none⟩ = some (.int .i64 id) := (cell_of_row W _ 0 _ _ _ bP1).trans rfl
        have p1 : W.cell? ⟨w.heap.size + 1, 1, none⟩ = some (.slice A xs.length c) := (cell_of_row W _ 1 _ _ _ bP1).trans rfl
        have lk : ∀ W', Below W.heap.size W W' → (Instr.lookup 71 (.map (some B2)) (.agg #[.string x.1.f0, .int .i64 x.1.f1]) false).run Try.prog W' = .ok (.int .i64 (f2 (sideLit x.1.f0 x.1.f1))) W' := fun W' hW' =>
          (IntMap.below HM2.out (hBW1.trans (hW'.mono hBW1.size)) hB2l).look side_keyed Try.underlying71 (side_key _ _ x.2.1 x.2.2)
        have hPT : ∀ W', Below W.heap.size W W' → Calls Try.prog 84 #[.agg #[.int .i64 id, .slice A xs.length c], .string x.1.f0, .int .i64 x.1.f1] W' fun e w' => e = .returned (.int .i64 (sumTo x.1.f0 x.1.f1 sel)) ∧ Below W'.heap.size W' w' := by
          intro W' hW'
          have h := impl_PostTo.calls k id A c (xs.map (fun y : LegW => y.1)) x.1.f0 x.1.f1 (sumTo x.1.f0 x.1.f1 sel) W' (by rw [List.length_map]; exact Kd.C_below HR.out (hBW1.trans (hW'.mono hBW1.size))) (by rw [List.length_map]; exact HC.out)
            (by
              unfold impl_PostTo.f
              rw [HOK.out]
              simp only [Option.bind_some]
              rw [if_pos, HSEL.out]
              refine ⟨fun y hy => ?_, ?_, by rw [List.length_map]; exact HX.out⟩
              · obtain ⟨z, _, rfl⟩ := List.mem_map.1 hy
                have := z.2.1
                unfold maxLen at this
                omega
              · have := x.2.1
                unfold maxLen at this
                omega)
          rw [List.length_map] at h
          exact h
        have HPT := Aside0.mk hPT
        have HLK := Aside0.mk lk
        clear hPT lk
        gi_wp2
        refine startR_ (n := 18) (S := fun w' => w'.cell? ⟨w.heap.size, 0, none⟩ = some (.pointer (some ⟨G, 0, none⟩)) ∧ w'.cell? ⟨G, 2, none⟩ = some (.map (some B2)) ∧ w'.cell? ⟨Bx, 0, none⟩ = some (.string x.1.f0) ∧ w'.cell? ⟨Bx, 1, none⟩ = some (.int .i64 x.1.f1) ∧ w'.cell? ⟨w.heap.size + 1, 0, none⟩ = some (.int .i64 id) ∧ w'.cell? ⟨w.heap.size + 1, 1, none⟩ = some (.slice A xs.length c) ∧ (Instr.lookup 71 (.map (some B2)) (.agg #[.string x.1.f0, .int .i64 x.1.f1]) false).run Try.prog w' = .ok (.int .i64 (f2 (sideLit x.1.f0 x.1.f1))) w') (ds := []) #[false, false, false, false, false, false, false, false, false, false, false, false, false, false, false, false, false, false] (by kernel_rfl) rfl rfl (fun _ _ h => h) (by kernel_rfl) ⟨g0, d2, x0, x1, p0, p1, HLK.out _ (Below.refl _ _).drew⟩ (fun hHeld => ?_)
        refine take_ (i := 0) (N := some 25) (v := ?_) (a' := ?_) #[true, false, false, false, false, false, false, false, false, false, false, false, false, false, false, false, false, false] rfl rfl (by kernel_rfl) (fun _ _ _ h => h) (Or.inl ⟨by rfl, ?_⟩) hHeld ?_ ?_
        rotate_left
        · rintro w' ⟨s0, s1, s2, s3, s4, s5, s6⟩
          go_simp
          with_reducible rfl
        rotate_left
        · simp only [Act.put, List.setIfInBounds_toArray, List.set_cons_zero, List.set_cons_succ, i64_w, i32_w]
          rfl
        refine pure_ (i := 1) (N := some 26) (v := ?_) (a' := ?_) #[true, true, false, false, false, false, false, false, false, false, false, false, false, false, false, false, false, false] rfl rfl (by kernel_rfl) (fun _ _ _ h => h) (Or.inl ⟨by rfl, ?_⟩) ?_ ?_
        rotate_left
        · intro w'
          go_simp
          with_reducible rfl
        rotate_left
        · simp only [Act.put, List.setIfInBounds_toArray, List.set_cons_zero, List.set_cons_succ, i64_w, i32_w]
          rfl
        refine pure_ (i := 2) (N := some 27) (v := ?_) (a' := ?_) #[true, true, true, false, false, false, false, false, false, false, false, false, false, false, false, false, false, false] rfl rfl (by kernel_rfl) (fun _ _ _ h => h) (Or.inl ⟨by rfl, ?_⟩) ?_ ?_
        rotate_left
        · intro w'
          go_simp
          with_reducible rfl
        rotate_left
        · simp only [Act.put, List.setIfInBounds_toArray, List.set_cons_zero, List.set_cons_succ, i64_w, i32_w]
          rfl
        refine take_ (i := 3) (N := some 28) (v := ?_) (a' := ?_) #[true, true, true, true, false, false, false, false, false, false, false, false, false, false, false, false, false, false] rfl rfl (by kernel_rfl) (fun _ _ _ h => h) (Or.inl ⟨by rfl, ?_⟩) hHeld ?_ ?_
        rotate_left
        · rintro w' ⟨s0, s1, s2, s3, s4, s5, s6⟩
          go_simp
          with_reducible rfl
        rotate_left
        · simp only [Act.put, List.setIfInBounds_toArray, List.set_cons_zero, List.set_cons_succ, i64_w, i32_w]
          rfl
        refine pure_ (i := 4) (N := some 29) (v := ?_) (a' := ?_) #[true, true, true, true, true, false, false, false, false, false, false, false, false, false, false, false, false, false] rfl rfl (by kernel_rfl) (fun _ _ _ h => h) (Or.inl ⟨by rfl, ?_⟩) ?_ ?_
        rotate_left
        · intro w'
          go_simp
          with_reducible rfl
        rotate_left
        · simp only [Act.put, List.setIfInBounds_toArray, List.set_cons_zero, List.set_cons_succ, i64_w, i32_w]
          rfl
        refine take_ (i := 5) (N := some 30) (v := ?_) (a' := ?_) #[true, true, true, true, true, true, false, false, false, false, false, false, false, false, false, false, false, false] rfl rfl (by kernel_rfl) (fun _ _ _ h => h) (Or.inl ⟨by rfl, ?_⟩) hHeld ?_ ?_
        rotate_left
        · rintro w' ⟨s0, s1, s2, s3, s4, s5, s6⟩
          go_simp
          with_reducible rfl
        rotate_left
        · simp only [Act.put, List.setIfInBounds_toArray, List.set_cons_zero, List.set_cons_succ, i64_w, i32_w]
          rfl
        refine pure_ (i := 6) (N := some 31) (v := ?_) (a' := ?_) #[true, true, true, true, true, true, true, false, false, false, false, false, false, false, false, false, false, false] rfl rfl (by kernel_rfl) (fun _ _ _ h => h) (Or.inl ⟨by rfl, ?_⟩) ?_ ?_
        rotate_left
        · intro w'
          go_simp
          with_reducible rfl
        rotate_left
        · simp only [Act.put, List.setIfInBounds_toArray, List.set_cons_zero, List.set_cons_succ, i64_w, i32_w]
          rfl
        refine take_ (i := 7) (N := some 32) (v := ?_) (a' := ?_) #[true, true, true, true, true, true, true, true, false, false, false, false, false, false, false, false, false, false] rfl rfl (by kernel_rfl) (fun _ _ _ h => h) (Or.inl ⟨by rfl, ?_⟩) hHeld ?_ ?_
        rotate_left
        · rintro w' ⟨s0, s1, s2, s3, s4, s5, s6⟩
          go_simp
          with_reducible rfl
        rotate_left
        · simp only [Act.put, List.setIfInBounds_toArray, List.set_cons_zero, List.set_cons_succ, i64_w, i32_w]
          rfl
        refine pure_ (i := 8) (N := some 33) (v := ?_) (a' := ?_) #[true, true, true, true, true, true, true, true, true, false, false, false, false, false, false, false, false, false] rfl rfl (by kernel_rfl) (fun _ _ _ h => h) (Or.inl ⟨by rfl, ?_⟩) ?_ ?_
        rotate_left
        · intro w'
          go_simp
          with_reducible rfl
        rotate_left
        · simp only [Act.put, List.setIfInBounds_toArray, List.set_cons_zero, List.set_cons_succ, i64_w, i32_w]
          rfl
        refine take_ (i := 9) (N := some 34) (v := ?_) (a' := ?_) #[true, true, true, true, true, true, true, true, true, true, false, false, false, false, false, false, false, false] rfl rfl (by kernel_rfl) (fun _ _ _ h => h) (Or.inl ⟨by rfl, ?_⟩) hHeld ?_ ?_
        rotate_left
        · rintro w' ⟨s0, s1, s2, s3, s4, s5, s6⟩
          go_simp
          with_reducible rfl
        rotate_left
        · simp only [Act.put, List.setIfInBounds_toArray, List.set_cons_zero, List.set_cons_succ, i64_w, i32_w]
          rfl
        refine take_ (i := 10) (N := some 35) (v := ?_) (a' := ?_) #[true, true, true, true, true, true, true, true, true, true, true, false, false, false, false, false, false, false] rfl rfl (by kernel_rfl) (fun _ _ _ h => h) (Or.inl ⟨by rfl, ?_⟩) hHeld ?_ ?_
        rotate_left
        · rintro w' ⟨s0, s1, s2, s3, s4, s5, s6⟩
          go_simp
          with_reducible rfl
        rotate_left
        · simp only [Act.put, List.setIfInBounds_toArray, List.set_cons_zero, List.set_cons_succ, i64_w, i32_w]
          rfl
        refine pure_ (i := 11) (N := some 36) (v := ?_) (a' := ?_) #[true, true, true, true, true, true, true, true, true, true, true, true, false, false, false, false, false, false] rfl rfl (by kernel_rfl) (fun _ _ _ h => h) (Or.inl ⟨by rfl, ?_⟩) ?_ ?_
        rotate_left
        · intro w'
          go_simp
          with_reducible rfl
        rotate_left
        · simp only [Act.put, List.setIfInBounds_toArray, List.set_cons_zero, List.set_cons_succ, i64_w, i32_w]
          rfl
        refine take_ (i := 12) (N := some 37) (v := ?_) (a' := ?_) #[true, true, true, true, true, true, true, true, true, true, true, true, true, false, false, false, false, false] rfl rfl (by kernel_rfl) (fun _ _ _ h => h) (Or.inl ⟨by rfl, ?_⟩) hHeld ?_ ?_
        rotate_left
        · rintro w' ⟨s0, s1, s2, s3, s4, s5, s6⟩
          go_simp
          with_reducible rfl
        rotate_left
        · simp only [Act.put, List.setIfInBounds_toArray, List.set_cons_zero, List.set_cons_succ, i64_w, i32_w]
          rfl
        refine pure_ (i := 13) (N := some 38) (v := ?_) (a' := ?_) #[true, true, true, true, true, true, true, true, true, true, true, true, true, true, false, false, false, false] rfl rfl (by kernel_rfl) (fun _ _ _ h => h) (Or.inl ⟨by rfl, ?_⟩) ?_ ?_
        rotate_left
        · intro w'
          go_simp
          with_reducible rfl
        rotate_left
        · simp only [Act.put, List.setIfInBounds_toArray, List.set_cons_zero, List.set_cons_succ, i64_w, i32_w]
          rfl
        refine take_ (i := 14) (N := some 39) (v := ?_) (a' := ?_) #[true, true, true, true, true, true, true, true, true, true, true, true, true, true, true, false, false, false] rfl rfl (by kernel_rfl) (fun _ _ _ h => h) (Or.inl ⟨by rfl, ?_⟩) hHeld ?_ ?_
        rotate_left
        · rintro w' ⟨s0, s1, s2, s3, s4, s5, s6⟩
          go_simp
          with_reducible rfl
        rotate_left
        · simp only [Act.put, List.setIfInBounds_toArray, List.set_cons_zero, List.set_cons_succ, i64_w, i32_w]
          rfl
        refine one_ (i := 15) (N := some 40) #[true, true, true, true, true, true, true, true, true, true, true, true, true, true, true, true, false, false] rfl rfl (by kernel_rfl) (by decide) (fun K hK => ?_)
        refine goes_ Try.func84 (by kernel_rfl) rfl #[.agg #[.int .i64 id, .slice A xs.length c], .string x.1.f0, .int .i64 x.1.f1] (by rfl) rfl rfl (by (try simp only [List.map_toArray, List.map_cons, List.map_nil]); first | done | rfl) ?_
        refine (HPT.out _ (Below.refl _ _).drew).mono ?_
        rintro e w2 ⟨rfl, hb⟩
        refine ⟨_, rfl, ?_⟩
        have HW2 := Aside0.mk hb
        have hBd : Below W.heap.size W w2 := (Below.refl _ _).drew.trans hb
        have bcs : ∀ {b o : Nat} {v : Value}, W.cell? ⟨b, o, none⟩ = some v → w2.cell? ⟨b, o, none⟩ = some v := fun h => (hBd.cell (World.block_lt_of_cell? _ _ h)).trans h
        refine hK.out _ _ ⟨bcs g0, bcs d2, bcs x0, bcs x1, bcs p0, bcs p1, HLK.out _ hBd⟩ (fun hHeld => ?_)
        clear hK K
        refine norm_ (a' := ?_) ?_ ?_
        rotate_left
        · show Act.put _ (some 40) _ = _
          simp only [Act.put, List.setIfInBounds_toArray, List.set_cons_zero, List.set_cons_succ, i64_w, i32_w]
          rfl
        refine pure_ (i := 16) (N := some 41) (v := ?_) (a' := ?_) #[true, true, true, true, true, true, true, true, true, true, true, true, true, true, true, true, true, false] rfl rfl (by kernel_rfl) (fun _ _ _ h => h) (Or.inl ⟨by rfl, ?_⟩) ?_ ?_
        rotate_left
        · intro w'
          go_simp
          with_reducible rfl
        rotate_left
        · simp only [Act.put, List.setIfInBounds_toArray, List.set_cons_zero, List.set_cons_succ, i64_w, i32_w]
          rfl
        refine pure_ (i := 17) (N := some 6) (v := ?_) (a' := ?_) #[true, true, true, true, true, true, true, true, true, true, true, true, true, true, true, true, true, true] rfl rfl (by kernel_rfl) (fun _ _ _ h => h) (Or.inl ⟨by rfl, ?_⟩) ?_ ?_
        rotate_left
        · intro w'
          go_simp
          with_reducible rfl
        rotate_left
        · simp only [Act.put, List.setIfInBounds_toArray, List.set_cons_zero, List.set_cons_succ, i64_w, i32_w]
          rfl
        refine done_ (by kernel_rfl) ?_
        obtain ⟨q, hq⟩ : ∃ q, wrap64 (f2 (sideLit x.1.f0 x.1.f1) + sumTo x.1.f0 x.1.f1 sel) = q := ⟨_, rfl⟩
        have hfar : farB f2 sel x.1 = (decide (q > 2000) || decide (q < -2000)) := by unfold farB; rw [hq]
        rw [hq]
        have HFAR := Aside0.mk hfar
        have HOV := Aside0.mk hov
        clear hq hfar hov
        have hB2 : Below W.heap.size W w2 := (Below.refl _ _).drew.trans HW2.out
        have bR2 : Boxed w2 (w.heap.size + 1 + 1) 101 .nilIface := (hB2.block _ (by have := (Array.getElem?_eq_some_iff.1 bX).1; omega)).trans bR1
        have cR2 := bR2.cell
        have fR2 := bR2.frozen
        have hs0 : w.heap.size + 1 + 1 < W0.heap.size := by have := HSZ.out; omega
        have KF : KeepsFrom W0.heap.size W w2 := ⟨hB2.size, fun j o hj ho hc => (hB2.block j (Array.getElem?_eq_some_iff.1 ho).1).trans ho⟩
        have stop : overB f2 sel ((pre ++ [x]).map (fun y : LegW => y.1)) = farB f2 sel x.1 := by
          rw [List.map_append, List.map_cons, List.map_nil, overB_snoc, HOV.out]; rfl
        have STOP := Aside0.mk stop
        clear stop
        by_cases h1 : q > 2000
        · have d1 : decide (2000 < q) = true := decide_eq_true h1
          have HQ := Aside0.mk h1
          clear h1
          gi_wp2
          refine ⟨KF.trans ((KeepsOthers.setCell _ _ _).from _), ⟨rfl, ?_⟩, bR2.set _, ?_⟩
          · show overB f2 sel ((pre ++ [x]).map (fun y : LegW => y.1)) = true
            rw [STOP.out, HFAR.out, decide_eq_true HQ.out]; rfl
          · exact (hBW1.trans (hB2.mono hBW1.size)).setCell (by simp; omega) _
        · have d1 : decide (2000 < q) = false := decide_eq_false h1
          by_cases h2 : q < -2000
          · have d2 : decide (q < -2000) = true := decide_eq_true h2
            have HQ := Aside0.mk h2
            clear h1 h2
            gi_wp2
            refine ⟨KF.trans ((KeepsOthers.setCell _ _ _).from _), ⟨rfl, ?_⟩, bR2.set _, ?_⟩
            · show overB f2 sel ((pre ++ [x]).map (fun y : LegW => y.1)) = true
              rw [STOP.out, HFAR.out, decide_eq_true HQ.out]; simp
            · exact (hBW1.trans (hB2.mono hBW1.size)).setCell (by simp; omega) _
          · have d2 : decide (q < -2000) = false := decide_eq_false h2
            have HQ := Aside0.mk (And.intro h1 h2)
            clear h1 h2
            gi_wp2
            refine ⟨KF, hB2.mono hBW1.size, ?_, hB1.trans (hB2.mono hB1.size)⟩
            show overB f2 sel ((pre ++ [x]).map (fun y : LegW => y.1)) = false
            rw [STOP.out, HFAR.out, decide_eq_false (by have := HQ.out.1; omega), decide_eq_false (by have := HQ.out.2; omega)]; rfl
      case done =>
        rintro D zs W hD rfl ⟨hov, hB1⟩ hK
        have hs0 : w.heap.size + 1 + 1 < W0.heap.size := by have := HSZ.out; omega
        have hBW1 : Below w.heap.size w W := hB0.trans (hB1.mono hB0.size)
        have d0 := (hBW1.cell (p := ⟨G, 0, none⟩) hGl).trans hcnt
        have bG1 := (hB1.block _ (by omega)).trans bG0
        have bR1 : Boxed W (w.heap.size + 1 + 1) 101 .nilIface := (hB1.block _ (by omega)).trans bR0
        have g0 : W.cell? ⟨w.heap.size, 0, none⟩ = some (.pointer (some ⟨G, 0, none⟩)) := (cell_of_row W _ 0 _ _ _ bG1).trans rfl
        have cR := bR1.cell
        have fR := bR1.frozen
        have hov' : overB f2 sel sel = false := by
          have e : (selLegs ok xs).map (fun y : LegW => y.1) = selLegs ok (xs.map (fun y : LegW => y.1)) := by cases ok <;> rfl
          rw [e, HSEL.out] at hov
          exact hov
        have HOV := Aside0.mk hov'
        have HK := Aside0.mk hK
        have HD := Aside0.mk hD
        clear hov hov' hK hD
        by_cases hc : cnt ≥ 40
        · have d1 : decide ((40 : Int) ≤ cnt) = true := decide_eq_true hc
          have er : r = 4 := by have h := HN.out; unfold codeB at h; rw [if_pos rfl, if_neg (by have := HFN.out; omega), HOV.out, if_neg (by simp), if_pos hc] at h; exact h
          have HER := Aside0.mk er
          clear hc er
          gi_wp2
          refine ⟨by simp, .inl ⟨_, _, rfl, run_takeDeferred ((KeepsOthers.setCell _ _ _).same D _ HK.out rfl), ?_⟩⟩
          rw [HER.out]
          exact ⟨_, results_err rfl _ _ _ _ rfl (cell_kept (bR1.set (.iface 121 (.agg #[.int .i64 4]))).cell (grownBy_putObj' _ D (.deferred none)) (fun r e => by cases e; exact ⟨_, (KeepsOthers.setCell _ _ _).same D _ HK.out rfl, rfl⟩)), rfl,
            (hBW1.setCell (by simp; omega) _).trans (belowK_b (w := w) (Nat.le_refl _) _ D _ _ (by have := HD.out; omega) ((KeepsOthers.setCell _ _ _).same D _ HK.out rfl) rfl rfl)⟩
        · have d1 : decide ((40 : Int) ≤ cnt) = false := decide_eq_false hc
          have er : r = 0 := by have h := HN.out; unfold codeB at h; rw [if_pos rfl, if_neg (by have := HFN.out; omega), HOV.out, if_neg (by simp), if_neg hc] at h; exact h
          have HER := Aside0.mk er
          clear hc er
          gi_wp2
          refine ⟨by simp, .inl ⟨_, _, rfl, run_takeDeferred ((KeepsOthers.setCell _ _ _).same D _ HK.out rfl), ?_⟩⟩
          rw [HER.out]
          exact ⟨_, results_err rfl _ _ _ _ rfl (cell_kept (bR1.set .nilIface).cell (grownBy_putObj' _ D (.deferred none)) (fun r e => by cases e; exact ⟨_, (KeepsOthers.setCell _ _ _).same D _ HK.out rfl, rfl⟩)), rfl,
            (hBW1.setCell (by simp; omega) _).trans (belowK_b (w := w) (Nat.le_refl _) _ D _ _ (by have := HD.out; omega) ((KeepsOthers.setCell _ _ _).same D _ HK.out rfl) rfl rfl)⟩
      case stop =>
        rintro D c' pre W hD hpre ⟨⟨rfl, hov⟩, bR1, hBW1⟩ hK
        have er : r = 3 := by
          have ho : overB f2 sel sel = true := by
            have e : (selLegs ok xs).map (fun y : LegW => y.1) = selLegs ok (xs.map (fun y : LegW => y.1)) := by cases ok <;> rfl
            obtain ⟨t, ht⟩ := hpre
            have e2 : sel = pre.map (fun y : LegW => y.1) ++ t.map (fun y : LegW => y.1) := by rw [← HSEL.out, ← e, ← ht, List.map_append]
            have e3 : ∀ l1 l2 : List S77, overB f2 sel l1 = true → overB f2 sel (l1 ++ l2) = true := fun l1 l2 h => by
              unfold overB at h ⊢
              rw [List.any_append, h]; rfl
            have := e3 _ (t.map (fun y : LegW => y.1)) hov
            rw [← e2] at this
            exact this
          have h := HN.out
          unfold codeB at h
          rw [if_pos rfl, if_neg (by have := HFN.out; omega), if_pos ho] at h
          exact h
        have hwD : w.heap.size ≤ D := by have := HSZ.out; omega
        have HER := Aside0.mk er
        have HD := Aside0.mk hwD
        clear er hov hD hwD
        gi_wp2
        refine ⟨by simp, .inl ⟨_, _, rfl, run_takeDeferred hK, ?_⟩⟩
        rw [HER.out]
        exact ⟨_, results_err rfl _ _ _ _ rfl (cell_kept bR1.cell (grownBy_putObj' _ D (.deferred none)) (fun r e => by cases e; exact ⟨_, hK, rfl⟩)), rfl,
          hBW1.trans (belowK_b (w := w) (Nat.le_refl _) _ D _ _ HD.out hK rfl rfl)⟩
end

end Go.Proofs.Yteijmkjfgieciaa.QFnExactBookSides

/- What the law FnExactPostRead reaches, function by function: what each computes, and that the machine's call comes to it. Laid by a program. -/
import Derived.Test.YtdjohhobmipagaaDoorBShelf
import Derived.Test.YtdjohhobmipagaaDoorQFnExactPostReadx0
import Derived.Test.YtdjohhobmipagaaDoorQFnExactPostReadx6
namespace Go.Proofs.YtdjohhobmipagaaDoor.QFnExactPostRead
open Go.RowKit Go.Proofs.YtdjohhobmipagaaDoorW.PrintWords Go.Proofs.YtdjohhobmipagaaDoorW.PrintLast Go.Proofs.YtdjohhobmipagaaDoorW.PrintMore
attribute [local go_sem] max2_int min2_int max_two min_two max_three min_three max_four min_four   -- for this text's walks alone
set_option linter.unusedVariables false
set_option linter.unusedSimpArgs false

/-! ### impl_PostText: function 9 -/
section
attribute [local go_sem] Oper.semAt_some
/-! #### A region that draws its order, within a round of a range over a function -/
theorem rowsIn_wide {n : Nat} {P : Program} {row : String} {args : Array Value} {w : World} {R : Value → World → Prop} (h : Rows P row args w R) : RowsIn Fence.wide n P row args w R :=
  fun c cs _ => let ⟨v, w', r, s⟩ := h c cs; ⟨v, w', r, stepsIn_wide.2 s⟩
theorem upon_round {P : Program} {o : Oper} {a : Act} {K K' : Act → World → Prop} {Q : Exit → Act → World → Prop} {l n : Nat} (_hout : ∀ a w, ¬ Q .outgrown a w) (hK : ∀ a w, K a w → K' a w) (r : Result Next) (h : o.upon P a K Q r) :
    o.uponIn (Fence.wide.inRound l) n P a K' Q r := by
  cases r with
  | ok x w' =>
    cases x <;> simp only [Oper.upon, Oper.uponIn] at h ⊢ <;> first
      | exact hK _ _ h
      | exact h.elim
      | (refine ⟨(fun h => by cases h), CallsIn.inRound l (callsIn_wide.2 (Calls.mono h ?_))⟩
         intro e w'' he
         cases e with
         | returned v => exact hK _ _ he
         | panicked c => exact he
         | outgrown => exact he)
      | exact ⟨(fun h => by cases h), rowsIn_wide (Rows.mono h (fun v w'' he => hK _ _ he))⟩
  | halt x w' => cases x <;> simp only [Oper.upon, Oper.uponIn] at h ⊢ <;> exact h
def noDefer (ops : Array Oper) : Bool := ops.all fun o => match o.op with | .defer _ => false | _ => true
theorem noDefer_at {ops : Array Oper} (h : noDefer ops = true) {i : Nat} {o : Oper} (hi : ops[i]? = some o) : ∀ c, o.op ≠ .defer c := by
  intro c hc
  have hm : o ∈ ops := Array.mem_of_getElem? hi
  have := Array.all_eq_true_iff_forall_mem.1 h o hm
  rw [hc] at this
  cases this
theorem wpAny_round {P : Program} {md : Region.Mode} {ops : Array Oper} {Q : Exit → Act → World → Prop} {l n : Nat} (hout : ∀ a w, ¬ Q .outgrown a w) (hnd : noDefer ops = true) : ∀ (fuel : Nat) (listed : Array Bool) (a : Act) (w : World), wpAny P md ops Q fuel listed a w → wpAnyIn (Fence.wide.inRound l) n P md ops Q fuel listed a w
  | 0, _, _, _, h => h
  | fuel + 1, listed, a, w, h => by
    refine ⟨h.1, fun i hi => ?_⟩
    have h2 := h.2 i hi
    unfold wpOp at h2
    unfold wpOpIn
    cases ho : ops[i]? with
    | none =>
      rw [ho] at h2
      exact wpAny_round hout hnd fuel _ _ _ h2
    | some o =>
      rw [ho] at h2
      simp only at h2 ⊢
      split
      · rename_i hw
        rw [if_pos hw] at h2
        rcases h2 with h2 | ⟨_, a', w', h3⟩
        · refine ⟨fun _ _ => trivial, ?_⟩
          rw [Oper.semAt_eq _ _ _ (noDefer_at hnd ho)]
          exact upon_round hout (fun a' w' h' => wpAny_round hout hnd fuel _ a' w' h') _ h2
        · exact absurd h3 (hout a' w')
      · rename_i hw
        rw [if_neg hw] at h2
        exact ⟨fun _ _ => trivial, wpAny_round hout hnd fuel _ _ _ h2⟩
/-- A region that draws its order, within a round of a range over a function: as 'start_'. -/
theorem startR_ {P : Program} {ops : Array Oper} {Q : Exit → Act → World → Prop} {S : World → Prop} {ds : List Nat} {id n N l : Nat} {a : Act} {w : World} (L : Array Bool) (hm : P.follows .mixedOrders = true) (hn : ops.size = n) (hl : Array.replicate n false = L) (hout : ∀ a w, ¬ Q .outgrown a w) (hnd : noDefer ops = true) (hS : S w.drew)
    (h : S w.drew → wpAnyLast P .any ops Q S ds n L a w.drew) : (Code.region id ops true).wpIn (Fence.wide.inRound l) N P Q a w := by
  subst hn
  subst hl
  exact wpIn_region_any hm (wpAny_round hout hnd _ _ _ _ (wpAny_of_last _ _ _ _ (h hS)))
/-- A leg, as it is written. -/
def legText (x : S45) : List UInt8 := 32 :: (x.f0.data.toList ++ 58 :: (Lib.itoa x.f1 ++ 58 :: Lib.itoa x.f2))
/-- A posting, as it is written. -/
def postText (id : Int) (xs : List S45) : List UInt8 := Lib.itoa id ++ xs.flatMap legText
theorem postText_snoc (id : Int) (pre : List S45) (x : S45) : postText id (pre ++ [x]) = postText id pre ++ legText x := by simp [postText]
def intFits (n : Int) : Bool := decide (-1000000 ≤ n) && decide (n ≤ 1000000)
def legFits (x : S45) : Bool := decide (x.f0.size ≤ 1000) && (intFits x.f1 && intFits x.f2)
def postFits (id : Int) (xs : List S45) : Bool := intFits id && (decide (xs.length ≤ 1000) && xs.all legFits)
abbrev LegF := { x : S45 // legFits x = true }
theorem legF_of (xs : List S45) (h : xs.all legFits = true) : ∃ ys : List LegF, ys.map (fun y => y.1) = xs :=
  ⟨xs.pmap Subtype.mk (fun x hx => List.all_eq_true.1 h x hx), by simp [List.map_pmap]⟩
theorem var_below {P : Program} {w W : World} {n : String} {cs : Array Value} (h : w.var? P n = some cs) (hb : Below w.heap.size w W) : W.var? P n = some cs := by
  unfold World.var? at h ⊢
  cases hg : P.globalNamed n with
  | none => simp [hg] at h
  | some g =>
    simp only [hg, Option.bind_some] at h ⊢
    have hlt : g < w.heap.size := by
      rcases Nat.lt_or_ge g w.heap.size with h' | h'
      · exact h'
      · simp [Array.getElem?_eq_none h'] at h
    rw [hb.block g hlt]
    exact h
/-- The errors of strconv lie as they are laid. -/
def Errs (w : World) : Prop := (∃ tp p, w.var? Tryd.prog "strconv.ErrSyntax" = some #[.iface tp p]) ∧ ∃ tp p, w.var? Tryd.prog "strconv.ErrRange" = some #[.iface tp p]
/-- The library's variables that are read lie as they are laid: the table of the powers of ten, and more where more is read. -/
def Tab (w : World) : Prop := Lib.TabIs Tryd.prog w "internal/strconv.uint64pow10" .u64 Lib.pow10Tab ∧ (Errs w)
theorem Tab.below {w W : World} (h : Tab w) (hb : Below w.heap.size w W) : Tab W := by
  have e : Errs w → Errs W := fun h => ⟨h.1.elim fun tp h => h.elim fun p h => ⟨tp, p, var_below h hb⟩, h.2.elim fun tp h => h.elim fun p h => ⟨tp, p, var_below h hb⟩⟩
  exact ⟨var_below h.1 hb, by first | exact trivial | exact e h.2⟩
theorem itoa_calls (n : Int) (h : intFits n = true) (w W : World) (ht : Tab w) (hb : Below w.heap.size w W) :
    Calls Tryd.prog 24 #[.int .i64 n] W fun e w' => e = .returned (.string ⟨(Lib.itoa n).toArray⟩) ∧ Below W.heap.size W w' := by
  have h0 : -1000000 ≤ n ∧ n ≤ 1000000 := by simpa [intFits] using h
  refine (Tryd.strconv_Itoa n (by omega) (by omega) W (ht.below hb).1).mono ?_
  rintro e w' ⟨rfl, k, os, rfl⟩
  exact ⟨rfl, Lib.below_grow _ W (Nat.le_refl _) k os⟩
/-- A builder stays one where only what is no cells turns, and new blocks come. -/
theorem builderAt_grown {T e : TypeId} {B b : Nat} {p : Value} {bs : List Value} {w W : World} {row : Option Nat} (h : Lib.BuilderAtF T e B b p bs w) (hg : w.grownBy W row) (hr : ∀ r, row = some r → ∃ o : Obj, w.heap[r]? = some o ∧ o.isCells = false) : Lib.BuilderAtF T e B b p bs W := by
  have hlt := h.lt
  obtain ⟨hB, v, hb, hown, hne⟩ := h
  have nr : ∀ r, row = some r → ∀ cs t fz, w.heap[r]? ≠ some (.cells cs t fz) := fun r hr' cs t fz hc => by
    obtain ⟨o, ho, hcc⟩ := hr r hr'
    rw [hc] at ho
    cases ho
    cases hcc
  refine ⟨hB, v, (hg.block b hlt (fun e' => nr b e'.symm _ _ _ hb)).trans hb, hown.kept hg ?_, hne⟩
  cases hv : v.ownBlock with
  | none => exact .inl rfl
  | some g =>
    refine .inr (fun e' => ?_)
    obtain ⟨c, fz, hc⟩ := Lib.ownsRowF_kind hown g hv
    exact nr g e'.symm _ _ _ hc
theorem builder_grown {T e : TypeId} {B b : Nat} {bs : List Value} {w W : World} {row : Option Nat} (h : Lib.IsBuilderF T e B b bs w) (hg : w.grownBy W row) (hr : ∀ r, row = some r → ∃ o : Obj, w.heap[r]? = some o ∧ o.isCells = false) : Lib.IsBuilderF T e B b bs W :=
  h.elim (fun h => .inl (builderAt_grown h hg hr)) (fun h => .inr (builderAt_grown h hg hr))
theorem builder_below {T e : TypeId} {B b : Nat} {bs : List Value} {w W : World} (h : Lib.IsBuilderF T e B b bs w) (hb : Below w.heap.size w W) : Lib.IsBuilderF T e B b bs W := builder_grown h (grown_of_below hb none) (fun r e => by cases e)
theorem builder_own {β : Type} (T e : TypeId) (B b : Nat) (f : β → List Value) : Own (fun s W => Lib.IsBuilderF T e B b (f s) W) := fun s X Y row hs hg hrow => builder_grown hs hg hrow
theorem builder_lt {T e : TypeId} {B b : Nat} {bs : List Value} {w : World} (h : Lib.IsBuilderF T e B b bs w) : B ≤ b ∧ b < w.heap.size := h.elim (fun h => ⟨h.1, h.lt⟩) (fun h => ⟨h.1, h.lt⟩)
theorem keeps_below {B : Nat} {W W' : World} (h : Below W.heap.size W W') : KeepsFrom B W W' := KeepsFrom.of_grownBy (grown_of_below h none) (fun j e => by cases e)
theorem keeps_others {T e : TypeId} {B0 B b : Nat} {bs : List Value} {W W' : World} (hI : Lib.IsBuilderF T e B0 b bs W) (h : Lib.OthersKept e (some b) W W') (hs : W.heap.size ≤ W'.heap.size) : KeepsFrom B W W' := by
  refine ⟨hs, fun k o _ hk ho => h k o hk ?_ (fun c fz e' => by subst e'; cases ho)⟩
  intro e'
  obtain rfl : k = b := by simpa using e'
  rcases hI with ⟨_, v, hb, _⟩ | ⟨_, v, hb, _⟩ <;> (rw [hb] at hk; cases hk; cases ho)
theorem builder_ne {T e : TypeId} {B b k : Nat} {bs : List Value} {W : World} (hI : Lib.IsBuilderF T e B b bs W) {cs : Array Value} {t : TypeId} {fz : Nat × Nat} (hk : W.heap[k]? = some (.cells cs t fz)) (hT : t ≠ T) : k ≠ b := by
  rintro rfl
  rcases hI with ⟨_, v, hb, _⟩ | ⟨_, v, hb, _⟩ <;> (rw [hb] at hk; cases hk; exact hT rfl)
/-- A leg's text, as it is put together. -/
abbrev legT (x : S45) : ByteArray := (((((⟨#[32]⟩ : ByteArray) ++ x.f0) ++ (⟨#[58]⟩ : ByteArray)) ++ (⟨(Lib.itoa x.f1).toArray⟩ : ByteArray)) ++ (⟨#[58]⟩ : ByteArray)) ++ (⟨(Lib.itoa x.f2).toArray⟩ : ByteArray)
theorem legT_eq (x : S45) : (legT x).data.toList = legText x := by simp [legT, legText, ByteArray.data_append]
theorem legT_size (x : S45) : (legT x).size = 1 + x.f0.size + 1 + (Lib.itoa x.f1).length + 1 + (Lib.itoa x.f2).length := by
  have h := congrArg List.length (legT_eq x)
  simp only [Array.length_toList, legText, List.length_cons, List.length_append] at h
  have e : (legT x).size = (legT x).data.size := rfl
  have e2 : x.f0.size = x.f0.data.size := rfl
  omega
theorem legs_len (pre : List LegF) : ((pre.map (fun y : LegF => y.1)).flatMap legText).length ≤ 1100 * pre.length := by
  induction pre with
  | nil => simp
  | cons x r ih =>
    have hx : (x.1.f0.size ≤ 1000 ∧ (-1000000 ≤ x.1.f1 ∧ x.1.f1 ≤ 1000000) ∧ -1000000 ≤ x.1.f2 ∧ x.1.f2 ≤ 1000000) := by have := x.2; simpa only [legFits, intFits, Bool.and_eq_true, decide_eq_true_eq] using this
    have l1 := Lib.itoa_length_le x.1.f1 (by omega) (by omega)
    have l2 := Lib.itoa_length_le x.1.f2 (by omega) (by omega)
    have e2 : x.1.f0.size = x.1.f0.data.size := rfl
    have e1 : (legText x.1).length ≤ 1100 := by simp only [legText, List.length_cons, List.length_append, Array.length_toList]; omega
    simp only [List.map_cons, List.flatMap_cons, List.length_append, List.length_cons]
    omega
set_option maxRecDepth 100000 in
set_option maxHeartbeats 4000000 in
theorem postText_no (k : Nat) (id : Int) (A : Option Addr) (c : Nat) (xs : List S45) (w : World) (hr0 : Kd.C k45 w A xs.length xs) (hc0 : xs.length ≤ c) (hok : impl_PostOk.f k id xs = some false) :
    Calls Tryd.prog 9 #[.agg #[.int .i64 id, .slice A xs.length c]] w fun e w' => e = .returned (.string ⟨#[]⟩) ∧ Below w.heap.size w w' := by
  refine (callsIn_wide (n := 6)).1 ?_
  refine callsIn_of_wp_marks Tryd.func9 rfl trivial ?_ rfl
  simp only [Tryd.ntmps9, List.size_toArray, List.length_cons, List.length_nil, Nat.reduceAdd, Nat.reduceSub, Array.replicate_succ, Array.replicate_zero, List.push_toArray, List.append_toArray, List.nil_append, List.cons_append]
  have cP : ∀ W, Below w.heap.size w W → Calls Tryd.prog 16 #[.agg #[.int .i64 id, .slice A xs.length c]] W fun e w' => e = .returned (.bool false) ∧ Below W.heap.size W w' := by
    intro W hW
    have h := impl_PostOk.calls k id A c xs false W (Kd.C_below hr0 hW) hc0 hok
    exact h
  have CP := Aside0.mk cP
  have HOK := Aside0.mk hok
  have HR := Aside0.mk hr0
  have HC := Aside0.mk hc0
  clear cP hok hr0 hc0
  have hB1 : Below w.heap.size w (w.alloc (.cells #[.int .i64 id, .slice A xs.length c] 29)) := (Below.refl _ w).alloc (Nat.le_refl _) _
  have bk1 := heap_alloc_new w (.cells #[.int .i64 id, .slice A xs.length c] 29)
  have HB1 := Aside0.mk hB1
  have BK1 := Aside0.mk bk1
  clear hB1 bk1
  gi_wp2_with (refine ⟨trivial, ?_⟩; gi_at_call 16; refine (callsIn_wide.2 (CP.out _ HB1.out)).mono ?_; rintro e w1 ⟨rfl, hb⟩)
  refine ⟨_, results_tmp rfl _ _ _, rfl, ?_⟩
  exact below_then HB1.out HB1.out.size hb
set_option maxRecDepth 100000 in
set_option maxHeartbeats 4000000 in
theorem postText_calls (k : Nat) (id : Int) (A : Option Addr) (c : Nat) (xs : List LegF) (w : World) (hr0 : Kd.C k45 w A xs.length (xs.map (fun y : LegF => y.1))) (hc0 : xs.length ≤ c) (hid : intFits id = true) (hlen : xs.length ≤ 1000) (htab : Tab w) (hok : impl_PostOk.f k id (xs.map (fun y : LegF => y.1)) = some true) :
    Calls Tryd.prog 9 #[.agg #[.int .i64 id, .slice A xs.length c]] w fun e w' => e = .returned (.string ⟨(postText id (xs.map (fun y : LegF => y.1))).toArray⟩) ∧ Below w.heap.size w w' := by
  refine (callsIn_wide (n := 6)).1 ?_
  refine callsIn_of_wp_marks Tryd.func9 rfl trivial ?_ rfl
  simp only [Tryd.ntmps9, List.size_toArray, List.length_cons, List.length_nil, Nat.reduceAdd, Nat.reduceSub, Array.replicate_succ, Array.replicate_zero, List.push_toArray, List.append_toArray, List.nil_append, List.cons_append]
  have cP : ∀ W, Below w.heap.size w W → Calls Tryd.prog 16 #[.agg #[.int .i64 id, .slice A xs.length c]] W fun e w' => e = .returned (.bool true) ∧ Below W.heap.size W w' := by
    intro W hW
    have h := impl_PostOk.calls k id A c (xs.map (fun y : LegF => y.1)) true W (by rw [List.length_map]; exact Kd.C_below hr0 hW) (by rw [List.length_map]; exact hc0) hok
    rw [List.length_map] at h
    exact h
  have CP := Aside0.mk cP
  have HOK := Aside0.mk hok
  have HR := Aside0.mk hr0
  have HC := Aside0.mk hc0
  have HID := Aside0.mk hid
  have HLEN := Aside0.mk hlen
  have HTAB := Aside0.mk htab
  clear cP hok hr0 hc0 hid hlen htab
  have hB1 : Below w.heap.size w (w.alloc (.cells #[.int .i64 id, .slice A xs.length c] 29)) := (Below.refl _ w).alloc (Nat.le_refl _) _
  have bk1 := heap_alloc_new w (.cells #[.int .i64 id, .slice A xs.length c] 29)
  have HB1 := Aside0.mk hB1
  have BK1 := Aside0.mk bk1
  clear hB1 bk1
  gi_wp2_with (refine ⟨trivial, ?_⟩; gi_at_call 16; refine (callsIn_wide.2 (CP.out _ HB1.out)).mono ?_; rintro e w1 ⟨rfl, hb⟩; refine Hid.out ?_)
  have hB2 : Below w.heap.size w w1 := below_then HB1.out HB1.out.size hb
  have bk2 : w1.heap[w.heap.size]? = some (.cells #[.int .i64 id, .slice A xs.length c] 29 (0, 0)) := (hb.block w.heap.size (by simp)).trans BK1.out
  have hlt2 : w.heap.size < w1.heap.size := (Array.getElem?_eq_some_iff.1 bk2).1
  have hB3 : Below w.heap.size w (w1.alloc (.cells #[.pointer none, .slice none 0 0] 49)) := hB2.alloc hB2.size _
  have hI3 : Lib.IsBuilderF 49 5 w1.heap.size w1.heap.size [] (w1.alloc (.cells #[.pointer none, .slice none 0 0] 49)) := Lib.IsBuilderF.of (Lib.fresh_isBuilder 49 5 w1)
  have c0 : ∀ o, (w1.alloc o).cell? ⟨w.heap.size, 0, none⟩ = some (.int .i64 id) := fun o => ((Below.refl w1.heap.size w1).alloc (Nat.le_refl _) o |>.cell (p := ⟨w.heap.size, 0, none⟩) hlt2).trans ((cell_of_row w1 _ 0 _ _ _ bk2).trans rfl)
  have HB := Aside0.mk hb
  have BK2 := Aside0.mk bk2
  have HB2 := Aside0.mk hB2
  have HLT2 := Aside0.mk hlt2
  have HB3 := Aside0.mk hB3
  have HI3 := Aside0.mk hI3
  clear hb bk2 hB2 hlt2 hB3 hI3
  refine Lib.hid ?_
  gi_wp2_with (refine ⟨trivial, ?_⟩; gi_at_call 24; refine (callsIn_wide.2 (itoa_calls id HID.out w _ HTAB.out HB3.out)).mono ?_; rintro e w2 ⟨rfl, hb2⟩; refine Hid.out ?_)
  have hI4 : Lib.IsBuilderF 49 5 w1.heap.size w1.heap.size [] w2 := builder_below HI3.out hb2
  have hB4 : Below w.heap.size w w2 := below_then HB3.out HB3.out.size hb2
  have bk4 : w2.heap[w.heap.size]? = some (.cells #[.int .i64 id, .slice A xs.length c] 29 (0, 0)) := (hb2.block w.heap.size (by simp; have := HLT2.out; omega)).trans ((((Below.refl w1.heap.size w1).alloc (Nat.le_refl _) _).block w.heap.size HLT2.out).trans BK2.out)
  have hl21 := Lib.itoa_length_le id (by have := HID.out; simp [intFits] at this; omega) (by have := HID.out; simp [intFits] at this; omega)
  have HL21 := Aside0.mk hl21
  have HI4 := Aside0.mk hI4
  have HB4 := Aside0.mk hB4
  have BK4 := Aside0.mk bk4
  have hsz : (⟨(Lib.itoa id).toArray⟩ : ByteArray).size = (Lib.itoa id).length := by simp [ByteArray.size]
  have HSZ := Aside0.mk hsz
  have hle4 : w1.heap.size ≤ w2.heap.size := by have := hb2.size; simp at this; omega
  have HLE4 := Aside0.mk hle4
  clear hI4 hB4 bk4 hl21 hb2 hsz hle4
  refine Lib.hid ?_
  gi_wp2_with (refine ⟨trivial, ?_⟩; gi_at_call 23; refine (callsIn_wide.2 (Tryd.Builder_WriteString_k w1.heap.size w1.heap.size [] _ w2 HI4.out (by rw [HSZ.out]; have := HL21.out; simp; omega) HLE4.out)).mono ?_; rintro e w3 ⟨rfl, hI5, hb5, hk5⟩; refine Hid.out ?_)
  have bk5 : w3.heap[w.heap.size]? = some (.cells #[.int .i64 id, .slice A xs.length c] 29 (0, 0)) := (hb5.block w.heap.size HLT2.out).trans BK4.out
  have e0 : ([] : List Value) ++ Lib.strCells ⟨(Lib.itoa id).toArray⟩ = Lib.byteCells (postText id (([] : List LegF).map (fun y => y.1))) := by rw [Lib.strCells_toArray]; simp [postText]
  rw [e0] at hI5
  have hI5' : Lib.IsBuilderF 49 5 w1.heap.size w1.heap.size (Lib.byteCells (postText id (([] : List LegF).map (fun y => y.1)))) w3 := .inr hI5
  have hle5 : w1.heap.size ≤ w3.heap.size := Nat.le_trans HLE4.out hb5.size
  have hB5 : Below w.heap.size w w3 := HB4.out.trans (hb5.mono (Nat.le_of_lt HLT2.out))
  have HI5 := Aside0.mk hI5'
  have HB5 := Aside0.mk hB5
  have HLE5 := Aside0.mk hle5
  have c50 : w3.cell? ⟨w.heap.size, 0, none⟩ = some (.int .i64 id) := (cell_of_row w3 _ 0 _ _ _ bk5).trans rfl
  have c51 : w3.cell? ⟨w.heap.size, 1, none⟩ = some (.slice A xs.length c) := (cell_of_row w3 _ 1 _ _ _ bk5).trans rfl
  clear e0 hI5 hI5' hb5 hk5 hle5 hB5 bk5
  refine Lib.hid ?_
  gi_wp2_with (refine ⟨trivial, ?_⟩; gi_at_call 25; refine (callsIn_wide.2 (legsOf_calls id A _ c _)).mono ?_; rintro e w' ⟨rfl, rfl⟩)
  have hI6 := builder_grown HI5.out (World.grownBy_alloc w3 (.cells #[.int .i64 id, .slice A xs.length c] 29) none) (fun r e => by cases e)
  have hB6 : Below w.heap.size w (w3.alloc (.cells #[.int .i64 id, .slice A xs.length c] 29)) := HB5.out.alloc HB5.out.size _
  have hq := heap_alloc_new w3 (.cells #[.int .i64 id, .slice A xs.length c] 29)
  have hs6 : (w3.alloc (.cells #[.int .i64 id, .slice A xs.length c] 29)).heap.size = w3.heap.size + 1 := by simp
  obtain ⟨W0, hW0⟩ : ∃ W0, w3.alloc (.cells #[.int .i64 id, .slice A xs.length c] 29) = W0 := ⟨_, rfl⟩
  rw [hW0] at hI6 hB6 hq hs6 ⊢
  clear hW0 c50 c51
  have hc0 : W0.cell? ⟨w3.heap.size, 0, none⟩ = some (.int .i64 id) := (cell_of_row W0 _ 0 _ _ _ hq).trans rfl
  have hc1 : W0.cell? ⟨w3.heap.size, 1, none⟩ = some (.slice A xs.length c) := (cell_of_row W0 _ 1 _ _ _ hq).trans rfl
  have hw03 : w.heap.size ≤ W0.heap.size := hB6.size
  refine wpIn_rangeFunc_ownH rfl (by omega) (gf := 47) (lb := #[.pointer (some ⟨w3.heap.size, 0, none⟩)]) rfl trivial (enters_of Tryd.func47 (by kernel_rfl) rfl)
    (legsOf_stops _ (by omega) (fun y : LegF => y.1) w3.heap.size k id A c xs w W0 HR.out HC.out true HOK.out hB6 (by omega) hc0 hc1) belowK_t (belowK_b hw03) (Below.refl _ _) (fun _ => rfl)
    (fun pre W => Lib.IsBuilderF 49 5 w1.heap.size w1.heap.size (Lib.byteCells (postText id (pre.map (fun y : LegF => y.1)))) W ∧ Below w.heap.size w W)
    (fun _ _ _ => False)
    (OwnFrom.and (Own.from (builder_own _ _ _ _ _) _) (ownFrom_below (Nat.le_refl _) hw03))
    (fun _ _ _ _ _ hs _ _ => hs)
    ⟨hI6, hB6⟩
    (fun x a' W => ∃ Bx, W.heap[Bx]? = some (.cells #[.string x.1.f0, .int .i64 x.1.f1, .int .i64 x.1.f2] 45 (0, 0)) ∧ a' = { tmps := #[.agg #[.int .i64 id, .slice A xs.length c], .pointer (some ⟨w.heap.size, 0, none⟩), .string ⟨#[]⟩, .pointer (some ⟨w1.heap.size, 0, none⟩), .pointer (some ⟨Bx, 0, none⟩), .agg #[.int .i64 id, .slice A xs.length c], .bool true, .bool false, .pointer (some ⟨w.heap.size, 0, none⟩), .int .i64 id, .string ⟨(Lib.itoa id).toArray⟩, .tuple #[.int .i64 ((Lib.itoa id).length : Nat), .nilIface], .agg #[.int .i64 id, .slice A xs.length c], .func (.func 47) #[] #[.pointer (some ⟨w3.heap.size, 0, none⟩)], .agg #[.string x.1.f0, .int .i64 x.1.f1, .int .i64 x.1.f2], undef, undef, undef, undef, undef, undef, undef, undef, undef, undef, undef, undef, undef, undef, undef], defers := [] })
    (fun x a' _ X Y row hs hg hr => by
      obtain ⟨Bx, h2, h3⟩ := hs
      refine ⟨Bx, (hg.block Bx (Array.getElem?_eq_some_iff.1 h2).1 (fun e => ?_)).trans h2, h3⟩
      obtain ⟨_, o, ho, hcc⟩ := hr Bx e.symm
      rw [h2] at ho
      cases ho
      cases hcc)
    ?assign ?body ?done ?stop
  case assign =>
    rintro l pre x W K ⟨hI1, hB1⟩ hK
    dsimp only [legEnc]
    gi_wp2
    exact hK _ _ ((KeepsOthers.alloc _ _).from _) ((Below.refl _ W).alloc hB1.size _) ⟨builder_grown hI1 (World.grownBy_alloc W _ none) (fun r e => by cases e), hB1.alloc hB1.size _⟩ ⟨W.heap.size, heap_alloc_new W _, rfl⟩
  case body =>
    rintro l pre x a' W hl ⟨r, hr⟩ ⟨hI1, hB1⟩ ⟨Bx, bX, rfl⟩ hlt
    have hx : (x.1.f0.size ≤ 1000 ∧ (-1000000 ≤ x.1.f1 ∧ x.1.f1 ≤ 1000000) ∧ -1000000 ≤ x.1.f2 ∧ x.1.f2 ≤ 1000000) := by have := x.2; simpa only [legFits, intFits, Bool.and_eq_true, decide_eq_true_eq] using this
    have hf1 : intFits x.1.f1 = true := by simp [intFits]; omega
    have hf2 : intFits x.1.f2 = true := by simp [intFits]; omega
    have l1 := Lib.itoa_length_le x.1.f1 (by omega) (by omega)
    have l2 := Lib.itoa_length_le x.1.f2 (by omega) (by omega)
    have x0 : W.cell? ⟨Bx, 0, none⟩ = some (.string x.1.f0) := (cell_of_row W _ 0 _ _ _ bX).trans rfl
    have x1 : W.cell? ⟨Bx, 1, none⟩ = some (.int .i64 x.1.f1) := (cell_of_row W _ 1 _ _ _ bX).trans rfl
    have x2 : W.cell? ⟨Bx, 2, none⟩ = some (.int .i64 x.1.f2) := (cell_of_row W _ 2 _ _ _ bX).trans rfl
    have hBx : Bx < W.heap.size := (Array.getElem?_eq_some_iff.1 bX).1
    have hbl : w1.heap.size ≤ W.heap.size := Nat.le_of_lt (builder_lt hI1).2
    have hsum : (Lib.byteCells (postText id (pre.map (fun y : LegF => y.1)))).length ≤ 2000000 := by
      have h1 := legs_len pre
      have h2 := HL21.out
      have h3 := HLEN.out
      have h4 : pre.length < xs.length := by simpa [selLegs] using hlt
      simp only [Lib.byteCells, List.length_map, postText, List.length_append]
      omega
    have s0 : x.1.f0.size = x.1.f0.data.size := rfl
    have t1 : ((⟨#[32]⟩ : ByteArray) ++ x.1.f0).size = 1 + x.1.f0.size := by rw [ByteArray.size_append]; rfl
    have t2 : (((⟨#[32]⟩ : ByteArray) ++ x.1.f0) ++ (⟨#[58]⟩ : ByteArray)).size = 1 + x.1.f0.size + 1 := by rw [ByteArray.size_append, t1]; rfl
    have t3 : ((((⟨#[32]⟩ : ByteArray) ++ x.1.f0) ++ (⟨#[58]⟩ : ByteArray)) ++ (⟨(Lib.itoa x.1.f1).toArray⟩ : ByteArray)).size = 1 + x.1.f0.size + 1 + (Lib.itoa x.1.f1).length := by rw [ByteArray.size_append, t2]; exact congrArg (1 + x.1.f0.size + 1 + ·) (List.size_toArray)
    have t4 : (((((⟨#[32]⟩ : ByteArray) ++ x.1.f0) ++ (⟨#[58]⟩ : ByteArray)) ++ (⟨(Lib.itoa x.1.f1).toArray⟩ : ByteArray)) ++ (⟨#[58]⟩ : ByteArray)).size = 1 + x.1.f0.size + 1 + (Lib.itoa x.1.f1).length + 1 := by rw [ByteArray.size_append, t3]; rfl
    have z2 : (⟨(Lib.itoa x.1.f1).toArray⟩ : ByteArray).size = (Lib.itoa x.1.f1).length := List.size_toArray
    have z4 : (⟨(Lib.itoa x.1.f2).toArray⟩ : ByteArray).size = (Lib.itoa x.1.f2).length := List.size_toArray
    have n1 : ¬ 9223372036854775807 < 1 + x.1.f0.size := by omega
    have n2 : ¬ 9223372036854775807 < 1 + x.1.f0.size + 1 := by omega
    have n3 : ¬ 9223372036854775807 < 1 + x.1.f0.size + 1 + (Lib.itoa x.1.f1).length := by omega
    have n4 : ¬ 9223372036854775807 < 1 + x.1.f0.size + 1 + (Lib.itoa x.1.f1).length + 1 := by omega
    have n5 : ¬ 9223372036854775807 < 1 + x.1.f0.size + 1 + (Lib.itoa x.1.f1).length + 1 + (Lib.itoa x.1.f2).length := by omega
    have HX := Aside0.mk hx
    have HF1 := Aside0.mk hf1
    have HF2 := Aside0.mk hf2
    have L1 := Aside0.mk l1
    have L2 := Aside0.mk l2
    have HI1 := Aside0.mk hI1
    have HB1' := Aside0.mk hB1
    have BX := Aside0.mk bX
    have HBX := Aside0.mk hBx
    have HBL := Aside0.mk hbl
    have HSUM := Aside0.mk hsum
    have HTS := Aside0.mk (legT_size x.1)
    clear hx hf1 hf2 l1 l2 hI1 hB1 bX hBx hbl hsum s0 t1 t2 t3 t4 z2 z4
    gi_wp2
    refine startR_ (n := 14) (S := fun w' => w'.cell? ⟨Bx, 0, none⟩ = some (.string x.1.f0) ∧ w'.cell? ⟨Bx, 1, none⟩ = some (.int .i64 x.1.f1) ∧ w'.cell? ⟨Bx, 2, none⟩ = some (.int .i64 x.1.f2)) (ds := []) #[false, false, false, false, false, false, false, false, false, false, false, false, false, false] (by kernel_rfl) rfl rfl (fun _ _ h => h) (by kernel_rfl) ⟨x0, x1, x2⟩ (fun hHeld => ?_)
    refine pure_ (i := 0) (N := some 15) (v := ?_) (a' := ?_) #[true, false, false, false, false, false, false, false, false, false, false, false, false, false] rfl rfl (by kernel_rfl) (fun _ _ _ h => h) (Or.inl ⟨by rfl, ?_⟩) ?_ ?_
    rotate_left
    · intro w'
      go_simp
      with_reducible rfl
    rotate_left
    · simp only [Act.put, List.setIfInBounds_toArray, List.set_cons_zero, List.set_cons_succ, i64_w, i32_w]
      rfl
    refine take_ (i := 1) (N := some 16) (v := ?_) (a' := ?_) #[true, true, false, false, false, false, false, false, false, false, false, false, false, false] rfl rfl (by kernel_rfl) (fun _ _ _ h => h) (Or.inl ⟨by rfl, ?_⟩) hHeld ?_ ?_
    rotate_left
    · rintro w' ⟨s0, s1, s2⟩
      go_simp
      with_reducible rfl
    rotate_left
    · simp only [Act.put, List.setIfInBounds_toArray, List.set_cons_zero, List.set_cons_succ, i64_w, i32_w]
      rfl
    refine pure_ (i := 2) (N := some 17) (v := ?_) (a' := ?_) #[true, true, true, false, false, false, false, false, false, false, false, false, false, false] rfl rfl (by kernel_rfl) (fun _ _ _ h => h) (Or.inl ⟨by rfl, ?_⟩) ?_ ?_
    rotate_left
    · intro w'
      go_simp
      with_reducible rfl
    rotate_left
    · simp only [Act.put, List.setIfInBounds_toArray, List.set_cons_zero, List.set_cons_succ, i64_w, i32_w]
      rfl
    refine pure_ (i := 3) (N := some 18) (v := ?_) (a' := ?_) #[true, true, true, true, false, false, false, false, false, false, false, false, false, false] rfl rfl (by kernel_rfl) (fun _ _ _ h => h) (Or.inl ⟨by rfl, ?_⟩) ?_ ?_
    rotate_left
    · intro w'
      go_simp
      with_reducible rfl
    rotate_left
    · simp only [Act.put, List.setIfInBounds_toArray, List.set_cons_zero, List.set_cons_succ, i64_w, i32_w]
      rfl
    refine pure_ (i := 4) (N := some 19) (v := ?_) (a' := ?_) #[true, true, true, true, true, false, false, false, false, false, false, false, false, false] rfl rfl (by kernel_rfl) (fun _ _ _ h => h) (Or.inl ⟨by rfl, ?_⟩) ?_ ?_
    rotate_left
    · intro w'
      go_simp
      with_reducible rfl
    rotate_left
    · simp only [Act.put, List.setIfInBounds_toArray, List.set_cons_zero, List.set_cons_succ, i64_w, i32_w]
      rfl
    refine take_ (i := 5) (N := some 20) (v := ?_) (a' := ?_) #[true, true, true, true, true, true, false, false, false, false, false, false, false, false] rfl rfl (by kernel_rfl) (fun _ _ _ h => h) (Or.inl ⟨by rfl, ?_⟩) hHeld ?_ ?_
    rotate_left
    · rintro w' ⟨s0, s1, s2⟩
      go_simp
      with_reducible rfl
    rotate_left
    · simp only [Act.put, List.setIfInBounds_toArray, List.set_cons_zero, List.set_cons_succ, i64_w, i32_w]
      rfl
    refine pure_ (i := 9) (N := some 24) (v := ?_) (a' := ?_) #[true, true, true, true, true, true, false, false, false, true, false, false, false, false] rfl rfl (by kernel_rfl) (fun _ _ _ h => h) (Or.inl ⟨by rfl, ?_⟩) ?_ ?_
    rotate_left
    · intro w'
      go_simp
      with_reducible rfl
    rotate_left
    · simp only [Act.put, List.setIfInBounds_toArray, List.set_cons_zero, List.set_cons_succ, i64_w, i32_w]
      rfl
    refine take_ (i := 10) (N := some 25) (v := ?_) (a' := ?_) #[true, true, true, true, true, true, false, false, false, true, true, false, false, false] rfl rfl (by kernel_rfl) (fun _ _ _ h => h) (Or.inl ⟨by rfl, ?_⟩) hHeld ?_ ?_
    rotate_left
    · rintro w' ⟨s0, s1, s2⟩
      go_simp
      with_reducible rfl
    rotate_left
    · simp only [Act.put, List.setIfInBounds_toArray, List.set_cons_zero, List.set_cons_succ, i64_w, i32_w]
      rfl
    refine one_ (i := 6) (N := some 21) #[true, true, true, true, true, true, true, false, false, true, true, false, false, false] rfl rfl (by kernel_rfl) (by decide) (fun K hK => ?_)
    refine goes_ Tryd.func24 (by kernel_rfl) rfl #[.int .i64 x.1.f1] (by rfl) rfl rfl (by (try simp only [List.map_toArray, List.map_cons, List.map_nil]); first | done | rfl) ?_
    refine (itoa_calls x.1.f1 HF1.out w _ HTAB.out (HB1'.out.trans ((Below.refl _ W).drew.mono HB1'.out.size))).mono ?_
    rintro e w4 ⟨rfl, hb4⟩
    refine ⟨_, rfl, ?_⟩
    have hd4 : Below W.heap.size W w4 := (Below.refl _ W).drew.trans hb4
    have HD4 := Aside0.mk hd4
    have bcs : ∀ {b o : Nat} {v : Value}, W.cell? ⟨b, o, none⟩ = some v → w4.cell? ⟨b, o, none⟩ = some v := fun h => (hd4.cell (World.block_lt_of_cell? _ _ h)).trans h
    refine hK.out _ _ ⟨bcs x0, bcs x1, bcs x2⟩ (fun hHeld => ?_)
    clear bcs hd4 hb4
    clear hK K
    refine norm_ (a' := ?_) ?_ ?_
    rotate_left
    · show Act.put _ (some 21) _ = _
      simp only [Act.put, List.setIfInBounds_toArray, List.set_cons_zero, List.set_cons_succ, i64_w, i32_w]
      rfl
    refine pure_ (i := 7) (N := some 22) (v := ?_) (a' := ?_) #[true, true, true, true, true, true, true, true, false, true, true, false, false, false] rfl rfl (by kernel_rfl) (fun _ _ _ h => h) (Or.inl ⟨by rfl, ?_⟩) ?_ ?_
    rotate_left
    · intro w'
      go_simp
      with_reducible rfl
    rotate_left
    · simp only [Act.put, List.setIfInBounds_toArray, List.set_cons_zero, List.set_cons_succ, i64_w, i32_w]
      rfl
    refine pure_ (i := 8) (N := some 23) (v := ?_) (a' := ?_) #[true, true, true, true, true, true, true, true, true, true, true, false, false, false] rfl rfl (by kernel_rfl) (fun _ _ _ h => h) (Or.inl ⟨by rfl, ?_⟩) ?_ ?_
    rotate_left
    · intro w'
      go_simp
      with_reducible rfl
    rotate_left
    · simp only [Act.put, List.setIfInBounds_toArray, List.set_cons_zero, List.set_cons_succ, i64_w, i32_w]
      rfl
    refine one_ (i := 11) (N := some 26) #[true, true, true, true, true, true, true, true, true, true, true, true, false, false] rfl rfl (by kernel_rfl) (by decide) (fun K hK => ?_)
    refine goes_ Tryd.func24 (by kernel_rfl) rfl #[.int .i64 x.1.f2] (by rfl) rfl rfl (by (try simp only [List.map_toArray, List.map_cons, List.map_nil]); first | done | rfl) ?_
    refine (itoa_calls x.1.f2 HF2.out w _ HTAB.out (HB1'.out.trans (HD4.out.mono HB1'.out.size))).mono ?_
    rintro e w5 ⟨rfl, hb5⟩
    refine ⟨_, rfl, ?_⟩
    have hd5 : Below W.heap.size W w5 := below_then HD4.out HD4.out.size hb5
    have HD5 := Aside0.mk hd5
    have bcs : ∀ {b o : Nat} {v : Value}, W.cell? ⟨b, o, none⟩ = some v → w5.cell? ⟨b, o, none⟩ = some v := fun h => (hd5.cell (World.block_lt_of_cell? _ _ h)).trans h
    refine hK.out _ _ ⟨bcs x0, bcs x1, bcs x2⟩ (fun hHeld => ?_)
    clear bcs hd5 hb5
    clear hK K
    refine norm_ (a' := ?_) ?_ ?_
    rotate_left
    · show Act.put _ (some 26) _ = _
      simp only [Act.put, List.setIfInBounds_toArray, List.set_cons_zero, List.set_cons_succ, i64_w, i32_w]
      rfl
    refine pure_ (i := 12) (N := some 27) (v := ?_) (a' := ?_) #[true, true, true, true, true, true, true, true, true, true, true, true, true, false] rfl rfl (by kernel_rfl) (fun _ _ _ h => h) (Or.inl ⟨by rfl, ?_⟩) ?_ ?_
    rotate_left
    · intro w'
      go_simp
      with_reducible rfl
    rotate_left
    · simp only [Act.put, List.setIfInBounds_toArray, List.set_cons_zero, List.set_cons_succ, i64_w, i32_w]
      rfl
    refine one_ (i := 13) (N := some 28) #[true, true, true, true, true, true, true, true, true, true, true, true, true, true] rfl rfl (by kernel_rfl) (by decide) (fun K hK => ?_)
    refine goes_ Tryd.func23 (by kernel_rfl) rfl #[.pointer (some ⟨w1.heap.size, 0, none⟩), .string (legT x.1)] (by rfl) rfl rfl (by (try simp only [List.map_toArray, List.map_cons, List.map_nil]); first | done | rfl) ?_
    refine (Tryd.Builder_WriteString_k w1.heap.size w1.heap.size _ (legT x.1) w5 (builder_below HI1.out HD5.out) (by rw [HTS.out]; have := HSUM.out; have := HX.out; have := L1.out; have := L2.out; omega) (Nat.le_trans HBL.out HD5.out.size)).mono ?_
    rintro e w6 ⟨rfl, hI6, hb6, hk6⟩
    refine ⟨_, rfl, ?_⟩
    have hne : Bx ≠ w1.heap.size := builder_ne HI1.out BX.out (by decide)
    have hbx : w6.heap[Bx]? = some (.cells #[.string x.1.f0, .int .i64 x.1.f1, .int .i64 x.1.f2] 45 (0, 0)) := hk6 Bx _ ((HD5.out.block Bx HBX.out).trans BX.out) (by simpa using hne) (fun c fz e' => by cases e')
    have HI6 := Aside0.mk hI6
    have HB6 := Aside0.mk hb6
    have HK6 := Aside0.mk hk6
    refine hK.out _ _ ⟨(cell_of_row w6 _ 0 _ _ _ hbx).trans rfl, (cell_of_row w6 _ 1 _ _ _ hbx).trans rfl, (cell_of_row w6 _ 2 _ _ _ hbx).trans rfl⟩ (fun hHeld => ?_)
    clear hne hbx hI6 hb6 hk6
    clear hK K
    refine norm_ (a' := ?_) ?_ ?_
    rotate_left
    · show Act.put _ (some 28) _ = _
      simp only [Act.put, List.setIfInBounds_toArray, List.set_cons_zero, List.set_cons_succ, i64_w, i32_w]
      rfl
    refine done_ (by kernel_rfl) ?_
    have hb5 : Below w.heap.size W w5 := HD5.out.mono HB1'.out.size
    have hb6 : Below w.heap.size W w6 := hb5.trans (HB6.out.mono (Nat.le_of_lt HLT2.out))
    refine ⟨(keeps_below HD5.out).trans (keeps_others (builder_below HI1.out HD5.out) HK6.out HB6.out.size), hb6, ?_, HB1'.out.trans hb6⟩
    have e1 : Lib.byteCells (postText id ((pre ++ [x]).map (fun y : LegF => y.1))) = Lib.byteCells (postText id (pre.map (fun y : LegF => y.1))) ++ Lib.strCells (legT x.1) := by
      rw [List.map_append, List.map_cons, List.map_nil, postText_snoc, Lib.strCells_eq, legT_eq, Lib.byteCells_append]
    rw [e1]
    exact .inr HI6.out
  case done =>
    rintro D zs W hD rfl ⟨hI1, hB1⟩ hK
    have hbs : w1.heap.size ≤ W.heap.size := by have := builder_lt hI1; omega
    gi_wp2_with (refine ⟨trivial, ?_⟩; gi_at_call 26; refine (callsIn_wide.2 (Tryd.Builder_String_any_k w1.heap.size w1.heap.size _ W hI1 hbs)).mono ?_; rintro e w4 ⟨rfl, hI5, hb5, hk5⟩)
    have hne : some D ≠ some w1.heap.size := by
      intro e
      obtain rfl : D = w1.heap.size := by simpa using e
      rcases hI1 with ⟨_, v, hb, _⟩ | ⟨_, v, hb, _⟩ <;> (rw [hb] at hK; cases hK)
    have hK4 := hk5 D _ hK hne (fun c fz e => by cases e)
    refine ⟨by simp, .inl ⟨_, _, rfl, run_takeDeferred hK4, ?_⟩⟩
    refine ⟨_, results_tmp rfl _ _ _, by simp, ?_⟩
    exact (hB1.trans (hb5.mono (Nat.le_of_lt HLT2.out))).trans (belowK_b (w := w) (Nat.le_refl _) w4 D _ _ (by omega) hK4 rfl rfl)
  case stop =>
    rintro D c pre W _ _ h _
    exact h.elim
/-- What PostText answers. -/
def impl_PostText.f (k : Nat) (a0_0 : Int) (l0_1 : List S45) : Option ByteArray := (impl_PostOk.f k a0_0 l0_1).bind fun t => if t = true then (if postFits a0_0 l0_1 = true then some ⟨(postText a0_0 l0_1).toArray⟩ else none) else some ⟨#[]⟩
theorem impl_PostText.mono : ∀ a0 a1 k, LeO (impl_PostText.f k a0 a1) (impl_PostText.f (k + 1) a0 a1) := by
  intro a0 a1 k
  unfold impl_PostText.f
  exact LeO.bind (impl_PostOk.mono a0 a1 k) (fun _ => LeO.refl _)
theorem impl_PostText.calls (k : Nat) (a0_0 : Int) (A0_1 : Option Addr) (c0_1 : Nat) (l0_1 : List (S45)) (r : ByteArray) (w : World) (htab : Tab w) (hr0_1 : Kd.C k45 w A0_1 l0_1.length l0_1) (hc0_1 : l0_1.length ≤ c0_1) (h : impl_PostText.f k a0_0 l0_1 = some r) :
    Calls Tryd.prog 9 #[.agg #[.int .i64 a0_0, .slice A0_1 l0_1.length c0_1]] w fun e w' => e = .returned (.string r) ∧ Below w.heap.size w w' := by
  obtain ⟨ok, hok, hr⟩ := Option.bind_eq_some_iff.1 h
  cases ok with
  | false =>
    rw [if_neg (by decide)] at hr
    obtain rfl := Option.some.inj hr
    exact postText_no k a0_0 A0_1 c0_1 l0_1 w hr0_1 hc0_1 hok
  | true =>
    rw [if_pos rfl] at hr
    by_cases hf : postFits a0_0 l0_1 = true
    · rw [if_pos hf] at hr
      obtain rfl := Option.some.inj hr
      simp only [postFits, Bool.and_eq_true, decide_eq_true_eq] at hf
      obtain ⟨ys, rfl⟩ := legF_of l0_1 hf.2.2
      rw [List.length_map] at hr0_1 hc0_1 hf ⊢
      exact postText_calls k a0_0 A0_1 c0_1 ys w hr0_1 hc0_1 hf.1 hf.2.1 htab hok
    · rw [if_neg hf] at hr
      cases hr
end

/-! ### impl_pieces: function 31 -/
section
attribute [local go_sem] Oper.semAt_some
theorem noGoto_normal {Q : Exit → Act → World → Prop} {a : Act} {w : World} : Exit.noGoto Q .normal a w = Q .normal a w := rfl
theorem noGoto_exit {Q : Exit → Act → World → Prop} {a : Act} {w : World} (id : Nat) : Exit.noGoto Q (.exit id) a w = Q (.exit id) a w := rfl
theorem noGoto_ret {Q : Exit → Act → World → Prop} {a : Act} {w : World} : Exit.noGoto Q .ret a w = Q .ret a w := rfl
attribute [local go_sem] noGoto_normal noGoto_exit noGoto_ret
/-! #### Words between spaces -/
def okByte (b : UInt8) : Bool := decide (b.toNat = 32) || (decide (97 ≤ b.toNat) && decide (b.toNat ≤ 122)) || (decide (48 ≤ b.toNat) && decide (b.toNat ≤ 57)) || decide (b.toNat = 58) || decide (b.toNat = 45)
/-- From a place on: the words so far, where the next one begins. -/
def piecesFrom (s : ByteArray) : Nat → Nat → Nat → List ByteArray → List ByteArray × Bool
  | 0, _, start, words => (words ++ [s.extract start s.size], true)
  | d + 1, pos, start, words => if okByte (s.get! pos) = true then (if (s.get! pos).toNat = 32 then piecesFrom s d (pos + 1) (pos + 1) (words ++ [s.extract start pos]) else piecesFrom s d (pos + 1) start words) else ([], false)
def piecesOf (s : ByteArray) : List ByteArray × Bool := piecesFrom s s.size 0 0 []
theorem dec_ascii (s : ByteArray) (i : Nat) (h : (s.get! i).toNat < 128) : Utf8.decode s i = ((s.get! i).toNat, 1) := by
  simp [Utf8.decode, h]
theorem dec_high (s : ByteArray) (i : Nat) (h : 128 ≤ (s.get! i).toNat) : 128 ≤ (Utf8.decode s i).1 := by
  unfold Utf8.decode Utf8.runeError
  simp only [Nat.add_zero]
  repeat' split
  all_goals first | omega | (simp only; omega) | (simp_all; done) | (simp_all; omega)
theorem info_str : (Tryd.prog.info? 9).map (fun i => (i.zero, i.size, i.bytes)) = some (some (.string ⟨#[]⟩), Kd.string.sz, 16) := by kernel_rfl
theorem w64i {n : Nat} (h : n ≤ 1048576) : Value.int .i64 (wrap64 ((n : Int) + 1)) = .int .i64 ((n + 1 : Nat) : Int) := by
  have e : wrap64 ((n : Int) + 1) = (n : Int) + 1 := by unfold wrap64; omega
  rw [e]
  rfl
set_option maxRecDepth 100000 in
set_option maxHeartbeats 4000000 in
theorem pieces_calls (s : ByteArray) (hs : s.size ≤ 1048576) (w : World) :
    Calls Tryd.prog 31 #[.string s] w fun e w' => ∃ v, e = .returned (.tuple #[v, .bool (piecesOf s).2]) ∧ Kd.R Kd.string 9 w' w.heap.size (fun _ => True) v (piecesOf s).1 ∧ Below w.heap.size w w' := by
  have HS := Aside0.mk hs
  clear hs
  go_enter Tryd.func31, Tryd.ntmps31
  go_wp2
  apply wp_scope_straight
  go_wp2
  apply wp_label
  go_wp2
  go_loopw [4, 5] (fun v4 v5 wr => ∃ (d pos start : Nat) (words : List ByteArray), v5 = .int .i64 (start : Nat) ∧ piecesFrom s d pos start words = piecesOf s ∧ pos + d = s.size ∧ start ≤ pos ∧ words.length ≤ pos ∧ Kd.R Kd.string 9 wr w.heap.size (fun k_ => k_ ≠ w.heap.size) v4 words ∧ wr.heap[w.heap.size]? = some (.stringIter s pos) ∧ Below w.heap.size w wr) (fun _ _ wr => s.size - wr.iterPos w.heap.size)
  case atStart =>
    exact ⟨s.size, 0, 0, [], rfl, rfl, by omega, Nat.le_refl _, Nat.le_refl _, Kd.R_nil _ _ _ _ _, World.iter_heap w s 0, (Below.refl _ w).alloc (Nat.le_refl _) _⟩
  case round =>
    obtain ⟨d, pos, start, words, rfl, hp, hd, hst, hwl, hRw, hit, hB⟩ := hrel
    have hsz : w.heap.size < wr.heap.size := (Array.getElem?_eq_some_iff.1 hit).1
    have hsl := HS.out
    cases d with
    | zero =>
      have hpos : ¬ pos < s.size := by omega
      have hnx : ∀ ty, (Instr.next (.pointer (some ⟨w.heap.size, 0, none⟩)) true ty).run Tryd.prog wr = _ := fun ty => Lib.run_next_end_at wr w.heap.size s pos ty hit hpos
      have q1 : decide ((0 : Int) ≤ (start : Int)) = true := decide_eq_true (by omega)
      have q2 : decide ((start : Int) ≤ (s.size : Int)) = true := decide_eq_true (by omega)
      have q3 : ((0 : Int) ≤ (start : Int)) = True := eq_true (by omega)
      have q4 : ((start : Int) ≤ (s.size : Int)) = True := eq_true (by omega)
      have q5 : decide (start ≤ s.size) = true := decide_eq_true (by omega)
      have HP := Aside0.mk hp
      have HRW := Aside0.mk hRw
      have HB := Aside0.mk hB
      have HWL := Aside0.mk hwl
      have HD := Aside0.mk hd
      have HST := Aside0.mk hst
      have HSZ := Aside0.mk hsz
      clear hp hRw hB hwl hd hst hpos hsz hsl hit
      go_wp2_with (first | ((with_reducible refine gate_builtin (b := .append) (xs := #[.tmp 43, .tmp 47]) rfl ?_); at_builtin; refine Kd.R_append Kd.string (w0 := w) w.heap.size rfl (.tmp 43) (.tmp 47) 59 9 (.string ⟨#[]⟩) 16 rfl Tryd.underlying59 info_str rfl (by decide) (by omega) u4 words (s.extract start s.size) [.string (s.extract start s.size)] (fun k_ => k_ ≠ w.heap.size) (fun _ => False) rfl rfl ?aP (fun _ hk => hk.elim) ?aF ?aO ?aB ?aS ?aL ?_; (case aP => exact rfl); (case aB => exact HB.out); (case aF => exact fun k hk => (by have := HSZ.out; omega)); (case aO => exact HRW.out); (case aS => exact HB.out.size); (case aL => have h1 := HWL.out; have h2 := HD.out; have h3 := HS.out; omega); intro v1 w3 ho hb hg hat; refine Hid.out ?_))
      have HO := Aside0.mk ho
      have HB3 := Aside0.mk hb
      clear ho hb hg hat
      refine Lib.hid ?_
      go_wp2
      rw [noGoto_ret]; refine bodyPost_ret (results_tmp2 rfl _ _ _) rfl ?_
      have hp := HP.out
      simp only [piecesFrom] at hp
      exact ⟨_, by rw [← hp]; rfl, by rw [← hp]; exact Kd.R_mono HO.out (fun _ _ => trivial), HB3.out⟩
    | succ d =>
      have hpos : pos < s.size := by omega
      have hnx0 : ∀ ty, (Instr.next (.pointer (some ⟨w.heap.size, 0, none⟩)) true ty).run Tryd.prog wr = _ := fun ty => Lib.run_next_any_at wr w.heap.size s pos ty hit hpos
      obtain ⟨R, hR⟩ : ∃ R : Int, ((Utf8.decode s pos).1 : Int) = R := ⟨_, rfl⟩
      obtain ⟨wd, hwd⟩ : ∃ wd : Nat, (Utf8.decode s pos).2 = wd := ⟨_, rfl⟩
      obtain ⟨W2, hW2⟩ : ∃ W2, wr.iterAt w.heap.size s (pos + wd) = W2 := ⟨_, rfl⟩
      have hR2 : Kd.R Kd.string 9 W2 w.heap.size (fun k_ => k_ ≠ w.heap.size) u4 words := by rw [← hW2]; exact Kd.R_move hRw (fun j hj => Lib.iterAt_other wr _ j s _ hj)
      have hsw : wr.heap.size ≤ W2.heap.size := by rw [← hW2, Lib.iterAt_size]; exact Nat.le_refl _
      have HSW := Aside0.mk hsw
      have hit2 : W2.heap[w.heap.size]? = some (.stringIter s (pos + wd)) := by rw [← hW2]; exact Lib.iterAt_heap wr w.heap.size s pos (pos + wd) hit
      have hB2 : Below w.heap.size w W2 := by rw [← hW2]; exact Lib.below_iterAt hB (k := w.heap.size) (Nat.le_refl _) s (pos + wd)
      rw [hR, hwd, hW2] at hnx0
      have hmu : wr.iterPos w.heap.size = pos := by simp [World.iterPos, hit]
      simp only [piecesFrom] at hp
      have key : (okByte (s.get! pos) = true → ((s.get! pos).toNat : Int) = R ∧ wd = 1) ∧ (okByte (s.get! pos) = false → R < 0 ∨ 122 < R ∨ (58 < R ∧ R < 97) ∨ (R < 48 ∧ R ≠ 45 ∧ R ≠ 32)) := by
        rw [← hR, ← hwd]
        constructor
        · intro h
          have hlow : (s.get! pos).toNat < 128 := by
            simp only [okByte, Bool.or_eq_true, Bool.and_eq_true, decide_eq_true_eq] at h
            omega
          rw [dec_ascii s pos hlow]
          exact ⟨rfl, rfl⟩
        · intro h
          by_cases hlow : (s.get! pos).toNat < 128
          · rw [dec_ascii s pos hlow]
            simp only [okByte, Bool.or_eq_false_iff, Bool.and_eq_false_iff, decide_eq_false_iff_not] at h
            simp only
            omega
          · have := dec_high s pos (by omega)
            exact .inr (.inl (by omega))
      have HIT := Aside0.mk hit2
      have HRW := Aside0.mk hR2
      have HB := Aside0.mk hB2
      have HWL := Aside0.mk hwl
      have HD := Aside0.mk hd
      have HST := Aside0.mk hst
      have HMU := Aside0.mk hmu
      have HSZ := Aside0.mk hsz
      have HSL := Aside0.mk hsl
      clear hR hwd hW2 hRw hit hB hR2 hit2 hB2 hpos hmu hsz hsl hwl hd hst
      cases hok : okByte (s.get! pos) with
      | false =>
        have hcase := key.2 hok
        have hpe : ([], false) = piecesOf s := by rw [hok, if_neg (by decide)] at hp; exact hp
        have HPE := Aside0.mk hpe
        clear hp key hok hpe
        rcases hcase with hcase | hcase | hcase | hcase
        · have b0 : decide (97 ≤ R) = false := decide_eq_false (by omega)
          have b2 : decide (48 ≤ R) = false := decide_eq_false (by omega)
          have b4 : (R == 58) = false := beq_eq_false_iff_ne.2 (by omega)
          have b5 : (R == 45) = false := beq_eq_false_iff_ne.2 (by omega)
          have b32 : (R == 32) = false := beq_eq_false_iff_ne.2 (by omega)
          clear hcase
          go_wp2
          rw [noGoto_ret]; refine bodyPost_ret (results_tmp2 rfl _ _ _) rfl ?_
          exact ⟨_, by rw [← HPE.out]; rfl, by rw [← HPE.out]; exact Kd.R_nil _ _ _ _ _, HB.out⟩
        · have b0 : decide (97 ≤ R) = true := decide_eq_true (by omega)
          have b1 : decide (R ≤ 122) = false := decide_eq_false (by omega)
          have b2 : decide (48 ≤ R) = true := decide_eq_true (by omega)
          have b3 : decide (R ≤ 57) = false := decide_eq_false (by omega)
          have b4 : (R == 58) = false := beq_eq_false_iff_ne.2 (by omega)
          have b5 : (R == 45) = false := beq_eq_false_iff_ne.2 (by omega)
          have b32 : (R == 32) = false := beq_eq_false_iff_ne.2 (by omega)
          clear hcase
          go_wp2
          rw [noGoto_ret]; refine bodyPost_ret (results_tmp2 rfl _ _ _) rfl ?_
          exact ⟨_, by rw [← HPE.out]; rfl, by rw [← HPE.out]; exact Kd.R_nil _ _ _ _ _, HB.out⟩
        · have b0 : decide (97 ≤ R) = false := decide_eq_false (by omega)
          have b2 : decide (48 ≤ R) = true := decide_eq_true (by omega)
          have b3 : decide (R ≤ 57) = false := decide_eq_false (by omega)
          have b4 : (R == 58) = false := beq_eq_false_iff_ne.2 (by omega)
          have b5 : (R == 45) = false := beq_eq_false_iff_ne.2 (by omega)
          have b32 : (R == 32) = false := beq_eq_false_iff_ne.2 (by omega)
          clear hcase
          go_wp2
          rw [noGoto_ret]; refine bodyPost_ret (results_tmp2 rfl _ _ _) rfl ?_
          exact ⟨_, by rw [← HPE.out]; rfl, by rw [← HPE.out]; exact Kd.R_nil _ _ _ _ _, HB.out⟩
        · have b0 : decide (97 ≤ R) = false := decide_eq_false (by omega)
          have b2 : decide (48 ≤ R) = false := decide_eq_false (by omega)
          have b4 : (R == 58) = false := beq_eq_false_iff_ne.2 (by omega)
          have b5 : (R == 45) = false := beq_eq_false_iff_ne.2 (by omega)
          have b32 : (R == 32) = false := beq_eq_false_iff_ne.2 (by omega)
          clear hcase
          go_wp2
          rw [noGoto_ret]; refine bodyPost_ret (results_tmp2 rfl _ _ _) rfl ?_
          exact ⟨_, by rw [← HPE.out]; rfl, by rw [← HPE.out]; exact Kd.R_nil _ _ _ _ _, HB.out⟩
      | true =>
        obtain ⟨hr, rfl⟩ := key.1 hok
        rw [if_pos hok] at hp
        have hok' := hok
        simp only [okByte, Bool.or_eq_true, Bool.and_eq_true, decide_eq_true_eq] at hok'
        by_cases h32 : (s.get! pos).toNat = 32
        · rw [if_pos h32] at hp
          have HP := Aside0.mk hp
          have e32 : R = 32 := by omega
          clear key hok hok' hp h32 hr
          subst e32
          have hst := HST.out
          have hd := HD.out
          have q1 : decide ((0 : Int) ≤ (start : Int)) = true := decide_eq_true (by omega)
          have q2 : decide ((start : Int) ≤ (pos : Int)) = true := decide_eq_true (by omega)
          have q3 : ((0 : Int) ≤ (start : Int)) = True := eq_true (by omega)
          have q4 : ((start : Int) ≤ (pos : Int)) = True := eq_true (by omega)
          have q5 : decide ((pos : Int) ≤ (s.size : Int)) = true := decide_eq_true (by omega)
          have q6 : ((pos : Int) ≤ (s.size : Int)) = True := eq_true (by omega)
          clear hst hd
          go_wp2_with (first | ((with_reducible refine gate_builtin (b := .append) (xs := #[.tmp 17, .tmp 22]) rfl ?_); at_builtin; refine Kd.R_append Kd.string (w0 := w) w.heap.size rfl (.tmp 17) (.tmp 22) 59 9 (.string ⟨#[]⟩) 16 rfl Tryd.underlying59 info_str rfl (by decide) (by omega) u4 words (s.extract start pos) [.string (s.extract start pos)] (fun k_ => k_ ≠ w.heap.size) (fun _ => False) rfl rfl ?aP (fun _ hk => hk.elim) ?aF ?aO ?aB ?aS ?aL ?_; (case aP => exact rfl); (case aB => exact HB.out); (case aF => exact fun k hk => (by have := Nat.lt_of_lt_of_le HSZ.out HSW.out; omega)); (case aO => exact HRW.out); (case aS => exact HB.out.size); (case aL => have h1 := HWL.out; have h2 := HD.out; have h3 := HS.out; omega); intro v1 w3 ho hb hg hat; refine Hid.out ?_))
          have hitA : w3.heap[w.heap.size]? = some (.stringIter s (pos + 1)) := (hg.block w.heap.size (by have := HSZ.out; have := HSW.out; omega) (Kd.R_away HRW.out (fun _ hk => hk))).trans HIT.out
          have HO := Aside0.mk ho
          have HB3 := Aside0.mk hb
          have HITA := Aside0.mk hitA
          clear ho hb hg hat hitA
          refine Lib.hid ?_
          go_wp2
          go_roundw
          case rel => exact ⟨d, pos + 1, pos + 1, words ++ [s.extract start pos], (by first | rfl | (simp; done) | (rw [w64i (by have := HD.out; have := HSL.out; omega)])), HP.out, by have := HD.out; omega, Nat.le_refl _, by have := HWL.out; simp; omega, HO.out, HITA.out, HB3.out⟩
          case measure => have h1 := HITA.out; have h2 := HMU.out; have h3 := HD.out; simp only [World.iterPos, h1] at h2 ⊢; omega
        · rw [if_neg h32] at hp
          have HP := Aside0.mk hp
          have hcase : (97 ≤ R ∧ R ≤ 122) ∨ (48 ≤ R ∧ R ≤ 57) ∨ R = 58 ∨ R = 45 := by omega
          clear key hok hok' hp h32 hr
          rcases hcase with hcase | hcase | hcase | hcase
          · have b0 : decide (97 ≤ R) = true := decide_eq_true (by omega)
            have b1 : decide (R ≤ 122) = true := decide_eq_true (by omega)
            have b32 : (R == 32) = false := beq_eq_false_iff_ne.2 (by omega)
            clear hcase
            go_wp2
            go_roundw
            case rel => exact ⟨d, pos + 1, start, words, rfl, HP.out, by have := HD.out; omega, by have := HST.out; omega, by have := HWL.out; omega, HRW.out, HIT.out, HB.out⟩
            case measure => have h1 := HIT.out; have h2 := HMU.out; have h3 := HD.out; simp only [World.iterPos, h1] at h2 ⊢; omega
          · have b0 : decide (97 ≤ R) = false := decide_eq_false (by omega)
            have b2 : decide (48 ≤ R) = true := decide_eq_true (by omega)
            have b3 : decide (R ≤ 57) = true := decide_eq_true (by omega)
            have b32 : (R == 32) = false := beq_eq_false_iff_ne.2 (by omega)
            clear hcase
            go_wp2
            go_roundw
            case rel => exact ⟨d, pos + 1, start, words, rfl, HP.out, by have := HD.out; omega, by have := HST.out; omega, by have := HWL.out; omega, HRW.out, HIT.out, HB.out⟩
            case measure => have h1 := HIT.out; have h2 := HMU.out; have h3 := HD.out; simp only [World.iterPos, h1] at h2 ⊢; omega
          · have b0 : decide (97 ≤ R) = false := decide_eq_false (by omega)
            have b2 : decide (48 ≤ R) = true := decide_eq_true (by omega)
            have b3 : decide (R ≤ 57) = false := decide_eq_false (by omega)
            have b4 : (R == 58) = true := beq_iff_eq.2 (by omega)
            have b32 : (R == 32) = false := beq_eq_false_iff_ne.2 (by omega)
            clear hcase
            go_wp2
            go_roundw
            case rel => exact ⟨d, pos + 1, start, words, rfl, HP.out, by have := HD.out; omega, by have := HST.out; omega, by have := HWL.out; omega, HRW.out, HIT.out, HB.out⟩
            case measure => have h1 := HIT.out; have h2 := HMU.out; have h3 := HD.out; simp only [World.iterPos, h1] at h2 ⊢; omega
          · have b0 : decide (97 ≤ R) = false := decide_eq_false (by omega)
            have b2 : decide (48 ≤ R) = false := decide_eq_false (by omega)
            have b4 : (R == 58) = false := beq_eq_false_iff_ne.2 (by omega)
            have b5 : (R == 45) = true := beq_iff_eq.2 (by omega)
            have b32 : (R == 32) = false := beq_eq_false_iff_ne.2 (by omega)
            clear hcase
            go_wp2
            go_roundw
            case rel => exact ⟨d, pos + 1, start, words, rfl, HP.out, by have := HD.out; omega, by have := HST.out; omega, by have := HWL.out; omega, HRW.out, HIT.out, HB.out⟩
            case measure => have h1 := HIT.out; have h2 := HMU.out; have h3 := HD.out; simp only [World.iterPos, h1] at h2 ⊢; omega
end

end Go.Proofs.YtdjohhobmipagaaDoor.QFnExactPostRead

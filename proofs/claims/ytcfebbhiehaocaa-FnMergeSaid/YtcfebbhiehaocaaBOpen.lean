/- Arguments are opened kind by kind: what reads as data is a value of the kind. No condition. -/
import Derived.Test.YtcfebbhiehaocaaWMore
import Derived.Test.YtcfebbhiehaocaaWSized
import Derived.WalkKit
import Derived.ProofKit
import Derived.OpenShut
import Derived.ShutString
import Derived.ChangeOld
import Derived.Below
import Derived.SizedLaws
import Derived.Deep.Slices
import Derived.Deep.Fields
import Derived.ChangeSame
import Derived.Carry
set_option linter.unusedVariables false
set_option linter.unusedSimpArgs false
namespace Go.Proofs.Ytcfebbhiehaocaa.B
open Go.ChangeShapes Go.WideShapes Go.ChangeAt Go.RowKit Go.Deep Go.Proofs.YtcfebbhiehaocaaW.PrintWords Go.Proofs.YtcfebbhiehaocaaW.PrintLast Go.Proofs.YtcfebbhiehaocaaW.PrintMore

/-- What reads as data of type t is a value of kind d, and G is known of it. -/
def Opens (P : Program) (t : TypeId) {α : Type} (d : Kd α) (G : α → Prop) : Prop :=
  ∀ {H : Type} (enc : TypeId × Value → H) (W : World) (base : Nat) (spare : Nat → Bool) (held : Bool) (fuel : Nat) (cs : List Value) (x : DataW H × List MemPlace),
    DataW.trod enc P W base spare held fuel t cs = some x → ∃ a, d.K W a cs ∧ G a
section
variable {P : Program} {t : TypeId}
theorem opens_int {k : IntKind} (h : P.underlying t = some (.int k)) : Opens P t (Kd.int k) (fun n => (Lit.int k n).wf = true) := by
  intro H enc W base spare held fuel cs x hx
  obtain ⟨n, rfl, _, hw⟩ := DataW.trod_int h hx
  exact ⟨n, rfl, hw⟩
theorem opens_bool (h : P.underlying t = some .bool) : Opens P t Kd.bool (fun _ => True) := by
  intro H enc W base spare held fuel cs x hx
  obtain ⟨n, rfl, _⟩ := DataW.trod_bool h hx
  exact ⟨n, rfl, trivial⟩
theorem opens_string (h : P.underlying t = some .string) : Opens P t Kd.string (fun s => s.size ≤ maxLen) := by
  intro H enc W base spare held fuel cs x hx
  obtain ⟨n, rfl, _, hw⟩ := DataW.trod_string h hx
  exact ⟨n, rfl, hw⟩
theorem cells?_add {w : World} {base : Nat} {a : Addr} {n : Nat} {cs : List Value} (h : w.cells? base a n = some cs) : cs.length = n ∧ ∀ j u, cs[j]? = some u → w.cell? (a.add j) = some u := by
  obtain ⟨_, hl, hat⟩ := World.cells?_some h
  refine ⟨hl, fun j u hj => ?_⟩
  have hlt : j < n := by have := (List.getElem?_eq_some_iff.1 hj).1; omega
  exact (hat j hlt).trans hj
theorem opens_slice {e : TypeId} {α : Type} {d : Kd α} {G : α → Prop} (h : P.underlying t = some (.slice e)) (hd : Opens P e d G) (hC : P.cellsOf e = d.sz) :
    Opens P t (Kd.slice e d) (fun l => l.length ≤ maxLen ∧ ∀ x ∈ l, G x) := by
  intro H enc W base spare held fuel cs x hx
  rcases open_slice h hx with ⟨rfl, _⟩ | ⟨a, len, cap, m, n, D, Pl, rfl, hb, hl, hm, hmm, _, hi⟩
  · exact ⟨[], ⟨none, 0, rfl, Nat.le_refl _, rfl, by simp, fun hp => absurd hp (by simp)⟩, by simp, by simp⟩
  · have hml : len ≤ m := by rw [hmm]; split <;> omega
    have each : ∀ i, i < len → ∃ v : α, (∃ cs', d.K W v cs' ∧ ∀ j u, cs'[j]? = some u → W.cell? ((a.add (i * d.sz)).add j) = some u) ∧ G v := by
      intro i hil
      obtain ⟨cs', hc, ht⟩ := hi i (by omega)
      rw [hC] at hc
      obtain ⟨v, hk, hg⟩ := hd enc W base spare held n cs' _ ht
      exact ⟨v, ⟨cs', hk, (cells?_add hc).2⟩, hg⟩
    have key : ∀ n, n ≤ len → ∃ l : List α, l.length = n ∧ ∀ i v, l[i]? = some v → (∃ cs', d.K W v cs' ∧ ∀ j u, cs'[j]? = some u → W.cell? ((a.add (i * d.sz)).add j) = some u) ∧ G v := by
      intro n
      induction n with
      | zero => intro _; exact ⟨[], rfl, fun i v h => by simp at h⟩
      | succ n ih =>
        intro hn
        obtain ⟨l, hlen, hl⟩ := ih (by omega)
        obtain ⟨v, hv⟩ := each n (by omega)
        refine ⟨l ++ [v], by simp [hlen], fun i u hu => ?_⟩
        rcases Nat.lt_or_ge i l.length with hlt | hge
        · rw [List.getElem?_append_left hlt] at hu
          exact hl i u hu
        · rw [List.getElem?_append_right hge] at hu
          have h0 : i - l.length = 0 := by
            have := (List.getElem?_eq_some_iff.1 hu).1
            simp at this
            omega
          rw [h0] at hu
          have hi : i = n := by omega
          subst hi
          simp at hu
          subst hu
          exact hv
    obtain ⟨l, hlen, hall⟩ := key len (Nat.le_refl _)
    have hm63 : len ≤ maxLen := Nat.le_trans hl hm
    refine ⟨l, ⟨some a, cap, by rw [hlen], by omega, rfl, ?_, fun _ => ⟨a, rfl, fun j p hp => ?_⟩⟩, by omega, fun v hv => ?_⟩
    · rw [hlen]; simpa [maxLen] using hm63
    · obtain ⟨⟨cs', hk, hc⟩, _⟩ := hall j p hp
      exact ⟨cs', d.K_len hk, hk, fun i u hu => by rw [← Go.Deep.add_add]; exact hc i u hu⟩
    · obtain ⟨i, hi', rfl⟩ := List.getElem_of_mem hv
      exact (hall i _ (List.getElem?_eq_getElem hi')).2
theorem opens_iso {α β : Type} {d : Kd α} {G : α → Prop} {g : β → α} (h : Opens P t d G) (hg : ∀ y, ∃ x, g x = y) : Opens P t (Kd.iso d g) (fun x => G (g x)) := by
  intro H enc W base spare held fuel cs x hx
  obtain ⟨a, hk, hG⟩ := h enc W base spare held fuel cs x hx
  obtain ⟨b, rfl⟩ := hg a
  exact ⟨b, hk, hG⟩
theorem field_at {fs : Array Field} {H : Type} {enc : TypeId × Value → H} {W : World} {base : Nat} {spare : Nat → Bool} {held : Bool} {n : Nat} {cs : List Value} {xs : List (DataW H × List MemPlace)} (hone : oneCellFields P fs = true)
    (hf : ∀ (i : Nat) (f : Field), fs[i]? = some f → DataW.trod enc P W base spare held n f.type ((cs.drop f.offset).take (P.cellsOf f.type)) = xs[i]?) (hl : xs.length = fs.size)
    (i : Nat) (f : Field) (v : Value) (h : fs[i]? = some f) (hv : cs[i]? = some v) : ∃ y, DataW.trod enc P W base spare held n f.type [v] = some y := by
  obtain ⟨ho, hk⟩ := hone_of hone i f h
  have h1 := hf i f h
  rw [ho, hk] at h1
  have hi : i < cs.length := (List.getElem?_eq_some_iff.1 hv).1
  have hx : i < xs.length := by rw [hl]; exact (Array.getElem?_eq_some_iff.1 h).1
  rw [List.drop_eq_getElem_cons hi] at h1
  have hv' : cs[i] = v := (List.getElem?_eq_some_iff.1 hv).2
  rw [hv', List.getElem?_eq_getElem hx] at h1
  exact ⟨_, h1⟩
theorem opens_fields2 {f0 f1 : Field} {α0 α1 : Type} {d0 : Kd α0} {d1 : Kd α1} {G0 : α0 → Prop} {G1 : α1 → Prop} (hs : P.underlying t = some (.struct #[f0, f1])) (hone : oneCellFields P #[f0, f1] = true) (hC : P.cellsOf t = 2)
    (h0 : Opens P f0.type d0 G0) (h1 : Opens P f1.type d1 G1) : Opens P t (Kd.pair d0 d1) (fun x => G0 x.1 ∧ G1 x.2) := by
  intro H enc W base spare held fuel cs x hx
  obtain ⟨xs, n, _, _, hlen, hl, hf⟩ := DataW.trod_struct hs hx
  match cs, hlen.trans hC with
  | [c0, c1], _ =>
    obtain ⟨y0, e0⟩ := field_at hone hf hl 0 f0 c0 rfl rfl
    obtain ⟨y1, e1⟩ := field_at hone hf hl 1 f1 c1 rfl rfl
    obtain ⟨a0, k0, g0⟩ := h0 enc W base spare held n _ _ e0
    obtain ⟨a1, k1, g1⟩ := h1 enc W base spare held n _ _ e1
    exact ⟨(a0, a1), ⟨[c0], [c1], rfl, k0, k1⟩, g0, g1⟩
theorem opens_fields3 {f0 f1 f2 : Field} {α0 α1 α2 : Type} {d0 : Kd α0} {d1 : Kd α1} {d2 : Kd α2} {G0 : α0 → Prop} {G1 : α1 → Prop} {G2 : α2 → Prop} (hs : P.underlying t = some (.struct #[f0, f1, f2])) (hone : oneCellFields P #[f0, f1, f2] = true) (hC : P.cellsOf t = 3)
    (h0 : Opens P f0.type d0 G0) (h1 : Opens P f1.type d1 G1) (h2 : Opens P f2.type d2 G2) : Opens P t (Kd.pair d0 (Kd.pair d1 d2)) (fun x => G0 x.1 ∧ G1 x.2.1 ∧ G2 x.2.2) := by
  intro H enc W base spare held fuel cs x hx
  obtain ⟨xs, n, _, _, hlen, hl, hf⟩ := DataW.trod_struct hs hx
  match cs, hlen.trans hC with
  | [c0, c1, c2], _ =>
    obtain ⟨y0, e0⟩ := field_at hone hf hl 0 f0 c0 rfl rfl
    obtain ⟨y1, e1⟩ := field_at hone hf hl 1 f1 c1 rfl rfl
    obtain ⟨y2, e2⟩ := field_at hone hf hl 2 f2 c2 rfl rfl
    obtain ⟨a0, k0, g0⟩ := h0 enc W base spare held n _ _ e0
    obtain ⟨a1, k1, g1⟩ := h1 enc W base spare held n _ _ e1
    obtain ⟨a2, k2, g2⟩ := h2 enc W base spare held n _ _ e2
    exact ⟨(a0, a1, a2), ⟨[c0], [c1, c2], rfl, k0, ⟨[c1], [c2], rfl, k1, k2⟩⟩, g0, g1, g2⟩
theorem opens_fields5 {f0 f1 f2 f3 f4 : Field} {α0 α1 α2 α3 α4 : Type} {d0 : Kd α0} {d1 : Kd α1} {d2 : Kd α2} {d3 : Kd α3} {d4 : Kd α4} {G0 : α0 → Prop} {G1 : α1 → Prop} {G2 : α2 → Prop} {G3 : α3 → Prop} {G4 : α4 → Prop}
    (hs : P.underlying t = some (.struct #[f0, f1, f2, f3, f4])) (hone : oneCellFields P #[f0, f1, f2, f3, f4] = true) (hC : P.cellsOf t = 5)
    (h0 : Opens P f0.type d0 G0) (h1 : Opens P f1.type d1 G1) (h2 : Opens P f2.type d2 G2) (h3 : Opens P f3.type d3 G3) (h4 : Opens P f4.type d4 G4) :
    Opens P t (Kd.pair d0 (Kd.pair d1 (Kd.pair d2 (Kd.pair d3 d4)))) (fun x => G0 x.1 ∧ G1 x.2.1 ∧ G2 x.2.2.1 ∧ G3 x.2.2.2.1 ∧ G4 x.2.2.2.2) := by
  intro H enc W base spare held fuel cs x hx
  obtain ⟨xs, n, _, _, hlen, hl, hf⟩ := DataW.trod_struct hs hx
  match cs, hlen.trans hC with
  | [c0, c1, c2, c3, c4], _ =>
    obtain ⟨y0, e0⟩ := field_at hone hf hl 0 f0 c0 rfl rfl
    obtain ⟨y1, e1⟩ := field_at hone hf hl 1 f1 c1 rfl rfl
    obtain ⟨y2, e2⟩ := field_at hone hf hl 2 f2 c2 rfl rfl
    obtain ⟨y3, e3⟩ := field_at hone hf hl 3 f3 c3 rfl rfl
    obtain ⟨y4, e4⟩ := field_at hone hf hl 4 f4 c4 rfl rfl
    obtain ⟨a0, k0, g0⟩ := h0 enc W base spare held n _ _ e0
    obtain ⟨a1, k1, g1⟩ := h1 enc W base spare held n _ _ e1
    obtain ⟨a2, k2, g2⟩ := h2 enc W base spare held n _ _ e2
    obtain ⟨a3, k3, g3⟩ := h3 enc W base spare held n _ _ e3
    obtain ⟨a4, k4, g4⟩ := h4 enc W base spare held n _ _ e4
    exact ⟨(a0, a1, a2, a3, a4), ⟨[c0], [c1, c2, c3, c4], rfl, k0, ⟨[c1], [c2, c3, c4], rfl, k1, ⟨[c2], [c3, c4], rfl, k2, ⟨[c3], [c4], rfl, k3, k4⟩⟩⟩⟩, g0, g1, g2, g3, g4⟩
/-- An argument whose value is one cell, and one that is a struct. -/
theorem Opens.arg1 {α : Type} {d : Kd α} {G : α → Prop} (h : Opens P t d G) {H : Type} {enc : TypeId × Value → H} {W : World} {v : Value} {x : DataW H} {p : List MemPlace} (hv : v.cells = #[v])
    (ht : DataW.Trod enc P W 0 (fun _ => true) true t v x p) : ∃ a, d.K W a [v] ∧ G a := by
  obtain ⟨fuel, hf⟩ := ht
  rw [hv] at hf
  exact h _ _ _ _ _ _ _ _ hf
theorem Opens.argS {α : Type} {d : Kd α} {G : α → Prop} (h : Opens P t d G) {H : Type} {enc : TypeId × Value → H} {W : World} {v : Value} {x : DataW H} {p : List MemPlace} {fs : Array Field} {r : Reach} {b0 : Nat} (hs : P.underlying t = some (.struct fs))
    (hv : Value.okWide P W r b0 t v) (ht : DataW.Trod enc P W 0 (fun _ => true) true t v x p) : ∃ cs : List Value, v = .agg cs.toArray ∧ ∃ a, d.K W a cs ∧ G a := by
  obtain ⟨cs, rfl, hsz⟩ := okWide_struct hs hv
  obtain ⟨fuel, hf⟩ := ht
  obtain ⟨a, ha⟩ := h _ _ _ _ _ _ _ _ hf
  exact ⟨cs.toList, by simp, a, ha⟩
theorem lt_places {H : Type} {enc : TypeId × Value → H} {W : World} {v : Value} {x : DataW H} {p : List MemPlace} (h : DataW.Trod enc P W 0 (fun _ => true) true t v x p) : ∀ x ∈ p, x.block < W.heap.size := by
  obtain ⟨m, hm⟩ := h
  exact DataW.trod_lt m _ _ _ hm
end
end Go.Proofs.Ytcfebbhiehaocaa.B

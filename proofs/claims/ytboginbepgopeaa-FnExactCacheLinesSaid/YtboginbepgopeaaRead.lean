/- What comes in, as the printed contracts want it: a reading of a type tells a value of a kind. Ints, bools, texts, slices of whatever kind, structs of two and three fields. -/
import Derived.Deep.Slices
import Derived.ChangeArms
import Derived.Lib.SmallJoins
import Derived.Test.YtboginbepgopeaaWWords
namespace Go.Proofs.Ytboginbepgopeaa.Read
open Go.ChangeShapes Go.WideShapes Go.Deep Go.RowKit Go.Proofs.YtboginbepgopeaaW.PrintWords
section
variable {H : Type} {enc : TypeId × Value → H} {P : Program} {w : World} {base : Nat} {spare : Nat → Bool} {held : Bool}
/-- Each reading of type t is one of kind d, and good. -/
def Tells {α : Type} (enc : TypeId × Value → H) (P : Program) (w : World) (base : Nat) (spare : Nat → Bool) (held : Bool) (t : TypeId) (d : Kd α) (good : α → Prop) : Prop :=
  ∀ (n : Nat) (cs : List Value) (y : DataW H × List MemPlace), DataW.trod enc P w base spare held n t cs = some y → ∃ a, d.K w a cs ∧ good a
theorem tells_int {t : TypeId} {k : IntKind} (ht : P.underlying t = some (.int k)) : Tells enc P w base spare held t (Kd.int k) (fun n => (Lit.int k n).wf = true) := by
  intro n cs y h
  obtain ⟨a, rfl, _, hw⟩ := DataW.trod_int ht h
  exact ⟨a, rfl, hw⟩
theorem tells_bool {t : TypeId} (ht : P.underlying t = some .bool) : Tells enc P w base spare held t Kd.bool (fun _ => True) := by
  intro n cs y h
  obtain ⟨a, rfl, _⟩ := DataW.trod_bool ht h
  exact ⟨a, rfl, trivial⟩
theorem tells_string {t : TypeId} (ht : P.underlying t = some .string) : Tells enc P w base spare held t Kd.string (fun s => s.size ≤ maxLen) := by
  intro n cs y h
  obtain ⟨a, rfl, _, hw⟩ := DataW.trod_string ht h
  exact ⟨a, rfl, hw⟩
theorem exists_list {α : Type} {Q : Nat → α → Prop} : ∀ n : Nat, (∀ i, i < n → ∃ a, Q i a) → ∃ xs : List α, xs.length = n ∧ ∀ j p, xs[j]? = some p → Q j p := by
  intro n
  induction n with
  | zero => intro _; exact ⟨[], rfl, fun j p h => by simp at h⟩
  | succ n ih =>
    intro h
    obtain ⟨xs, hl, hq⟩ := ih (fun i hi => h i (by omega))
    obtain ⟨a, ha⟩ := h n (by omega)
    refine ⟨xs ++ [a], by simp [hl], ?_⟩
    intro j p hp
    by_cases hj : j < n
    · rw [List.getElem?_append_left (by omega)] at hp
      exact hq j p hp
    · rw [List.getElem?_append_right (by omega)] at hp
      have : j = n := by
        have := (List.getElem?_eq_some_iff.1 hp).1
        simp at this; omega
      subst this
      rw [hl] at hp
      simp at hp
      rw [← hp]; exact ha
theorem tells_slice {α : Type} {t e : TypeId} {d : Kd α} {good : α → Prop} (ht : P.underlying t = some (.slice e)) (hC : P.cellsOf e = d.sz) (he : Tells enc P w base spare held e d good) :
    Tells enc P w base spare held t (Kd.slice e d) (fun xs => xs.length ≤ maxLen ∧ ∀ x ∈ xs, good x) := by
  intro n cs y h
  rcases open_slice ht h with ⟨rfl, _⟩ | ⟨a, len, cap, m, n', D, Pl, rfl, hb, hl, hm, hmm, _, hi⟩
  · exact ⟨[], ⟨none, 0, rfl, by simp, rfl, by simp, fun h => absurd h (by simp)⟩, by simp, by simp⟩
  · have hlen : len ≤ m := by rw [hmm]; split <;> omega
    obtain ⟨xs, hxl, hxs⟩ := exists_list (Q := fun j p => (∃ c, c.length = d.sz ∧ d.K w p c ∧ ∀ i u, c[i]? = some u → w.cell? (a.add (j * d.sz + i)) = some u) ∧ good p) len (fun i hil => by
      obtain ⟨cs', h1, h2⟩ := hi i (by omega)
      obtain ⟨p, hK, hg⟩ := he _ _ _ h2
      rw [hC] at h1
      obtain ⟨_, hcl, hat⟩ := World.cells?_some h1
      refine ⟨p, ⟨cs', hcl, hK, ?_⟩, hg⟩
      intro j u hu
      have hj : j < d.sz := by
        have := (List.getElem?_eq_some_iff.1 hu).1
        omega
      rw [← Go.Deep.add_add]
      exact (hat j hj).trans hu)
    refine ⟨xs, ⟨some a, cap, by rw [hxl], by omega, rfl, ?_, fun _ => ⟨a, rfl, fun j p hp => (hxs j p hp).1⟩⟩, by omega, ?_⟩
    · unfold maxLen at hm; omega
    · intro x hx
      obtain ⟨j, hj, e⟩ := List.getElem_of_mem hx
      exact (hxs j x (by rw [← e]; exact List.getElem?_eq_getElem hj)).2
theorem tells_pair {α β : Type} {t : TypeId} {f0 f1 : Field} {d0 : Kd α} {d1 : Kd β} {g0 : α → Prop} {g1 : β → Prop} (ht : P.underlying t = some (.struct #[f0, f1]))
    (hC : P.cellsOf t = d0.sz + d1.sz) (o0 : f0.offset = 0) (o1 : f1.offset = d0.sz) (c0 : P.cellsOf f0.type = d0.sz) (c1 : P.cellsOf f1.type = d1.sz)
    (h0 : Tells enc P w base spare held f0.type d0 g0) (h1 : Tells enc P w base spare held f1.type d1 g1) : Tells enc P w base spare held t (Kd.pair d0 d1) (fun x => g0 x.1 ∧ g1 x.2) := by
  intro n cs y h
  obtain ⟨xs, n', _, _, hcl, hxl, hf⟩ := DataW.trod_struct ht h
  have e0 := hf 0 f0 rfl
  have e1 := hf 1 f1 rfl
  rw [o0, c0, List.drop_zero] at e0
  rw [o1, c1] at e1
  match xs, hxl with
  | [x0, x1], _ =>
    obtain ⟨a, ka, ga⟩ := h0 _ _ _ e0
    obtain ⟨b, kb, gb⟩ := h1 _ _ _ e1
    refine ⟨(a, b), ⟨_, _, ?_, ka, kb⟩, ga, gb⟩
    rw [List.take_of_length_le (l := cs.drop d0.sz) (by rw [List.length_drop]; omega), List.take_append_drop]
theorem tells_triple {α β γ : Type} {t : TypeId} {f0 f1 f2 : Field} {d0 : Kd α} {d1 : Kd β} {d2 : Kd γ} {g0 : α → Prop} {g1 : β → Prop} {g2 : γ → Prop} (ht : P.underlying t = some (.struct #[f0, f1, f2]))
    (hC : P.cellsOf t = d0.sz + (d1.sz + d2.sz)) (o0 : f0.offset = 0) (o1 : f1.offset = d0.sz) (o2 : f2.offset = d0.sz + d1.sz) (c0 : P.cellsOf f0.type = d0.sz) (c1 : P.cellsOf f1.type = d1.sz) (c2 : P.cellsOf f2.type = d2.sz)
    (h0 : Tells enc P w base spare held f0.type d0 g0) (h1 : Tells enc P w base spare held f1.type d1 g1) (h2 : Tells enc P w base spare held f2.type d2 g2) :
    Tells enc P w base spare held t (Kd.pair d0 (Kd.pair d1 d2)) (fun x => g0 x.1 ∧ g1 x.2.1 ∧ g2 x.2.2) := by
  intro n cs y h
  obtain ⟨xs, n', _, _, hcl, hxl, hf⟩ := DataW.trod_struct ht h
  have e0 := hf 0 f0 rfl
  have e1 := hf 1 f1 rfl
  have e2 := hf 2 f2 rfl
  rw [o0, c0, List.drop_zero] at e0
  rw [o1, c1] at e1
  rw [o2, c2] at e2
  match xs, hxl with
  | [x0, x1, x2], _ =>
    obtain ⟨a, ka, ga⟩ := h0 _ _ _ e0
    obtain ⟨b, kb, gb⟩ := h1 _ _ _ e1
    obtain ⟨c, kc, gc⟩ := h2 _ _ _ e2
    refine ⟨(a, b, c), ⟨cs.take d0.sz, cs.drop d0.sz, (List.take_append_drop _ _).symm, ka, _, _, ?_, kb, kc⟩, ga, gb, gc⟩
    rw [List.take_of_length_le (l := cs.drop (d0.sz + d1.sz)) (by rw [List.length_drop]; omega), ← List.drop_drop, List.take_append_drop]
theorem tells_iso {α β : Type} {t : TypeId} {d : Kd α} {good : α → Prop} (f : β → α) (g : α → β) (hfg : ∀ a, f (g a) = a) (h : Tells enc P w base spare held t d good) : Tells enc P w base spare held t (Kd.iso d f) (fun x => good (f x)) := by
  intro n cs y hy
  obtain ⟨a, k, hg⟩ := h n cs y hy
  refine ⟨g a, ?_, by show good (f (g a)); rw [hfg]; exact hg⟩
  show d.K w (f (g a)) cs
  rw [hfg]; exact k
/-- A struct that comes in by value. -/
theorem tells_top {α : Type} {r : Reach} {b0 : Nat} {t : TypeId} {fs : Array Field} {d : Kd α} {good : α → Prop} {v : Value} {x : DataW H} {p : List MemPlace} (hs : P.underlying t = some (.struct fs)) (hT : Tells enc P w base spare held t d good)
    (hv : Value.okWide P w r b0 t v) (h : DataW.Trod enc P w base spare held t v x p) : ∃ (cs : Array Value) (a : α), v = .agg cs ∧ d.K w a cs.toList ∧ good a := by
  obtain ⟨cs, rfl, _⟩ := okWide_struct hs hv
  obtain ⟨fuel, hf⟩ := h
  obtain ⟨a, k, g⟩ := hT _ _ _ hf
  exact ⟨cs, a, rfl, by simpa [Value.cells] using k, g⟩
end
end Go.Proofs.Ytboginbepgopeaa.Read

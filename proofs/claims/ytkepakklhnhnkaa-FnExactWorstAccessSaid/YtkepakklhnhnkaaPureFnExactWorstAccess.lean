/- impl.WorstAccess answers what the reference's WorstAccess answers, for every Costs. No condition. -/
import Derived.Test.YtkepakklhnhnkaaCostsFnExactWorstAccess
namespace Go.Proofs.Ytkepakklhnhnkaa.Pure
open Go.RowKit Go.Proofs.Ytkepakklhnhnkaa.PFnExactWorstAccess Go.Proofs.YtkepakklhnhnkaaW.PrintWords Go.Proofs.YtkepakklhnhnkaaW.PrintLast Go.Proofs.Ytkepakklhnhnkaa.Lem

theorem spec_acc {a b c d e f g : Int} (h : IsCosts a b c d e f g) (k : Nat) (hk : 0 < k) (x y z : Bool) : ∃ s, spec_AccessCost.f k a b c d e f g x y z = some s ∧ s ≤ d + e + g ∧ ((x = false ∧ y = false ∧ z = true) → s = d + e + g) ∧ 0 ≤ s := by
  obtain ⟨k, rfl⟩ : ∃ m, k = m + 1 := ⟨k - 1, by omega⟩
  have hc := h
  unfold IsCosts at hc
  unfold spec_AccessCost.f
  rw [spec_costs]
  simp only [Option.bind_some, decide_eq_true h, if_true, spec_AccessCost.j0]
  have e2 : wrap64 (d + e) = d + e := w64 (by omega) (by omega)
  have e4 : wrap64 (d + e + g) = d + e + g := w64 (by omega) (by omega)
  have e5 : wrap64 (e + g) = e + g := w64 (by omega) (by omega)
  have e6 : wrap64 (d + g) = d + g := w64 (by omega) (by omega)
  have f1 : wrap64 d = d := w64 (by omega) (by omega)
  have f2 : wrap64 e = e := w64 (by omega) (by omega)
  have f3 : wrap64 g = g := w64 (by omega) (by omega)
  cases x <;> cases y <;> cases z <;> simp [e2, e4, e5, e6, f1, f2, f3] <;> omega
theorem impl_acc {a b c d e f g : Int} (h : IsCosts a b c d e f g) (k : Nat) (hk : 0 < k) : impl_accessCost.f k a b c d e f g false false true = some (d + e + g) := by
  obtain ⟨k, rfl⟩ : ∃ m, k = m + 1 := ⟨k - 1, by omega⟩
  have hc := h
  unfold IsCosts at hc
  have e1 : wrap64 d = d := w64 (by omega) (by omega)
  have e2 : wrap64 (d + e) = d + e := w64 (by omega) (by omega)
  have e4 : wrap64 (d + e + g) = d + e + g := w64 (by omega) (by omega)
  simp [impl_accessCost.f, impl_accessCost.j0, e1, e2, e4]
theorem four : (Int.tmod 4 2 == 1) = false ∧ (Int.tmod (wrap64 (Int.tdiv 4 2)) 2 == 1) = false ∧ (wrap64 (Int.tdiv 4 4) == 1) = true := by decide +kernel
theorem worst_loop {a b c d e f g : Int} (h : IsCosts a b c d e f g) : ∀ (n i k : Nat) (m : Int), i + n = 8 → n + 1 < k → m ≤ d + e + g → (i ≤ 4 ∨ m = d + e + g) → spec_WorstAccess.l0 k m i a b c d e f g = some (d + e + g) := by
  intro n
  induction n with
  | zero =>
    intro i k m hi hk hm hd
    obtain ⟨k, rfl⟩ : ∃ m, k = m + 1 := ⟨k - 1, by omega⟩
    obtain rfl : m = d + e + g := by omega
    simp only [spec_WorstAccess.l0]; rw [if_neg (by omega)]
  | succ n ih =>
    intro i k m hi hk hm hd
    obtain ⟨k, rfl⟩ : ∃ m, k = m + 1 := ⟨k - 1, by omega⟩
    simp only [spec_WorstAccess.l0]
    rw [if_pos (by omega)]
    obtain ⟨s, e1, e2, e3, e4⟩ := spec_acc h k (by omega) (Int.tmod (i : Int) 2 == 1) (Int.tmod (wrap64 (Int.tdiv (i : Int) 2)) 2 == 1) (wrap64 (Int.tdiv (i : Int) 4) == 1)
    have h4 : i = 4 → s = d + e + g := by
      intro hi4; subst hi4; exact e3 four
    rw [e1, Option.bind_some, w64 (by omega) (by omega)]
    by_cases hs : s > m
    · rw [if_pos hs]; exact ih (i + 1) k s (by omega) (by omega) (by omega) (by omega)
    · rw [if_neg hs]; exact ih (i + 1) k m (by omega) (by omega) (by omega) (by omega)
theorem spec_worst {a b c d e f g : Int} (h : IsCosts a b c d e f g) (k : Nat) (hk : 20 < k) : spec_WorstAccess.f k a b c d e f g = some (d + e + g) := by
  have hc := h
  unfold IsCosts at hc
  unfold spec_WorstAccess.f
  exact worst_loop h 8 0 k (-1) (by omega) (by omega) (by omega) (by omega)
theorem worst_loop_no {a b c d e f g : Int} (h : ¬ IsCosts a b c d e f g) : ∀ (n i k : Nat), i + n = 8 → n < k → spec_WorstAccess.l0 k (-1) i a b c d e f g = some (-1) := by
  intro n
  induction n with
  | zero =>
    intro i k hi hk
    obtain ⟨k, rfl⟩ : ∃ m, k = m + 1 := ⟨k - 1, by omega⟩
    simp only [spec_WorstAccess.l0]; rw [if_neg (by omega)]
  | succ n ih =>
    intro i k hi hk
    obtain ⟨k, rfl⟩ : ∃ m, k = m + 1 := ⟨k - 1, by omega⟩
    simp only [spec_WorstAccess.l0]
    have e1 : ∀ x y z, spec_AccessCost.f k a b c d e f g x y z = some (-1) := by
      intro x y z
      unfold spec_AccessCost.f
      rw [spec_costs, decide_eq_false h]; rfl
    rw [if_pos (by omega), e1, Option.bind_some, if_neg (by omega), w64 (by omega) (by omega)]
    exact ih (i + 1) k (by omega) (by omega)
theorem spec_worst_no {a b c d e f g : Int} (h : ¬ IsCosts a b c d e f g) (k : Nat) (hk : 20 < k) : spec_WorstAccess.f k a b c d e f g = some (-1) := by
  unfold spec_WorstAccess.f
  exact worst_loop_no h 8 0 k (by omega) (by omega)

theorem FnExactWorstAccess : ∀ (a b c d e f g : Int), (Lit.int .i64 a).wf = true → (Lit.int .i64 b).wf = true → (Lit.int .i64 c).wf = true → (Lit.int .i64 d).wf = true → (Lit.int .i64 e).wf = true → (Lit.int .i64 f).wf = true → (Lit.int .i64 g).wf = true → ∃ k, laws_FnExactWorstAccess.f k a b c d e f g = some true := by
  intro a b c d e f g _ _ _ _ _ _ _
  obtain ⟨k, hk⟩ : ∃ k : Nat, 20 < k := ⟨21, by omega⟩
  refine ⟨k, ?_⟩
  unfold laws_FnExactWorstAccess.f laws_toCosts.f impl_WorstAccess.f
  simp only [Option.bind_some, impl_costs]
  by_cases h : IsCosts a b c d e f g
  · rw [spec_worst h k hk, decide_eq_true h, if_pos rfl, impl_acc h k (by omega)]
    simp
  · rw [spec_worst_no h k hk, decide_eq_false h]
    simp

end Go.Proofs.Ytkepakklhnhnkaa.Pure

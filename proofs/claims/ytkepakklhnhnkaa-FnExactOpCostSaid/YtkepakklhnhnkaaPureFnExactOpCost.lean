/- impl.OpCost answers what the reference's OpCost answers, for every Costs and every int. No condition. -/
import Derived.Test.YtkepakklhnhnkaaCostsFnExactOpCost
namespace Go.Proofs.Ytkepakklhnhnkaa.Pure
open Go.RowKit Go.Proofs.Ytkepakklhnhnkaa.PFnExactOpCost Go.Proofs.YtkepakklhnhnkaaW.PrintWords Go.Proofs.YtkepakklhnhnkaaW.PrintLast Go.Proofs.Ytkepakklhnhnkaa.Lem

theorem impl_within_eq (n a b : Int) : impl_within.f n a b = some (decide (a ≤ n ∧ n ≤ b)) := by
  unfold impl_within.f
  by_cases h : n ≥ a
  · rw [if_pos h]; congr 1; simp; omega
  · rw [if_neg h]; congr 1; simp; omega
theorem forms_small : ∀ n : Fin 33, ∃ r, spec_FormOf.f (n.val : Int) = some r ∧ impl_formOf.f 8 (n.val : Int) = some r ∧ 0 ≤ r := by
  intro n
  have h : ∀ n : Fin 33, spec_FormOf.f (n.val : Int) = impl_formOf.f 8 (n.val : Int) ∧ (match spec_FormOf.f (n.val : Int) with | some r => decide (0 ≤ r) | none => false) = true := by decide +kernel
  obtain ⟨h1, h2⟩ := h n
  cases e : spec_FormOf.f (n.val : Int) with
  | none => rw [e] at h2; cases h2
  | some r =>
    rw [e] at h2 h1
    exact ⟨r, rfl, h1.symm, by simpa using h2⟩
theorem forms (op : Int) : ∃ r, spec_FormOf.f op = some r ∧ impl_formOf.f 8 op = some r := by
  by_cases h : 0 ≤ op ∧ op ≤ 32
  · obtain ⟨n, rfl⟩ := Int.eq_ofNat_of_zero_le h.1
    obtain ⟨r, h1, h2, _⟩ := forms_small ⟨n, by omega⟩
    exact ⟨r, h1, h2⟩
  · refine ⟨-1, ?_, ?_⟩
    · unfold spec_FormOf.f; rw [costs_in, decide_eq_false h]; rfl
    · unfold impl_formOf.f; rw [impl_within_eq, decide_eq_false h]; rfl
theorem FnExactOpCost : ∀ (a b c d e f g op : Int), (Lit.int .i64 a).wf = true → (Lit.int .i64 b).wf = true → (Lit.int .i64 c).wf = true → (Lit.int .i64 d).wf = true → (Lit.int .i64 e).wf = true → (Lit.int .i64 f).wf = true → (Lit.int .i64 g).wf = true → (Lit.int .i64 op).wf = true → ∃ k, laws_FnExactOpCost.f k a b c d e f g op = some true := by
  intro a b c d e f g op _ _ _ _ _ _ _ _
  obtain ⟨r, h1, h2⟩ := forms op
  refine ⟨8, ?_⟩
  unfold laws_FnExactOpCost.f laws_toCosts.f impl_OpCost.f impl_opCost.f spec_OpCost.f
  simp only [Option.bind_some, spec_costs, impl_costs]
  by_cases h : IsCosts a b c d e f g
  · simp only [decide_eq_true h, if_true, h1, h2, Option.bind_some, spec_OpCost.j0, spec_OpCost.j1, impl_opCost.j0, costs_in, impl_within_eq]
    by_cases hr : r < 0
    · simp [hr]
    · by_cases h9 : op = 9
      · simp [hr, h9]
      · by_cases h10 : op = 10
        · simp [hr, h10]
        · simp [hr, h9, h10]
          split <;> (try split) <;> simp_all
  · simp [h, spec_OpCost.j0]

end Go.Proofs.Ytkepakklhnhnkaa.Pure

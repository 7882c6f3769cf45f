/- impl.FormOf answers what the reference's FormOf answers, for every int. No condition. -/
import Derived.Test.YtkepakklhnhnkaaPFnExactFormOfx1
import Derived.Test.YtkepakklhnhnkaaLem
namespace Go.Proofs.Ytkepakklhnhnkaa.Pure
open Go.RowKit Go.Proofs.Ytkepakklhnhnkaa.PFnExactFormOf Go.Proofs.YtkepakklhnhnkaaW.PrintWords Go.Proofs.YtkepakklhnhnkaaW.PrintLast Go.Proofs.Ytkepakklhnhnkaa.Lem

theorem impl_within_eq (n a b : Int) : impl_within.f n a b = some (decide (a ≤ n ∧ n ≤ b)) := by
  unfold impl_within.f
  by_cases h : n ≥ a
  · rw [if_pos h]; congr 1; simp; omega
  · rw [if_neg h]; congr 1; simp; omega
theorem spec_l01In_eq (n a b : Int) : spec_l01In.f n a b = some (decide (a ≤ n ∧ n ≤ b)) := by
  unfold spec_l01In.f
  by_cases h : n ≥ a
  · rw [if_pos h]; congr 1; simp; omega
  · rw [if_neg h]; congr 1; simp; omega
theorem small : ∀ n : Fin 33, laws_FnExactFormOf.f 8 (n.val : Int) = some true := by decide +kernel
theorem FnExactFormOf : laws_FnExactFormOf.Pure := by
  intro op _
  refine ⟨8, ?_⟩
  by_cases h : 0 ≤ op ∧ op ≤ 32
  · obtain ⟨n, rfl⟩ := Int.eq_ofNat_of_zero_le h.1
    exact small ⟨n, by omega⟩
  · unfold laws_FnExactFormOf.f impl_FormOf.f impl_formOf.f spec_FormOf.f
    simp only [impl_within_eq, spec_l01In_eq, Option.bind_some]
    rw [decide_eq_false h]
    simp

end Go.Proofs.Ytkepakklhnhnkaa.Pure

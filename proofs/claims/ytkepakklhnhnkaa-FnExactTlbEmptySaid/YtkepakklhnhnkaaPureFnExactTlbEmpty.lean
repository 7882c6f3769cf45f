/- impl.TlbEmpty answers what the reference's TlbEmpty answers, for every int. No condition. -/
import Derived.Test.YtkepakklhnhnkaaPFnExactTlbEmptyx1
import Derived.Test.YtkepakklhnhnkaaLem
namespace Go.Proofs.Ytkepakklhnhnkaa.Pure
open Go.RowKit Go.Proofs.Ytkepakklhnhnkaa.PFnExactTlbEmpty Go.Proofs.YtkepakklhnhnkaaW.PrintWords Go.Proofs.YtkepakklhnhnkaaW.PrintLast Go.Proofs.Ytkepakklhnhnkaa.Lem

theorem impl_within_eq (n a b : Int) : impl_within.f n a b = some (decide (a ≤ n ∧ n ≤ b)) := by
  unfold impl_within.f
  by_cases h : n ≥ a
  · rw [if_pos h]; congr 1; simp; omega
  · rw [if_neg h]; congr 1; simp; omega
theorem spec_l01In_eq (n a b : Int) : spec_l01In.f n a b = some (decide (a ≤ n ∧ n ≤ b)) := by
  unfold spec_l01In.f
  by_cases h : n ≥ a
  · rw [if_pos h]; congr 1; simp; omega
  · rw [if_neg h]; congr 1; simp; omega
theorem FnExactTlbEmpty : laws_FnExactTlbEmpty.Pure := by
  intro n _
  refine ⟨2, ?_⟩
  have same : ∃ m : Int, spec_TlbEmpty.f n = some (m, []) ∧ impl_TlbEmpty.f n = some (m, []) := by
    unfold spec_TlbEmpty.f impl_TlbEmpty.f
    simp only [impl_within_eq, spec_l01In_eq, Option.bind_some]
    by_cases h : 1 ≤ n ∧ n ≤ 8
    · exact ⟨n, by simp [h], by simp [h]⟩
    · exact ⟨0, by simp [h], by simp [h]⟩
  obtain ⟨m, h1, h2⟩ := same
  have eqs : laws_eqIntS.f 2 [] [] = some true := rfl
  have marks : laws_markIntS.f 2 [] 1 = some (1, []) := rfl
  have helds : laws_heldIntS.f 2 [] 1 = some 1 := rfl
  unfold laws_FnExactTlbEmpty.f laws_eqTlb.f laws_markTlb.f laws_heldTlb.f
  rw [h1, h2]
  simp only [Option.bind_some, if_true, eqs, marks, helds]
  decide

end Go.Proofs.Ytkepakklhnhnkaa.Pure

/- What CostsOk asks, in the reference and in the program, over the print of the law FnWorst. -/
import Derived.Test.YtboginbepgopeaaPFnWorstx
import Derived.Test.YtboginbepgopeaaLem
namespace Go.Proofs.Ytboginbepgopeaa.PFnWorst
open Go.RowKit Go.Proofs.YtboginbepgopeaaW.PrintWords Go.Proofs.YtboginbepgopeaaW.PrintLast Go.Proofs.Ytboginbepgopeaa.Lem

def IsCosts (a b c d e f g : Int) : Prop := (1 ≤ a ∧ a ≤ 20) ∧ (0 ≤ b ∧ b ≤ 50) ∧ (0 ≤ c ∧ c ≤ 50) ∧ (0 ≤ d ∧ d ≤ 50) ∧ (0 ≤ e ∧ e ≤ 50) ∧ (0 ≤ f ∧ f ≤ 50) ∧ (0 ≤ g ∧ g ≤ 50)
instance (a b c d e f g : Int) : Decidable (IsCosts a b c d e f g) := by unfold IsCosts; exact inferInstance
theorem costs_in (n a b : Int) : spec_l01In.f n a b = some (decide (a ≤ n ∧ n ≤ b)) := by
  unfold spec_l01In.f
  by_cases h : n ≥ a
  · rw [if_pos h]; congr 1; simp; omega
  · rw [if_neg h]; congr 1; simp; omega
theorem impl_costs (a b c d e f g : Int) : impl_areCosts.f a b c d e f g = some (decide (IsCosts a b c d e f g)) := rfl
theorem spec_costs (a b c d e f g : Int) : spec_CostsOk.f a b c d e f g = some (decide (IsCosts a b c d e f g)) := by
  unfold spec_CostsOk.f
  simp only [costs_in, Option.bind_some]
  repeat' split
  all_goals
    simp only [decide_eq_true_eq] at *
    congr 1
    first
    | (apply decide_eq_decide.2; unfold IsCosts; omega)
    | (symm; rw [decide_eq_false_iff_not]; unfold IsCosts; omega)

end Go.Proofs.Ytboginbepgopeaa.PFnWorst

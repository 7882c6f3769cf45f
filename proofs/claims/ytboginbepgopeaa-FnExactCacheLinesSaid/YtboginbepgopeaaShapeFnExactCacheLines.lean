/- What ShapeOk asks, in the reference and in the program, over the print of the law FnExactCacheLines. -/
import Derived.Test.YtboginbepgopeaaPFnExactCacheLinesx
import Derived.Test.YtboginbepgopeaaLem
namespace Go.Proofs.Ytboginbepgopeaa.PFnExactCacheLines
open Go.RowKit Go.Proofs.YtboginbepgopeaaW.PrintWords Go.Proofs.YtboginbepgopeaaW.PrintLast Go.Proofs.Ytboginbepgopeaa.Lem

def IsShape (a b c : Int) : Prop := (a = 1 ∨ a = 2 ∨ a = 4 ∨ a = 8 ∨ a = 16) ∧ 1 ≤ b ∧ b ≤ 4 ∧ (c = 4 ∨ c = 8 ∨ c = 16 ∨ c = 32)
instance (a b c : Int) : Decidable (IsShape a b c) := by unfold IsShape; exact inferInstance
theorem within_eq (n a b : Int) : impl_within.f n a b = some (decide (a ≤ n ∧ n ≤ b)) := by
  unfold impl_within.f
  by_cases h : n ≥ a
  · rw [if_pos h]; congr 1; simp; omega
  · rw [if_neg h]; congr 1; simp; omega
theorem in_eq (n a b : Int) : spec_l01In.f n a b = some (decide (a ≤ n ∧ n ≤ b)) := by
  unfold spec_l01In.f
  by_cases h : n ≥ a
  · rw [if_pos h]; congr 1; simp; omega
  · rw [if_neg h]; congr 1; simp; omega
theorem power_small : ∀ n : Fin 33, 1 ≤ n.val → impl_isPower.f (n.val : Int) = some (decide (n.val = 1 ∨ n.val = 2 ∨ n.val = 4 ∨ n.val = 8 ∨ n.val = 16 ∨ n.val = 32)) := by decide +kernel
theorem power_eq (a : Int) (h0 : 1 ≤ a) (h1 : a ≤ 32) : impl_isPower.f a = some (decide (a = 1 ∨ a = 2 ∨ a = 4 ∨ a = 8 ∨ a = 16 ∨ a = 32)) := by
  obtain ⟨n, rfl⟩ := Int.eq_ofNat_of_zero_le (show 0 ≤ a by omega)
  have := power_small ⟨n, by omega⟩ (by simp; omega)
  simp only at this
  rw [this]
  congr 1
  apply decide_eq_decide.2
  omega
theorem spec_shape (a b c : Int) : spec_ShapeOk.f a b c = some (decide (IsShape a b c)) := by
  unfold spec_ShapeOk.f
  simp only [in_eq, Option.bind_some]
  repeat' split
  all_goals
    congr 1
    first
    | (apply decide_eq_decide.2; unfold IsShape; omega)
    | (symm; rw [decide_eq_false_iff_not]; unfold IsShape; omega)
theorem impl_shape (a b c : Int) : impl_isShape.f a b c = some (decide (IsShape a b c)) := by
  unfold impl_isShape.f
  simp only [within_eq, Option.bind_some]
  by_cases ha : 1 ≤ a ∧ a ≤ 16
  · rw [if_pos (by simpa using ha), power_eq a (by omega) (by omega)]
    simp only [Option.bind_some]
    by_cases hp : a = 1 ∨ a = 2 ∨ a = 4 ∨ a = 8 ∨ a = 16 ∨ a = 32
    · rw [if_pos (by simpa using hp)]
      by_cases hb : 1 ≤ b ∧ b ≤ 4
      · rw [if_pos (by simpa using hb)]
        by_cases hc : 4 ≤ c ∧ c ≤ 32
        · rw [if_pos (by simpa using hc), power_eq c (by omega) (by omega)]
          simp only [Option.bind_some]
          congr 1
          apply decide_eq_decide.2; unfold IsShape; omega
        · rw [if_neg (by simpa using hc)]
          congr 1; symm; rw [decide_eq_false_iff_not]; unfold IsShape; omega
      · rw [if_neg (by simpa using hb)]
        congr 1; symm; rw [decide_eq_false_iff_not]; unfold IsShape; omega
    · rw [if_neg (by simpa using hp)]
      congr 1; symm; rw [decide_eq_false_iff_not]; unfold IsShape; omega
  · rw [if_neg (by simpa using ha)]
    congr 1; symm; rw [decide_eq_false_iff_not]; unfold IsShape; omega

end Go.Proofs.Ytboginbepgopeaa.PFnExactCacheLines

/- impl.LessWord answers what the reference's LessWord answers, for all words a and b: whether a is less than b in two's complement. No condition. -/
import Derived.Test.YtiibkaencpcngaaPFnExactLessWordx1
import Derived.Test.YtiibkaencpcngaaLem
namespace Go.Proofs.Ytiibkaencpcngaa.Pure
open Go.RowKit Go.Proofs.Ytiibkaencpcngaa.PFnExactLessWord Go.Proofs.YtiibkaencpcngaaW.PrintWords Go.Proofs.YtiibkaencpcngaaW.PrintLast Go.Proofs.Ytiibkaencpcngaa.Lem

theorem signed_eq {a : Int} (a0 : 0 ≤ a) (a1 : a < 4294967296) : spec_l01Signed.f a = some (wrap32 a) := by
  unfold spec_l01Signed.f
  rw [w64 (n := a) (by omega) (by omega)]
  by_cases h : a ≥ 2147483648
  · rw [if_pos h, w64 (by omega) (by omega)]
    congr 1
    unfold wrap32; omega
  · rw [if_neg h]
    congr 1
    unfold wrap32; omega

theorem FnExactLessWord : laws_FnExactLessWord.Pure := by
  intro a b ha hb
  obtain ⟨a0, a1⟩ := u32_of ha
  obtain ⟨b0, b1⟩ := u32_of hb
  unfold laws_FnExactLessWord.f spec_LessWord.f impl_LessWord.f
  rw [signed_eq a0 a1, signed_eq b0 b1]
  simp

end Go.Proofs.Ytiibkaencpcngaa.Pure

/- impl.AddWord answers what the reference's AddWord answers, for all words a and b: the sum modulo 2^32, and whether it left 32 bits. No condition. -/
import Derived.Test.YtiibkaencpcngaaPFnExactAddWordx1
import Derived.Test.YtiibkaencpcngaaLem
namespace Go.Proofs.Ytiibkaencpcngaa.Pure
open Go.RowKit Go.Proofs.Ytiibkaencpcngaa.PFnExactAddWord Go.Proofs.YtiibkaencpcngaaW.PrintWords Go.Proofs.YtiibkaencpcngaaW.PrintLast Go.Proofs.Ytiibkaencpcngaa.Lem

theorem FnExactAddWord : laws_FnExactAddWord.Pure := by
  intro a b ha hb
  obtain ⟨a0, a1⟩ := u32_of ha
  obtain ⟨b0, b1⟩ := u32_of hb
  unfold laws_FnExactAddWord.f spec_AddWord.f impl_AddWord.f
  simp only [Option.bind_some]
  rw [w64 (n := a) (by omega) (by omega), w64 (n := b) (by omega) (by omega), w64 (n := a + b) (by omega) (by omega), tmod_pos (by omega)]
  rw [if_pos (by omega), if_neg]
  by_cases h : a + b ≥ 4294967296
  · have : (a + b) % 4294967296 < a := by omega
    simp [h, this]
  · have : ¬ (a + b) % 4294967296 < a := by omega
    simp [h, this]

end Go.Proofs.Ytiibkaencpcngaa.Pure

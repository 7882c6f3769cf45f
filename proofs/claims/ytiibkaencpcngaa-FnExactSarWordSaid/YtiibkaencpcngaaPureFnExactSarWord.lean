/- impl.SarWord answers what the reference's SarWord answers, for all words x and n: x shifted right by n mod 32 places with its sign. No condition. -/
import Derived.Test.YtiibkaencpcngaaPFnExactSarWordx1
import Derived.Test.YtiibkaencpcngaaLem
namespace Go.Proofs.Ytiibkaencpcngaa.Pure
open Go.RowKit Go.Proofs.Ytiibkaencpcngaa.PFnExactSarWord Go.Proofs.YtiibkaencpcngaaW.PrintWords Go.Proofs.YtiibkaencpcngaaW.PrintLast Go.Proofs.Ytiibkaencpcngaa.Lem

theorem sar_bit_at {x : Int} (h0 : 0 ≤ x) (h1 : x < 4294967296) (n j : Nat) (hj : j ≤ 31) :
    (wrap32 x / 2 ^ n % 4294967296) / 2 ^ j % 2 = x / 2 ^ (min (n + j) 31) % 2 := by
  rw [show (4294967296 : Int) = 2 ^ 32 from rfl, bit_mod _ j 32 (by omega), ediv_pow, sign_bit x h0 h1]

theorem FnExactSarWord : laws_FnExactSarWord.Pure := by
  intro x n hx hn
  obtain ⟨x0, x1⟩ := u32_of hx
  obtain ⟨n0, n1⟩ := u32_of hn
  obtain ⟨s, hs, hs1⟩ : ∃ s : Nat, n % 32 = s ∧ s ≤ 31 := ⟨(n % 32).toNat, by omega, by omega⟩
  have hw : wrap64 (Int.tmod n 32) = s := by rw [tmod_pos n0, hs, w64 (by omega) (by omega)]
  have hsh : shr .i32 (wrap32 x) (s : Int) = wrap32 x / 2 ^ s := by
    unfold shr; rw [Nat.min_eq_left (by simp [IntKind.bits]; omega)]; simp
  refine ⟨33, ?_⟩
  unfold laws_FnExactSarWord.f impl_SarWord.f spec_SarWord.f
  rw [hw, tmod_pos n0, hs, hsh, if_pos (by omega)]
  have hl : spec_SarWord.l0 33 x s 0 31 = some (wrap32 x / 2 ^ s % 4294967296) := by
    refine bits_start (fun k acc i => spec_SarWord.l0 k x s acc i) _ (by omega) (by omega) ?_ ?_ 33 (by omega)
    · intro k acc
      simp only [spec_SarWord.l0]
      rw [if_neg (by omega)]
    · intro k acc j hj
      simp only [spec_SarWord.l0]
      rw [if_pos (by omega), sar_bit_at x0 x1 s j hj, w64 (n := (j : Int) + s) (by omega) (by omega)]
      by_cases h : (j : Int) + s > 31
      · rw [if_pos h]
        have hb : spec_l01Bit.f x 31 = some (x / 2 ^ 31 % 2) := by unfold spec_l01Bit.f; exact bit_eq x x0 x1 31 (by omega) (by omega)
        rw [hb, Nat.min_eq_right (by omega)]; rfl
      · rw [if_neg h]
        have hb : spec_l01Bit.f x ((j : Int) + s) = some (x / 2 ^ (s + j) % 2) := by
          unfold spec_l01Bit.f
          rw [bit_eq x x0 x1 ((j : Int) + s) (by omega) (by omega), show ((j : Int) + s).toNat = s + j by omega]
        rw [hb, Nat.min_eq_left (by omega)]; rfl
  rw [hl]
  simp

end Go.Proofs.Ytiibkaencpcngaa.Pure

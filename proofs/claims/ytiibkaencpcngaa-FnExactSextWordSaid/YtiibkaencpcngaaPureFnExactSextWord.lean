/- impl.SextWord answers what the reference's SextWord answers, for every word x and every int bits: 0 outside 1 .. 32, else the lowest bits taken with their sign. No condition. -/
import Derived.Test.YtiibkaencpcngaaPFnExactSextWordx1
import Derived.Test.YtiibkaencpcngaaLem
namespace Go.Proofs.Ytiibkaencpcngaa.Pure
open Go.RowKit Go.Proofs.Ytiibkaencpcngaa.PFnExactSextWord Go.Proofs.YtiibkaencpcngaaW.PrintWords Go.Proofs.YtiibkaencpcngaaW.PrintLast Go.Proofs.Ytiibkaencpcngaa.Lem

theorem sext_bit_at {x : Int} (c j : Nat) (hc : c ≤ 31) (hj : j ≤ 31) :
    (wrap32 (x * 2 ^ c % 4294967296) / 2 ^ c % 4294967296) / 2 ^ j % 2 = x / 2 ^ (min j (31 - c)) % 2 := by
  have e32 : (4294967296 : Int) = 2 ^ 32 := rfl
  have hz0 : 0 ≤ x * 2 ^ c % 4294967296 := Int.emod_nonneg _ (by omega)
  have hz1 : x * 2 ^ c % 4294967296 < 4294967296 := Int.emod_lt_of_pos _ (by omega)
  have h1 := bit_mod (wrap32 (x * 2 ^ c % 4294967296) / 2 ^ c) j 32 (by omega)
  rw [← e32] at h1
  rw [h1, ediv_pow, sign_bit _ hz0 hz1, e32, bit_mod _ _ 32 (by omega)]
  have e : min (c + j) 31 = c + min j (31 - c) := by omega
  rw [e, ← ediv_pow, Int.mul_ediv_cancel _ (Int.ne_of_gt (pow_pos' c))]

theorem FnExactSextWord : laws_FnExactSextWord.Pure := by
  intro x b hx hb
  obtain ⟨x0, x1⟩ := u32_of hx
  obtain ⟨b0, b1⟩ := i64_of hb
  refine ⟨33, ?_⟩
  unfold laws_FnExactSextWord.f impl_SextWord.f spec_SextWord.f
  by_cases hin : 1 ≤ b ∧ b ≤ 32
  · obtain ⟨h1, h2⟩ := hin
    have e1 : spec_l01In.f b 1 32 = some true := by unfold spec_l01In.f; rw [if_pos (by omega)]; simp; omega
    have e2 : impl_within.f b 1 32 = some true := by unfold impl_within.f; rw [if_pos (by omega)]; simp; omega
    obtain ⟨c, hc⟩ : ∃ c : Nat, 32 - b = c := ⟨(32 - b).toNat, by omega⟩
    have hcl : c ≤ 31 := by omega
    have hshl : shl .u32 x (c : Int) = x * 2 ^ c % 4294967296 := by
      unfold shl; rw [Nat.min_eq_left (by simp [IntKind.bits]; omega), IntKind.wrap_u32]; simp
    have hshr : ∀ y, shr .i32 y (c : Int) = y / 2 ^ c := by
      intro y; unfold shr; rw [Nat.min_eq_left (by simp [IntKind.bits]; omega)]; simp
    rw [e1, e2]
    simp only [Option.bind_some, if_true]
    rw [hc, w64 (n := (c : Int)) (by omega) (by omega), hshl, hshr, if_pos (by omega)]
    have hl : spec_SextWord.l0 33 x b 0 31 = some (wrap32 (x * 2 ^ c % 4294967296) / 2 ^ c % 4294967296) := by
      refine bits_start (fun k acc i => spec_SextWord.l0 k x b acc i) _ (by omega) (by omega) ?_ ?_ 33 (by omega)
      · intro k acc
        simp only [spec_SextWord.l0]
        rw [if_neg (by omega)]
      · intro k acc j hj
        simp only [spec_SextWord.l0]
        rw [if_pos (by omega), sext_bit_at c j hcl hj, w64 (n := b - 1) (by omega) (by omega)]
        by_cases h : (j : Int) > b - 1
        · rw [if_pos h]
          have hb : spec_l01Bit.f x (b - 1) = some (x / 2 ^ (31 - c) % 2) := by
            unfold spec_l01Bit.f
            rw [bit_eq x x0 x1 (b - 1) (by omega) (by omega), show (b - 1).toNat = 31 - c by omega]
          rw [hb, Nat.min_eq_right (by omega)]; rfl
        · rw [if_neg h]
          have hb : spec_l01Bit.f x (j : Int) = some (x / 2 ^ j % 2) := by
            unfold spec_l01Bit.f
            rw [bit_eq x x0 x1 (j : Int) (by omega) (by omega), show (j : Int).toNat = j by omega]
          rw [hb, Nat.min_eq_left (by omega)]; rfl
    rw [hl]
    simp
  · have e1 : spec_l01In.f b 1 32 = some false := by
      unfold spec_l01In.f
      by_cases h : b ≥ 1
      · rw [if_pos h]; simp; omega
      · rw [if_neg h]
    have e2 : impl_within.f b 1 32 = some false := by
      unfold impl_within.f
      by_cases h : b ≥ 1
      · rw [if_pos h]; simp; omega
      · rw [if_neg h]
    rw [e1, e2]
    simp

end Go.Proofs.Ytiibkaencpcngaa.Pure

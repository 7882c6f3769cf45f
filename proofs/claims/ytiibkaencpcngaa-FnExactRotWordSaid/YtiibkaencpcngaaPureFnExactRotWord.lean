/- impl.RotWord answers what the reference's RotWord answers, for every word x and every int n: x turned left by n mod 32 places. No condition. -/
import Derived.Test.YtiibkaencpcngaaPFnExactRotWordx1
import Derived.Test.YtiibkaencpcngaaLem
namespace Go.Proofs.Ytiibkaencpcngaa.Pure
open Go.RowKit Go.Proofs.Ytiibkaencpcngaa.PFnExactRotWord Go.Proofs.YtiibkaencpcngaaW.PrintWords Go.Proofs.YtiibkaencpcngaaW.PrintLast Go.Proofs.Ytiibkaencpcngaa.Lem

theorem mod_eq {n : Int} (h0 : -9223372036854775808 ≤ n) (h1 : n ≤ 9223372036854775807) : spec_l01Mod.f n 32 = some (n % 32) := by
  unfold spec_l01Mod.f
  rw [if_neg (by omega)]
  have ht : Int.tmod n 32 = if 0 ≤ n then n % 32 else -((-n) % 32) := by
    by_cases h : 0 ≤ n
    · rw [if_pos h, Int.tmod_eq_emod_of_nonneg h]
    · rw [if_neg h]
      have := Int.neg_tmod (a := -n) (b := 32)
      rw [Int.neg_neg] at this
      rw [this, Int.tmod_eq_emod_of_nonneg (by omega)]
  rw [ht]
  by_cases h : 0 ≤ n
  · rw [if_pos h, if_neg (by omega)]
  · rw [if_neg h]
    by_cases h2 : -(-n % 32) < 0
    · rw [if_pos h2, w64 (by omega) (by omega)]; congr 1; omega
    · rw [if_neg h2]; congr 1; omega

theorem rotl_is {x : Int} (x0 : 0 ≤ x) (x1 : x < 4294967296) {s : Nat} (hs1 : s ≤ 31) : bits_RotateLeft32.f x s = some (rot x s) := by
  unfold bits_RotateLeft32.f
  exact rotl_eq x0 x1 hs1
theorem and31 {n : Int} {s : Nat} (hs : n % 32 = s) : Go.bits .and .i64 n 31 = s := by
  have := and_mask .i64 5 (by decide) (fun n a b => wraps_i64 n a (by omega)) n
  rw [show (2 : Int) ^ 5 - 1 = 31 from rfl, show (2 : Int) ^ 5 = 32 from rfl] at this
  rw [this, hs]
theorem loop_is {x : Int} (x0 : 0 ≤ x) (x1 : x < 4294967296) {s : Nat} (hs1 : s ≤ 31) {k : Nat} (hk : 32 < k) : spec_RotWord.l0 k x s 0 31 = some (rot x s) := by
  obtain ⟨r0, r1⟩ := rot_range x0 x1 hs1
  refine bits_start (fun k acc i => spec_RotWord.l0 k x s acc i) _ r0 r1 ?_ ?_ k hk
  · intro k acc
    simp only [spec_RotWord.l0]
    rw [if_neg (by omega)]
  · intro k acc j hj
    simp only [spec_RotWord.l0]
    have hm : spec_l01Mod.f ((j : Int) - s) 32 = some (((j + 32 - s) % 32 : Nat) : Int) := by
      rw [mod_eq (by omega) (by omega)]
      have e : ((j : Int) - s) % 32 = (((j + 32 - s) % 32 : Nat) : Int) := by omega
      rw [e]
    rw [if_pos (by omega), rot_bit x0 x1 hs1 hj, w64 (n := (j : Int) - s) (by omega) (by omega), hm]
    have hb : spec_l01Bit.f x (((j + 32 - s) % 32 : Nat) : Int) = some (x / 2 ^ ((j + 32 - s) % 32) % 2) := by
      unfold spec_l01Bit.f
      rw [bit_eq x x0 x1 _ (by omega) (by omega), Int.toNat_natCast]
    simp only [Option.bind_some]
    rw [hb, Option.bind_some]

theorem FnExactRotWord : laws_FnExactRotWord.Pure := by
  intro x n hx hn
  obtain ⟨x0, x1⟩ := u32_of hx
  obtain ⟨n0, n1⟩ := i64_of hn
  obtain ⟨s, hs, hs1⟩ : ∃ s : Nat, n % 32 = s ∧ s ≤ 31 := ⟨(n % 32).toNat, by omega, by omega⟩
  obtain ⟨k, hk⟩ : ∃ k : Nat, 32 < k := ⟨33, by omega⟩
  refine ⟨k, ?_⟩
  unfold laws_FnExactRotWord.f impl_RotWord.f spec_RotWord.f
  rw [mod_eq n0 n1, hs, and31 hs, rotl_is x0 x1 hs1]
  simp only [Option.bind_some]
  rw [loop_is x0 x1 hs1 hk]
  simp

end Go.Proofs.Ytiibkaencpcngaa.Pure

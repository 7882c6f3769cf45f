/- impl.Encode answers what the reference's Encode answers, for every Instr. No condition. -/
import Derived.Test.YtkepakklhnhnkaaInstrFnExactEncode
namespace Go.Proofs.Ytkepakklhnhnkaa.Pure
open Go.RowKit Go.Proofs.Ytkepakklhnhnkaa.PFnExactEncode Go.Proofs.YtkepakklhnhnkaaW.PrintWords Go.Proofs.YtkepakklhnhnkaaW.PrintLast Go.Proofs.Ytkepakklhnhnkaa.Lem

theorem mod_eq {n : Int} (h0 : -8192 ≤ n) (h1 : n ≤ 8191) : spec_l01Mod.f n 16384 = some (n % 16384) := by
  unfold spec_l01Mod.f
  rw [if_neg (by omega)]
  have ht : Int.tmod n 16384 = n := by
    by_cases h : 0 ≤ n
    · rw [Int.tmod_eq_emod_of_nonneg h]; omega
    · have := Int.neg_tmod (a := -n) (b := 16384)
      rw [Int.neg_neg] at this
      rw [this, Int.tmod_eq_emod_of_nonneg (by omega)]; omega
  rw [ht]
  by_cases h : n < 0
  · rw [if_pos h, w64 (by omega) (by omega)]; congr 1; omega
  · rw [if_neg h]; congr 1; omega
theorem encode_eq {a b c d e : Int} (ha : 0 ≤ a ∧ a ≤ 32) (hb : 0 ≤ b ∧ b ≤ 15) (hc : 0 ≤ c ∧ c ≤ 15) (hd : 0 ≤ d ∧ d ≤ 15) (_he : -8192 ≤ e ∧ e ≤ 8191) :
    impl_encode.f a b c d e = some (a * 67108864 + b * 4194304 + c * 262144 + d * 16384 + e % 16384) := by
  unfold impl_encode.f
  have hm : Go.bits .and .u32 (e % 4294967296) 16383 = e % 16384 := by
    have := and_mask .u32 14 (by decide) (fun n a b => wraps_u32 n a (by omega)) (e % 4294967296)
    rw [show (2 : Int) ^ 14 - 1 = 16383 from rfl, show (2 : Int) ^ 14 = 16384 from rfl] at this
    omega
  have j : ∀ (i : Nat) (x y : Int), 0 ≤ x → x % 2 ^ i = 0 → x < 4294967296 → 0 ≤ y → y < 2 ^ i → y < 4294967296 → Go.bits .or .u32 x y = x + y :=
    fun i x y h1 h2 h3 h4 h5 h6 => bits_join .u32 32 (by decide) wraps_u32 i x y h1 h2 h3 h4 h5 h6
  rw [hm]
  have ea : a % 4294967296 * 67108864 % 4294967296 = a * 67108864 := by omega
  have eb : b % 4294967296 * 4194304 % 4294967296 = b * 4194304 := by omega
  have ec : c % 4294967296 * 262144 % 4294967296 = c * 262144 := by omega
  have ed : d % 4294967296 * 16384 % 4294967296 = d * 16384 := by omega
  rw [ea, eb, ec, ed]
  rw [j 26 (a * 67108864) (b * 4194304) (by omega) (by omega) (by omega) (by omega) (by omega) (by omega)]
  rw [j 22 (a * 67108864 + b * 4194304) (c * 262144) (by omega) (by omega) (by omega) (by omega) (by omega) (by omega)]
  rw [j 18 (a * 67108864 + b * 4194304 + c * 262144) (d * 16384) (by omega) (by omega) (by omega) (by omega) (by omega) (by omega)]
  rw [j 14 (a * 67108864 + b * 4194304 + c * 262144 + d * 16384) (e % 16384) (by omega) (by omega) (by omega) (by omega) (by omega) (by omega)]
theorem FnExactEncode : ∀ (a b c d e : Int), (Lit.int .i64 a).wf = true → (Lit.int .i64 b).wf = true → (Lit.int .i64 c).wf = true → (Lit.int .i64 d).wf = true → (Lit.int .i64 e).wf = true → laws_FnExactEncode.f a b c d e = some true := by
  intro a b c d e _ _ _ _ _
  unfold laws_FnExactEncode.f laws_toInstr.f impl_Encode.f spec_Encode.f impl_isInstr.f
  simp only [Option.bind_some, spec_instr]
  cases h : impl_isInstr.ok a b c d e with
  | false => simp
  | true =>
    obtain ⟨ha, hb, hc, hd, he⟩ := ok_ranges h
    simp only [if_true, mod_eq he.1 he.2, encode_eq ha hb hc hd he, Option.bind_some]
    rw [w64 (n := a * 67108864) (by omega) (by omega), w64 (n := b * 4194304) (by omega) (by omega), w64 (n := c * 262144) (by omega) (by omega), w64 (n := d * 16384) (by omega) (by omega),
      w64 (n := a * 67108864 + b * 4194304) (by omega) (by omega), w64 (n := a * 67108864 + b * 4194304 + c * 262144) (by omega) (by omega),
      w64 (n := a * 67108864 + b * 4194304 + c * 262144 + d * 16384) (by omega) (by omega), w64 (n := a * 67108864 + b * 4194304 + c * 262144 + d * 16384 + e % 16384) (by omega) (by omega)]
    rw [if_pos (by omega)]
    simp

end Go.Proofs.Ytkepakklhnhnkaa.Pure

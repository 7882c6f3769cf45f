/- impl.FoldWords answers what the reference's FoldWords answers, for every list of words (of more than 2^20 the statement asks nothing), and leaves the list as it was. No condition. -/
import Derived.Test.YtkepakklhnhnkaaPFnExactFoldWordsx1
import Derived.Test.YtkepakklhnhnkaaLem
namespace Go.Proofs.Ytkepakklhnhnkaa.Pure
open Go.RowKit Go.Proofs.Ytkepakklhnhnkaa.PFnExactFoldWords Go.Proofs.YtkepakklhnhnkaaW.PrintWords Go.Proofs.YtkepakklhnhnkaaW.PrintLast Go.Proofs.Ytkepakklhnhnkaa.Lem

theorem toUint32_eq (l : List Int) (hl : l.length ≤ 35184372087808) (k : Nat) (hk : l.length < k) : laws_toUint32S.f k l = some l := by
  unfold laws_toUint32S.f
  rw [if_pos (by omega), if_pos (by omega), Int.toNat_natCast]
  have := copy_loop 0 (fun i => rd l i) l (by omega) (fun i h => rd_at l i h) (fun k x i => laws_toUint32S.l0 k l x i)
    (fun k x i hi hx => by simp only [laws_toUint32S.l0]; rw [if_pos (by omega), if_pos (by omega), if_pos (by omega), Int.toNat_natCast])
    (fun k x => by simp only [laws_toUint32S.l0]; rw [if_neg (by omega)]) l.length 0 k (by omega) hk
  simpa using this
theorem eqUint32_eq (l : List Int) (hl : l.length ≤ 140737488351232) (k : Nat) (hk : l.length < k) : laws_eqUint32S.f k l l = some true := by
  unfold laws_eqUint32S.f
  rw [if_pos rfl]
  have := scan_loop (fun k i => laws_eqUint32S.l0 k l l i) true l.length (by omega)
    (fun k i hi => by simp only [laws_eqUint32S.l0]; rw [if_pos (by omega), if_pos (by omega), if_pos (by omega), if_pos trivial])
    (fun k => by simp only [laws_eqUint32S.l0]; rw [if_neg (by omega)]) l.length 0 k (by omega) hk
  simpa using this
theorem rot5 {h : Int} (h0 : 0 ≤ h) (h1 : h < 4294967296) : Go.bits .or .u32 ((h * 32) % 4294967296) (h / 134217728) = rot h 5 := by
  have hb := rot_high h0 h1 (s := 5) (by omega)
  have hl := rot_low h (s := 5) (by omega)
  have := bits_join .u32 32 (by decide) wraps_u32 5 (h * 2 ^ 5 % 4294967296) (h / 2 ^ (32 - 5)) (Int.emod_nonneg _ (by omega)) hl (Int.emod_lt_of_pos _ (by omega)) hb.1 hb.2 (by have := hb.2; omega)
  exact this
theorem rotl5 {h : Int} (h0 : 0 ≤ h) (h1 : h < 4294967296) : bits_RotateLeft32.f h 5 = some (rot h 5) := by
  unfold bits_RotateLeft32.f
  exact rotl_eq h0 h1 (s := 5) (by omega)
theorem same (l : List Int) (hl : l.length ≤ 35184372087808) : ∀ (d i k : Nat) (h : Int), i + d = l.length → d < k → 0 ≤ h → h < 4294967296 →
    ∃ r, spec_FoldWords.l0 k l h i = some r ∧ impl_FoldWords.l0 k h l l.length i = some r := by
  intro d
  induction d with
  | zero =>
    intro i k h hi hk _ _
    obtain ⟨k, rfl⟩ : ∃ m, k = m + 1 := ⟨k - 1, by omega⟩
    refine ⟨h, ?_, ?_⟩
    · simp only [spec_FoldWords.l0]; rw [if_neg (by omega)]
    · simp only [impl_FoldWords.l0]; rw [if_neg (by omega)]
  | succ d ih =>
    intro i k h hi hk h0 h1
    obtain ⟨k, rfl⟩ : ∃ m, k = m + 1 := ⟨k - 1, by omega⟩
    obtain ⟨r, e1, e2⟩ := ih (i + 1) k ((Go.bits .xor .u32 (rot h 5) (rd l i) + 2654435769) % 4294967296) (by omega) (by omega) (by omega) (by omega)
    refine ⟨r, ?_, ?_⟩
    · simp only [spec_FoldWords.l0]
      rw [if_pos (by omega), if_pos (by omega), rot5 h0 h1, w64 (by omega) (by omega)]; exact e1
    · simp only [impl_FoldWords.l0]
      rw [if_pos (by omega), if_pos (by omega), if_pos (by omega), rotl5 h0 h1, Option.bind_some, w64 (by omega) (by omega)]; exact e2
theorem FnExactFoldWords : laws_FnExactFoldWords.Pure := by
  intro l _ hl _
  obtain ⟨k, hk⟩ : ∃ k : Nat, l.length < k := ⟨l.length + 1, by omega⟩
  refine ⟨k, ?_⟩
  unfold laws_FnExactFoldWords.f
  by_cases h : (l.length : Int) > 1048576
  · rw [if_pos h]
  · obtain ⟨r, e1, e2⟩ := same l (by omega) l.length 0 k 1 (by omega) hk (by omega) (by omega)
    have f1 : spec_FoldWords.f k l = some r := e1
    have f2 : impl_FoldWords.f k l = some r := e2
    rw [if_neg h, toUint32_eq l (by omega) k hk]
    simp only [Option.bind_some]
    rw [f1, f2]
    simp only [Option.bind_some, if_true]
    rw [eqUint32_eq l (by omega) k hk]
    simp

end Go.Proofs.Ytkepakklhnhnkaa.Pure

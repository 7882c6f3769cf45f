/- impl.LabelOk answers what the reference's LabelOk answers, for every text (of more than 2^20 bytes the statement asks nothing): 1 to 12 bytes of a-z. No condition. -/
import Derived.Test.YtiibkaencpcngaaPFnExactLabelOkx1
import Derived.Test.YtiibkaencpcngaaLem
namespace Go.Proofs.Ytiibkaencpcngaa.Pure
open Go.RowKit Go.Proofs.Ytiibkaencpcngaa.PFnExactLabelOk Go.Proofs.YtiibkaencpcngaaW.PrintWords Go.Proofs.YtiibkaencpcngaaW.PrintLast Go.Proofs.Ytiibkaencpcngaa.Lem

/-- From i on all bytes are letters. -/
def Letters (s : ByteArray) (i : Nat) : Prop := ∀ j : Nat, i ≤ j → j < s.size → 97 ≤ bt s j ∧ bt s j ≤ 122
def Right (s : ByteArray) : Prop := 1 ≤ s.size ∧ s.size ≤ 12
theorem letters_end (s : ByteArray) (i : Nat) (h : s.size ≤ i) : Letters s i := fun j hj hl => by omega
theorem letters_step (s : ByteArray) (i : Nat) (h : 97 ≤ bt s i ∧ bt s i ≤ 122) : Letters s i ↔ Letters s (i + 1) := by
  constructor
  · intro k j hj hl; exact k j (by omega) hl
  · intro k j hj hl
    by_cases e : j = i
    · subst e; exact h
    · exact k j (by omega) hl
theorem within_eq (n a b : Int) : impl_within.f n a b = some (decide (a ≤ n ∧ n ≤ b)) := by
  unfold impl_within.f
  by_cases h : n ≥ a
  · rw [if_pos h]; congr 1; simp; omega
  · rw [if_neg h]; congr 1; simp; omega
theorem in_eq (n a b : Int) : spec_l01In.f n a b = some (decide (a ≤ n ∧ n ≤ b)) := by
  unfold spec_l01In.f
  by_cases h : n ≥ a
  · rw [if_pos h]; congr 1; simp; omega
  · rw [if_neg h]; congr 1; simp; omega

theorem impl_side (s : ByteArray) (hs : s.size ≤ 140737488351232) : ∀ d i k : Nat, i + d = s.size → d < k → ∃ r, impl_isLabel.l0 k s s.size i = some r ∧ (r = true ↔ Letters s i ∧ Right s) := by
  intro d
  induction d with
  | zero =>
    intro i k hi hk
    obtain ⟨k, rfl⟩ : ∃ m, k = m + 1 := ⟨k - 1, by omega⟩
    have hL := letters_end s i (by omega)
    refine ⟨decide ((1 : Int) ≤ s.size ∧ (s.size : Int) ≤ 12), ?_, ?_⟩
    · simp only [impl_isLabel.l0]
      rw [if_neg (by omega), within_eq]; rfl
    · simp [hL, Right]; omega
  | succ d ih =>
    intro i k hi hk
    obtain ⟨k, rfl⟩ : ∃ m, k = m + 1 := ⟨k - 1, by omega⟩
    simp only [impl_isLabel.l0]
    rw [if_pos (by omega), if_pos (by omega), if_pos (by omega), w64 (by omega) (by omega)]
    by_cases h1 : bt s i < 97
    · rw [if_pos h1]
      refine ⟨false, rfl, ?_⟩
      simp only [Bool.false_eq_true, false_iff]
      intro h; have := h.1 i (by omega) (by omega); omega
    · rw [if_neg h1]
      by_cases h2 : bt s i > 122
      · rw [if_pos h2]
        refine ⟨false, rfl, ?_⟩
        simp only [Bool.false_eq_true, false_iff]
        intro h; have := h.1 i (by omega) (by omega); omega
      · rw [if_neg h2, letters_step s i (by omega)]
        exact ih (i + 1) k (by omega) (by omega)
theorem spec_side (s : ByteArray) (hs : s.size ≤ 140737488351232) : ∀ d i k : Nat, i + d = s.size → i ≤ 13 → 2 * d + 1 < k → ∃ r, spec_LabelOk.l0 k s i = some r ∧ (r = true ↔ Letters s i ∧ Right s) := by
  intro d
  induction d with
  | zero =>
    intro i k hi hi2 hk
    obtain ⟨k, rfl⟩ : ∃ m, k = m + 2 := ⟨k - 2, by omega⟩
    have hL := letters_end s i (by omega)
    refine ⟨decide ((1 : Int) ≤ s.size ∧ (s.size : Int) ≤ 12), ?_, ?_⟩
    · simp only [spec_LabelOk.l0]
      rw [if_neg (by omega)]
      simp only [spec_LabelOk.j1]
      rw [if_neg (by simp), in_eq]; rfl
    · simp [hL, Right]; omega
  | succ d ih =>
    intro i k hi hi2 hk
    obtain ⟨k, rfl⟩ : ∃ m, k = m + 2 := ⟨k - 2, by omega⟩
    simp only [spec_LabelOk.l0]
    rw [if_pos (by omega)]
    simp only [spec_LabelOk.j1]
    by_cases h13 : (i : Int) < 13
    · rw [if_pos (by simpa using h13), if_pos (by omega), if_pos (by omega), w64 (n := (i : Int) + 1) (by omega) (by omega)]
      have hbt := bt_range s i
      rw [w64 (n := bt s i) (by omega) (by omega), in_eq]
      simp only [Option.bind_some]
      by_cases h : 97 ≤ bt s i ∧ bt s i ≤ 122
      · rw [if_pos (by simpa using h), letters_step s i h]
        exact ih (i + 1) k (by omega) (by omega) (by omega)
      · rw [if_neg (by simpa using h)]
        refine ⟨false, rfl, ?_⟩
        simp only [Bool.false_eq_true, false_iff]
        intro h3; exact h (h3.1 i (by omega) (by omega))
    · rw [if_neg (by simpa using h13), in_eq]
      refine ⟨_, rfl, ?_⟩
      have : ¬ Right s := by unfold Right; omega
      simp [this]; omega

theorem FnExactLabelOk : laws_FnExactLabelOk.Pure := by
  intro s hs
  obtain ⟨r1, e1, h1⟩ := impl_side s hs s.size 0 (2 * s.size + 2) (by omega) (by omega)
  obtain ⟨r2, e2, h2⟩ := spec_side s hs s.size 0 (2 * s.size + 2) (by omega) (by omega) (by omega)
  refine ⟨2 * s.size + 2, ?_⟩
  unfold laws_FnExactLabelOk.f impl_LabelOk.f impl_isLabel.f spec_LabelOk.f
  by_cases h : (s.size : Int) > 1048576
  · rw [if_pos h]
  · rw [if_neg h]
    rw [show (0 : Int) = ((0 : Nat) : Int) from rfl, e1, e2]
    have : r1 = r2 := by
      cases r1 <;> cases r2 <;> simp_all
    subst this
    simp

end Go.Proofs.Ytiibkaencpcngaa.Pure

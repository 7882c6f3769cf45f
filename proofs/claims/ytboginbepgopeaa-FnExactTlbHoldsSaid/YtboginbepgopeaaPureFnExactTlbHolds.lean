/- impl.TlbHolds answers what the reference's TlbHolds answers, for every Tlb and every int (of more than 2^20 pages the statement asks nothing), and leaves the Tlb as it was. No condition. -/
import Derived.Test.YtboginbepgopeaaPFnExactTlbHoldsx
import Derived.Test.YtboginbepgopeaaLem
namespace Go.Proofs.Ytboginbepgopeaa.Pure
open Go.RowKit Go.Proofs.Ytboginbepgopeaa.PFnExactTlbHolds Go.Proofs.YtboginbepgopeaaW.PrintWords Go.Proofs.YtboginbepgopeaaW.PrintLast Go.Proofs.Ytboginbepgopeaa.Lem

theorem impl_within_eq (n a b : Int) : impl_within.f n a b = some (decide (a ≤ n ∧ n ≤ b)) := by
  unfold impl_within.f
  by_cases h : n ≥ a
  · rw [if_pos h]; congr 1; simp; omega
  · rw [if_neg h]; congr 1; simp; omega
theorem spec_l01In_eq (n a b : Int) : spec_l01In.f n a b = some (decide (a ≤ n ∧ n ≤ b)) := by
  unfold spec_l01In.f
  by_cases h : n ≥ a
  · rw [if_pos h]; congr 1; simp; omega
  · rw [if_neg h]; congr 1; simp; omega
theorem toInt_eq (l : List Int) (hl : l.length ≤ 35184372088832) (k : Nat) (hk : l.length < k) : laws_toIntS.f k l = some l := by
  unfold laws_toIntS.f
  rw [if_pos (by omega), if_pos (by omega), Int.toNat_natCast]
  have := copy_loop 0 (fun i => rd l i) l (by omega) (fun i h => rd_at l i h) (fun k x i => laws_toIntS.l0 k l x i)
    (fun k x i hi hx => by simp only [laws_toIntS.l0]; rw [if_pos (by omega), if_pos (by omega), if_pos (by omega), Int.toNat_natCast])
    (fun k x => by simp only [laws_toIntS.l0]; rw [if_neg (by omega)]) l.length 0 k (by omega) hk
  simpa using this
theorem eqInt_eq (l : List Int) (hl : l.length ≤ 140737488351232) (k : Nat) (hk : l.length < k) : laws_eqIntS.f k l l = some true := by
  unfold laws_eqIntS.f
  rw [if_pos rfl]
  have := scan_loop (fun k i => laws_eqIntS.l0 k l l i) true l.length (by omega)
    (fun k i hi => by simp only [laws_eqIntS.l0]; rw [if_pos (by omega), if_pos (by omega), if_pos (by omega), if_pos trivial])
    (fun k => by simp only [laws_eqIntS.l0]; rw [if_neg (by omega)]) l.length 0 k (by omega) hk
  simpa using this
def Good (l : List Int) (i : Nat) : Prop := (0 ≤ rd l i ∧ rd l i ≤ 1023) ∧ ∀ j : Nat, j < i → rd l j ≠ rd l i
def AllFrom (l : List Int) (i : Nat) : Prop := ∀ j, i ≤ j → j < l.length → Good l j
theorem all_end (l : List Int) (i : Nat) (h : l.length ≤ i) : AllFrom l i := fun j hj hl => by omega
theorem all_step (l : List Int) (i : Nat) (hi : i < l.length) : AllFrom l i ↔ Good l i ∧ AllFrom l (i + 1) := by
  constructor
  · intro h; exact ⟨h i (Nat.le_refl _) hi, fun j hj hl => h j (by omega) hl⟩
  · intro h j hj hl
    by_cases e : j = i
    · subst e; exact h.1
    · exact h.2 j (by omega) hl
theorem index_is (l : List Int) (x : Int) (hl : l.length ≤ 140737488351232) : ∀ d i k : Nat, i + d = l.length → d < k →
    ∃ r, slices_Index_int_int.l0 k l x l.length i = some r ∧ (r ≥ 0 ↔ ∃ j : Nat, i ≤ j ∧ j < l.length ∧ rd l j = x) := by
  intro d
  induction d with
  | zero =>
    intro i k hi hk
    obtain ⟨k, rfl⟩ : ∃ m, k = m + 1 := ⟨k - 1, by omega⟩
    refine ⟨-1, by simp only [slices_Index_int_int.l0]; rw [if_neg (by omega)], ?_⟩
    constructor
    · intro h; omega
    · rintro ⟨j, h1, h2, _⟩; omega
  | succ d ih =>
    intro i k hi hk
    obtain ⟨k, rfl⟩ : ∃ m, k = m + 1 := ⟨k - 1, by omega⟩
    simp only [slices_Index_int_int.l0]
    rw [if_pos (by omega), if_pos (by omega), if_pos (by omega), w64 (by omega) (by omega)]
    by_cases e : x = rd l (i : Int)
    · rw [if_pos e]
      exact ⟨i, rfl, ⟨fun _ => ⟨i, by omega, by omega, e.symm⟩, fun _ => by omega⟩⟩
    · rw [if_neg e]
      obtain ⟨r, h1, h2⟩ := ih (i + 1) k (by omega) (by omega)
      refine ⟨r, h1, h2.trans ?_⟩
      constructor
      · rintro ⟨j, a, b, c⟩; exact ⟨j, by omega, b, c⟩
      · rintro ⟨j, a, b, c⟩
        refine ⟨j, ?_, b, c⟩
        by_cases ej : j = i
        · subst ej; exact absurd c.symm e
        · omega
theorem contains_is (l : List Int) (x : Int) (hl : l.length ≤ 140737488351232) (k : Nat) (hk : l.length < k) : ∃ r, slices_Contains_int_int.f k l x = some r ∧ (r = true ↔ ∃ j : Nat, j < l.length ∧ rd l j = x) := by
  obtain ⟨r, h1, h2⟩ := index_is l x hl l.length 0 k (by omega) hk
  refine ⟨decide (r ≥ 0), ?_, ?_⟩
  · unfold slices_Contains_int_int.f slices_Index_int_int.f
    have h1' : slices_Index_int_int.l0 k l x (l.length : Int) 0 = some r := h1
    rw [h1']; rfl
  · rw [decide_eq_true_iff, h2]
    constructor
    · rintro ⟨j, _, b, c⟩; exact ⟨j, b, c⟩
    · rintro ⟨j, b, c⟩; exact ⟨j, by omega, b, c⟩
theorem rd_take (l : List Int) (i j : Nat) (h : j < i) : rd (l.take i) j = rd l j := by
  unfold rd; simp [List.getD_eq_getElem?_getD, h]
theorem impl_tlb_loop (l : List Int) (a : Int) (hl : l.length ≤ 8) : ∀ d i k : Nat, i + d = l.length → d + 20 < k → ∃ r, impl_isTlb.l0 k l l.length i a l = some r ∧ (r = true ↔ AllFrom l i) := by
  intro d
  induction d with
  | zero =>
    intro i k hi hk
    obtain ⟨k, rfl⟩ : ∃ m, k = m + 1 := ⟨k - 1, by omega⟩
    refine ⟨true, by simp only [impl_isTlb.l0]; rw [if_neg (by omega)], ?_⟩
    simp [all_end l i (by omega)]
  | succ d ih =>
    intro i k hi hk
    obtain ⟨k, rfl⟩ : ∃ m, k = m + 1 := ⟨k - 1, by omega⟩
    simp only [impl_isTlb.l0]
    rw [if_pos (by omega), if_pos (by omega), if_pos (by omega), impl_within_eq, w64 (by omega) (by omega), all_step l i (by omega)]
    simp only [Option.bind_some]
    by_cases hr : 0 ≤ rd l i ∧ rd l i ≤ 1023
    · rw [if_pos (by simpa using hr), if_pos (by omega), Int.toNat_natCast]
      obtain ⟨r, h1, h2⟩ := contains_is (l.take i) (rd l i) (by simp; omega) k (by simp; omega)
      rw [h1, Option.bind_some]
      have hlen : (l.take i).length = i := by simp; omega
      rw [hlen] at h2
      cases r with
      | true =>
        rw [if_pos rfl]
        refine ⟨false, rfl, ?_⟩
        obtain ⟨j, hj, e⟩ := h2.1 rfl
        simp only [Bool.false_eq_true, false_iff]
        intro hh
        exact hh.1.2 j hj (by rw [← rd_take l i j hj]; exact e)
      | false =>
        rw [if_neg (by simp)]
        obtain ⟨r, e1, e2⟩ := ih (i + 1) k (by omega) (by omega)
        refine ⟨r, e1, e2.trans ?_⟩
        constructor
        · intro hh
          refine ⟨⟨hr, fun j hj e => ?_⟩, hh⟩
          have := h2.2 ⟨j, hj, by rw [rd_take l i j hj]; exact e⟩
          cases this
        · intro hh; exact hh.2
    · rw [if_neg (by simpa using hr)]
      refine ⟨false, rfl, ?_⟩
      simp only [Bool.false_eq_true, false_iff]
      intro hh; exact hr hh.1.1
theorem spec_tlb_inner (l : List Int) (a : Int) (hl : l.length ≤ 8) (i : Nat) (hi : i < l.length) : ∀ e m k : Nat, m + e = i → e < k →
    ((∃ j : Nat, m ≤ j ∧ j < i ∧ rd l j = rd l i) → spec_TlbOk.l1 k i m a l = some false) ∧ ((¬ ∃ j : Nat, m ≤ j ∧ j < i ∧ rd l j = rd l i) → spec_TlbOk.l1 k i m a l = spec_TlbOk.l0 (k - (e + 1)) (i + 1 : Nat) a l) := by
  intro e
  induction e with
  | zero =>
    intro m k hm hk
    obtain ⟨k, rfl⟩ : ∃ m, k = m + 1 := ⟨k - 1, by omega⟩
    refine ⟨fun ⟨j, h1, h2, _⟩ => by omega, fun _ => ?_⟩
    simp only [spec_TlbOk.l1]
    rw [if_neg (by omega), w64 (by omega) (by omega)]
    rfl
  | succ e ih =>
    intro m k hm hk
    obtain ⟨k, rfl⟩ : ∃ m, k = m + 1 := ⟨k - 1, by omega⟩
    obtain ⟨h1, h2⟩ := ih (m + 1) k (by omega) (by omega)
    simp only [spec_TlbOk.l1]
    rw [if_pos (by omega), if_pos (by omega), if_pos (by omega), if_pos (by omega), if_pos (by omega), w64 (by omega) (by omega)]
    have em : ((m : Int) + 1) = ((m + 1 : Nat) : Int) := by omega
    rw [em]
    by_cases heq : rd l m = rd l i
    · rw [if_pos heq]
      exact ⟨fun _ => rfl, fun hn => absurd ⟨m, by omega, by omega, heq⟩ hn⟩
    · rw [if_neg heq]
      refine ⟨fun ⟨j, a1, a2, a3⟩ => h1 ⟨j, ?_, a2, a3⟩, fun hn => ?_⟩
      · by_cases ej : j = m
        · subst ej; exact absurd a3 heq
        · omega
      · rw [h2 (fun ⟨j, a1, a2, a3⟩ => hn ⟨j, by omega, a2, a3⟩)]
        congr 1; omega
theorem spec_tlb_loop (l : List Int) (a : Int) (hl : l.length ≤ 8) : ∀ d i k : Nat, i + d = l.length → (d + 1) * 12 < k → ∃ r, spec_TlbOk.l0 k i a l = some r ∧ (r = true ↔ AllFrom l i) := by
  intro d
  induction d with
  | zero =>
    intro i k hi hk
    obtain ⟨k, rfl⟩ : ∃ m, k = m + 1 := ⟨k - 1, by omega⟩
    refine ⟨true, by simp only [spec_TlbOk.l0]; rw [if_neg (by omega)], ?_⟩
    simp [all_end l i (by omega)]
  | succ d ih =>
    intro i k hi hk
    obtain ⟨k, rfl⟩ : ∃ m, k = m + 1 := ⟨k - 1, by omega⟩
    simp only [spec_TlbOk.l0]
    rw [if_pos (by omega), if_pos (by omega), spec_l01In_eq, all_step l i (by omega)]
    simp only [Option.bind_some]
    by_cases hr : 0 ≤ rd l i ∧ rd l i ≤ 1023
    · rw [if_pos (by simpa using hr)]
      obtain ⟨h1, h2⟩ := spec_tlb_inner l a hl i (by omega) i 0 k (by omega) (by omega)
      by_cases hex : ∃ j : Nat, 0 ≤ j ∧ j < i ∧ rd l j = rd l i
      · have := h1 hex
        refine ⟨false, this, ?_⟩
        obtain ⟨j, _, hj, e⟩ := hex
        simp only [Bool.false_eq_true, false_iff]
        intro hh; exact hh.1.2 j hj e
      · have e0 := h2 hex
        obtain ⟨r, e1, e2⟩ := ih (i + 1) (k - (i + 1)) (by omega) (by omega)
        refine ⟨r, by rw [← e1]; exact e0, e2.trans ?_⟩
        constructor
        · intro hh
          exact ⟨⟨hr, fun j hj e => hex ⟨j, by omega, hj, e⟩⟩, hh⟩
        · intro hh; exact hh.2
    · rw [if_neg (by simpa using hr)]
      refine ⟨false, rfl, ?_⟩
      simp only [Bool.false_eq_true, false_iff]
      intro hh; exact hr hh.1.1
/-- What TlbOk says, in the reference and in the program. -/
theorem tlb_same (a : Int) (l : List Int) (k : Nat) (hk : 200 < k) : ∃ r, spec_TlbOk.f k a l = some r ∧ impl_isTlb.f k a l = some r ∧ (r = true ↔ (1 ≤ a ∧ a ≤ 8 ∧ (l.length : Int) ≤ a ∧ AllFrom l 0)) := by
  obtain ⟨k, rfl⟩ : ∃ m, k = m + 1 := ⟨k - 1, by omega⟩
  unfold spec_TlbOk.f impl_isTlb.f
  simp only [spec_l01In_eq, impl_within_eq, Option.bind_some]
  by_cases ha : 1 ≤ a ∧ a ≤ 8
  · rw [if_pos (by simpa using ha), if_pos (by simpa using ha)]
    simp only [spec_TlbOk.j0, impl_isTlb.j0]
    by_cases hn : (l.length : Int) > a
    · rw [if_pos (by simpa using hn), if_pos (by simpa using hn)]
      exact ⟨false, rfl, rfl, by simp only [Bool.false_eq_true, false_iff]; intro hh; omega⟩
    · rw [if_neg (by simpa using hn), if_neg (by simpa using hn)]
      obtain ⟨r1, a1, b1⟩ := spec_tlb_loop l a (by omega) l.length 0 k (by omega) (by omega)
      obtain ⟨r2, a2, b2⟩ := impl_tlb_loop l a (by omega) l.length 0 k (by omega) (by omega)
      have : r1 = r2 := by rw [Bool.eq_iff_iff, b1, b2]
      subst this
      exact ⟨r1, a1, a2, b1.trans ⟨fun h => ⟨ha.1, ha.2, by omega, h⟩, fun h => h.2.2.2⟩⟩
  · rw [if_neg (by simpa using ha), if_neg (by simpa using ha)]
    simp only [spec_TlbOk.j0, impl_isTlb.j0, if_true]
    exact ⟨false, rfl, rfl, by simp only [Bool.false_eq_true, false_iff]; intro hh; exact ha ⟨hh.1, hh.2.1⟩⟩
theorem has_is (l : List Int) (x : Int) (hl : l.length ≤ 140737488351232) : ∀ d i k : Nat, i + d = l.length → d < k →
    ∃ r, spec_l06Has.l0 k l x i = some r ∧ (r = true ↔ ∃ j : Nat, i ≤ j ∧ j < l.length ∧ rd l j = x) := by
  intro d
  induction d with
  | zero =>
    intro i k hi hk
    obtain ⟨k, rfl⟩ : ∃ m, k = m + 1 := ⟨k - 1, by omega⟩
    refine ⟨false, by simp only [spec_l06Has.l0]; rw [if_neg (by omega)], ?_⟩
    simp only [Bool.false_eq_true, false_iff]
    rintro ⟨j, h1, h2, _⟩; omega
  | succ d ih =>
    intro i k hi hk
    obtain ⟨k, rfl⟩ : ∃ m, k = m + 1 := ⟨k - 1, by omega⟩
    simp only [spec_l06Has.l0]
    rw [if_pos (by omega), if_pos (by omega), w64 (by omega) (by omega)]
    by_cases e : rd l (i : Int) = x
    · rw [if_pos e]
      exact ⟨true, rfl, ⟨fun _ => ⟨i, by omega, by omega, e⟩, fun _ => rfl⟩⟩
    · rw [if_neg e]
      obtain ⟨r, h1, h2⟩ := ih (i + 1) k (by omega) (by omega)
      refine ⟨r, h1, h2.trans ?_⟩
      constructor
      · rintro ⟨j, a, b, c⟩; exact ⟨j, by omega, b, c⟩
      · rintro ⟨j, a, b, c⟩
        refine ⟨j, ?_, b, c⟩
        by_cases ej : j = i
        · subst ej; exact absurd c e
        · omega
theorem sz_is (a : Int) (l : List Int) (hl : l.length ≤ 9223372036854775807) : ∃ s, laws_szTlb.f a l 1048576 = some s ∧ (s < 0 ↔ 1048576 < l.length) := by
  unfold laws_szTlb.f laws_szIntS.f
  rw [w64 (by omega) (by omega)]
  by_cases h : 1048576 - (l.length : Int) < 0
  · refine ⟨-1, ?_, by omega⟩
    rw [if_pos h]; rfl
  · refine ⟨1048576 - (l.length : Int), ?_, by omega⟩
    rw [if_neg h, Option.bind_some, if_neg h]
theorem FnExactTlbHolds : ∀ (a : Int) (l : List Int) (x : Int), (Lit.int .i64 a).wf = true → l.length ≤ 9223372036854775807 → (∀ x ∈ l, (Lit.int .i64 x).wf = true) → (Lit.int .i64 x).wf = true → ∃ k, laws_FnExactTlbHolds.f k a l x = some true := by
  intro a l x _ hl _ _
  obtain ⟨k, hk⟩ : ∃ k : Nat, l.length + 200 < k := ⟨l.length + 201, by omega⟩
  refine ⟨k, ?_⟩
  obtain ⟨s, h1, h2⟩ := sz_is a l hl
  unfold laws_FnExactTlbHolds.f
  rw [h1, Option.bind_some]
  by_cases hs : s < 0
  · rw [if_pos hs]
  · rw [if_neg hs]
    have hlen : l.length ≤ 1048576 := by omega
    obtain ⟨r, e1, e2, _⟩ := tlb_same a l k (by omega)
    obtain ⟨r1, f1, g1⟩ := has_is l (wrap64 (Int.tdiv x 64)) (by omega) l.length 0 k (by omega) (by omega)
    obtain ⟨r2, f2, g2⟩ := contains_is l (wrap64 (Int.tdiv x 64)) (by omega) k (by omega)
    have hr : r1 = r2 := by
      rw [Bool.eq_iff_iff, g1, g2]
      constructor
      · rintro ⟨j, _, b, c⟩; exact ⟨j, b, c⟩
      · rintro ⟨j, b, c⟩; exact ⟨j, by omega, b, c⟩
    subst hr
    have f1' : spec_l06Has.f k l (wrap64 (Int.tdiv x 64)) = some r1 := f1
    have hs : ∃ q, spec_TlbHolds.f k a l x = some q ∧ impl_TlbHolds.f k a l x = some q := by
      unfold spec_TlbHolds.f impl_TlbHolds.f impl_isAddr.f
      rw [e1, e2]
      simp only [Option.bind_some, spec_l01In_eq, impl_within_eq, f1', f2]
      cases r with
      | false => exact ⟨false, by simp, by simp⟩
      | true =>
        by_cases hx : 0 ≤ x ∧ x ≤ 65535
        · exact ⟨r1, by simp [hx], by simp [hx]⟩
        · exact ⟨false, by simp [hx], by simp [hx]⟩
    obtain ⟨q, q1, q2⟩ := hs
    unfold laws_toTlb.f laws_eqTlb.f
    simp only [toInt_eq l (by omega) k (by omega), Option.bind_some, q1, q2, eqInt_eq l (by omega) k (by omega)]
    simp

end Go.Proofs.Ytboginbepgopeaa.Pure

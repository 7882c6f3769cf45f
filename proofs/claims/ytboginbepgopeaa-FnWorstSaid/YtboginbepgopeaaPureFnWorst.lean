/- The law FnWorst: for every code (of more than 2^20 bytes it asks nothing) the drawn costs bear it: no op with two accesses and a trap costs more than WorstStep, and one costs that. No condition. -/
import Derived.Test.YtboginbepgopeaaCostsFnWorst
set_option linter.unusedVariables false
namespace Go.Proofs.Ytboginbepgopeaa.Pure
open Go.RowKit Go.Proofs.Ytboginbepgopeaa.PFnWorst Go.Proofs.YtboginbepgopeaaW.PrintWords Go.Proofs.YtboginbepgopeaaW.PrintLast Go.Proofs.Ytboginbepgopeaa.Lem

theorem impl_within_eq (n a b : Int) : impl_within.f n a b = some (decide (a ≤ n ∧ n ≤ b)) := by
  unfold impl_within.f
  by_cases h : n ≥ a
  · rw [if_pos h]; congr 1; simp; omega
  · rw [if_neg h]; congr 1; simp; omega
theorem byte_is (b : List Int) (hb : b.length ≤ 4611686018427387904) (i h : Int) (hi : 0 ≤ i) : ∃ x i' h', spec_l01Byte.f b i h = some (x, i', h') ∧ 0 ≤ x ∧ x ≤ 255 ∧ 0 ≤ i' := by
  have m : ∀ y : Int, Go.bits .and .i64 y 255 = y % 256 := by
    intro y
    have := and_mask .i64 8 (by decide) (fun n a b => wraps_i64 n a (by omega)) y
    rwa [show (2 : Int) ^ 8 - 1 = 255 from rfl, show (2 : Int) ^ 8 = 256 from rfl] at this
  unfold spec_l01Byte.f
  by_cases h1 : i < (b.length : Int)
  · rw [if_pos h1, if_pos hi]
    refine ⟨_, _, _, rfl, ?_, ?_, ?_⟩
    · rw [m]; omega
    · rw [m]; omega
    · rw [w64 (by omega) (by omega)]; omega
  · rw [if_neg h1]
    refine ⟨_, _, _, rfl, ?_, ?_, hi⟩
    · rw [m]; omega
    · rw [m]; omega
theorem below_is (b : List Int) (hb : b.length ≤ 4611686018427387904) (i h n : Int) (hi : 0 ≤ i) : ∃ r i' h', spec_l01Below.f b i h n = some (r, i', h') ∧ 0 ≤ r ∧ (0 < n → r < n) ∧ (n ≤ 0 → r = 0) ∧ 0 ≤ i' := by
  unfold spec_l01Below.f
  by_cases h0 : n ≤ 0
  · rw [if_pos h0]; exact ⟨_, _, _, rfl, by omega, by omega, fun _ => rfl, hi⟩
  · rw [if_neg h0]
    obtain ⟨x1, i1, h1, e1, a1, b1, c1⟩ := byte_is b hb i h hi
    by_cases h2 : n ≤ 256
    · rw [if_pos h2, e1]
      simp only [Option.bind_some]
      rw [if_neg (by omega), tmod_pos a1]
      exact ⟨_, _, _, rfl, Int.emod_nonneg _ (by omega), fun _ => Int.emod_lt_of_pos _ (by omega), by omega, c1⟩
    · rw [if_neg h2]
      obtain ⟨x2, i2, h2', e2, a2, b2, c2⟩ := byte_is b hb i1 h1 c1
      obtain ⟨x3, i3, h3, e3, a3, b3, c3⟩ := byte_is b hb i2 h2' c2
      obtain ⟨x4, i4, h4, e4, a4, b4, c4⟩ := byte_is b hb i3 h3 c3
      simp only [e1, e2, e3, e4, Option.bind_some]
      rw [if_neg (by omega)]
      rw [w64 (n := x1 * 16777216) (by omega) (by omega), w64 (n := x2 * 65536) (by omega) (by omega), w64 (n := x3 * 256) (by omega) (by omega), w64 (n := x1 * 16777216 + x2 * 65536) (by omega) (by omega),
        w64 (n := x1 * 16777216 + x2 * 65536 + x3 * 256) (by omega) (by omega), w64 (n := x1 * 16777216 + x2 * 65536 + x3 * 256 + x4) (by omega) (by omega), tmod_pos (by omega)]
      exact ⟨_, _, _, rfl, Int.emod_nonneg _ (by omega), fun _ => Int.emod_lt_of_pos _ (by omega), by omega, c4⟩
theorem new_is (b : List Int) (hb : b.length ≤ 4611686018427387904) : ∀ (d i k : Nat) (h : Int), i + d = b.length → d < k → ∃ h', spec_l01New.l0 k b h i = some (b, 0, h') := by
  intro d
  induction d with
  | zero =>
    intro i k h hi hk
    obtain ⟨k, rfl⟩ : ∃ m, k = m + 1 := ⟨k - 1, by omega⟩
    exact ⟨h, by simp only [spec_l01New.l0]; rw [if_neg (by omega)]⟩
  | succ d ih =>
    intro i k h hi hk
    obtain ⟨k, rfl⟩ : ∃ m, k = m + 1 := ⟨k - 1, by omega⟩
    simp only [spec_l01New.l0]
    rw [if_pos (by omega)]
    by_cases h4 : (i : Int) < 4000
    · rw [if_pos h4, if_pos (by omega), w64 (n := (i : Int) + 1) (by omega) (by omega)]
      exact ih (i + 1) k _ (by omega) (by omega)
    · rw [if_neg h4]; exact ⟨h, rfl⟩
theorem drawn (b : List Int) (hb : b.length ≤ 4611686018427387904) (k : Nat) (hk : b.length < k) : ∃ h', spec_l01New.f k b = some (b, 0, h') := new_is b hb b.length 0 k _ (by omega) hk
theorem pick_is (b : List Int) (hb : b.length ≤ 4611686018427387904) (i h : Int) (l : List Int) (hl : 0 < l.length) (hi : 0 ≤ i) : ∃ r i' h', spec_l01PickInt.f b i h l = some (r, i', h') ∧ r ∈ l ∧ 0 ≤ i' := by
  obtain ⟨r, i', h', e, a, c, _, d⟩ := below_is b hb i h (l.length : Int) hi
  unfold spec_l01PickInt.f
  rw [e]
  simp only [Option.bind_some]
  have hr := c (by omega)
  rw [if_pos a, if_pos hr]
  refine ⟨_, _, _, rfl, ?_, d⟩
  obtain ⟨j, rfl⟩ := Int.eq_ofNat_of_zero_le a
  rw [rd_at l j (by omega)]
  exact List.getElem_mem _
theorem once_is (b : List Int) (hb : b.length ≤ 4611686018427387904) (i h n : Int) (hi : 0 ≤ i) : ∃ r i' h', spec_l01Once.f b i h n = some (r, i', h') ∧ 0 ≤ i' := by
  obtain ⟨r, i', h', e, _, _, _, d⟩ := below_is b hb i h n hi
  unfold spec_l01Once.f
  rw [e]
  exact ⟨_, _, _, rfl, d⟩
/-- What an op costs. -/
def opc (a b c f op : Int) : Int := if op = 9 ∨ op = 10 then a + b else if 15 ≤ op ∧ op ≤ 18 then a + c else if op ≥ 25 then a + f else a
theorem opc_range {a b c d e f g : Int} (h : IsCosts a b c d e f g) (op : Int) : 1 ≤ opc a b c f op ∧ opc a b c f op ≤ 70 := by
  unfold IsCosts at h
  unfold opc
  repeat' split
  all_goals omega
theorem impl_opc {a b c d e f g : Int} (h : IsCosts a b c d e f g) (op : Int) (k : Nat) (hk : 0 < k) : impl_opCost.f k a b c d e f g op = some (opc a b c f op) := by
  obtain ⟨k, rfl⟩ : ∃ m, k = m + 1 := ⟨k - 1, by omega⟩
  have hc := h
  unfold IsCosts at hc
  have e1 : wrap64 (a + b) = a + b := w64 (by omega) (by omega)
  have e2 : wrap64 (a + c) = a + c := w64 (by omega) (by omega)
  have e3 : wrap64 (a + f) = a + f := w64 (by omega) (by omega)
  unfold impl_opCost.f
  simp only [impl_opCost.j0, impl_within_eq, Option.bind_some, e1, e2, e3]
  unfold opc
  by_cases h9 : op = 9
  · subst h9; simp
  · by_cases h10 : op = 10
    · subst h10; simp
    · have hb : (op == 10) = false := by simpa using h10
      rw [if_neg h9, hb, if_neg (by simp), if_neg (show ¬ (op = 9 ∨ op = 10) by omega)]
      by_cases hm : 15 ≤ op ∧ op ≤ 18
      · rw [if_pos (by simpa using hm), if_pos hm]
      · rw [if_neg (by simpa using hm), if_neg hm]
        by_cases ht : op ≥ 25
        · rw [if_pos ht, if_pos ht]
        · rw [if_neg ht, if_neg ht]
theorem acc_val {a b c d e f g : Int} (h : IsCosts a b c d e f g) (k : Nat) (hk : 0 < k) (x y z : Bool) : ∃ s, impl_accessCost.f k a b c d e f g x y z = some s ∧ s ≤ d + e + g ∧ ((x = false ∧ y = false ∧ z = true) → s = d + e + g) ∧ 0 ≤ s ∧ ((x = true ∧ y = true ∧ z = false) → s = 0) := by
  obtain ⟨k, rfl⟩ : ∃ m, k = m + 1 := ⟨k - 1, by omega⟩
  have hc := h
  unfold IsCosts at hc
  unfold impl_accessCost.f
  simp only [impl_accessCost.j0]
  have e2 : wrap64 (d + e) = d + e := w64 (by omega) (by omega)
  have e4 : wrap64 (d + e + g) = d + e + g := w64 (by omega) (by omega)
  have e5 : wrap64 (e + g) = e + g := w64 (by omega) (by omega)
  have e6 : wrap64 (d + g) = d + g := w64 (by omega) (by omega)
  have f1 : wrap64 d = d := w64 (by omega) (by omega)
  have f2 : wrap64 e = e := w64 (by omega) (by omega)
  have f3 : wrap64 g = g := w64 (by omega) (by omega)
  cases x <;> cases y <;> cases z <;> simp [e2, e4, e5, e6, f1, f2, f3] <;> omega
theorem forms_ok : ∀ n : Fin 33, (match impl_formOf.f 8 (n.val : Int) with | some r => decide (0 ≤ r) | none => false) = true := by decide +kernel
theorem opcost_is {a b c d e f g : Int} (h : IsCosts a b c d e f g) (op : Nat) (hop : op < 33) (k : Nat) (hk : 8 ≤ k) : impl_OpCost.f k a b c d e f g op = some (opc a b c f op) := by
  have hf := forms_ok ⟨op, hop⟩
  unfold impl_OpCost.f
  rw [impl_costs, decide_eq_true h]
  cases e : impl_formOf.f 8 (op : Int) with
  | none => simp only [e] at hf; cases hf
  | some r =>
    simp only [e, decide_eq_true_eq] at hf
    have e' : impl_formOf.f k (op : Int) = some r := at_rounds (g := fun k => impl_formOf.f k (op : Int)) (fun k => impl_formOf.mono _ k) hk e
    simp only [Option.bind_some, if_true, e']
    rw [if_neg (by omega), impl_opc h op k (by omega)]
    rfl
theorem access_is {a b c d e f g : Int} (h : IsCosts a b c d e f g) (k : Nat) (x y z : Bool) (s : Int) (hs : impl_accessCost.f k a b c d e f g x y z = some s) : impl_AccessCost.f k a b c d e f g x y z = some s := by
  unfold impl_AccessCost.f
  rw [impl_costs, decide_eq_true h]
  simp only [Option.bind_some, if_true, hs]
theorem worst_is {a b c d e f g : Int} (h : IsCosts a b c d e f g) (k : Nat) (hk : 0 < k) : impl_WorstAccess.f k a b c d e f g = some (d + e + g) := by
  obtain ⟨s, e1, _, e2, _⟩ := acc_val h k hk false false true
  unfold impl_WorstAccess.f
  rw [impl_costs, decide_eq_true h]
  simp only [Option.bind_some, if_true, e1]
  rw [e2 ⟨rfl, rfl, rfl⟩]
/-- The most that an op from i on costs. -/
theorem step_loop {a b c d e f g : Int} (h : IsCosts a b c d e f g) : ∀ (n i k : Nat) (m : Int), i + n = 33 → n + 30 < k → 0 ≤ m → m ≤ 70 →
    ∃ M, impl_WorstStep.l0 k m i a b c d e f g = some (M + 2 * (d + e + g) + f) ∧ m ≤ M ∧ M ≤ 70 ∧ (∀ j : Nat, i ≤ j → j < 33 → opc a b c f j ≤ M) ∧ (M = m ∨ ∃ j : Nat, i ≤ j ∧ j < 33 ∧ opc a b c f j = M) := by
  have hc := h
  unfold IsCosts at hc
  intro n
  induction n with
  | zero =>
    intro i k m hi hk h0 h1
    obtain ⟨k, rfl⟩ : ∃ m, k = m + 1 := ⟨k - 1, by omega⟩
    obtain ⟨s, e1, _, e2, _⟩ := acc_val h k (by omega) false false true
    simp only [impl_WorstStep.l0]
    rw [if_neg (by omega), e1, e2 ⟨rfl, rfl, rfl⟩]
    simp only [Option.bind_some]
    rw [w64 (n := 2 * (d + e + g)) (by omega) (by omega), w64 (n := m + 2 * (d + e + g)) (by omega) (by omega), w64 (n := m + 2 * (d + e + g) + f) (by omega) (by omega)]
    exact ⟨m, rfl, by omega, h1, fun j hj hj2 => by omega, .inl rfl⟩
  | succ n ih =>
    intro i k m hi hk h0 h1
    obtain ⟨k, rfl⟩ : ∃ m, k = m + 1 := ⟨k - 1, by omega⟩
    have hr := opc_range h (i : Int)
    simp only [impl_WorstStep.l0]
    rw [if_pos (by omega), impl_opc h i k (by omega)]
    simp only [Option.bind_some]
    rw [w64 (n := (i : Int) + 1) (by omega) (by omega)]
    have hm : (mx m (opc a b c f i) = m ∧ opc a b c f i ≤ m) ∨ (mx m (opc a b c f i) = opc a b c f i ∧ m < opc a b c f i) := by
      unfold mx
      by_cases hx : m < opc a b c f i
      · rw [if_pos hx]; exact .inr ⟨rfl, hx⟩
      · rw [if_neg hx]; exact .inl ⟨rfl, by omega⟩
    obtain ⟨M, e1, e2, e3, e4, e5⟩ := ih (i + 1) k (mx m (opc a b c f i)) (by omega) (by omega) (by omega) (by omega)
    refine ⟨M, e1, by omega, e3, ?_, ?_⟩
    · intro j hj hj2
      by_cases ej : j = i
      · subst ej; omega
      · exact e4 j (by omega) hj2
    · rcases e5 with e5 | ⟨j, h1, h2, h3⟩
      · rcases hm with ⟨q, _⟩ | ⟨q, _⟩
        · exact .inl (by rw [e5, q])
        · exact .inr ⟨i, by omega, by omega, by rw [e5, q]⟩
      · exact .inr ⟨j, by omega, h2, h3⟩
theorem law_loop {a b c d e f g : Int} (h : IsCosts a b c d e f g) (x y z : Bool) (M : Int) (hM : M ≤ 70) (hle : ∀ j : Nat, j < 33 → opc a b c f j ≤ M) : ∀ (n i k : Nat) (met : Bool), i + n = 33 → 2 * n + 30 < k →
    (met = true ∨ ∃ j : Nat, i ≤ j ∧ j < 33 ∧ opc a b c f j = M) → laws_FnWorst.l0 k (M + 2 * (d + e + g) + f) met i a b c d e f g x y z = some true := by
  have hc := h
  unfold IsCosts at hc
  intro n
  induction n with
  | zero =>
    intro i k met hi hk hm
    obtain ⟨k, rfl⟩ : ∃ m, k = m + 1 := ⟨k - 1, by omega⟩
    obtain ⟨s, e1, _, _, _, e2⟩ := acc_val h k (by omega) true true false
    simp only [laws_FnWorst.l0]
    have hmet : met = true := by
      rcases hm with hm | ⟨j, h1, h2, _⟩
      · exact hm
      · omega
    rw [if_neg (by omega), if_pos hmet, access_is h k _ _ _ s e1, e2 ⟨rfl, rfl, rfl⟩]
    rfl
  | succ n ih =>
    intro i k met hi hk hm
    obtain ⟨k, rfl⟩ : ∃ m, k = m + 2 := ⟨k - 2, by omega⟩
    have hr := opc_range h (i : Int)
    have hl := hle i (by omega)
    obtain ⟨s, e1, e2, _, e3, _⟩ := acc_val h (k + 1) (by omega) x y z
    obtain ⟨s2, q1, _, q2, _⟩ := acc_val h k (by omega) false false true
    simp only [laws_FnWorst.l0]
    rw [if_pos (by omega), opcost_is h i (by omega) (k + 1) (by omega), access_is h (k + 1) _ _ _ s e1, worst_is h (k + 1) (by omega)]
    simp only [Option.bind_some]
    rw [w64 (n := opc a b c f i + s) (by omega) (by omega), w64 (n := opc a b c f i + s + (d + e + g)) (by omega) (by omega), w64 (n := opc a b c f i + s + (d + e + g) + f) (by omega) (by omega)]
    rw [if_neg (by omega)]
    have hd : decide (opc a b c f i < 1) = false := decide_eq_false (by omega)
    rw [hd]
    simp only [laws_FnWorst.j1]
    rw [if_neg (by simp), opcost_is h i (by omega) k (by omega), access_is h k _ _ _ s2 q1, q2 ⟨rfl, rfl, rfl⟩]
    simp only [Option.bind_some]
    rw [w64 (n := 2 * (d + e + g)) (by omega) (by omega), w64 (n := opc a b c f i + 2 * (d + e + g)) (by omega) (by omega), w64 (n := opc a b c f i + 2 * (d + e + g) + f) (by omega) (by omega), w64 (n := (i : Int) + 1) (by omega) (by omega)]
    by_cases he : opc a b c f i + 2 * (d + e + g) + f = M + 2 * (d + e + g) + f
    · rw [if_pos he]
      exact ih (i + 1) k true (by omega) (by omega) (.inl rfl)
    · rw [if_neg he]
      refine ih (i + 1) k met (by omega) (by omega) ?_
      rcases hm with hm | ⟨j, h1, h2, h3⟩
      · exact .inl hm
      · refine .inr ⟨j, ?_, h2, h3⟩
        by_cases ej : j = i
        · subst ej; omega
        · omega
theorem costs_drawn (b : List Int) (hb : b.length ≤ 4611686018427387904) (i h : Int) (hi : 0 ≤ i) : ∃ q1 q2 q3 q4 q5 q6 q7 i' h', spec_l04Costs.f b i h = some (q1, q2, q3, q4, q5, q6, q7, i', h') ∧ 0 ≤ i' := by
  obtain ⟨r1, i1, h1, e1, _, _, _, d1⟩ := below_is b hb i h 3 hi
  obtain ⟨r2, i2, h2, e2, _, _, _, d2⟩ := below_is b hb i1 h1 6 d1
  obtain ⟨r3, i3, h3, e3, _, _, _, d3⟩ := below_is b hb i2 h2 4 d2
  obtain ⟨r4, i4, h4, e4, _, _, _, d4⟩ := below_is b hb i3 h3 8 d3
  obtain ⟨r5, i5, h5, e5, _, _, _, d5⟩ := below_is b hb i4 h4 6 d4
  obtain ⟨r6, i6, h6, e6, _, _, _, d6⟩ := below_is b hb i5 h5 6 d5
  obtain ⟨r7, i7, h7, e7, _, _, _, d7⟩ := below_is b hb i6 h6 5 d6
  obtain ⟨r8, i8, h8, e8, d8⟩ := once_is b hb i7 h7 12 d7
  unfold spec_l04Costs.f
  simp only [e1, e2, e3, e4, e5, e6, e7, e8, Option.bind_some]
  cases r8 with
  | true => exact ⟨_, _, _, _, _, _, _, _, _, rfl, d8⟩
  | false => exact ⟨_, _, _, _, _, _, _, _, _, rfl, d8⟩
theorem any_drawn (b : List Int) (hb : b.length ≤ 4611686018427387904) (i h : Int) (hi : 0 ≤ i) : ∃ q1 q2 q3 q4 q5 q6 q7 i' h', spec_l04Any.f b i h = some (q1, q2, q3, q4, q5, q6, q7, i', h') ∧ 0 ≤ i' := by
  obtain ⟨q1, q2, q3, q4, q5, q6, q7, i1, h1, e1, d1⟩ := costs_drawn b hb i h hi
  obtain ⟨r2, i2, h2, e2, _, _, _, d2⟩ := below_is b hb i1 h1 24 d1
  obtain ⟨p1, j1, g1, f1, _, c1⟩ := pick_is b hb i2 h2 [0, 21, (-1)] (by decide) d2
  obtain ⟨p2, j2, g2, f2, _, c2⟩ := pick_is b hb i2 h2 [(-1), 51] (by decide) d2
  unfold spec_l04Any.f
  simp only [e1, e2, f1, f2, Option.bind_some]
  repeat' split
  all_goals exact ⟨_, _, _, _, _, _, _, _, _, rfl, by assumption⟩
theorem FnWorst : laws_FnWorst.Pure := by
  intro code _ hl _
  obtain ⟨k, hk⟩ : ∃ k : Nat, code.length + 200 < k := ⟨code.length + 201, by omega⟩
  refine ⟨k, ?_⟩
  unfold laws_FnWorst.f laws_big.f
  simp only [Option.bind_some]
  by_cases hbig : (code.length : Int) > 1048576
  · rw [if_pos (by simpa using hbig)]
  · rw [if_neg (by simpa using hbig)]
    have hb : code.length ≤ 4611686018427387904 := by omega
    obtain ⟨h0, e0⟩ := drawn code hb k (by omega)
    obtain ⟨a, b, c, d, e, f, g, i1, h1, e1, d1⟩ := any_drawn code hb 0 h0 (by omega)
    obtain ⟨x, i2, h2, e2, d2⟩ := once_is code hb i1 h1 2 d1
    obtain ⟨y, i3, h3, e3, d3⟩ := once_is code hb i2 h2 2 d2
    obtain ⟨z, i4, h4, e4, d4⟩ := once_is code hb i3 h3 2 d3
    have hd : spec_DrawAccessCost.f k code = some (a, b, c, d, e, f, g, x, y, z) := by
      unfold spec_DrawAccessCost.f
      simp only [e0, e1, e2, e3, e4, Option.bind_some]
    rw [hd]
    simp only [Option.bind_some, spec_costs]
    unfold impl_WorstStep.f
    simp only [impl_costs, Option.bind_some]
    by_cases h : IsCosts a b c d e f g
    · simp only [decide_eq_true h, if_true]
      obtain ⟨M, m1, m2, m3, m4, m5⟩ := step_loop h 33 0 k 0 (by omega) (by omega) (by omega) (by omega)
      have m1' : impl_WorstStep.l0 k 0 0 a b c d e f g = some (M + 2 * (d + e + g) + f) := m1
      rw [m1']
      simp only [Option.bind_some]
      refine law_loop h x y z M m3 (fun j hj => m4 j (by omega) hj) 33 0 k false (by omega) (by omega) (.inr ?_)
      rcases m5 with m5 | m5
      · have h0 := opc_range h ((0 : Nat) : Int)
        have := m4 0 (by omega) (by omega)
        omega
      · exact m5
    · unfold impl_WorstAccess.f
      simp only [decide_eq_false h, impl_costs, Option.bind_some]
      simp

end Go.Proofs.Ytboginbepgopeaa.Pure

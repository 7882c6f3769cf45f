/- impl.WorstStep answers what the reference's WorstStep answers, for every Costs. No condition. -/
import Derived.Test.YtboginbepgopeaaCostsFnExactWorstStep
namespace Go.Proofs.Ytboginbepgopeaa.Pure
open Go.RowKit Go.Proofs.Ytboginbepgopeaa.PFnExactWorstStep Go.Proofs.YtboginbepgopeaaW.PrintWords Go.Proofs.YtboginbepgopeaaW.PrintLast Go.Proofs.Ytboginbepgopeaa.Lem

theorem impl_within_eq (n a b : Int) : impl_within.f n a b = some (decide (a ≤ n ∧ n ≤ b)) := by
  unfold impl_within.f
  by_cases h : n ≥ a
  · rw [if_pos h]; congr 1; simp; omega
  · rw [if_neg h]; congr 1; simp; omega
theorem spec_acc {a b c d e f g : Int} (h : IsCosts a b c d e f g) (k : Nat) (hk : 0 < k) (x y z : Bool) : ∃ s, spec_AccessCost.f k a b c d e f g x y z = some s ∧ s ≤ d + e + g ∧ ((x = false ∧ y = false ∧ z = true) → s = d + e + g) ∧ 0 ≤ s := by
  obtain ⟨k, rfl⟩ : ∃ m, k = m + 1 := ⟨k - 1, by omega⟩
  have hc := h
  unfold IsCosts at hc
  unfold spec_AccessCost.f
  rw [spec_costs]
  simp only [Option.bind_some, decide_eq_true h, if_true, spec_AccessCost.j0]
  have e2 : wrap64 (d + e) = d + e := w64 (by omega) (by omega)
  have e4 : wrap64 (d + e + g) = d + e + g := w64 (by omega) (by omega)
  have e5 : wrap64 (e + g) = e + g := w64 (by omega) (by omega)
  have e6 : wrap64 (d + g) = d + g := w64 (by omega) (by omega)
  have f1 : wrap64 d = d := w64 (by omega) (by omega)
  have f2 : wrap64 e = e := w64 (by omega) (by omega)
  have f3 : wrap64 g = g := w64 (by omega) (by omega)
  cases x <;> cases y <;> cases z <;> simp [e2, e4, e5, e6, f1, f2, f3] <;> omega
theorem impl_acc {a b c d e f g : Int} (h : IsCosts a b c d e f g) (k : Nat) (hk : 0 < k) : impl_accessCost.f k a b c d e f g false false true = some (d + e + g) := by
  obtain ⟨k, rfl⟩ : ∃ m, k = m + 1 := ⟨k - 1, by omega⟩
  have hc := h
  unfold IsCosts at hc
  have e1 : wrap64 d = d := w64 (by omega) (by omega)
  have e2 : wrap64 (d + e) = d + e := w64 (by omega) (by omega)
  have e4 : wrap64 (d + e + g) = d + e + g := w64 (by omega) (by omega)
  simp [impl_accessCost.f, impl_accessCost.j0, e1, e2, e4]
theorem four : (Int.tmod 4 2 == 1) = false ∧ (Int.tmod (wrap64 (Int.tdiv 4 2)) 2 == 1) = false ∧ (wrap64 (Int.tdiv 4 4) == 1) = true := by decide +kernel
theorem worst_loop {a b c d e f g : Int} (h : IsCosts a b c d e f g) : ∀ (n i k : Nat) (m : Int), i + n = 8 → n + 1 < k → m ≤ d + e + g → (i ≤ 4 ∨ m = d + e + g) → spec_WorstAccess.l0 k m i a b c d e f g = some (d + e + g) := by
  intro n
  induction n with
  | zero =>
    intro i k m hi hk hm hd
    obtain ⟨k, rfl⟩ : ∃ m, k = m + 1 := ⟨k - 1, by omega⟩
    obtain rfl : m = d + e + g := by omega
    simp only [spec_WorstAccess.l0]; rw [if_neg (by omega)]
  | succ n ih =>
    intro i k m hi hk hm hd
    obtain ⟨k, rfl⟩ : ∃ m, k = m + 1 := ⟨k - 1, by omega⟩
    simp only [spec_WorstAccess.l0]
    rw [if_pos (by omega)]
    obtain ⟨s, e1, e2, e3, e4⟩ := spec_acc h k (by omega) (Int.tmod (i : Int) 2 == 1) (Int.tmod (wrap64 (Int.tdiv (i : Int) 2)) 2 == 1) (wrap64 (Int.tdiv (i : Int) 4) == 1)
    have h4 : i = 4 → s = d + e + g := by
      intro hi4; subst hi4; exact e3 four
    rw [e1, Option.bind_some, w64 (by omega) (by omega)]
    by_cases hs : s > m
    · rw [if_pos hs]; exact ih (i + 1) k s (by omega) (by omega) (by omega) (by omega)
    · rw [if_neg hs]; exact ih (i + 1) k m (by omega) (by omega) (by omega) (by omega)
theorem spec_worst {a b c d e f g : Int} (h : IsCosts a b c d e f g) (k : Nat) (hk : 20 < k) : spec_WorstAccess.f k a b c d e f g = some (d + e + g) := by
  have hc := h
  unfold IsCosts at hc
  unfold spec_WorstAccess.f
  exact worst_loop h 8 0 k (-1) (by omega) (by omega) (by omega) (by omega)
theorem worst_loop_no {a b c d e f g : Int} (h : ¬ IsCosts a b c d e f g) : ∀ (n i k : Nat), i + n = 8 → n < k → spec_WorstAccess.l0 k (-1) i a b c d e f g = some (-1) := by
  intro n
  induction n with
  | zero =>
    intro i k hi hk
    obtain ⟨k, rfl⟩ : ∃ m, k = m + 1 := ⟨k - 1, by omega⟩
    simp only [spec_WorstAccess.l0]; rw [if_neg (by omega)]
  | succ n ih =>
    intro i k hi hk
    obtain ⟨k, rfl⟩ : ∃ m, k = m + 1 := ⟨k - 1, by omega⟩
    simp only [spec_WorstAccess.l0]
    have e1 : ∀ x y z, spec_AccessCost.f k a b c d e f g x y z = some (-1) := by
      intro x y z
      unfold spec_AccessCost.f
      rw [spec_costs, decide_eq_false h]; rfl
    rw [if_pos (by omega), e1, Option.bind_some, if_neg (by omega), w64 (by omega) (by omega)]
    exact ih (i + 1) k (by omega) (by omega)
theorem spec_worst_no {a b c d e f g : Int} (h : ¬ IsCosts a b c d e f g) (k : Nat) (hk : 20 < k) : spec_WorstAccess.f k a b c d e f g = some (-1) := by
  unfold spec_WorstAccess.f
  exact worst_loop_no h 8 0 k (by omega) (by omega)
/-- What an op costs. -/
def opc (a b c f op : Int) : Int := if op = 9 ∨ op = 10 then a + b else if 15 ≤ op ∧ op ≤ 18 then a + c else if op ≥ 25 then a + f else a
theorem opc_range {a b c d e f g : Int} (h : IsCosts a b c d e f g) (op : Int) : 1 ≤ opc a b c f op ∧ opc a b c f op ≤ 70 := by
  unfold IsCosts at h
  unfold opc
  repeat' split
  all_goals omega
theorem impl_opc {a b c d e f g : Int} (h : IsCosts a b c d e f g) (op : Int) (k : Nat) (hk : 0 < k) : impl_opCost.f k a b c d e f g op = some (opc a b c f op) := by
  obtain ⟨k, rfl⟩ : ∃ m, k = m + 1 := ⟨k - 1, by omega⟩
  have hc := h
  unfold IsCosts at hc
  have e1 : wrap64 (a + b) = a + b := w64 (by omega) (by omega)
  have e2 : wrap64 (a + c) = a + c := w64 (by omega) (by omega)
  have e3 : wrap64 (a + f) = a + f := w64 (by omega) (by omega)
  unfold impl_opCost.f
  simp only [impl_opCost.j0, impl_within_eq, Option.bind_some, e1, e2, e3]
  unfold opc
  by_cases h9 : op = 9
  · subst h9; simp
  · by_cases h10 : op = 10
    · subst h10; simp
    · have hb : (op == 10) = false := by simpa using h10
      rw [if_neg h9, hb, if_neg (by simp), if_neg (show ¬ (op = 9 ∨ op = 10) by omega)]
      by_cases hm : 15 ≤ op ∧ op ≤ 18
      · rw [if_pos (by simpa using hm), if_pos hm]
      · rw [if_neg (by simpa using hm), if_neg hm]
        by_cases ht : op ≥ 25
        · rw [if_pos ht, if_pos ht]
        · rw [if_neg ht, if_neg ht]
theorem form_ok : ∀ n : Fin 33, (match spec_FormOf.f (n.val : Int) with | some r => decide (0 ≤ r) | none => false) = true := by decide +kernel
theorem spec_opc {a b c d e f g : Int} (h : IsCosts a b c d e f g) (op : Nat) (hop : op < 33) (k : Nat) (hk : 2 < k) : spec_OpCost.f k a b c d e f g op = some (opc a b c f op) := by
  obtain ⟨k, rfl⟩ : ∃ m, k = m + 2 := ⟨k - 2, by omega⟩
  have hc := h
  unfold IsCosts at hc
  have e1 : wrap64 (a + b) = a + b := w64 (by omega) (by omega)
  have e2 : wrap64 (a + c) = a + c := w64 (by omega) (by omega)
  have e3 : wrap64 (a + f) = a + f := w64 (by omega) (by omega)
  have hf := form_ok ⟨op, hop⟩
  unfold spec_OpCost.f
  rw [spec_costs, decide_eq_true h]
  cases e : spec_FormOf.f (op : Int) with
  | none => simp only [e] at hf; cases hf
  | some r =>
    simp only [e, decide_eq_true_eq] at hf
    have hr : decide (r < 0) = false := decide_eq_false (by omega)
    simp only [Option.bind_some, if_true, hr, spec_OpCost.j0, spec_OpCost.j1, costs_in, e1, e2, e3]
    rw [if_neg (by simp)]
    unfold opc
    by_cases h9 : (op : Int) = 9
    · rw [if_pos h9, if_pos (show (op : Int) = 9 ∨ (op : Int) = 10 by omega)]
    · by_cases h10 : (op : Int) = 10
      · have hb : ((op : Int) == 10) = true := by simpa using h10
        rw [if_neg h9, hb, if_pos rfl, if_pos (show (op : Int) = 9 ∨ (op : Int) = 10 by omega)]
      · have hb : ((op : Int) == 10) = false := by simpa using h10
        rw [if_neg h9, hb, if_neg (by simp), if_neg (show ¬ ((op : Int) = 9 ∨ (op : Int) = 10) by omega)]
        by_cases hm : 15 ≤ (op : Int) ∧ (op : Int) ≤ 18
        · rw [if_pos (by simpa using hm), if_pos hm]
        · rw [if_neg (by simpa using hm), if_neg hm]
          by_cases ht : (op : Int) ≥ 25
          · rw [if_pos ht, if_pos ht]
          · rw [if_neg ht, if_neg ht]
theorem loops {a b c d e f g : Int} (h : IsCosts a b c d e f g) : ∀ (n i k : Nat) (m : Int), i + n = 33 → n + 30 < k → ∃ r, spec_WorstStep.l0 k m i a b c d e f g = some r ∧ impl_WorstStep.l0 k m i a b c d e f g = some r := by
  intro n
  induction n with
  | zero =>
    intro i k m hi hk
    obtain ⟨k, rfl⟩ : ∃ m, k = m + 1 := ⟨k - 1, by omega⟩
    simp only [spec_WorstStep.l0, impl_WorstStep.l0]
    rw [if_neg (by omega), if_neg (by omega), spec_worst h k (by omega), impl_acc h k (by omega)]
    exact ⟨_, rfl, rfl⟩
  | succ n ih =>
    intro i k m hi hk
    obtain ⟨k, rfl⟩ : ∃ m, k = m + 1 := ⟨k - 1, by omega⟩
    simp only [spec_WorstStep.l0, impl_WorstStep.l0]
    rw [if_pos (by omega), if_pos (by omega), spec_opc h i (by omega) k (by omega), impl_opc h i k (by omega)]
    simp only [Option.bind_some]
    rw [w64 (n := (i : Int) + 1) (by omega) (by omega)]
    by_cases hs : opc a b c f i > m
    · rw [if_pos hs]
      have : mx m (opc a b c f i) = opc a b c f i := by unfold mx; rw [if_pos (by omega)]
      rw [this]
      exact ih (i + 1) k _ (by omega) (by omega)
    · rw [if_neg hs]
      have : mx m (opc a b c f i) = m := by unfold mx; rw [if_neg (by omega)]
      rw [this]
      exact ih (i + 1) k _ (by omega) (by omega)
theorem FnExactWorstStep : ∀ (a b c d e f g : Int), (Lit.int .i64 a).wf = true → (Lit.int .i64 b).wf = true → (Lit.int .i64 c).wf = true → (Lit.int .i64 d).wf = true → (Lit.int .i64 e).wf = true → (Lit.int .i64 f).wf = true → (Lit.int .i64 g).wf = true → ∃ k, laws_FnExactWorstStep.f k a b c d e f g = some true := by
  intro a b c d e f g _ _ _ _ _ _ _
  obtain ⟨k, hk⟩ : ∃ k : Nat, 100 < k := ⟨101, by omega⟩
  refine ⟨k, ?_⟩
  unfold laws_FnExactWorstStep.f laws_toCosts.f spec_WorstStep.f impl_WorstStep.f
  simp only [Option.bind_some, spec_costs, impl_costs]
  by_cases h : IsCosts a b c d e f g
  · obtain ⟨r, h1, h2⟩ := loops h 33 0 k 0 (by omega) (by omega)
    have h1' : spec_WorstStep.l0 k 0 0 a b c d e f g = some r := h1
    have h2' : impl_WorstStep.l0 k 0 0 a b c d e f g = some r := h2
    rw [decide_eq_true h, if_pos rfl, if_pos rfl, h1', h2']
    simp
  · rw [decide_eq_false h]
    simp

end Go.Proofs.Ytboginbepgopeaa.Pure

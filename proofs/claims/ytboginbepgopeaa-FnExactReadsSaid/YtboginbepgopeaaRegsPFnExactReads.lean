/- Registers ascending, without 0: what the reference's set and the program's registers give for one and two registers; over the print of the law FnExactReads. -/
import Derived.Test.YtboginbepgopeaaInstrFnExactReads
namespace Go.Proofs.Ytboginbepgopeaa.PFnExactReads
open Go.RowKit Go.Proofs.YtboginbepgopeaaW.PrintWords Go.Proofs.YtboginbepgopeaaW.PrintLast Go.Proofs.Ytboginbepgopeaa.Lem

def R1 (a : Int) : List Int := if a = 0 then [] else [a]
def R2 (a b : Int) : List Int := if a = 0 then R1 b else if b = 0 then [a] else if a = b then [a] else if a < b then [a, b] else [b, a]
theorem comp0 : Lib.compact ([] : List Int) = [] := rfl
theorem comp1 (x : Int) : Lib.compact [x] = [x] := by
  refine Lib.compact_all [x] fun j hj => Lib.keeps_lt_one _ j (by simpa using hj)
theorem comp2 (x y : Int) : Lib.compact [x, y] = if x = y then [x] else [x, y] := by
  unfold Lib.compact
  rw [show ([x, y] : List Int).length = 1 + 1 from rfl, Lib.compactUpTo_succ, show Lib.compactUpTo (α := Int) ([x, y].toArray) 1 = [x] from by
    rw [show (1 : Nat) = 0 + 1 from rfl, Lib.compactUpTo_succ]; simp [Lib.compactUpTo, Lib.keeps]]
  by_cases h : x = y
  · subst h; simp [Lib.keeps]
  · simp [Lib.keeps, h]; omega
theorem sort2 (x y : Int) : ([x, y] : List Int).mergeSort (fun a b => decide (a ≤ b)) = if x ≤ y then [x, y] else [y, x] := by
  by_cases h : x ≤ y
  · simp [List.mergeSort, List.MergeSort.Internal.splitInTwo, h]
  · simp [List.mergeSort, List.MergeSort.Internal.splitInTwo, h]
theorem regs1 (a : Int) : impl_registers.f [a] = some (R1 a) := by
  unfold impl_registers.f R1
  by_cases h : a = 0
  · simp [h, comp0]
  · simp [h, comp1]
theorem regs2 (a b : Int) : impl_registers.f [a, b] = some (R2 a b) := by
  unfold impl_registers.f R2 R1
  by_cases h : a = 0
  · by_cases h2 : b = 0
    · simp [h, h2, comp0]
    · simp [h, h2, comp1]
  · by_cases h2 : b = 0
    · simp [h, h2, comp1]
    · have hf : ([a, b].filter fun x => !(x == 0)) = [a, b] := by simp [h, h2]
      rw [hf, sort2, if_neg h, if_neg h2]
      by_cases e : a = b
      · subst e; simp [comp2]
      · rw [if_neg e]
        by_cases l : a < b
        · rw [if_pos l, if_pos (by omega), comp2, if_neg e]
        · rw [if_neg l, if_neg (by omega), comp2, if_neg (Ne.symm e)]
theorem set1_small : ∀ a : Fin 16, spec_l02Set.f 90 [(a.val : Int)] = some (R1 a.val) := by decide +kernel
theorem set2_small : ∀ a b : Fin 16, spec_l02Set.f 90 [(a.val : Int), (b.val : Int)] = some (R2 a.val b.val) := by decide +kernel
theorem set_more (l : List Int) (r : List Int) (d : Nat) (h : spec_l02Set.f 90 l = some r) : spec_l02Set.f (90 + d) l = some r := by
  induction d with
  | zero => exact h
  | succ d ih => exact spec_l02Set.mono l (90 + d) r ih
theorem set1 (a : Int) (h : 0 ≤ a ∧ a ≤ 15) (d : Nat) : spec_l02Set.f (90 + d) [a] = some (R1 a) := by
  obtain ⟨n, rfl⟩ := Int.eq_ofNat_of_zero_le h.1
  exact set_more _ _ d (set1_small ⟨n, by omega⟩)
theorem set2 (a b : Int) (h : 0 ≤ a ∧ a ≤ 15) (h2 : 0 ≤ b ∧ b ≤ 15) (d : Nat) : spec_l02Set.f (90 + d) [a, b] = some (R2 a b) := by
  obtain ⟨n, rfl⟩ := Int.eq_ofNat_of_zero_le h.1
  obtain ⟨m, rfl⟩ := Int.eq_ofNat_of_zero_le h2.1
  exact set_more _ _ d (set2_small ⟨n, by omega⟩ ⟨m, by omega⟩)
theorem R1_len (x : Int) : (R1 x).length ≤ 2 := by unfold R1; split <;> simp
theorem R2_len (x y : Int) : (R2 x y).length ≤ 2 := by
  unfold R2
  split
  · exact R1_len _
  · split
    · simp
    · split
      · simp
      · split <;> simp
theorem fld_in (form bit x : Int) (h : impl_isInstr.fld form bit x 0 15 = true) : 0 ≤ x ∧ x ≤ 15 := by
  unfold impl_isInstr.fld at h
  split at h
  · simpa using h
  · have : x = 0 := by simpa using h
    omega
theorem ok_in (op a b c e : Int) (h : impl_isInstr.ok op a b c e = true) : (0 ≤ op ∧ op ≤ 32) ∧ (0 ≤ a ∧ a ≤ 15) ∧ (0 ≤ b ∧ b ≤ 15) ∧ (0 ≤ c ∧ c ≤ 15) := by
  unfold impl_isInstr.ok at h
  simp only [Bool.and_eq_true] at h
  obtain ⟨⟨⟨⟨h1, h2⟩, h3⟩, h4⟩, _⟩ := h
  exact ⟨by simpa using h1, fld_in _ _ _ h2, fld_in _ _ _ h3, fld_in _ _ _ h4⟩
theorem op_cases (op : Int) (h : 0 ≤ op ∧ op ≤ 32) : op = 0 ∨ op = 1 ∨ op = 2 ∨ op = 3 ∨ op = 4 ∨ op = 5 ∨ op = 6 ∨ op = 7 ∨ op = 8 ∨ op = 9 ∨ op = 10 ∨ op = 11 ∨ op = 12 ∨ op = 13 ∨ op = 14 ∨ op = 15 ∨ op = 16 ∨ op = 17 ∨ op = 18 ∨ op = 19 ∨ op = 20 ∨ op = 21 ∨ op = 22 ∨ op = 23 ∨ op = 24 ∨ op = 25 ∨ op = 26 ∨ op = 27 ∨ op = 28 ∨ op = 29 ∨ op = 30 ∨ op = 31 ∨ op = 32 := by omega

end Go.Proofs.Ytboginbepgopeaa.PFnExactReads

/- What InstrOk asks, in the reference and in the program, over the print of the law FnAssemble. -/
import Derived.Test.YtaophlekfepkgaaGreatDoorPFnAssemblex
import Derived.Test.YtaophlekfepkgaaGreatDoorLemA
namespace Go.Proofs.YtaophlekfepkgaaGreatDoor.PFnAssemble
open Go.RowKit Go.Proofs.YtaophlekfepkgaaGreatDoorW.PrintWords Go.Proofs.YtaophlekfepkgaaGreatDoorW.PrintLast Go.Proofs.YtaophlekfepkgaaGreatDoor.Lem

theorem instr_in (n a b : Int) : spec_l01In.f n a b = some (decide (a ≤ n ∧ n ≤ b)) := by
  unfold spec_l01In.f
  by_cases h : n ≥ a
  · rw [if_pos h]; congr 1; simp; omega
  · rw [if_neg h]; congr 1; simp; omega
theorem spec_form_small : ∀ n : Fin 33, spec_FormOf.f (n.val : Int) = some (impl_isInstr.form (n.val : Int)) := by decide +kernel
theorem spec_form (op : Int) : spec_FormOf.f op = some (impl_isInstr.form op) := by
  by_cases h : 0 ≤ op ∧ op ≤ 32
  · obtain ⟨n, rfl⟩ := Int.eq_ofNat_of_zero_le h.1
    exact spec_form_small ⟨n, by omega⟩
  · have e2 : impl_isInstr.form op = -1 := by
      unfold impl_isInstr.form
      by_cases h1 : op < 0
      · rw [if_pos h1]
      · rw [if_neg h1, if_pos (by omega)]
    unfold spec_FormOf.f
    rw [instr_in, decide_eq_false h, e2]; rfl
theorem form_range (op : Int) : impl_isInstr.form op < 0 ↔ ¬ (0 ≤ op ∧ op ≤ 32) := by
  by_cases h : 0 ≤ op ∧ op ≤ 32
  · have := impl_isInstr.forms op h
    constructor
    · intro h2; omega
    · intro h2; exact absurd h h2
  · have e2 : impl_isInstr.form op = -1 := by
      unfold impl_isInstr.form
      by_cases h1 : op < 0
      · rw [if_pos h1]
      · rw [if_neg h1, if_pos (by omega)]
    rw [e2]; simp only [h, not_false_eq_true, iff_true]; omega
theorem spec_field (form bit x lo hi : Int) (hb : bit = 1 ∨ bit = 2 ∨ bit = 4 ∨ bit = 8) (hf : 0 ≤ form) (hf2 : form ≤ 11) : spec_l02Field.f form bit x lo hi = some (impl_isInstr.fld form bit x lo hi) := by
  unfold spec_l02Field.f impl_isInstr.fld
  have hd : Int.tmod (wrap64 (Int.tdiv form bit)) 2 = form / bit % 2 := by
    rw [tdiv_pos hf]
    rcases hb with rfl | rfl | rfl | rfl <;> (rw [w64 (by omega) (by omega), tmod_pos (by omega)])
  rw [if_neg (by omega), hd]
  by_cases h : form / bit % 2 = 1
  · rw [if_neg (by omega), if_pos h, instr_in]; rfl
  · rw [if_pos (by omega), if_neg h]
    congr 1
theorem spec_instr (a b c d e : Int) : spec_InstrOk.f a b c d e = some (impl_isInstr.ok a b c d e) := by
  unfold spec_InstrOk.f impl_isInstr.ok
  rw [spec_form]
  simp only [Option.bind_some]
  by_cases h : 0 ≤ a ∧ a ≤ 32
  · have hf := impl_isInstr.forms a h
    have f0 : 0 ≤ impl_isInstr.form a := by omega
    have f1 : impl_isInstr.form a ≤ 11 := by omega
    rw [if_pos f0, spec_field _ _ _ _ _ (by omega) f0 f1, spec_field _ _ _ _ _ (by omega) f0 f1, spec_field _ _ _ _ _ (by omega) f0 f1, spec_field _ _ _ _ _ (by omega) f0 f1]
    simp only [Option.bind_some, decide_eq_true h, Bool.true_and]
    cases impl_isInstr.fld (impl_isInstr.form a) 1 b 0 15 <;> cases impl_isInstr.fld (impl_isInstr.form a) 2 c 0 15 <;> cases impl_isInstr.fld (impl_isInstr.form a) 4 d 0 15 <;> simp
  · have := (form_range a).2 h
    rw [if_neg (by omega), decide_eq_false h]
    simp
/-- The fields of an instruction that is ok lie in their ranges. -/
theorem ok_ranges {a b c d e : Int} (h : impl_isInstr.ok a b c d e = true) : (0 ≤ a ∧ a ≤ 32) ∧ (0 ≤ b ∧ b ≤ 15) ∧ (0 ≤ c ∧ c ≤ 15) ∧ (0 ≤ d ∧ d ≤ 15) ∧ (-8192 ≤ e ∧ e ≤ 8191) := by
  have fl : ∀ {form bit x lo hi : Int}, impl_isInstr.fld form bit x lo hi = true → lo ≤ 0 → 0 ≤ hi → lo ≤ x ∧ x ≤ hi := by
    intro form bit x lo hi h h1 h2
    unfold impl_isInstr.fld at h
    split at h
    · simpa using h
    · have : x = 0 := by simpa using h
      omega
  unfold impl_isInstr.ok at h
  simp only [Bool.and_eq_true, decide_eq_true_eq] at h
  obtain ⟨⟨⟨⟨h0, h1⟩, h2⟩, h3⟩, h4⟩ := h
  exact ⟨h0, fl h1 (by omega) (by omega), fl h2 (by omega) (by omega), fl h3 (by omega) (by omega), fl h4 (by omega) (by omega)⟩

end Go.Proofs.YtaophlekfepkgaaGreatDoor.PFnAssemble

/- impl.Reads returns what the reference's Reads returns, for every instruction, in memory of its own. No condition. -/
import Derived.Test.YtboginbepgopeaaRegsPFnExactReads
namespace Go.Proofs.Ytboginbepgopeaa.Pure
open Go.RowKit Go.Proofs.Ytboginbepgopeaa.PFnExactReads Go.Proofs.YtboginbepgopeaaW.PrintWords Go.Proofs.YtboginbepgopeaaW.PrintLast Go.Proofs.Ytboginbepgopeaa.Lem

theorem eqInt_eq (l : List Int) (hl : l.length ≤ 140737488351232) (k : Nat) (hk : l.length < k) : laws_eqIntS.f k l l = some true := by
  unfold laws_eqIntS.f
  rw [if_pos rfl]
  have := scan_loop (fun k i => laws_eqIntS.l0 k l l i) true l.length (by omega)
    (fun k i hi => by simp only [laws_eqIntS.l0]; rw [if_pos (by omega), if_pos (by omega), if_pos (by omega), if_pos trivial])
    (fun k => by simp only [laws_eqIntS.l0]; rw [if_neg (by omega)]) l.length 0 k (by omega) hk
  simpa using this
/-- Marks are laid into the row, and found there. c: what is written for a count. -/
theorem markInt_is (l : List Int) (hl : l.length ≤ 140737488351232) (k : Nat) (hk : l.length < k) : ∃ out, laws_markIntS.f k l 1 = some (1 + (l.length : Int), out) ∧ laws_heldIntS.f k out 1 = some (1 + (l.length : Int)) := by
  obtain ⟨out, h1, h2, h3⟩ := mark_loop (fun c => c) l.length 1 (by omega) (by omega) (fun k x c i => laws_markIntS.l0 k x c i)
    (fun k x i c hx hi => by simp only [laws_markIntS.l0]; rw [if_pos (by omega), if_pos (by omega), Int.toNat_natCast])
    (fun k x c hx => by simp only [laws_markIntS.l0]; rw [if_neg (by omega)]) l.length 0 k l (by omega) hk rfl (fun j hj => absurd hj (by omega))
  refine ⟨out, ?_, ?_⟩
  · unfold laws_markIntS.f; simpa using h1
  · unfold laws_heldIntS.f
    have := held_loop l.length 1 (by omega) (by omega) (fun k c i => laws_heldIntS.l0 k out c i)
      (fun k i c hi hc => by
        simp only [laws_heldIntS.l0]
        have hr : rd out (i : Int) = (fun c => c) (1 + (i : Int)) := by
          have := h3 i hi
          rw [rd_at out i (by omega)]
          rw [List.getElem?_eq_getElem (by omega)] at this
          exact Option.some.inj this
        rw [if_pos (by omega), if_pos (by omega), if_pos (by rw [hr, hc])])
      (fun k c => by simp only [laws_heldIntS.l0]; rw [if_neg (by omega)]) l.length 0 k (by omega) hk
    simpa using this
theorem both (op a b c e : Int) : ∃ l : List Int, l.length ≤ 2 ∧ spec_Reads.f (90 + 2) op a b c e = some l ∧ impl_Reads.f (90 + 2) op a b c e = some l := by
  unfold spec_Reads.f impl_Reads.f
  rw [spec_instr]
  simp only [impl_isInstr.f, Option.bind_some]
  cases hok : impl_isInstr.ok op a b c e with
  | false => exact ⟨[], by simp, by simp, by simp⟩
  | true =>
    obtain ⟨ho, ha, hb, hc⟩ := ok_in op a b c e hok
    clear hok
    have r1 := R1_len
    have r2 := R2_len
    have s1a := set1 a ha 0
    have s1b := set1 b hb 1
    have s2a := set2 a b ha hb 0
    have s2b := set2 b c hb hc 2
    rcases op_cases op ho with rfl | rfl | rfl | rfl | rfl | rfl | rfl | rfl | rfl | rfl | rfl | rfl | rfl | rfl | rfl | rfl | rfl | rfl | rfl | rfl | rfl | rfl | rfl | rfl | rfl | rfl | rfl | rfl | rfl | rfl | rfl | rfl | rfl <;>
      simp [spec_Reads.j0, impl_Reads.j0, spec_Reads.j1, impl_Reads.j1, spec_l01In.f, impl_within.f, s1a, s1b, s2a, s2b, regs1, regs2, r1, r2]
theorem FnExactReads : ∀ (a0_0 : Int) (a0_1 : Int) (a0_2 : Int) (a0_3 : Int) (a0_4 : Int), (Lit.int .i64 a0_0).wf = true → (Lit.int .i64 a0_1).wf = true → (Lit.int .i64 a0_2).wf = true → (Lit.int .i64 a0_3).wf = true → (Lit.int .i64 a0_4).wf = true → ∃ k, laws_FnExactReads.f k a0_0 a0_1 a0_2 a0_3 a0_4 = some true := by
  intro op a b c e _ _ _ _ _
  obtain ⟨l, hl, h1, h2⟩ := both op a b c e
  obtain ⟨k, hk⟩ : ∃ k : Nat, k = 90 + 2 := ⟨_, rfl⟩
  rw [← hk] at h1 h2
  obtain ⟨out, hm, hh⟩ := markInt_is l (by omega) k (by omega)
  refine ⟨k, ?_⟩
  unfold laws_FnExactReads.f laws_toInstr.f
  simp only [Option.bind_some]
  rw [h1, h2]
  simp only [Option.bind_some]
  rw [eqInt_eq l (by omega) k (by omega)]
  simp only [Option.bind_some, if_true]
  rw [hm]
  simp only [Option.bind_some]
  rw [hh]
  simp only [Option.bind_some]
  rw [if_neg (by omega)]
  simp
  try omega

end Go.Proofs.Ytboginbepgopeaa.Pure

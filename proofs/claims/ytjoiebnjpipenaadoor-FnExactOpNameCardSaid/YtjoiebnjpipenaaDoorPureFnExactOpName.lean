/- impl.OpName returns what the reference's OpName returns, for every int. No condition. -/
import Derived.Test.YtjoiebnjpipenaaDoorPFnExactOpNamex
import Derived.Test.YtjoiebnjpipenaaDoorLem
namespace Go.Proofs.YtjoiebnjpipenaaDoor.Pure
open Go.RowKit Go.Proofs.YtjoiebnjpipenaaDoor.PFnExactOpName Go.Proofs.YtjoiebnjpipenaaDoorW.PrintWords Go.Proofs.YtjoiebnjpipenaaDoorW.PrintLast Go.Proofs.YtjoiebnjpipenaaDoor.Lem

theorem names_eq : spec_l02Names.f = some ((List.range 33).map Tab.nm) := by kernel_rfl
theorem names_at (n : Nat) (h : n < 33) : rdOf ByteArray.empty ((List.range 33).map Tab.nm) n = Tab.nm n := by
  unfold rdOf; rw [Int.toNat_natCast]; simp [List.getD, h]
theorem FnExactOpName : laws_FnExactOpName.Pure := by
  intro a _
  have e : spec_OpName.f a = some (if 0 ≤ a ∧ a ≤ 32 then Tab.nm a.toNat else ByteArray.empty) := by
    unfold spec_OpName.f spec_l01In.f
    by_cases h : 0 ≤ a ∧ a ≤ 32
    · rw [if_pos h, if_pos (by omega)]
      obtain ⟨n, rfl⟩ := Int.eq_ofNat_of_zero_le h.1
      simp only [Option.bind_some, decide_eq_true (show (n : Int) ≤ 32 from h.2), if_true, names_eq]
      rw [if_pos (by omega), if_pos (by simp; omega), names_at n (by omega), Int.toNat_natCast]
    · rw [if_neg h]
      by_cases h0 : a ≥ 0
      · rw [if_pos h0]
        simp only [Option.bind_some, decide_eq_false (show ¬ a ≤ 32 by omega), Bool.false_eq_true, if_false]
        rfl
      · rw [if_neg h0]
        simp only [Option.bind_some, Bool.false_eq_true, if_false]
        rfl
  unfold laws_FnExactOpName.f
  rw [e]
  simp [impl_OpName.f]

end Go.Proofs.YtjoiebnjpipenaaDoor.Pure

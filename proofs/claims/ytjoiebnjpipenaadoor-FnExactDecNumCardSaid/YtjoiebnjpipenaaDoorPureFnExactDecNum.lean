/- impl.DecNum returns what the reference's DecNum returns, for every string (of a string longer than 2^20 the statement asks nothing) and every int. No condition. -/
import Derived.Test.YtjoiebnjpipenaaDoorNumFnExactDecNum
namespace Go.Proofs.YtjoiebnjpipenaaDoor.Pure
open Go.RowKit Go.Proofs.YtjoiebnjpipenaaDoor.PFnExactDecNum Go.Proofs.YtjoiebnjpipenaaDoorW.PrintWords Go.Proofs.YtjoiebnjpipenaaDoorW.PrintLast Go.Proofs.YtjoiebnjpipenaaDoor.Lem

theorem FnExactDecNum : laws_FnExactDecNum.Pure := by
  intro s most hs hm
  have hr := i64_of hm
  have main : Evt (fun k => laws_FnExactDecNum.f k s most) true := by
    unfold laws_FnExactDecNum.f
    by_cases h0 : (s.size : Int) > 1048576
    · simp only [if_pos h0]; exact ev_of fun _ => rfl
    · simp only [if_neg h0]
      obtain ⟨r, r1, r2, _⟩ := num_both s most (by omega) hr
      refine ev_bind r1 (ev_of fun k => ?_)
      simp [r2]
  obtain ⟨K, hK⟩ := main
  exact ⟨K, hK K (Nat.le_refl K)⟩

end Go.Proofs.YtjoiebnjpipenaaDoor.Pure

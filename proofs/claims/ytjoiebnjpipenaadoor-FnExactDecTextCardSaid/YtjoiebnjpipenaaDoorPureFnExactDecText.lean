/- impl.DecText returns what the reference's DecText returns, for every int. No condition. -/
import Derived.Test.YtjoiebnjpipenaaDoorDecTextFnExactDecText
namespace Go.Proofs.YtjoiebnjpipenaaDoor.Pure
open Go.RowKit Go.Proofs.YtjoiebnjpipenaaDoor.PFnExactDecText Go.Proofs.YtjoiebnjpipenaaDoorW.PrintWords Go.Proofs.YtjoiebnjpipenaaDoorW.PrintLast Go.Proofs.YtjoiebnjpipenaaDoor.Lem

theorem FnExactDecText : laws_FnExactDecText.Pure := by
  intro a ha
  have hr := i64_of ha
  have main : Evt (fun k => laws_FnExactDecText.f k a) true := by
    unfold laws_FnExactDecText.f impl_DecText.f
    refine ev_bind (dec_is a hr.1 hr.2) ?_
    rw [itoa_is a hr.1 hr.2]
    exact ev_of fun _ => by simp
  obtain ⟨K, hK⟩ := main
  exact ⟨K, hK K (Nat.le_refl K)⟩

end Go.Proofs.YtjoiebnjpipenaaDoor.Pure

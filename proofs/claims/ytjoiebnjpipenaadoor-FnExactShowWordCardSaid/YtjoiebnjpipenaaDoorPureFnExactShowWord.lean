/- impl.ShowWord returns what the reference's ShowWord returns, for every word. No condition. -/
import Derived.Test.YtjoiebnjpipenaaDoorWordFnExactShowWord
namespace Go.Proofs.YtjoiebnjpipenaaDoor.Pure
open Go.RowKit Go.Proofs.YtjoiebnjpipenaaDoor.PFnExactShowWord Go.Proofs.YtjoiebnjpipenaaDoorW.PrintWords Go.Proofs.YtjoiebnjpipenaaDoorW.PrintLast Go.Proofs.YtjoiebnjpipenaaDoor.Lem

theorem FnExactShowWord : laws_FnExactShowWord.Pure := by
  intro w hw
  obtain ⟨h0, h1⟩ := u32_of hw
  have main : Evt (fun k => laws_FnExactShowWord.f k w) true := by
    unfold laws_FnExactShowWord.f impl_ShowWord.f
    refine ev_bind (word_spec w h0 h1) (ev_of fun _ => ?_)
    simp [word_impl w h0 h1]
  obtain ⟨K, hK⟩ := main
  exact ⟨K, hK K (Nat.le_refl K)⟩

end Go.Proofs.YtjoiebnjpipenaaDoor.Pure

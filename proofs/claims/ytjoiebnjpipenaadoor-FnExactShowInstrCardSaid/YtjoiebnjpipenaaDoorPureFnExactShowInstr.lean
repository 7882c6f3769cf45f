/- impl.ShowInstr returns what the reference's ShowInstr returns, for every Instr. No condition. -/
import Derived.Test.YtjoiebnjpipenaaDoorShowFnExactShowInstr
namespace Go.Proofs.YtjoiebnjpipenaaDoor.Pure
open Go.RowKit Go.Proofs.YtjoiebnjpipenaaDoor.PFnExactShowInstr Go.Proofs.YtjoiebnjpipenaaDoorW.PrintWords Go.Proofs.YtjoiebnjpipenaaDoorW.PrintLast Go.Proofs.YtjoiebnjpipenaaDoor.Lem

theorem FnExactShowInstr : ∀ (a b c d e : Int), (Lit.int .i64 a).wf = true → (Lit.int .i64 b).wf = true → (Lit.int .i64 c).wf = true → (Lit.int .i64 d).wf = true → (Lit.int .i64 e).wf = true → ∃ k, laws_FnExactShowInstr.f k a b c d e = some true := by
  intro a b c d e _ _ _ _ _
  have main : Evt (fun k => laws_FnExactShowInstr.f k a b c d e) true := by
    unfold laws_FnExactShowInstr.f laws_toInstr.f impl_ShowInstr.f impl_isInstr.f
    simp only [Option.bind_some]
    cases h : impl_isInstr.ok a b c d e with
    | true =>
      refine ev_bind (show_spec a b c d e h) (ev_of fun _ => ?_)
      simp [show_impl a b c d e h]
    | false =>
      refine ev_of fun k => ?_
      simp only [show_none a b c d e h k, Option.bind_some, Bool.false_eq_true, if_false]
      exact if_pos rfl
  obtain ⟨K, hK⟩ := main
  exact ⟨K, hK K (Nat.le_refl K)⟩

end Go.Proofs.YtjoiebnjpipenaaDoor.Pure

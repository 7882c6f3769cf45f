/- impl.AccessCost answers what the reference's AccessCost answers, for every Costs and Access. No condition. -/
import Derived.Test.YtkepakklhnhnkaaCostsFnExactAccessCost
namespace Go.Proofs.Ytkepakklhnhnkaa.Pure
open Go.RowKit Go.Proofs.Ytkepakklhnhnkaa.PFnExactAccessCost Go.Proofs.YtkepakklhnhnkaaW.PrintWords Go.Proofs.YtkepakklhnhnkaaW.PrintLast Go.Proofs.Ytkepakklhnhnkaa.Lem

theorem FnExactAccessCost : ∀ (a b c d e f g : Int) (x y z : Bool), (Lit.int .i64 a).wf = true → (Lit.int .i64 b).wf = true → (Lit.int .i64 c).wf = true → (Lit.int .i64 d).wf = true → (Lit.int .i64 e).wf = true → (Lit.int .i64 f).wf = true → (Lit.int .i64 g).wf = true → ∃ k, laws_FnExactAccessCost.f k a b c d e f g x y z = some true := by
  intro a b c d e f g x y z _ _ _ _ _ _ _
  refine ⟨1, ?_⟩
  unfold laws_FnExactAccessCost.f laws_toCosts.f laws_toAccess.f impl_AccessCost.f impl_accessCost.f spec_AccessCost.f
  simp only [Option.bind_some, spec_costs, impl_costs]
  by_cases h : IsCosts a b c d e f g
  · cases x <;> cases y <;> cases z <;> simp [h, spec_AccessCost.j0, impl_accessCost.j0]
  · simp [h]

end Go.Proofs.Ytkepakklhnhnkaa.Pure

/- impl.CostsOk answers what the reference's CostsOk answers, for every Costs. No condition. -/
import Derived.Test.YtiibkaencpcngaaCostsFnExactCostsOk
namespace Go.Proofs.Ytiibkaencpcngaa.Pure
open Go.RowKit Go.Proofs.Ytiibkaencpcngaa.PFnExactCostsOk Go.Proofs.YtiibkaencpcngaaW.PrintWords Go.Proofs.YtiibkaencpcngaaW.PrintLast Go.Proofs.Ytiibkaencpcngaa.Lem

theorem FnExactCostsOk : ∀ (a b c d e f g : Int), (Lit.int .i64 a).wf = true → (Lit.int .i64 b).wf = true → (Lit.int .i64 c).wf = true → (Lit.int .i64 d).wf = true → (Lit.int .i64 e).wf = true → (Lit.int .i64 f).wf = true → (Lit.int .i64 g).wf = true → laws_FnExactCostsOk.f a b c d e f g = some true := by
  intro a b c d e f g _ _ _ _ _ _ _
  unfold laws_FnExactCostsOk.f laws_toCosts.f impl_CostsOk.f
  simp only [Option.bind_some, spec_costs, impl_costs]
  simp

end Go.Proofs.Ytiibkaencpcngaa.Pure

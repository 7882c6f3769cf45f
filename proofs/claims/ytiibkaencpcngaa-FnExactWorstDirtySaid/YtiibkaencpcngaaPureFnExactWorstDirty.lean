/- impl.WorstDirty answers what the reference's WorstDirty answers, for every Shape. No condition. -/
import Derived.Test.YtiibkaencpcngaaShapeFnExactWorstDirty
namespace Go.Proofs.Ytiibkaencpcngaa.Pure
open Go.RowKit Go.Proofs.Ytiibkaencpcngaa.PFnExactWorstDirty Go.Proofs.YtiibkaencpcngaaW.PrintWords Go.Proofs.YtiibkaencpcngaaW.PrintLast Go.Proofs.Ytiibkaencpcngaa.Lem

theorem FnExactWorstDirty : ∀ (a b c : Int), (Lit.int .i64 a).wf = true → (Lit.int .i64 b).wf = true → (Lit.int .i64 c).wf = true → laws_FnExactWorstDirty.f a b c = some true := by
  intro a b c _ _ _
  unfold laws_FnExactWorstDirty.f laws_toShape.f impl_WorstDirty.f spec_WorstDirty.f
  simp only [Option.bind_some, spec_shape, impl_shape]
  by_cases h : IsShape a b c
  · simp [h]
  · simp [h]

end Go.Proofs.Ytiibkaencpcngaa.Pure

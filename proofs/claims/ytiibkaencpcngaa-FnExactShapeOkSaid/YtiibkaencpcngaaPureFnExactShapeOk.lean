/- impl.ShapeOk answers what the reference's ShapeOk answers, for every Shape. No condition. -/
import Derived.Test.YtiibkaencpcngaaShapeFnExactShapeOk
namespace Go.Proofs.Ytiibkaencpcngaa.Pure
open Go.RowKit Go.Proofs.Ytiibkaencpcngaa.PFnExactShapeOk Go.Proofs.YtiibkaencpcngaaW.PrintWords Go.Proofs.YtiibkaencpcngaaW.PrintLast Go.Proofs.Ytiibkaencpcngaa.Lem

theorem FnExactShapeOk : ∀ (a b c : Int), (Lit.int .i64 a).wf = true → (Lit.int .i64 b).wf = true → (Lit.int .i64 c).wf = true → laws_FnExactShapeOk.f a b c = some true := by
  intro a b c _ _ _
  unfold laws_FnExactShapeOk.f laws_toShape.f impl_ShapeOk.f
  simp only [Option.bind_some, spec_shape, impl_shape]
  simp

end Go.Proofs.Ytiibkaencpcngaa.Pure

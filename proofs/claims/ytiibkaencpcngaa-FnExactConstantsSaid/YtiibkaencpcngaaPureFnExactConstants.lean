/- The program's constants are the document's: the law FnExactConstants, which takes no argument, returns true. No condition. -/
import Derived.Test.YtiibkaencpcngaaPFnExactConstantsx1
namespace Go.Proofs.Ytiibkaencpcngaa.Pure
open Go.RowKit Go.Proofs.Ytiibkaencpcngaa.PFnExactConstants Go.Proofs.YtiibkaencpcngaaW.PrintWords Go.Proofs.YtiibkaencpcngaaW.PrintLast

theorem FnExactConstants : laws_FnExactConstants.Pure := by
  unfold laws_FnExactConstants.Pure laws_FnExactConstants.f
  rfl

end Go.Proofs.Ytiibkaencpcngaa.Pure

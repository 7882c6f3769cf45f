/- impl.InstrOk answers what the reference's InstrOk answers, for every Instr. No condition. -/
import Derived.Test.YtkepakklhnhnkaaInstrFnExactInstrOk
namespace Go.Proofs.Ytkepakklhnhnkaa.Pure
open Go.RowKit Go.Proofs.Ytkepakklhnhnkaa.PFnExactInstrOk Go.Proofs.YtkepakklhnhnkaaW.PrintWords Go.Proofs.YtkepakklhnhnkaaW.PrintLast Go.Proofs.Ytkepakklhnhnkaa.Lem

theorem FnExactInstrOk : ∀ (a b c d e : Int), (Lit.int .i64 a).wf = true → (Lit.int .i64 b).wf = true → (Lit.int .i64 c).wf = true → (Lit.int .i64 d).wf = true → (Lit.int .i64 e).wf = true → laws_FnExactInstrOk.f a b c d e = some true := by
  intro a b c d e _ _ _ _ _
  unfold laws_FnExactInstrOk.f laws_toInstr.f impl_InstrOk.f impl_isInstr.f
  simp only [Option.bind_some, spec_instr]
  simp

end Go.Proofs.Ytkepakklhnhnkaa.Pure

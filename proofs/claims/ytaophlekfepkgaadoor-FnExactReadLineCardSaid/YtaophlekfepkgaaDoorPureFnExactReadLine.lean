/- impl.ReadLine returns what the reference's ReadLine returns, for every string (of a string longer than 2^20 the statement asks nothing). No condition. -/
import Derived.Test.YtaophlekfepkgaaDoorLineCFnExactReadLine
namespace Go.Proofs.YtaophlekfepkgaaDoor.Pure
open Go.RowKit Go.Proofs.YtaophlekfepkgaaDoor.PFnExactReadLine Go.Proofs.YtaophlekfepkgaaDoorW.PrintWords Go.Proofs.YtaophlekfepkgaaDoorW.PrintLast Go.Proofs.YtaophlekfepkgaaDoor.Lem

theorem FnExactReadLine : laws_FnExactReadLine.Pure := by
  intro s hs
  have main : Evt (fun k => laws_FnExactReadLine.f k s) true := by
    unfold laws_FnExactReadLine.f
    by_cases h0 : (s.size : Int) > 1048576
    · simp only [if_pos h0]; exact ev_of fun _ => rfl
    · simp only [if_neg h0]
      obtain ⟨r, r1, r2⟩ := whole_both s
      refine ev_bind r1 (ev_of fun k => ?_)
      rw [r2]
      simp [laws_eqAsm.f, laws_eqInstr.f]
  obtain ⟨K, hK⟩ := main
  exact ⟨K, hK K (Nat.le_refl K)⟩

end Go.Proofs.YtaophlekfepkgaaDoor.Pure

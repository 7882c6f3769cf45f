/- impl.WordHex returns what the reference's WordHex returns, for every string (of a string longer than 2^20 the statement asks nothing). No condition. -/
import Derived.Test.YtjoiebnjpipenaaDoorHexPFnExactWordHex
namespace Go.Proofs.YtjoiebnjpipenaaDoor.Pure
open Go.RowKit Go.Proofs.YtjoiebnjpipenaaDoor.PFnExactWordHex Go.Proofs.YtjoiebnjpipenaaDoorW.PrintWords Go.Proofs.YtjoiebnjpipenaaDoorW.PrintLast Go.Proofs.YtjoiebnjpipenaaDoor.Lem

theorem FnExactWordHex : laws_FnExactWordHex.Pure := by
  intro s hs
  have main : Evt (fun k => laws_FnExactWordHex.f k s) true := by
    unfold laws_FnExactWordHex.f
    by_cases h0 : (s.size : Int) > 1048576
    · simp only [if_pos h0]; exact ev_of fun _ => rfl
    · simp only [if_neg h0]
      by_cases h8 : s.data.toList.length = 8
      · have hsz : (s.size : Int) = 8 := by
          have : s.data.toList.length = s.size := Array.length_toList
          omega
        refine ev_bind (t := hexBack (lrun 0 s.data.toList)) ?_ (ev_of fun k => by simp [impl_hex s h8])
        unfold spec_WordHex.f
        simp only [if_pos hsz]
        have := spec_hex s h8 8 0 (by omega) 0 (by omega) (by decide)
        simpa using this
      · have hsz : ¬ s.size = 8 := by
          have : s.data.toList.length = s.size := Array.length_toList
          omega
        refine ev_of fun k => ?_
        unfold spec_WordHex.f impl_WordHex.f
        rw [if_neg (by omega), if_neg hsz]
        simp
  obtain ⟨K, hK⟩ := main
  exact ⟨K, hK K (Nat.le_refl K)⟩

end Go.Proofs.YtjoiebnjpipenaaDoor.Pure

/- impl.Decode answers what the reference's Decode answers, for every word. No condition. -/
import Derived.Test.YtkepakklhnhnkaaInstrFnExactDecode
namespace Go.Proofs.Ytkepakklhnhnkaa.Pure
open Go.RowKit Go.Proofs.Ytkepakklhnhnkaa.PFnExactDecode Go.Proofs.YtkepakklhnhnkaaW.PrintWords Go.Proofs.YtkepakklhnhnkaaW.PrintLast Go.Proofs.Ytkepakklhnhnkaa.Lem

theorem same {w : Int} (h0 : 0 ≤ w) (h1 : w < 4294967296) : ∃ r, spec_Decode.f w = some r ∧ impl_Decode.f w = some r := by
  have m4 : ∀ x : Int, 0 ≤ x → x < 4294967296 → Go.bits .and .u32 x 15 = x % 16 := by
    intro x a b
    have := and_mask .u32 4 (by decide) (fun n a b => wraps_u32 n a (by omega)) x
    rwa [show (2 : Int) ^ 4 - 1 = 15 from rfl, show (2 : Int) ^ 4 = 16 from rfl] at this
  have m14 : Go.bits .and .u32 w 16383 = w % 16384 := by
    have := and_mask .u32 14 (by decide) (fun n a b => wraps_u32 n a (by omega)) w
    rwa [show (2 : Int) ^ 14 - 1 = 16383 from rfl, show (2 : Int) ^ 14 = 16384 from rfl] at this
  unfold impl_Decode.f impl_decode.f spec_Decode.f impl_isInstr.f
  simp only [spec_instr, Option.bind_some]
  rw [m14, m4 _ (by omega) (by omega), m4 _ (by omega) (by omega), m4 _ (by omega) (by omega)]
  rw [w64 (n := w / 67108864) (by omega) (by omega), w64 (n := w % 16384) (by omega) (by omega), w64 (n := w / 4194304 % 16) (by omega) (by omega), w64 (n := w / 262144 % 16) (by omega) (by omega), w64 (n := w / 16384 % 16) (by omega) (by omega), w64 (n := w % 16384 - 16384) (by omega) (by omega)]
  rw [if_pos ⟨h0, h1⟩]
  by_cases h : 8192 ≤ w % 16384
  · have e : spec_Decode.imm w = w % 16384 - 16384 := if_pos h
    rw [e, if_pos (show w % 16384 > 8191 by omega)]
    cases impl_isInstr.ok (w / 67108864) (w / 4194304 % 16) (w / 262144 % 16) (w / 16384 % 16) (w % 16384 - 16384) <;> simp
  · have e : spec_Decode.imm w = w % 16384 := if_neg h
    rw [e, if_neg (show ¬ w % 16384 > 8191 by omega)]
    cases impl_isInstr.ok (w / 67108864) (w / 4194304 % 16) (w / 262144 % 16) (w / 16384 % 16) (w % 16384) <;> simp
theorem FnExactDecode : laws_FnExactDecode.Pure := by
  intro w hw
  obtain ⟨h0, h1⟩ := u32_of hw
  obtain ⟨r, e1, e2⟩ := same h0 h1
  unfold laws_FnExactDecode.f
  rw [e1, e2]
  simp [laws_eqInstr.f]

end Go.Proofs.Ytkepakklhnhnkaa.Pure

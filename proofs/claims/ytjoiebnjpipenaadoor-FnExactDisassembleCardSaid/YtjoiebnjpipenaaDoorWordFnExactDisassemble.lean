/- The line of a word, in the reference and in the program, over the print of the law FnExactDisassemble. -/
import Derived.Test.YtjoiebnjpipenaaDoorShowFnExactDisassemble
namespace Go.Proofs.YtjoiebnjpipenaaDoor.PFnExactDisassemble
open Go.RowKit Go.Proofs.YtjoiebnjpipenaaDoorW.PrintWords Go.Proofs.YtjoiebnjpipenaaDoorW.PrintLast Go.Proofs.YtjoiebnjpipenaaDoor.Lem

/-- What decode gives. -/
theorem decode_both (w : Int) (h0 : 0 ≤ w) (h1 : w < 4294967296) :
    (impl_isInstr.ok (w / 67108864) (w / 4194304 % 16) (w / 262144 % 16) (w / 16384 % 16) (spec_Decode.imm w) = true ∧
      spec_Decode.f w = some (w / 67108864, w / 4194304 % 16, w / 262144 % 16, w / 16384 % 16, spec_Decode.imm w, true) ∧ impl_decode.f w = some (w / 67108864, w / 4194304 % 16, w / 262144 % 16, w / 16384 % 16, spec_Decode.imm w, true)) ∨
    (impl_isInstr.ok (w / 67108864) (w / 4194304 % 16) (w / 262144 % 16) (w / 16384 % 16) (spec_Decode.imm w) = false ∧
      spec_Decode.f w = some (0, 0, 0, 0, 0, false) ∧ impl_decode.f w = some (0, 0, 0, 0, 0, false)) := by
  have m4 : ∀ x : Int, 0 ≤ x → x < 4294967296 → Go.bits .and .u32 x 15 = x % 16 := by
    intro x a b
    have := and_mask .u32 4 (by decide) (fun n a b => wraps_u32 n a (by omega)) x
    rwa [show (2 : Int) ^ 4 - 1 = 15 from rfl, show (2 : Int) ^ 4 = 16 from rfl] at this
  have m14 : Go.bits .and .u32 w 16383 = w % 16384 := by
    have := and_mask .u32 14 (by decide) (fun n a b => wraps_u32 n a (by omega)) w
    rwa [show (2 : Int) ^ 14 - 1 = 16383 from rfl, show (2 : Int) ^ 14 = 16384 from rfl] at this
  unfold impl_decode.f spec_Decode.f impl_isInstr.f
  simp only [spec_instr, Option.bind_some]
  rw [m14, m4 _ (by omega) (by omega), m4 _ (by omega) (by omega), m4 _ (by omega) (by omega)]
  rw [w64 (n := w / 67108864) (by omega) (by omega), w64 (n := w % 16384) (by omega) (by omega), w64 (n := w / 4194304 % 16) (by omega) (by omega), w64 (n := w / 262144 % 16) (by omega) (by omega), w64 (n := w / 16384 % 16) (by omega) (by omega), w64 (n := w % 16384 - 16384) (by omega) (by omega)]
  rw [if_pos ⟨h0, h1⟩]
  by_cases h : 8192 ≤ w % 16384
  · have e : spec_Decode.imm w = w % 16384 - 16384 := if_pos h
    rw [e, if_pos (show w % 16384 > 8191 by omega)]
    cases impl_isInstr.ok (w / 67108864) (w / 4194304 % 16) (w / 262144 % 16) (w / 16384 % 16) (w % 16384 - 16384) <;> simp
  · have e : spec_Decode.imm w = w % 16384 := if_neg h
    rw [e, if_neg (show ¬ w % 16384 > 8191 by omega)]
    cases impl_isInstr.ok (w / 67108864) (w / 4194304 % 16) (w / 262144 % 16) (w / 16384 % 16) (w % 16384) <;> simp
/-- The line of a word. -/
def wordTxt (w : Int) : List UInt8 :=
  if impl_isInstr.ok (w / 67108864) (w / 4194304 % 16) (w / 262144 % 16) (w / 16384 % 16) (spec_Decode.imm w) = true then impl_showInstr.txt (w / 67108864) (w / 4194304 % 16) (w / 262144 % 16) (w / 16384 % 16) (spec_Decode.imm w)
  else [46, 119, 111, 114, 100, 32] ++ Lib.itoa w
theorem word_spec (w : Int) (h0 : 0 ≤ w) (h1 : w < 4294967296) : Evt (fun k => spec_ShowWord.f k w) (bs (wordTxt w)) := by
  unfold spec_ShowWord.f wordTxt
  rcases decode_both w h0 h1 with ⟨h, e, _⟩ | ⟨h, e, _⟩
  · simp only [e, Option.bind_some, if_true, if_pos h]
    exact ev_bind (show_spec _ _ _ _ _ h) (ev_of fun _ => rfl)
  · simp only [e, Option.bind_some, Bool.false_eq_true, if_false, h, w64 (n := w) (by omega) (by omega)]
    have hlen := impl_showInstr.itoa_len w (by omega)
    refine ev_bind (dec_is w (by omega) (by omega)) (ev_of fun _ => ?_)
    have h6 : (⟨#[46, 119, 111, 114, 100, 32]⟩ : ByteArray) = bs [46, 119, 111, 114, 100, 32] := rfl
    rw [bs_size, if_pos (by omega), h6, bs_append]
theorem word_impl (w : Int) (h0 : 0 ≤ w) (h1 : w < 4294967296) : impl_showWord.f w = some (bs (wordTxt w)) := by
  unfold impl_showWord.f wordTxt
  rcases decode_both w h0 h1 with ⟨h, _, e⟩ | ⟨h, _, e⟩
  · simp only [e, Option.bind_some, if_true, if_pos h, show_impl _ _ _ _ _ h]
  · simp only [e, Option.bind_some, Bool.false_eq_true, if_false, h, w64 (n := w) (by omega) (by omega), impl_DecText.f, itoa_is w (by omega) (by omega)]
    have hlen := impl_showInstr.itoa_len w (by omega)
    have h6 : (⟨#[46, 119, 111, 114, 100, 32]⟩ : ByteArray) = bs [46, 119, 111, 114, 100, 32] := rfl
    rw [bs_size, if_pos (by omega), h6, bs_append]

end Go.Proofs.YtjoiebnjpipenaaDoor.PFnExactDisassemble

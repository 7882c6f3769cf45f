/- impl.WordOf answers what the reference's WordOf answers, for every list of bytes (of more than 2^20 the statement asks nothing), and leaves the list as it was. No condition. -/
import Derived.Test.YtiibkaencpcngaaPFnExactWordOfx1
import Derived.Test.YtiibkaencpcngaaLem
namespace Go.Proofs.Ytiibkaencpcngaa.Pure
open Go.RowKit Go.Proofs.Ytiibkaencpcngaa.PFnExactWordOf Go.Proofs.YtiibkaencpcngaaW.PrintWords Go.Proofs.YtiibkaencpcngaaW.PrintLast Go.Proofs.Ytiibkaencpcngaa.Lem

theorem to_eq (l : List Int) (hl : l.length ≤ 140737488351232) (k : Nat) (hk : l.length < k) : laws_toByteS.f k l = some l := by
  unfold laws_toByteS.f
  rw [if_pos (by omega), if_pos (by omega), Int.toNat_natCast]
  have := copy_loop 0 (fun i => rd l i) l (by omega) (fun i h => rd_at l i h) (fun k x i => laws_toByteS.l0 k l x i)
    (fun k x i hi hx => by simp only [laws_toByteS.l0]; rw [if_pos (by omega), if_pos (by omega), if_pos (by omega), Int.toNat_natCast])
    (fun k x => by simp only [laws_toByteS.l0]; rw [if_neg (by omega)]) l.length 0 k (by omega) hk
  simpa using this
theorem eq_eq (l : List Int) (hl : l.length ≤ 140737488351232) (k : Nat) (hk : l.length < k) : laws_eqByteS.f k l l = some true := by
  unfold laws_eqByteS.f
  rw [if_pos rfl]
  have := scan_loop (fun k i => laws_eqByteS.l0 k l l i) true l.length (by omega)
    (fun k i hi => by simp only [laws_eqByteS.l0]; rw [if_pos (by omega), if_pos (by omega), if_pos (by omega), if_pos trivial])
    (fun k => by simp only [laws_eqByteS.l0]; rw [if_neg (by omega)]) l.length 0 k (by omega) hk
  simpa using this
theorem word_eq {a b c d : Int} (a0 : 0 ≤ a) (a1 : a < 256) (b0 : 0 ≤ b) (b1 : b < 256) (c0 : 0 ≤ c) (c1 : c < 256) (d0 : 0 ≤ d) (d1 : d < 256) :
    Go.bits .or .u32 (Go.bits .or .u32 (Go.bits .or .u32 (a % 4294967296) (b % 4294967296 * 256 % 4294967296)) (c % 4294967296 * 65536 % 4294967296)) (d % 4294967296 * 16777216 % 4294967296)
      = a + 256 * b + 65536 * c + 16777216 * d := by
  rw [or_low 8 (a % 4294967296) _ (by omega) (by omega) (by omega) (by omega) (by omega) (by omega)]
  rw [or_low 16 (b % 4294967296 * 256 % 4294967296 + a % 4294967296) _ (by omega) (by omega) (by omega) (by omega) (by omega) (by omega)]
  rw [or_low 24 (c % 4294967296 * 65536 % 4294967296 + _) _ (by omega) (by omega) (by omega) (by omega) (by omega) (by omega)]
  omega

theorem FnExactWordOf : laws_FnExactWordOf.Pure := by
  intro l _ hl hwf
  have hl : l.length ≤ 140737488351232 := by omega
  refine ⟨l.length + 2, ?_⟩
  unfold laws_FnExactWordOf.f
  by_cases h : (l.length : Int) > 1048576
  · rw [if_pos h]
  · rw [if_neg h, to_eq l hl _ (by omega)]
    simp only [Option.bind_some]
    have same : ∃ p, spec_WordOf.f l = some p ∧ impl_WordOf.f l = some p := by
      unfold spec_WordOf.f impl_WordOf.f
      by_cases h4 : (l.length : Int) = 4
      · match l, h4 with
        | [a, b, c, d], _ =>
          obtain ⟨a0, a1⟩ := u8_of (hwf a (by simp))
          obtain ⟨b0, b1⟩ := u8_of (hwf b (by simp))
          obtain ⟨c0, c1⟩ := u8_of (hwf c (by simp))
          obtain ⟨d0, d1⟩ := u8_of (hwf d (by simp))
          refine ⟨(a + 256 * b + 65536 * c + 16777216 * d, true), ?_, ?_⟩
          · simp only [List.length_cons, List.length_nil]
            rw [if_pos (by omega), if_pos (by omega), if_pos (by omega), if_pos (by omega), if_pos (by omega)]
            have e0 : rd [a, b, c, d] 0 = a := rfl
            have e1 : rd [a, b, c, d] 1 = b := rfl
            have e2 : rd [a, b, c, d] 2 = c := rfl
            have e3 : rd [a, b, c, d] 3 = d := rfl
            rw [e0, e1, e2, e3]
            congr 2
            simp only [wrap64]
            omega
          · simp only [List.length_cons, List.length_nil]
            rw [if_pos (by omega), if_pos (by omega), if_pos (by omega), if_pos (by omega), if_pos (by omega)]
            have e0 : rd [a, b, c, d] 0 = a := rfl
            have e1 : rd [a, b, c, d] 1 = b := rfl
            have e2 : rd [a, b, c, d] 2 = c := rfl
            have e3 : rd [a, b, c, d] 3 = d := rfl
            rw [e0, e1, e2, e3, word_eq a0 a1 b0 b1 c0 c1 d0 d1]
      · exact ⟨(0, false), by rw [if_neg h4], by rw [if_neg h4]⟩
    obtain ⟨p, hp, hq⟩ := same
    rw [hp, hq]
    simp only [Option.bind_some, if_true]
    simp only [laws_FnExactWordOf.j0]
    rw [if_neg (by simp), to_eq l hl _ (by omega)]
    simp only [Option.bind_some]
    rw [eq_eq l hl _ (by omega)]
    simp

end Go.Proofs.Ytiibkaencpcngaa.Pure

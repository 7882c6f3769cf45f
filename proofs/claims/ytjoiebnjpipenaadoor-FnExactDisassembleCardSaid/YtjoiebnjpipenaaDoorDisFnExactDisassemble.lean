/- The lines of words, in the reference and in the program, over the print of the law FnExactDisassemble. -/
import Derived.Test.YtjoiebnjpipenaaDoorWordFnExactDisassemble
namespace Go.Proofs.YtjoiebnjpipenaaDoor.PFnExactDisassemble
open Go.RowKit Go.Proofs.YtjoiebnjpipenaaDoorW.PrintWords Go.Proofs.YtjoiebnjpipenaaDoorW.PrintLast Go.Proofs.YtjoiebnjpipenaaDoor.Lem

/-- The lines of words. -/
def disTxt : List Int → List UInt8
  | [] => []
  | x :: l => wordTxt x ++ 10 :: disTxt l
theorem wordTxt_len (w : Int) (h0 : 0 ≤ w) (h1 : w < 4294967296) : (wordTxt w).length ≤ 100 := by
  unfold wordTxt
  split
  · rename_i h
    obtain ⟨ha, hb, hc, hd, he⟩ := ok_in64 _ _ _ _ _ h
    have l0 := nm_len (w / 67108864).toNat (by omega)
    have lb := impl_showInstr.itoa_len _ hb
    have lc := impl_showInstr.itoa_len _ hc
    have ld := impl_showInstr.itoa_len _ hd
    have le := impl_showInstr.itoa_len _ he
    have reg : ∀ (f q n : Int), (Lib.itoa n).length ≤ 21 → (impl_showInstr.reg f q n).length ≤ 23 := by
      intro f q n hn
      unfold impl_showInstr.reg
      split <;> simp; omega
    have r1 := reg (impl_isInstr.form (w / 67108864)) 1 _ lb
    have r2 := reg (impl_isInstr.form (w / 67108864)) 2 _ lc
    have r3 := reg (impl_isInstr.form (w / 67108864)) 4 _ ld
    have r4 : (if impl_isInstr.form (w / 67108864) / 8 % 2 = 1 then 32 :: Lib.itoa (spec_Decode.imm w) else []).length ≤ 22 := by
      split <;> simp; omega
    unfold impl_showInstr.txt
    simp only [List.length_append]
    omega
  · have := impl_showInstr.itoa_len w (by omega)
    simp; omega
theorem go_is : ∀ l : List Int, (∀ x ∈ l, 0 ≤ x ∧ x < 4294967296) → impl_Disassemble.go l = some (disTxt l) := by
  intro l
  induction l with
  | nil => intro _; rfl
  | cons x l ih =>
    intro h
    have hx := h x (by simp)
    have hw := wordTxt_len x hx.1 hx.2
    unfold impl_Disassemble.go
    rw [word_impl x hx.1 hx.2, ih (fun y hy => h y (by simp [hy]))]
    simp only [Option.bind_some]
    rw [if_pos (by rw [bs_size]; exact hw)]
    rfl
theorem dis_loop (l : List Int) (hl : l.length ≤ 256) (hw : ∀ x ∈ l, 0 ≤ x ∧ x < 4294967296) : ∀ d i : Nat, i + d = l.length → ∀ p : List UInt8, p.length ≤ 101 * i →
    Evt (fun k => spec_Disassemble.l0 k l (bs p) i) (bs (p ++ disTxt (l.drop i)), true) := by
  intro d
  induction d with
  | zero =>
    intro i hi p hp
    refine ev_end fun k => ?_
    simp only [spec_Disassemble.l0]
    rw [if_neg (by omega), List.drop_eq_nil_of_le (by omega)]
    simp [disTxt]
  | succ d ih =>
    intro i hi p hp
    have hlt : i < l.length := by omega
    have hx := hw _ (List.getElem_mem hlt)
    have hwl := wordTxt_len _ hx.1 hx.2
    have hr : rd l (i : Int) = l[i] := by unfold rd; rw [Int.toNat_natCast]; simp [hlt]
    have h10 : (⟨#[10]⟩ : ByteArray) = bs [10] := rfl
    refine ev_step (g := fun k => (spec_ShowWord.f k l[i]).bind fun t => (if (bs p).size + t.size ≤ 9223372036854775807 then (if ((bs p) ++ t).size + 1 ≤ 9223372036854775807 then (spec_Disassemble.l0 k l (((bs p) ++ t) ++ (⟨#[10]⟩ : ByteArray)) ((i + 1 : Nat) : Int)) else none) else none)) (fun k => ?_) (ev_bind (word_spec _ hx.1 hx.2) ?_)
    · simp only [spec_Disassemble.l0]
      rw [if_pos (by omega), if_pos (by omega), hr, w64 (by omega) (by omega)]
      rfl
    · simp only [h10, bs_append, bs_size]
      simp only [if_pos (show p.length + (wordTxt l[i]).length ≤ 9223372036854775807 by omega), if_pos (show (p ++ wordTxt l[i]).length + 1 ≤ 9223372036854775807 by simp; omega)]
      have := ih (i + 1) (by omega) (p ++ wordTxt l[i] ++ [10]) (by simp; omega)
      rw [List.drop_eq_getElem_cons hlt]
      simpa [disTxt] using this
theorem dis_spec (l : List Int) (hl : l.length ≤ 256) (hw : ∀ x ∈ l, 0 ≤ x ∧ x < 4294967296) : Evt (fun k => spec_Disassemble.f k l) (bs (disTxt l), true) := by
  unfold spec_Disassemble.f
  simp only [if_neg (show ¬ (l.length : Int) > 256 by omega)]
  have := dis_loop l hl hw l.length 0 (by omega) [] (by simp)
  have h2 : Evt (fun k => spec_Disassemble.l0 k l (bs []) 0) (bs (disTxt l), true) := by simpa using this
  exact h2
theorem dis_impl (l : List Int) (hl : l.length ≤ 256) (hw : ∀ x ∈ l, 0 ≤ x ∧ x < 4294967296) : impl_Disassemble.f l = some (bs (disTxt l), true) := by
  unfold impl_Disassemble.f
  rw [if_neg (by omega), go_is l hw]; rfl

end Go.Proofs.YtjoiebnjpipenaaDoor.PFnExactDisassemble

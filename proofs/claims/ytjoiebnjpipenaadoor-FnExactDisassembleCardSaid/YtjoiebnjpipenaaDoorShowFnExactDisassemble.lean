/- The line of an instruction, in the reference and in the program, over the print of the law FnExactDisassemble. -/
import Derived.Test.YtjoiebnjpipenaaDoorDecTextFnExactDisassemble
import Derived.Test.YtjoiebnjpipenaaDoorInstrFnExactDisassemble
namespace Go.Proofs.YtjoiebnjpipenaaDoor.PFnExactDisassemble
open Go.RowKit Go.Proofs.YtjoiebnjpipenaaDoorW.PrintWords Go.Proofs.YtjoiebnjpipenaaDoorW.PrintLast Go.Proofs.YtjoiebnjpipenaaDoor.Lem

theorem names_eq : spec_l02Names.f = some ((List.range 33).map Tab.nm) := by kernel_rfl
theorem names_at (n : Nat) (h : n < 33) : rdOf ByteArray.empty ((List.range 33).map Tab.nm) n = Tab.nm n := by
  unfold rdOf; rw [Int.toNat_natCast]; simp [List.getD, h]
theorem opName_is (a : Int) : spec_OpName.f a = some (if 0 ≤ a ∧ a ≤ 32 then Tab.nm a.toNat else ByteArray.empty) := by
  unfold spec_OpName.f
  rw [instr_in]
  by_cases h : 0 ≤ a ∧ a ≤ 32
  · rw [if_pos h, decide_eq_true h]
    obtain ⟨n, rfl⟩ := Int.eq_ofNat_of_zero_le h.1
    simp only [Option.bind_some, if_true, names_eq]
    rw [if_pos (by omega), if_pos (by simp; omega), names_at n (by omega), Int.toNat_natCast]
  · rw [if_neg h, decide_eq_false h]
    simp only [Option.bind_some, Bool.false_eq_true, if_false]
    rfl
/-- One register of a line. -/
def reg (q n : Int) (k : Nat) (x : ByteArray) (G : ByteArray → Option ByteArray) : Option ByteArray :=
  if (Int.tmod q 2) = 1 then (if x.size + 2 ≤ 9223372036854775807 then ((spec_DecText.f k n).bind fun t => (if (x ++ (⟨#[32, 114]⟩ : ByteArray)).size + t.size ≤ 9223372036854775807 then G ((x ++ (⟨#[32, 114]⟩ : ByteArray)) ++ t) else none)) else none) else G x
def last (F e : Int) (k : Nat) (x : ByteArray) : Option ByteArray :=
  if (Int.tmod (wrap64 (Int.tdiv F 8)) 2) = 1 then (if x.size + 1 ≤ 9223372036854775807 then ((spec_DecText.f k e).bind fun t => (if (x ++ (⟨#[32]⟩ : ByteArray)).size + t.size ≤ 9223372036854775807 then some ((x ++ (⟨#[32]⟩ : ByteArray)) ++ t) else none)) else none) else some x
theorem j1_eq (k : Nat) (F : Int) (x : ByteArray) (a b c d e : Int) : spec_ShowInstr.j1 (k + 1) F x a b c d e = reg (wrap64 (Int.tdiv F 4)) d k x (last F e k) := rfl
theorem j0_eq (k : Nat) (F : Int) (x : ByteArray) (a b c d e : Int) : spec_ShowInstr.j0 (k + 1) F x a b c d e = reg (wrap64 (Int.tdiv F 2)) c k x (fun y => spec_ShowInstr.j1 k F y a b c d e) := rfl
def In64 (n : Int) : Prop := -9223372036854775808 ≤ n ∧ n ≤ 9223372036854775807
theorem ev_reg (q n : Int) (hq : 0 ≤ q) (hn : In64 n) (l : List UInt8) (hl : l.length ≤ 1000) (G : Nat → ByteArray → Option ByteArray) (r : ByteArray)
    (h : Evt (fun k => G k (bs (l ++ (if q % 2 = 1 then 32 :: 114 :: Lib.itoa n else [])))) r) : Evt (fun k => reg q n k (bs l) (G k)) r := by
  unfold reg
  by_cases hb : q % 2 = 1
  · have hlen := impl_showInstr.itoa_len n hn
    have h2 : (⟨#[32, 114]⟩ : ByteArray) = bs [32, 114] := rfl
    simp only [tmod_pos hq, hb, if_true, bs_size, h2, bs_append] at h ⊢
    simp only [if_pos (show l.length + 2 ≤ 9223372036854775807 by omega)]
    refine ev_bind (dec_is n hn.1 hn.2) ?_
    simp only [bs_size, bs_append, List.append_assoc]
    simp only [if_pos (show (l ++ [32, 114]).length + (Lib.itoa n).length ≤ 9223372036854775807 by simp; omega)]
    simpa using h
  · simp only [tmod_pos hq, hb, if_false, List.append_nil] at h ⊢
    exact h
theorem ev_last (F e : Int) (hF : 0 ≤ F ∧ F ≤ 11) (hn : In64 e) (l : List UInt8) (hl : l.length ≤ 1000) : Evt (fun k => last F e k (bs l)) (bs (l ++ (if F / 8 % 2 = 1 then 32 :: Lib.itoa e else []))) := by
  unfold last
  have hq : wrap64 (Int.tdiv F 8) = F / 8 := by rw [tdiv_pos hF.1, w64 (by omega) (by omega)]
  rw [hq, tmod_pos (show 0 ≤ F / 8 by omega)]
  by_cases hb : F / 8 % 2 = 1
  · have hlen := impl_showInstr.itoa_len e hn
    have h2 : (⟨#[32]⟩ : ByteArray) = bs [32] := rfl
    simp only [hb, if_true, bs_size, h2, bs_append]
    simp only [if_pos (show l.length + 1 ≤ 9223372036854775807 by omega)]
    refine ev_bind (dec_is e hn.1 hn.2) (ev_of fun _ => ?_)
    simp only [bs_size, bs_append, List.append_assoc]
    rw [if_pos (by simp; omega)]; rfl
  · simp only [hb, if_false, List.append_nil]
    exact ev_of fun _ => rfl
theorem nm_bs (n : Nat) : Tab.nm n = bs (Tab.names.getD n []) := rfl
theorem nm_len (n : Nat) (h : n < 33) : (Tab.names.getD n []).length ≤ 5 := by
  have := impl_showInstr.nm_size ⟨n, h⟩
  simpa [Tab.nm, ByteArray.size] using this
theorem ok_in64 (a b c d e : Int) (h : impl_isInstr.ok a b c d e = true) : impl_showInstr.ok a b c d e := by
  obtain ⟨h0, h1, h2, h3, h4⟩ := ok_ranges h
  unfold impl_showInstr.ok
  omega
theorem show_spec (a b c d e : Int) (h : impl_isInstr.ok a b c d e = true) : Evt (fun k => spec_ShowInstr.f k a b c d e) (bs (impl_showInstr.txt a b c d e)) := by
  have hi := ok_in64 a b c d e h
  obtain ⟨ha, hb, hc, hd, he⟩ := hi
  have hf := impl_isInstr.forms a ha
  have f0 : 0 ≤ impl_isInstr.form a ∧ impl_isInstr.form a ≤ 11 := by omega
  unfold spec_ShowInstr.f
  simp only [spec_instr, h, Option.bind_some, if_true, spec_form, opName_is, if_pos ha, nm_bs]
  have hl := nm_len a.toNat (by omega)
  have len : ∀ (p : Prop) [Decidable p] (n : Int), In64 n → (if p then 32 :: 114 :: Lib.itoa n else []).length ≤ 23 := by
    intro p _ n hn
    have := impl_showInstr.itoa_len n hn
    split <;> simp; omega
  have l1 := len (impl_isInstr.form a % 2 = 1) b hb
  have l2 := len (impl_isInstr.form a / 2 % 2 = 1) c hc
  have l3 := len (impl_isInstr.form a / 4 % 2 = 1) d hd
  have q2 : wrap64 (Int.tdiv (impl_isInstr.form a) 2) = impl_isInstr.form a / 2 := by rw [tdiv_pos f0.1, w64 (by omega) (by omega)]
  have q4 : wrap64 (Int.tdiv (impl_isInstr.form a) 4) = impl_isInstr.form a / 4 := by rw [tdiv_pos f0.1, w64 (by omega) (by omega)]
  refine ev_reg (impl_isInstr.form a) b f0.1 hb _ (by omega) (fun k y => spec_ShowInstr.j0 k (impl_isInstr.form a) y a b c d e) _ ?_
  refine ev_step (fun k => j0_eq k _ _ a b c d e) ?_
  rw [q2]
  refine ev_reg (impl_isInstr.form a / 2) c (by omega) hc _ (by simp only [List.length_append]; omega) (fun k y => spec_ShowInstr.j1 k (impl_isInstr.form a) y a b c d e) _ ?_
  refine ev_step (fun k => j1_eq k _ _ a b c d e) ?_
  rw [q4]
  refine ev_reg (impl_isInstr.form a / 4) d (by omega) hd _ (by simp only [List.length_append]; omega) (fun k y => last (impl_isInstr.form a) e k y) _ ?_
  have := ev_last (impl_isInstr.form a) e f0 he (((Tab.names.getD a.toNat [] ++ if impl_isInstr.form a % 2 = 1 then 32 :: 114 :: Lib.itoa b else []) ++ if impl_isInstr.form a / 2 % 2 = 1 then 32 :: 114 :: Lib.itoa c else []) ++ if impl_isInstr.form a / 4 % 2 = 1 then 32 :: 114 :: Lib.itoa d else []) (by simp only [List.length_append]; omega)
  have e1 : impl_showInstr.txt a b c d e = (((Tab.names.getD a.toNat [] ++ if impl_isInstr.form a % 2 = 1 then 32 :: 114 :: Lib.itoa b else []) ++ if impl_isInstr.form a / 2 % 2 = 1 then 32 :: 114 :: Lib.itoa c else []) ++ if impl_isInstr.form a / 4 % 2 = 1 then 32 :: 114 :: Lib.itoa d else []) ++ (if impl_isInstr.form a / 8 % 2 = 1 then 32 :: Lib.itoa e else []) := by
    unfold impl_showInstr.txt impl_showInstr.reg
    rw [Int.ediv_one]
    simp only [List.append_assoc]
  rw [e1]
  exact this
theorem show_impl (a b c d e : Int) (h : impl_isInstr.ok a b c d e = true) : impl_showInstr.f a b c d e = some (bs (impl_showInstr.txt a b c d e)) := by
  unfold impl_showInstr.f
  rw [if_pos (ok_in64 a b c d e h)]; rfl
theorem show_none (a b c d e : Int) (h : impl_isInstr.ok a b c d e = false) (k : Nat) : spec_ShowInstr.f k a b c d e = some ByteArray.empty := by
  unfold spec_ShowInstr.f
  simp only [spec_instr, h, Option.bind_some, Bool.false_eq_true, if_false]
  rfl

end Go.Proofs.YtjoiebnjpipenaaDoor.PFnExactDisassemble

/- Words, instructions and their lines, there and back, in the program (by readLine); over the print of the law FnAssemble. -/
import Derived.Test.YtaophlekfepkgaaGreatDoorInstrFnAssemble
import Derived.Test.YtaophlekfepkgaaGreatDoorSplitL
import Derived.Test.YtaophlekfepkgaaGreatDoorSplitN
import Derived.Lib.ItoaNum
namespace Go.Proofs.YtaophlekfepkgaaGreatDoor.PFnAssemble
open Go.RowKit Go.Proofs.YtaophlekfepkgaaGreatDoorW.PrintWords Go.Proofs.YtaophlekfepkgaaGreatDoorW.PrintLast Go.Proofs.YtaophlekfepkgaaGreatDoor.Lem Go.Proofs.YtaophlekfepkgaaGreatDoor.SplitL

theorem digit_nat (d : Nat) (h : d < 10) : (UInt8.ofNat (48 + d)).toNat = 48 + d := by
  simp [UInt8.toNat_ofNat']; omega
theorem parse_snoc (c : UInt8) : ∀ (l : List UInt8) (acc x : Nat), Lib.parseUint10 acc l = .ok x → 48 ≤ c.toNat ∧ c.toNat ≤ 57 → x < 1844674407370955162 → x * 10 + (c.toNat - 48) < 18446744073709551616 → Lib.parseUint10 acc (l ++ [c]) = .ok (x * 10 + (c.toNat - 48)) := by
  intro l
  induction l with
  | nil =>
    intro acc x h hc h1 h2
    simp only [Lib.parseUint10] at h
    injection h with h
    subst h
    simp only [List.nil_append, Lib.parseUint10]
    rw [if_pos hc, if_neg (by omega), if_neg (by omega)]
  | cons d l ih =>
    intro acc x h hc h1 h2
    simp only [List.cons_append, Lib.parseUint10] at h ⊢
    split at h
    · rename_i hd
      rw [if_pos hd]
      split at h
      · cases h
      · rename_i h3
        rw [if_neg h3]
        split at h
        · cases h
        · rename_i h4
          rw [if_neg h4]
          exact ih _ _ h hc h1 h2
    · cases h
theorem parse_digits (u : Nat) (hu : u < 9223372036854775809) : Lib.parseUint10 0 (Lib.decDigits u) = .ok u := by
  induction u using Nat.strongRecOn with
  | _ u ih =>
    by_cases h : u < 10
    · rw [Lib.decDigits, dif_pos h]
      simp only [Lib.parseUint10, digit_nat u h]
      rw [if_pos (by omega), if_neg (by omega), if_neg (by omega)]; congr 1; omega
    · rw [Lib.decDigits, dif_neg h]
      have hd := digit_nat (u % 10) (Nat.mod_lt _ (by decide))
      rw [parse_snoc _ _ 0 (u / 10) (ih (u / 10) (by omega) (by omega)) (by rw [hd]; omega) (by omega) (by rw [hd]; omega), hd]
      congr 1; omega
theorem digits_head (u : Nat) : ∃ c r, Lib.decDigits u = c :: r ∧ 48 ≤ c.toNat ∧ c.toNat ≤ 57 := by
  induction u using Nat.strongRecOn with
  | _ u ih =>
    by_cases h : u < 10
    · rw [Lib.decDigits, dif_pos h]
      exact ⟨_, _, rfl, by rw [digit_nat u h]; omega, by rw [digit_nat u h]; omega⟩
    · obtain ⟨c, r, e, h1, h2⟩ := ih (u / 10) (by omega)
      rw [Lib.decDigits, dif_neg h, e]
      exact ⟨c, _, rfl, h1, h2⟩
theorem atoi_itoa (v : Int) (h : -9223372036854775808 ≤ v ∧ v ≤ 9223372036854775807) : Lib.atoiAll (Lib.itoa v) = .ok v := by
  unfold Lib.itoa
  by_cases hn : v < 0
  · rw [if_pos hn]
    obtain ⟨c, r, e, h1, h2⟩ := digits_head v.natAbs
    have hp := parse_digits v.natAbs (by omega)
    have hm : Lib.parseMag (Lib.decDigits v.natAbs) = .ok v.natAbs := by
      unfold Lib.parseMag; rw [if_neg (by rw [e]; simp), hp]
    have h45 : (45 : UInt8).toNat = 45 := rfl
    simp only [Lib.atoiAll, h45]
    rw [if_pos (Or.inr trivial), hm]
    simp only
    rw [if_neg (by simp), if_neg (by omega), if_pos trivial]
    congr 1; omega
  · rw [if_neg hn]
    obtain ⟨c, r, e, h1, h2⟩ := digits_head v.toNat
    have hp := parse_digits v.toNat (by omega)
    have hm : Lib.parseMag (Lib.decDigits v.toNat) = .ok v.toNat := by
      unfold Lib.parseMag; rw [if_neg (by rw [e]; simp), hp]
    rw [e] at hm ⊢
    simp only [Lib.atoiAll]
    rw [if_neg (by omega), hm]
    simp only
    rw [if_neg (by omega), if_neg (by omega), if_neg (by omega)]
    congr 1; omega
theorem itoa_len11 (v : Int) (h : -4294967295 ≤ v ∧ v ≤ 4294967295) : (Lib.itoa v).length ≤ 11 := by
  have dl : ∀ (j : Nat) (u : Nat), u < 10 ^ (j + 1) → (Lib.decDigits u).length ≤ j + 1 := by
    intro j
    induction j with
    | zero => intro u h; rw [Lib.decDigits, dif_pos (by simpa using h)]; simp
    | succ j ih =>
      intro u h
      by_cases h10 : u < 10
      · rw [Lib.decDigits, dif_pos h10]; simp
      · rw [Lib.decDigits, dif_neg h10, List.length_append]
        have := ih (u / 10) (by rw [Nat.pow_succ] at h; exact Nat.div_lt_of_lt_mul (by rw [Nat.mul_comm]; exact h))
        simp; omega
  unfold Lib.itoa
  by_cases hn : v < 0
  · rw [if_pos hn]
    have := dl 9 v.natAbs (by omega)
    simp; omega
  · rw [if_neg hn]
    have := dl 9 v.toNat (by omega)
    omega
def bs (l : List UInt8) : ByteArray := ⟨l.toArray⟩
theorem bs_append (a b : List UInt8) : bs a ++ bs b = bs (a ++ b) := by
  apply ByteArray.ext
  simp [bs, ByteArray.data_append]
theorem bs_size (l : List UInt8) : (bs l).size = l.length := by simp [bs, ByteArray.size]
theorem data_bs (l : List UInt8) : (bs l).data.toList = l := rfl
theorem bs_toList (l : List UInt8) : (bs l).toList = l := by rw [ByteArray.toList_eq]; rfl
theorem digits_all (u : Nat) : ∀ c ∈ Lib.decDigits u, 48 ≤ c.toNat ∧ c.toNat ≤ 57 := by
  induction u using Nat.strongRecOn with
  | _ u ih =>
    intro c hc
    by_cases h : u < 10
    · rw [Lib.decDigits, dif_pos h, List.mem_singleton] at hc
      subst hc
      rw [digit_nat u h]; omega
    · rw [Lib.decDigits, dif_neg h] at hc
      rcases List.mem_append.1 hc with hc | hc
      · exact ih (u / 10) (by omega) c hc
      · rw [List.mem_singleton] at hc
        subst hc
        rw [digit_nat (u % 10) (Nat.mod_lt _ (by decide))]; omega
theorem itoa_clean (v : Int) : (32 : UInt8) ∉ Lib.itoa v := by
  unfold Lib.itoa
  have h32 : (32 : UInt8).toNat = 32 := rfl
  split
  · intro h
    rcases List.mem_cons.1 h with h | h
    · exact absurd h (by decide)
    · have := digits_all _ _ h; omega
  · intro h
    have := digits_all _ _ h; omega
theorem num_is (v most : Int) (hm : 0 ≤ most ∧ most ≤ 4294967295) (hv : -most ≤ v ∧ v ≤ most) : impl_DecNum.f (bs (Lib.itoa v)) most = some (v, true) := by
  unfold impl_DecNum.f
  have hl := itoa_len11 v (by omega)
  rw [if_pos (by rw [bs_size]; omega), data_bs, atoi_itoa v (by omega)]
  exact if_pos ⟨rfl, hm, hv⟩
theorem cdc_within (n a b : Int) : impl_within.f n a b = some (decide (a ≤ n ∧ n ≤ b)) := by
  unfold impl_within.f
  by_cases h : n ≥ a
  · rw [if_pos h]; congr 1; simp; omega
  · rw [if_neg h]; congr 1; simp; omega
theorem reg_is (v : Int) (hv : 0 ≤ v ∧ v ≤ 15) : impl_register.f (bs (114 :: Lib.itoa v)) = some (v, true) := by
  have hc : strings_CutPrefix.f (bs (114 :: Lib.itoa v)) (⟨#[114]⟩ : ByteArray) = some (bs (Lib.itoa v), true) := by
    have hl := itoa_len11 v (by omega)
    have h1 : ((⟨#[114]⟩ : ByteArray).size : Int) = 1 := rfl
    have h2 : (⟨#[114]⟩ : ByteArray).toList = [114] := by rw [ByteArray.toList_eq]
    have hsz : (bs (114 :: Lib.itoa v)).size = (Lib.itoa v).length + 1 := by rw [bs_size]; simp
    unfold strings_CutPrefix.f stringslite_CutPrefix.f stringslite_HasPrefix.f
    rw [h1, h2, if_pos (by omega), if_pos (by omega), if_pos (by omega)]
    have e1 : (bs (114 :: Lib.itoa v)).extract 0 ((1 : Int) : Int).toNat = bs [114] := by
      apply ByteArray.ext; apply Array.toList_inj.1
      show ((bs (114 :: Lib.itoa v)).extract 0 1).data.toList = _
      rw [Lib.extract_data]; rfl
    have e2 : (bs (114 :: Lib.itoa v)).extract ((1 : Int) : Int).toNat (bs (114 :: Lib.itoa v)).size = bs (Lib.itoa v) := by
      apply ByteArray.ext; apply Array.toList_inj.1
      show ((bs (114 :: Lib.itoa v)).extract 1 (bs (114 :: Lib.itoa v)).size).data.toList = _
      rw [Lib.extract_data, hsz, data_bs, data_bs]; simp
    rw [e1, bs_toList, show (([114] : List UInt8) == [114]) = true from rfl]
    simp only [Option.bind_some, if_true]
    rw [if_pos (by omega), if_pos (by omega), e2]
    rfl
  unfold impl_register.f
  rw [hc]
  simp only [Option.bind_some, if_true]
  rw [num_is v 15 (by omega) (by omega)]
  simp; omega
/-! ### the words of a line -/
/-- Pieces set ahead of a space. -/
theorem sp_app : ∀ a l : List UInt8, (32 : UInt8) ∉ a → sp (a ++ 32 :: l) = a :: sp l
  | [], l, _ => by simp [sp]
  | c :: a, l, h => by
    have h1 : c ≠ 32 := fun e => h (by simp [e])
    rw [List.cons_append, sp, if_neg h1, sp_app a l (fun e => h (by simp [e])), pre]
theorem sp_one : ∀ a : List UInt8, (32 : UInt8) ∉ a → sp a = [a]
  | [], _ => rfl
  | c :: a, h => by
    have h1 : c ≠ 32 := fun e => h (by simp [e])
    rw [sp, if_neg h1, sp_one a (fun e => h (by simp [e])), pre]

/-- What is behind a word: nothing, or a space and more. -/
def Tl (T : List UInt8) : Prop := T = [] ∨ ∃ r, T = 32 :: r
def wsT : List UInt8 → List (List UInt8)
  | [] => []
  | _ :: r => sp r
theorem sp_tl (a T : List UInt8) (ha : (32 : UInt8) ∉ a) (hT : Tl T) : sp (a ++ T) = a :: wsT T := by
  rcases hT with rfl | ⟨r, rfl⟩
  · rw [List.append_nil]; exact sp_one a ha
  · exact sp_app a r ha
theorem reg_tl (F bit n : Int) (T : List UInt8) (hT : Tl T) : Tl (impl_showInstr.reg F bit n ++ T) := by
  unfold impl_showInstr.reg
  split
  · exact .inr ⟨_, rfl⟩
  · simpa using hT
theorem wsT_reg (n : Int) (T : List UInt8) (hT : Tl T) : wsT ((32 :: 114 :: Lib.itoa n) ++ T) = (114 :: Lib.itoa n) :: wsT T :=
  sp_tl (114 :: Lib.itoa n) T (by simp only [List.mem_cons, not_or]; exact ⟨by decide, itoa_clean n⟩) hT
abbrev RL := Int × Int × Int × Int × Int × Int × Int × ByteArray
abbrev E0 : ByteArray := ⟨#[]⟩
theorem rd_reg (op F : Int) (hF : 0 ≤ F) (n : Nat) (bit : Int) (hnb : (n = 2 ∧ bit = 1) ∨ (n = 1 ∧ bit = 2) ∨ (n = 0 ∧ bit = 4)) (v a b c : Int) (hv : impl_isInstr.fld F bit v 0 15 = true) (h0 : (n = 2 ∧ a = 0) ∨ (n = 1 ∧ b = 0) ∨ (n = 0 ∧ c = 0)) (T : List UInt8) (hT : Tl T) :
    impl_readLine.rd 200 op F (n + 1) a b c ((wsT (impl_showInstr.reg F bit v ++ T)).map bs) = impl_readLine.rd 200 op F n (if n = 2 then v else a) (if n = 1 then v else b) (if n = 0 then v else c) ((wsT T).map bs) := by
  have hpow : (2 : Int) ^ (2 - n) = bit := by rcases hnb with ⟨rfl, rfl⟩ | ⟨rfl, rfl⟩ | ⟨rfl, rfl⟩ <;> rfl
  unfold impl_isInstr.fld at hv
  unfold impl_showInstr.reg
  by_cases hb : F / bit % 2 = 1
  · have hb2 : ¬ F / 2 ^ (2 - n) % 2 = 0 := by rw [hpow, hb]; decide
    rw [if_pos hb] at hv
    have hv := of_decide_eq_true hv
    rw [if_pos hb, wsT_reg v T hT, List.map_cons]
    conv => lhs; unfold impl_readLine.rd
    rw [if_neg (Int.not_lt.2 hF), if_neg hb2]
    simp only [reg_is v hv, Option.bind_some, if_true]
  · have hb2 : F / 2 ^ (2 - n) % 2 = 0 := by
      rw [hpow]
      have := Int.emod_nonneg (F / bit) (show (2 : Int) ≠ 0 by decide)
      have := Int.emod_lt_of_pos (F / bit) (show (0 : Int) < 2 by decide)
      clear hpow hnb h0 hT
      generalize F / bit % 2 = x at *
      omega
    rw [if_neg hb] at hv
    have hv : v = 0 := of_decide_eq_true hv
    subst hv
    rw [if_neg hb, List.nil_append]
    conv => lhs; unfold impl_readLine.rd
    rw [if_neg (Int.not_lt.2 hF), if_pos hb2]
    rcases h0 with ⟨rfl, rfl⟩ | ⟨rfl, rfl⟩ | ⟨rfl, rfl⟩ <;> rfl
theorem fin_is (op F a b c imm : Int) (hF : 0 ≤ F) (hv : impl_isInstr.fld F 8 imm (-8192) 8191 = true) :
    impl_readLine.rd 200 op F 0 a b c ((wsT (if F / 8 % 2 = 1 then 32 :: Lib.itoa imm else [])).map bs) = some ((3, op, a, b, c, imm, 0, E0) : RL) := by
  unfold impl_isInstr.fld at hv
  by_cases hb : F / 8 % 2 = 1
  · rw [if_pos hb] at hv ⊢
    have hv := of_decide_eq_true hv
    rw [show wsT (32 :: Lib.itoa imm) = sp (Lib.itoa imm) from rfl, sp_one _ (itoa_clean imm), List.map_cons, List.map_nil]
    rw [impl_readLine.rd]
    unfold impl_readLine.fin
    rw [if_neg (by omega), if_neg (by omega)]
    simp only [num_is imm 8192 (by omega) (by omega), Option.bind_some, if_true, impl_isImm.f, cdc_within]
    rw [decide_eq_true hv]; rfl
  · rw [if_neg hb] at hv ⊢
    have hv : imm = 0 := of_decide_eq_true hv
    subst hv
    rw [impl_readLine.rd]
    unfold impl_readLine.fin
    rw [if_neg (by omega), if_pos (by omega)]
    rfl
theorem nm_bs (n : Nat) : Tab.nm n = bs (Tab.names.getD n []) := rfl
theorem names_ok : ∀ n : Fin 33, (Tab.names.getD n.val []).length ≤ 5 ∧ ((Tab.names.getD n.val []).contains 32) = false ∧ impl_readLine.sx (Tab.nm n.val) = false ∧ (Tab.names.getD n.val []) ≠ ([46, 119, 111, 114, 100] : List UInt8) ∧ Lib.idxOfS ((List.range 33).map Tab.nm) (Tab.nm n.val) = (n.val : Int) ∧ impl_formOf.f 200 (n.val : Int) = some (impl_isInstr.form (n.val : Int)) := by decide +kernel
theorem ws_is (l : List UInt8) : impl_readLine.ws (bs l) = (sp l).map bs := split_sp (bs l)
theorem fld_lt (form bit x : Int) (h : impl_isInstr.fld form bit x 0 15 = true) : 0 ≤ x ∧ x ≤ 15 := by
  unfold impl_isInstr.fld at h
  split at h
  · simpa using h
  · have : x = 0 := by simpa using h
    omega
theorem fld_imm (form x : Int) (h : impl_isInstr.fld form 8 x (-8192) 8191 = true) : -8192 ≤ x ∧ x ≤ 8191 := by
  unfold impl_isInstr.fld at h
  split at h
  · simpa using h
  · have : x = 0 := by simpa using h
    omega
theorem reg_len (F bit n : Int) (hn : 0 ≤ n ∧ n ≤ 15) : (impl_showInstr.reg F bit n).length ≤ 13 := by
  unfold impl_showInstr.reg
  have := itoa_len11 n (by omega)
  split
  · simp; omega
  · simp
/-- What ok asks, part by part. -/
theorem ok_parts (op a b c imm : Int) (h : impl_isInstr.ok op a b c imm = true) : (0 ≤ op ∧ op ≤ 32) ∧ impl_isInstr.fld (impl_isInstr.form op) 1 a 0 15 = true ∧ impl_isInstr.fld (impl_isInstr.form op) 2 b 0 15 = true ∧ impl_isInstr.fld (impl_isInstr.form op) 4 c 0 15 = true ∧ impl_isInstr.fld (impl_isInstr.form op) 8 imm (-8192) 8191 = true := by
  unfold impl_isInstr.ok at h
  simp only [Bool.and_eq_true] at h
  obtain ⟨⟨⟨⟨h1, h2⟩, h3⟩, h4⟩, h5⟩ := h
  exact ⟨by simpa using h1, h2, h3, h4, h5⟩
/-- The line of an instruction is read back. -/
theorem read_instr (op a b c imm : Int) (h : impl_isInstr.ok op a b c imm = true) : impl_readLine.f (bs (impl_showInstr.txt op a b c imm)) = some ((3, op, a, b, c, imm, 0, E0) : RL) := by
  obtain ⟨ho, fa, fb, fc, fi⟩ := ok_parts op a b c imm h
  have hF := impl_isInstr.forms op ho
  obtain ⟨n, rfl⟩ := Int.eq_ofNat_of_zero_le ho.1
  obtain ⟨n1, n2, n3, n4, n5, n6⟩ := names_ok ⟨n, by omega⟩
  simp only at n1 n2 n3 n4 n5 n6
  have n2 : (32 : UInt8) ∉ Tab.names.getD n [] := by simpa using n2
  have ra := reg_len (impl_isInstr.form (n : Int)) 1 a (fld_lt _ _ _ fa)
  have rb := reg_len (impl_isInstr.form (n : Int)) 2 b (fld_lt _ _ _ fb)
  have rc := reg_len (impl_isInstr.form (n : Int)) 4 c (fld_lt _ _ _ fc)
  have hi := fld_imm _ _ fi
  have ri : (if impl_isInstr.form (n : Int) / 8 % 2 = 1 then 32 :: Lib.itoa imm else []).length ≤ 12 := by
    have := itoa_len11 imm (by omega)
    split
    · simp; omega
    · simp
  have hlen : (bs (impl_showInstr.txt (n : Int) a b c imm)).size ≤ 80 := by
    rw [bs_size]; unfold impl_showInstr.txt
    simp only [List.length_append, Int.toNat_natCast]; omega
  have t4 : Tl (if impl_isInstr.form (n : Int) / 8 % 2 = 1 then 32 :: Lib.itoa imm else []) := by
    split
    · exact .inr ⟨_, rfl⟩
    · exact .inl rfl
  have t3 := reg_tl (impl_isInstr.form (n : Int)) 4 c _ t4
  have t2 := reg_tl (impl_isInstr.form (n : Int)) 2 b _ t3
  have t1 := reg_tl (impl_isInstr.form (n : Int)) 1 a _ t2
  have hsp : sp (impl_showInstr.txt (n : Int) a b c imm) = Tab.names.getD n [] :: wsT (impl_showInstr.reg (impl_isInstr.form (n : Int)) 1 a ++ (impl_showInstr.reg (impl_isInstr.form (n : Int)) 2 b ++ (impl_showInstr.reg (impl_isInstr.form (n : Int)) 4 c ++ (if impl_isInstr.form (n : Int) / 8 % 2 = 1 then 32 :: Lib.itoa imm else [])))) := by
    unfold impl_showInstr.txt
    rw [Int.toNat_natCast]
    exact sp_tl _ _ n2 t1
  have hF0 : 0 ≤ impl_isInstr.form (n : Int) := by omega
  have hgo : impl_readLine.f (bs (impl_showInstr.txt (n : Int) a b c imm)) = some ((3, (n : Int), a, b, c, imm, 0, E0) : RL) := by
    unfold impl_readLine.f impl_readLine.f0
    rw [if_pos hlen, ws_is, hsp, List.map_cons, List.headD_cons, List.tail_cons]
    unfold impl_readLine.f1
    rw [← nm_bs, n3, if_neg (by simp)]
    unfold impl_readLine.go
    rw [if_neg (by rw [nm_bs, bs_toList]; exact n4), n5, n6, Option.bind_some]
    rw [rd_reg (n : Int) _ hF0 2 1 (by omega) a 0 0 0 fa (by omega) _ t2]
    simp only [if_true, show ¬ (2 : Nat) = 1 by decide, show ¬ (2 : Nat) = 0 by decide, if_false]
    rw [rd_reg (n : Int) _ hF0 1 2 (by omega) b a 0 0 fb (by omega) _ t3]
    simp only [if_true, show ¬ (1 : Nat) = 2 by decide, show ¬ (1 : Nat) = 0 by decide, if_false]
    rw [rd_reg (n : Int) _ hF0 0 4 (by omega) c a b 0 fc (by omega) _ t4]
    simp only [if_true, show ¬ (0 : Nat) = 2 by decide, show ¬ (0 : Nat) = 1 by decide, if_false]
    exact fin_is (n : Int) _ a b c imm hF0 fi
  exact hgo
/-- The line of a word that is no instruction is read back. -/
theorem read_word (v : Int) (hv : 0 ≤ v ∧ v ≤ 4294967295) : impl_readLine.f (bs ([46, 119, 111, 114, 100, 32] ++ Lib.itoa v)) = some ((2, 0, 0, 0, 0, 0, v, E0) : RL) := by
  have hl := itoa_len11 v (by omega)
  have hlen : (bs ([46, 119, 111, 114, 100, 32] ++ Lib.itoa v)).size ≤ 80 := by
    rw [bs_size, List.length_append]; simp; omega
  have hsp : sp ([46, 119, 111, 114, 100, 32] ++ Lib.itoa v) = [[46, 119, 111, 114, 100], Lib.itoa v] := by
    have := sp_app [46, 119, 111, 114, 100] (Lib.itoa v) (by decide)
    rw [sp_one _ (itoa_clean v)] at this
    exact this
  have hgo : impl_readLine.f (bs ([46, 119, 111, 114, 100, 32] ++ Lib.itoa v)) = some ((2, 0, 0, 0, 0, 0, v, E0) : RL) := by
    unfold impl_readLine.f impl_readLine.f0
    rw [if_pos hlen, ws_is, hsp, List.map_cons, List.headD_cons, List.tail_cons]
    unfold impl_readLine.f1
    rw [if_neg (show ¬ impl_readLine.sx (bs [46, 119, 111, 114, 100]) = true by decide +kernel)]
    unfold impl_readLine.go
    rw [if_pos (bs_toList _)]
    unfold impl_readLine.wd
    simp only [List.map_cons, List.map_nil, num_is v 4294967295 (by omega) (by omega), Option.bind_some, if_true]
    rw [if_neg (by omega), show v % 4294967296 = v by omega]
  exact hgo
/-! ### words and instructions -/
def immOf (w : Int) : Int := if 8192 ≤ w % 16384 then w % 16384 - 16384 else w % 16384
theorem decode_is (w : Int) (h0 : 0 ≤ w) (h1 : w < 4294967296) :
    impl_decode.f w = if impl_isInstr.ok (w / 67108864) (w / 4194304 % 16) (w / 262144 % 16) (w / 16384 % 16) (immOf w) = true then some (w / 67108864, w / 4194304 % 16, w / 262144 % 16, w / 16384 % 16, immOf w, true) else some (0, 0, 0, 0, 0, false) := by
  have m4 : ∀ x : Int, 0 ≤ x → x < 4294967296 → Go.bits .and .u32 x 15 = x % 16 := by
    intro x a b
    have := and_mask .u32 4 (by decide) (fun n a b => wraps_u32 n a (by omega)) x
    rwa [show (2 : Int) ^ 4 - 1 = 15 from rfl, show (2 : Int) ^ 4 = 16 from rfl] at this
  have m14 : Go.bits .and .u32 w 16383 = w % 16384 := by
    have := and_mask .u32 14 (by decide) (fun n a b => wraps_u32 n a (by omega)) w
    rwa [show (2 : Int) ^ 14 - 1 = 16383 from rfl, show (2 : Int) ^ 14 = 16384 from rfl] at this
  unfold impl_decode.f impl_isInstr.f
  simp only [Option.bind_some]
  rw [m14, m4 _ (by omega) (by omega), m4 _ (by omega) (by omega), m4 _ (by omega) (by omega)]
  rw [w64 (n := w / 67108864) (by omega) (by omega), w64 (n := w % 16384) (by omega) (by omega), w64 (n := w / 4194304 % 16) (by omega) (by omega), w64 (n := w / 262144 % 16) (by omega) (by omega), w64 (n := w / 16384 % 16) (by omega) (by omega), w64 (n := w % 16384 - 16384) (by omega) (by omega)]
  by_cases h : 8192 ≤ w % 16384
  · have e : immOf w = w % 16384 - 16384 := if_pos h
    rw [e, if_pos (show w % 16384 > 8191 by omega)]
  · have e : immOf w = w % 16384 := if_neg h
    rw [e, if_neg (show ¬ w % 16384 > 8191 by omega)]
theorem encode_eq {a b c d e : Int} (ha : 0 ≤ a ∧ a ≤ 32) (hb : 0 ≤ b ∧ b ≤ 15) (hc : 0 ≤ c ∧ c ≤ 15) (hd : 0 ≤ d ∧ d ≤ 15) (_he : -8192 ≤ e ∧ e ≤ 8191) :
    impl_encode.f a b c d e = some (a * 67108864 + b * 4194304 + c * 262144 + d * 16384 + e % 16384) := by
  unfold impl_encode.f
  have hm : Go.bits .and .u32 (e % 4294967296) 16383 = e % 16384 := by
    have := and_mask .u32 14 (by decide) (fun n a b => wraps_u32 n a (by omega)) (e % 4294967296)
    rw [show (2 : Int) ^ 14 - 1 = 16383 from rfl, show (2 : Int) ^ 14 = 16384 from rfl] at this
    omega
  have j : ∀ (i : Nat) (x y : Int), 0 ≤ x → x % 2 ^ i = 0 → x < 4294967296 → 0 ≤ y → y < 2 ^ i → y < 4294967296 → Go.bits .or .u32 x y = x + y :=
    fun i x y h1 h2 h3 h4 h5 h6 => bits_join .u32 32 (by decide) wraps_u32 i x y h1 h2 h3 h4 h5 h6
  rw [hm]
  have ea : a % 4294967296 * 67108864 % 4294967296 = a * 67108864 := by omega
  have eb : b % 4294967296 * 4194304 % 4294967296 = b * 4194304 := by omega
  have ec : c % 4294967296 * 262144 % 4294967296 = c * 262144 := by omega
  have ed : d % 4294967296 * 16384 % 4294967296 = d * 16384 := by omega
  rw [ea, eb, ec, ed]
  rw [j 26 (a * 67108864) (b * 4194304) (by omega) (by omega) (by omega) (by omega) (by omega) (by omega)]
  rw [j 22 (a * 67108864 + b * 4194304) (c * 262144) (by omega) (by omega) (by omega) (by omega) (by omega) (by omega)]
  rw [j 18 (a * 67108864 + b * 4194304 + c * 262144) (d * 16384) (by omega) (by omega) (by omega) (by omega) (by omega) (by omega)]
  rw [j 14 (a * 67108864 + b * 4194304 + c * 262144 + d * 16384) (e % 16384) (by omega) (by omega) (by omega) (by omega) (by omega) (by omega)]
theorem encode_back (a b c d e : Int) (h : impl_isInstr.ok a b c d e = true) : ∃ w, impl_encode.f a b c d e = some w ∧ impl_decode.f w = some (a, b, c, d, e, true) := by
  obtain ⟨ho, fa, fb, fc, fi⟩ := ok_parts a b c d e h
  have ha := fld_lt _ _ _ fa
  have hb := fld_lt _ _ _ fb
  have hc := fld_lt _ _ _ fc
  have he := fld_imm _ _ fi
  refine ⟨_, encode_eq ho ha hb hc he, ?_⟩
  obtain ⟨w, hw⟩ : ∃ w, w = a * 67108864 + b * 4194304 + c * 262144 + d * 16384 + e % 16384 := ⟨_, rfl⟩
  rw [← hw]
  have e1 : w / 67108864 = a := by omega
  have e2 : w / 4194304 % 16 = b := by omega
  have e3 : w / 262144 % 16 = c := by omega
  have e4 : w / 16384 % 16 = d := by omega
  have e5 : immOf w = e := by unfold immOf; split <;> omega
  rw [decode_is w (by omega) (by omega), e1, e2, e3, e4, e5, if_pos h]
theorem show_ok (a b c d e : Int) (h : impl_isInstr.ok a b c d e = true) : impl_showInstr.f a b c d e = some (bs (impl_showInstr.txt a b c d e)) := by
  obtain ⟨ho, fa, fb, fc, fi⟩ := ok_parts a b c d e h
  have ha := fld_lt _ _ _ fa
  have hb := fld_lt _ _ _ fb
  have hc := fld_lt _ _ _ fc
  have he := fld_imm _ _ fi
  unfold impl_showInstr.f
  rw [if_pos (show impl_showInstr.ok a b c d e from ⟨ho, by omega, by omega, by omega, by omega⟩)]
  rfl
/-! ### one word's line -/
theorem itoa_clean10 (v : Int) : (10 : UInt8) ∉ Lib.itoa v := by
  unfold Lib.itoa
  have h10 : (10 : UInt8).toNat = 10 := rfl
  split
  · intro h
    rcases List.mem_cons.1 h with h | h
    · exact absurd h (by decide)
    · have := digits_all _ _ h; omega
  · intro h
    have := digits_all _ _ h; omega
theorem names_10 : ∀ n : Fin 33, ((Tab.names.getD n.val []).contains 10) = false := by decide +kernel
theorem reg_10 (F bit n : Int) : (10 : UInt8) ∉ impl_showInstr.reg F bit n := by
  unfold impl_showInstr.reg
  split
  · simp only [List.mem_cons, not_or]
    exact ⟨by decide, by decide, itoa_clean10 n⟩
  · simp
theorem txt_10 (op a b c imm : Int) (ho : 0 ≤ op ∧ op ≤ 32) : (10 : UInt8) ∉ impl_showInstr.txt op a b c imm := by
  obtain ⟨n, rfl⟩ := Int.eq_ofNat_of_zero_le ho.1
  have hn := names_10 ⟨n, by omega⟩
  have hn : (10 : UInt8) ∉ Tab.names.getD n [] := by simpa using hn
  unfold impl_showInstr.txt
  simp only [List.mem_append, not_or, Int.toNat_natCast]
  refine ⟨hn, reg_10 _ _ _, reg_10 _ _ _, reg_10 _ _ _, ?_⟩
  split
  · simp only [List.mem_cons, not_or]; exact ⟨by decide, itoa_clean10 imm⟩
  · simp
theorem txt_len (op a b c imm : Int) (h : impl_isInstr.ok op a b c imm = true) : (impl_showInstr.txt op a b c imm).length ≤ 70 := by
  obtain ⟨ho, fa, fb, fc, fi⟩ := ok_parts op a b c imm h
  obtain ⟨n, rfl⟩ := Int.eq_ofNat_of_zero_le ho.1
  obtain ⟨n1, _⟩ := names_ok ⟨n, by omega⟩
  simp only at n1
  have ra := reg_len (impl_isInstr.form (n : Int)) 1 a (fld_lt _ _ _ fa)
  have rb := reg_len (impl_isInstr.form (n : Int)) 2 b (fld_lt _ _ _ fb)
  have rc := reg_len (impl_isInstr.form (n : Int)) 4 c (fld_lt _ _ _ fc)
  have hi := fld_imm _ _ fi
  have ri : (if impl_isInstr.form (n : Int) / 8 % 2 = 1 then 32 :: Lib.itoa imm else []).length ≤ 12 := by
    have := itoa_len11 imm (by omega)
    split
    · simp; omega
    · simp
  unfold impl_showInstr.txt
  simp only [List.length_append, Int.toNat_natCast]; omega
/-- y is the line of the word v. -/
def Ln (v : Int) (y : List UInt8) : Prop := impl_showWord.f v = some (bs y) ∧ y.length ≤ 70 ∧ (10 : UInt8) ∉ y ∧
  ((∃ a b c d e, impl_readLine.f (bs y) = some ((3, a, b, c, d, e, 0, E0) : RL) ∧ impl_encode.f a b c d e = some v) ∨ impl_readLine.f (bs y) = some ((2, 0, 0, 0, 0, 0, v, E0) : RL))
theorem line_of (v : Int) (h0 : 0 ≤ v) (h1 : v < 4294967296) : ∃ y, Ln v y := by
  have hd := decode_is v h0 h1
  by_cases ok : impl_isInstr.ok (v / 67108864) (v / 4194304 % 16) (v / 262144 % 16) (v / 16384 % 16) (immOf v) = true
  · rw [if_pos ok] at hd
    obtain ⟨ho, fa, fb, fc, fi⟩ := ok_parts _ _ _ _ _ ok
    have ha := fld_lt _ _ _ fa
    have hb := fld_lt _ _ _ fb
    have hc := fld_lt _ _ _ fc
    have he := fld_imm _ _ fi
    refine ⟨impl_showInstr.txt (v / 67108864) (v / 4194304 % 16) (v / 262144 % 16) (v / 16384 % 16) (immOf v), ?_, txt_len _ _ _ _ _ ok, txt_10 _ _ _ _ _ ho, .inl ⟨_, _, _, _, _, read_instr _ _ _ _ _ ok, ?_⟩⟩
    · unfold impl_showWord.f
      simp only [hd, Option.bind_some, if_true, show_ok _ _ _ _ _ ok]
    · rw [encode_eq ho ha hb hc he]
      congr 1
      have e5 : immOf v % 16384 = v % 16384 := by unfold immOf; split <;> omega
      rw [e5]; omega
  · rw [if_neg ok] at hd
    have hl := itoa_len11 v (by omega)
    refine ⟨[46, 119, 111, 114, 100, 32] ++ Lib.itoa v, ?_, by rw [List.length_append]; simp; omega, ?_, .inr (read_word v ⟨h0, by omega⟩)⟩
    · unfold impl_showWord.f
      have hi : strconv_Itoa.f v = some (bs (Lib.itoa v)) := by
        unfold strconv_Itoa.f; rw [if_pos ⟨by omega, by omega⟩]; rfl
      simp only [hd, Option.bind_some, Bool.false_eq_true, if_false, w64 (n := v) (by omega) (by omega), impl_DecText.f, hi]
      rw [bs_size, if_pos (by omega), show (⟨#[46, 119, 111, 114, 100, 32]⟩ : ByteArray) = bs [46, 119, 111, 114, 100, 32] from rfl, bs_append]
    · rw [List.mem_append, not_or]; exact ⟨by decide, itoa_clean10 v⟩
/-! ### lines set together -/
def join : List (List UInt8) → List UInt8
  | [] => []
  | y :: t => y ++ 10 :: join t
def LL : List Int → List (List UInt8) → Prop
  | [], [] => True
  | v :: t, y :: u => Ln v y ∧ LL t u
  | _, _ => False
theorem lines_of_words : ∀ vs : List Int, (∀ v ∈ vs, 0 ≤ v ∧ v < 4294967296) → ∃ ys, LL vs ys
  | [], _ => ⟨[], trivial⟩
  | v :: t, h => by
    obtain ⟨y, hy⟩ := line_of v (h v (by simp)).1 (h v (by simp)).2
    obtain ⟨u, hu⟩ := lines_of_words t fun x hx => h x (List.mem_cons_of_mem _ hx)
    exact ⟨y :: u, hy, hu⟩
theorem dis_go : ∀ (vs : List Int) (ys : List (List UInt8)), LL vs ys → impl_Disassemble.go vs = some (join ys) ∧ (∀ y ∈ ys, (10 : UInt8) ∉ y) ∧ ys.length = vs.length ∧ (join ys).length ≤ 71 * vs.length
  | [], [], _ => ⟨rfl, by simp, rfl, Nat.le_refl _⟩
  | [], _ :: _, h => h.elim
  | _ :: _, [], h => h.elim
  | v :: t, y :: u, h => by
    obtain ⟨⟨h1, h2, h3, _⟩, h5⟩ := h
    obtain ⟨g1, g2, g3, g4⟩ := dis_go t u h5
    refine ⟨?_, ?_, by simp [g3], ?_⟩
    · rw [impl_Disassemble.go, h1, Option.bind_some, if_pos (by rw [bs_size]; omega), g1]; rfl
    · intro z hz
      rcases List.mem_cons.1 hz with rfl | hz
      · exact h3
      · exact g2 z hz
    · rw [join, List.length_append, List.length_cons, List.length_cons]; omega
theorem asm_go : ∀ (vs : List Int) (ys : List (List UInt8)), LL vs ys → ∀ (n : Nat) (ws : List Int), ws.length + vs.length ≤ 256 → impl_assemble.l0 (ys.map bs) n ws [] [] = some (ws ++ vs, 0, 0)
  | [], [], _, n, ws, _ => by rw [List.append_nil]; rfl
  | [], _ :: _, h, _, _, _ => h.elim
  | _ :: _, [], h, _, _, _ => h.elim
  | v :: t, y :: u, h, n, ws, hn => by
    obtain ⟨⟨_, h2, _, h4⟩, h5⟩ := h
    rw [List.length_cons] at hn
    have ih := asm_go t u h5 (n + 1) (ws ++ [v]) (by simp; omega)
    have hws : ¬ ws.length = 256 := by omega
    have hrd : impl_assemble.rd (bs y) = impl_readLine.f (bs y) := by unfold impl_assemble.rd; rw [if_pos (by rw [bs_size]; omega)]
    rw [List.append_assoc] at ih
    rw [List.map_cons, impl_assemble.l0, hrd]
    rcases h4 with ⟨a, b, c, d, e, h4, h6⟩ | h4
    · rw [h4, Option.bind_some]
      simp only [show ¬ (3 : Int) = 0 by decide, show ¬ (3 : Int) = 1 by decide, show ¬ (3 : Int) = 4 by decide, if_false, if_neg hws, if_true, h6, Option.bind_some]
      exact ih
    · rw [h4, Option.bind_some]
      simp only [show ¬ (2 : Int) = 0 by decide, show ¬ (2 : Int) = 1 by decide, show ¬ (2 : Int) = 4 by decide, show ¬ (2 : Int) = 3 by decide, if_false, if_neg hws]
      exact ih
theorem labs_go : ∀ (vs : List Int) (ys : List (List UInt8)), LL vs ys → ∀ (n : Nat), impl_LabelsOf.labs (ys.map bs) n [] = some []
  | [], [], _, _ => rfl
  | [], _ :: _, h, _ => h.elim
  | _ :: _, [], h, _ => h.elim
  | v :: t, y :: u, h, n => by
    obtain ⟨⟨_, _, _, h4⟩, h5⟩ := h
    have ih := labs_go t u h5 (n + 1)
    rw [List.map_cons, impl_LabelsOf.labs]
    rcases h4 with ⟨a, b, c, d, e, h4, h6⟩ | h4
    · rw [h4, Option.bind_some]; exact (if_neg (show ¬ (3 : Int) = 1 by decide)).trans ih
    · rw [h4, Option.bind_some]; exact (if_neg (show ¬ (2 : Int) = 1 by decide)).trans ih
theorem sp_join : ∀ ys : List (List UInt8), (∀ y ∈ ys, (10 : UInt8) ∉ y) → SplitN.sp (join ys) = ys ++ [[]]
  | [], _ => rfl
  | y :: t, h => by
    rw [join, SplitN.sp_app y (join t) (h y (by simp)), sp_join t (fun z hz => h z (List.mem_cons_of_mem _ hz))]; rfl
theorem join_last : ∀ ys : List (List UInt8), join ys = [] ∨ (join ys).getLast? = some 10
  | [] => .inl rfl
  | y :: t => by
    right
    rw [join]
    rcases join_last t with h | h
    · rw [h]; simp
    · rw [List.getLast?_append, List.getLast?_cons, h]; rfl
theorem ends_is (s : ByteArray) : impl_assemble.ends s = (s.data.toList.getLast? == some 10) := by
  unfold impl_assemble.ends Lib.hasSuffix
  rw [show (⟨#[10]⟩ : ByteArray).data.toList = [10] from rfl]
  have key : ∀ l : List UInt8, ([10] : List UInt8).isSuffixOf l = (l.getLast? == some 10) := by
    intro l
    rcases List.eq_nil_or_concat l with rfl | ⟨a, c, rfl⟩
    · rfl
    · rw [List.concat_eq_append, List.getLast?_concat]
      by_cases h : c = 10
      · subst h
        rw [List.isSuffixOf_iff_suffix.2 (by simp)]; rfl
      · have h1 : ([10] : List UInt8).isSuffixOf (a ++ [c]) = false := by
          rw [Bool.eq_false_iff]
          intro e
          obtain ⟨t, ht⟩ := List.isSuffixOf_iff_suffix.1 e
          have := (List.append_inj' ht rfl).2
          injection this with h2
          exact h h2.symm
        rw [h1]; simp [h]
  exact key _
theorem lines_of (ys : List (List UInt8)) (hc : ∀ y ∈ ys, (10 : UInt8) ∉ y) : impl_assemble.lines (bs (join ys)) = ys.map bs := by
  unfold impl_assemble.lines impl_assemble.pieces
  rw [SplitN.split_sp, data_bs, sp_join ys hc, ← List.map_dropLast]
  simp only [List.dropLast_concat]
  rfl
theorem fit_of (ys : List (List UInt8)) (h : (join ys).length ≤ 20000) : impl_assemble.fit (bs (join ys)) = true := by
  unfold impl_assemble.fit
  rw [Bool.and_eq_true, Bool.or_eq_true, decide_eq_true_eq, bs_size]
  refine ⟨h, ?_⟩
  rcases join_last ys with h1 | h1
  · left; rw [ByteArray.toList_eq, data_bs, h1]; rfl
  · right; rw [ends_is, data_bs, h1]; rfl
/-- Words, disassembled and assembled. -/
theorem round (vs : List Int) (hv : ∀ v ∈ vs, 0 ≤ v ∧ v < 4294967296) (hn : vs.length ≤ 256) : ∃ x, impl_Disassemble.f vs = some (x, true) ∧ impl_assemble.f x = some (vs, 0, 0) ∧ impl_LabelsOf.f x = some [] := by
  obtain ⟨ys, hl⟩ := lines_of_words vs hv
  obtain ⟨g1, g2, g3, g4⟩ := dis_go vs ys hl
  have hx : impl_assemble.f (bs (join ys)) = some (vs, 0, 0) := by
    unfold impl_assemble.f
    rw [if_pos (by rw [bs_size]; omega), if_pos ⟨fit_of ys (by omega), by rw [lines_of ys g2, List.length_map]; omega⟩, lines_of ys g2]
    exact asm_go vs ys hl 0 [] (by simpa using hn)
  refine ⟨bs (join ys), ?_, hx, ?_⟩
  · unfold impl_Disassemble.f
    rw [if_neg (by omega), g1]; rfl
  · unfold impl_LabelsOf.f
    rw [hx, Option.bind_some, if_pos rfl, lines_of ys g2, labs_go vs ys hl 0]; rfl

end Go.Proofs.YtaophlekfepkgaaGreatDoor.PFnAssemble

/- The number that a text spells, in the reference and in the program, over the print of the law FnExactDecNum. -/
import Derived.Test.YtjoiebnjpipenaaDoorDecTextFnExactDecNum
namespace Go.Proofs.YtjoiebnjpipenaaDoor.PFnExactDecNum
open Go.RowKit Go.Proofs.YtjoiebnjpipenaaDoorW.PrintWords Go.Proofs.YtjoiebnjpipenaaDoorW.PrintLast Go.Proofs.YtjoiebnjpipenaaDoor.Lem

theorem num_in (n a b : Int) : spec_l01In.f n a b = some (decide (a ≤ n ∧ n ≤ b)) := by
  unfold spec_l01In.f
  by_cases h : n ≥ a
  · rw [if_pos h]; congr 1; simp; omega
  · rw [if_neg h]; congr 1; simp; omega
/-- What digits spell. -/
def spell (acc : Int) : List UInt8 → Option Int
  | [] => some acc
  | c :: r => if 48 ≤ c.toNat ∧ c.toNat ≤ 57 then spell (10 * acc + ((c.toNat : Int) - 48)) r else none
theorem spell_snoc (c : UInt8) : ∀ (l : List UInt8) (acc : Int), spell acc (l ++ [c]) = (spell acc l).bind fun x => if 48 ≤ c.toNat ∧ c.toNat ≤ 57 then some (10 * x + ((c.toNat : Int) - 48)) else none := by
  intro l
  induction l with
  | nil => intro acc; simp [spell]
  | cons d l ih =>
    intro acc
    simp only [List.cons_append, spell]
    by_cases h : 48 ≤ d.toNat ∧ d.toNat ≤ 57
    · rw [if_pos h, if_pos h, ih]
    · rw [if_neg h, if_neg h]; rfl
theorem digit_nat (d : Nat) (h : d < 10) : (UInt8.ofNat (48 + d)).toNat = 48 + d := by
  simp [UInt8.toNat_ofNat']; omega
theorem spell_digits (u : Nat) : spell 0 (Lib.decDigits u) = some (u : Int) := by
  induction u using Nat.strongRecOn with
  | _ u ih =>
    by_cases h : u < 10
    · rw [Lib.decDigits, dif_pos h]
      simp only [spell, digit_nat u h]
      rw [if_pos (by omega)]; congr 1; omega
    · rw [Lib.decDigits, dif_neg h, spell_snoc, ih (u / 10) (by omega)]
      simp only [Option.bind_some, digit_nat (u % 10) (Nat.mod_lt _ (by decide))]
      rw [if_pos (by omega)]; congr 1; omega
theorem parse_snoc (c : UInt8) : ∀ (l : List UInt8) (acc x : Nat), Lib.parseUint10 acc l = .ok x → 48 ≤ c.toNat ∧ c.toNat ≤ 57 → x < 1844674407370955162 → x * 10 + (c.toNat - 48) < 18446744073709551616 → Lib.parseUint10 acc (l ++ [c]) = .ok (x * 10 + (c.toNat - 48)) := by
  intro l
  induction l with
  | nil =>
    intro acc x h hc h1 h2
    simp only [Lib.parseUint10] at h
    injection h with h
    subst h
    simp only [List.nil_append, Lib.parseUint10]
    rw [if_pos hc, if_neg (by omega), if_neg (by omega)]
  | cons d l ih =>
    intro acc x h hc h1 h2
    simp only [List.cons_append, Lib.parseUint10] at h ⊢
    split at h
    · rename_i hd
      rw [if_pos hd]
      split at h
      · cases h
      · rename_i h3
        rw [if_neg h3]
        split at h
        · cases h
        · rename_i h4
          rw [if_neg h4]
          exact ih _ _ h hc h1 h2
    · cases h
theorem parse_digits (u : Nat) (hu : u < 9223372036854775809) : Lib.parseUint10 0 (Lib.decDigits u) = .ok u := by
  induction u using Nat.strongRecOn with
  | _ u ih =>
    by_cases h : u < 10
    · rw [Lib.decDigits, dif_pos h]
      simp only [Lib.parseUint10, digit_nat u h]
      rw [if_pos (by omega), if_neg (by omega), if_neg (by omega)]; congr 1; omega
    · rw [Lib.decDigits, dif_neg h]
      have hd := digit_nat (u % 10) (Nat.mod_lt _ (by decide))
      rw [parse_snoc _ _ 0 (u / 10) (ih (u / 10) (by omega) (by omega)) (by rw [hd]; omega) (by omega) (by rw [hd]; omega), hd]
      congr 1; omega
theorem digits_head (u : Nat) : ∃ c r, Lib.decDigits u = c :: r ∧ 48 ≤ c.toNat ∧ c.toNat ≤ 57 := by
  induction u using Nat.strongRecOn with
  | _ u ih =>
    by_cases h : u < 10
    · rw [Lib.decDigits, dif_pos h]
      exact ⟨_, _, rfl, by rw [digit_nat u h]; omega, by rw [digit_nat u h]; omega⟩
    · obtain ⟨c, r, e, h1, h2⟩ := ih (u / 10) (by omega)
      rw [Lib.decDigits, dif_neg h, e]
      exact ⟨c, _, rfl, h1, h2⟩
theorem atoi_itoa (v : Int) (h : -9223372036854775808 ≤ v ∧ v ≤ 9223372036854775807) : Lib.atoiAll (Lib.itoa v) = .ok v := by
  unfold Lib.itoa
  by_cases hn : v < 0
  · rw [if_pos hn]
    obtain ⟨c, r, e, h1, h2⟩ := digits_head v.natAbs
    have hp := parse_digits v.natAbs (by omega)
    have hm : Lib.parseMag (Lib.decDigits v.natAbs) = .ok v.natAbs := by
      unfold Lib.parseMag; rw [if_neg (by rw [e]; simp), hp]
    have h45 : (45 : UInt8).toNat = 45 := rfl
    simp only [Lib.atoiAll, h45]
    rw [if_pos (Or.inr trivial), hm]
    simp only
    rw [if_neg (by simp), if_neg (by omega), if_pos trivial]
    congr 1; omega
  · rw [if_neg hn]
    obtain ⟨c, r, e, h1, h2⟩ := digits_head v.toNat
    have hp := parse_digits v.toNat (by omega)
    have hm : Lib.parseMag (Lib.decDigits v.toNat) = .ok v.toNat := by
      unfold Lib.parseMag; rw [if_neg (by rw [e]; simp), hp]
    rw [e] at hm ⊢
    simp only [Lib.atoiAll]
    rw [if_neg (by omega), hm]
    simp only
    rw [if_neg (by omega), if_neg (by omega), if_neg (by omega)]
    congr 1; omega
/-- What the text must be. -/
def Spells (L : List UInt8) (most v : Int) : Prop := Lib.itoa v = L ∧ (0 ≤ most ∧ most ≤ 4294967295) ∧ (-most ≤ v ∧ v ≤ most)
instance (L : List UInt8) (most v : Int) : Decidable (Spells L most v) := by unfold Spells; exact inferInstance
def fin (L : List UInt8) (most : Int) (x6 : Int) : Option Int → Int × Bool
  | none => (0, false)
  | some n => if Spells L most (if x6 = 1 then -n else n) then ((if x6 = 1 then -n else n), true) else (0, false)
theorem ten_pow : ∀ i : Fin 12, (10 : Int) ^ i.val ≤ 100000000000 := by decide +kernel
theorem bt_at (s : ByteArray) (i : Nat) (h : i < s.data.toList.length) : bt s (i : Int) = ((s.data.toList[i]).toNat : Int) := by
  have h2 : i < s.size := by rw [Array.length_toList] at h; exact h
  unfold bt
  simp only [Int.toNat_natCast]
  rw [dif_pos h2, Array.getElem_toList]
  rfl
theorem toList_eq (s : ByteArray) : s.toList = s.data.toList := ByteArray.toList_eq _
theorem bs_toList (l : List UInt8) : (bs l).toList = l := by rw [toList_eq]; rfl
theorem loop_is (s : ByteArray) (most x6 : Int) (hm : 0 ≤ most ∧ most ≤ 4294967295) (hs : s.data.toList.length ≤ 11) : ∀ d i : Nat, i + d = s.data.toList.length → ∀ acc : Int, 0 ≤ acc → acc < 10 ^ i →
    Evt (fun k => spec_DecNum.l0 k s most x6 acc i) (fin s.data.toList most x6 (spell acc (s.data.toList.drop i))) := by
  have hsz : (s.size : Int) = (s.data.toList.length : Int) := by rw [Array.length_toList]; rfl
  intro d
  induction d with
  | zero =>
    intro i hi acc h0 h1
    have hp : (10 : Int) ^ i ≤ 100000000000 := ten_pow ⟨i, by omega⟩
    rw [List.drop_eq_nil_of_le (by omega)]
    simp only [spell, fin]
    by_cases hx : x6 = 1
    · refine ev_step (g := fun k => (spec_DecText.f k (-acc)).bind fun t => (if t.toList = s.toList then (if -acc > most then (some (0, false)) else (if -acc < -most then (some (0, false)) else (some (-acc, true)))) else (some (0, false)))) (fun k => ?_) (ev_bind (dec_is (-acc) (by omega) (by omega)) (ev_of fun k => ?_))
      · simp only [spec_DecNum.l0]
        rw [if_neg (by omega), if_pos hx, w64 (n := -acc) (by omega) (by omega), w64 (n := -most) (by omega) (by omega)]
      · rw [bs_toList, toList_eq, if_pos hx]
        by_cases e : Lib.itoa (-acc) = s.data.toList
        · rw [if_pos e]
          by_cases e2 : -acc > most
          · rw [if_pos e2, if_neg (fun x => by have := x.2.2; omega)]
          · rw [if_neg e2]
            by_cases e3 : -acc < -most
            · rw [if_pos e3, if_neg (fun x => by have := x.2.2; omega)]
            · rw [if_neg e3, if_pos ⟨e, hm, by omega⟩]
        · rw [if_neg e, if_neg (fun x => e x.1)]
    · refine ev_step (g := fun k => (spec_DecText.f k acc).bind fun t => (if t.toList = s.toList then (if acc > most then (some (0, false)) else (if acc < -most then (some (0, false)) else (some (acc, true)))) else (some (0, false)))) (fun k => ?_) (ev_bind (dec_is acc (by omega) (by omega)) (ev_of fun k => ?_))
      · simp only [spec_DecNum.l0]
        rw [if_neg (by omega), if_neg hx, w64 (n := -most) (by omega) (by omega)]
      · rw [bs_toList, toList_eq, if_neg hx]
        by_cases e : Lib.itoa acc = s.data.toList
        · rw [if_pos e]
          by_cases e2 : acc > most
          · rw [if_pos e2, if_neg (fun x => by have := x.2.2; omega)]
          · rw [if_neg e2]
            by_cases e3 : acc < -most
            · rw [if_pos e3, if_neg (fun x => by have := x.2.2; omega)]
            · rw [if_neg e3, if_pos ⟨e, hm, by omega⟩]
        · rw [if_neg e, if_neg (fun x => e x.1)]
  | succ d ih =>
    intro i hi acc h0 h1
    have hlt : i < s.data.toList.length := by omega
    have hp : (10 : Int) ^ i ≤ 100000000000 := ten_pow ⟨i, by omega⟩
    have hp1 : (10 : Int) ^ (i + 1) ≤ 100000000000 := ten_pow ⟨i + 1, by omega⟩
    have hb := bt_at s i hlt
    have hbl : ((s.data.toList[i]).toNat : Int) < 256 := by have := (s.data.toList[i]).toNat_lt; omega
    rw [List.drop_eq_getElem_cons hlt]
    simp only [spell]
    by_cases hc : 48 ≤ (s.data.toList[i]).toNat ∧ (s.data.toList[i]).toNat ≤ 57
    · rw [if_pos hc]
      have h10 : (10 : Int) ^ (i + 1) = 10 ^ i * 10 := Int.pow_succ _ _
      simp only [h10] at hp1
      refine ev_step (fun k => ?_) (ih (i + 1) (by omega) (10 * acc + (((s.data.toList[i]).toNat : Int) - 48)) (by omega) (by rw [h10]; omega))
      simp only [spec_DecNum.l0]
      rw [if_pos (by omega), if_pos (by omega), hb, w64 (n := ((s.data.toList[i]).toNat : Int)) (by omega) (by omega), w64 (n := ((s.data.toList[i]).toNat : Int) - 48) (by omega) (by omega), num_in, decide_eq_true (by omega)]
      simp only [Option.bind_some, if_true]
      rw [w64 (n := 10 * acc) (by omega) (by omega), w64 (n := 10 * acc + (((s.data.toList[i]).toNat : Int) - 48)) (by omega) (by omega), w64 (n := (i : Int) + 1) (by omega) (by omega)]
      rfl
    · rw [if_neg hc]
      refine ev_end fun k => ?_
      simp only [spec_DecNum.l0]
      rw [if_pos (by omega), if_pos (by omega), hb, w64 (n := ((s.data.toList[i]).toNat : Int)) (by omega) (by omega), w64 (n := ((s.data.toList[i]).toNat : Int) - 48) (by omega) (by omega), num_in, decide_eq_false (by omega)]
      rfl
theorem itoa_len11 (v : Int) (h : -4294967295 ≤ v ∧ v ≤ 4294967295) : (Lib.itoa v).length ≤ 11 := by
  have dl : ∀ (j : Nat) (u : Nat), u < 10 ^ (j + 1) → (Lib.decDigits u).length ≤ j + 1 := by
    intro j
    induction j with
    | zero => intro u h; rw [Lib.decDigits, dif_pos (by simpa using h)]; simp
    | succ j ih =>
      intro u h
      by_cases h10 : u < 10
      · rw [Lib.decDigits, dif_pos h10]; simp
      · rw [Lib.decDigits, dif_neg h10, List.length_append]
        have := ih (u / 10) (by rw [Nat.pow_succ] at h; exact Nat.div_lt_of_lt_mul (by rw [Nat.mul_comm]; exact h))
        simp; omega
  unfold Lib.itoa
  by_cases hn : v < 0
  · rw [if_pos hn]
    have := dl 9 v.natAbs (by omega)
    simp; omega
  · rw [if_neg hn]
    have := dl 9 v.toNat (by omega)
    omega
/-- What both give. -/
theorem num_both (s : ByteArray) (most : Int) (hs : s.size ≤ 281474976710656) (hmost : -9223372036854775808 ≤ most ∧ most ≤ 9223372036854775807) : ∃ r : Int × Bool, Evt (fun k => spec_DecNum.f k s most) r ∧ impl_DecNum.f s most = some r ∧ ∀ v, Spells s.data.toList most v → r = (v, true) := by
  have hsz : (s.size : Int) = (s.data.toList.length : Int) := by rw [Array.length_toList]; rfl
  have himpl : impl_DecNum.f s most = (match Lib.atoiAll s.data.toList with
    | .ok v => if Spells s.data.toList most v then some (v, true) else some (0, false)
    | _ => some (0, false)) := by
    unfold impl_DecNum.f
    rw [if_pos hs]
    cases Lib.atoiAll s.data.toList with
    | ok v =>
      simp only
      by_cases h : Spells s.data.toList most v
      · rw [if_pos h, if_pos (show _ ∧ _ from h)]
      · rw [if_neg h, if_neg (show ¬ (_ ∧ _) from h)]
    | range => rfl
    | _ => rfl
  -- the reference's value
  have hspec : ∃ r : Int × Bool, Evt (fun k => spec_DecNum.f k s most) r ∧ (r = (0, false) ∨ ∃ v, Spells s.data.toList most v ∧ r = (v, true)) ∧ (∀ v, Spells s.data.toList most v → r = (v, true)) := by
    by_cases hg : (0 ≤ most ∧ most ≤ 4294967295) ∧ 0 < s.data.toList.length ∧ s.data.toList.length ≤ 11
    · obtain ⟨hm, hl0, hl1⟩ := hg
      have hb := bt_at s 0 hl0
      have start : ∀ (x6 : Nat), (x6 : Int) = (if ((s.data.toList[0]).toNat : Int) = 45 then 1 else 0) → x6 ≤ s.data.toList.length → Evt (fun k => spec_DecNum.f k s most) (fin s.data.toList most x6 (spell 0 (s.data.toList.drop x6))) := by
        intro x6 hx hx2
        have h1 := loop_is s most x6 hm hl1 (s.data.toList.length - x6) x6 (by omega) 0 (by omega) (by exact Int.pow_pos (by decide))
        have h2 : Evt (fun k => spec_DecNum.j1 k s most x6) (fin s.data.toList most x6 (spell 0 (s.data.toList.drop x6))) := ev_step (fun k => by simp only [spec_DecNum.j1]) h1
        have h3 : Evt (fun k => spec_DecNum.j0 k s most false) (fin s.data.toList most x6 (spell 0 (s.data.toList.drop x6))) := by
          refine ev_step (fun k => ?_) h2
          simp only [spec_DecNum.j0]
          rw [if_neg (by simp), if_pos (by omega)]
          have hb' : bt s 0 = ((s.data.toList[0]).toNat : Int) := hb
          rw [hb', hx]
          by_cases e : ((s.data.toList[0]).toNat : Int) = 45
          · rw [if_pos e, if_pos e]
          · rw [if_neg e, if_neg e]
        unfold spec_DecNum.f
        simp only [num_in, decide_eq_true hm, Option.bind_some, if_true]
        simp only [if_neg (show ¬ (s.size : Int) = 0 by omega), decide_eq_false (show ¬ (s.size : Int) > 11 by omega)]
        exact h3
      by_cases e45 : ((s.data.toList[0]).toNat : Int) = 45
      · refine ⟨_, start 1 (by rw [if_pos e45]; rfl) (by omega), ?_, ?_⟩
        · cases hsp : spell 0 (s.data.toList.drop 1) with
          | none => exact .inl rfl
          | some n =>
            simp only [fin]
            by_cases hv : Spells s.data.toList most (-n)
            · exact .inr ⟨-n, hv, by simp [hv]⟩
            · exact .inl (by simp [hv])
        · intro v hv
          obtain ⟨hv1, _, hv3⟩ := hv
          have hneg : v < 0 := by
            by_cases hn : v < 0
            · exact hn
            · unfold Lib.itoa at hv1
              rw [if_neg hn] at hv1
              obtain ⟨c, r, e, h1, h2⟩ := digits_head v.toNat
              rw [e] at hv1
              have : s.data.toList[0] = c := by simp [← hv1]
              rw [this] at e45; omega
          have hd : s.data.toList.drop 1 = Lib.decDigits v.natAbs := by
            rw [← hv1]; unfold Lib.itoa; rw [if_pos hneg]; rfl
          rw [hd, spell_digits]
          have hnv : (-(v.natAbs : Int)) = v := by omega
          have h11 : ((1 : Nat) : Int) = 1 := rfl
          simp only [fin, h11, if_true, hnv]
          rw [if_pos ⟨hv1, hm, hv3⟩]
      · refine ⟨_, start 0 (by rw [if_neg e45]; rfl) (by omega), ?_, ?_⟩
        · cases hsp : spell 0 (s.data.toList.drop 0) with
          | none => exact .inl rfl
          | some n =>
            simp only [fin]
            by_cases hv : Spells s.data.toList most n
            · exact .inr ⟨n, hv, by simp [hv]⟩
            · exact .inl (by simp [hv])
        · intro v hv
          obtain ⟨hv1, _, hv3⟩ := hv
          have hneg : ¬ v < 0 := by
            intro hn
            unfold Lib.itoa at hv1
            rw [if_pos hn] at hv1
            have : s.data.toList[0] = 45 := by simp [← hv1]
            rw [this] at e45; exact e45 rfl
          have hd : s.data.toList.drop 0 = Lib.decDigits v.toNat := by
            rw [← hv1]; unfold Lib.itoa; rw [if_neg hneg]; rfl
          rw [hd, spell_digits]
          have hnv : ((v.toNat : Nat) : Int) = v := by omega
          have h00 : ¬ ((0 : Nat) : Int) = 1 := by decide
          simp only [fin, h00, if_false, hnv]
          rw [if_pos ⟨hv1, hm, hv3⟩]
    · refine ⟨(0, false), ?_, .inl rfl, ?_⟩
      · unfold spec_DecNum.f
        have hj : Evt (fun k => spec_DecNum.j0 k s most true) (0, false) := ev_end fun k => by simp [spec_DecNum.j0]
        simp only [num_in, Option.bind_some]
        by_cases hm : 0 ≤ most ∧ most ≤ 4294967295
        · simp only [decide_eq_true hm, if_true]
          by_cases h0 : (s.size : Int) = 0
          · simp only [if_pos h0]; exact hj
          · simp only [if_neg h0, decide_eq_true (show (s.size : Int) > 11 by omega)]; exact hj
        · simp only [decide_eq_false hm, Bool.false_eq_true, if_false]; exact hj
      · rintro v ⟨hv1, hm, hv3⟩
        have h1 := itoa_len11 v (by omega)
        rw [hv1] at h1
        have h2 : 0 < s.data.toList.length := by
          rw [← hv1]; unfold Lib.itoa
          split
          · simp
          · obtain ⟨c, r, e, _⟩ := digits_head v.toNat
            rw [e]; simp
        exact absurd ⟨hm, h2, h1⟩ hg
  obtain ⟨r, r1, r2, r3⟩ := hspec
  refine ⟨r, r1, ?_, r3⟩
  rw [himpl]
  rcases r2 with rfl | ⟨v, hv, rfl⟩
  · cases hc : Lib.atoiAll s.data.toList with
    | ok v =>
      simp only
      by_cases hv : Spells s.data.toList most v
      · have := r3 v hv
        simp at this
      · rw [if_neg hv]
    | range => rfl
    | _ => rfl
  · have := atoi_itoa v (by have := hv.2; omega)
    rw [hv.1] at this
    rw [this]
    simp only
    rw [if_pos hv]

end Go.Proofs.YtjoiebnjpipenaaDoor.PFnExactDecNum

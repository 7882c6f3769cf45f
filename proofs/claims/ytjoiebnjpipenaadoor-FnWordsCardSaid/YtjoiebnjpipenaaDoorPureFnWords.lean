/- FnWords: turning left and right again, bytes and back, hexadecimal and back, decimal and back, SextWord's sign: for every code (of more than 2^20 bytes the statement asks nothing). No condition. -/
import Derived.Test.YtjoiebnjpipenaaDoorPFnWordsx
import Derived.Test.YtjoiebnjpipenaaDoorLem
namespace Go.Proofs.YtjoiebnjpipenaaDoor.Pure
open Go.RowKit Go.Proofs.YtjoiebnjpipenaaDoor.PFnWords Go.Proofs.YtjoiebnjpipenaaDoorW.PrintWords Go.Proofs.YtjoiebnjpipenaaDoorW.PrintLast Go.Proofs.YtjoiebnjpipenaaDoor.Lem

/-- From some number of rounds on, f gives r. -/
def Evt {α : Type} (f : Nat → Option α) (r : α) : Prop := ∃ K, ∀ k, K ≤ k → f k = some r
theorem ev_of {α : Type} {f : Nat → Option α} {r : α} (h : ∀ k, f k = some r) : Evt f r := ⟨0, fun k _ => h k⟩
theorem ev_step {α : Type} {f g : Nat → Option α} {r : α} (h : ∀ k, f (k + 1) = g k) (hg : Evt g r) : Evt f r := by
  obtain ⟨K, hK⟩ := hg
  refine ⟨K + 1, fun k hk => ?_⟩
  obtain ⟨k, rfl⟩ : ∃ m, k = m + 1 := ⟨k - 1, by omega⟩
  rw [h, hK k (by omega)]
theorem ev_end {α : Type} {f : Nat → Option α} {r : α} (h : ∀ k, f (k + 1) = some r) : Evt f r := ev_step (g := fun _ => some r) h (ev_of fun _ => rfl)
theorem ev_bind {α β : Type} {g : Nat → Option α} {h : Nat → α → Option β} {t : α} {r : β} (hg : Evt g t) (hh : Evt (fun k => h k t) r) : Evt (fun k => (g k).bind (h k)) r := by
  obtain ⟨K, hK⟩ := hg
  obtain ⟨M, hM⟩ := hh
  refine ⟨K + M, fun k hk => ?_⟩
  simp only [hK k (by omega), Option.bind_some]
  exact hM k (by omega)
theorem ev_both {α β : Type} {f : Nat → Option α} {g : Nat → Option β} {r : α} {s : β} (hf : Evt f r) (hg : Evt g s) : Evt (fun k => (f k).bind fun a => (g k).bind fun b => some (a, b)) (r, s) :=
  ev_bind hf (ev_bind hg (ev_of fun _ => rfl))
/-- A scan that ends at n. -/
theorem ev_scan {α : Type} (g : Nat → Int → Option α) (r : α) (n : Nat) (hs : ∀ i : Nat, i < n → Evt (fun k => g k ((i + 1 : Nat) : Int)) r → Evt (fun k => g k i) r) (he : Evt (fun k => g k n) r) :
    Evt (fun k => g k 0) r := by
  have key : ∀ d i : Nat, i + d = n → Evt (fun k => g k i) r := by
    intro d
    induction d with
    | zero => intro i hi; obtain rfl : i = n := by omega
              exact he
    | succ d ih => intro i hi; exact hs i (by omega) (ih (i + 1) (by omega))
  simpa using key n 0 (by omega)
/-- A list that is turned, one by one, into a new one. -/
theorem ev_copy {α β : Type} (z : β) (cv : α → β) (l : List α) (g : Nat → List β → Int → Option (List β))
    (hs : ∀ (x : List β) (i : Nat) (h : i < l.length) (r : List β), x.length = l.length → Evt (fun k => g k (x.set i (cv l[i])) ((i + 1 : Nat) : Int)) r → Evt (fun k => g k x i) r)
    (he : ∀ x : List β, x.length = l.length → Evt (fun k => g k x l.length) x) : Evt (fun k => g k (List.replicate l.length z) 0) (l.map cv) := by
  have key : ∀ d i : Nat, i + d = l.length → Evt (fun k => g k ((l.map cv).take i ++ List.replicate d z) i) (l.map cv) := by
    intro d
    induction d with
    | zero =>
      intro i hi
      obtain rfl : i = l.length := by omega
      have := he ((l.map cv).take l.length ++ List.replicate 0 z) (by simp)
      have e : (l.map cv).take l.length ++ List.replicate 0 z = l.map cv := by
        rw [List.take_of_length_le (by simp)]; simp
      rw [e] at this ⊢; exact this
    | succ d ih =>
      intro i hi
      have hlt : i < l.length := by omega
      refine hs _ i hlt _ (by simp; omega) ?_
      have e : ((l.map cv).take i ++ List.replicate (d + 1) z).set i (cv l[i]) = (l.map cv).take (i + 1) ++ List.replicate d z := by
        rw [List.set_append_right _ _ (by simp; omega)]
        have : i - ((l.map cv).take i).length = 0 := by simp; omega
        rw [this, List.replicate_succ, List.set_cons_zero, List.take_succ_eq_append_getElem (by simpa using hlt), List.append_assoc]
        simp
      rw [e]
      exact ih (i + 1) (by omega)
  have := key l.length 0 (by omega)
  simpa using this
theorem byte_is (b : List Int) (hb : b.length ≤ 4611686018427387904) (i h : Int) (hi : 0 ≤ i) : ∃ x i' h', spec_l01Byte.f b i h = some (x, i', h') ∧ 0 ≤ x ∧ x ≤ 255 ∧ 0 ≤ i' := by
  have m : ∀ y : Int, Go.bits .and .i64 y 255 = y % 256 := by
    intro y
    have := and_mask .i64 8 (by decide) (fun n a b => wraps_i64 n a (by omega)) y
    rwa [show (2 : Int) ^ 8 - 1 = 255 from rfl, show (2 : Int) ^ 8 = 256 from rfl] at this
  unfold spec_l01Byte.f
  by_cases h1 : i < (b.length : Int)
  · rw [if_pos h1, if_pos hi]
    refine ⟨_, _, _, rfl, ?_, ?_, ?_⟩
    · rw [m]; omega
    · rw [m]; omega
    · rw [w64 (by omega) (by omega)]; omega
  · rw [if_neg h1]
    refine ⟨_, _, _, rfl, ?_, ?_, hi⟩
    · rw [m]; omega
    · rw [m]; omega
theorem below_is (b : List Int) (hb : b.length ≤ 4611686018427387904) (i h n : Int) (hi : 0 ≤ i) : ∃ r i' h', spec_l01Below.f b i h n = some (r, i', h') ∧ 0 ≤ r ∧ (0 < n → r < n) ∧ (n ≤ 0 → r = 0) ∧ 0 ≤ i' := by
  unfold spec_l01Below.f
  by_cases h0 : n ≤ 0
  · rw [if_pos h0]; exact ⟨_, _, _, rfl, by omega, by omega, fun _ => rfl, hi⟩
  · rw [if_neg h0]
    obtain ⟨x1, i1, h1, e1, a1, b1, c1⟩ := byte_is b hb i h hi
    by_cases h2 : n ≤ 256
    · rw [if_pos h2, e1]
      simp only [Option.bind_some]
      rw [if_neg (by omega), tmod_pos a1]
      exact ⟨_, _, _, rfl, Int.emod_nonneg _ (by omega), fun _ => Int.emod_lt_of_pos _ (by omega), by omega, c1⟩
    · rw [if_neg h2]
      obtain ⟨x2, i2, h2', e2, a2, b2, c2⟩ := byte_is b hb i1 h1 c1
      obtain ⟨x3, i3, h3, e3, a3, b3, c3⟩ := byte_is b hb i2 h2' c2
      obtain ⟨x4, i4, h4, e4, a4, b4, c4⟩ := byte_is b hb i3 h3 c3
      simp only [e1, e2, e3, e4, Option.bind_some]
      rw [if_neg (by omega)]
      rw [w64 (n := x1 * 16777216) (by omega) (by omega), w64 (n := x2 * 65536) (by omega) (by omega), w64 (n := x3 * 256) (by omega) (by omega), w64 (n := x1 * 16777216 + x2 * 65536) (by omega) (by omega),
        w64 (n := x1 * 16777216 + x2 * 65536 + x3 * 256) (by omega) (by omega), w64 (n := x1 * 16777216 + x2 * 65536 + x3 * 256 + x4) (by omega) (by omega), tmod_pos (by omega)]
      exact ⟨_, _, _, rfl, Int.emod_nonneg _ (by omega), fun _ => Int.emod_lt_of_pos _ (by omega), by omega, c4⟩
theorem new_is (b : List Int) (hb : b.length ≤ 4611686018427387904) : ∀ (d i k : Nat) (h : Int), i + d = b.length → d < k → ∃ h', spec_l01New.l0 k b h i = some (b, 0, h') := by
  intro d
  induction d with
  | zero =>
    intro i k h hi hk
    obtain ⟨k, rfl⟩ : ∃ m, k = m + 1 := ⟨k - 1, by omega⟩
    exact ⟨h, by simp only [spec_l01New.l0]; rw [if_neg (by omega)]⟩
  | succ d ih =>
    intro i k h hi hk
    obtain ⟨k, rfl⟩ : ∃ m, k = m + 1 := ⟨k - 1, by omega⟩
    simp only [spec_l01New.l0]
    rw [if_pos (by omega)]
    by_cases h4 : (i : Int) < 4000
    · rw [if_pos h4, if_pos (by omega), w64 (n := (i : Int) + 1) (by omega) (by omega)]
      exact ih (i + 1) k _ (by omega) (by omega)
    · rw [if_neg h4]; exact ⟨h, rfl⟩
theorem drawn (b : List Int) (hb : b.length ≤ 4611686018427387904) (k : Nat) (hk : b.length < k) : ∃ h', spec_l01New.f k b = some (b, 0, h') := new_is b hb b.length 0 k _ (by omega) hk
theorem pick_is (b : List Int) (hb : b.length ≤ 4611686018427387904) (i h : Int) (l : List Int) (hl : 0 < l.length) (hi : 0 ≤ i) : ∃ r i' h', spec_l01PickInt.f b i h l = some (r, i', h') ∧ r ∈ l ∧ 0 ≤ i' := by
  obtain ⟨r, i', h', e, a, c, _, d⟩ := below_is b hb i h (l.length : Int) hi
  unfold spec_l01PickInt.f
  rw [e]
  simp only [Option.bind_some]
  have hr := c (by omega)
  rw [if_pos a, if_pos hr]
  refine ⟨_, _, _, rfl, ?_, d⟩
  obtain ⟨j, rfl⟩ := Int.eq_ofNat_of_zero_le a
  rw [rd_at l j (by omega)]
  exact List.getElem_mem _
theorem word_is (b : List Int) (hb : b.length ≤ 4611686018427387904) (i h : Int) (hi : 0 ≤ i) : ∃ x i' h', spec_l01Word.f b i h = some (x, i', h') ∧ (0 ≤ x ∧ x < 4294967296) ∧ 0 ≤ i' := by
  unfold spec_l01Word.f
  obtain ⟨x1, i1, h1, e1, a1, b1, c1, d1⟩ := below_is b hb i h 4 hi
  rw [e1]
  simp only [Option.bind_some]
  by_cases z0 : x1 = 0
  · rw [if_pos z0]
    obtain ⟨x2, i2, h2, e2, a2, b2, c2, d2⟩ := below_is b hb i1 h1 11 d1
    have hb2 := b2 (by omega)
    have : spec_l01PickInt.f b i1 h1 [0, 1, 2, 31, 32, 255, 256, 2147483647, 2147483648, 4294967295, 4294967294] = some (rd [0, 1, 2, 31, 32, 255, 256, 2147483647, 2147483648, 4294967295, 4294967294] x2, i2, h2) := by
      unfold spec_l01PickInt.f
      have hL : ((([0, 1, 2, 31, 32, 255, 256, 2147483647, 2147483648, 4294967295, 4294967294] : List Int).length : Nat) : Int) = 11 := rfl
      simp only [hL, e2, Option.bind_some]
      rw [if_pos a2, if_pos hb2]
    rw [this]
    exact ⟨_, _, _, rfl, by simp only; omega, d2⟩
  · rw [if_neg z0]
    by_cases z1 : x1 = 1
    · rw [if_pos z1]
      obtain ⟨x2, i2, h2, e2, a2, b2, c2, d2⟩ := below_is b hb i1 h1 300 d1
      rw [e2]
      exact ⟨_, _, _, rfl, by simp only; omega, d2⟩
    · rw [if_neg z1]
      obtain ⟨x2, i2, h2, e2, a2, b2, c2, d2⟩ := below_is b hb i1 h1 65536 d1
      obtain ⟨x3, i3, h3, e3, a3, b3, c3, d3⟩ := below_is b hb i2 h2 65536 d2
      rw [e2]
      simp only [Option.bind_some]
      rw [e3]
      exact ⟨_, _, _, rfl, by simp only; omega, d3⟩
theorem at_is (b : List Int) (hb : b.length ≤ 1048576) (hw : ∀ x ∈ b, (Lit.int .u8 x).wf = true) (i : Int) (hi : 0 ≤ i ∧ i ≤ 100) : ∃ x, laws_at.f b i = some x ∧ 0 ≤ x ∧ x ≤ 255 := by
  unfold laws_at.f
  by_cases h : i < (b.length : Int)
  · rw [if_pos h, if_pos hi.1]
    obtain ⟨n, rfl⟩ := Int.eq_ofNat_of_zero_le hi.1
    have hn : n < b.length := by omega
    have := u8_of (hw _ (List.getElem_mem hn))
    have e := rd_at b n hn
    refine ⟨_, rfl, ?_⟩
    rw [show ((n : Nat) : Int) = Int.ofNat n from rfl] at *
    rw [e, w64 (by omega) (by omega)]; omega
  · rw [if_neg h, w64 (n := i * 7) (by omega) (by omega), w64 (by omega) (by omega), tmod_pos (by omega)]
    exact ⟨_, rfl, by omega, by omega⟩
theorem rotl_is {x : Int} (x0 : 0 ≤ x) (x1 : x < 4294967296) {s : Nat} (hs1 : s ≤ 31) : bits_RotateLeft32.f x s = some (rot x s) := by
  unfold bits_RotateLeft32.f
  exact rotl_eq x0 x1 hs1
theorem and31 {n : Int} {s : Nat} (hs : n % 32 = s) : Go.bits .and .i64 n 31 = s := by
  have := and_mask .i64 5 (by decide) (fun n a b => wraps_i64 n a (by omega)) n
  rw [show (2 : Int) ^ 5 - 1 = 31 from rfl, show (2 : Int) ^ 5 = 32 from rfl] at this
  rw [this, hs]
theorem sext_bit_at {x : Int} (c j : Nat) (hc : c ≤ 31) (hj : j ≤ 31) :
    (wrap32 (x * 2 ^ c % 4294967296) / 2 ^ c % 4294967296) / 2 ^ j % 2 = x / 2 ^ (min j (31 - c)) % 2 := by
  have e32 : (4294967296 : Int) = 2 ^ 32 := rfl
  have hz0 : 0 ≤ x * 2 ^ c % 4294967296 := Int.emod_nonneg _ (by omega)
  have hz1 : x * 2 ^ c % 4294967296 < 4294967296 := Int.emod_lt_of_pos _ (by omega)
  have h1 := bit_mod (wrap32 (x * 2 ^ c % 4294967296) / 2 ^ c) j 32 (by omega)
  rw [← e32] at h1
  rw [h1, ediv_pow, sign_bit _ hz0 hz1, e32, bit_mod _ _ 32 (by omega)]
  have e : min (c + j) 31 = c + min j (31 - c) := by omega
  rw [e, ← ediv_pow, Int.mul_ediv_cancel _ (Int.ne_of_gt (pow_pos' c))]
theorem word_eq {a b c d : Int} (a0 : 0 ≤ a) (a1 : a < 256) (b0 : 0 ≤ b) (b1 : b < 256) (c0 : 0 ≤ c) (c1 : c < 256) (d0 : 0 ≤ d) (d1 : d < 256) :
    Go.bits .or .u32 (Go.bits .or .u32 (Go.bits .or .u32 (a % 4294967296) (b % 4294967296 * 256 % 4294967296)) (c % 4294967296 * 65536 % 4294967296)) (d % 4294967296 * 16777216 % 4294967296)
      = a + 256 * b + 65536 * c + 16777216 * d := by
  rw [or_low 8 (a % 4294967296) _ (by omega) (by omega) (by omega) (by omega) (by omega) (by omega)]
  rw [or_low 16 (b % 4294967296 * 256 % 4294967296 + a % 4294967296) _ (by omega) (by omega) (by omega) (by omega) (by omega) (by omega)]
  rw [or_low 24 (c % 4294967296 * 65536 % 4294967296 + _) _ (by omega) (by omega) (by omega) (by omega) (by omega) (by omega)]
  omega
theorem digit_nat (d : Nat) (h : d < 10) : (UInt8.ofNat (48 + d)).toNat = 48 + d := by
  simp [UInt8.toNat_ofNat']; omega
theorem parse_snoc (c : UInt8) : ∀ (l : List UInt8) (acc x : Nat), Lib.parseUint10 acc l = .ok x → 48 ≤ c.toNat ∧ c.toNat ≤ 57 → x < 1844674407370955162 → x * 10 + (c.toNat - 48) < 18446744073709551616 → Lib.parseUint10 acc (l ++ [c]) = .ok (x * 10 + (c.toNat - 48)) := by
  intro l
  induction l with
  | nil =>
    intro acc x h hc h1 h2
    simp only [Lib.parseUint10] at h
    injection h with h
    subst h
    simp only [List.nil_append, Lib.parseUint10]
    rw [if_pos hc, if_neg (by omega), if_neg (by omega)]
  | cons d l ih =>
    intro acc x h hc h1 h2
    simp only [List.cons_append, Lib.parseUint10] at h ⊢
    split at h
    · rename_i hd
      rw [if_pos hd]
      split at h
      · cases h
      · rename_i h3
        rw [if_neg h3]
        split at h
        · cases h
        · rename_i h4
          rw [if_neg h4]
          exact ih _ _ h hc h1 h2
    · cases h
theorem parse_digits (u : Nat) (hu : u < 9223372036854775809) : Lib.parseUint10 0 (Lib.decDigits u) = .ok u := by
  induction u using Nat.strongRecOn with
  | _ u ih =>
    by_cases h : u < 10
    · rw [Lib.decDigits, dif_pos h]
      simp only [Lib.parseUint10, digit_nat u h]
      rw [if_pos (by omega), if_neg (by omega), if_neg (by omega)]; congr 1; omega
    · rw [Lib.decDigits, dif_neg h]
      have hd := digit_nat (u % 10) (Nat.mod_lt _ (by decide))
      rw [parse_snoc _ _ 0 (u / 10) (ih (u / 10) (by omega) (by omega)) (by rw [hd]; omega) (by omega) (by rw [hd]; omega), hd]
      congr 1; omega
theorem digits_head (u : Nat) : ∃ c r, Lib.decDigits u = c :: r ∧ 48 ≤ c.toNat ∧ c.toNat ≤ 57 := by
  induction u using Nat.strongRecOn with
  | _ u ih =>
    by_cases h : u < 10
    · rw [Lib.decDigits, dif_pos h]
      exact ⟨_, _, rfl, by rw [digit_nat u h]; omega, by rw [digit_nat u h]; omega⟩
    · obtain ⟨c, r, e, h1, h2⟩ := ih (u / 10) (by omega)
      rw [Lib.decDigits, dif_neg h, e]
      exact ⟨c, _, rfl, h1, h2⟩
theorem atoi_itoa (v : Int) (h : -9223372036854775808 ≤ v ∧ v ≤ 9223372036854775807) : Lib.atoiAll (Lib.itoa v) = .ok v := by
  unfold Lib.itoa
  by_cases hn : v < 0
  · rw [if_pos hn]
    obtain ⟨c, r, e, h1, h2⟩ := digits_head v.natAbs
    have hp := parse_digits v.natAbs (by omega)
    have hm : Lib.parseMag (Lib.decDigits v.natAbs) = .ok v.natAbs := by
      unfold Lib.parseMag; rw [if_neg (by rw [e]; simp), hp]
    have h45 : (45 : UInt8).toNat = 45 := rfl
    simp only [Lib.atoiAll, h45]
    rw [if_pos (Or.inr trivial), hm]
    simp only
    rw [if_neg (by simp), if_neg (by omega), if_pos trivial]
    congr 1; omega
  · rw [if_neg hn]
    obtain ⟨c, r, e, h1, h2⟩ := digits_head v.toNat
    have hp := parse_digits v.toNat (by omega)
    have hm : Lib.parseMag (Lib.decDigits v.toNat) = .ok v.toNat := by
      unfold Lib.parseMag; rw [if_neg (by rw [e]; simp), hp]
    rw [e] at hm ⊢
    simp only [Lib.atoiAll]
    rw [if_neg (by omega), hm]
    simp only
    rw [if_neg (by omega), if_neg (by omega), if_neg (by omega)]
    congr 1; omega
theorem itoa_len11 (v : Int) (h : -4294967295 ≤ v ∧ v ≤ 4294967295) : (Lib.itoa v).length ≤ 11 := by
  have dl : ∀ (j : Nat) (u : Nat), u < 10 ^ (j + 1) → (Lib.decDigits u).length ≤ j + 1 := by
    intro j
    induction j with
    | zero => intro u h; rw [Lib.decDigits, dif_pos (by simpa using h)]; simp
    | succ j ih =>
      intro u h
      by_cases h10 : u < 10
      · rw [Lib.decDigits, dif_pos h10]; simp
      · rw [Lib.decDigits, dif_neg h10, List.length_append]
        have := ih (u / 10) (by rw [Nat.pow_succ] at h; exact Nat.div_lt_of_lt_mul (by rw [Nat.mul_comm]; exact h))
        simp; omega
  unfold Lib.itoa
  by_cases hn : v < 0
  · rw [if_pos hn]
    have := dl 9 v.natAbs (by omega)
    simp; omega
  · rw [if_neg hn]
    have := dl 9 v.toNat (by omega)
    omega
/-- The sixteen digits. -/
def digs : ByteArray := ⟨#[48, 49, 50, 51, 52, 53, 54, 55, 56, 57, 97, 98, 99, 100, 101, 102]⟩
/-- The lowest m digits of y, the highest first. -/
def hexn : Nat → Int → List Int
  | 0, _ => []
  | m + 1, y => hexn m (y / 16) ++ [bt digs (y % 16)]
theorem one_digit (d : Int) (h0 : 0 ≤ d) (h1 : d < 16) : digs.extract d.toNat (d + 1).toNat = ⟨#[UInt8.ofNat (bt digs d).toNat]⟩ := by
  have : d = 0 ∨ d = 1 ∨ d = 2 ∨ d = 3 ∨ d = 4 ∨ d = 5 ∨ d = 6 ∨ d = 7 ∨ d = 8 ∨ d = 9 ∨ d = 10 ∨ d = 11 ∨ d = 12 ∨ d = 13 ∨ d = 14 ∨ d = 15 := by omega
  rcases this with h | h | h | h | h | h | h | h | h | h | h | h | h | h | h | h <;> subst h <;> decide
theorem strOfNums_cons (v : Int) (l : List Int) : strOfNums (v :: l) = (⟨#[UInt8.ofNat v.toNat]⟩ : ByteArray) ++ strOfNums l := by
  apply ByteArray.ext
  rw [ByteArray.data_append]
  simp [strOfNums]
theorem size_strOfNums (l : List Int) : (strOfNums l).size = l.length := by simp [strOfNums, ByteArray.size]

theorem impl_side : ∀ (m k : Nat) (y : Int) (t : List Int), m ≤ 8 → t.length = 8 - m → 0 ≤ y → y < 4294967296 → m < k →
    impl_hexWord.l0 k y (List.replicate m 0 ++ t) ((m : Int) - 1) = some (strOfNums (hexn m y ++ t)) := by
  intro m
  induction m with
  | zero =>
    intro k y t _ ht _ _ hk
    obtain ⟨k, rfl⟩ : ∃ m, k = m + 1 := ⟨k - 1, by omega⟩
    simp only [impl_hexWord.l0]
    rw [if_neg (by omega)]
    simp [hexn]
  | succ m ih =>
    intro k y t hm ht y0 y1 hk
    obtain ⟨k, rfl⟩ : ∃ m, k = m + 1 := ⟨k - 1, by omega⟩
    simp only [impl_hexWord.l0]
    have ha : Go.bits .and .u32 y 15 = y % 16 := by
      have := and_mask .u32 4 (by decide) (fun n a b => wraps_u32 n a (by omega)) y
      rw [show (2 : Int) ^ 4 - 1 = 15 from rfl, show (2 : Int) ^ 4 = 16 from rfl] at this
      exact this
    have e : ((m + 1 : Nat) : Int) - 1 = (m : Int) := by omega
    rw [ha, e]
    rw [if_pos (by omega), if_pos (by omega), if_pos (by omega), if_pos (by omega), if_pos (by simp; omega), w64 (by omega) (by omega)]
    have hset : (List.replicate (m + 1) (0 : Int) ++ t).set (m : Int).toNat (bt digs (y % 16)) = List.replicate m 0 ++ (bt digs (y % 16) :: t) := by
      rw [Int.toNat_natCast, List.replicate_succ', List.append_assoc, List.set_append_right _ _ (by simp)]
      simp
    have := ih k (y / 16) (bt digs (y % 16) :: t) (by omega) (by simp; omega) (by omega) (by omega) (by omega)
    rw [← hset] at this
    simp only [hexn, List.append_assoc, List.singleton_append]
    exact this


theorem hexWord_is (n : Int) (h0 : 0 ≤ n) (h1 : n < 4294967296) : impl_hexWord.f 9 n = some (strOfNums (hexn 8 n)) := by
  unfold impl_hexWord.f
  have h2 := impl_side 8 9 n [] (by omega) (by simp) h0 h1 (by omega)
  rw [List.append_nil, List.append_nil, show ((8 : Nat) : Int) - 1 = 7 from rfl] at h2
  rw [if_pos (by omega)]
  exact h2
/-- A digit's number, of the lower case alone. -/
def ldig (c : Int) : Option Int := if 48 ≤ c ∧ c ≤ 57 then some (c - 48) else if 97 ≤ c ∧ c ≤ 102 then some (c - 87) else none
def lrun (acc : Int) : List UInt8 → Option Int
  | [] => some acc
  | c :: r => (ldig (c.toNat : Int)).bind fun d => lrun (acc * 16 + d) r
theorem ldig_dig : ∀ c : Fin 256, (ldig (c.val : Int)).isSome = true → Hex.dig (c.val : Int) = ldig (c.val : Int) := by decide +kernel
theorem ldig_bt : ∀ c : Fin 256, ∀ d : Fin 16, ldig (c.val : Int) = some (d.val : Int) → bt digs (d.val : Int) = (c.val : Int) := by decide +kernel
theorem bt_ldig : ∀ d : Fin 16, ldig (bt digs (d.val : Int)) = some (d.val : Int) ∧ 0 ≤ bt digs (d.val : Int) ∧ bt digs (d.val : Int) ≤ 255 := by decide +kernel
theorem ldig_range {c d : Int} (h : ldig c = some d) : 0 ≤ d ∧ d < 16 := by
  unfold ldig at h
  split at h
  · obtain rfl := Option.some.inj h; omega
  · split at h
    · obtain rfl := Option.some.inj h; omega
    · cases h
theorem lrun_run : ∀ (l : List UInt8) (acc n : Int), lrun acc l = some n → Hex.run acc l = some n := by
  intro l
  induction l with
  | nil => intro acc n h; exact h
  | cons c l ih =>
    intro acc n h
    obtain ⟨d, hd, h⟩ := Option.bind_eq_some_iff.mp h
    have := ldig_dig ⟨c.toNat, c.toNat_lt⟩ (by simp only; rw [hd]; rfl)
    simp only at this
    unfold Hex.run
    rw [this, hd]
    exact ih _ _ h
theorem lrun_snoc (c : UInt8) : ∀ (l : List UInt8) (acc : Int), lrun acc (l ++ [c]) = (lrun acc l).bind fun x => (ldig (c.toNat : Int)).bind fun d => some (x * 16 + d) := by
  intro l
  induction l with
  | nil => intro acc; simp [lrun]
  | cons d l ih =>
    intro acc
    simp only [List.cons_append, lrun]
    cases ldig (d.toNat : Int) with
    | none => rfl
    | some x => simp only [Option.bind_some, ih]
theorem hexn_len : ∀ (m : Nat) (y : Int), (hexn m y).length = m := by
  intro m
  induction m with
  | zero => intro y; rfl
  | succ m ih => intro y; simp [hexn, ih]
/-- What the digits spell is shown as these digits. -/
theorem hexn_of_lrun : ∀ (m : Nat) (l : List UInt8) (n : Int), l.length = m → lrun 0 l = some n → 0 ≤ n ∧ hexn m n = l.map fun c => (c.toNat : Int) := by
  intro m
  induction m with
  | zero =>
    intro l n hl h
    obtain rfl : l = [] := List.eq_nil_of_length_eq_zero hl
    obtain rfl := Option.some.inj h
    exact ⟨by omega, rfl⟩
  | succ m ih =>
    intro l n hl h
    have hne : l ≠ [] := by intro e; rw [e] at hl; simp at hl
    have hs := List.dropLast_concat_getLast hne
    rw [← hs, lrun_snoc] at h
    obtain ⟨x, hx, h⟩ := Option.bind_eq_some_iff.mp h
    obtain ⟨d, hd, h⟩ := Option.bind_eq_some_iff.mp h
    obtain rfl := Option.some.inj h
    obtain ⟨x0, hx2⟩ := ih l.dropLast x (by simp; omega) hx
    obtain ⟨d0, d1⟩ := ldig_range hd
    refine ⟨by omega, ?_⟩
    have e1 : (x * 16 + d) / 16 = x := by omega
    have e2 : (x * 16 + d) % 16 = d := by omega
    obtain ⟨k, hk⟩ := Int.eq_ofNat_of_zero_le d0
    have hb := ldig_bt ⟨(l.getLast hne).toNat, (l.getLast hne).toNat_lt⟩ ⟨k, by omega⟩ (by simp only; rw [hd, hk])
    simp only at hb
    rw [← hk] at hb
    unfold hexn
    rw [e1, e2, hx2, hb]
    conv => rhs; rw [← hs]
    simp
theorem lrun_hexn : ∀ (m : Nat) (y : Int), 0 ≤ y → y < 16 ^ m → lrun 0 ((hexn m y).map fun v => UInt8.ofNat v.toNat) = some y := by
  intro m
  induction m with
  | zero => intro y h0 h1; have : y = 0 := by simp at h1; omega
            subst this; rfl
  | succ m ih =>
    intro y h0 h1
    have hp : (16 : Int) ^ (m + 1) = 16 ^ m * 16 := Int.pow_succ _ _
    rw [hp] at h1
    have h2 := ih (y / 16) (by omega) (by omega)
    obtain ⟨k, hk⟩ := Int.eq_ofNat_of_zero_le (show 0 ≤ y % 16 by omega)
    obtain ⟨b1, b2, b3⟩ := bt_ldig ⟨k, by omega⟩
    simp only at b1 b2 b3
    rw [← hk] at b1 b2 b3
    unfold hexn
    rw [List.map_append, List.map_cons, List.map_nil, lrun_snoc, h2]
    simp only [Option.bind_some]
    have e : ((UInt8.ofNat (bt digs (y % 16)).toNat).toNat : Int) = bt digs (y % 16) := by
      simp [UInt8.toNat_ofNat']; omega
    rw [e, b1]
    simp only [Option.bind_some]
    congr 1; omega
theorem strOfNums_list (l : List Int) : (strOfNums l).toList = l.map fun v => UInt8.ofNat v.toNat := by
  rw [ByteArray.toList_eq]; simp [strOfNums]
theorem bits_ext : ∀ (m : Nat) (x y : Int), 0 ≤ x → x < 2 ^ m → 0 ≤ y → y < 2 ^ m → (∀ j, j < m → x / 2 ^ j % 2 = y / 2 ^ j % 2) → x = y := by
  intro m
  induction m with
  | zero => intro x y h0 h1 h2 h3 _; simp at h1 h3; omega
  | succ m ih =>
    intro x y h0 h1 h2 h3 hb
    have hp : (2 : Int) ^ (m + 1) = 2 ^ m * 2 := Int.pow_succ _ _
    have hz := hb 0 (by omega)
    simp only [Int.pow_zero, Int.ediv_one] at hz
    have := ih (x / 2) (y / 2) (by omega) (by omega) (by omega) (by omega) (fun j hj => by
      have h := hb (j + 1) (by omega)
      have e : ∀ z : Int, z / 2 / 2 ^ j = z / 2 ^ (j + 1) := by
        intro z
        have := ediv_pow z 1 j
        rw [Int.pow_one] at this
        rw [this, Nat.add_comm]
      rw [e, e]; exact h)
    omega
theorem rotw (x n : Int) (hx : 0 ≤ x ∧ x < 4294967296) (s : Nat) (hs : n % 32 = s) : impl_RotWord.f x n = some (rot x s) := by
  have hs1 : s ≤ 31 := by omega
  unfold impl_RotWord.f
  rw [and31 hs, rotl_is hx.1 hx.2 hs1]; rfl
theorem rot_back (x : Int) (hx : 0 ≤ x ∧ x < 4294967296) (s t : Nat) (hs : s ≤ 31) (ht : t ≤ 31) (h : (s + t) % 32 = 0) : rot (rot x s) t = x := by
  obtain ⟨r0, r1⟩ := rot_range hx.1 hx.2 hs
  obtain ⟨q0, q1⟩ := rot_range r0 r1 ht
  refine bits_ext 32 _ _ q0 (by exact q1) hx.1 (by exact hx.2) fun j hj => ?_
  rw [rot_bit r0 r1 ht (by omega), rot_bit hx.1 hx.2 hs (by omega)]
  have e : ((j + 32 - t) % 32 + 32 - s) % 32 = j := by omega
  rw [e]
/-- What SextWord gives. -/
def sx (x : Int) (c : Nat) : Int := wrap32 (x * 2 ^ c % 4294967296) / 2 ^ c % 4294967296
theorem sx_range (x : Int) (c : Nat) : 0 ≤ sx x c ∧ sx x c < 4294967296 := by unfold sx; omega
theorem sext_is (x b : Int) (c : Nat) (hc : 32 - b = c) (hb : 1 ≤ b ∧ b ≤ 32) : impl_SextWord.f x b = some (sx x c) := by
  have hcl : c ≤ 31 := by omega
  have e2 : impl_within.f b 1 32 = some true := by unfold impl_within.f; rw [if_pos (by omega)]; simp; omega
  have hshl : shl .u32 x (c : Int) = x * 2 ^ c % 4294967296 := by
    unfold shl; rw [Nat.min_eq_left (by simp [IntKind.bits]; omega), IntKind.wrap_u32]; simp
  have hshr : ∀ y, shr .i32 y (c : Int) = y / 2 ^ c := by
    intro y; unfold shr; rw [Nat.min_eq_left (by simp [IntKind.bits]; omega)]; simp
  unfold impl_SextWord.f
  rw [e2]
  simp only [Option.bind_some, if_true]
  rw [hc, w64 (n := (c : Int)) (by omega) (by omega), hshl, hshr, if_pos (by omega)]
  rfl
theorem sx_bit (x : Int) (c j : Nat) (hc : c ≤ 31) (hj : j ≤ 31) : sx x c / 2 ^ j % 2 = x / 2 ^ (min j (31 - c)) % 2 := sext_bit_at c j hc hj
theorem sx_sx (x : Int) (c : Nat) (hc : c ≤ 31) : sx (sx x c) c = sx x c := by
  obtain ⟨a0, a1⟩ := sx_range (sx x c) c
  obtain ⟨b0, b1⟩ := sx_range x c
  refine bits_ext 32 _ _ a0 (by exact a1) b0 (by exact b1) fun j hj => ?_
  rw [sx_bit _ c j hc (by omega), sx_bit x c _ hc (by omega), sx_bit x c j hc (by omega)]
  have e : min (min j (31 - c)) (31 - c) = min j (31 - c) := by omega
  rw [e]
theorem sx_zero (x : Int) (hx : 0 ≤ x ∧ x < 4294967296) : sx x 0 = x := by
  unfold sx
  simp only [Int.pow_zero, Int.mul_one, Int.ediv_one]
  unfold wrap32
  omega
theorem bytes_word (x : Int) (hx : 0 ≤ x ∧ x < 4294967296) : impl_WordOf.f [x % 256, x / 256 % 256, x / 65536 % 256, x / 16777216 % 256] = some (x, true) := by
  unfold impl_WordOf.f
  simp only [List.length_cons, List.length_nil]
  rw [if_pos (by omega), if_pos (by omega), if_pos (by omega), if_pos (by omega), if_pos (by omega)]
  have e0 : rd [x % 256, x / 256 % 256, x / 65536 % 256, x / 16777216 % 256] 0 = x % 256 := rfl
  have e1 : rd [x % 256, x / 256 % 256, x / 65536 % 256, x / 16777216 % 256] 1 = x / 256 % 256 := rfl
  have e2 : rd [x % 256, x / 256 % 256, x / 65536 % 256, x / 16777216 % 256] 2 = x / 65536 % 256 := rfl
  have e3 : rd [x % 256, x / 256 % 256, x / 65536 % 256, x / 16777216 % 256] 3 = x / 16777216 % 256 := rfl
  rw [e0, e1, e2, e3, word_eq (by omega) (by omega) (by omega) (by omega) (by omega) (by omega) (by omega) (by omega)]
  congr 2; omega
theorem hex_back (x : Int) (hx : 0 ≤ x ∧ x < 4294967296) : impl_WordHex.f (strOfNums (hexn 8 x)) = some (x, true) := by
  have hsz : (strOfNums (hexn 8 x)).size = 8 := by rw [size_strOfNums, hexn_len]
  have hl : (strOfNums (hexn 8 x)).data.toList = (hexn 8 x).map fun v => UInt8.ofNat v.toNat := by rw [← ByteArray.toList_eq, strOfNums_list]
  unfold impl_WordHex.f
  rw [if_pos hsz, hl, lrun_run _ _ _ (lrun_hexn 8 x hx.1 (by exact hx.2))]
  simp only [hexWord_is x hx.1 hx.2, Option.bind_some, if_true]
theorem dec_back (v : Int) (hv : -4294967295 ≤ v ∧ v ≤ 4294967295) : (impl_DecText.f v).bind (fun t => impl_DecNum.f t 4294967295) = some (v, true) := by
  have h1 : impl_DecText.f v = some (⟨(Lib.itoa v).toArray⟩ : ByteArray) := by
    unfold impl_DecText.f strconv_Itoa.f
    rw [if_pos (by omega)]; rfl
  rw [h1]
  simp only [Option.bind_some]
  have hlen : (Lib.itoa v).length ≤ 11 := itoa_len11 v hv
  have hs : (⟨(Lib.itoa v).toArray⟩ : ByteArray).size ≤ 281474976710656 := by
    have : (⟨(Lib.itoa v).toArray⟩ : ByteArray).size = (Lib.itoa v).length := by simp [ByteArray.size]
    omega
  unfold impl_DecNum.f
  rw [if_pos hs]
  have ha := atoi_itoa v (by omega)
  simp only [ha]
  have hc : True ∧ ((0 : Int) ≤ 4294967295 ∧ (4294967295 : Int) ≤ 4294967295) ∧ -4294967295 ≤ v ∧ v ≤ 4294967295 := ⟨trivial, by omega, hv⟩
  rw [if_pos hc]
theorem FnWords : laws_FnWords.Pure := by
  intro l _ hl hw
  have main : Evt (fun k => laws_FnWords.f k l) true := by
    unfold laws_FnWords.f laws_big.f
    simp only [Option.bind_some]
    by_cases hbig : (l.length : Int) > 1048576
    · simp only [if_pos (decide_eq_true hbig)]; exact ev_of fun _ => rfl
    · simp only [if_neg (show ¬ decide ((l.length : Int) > 1048576) = true by simpa using hbig)]
      have hlb : l.length ≤ 1048576 := by omega
      -- what is drawn
      obtain ⟨h1, e1⟩ := drawn l (by omega) (l.length + 1) (by omega)
      obtain ⟨x, i2, h2, e2, hx, hi2⟩ := word_is l (by omega) 0 h1 (by omega)
      obtain ⟨r, i3, h3, e3, hr0, hr1, _, _⟩ := below_is l (by omega) i2 h2 140 hi2
      have hdr : Evt (fun k => spec_DrawRotWord.f k l) (x, r - 70) := by
        refine ⟨l.length + 1, fun k hk => ?_⟩
        obtain ⟨h1', e1'⟩ := drawn l (by omega) k (by omega)
        have : h1' = h1 := by
          have m := at_rounds (g := fun k => spec_l01New.f k l) (fun k => spec_l01New.mono _ _) (show l.length + 1 ≤ k by omega) e1
          have m2 : spec_l01New.f k l = some (l, 0, h1) := m
          rw [e1'] at m2
          have := Option.some.inj m2
          simpa using this
        subst this
        unfold spec_DrawRotWord.f
        simp only [e1', Option.bind_some, e2, e3]
        rw [w64 (by have := hr1 (by omega); omega) (by have := hr1 (by omega); omega)]
      have hr2 := hr1 (by omega)
      generalize hn : r - 70 = n at *
      have hnr : -70 ≤ n ∧ n ≤ 70 := by omega
      refine ev_bind hdr ?_
      -- turning
      obtain ⟨s, hs⟩ : ∃ s : Nat, n % 32 = s := ⟨(n % 32).toNat, by omega⟩
      obtain ⟨t, ht⟩ : ∃ t : Nat, (-n) % 32 = t := ⟨((-n) % 32).toNat, by omega⟩
      have hs1 : s ≤ 31 := by omega
      have ht1 : t ≤ 31 := by omega
      have hrr := rot_range hx.1 hx.2 hs1
      simp only [rotw x n hx s hs, Option.bind_some, w64 (n := -n) (by omega) (by omega), w64 (n := n + 32) (by omega) (by omega), rotw (rot x s) (-n) hrr t ht, rotw x (n + 32) hx s (by omega), rot_back x hx s t hs1 ht1 (by omega), if_true, bne_self_eq_false]
      -- bytes, hexadecimal, decimal
      obtain ⟨a, ha, ha0, ha1⟩ := at_is l hlb hw 9 (by omega)
      have hj1 : Evt (fun k => laws_FnWords.j1 k l x false) true := by
        refine ev_end fun k => ?_
        simp only [laws_FnWords.j1, Bool.false_eq_true, if_false, ha, Option.bind_some]
        obtain ⟨c, hc⟩ : ∃ c : Nat, 32 - (1 + a % 32) = c := ⟨(32 - (1 + a % 32)).toNat, by omega⟩
        have hcl : c ≤ 31 := by omega
        have hsr := sx_range x c
        rw [tmod_pos ha0, w64 (n := 1 + a % 32) (by omega) (by omega), sext_is x _ c hc (by omega)]
        simp only [Option.bind_some]
        rw [sext_is (sx x c) _ c hc (by omega)]
        simp only [Option.bind_some]
        rw [if_pos (sx_sx x c hcl), w64 (n := 1 + a % 32 - 1) (by omega) (by omega), wrap_u64, Int.emod_eq_of_lt (by omega) (by omega), if_pos (by omega)]
        obtain ⟨q, hq⟩ : ∃ q : Nat, 1 + a % 32 - 1 = q := ⟨(1 + a % 32 - 1).toNat, by omega⟩
        have hshr : shr .u32 x (q : Int) = x / 2 ^ q := by
          unfold shr; rw [Nat.min_eq_left (by simp [IntKind.bits]; omega)]; simp
        have hxq0 : 0 ≤ x / 2 ^ q := Int.ediv_nonneg hx.1 (Int.le_of_lt (pow_pos' q))
        have hand : Go.bits .and .u32 (x / 2 ^ q) 1 = x / 2 ^ q % 2 := by
          have := and_mask .u32 1 (by decide) (fun n a b => wraps_u32 n a (by omega)) (x / 2 ^ q)
          rwa [show (2 : Int) ^ 1 - 1 = 1 from rfl, show (2 : Int) ^ 1 = 2 from rfl] at this
        have hbit : sx x c / 2147483648 = x / 2 ^ q % 2 := by
          have := sx_bit x c 31 hcl (by omega)
          rw [show min 31 (31 - c) = q by omega] at this
          rw [← this, show (2147483648 : Int) = 2 ^ 31 from rfl]
          have h31 : (2 : Int) ^ 31 = 2147483648 := rfl
          rw [h31]; omega
        rw [hq, hshr, hand, hbit]
        simp only [beq_self_eq_true, if_true]
        rw [sext_is x 32 0 (by omega) (by omega), sx_zero x hx]
        simp
      refine ev_step (g := fun k => (impl_HexWord.f k x).bind fun t177 => ((impl_WordHex.f t177).bind fun bt178 => ((impl_DecText.f (-x)).bind fun t180 => ((impl_DecNum.f t180 4294967295).bind fun bt181 => (if bt178.2 = true then (if bt181.2 = true then (if bt178.1 = x then (if bt181.1 = -x then laws_FnWords.j1 k l x false else laws_FnWords.j1 k l x true) else laws_FnWords.j1 k l x true) else laws_FnWords.j1 k l x true) else laws_FnWords.j1 k l x true))))) (fun k => ?_) ?_
      · simp only [laws_FnWords.j0, Bool.false_eq_true, if_false, impl_BytesOf.f, Option.bind_some, bytes_word x hx, if_true, w64 (n := x) (by omega) (by omega), w64 (n := -x) (by omega) (by omega)]
        rfl
      · have hh : Evt (fun k => impl_HexWord.f k x) (strOfNums (hexn 8 x)) := by
          refine ⟨9, fun k hk => ?_⟩
          unfold impl_HexWord.f impl_hexWord.f
          have h2 := impl_side 8 k x [] (by omega) (by simp) hx.1 hx.2 (by omega)
          rw [List.append_nil, List.append_nil, show ((8 : Nat) : Int) - 1 = 7 from rfl] at h2
          show ((if 8 ≤ 281474976710656 then impl_hexWord.l0 k x (List.replicate 8 0) 7 else none).bind fun t162 => some t162) = _
          rw [if_pos (by omega), h2]; rfl
        refine ev_bind hh ?_
        have hd := dec_back (-x) (by omega)
        obtain ⟨t, ht', hd⟩ := Option.bind_eq_some_iff.mp hd
        simp only [hex_back x hx, ht', hd, Option.bind_some, if_true]
        exact hj1
  obtain ⟨K, hK⟩ := main
  exact ⟨K, hK K (Nat.le_refl K)⟩

end Go.Proofs.YtjoiebnjpipenaaDoor.Pure

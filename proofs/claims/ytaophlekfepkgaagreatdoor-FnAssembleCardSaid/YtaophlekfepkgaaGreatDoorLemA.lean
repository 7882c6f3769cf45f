/- Plain lemmas on whole numbers of fixed width and on their bits. No Go and no memory in it. -/
import Derived.Laws.Entries
import Derived.Laws.BitsLemmas
import Derived.Test.YtaophlekfepkgaaGreatDoorWordsA
namespace Go.Proofs.YtaophlekfepkgaaGreatDoor.Lem
open Go.RowKit Go.Proofs.YtaophlekfepkgaaGreatDoorW.PrintWords

theorem w64 {n : Int} (h : -9223372036854775808 ≤ n) (h' : n ≤ 9223372036854775807) : wrap64 n = n := by unfold wrap64; omega
theorem u32_of {a : Int} (h : (Lit.int .u32 a).wf = true) : 0 ≤ a ∧ a < 4294967296 := by
  simp [Lit.wf, IntKind.min, IntKind.max, IntKind.signed, IntKind.bits] at h
  omega
theorem i64_of {a : Int} (h : (Lit.int .i64 a).wf = true) : -9223372036854775808 ≤ a ∧ a ≤ 9223372036854775807 := by
  simp [Lit.wf, IntKind.min, IntKind.max, IntKind.signed, IntKind.bits] at h
  omega
theorem u8_of {a : Int} (h : (Lit.int .u8 a).wf = true) : 0 ≤ a ∧ a < 256 := by
  simp [Lit.wf, IntKind.min, IntKind.max, IntKind.signed, IntKind.bits] at h
  omega
theorem wrap_u64 (n : Int) : IntKind.u64.wrap n = n % 18446744073709551616 := by simp [IntKind.wrap, IntKind.bits, IntKind.signed]
theorem wraps_i64 (n : Int) (h₀ : 0 ≤ n) (h₁ : n < 2 ^ 63) : IntKind.i64.wrap n = n := by rw [IntKind.wrap_i64]; omega
theorem wraps_u32 (n : Int) (h₀ : 0 ≤ n) (h₁ : n < 2 ^ 32) : IntKind.u32.wrap n = n := by rw [IntKind.wrap_u32]; omega
theorem tmod_pos {a b : Int} (h : 0 ≤ a) : Int.tmod a b = a % b := Int.tmod_eq_emod_of_nonneg h
theorem tdiv_pos {a b : Int} (h : 0 ≤ a) : Int.tdiv a b = a / b := Int.tdiv_eq_ediv_of_nonneg h

/-- The remainder by a power of 2, at any number. -/
theorem and_mask (k : IntKind) (i : Nat) (hi : i < k.bits) (hk : ∀ n : Int, 0 ≤ n → n < 2 ^ i → k.wrap n = n) (x : Int) : Go.bits .and k x (2 ^ i - 1) = x % 2 ^ i := by
  have hpos : 0 < 2 ^ i := Nat.two_pow_pos i
  have hlt : 2 ^ i < 2 ^ k.bits := Nat.pow_lt_pow_right (by decide) hi
  have hc : ((2 : Int) ^ i - 1) = ((2 ^ i - 1 : Nat) : Int) := by rw [Int.natCast_sub hpos]; simp
  have hm : (2 ^ i - 1) % 2 ^ k.bits = 2 ^ i - 1 := Nat.mod_eq_of_lt (by omega)
  have hr : ((x % 2 ^ i).toNat : Int) = x % 2 ^ i := Int.toNat_of_nonneg (Int.emod_nonneg _ (by exact_mod_cast (Nat.ne_of_gt hpos)))
  have e : (BitVec.ofInt k.bits x &&& BitVec.ofInt k.bits ((2 ^ i - 1 : Nat) : Int)).toNat = (x % 2 ^ i).toNat := by
    rw [BitVec.ofInt_natCast, BitVec.toNat_and, BitVec.toNat_ofInt, BitVec.toNat_ofNat, hm, Nat.and_two_pow_sub_one_eq_mod]
    have hd : ((2 : Int) ^ i) ∣ ((2 ^ k.bits : Nat) : Int) := by
      have := Nat.pow_dvd_pow 2 (Nat.le_of_lt hi)
      exact_mod_cast this
    have h0 : 0 ≤ x % ((2 ^ k.bits : Nat) : Int) := Int.emod_nonneg _ (by exact_mod_cast (Nat.ne_of_gt (Nat.two_pow_pos k.bits)))
    apply Int.ofNat_inj.1
    rw [hr]
    push_cast
    rw [Int.toNat_of_nonneg (by exact_mod_cast h0)]
    exact_mod_cast Int.emod_emod_of_dvd x hd
  rw [hc]
  simp only [Go.bits]
  rw [e, hr]
  refine hk _ (Int.emod_nonneg _ (by exact_mod_cast (Nat.ne_of_gt hpos))) (Int.emod_lt_of_pos _ (by exact_mod_cast hpos))

theorem pow_pos' (n : Nat) : (0 : Int) < 2 ^ n := Int.pow_pos (by decide)
theorem ediv_pow (a : Int) (m n : Nat) : a / 2 ^ m / 2 ^ n = a / 2 ^ (m + n) := by
  rw [Int.ediv_ediv_of_nonneg (Int.le_of_lt (pow_pos' m)), ← Int.pow_add]

/-- A bit below m of a number is that bit of its remainder by 2 to the m. -/
theorem bit_mod (a : Int) (j m : Nat) (h : j < m) : (a % 2 ^ m) / 2 ^ j % 2 = a / 2 ^ j % 2 := by
  obtain ⟨d, rfl⟩ : ∃ d, m = j + (d + 1) := ⟨m - j - 1, by omega⟩
  have e : a = a % 2 ^ (j + (d + 1)) + 2 ^ j * (2 ^ d * 2 * (a / 2 ^ (j + (d + 1)))) := by
    have := Int.emod_add_mul_ediv a (2 ^ (j + (d + 1)))
    rw [← Int.mul_assoc, show (2 : Int) ^ j * (2 ^ d * 2) = 2 ^ (j + (d + 1)) by rw [Int.pow_add, Int.pow_succ]]
    exact this.symm
  have hd : a / 2 ^ j = (a % 2 ^ (j + (d + 1))) / 2 ^ j + 2 ^ d * 2 * (a / 2 ^ (j + (d + 1))) := by
    conv => lhs; rw [e]
    rw [Int.add_mul_ediv_left _ _ (Int.ne_of_gt (pow_pos' j))]
  rw [hd]
  have : (2 : Int) ^ d * 2 * (a / 2 ^ (j + (d + 1))) = 2 * (2 ^ d * (a / 2 ^ (j + (d + 1)))) := by
    rw [Int.mul_comm (2 ^ d) 2, Int.mul_assoc]
  rw [this]
  omega

theorem ediv_neg_one {y : Int} (p : Nat) (h : y < 0) (h' : -(2 ^ p) ≤ y) : y / 2 ^ p = -1 := by
  have hp := pow_pos' p
  have h1 : y / 2 ^ p < 0 := Int.ediv_neg_of_neg_of_pos h hp
  have h2 : -1 ≤ y / 2 ^ p := by
    rw [Int.le_ediv_iff_mul_le hp]; omega
  omega

/-- A bit of a word that is taken with its sign. -/
theorem sign_bit (z : Int) (h0 : 0 ≤ z) (h1 : z < 4294967296) (p : Nat) : (wrap32 z) / 2 ^ p % 2 = z / 2 ^ (min p 31) % 2 := by
  by_cases hp : p ≤ 31
  · rw [Nat.min_eq_left hp, ← bit_mod (wrap32 z) p 32 (by omega)]
    have : wrap32 z % 2 ^ 32 = z := by unfold wrap32; omega
    rw [this]
  · rw [Nat.min_eq_right (by omega)]
    have hle : (2 : Int) ^ 31 ≤ 2 ^ p := by
      have : (2 : Nat) ^ 31 ≤ 2 ^ p := Nat.pow_le_pow_right (by decide) (by omega)
      exact_mod_cast this
    by_cases hs : z < 2147483648
    · have hy : wrap32 z = z := by unfold wrap32; omega
      rw [hy, Int.ediv_eq_zero_of_lt h0 (by omega)]
      omega
    · have hy : wrap32 z = z - 4294967296 := by unfold wrap32; omega
      rw [hy, ediv_neg_one p (by omega) (by omega)]
      omega

/-- One bit, as the reference asks it. -/
theorem bit_eq (x : Int) (h0 : 0 ≤ x) (h1 : x < 4294967296) (j : Int) (hj : 0 ≤ j) (hj' : j ≤ 31) :
    (if 0 ≤ IntKind.u64.wrap j then some (Go.bits .and .i64 (wrap64 (shr .u32 x (IntKind.u64.wrap j))) 1) else none) = some (x / 2 ^ j.toNat % 2) := by
  have hw : IntKind.u64.wrap j = j := by rw [wrap_u64]; omega
  rw [hw, if_pos hj]
  have hs : shr .u32 x j = x / 2 ^ j.toNat := by unfold shr; rw [Nat.min_eq_left (by simp [IntKind.bits]; omega)]
  have hq : x / 2 ^ j.toNat ≤ x := Int.ediv_le_self _ h0
  have hq0 : 0 ≤ x / 2 ^ j.toNat := Int.ediv_nonneg h0 (Int.le_of_lt (pow_pos' _))
  rw [hs, w64 (by omega) (by omega)]
  have := and_mask .i64 1 (by decide) (fun n a b => wraps_i64 n a (by omega)) (x / 2 ^ j.toNat)
  simpa using this

/-- The loop that builds a word of its bits, the highest first. -/
theorem bits_loop (g : Nat → Int → Int → Option Int) (T : Int) (h0 : 0 ≤ T) (h1 : T < 4294967296)
    (hz : ∀ k acc, g (k + 1) acc (-1) = some (acc % 4294967296))
    (hg : ∀ k acc (j : Nat), j ≤ 31 → g (k + 1) acc j = g k (wrap64 (wrap64 (2 * acc) + T / 2 ^ j % 2)) (wrap64 (j - 1))) :
    ∀ n : Nat, n ≤ 32 → ∀ k, n < k → g k (T / 2 ^ n) (n - 1) = some T := by
  intro n
  induction n with
  | zero =>
    intro _ k hk
    obtain ⟨k, rfl⟩ : ∃ m, k = m + 1 := ⟨k - 1, by omega⟩
    have := hz k T
    simp only [Int.pow_zero, Int.ediv_one]
    show g (k + 1) T (((0 : Nat) : Int) - 1) = some T
    rw [show (((0 : Nat) : Int) - 1) = -1 from rfl, this]
    congr 1; omega
  | succ n ih =>
    intro hn k hk
    obtain ⟨k, rfl⟩ : ∃ m, k = m + 1 := ⟨k - 1, by omega⟩
    have e : ((n + 1 : Nat) : Int) - 1 = (n : Int) := by omega
    rw [e, hg k _ n (by omega)]
    have hq : T / 2 ^ (n + 1) = T / 2 ^ n / 2 := by rw [← ediv_pow T n 1]; rfl
    have ha : T / 2 ^ n ≤ T := Int.ediv_le_self _ h0
    have hb : 0 ≤ T / 2 ^ n := Int.ediv_nonneg h0 (Int.le_of_lt (pow_pos' _))
    rw [hq]
    have e1 : wrap64 (2 * (T / 2 ^ n / 2)) = 2 * (T / 2 ^ n / 2) := w64 (by omega) (by omega)
    have e2 : wrap64 (2 * (T / 2 ^ n / 2) + T / 2 ^ n % 2) = T / 2 ^ n := by rw [w64 (by omega) (by omega)]; omega
    rw [e1, e2, w64 (by omega) (by omega)]
    exact ih (by omega) k (by omega)
theorem bits_start (g : Nat → Int → Int → Option Int) (T : Int) (h0 : 0 ≤ T) (h1 : T < 4294967296)
    (hz : ∀ k acc, g (k + 1) acc (-1) = some (acc % 4294967296))
    (hg : ∀ k acc (j : Nat), j ≤ 31 → g (k + 1) acc j = g k (wrap64 (wrap64 (2 * acc) + T / 2 ^ j % 2)) (wrap64 (j - 1))) :
    ∀ k, 32 < k → g k 0 31 = some T := by
  intro k hk
  have := bits_loop g T h0 h1 hz hg 32 (by omega) k hk
  have e : T / 2 ^ 32 = 0 := Int.ediv_eq_zero_of_lt h0 (by omega)
  rw [e] at this
  exact this

/-- A word turned left by s places. -/
def rot (x : Int) (s : Nat) : Int := x * 2 ^ s % 4294967296 + x / 2 ^ (32 - s)
theorem rot_high {x : Int} (h0 : 0 ≤ x) (h1 : x < 4294967296) {s : Nat} (hs : s ≤ 31) : 0 ≤ x / 2 ^ (32 - s) ∧ x / 2 ^ (32 - s) < 2 ^ s := by
  refine ⟨Int.ediv_nonneg h0 (Int.le_of_lt (pow_pos' _)), Int.ediv_lt_of_lt_mul (pow_pos' _) ?_⟩
  rw [← Int.pow_add, show s + (32 - s) = 32 by omega]
  exact h1
theorem rot_low (x : Int) {s : Nat} (hs : s ≤ 31) : x * 2 ^ s % 4294967296 % 2 ^ s = 0 := by
  have hd : ((2 : Int) ^ s) ∣ 4294967296 := ⟨2 ^ (32 - s), by rw [← Int.pow_add, show s + (32 - s) = 32 by omega]; rfl⟩
  rw [Int.emod_emod_of_dvd _ hd, Int.mul_emod_left]
theorem rot_range {x : Int} (h0 : 0 ≤ x) (h1 : x < 4294967296) {s : Nat} (hs : s ≤ 31) : 0 ≤ rot x s ∧ rot x s < 4294967296 := by
  obtain ⟨b0, b1⟩ := rot_high h0 h1 hs
  have hl := rot_low x hs
  have a0 : 0 ≤ x * 2 ^ s % 4294967296 := Int.emod_nonneg _ (by omega)
  have a1 : x * 2 ^ s % 4294967296 < 4294967296 := Int.emod_lt_of_pos _ (by omega)
  have hd := Int.emod_add_mul_ediv (x * 2 ^ s % 4294967296) (2 ^ s)
  rw [hl] at hd
  have hq : x * 2 ^ s % 4294967296 / 2 ^ s < 2 ^ (32 - s) := by
    refine Int.ediv_lt_of_lt_mul (pow_pos' _) ?_
    rw [← Int.pow_add, show 32 - s + s = 32 by omega]
    exact a1
  have hm : 2 ^ s * (x * 2 ^ s % 4294967296 / 2 ^ s) ≤ 2 ^ s * (2 ^ (32 - s) - 1) := Int.mul_le_mul_of_nonneg_left (by omega) (Int.le_of_lt (pow_pos' s))
  have he : (2 : Int) ^ s * (2 ^ (32 - s) - 1) = 4294967296 - 2 ^ s := by
    rw [Int.mul_sub, ← Int.pow_add, show s + (32 - s) = 32 by omega, Int.mul_one]; rfl
  unfold rot
  omega
theorem rot_bit {x : Int} (h0 : 0 ≤ x) (h1 : x < 4294967296) {s j : Nat} (hs : s ≤ 31) (hj : j ≤ 31) : rot x s / 2 ^ j % 2 = x / 2 ^ ((j + 32 - s) % 32) % 2 := by
  obtain ⟨b0, b1⟩ := rot_high h0 h1 hs
  have hl := rot_low x hs
  unfold rot
  by_cases h : j < s
  · have e : (x * 2 ^ s % 4294967296 + x / 2 ^ (32 - s)) % 2 ^ s = x / 2 ^ (32 - s) := by
      rw [Int.add_emod, hl, Int.zero_add, Int.emod_emod, Int.emod_eq_of_lt b0 b1]
    rw [← bit_mod _ j s h, e, ediv_pow, show 32 - s + j = (j + 32 - s) % 32 by omega]
  · have hd := Int.emod_add_mul_ediv (x * 2 ^ s % 4294967296) (2 ^ s)
    rw [hl, Int.zero_add] at hd
    have e : (x * 2 ^ s % 4294967296 + x / 2 ^ (32 - s)) / 2 ^ s = x * 2 ^ s % 4294967296 / 2 ^ s := by
      conv => lhs; rw [← hd]
      rw [Int.add_comm, Int.add_mul_ediv_left _ _ (Int.ne_of_gt (pow_pos' s)), Int.ediv_eq_zero_of_lt b0 b1, Int.zero_add]
    obtain ⟨d, rfl⟩ : ∃ d, j = s + d := ⟨j - s, by omega⟩
    rw [← ediv_pow, e, ediv_pow, show (4294967296 : Int) = 2 ^ 32 from rfl, bit_mod _ _ 32 (by omega), ← ediv_pow, Int.mul_ediv_cancel _ (Int.ne_of_gt (pow_pos' s)),
      show (s + d + 32 - s) % 32 = d by omega]
theorem or_comm' (k : IntKind) (x y : Int) : Go.bits .or k x y = Go.bits .or k y x := by
  simp only [Go.bits]
  rw [BitVec.or_comm]
/-- An or of two numbers whose bits do not meet: the low one first. -/
theorem or_low (i : Nat) (x y : Int) (hx₀ : 0 ≤ x) (hx : x < 2 ^ i) (hx1 : x < 4294967296) (hy₀ : 0 ≤ y) (hy : y % 2 ^ i = 0) (hy₁ : y < 4294967296) : Go.bits .or .u32 x y = y + x := by
  rw [or_comm']
  exact bits_join .u32 32 (by decide) wraps_u32 i y x hy₀ hy (by omega) hx₀ hx (by omega)
/-- bits.RotateLeft32, as its text tells it. -/
theorem rotl_eq {x : Int} (h0 : 0 ≤ x) (h1 : x < 4294967296) {s : Nat} (hs : s ≤ 31) :
    (if 0 ≤ (Go.bits .and .u64 (IntKind.u64.wrap (s : Int)) 31) then (if 0 ≤ (IntKind.u64.wrap (32 - (Go.bits .and .u64 (IntKind.u64.wrap (s : Int)) 31))) then (some (Go.bits .or .u32 (shl .u32 x (Go.bits .and .u64 (IntKind.u64.wrap (s : Int)) 31)) (shr .u32 x (IntKind.u64.wrap (32 - (Go.bits .and .u64 (IntKind.u64.wrap (s : Int)) 31)))))) else (none)) else (none))
      = some (rot x s) := by
  obtain ⟨b0, b1⟩ := rot_high h0 h1 hs
  have hl := rot_low x hs
  have hw : IntKind.u64.wrap (s : Int) = s := by rw [wrap_u64]; omega
  have ha : Go.bits .and .u64 (s : Int) 31 = s := by
    have := and_mask .u64 5 (by decide) (fun n a b => by rw [wrap_u64]; omega) (s : Int)
    rw [show (2 : Int) ^ 5 - 1 = 31 from rfl, show (2 : Int) ^ 5 = 32 from rfl] at this
    omega
  have hw2 : IntKind.u64.wrap (32 - (s : Int)) = ((32 - s : Nat) : Int) := by rw [wrap_u64]; omega
  rw [hw, ha, hw2, if_pos (by omega), if_pos (by omega)]
  have e1 : shl .u32 x (s : Int) = x * 2 ^ s % 4294967296 := by
    unfold shl; rw [Nat.min_eq_left (by simp [IntKind.bits]; omega), IntKind.wrap_u32]; simp
  have e2 : shr .u32 x ((32 - s : Nat) : Int) = x / 2 ^ (32 - s) := by
    unfold shr; rw [Int.toNat_natCast, Nat.min_eq_left (by simp [IntKind.bits])]
  have hp : (2 : Int) ^ s ≤ 2 ^ 31 := by
    have : (2 : Nat) ^ s ≤ 2 ^ 31 := Nat.pow_le_pow_right (by decide) hs
    exact_mod_cast this
  rw [e1, e2, bits_join .u32 32 (by decide) wraps_u32 s _ _ (Int.emod_nonneg _ (by omega)) hl (Int.emod_lt_of_pos _ (by omega)) b0 b1 (by omega)]
  simp only [rot]

/-- A scan that ends at n. -/
theorem scan_loop {α : Type} (g : Nat → Int → Option α) (r : α) (n : Nat) (hn : n ≤ 9223372036854775807) (hs : ∀ k (i : Nat), i < n → g (k + 1) i = g k (wrap64 (i + 1))) (he : ∀ k, g (k + 1) n = some r) :
    ∀ d i k : Nat, i + d = n → d < k → g k i = some r := by
  intro d
  induction d with
  | zero =>
    intro i k hi hk
    obtain ⟨k, rfl⟩ : ∃ m, k = m + 1 := ⟨k - 1, by omega⟩
    obtain rfl : i = n := by omega
    exact he k
  | succ d ih =>
    intro i k hi hk
    obtain ⟨k, rfl⟩ : ∃ m, k = m + 1 := ⟨k - 1, by omega⟩
    rw [hs k i (by omega), w64 (by omega) (by omega)]
    exact ih (i + 1) k (by omega) (by omega)
/-- A list that is copied into a new one of its length. -/
theorem copy_loop {α : Type} (z : α) (get : Int → α) (l : List α) (hl : l.length ≤ 9223372036854775807) (hr : ∀ (i : Nat) (h : i < l.length), get i = l[i]) (g : Nat → List α → Int → Option (List α))
    (hs : ∀ k x (i : Nat), i < l.length → x.length = l.length → g (k + 1) x i = g k (x.set i (get i)) (wrap64 (i + 1))) (he : ∀ k x, g (k + 1) x l.length = some x) :
    ∀ d i k : Nat, i + d = l.length → d < k → g k (l.take i ++ List.replicate d z) i = some l := by
  intro d
  induction d with
  | zero =>
    intro i k hi hk
    obtain ⟨k, rfl⟩ : ∃ m, k = m + 1 := ⟨k - 1, by omega⟩
    obtain rfl : i = l.length := by omega
    rw [he]; simp
  | succ d ih =>
    intro i k hi hk
    obtain ⟨k, rfl⟩ : ∃ m, k = m + 1 := ⟨k - 1, by omega⟩
    have hlt : i < l.length := by omega
    rw [hs k _ i hlt (by simp; omega), w64 (by omega) (by omega), hr i hlt]
    have e : (l.take i ++ List.replicate (d + 1) z).set i l[i] = l.take (i + 1) ++ List.replicate d z := by
      rw [List.set_append_right _ _ (by simp; omega)]
      have : i - (l.take i).length = 0 := by simp; omega
      rw [this, List.replicate_succ, List.set_cons_zero, List.take_succ_eq_append_getElem hlt, List.append_assoc]
      rfl
    rw [e]
    exact ih (i + 1) k (by omega) (by omega)
theorem rd_at (l : List Int) (i : Nat) (h : i < l.length) : rd l (i : Int) = l[i] := by
  unfold rd; simp [h]

/-- Marks that count up are laid into a row. -/
theorem mark_loop {α : Type} (mk : Int → α) (n : Nat) (a : Int) (ha : 0 ≤ a) (hn : a + n ≤ 4611686018427387904) (g : Nat → List α → Int → Int → Option (Int × List α))
    (hs : ∀ k x (i : Nat) c, x.length = n → i < n → g (k + 1) x c i = g k (x.set i (mk c)) (wrap64 (c + 1)) (wrap64 (i + 1))) (he : ∀ k x c, x.length = n → g (k + 1) x c n = some (c, x)) :
    ∀ (d i k : Nat) (x : List α), i + d = n → d < k → x.length = n → (∀ j, j < i → x[j]? = some (mk (a + j))) → ∃ out, g k x (a + i) i = some (a + n, out) ∧ out.length = n ∧ ∀ j, j < n → out[j]? = some (mk (a + j)) := by
  intro d
  induction d with
  | zero =>
    intro i k x hi hk hx hm
    obtain ⟨k, rfl⟩ : ∃ m, k = m + 1 := ⟨k - 1, by omega⟩
    obtain rfl : i = n := by omega
    exact ⟨x, he k x _ hx, hx, hm⟩
  | succ d ih =>
    intro i k x hi hk hx hm
    obtain ⟨k, rfl⟩ : ∃ m, k = m + 1 := ⟨k - 1, by omega⟩
    rw [hs k x i _ hx (by omega), w64 (n := a + i + 1) (by omega) (by omega), w64 (n := (i : Int) + 1) (by omega) (by omega)]
    have e1 : a + (i : Int) + 1 = a + ((i + 1 : Nat) : Int) := by omega
    rw [e1]
    refine ih (i + 1) k _ (by omega) (by omega) (by simp [hx]) ?_
    intro j hj
    by_cases e : j = i
    · subst e; rw [List.getElem?_set_self (by omega)]
    · rw [List.getElem?_set_ne (by omega)]; exact hm j (by omega)
/-- .. and found there. -/
theorem held_loop (n : Nat) (a : Int) (ha : 0 ≤ a) (hn : a + n ≤ 4611686018427387904) (g : Nat → Int → Int → Option Int)
    (hs : ∀ k (i : Nat) c, i < n → c = a + i → g (k + 1) c i = g k (wrap64 (c + 1)) (wrap64 (i + 1))) (he : ∀ k c, g (k + 1) c n = some c) :
    ∀ d i k : Nat, i + d = n → d < k → g k (a + i) i = some (a + n) := by
  intro d
  induction d with
  | zero =>
    intro i k hi hk
    obtain ⟨k, rfl⟩ : ∃ m, k = m + 1 := ⟨k - 1, by omega⟩
    obtain rfl : i = n := by omega
    exact he k _
  | succ d ih =>
    intro i k hi hk
    obtain ⟨k, rfl⟩ : ∃ m, k = m + 1 := ⟨k - 1, by omega⟩
    rw [hs k i _ (by omega) rfl, w64 (n := a + i + 1) (by omega) (by omega), w64 (n := (i : Int) + 1) (by omega) (by omega)]
    have e1 : a + (i : Int) + 1 = a + ((i + 1 : Nat) : Int) := by omega
    rw [e1]
    exact ih (i + 1) k (by omega) (by omega)

end Go.Proofs.YtaophlekfepkgaaGreatDoor.Lem

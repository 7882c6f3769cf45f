/- FnFold holds for every code: the fold of a list with a word behind it is one step from the list's, and a list with one bit of a word turned folds to another word (each step is one to one in the word and in what is folded so far). No condition. -/
import Derived.Test.YtkepakklhnhnkaaPFnFoldx
import Derived.Test.YtkepakklhnhnkaaLem
set_option linter.unusedVariables false
set_option linter.unusedSimpArgs false
namespace Go.Proofs.Ytkepakklhnhnkaa.Pure
open Go.RowKit Go.Proofs.Ytkepakklhnhnkaa.PFnFold Go.Proofs.YtkepakklhnhnkaaW.PrintWords Go.Proofs.YtkepakklhnhnkaaW.PrintLast Go.Proofs.Ytkepakklhnhnkaa.Lem

theorem byte_is (b : List Int) (hb : b.length ≤ 4611686018427387904) (i h : Int) (hi : 0 ≤ i) : ∃ x i' h', spec_l01Byte.f b i h = some (x, i', h') ∧ 0 ≤ x ∧ x ≤ 255 ∧ 0 ≤ i' := by
  have m : ∀ y : Int, Go.bits .and .i64 y 255 = y % 256 := by
    intro y
    have := and_mask .i64 8 (by decide) (fun n a b => wraps_i64 n a (by omega)) y
    rwa [show (2 : Int) ^ 8 - 1 = 255 from rfl, show (2 : Int) ^ 8 = 256 from rfl] at this
  unfold spec_l01Byte.f
  by_cases h1 : i < (b.length : Int)
  · rw [if_pos h1, if_pos hi]
    refine ⟨_, _, _, rfl, ?_, ?_, ?_⟩
    · rw [m]; omega
    · rw [m]; omega
    · rw [w64 (by omega) (by omega)]; omega
  · rw [if_neg h1]
    refine ⟨_, _, _, rfl, ?_, ?_, hi⟩
    · rw [m]; omega
    · rw [m]; omega
theorem below_is (b : List Int) (hb : b.length ≤ 4611686018427387904) (i h n : Int) (hi : 0 ≤ i) : ∃ r i' h', spec_l01Below.f b i h n = some (r, i', h') ∧ 0 ≤ r ∧ (0 < n → r < n) ∧ (n ≤ 0 → r = 0) ∧ 0 ≤ i' := by
  unfold spec_l01Below.f
  by_cases h0 : n ≤ 0
  · rw [if_pos h0]; exact ⟨_, _, _, rfl, by omega, by omega, fun _ => rfl, hi⟩
  · rw [if_neg h0]
    obtain ⟨x1, i1, h1, e1, a1, b1, c1⟩ := byte_is b hb i h hi
    by_cases h2 : n ≤ 256
    · rw [if_pos h2, e1]
      simp only [Option.bind_some]
      rw [if_neg (by omega), tmod_pos a1]
      exact ⟨_, _, _, rfl, Int.emod_nonneg _ (by omega), fun _ => Int.emod_lt_of_pos _ (by omega), by omega, c1⟩
    · rw [if_neg h2]
      obtain ⟨x2, i2, h2', e2, a2, b2, c2⟩ := byte_is b hb i1 h1 c1
      obtain ⟨x3, i3, h3, e3, a3, b3, c3⟩ := byte_is b hb i2 h2' c2
      obtain ⟨x4, i4, h4, e4, a4, b4, c4⟩ := byte_is b hb i3 h3 c3
      simp only [e1, e2, e3, e4, Option.bind_some]
      rw [if_neg (by omega)]
      rw [w64 (n := x1 * 16777216) (by omega) (by omega), w64 (n := x2 * 65536) (by omega) (by omega), w64 (n := x3 * 256) (by omega) (by omega), w64 (n := x1 * 16777216 + x2 * 65536) (by omega) (by omega),
        w64 (n := x1 * 16777216 + x2 * 65536 + x3 * 256) (by omega) (by omega), w64 (n := x1 * 16777216 + x2 * 65536 + x3 * 256 + x4) (by omega) (by omega), tmod_pos (by omega)]
      exact ⟨_, _, _, rfl, Int.emod_nonneg _ (by omega), fun _ => Int.emod_lt_of_pos _ (by omega), by omega, c4⟩
theorem new_is (b : List Int) (hb : b.length ≤ 4611686018427387904) : ∀ (d i k : Nat) (h : Int), i + d = b.length → d < k → ∃ h', spec_l01New.l0 k b h i = some (b, 0, h') := by
  intro d
  induction d with
  | zero =>
    intro i k h hi hk
    obtain ⟨k, rfl⟩ : ∃ m, k = m + 1 := ⟨k - 1, by omega⟩
    exact ⟨h, by simp only [spec_l01New.l0]; rw [if_neg (by omega)]⟩
  | succ d ih =>
    intro i k h hi hk
    obtain ⟨k, rfl⟩ : ∃ m, k = m + 1 := ⟨k - 1, by omega⟩
    simp only [spec_l01New.l0]
    rw [if_pos (by omega)]
    by_cases h4 : (i : Int) < 4000
    · rw [if_pos h4, if_pos (by omega), w64 (n := (i : Int) + 1) (by omega) (by omega)]
      exact ih (i + 1) k _ (by omega) (by omega)
    · rw [if_neg h4]; exact ⟨h, rfl⟩
theorem drawn (b : List Int) (hb : b.length ≤ 4611686018427387904) (k : Nat) (hk : b.length < k) : ∃ h', spec_l01New.f k b = some (b, 0, h') := new_is b hb b.length 0 k _ (by omega) hk
theorem rotl5 {h : Int} (h0 : 0 ≤ h) (h1 : h < 4294967296) : bits_RotateLeft32.f h 5 = some (rot h 5) := by
  unfold bits_RotateLeft32.f
  exact rotl_eq h0 h1 (s := 5) (by omega)
/-- One step of the fold. -/
def stp (h w : Int) : Int := (Go.bits .xor .u32 (rot h 5) w + 2654435769) % 4294967296
theorem stp_range (h w : Int) : 0 ≤ stp h w ∧ stp h w < 4294967296 := by unfold stp; omega
theorem fold_is (l : List Int) (hl : l.length ≤ 35184372087808) : ∀ (d i k : Nat) (h : Int), i + d = l.length → d < k → 0 ≤ h → h < 4294967296 →
    impl_FoldWords.l0 k h l l.length i = some ((l.drop i).foldl stp h) := by
  intro d
  induction d with
  | zero =>
    intro i k h hi hk _ _
    obtain ⟨k, rfl⟩ : ∃ m, k = m + 1 := ⟨k - 1, by omega⟩
    rw [List.drop_of_length_le (by omega)]
    simp only [impl_FoldWords.l0, List.foldl_nil]; rw [if_neg (by omega)]
  | succ d ih =>
    intro i k h hi hk h0 h1
    obtain ⟨k, rfl⟩ : ∃ m, k = m + 1 := ⟨k - 1, by omega⟩
    have hlt : i < l.length := by omega
    rw [List.drop_eq_getElem_cons hlt, List.foldl_cons]
    have := ih (i + 1) k (stp h l[i]) (by omega) (by omega) (stp_range _ _).1 (stp_range _ _).2
    simp only [impl_FoldWords.l0, rd_at l i hlt]
    rw [if_pos (by omega), if_pos (by omega), if_pos (by omega), rotl5 h0 h1, Option.bind_some, w64 (by omega) (by omega)]; exact this
theorem foldWords_is (l : List Int) (hl : l.length ≤ 35184372087808) (k : Nat) (hk : l.length < k) : impl_FoldWords.f k l = some (l.foldl stp 1) := by
  have := fold_is l hl l.length 0 k 1 (by omega) hk (by omega) (by omega)
  exact this
/-! ### one to one -/
theorem xor_nat {a b : Int} (ha : 0 ≤ a ∧ a < 4294967296) (hb : 0 ≤ b ∧ b < 4294967296) : Go.bits .xor .u32 a b = ((a.toNat ^^^ b.toNat : Nat) : Int) := by
  simp only [Go.bits]
  have e : (BitVec.ofInt IntKind.u32.bits a ^^^ BitVec.ofInt IntKind.u32.bits b).toNat = a.toNat ^^^ b.toNat := by
    rw [BitVec.toNat_xor, BitVec.toNat_ofInt, BitVec.toNat_ofInt]
    have h32 : IntKind.u32.bits = 32 := rfl
    rw [h32]
    congr 1 <;> congr 1 <;> omega
  rw [e]
  have hlt : a.toNat ^^^ b.toNat < 2 ^ 32 := Nat.xor_lt_two_pow (by omega) (by omega)
  exact wraps_u32 _ (by omega) (by omega)
theorem xor_right {a b c : Int} (ha : 0 ≤ a ∧ a < 4294967296) (hb : 0 ≤ b ∧ b < 4294967296) (hc : 0 ≤ c ∧ c < 4294967296) (h : Go.bits .xor .u32 a b = Go.bits .xor .u32 a c) : b = c := by
  rw [xor_nat ha hb, xor_nat ha hc] at h
  have h' : a.toNat ^^^ b.toNat = a.toNat ^^^ c.toNat := by omega
  have := congrArg (a.toNat ^^^ ·) h'
  simp only [← Nat.xor_assoc, Nat.xor_self, Nat.zero_xor] at this
  omega
theorem xor_left {a b c : Int} (ha : 0 ≤ a ∧ a < 4294967296) (hb : 0 ≤ b ∧ b < 4294967296) (hc : 0 ≤ c ∧ c < 4294967296) (h : Go.bits .xor .u32 b a = Go.bits .xor .u32 c a) : b = c := by
  rw [xor_nat hb ha, xor_nat hc ha] at h
  have h' : b.toNat ^^^ a.toNat = c.toNat ^^^ a.toNat := by omega
  have := congrArg (· ^^^ a.toNat) h'
  simp only [Nat.xor_assoc, Nat.xor_self, Nat.xor_zero] at this
  omega
theorem xor_range {a b : Int} (ha : 0 ≤ a ∧ a < 4294967296) (hb : 0 ≤ b ∧ b < 4294967296) : 0 ≤ Go.bits .xor .u32 a b ∧ Go.bits .xor .u32 a b < 4294967296 := by
  rw [xor_nat ha hb]
  have hlt : a.toNat ^^^ b.toNat < 2 ^ 32 := Nat.xor_lt_two_pow (by omega) (by omega)
  omega
theorem xor_bit {a : Int} (ha : 0 ≤ a ∧ a < 4294967296) {s : Nat} (hs : s ≤ 31) : Go.bits .xor .u32 a (2 ^ s : Int) ≠ a := by
  have hp : (2 : Nat) ^ s ≤ 2 ^ 31 := Nat.pow_le_pow_right (by decide) hs
  have hpos : 0 < (2 : Nat) ^ s := Nat.two_pow_pos s
  have e : ((2 : Int) ^ s) = ((2 ^ s : Nat) : Int) := by simp
  rw [e]
  intro h
  rw [xor_nat ha (by omega)] at h
  have h' : a.toNat ^^^ (2 ^ s) = a.toNat := by
    have : ((2 ^ s : Nat) : Int).toNat = 2 ^ s := by omega
    rw [this] at h; omega
  have := congrArg (a.toNat ^^^ ·) h'
  simp only [← Nat.xor_assoc, Nat.xor_self, Nat.zero_xor] at this
  omega
theorem rot_inj {x y : Int} (hx : 0 ≤ x ∧ x < 4294967296) (hy : 0 ≤ y ∧ y < 4294967296) (h : rot x 5 = rot y 5) : x = y := by
  unfold rot at h
  simp only [show (2 : Int) ^ 5 = 32 from rfl, show (2 : Int) ^ (32 - 5) = 134217728 from rfl] at h
  have ex : x * 32 % 4294967296 = x % 134217728 * 32 := by omega
  have ey : y * 32 % 4294967296 = y % 134217728 * 32 := by omega
  rw [ex, ey] at h
  omega
theorem stp_word {h a b : Int} (hh : 0 ≤ h ∧ h < 4294967296) (ha : 0 ≤ a ∧ a < 4294967296) (hb : 0 ≤ b ∧ b < 4294967296) (e : stp h a = stp h b) : a = b := by
  have hr := rot_range hh.1 hh.2 (s := 5) (by omega)
  have r1 := xor_range hr ha
  have r2 := xor_range hr hb
  refine xor_right hr ha hb ?_
  unfold stp at e; omega
theorem stp_fold {h g a : Int} (hh : 0 ≤ h ∧ h < 4294967296) (hg : 0 ≤ g ∧ g < 4294967296) (ha : 0 ≤ a ∧ a < 4294967296) (e : stp h a = stp g a) : h = g := by
  have hr := rot_range hh.1 hh.2 (s := 5) (by omega)
  have gr := rot_range hg.1 hg.2 (s := 5) (by omega)
  have r1 := xor_range hr ha
  have r2 := xor_range gr ha
  refine rot_inj hh hg (xor_left ha hr gr ?_)
  unfold stp at e; omega
theorem fold_inj : ∀ (l : List Int), (∀ x ∈ l, 0 ≤ x ∧ x < 4294967296) → ∀ h g : Int, (0 ≤ h ∧ h < 4294967296) → (0 ≤ g ∧ g < 4294967296) → l.foldl stp h = l.foldl stp g → h = g := by
  intro l
  induction l with
  | nil => intro _ h g _ _ e; exact e
  | cons x l ih =>
    intro hl h g hh hg e
    exact stp_fold hh hg (hl x (by simp)) (ih (fun y hy => hl y (by simp [hy])) _ _ (stp_range _ _) (stp_range _ _) e)
theorem fold_range : ∀ (l : List Int) (h : Int), (0 ≤ h ∧ h < 4294967296) → 0 ≤ l.foldl stp h ∧ l.foldl stp h < 4294967296 := by
  intro l
  induction l with
  | nil => intro h hh; exact hh
  | cons x l ih => intro h hh; exact ih _ (stp_range _ _)
theorem fold_other (l : List Int) (hl : ∀ x ∈ l, 0 ≤ x ∧ x < 4294967296) (j : Nat) (hj : j < l.length) (x : Int) (hx : 0 ≤ x ∧ x < 4294967296) (hne : x ≠ l[j]) : (l.set j x).foldl stp 1 ≠ l.foldl stp 1 := by
  intro e
  have e1 : l.set j x = l.take j ++ x :: l.drop (j + 1) := by rw [List.set_eq_take_append_cons_drop, if_pos hj]
  have e2 : l = l.take j ++ l[j] :: l.drop (j + 1) := by rw [← List.drop_eq_getElem_cons hj, List.take_append_drop]
  rw [e1] at e
  have e' : (l.take j ++ x :: l.drop (j + 1)).foldl stp 1 = (l.take j ++ l[j] :: l.drop (j + 1)).foldl stp 1 := by rw [← e2]; exact e
  rw [List.foldl_append, List.foldl_append, List.foldl_cons, List.foldl_cons] at e'
  have hr := fold_range (l.take j) 1 (by omega)
  have := fold_inj (l.drop (j + 1)) (fun y hy => hl y (List.mem_of_mem_drop hy)) _ _ (stp_range _ _) (stp_range _ _) e'
  exact hne (stp_word hr hx (hl _ (List.getElem_mem _)) this)
/-! ### what is drawn -/
theorem word_is (b : List Int) (hb : b.length ≤ 4611686018427387904) (i h : Int) (hi : 0 ≤ i) : ∃ x i' h', spec_l01Word.f b i h = some (x, i', h') ∧ (0 ≤ x ∧ x < 4294967296) ∧ 0 ≤ i' := by
  unfold spec_l01Word.f
  obtain ⟨x1, i1, h1, e1, a1, b1, c1, d1⟩ := below_is b hb i h 4 hi
  rw [e1]
  simp only [Option.bind_some]
  by_cases z0 : x1 = 0
  · rw [if_pos z0]
    obtain ⟨x2, i2, h2, e2, a2, b2, c2, d2⟩ := below_is b hb i1 h1 11 d1
    have hb2 := b2 (by omega)
    have : spec_l01PickInt.f b i1 h1 [0, 1, 2, 31, 32, 255, 256, 2147483647, 2147483648, 4294967295, 4294967294] = some (rd [0, 1, 2, 31, 32, 255, 256, 2147483647, 2147483648, 4294967295, 4294967294] x2, i2, h2) := by
      unfold spec_l01PickInt.f
      have hL : ((([0, 1, 2, 31, 32, 255, 256, 2147483647, 2147483648, 4294967295, 4294967294] : List Int).length : Nat) : Int) = 11 := rfl
      simp only [hL, e2, Option.bind_some]
      rw [if_pos a2, if_pos hb2]
    rw [this]
    exact ⟨_, _, _, rfl, by simp only; omega, d2⟩
  · rw [if_neg z0]
    by_cases z1 : x1 = 1
    · rw [if_pos z1]
      obtain ⟨x2, i2, h2, e2, a2, b2, c2, d2⟩ := below_is b hb i1 h1 300 d1
      rw [e2]
      exact ⟨_, _, _, rfl, by simp only; omega, d2⟩
    · rw [if_neg z1]
      obtain ⟨x2, i2, h2, e2, a2, b2, c2, d2⟩ := below_is b hb i1 h1 65536 d1
      obtain ⟨x3, i3, h3, e3, a3, b3, c3, d3⟩ := below_is b hb i2 h2 65536 d2
      rw [e2]
      simp only [Option.bind_some]
      rw [e3]
      exact ⟨_, _, _, rfl, by simp only; omega, d3⟩
theorem words_is (b : List Int) (hb : b.length ≤ 4611686018427387904) (n : Nat) (hn : n ≤ 1000) : ∀ (d i k : Nat) (acc : List Int) (q h : Int), i + d = n → d < k → acc.length = i → (∀ x ∈ acc, 0 ≤ x ∧ x < 4294967296) → 0 ≤ q →
    ∃ out q' h', spec_l01Words.l0 k n acc i b q h = some (out, q', h') ∧ out.length = n ∧ ∀ x ∈ out, 0 ≤ x ∧ x < 4294967296 := by
  intro d
  induction d with
  | zero =>
    intro i k acc q h hi hk ha hr hq
    obtain ⟨k, rfl⟩ : ∃ m, k = m + 1 := ⟨k - 1, by omega⟩
    exact ⟨acc, q, h, by simp only [spec_l01Words.l0]; rw [if_neg (by omega)], by omega, hr⟩
  | succ d ih =>
    intro i k acc q h hi hk ha hr hq
    obtain ⟨k, rfl⟩ : ∃ m, k = m + 1 := ⟨k - 1, by omega⟩
    obtain ⟨x, q1, h1, e1, hx, hq1⟩ := word_is b hb q h hq
    obtain ⟨out, q2, h2, e2, h3, h4⟩ := ih (i + 1) k (acc ++ [x]) q1 h1 (by omega) (by omega) (by simp; omega) (by
      intro y hy
      rcases List.mem_append.1 hy with hy | hy
      · exact hr y hy
      · simp at hy; subst hy; exact hx) hq1
    refine ⟨out, q2, h2, ?_, h3, h4⟩
    simp only [spec_l01Words.l0, e1, Option.bind_some]
    rw [if_pos (by omega), if_pos (by omega), w64 (by omega) (by omega)]
    exact e2
theorem drawn_words (b : List Int) (hb : b.length ≤ 1048576) (k : Nat) (hk : b.length + 100 < k) : ∃ out, spec_DrawFoldWords.f k b = some out ∧ out.length ≤ 40 ∧ ∀ x ∈ out, 0 ≤ x ∧ x < 4294967296 := by
  obtain ⟨h', e0⟩ := drawn b (by omega) k (by omega)
  have hs : ∃ n, spec_l01Size.f b 40 = some n ∧ 2 ≤ n ∧ n ≤ 40 := by
    unfold spec_l01Size.f
    rw [w64 (n := (b.length : Int) / 20) (by omega) (by omega), w64 (by omega) (by omega)]
    by_cases h : 2 + (b.length : Int) / 20 > 40
    · rw [if_pos h]; exact ⟨_, rfl, by omega, by omega⟩
    · rw [if_neg h]; exact ⟨_, rfl, by omega, by omega⟩
  obtain ⟨n, e1, n0, n1⟩ := hs
  obtain ⟨r, i1, h1, e2, a2, b2, c2, d2⟩ := below_is b (by omega) 0 h' n (by omega)
  have hr := b2 (by omega)
  obtain ⟨rn, hrn⟩ := Int.eq_ofNat_of_zero_le a2
  subst hrn
  obtain ⟨out, q', h2, e3, hl, hx⟩ := words_is b (by omega) rn (by omega) rn 0 k [] i1 h1 (by omega) (by omega) rfl (by simp) d2
  refine ⟨out, ?_, by omega, hx⟩
  have e4 : spec_l01Words.f k b i1 h1 (rn : Int) = some (out, q', h2) := e3
  unfold spec_DrawFoldWords.f
  simp only [e0, e1, e2, e4, Option.bind_some]
theorem at_is (b : List Int) (hb : b.length ≤ 1048576) (hw : ∀ x ∈ b, (Lit.int .u8 x).wf = true) (i : Int) (hi : 0 ≤ i ∧ i ≤ 100) : ∃ x, laws_at.f b i = some x ∧ 0 ≤ x ∧ x ≤ 255 := by
  unfold laws_at.f
  by_cases h : i < (b.length : Int)
  · rw [if_pos h, if_pos hi.1]
    obtain ⟨n, rfl⟩ := Int.eq_ofNat_of_zero_le hi.1
    have hn : n < b.length := by omega
    have := u8_of (hw _ (List.getElem_mem hn))
    have e := rd_at b n hn
    refine ⟨_, rfl, ?_⟩
    rw [show ((n : Nat) : Int) = Int.ofNat n from rfl] at *
    rw [e, w64 (by omega) (by omega)]; omega
  · rw [if_neg h, w64 (n := i * 7) (by omega) (by omega), w64 (by omega) (by omega), tmod_pos (by omega)]
    exact ⟨_, rfl, by omega, by omega⟩
theorem aword_is (b : List Int) (hb : b.length ≤ 1048576) (hw : ∀ x ∈ b, (Lit.int .u8 x).wf = true) : ∃ x, laws_word.f b 2 = some x ∧ 0 ≤ x ∧ x < 4294967296 := by
  obtain ⟨x2, e2, _⟩ := at_is b hb hw 2 (by omega)
  obtain ⟨x3, e3, _⟩ := at_is b hb hw 3 (by omega)
  obtain ⟨x4, e4, _⟩ := at_is b hb hw 4 (by omega)
  obtain ⟨x5, e5, _⟩ := at_is b hb hw 5 (by omega)
  unfold laws_word.f
  rw [show wrap64 (2 + 1) = 3 from w64 (n := 2 + 1) (by omega) (by omega), show wrap64 (2 + 2) = 4 from w64 (n := 2 + 2) (by omega) (by omega), show wrap64 (2 + 3) = 5 from w64 (n := 2 + 3) (by omega) (by omega), e2, e3, e4, e5]
  simp only [Option.bind_some]
  exact ⟨_, rfl, by omega, by omega⟩
theorem rotw_is {h : Int} (h0 : 0 ≤ h) (h1 : h < 4294967296) : impl_RotWord.f h 5 = some (rot h 5) := by
  unfold impl_RotWord.f
  rw [show Go.bits .and .i64 5 31 = 5 from by decide +kernel, rotl5 h0 h1]; rfl
theorem FnFold : laws_FnFold.Pure := by
  intro b _ _ hw
  obtain ⟨k, hk⟩ : ∃ k : Nat, b.length + 1000 < k := ⟨b.length + 1001, by omega⟩
  refine ⟨k, ?_⟩
  unfold laws_FnFold.f laws_big.f
  simp only [Option.bind_some]
  by_cases h : (b.length : Int) > 1048576
  · rw [if_pos (by simpa using h)]
  · rw [if_neg (by simpa using h)]
    have hb : b.length ≤ 1048576 := by omega
    obtain ⟨t, e1, hl, ht⟩ := drawn_words b hb k (by omega)
    have f1 := foldWords_is t (by omega) k (by omega)
    obtain ⟨w, e2, hw0, hw1⟩ := aword_is b hb hw
    have hr1 := fold_range t 1 (by omega)
    have f2 := foldWords_is (t ++ [w]) (by simp; omega) k (by simp; omega)
    have hmore : ∀ x ∈ t ++ [w], 0 ≤ x ∧ x < 4294967296 := by
      intro x hx
      rcases List.mem_append.1 hx with hx | hx
      · exact ht x hx
      · simp at hx; subst hx; exact ⟨hw0, hw1⟩
    obtain ⟨p, e3, p0, p1⟩ := at_is b hb hw 1 (by omega)
    obtain ⟨q, e4, q0, q1⟩ := at_is b hb hw 6 (by omega)
    have hlen : (t ++ [w]).length = t.length + 1 := by simp
    have hj0 : 0 ≤ p % ((t ++ [w]).length : Int) := Int.emod_nonneg _ (by omega)
    have hj1 : p % ((t ++ [w]).length : Int) < ((t ++ [w]).length : Int) := Int.emod_lt_of_pos _ (by omega)
    obtain ⟨j, hj⟩ := Int.eq_ofNat_of_zero_le hj0
    have hjl : j < (t ++ [w]).length := by omega
    obtain ⟨s, hs⟩ := Int.eq_ofNat_of_zero_le (show 0 ≤ q % 32 by omega)
    have hsl : s ≤ 31 := by omega
    have hsw : IntKind.u64.wrap (Int.tmod q 32) = (s : Int) := by rw [tmod_pos q0, wrap_u64]; omega
    have hPb : (0 : Int) ≤ 2 ^ s ∧ (2 : Int) ^ s < 4294967296 := by
      have hp : (2 : Nat) ^ s ≤ 2 ^ 31 := Nat.pow_le_pow_right (by decide) hsl
      have hpc : (2 : Int) ^ s = ((2 ^ s : Nat) : Int) := by simp
      rw [hpc]
      generalize 2 ^ s = N at hp
      omega
    have hsh : shl .u32 1 (s : Int) = (2 ^ s : Int) := by
      unfold shl
      rw [Int.toNat_natCast, Nat.min_eq_left (by simp [IntKind.bits]; omega), Int.one_mul, IntKind.wrap_u32]
      generalize (2 : Int) ^ s = P at hPb ⊢
      omega
    have hel := hmore _ (List.getElem_mem hjl)
    have hxr := xor_range hel (b := (2 ^ s : Int)) hPb
    have hne := fold_other (t ++ [w]) hmore j hjl (Go.bits .xor .u32 (t ++ [w])[j] (2 ^ s : Int)) hxr (xor_bit hel hsl)
    have f3 := foldWords_is ((t ++ [w]).set j (Go.bits .xor .u32 (t ++ [w])[j] (2 ^ s : Int))) (by simp; omega) k (by simp; omega)
    have hrd := rd_at (t ++ [w]) j hjl
    rw [e1]
    simp only [Option.bind_some]
    rw [f1]
    simp only [Option.bind_some]
    rw [e2]
    simp only [Option.bind_some, List.nil_append, List.length_nil]
    rw [if_pos (by omega), if_pos (by omega), f2]
    simp only [Option.bind_some]
    rw [rotw_is hr1.1 hr1.2]
    simp only [Option.bind_some]
    have hst : (t ++ [w]).foldl stp 1 = (Go.bits .xor .u32 (rot (t.foldl stp 1) 5) w + 2654435769) % 4294967296 := by
      rw [List.foldl_append]; rfl
    rw [if_pos hst, if_pos (by omega), e3]
    simp only [Option.bind_some]
    rw [if_neg (by omega), tmod_pos p0, hj, if_pos (by omega), if_pos (by omega), e4]
    simp only [Option.bind_some, hsw]
    rw [if_pos (by omega)]
    simp only [Int.ofNat_eq_natCast, Int.toNat_natCast, hsh, hrd]
    rw [f3]
    simp only [Option.bind_some, f2]
    congr 1
    simpa using hne

end Go.Proofs.Ytkepakklhnhnkaa.Pure

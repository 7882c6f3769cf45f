/- A drawn right instruction goes into a word and comes back; the word's line is read back as the same word: for every code (of one longer than 2^20 the statement asks nothing). No condition. -/
import Derived.Test.YtaophlekfepkgaaDoorCodecPFnCodec
namespace Go.Proofs.YtaophlekfepkgaaDoor.Pure
open Go.RowKit Go.Proofs.YtaophlekfepkgaaDoor.PFnCodec Go.Proofs.YtaophlekfepkgaaDoorW.PrintWords Go.Proofs.YtaophlekfepkgaaDoorW.PrintLast Go.Proofs.YtaophlekfepkgaaDoor.Lem

theorem byte_is (b : List Int) (hb : b.length ≤ 4611686018427387904) (i h : Int) (hi : 0 ≤ i) : ∃ x i' h', spec_l01Byte.f b i h = some (x, i', h') ∧ 0 ≤ x ∧ x ≤ 255 ∧ 0 ≤ i' := by
  have m : ∀ y : Int, Go.bits .and .i64 y 255 = y % 256 := by
    intro y
    have := and_mask .i64 8 (by decide) (fun n a b => wraps_i64 n a (by omega)) y
    rwa [show (2 : Int) ^ 8 - 1 = 255 from rfl, show (2 : Int) ^ 8 = 256 from rfl] at this
  unfold spec_l01Byte.f
  by_cases h1 : i < (b.length : Int)
  · rw [if_pos h1, if_pos hi]
    refine ⟨_, _, _, rfl, ?_, ?_, ?_⟩
    · rw [m]; omega
    · rw [m]; omega
    · rw [w64 (by omega) (by omega)]; omega
  · rw [if_neg h1]
    refine ⟨_, _, _, rfl, ?_, ?_, hi⟩
    · rw [m]; omega
    · rw [m]; omega
theorem below_is (b : List Int) (hb : b.length ≤ 4611686018427387904) (i h n : Int) (hi : 0 ≤ i) : ∃ r i' h', spec_l01Below.f b i h n = some (r, i', h') ∧ 0 ≤ r ∧ (0 < n → r < n) ∧ (n ≤ 0 → r = 0) ∧ 0 ≤ i' := by
  unfold spec_l01Below.f
  by_cases h0 : n ≤ 0
  · rw [if_pos h0]; exact ⟨_, _, _, rfl, by omega, by omega, fun _ => rfl, hi⟩
  · rw [if_neg h0]
    obtain ⟨x1, i1, h1, e1, a1, b1, c1⟩ := byte_is b hb i h hi
    by_cases h2 : n ≤ 256
    · rw [if_pos h2, e1]
      simp only [Option.bind_some]
      rw [if_neg (by omega), tmod_pos a1]
      exact ⟨_, _, _, rfl, Int.emod_nonneg _ (by omega), fun _ => Int.emod_lt_of_pos _ (by omega), by omega, c1⟩
    · rw [if_neg h2]
      obtain ⟨x2, i2, h2', e2, a2, b2, c2⟩ := byte_is b hb i1 h1 c1
      obtain ⟨x3, i3, h3, e3, a3, b3, c3⟩ := byte_is b hb i2 h2' c2
      obtain ⟨x4, i4, h4, e4, a4, b4, c4⟩ := byte_is b hb i3 h3 c3
      simp only [e1, e2, e3, e4, Option.bind_some]
      rw [if_neg (by omega)]
      rw [w64 (n := x1 * 16777216) (by omega) (by omega), w64 (n := x2 * 65536) (by omega) (by omega), w64 (n := x3 * 256) (by omega) (by omega), w64 (n := x1 * 16777216 + x2 * 65536) (by omega) (by omega),
        w64 (n := x1 * 16777216 + x2 * 65536 + x3 * 256) (by omega) (by omega), w64 (n := x1 * 16777216 + x2 * 65536 + x3 * 256 + x4) (by omega) (by omega), tmod_pos (by omega)]
      exact ⟨_, _, _, rfl, Int.emod_nonneg _ (by omega), fun _ => Int.emod_lt_of_pos _ (by omega), by omega, c4⟩
theorem new_is (b : List Int) (hb : b.length ≤ 4611686018427387904) : ∀ (d i k : Nat) (h : Int), i + d = b.length → d < k → ∃ h', spec_l01New.l0 k b h i = some (b, 0, h') := by
  intro d
  induction d with
  | zero =>
    intro i k h hi hk
    obtain ⟨k, rfl⟩ : ∃ m, k = m + 1 := ⟨k - 1, by omega⟩
    exact ⟨h, by simp only [spec_l01New.l0]; rw [if_neg (by omega)]⟩
  | succ d ih =>
    intro i k h hi hk
    obtain ⟨k, rfl⟩ : ∃ m, k = m + 1 := ⟨k - 1, by omega⟩
    simp only [spec_l01New.l0]
    rw [if_pos (by omega)]
    by_cases h4 : (i : Int) < 4000
    · rw [if_pos h4, if_pos (by omega), w64 (n := (i : Int) + 1) (by omega) (by omega)]
      exact ih (i + 1) k _ (by omega) (by omega)
    · rw [if_neg h4]; exact ⟨h, rfl⟩
theorem drawn (b : List Int) (hb : b.length ≤ 4611686018427387904) (k : Nat) (hk : b.length < k) : ∃ h', spec_l01New.f k b = some (b, 0, h') := new_is b hb b.length 0 k _ (by omega) hk
theorem pick_is (b : List Int) (hb : b.length ≤ 4611686018427387904) (i h : Int) (l : List Int) (hl : 0 < l.length) (hi : 0 ≤ i) : ∃ r i' h', spec_l01PickInt.f b i h l = some (r, i', h') ∧ r ∈ l ∧ 0 ≤ i' := by
  obtain ⟨r, i', h', e, a, c, _, d⟩ := below_is b hb i h (l.length : Int) hi
  unfold spec_l01PickInt.f
  rw [e]
  simp only [Option.bind_some]
  have hr := c (by omega)
  rw [if_pos a, if_pos hr]
  refine ⟨_, _, _, rfl, ?_, d⟩
  obtain ⟨j, rfl⟩ := Int.eq_ofNat_of_zero_le a
  rw [rd_at l j (by omega)]
  exact List.getElem_mem _
theorem j2_is (b : List Int) (hb : b.length ≤ 4611686018427387904) (k : Nat) (F i h x0 x1 x2 x3 x4 : Int) (hi : 0 ≤ i) : ∃ o a c d e i' h', spec_l02Instr.j2 (k + 1) F b i h x0 x1 x2 x3 x4 = some (o, a, c, d, e, i', h') ∧ 0 ≤ i' := by
  simp only [spec_l02Instr.j2]
  by_cases c1 : Int.tmod (wrap64 (Int.tdiv F 8)) 2 = 1
  · rw [if_pos c1]
    obtain ⟨r1, i1, h1, e1, _, _, _, g1⟩ := below_is b hb i h 17 hi
    obtain ⟨r2, i2, h2, e2, _, _, _, g2⟩ := below_is b hb i1 h1 8 g1
    simp only [e1, e2, Option.bind_some]
    by_cases c2 : r2 = 0
    · rw [if_pos c2]
      obtain ⟨r3, i3, h3, e3, _, g3⟩ := pick_is b hb i2 h2 [(-8192), 8191, 0] (by simp) g2
      simp only [e3, Option.bind_some]
      exact ⟨_, _, _, _, _, _, _, rfl, g3⟩
    · rw [if_neg c2]
      by_cases c3 : r2 = 1
      · rw [if_pos c3]
        obtain ⟨r3, i3, h3, e3, _, _, _, g3⟩ := below_is b hb i2 h2 16384 g2
        simp only [e3, Option.bind_some]
        exact ⟨_, _, _, _, _, _, _, rfl, g3⟩
      · rw [if_neg c3]
        exact ⟨_, _, _, _, _, _, _, rfl, g2⟩
  · rw [if_neg c1]
    exact ⟨_, _, _, _, _, _, _, rfl, hi⟩
theorem j1_is (b : List Int) (hb : b.length ≤ 4611686018427387904) (k : Nat) (F i h x0 x1 x2 x3 x4 : Int) (hi : 0 ≤ i) : ∃ o a c d e i' h', spec_l02Instr.j1 (k + 2) F b i h x0 x1 x2 x3 x4 = some (o, a, c, d, e, i', h') ∧ 0 ≤ i' := by
  simp only [spec_l02Instr.j1]
  by_cases c1 : Int.tmod (wrap64 (Int.tdiv F 4)) 2 = 1
  · rw [if_pos c1]
    obtain ⟨r1, i1, h1, e1, _, _, _, g1⟩ := below_is b hb i h 16 hi
    simp only [e1, Option.bind_some]
    exact j2_is b hb k F i1 h1 _ _ _ _ _ g1
  · rw [if_neg c1]
    exact j2_is b hb k F i h _ _ _ _ _ hi
theorem j0_is (b : List Int) (hb : b.length ≤ 4611686018427387904) (k : Nat) (F i h x0 x1 x2 x3 x4 : Int) (hi : 0 ≤ i) : ∃ o a c d e i' h', spec_l02Instr.j0 (k + 3) F b i h x0 x1 x2 x3 x4 = some (o, a, c, d, e, i', h') ∧ 0 ≤ i' := by
  simp only [spec_l02Instr.j0]
  by_cases c1 : Int.tmod (wrap64 (Int.tdiv F 2)) 2 = 1
  · rw [if_pos c1]
    obtain ⟨r1, i1, h1, e1, _, _, _, g1⟩ := below_is b hb i h 16 hi
    simp only [e1, Option.bind_some]
    exact j1_is b hb k F i1 h1 _ _ _ _ _ g1
  · rw [if_neg c1]
    exact j1_is b hb k F i h _ _ _ _ _ hi
theorem instr_is (b : List Int) (hb : b.length ≤ 4611686018427387904) (k : Nat) (i h : Int) (hi : 0 ≤ i) : ∃ o a c d e i' h', spec_l02Instr.f (k + 3) b i h = some (o, a, c, d, e, i', h') ∧ 0 ≤ i' := by
  unfold spec_l02Instr.f
  obtain ⟨r1, i1, h1, e1, _, _, _, g1⟩ := below_is b hb i h 33 hi
  simp only [e1, Option.bind_some, spec_form]
  by_cases c1 : Int.tmod (impl_isInstr.form r1) 2 = 1
  · rw [if_pos c1]
    obtain ⟨r2, i2, h2, e2, _, _, _, g2⟩ := below_is b hb i1 h1 16 g1
    simp only [e2, Option.bind_some]
    exact j0_is b hb k _ i2 h2 _ _ _ _ _ g2
  · rw [if_neg c1]
    exact j0_is b hb k _ i1 h1 _ _ _ _ _ g1
theorem any_is (b : List Int) (hb : b.length ≤ 4611686018427387904) (k : Nat) (i h : Int) (hi : 0 ≤ i) : ∃ r, spec_l02Any.f (k + 3) b i h = some r := by
  unfold spec_l02Any.f
  obtain ⟨o, a, c, d, e, i1, h1, e1, g1⟩ := instr_is b hb k i h hi
  obtain ⟨r2, i2, h2, e2, _, _, _, g2⟩ := below_is b hb i1 h1 20 g1
  simp only [e1, e2, Option.bind_some]
  have pk : ∀ l : List Int, 0 < l.length → ∃ q, spec_l01PickInt.f b i2 h2 l = some q := fun l hl => by
    obtain ⟨r, i', h', e, _⟩ := pick_is b hb i2 h2 l hl g2
    exact ⟨_, e⟩
  obtain ⟨q1, p1⟩ := pk [(-1), 33, 34, 63] (by simp)
  obtain ⟨q2, p2⟩ := pk [(-1), 1, 15, 16] (by simp)
  obtain ⟨q3, p3⟩ := pk [(-8193), 8192, 1] (by simp)
  simp only [p1, p2, p3, Option.bind_some]
  repeat' split
  all_goals exact ⟨_, rfl⟩
theorem draw_is (b : List Int) (hb : b.length ≤ 4611686018427387904) (k : Nat) (hk : b.length < k + 3) : ∃ o a c d e, spec_DrawEncode.f (k + 3) b = some (o, a, c, d, e) := by
  unfold spec_DrawEncode.f
  obtain ⟨h', e1⟩ := drawn b hb (k + 3) hk
  obtain ⟨r, e2⟩ := any_is b hb k 0 h' (by omega)
  simp only [e1, e2, Option.bind_some]
  exact ⟨_, _, _, _, _, rfl⟩
theorem at_is (l : List Int) (i : Int) (hi : 0 ≤ i) : ∃ x, laws_at.f l i = some x := by
  unfold laws_at.f
  by_cases h : i < (l.length : Int)
  · rw [if_pos h, if_pos hi]; exact ⟨_, rfl⟩
  · rw [if_neg h]; exact ⟨_, rfl⟩
theorem word5 (l : List Int) : ∃ v, laws_word.f l 5 = some v ∧ 0 ≤ v ∧ v < 4294967296 := by
  unfold laws_word.f
  rw [w64 (n := (5 : Int) + 1) (by omega) (by omega), w64 (n := (5 : Int) + 2) (by omega) (by omega), w64 (n := (5 : Int) + 3) (by omega) (by omega)]
  simp only [Int.reduceAdd]
  obtain ⟨x1, e1⟩ := at_is l 5 (by omega)
  obtain ⟨x2, e2⟩ := at_is l 6 (by omega)
  obtain ⟨x3, e3⟩ := at_is l 7 (by omega)
  obtain ⟨x4, e4⟩ := at_is l 8 (by omega)
  simp only [e1, e2, e3, e4, Option.bind_some]
  exact ⟨_, rfl, by omega, by omega⟩
theorem show_word (v : Int) (h0 : 0 ≤ v) (h1 : v < 4294967296) :
    (∃ a b c d e, impl_decode.f v = some (a, b, c, d, e, true) ∧ ∃ s, impl_ShowWord.f v = some s ∧ impl_ReadLine.f s = some ((3, a, b, c, d, e, 0, E0) : RL)) ∨
    (impl_decode.f v = some (0, 0, 0, 0, 0, false) ∧ ∃ s, impl_ShowWord.f v = some s ∧ impl_ReadLine.f s = some ((2, 0, 0, 0, 0, 0, v, E0) : RL)) := by
  have hd := decode_is v h0 h1
  unfold impl_ShowWord.f impl_showWord.f
  by_cases ok : impl_isInstr.ok (v / 67108864) (v / 4194304 % 16) (v / 262144 % 16) (v / 16384 % 16) (immOf v) = true
  · rw [if_pos ok] at hd
    left
    refine ⟨_, _, _, _, _, hd, _, ?_, read_instr _ _ _ _ _ ok⟩
    simp only [hd, Option.bind_some, if_true, show_ok _ _ _ _ _ ok]
  · rw [if_neg ok] at hd
    right
    refine ⟨hd, _, ?_, read_word v ⟨h0, by omega⟩⟩
    have hl := itoa_len11 v (by omega)
    have hi : strconv_Itoa.f v = some (bs (Lib.itoa v)) := by
      unfold strconv_Itoa.f; rw [if_pos ⟨by omega, by omega⟩]; rfl
    simp only [hd, Option.bind_some, Bool.false_eq_true, if_false, w64 (n := v) (by omega) (by omega), impl_DecText.f, hi]
    rw [bs_size, if_pos (by omega), show (⟨#[46, 119, 111, 114, 100, 32]⟩ : ByteArray) = bs [46, 119, 111, 114, 100, 32] from rfl, bs_append]
    rfl
theorem rest_ok (k : Nat) (w o a b c e : Int) (s n : ByteArray) (h1 : impl_Decode.f w = some (o, a, b, c, e, true)) (h2 : impl_ShowInstr.f o a b c e = some s) (h3 : impl_ReadLine.f s = some ((3, o, a, b, c, e, 0, E0) : RL)) (h4 : impl_OpName.f o = some n) (h5 : impl_OpOf.f n = some o) :
    laws_FnCodec.j0 (k + 1) w true o a b c e = some true := by
  simp only [laws_FnCodec.j0]
  rw [if_pos trivial, h1, Option.bind_some, h2, Option.bind_some, h3, Option.bind_some]
  have he : E0.toList = ([] : List UInt8) := by rw [ByteArray.toList_eq]
  simp only [beq_self_eq_true, Bool.and_self, if_true, he]
  rw [h4, Option.bind_some, h5, Option.bind_some]
  simp
theorem rest_no (k : Nat) (w o a b c e : Int) (h2 : impl_ShowInstr.f o a b c e = some (⟨#[]⟩ : ByteArray)) : laws_FnCodec.j0 (k + 1) w false o a b c e = some true := by
  have he : (⟨#[]⟩ : ByteArray).toList = ([] : List UInt8) := by rw [ByteArray.toList_eq]
  simp only [laws_FnCodec.j0]
  rw [if_neg (by simp), h2, Option.bind_some, he]
  rfl
theorem rest_is (k : Nat) (o a b c e : Int) : ∃ w q, impl_Encode.f o a b c e = some (w, q) ∧ q = impl_isInstr.ok o a b c e ∧ laws_FnCodec.j0 (k + 1) w q o a b c e = some true := by
  by_cases ok : impl_isInstr.ok o a b c e = true
  · obtain ⟨w, e1, e2⟩ := encode_back o a b c e ok
    have ho := (ok_parts o a b c e ok).1
    refine ⟨w, true, by unfold impl_Encode.f impl_isInstr.f; simp [ok, e1], ok.symm, ?_⟩
    refine rest_ok k w o a b c e _ (Tab.nm o.toNat) ?_ ?_ (read_instr _ _ _ _ _ ok) ?_ ?_
    · unfold impl_Decode.f; rw [e2]; rfl
    · unfold impl_ShowInstr.f impl_isInstr.f
      rw [Option.bind_some, if_pos ok, show_ok _ _ _ _ _ ok, Option.bind_some]
    · unfold impl_OpName.f; rw [if_pos ho]
    · unfold impl_OpOf.f; rw [name_back o ho]
  · have ok' : impl_isInstr.ok o a b c e = false := by simpa using ok
    refine ⟨0, false, by unfold impl_Encode.f impl_isInstr.f; simp [ok'], ok'.symm, rest_no k 0 o a b c e ?_⟩
    unfold impl_ShowInstr.f impl_isInstr.f
    rw [Option.bind_some, if_neg ok]
theorem join1 (k : Nat) (l0 : List Int) (o a b c e v w : Int) (q : Bool) (s : ByteArray) (x1 x2 x3 x4 x5 : Int) (h0 : ¬ (l0.length : Int) > 1048576) (e1 : spec_DrawEncode.f k l0 = some (o, a, b, c, e)) (e2 : impl_Encode.f o a b c e = some (w, q)) (e3 : spec_InstrOk.f o a b c e = some q)
    (e4 : laws_word.f l0 5 = some v) (s1 : impl_ShowWord.f v = some s) (s2 : impl_ReadLine.f s = some ((3, x1, x2, x3, x4, x5, 0, E0) : RL)) (d : impl_Decode.f v = some (x1, x2, x3, x4, x5, true)) (j : laws_FnCodec.j0 k w q o a b c e = some true) : laws_FnCodec.f k l0 = some true := by
  unfold laws_FnCodec.f laws_big.f
  rw [Option.bind_some, if_neg (by simpa using h0), e1, Option.bind_some, e2, Option.bind_some, e3, Option.bind_some]
  rw [if_neg (by simp), e4, Option.bind_some, s1, Option.bind_some, s2, Option.bind_some, d, Option.bind_some]
  simp only [if_true, beq_self_eq_true, Bool.not_true, Bool.or_self, Bool.false_eq_true, if_false]
  exact j
theorem join2 (k : Nat) (l0 : List Int) (o a b c e v w : Int) (q : Bool) (s : ByteArray) (h0 : ¬ (l0.length : Int) > 1048576) (e1 : spec_DrawEncode.f k l0 = some (o, a, b, c, e)) (e2 : impl_Encode.f o a b c e = some (w, q)) (e3 : spec_InstrOk.f o a b c e = some q)
    (e4 : laws_word.f l0 5 = some v) (s1 : impl_ShowWord.f v = some s) (s2 : impl_ReadLine.f s = some ((2, 0, 0, 0, 0, 0, v, E0) : RL)) (d : impl_Decode.f v = some (0, 0, 0, 0, 0, false)) (j : laws_FnCodec.j0 k w q o a b c e = some true) : laws_FnCodec.f k l0 = some true := by
  unfold laws_FnCodec.f laws_big.f
  rw [Option.bind_some, if_neg (by simpa using h0), e1, Option.bind_some, e2, Option.bind_some, e3, Option.bind_some]
  rw [if_neg (by simp), e4, Option.bind_some, s1, Option.bind_some, s2, Option.bind_some, d, Option.bind_some]
  simp only [if_true, Bool.false_eq_true, if_false]
  exact j
theorem big_is (k : Nat) (l0 : List Int) (h : (l0.length : Int) > 1048576) : laws_FnCodec.f k l0 = some true := by
  unfold laws_FnCodec.f laws_big.f
  rw [Option.bind_some, if_pos (decide_eq_true h)]
theorem at_k (l0 : List Int) (hb : l0.length ≤ 4611686018427387904) (hbig : ¬ (l0.length : Int) > 1048576) : ∃ k, laws_FnCodec.f k l0 = some true := by
  obtain ⟨k, hk, k3⟩ : ∃ k : Nat, l0.length < k ∧ 3 ≤ k := ⟨l0.length + 3, by omega, by omega⟩
  refine ⟨k, ?_⟩
  obtain ⟨o, a, b, c, e, e1⟩ : ∃ o a c d e, spec_DrawEncode.f k l0 = some (o, a, c, d, e) := by
    obtain ⟨m, rfl⟩ : ∃ m, k = m + 3 := ⟨k - 3, by omega⟩
    exact draw_is l0 hb m hk
  obtain ⟨w, q, e2, hq, e3⟩ : ∃ w q, impl_Encode.f o a b c e = some (w, q) ∧ q = impl_isInstr.ok o a b c e ∧ laws_FnCodec.j0 k w q o a b c e = some true := by
    obtain ⟨m, rfl⟩ : ∃ m, k = m + 1 := ⟨k - 1, by omega⟩
    exact rest_is m o a b c e
  obtain ⟨v, e4, v0, v1⟩ := word5 l0
  have e5 : spec_InstrOk.f o a b c e = some q := by rw [hq]; exact spec_instr o a b c e
  rcases show_word v v0 v1 with ⟨x1, x2, x3, x4, x5, d, s, s1, s2⟩ | ⟨d, s, s1, s2⟩
  · exact join1 k l0 o a b c e v w q s x1 x2 x3 x4 x5 hbig e1 e2 e5 e4 s1 s2 (by unfold impl_Decode.f; rw [d]; rfl) e3
  · exact join2 k l0 o a b c e v w q s hbig e1 e2 e5 e4 s1 s2 (by unfold impl_Decode.f; rw [d]; rfl) e3
theorem FnCodec : laws_FnCodec.Pure := by
  intro l0 hl _ _
  have hb : l0.length ≤ 4611686018427387904 := by unfold maxLen at hl; omega
  by_cases hbig : (l0.length : Int) > 1048576
  · exact ⟨0, big_is 0 l0 hbig⟩
  · exact at_k l0 hb hbig

end Go.Proofs.YtaophlekfepkgaaDoor.Pure

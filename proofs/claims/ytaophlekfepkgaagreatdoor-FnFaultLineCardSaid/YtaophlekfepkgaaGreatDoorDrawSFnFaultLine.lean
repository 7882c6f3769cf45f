/- What is drawn for the assembler: a text comes, and it is short; over the print of the law FnFaultLine. -/
import Derived.Test.YtaophlekfepkgaaGreatDoorAsmBFnFaultLine
namespace Go.Proofs.YtaophlekfepkgaaGreatDoor.PFnFaultLine
open Go.RowKit Go.Proofs.YtaophlekfepkgaaGreatDoorW.PrintWords Go.Proofs.YtaophlekfepkgaaGreatDoorW.PrintLast Go.Proofs.YtaophlekfepkgaaGreatDoor.Lem

theorem byte_is (b : List Int) (hb : b.length ≤ 4611686018427387904) (i h : Int) (hi : 0 ≤ i) : ∃ x i' h', spec_l01Byte.f b i h = some (x, i', h') ∧ 0 ≤ x ∧ x ≤ 255 ∧ 0 ≤ i' := by
  have m : ∀ y : Int, Go.bits .and .i64 y 255 = y % 256 := by
    intro y
    have := and_mask .i64 8 (by decide) (fun n a b => wraps_i64 n a (by omega)) y
    rwa [show (2 : Int) ^ 8 - 1 = 255 from rfl, show (2 : Int) ^ 8 = 256 from rfl] at this
  unfold spec_l01Byte.f
  by_cases h1 : i < (b.length : Int)
  · rw [if_pos h1, if_pos hi]
    refine ⟨_, _, _, rfl, ?_, ?_, ?_⟩
    · rw [m]; omega
    · rw [m]; omega
    · rw [w64 (by omega) (by omega)]; omega
  · rw [if_neg h1]
    refine ⟨_, _, _, rfl, ?_, ?_, hi⟩
    · rw [m]; omega
    · rw [m]; omega
theorem below_is (b : List Int) (hb : b.length ≤ 4611686018427387904) (i h n : Int) (hi : 0 ≤ i) : ∃ r i' h', spec_l01Below.f b i h n = some (r, i', h') ∧ 0 ≤ r ∧ (0 < n → r < n) ∧ (n ≤ 0 → r = 0) ∧ 0 ≤ i' := by
  unfold spec_l01Below.f
  by_cases h0 : n ≤ 0
  · rw [if_pos h0]; exact ⟨_, _, _, rfl, by omega, by omega, fun _ => rfl, hi⟩
  · rw [if_neg h0]
    obtain ⟨x1, i1, h1, e1, a1, b1, c1⟩ := byte_is b hb i h hi
    by_cases h2 : n ≤ 256
    · rw [if_pos h2, e1]
      simp only [Option.bind_some]
      rw [if_neg (by omega), tmod_pos a1]
      exact ⟨_, _, _, rfl, Int.emod_nonneg _ (by omega), fun _ => Int.emod_lt_of_pos _ (by omega), by omega, c1⟩
    · rw [if_neg h2]
      obtain ⟨x2, i2, h2', e2, a2, b2, c2⟩ := byte_is b hb i1 h1 c1
      obtain ⟨x3, i3, h3, e3, a3, b3, c3⟩ := byte_is b hb i2 h2' c2
      obtain ⟨x4, i4, h4, e4, a4, b4, c4⟩ := byte_is b hb i3 h3 c3
      simp only [e1, e2, e3, e4, Option.bind_some]
      rw [if_neg (by omega)]
      rw [w64 (n := x1 * 16777216) (by omega) (by omega), w64 (n := x2 * 65536) (by omega) (by omega), w64 (n := x3 * 256) (by omega) (by omega), w64 (n := x1 * 16777216 + x2 * 65536) (by omega) (by omega),
        w64 (n := x1 * 16777216 + x2 * 65536 + x3 * 256) (by omega) (by omega), w64 (n := x1 * 16777216 + x2 * 65536 + x3 * 256 + x4) (by omega) (by omega), tmod_pos (by omega)]
      exact ⟨_, _, _, rfl, Int.emod_nonneg _ (by omega), fun _ => Int.emod_lt_of_pos _ (by omega), by omega, c4⟩
theorem new_is (b : List Int) (hb : b.length ≤ 4611686018427387904) : ∀ (d i k : Nat) (h : Int), i + d = b.length → d < k → ∃ h', spec_l01New.l0 k b h i = some (b, 0, h') := by
  intro d
  induction d with
  | zero =>
    intro i k h hi hk
    obtain ⟨k, rfl⟩ : ∃ m, k = m + 1 := ⟨k - 1, by omega⟩
    exact ⟨h, by simp only [spec_l01New.l0]; rw [if_neg (by omega)]⟩
  | succ d ih =>
    intro i k h hi hk
    obtain ⟨k, rfl⟩ : ∃ m, k = m + 1 := ⟨k - 1, by omega⟩
    simp only [spec_l01New.l0]
    rw [if_pos (by omega)]
    by_cases h4 : (i : Int) < 4000
    · rw [if_pos h4, if_pos (by omega), w64 (n := (i : Int) + 1) (by omega) (by omega)]
      exact ih (i + 1) k _ (by omega) (by omega)
    · rw [if_neg h4]; exact ⟨h, rfl⟩
theorem drawn (b : List Int) (hb : b.length ≤ 4611686018427387904) (k : Nat) (hk : b.length < k) : ∃ h', spec_l01New.f k b = some (b, 0, h') := new_is b hb b.length 0 k _ (by omega) hk
theorem pick_is (b : List Int) (hb : b.length ≤ 4611686018427387904) (i h : Int) (l : List Int) (hl : 0 < l.length) (hi : 0 ≤ i) : ∃ r i' h', spec_l01PickInt.f b i h l = some (r, i', h') ∧ r ∈ l ∧ 0 ≤ i' := by
  obtain ⟨r, i', h', e, a, c, _, d⟩ := below_is b hb i h (l.length : Int) hi
  unfold spec_l01PickInt.f
  rw [e]
  simp only [Option.bind_some]
  have hr := c (by omega)
  rw [if_pos a, if_pos hr]
  refine ⟨_, _, _, rfl, ?_, d⟩
  obtain ⟨j, rfl⟩ := Int.eq_ofNat_of_zero_le a
  rw [rd_at l j (by omega)]
  exact List.getElem_mem _
/-- Something comes, and it is so. -/
def Some1 {α : Type} (f : Nat → Option α) (P : α → Prop) : Prop := ∃ r, P r ∧ Evt f r
theorem some_of {α : Type} {P : α → Prop} {r : α} {f : Nat → Option α} (h : ∀ k, f k = some r) (hp : P r) : Some1 f P := ⟨r, hp, ev_of h⟩
theorem some_step {α : Type} {P : α → Prop} {f g : Nat → Option α} (h : ∀ k, f (k + 1) = g k) (hg : Some1 g P) : Some1 f P := by
  obtain ⟨r, hp, he⟩ := hg
  exact ⟨r, hp, ev_step h he⟩
theorem some_bind {α β : Type} {P : α → Prop} {Q : β → Prop} {g : Nat → Option α} {h : Nat → α → Option β} (hg : Some1 g P) (hh : ∀ a, P a → Some1 (fun k => h k a) Q) : Some1 (fun k => (g k).bind (h k)) Q := by
  obtain ⟨a, hp, he⟩ := hg
  obtain ⟨r, hq, hr⟩ := hh a hp
  exact ⟨r, hq, ev_bind he hr⟩
theorem form_tot (op : Int) : ∃ F, spec_FormOf.f op = some F ∧ (F = -1 ∨ ((0 ≤ op ∧ op ≤ 32) ∧ 0 ≤ F ∧ F ≤ 11)) := by
  by_cases h : 0 ≤ op ∧ op ≤ 32
  · obtain ⟨F, f0, f1, f2, _⟩ := form_both op h
    exact ⟨F, f2, .inr ⟨h, f0, f1⟩⟩
  · refine ⟨-1, ?_, .inl rfl⟩
    unfold spec_FormOf.f
    rw [in_is, decide_eq_false h]; rfl
theorem field_tot (F bit x lo hi : Int) (hb : bit = 1 ∨ bit = 2 ∨ bit = 4 ∨ bit = 8) (_hF : 0 ≤ F ∧ F ≤ 11) (hl : lo ≤ 0) (hh : 0 ≤ hi) : ∃ b, spec_l02Field.f F bit x lo hi = some b ∧ (b = true → lo ≤ x ∧ x ≤ hi) := by
  unfold spec_l02Field.f
  rw [if_neg (by omega)]
  split
  · refine ⟨_, rfl, fun h => ?_⟩
    have := beq_iff_eq.1 h; omega
  · rw [in_is]
    exact ⟨_, rfl, fun h => of_decide_eq_true h⟩
theorem instr_tot (op a b c e : Int) : ∃ q, spec_InstrOk.f op a b c e = some q ∧ (q = true → (∃ F, spec_FormOf.f op = some F ∧ (0 ≤ op ∧ op ≤ 32) ∧ 0 ≤ F ∧ F ≤ 11) ∧ (0 ≤ a ∧ a ≤ 15) ∧ (0 ≤ b ∧ b ≤ 15) ∧ (0 ≤ c ∧ c ≤ 15) ∧ (-8192 ≤ e ∧ e ≤ 8191)) := by
  obtain ⟨F, hF, hf⟩ := form_tot op
  unfold spec_InstrOk.f
  rw [hF, Option.bind_some]
  rcases hf with rfl | ⟨ho, f0, f1⟩
  · rw [if_neg (by omega)]; exact ⟨false, rfl, fun h => absurd h (by decide)⟩
  · rw [if_pos f0]
    obtain ⟨q1, e1, h1⟩ := field_tot F 1 a 0 15 (by omega) ⟨f0, f1⟩ (by omega) (by omega)
    obtain ⟨q2, e2, h2⟩ := field_tot F 2 b 0 15 (by omega) ⟨f0, f1⟩ (by omega) (by omega)
    obtain ⟨q3, e3, h3⟩ := field_tot F 4 c 0 15 (by omega) ⟨f0, f1⟩ (by omega) (by omega)
    obtain ⟨q4, e4, h4⟩ := field_tot F 8 e (-8192) 8191 (by omega) ⟨f0, f1⟩ (by omega) (by omega)
    rw [e1, e2, e3, e4]
    simp only [Option.bind_some]
    cases q1 with
    | false => exact ⟨false, rfl, fun h => absurd h (by decide)⟩
    | true =>
      cases q2 with
      | false => exact ⟨false, rfl, fun h => absurd h (by decide)⟩
      | true =>
        cases q3 with
        | false => exact ⟨false, rfl, fun h => absurd h (by decide)⟩
        | true => exact ⟨q4, rfl, fun h => ⟨⟨F, rfl, ho, f0, f1⟩, h1 rfl, h2 rfl, h3 rfl, h4 h⟩⟩
theorem dec_some (n : Int) (h : -4294967295 ≤ n ∧ n ≤ 4294967295) : Some1 (fun k => spec_DecText.f k n) (fun s => s.size ≤ 11) :=
  ⟨bs (Lib.itoa n), by show (bs (Lib.itoa n)).size ≤ 11; rw [bs_size]; exact itoa_len11 n h, dec_is n (by omega) (by omega)⟩
theorem nm_small : ∀ n : Fin 33, (Tab.nm n.val).size ≤ 5 := by decide +kernel
theorem names_eqd : spec_l02Names.f = some ((List.range 33).map Tab.nm) := by kernel_rfl
theorem opName_d (a : Int) (h : 0 ≤ a ∧ a ≤ 32) : ∃ s, spec_OpName.f a = some s ∧ s.size ≤ 5 := by
  obtain ⟨n, rfl⟩ := Int.eq_ofNat_of_zero_le h.1
  refine ⟨Tab.nm n, ?_, nm_small ⟨n, by omega⟩⟩
  unfold spec_OpName.f
  rw [in_is, decide_eq_true h]
  simp only [Option.bind_some, if_true, names_eqd]
  rw [if_pos (by omega), if_pos (by simp; omega)]
  unfold rdOf
  rw [Int.toNat_natCast]
  simp [List.getD, show n < 33 by omega]
def regd (q n : Int) (k : Nat) (x : ByteArray) (G : ByteArray → Option ByteArray) : Option ByteArray :=
  if (Int.tmod q 2) = 1 then (if x.size + 2 ≤ 9223372036854775807 then ((spec_DecText.f k n).bind fun t => (if (x ++ (⟨#[32, 114]⟩ : ByteArray)).size + t.size ≤ 9223372036854775807 then G ((x ++ (⟨#[32, 114]⟩ : ByteArray)) ++ t) else none)) else none) else G x
def lastd (F e : Int) (k : Nat) (x : ByteArray) : Option ByteArray :=
  if (Int.tmod (wrap64 (Int.tdiv F 8)) 2) = 1 then (if x.size + 1 ≤ 9223372036854775807 then ((spec_DecText.f k e).bind fun t => (if (x ++ (⟨#[32]⟩ : ByteArray)).size + t.size ≤ 9223372036854775807 then some ((x ++ (⟨#[32]⟩ : ByteArray)) ++ t) else none)) else none) else some x
theorem j1d_eq (k : Nat) (F : Int) (x : ByteArray) (a b c d e : Int) : spec_ShowInstr.j1 (k + 1) F x a b c d e = regd (wrap64 (Int.tdiv F 4)) d k x (lastd F e k) := rfl
theorem j0d_eq (k : Nat) (F : Int) (x : ByteArray) (a b c d e : Int) : spec_ShowInstr.j0 (k + 1) F x a b c d e = regd (wrap64 (Int.tdiv F 2)) c k x (fun y => spec_ShowInstr.j1 k F y a b c d e) := rfl
theorem two_size : (⟨#[32, 114]⟩ : ByteArray).size = 2 := rfl
theorem one_size : (⟨#[32]⟩ : ByteArray).size = 1 := rfl
theorem reg_some (q n : Int) (M : Nat) (hM : M ≤ 1000) (hn : -4294967295 ≤ n ∧ n ≤ 4294967295) (x : ByteArray) (hx : x.size ≤ M) (G : Nat → ByteArray → Option ByteArray) (P : ByteArray → Prop) (h : ∀ y : ByteArray, y.size ≤ M + 20 → Some1 (fun k => G k y) P) : Some1 (fun k => regd q n k x (G k)) P := by
  unfold regd
  by_cases hb : Int.tmod q 2 = 1
  · simp only [if_pos hb, if_pos (show x.size + 2 ≤ 9223372036854775807 by omega)]
    refine some_bind (dec_some n hn) fun t ht => ?_
    have hs : (x ++ (⟨#[32, 114]⟩ : ByteArray)).size = x.size + 2 := by rw [ByteArray.size_append, two_size]
    simp only [if_pos (show (x ++ (⟨#[32, 114]⟩ : ByteArray)).size + t.size ≤ 9223372036854775807 by omega)]
    exact h _ (by rw [ByteArray.size_append]; omega)
  · simp only [if_neg hb]
    exact h x (by omega)
theorem last_some (F e : Int) (M : Nat) (hM : M ≤ 1000) (hn : -4294967295 ≤ e ∧ e ≤ 4294967295) (x : ByteArray) (hx : x.size ≤ M) : Some1 (fun k => lastd F e k x) (fun s => s.size ≤ M + 20) := by
  unfold lastd
  by_cases hb : Int.tmod (wrap64 (Int.tdiv F 8)) 2 = 1
  · simp only [if_pos hb, if_pos (show x.size + 1 ≤ 9223372036854775807 by omega)]
    refine some_bind (dec_some e hn) fun t ht => ?_
    have hs : (x ++ (⟨#[32]⟩ : ByteArray)).size = x.size + 1 := by rw [ByteArray.size_append, one_size]
    exact some_of (fun k => if_pos (show (x ++ (⟨#[32]⟩ : ByteArray)).size + t.size ≤ 9223372036854775807 by omega)) (by rw [ByteArray.size_append]; omega)
  · simp only [if_neg hb]
    exact some_of (fun _ => rfl) (by omega)
theorem show_some (op a b c e : Int) : Some1 (fun k => spec_ShowInstr.f k op a b c e) (fun s => s.size ≤ 100) := by
  obtain ⟨q, hq, hr⟩ := instr_tot op a b c e
  unfold spec_ShowInstr.f
  simp only [hq, Option.bind_some]
  cases q with
  | false => exact some_of (fun _ => if_neg (by simp)) (Nat.zero_le _)
  | true =>
    obtain ⟨⟨F, hF, ho, f0, f1⟩, ha, hb, hc, he⟩ := hr rfl
    obtain ⟨s, hs, hl⟩ := opName_d op ho
    simp only [if_true, hF, hs, Option.bind_some]
    refine reg_some F a 5 (by omega) (by omega) s hl (fun k y => spec_ShowInstr.j0 k F y op a b c e) _ fun y hy => ?_
    refine some_step (fun k => j0d_eq k _ _ _ _ _ _ _) ?_
    refine reg_some _ b 25 (by omega) (by omega) y (by omega) (fun k y => spec_ShowInstr.j1 k F y op a b c e) _ fun z hz => ?_
    refine some_step (fun k => j1d_eq k _ _ _ _ _ _ _) ?_
    refine reg_some _ c 45 (by omega) (by omega) z (by omega) (fun k y => lastd F e k y) _ fun u hu => ?_
    obtain ⟨r, h1, h2⟩ := last_some F e 65 (by omega) (by omega) u (by omega)
    exact ⟨r, by omega, h2⟩
abbrev Cur := Int × Int × Int × Int × Int × Int × Int
theorem j2_some (b : List Int) (hb : b.length ≤ 4611686018427387904) (F i h x0 x1 x2 x3 x4 : Int) (hi : 0 ≤ i) : Some1 (fun k => spec_l02Instr.j2 k F b i h x0 x1 x2 x3 x4) (fun t : Cur => 0 ≤ t.2.2.2.2.2.1) := by
  by_cases c1 : Int.tmod (wrap64 (Int.tdiv F 8)) 2 = 1
  · obtain ⟨r1, i1, h1, e1, _, _, _, g1⟩ := below_is b hb i h 17 hi
    obtain ⟨r2, i2, h2, e2, _, _, _, g2⟩ := below_is b hb i1 h1 8 g1
    by_cases c2 : r2 = 0
    · obtain ⟨r3, i3, h3, e3, _, g3⟩ := pick_is b hb i2 h2 [(-8192), 8191, 0] (by simp) g2
      refine some_step (g := fun _ => some (x0, x1, x2, x3, r3, i3, h3)) (fun k => ?_) (some_of (fun _ => rfl) g3)
      simp only [spec_l02Instr.j2]
      rw [if_pos c1]
      simp only [e1, e2, Option.bind_some, if_pos c2, e3]
    · by_cases c3 : r2 = 1
      · obtain ⟨r3, i3, h3, e3, _, _, _, g3⟩ := below_is b hb i2 h2 16384 g2
        refine some_step (g := fun _ => some (x0, x1, x2, x3, wrap64 (r3 - 8192), i3, h3)) (fun k => ?_) (some_of (fun _ => rfl) g3)
        simp only [spec_l02Instr.j2]
        rw [if_pos c1]
        simp only [e1, e2, Option.bind_some, if_neg c2, if_pos c3, e3]
      · refine some_step (g := fun _ => some (x0, x1, x2, x3, wrap64 (r1 - 8), i2, h2)) (fun k => ?_) (some_of (fun _ => rfl) g2)
        simp only [spec_l02Instr.j2]
        rw [if_pos c1]
        simp only [e1, e2, Option.bind_some, if_neg c2, if_neg c3]
  · refine some_step (g := fun _ => some (x0, x1, x2, x3, x4, i, h)) (fun k => ?_) (some_of (fun _ => rfl) hi)
    simp only [spec_l02Instr.j2]
    rw [if_neg c1]
theorem j1_some (b : List Int) (hb : b.length ≤ 4611686018427387904) (F i h x0 x1 x2 x3 x4 : Int) (hi : 0 ≤ i) : Some1 (fun k => spec_l02Instr.j1 k F b i h x0 x1 x2 x3 x4) (fun t : Cur => 0 ≤ t.2.2.2.2.2.1) := by
  by_cases c1 : Int.tmod (wrap64 (Int.tdiv F 4)) 2 = 1
  · obtain ⟨r1, i1, h1, e1, _, _, _, g1⟩ := below_is b hb i h 16 hi
    refine some_step (fun k => ?_) (j2_some b hb F i1 h1 x0 x1 x2 r1 x4 g1)
    simp only [spec_l02Instr.j1]
    rw [if_pos c1, e1]; rfl
  · refine some_step (fun k => ?_) (j2_some b hb F i h x0 x1 x2 x3 x4 hi)
    simp only [spec_l02Instr.j1]
    rw [if_neg c1]
theorem j0_some (b : List Int) (hb : b.length ≤ 4611686018427387904) (F i h x0 x1 x2 x3 x4 : Int) (hi : 0 ≤ i) : Some1 (fun k => spec_l02Instr.j0 k F b i h x0 x1 x2 x3 x4) (fun t : Cur => 0 ≤ t.2.2.2.2.2.1) := by
  by_cases c1 : Int.tmod (wrap64 (Int.tdiv F 2)) 2 = 1
  · obtain ⟨r1, i1, h1, e1, _, _, _, g1⟩ := below_is b hb i h 16 hi
    refine some_step (fun k => ?_) (j1_some b hb F i1 h1 x0 x1 r1 x3 x4 g1)
    simp only [spec_l02Instr.j0]
    rw [if_pos c1, e1]; rfl
  · refine some_step (fun k => ?_) (j1_some b hb F i h x0 x1 x2 x3 x4 hi)
    simp only [spec_l02Instr.j0]
    rw [if_neg c1]
theorem instr_some (b : List Int) (hb : b.length ≤ 4611686018427387904) (i h : Int) (hi : 0 ≤ i) : Some1 (fun k => spec_l02Instr.f k b i h) (fun t : Cur => 0 ≤ t.2.2.2.2.2.1) := by
  unfold spec_l02Instr.f
  obtain ⟨r1, i1, h1, e1, _, _, _, g1⟩ := below_is b hb i h 33 hi
  obtain ⟨F, hF, _⟩ := form_tot r1
  simp only [e1, Option.bind_some, hF]
  by_cases c1 : Int.tmod F 2 = 1
  · obtain ⟨r2, i2, h2, e2, _, _, _, g2⟩ := below_is b hb i1 h1 16 g1
    simp only [if_pos c1, e2, Option.bind_some]
    exact j0_some b hb F i2 h2 r1 r2 0 0 0 g2
  · simp only [if_neg c1]
    exact j0_some b hb F i1 h1 r1 0 0 0 0 g1
theorem word_is (b : List Int) (hb : b.length ≤ 4611686018427387904) (i h : Int) (hi : 0 ≤ i) : ∃ v i' h', spec_l01Word.f b i h = some (v, i', h') ∧ 0 ≤ v ∧ v < 4294967296 ∧ 0 ≤ i' := by
  unfold spec_l01Word.f
  obtain ⟨r1, i1, h1, e1, _, _, _, g1⟩ := below_is b hb i h 4 hi
  simp only [e1, Option.bind_some]
  by_cases c1 : r1 = 0
  · rw [if_pos c1]
    obtain ⟨r3, i3, h3, e3, _, g3⟩ := pick_is b hb i1 h1 [0, 1, 2, 31, 32, 255, 256, 2147483647, 2147483648, 4294967295, 4294967294] (by simp) g1
    rw [e3]
    exact ⟨_, _, _, rfl, by omega, by omega, g3⟩
  · rw [if_neg c1]
    by_cases c2 : r1 = 1
    · rw [if_pos c2]
      obtain ⟨r3, i3, h3, e3, _, _, _, g3⟩ := below_is b hb i1 h1 300 g1
      rw [e3]
      exact ⟨_, _, _, rfl, by omega, by omega, g3⟩
    · rw [if_neg c2]
      obtain ⟨r3, i3, h3, e3, _, _, _, g3⟩ := below_is b hb i1 h1 65536 g1
      obtain ⟨r4, i4, h4, e4, _, _, _, g4⟩ := below_is b hb i3 h3 65536 g3
      simp only [e3, e4, Option.bind_some]
      exact ⟨_, _, _, rfl, by omega, by omega, g4⟩
theorem pickS_is (b : List Int) (hb : b.length ≤ 4611686018427387904) (i h : Int) (l : List ByteArray) (hl : 0 < l.length) (hm : ∀ x ∈ l, x.size ≤ 50) (hi : 0 ≤ i) : ∃ s i' h', spec_l01Pick.f b i h l = some (s, i', h') ∧ s.size ≤ 50 ∧ 0 ≤ i' := by
  unfold spec_l01Pick.f
  obtain ⟨r, i', h', e, a, c, _, d⟩ := below_is b hb i h (l.length : Int) hi
  have hr := c (by omega)
  rw [e]
  simp only [Option.bind_some]
  rw [if_pos a, if_pos hr]
  refine ⟨_, _, _, rfl, ?_, d⟩
  unfold rdOf
  rw [List.getD_eq_getElem?_getD, List.getElem?_eq_getElem (by omega)]
  exact hm _ (List.getElem_mem _)
theorem line_some (b : List Int) (hb : b.length ≤ 4611686018427387904) (i h : Int) (hi : 0 ≤ i) : Some1 (fun k => spec_l03Line.f k b i h) (fun t : ByteArray × Int × Int => t.1.size ≤ 120 ∧ 0 ≤ t.2.1) := by
  unfold spec_l03Line.f
  obtain ⟨r1, i1, h1, e1, _, _, _, g1⟩ := below_is b hb i h 10 hi
  simp only [e1, Option.bind_some]
  by_cases c0 : r1 = 0
  · simp only [if_pos c0]
    obtain ⟨v, i2, h2, e2, v0, v1, g2⟩ := word_is b hb i1 h1 g1
    simp only [e2, Option.bind_some]
    refine some_bind (dec_some (wrap64 v) (by rw [w64 (by omega) (by omega)]; omega)) fun s hs => ?_
    refine some_of (fun k => if_pos (show 6 + s.size ≤ 9223372036854775807 by omega)) ⟨?_, g2⟩
    show ((⟨#[46, 119, 111, 114, 100, 32]⟩ : ByteArray) ++ s).size ≤ 120
    rw [ByteArray.size_append, show (⟨#[46, 119, 111, 114, 100, 32]⟩ : ByteArray).size = 6 from rfl]; omega
  · simp only [if_neg c0]
    by_cases c1 : r1 = 1
    · simp only [if_pos c1]
      obtain ⟨s, i2, h2, e2, s2, g2⟩ := pickS_is b hb i1 h1 [(⟨#[98, 101, 113, 32, 114, 49, 32, 114, 50, 32]⟩ : ByteArray), (⟨#[98, 110, 101, 32, 114, 51, 32, 114, 48, 32]⟩ : ByteArray), (⟨#[98, 108, 116, 32, 114, 52, 32, 114, 49, 53, 32]⟩ : ByteArray), (⟨#[106, 97, 108, 32, 114, 49, 32]⟩ : ByteArray)] (by simp) (by decide) g1
      obtain ⟨u, i3, h3, e3, s3, g3⟩ := pickS_is b hb i2 h2 [(⟨#[97]⟩ : ByteArray), (⟨#[98]⟩ : ByteArray), (⟨#[108, 111, 111, 112]⟩ : ByteArray)] (by simp) (by decide) g2
      simp only [e2, e3, Option.bind_some]
      refine some_of (fun k => if_pos (show s.size + u.size ≤ 9223372036854775807 by omega)) ⟨?_, g3⟩
      show (s ++ u).size ≤ 120
      rw [ByteArray.size_append]; omega
    · simp only [if_neg c1]
      refine some_bind (instr_some b hb i1 h1 g1) fun t ht => ?_
      refine some_bind (show_some _ _ _ _ _) fun s hs => ?_
      exact some_of (fun _ => rfl) ⟨by show s.size ≤ 120; omega, ht⟩
theorem text_some (b : List Int) (hb : b.length ≤ 4611686018427387904) (n : Nat) (hn : n ≤ 40) : ∀ (d i : Nat), i + d = n → ∀ (x : ByteArray) (c h : Int), x.size ≤ 10 + 200 * i → 0 ≤ c →
    Some1 (fun k => spec_l03Text.l0 k n x i b c h) (fun t : ByteArray × Int × Int => t.1.size ≤ 9000 ∧ 0 ≤ t.2.1) := by
  intro d
  induction d with
  | zero =>
    intro i hi x c h hx hc
    obtain rfl : i = n := by omega
    have h6 : (⟨#[108, 111, 111, 112, 58, 10]⟩ : ByteArray).size = 6 := rfl
    have h3 : (⟨#[98, 58, 10]⟩ : ByteArray).size = 3 := rfl
    by_cases h0 : (i : Int) = 0
    · refine some_step (g := fun _ => some ((x ++ (⟨#[108, 111, 111, 112, 58, 10]⟩ : ByteArray)) ++ (⟨#[98, 58, 10]⟩ : ByteArray), c, h)) (fun k => ?_) (some_of (fun _ => rfl) ⟨?_, hc⟩)
      · simp only [spec_l03Text.l0]
        rw [if_neg (by omega), if_pos h0, if_pos (by omega), if_pos (by rw [ByteArray.size_append, h6]; omega)]
      · show ((x ++ (⟨#[108, 111, 111, 112, 58, 10]⟩ : ByteArray)) ++ (⟨#[98, 58, 10]⟩ : ByteArray)).size ≤ 9000
        rw [ByteArray.size_append, ByteArray.size_append, h6, h3]; omega
    · refine some_step (g := fun _ => some (x ++ (⟨#[98, 58, 10]⟩ : ByteArray), c, h)) (fun k => ?_) (some_of (fun _ => rfl) ⟨?_, hc⟩)
      · simp only [spec_l03Text.l0]
        rw [if_neg (by omega), if_neg h0, if_pos (by omega)]
      · show (x ++ (⟨#[98, 58, 10]⟩ : ByteArray)).size ≤ 9000
        rw [ByteArray.size_append, h3]; omega
  | succ d ih =>
    intro i hi x c h hx hc
    have hwi : wrap64 ((i : Int) + 1) = ((i + 1 : Nat) : Int) := by rw [w64 (by omega) (by omega)]; omega
    have h6 : (⟨#[108, 111, 111, 112, 58, 10]⟩ : ByteArray).size = 6 := rfl
    have h1 : (⟨#[10]⟩ : ByteArray).size = 1 := rfl
    refine some_step (g := fun k => (spec_l03Line.f k b c h).bind fun t => (if x.size + t.1.size ≤ 9223372036854775807 then (if (x ++ t.1).size + 1 ≤ 9223372036854775807 then (if (i : Int) = (wrap64 (Int.tdiv (n : Int) 2)) then (if ((x ++ t.1) ++ (⟨#[10]⟩ : ByteArray)).size + 6 ≤ 9223372036854775807 then (spec_l03Text.l0 k n (((x ++ t.1) ++ (⟨#[10]⟩ : ByteArray)) ++ (⟨#[108, 111, 111, 112, 58, 10]⟩ : ByteArray)) ((i + 1 : Nat) : Int) b t.2.1 t.2.2) else (none)) else (spec_l03Text.l0 k n ((x ++ t.1) ++ (⟨#[10]⟩ : ByteArray)) ((i + 1 : Nat) : Int) b t.2.1 t.2.2)) else (none)) else (none))) (fun k => ?_) ?_
    · simp only [spec_l03Text.l0]
      rw [if_pos (by omega), hwi]
    · refine some_bind (line_some b hb c h hc) fun t ht => ?_
      obtain ⟨t1, t2⟩ := ht
      have a1 : x.size + t.1.size ≤ 9223372036854775807 := by omega
      have a2 : x.size + t.1.size + 1 ≤ 9223372036854775807 := by omega
      have a3 : x.size + t.1.size + 1 + 6 ≤ 9223372036854775807 := by omega
      have a4 : x.size + t.1.size + 1 + 6 ≤ 10 + 200 * (i + 1) := by omega
      have a5 : x.size + t.1.size + 1 ≤ 10 + 200 * (i + 1) := by omega
      have s1 : (x ++ t.1).size = x.size + t.1.size := ByteArray.size_append
      have s2 : ((x ++ t.1) ++ (⟨#[10]⟩ : ByteArray)).size = x.size + t.1.size + 1 := by rw [ByteArray.size_append, s1, h1]
      rw [← s1] at a2
      rw [← s2] at a3 a5
      simp only [if_pos a1, if_pos a2]
      have hd2 : i + 1 + d = n := by clear a2 a3 a5 s1 s2; omega
      by_cases hh : (i : Int) = (wrap64 (Int.tdiv (n : Int) 2))
      · simp only [if_pos hh, if_pos a3]
        exact ih (i + 1) hd2 (((x ++ t.1) ++ (⟨#[10]⟩ : ByteArray)) ++ (⟨#[108, 111, 111, 112, 58, 10]⟩ : ByteArray)) t.2.1 t.2.2 (by rw [ByteArray.size_append, s2, h6]; exact a4) t2
      · simp only [if_neg hh]
        exact ih (i + 1) hd2 ((x ++ t.1) ++ (⟨#[10]⟩ : ByteArray)) t.2.1 t.2.2 a5 t2
theorem new_some (b : List Int) (_hb : b.length ≤ 4611686018427387904) : ∀ (d i : Nat) (h : Int), i + d = b.length → Some1 (fun k => spec_l01New.l0 k b h i) (fun t : List Int × Int × Int => t.1 = b ∧ t.2.1 = 0) := by
  intro d
  induction d with
  | zero =>
    intro i h hi
    refine some_step (g := fun _ => some (b, 0, h)) (fun k => ?_) (some_of (fun _ => rfl) ⟨rfl, rfl⟩)
    simp only [spec_l01New.l0]; rw [if_neg (by omega)]
  | succ d ih =>
    intro i h hi
    by_cases h4 : (i : Int) < 4000
    · refine some_step (g := fun k => spec_l01New.l0 k b (Go.bits .and .i64 (wrap64 ((wrap64 ((wrap64 (h * 131)) + (wrap64 (rd b (i : Int))))) + 7)) 1073741823) ((i + 1 : Nat) : Int)) (fun k => ?_) (ih (i + 1) _ (by omega))
      simp only [spec_l01New.l0]
      rw [if_pos (by omega), if_pos h4, if_pos (by omega), w64 (n := (i : Int) + 1) (by omega) (by omega)]; rfl
    · refine some_step (g := fun _ => some (b, 0, h)) (fun k => ?_) (some_of (fun _ => rfl) ⟨rfl, rfl⟩)
      simp only [spec_l01New.l0]; rw [if_pos (by omega), if_neg h4]
theorem size_is (b : List Int) (hb : b.length ≤ 4611686018427387904) (m : Int) (hm : 2 ≤ m ∧ m ≤ 1000) : ∃ n : Int, spec_l01Size.f b m = some n ∧ 2 ≤ n ∧ n ≤ m := by
  unfold spec_l01Size.f
  have e1 : wrap64 ((b.length : Int) / 20) = (b.length : Int) / 20 := w64 (by omega) (by omega)
  have e2 : wrap64 (2 + (b.length : Int) / 20) = 2 + (b.length : Int) / 20 := w64 (by omega) (by omega)
  rw [e1, e2]
  split
  · exact ⟨_, rfl, by omega, by omega⟩
  · exact ⟨_, rfl, by omega, by omega⟩
theorem nops_some : ∀ (d i : Nat), i + d = 250 → ∀ x : ByteArray, x.size ≤ 10000 + 4 * i → Some1 (fun k => spec_l03Any.l0 k x i) (fun s => s.size ≤ 100000) := by
  intro d
  induction d with
  | zero =>
    intro i hi x hx
    refine some_step (g := fun _ => some x) (fun k => ?_) (some_of (fun _ => rfl) (by omega))
    simp only [spec_l03Any.l0]; rw [if_neg (by omega)]
  | succ d ih =>
    intro i hi x hx
    refine some_step (fun k => ?_) (ih (i + 1) (by omega) (x ++ (⟨#[110, 111, 112, 10]⟩ : ByteArray)) (by rw [ByteArray.size_append, show (⟨#[110, 111, 112, 10]⟩ : ByteArray).size = 4 from rfl]; omega))
    simp only [spec_l03Any.l0]
    rw [if_pos (by omega), if_pos (by omega), w64 (by omega) (by omega)]; rfl
/-- A text is drawn. -/
theorem any_some (b : List Int) (hb : b.length ≤ 4611686018427387904) : Some1 (fun k => spec_l03Any.f k b) (fun s => s.size ≤ 100000) := by
  unfold spec_l03Any.f
  refine some_bind (new_some b hb b.length 0 _ (by omega)) fun t ht => ?_
  obtain ⟨b', i, h⟩ := t
  obtain ⟨rfl, rfl⟩ : b' = b ∧ i = 0 := ht
  obtain ⟨m, hm, m2, m30⟩ := size_is b' hb 30 (by omega)
  obtain ⟨n, i1, h1, e1, n0, n1, _, g1⟩ := below_is b' hb 0 h m (by omega)
  simp only [hm, Option.bind_some, e1]
  obtain ⟨n, rfl⟩ := Int.eq_ofNat_of_zero_le n0
  have n2 := n1 (by omega)
  have htext := text_some b' hb n (by omega) n 0 (by omega) (⟨#[97, 58, 10]⟩ : ByteArray) i1 h1 (show (3 : Nat) ≤ _ by omega) g1
  refine some_bind htext fun t ht => ?_
  obtain ⟨s, i2, h2⟩ := t
  obtain ⟨s1, g2⟩ := ht
  dsimp only at s1 g2
  obtain ⟨r, i3, h3, e3, _, _, _, g3⟩ := below_is b' hb i2 h2 14 g2
  simp only [e3, Option.bind_some]
  have app : ∀ (u : ByteArray) (m : Nat), u.size = m → m ≤ 50 → ∀ {p : Prop} [Decidable p], p → Some1 (fun _ : Nat => if p then (some (s ++ u)) else none) (fun s => s.size ≤ 100000) := by
    intro u m hu hm p _ hp
    exact some_of (fun _ => if_pos hp) (by rw [ByteArray.size_append]; omega)
  by_cases c0 : r = 0
  · simp only [if_pos c0]; exact app _ 3 rfl (by omega) (by omega)
  · simp only [if_neg c0]
    by_cases c1 : r = 1
    · simp only [if_pos c1, if_pos (show s.size + 12 ≤ 9223372036854775807 by omega)]
      refine some_bind (line_some b' hb i3 h3 g3) fun t ht => ?_
      obtain ⟨t1, _⟩ := ht
      have z1 : (s ++ (⟨#[106, 97, 108, 32, 114, 49, 32, 110, 111, 110, 101, 10]⟩ : ByteArray)).size = s.size + 12 := by rw [ByteArray.size_append]; rfl
      have z2 : ((s ++ (⟨#[106, 97, 108, 32, 114, 49, 32, 110, 111, 110, 101, 10]⟩ : ByteArray)) ++ t.1).size = s.size + 12 + t.1.size := by rw [ByteArray.size_append, z1]
      simp only [if_pos (show (s ++ (⟨#[106, 97, 108, 32, 114, 49, 32, 110, 111, 110, 101, 10]⟩ : ByteArray)).size + t.1.size ≤ 9223372036854775807 by omega), if_pos (show ((s ++ (⟨#[106, 97, 108, 32, 114, 49, 32, 110, 111, 110, 101, 10]⟩ : ByteArray)) ++ t.1).size + 1 ≤ 9223372036854775807 by omega)]
      exact some_of (fun _ => rfl) (by rw [ByteArray.size_append, z2, show (⟨#[10]⟩ : ByteArray).size = 1 from rfl]; omega)
    · simp only [if_neg c1]
      by_cases c2 : r = 2
      · simp only [if_pos c2]; exact app _ 1 rfl (by omega) (by omega)
      · simp only [if_neg c2]
        by_cases c3 : r = 3
        · simp only [if_pos c3]; exact app _ 3 rfl (by omega) (by omega)
        · simp only [if_neg c3]
          by_cases c4 : r = 4
          · simp only [if_pos c4]; exact app _ 8 rfl (by omega) (by omega)
          · simp only [if_neg c4]
            by_cases c5 : r = 5
            · simp only [if_pos c5]
              exact nops_some 250 0 (by omega) s (by omega)
            · simp only [if_neg c5]
              exact some_of (fun _ => rfl) (by omega)

end Go.Proofs.YtaophlekfepkgaaGreatDoor.PFnFaultLine

/- What is drawn for the disassembler: words of 32 bits; over the print of the law FnAssemble. -/
import Derived.Test.YtaophlekfepkgaaGreatDoorInstrFnAssemble
namespace Go.Proofs.YtaophlekfepkgaaGreatDoor.PFnAssemble
open Go.RowKit Go.Proofs.YtaophlekfepkgaaGreatDoorW.PrintWords Go.Proofs.YtaophlekfepkgaaGreatDoorW.PrintLast Go.Proofs.YtaophlekfepkgaaGreatDoor.Lem

/-- From some number of rounds on, f gives r. -/
def Evt {α : Type} (f : Nat → Option α) (r : α) : Prop := ∃ K, ∀ k, K ≤ k → f k = some r
theorem ev_of {α : Type} {f : Nat → Option α} {r : α} (h : ∀ k, f k = some r) : Evt f r := ⟨0, fun k _ => h k⟩
theorem ev_step {α : Type} {f g : Nat → Option α} {r : α} (h : ∀ k, f (k + 1) = g k) (hg : Evt g r) : Evt f r := by
  obtain ⟨K, hK⟩ := hg
  refine ⟨K + 1, fun k hk => ?_⟩
  obtain ⟨k, rfl⟩ : ∃ m, k = m + 1 := ⟨k - 1, by omega⟩
  rw [h, hK k (by omega)]
theorem ev_end {α : Type} {f : Nat → Option α} {r : α} (h : ∀ k, f (k + 1) = some r) : Evt f r := ev_step (g := fun _ => some r) h (ev_of fun _ => rfl)
theorem ev_bind {α β : Type} {g : Nat → Option α} {h : Nat → α → Option β} {t : α} {r : β} (hg : Evt g t) (hh : Evt (fun k => h k t) r) : Evt (fun k => (g k).bind (h k)) r := by
  obtain ⟨K, hK⟩ := hg
  obtain ⟨M, hM⟩ := hh
  refine ⟨K + M, fun k hk => ?_⟩
  simp only [hK k (by omega), Option.bind_some]
  exact hM k (by omega)
theorem ev_both {α β : Type} {f : Nat → Option α} {g : Nat → Option β} {r : α} {s : β} (hf : Evt f r) (hg : Evt g s) : Evt (fun k => (f k).bind fun a => (g k).bind fun b => some (a, b)) (r, s) :=
  ev_bind hf (ev_bind hg (ev_of fun _ => rfl))
/-- A scan that ends at n. -/
theorem ev_scan {α : Type} (g : Nat → Int → Option α) (r : α) (n : Nat) (hs : ∀ i : Nat, i < n → Evt (fun k => g k ((i + 1 : Nat) : Int)) r → Evt (fun k => g k i) r) (he : Evt (fun k => g k n) r) :
    Evt (fun k => g k 0) r := by
  have key : ∀ d i : Nat, i + d = n → Evt (fun k => g k i) r := by
    intro d
    induction d with
    | zero => intro i hi; obtain rfl : i = n := by omega
              exact he
    | succ d ih => intro i hi; exact hs i (by omega) (ih (i + 1) (by omega))
  simpa using key n 0 (by omega)
/-- A list that is turned, one by one, into a new one. -/
theorem ev_copy {α β : Type} (z : β) (cv : α → β) (l : List α) (g : Nat → List β → Int → Option (List β))
    (hs : ∀ (x : List β) (i : Nat) (h : i < l.length) (r : List β), x.length = l.length → Evt (fun k => g k (x.set i (cv l[i])) ((i + 1 : Nat) : Int)) r → Evt (fun k => g k x i) r)
    (he : ∀ x : List β, x.length = l.length → Evt (fun k => g k x l.length) x) : Evt (fun k => g k (List.replicate l.length z) 0) (l.map cv) := by
  have key : ∀ d i : Nat, i + d = l.length → Evt (fun k => g k ((l.map cv).take i ++ List.replicate d z) i) (l.map cv) := by
    intro d
    induction d with
    | zero =>
      intro i hi
      obtain rfl : i = l.length := by omega
      have := he ((l.map cv).take l.length ++ List.replicate 0 z) (by simp)
      have e : (l.map cv).take l.length ++ List.replicate 0 z = l.map cv := by
        rw [List.take_of_length_le (by simp)]; simp
      rw [e] at this ⊢; exact this
    | succ d ih =>
      intro i hi
      have hlt : i < l.length := by omega
      refine hs _ i hlt _ (by simp; omega) ?_
      have e : ((l.map cv).take i ++ List.replicate (d + 1) z).set i (cv l[i]) = (l.map cv).take (i + 1) ++ List.replicate d z := by
        rw [List.set_append_right _ _ (by simp; omega)]
        have : i - ((l.map cv).take i).length = 0 := by simp; omega
        rw [this, List.replicate_succ, List.set_cons_zero, List.take_succ_eq_append_getElem (by simpa using hlt), List.append_assoc]
        simp
      rw [e]
      exact ih (i + 1) (by omega)
  have := key l.length 0 (by omega)
  simpa using this
theorem byte_is (b : List Int) (hb : b.length ≤ 4611686018427387904) (i h : Int) (hi : 0 ≤ i) : ∃ x i' h', spec_l01Byte.f b i h = some (x, i', h') ∧ 0 ≤ x ∧ x ≤ 255 ∧ 0 ≤ i' := by
  have m : ∀ y : Int, Go.bits .and .i64 y 255 = y % 256 := by
    intro y
    have := and_mask .i64 8 (by decide) (fun n a b => wraps_i64 n a (by omega)) y
    rwa [show (2 : Int) ^ 8 - 1 = 255 from rfl, show (2 : Int) ^ 8 = 256 from rfl] at this
  unfold spec_l01Byte.f
  by_cases h1 : i < (b.length : Int)
  · rw [if_pos h1, if_pos hi]
    refine ⟨_, _, _, rfl, ?_, ?_, ?_⟩
    · rw [m]; omega
    · rw [m]; omega
    · rw [w64 (by omega) (by omega)]; omega
  · rw [if_neg h1]
    refine ⟨_, _, _, rfl, ?_, ?_, hi⟩
    · rw [m]; omega
    · rw [m]; omega
theorem below_is (b : List Int) (hb : b.length ≤ 4611686018427387904) (i h n : Int) (hi : 0 ≤ i) : ∃ r i' h', spec_l01Below.f b i h n = some (r, i', h') ∧ 0 ≤ r ∧ (0 < n → r < n) ∧ (n ≤ 0 → r = 0) ∧ 0 ≤ i' := by
  unfold spec_l01Below.f
  by_cases h0 : n ≤ 0
  · rw [if_pos h0]; exact ⟨_, _, _, rfl, by omega, by omega, fun _ => rfl, hi⟩
  · rw [if_neg h0]
    obtain ⟨x1, i1, h1, e1, a1, b1, c1⟩ := byte_is b hb i h hi
    by_cases h2 : n ≤ 256
    · rw [if_pos h2, e1]
      simp only [Option.bind_some]
      rw [if_neg (by omega), tmod_pos a1]
      exact ⟨_, _, _, rfl, Int.emod_nonneg _ (by omega), fun _ => Int.emod_lt_of_pos _ (by omega), by omega, c1⟩
    · rw [if_neg h2]
      obtain ⟨x2, i2, h2', e2, a2, b2, c2⟩ := byte_is b hb i1 h1 c1
      obtain ⟨x3, i3, h3, e3, a3, b3, c3⟩ := byte_is b hb i2 h2' c2
      obtain ⟨x4, i4, h4, e4, a4, b4, c4⟩ := byte_is b hb i3 h3 c3
      simp only [e1, e2, e3, e4, Option.bind_some]
      rw [if_neg (by omega)]
      rw [w64 (n := x1 * 16777216) (by omega) (by omega), w64 (n := x2 * 65536) (by omega) (by omega), w64 (n := x3 * 256) (by omega) (by omega), w64 (n := x1 * 16777216 + x2 * 65536) (by omega) (by omega),
        w64 (n := x1 * 16777216 + x2 * 65536 + x3 * 256) (by omega) (by omega), w64 (n := x1 * 16777216 + x2 * 65536 + x3 * 256 + x4) (by omega) (by omega), tmod_pos (by omega)]
      exact ⟨_, _, _, rfl, Int.emod_nonneg _ (by omega), fun _ => Int.emod_lt_of_pos _ (by omega), by omega, c4⟩
theorem new_is (b : List Int) (hb : b.length ≤ 4611686018427387904) : ∀ (d i k : Nat) (h : Int), i + d = b.length → d < k → ∃ h', spec_l01New.l0 k b h i = some (b, 0, h') := by
  intro d
  induction d with
  | zero =>
    intro i k h hi hk
    obtain ⟨k, rfl⟩ : ∃ m, k = m + 1 := ⟨k - 1, by omega⟩
    exact ⟨h, by simp only [spec_l01New.l0]; rw [if_neg (by omega)]⟩
  | succ d ih =>
    intro i k h hi hk
    obtain ⟨k, rfl⟩ : ∃ m, k = m + 1 := ⟨k - 1, by omega⟩
    simp only [spec_l01New.l0]
    rw [if_pos (by omega)]
    by_cases h4 : (i : Int) < 4000
    · rw [if_pos h4, if_pos (by omega), w64 (n := (i : Int) + 1) (by omega) (by omega)]
      exact ih (i + 1) k _ (by omega) (by omega)
    · rw [if_neg h4]; exact ⟨h, rfl⟩
theorem drawn (b : List Int) (hb : b.length ≤ 4611686018427387904) (k : Nat) (hk : b.length < k) : ∃ h', spec_l01New.f k b = some (b, 0, h') := new_is b hb b.length 0 k _ (by omega) hk
theorem pick_is (b : List Int) (hb : b.length ≤ 4611686018427387904) (i h : Int) (l : List Int) (hl : 0 < l.length) (hi : 0 ≤ i) : ∃ r i' h', spec_l01PickInt.f b i h l = some (r, i', h') ∧ r ∈ l ∧ 0 ≤ i' := by
  obtain ⟨r, i', h', e, a, c, _, d⟩ := below_is b hb i h (l.length : Int) hi
  unfold spec_l01PickInt.f
  rw [e]
  simp only [Option.bind_some]
  have hr := c (by omega)
  rw [if_pos a, if_pos hr]
  refine ⟨_, _, _, rfl, ?_, d⟩
  obtain ⟨j, rfl⟩ := Int.eq_ofNat_of_zero_le a
  rw [rd_at l j (by omega)]
  exact List.getElem_mem _
theorem once_is (b : List Int) (hb : b.length ≤ 4611686018427387904) (i h n : Int) (hi : 0 ≤ i) : ∃ r i' h', spec_l01Once.f b i h n = some (r, i', h') ∧ 0 ≤ i' := by
  obtain ⟨r, i', h', e, _, _, _, d⟩ := below_is b hb i h n hi
  unfold spec_l01Once.f
  rw [e]
  exact ⟨_, _, _, rfl, d⟩
/-- Something comes, and it is so. -/
def Some1 {α : Type} (f : Nat → Option α) (P : α → Prop) : Prop := ∃ r, P r ∧ Evt f r
theorem some_of {α : Type} {P : α → Prop} {r : α} {f : Nat → Option α} (h : ∀ k, f k = some r) (hp : P r) : Some1 f P := ⟨r, hp, ev_of h⟩
theorem some_step {α : Type} {P : α → Prop} {f g : Nat → Option α} (h : ∀ k, f (k + 1) = g k) (hg : Some1 g P) : Some1 f P := by
  obtain ⟨r, hp, he⟩ := hg
  exact ⟨r, hp, ev_step h he⟩
theorem some_bind {α β : Type} {P : α → Prop} {Q : β → Prop} {g : Nat → Option α} {h : Nat → α → Option β} (hg : Some1 g P) (hh : ∀ a, P a → Some1 (fun k => h k a) Q) : Some1 (fun k => (g k).bind (h k)) Q := by
  obtain ⟨a, hp, he⟩ := hg
  obtain ⟨r, hq, hr⟩ := hh a hp
  exact ⟨r, hq, ev_bind he hr⟩
theorem form_tot (op : Int) : ∃ F, spec_FormOf.f op = some F := ⟨_, spec_form op⟩
abbrev Cur := Int × Int × Int × Int × Int × Int × Int
theorem j2_some (b : List Int) (hb : b.length ≤ 4611686018427387904) (F i h x0 x1 x2 x3 x4 : Int) (hi : 0 ≤ i) : Some1 (fun k => spec_l02Instr.j2 k F b i h x0 x1 x2 x3 x4) (fun t : Cur => 0 ≤ t.2.2.2.2.2.1) := by
  by_cases c1 : Int.tmod (wrap64 (Int.tdiv F 8)) 2 = 1
  · obtain ⟨r1, i1, h1, e1, _, _, _, g1⟩ := below_is b hb i h 17 hi
    obtain ⟨r2, i2, h2, e2, _, _, _, g2⟩ := below_is b hb i1 h1 8 g1
    by_cases c2 : r2 = 0
    · obtain ⟨r3, i3, h3, e3, _, g3⟩ := pick_is b hb i2 h2 [(-8192), 8191, 0] (by simp) g2
      refine some_step (g := fun _ => some (x0, x1, x2, x3, r3, i3, h3)) (fun k => ?_) (some_of (fun _ => rfl) g3)
      simp only [spec_l02Instr.j2]
      rw [if_pos c1]
      simp only [e1, e2, Option.bind_some, if_pos c2, e3]
    · by_cases c3 : r2 = 1
      · obtain ⟨r3, i3, h3, e3, _, _, _, g3⟩ := below_is b hb i2 h2 16384 g2
        refine some_step (g := fun _ => some (x0, x1, x2, x3, wrap64 (r3 - 8192), i3, h3)) (fun k => ?_) (some_of (fun _ => rfl) g3)
        simp only [spec_l02Instr.j2]
        rw [if_pos c1]
        simp only [e1, e2, Option.bind_some, if_neg c2, if_pos c3, e3]
      · refine some_step (g := fun _ => some (x0, x1, x2, x3, wrap64 (r1 - 8), i2, h2)) (fun k => ?_) (some_of (fun _ => rfl) g2)
        simp only [spec_l02Instr.j2]
        rw [if_pos c1]
        simp only [e1, e2, Option.bind_some, if_neg c2, if_neg c3]
  · refine some_step (g := fun _ => some (x0, x1, x2, x3, x4, i, h)) (fun k => ?_) (some_of (fun _ => rfl) hi)
    simp only [spec_l02Instr.j2]
    rw [if_neg c1]
theorem j1_some (b : List Int) (hb : b.length ≤ 4611686018427387904) (F i h x0 x1 x2 x3 x4 : Int) (hi : 0 ≤ i) : Some1 (fun k => spec_l02Instr.j1 k F b i h x0 x1 x2 x3 x4) (fun t : Cur => 0 ≤ t.2.2.2.2.2.1) := by
  by_cases c1 : Int.tmod (wrap64 (Int.tdiv F 4)) 2 = 1
  · obtain ⟨r1, i1, h1, e1, _, _, _, g1⟩ := below_is b hb i h 16 hi
    refine some_step (fun k => ?_) (j2_some b hb F i1 h1 x0 x1 x2 r1 x4 g1)
    simp only [spec_l02Instr.j1]
    rw [if_pos c1, e1]; rfl
  · refine some_step (fun k => ?_) (j2_some b hb F i h x0 x1 x2 x3 x4 hi)
    simp only [spec_l02Instr.j1]
    rw [if_neg c1]
theorem j0_some (b : List Int) (hb : b.length ≤ 4611686018427387904) (F i h x0 x1 x2 x3 x4 : Int) (hi : 0 ≤ i) : Some1 (fun k => spec_l02Instr.j0 k F b i h x0 x1 x2 x3 x4) (fun t : Cur => 0 ≤ t.2.2.2.2.2.1) := by
  by_cases c1 : Int.tmod (wrap64 (Int.tdiv F 2)) 2 = 1
  · obtain ⟨r1, i1, h1, e1, _, _, _, g1⟩ := below_is b hb i h 16 hi
    refine some_step (fun k => ?_) (j1_some b hb F i1 h1 x0 x1 r1 x3 x4 g1)
    simp only [spec_l02Instr.j0]
    rw [if_pos c1, e1]; rfl
  · refine some_step (fun k => ?_) (j1_some b hb F i h x0 x1 x2 x3 x4 hi)
    simp only [spec_l02Instr.j0]
    rw [if_neg c1]
theorem instr_some (b : List Int) (hb : b.length ≤ 4611686018427387904) (i h : Int) (hi : 0 ≤ i) : Some1 (fun k => spec_l02Instr.f k b i h) (fun t : Cur => 0 ≤ t.2.2.2.2.2.1) := by
  unfold spec_l02Instr.f
  obtain ⟨r1, i1, h1, e1, _, _, _, g1⟩ := below_is b hb i h 33 hi
  obtain ⟨F, hF⟩ := form_tot r1
  simp only [e1, Option.bind_some, hF]
  by_cases c1 : Int.tmod F 2 = 1
  · obtain ⟨r2, i2, h2, e2, _, _, _, g2⟩ := below_is b hb i1 h1 16 g1
    simp only [if_pos c1, e2, Option.bind_some]
    exact j0_some b hb F i2 h2 r1 r2 0 0 0 g2
  · simp only [if_neg c1]
    exact j0_some b hb F i1 h1 r1 0 0 0 0 g1
theorem word_is (b : List Int) (hb : b.length ≤ 4611686018427387904) (i h : Int) (hi : 0 ≤ i) : ∃ v i' h', spec_l01Word.f b i h = some (v, i', h') ∧ 0 ≤ v ∧ v < 4294967296 ∧ 0 ≤ i' := by
  unfold spec_l01Word.f
  obtain ⟨r1, i1, h1, e1, _, _, _, g1⟩ := below_is b hb i h 4 hi
  simp only [e1, Option.bind_some]
  by_cases c1 : r1 = 0
  · rw [if_pos c1]
    obtain ⟨r3, i3, h3, e3, _, g3⟩ := pick_is b hb i1 h1 [0, 1, 2, 31, 32, 255, 256, 2147483647, 2147483648, 4294967295, 4294967294] (by simp) g1
    rw [e3]
    exact ⟨_, _, _, rfl, by omega, by omega, g3⟩
  · rw [if_neg c1]
    by_cases c2 : r1 = 1
    · rw [if_pos c2]
      obtain ⟨r3, i3, h3, e3, _, _, _, g3⟩ := below_is b hb i1 h1 300 g1
      rw [e3]
      exact ⟨_, _, _, rfl, by omega, by omega, g3⟩
    · rw [if_neg c2]
      obtain ⟨r3, i3, h3, e3, _, _, _, g3⟩ := below_is b hb i1 h1 65536 g1
      obtain ⟨r4, i4, h4, e4, _, _, _, g4⟩ := below_is b hb i3 h3 65536 g3
      simp only [e3, e4, Option.bind_some]
      exact ⟨_, _, _, rfl, by omega, by omega, g4⟩
theorem new_some (b : List Int) (_hb : b.length ≤ 4611686018427387904) : ∀ (d i : Nat) (h : Int), i + d = b.length → Some1 (fun k => spec_l01New.l0 k b h i) (fun t : List Int × Int × Int => t.1 = b ∧ t.2.1 = 0) := by
  intro d
  induction d with
  | zero =>
    intro i h hi
    refine some_step (g := fun _ => some (b, 0, h)) (fun k => ?_) (some_of (fun _ => rfl) ⟨rfl, rfl⟩)
    simp only [spec_l01New.l0]; rw [if_neg (by omega)]
  | succ d ih =>
    intro i h hi
    by_cases h4 : (i : Int) < 4000
    · refine some_step (g := fun k => spec_l01New.l0 k b (Go.bits .and .i64 (wrap64 ((wrap64 ((wrap64 (h * 131)) + (wrap64 (rd b (i : Int))))) + 7)) 1073741823) ((i + 1 : Nat) : Int)) (fun k => ?_) (ih (i + 1) _ (by omega))
      simp only [spec_l01New.l0]
      rw [if_pos (by omega), if_pos h4, if_pos (by omega), w64 (n := (i : Int) + 1) (by omega) (by omega)]; rfl
    · refine some_step (g := fun _ => some (b, 0, h)) (fun k => ?_) (some_of (fun _ => rfl) ⟨rfl, rfl⟩)
      simp only [spec_l01New.l0]; rw [if_pos (by omega), if_neg h4]
theorem size_is (b : List Int) (hb : b.length ≤ 4611686018427387904) (m : Int) (hm : 2 ≤ m ∧ m ≤ 1000) : ∃ n : Int, spec_l01Size.f b m = some n ∧ 2 ≤ n ∧ n ≤ m := by
  unfold spec_l01Size.f
  have e1 : wrap64 ((b.length : Int) / 20) = (b.length : Int) / 20 := w64 (by omega) (by omega)
  have e2 : wrap64 (2 + (b.length : Int) / 20) = 2 + (b.length : Int) / 20 := w64 (by omega) (by omega)
  rw [e1, e2]
  split
  · exact ⟨_, rfl, by omega, by omega⟩
  · exact ⟨_, rfl, by omega, by omega⟩
theorem enc_tot (a b c d e : Int) : ∃ w q, spec_Encode.f a b c d e = some (w, q) ∧ 0 ≤ w ∧ w < 4294967296 := by
  unfold spec_Encode.f
  rw [spec_instr, Option.bind_some]
  split
  · have hm : ∃ m, spec_l01Mod.f e 16384 = some m := by
      unfold spec_l01Mod.f
      rw [if_neg (by omega)]
      split
      · exact ⟨_, rfl⟩
      · exact ⟨_, rfl⟩
    obtain ⟨m, hm⟩ := hm
    rw [hm, Option.bind_some]
    exact ⟨_, _, rfl, by omega, by omega⟩
  · exact ⟨_, _, rfl, by omega, by omega⟩
def W32 (l : List Int) : Prop := ∀ v ∈ l, 0 ≤ v ∧ v < 4294967296
theorem w32_snoc {l : List Int} {v : Int} (h : W32 l) (h0 : 0 ≤ v) (h1 : v < 4294967296) : W32 (l ++ [v]) := by
  intro x hx
  rcases List.mem_append.1 hx with hx | hx
  · exact h x hx
  · rw [List.mem_singleton] at hx; subst hx; exact ⟨h0, h1⟩
theorem dis_some (b : List Int) (hb : b.length ≤ 4611686018427387904) (n : Nat) (hn : n ≤ 1000) : ∀ (d i : Nat), i + d = n → ∀ (x : List Int) (c h : Int), x.length = i → W32 x → 0 ≤ c →
    Some1 (fun k => spec_DrawDisassemble.l0 k x n i b c h) W32 := by
  intro d
  induction d with
  | zero =>
    intro i hi x c h hx hw hc
    refine some_step (g := fun _ => some x) (fun k => ?_) (some_of (fun _ => rfl) hw)
    simp only [spec_DrawDisassemble.l0]; rw [if_neg (by omega)]
  | succ d ih =>
    intro i hi x c h hx hw hc
    have hwi : wrap64 ((i : Int) + 1) = ((i + 1 : Nat) : Int) := by rw [w64 (by omega) (by omega)]; omega
    refine some_step (g := fun k => (spec_l02Instr.f k b c h).bind fun bt225 => ((spec_Encode.f bt225.1 bt225.2.1 bt225.2.2.1 bt225.2.2.2.1 bt225.2.2.2.2.1).bind fun bt232 => ((spec_l01Once.f b bt225.2.2.2.2.2.1 bt225.2.2.2.2.2.2 5).bind fun bt234 => (if bt234.1 = true then ((spec_l01Word.f b bt234.2.1 bt234.2.2).bind fun bt237 => (if x.length < 35184372088832 then (spec_DrawDisassemble.l0 k (x ++ [bt237.1]) n ((i + 1 : Nat) : Int) b bt237.2.1 bt237.2.2) else (none))) else (if x.length < 35184372088832 then (spec_DrawDisassemble.l0 k (x ++ [bt232.1]) n ((i + 1 : Nat) : Int) b bt234.2.1 bt234.2.2) else (none)))))) (fun k => ?_) ?_
    · simp only [spec_DrawDisassemble.l0]
      rw [if_pos (by omega), hwi]
    · refine some_bind (instr_some b hb c h hc) fun t ht => ?_
      obtain ⟨o, a1, a2, a3, a4, c1, h1⟩ := t
      have ht : 0 ≤ c1 := ht
      obtain ⟨w, q, e1, w0, w1⟩ := enc_tot o a1 a2 a3 a4
      obtain ⟨r, c2, h2, e2, g2⟩ := once_is b hb c1 h1 5 ht
      have hlt : x.length < 35184372088832 := by omega
      simp only [e1, e2, Option.bind_some, if_pos hlt]
      cases r with
      | true =>
        obtain ⟨v, c3, h3, e3, v0, v1, g3⟩ := word_is b hb c2 h2 g2
        simp only [if_true, e3, Option.bind_some]
        exact ih (i + 1) (by omega) (x ++ [v]) c3 h3 (by simp; omega) (w32_snoc hw v0 v1) g3
      | false =>
        simp only [Bool.false_eq_true, if_false]
        exact ih (i + 1) (by omega) (x ++ [w]) c2 h2 (by simp; omega) (w32_snoc hw w0 w1) g2
theorem draw_some (b : List Int) (hb : b.length ≤ 4611686018427387904) : Some1 (fun k => spec_DrawDisassemble.f k b) W32 := by
  unfold spec_DrawDisassemble.f
  refine some_bind (new_some b hb b.length 0 _ (by omega)) fun t ht => ?_
  obtain ⟨b', i, h⟩ := t
  obtain ⟨rfl, rfl⟩ : b' = b ∧ i = 0 := ht
  obtain ⟨m, hm, m2, m40⟩ := size_is b' hb 40 (by omega)
  obtain ⟨r, i1, h1, e1, r0, r1, _, g1⟩ := below_is b' hb 0 h m (by omega)
  obtain ⟨q, i2, h2, e2, g2⟩ := once_is b' hb i1 h1 20 g1
  have r2 := r1 (by omega)
  simp only [hm, e1, e2, Option.bind_some]
  cases q with
  | true =>
    obtain ⟨s, i3, h3, e3, s0, s1, _, g3⟩ := below_is b' hb i2 h2 2 g2
    have s2 := s1 (by omega)
    simp only [if_true, e3, Option.bind_some]
    rw [w64 (n := 256 + s) (by omega) (by omega)]
    obtain ⟨n, hn⟩ := Int.eq_ofNat_of_zero_le (show 0 ≤ 256 + s by omega)
    refine some_step (fun k => ?_) (dis_some b' hb n (by omega) n 0 (by omega) [] i3 h3 rfl (by intro v hv; cases hv) g3)
    simp only [spec_DrawDisassemble.j0]; rw [hn]; rfl
  | false =>
    simp only [Bool.false_eq_true, if_false]
    obtain ⟨n, hn⟩ := Int.eq_ofNat_of_zero_le r0
    refine some_step (fun k => ?_) (dis_some b' hb n (by omega) n 0 (by omega) [] i2 h2 rfl (by intro v hv; cases hv) g2)
    simp only [spec_DrawDisassemble.j0]; rw [hn]; rfl

end Go.Proofs.YtaophlekfepkgaaGreatDoor.PFnAssemble

/- The parts of a line, in the reference and in the program, over the print of the law FnExactLabelsOf: pieces between spaces, a register's number, an op's number, a label, a form. -/
import Derived.Test.YtaophlekfepkgaaGreatDoorNumFnExactLabelsOf
import Derived.Test.YtaophlekfepkgaaGreatDoorSplitL
namespace Go.Proofs.YtaophlekfepkgaaGreatDoor.PFnExactLabelsOf
open Go.RowKit Go.Proofs.YtaophlekfepkgaaGreatDoorW.PrintWords Go.Proofs.YtaophlekfepkgaaGreatDoorW.PrintLast Go.Proofs.YtaophlekfepkgaaGreatDoor.Lem Go.Proofs.YtaophlekfepkgaaGreatDoor.SplitL

theorem ext_bs (s : ByteArray) (a b : Nat) : s.extract a b = bs ((s.data.toList.drop a).take (b - a)) := by
  unfold bs
  cases s with
  | mk d =>
    apply congrArg ByteArray.mk
    apply Array.toList_inj.1
    show ((ByteArray.mk d).extract a b).data.toList = _
    rw [Lib.extract_data]
theorem bs_data (s : ByteArray) : bs s.data.toList = s := by cases s; rfl
theorem data_bs (l : List UInt8) : (bs l).data.toList = l := rfl
theorem bs_inj {a b : List UInt8} (h : bs a = bs b) : a = b := by
  have := congrArg (fun x : ByteArray => x.data.toList) h
  simpa [data_bs] using this
/-- A text set ahead of the first piece. -/
def glue (a : List UInt8) : List (List UInt8) → List (List UInt8)
  | [] => [a]
  | x :: t => (a ++ x) :: t
theorem glue_nil (l : List UInt8) : glue [] (sp l) = sp l := by
  obtain ⟨x, t, e⟩ := sp_cons l
  rw [e]; rfl
theorem glue_pre (a : List UInt8) (c : UInt8) (l : List UInt8) : glue a (pre c (sp l)) = glue (a ++ [c]) (sp l) := by
  obtain ⟨x, t, e⟩ := sp_cons l
  rw [e]; simp [glue, pre]
theorem split_loop (s : ByteArray) (hs : s.size ≤ 4398046511104) : ∀ d i : Nat, i + d = s.size → ∀ (o : List ByteArray) (f : Nat), f ≤ i → o.length ≤ f →
    Evt (fun k => spec_l01Split.l0 k s o f i) (o ++ (glue ((s.data.toList.drop f).take (i - f)) (sp (s.data.toList.drop i))).map bs) := by
  have hsz : s.size = s.data.toList.length := by rw [Array.length_toList]; rfl
  intro d
  induction d with
  | zero =>
    intro i hi o f hf ho
    refine ev_end fun k => ?_
    simp only [spec_l01Split.l0]
    rw [if_neg (by omega), if_pos (by omega), if_pos (by omega), if_pos (by omega), show s.data.toList.drop i = [] from List.drop_eq_nil_of_le (by omega)]
    simp only [sp, glue, List.append_nil, List.map_cons, List.map_nil, Int.toNat_natCast]
    rw [ext_bs, show s.size - f = i - f by omega]
  | succ d ih =>
    intro i hi o f hf ho
    have hlt : i < s.data.toList.length := by omega
    have hb := bt_at s i hlt
    rw [List.drop_eq_getElem_cons hlt]
    by_cases hc : s.data.toList[i] = 32
    · have h1 := ih (i + 1) (by omega) (o ++ [s.extract f i]) (i + 1) (by omega) (by simp; omega)
      rw [Nat.sub_self, List.take_zero, glue_nil] at h1
      have e : (o ++ [s.extract f i]) ++ (sp (s.data.toList.drop (i + 1))).map bs = o ++ (glue ((s.data.toList.drop f).take (i - f)) (sp (s.data.toList[i] :: s.data.toList.drop (i + 1)))).map bs := by
        rw [sp, if_pos hc, glue, List.append_nil, List.map_cons, ext_bs, List.append_assoc]; rfl
      rw [e] at h1
      refine ev_step (fun k => ?_) h1
      simp only [spec_l01Split.l0]
      rw [if_pos (by omega), if_pos (by omega), hb, hc, if_pos (by decide), if_pos (by omega), if_pos (by omega), if_pos (by omega), if_pos (by omega), w64 (by omega) (by omega), Int.toNat_natCast, Int.toNat_natCast]
      rfl
    · have h1 := ih (i + 1) (by omega) o f (by omega) ho
      have e : glue ((s.data.toList.drop f).take (i + 1 - f)) (sp (s.data.toList.drop (i + 1))) = glue ((s.data.toList.drop f).take (i - f)) (sp (s.data.toList[i] :: s.data.toList.drop (i + 1))) := by
        rw [sp, if_neg hc, glue_pre]
        congr 1
        rw [show i + 1 - f = (i - f) + 1 by omega, List.take_succ_eq_append_getElem (by rw [List.length_drop]; omega)]
        congr 2
        rw [List.getElem_drop]; congr 1; omega
      rw [e] at h1
      refine ev_step (fun k => ?_) h1
      simp only [spec_l01Split.l0]
      have hne : ¬ ((s.data.toList[i]).toNat : Int) = 32 := by
        intro h
        apply hc
        apply UInt8.toNat_inj.1
        have : (32 : UInt8).toNat = 32 := rfl
        omega
      rw [if_pos (by omega), if_pos (by omega), hb, if_neg hne, w64 (by omega) (by omega)]
      rfl
/-- The words of a line. -/
theorem split_is (s : ByteArray) (hs : s.size ≤ 4398046511104) : Evt (fun k => spec_l01Split.f k s) ((sp s.data.toList).map bs) := by
  have h := split_loop s hs s.size 0 (by omega) [] 0 (by omega) (by simp)
  simp only [List.drop_zero, Nat.sub_self, List.take_zero, glue_nil, List.nil_append] at h
  exact h
theorem ws_is (s : ByteArray) : impl_readLine.ws s = (sp s.data.toList).map bs := split_sp s
theorem pieces_len : ∀ l : List UInt8, ∀ x ∈ sp l, x.length ≤ l.length
  | [], x, hx => by simp [sp] at hx; simp [hx]
  | c :: r, x, hx => by
    have ih := pieces_len r
    unfold sp at hx
    split at hx
    · rcases List.mem_cons.1 hx with rfl | hx
      · simp
      · have := ih x hx; simp; omega
    · obtain ⟨y, t, e⟩ := sp_cons r
      rw [e] at hx ih
      rcases List.mem_cons.1 hx with rfl | hx
      · have := ih y (by simp); simp; omega
      · have := ih x (List.mem_cons_of_mem _ hx); simp; omega
/-- A register's number. -/
theorem reg_loop (s : ByteArray) : ∀ d i : Nat, i + d = 16 → ∃ v : Int, Evt (fun k => spec_l03Reg.l0 k s i) v ∧ ((v = -1 ∧ ∀ j : Nat, i ≤ j → j < 16 → s.data.toList ≠ 114 :: Lib.itoa (j : Int)) ∨ (0 ≤ v ∧ v ≤ 15 ∧ s.data.toList = 114 :: Lib.itoa v)) := by
  intro d
  induction d with
  | zero =>
    intro i hi
    obtain rfl : i = 16 := by omega
    refine ⟨-1, ev_end fun k => ?_, .inl ⟨rfl, fun j h1 h2 => by omega⟩⟩
    simp only [spec_l03Reg.l0]; rw [if_neg (by omega)]
  | succ d ih =>
    intro i hi
    have hlen := itoa_len11 (i : Int) (by omega)
    have hsize : 1 + (bs (Lib.itoa (i : Int))).size ≤ 9223372036854775807 := by rw [bs_size]; omega
    have happ : ((⟨#[114]⟩ : ByteArray) ++ bs (Lib.itoa (i : Int))).toList = 114 :: Lib.itoa (i : Int) := by
      rw [show (⟨#[114]⟩ : ByteArray) = bs [114] from rfl, bs_append, bs_toList]; rfl
    by_cases hp : s.data.toList = 114 :: Lib.itoa (i : Int)
    · refine ⟨i, ?_, .inr ⟨by omega, by omega, hp⟩⟩
      refine ev_step (g := fun k => (spec_DecText.f k i).bind fun t => (if 1 + t.size ≤ 9223372036854775807 then (if s.toList = ((⟨#[114]⟩ : ByteArray) ++ t).toList then (some (i : Int)) else (spec_l03Reg.l0 k s (wrap64 ((i : Int) + 1)))) else (none))) (fun k => ?_) (ev_bind (dec_is (i : Int) (by omega) (by omega)) (ev_of fun k => ?_))
      · simp only [spec_l03Reg.l0]; rw [if_pos (by omega)]
      · rw [if_pos hsize, if_pos (by rw [happ, toList_eq, hp])]
    · obtain ⟨v, h1, h2⟩ := ih (i + 1) (by omega)
      refine ⟨v, ?_, ?_⟩
      · refine ev_step (g := fun k => (spec_DecText.f k i).bind fun t => (if 1 + t.size ≤ 9223372036854775807 then (if s.toList = ((⟨#[114]⟩ : ByteArray) ++ t).toList then (some (i : Int)) else (spec_l03Reg.l0 k s (wrap64 ((i : Int) + 1)))) else (none))) (fun k => ?_) (ev_bind (dec_is (i : Int) (by omega) (by omega)) ?_)
        · simp only [spec_l03Reg.l0]; rw [if_pos (by omega)]
        · have e : ∀ k, (if 1 + (bs (Lib.itoa (i : Int))).size ≤ 9223372036854775807 then (if s.toList = ((⟨#[114]⟩ : ByteArray) ++ bs (Lib.itoa (i : Int))).toList then (some (i : Int)) else (spec_l03Reg.l0 k s (wrap64 ((i : Int) + 1)))) else (none)) = spec_l03Reg.l0 k s ((i + 1 : Nat) : Int) := fun k => by
            rw [if_pos hsize, if_neg (by rw [happ, toList_eq]; exact hp), w64 (by omega) (by omega)]; rfl
          simp only [e]; exact h1
      · rcases h2 with ⟨h2, h3⟩ | h2
        · refine .inl ⟨h2, fun j hj1 hj2 => ?_⟩
          by_cases e : j = i
          · subst e; exact hp
          · exact h3 j (by omega) hj2
        · exact .inr h2
theorem cut_is (s : ByteArray) : strings_CutPrefix.f s (⟨#[114]⟩ : ByteArray) = some (match s.data.toList with
    | c :: r => if c = 114 then (bs r, true) else (s, false)
    | [] => (s, false)) := by
  have hsz : s.size = s.data.toList.length := by rw [Array.length_toList]; rfl
  have h1 : ((⟨#[114]⟩ : ByteArray).size : Int) = 1 := rfl
  have h2 : (⟨#[114]⟩ : ByteArray).toList = [114] := by rw [toList_eq]
  unfold strings_CutPrefix.f stringslite_CutPrefix.f stringslite_HasPrefix.f
  rw [h1, h2]
  cases hl : s.data.toList with
  | nil =>
    rw [hl, List.length_nil] at hsz
    rw [if_neg (by omega)]; simp
  | cons c r =>
    rw [hl, List.length_cons] at hsz
    rw [if_pos (by omega), if_pos (by omega), if_pos (by omega)]
    have e : (s.extract 0 ((1 : Int) : Int).toNat).toList = [c] := by
      rw [ext_bs, bs_toList, hl]; simp
    rw [e]
    by_cases hc : c = 114
    · subst hc
      have e2 : s.extract ((1 : Int) : Int).toNat s.size = bs r := by
        rw [ext_bs, hl, hsz]; simp
      rw [show (([114] : List UInt8) == [114]) = true from rfl]
      simp only [Option.bind_some, if_true]
      rw [if_pos (by omega), if_pos (by omega), e2]
      rfl
    · simp [hc]
theorem reg_both (s : ByteArray) (hs : s.size ≤ 281474976710656) : ∃ (v n : Int) (b : Bool), Evt (fun k => spec_l03Reg.f k s) v ∧ impl_register.f s = some (n, b) ∧ ((b = true ∧ n = v ∧ 0 ≤ v ∧ v ≤ 15 ∧ s.data.toList = 114 :: Lib.itoa v) ∨ (b = false ∧ v = -1)) := by
  have hsz : s.size = s.data.toList.length := by rw [Array.length_toList]; rfl
  obtain ⟨v, h1, h2⟩ := reg_loop s 16 0 (by omega)
  have h1 : Evt (fun k => spec_l03Reg.f k s) v := h1
  unfold impl_register.f
  rw [cut_is]
  have inj : ∀ a b : Int, (0 ≤ a ∧ a ≤ 15) → (-15 ≤ b ∧ b ≤ 15) → Lib.itoa a = Lib.itoa b → a = b := by
    intro a b ha hb e
    have e1 := atoi_itoa a (by omega)
    rw [e, atoi_itoa b (by omega)] at e1
    injection e1 with e1
    exact e1.symm
  cases hl : s.data.toList with
  | nil =>
    rw [hl] at h2
    obtain ⟨r, _, g2, _, _⟩ := num_full s 15 (by omega) (by omega)
    refine ⟨v, r.1, false, h1, ?_, .inr ⟨rfl, ?_⟩⟩
    · simp [g2]
    · rcases h2 with ⟨h2, _⟩ | ⟨_, _, h2⟩
      · exact h2
      · cases h2
  | cons c r =>
    rw [hl] at h2
    by_cases hc : c = 114
    · subst hc
      have hsr : (bs r).size ≤ 281474976710656 := by rw [bs_size]; rw [hl, List.length_cons] at hsz; omega
      obtain ⟨x, _, g2, g3, g4⟩ := num_full (bs r) 15 hsr (by omega)
      rw [data_bs] at g3 g4
      simp only [Option.bind_some, if_true, g2]
      rcases g4 with rfl | ⟨y, hy, rfl⟩
      · refine ⟨v, 0, false, h1, by simp, .inr ⟨rfl, ?_⟩⟩
        rcases h2 with ⟨h2, _⟩ | ⟨h3, h4, h5⟩
        · exact h2
        · injection h5 with _ h5
          have := g3 v ⟨h5.symm, by omega, by omega⟩
          simp at this
      · obtain ⟨hy1, _, hy3⟩ := hy
        by_cases hy0 : 0 ≤ y
        · have hv : v = y := by
            rcases h2 with ⟨_, h2⟩ | ⟨h3, h4, h5⟩
            · exfalso
              obtain ⟨n, rfl⟩ := Int.eq_ofNat_of_zero_le hy0
              exact h2 n (by omega) (by omega) (by rw [hy1])
            · injection h5 with _ h5
              exact inj v y (by omega) (by omega) (by rw [← h5, hy1])
          subst hv
          refine ⟨v, v, true, h1, by simp; omega, .inl ⟨rfl, rfl, by omega, by omega, by rw [hy1]⟩⟩
        · refine ⟨v, y, false, h1, by simp; omega, .inr ⟨rfl, ?_⟩⟩
          rcases h2 with ⟨h2, _⟩ | ⟨h3, h4, h5⟩
          · exact h2
          · injection h5 with _ h5
            have := inj v y (by omega) (by omega) (by rw [← h5, hy1])
            omega
    · obtain ⟨x, _, g2, _, _⟩ := num_full s 15 (by omega) (by omega)
      refine ⟨v, x.1, false, h1, by simp [hc, g2], .inr ⟨rfl, ?_⟩⟩
      rcases h2 with ⟨h2, _⟩ | ⟨_, _, h2⟩
      · exact h2
      · injection h2 with h2 _
        exact absurd h2 hc
/- An op's number. -/
theorem lnames_eq : spec_l02Names.f = some ((List.range 33).map Tab.nm) := by kernel_rfl
theorem lnames_at (n : Nat) (h : n < 33) : rdOf ByteArray.empty ((List.range 33).map Tab.nm) n = Tab.nm n := by
  unfold rdOf; rw [Int.toNat_natCast]; simp [List.getD, h]
theorem toList_inj {a b : ByteArray} : a.toList = b.toList ↔ a = b := by
  constructor
  · intro h
    have e : a.data.toList = b.data.toList := by simpa [ByteArray.toList_eq] using h
    cases a; cases b; simp at e; simp [e]
  · rintro rfl; rfl
theorem find_is (x : ByteArray) : ∀ d i : Nat, i + d = 33 → Evt (fun k => spec_OpOf.l0 k x i) (Lib.idxFromS (((List.range 33).map Tab.nm).drop i) x i) := by
  intro d
  induction d with
  | zero =>
    intro i hi
    obtain rfl : i = 33 := by omega
    refine ev_end fun k => ?_
    simp only [spec_OpOf.l0]; rw [if_neg (by omega)]; rfl
  | succ d ih =>
    intro i hi
    have hlt : i < ((List.range 33).map Tab.nm).length := by simp; omega
    have hd : ((List.range 33).map Tab.nm).drop i = Tab.nm i :: ((List.range 33).map Tab.nm).drop (i + 1) := by
      rw [List.drop_eq_getElem_cons hlt]; simp
    rw [hd]
    by_cases e : Tab.nm i = x
    · refine ev_end fun k => ?_
      simp only [spec_OpOf.l0, lnames_eq, Option.bind_some]
      rw [if_pos (by omega), if_pos (by omega), if_pos (by simp; omega), lnames_at i (by omega), if_pos (toList_inj.2 e)]
      simp [Lib.idxFromS, e]
    · refine ev_step (fun k => ?_) (by simpa [Lib.idxFromS, e] using ih (i + 1) (by omega))
      simp only [spec_OpOf.l0, lnames_eq, Option.bind_some]
      rw [if_pos (by omega), if_pos (by omega), if_pos (by simp; omega), lnames_at i (by omega), if_neg (fun h => e (toList_inj.1 h)), w64 (by omega) (by omega)]
      try rfl
theorem op_is (x : ByteArray) : Evt (fun k => spec_OpOf.f k x) (Lib.idxOfS ((List.range 33).map Tab.nm) x) := by
  have := find_is x 33 0 (by omega)
  simpa [Lib.idxOfS, spec_OpOf.f] using this
theorem idx_range : ∀ (l : List ByteArray) (x : ByteArray) (i : Nat), Lib.idxFromS l x i = -1 ∨ ((i : Int) ≤ Lib.idxFromS l x i ∧ Lib.idxFromS l x i < i + l.length)
  | [], x, i => .inl rfl
  | a :: l, x, i => by
    unfold Lib.idxFromS
    split
    · right; simp; omega
    · rcases idx_range l x (i + 1) with h | h
      · exact .inl h
      · right; simp; omega
theorem idx_none : ∀ (l : List ByteArray) (x : ByteArray) (i : Nat), (∀ y ∈ l, y ≠ x) → Lib.idxFromS l x i = -1
  | [], x, i, _ => rfl
  | a :: l, x, i, h => by
    unfold Lib.idxFromS
    rw [if_neg (by simpa using h a (by simp))]
    exact idx_none l x (i + 1) fun y hy => h y (List.mem_cons_of_mem _ hy)
theorem op_range (x : ByteArray) : Lib.idxOfS ((List.range 33).map Tab.nm) x = -1 ∨ (0 ≤ Lib.idxOfS ((List.range 33).map Tab.nm) x ∧ Lib.idxOfS ((List.range 33).map Tab.nm) x ≤ 32) := by
  rcases idx_range ((List.range 33).map Tab.nm) x 0 with h | h
  · exact .inl h
  · right
    rw [List.length_map, List.length_range] at h
    unfold Lib.idxOfS; omega
/- A label. -/
def Letters (s : ByteArray) (i : Nat) : Prop := ∀ j : Nat, i ≤ j → j < s.size → 97 ≤ bt s j ∧ bt s j ≤ 122
def Right (s : ByteArray) : Prop := 1 ≤ s.size ∧ s.size ≤ 12
theorem letters_end (s : ByteArray) (i : Nat) (h : s.size ≤ i) : Letters s i := fun j hj hl => by omega
theorem letters_step (s : ByteArray) (i : Nat) (h : 97 ≤ bt s i ∧ bt s i ≤ 122) : Letters s i ↔ Letters s (i + 1) := by
  constructor
  · intro k j hj hl; exact k j (by omega) hl
  · intro k j hj hl
    by_cases e : j = i
    · subst e; exact h
    · exact k j (by omega) hl
theorem lab_within (n a b : Int) : impl_within.f n a b = some (decide (a ≤ n ∧ n ≤ b)) := by
  unfold impl_within.f
  by_cases h : n ≥ a
  · rw [if_pos h]; congr 1; simp; omega
  · rw [if_neg h]; congr 1; simp; omega
theorem lab_impl (s : ByteArray) (hs : s.size ≤ 140737488351232) : ∀ d i k : Nat, i + d = s.size → d < k → ∃ r, impl_isLabel.l0 k s s.size i = some r ∧ (r = true ↔ Letters s i ∧ Right s) := by
  intro d
  induction d with
  | zero =>
    intro i k hi hk
    obtain ⟨k, rfl⟩ : ∃ m, k = m + 1 := ⟨k - 1, by omega⟩
    have hL := letters_end s i (by omega)
    refine ⟨decide ((1 : Int) ≤ s.size ∧ (s.size : Int) ≤ 12), ?_, ?_⟩
    · simp only [impl_isLabel.l0]
      rw [if_neg (by omega), lab_within]; rfl
    · simp [hL, Right]; omega
  | succ d ih =>
    intro i k hi hk
    obtain ⟨k, rfl⟩ : ∃ m, k = m + 1 := ⟨k - 1, by omega⟩
    simp only [impl_isLabel.l0]
    rw [if_pos (by omega), if_pos (by omega), if_pos (by omega), w64 (by omega) (by omega)]
    by_cases h1 : bt s i < 97
    · rw [if_pos h1]
      refine ⟨false, rfl, ?_⟩
      simp only [Bool.false_eq_true, false_iff]
      intro h; have := h.1 i (by omega) (by omega); omega
    · rw [if_neg h1]
      by_cases h2 : bt s i > 122
      · rw [if_pos h2]
        refine ⟨false, rfl, ?_⟩
        simp only [Bool.false_eq_true, false_iff]
        intro h; have := h.1 i (by omega) (by omega); omega
      · rw [if_neg h2, letters_step s i (by omega)]
        exact ih (i + 1) k (by omega) (by omega)
theorem lab_spec (s : ByteArray) (hs : s.size ≤ 140737488351232) : ∀ d i k : Nat, i + d = s.size → i ≤ 13 → 2 * d + 1 < k → ∃ r, spec_LabelOk.l0 k s i = some r ∧ (r = true ↔ Letters s i ∧ Right s) := by
  intro d
  induction d with
  | zero =>
    intro i k hi hi2 hk
    obtain ⟨k, rfl⟩ : ∃ m, k = m + 2 := ⟨k - 2, by omega⟩
    have hL := letters_end s i (by omega)
    refine ⟨decide ((1 : Int) ≤ s.size ∧ (s.size : Int) ≤ 12), ?_, ?_⟩
    · simp only [spec_LabelOk.l0]
      rw [if_neg (by omega)]
      simp only [spec_LabelOk.j1]
      rw [if_neg (by simp), num_in]; rfl
    · simp [hL, Right]; omega
  | succ d ih =>
    intro i k hi hi2 hk
    obtain ⟨k, rfl⟩ : ∃ m, k = m + 2 := ⟨k - 2, by omega⟩
    simp only [spec_LabelOk.l0]
    rw [if_pos (by omega)]
    simp only [spec_LabelOk.j1]
    by_cases h13 : (i : Int) < 13
    · rw [if_pos (by simpa using h13), if_pos (by omega), if_pos (by omega), w64 (n := (i : Int) + 1) (by omega) (by omega)]
      have hbt := bt_range s i
      rw [w64 (n := bt s i) (by omega) (by omega), num_in]
      simp only [Option.bind_some]
      by_cases h : 97 ≤ bt s i ∧ bt s i ≤ 122
      · rw [if_pos (by simpa using h), letters_step s i h]
        exact ih (i + 1) k (by omega) (by omega) (by omega)
      · rw [if_neg (by simpa using h)]
        refine ⟨false, rfl, ?_⟩
        simp only [Bool.false_eq_true, false_iff]
        intro h3; exact h (h3.1 i (by omega) (by omega))
    · rw [if_neg (by simpa using h13), num_in]
      refine ⟨_, rfl, ?_⟩
      have : ¬ Right s := by unfold Right; omega
      simp [this]; omega
theorem lab_both (s : ByteArray) (hs : s.size ≤ 80) (K : Nat) (hK : 100 ≤ K) : ∃ r, Evt (fun k => spec_LabelOk.f k s) r ∧ impl_isLabel.f K s = some r ∧ (r = true → Right s) := by
  obtain ⟨r1, e1, h1⟩ := lab_impl s (by omega) s.size 0 K (by omega) (by omega)
  obtain ⟨r2, _, h2⟩ := lab_spec s (by omega) s.size 0 (2 * s.size + 2) (by omega) (by omega) (by omega)
  refine ⟨r1, ⟨2 * s.size + 2, fun k hk => ?_⟩, e1, fun h => (h1.1 h).2⟩
  obtain ⟨r3, e3, h3⟩ := lab_spec s (by omega) s.size 0 k (by omega) (by omega) (by omega)
  have : r3 = r1 := by
    cases r3 <;> cases r1 <;> simp_all
  rw [← this]; exact e3
/- A form. -/
theorem form_all : ∀ n : Fin 33, spec_FormOf.f (n.val : Int) = impl_formOf.f 200 (n.val : Int) ∧ ∃ F : Fin 12, spec_FormOf.f (n.val : Int) = some ((F.val : Nat) : Int) := by decide +kernel
theorem form_both (op : Int) (h : 0 ≤ op ∧ op ≤ 32) : ∃ F : Int, 0 ≤ F ∧ F ≤ 11 ∧ spec_FormOf.f op = some F ∧ impl_formOf.f 200 op = some F := by
  obtain ⟨n, rfl⟩ := Int.eq_ofNat_of_zero_le h.1
  obtain ⟨h1, F, h2⟩ := form_all ⟨n, by omega⟩
  exact ⟨((F.val : Nat) : Int), by omega, by omega, h2, by rw [← h1]; exact h2⟩
theorem form_none : impl_formOf.f 200 (-1) = some (-1) := by decide +kernel

end Go.Proofs.YtaophlekfepkgaaGreatDoor.PFnExactLabelsOf

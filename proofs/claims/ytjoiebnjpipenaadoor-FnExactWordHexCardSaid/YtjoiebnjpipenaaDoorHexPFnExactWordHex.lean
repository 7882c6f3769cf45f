/- Hexadecimal texts, in the reference and in the program, over the print of the law FnExactWordHex. -/
import Derived.Test.YtjoiebnjpipenaaDoorPFnExactWordHexx
import Derived.Test.YtjoiebnjpipenaaDoorLem
import Derived.Test.YtjoiebnjpipenaaDoorHex
namespace Go.Proofs.YtjoiebnjpipenaaDoor.PFnExactWordHex
open Go.RowKit Go.Proofs.YtjoiebnjpipenaaDoorW.PrintWords Go.Proofs.YtjoiebnjpipenaaDoorW.PrintLast Go.Proofs.YtjoiebnjpipenaaDoor.Lem

/-- The sixteen digits. -/
def digs : ByteArray := ⟨#[48, 49, 50, 51, 52, 53, 54, 55, 56, 57, 97, 98, 99, 100, 101, 102]⟩
/-- The lowest m digits of y, the highest first. -/
def hexn : Nat → Int → List Int
  | 0, _ => []
  | m + 1, y => hexn m (y / 16) ++ [bt digs (y % 16)]
theorem one_digit (d : Int) (h0 : 0 ≤ d) (h1 : d < 16) : digs.extract d.toNat (d + 1).toNat = ⟨#[UInt8.ofNat (bt digs d).toNat]⟩ := by
  have : d = 0 ∨ d = 1 ∨ d = 2 ∨ d = 3 ∨ d = 4 ∨ d = 5 ∨ d = 6 ∨ d = 7 ∨ d = 8 ∨ d = 9 ∨ d = 10 ∨ d = 11 ∨ d = 12 ∨ d = 13 ∨ d = 14 ∨ d = 15 := by omega
  rcases this with h | h | h | h | h | h | h | h | h | h | h | h | h | h | h | h <;> subst h <;> decide
theorem strOfNums_cons (v : Int) (l : List Int) : strOfNums (v :: l) = (⟨#[UInt8.ofNat v.toNat]⟩ : ByteArray) ++ strOfNums l := by
  apply ByteArray.ext
  rw [ByteArray.data_append]
  simp [strOfNums]
theorem size_strOfNums (l : List Int) : (strOfNums l).size = l.length := by simp [strOfNums, ByteArray.size]

theorem impl_side : ∀ (m k : Nat) (y : Int) (t : List Int), m ≤ 8 → t.length = 8 - m → 0 ≤ y → y < 4294967296 → m < k →
    impl_hexWord.l0 k y (List.replicate m 0 ++ t) ((m : Int) - 1) = some (strOfNums (hexn m y ++ t)) := by
  intro m
  induction m with
  | zero =>
    intro k y t _ ht _ _ hk
    obtain ⟨k, rfl⟩ : ∃ m, k = m + 1 := ⟨k - 1, by omega⟩
    simp only [impl_hexWord.l0]
    rw [if_neg (by omega)]
    simp [hexn]
  | succ m ih =>
    intro k y t hm ht y0 y1 hk
    obtain ⟨k, rfl⟩ : ∃ m, k = m + 1 := ⟨k - 1, by omega⟩
    simp only [impl_hexWord.l0]
    have ha : Go.bits .and .u32 y 15 = y % 16 := by
      have := and_mask .u32 4 (by decide) (fun n a b => wraps_u32 n a (by omega)) y
      rw [show (2 : Int) ^ 4 - 1 = 15 from rfl, show (2 : Int) ^ 4 = 16 from rfl] at this
      exact this
    have e : ((m + 1 : Nat) : Int) - 1 = (m : Int) := by omega
    rw [ha, e]
    rw [if_pos (by omega), if_pos (by omega), if_pos (by omega), if_pos (by omega), if_pos (by simp; omega), w64 (by omega) (by omega)]
    have hset : (List.replicate (m + 1) (0 : Int) ++ t).set (m : Int).toNat (bt digs (y % 16)) = List.replicate m 0 ++ (bt digs (y % 16) :: t) := by
      rw [Int.toNat_natCast, List.replicate_succ', List.append_assoc, List.set_append_right _ _ (by simp)]
      simp
    have := ih k (y / 16) (bt digs (y % 16) :: t) (by omega) (by simp; omega) (by omega) (by omega) (by omega)
    rw [← hset] at this
    simp only [hexn, List.append_assoc, List.singleton_append]
    exact this


theorem hexWord_is (n : Int) (h0 : 0 ≤ n) (h1 : n < 4294967296) : impl_hexWord.f 9 n = some (strOfNums (hexn 8 n)) := by
  unfold impl_hexWord.f
  have h2 := impl_side 8 9 n [] (by omega) (by simp) h0 h1 (by omega)
  rw [List.append_nil, List.append_nil, show ((8 : Nat) : Int) - 1 = 7 from rfl] at h2
  rw [if_pos (by omega)]
  exact h2
/-- A digit's number, of the lower case alone. -/
def ldig (c : Int) : Option Int := if 48 ≤ c ∧ c ≤ 57 then some (c - 48) else if 97 ≤ c ∧ c ≤ 102 then some (c - 87) else none
def lrun (acc : Int) : List UInt8 → Option Int
  | [] => some acc
  | c :: r => (ldig (c.toNat : Int)).bind fun d => lrun (acc * 16 + d) r
theorem ldig_dig : ∀ c : Fin 256, (ldig (c.val : Int)).isSome = true → Hex.dig (c.val : Int) = ldig (c.val : Int) := by decide +kernel
theorem ldig_bt : ∀ c : Fin 256, ∀ d : Fin 16, ldig (c.val : Int) = some (d.val : Int) → bt digs (d.val : Int) = (c.val : Int) := by decide +kernel
theorem bt_ldig : ∀ d : Fin 16, ldig (bt digs (d.val : Int)) = some (d.val : Int) ∧ 0 ≤ bt digs (d.val : Int) ∧ bt digs (d.val : Int) ≤ 255 := by decide +kernel
theorem ldig_range {c d : Int} (h : ldig c = some d) : 0 ≤ d ∧ d < 16 := by
  unfold ldig at h
  split at h
  · obtain rfl := Option.some.inj h; omega
  · split at h
    · obtain rfl := Option.some.inj h; omega
    · cases h
theorem lrun_run : ∀ (l : List UInt8) (acc n : Int), lrun acc l = some n → Hex.run acc l = some n := by
  intro l
  induction l with
  | nil => intro acc n h; exact h
  | cons c l ih =>
    intro acc n h
    obtain ⟨d, hd, h⟩ := Option.bind_eq_some_iff.mp h
    have := ldig_dig ⟨c.toNat, c.toNat_lt⟩ (by simp only; rw [hd]; rfl)
    simp only at this
    unfold Hex.run
    rw [this, hd]
    exact ih _ _ h
theorem lrun_snoc (c : UInt8) : ∀ (l : List UInt8) (acc : Int), lrun acc (l ++ [c]) = (lrun acc l).bind fun x => (ldig (c.toNat : Int)).bind fun d => some (x * 16 + d) := by
  intro l
  induction l with
  | nil => intro acc; simp [lrun]
  | cons d l ih =>
    intro acc
    simp only [List.cons_append, lrun]
    cases ldig (d.toNat : Int) with
    | none => rfl
    | some x => simp only [Option.bind_some, ih]
theorem hexn_len : ∀ (m : Nat) (y : Int), (hexn m y).length = m := by
  intro m
  induction m with
  | zero => intro y; rfl
  | succ m ih => intro y; simp [hexn, ih]
/-- What the digits spell is shown as these digits. -/
theorem hexn_of_lrun : ∀ (m : Nat) (l : List UInt8) (n : Int), l.length = m → lrun 0 l = some n → 0 ≤ n ∧ hexn m n = l.map fun c => (c.toNat : Int) := by
  intro m
  induction m with
  | zero =>
    intro l n hl h
    obtain rfl : l = [] := List.eq_nil_of_length_eq_zero hl
    obtain rfl := Option.some.inj h
    exact ⟨by omega, rfl⟩
  | succ m ih =>
    intro l n hl h
    have hne : l ≠ [] := by intro e; rw [e] at hl; simp at hl
    have hs := List.dropLast_concat_getLast hne
    rw [← hs, lrun_snoc] at h
    obtain ⟨x, hx, h⟩ := Option.bind_eq_some_iff.mp h
    obtain ⟨d, hd, h⟩ := Option.bind_eq_some_iff.mp h
    obtain rfl := Option.some.inj h
    obtain ⟨x0, hx2⟩ := ih l.dropLast x (by simp; omega) hx
    obtain ⟨d0, d1⟩ := ldig_range hd
    refine ⟨by omega, ?_⟩
    have e1 : (x * 16 + d) / 16 = x := by omega
    have e2 : (x * 16 + d) % 16 = d := by omega
    obtain ⟨k, hk⟩ := Int.eq_ofNat_of_zero_le d0
    have hb := ldig_bt ⟨(l.getLast hne).toNat, (l.getLast hne).toNat_lt⟩ ⟨k, by omega⟩ (by simp only; rw [hd, hk])
    simp only at hb
    rw [← hk] at hb
    unfold hexn
    rw [e1, e2, hx2, hb]
    conv => rhs; rw [← hs]
    simp
theorem lrun_hexn : ∀ (m : Nat) (y : Int), 0 ≤ y → y < 16 ^ m → lrun 0 ((hexn m y).map fun v => UInt8.ofNat v.toNat) = some y := by
  intro m
  induction m with
  | zero => intro y h0 h1; have : y = 0 := by simp at h1; omega
            subst this; rfl
  | succ m ih =>
    intro y h0 h1
    have hp : (16 : Int) ^ (m + 1) = 16 ^ m * 16 := Int.pow_succ _ _
    rw [hp] at h1
    have h2 := ih (y / 16) (by omega) (by omega)
    obtain ⟨k, hk⟩ := Int.eq_ofNat_of_zero_le (show 0 ≤ y % 16 by omega)
    obtain ⟨b1, b2, b3⟩ := bt_ldig ⟨k, by omega⟩
    simp only at b1 b2 b3
    rw [← hk] at b1 b2 b3
    unfold hexn
    rw [List.map_append, List.map_cons, List.map_nil, lrun_snoc, h2]
    simp only [Option.bind_some]
    have e : ((UInt8.ofNat (bt digs (y % 16)).toNat).toNat : Int) = bt digs (y % 16) := by
      simp [UInt8.toNat_ofNat']; omega
    rw [e, b1]
    simp only [Option.bind_some]
    congr 1; omega
theorem strOfNums_list (l : List Int) : (strOfNums l).toList = l.map fun v => UInt8.ofNat v.toNat := by
  rw [ByteArray.toList_eq]; simp [strOfNums]
theorem hex_in (n a b : Int) : spec_l01In.f n a b = some (decide (a ≤ n ∧ n ≤ b)) := by
  unfold spec_l01In.f
  by_cases h : n ≥ a
  · rw [if_pos h]; congr 1; simp; omega
  · rw [if_neg h]; congr 1; simp; omega
theorem hex_bt (s : ByteArray) (i : Nat) (h : i < s.data.toList.length) : bt s (i : Int) = ((s.data.toList[i]).toNat : Int) := by
  have h2 : i < s.size := by rw [Array.length_toList] at h; exact h
  unfold bt
  simp only [Int.toNat_natCast]
  rw [dif_pos h2, Array.getElem_toList]
  rfl
def hexBack : Option Int → Int × Bool
  | some n => (n, true)
  | none => (0, false)
theorem hex_pow : ∀ i : Fin 9, (16 : Int) ^ i.val ≤ 4294967296 := by decide +kernel
/-- From some number of rounds on, f gives r. -/
def Evt {α : Type} (f : Nat → Option α) (r : α) : Prop := ∃ K, ∀ k, K ≤ k → f k = some r
theorem ev_of {α : Type} {f : Nat → Option α} {r : α} (h : ∀ k, f k = some r) : Evt f r := ⟨0, fun k _ => h k⟩
theorem ev_step {α : Type} {f g : Nat → Option α} {r : α} (h : ∀ k, f (k + 1) = g k) (hg : Evt g r) : Evt f r := by
  obtain ⟨K, hK⟩ := hg
  refine ⟨K + 1, fun k hk => ?_⟩
  obtain ⟨k, rfl⟩ : ∃ m, k = m + 1 := ⟨k - 1, by omega⟩
  rw [h, hK k (by omega)]
theorem ev_end {α : Type} {f : Nat → Option α} {r : α} (h : ∀ k, f (k + 1) = some r) : Evt f r := ev_step (g := fun _ => some r) h (ev_of fun _ => rfl)
theorem ev_bind {α β : Type} {g : Nat → Option α} {h : Nat → α → Option β} {t : α} {r : β} (hg : Evt g t) (hh : Evt (fun k => h k t) r) : Evt (fun k => (g k).bind (h k)) r := by
  obtain ⟨K, hK⟩ := hg
  obtain ⟨M, hM⟩ := hh
  refine ⟨K + M, fun k hk => ?_⟩
  simp only [hK k (by omega), Option.bind_some]
  exact hM k (by omega)
theorem ev_both {α β : Type} {f : Nat → Option α} {g : Nat → Option β} {r : α} {s : β} (hf : Evt f r) (hg : Evt g s) : Evt (fun k => (f k).bind fun a => (g k).bind fun b => some (a, b)) (r, s) :=
  ev_bind hf (ev_bind hg (ev_of fun _ => rfl))
/-- A scan that ends at n. -/
theorem ev_scan {α : Type} (g : Nat → Int → Option α) (r : α) (n : Nat) (hs : ∀ i : Nat, i < n → Evt (fun k => g k ((i + 1 : Nat) : Int)) r → Evt (fun k => g k i) r) (he : Evt (fun k => g k n) r) :
    Evt (fun k => g k 0) r := by
  have key : ∀ d i : Nat, i + d = n → Evt (fun k => g k i) r := by
    intro d
    induction d with
    | zero => intro i hi; obtain rfl : i = n := by omega
              exact he
    | succ d ih => intro i hi; exact hs i (by omega) (ih (i + 1) (by omega))
  simpa using key n 0 (by omega)
/-- A list that is turned, one by one, into a new one. -/
theorem ev_copy {α β : Type} (z : β) (cv : α → β) (l : List α) (g : Nat → List β → Int → Option (List β))
    (hs : ∀ (x : List β) (i : Nat) (h : i < l.length) (r : List β), x.length = l.length → Evt (fun k => g k (x.set i (cv l[i])) ((i + 1 : Nat) : Int)) r → Evt (fun k => g k x i) r)
    (he : ∀ x : List β, x.length = l.length → Evt (fun k => g k x l.length) x) : Evt (fun k => g k (List.replicate l.length z) 0) (l.map cv) := by
  have key : ∀ d i : Nat, i + d = l.length → Evt (fun k => g k ((l.map cv).take i ++ List.replicate d z) i) (l.map cv) := by
    intro d
    induction d with
    | zero =>
      intro i hi
      obtain rfl : i = l.length := by omega
      have := he ((l.map cv).take l.length ++ List.replicate 0 z) (by simp)
      have e : (l.map cv).take l.length ++ List.replicate 0 z = l.map cv := by
        rw [List.take_of_length_le (by simp)]; simp
      rw [e] at this ⊢; exact this
    | succ d ih =>
      intro i hi
      have hlt : i < l.length := by omega
      refine hs _ i hlt _ (by simp; omega) ?_
      have e : ((l.map cv).take i ++ List.replicate (d + 1) z).set i (cv l[i]) = (l.map cv).take (i + 1) ++ List.replicate d z := by
        rw [List.set_append_right _ _ (by simp; omega)]
        have : i - ((l.map cv).take i).length = 0 := by simp; omega
        rw [this, List.replicate_succ, List.set_cons_zero, List.take_succ_eq_append_getElem (by simpa using hlt), List.append_assoc]
        simp
      rw [e]
      exact ih (i + 1) (by omega)
  have := key l.length 0 (by omega)
  simpa using this
theorem spec_hex (s : ByteArray) (hs : s.data.toList.length = 8) : ∀ d i : Nat, i + d = 8 → ∀ acc : Int, 0 ≤ acc → acc < 16 ^ i → Evt (fun k => spec_WordHex.l0 k s acc i) (hexBack (lrun acc (s.data.toList.drop i))) := by
  have hsz : (s.size : Int) = 8 := by
    have : s.data.toList.length = s.size := Array.length_toList
    omega
  intro d
  induction d with
  | zero =>
    intro i hi acc h0 h1
    obtain rfl : i = 8 := by omega
    have hp : (16 : Int) ^ 8 ≤ 4294967296 := hex_pow ⟨8, by omega⟩
    rw [List.drop_eq_nil_of_le (by omega)]
    refine ev_end fun k => ?_
    simp only [spec_WordHex.l0, lrun, hexBack]
    rw [if_neg (by omega), Int.emod_eq_of_lt h0 (by omega)]
  | succ d ih =>
    intro i hi acc h0 h1
    have hlt : i < s.data.toList.length := by omega
    have hp : (16 : Int) ^ i ≤ 4294967296 := hex_pow ⟨i, by omega⟩
    have hp2 : (16 : Int) ^ (i + 1) = 16 ^ i * 16 := Int.pow_succ _ _
    have hb := hex_bt s i hlt
    have hbl : ((s.data.toList[i]).toNat : Int) < 256 := by have := (s.data.toList[i]).toNat_lt; omega
    rw [List.drop_eq_getElem_cons hlt]
    simp only [lrun]
    generalize hc : ((s.data.toList[i]).toNat : Int) = c at *
    have hc0 : 0 ≤ c := by omega
    unfold ldig
    by_cases e1 : 48 ≤ c ∧ c ≤ 57
    · rw [if_pos e1]
      simp only [Option.bind_some]
      refine ev_step (fun k => ?_) (ih (i + 1) (by omega) (acc * 16 + (c - 48)) (by omega) (by rw [hp2]; omega))
      simp only [spec_WordHex.l0, hb, hex_in]
      rw [if_pos (by omega), if_pos (by omega), if_pos (by omega), w64 (n := c) (by omega) (by omega), decide_eq_true e1]
      simp only [Option.bind_some, if_true]
      rw [w64 (n := 16 * acc) (by omega) (by omega), w64 (n := 16 * acc + c) (by omega) (by omega), w64 (n := 16 * acc + c - 48) (by omega) (by omega), w64 (n := (i : Int) + 1) (by omega) (by omega), show 16 * acc + c - 48 = acc * 16 + (c - 48) by omega]
      rfl
    · rw [if_neg e1]
      by_cases e2 : 97 ≤ c ∧ c ≤ 102
      · rw [if_pos e2]
        simp only [Option.bind_some]
        refine ev_step (fun k => ?_) (ih (i + 1) (by omega) (acc * 16 + (c - 87)) (by omega) (by rw [hp2]; omega))
        simp only [spec_WordHex.l0, hb, hex_in]
        rw [if_pos (by omega), if_pos (by omega), if_pos (by omega), w64 (n := c) (by omega) (by omega), decide_eq_false e1]
        simp only [Option.bind_some, Bool.false_eq_true, if_false, decide_eq_true e2, if_true]
        rw [w64 (n := 16 * acc) (by omega) (by omega), w64 (n := 16 * acc + c) (by omega) (by omega), w64 (n := 16 * acc + c - 87) (by omega) (by omega), w64 (n := (i : Int) + 1) (by omega) (by omega), show 16 * acc + c - 87 = acc * 16 + (c - 87) by omega]
        rfl
      · rw [if_neg e2]
        refine ev_end fun k => ?_
        simp only [spec_WordHex.l0, hb, hex_in]
        rw [if_pos (by omega), if_pos (by omega), if_pos (by omega), w64 (n := c) (by omega) (by omega), decide_eq_false e1]
        simp only [Option.bind_some, Bool.false_eq_true, if_false, decide_eq_false e2]
        rfl
theorem impl_hex (s : ByteArray) (hs : s.data.toList.length = 8) : impl_WordHex.f s = some (hexBack (lrun 0 s.data.toList)) := by
  have hsz : s.size = 8 := by
    have : s.data.toList.length = s.size := Array.length_toList
    omega
  unfold impl_WordHex.f
  rw [if_pos hsz]
  cases hr : Hex.run 0 s.data.toList with
  | none =>
    have hl : lrun 0 s.data.toList = none := by
      cases hl : lrun 0 s.data.toList with
      | none => rfl
      | some n => rw [lrun_run _ _ _ hl] at hr; cases hr
    rw [hl]; rfl
  | some n =>
    obtain ⟨n0, n1⟩ := Hex.run_word s hsz n hr
    simp only [hexWord_is n n0 n1, Option.bind_some, strOfNums_list]
    rw [ByteArray.toList_eq]
    by_cases e : ((hexn 8 n).map fun v => UInt8.ofNat v.toNat) = s.data.toList
    · rw [if_pos e, ← e, lrun_hexn 8 n n0 (by exact n1)]; rfl
    · rw [if_neg e]
      have hl : lrun 0 s.data.toList = none := by
        cases hl : lrun 0 s.data.toList with
        | none => rfl
        | some m =>
          have h1 := lrun_run _ _ _ hl
          rw [hr] at h1
          obtain rfl := Option.some.inj h1
          obtain ⟨_, h2⟩ := hexn_of_lrun 8 s.data.toList n hs hl
          refine absurd ?_ e
          rw [h2, List.map_map]
          conv => rhs; rw [← List.map_id s.data.toList]
          apply List.map_congr_left
          intro c _
          simp
      rw [hl]; rfl

end Go.Proofs.YtjoiebnjpipenaaDoor.PFnExactWordHex

/- The reference's DecText is the decimal numeral, for every int, over the print of the law FnExactLabelsOf. -/
import Derived.Test.YtaophlekfepkgaaGreatDoorPFnExactLabelsOfx
import Derived.Test.YtaophlekfepkgaaGreatDoorLemL
import Derived.Lib.ItoaNum
namespace Go.Proofs.YtaophlekfepkgaaGreatDoor.PFnExactLabelsOf
open Go.RowKit Go.Proofs.YtaophlekfepkgaaGreatDoorW.PrintWords Go.Proofs.YtaophlekfepkgaaGreatDoorW.PrintLast Go.Proofs.YtaophlekfepkgaaGreatDoor.Lem

/-- From some number of rounds on, f gives r. -/
def Evt {α : Type} (f : Nat → Option α) (r : α) : Prop := ∃ K, ∀ k, K ≤ k → f k = some r
theorem ev_of {α : Type} {f : Nat → Option α} {r : α} (h : ∀ k, f k = some r) : Evt f r := ⟨0, fun k _ => h k⟩
theorem ev_step {α : Type} {f g : Nat → Option α} {r : α} (h : ∀ k, f (k + 1) = g k) (hg : Evt g r) : Evt f r := by
  obtain ⟨K, hK⟩ := hg
  refine ⟨K + 1, fun k hk => ?_⟩
  obtain ⟨k, rfl⟩ : ∃ m, k = m + 1 := ⟨k - 1, by omega⟩
  rw [h, hK k (by omega)]
theorem ev_end {α : Type} {f : Nat → Option α} {r : α} (h : ∀ k, f (k + 1) = some r) : Evt f r := ev_step (g := fun _ => some r) h (ev_of fun _ => rfl)
theorem ev_bind {α β : Type} {g : Nat → Option α} {h : Nat → α → Option β} {t : α} {r : β} (hg : Evt g t) (hh : Evt (fun k => h k t) r) : Evt (fun k => (g k).bind (h k)) r := by
  obtain ⟨K, hK⟩ := hg
  obtain ⟨M, hM⟩ := hh
  refine ⟨K + M, fun k hk => ?_⟩
  simp only [hK k (by omega), Option.bind_some]
  exact hM k (by omega)
theorem ev_both {α β : Type} {f : Nat → Option α} {g : Nat → Option β} {r : α} {s : β} (hf : Evt f r) (hg : Evt g s) : Evt (fun k => (f k).bind fun a => (g k).bind fun b => some (a, b)) (r, s) :=
  ev_bind hf (ev_bind hg (ev_of fun _ => rfl))
/-- A scan that ends at n. -/
theorem ev_scan {α : Type} (g : Nat → Int → Option α) (r : α) (n : Nat) (hs : ∀ i : Nat, i < n → Evt (fun k => g k ((i + 1 : Nat) : Int)) r → Evt (fun k => g k i) r) (he : Evt (fun k => g k n) r) :
    Evt (fun k => g k 0) r := by
  have key : ∀ d i : Nat, i + d = n → Evt (fun k => g k i) r := by
    intro d
    induction d with
    | zero => intro i hi; obtain rfl : i = n := by omega
              exact he
    | succ d ih => intro i hi; exact hs i (by omega) (ih (i + 1) (by omega))
  simpa using key n 0 (by omega)
/-- A list that is turned, one by one, into a new one. -/
theorem ev_copy {α β : Type} (z : β) (cv : α → β) (l : List α) (g : Nat → List β → Int → Option (List β))
    (hs : ∀ (x : List β) (i : Nat) (h : i < l.length) (r : List β), x.length = l.length → Evt (fun k => g k (x.set i (cv l[i])) ((i + 1 : Nat) : Int)) r → Evt (fun k => g k x i) r)
    (he : ∀ x : List β, x.length = l.length → Evt (fun k => g k x l.length) x) : Evt (fun k => g k (List.replicate l.length z) 0) (l.map cv) := by
  have key : ∀ d i : Nat, i + d = l.length → Evt (fun k => g k ((l.map cv).take i ++ List.replicate d z) i) (l.map cv) := by
    intro d
    induction d with
    | zero =>
      intro i hi
      obtain rfl : i = l.length := by omega
      have := he ((l.map cv).take l.length ++ List.replicate 0 z) (by simp)
      have e : (l.map cv).take l.length ++ List.replicate 0 z = l.map cv := by
        rw [List.take_of_length_le (by simp)]; simp
      rw [e] at this ⊢; exact this
    | succ d ih =>
      intro i hi
      have hlt : i < l.length := by omega
      refine hs _ i hlt _ (by simp; omega) ?_
      have e : ((l.map cv).take i ++ List.replicate (d + 1) z).set i (cv l[i]) = (l.map cv).take (i + 1) ++ List.replicate d z := by
        rw [List.set_append_right _ _ (by simp; omega)]
        have : i - ((l.map cv).take i).length = 0 := by simp; omega
        rw [this, List.replicate_succ, List.set_cons_zero, List.take_succ_eq_append_getElem (by simpa using hlt), List.append_assoc]
        simp
      rw [e]
      exact ih (i + 1) (by omega)
  have := key l.length 0 (by omega)
  simpa using this
/-- A text out of its bytes. -/
def bs (l : List UInt8) : ByteArray := ⟨l.toArray⟩
theorem bs_append (a b : List UInt8) : bs a ++ bs b = bs (a ++ b) := by
  apply ByteArray.ext
  simp [bs, ByteArray.data_append]
theorem bs_size (l : List UInt8) : (bs l).size = l.length := by simp [bs, ByteArray.size]
theorem dig_at : ∀ d : Fin 10, (⟨#[48, 49, 50, 51, 52, 53, 54, 55, 56, 57]⟩ : ByteArray).extract d.val (d.val + 1) = bs [UInt8.ofNat (48 + d.val)] := by
  intro d
  apply ByteArray.ext
  revert d
  decide +kernel
theorem dec_step (k : Nat) (x0 x4 : Int) (l : List UInt8) (u : Nat) (hu : x4 = u ∨ x4 = -(u : Int)) (h0 : u ≠ 0) (h1 : u ≤ 9223372036854775808) (hl : l.length ≤ 1000) :
    ∃ y : Int, (y = ((u / 10 : Nat) : Int) ∨ y = -((u / 10 : Nat) : Int)) ∧ spec_DecText.l0 (k + 1) x0 (bs l) x4 = spec_DecText.l0 k x0 (bs (UInt8.ofNat (48 + u % 10) :: l)) y := by
  have hd : u % 10 < 10 := Nat.mod_lt _ (by decide)
  have he : (⟨#[48, 49, 50, 51, 52, 53, 54, 55, 56, 57]⟩ : ByteArray).extract (u % 10) (u % 10 + 1) = bs [UInt8.ofNat (48 + u % 10)] := dig_at ⟨u % 10, hd⟩
  have hs : (bs [UInt8.ofNat (48 + u % 10)]).size = 1 := by rw [bs_size]; rfl
  have hx : x4 ≠ 0 := by omega
  have hap : bs [UInt8.ofNat (48 + u % 10)] ++ bs l = bs (UInt8.ofNat (48 + u % 10) :: l) := by rw [bs_append]; rfl
  have hls : (bs l).size = l.length := bs_size l
  have go : ∀ d : Int, d = ((u % 10 : Nat) : Int) → (d.toNat = u % 10 ∧ (wrap64 (d + 1)).toNat = u % 10 + 1 ∧ 0 ≤ d ∧ d ≤ wrap64 (d + 1) ∧ wrap64 (d + 1) ≤ 10) := by
    rintro d rfl
    rw [w64 (by omega) (by omega)]
    omega
  rcases hu with rfl | rfl
  · have ht : Int.tmod (u : Int) 10 = ((u % 10 : Nat) : Int) := by rw [tmod_pos (by omega)]; omega
    have hq : wrap64 (Int.tdiv (u : Int) 10) = ((u / 10 : Nat) : Int) := by rw [tdiv_pos (by omega), w64 (by omega) (by omega)]; omega
    obtain ⟨g1, g2, g3, g4, g5⟩ := go _ rfl
    refine ⟨_, .inl rfl, ?_⟩
    simp only [spec_DecText.l0]
    rw [if_neg hx, ht, if_neg (by omega), if_pos g3, if_pos g4, if_pos g5, g1, g2, he, hs, hls, if_pos (by omega), hap, hq]
  · have ht : Int.tmod (-(u : Int)) 10 = -((u % 10 : Nat) : Int) := by rw [Int.neg_tmod, tmod_pos (by omega)]; omega
    have hq : wrap64 (Int.tdiv (-(u : Int)) 10) = -((u / 10 : Nat) : Int) := by rw [Int.neg_tdiv, tdiv_pos (by omega), w64 (by omega) (by omega)]; omega
    refine ⟨_, .inr rfl, ?_⟩
    simp only [spec_DecText.l0]
    rw [if_neg hx, ht]
    by_cases hz : u % 10 = 0
    · obtain ⟨g1, g2, g3, g4, g5⟩ := go (-((u % 10 : Nat) : Int)) (by omega)
      rw [if_neg (by omega), if_pos g3, if_pos g4, if_pos g5, g1, g2, he, hs, hls, if_pos (by omega), hap, hq]
    · have hn : wrap64 (-(-((u % 10 : Nat) : Int))) = ((u % 10 : Nat) : Int) := by rw [w64 (by omega) (by omega)]; omega
      obtain ⟨g1, g2, g3, g4, g5⟩ := go _ rfl
      rw [if_pos (by omega), hn, if_pos g3, if_pos g4, if_pos g5, g1, g2, he, hs, hls, if_pos (by omega), hap, hq]
theorem dec_loop (x0 : Int) : ∀ (j u : Nat) (x4 : Int) (l : List UInt8), u < 10 ^ j → (x4 = u ∨ x4 = -(u : Int)) → u ≤ 9223372036854775808 → l.length + j ≤ 1000 →
    Evt (fun k => spec_DecText.l0 k x0 (bs l) x4) (bs ((if x0 < 0 then [45] else []) ++ ((if u = 0 then [] else Lib.decDigits u) ++ l))) := by
  intro j
  induction j with
  | zero =>
    intro u x4 l hj hu h1 hl
    obtain rfl : u = 0 := by simpa using hj
    obtain rfl : x4 = 0 := by omega
    refine ev_end fun k => ?_
    have hls := bs_size l
    simp only [spec_DecText.l0, if_true]
    by_cases hx : x0 < 0
    · rw [if_pos hx, if_pos hx, if_pos (by omega)]
      have : (⟨#[45]⟩ : ByteArray) = bs [45] := rfl
      rw [this, bs_append]; rfl
    · rw [if_neg hx, if_neg hx]; rfl
  | succ j ih =>
    intro u x4 l hj hu h1 hl
    by_cases h0 : u = 0
    · subst h0
      exact ih 0 x4 l (Nat.pow_pos (by decide)) hu h1 (by omega)
    · have hs := fun k => dec_step k x0 x4 l u hu h0 h1 (by omega)
      obtain ⟨y, hy, _⟩ := hs 0
      have hlt : u / 10 < 10 ^ j := by
        rw [Nat.pow_succ] at hj
        exact Nat.div_lt_of_lt_mul (by rw [Nat.mul_comm]; exact hj)
      have main : ∀ y, (y = ((u / 10 : Nat) : Int) ∨ y = -((u / 10 : Nat) : Int)) → Evt (fun k => spec_DecText.l0 k x0 (bs (UInt8.ofNat (48 + u % 10) :: l)) y) (bs ((if x0 < 0 then [45] else []) ++ ((if u = 0 then [] else Lib.decDigits u) ++ l))) := by
        intro y hy
        have := ih (u / 10) y (UInt8.ofNat (48 + u % 10) :: l) hlt hy (by omega) (by simp; omega)
        rw [if_neg h0]
        rw [show Lib.decDigits u ++ l = (if u / 10 = 0 then [] else Lib.decDigits (u / 10)) ++ (UInt8.ofNat (48 + u % 10) :: l) from ?_]
        · exact this
        · by_cases hu10 : u < 10
          · rw [Lib.decDigits, dif_pos hu10, if_pos (by omega), Nat.mod_eq_of_lt hu10]; rfl
          · rw [Lib.decDigits, dif_neg hu10, if_neg (by omega)]; simp
      rcases hu with rfl | rfl
      · obtain ⟨K, hK⟩ := main ((u / 10 : Nat) : Int) (.inl rfl)
        obtain ⟨K2, hK2⟩ := main (-((u / 10 : Nat) : Int)) (.inr rfl)
        refine ⟨K + K2 + 1, fun k hk => ?_⟩
        obtain ⟨k, rfl⟩ : ∃ m, k = m + 1 := ⟨k - 1, by omega⟩
        obtain ⟨y, hy, e⟩ := hs k
        refine Eq.trans e ?_
        rcases hy with rfl | rfl
        · exact hK k (by omega)
        · exact hK2 k (by omega)
      · obtain ⟨K, hK⟩ := main ((u / 10 : Nat) : Int) (.inl rfl)
        obtain ⟨K2, hK2⟩ := main (-((u / 10 : Nat) : Int)) (.inr rfl)
        refine ⟨K + K2 + 1, fun k hk => ?_⟩
        obtain ⟨k, rfl⟩ : ∃ m, k = m + 1 := ⟨k - 1, by omega⟩
        obtain ⟨y, hy, e⟩ := hs k
        refine Eq.trans e ?_
        rcases hy with rfl | rfl
        · exact hK k (by omega)
        · exact hK2 k (by omega)
/-- The reference's DecText. -/
theorem dec_is (a : Int) (h0 : -9223372036854775808 ≤ a) (h1 : a ≤ 9223372036854775807) : Evt (fun k => spec_DecText.f k a) (bs (Lib.itoa a)) := by
  unfold spec_DecText.f
  by_cases hz : a = 0
  · subst hz
    refine ev_of fun k => ?_
    rw [if_pos rfl]
    unfold Lib.itoa
    rw [if_neg (by decide)]
    have : Lib.decDigits (0 : Int).toNat = [48] := by
      rw [Lib.decDigits, dif_pos (by decide)]; rfl
    rw [this]; rfl
  · simp only [if_neg hz]
    have hb : a.natAbs < 10 ^ 20 := by omega
    have := dec_loop a 20 a.natAbs a [] hb (by omega) (by omega) (by simp)
    have e : (if a < 0 then [45] else []) ++ ((if a.natAbs = 0 then [] else Lib.decDigits a.natAbs) ++ []) = Lib.itoa a := by
      have hne : a.natAbs ≠ 0 := by omega
      unfold Lib.itoa
      by_cases hn : a < 0
      · simp only [hn, hne, if_true, if_false, List.append_nil]; rfl
      · rw [show a.natAbs = a.toNat by omega] at hne ⊢
        simp only [hn, hne, if_false, List.append_nil]; rfl
    rw [e] at this
    exact this
theorem itoa_is (a : Int) (h0 : -9223372036854775808 ≤ a) (h1 : a ≤ 9223372036854775807) : strconv_Itoa.f a = some (bs (Lib.itoa a)) := by
  unfold strconv_Itoa.f
  rw [if_pos ⟨h0, h1⟩]; rfl

end Go.Proofs.YtaophlekfepkgaaGreatDoor.PFnExactLabelsOf

/- impl.HexWord answers what the reference's HexWord answers, for every word x: its eight hexadecimal digits. No condition. -/
import Derived.Test.YtiibkaencpcngaaPFnExactHexWordx1
import Derived.Test.YtiibkaencpcngaaLem
namespace Go.Proofs.Ytiibkaencpcngaa.Pure
open Go.RowKit Go.Proofs.Ytiibkaencpcngaa.PFnExactHexWord Go.Proofs.YtiibkaencpcngaaW.PrintWords Go.Proofs.YtiibkaencpcngaaW.PrintLast Go.Proofs.Ytiibkaencpcngaa.Lem

/-- The sixteen digits. -/
def digs : ByteArray := ⟨#[48, 49, 50, 51, 52, 53, 54, 55, 56, 57, 97, 98, 99, 100, 101, 102]⟩
/-- The lowest m digits of y, the highest first. -/
def hexn : Nat → Int → List Int
  | 0, _ => []
  | m + 1, y => hexn m (y / 16) ++ [bt digs (y % 16)]
theorem one_digit (d : Int) (h0 : 0 ≤ d) (h1 : d < 16) : digs.extract d.toNat (d + 1).toNat = ⟨#[UInt8.ofNat (bt digs d).toNat]⟩ := by
  have : d = 0 ∨ d = 1 ∨ d = 2 ∨ d = 3 ∨ d = 4 ∨ d = 5 ∨ d = 6 ∨ d = 7 ∨ d = 8 ∨ d = 9 ∨ d = 10 ∨ d = 11 ∨ d = 12 ∨ d = 13 ∨ d = 14 ∨ d = 15 := by omega
  rcases this with h | h | h | h | h | h | h | h | h | h | h | h | h | h | h | h <;> subst h <;> decide
theorem strOfNums_cons (v : Int) (l : List Int) : strOfNums (v :: l) = (⟨#[UInt8.ofNat v.toNat]⟩ : ByteArray) ++ strOfNums l := by
  apply ByteArray.ext
  rw [ByteArray.data_append]
  simp [strOfNums]
theorem size_strOfNums (l : List Int) : (strOfNums l).size = l.length := by simp [strOfNums, ByteArray.size]

theorem spec_side : ∀ (m k : Nat) (y : Int) (t : List Int), m ≤ 8 → t.length = 8 - m → 0 ≤ y → y < 4294967296 → m < k →
    spec_HexWord.l0 k (strOfNums t) y ((8 - m : Nat) : Int) = some (strOfNums (hexn m y ++ t)) := by
  intro m
  induction m with
  | zero =>
    intro k y t _ ht _ _ hk
    obtain ⟨k, rfl⟩ : ∃ m, k = m + 1 := ⟨k - 1, by omega⟩
    simp only [spec_HexWord.l0]
    rw [if_neg (by omega)]
    simp [hexn]
  | succ m ih =>
    intro k y t hm ht y0 y1 hk
    obtain ⟨k, rfl⟩ : ∃ m, k = m + 1 := ⟨k - 1, by omega⟩
    simp only [spec_HexWord.l0]
    have hd := one_digit (y % 16) (by omega) (by omega)
    unfold digs at hd
    rw [tmod_pos y0, tdiv_pos y0, w64 (n := y % 16 + 1) (by omega) (by omega), hd]
    rw [if_pos (by omega), if_pos (by omega), if_pos (by omega), if_pos (by omega), if_pos (by rw [size_strOfNums]; simp [ByteArray.size]; omega)]
    rw [w64 (n := y / 16) (by omega) (by omega), w64 (by omega) (by omega)]
    have e : (((8 - (m + 1) : Nat) : Int) + 1) = ((8 - m : Nat) : Int) := by omega
    have := ih k (y / 16) (bt digs (y % 16) :: t) (by omega) (by simp; omega) (by omega) (by omega) (by omega)
    rw [strOfNums_cons] at this
    rw [e]
    simp only [hexn, List.append_assoc, List.singleton_append]
    exact this
theorem impl_side : ∀ (m k : Nat) (y : Int) (t : List Int), m ≤ 8 → t.length = 8 - m → 0 ≤ y → y < 4294967296 → m < k →
    impl_hexWord.l0 k y (List.replicate m 0 ++ t) ((m : Int) - 1) = some (strOfNums (hexn m y ++ t)) := by
  intro m
  induction m with
  | zero =>
    intro k y t _ ht _ _ hk
    obtain ⟨k, rfl⟩ : ∃ m, k = m + 1 := ⟨k - 1, by omega⟩
    simp only [impl_hexWord.l0]
    rw [if_neg (by omega)]
    simp [hexn]
  | succ m ih =>
    intro k y t hm ht y0 y1 hk
    obtain ⟨k, rfl⟩ : ∃ m, k = m + 1 := ⟨k - 1, by omega⟩
    simp only [impl_hexWord.l0]
    have ha : Go.bits .and .u32 y 15 = y % 16 := by
      have := and_mask .u32 4 (by decide) (fun n a b => wraps_u32 n a (by omega)) y
      rw [show (2 : Int) ^ 4 - 1 = 15 from rfl, show (2 : Int) ^ 4 = 16 from rfl] at this
      exact this
    have e : ((m + 1 : Nat) : Int) - 1 = (m : Int) := by omega
    rw [ha, e]
    rw [if_pos (by omega), if_pos (by omega), if_pos (by omega), if_pos (by omega), if_pos (by simp; omega), w64 (by omega) (by omega)]
    have hset : (List.replicate (m + 1) (0 : Int) ++ t).set (m : Int).toNat (bt digs (y % 16)) = List.replicate m 0 ++ (bt digs (y % 16) :: t) := by
      rw [Int.toNat_natCast, List.replicate_succ', List.append_assoc, List.set_append_right _ _ (by simp)]
      simp
    have := ih k (y / 16) (bt digs (y % 16) :: t) (by omega) (by simp; omega) (by omega) (by omega) (by omega)
    rw [← hset] at this
    simp only [hexn, List.append_assoc, List.singleton_append]
    exact this

theorem FnExactHexWord : laws_FnExactHexWord.Pure := by
  intro x hx
  obtain ⟨x0, x1⟩ := u32_of hx
  refine ⟨9, ?_⟩
  unfold laws_FnExactHexWord.f impl_HexWord.f impl_hexWord.f spec_HexWord.f
  have h1 := spec_side 8 9 x [] (by omega) (by simp) x0 x1 (by omega)
  have h2 := impl_side 8 9 x [] (by omega) (by simp) x0 x1 (by omega)
  rw [List.append_nil] at h1 h2
  have e0 : strOfNums [] = (⟨#[]⟩ : ByteArray) := rfl
  rw [e0] at h1
  rw [w64 (n := x) (by omega) (by omega), if_pos (by omega)]
  rw [show ((8 - 8 : Nat) : Int) = 0 from rfl] at h1
  rw [List.append_nil, show ((8 : Nat) : Int) - 1 = 7 from rfl] at h2
  rw [h1, h2]
  simp

end Go.Proofs.Ytiibkaencpcngaa.Pure

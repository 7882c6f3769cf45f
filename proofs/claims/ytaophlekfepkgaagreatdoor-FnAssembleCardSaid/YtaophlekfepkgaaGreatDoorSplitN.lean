/- A line cut at its newlines: the pieces as lists of bytes; what strings.Split gives. No program in this text. -/
import Derived.Lib.SplitLaws
namespace Go.Proofs.YtaophlekfepkgaaGreatDoor.SplitN
open Go.Lib

/-- A byte set ahead of the first piece. -/
def pre (c : UInt8) : List (List UInt8) → List (List UInt8)
  | [] => [[c]]
  | x :: t => (c :: x) :: t
/-- The pieces between newlines. -/
def sp : List UInt8 → List (List UInt8)
  | [] => [[]]
  | c :: r => if c = 10 then [] :: sp r else pre c (sp r)
theorem sp_cons (l : List UInt8) : ∃ x t, sp l = x :: t := by
  cases l with
  | nil => exact ⟨_, _, rfl⟩
  | cons c r =>
    unfold sp
    split
    · exact ⟨_, _, rfl⟩
    · cases sp r with
      | nil => exact ⟨_, _, rfl⟩
      | cons x t => exact ⟨_, _, rfl⟩
theorem splitK_sp : ∀ l : List UInt8, splitK [10] 0 (count l [10]) l = sp l
  | [] => by rw [count_miss (by simp [index])]; rfl
  | c :: r => by
    have ih := splitK_sp r
    by_cases h : c = 10
    · subst h
      have hix : index ((10 : UInt8) :: r) [10] = 0 := by rw [index]; simp [List.isPrefixOf]
      rw [count_cons_eq, Nat.add_comm, splitK, hix, if_neg (by decide)]
      simp [sp, ih]
    · have hp : ([10] : List UInt8).isPrefixOf (c :: r) = false := by simp [List.isPrefixOf, Ne.symm h]
      have hix : index (c :: r) [10] = if index r [10] == -1 then -1 else index r [10] + 1 := by rw [index, hp]; simp
      rw [count_cons_ne c 10 r h, sp, if_neg h, ← ih]
      by_cases hm : index r [10] = -1
      · rw [count_miss hm]; rfl
      · have hge := index_ge r [10]
        obtain ⟨j, hj⟩ : ∃ j : Nat, index r [10] = j := ⟨(index r [10]).toNat, by omega⟩
        rw [count_hit (by simp) hj]
        have hix' : index (c :: r) [10] = ((j + 1 : Nat) : Int) := by rw [hix, if_neg (fun e => hm (beq_iff_eq.1 e)), hj]; omega
        rw [Nat.add_comm, splitK, splitK, hix', hj, if_neg (by simp; omega), if_neg (by simp)]
        simp [pre]
/-- No piece holds a newline. -/
theorem sp_clean : ∀ l : List UInt8, ∀ x ∈ sp l, (10 : UInt8) ∉ x
  | [], x, hx => by simp [sp] at hx; simp [hx]
  | c :: r, x, hx => by
    have ih := sp_clean r
    unfold sp at hx
    by_cases h : c = 10
    · rw [if_pos h] at hx
      rcases List.mem_cons.1 hx with rfl | hx
      · simp
      · exact ih x hx
    · rw [if_neg h] at hx
      obtain ⟨y, t, e⟩ := sp_cons r
      rw [e] at hx ih
      rcases List.mem_cons.1 hx with rfl | hx
      · simp only [List.mem_cons, not_or]; exact ⟨fun e => h e.symm, ih y (by simp)⟩
      · exact ih x (List.mem_cons_of_mem _ hx)
/-- Pieces set ahead of a newline. -/
theorem sp_app : ∀ a l : List UInt8, (10 : UInt8) ∉ a → sp (a ++ 10 :: l) = a :: sp l
  | [], l, _ => by simp [sp]
  | c :: a, l, h => by
    have h1 : c ≠ 10 := fun e => h (by simp [e])
    rw [List.cons_append, sp, if_neg h1, sp_app a l (fun e => h (by simp [e])), pre]
/-- What strings.Split gives at one newline. -/
theorem split_sp (s : ByteArray) : splitB (⟨#[10]⟩ : ByteArray) 0 (countB s (⟨#[10]⟩ : ByteArray)) s = (sp s.data.toList).map fun l => (⟨l.toArray⟩ : ByteArray) := by
  have h := splitB_data (⟨#[10]⟩ : ByteArray) 0 (countB s (⟨#[10]⟩ : ByteArray)) s
  have e : countB s (⟨#[10]⟩ : ByteArray) = count s.data.toList [10] := rfl
  rw [e] at h ⊢
  rw [show (⟨#[10]⟩ : ByteArray).data.toList = [10] from rfl, splitK_sp] at h
  rw [← h, List.map_map]
  conv => lhs; rw [← List.map_id (splitB _ _ _ _)]
  refine List.map_congr_left fun x _ => ?_
  simp

end Go.Proofs.YtaophlekfepkgaaGreatDoor.SplitN

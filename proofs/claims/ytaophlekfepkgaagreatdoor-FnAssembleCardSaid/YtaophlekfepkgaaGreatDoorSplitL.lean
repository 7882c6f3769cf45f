/- A line cut at its spaces: the pieces as lists of bytes; what strings.Split gives. No program in this text. -/
import Derived.Lib.SplitLaws
namespace Go.Proofs.YtaophlekfepkgaaGreatDoor.SplitL
open Go.Lib

/-- A byte set ahead of the first piece. -/
def pre (c : UInt8) : List (List UInt8) → List (List UInt8)
  | [] => [[c]]
  | x :: t => (c :: x) :: t
/-- The pieces between spaces. -/
def sp : List UInt8 → List (List UInt8)
  | [] => [[]]
  | c :: r => if c = 32 then [] :: sp r else pre c (sp r)
theorem sp_cons (l : List UInt8) : ∃ x t, sp l = x :: t := by
  cases l with
  | nil => exact ⟨_, _, rfl⟩
  | cons c r =>
    unfold sp
    split
    · exact ⟨_, _, rfl⟩
    · cases sp r with
      | nil => exact ⟨_, _, rfl⟩
      | cons x t => exact ⟨_, _, rfl⟩
theorem splitK_sp : ∀ l : List UInt8, splitK [32] 0 (count l [32]) l = sp l
  | [] => by rw [count_miss (by simp [index])]; rfl
  | c :: r => by
    have ih := splitK_sp r
    by_cases h : c = 32
    · subst h
      have hix : index ((32 : UInt8) :: r) [32] = 0 := by rw [index]; simp [List.isPrefixOf]
      rw [count_cons_eq, Nat.add_comm, splitK, hix, if_neg (by decide)]
      simp [sp, ih]
    · have hp : ([32] : List UInt8).isPrefixOf (c :: r) = false := by simp [List.isPrefixOf, Ne.symm h]
      have hix : index (c :: r) [32] = if index r [32] == -1 then -1 else index r [32] + 1 := by rw [index, hp]; simp
      rw [count_cons_ne c 32 r h, sp, if_neg h, ← ih]
      by_cases hm : index r [32] = -1
      · rw [count_miss hm]; rfl
      · have hge := index_ge r [32]
        obtain ⟨j, hj⟩ : ∃ j : Nat, index r [32] = j := ⟨(index r [32]).toNat, by omega⟩
        rw [count_hit (by simp) hj]
        have hix' : index (c :: r) [32] = ((j + 1 : Nat) : Int) := by rw [hix, if_neg (fun e => hm (beq_iff_eq.1 e)), hj]; omega
        rw [Nat.add_comm, splitK, splitK, hix', hj, if_neg (by simp; omega), if_neg (by simp)]
        simp [pre]
/-- What strings.Split gives at one space. -/
theorem split_sp (s : ByteArray) : splitB (⟨#[32]⟩ : ByteArray) 0 (countB s (⟨#[32]⟩ : ByteArray)) s = (sp s.data.toList).map fun l => (⟨l.toArray⟩ : ByteArray) := by
  have h := splitB_data (⟨#[32]⟩ : ByteArray) 0 (countB s (⟨#[32]⟩ : ByteArray)) s
  have e : countB s (⟨#[32]⟩ : ByteArray) = count s.data.toList [32] := rfl
  rw [e] at h ⊢
  rw [show (⟨#[32]⟩ : ByteArray).data.toList = [32] from rfl, splitK_sp] at h
  rw [← h, List.map_map]
  conv => lhs; rw [← List.map_id (splitB _ _ _ _)]
  refine List.map_congr_left fun x _ => ?_
  simp

end Go.Proofs.YtaophlekfepkgaaGreatDoor.SplitL

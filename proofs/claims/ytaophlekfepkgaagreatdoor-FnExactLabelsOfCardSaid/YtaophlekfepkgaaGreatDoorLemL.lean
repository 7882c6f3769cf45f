/- Plain lemmas on whole numbers of fixed width and on their bits. No Go and no memory in it. -/
import Derived.Laws.Entries
import Derived.Laws.BitsLemmas
import Derived.Test.YtaophlekfepkgaaGreatDoorWordsL
namespace Go.Proofs.YtaophlekfepkgaaGreatDoor.Lem
open Go.RowKit Go.Proofs.YtaophlekfepkgaaGreatDoorW.PrintWords

theorem w64 {n : Int} (h : -9223372036854775808 ≤ n) (h' : n ≤ 9223372036854775807) : wrap64 n = n := by unfold wrap64; omega
theorem wraps_u32 (n : Int) (h₀ : 0 ≤ n) (h₁ : n < 2 ^ 32) : IntKind.u32.wrap n = n := by rw [IntKind.wrap_u32]; omega
theorem tmod_pos {a b : Int} (h : 0 ≤ a) : Int.tmod a b = a % b := Int.tmod_eq_emod_of_nonneg h
theorem tdiv_pos {a b : Int} (h : 0 ≤ a) : Int.tdiv a b = a / b := Int.tdiv_eq_ediv_of_nonneg h

/-- The remainder by a power of 2, at any number. -/
theorem and_mask (k : IntKind) (i : Nat) (hi : i < k.bits) (hk : ∀ n : Int, 0 ≤ n → n < 2 ^ i → k.wrap n = n) (x : Int) : Go.bits .and k x (2 ^ i - 1) = x % 2 ^ i := by
  have hpos : 0 < 2 ^ i := Nat.two_pow_pos i
  have hlt : 2 ^ i < 2 ^ k.bits := Nat.pow_lt_pow_right (by decide) hi
  have hc : ((2 : Int) ^ i - 1) = ((2 ^ i - 1 : Nat) : Int) := by rw [Int.natCast_sub hpos]; simp
  have hm : (2 ^ i - 1) % 2 ^ k.bits = 2 ^ i - 1 := Nat.mod_eq_of_lt (by omega)
  have hr : ((x % 2 ^ i).toNat : Int) = x % 2 ^ i := Int.toNat_of_nonneg (Int.emod_nonneg _ (by exact_mod_cast (Nat.ne_of_gt hpos)))
  have e : (BitVec.ofInt k.bits x &&& BitVec.ofInt k.bits ((2 ^ i - 1 : Nat) : Int)).toNat = (x % 2 ^ i).toNat := by
    rw [BitVec.ofInt_natCast, BitVec.toNat_and, BitVec.toNat_ofInt, BitVec.toNat_ofNat, hm, Nat.and_two_pow_sub_one_eq_mod]
    have hd : ((2 : Int) ^ i) ∣ ((2 ^ k.bits : Nat) : Int) := by
      have := Nat.pow_dvd_pow 2 (Nat.le_of_lt hi)
      exact_mod_cast this
    have h0 : 0 ≤ x % ((2 ^ k.bits : Nat) : Int) := Int.emod_nonneg _ (by exact_mod_cast (Nat.ne_of_gt (Nat.two_pow_pos k.bits)))
    apply Int.ofNat_inj.1
    rw [hr]
    push_cast
    rw [Int.toNat_of_nonneg (by exact_mod_cast h0)]
    exact_mod_cast Int.emod_emod_of_dvd x hd
  rw [hc]
  simp only [Go.bits]
  rw [e, hr]
  refine hk _ (Int.emod_nonneg _ (by exact_mod_cast (Nat.ne_of_gt hpos))) (Int.emod_lt_of_pos _ (by exact_mod_cast hpos))

/-- A word turned left by s places. -/
def rot (x : Int) (s : Nat) : Int := x * 2 ^ s % 4294967296 + x / 2 ^ (32 - s)
end Go.Proofs.YtaophlekfepkgaaGreatDoor.Lem

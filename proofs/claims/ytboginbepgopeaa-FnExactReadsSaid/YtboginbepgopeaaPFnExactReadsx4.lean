/- Printed by a program out of the translation, with contracts of my own set in. -/
import Derived.Test.YtboginbepgopeaaPFnExactReadsx0
import Derived.Test.YtboginbepgopeaaPFnExactReadsx2
import Derived.Test.YtboginbepgopeaaPFnExactReadsx3
namespace Go.Proofs.Ytboginbepgopeaa.PFnExactReads
open Go.RowKit Go.Proofs.YtboginbepgopeaaW.PrintWords Go.Proofs.YtboginbepgopeaaW.PrintLast Go.Proofs.YtboginbepgopeaaW.PrintMore
attribute [local go_sem] max2_int min2_int max_two min_two max_three min_three max_four min_four   -- for this text's walks alone
set_option linter.unusedVariables false
set_option linter.unusedSimpArgs false

/-! ### impl_isInstr: function 94 -/
/-- The form of an op; -1 when it is none. -/
def impl_isInstr.form (op : Int) : Int :=
  if op < 0 then -1 else if 32 < op then -1 else if 1 ≤ op ∧ op ≤ 12 then 7 else if op = 0 ∨ op = 30 ∨ op = 31 then 0 else if op = 14 ∨ op = 22 ∨ op = 28 ∨ op = 29 then 9 else if op = 23 then 10 else if op = 24 then 1 else if op = 32 then 8 else 11
def impl_isInstr.fld (form bit x lo hi : Int) : Bool := if form / bit % 2 = 1 then decide (lo ≤ x ∧ x ≤ hi) else decide (x = 0)
/-- Whether an instruction is ok. -/
def impl_isInstr.ok (op a b c imm : Int) : Bool :=
  decide (0 ≤ op ∧ op ≤ 32) && impl_isInstr.fld (impl_isInstr.form op) 1 a 0 15 && impl_isInstr.fld (impl_isInstr.form op) 2 b 0 15 && impl_isInstr.fld (impl_isInstr.form op) 4 c 0 15 && impl_isInstr.fld (impl_isInstr.form op) 8 imm (-8192) 8191
def impl_isInstr.f (a0_0 : Int) (a0_1 : Int) (a0_2 : Int) (a0_3 : Int) (a0_4 : Int) : Option (Bool) := some (impl_isInstr.ok a0_0 a0_1 a0_2 a0_3 a0_4)
theorem impl_isInstr.form_small : ∀ n : Fin 33, impl_formOf.f 8 (n.val : Int) = some (impl_isInstr.form (n.val : Int)) := by decide +kernel
theorem impl_isInstr.form_eq (op : Int) : impl_formOf.f 8 op = some (impl_isInstr.form op) := by
  by_cases h : 0 ≤ op ∧ op ≤ 32
  · obtain ⟨n, rfl⟩ := Int.eq_ofNat_of_zero_le h.1
    exact impl_isInstr.form_small ⟨n, by omega⟩
  · have e : impl_within.f op 0 32 = some false := by
      unfold impl_within.f
      by_cases h1 : op ≥ 0
      · rw [if_pos h1]; congr 1; simp; omega
      · rw [if_neg h1]
    have e2 : impl_isInstr.form op = -1 := by
      unfold impl_isInstr.form
      by_cases h1 : op < 0
      · rw [if_pos h1]
      · rw [if_neg h1, if_pos (by omega)]
    unfold impl_formOf.f
    rw [e, e2]; rfl
theorem impl_isInstr.within (n lo hi : Int) (w : World) : Calls Try.prog 79 #[.int .i64 n, .int .i64 lo, .int .i64 hi] w fun e w' => e = .returned (.bool (decide (lo ≤ n ∧ n ≤ hi))) ∧ Drawn0 w w' := by
  refine impl_within.calls n lo hi (decide (lo ≤ n ∧ n ≤ hi)) w ?_
  unfold impl_within.f
  by_cases h : n ≥ lo
  · rw [if_pos h]; congr 1; simp; omega
  · rw [if_neg h]; congr 1; simp; omega
theorem impl_isInstr.yes (n lo hi : Int) (w : World) (h : lo ≤ n ∧ n ≤ hi) : Calls Try.prog 79 #[.int .i64 n, .int .i64 lo, .int .i64 hi] w fun e w' => e = .returned (.bool true) ∧ Drawn0 w w' := by
  have := impl_isInstr.within n lo hi w
  rwa [decide_eq_true h] at this
theorem impl_isInstr.no (n lo hi : Int) (w : World) (h : ¬ (lo ≤ n ∧ n ≤ hi)) : Calls Try.prog 79 #[.int .i64 n, .int .i64 lo, .int .i64 hi] w fun e w' => e = .returned (.bool false) ∧ Drawn0 w w' := by
  have := impl_isInstr.within n lo hi w
  rwa [decide_eq_false h] at this
theorem impl_isInstr.imm (n : Int) (w : World) : Calls Try.prog 112 #[.int .i64 n] w fun e w' => e = .returned (.bool (decide (-8192 ≤ n ∧ n ≤ 8191))) ∧ Drawn0 w w' := by
  refine impl_isImm.calls n (decide (-8192 ≤ n ∧ n ≤ 8191)) w ?_
  unfold impl_isImm.f impl_within.f
  by_cases h : n ≥ -8192
  · rw [if_pos h]; simp only [Option.bind_some]; congr 1; simp; omega
  · rw [if_neg h]; simp only [Option.bind_some]; congr 1; simp; omega
theorem impl_isInstr.beq (n : Int) : (n == 0) = decide (n = 0) := by rw [Bool.eq_iff_iff]; simp
theorem impl_isInstr.ret {a b : Bool} (h : a = b) : Ending.returned (.bool a) = Ending.returned (.bool b) := by rw [h]

set_option maxHeartbeats 8000000 in
set_option maxRecDepth 100000 in
theorem impl_isInstr.form0 (a0_0 : Int) (a0_1 : Int) (a0_2 : Int) (a0_3 : Int) (a0_4 : Int) (r : Bool) (w : World) (HF : Hid (impl_isInstr.form a0_0 = 0))
    (HR : Hid ((impl_isInstr.fld 0 1 a0_1 0 15 && impl_isInstr.fld 0 2 a0_2 0 15 && impl_isInstr.fld 0 4 a0_3 0 15 && impl_isInstr.fld 0 8 a0_4 (-8192) 8191) = r)) :
    Calls Try.prog 94 #[.agg #[.int .i64 a0_0, .int .i64 a0_1, .int .i64 a0_2, .int .i64 a0_3, .int .i64 a0_4]] w fun e w' => e = .returned (.bool r) ∧ Below w.heap.size w w' := by
  have hu := Try.underlying79
  have HFC := fun W => impl_formOf.calls 8 a0_0 0 W (by rw [impl_isInstr.form_eq, HF.out])
  have i0 : ∀ w, (Instr.index 124 (.agg #[.int .i64 a0_1, .int .i64 a0_2, .int .i64 a0_3]) (.int .i64 0)).run Try.prog w = .ok (.int .i64 a0_1) w := fun _ => by kernel_rfl
  have i1 : ∀ w, (Instr.index 124 (.agg #[.int .i64 a0_1, .int .i64 a0_2, .int .i64 a0_3]) (.int .i64 1)).run Try.prog w = .ok (.int .i64 a0_2) w := fun _ => by kernel_rfl
  have i2 : ∀ w, (Instr.index 124 (.agg #[.int .i64 a0_1, .int .i64 a0_2, .int .i64 a0_3]) (.int .i64 2)).run Try.prog w = .ok (.int .i64 a0_3) w := fun _ => by kernel_rfl
  have b0 : Go.bits .and .i64 0 1 = 0 := by decide +kernel
  have b8_ : Go.bits .and .i64 0 8 = 0 := by decide +kernel
  go_enter Try.func94, Try.ntmps94
  go_wp2_with (go_at_call 86; refine (HFC _).mono ?_; rintro e w' ⟨rfl, m, rfl⟩)
  go_loopw [18] (fun i wr => ∃ k n : Nat, k ≤ 3 ∧ i = .int .i64 k ∧ ((0 < k → impl_isInstr.fld 0 1 a0_1 0 15 = true) ∧ (1 < k → impl_isInstr.fld 0 2 a0_2 0 15 = true) ∧ (2 < k → impl_isInstr.fld 0 4 a0_3 0 15 = true)) ∧ wr = (w.alloc (.cells #[.int .i64 a0_0, .int .i64 a0_1, .int .i64 a0_2, .int .i64 a0_3, .int .i64 a0_4] 79)).drewN n) (fun i _ => 3 - (intOf i).toNat)
  case atStart => exact ⟨0, _, by omega, rfl, ⟨fun h => absurd h (by omega), fun h => absurd h (by omega), fun h => absurd h (by omega)⟩, rfl⟩
  case round =>
    obtain ⟨k, n, hk, rfl, hok, rfl⟩ := hrel
    have HOK := Lib.hid hok; clear hok
    rcases (show k = 0 ∨ k = 1 ∨ k = 2 ∨ k = 3 by omega) with rfl | rfl | rfl | rfl
    · by_cases hin : a0_1 = 0
      · have HIN := Lib.hid (show impl_isInstr.fld 0 1 a0_1 0 15 = true by unfold impl_isInstr.fld; rw [if_neg (by decide)]; simpa using hin)
        have z1 : (a0_1 != 0) = false := by rw [hin]; rfl
        have z2 : decide (a0_1 = 0) = true := by simp [hin]
        clear hin
        go_wp2
        go_roundw
        case rel => exact ⟨1, _, by omega, rfl, ⟨fun _ => HIN.out, fun h => absurd h (by omega), fun h => absurd h (by omega)⟩, rfl⟩
        case measure => simp [intOf]
      · have HNO := Lib.hid (show impl_isInstr.fld 0 1 a0_1 0 15 = false by unfold impl_isInstr.fld; rw [if_neg (by decide)]; simpa using hin)
        have z1 : (a0_1 != 0) = true := by simpa using hin
        have z2 : decide (a0_1 = 0) = false := by simpa using hin
        clear hin
        go_wp2
        go_ret
        refine ⟨?_, by repeat (first | exact Below.refl _ _ | apply below_alloc | apply pw_below_drewN)⟩
        refine impl_isInstr.ret (Eq.trans ?_ HR.out)
        rw [HNO.out]; simp
    · by_cases hin : a0_2 = 0
      · have HIN := Lib.hid (show impl_isInstr.fld 0 2 a0_2 0 15 = true by unfold impl_isInstr.fld; rw [if_neg (by decide)]; simpa using hin)
        have z1 : (a0_2 != 0) = false := by rw [hin]; rfl
        have z2 : decide (a0_2 = 0) = true := by simp [hin]
        clear hin
        go_wp2
        go_roundw
        case rel => exact ⟨2, _, by omega, rfl, ⟨fun _ => HOK.out.1 (by omega), fun _ => HIN.out, fun h => absurd h (by omega)⟩, rfl⟩
        case measure => simp [intOf]
      · have HNO := Lib.hid (show impl_isInstr.fld 0 2 a0_2 0 15 = false by unfold impl_isInstr.fld; rw [if_neg (by decide)]; simpa using hin)
        have z1 : (a0_2 != 0) = true := by simpa using hin
        have z2 : decide (a0_2 = 0) = false := by simpa using hin
        clear hin
        go_wp2
        go_ret
        refine ⟨?_, by repeat (first | exact Below.refl _ _ | apply below_alloc | apply pw_below_drewN)⟩
        refine impl_isInstr.ret (Eq.trans ?_ HR.out)
        rw [HNO.out]; simp
    · by_cases hin : a0_3 = 0
      · have HIN := Lib.hid (show impl_isInstr.fld 0 4 a0_3 0 15 = true by unfold impl_isInstr.fld; rw [if_neg (by decide)]; simpa using hin)
        have z1 : (a0_3 != 0) = false := by rw [hin]; rfl
        have z2 : decide (a0_3 = 0) = true := by simp [hin]
        clear hin
        go_wp2
        go_roundw
        case rel => exact ⟨3, _, by omega, rfl, ⟨fun _ => HOK.out.1 (by omega), fun _ => HOK.out.2.1 (by omega), fun _ => HIN.out⟩, rfl⟩
        case measure => simp [intOf]
      · have HNO := Lib.hid (show impl_isInstr.fld 0 4 a0_3 0 15 = false by unfold impl_isInstr.fld; rw [if_neg (by decide)]; simpa using hin)
        have z1 : (a0_3 != 0) = true := by simpa using hin
        have z2 : decide (a0_3 = 0) = false := by simpa using hin
        clear hin
        go_wp2
        go_ret
        refine ⟨?_, by repeat (first | exact Below.refl _ _ | apply below_alloc | apply pw_below_drewN)⟩
        refine impl_isInstr.ret (Eq.trans ?_ HR.out)
        rw [HNO.out]; simp
    · go_wp2
      go_ret
      refine ⟨?_, by repeat (first | exact Below.refl _ _ | apply below_alloc | apply pw_below_drewN)⟩
      refine impl_isInstr.ret (Eq.trans ?_ HR.out)
      rw [HOK.out.1 (by omega), HOK.out.2.1 (by omega), HOK.out.2.2 (by omega)]
      unfold impl_isInstr.fld; rw [if_neg (by decide)]; simp only [Bool.true_and]; exact impl_isInstr.beq _
set_option maxHeartbeats 8000000 in
set_option maxRecDepth 100000 in
theorem impl_isInstr.form1 (a0_0 : Int) (a0_1 : Int) (a0_2 : Int) (a0_3 : Int) (a0_4 : Int) (r : Bool) (w : World) (HF : Hid (impl_isInstr.form a0_0 = 1))
    (HR : Hid ((impl_isInstr.fld 1 1 a0_1 0 15 && impl_isInstr.fld 1 2 a0_2 0 15 && impl_isInstr.fld 1 4 a0_3 0 15 && impl_isInstr.fld 1 8 a0_4 (-8192) 8191) = r)) :
    Calls Try.prog 94 #[.agg #[.int .i64 a0_0, .int .i64 a0_1, .int .i64 a0_2, .int .i64 a0_3, .int .i64 a0_4]] w fun e w' => e = .returned (.bool r) ∧ Below w.heap.size w w' := by
  have hu := Try.underlying79
  have HFC := fun W => impl_formOf.calls 8 a0_0 1 W (by rw [impl_isInstr.form_eq, HF.out])
  have i0 : ∀ w, (Instr.index 124 (.agg #[.int .i64 a0_1, .int .i64 a0_2, .int .i64 a0_3]) (.int .i64 0)).run Try.prog w = .ok (.int .i64 a0_1) w := fun _ => by kernel_rfl
  have i1 : ∀ w, (Instr.index 124 (.agg #[.int .i64 a0_1, .int .i64 a0_2, .int .i64 a0_3]) (.int .i64 1)).run Try.prog w = .ok (.int .i64 a0_2) w := fun _ => by kernel_rfl
  have i2 : ∀ w, (Instr.index 124 (.agg #[.int .i64 a0_1, .int .i64 a0_2, .int .i64 a0_3]) (.int .i64 2)).run Try.prog w = .ok (.int .i64 a0_3) w := fun _ => by kernel_rfl
  have b0 : Go.bits .and .i64 0 1 = 0 := by decide +kernel
  have b1 : Go.bits .and .i64 1 1 = 1 := by decide +kernel
  have b8_ : Go.bits .and .i64 1 8 = 0 := by decide +kernel
  go_enter Try.func94, Try.ntmps94
  go_wp2_with (go_at_call 86; refine (HFC _).mono ?_; rintro e w' ⟨rfl, m, rfl⟩)
  go_loopw [18] (fun i wr => ∃ k n : Nat, k ≤ 3 ∧ i = .int .i64 k ∧ ((0 < k → impl_isInstr.fld 1 1 a0_1 0 15 = true) ∧ (1 < k → impl_isInstr.fld 1 2 a0_2 0 15 = true) ∧ (2 < k → impl_isInstr.fld 1 4 a0_3 0 15 = true)) ∧ wr = (w.alloc (.cells #[.int .i64 a0_0, .int .i64 a0_1, .int .i64 a0_2, .int .i64 a0_3, .int .i64 a0_4] 79)).drewN n) (fun i _ => 3 - (intOf i).toNat)
  case atStart => exact ⟨0, _, by omega, rfl, ⟨fun h => absurd h (by omega), fun h => absurd h (by omega), fun h => absurd h (by omega)⟩, rfl⟩
  case round =>
    obtain ⟨k, n, hk, rfl, hok, rfl⟩ := hrel
    have HOK := Lib.hid hok; clear hok
    rcases (show k = 0 ∨ k = 1 ∨ k = 2 ∨ k = 3 by omega) with rfl | rfl | rfl | rfl
    · by_cases hin : 0 ≤ a0_1 ∧ a0_1 ≤ 15
      · have HIN := Lib.hid (show impl_isInstr.fld 1 1 a0_1 0 15 = true by unfold impl_isInstr.fld; rw [if_pos (by decide)]; simpa using hin); have HI2 := Lib.hid hin; clear hin
        go_wp2_with (go_at_call 79; refine (impl_isInstr.yes a0_1 0 15 _ HI2.out).mono ?_; rintro e w' ⟨rfl, m, rfl⟩)
        go_roundw
        case rel => exact ⟨1, _, by omega, rfl, ⟨fun _ => HIN.out, fun h => absurd h (by omega), fun h => absurd h (by omega)⟩, rfl⟩
        case measure => simp [intOf]
      · have HNO := Lib.hid (show impl_isInstr.fld 1 1 a0_1 0 15 = false by unfold impl_isInstr.fld; rw [if_pos (by decide)]; simpa using hin); have HI2 := Lib.hid hin; clear hin
        go_wp2_with (go_at_call 79; refine (impl_isInstr.no a0_1 0 15 _ HI2.out).mono ?_; rintro e w' ⟨rfl, m, rfl⟩)
        go_ret
        refine ⟨?_, by repeat (first | exact Below.refl _ _ | apply below_alloc | apply pw_below_drewN)⟩
        refine impl_isInstr.ret (Eq.trans ?_ HR.out)
        rw [HNO.out]; simp
    · by_cases hin : a0_2 = 0
      · have HIN := Lib.hid (show impl_isInstr.fld 1 2 a0_2 0 15 = true by unfold impl_isInstr.fld; rw [if_neg (by decide)]; simpa using hin)
        have z1 : (a0_2 != 0) = false := by rw [hin]; rfl
        have z2 : decide (a0_2 = 0) = true := by simp [hin]
        clear hin
        go_wp2
        go_roundw
        case rel => exact ⟨2, _, by omega, rfl, ⟨fun _ => HOK.out.1 (by omega), fun _ => HIN.out, fun h => absurd h (by omega)⟩, rfl⟩
        case measure => simp [intOf]
      · have HNO := Lib.hid (show impl_isInstr.fld 1 2 a0_2 0 15 = false by unfold impl_isInstr.fld; rw [if_neg (by decide)]; simpa using hin)
        have z1 : (a0_2 != 0) = true := by simpa using hin
        have z2 : decide (a0_2 = 0) = false := by simpa using hin
        clear hin
        go_wp2
        go_ret
        refine ⟨?_, by repeat (first | exact Below.refl _ _ | apply below_alloc | apply pw_below_drewN)⟩
        refine impl_isInstr.ret (Eq.trans ?_ HR.out)
        rw [HNO.out]; simp
    · by_cases hin : a0_3 = 0
      · have HIN := Lib.hid (show impl_isInstr.fld 1 4 a0_3 0 15 = true by unfold impl_isInstr.fld; rw [if_neg (by decide)]; simpa using hin)
        have z1 : (a0_3 != 0) = false := by rw [hin]; rfl
        have z2 : decide (a0_3 = 0) = true := by simp [hin]
        clear hin
        go_wp2
        go_roundw
        case rel => exact ⟨3, _, by omega, rfl, ⟨fun _ => HOK.out.1 (by omega), fun _ => HOK.out.2.1 (by omega), fun _ => HIN.out⟩, rfl⟩
        case measure => simp [intOf]
      · have HNO := Lib.hid (show impl_isInstr.fld 1 4 a0_3 0 15 = false by unfold impl_isInstr.fld; rw [if_neg (by decide)]; simpa using hin)
        have z1 : (a0_3 != 0) = true := by simpa using hin
        have z2 : decide (a0_3 = 0) = false := by simpa using hin
        clear hin
        go_wp2
        go_ret
        refine ⟨?_, by repeat (first | exact Below.refl _ _ | apply below_alloc | apply pw_below_drewN)⟩
        refine impl_isInstr.ret (Eq.trans ?_ HR.out)
        rw [HNO.out]; simp
    · go_wp2
      go_ret
      refine ⟨?_, by repeat (first | exact Below.refl _ _ | apply below_alloc | apply pw_below_drewN)⟩
      refine impl_isInstr.ret (Eq.trans ?_ HR.out)
      rw [HOK.out.1 (by omega), HOK.out.2.1 (by omega), HOK.out.2.2 (by omega)]
      unfold impl_isInstr.fld; rw [if_neg (by decide)]; simp only [Bool.true_and]; exact impl_isInstr.beq _
set_option maxHeartbeats 8000000 in
set_option maxRecDepth 100000 in
theorem impl_isInstr.form7 (a0_0 : Int) (a0_1 : Int) (a0_2 : Int) (a0_3 : Int) (a0_4 : Int) (r : Bool) (w : World) (HF : Hid (impl_isInstr.form a0_0 = 7))
    (HR : Hid ((impl_isInstr.fld 7 1 a0_1 0 15 && impl_isInstr.fld 7 2 a0_2 0 15 && impl_isInstr.fld 7 4 a0_3 0 15 && impl_isInstr.fld 7 8 a0_4 (-8192) 8191) = r)) :
    Calls Try.prog 94 #[.agg #[.int .i64 a0_0, .int .i64 a0_1, .int .i64 a0_2, .int .i64 a0_3, .int .i64 a0_4]] w fun e w' => e = .returned (.bool r) ∧ Below w.heap.size w w' := by
  have hu := Try.underlying79
  have HFC := fun W => impl_formOf.calls 8 a0_0 7 W (by rw [impl_isInstr.form_eq, HF.out])
  have i0 : ∀ w, (Instr.index 124 (.agg #[.int .i64 a0_1, .int .i64 a0_2, .int .i64 a0_3]) (.int .i64 0)).run Try.prog w = .ok (.int .i64 a0_1) w := fun _ => by kernel_rfl
  have i1 : ∀ w, (Instr.index 124 (.agg #[.int .i64 a0_1, .int .i64 a0_2, .int .i64 a0_3]) (.int .i64 1)).run Try.prog w = .ok (.int .i64 a0_2) w := fun _ => by kernel_rfl
  have i2 : ∀ w, (Instr.index 124 (.agg #[.int .i64 a0_1, .int .i64 a0_2, .int .i64 a0_3]) (.int .i64 2)).run Try.prog w = .ok (.int .i64 a0_3) w := fun _ => by kernel_rfl
  have b1 : Go.bits .and .i64 1 1 = 1 := by decide +kernel
  have b3 : Go.bits .and .i64 3 1 = 1 := by decide +kernel
  have b7 : Go.bits .and .i64 7 1 = 1 := by decide +kernel
  have b8_ : Go.bits .and .i64 7 8 = 0 := by decide +kernel
  go_enter Try.func94, Try.ntmps94
  go_wp2_with (go_at_call 86; refine (HFC _).mono ?_; rintro e w' ⟨rfl, m, rfl⟩)
  go_loopw [18] (fun i wr => ∃ k n : Nat, k ≤ 3 ∧ i = .int .i64 k ∧ ((0 < k → impl_isInstr.fld 7 1 a0_1 0 15 = true) ∧ (1 < k → impl_isInstr.fld 7 2 a0_2 0 15 = true) ∧ (2 < k → impl_isInstr.fld 7 4 a0_3 0 15 = true)) ∧ wr = (w.alloc (.cells #[.int .i64 a0_0, .int .i64 a0_1, .int .i64 a0_2, .int .i64 a0_3, .int .i64 a0_4] 79)).drewN n) (fun i _ => 3 - (intOf i).toNat)
  case atStart => exact ⟨0, _, by omega, rfl, ⟨fun h => absurd h (by omega), fun h => absurd h (by omega), fun h => absurd h (by omega)⟩, rfl⟩
  case round =>
    obtain ⟨k, n, hk, rfl, hok, rfl⟩ := hrel
    have HOK := Lib.hid hok; clear hok
    rcases (show k = 0 ∨ k = 1 ∨ k = 2 ∨ k = 3 by omega) with rfl | rfl | rfl | rfl
    · by_cases hin : 0 ≤ a0_1 ∧ a0_1 ≤ 15
      · have HIN := Lib.hid (show impl_isInstr.fld 7 1 a0_1 0 15 = true by unfold impl_isInstr.fld; rw [if_pos (by decide)]; simpa using hin); have HI2 := Lib.hid hin; clear hin
        go_wp2_with (go_at_call 79; refine (impl_isInstr.yes a0_1 0 15 _ HI2.out).mono ?_; rintro e w' ⟨rfl, m, rfl⟩)
        go_roundw
        case rel => exact ⟨1, _, by omega, rfl, ⟨fun _ => HIN.out, fun h => absurd h (by omega), fun h => absurd h (by omega)⟩, rfl⟩
        case measure => simp [intOf]
      · have HNO := Lib.hid (show impl_isInstr.fld 7 1 a0_1 0 15 = false by unfold impl_isInstr.fld; rw [if_pos (by decide)]; simpa using hin); have HI2 := Lib.hid hin; clear hin
        go_wp2_with (go_at_call 79; refine (impl_isInstr.no a0_1 0 15 _ HI2.out).mono ?_; rintro e w' ⟨rfl, m, rfl⟩)
        go_ret
        refine ⟨?_, by repeat (first | exact Below.refl _ _ | apply below_alloc | apply pw_below_drewN)⟩
        refine impl_isInstr.ret (Eq.trans ?_ HR.out)
        rw [HNO.out]; simp
    · by_cases hin : 0 ≤ a0_2 ∧ a0_2 ≤ 15
      · have HIN := Lib.hid (show impl_isInstr.fld 7 2 a0_2 0 15 = true by unfold impl_isInstr.fld; rw [if_pos (by decide)]; simpa using hin); have HI2 := Lib.hid hin; clear hin
        go_wp2_with (go_at_call 79; refine (impl_isInstr.yes a0_2 0 15 _ HI2.out).mono ?_; rintro e w' ⟨rfl, m, rfl⟩)
        go_roundw
        case rel => exact ⟨2, _, by omega, rfl, ⟨fun _ => HOK.out.1 (by omega), fun _ => HIN.out, fun h => absurd h (by omega)⟩, rfl⟩
        case measure => simp [intOf]
      · have HNO := Lib.hid (show impl_isInstr.fld 7 2 a0_2 0 15 = false by unfold impl_isInstr.fld; rw [if_pos (by decide)]; simpa using hin); have HI2 := Lib.hid hin; clear hin
        go_wp2_with (go_at_call 79; refine (impl_isInstr.no a0_2 0 15 _ HI2.out).mono ?_; rintro e w' ⟨rfl, m, rfl⟩)
        go_ret
        refine ⟨?_, by repeat (first | exact Below.refl _ _ | apply below_alloc | apply pw_below_drewN)⟩
        refine impl_isInstr.ret (Eq.trans ?_ HR.out)
        rw [HNO.out]; simp
    · by_cases hin : 0 ≤ a0_3 ∧ a0_3 ≤ 15
      · have HIN := Lib.hid (show impl_isInstr.fld 7 4 a0_3 0 15 = true by unfold impl_isInstr.fld; rw [if_pos (by decide)]; simpa using hin); have HI2 := Lib.hid hin; clear hin
        go_wp2_with (go_at_call 79; refine (impl_isInstr.yes a0_3 0 15 _ HI2.out).mono ?_; rintro e w' ⟨rfl, m, rfl⟩)
        go_roundw
        case rel => exact ⟨3, _, by omega, rfl, ⟨fun _ => HOK.out.1 (by omega), fun _ => HOK.out.2.1 (by omega), fun _ => HIN.out⟩, rfl⟩
        case measure => simp [intOf]
      · have HNO := Lib.hid (show impl_isInstr.fld 7 4 a0_3 0 15 = false by unfold impl_isInstr.fld; rw [if_pos (by decide)]; simpa using hin); have HI2 := Lib.hid hin; clear hin
        go_wp2_with (go_at_call 79; refine (impl_isInstr.no a0_3 0 15 _ HI2.out).mono ?_; rintro e w' ⟨rfl, m, rfl⟩)
        go_ret
        refine ⟨?_, by repeat (first | exact Below.refl _ _ | apply below_alloc | apply pw_below_drewN)⟩
        refine impl_isInstr.ret (Eq.trans ?_ HR.out)
        rw [HNO.out]; simp
    · go_wp2
      go_ret
      refine ⟨?_, by repeat (first | exact Below.refl _ _ | apply below_alloc | apply pw_below_drewN)⟩
      refine impl_isInstr.ret (Eq.trans ?_ HR.out)
      rw [HOK.out.1 (by omega), HOK.out.2.1 (by omega), HOK.out.2.2 (by omega)]
      unfold impl_isInstr.fld; rw [if_neg (by decide)]; simp only [Bool.true_and]; exact impl_isInstr.beq _
set_option maxHeartbeats 8000000 in
set_option maxRecDepth 100000 in
theorem impl_isInstr.form8 (a0_0 : Int) (a0_1 : Int) (a0_2 : Int) (a0_3 : Int) (a0_4 : Int) (r : Bool) (w : World) (HF : Hid (impl_isInstr.form a0_0 = 8))
    (HR : Hid ((impl_isInstr.fld 8 1 a0_1 0 15 && impl_isInstr.fld 8 2 a0_2 0 15 && impl_isInstr.fld 8 4 a0_3 0 15 && impl_isInstr.fld 8 8 a0_4 (-8192) 8191) = r)) :
    Calls Try.prog 94 #[.agg #[.int .i64 a0_0, .int .i64 a0_1, .int .i64 a0_2, .int .i64 a0_3, .int .i64 a0_4]] w fun e w' => e = .returned (.bool r) ∧ Below w.heap.size w w' := by
  have hu := Try.underlying79
  have HFC := fun W => impl_formOf.calls 8 a0_0 8 W (by rw [impl_isInstr.form_eq, HF.out])
  have i0 : ∀ w, (Instr.index 124 (.agg #[.int .i64 a0_1, .int .i64 a0_2, .int .i64 a0_3]) (.int .i64 0)).run Try.prog w = .ok (.int .i64 a0_1) w := fun _ => by kernel_rfl
  have i1 : ∀ w, (Instr.index 124 (.agg #[.int .i64 a0_1, .int .i64 a0_2, .int .i64 a0_3]) (.int .i64 1)).run Try.prog w = .ok (.int .i64 a0_2) w := fun _ => by kernel_rfl
  have i2 : ∀ w, (Instr.index 124 (.agg #[.int .i64 a0_1, .int .i64 a0_2, .int .i64 a0_3]) (.int .i64 2)).run Try.prog w = .ok (.int .i64 a0_3) w := fun _ => by kernel_rfl
  have b2 : Go.bits .and .i64 2 1 = 0 := by decide +kernel
  have b4 : Go.bits .and .i64 4 1 = 0 := by decide +kernel
  have b8 : Go.bits .and .i64 8 1 = 0 := by decide +kernel
  have b8_ : Go.bits .and .i64 8 8 = 8 := by decide +kernel
  go_enter Try.func94, Try.ntmps94
  go_wp2_with (go_at_call 86; refine (HFC _).mono ?_; rintro e w' ⟨rfl, m, rfl⟩)
  go_loopw [18] (fun i wr => ∃ k n : Nat, k ≤ 3 ∧ i = .int .i64 k ∧ ((0 < k → impl_isInstr.fld 8 1 a0_1 0 15 = true) ∧ (1 < k → impl_isInstr.fld 8 2 a0_2 0 15 = true) ∧ (2 < k → impl_isInstr.fld 8 4 a0_3 0 15 = true)) ∧ wr = (w.alloc (.cells #[.int .i64 a0_0, .int .i64 a0_1, .int .i64 a0_2, .int .i64 a0_3, .int .i64 a0_4] 79)).drewN n) (fun i _ => 3 - (intOf i).toNat)
  case atStart => exact ⟨0, _, by omega, rfl, ⟨fun h => absurd h (by omega), fun h => absurd h (by omega), fun h => absurd h (by omega)⟩, rfl⟩
  case round =>
    obtain ⟨k, n, hk, rfl, hok, rfl⟩ := hrel
    have HOK := Lib.hid hok; clear hok
    rcases (show k = 0 ∨ k = 1 ∨ k = 2 ∨ k = 3 by omega) with rfl | rfl | rfl | rfl
    · by_cases hin : a0_1 = 0
      · have HIN := Lib.hid (show impl_isInstr.fld 8 1 a0_1 0 15 = true by unfold impl_isInstr.fld; rw [if_neg (by decide)]; simpa using hin)
        have z1 : (a0_1 != 0) = false := by rw [hin]; rfl
        have z2 : decide (a0_1 = 0) = true := by simp [hin]
        clear hin
        go_wp2
        go_roundw
        case rel => exact ⟨1, _, by omega, rfl, ⟨fun _ => HIN.out, fun h => absurd h (by omega), fun h => absurd h (by omega)⟩, rfl⟩
        case measure => simp [intOf]
      · have HNO := Lib.hid (show impl_isInstr.fld 8 1 a0_1 0 15 = false by unfold impl_isInstr.fld; rw [if_neg (by decide)]; simpa using hin)
        have z1 : (a0_1 != 0) = true := by simpa using hin
        have z2 : decide (a0_1 = 0) = false := by simpa using hin
        clear hin
        go_wp2
        go_ret
        refine ⟨?_, by repeat (first | exact Below.refl _ _ | apply below_alloc | apply pw_below_drewN)⟩
        refine impl_isInstr.ret (Eq.trans ?_ HR.out)
        rw [HNO.out]; simp
    · by_cases hin : a0_2 = 0
      · have HIN := Lib.hid (show impl_isInstr.fld 8 2 a0_2 0 15 = true by unfold impl_isInstr.fld; rw [if_neg (by decide)]; simpa using hin)
        have z1 : (a0_2 != 0) = false := by rw [hin]; rfl
        have z2 : decide (a0_2 = 0) = true := by simp [hin]
        clear hin
        go_wp2
        go_roundw
        case rel => exact ⟨2, _, by omega, rfl, ⟨fun _ => HOK.out.1 (by omega), fun _ => HIN.out, fun h => absurd h (by omega)⟩, rfl⟩
        case measure => simp [intOf]
      · have HNO := Lib.hid (show impl_isInstr.fld 8 2 a0_2 0 15 = false by unfold impl_isInstr.fld; rw [if_neg (by decide)]; simpa using hin)
        have z1 : (a0_2 != 0) = true := by simpa using hin
        have z2 : decide (a0_2 = 0) = false := by simpa using hin
        clear hin
        go_wp2
        go_ret
        refine ⟨?_, by repeat (first | exact Below.refl _ _ | apply below_alloc | apply pw_below_drewN)⟩
        refine impl_isInstr.ret (Eq.trans ?_ HR.out)
        rw [HNO.out]; simp
    · by_cases hin : a0_3 = 0
      · have HIN := Lib.hid (show impl_isInstr.fld 8 4 a0_3 0 15 = true by unfold impl_isInstr.fld; rw [if_neg (by decide)]; simpa using hin)
        have z1 : (a0_3 != 0) = false := by rw [hin]; rfl
        have z2 : decide (a0_3 = 0) = true := by simp [hin]
        clear hin
        go_wp2
        go_roundw
        case rel => exact ⟨3, _, by omega, rfl, ⟨fun _ => HOK.out.1 (by omega), fun _ => HOK.out.2.1 (by omega), fun _ => HIN.out⟩, rfl⟩
        case measure => simp [intOf]
      · have HNO := Lib.hid (show impl_isInstr.fld 8 4 a0_3 0 15 = false by unfold impl_isInstr.fld; rw [if_neg (by decide)]; simpa using hin)
        have z1 : (a0_3 != 0) = true := by simpa using hin
        have z2 : decide (a0_3 = 0) = false := by simpa using hin
        clear hin
        go_wp2
        go_ret
        refine ⟨?_, by repeat (first | exact Below.refl _ _ | apply below_alloc | apply pw_below_drewN)⟩
        refine impl_isInstr.ret (Eq.trans ?_ HR.out)
        rw [HNO.out]; simp
    · go_wp2_with (go_at_call 112; refine (impl_isInstr.imm a0_4 _).mono ?_; rintro e w' ⟨rfl, m, rfl⟩)
      go_ret
      refine ⟨?_, by repeat (first | exact Below.refl _ _ | apply below_alloc | apply pw_below_drewN)⟩
      refine impl_isInstr.ret (Eq.trans ?_ HR.out)
      rw [HOK.out.1 (by omega), HOK.out.2.1 (by omega), HOK.out.2.2 (by omega)]
      unfold impl_isInstr.fld; rw [if_pos (by decide)]; simp
set_option maxHeartbeats 8000000 in
set_option maxRecDepth 100000 in
theorem impl_isInstr.form9 (a0_0 : Int) (a0_1 : Int) (a0_2 : Int) (a0_3 : Int) (a0_4 : Int) (r : Bool) (w : World) (HF : Hid (impl_isInstr.form a0_0 = 9))
    (HR : Hid ((impl_isInstr.fld 9 1 a0_1 0 15 && impl_isInstr.fld 9 2 a0_2 0 15 && impl_isInstr.fld 9 4 a0_3 0 15 && impl_isInstr.fld 9 8 a0_4 (-8192) 8191) = r)) :
    Calls Try.prog 94 #[.agg #[.int .i64 a0_0, .int .i64 a0_1, .int .i64 a0_2, .int .i64 a0_3, .int .i64 a0_4]] w fun e w' => e = .returned (.bool r) ∧ Below w.heap.size w w' := by
  have hu := Try.underlying79
  have HFC := fun W => impl_formOf.calls 8 a0_0 9 W (by rw [impl_isInstr.form_eq, HF.out])
  have i0 : ∀ w, (Instr.index 124 (.agg #[.int .i64 a0_1, .int .i64 a0_2, .int .i64 a0_3]) (.int .i64 0)).run Try.prog w = .ok (.int .i64 a0_1) w := fun _ => by kernel_rfl
  have i1 : ∀ w, (Instr.index 124 (.agg #[.int .i64 a0_1, .int .i64 a0_2, .int .i64 a0_3]) (.int .i64 1)).run Try.prog w = .ok (.int .i64 a0_2) w := fun _ => by kernel_rfl
  have i2 : ∀ w, (Instr.index 124 (.agg #[.int .i64 a0_1, .int .i64 a0_2, .int .i64 a0_3]) (.int .i64 2)).run Try.prog w = .ok (.int .i64 a0_3) w := fun _ => by kernel_rfl
  have b2 : Go.bits .and .i64 2 1 = 0 := by decide +kernel
  have b4 : Go.bits .and .i64 4 1 = 0 := by decide +kernel
  have b9 : Go.bits .and .i64 9 1 = 1 := by decide +kernel
  have b8_ : Go.bits .and .i64 9 8 = 8 := by decide +kernel
  go_enter Try.func94, Try.ntmps94
  go_wp2_with (go_at_call 86; refine (HFC _).mono ?_; rintro e w' ⟨rfl, m, rfl⟩)
  go_loopw [18] (fun i wr => ∃ k n : Nat, k ≤ 3 ∧ i = .int .i64 k ∧ ((0 < k → impl_isInstr.fld 9 1 a0_1 0 15 = true) ∧ (1 < k → impl_isInstr.fld 9 2 a0_2 0 15 = true) ∧ (2 < k → impl_isInstr.fld 9 4 a0_3 0 15 = true)) ∧ wr = (w.alloc (.cells #[.int .i64 a0_0, .int .i64 a0_1, .int .i64 a0_2, .int .i64 a0_3, .int .i64 a0_4] 79)).drewN n) (fun i _ => 3 - (intOf i).toNat)
  case atStart => exact ⟨0, _, by omega, rfl, ⟨fun h => absurd h (by omega), fun h => absurd h (by omega), fun h => absurd h (by omega)⟩, rfl⟩
  case round =>
    obtain ⟨k, n, hk, rfl, hok, rfl⟩ := hrel
    have HOK := Lib.hid hok; clear hok
    rcases (show k = 0 ∨ k = 1 ∨ k = 2 ∨ k = 3 by omega) with rfl | rfl | rfl | rfl
    · by_cases hin : 0 ≤ a0_1 ∧ a0_1 ≤ 15
      · have HIN := Lib.hid (show impl_isInstr.fld 9 1 a0_1 0 15 = true by unfold impl_isInstr.fld; rw [if_pos (by decide)]; simpa using hin); have HI2 := Lib.hid hin; clear hin
        go_wp2_with (go_at_call 79; refine (impl_isInstr.yes a0_1 0 15 _ HI2.out).mono ?_; rintro e w' ⟨rfl, m, rfl⟩)
        go_roundw
        case rel => exact ⟨1, _, by omega, rfl, ⟨fun _ => HIN.out, fun h => absurd h (by omega), fun h => absurd h (by omega)⟩, rfl⟩
        case measure => simp [intOf]
      · have HNO := Lib.hid (show impl_isInstr.fld 9 1 a0_1 0 15 = false by unfold impl_isInstr.fld; rw [if_pos (by decide)]; simpa using hin); have HI2 := Lib.hid hin; clear hin
        go_wp2_with (go_at_call 79; refine (impl_isInstr.no a0_1 0 15 _ HI2.out).mono ?_; rintro e w' ⟨rfl, m, rfl⟩)
        go_ret
        refine ⟨?_, by repeat (first | exact Below.refl _ _ | apply below_alloc | apply pw_below_drewN)⟩
        refine impl_isInstr.ret (Eq.trans ?_ HR.out)
        rw [HNO.out]; simp
    · by_cases hin : a0_2 = 0
      · have HIN := Lib.hid (show impl_isInstr.fld 9 2 a0_2 0 15 = true by unfold impl_isInstr.fld; rw [if_neg (by decide)]; simpa using hin)
        have z1 : (a0_2 != 0) = false := by rw [hin]; rfl
        have z2 : decide (a0_2 = 0) = true := by simp [hin]
        clear hin
        go_wp2
        go_roundw
        case rel => exact ⟨2, _, by omega, rfl, ⟨fun _ => HOK.out.1 (by omega), fun _ => HIN.out, fun h => absurd h (by omega)⟩, rfl⟩
        case measure => simp [intOf]
      · have HNO := Lib.hid (show impl_isInstr.fld 9 2 a0_2 0 15 = false by unfold impl_isInstr.fld; rw [if_neg (by decide)]; simpa using hin)
        have z1 : (a0_2 != 0) = true := by simpa using hin
        have z2 : decide (a0_2 = 0) = false := by simpa using hin
        clear hin
        go_wp2
        go_ret
        refine ⟨?_, by repeat (first | exact Below.refl _ _ | apply below_alloc | apply pw_below_drewN)⟩
        refine impl_isInstr.ret (Eq.trans ?_ HR.out)
        rw [HNO.out]; simp
    · by_cases hin : a0_3 = 0
      · have HIN := Lib.hid (show impl_isInstr.fld 9 4 a0_3 0 15 = true by unfold impl_isInstr.fld; rw [if_neg (by decide)]; simpa using hin)
        have z1 : (a0_3 != 0) = false := by rw [hin]; rfl
        have z2 : decide (a0_3 = 0) = true := by simp [hin]
        clear hin
        go_wp2
        go_roundw
        case rel => exact ⟨3, _, by omega, rfl, ⟨fun _ => HOK.out.1 (by omega), fun _ => HOK.out.2.1 (by omega), fun _ => HIN.out⟩, rfl⟩
        case measure => simp [intOf]
      · have HNO := Lib.hid (show impl_isInstr.fld 9 4 a0_3 0 15 = false by unfold impl_isInstr.fld; rw [if_neg (by decide)]; simpa using hin)
        have z1 : (a0_3 != 0) = true := by simpa using hin
        have z2 : decide (a0_3 = 0) = false := by simpa using hin
        clear hin
        go_wp2
        go_ret
        refine ⟨?_, by repeat (first | exact Below.refl _ _ | apply below_alloc | apply pw_below_drewN)⟩
        refine impl_isInstr.ret (Eq.trans ?_ HR.out)
        rw [HNO.out]; simp
    · go_wp2_with (go_at_call 112; refine (impl_isInstr.imm a0_4 _).mono ?_; rintro e w' ⟨rfl, m, rfl⟩)
      go_ret
      refine ⟨?_, by repeat (first | exact Below.refl _ _ | apply below_alloc | apply pw_below_drewN)⟩
      refine impl_isInstr.ret (Eq.trans ?_ HR.out)
      rw [HOK.out.1 (by omega), HOK.out.2.1 (by omega), HOK.out.2.2 (by omega)]
      unfold impl_isInstr.fld; rw [if_pos (by decide)]; simp
set_option maxHeartbeats 8000000 in
set_option maxRecDepth 100000 in
theorem impl_isInstr.form10 (a0_0 : Int) (a0_1 : Int) (a0_2 : Int) (a0_3 : Int) (a0_4 : Int) (r : Bool) (w : World) (HF : Hid (impl_isInstr.form a0_0 = 10))
    (HR : Hid ((impl_isInstr.fld 10 1 a0_1 0 15 && impl_isInstr.fld 10 2 a0_2 0 15 && impl_isInstr.fld 10 4 a0_3 0 15 && impl_isInstr.fld 10 8 a0_4 (-8192) 8191) = r)) :
    Calls Try.prog 94 #[.agg #[.int .i64 a0_0, .int .i64 a0_1, .int .i64 a0_2, .int .i64 a0_3, .int .i64 a0_4]] w fun e w' => e = .returned (.bool r) ∧ Below w.heap.size w w' := by
  have hu := Try.underlying79
  have HFC := fun W => impl_formOf.calls 8 a0_0 10 W (by rw [impl_isInstr.form_eq, HF.out])
  have i0 : ∀ w, (Instr.index 124 (.agg #[.int .i64 a0_1, .int .i64 a0_2, .int .i64 a0_3]) (.int .i64 0)).run Try.prog w = .ok (.int .i64 a0_1) w := fun _ => by kernel_rfl
  have i1 : ∀ w, (Instr.index 124 (.agg #[.int .i64 a0_1, .int .i64 a0_2, .int .i64 a0_3]) (.int .i64 1)).run Try.prog w = .ok (.int .i64 a0_2) w := fun _ => by kernel_rfl
  have i2 : ∀ w, (Instr.index 124 (.agg #[.int .i64 a0_1, .int .i64 a0_2, .int .i64 a0_3]) (.int .i64 2)).run Try.prog w = .ok (.int .i64 a0_3) w := fun _ => by kernel_rfl
  have b2 : Go.bits .and .i64 2 1 = 0 := by decide +kernel
  have b5 : Go.bits .and .i64 5 1 = 1 := by decide +kernel
  have b10 : Go.bits .and .i64 10 1 = 0 := by decide +kernel
  have b8_ : Go.bits .and .i64 10 8 = 8 := by decide +kernel
  go_enter Try.func94, Try.ntmps94
  go_wp2_with (go_at_call 86; refine (HFC _).mono ?_; rintro e w' ⟨rfl, m, rfl⟩)
  go_loopw [18] (fun i wr => ∃ k n : Nat, k ≤ 3 ∧ i = .int .i64 k ∧ ((0 < k → impl_isInstr.fld 10 1 a0_1 0 15 = true) ∧ (1 < k → impl_isInstr.fld 10 2 a0_2 0 15 = true) ∧ (2 < k → impl_isInstr.fld 10 4 a0_3 0 15 = true)) ∧ wr = (w.alloc (.cells #[.int .i64 a0_0, .int .i64 a0_1, .int .i64 a0_2, .int .i64 a0_3, .int .i64 a0_4] 79)).drewN n) (fun i _ => 3 - (intOf i).toNat)
  case atStart => exact ⟨0, _, by omega, rfl, ⟨fun h => absurd h (by omega), fun h => absurd h (by omega), fun h => absurd h (by omega)⟩, rfl⟩
  case round =>
    obtain ⟨k, n, hk, rfl, hok, rfl⟩ := hrel
    have HOK := Lib.hid hok; clear hok
    rcases (show k = 0 ∨ k = 1 ∨ k = 2 ∨ k = 3 by omega) with rfl | rfl | rfl | rfl
    · by_cases hin : a0_1 = 0
      · have HIN := Lib.hid (show impl_isInstr.fld 10 1 a0_1 0 15 = true by unfold impl_isInstr.fld; rw [if_neg (by decide)]; simpa using hin)
        have z1 : (a0_1 != 0) = false := by rw [hin]; rfl
        have z2 : decide (a0_1 = 0) = true := by simp [hin]
        clear hin
        go_wp2
        go_roundw
        case rel => exact ⟨1, _, by omega, rfl, ⟨fun _ => HIN.out, fun h => absurd h (by omega), fun h => absurd h (by omega)⟩, rfl⟩
        case measure => simp [intOf]
      · have HNO := Lib.hid (show impl_isInstr.fld 10 1 a0_1 0 15 = false by unfold impl_isInstr.fld; rw [if_neg (by decide)]; simpa using hin)
        have z1 : (a0_1 != 0) = true := by simpa using hin
        have z2 : decide (a0_1 = 0) = false := by simpa using hin
        clear hin
        go_wp2
        go_ret
        refine ⟨?_, by repeat (first | exact Below.refl _ _ | apply below_alloc | apply pw_below_drewN)⟩
        refine impl_isInstr.ret (Eq.trans ?_ HR.out)
        rw [HNO.out]; simp
    · by_cases hin : 0 ≤ a0_2 ∧ a0_2 ≤ 15
      · have HIN := Lib.hid (show impl_isInstr.fld 10 2 a0_2 0 15 = true by unfold impl_isInstr.fld; rw [if_pos (by decide)]; simpa using hin); have HI2 := Lib.hid hin; clear hin
        go_wp2_with (go_at_call 79; refine (impl_isInstr.yes a0_2 0 15 _ HI2.out).mono ?_; rintro e w' ⟨rfl, m, rfl⟩)
        go_roundw
        case rel => exact ⟨2, _, by omega, rfl, ⟨fun _ => HOK.out.1 (by omega), fun _ => HIN.out, fun h => absurd h (by omega)⟩, rfl⟩
        case measure => simp [intOf]
      · have HNO := Lib.hid (show impl_isInstr.fld 10 2 a0_2 0 15 = false by unfold impl_isInstr.fld; rw [if_pos (by decide)]; simpa using hin); have HI2 := Lib.hid hin; clear hin
        go_wp2_with (go_at_call 79; refine (impl_isInstr.no a0_2 0 15 _ HI2.out).mono ?_; rintro e w' ⟨rfl, m, rfl⟩)
        go_ret
        refine ⟨?_, by repeat (first | exact Below.refl _ _ | apply below_alloc | apply pw_below_drewN)⟩
        refine impl_isInstr.ret (Eq.trans ?_ HR.out)
        rw [HNO.out]; simp
    · by_cases hin : a0_3 = 0
      · have HIN := Lib.hid (show impl_isInstr.fld 10 4 a0_3 0 15 = true by unfold impl_isInstr.fld; rw [if_neg (by decide)]; simpa using hin)
        have z1 : (a0_3 != 0) = false := by rw [hin]; rfl
        have z2 : decide (a0_3 = 0) = true := by simp [hin]
        clear hin
        go_wp2
        go_roundw
        case rel => exact ⟨3, _, by omega, rfl, ⟨fun _ => HOK.out.1 (by omega), fun _ => HOK.out.2.1 (by omega), fun _ => HIN.out⟩, rfl⟩
        case measure => simp [intOf]
      · have HNO := Lib.hid (show impl_isInstr.fld 10 4 a0_3 0 15 = false by unfold impl_isInstr.fld; rw [if_neg (by decide)]; simpa using hin)
        have z1 : (a0_3 != 0) = true := by simpa using hin
        have z2 : decide (a0_3 = 0) = false := by simpa using hin
        clear hin
        go_wp2
        go_ret
        refine ⟨?_, by repeat (first | exact Below.refl _ _ | apply below_alloc | apply pw_below_drewN)⟩
        refine impl_isInstr.ret (Eq.trans ?_ HR.out)
        rw [HNO.out]; simp
    · go_wp2_with (go_at_call 112; refine (impl_isInstr.imm a0_4 _).mono ?_; rintro e w' ⟨rfl, m, rfl⟩)
      go_ret
      refine ⟨?_, by repeat (first | exact Below.refl _ _ | apply below_alloc | apply pw_below_drewN)⟩
      refine impl_isInstr.ret (Eq.trans ?_ HR.out)
      rw [HOK.out.1 (by omega), HOK.out.2.1 (by omega), HOK.out.2.2 (by omega)]
      unfold impl_isInstr.fld; rw [if_pos (by decide)]; simp
set_option maxHeartbeats 8000000 in
set_option maxRecDepth 100000 in
theorem impl_isInstr.form11 (a0_0 : Int) (a0_1 : Int) (a0_2 : Int) (a0_3 : Int) (a0_4 : Int) (r : Bool) (w : World) (HF : Hid (impl_isInstr.form a0_0 = 11))
    (HR : Hid ((impl_isInstr.fld 11 1 a0_1 0 15 && impl_isInstr.fld 11 2 a0_2 0 15 && impl_isInstr.fld 11 4 a0_3 0 15 && impl_isInstr.fld 11 8 a0_4 (-8192) 8191) = r)) :
    Calls Try.prog 94 #[.agg #[.int .i64 a0_0, .int .i64 a0_1, .int .i64 a0_2, .int .i64 a0_3, .int .i64 a0_4]] w fun e w' => e = .returned (.bool r) ∧ Below w.heap.size w w' := by
  have hu := Try.underlying79
  have HFC := fun W => impl_formOf.calls 8 a0_0 11 W (by rw [impl_isInstr.form_eq, HF.out])
  have i0 : ∀ w, (Instr.index 124 (.agg #[.int .i64 a0_1, .int .i64 a0_2, .int .i64 a0_3]) (.int .i64 0)).run Try.prog w = .ok (.int .i64 a0_1) w := fun _ => by kernel_rfl
  have i1 : ∀ w, (Instr.index 124 (.agg #[.int .i64 a0_1, .int .i64 a0_2, .int .i64 a0_3]) (.int .i64 1)).run Try.prog w = .ok (.int .i64 a0_2) w := fun _ => by kernel_rfl
  have i2 : ∀ w, (Instr.index 124 (.agg #[.int .i64 a0_1, .int .i64 a0_2, .int .i64 a0_3]) (.int .i64 2)).run Try.prog w = .ok (.int .i64 a0_3) w := fun _ => by kernel_rfl
  have b2 : Go.bits .and .i64 2 1 = 0 := by decide +kernel
  have b5 : Go.bits .and .i64 5 1 = 1 := by decide +kernel
  have b11 : Go.bits .and .i64 11 1 = 1 := by decide +kernel
  have b8_ : Go.bits .and .i64 11 8 = 8 := by decide +kernel
  go_enter Try.func94, Try.ntmps94
  go_wp2_with (go_at_call 86; refine (HFC _).mono ?_; rintro e w' ⟨rfl, m, rfl⟩)
  go_loopw [18] (fun i wr => ∃ k n : Nat, k ≤ 3 ∧ i = .int .i64 k ∧ ((0 < k → impl_isInstr.fld 11 1 a0_1 0 15 = true) ∧ (1 < k → impl_isInstr.fld 11 2 a0_2 0 15 = true) ∧ (2 < k → impl_isInstr.fld 11 4 a0_3 0 15 = true)) ∧ wr = (w.alloc (.cells #[.int .i64 a0_0, .int .i64 a0_1, .int .i64 a0_2, .int .i64 a0_3, .int .i64 a0_4] 79)).drewN n) (fun i _ => 3 - (intOf i).toNat)
  case atStart => exact ⟨0, _, by omega, rfl, ⟨fun h => absurd h (by omega), fun h => absurd h (by omega), fun h => absurd h (by omega)⟩, rfl⟩
  case round =>
    obtain ⟨k, n, hk, rfl, hok, rfl⟩ := hrel
    have HOK := Lib.hid hok; clear hok
    rcases (show k = 0 ∨ k = 1 ∨ k = 2 ∨ k = 3 by omega) with rfl | rfl | rfl | rfl
    · by_cases hin : 0 ≤ a0_1 ∧ a0_1 ≤ 15
      · have HIN := Lib.hid (show impl_isInstr.fld 11 1 a0_1 0 15 = true by unfold impl_isInstr.fld; rw [if_pos (by decide)]; simpa using hin); have HI2 := Lib.hid hin; clear hin
        go_wp2_with (go_at_call 79; refine (impl_isInstr.yes a0_1 0 15 _ HI2.out).mono ?_; rintro e w' ⟨rfl, m, rfl⟩)
        go_roundw
        case rel => exact ⟨1, _, by omega, rfl, ⟨fun _ => HIN.out, fun h => absurd h (by omega), fun h => absurd h (by omega)⟩, rfl⟩
        case measure => simp [intOf]
      · have HNO := Lib.hid (show impl_isInstr.fld 11 1 a0_1 0 15 = false by unfold impl_isInstr.fld; rw [if_pos (by decide)]; simpa using hin); have HI2 := Lib.hid hin; clear hin
        go_wp2_with (go_at_call 79; refine (impl_isInstr.no a0_1 0 15 _ HI2.out).mono ?_; rintro e w' ⟨rfl, m, rfl⟩)
        go_ret
        refine ⟨?_, by repeat (first | exact Below.refl _ _ | apply below_alloc | apply pw_below_drewN)⟩
        refine impl_isInstr.ret (Eq.trans ?_ HR.out)
        rw [HNO.out]; simp
    · by_cases hin : 0 ≤ a0_2 ∧ a0_2 ≤ 15
      · have HIN := Lib.hid (show impl_isInstr.fld 11 2 a0_2 0 15 = true by unfold impl_isInstr.fld; rw [if_pos (by decide)]; simpa using hin); have HI2 := Lib.hid hin; clear hin
        go_wp2_with (go_at_call 79; refine (impl_isInstr.yes a0_2 0 15 _ HI2.out).mono ?_; rintro e w' ⟨rfl, m, rfl⟩)
        go_roundw
        case rel => exact ⟨2, _, by omega, rfl, ⟨fun _ => HOK.out.1 (by omega), fun _ => HIN.out, fun h => absurd h (by omega)⟩, rfl⟩
        case measure => simp [intOf]
      · have HNO := Lib.hid (show impl_isInstr.fld 11 2 a0_2 0 15 = false by unfold impl_isInstr.fld; rw [if_pos (by decide)]; simpa using hin); have HI2 := Lib.hid hin; clear hin
        go_wp2_with (go_at_call 79; refine (impl_isInstr.no a0_2 0 15 _ HI2.out).mono ?_; rintro e w' ⟨rfl, m, rfl⟩)
        go_ret
        refine ⟨?_, by repeat (first | exact Below.refl _ _ | apply below_alloc | apply pw_below_drewN)⟩
        refine impl_isInstr.ret (Eq.trans ?_ HR.out)
        rw [HNO.out]; simp
    · by_cases hin : a0_3 = 0
      · have HIN := Lib.hid (show impl_isInstr.fld 11 4 a0_3 0 15 = true by unfold impl_isInstr.fld; rw [if_neg (by decide)]; simpa using hin)
        have z1 : (a0_3 != 0) = false := by rw [hin]; rfl
        have z2 : decide (a0_3 = 0) = true := by simp [hin]
        clear hin
        go_wp2
        go_roundw
        case rel => exact ⟨3, _, by omega, rfl, ⟨fun _ => HOK.out.1 (by omega), fun _ => HOK.out.2.1 (by omega), fun _ => HIN.out⟩, rfl⟩
        case measure => simp [intOf]
      · have HNO := Lib.hid (show impl_isInstr.fld 11 4 a0_3 0 15 = false by unfold impl_isInstr.fld; rw [if_neg (by decide)]; simpa using hin)
        have z1 : (a0_3 != 0) = true := by simpa using hin
        have z2 : decide (a0_3 = 0) = false := by simpa using hin
        clear hin
        go_wp2
        go_ret
        refine ⟨?_, by repeat (first | exact Below.refl _ _ | apply below_alloc | apply pw_below_drewN)⟩
        refine impl_isInstr.ret (Eq.trans ?_ HR.out)
        rw [HNO.out]; simp
    · go_wp2_with (go_at_call 112; refine (impl_isInstr.imm a0_4 _).mono ?_; rintro e w' ⟨rfl, m, rfl⟩)
      go_ret
      refine ⟨?_, by repeat (first | exact Below.refl _ _ | apply below_alloc | apply pw_below_drewN)⟩
      refine impl_isInstr.ret (Eq.trans ?_ HR.out)
      rw [HOK.out.1 (by omega), HOK.out.2.1 (by omega), HOK.out.2.2 (by omega)]
      unfold impl_isInstr.fld; rw [if_pos (by decide)]; simp
set_option maxHeartbeats 8000000 in
set_option maxRecDepth 100000 in
theorem impl_isInstr.nope (a0_0 : Int) (a0_1 : Int) (a0_2 : Int) (a0_3 : Int) (a0_4 : Int) (w : World) (HF : Hid (impl_isInstr.form a0_0 = -1)) :
    Calls Try.prog 94 #[.agg #[.int .i64 a0_0, .int .i64 a0_1, .int .i64 a0_2, .int .i64 a0_3, .int .i64 a0_4]] w fun e w' => e = .returned (.bool false) ∧ Below w.heap.size w w' := by
  have hu := Try.underlying79
  have HFC := fun W => impl_formOf.calls 8 a0_0 (-1) W (by rw [impl_isInstr.form_eq, HF.out])
  go_enter Try.func94, Try.ntmps94
  go_wp2_with (go_at_call 86; refine (HFC _).mono ?_; rintro e w' ⟨rfl, m, rfl⟩)
  go_ret
  exact ⟨rfl, by repeat (first | exact Below.refl _ _ | apply below_alloc | apply pw_below_drewN)⟩
theorem impl_isInstr.forms (op : Int) (h : 0 ≤ op ∧ op ≤ 32) : impl_isInstr.form op = 0 ∨ impl_isInstr.form op = 1 ∨ impl_isInstr.form op = 7 ∨ impl_isInstr.form op = 8 ∨ impl_isInstr.form op = 9 ∨ impl_isInstr.form op = 10 ∨ impl_isInstr.form op = 11 := by
  unfold impl_isInstr.form
  repeat' split
  all_goals omega
theorem impl_isInstr.calls (a0_0 : Int) (a0_1 : Int) (a0_2 : Int) (a0_3 : Int) (a0_4 : Int) (r : Bool) (w : World) (h : impl_isInstr.f a0_0 a0_1 a0_2 a0_3 a0_4 = some r) :
    Calls Try.prog 94 #[.agg #[.int .i64 a0_0, .int .i64 a0_1, .int .i64 a0_2, .int .i64 a0_3, .int .i64 a0_4]] w fun e w' => e = .returned (.bool r) ∧ Below w.heap.size w w' := by
  have hr : impl_isInstr.ok a0_0 a0_1 a0_2 a0_3 a0_4 = r := Option.some.inj h
  unfold impl_isInstr.ok at hr
  by_cases hop : 0 ≤ a0_0 ∧ a0_0 ≤ 32
  · rw [decide_eq_true hop, Bool.true_and] at hr
    rcases impl_isInstr.forms a0_0 hop with hf | hf | hf | hf | hf | hf | hf <;> rw [hf] at hr
    · exact impl_isInstr.form0 a0_0 a0_1 a0_2 a0_3 a0_4 r w (Lib.hid hf) (Lib.hid hr)
    · exact impl_isInstr.form1 a0_0 a0_1 a0_2 a0_3 a0_4 r w (Lib.hid hf) (Lib.hid hr)
    · exact impl_isInstr.form7 a0_0 a0_1 a0_2 a0_3 a0_4 r w (Lib.hid hf) (Lib.hid hr)
    · exact impl_isInstr.form8 a0_0 a0_1 a0_2 a0_3 a0_4 r w (Lib.hid hf) (Lib.hid hr)
    · exact impl_isInstr.form9 a0_0 a0_1 a0_2 a0_3 a0_4 r w (Lib.hid hf) (Lib.hid hr)
    · exact impl_isInstr.form10 a0_0 a0_1 a0_2 a0_3 a0_4 r w (Lib.hid hf) (Lib.hid hr)
    · exact impl_isInstr.form11 a0_0 a0_1 a0_2 a0_3 a0_4 r w (Lib.hid hf) (Lib.hid hr)
  · rw [decide_eq_false hop] at hr
    simp only [Bool.false_and] at hr
    subst hr
    refine impl_isInstr.nope a0_0 a0_1 a0_2 a0_3 a0_4 w (Lib.hid ?_)
    unfold impl_isInstr.form
    by_cases h1 : a0_0 < 0
    · rw [if_pos h1]
    · rw [if_neg h1, if_pos (by omega)]

/-! ### impl_registers: function 95 -/
/-- Registers ascending, without 0, each once. -/
def impl_registers.f (l0 : List Int) : Option (List Int) := some (Lib.compact ((l0.filter fun x => !(x == 0)).mergeSort fun x y => decide (x ≤ y)))
theorem impl_registers.gives (x : Int) (W : World) : FnGives Try.prog 114 #[] #[.int .i64 x] (.bool (x == 0)) W := by
  show Calls Try.prog 114 #[.int .i64 x] W _
  go_enter Try.func114, Try.ntmps114
  go_wp2
  all_goals (go_ret; exact ⟨by simp_all, 0, rfl⟩)
/-- One step on a block of ints of the call's own. -/
theorem impl_registers.step {w0 W W' : World} {g n T : Nat} {os : Array Obj} {cur : Array Value} {base : Nat} (ts : List Int) (HB : Below base w0 W) (hg : base ≤ g) (hb : W.heap[g]? = some (.cells cur T (0, 0))) (hl : ts.length ≤ cur.size)
    (h : W' = Sort.grow (Sort.putRow (Value.int .i64) (Sort.ahead W n) g 0 ts.toArray) os) :
    ∃ cur' : Array Value, W'.heap[g]? = some (.cells cur' T (0, 0)) ∧ cur'.size = cur.size ∧ cur'.toList.take ts.length = ts.map (Value.int .i64) ∧ Below base w0 W' := by
  have hlt : g < W.heap.size := (Array.getElem?_eq_some_iff.1 hb).1
  subst h
  exact ⟨_, heap_sortedI ts.toArray hb, by simp [Sort.putCells], take_putCellsI cur ts hl, HB.grown (grownBy_sortedI ts.toArray) (by omega) (fun k e => by cases e; exact hg)⟩
theorem impl_registers.le (zs : List Int) : (Lib.compact zs).length ≤ zs.length := by
  have key : ∀ m, (Lib.compactUpTo zs.toArray m).length ≤ m := by
    intro m
    induction m with
    | zero => simp [Lib.compactUpTo]
    | succ m ih =>
      rw [Lib.compactUpTo_succ, List.length_append]
      split
      · simp; omega
      · simp; omega
  exact key zs.length
theorem impl_registers.inner (xs : List Int) (cs : List Value) (h : Reps (fun (x : Int) (cs : List Value) => cs = [Value.int .i64 x]) 1 xs cs) : cs = xs.map (Value.int .i64) := by
  obtain ⟨hl, h⟩ := h
  apply List.ext_getElem?
  intro j
  by_cases hj : j < xs.length
  · have := h j xs[j] (List.getElem?_eq_getElem hj)
    have h2 := congrArg (fun l : List Value => l[0]?) this
    simp at h2
    rw [h2]; simp [hj]
  · rw [List.getElem?_eq_none (by omega), List.getElem?_eq_none (by simp; omega)]
set_option maxHeartbeats 4000000 in
theorem impl_registers.calls (A0 : Option Addr) (c0 : Nat) (l0 : List Int) (r : List Int) (w : World) {w0 : World} {base : Nat} (HB : Below base w0 w) (hr0 : Kd.R (Kd.int .i64) 3 w base (fun _ => True) (.slice A0 l0.length c0) l0) (hpos : 0 < l0.length) (hl : l0.length ≤ 1000) (h : impl_registers.f l0 = some r) :
    Calls Try.prog 95 #[.slice A0 l0.length c0] w fun e w' => ∃ v0_ : Value, e = .returned (v0_) ∧ Kd.R (Kd.int .i64) 3 w' base (fun _ => True) v0_ r ∧ Below base w0 w' := by
  obtain ⟨_, inner, ⟨hil, ho⟩, hrep⟩ := hr0
  rcases ho with ⟨he, _⟩ | ⟨g, cap, cur, he, hg, hb, hn, hcap, hcs, htk⟩
  · injection he with _ he2 _; omega
  injection he with he1 he2 he3
  subst he1; subst he3
  have hin := impl_registers.inner l0 inner hrep
  subst hin
  have hcs : cur.size = c0 := by simpa [Kd.int, Kd.scalar] using hcs
  have htk : cur.toList.take l0.length = l0.map (Value.int .i64) := by simpa [Kd.int, Kd.scalar] using htk
  have hlt : g < w.heap.size := (Array.getElem?_eq_some_iff.1 hb).1
  have eg : ∀ args w, (callFunc 114 args).run Try.prog w = .ok (.enter 114 args) w := enters_of Try.func114 (by kernel_rfl) rfl
  have hfl : (l0.filter fun x => !(x == 0)).length ≤ l0.length := List.length_filter_le _ _
  have hr : Lib.compact ((l0.filter fun x => !(x == 0)).mergeSort fun x y => decide (x ≤ y)) = r := Option.some.inj h
  have HD : Hid (Calls Try.prog 113 #[.slice (some ⟨g, 0, none⟩) l0.length c0, .func (.func 114) #[] #[]] w fun e w' => e = .returned (.slice (some ⟨g, 0, none⟩) (l0.filter fun x => !(x == 0)).length c0) ∧ ∃ q, w' = Sort.putRow (Value.int .i64) (Sort.ahead w q) g 0 ((l0.filter fun x => !(x == 0)) ++ List.replicate (l0.length - (l0.filter fun x => !(x == 0)).length) 0).toArray) :=
    Lib.hid (Try.slices_DeleteFunc (Value.int .i64) (fun _ => rfl) (fun x : Int => x == 0) 114 #[] eg 0 Try.zeroValue3 g 0 c0 l0.toArray w (fun W x _ => impl_registers.gives x W) (fun n os dk x _ => impl_registers.gives x _) (holds_of_blockI hb htk) (by simp; omega) (by simpa using hn))
  generalize (l0.filter fun x => !(x == 0)) = F at *
  have hS : (F.mergeSort fun x y => decide (x ≤ y)).length = F.length := List.length_mergeSort _
  have HB := Aside0.mk HB
  have hb := Aside0.mk hb
  have HH := Lib.hid (fun (W : World) (cu : Array Value) (h1 : W.heap[g]? = some (.cells cu 3 (0, 0))) (h2 : cu.toList.take F.length = F.map (Value.int .i64)) => Try.slices_Sort_int g 0 c0 F W (holds_of_blockI h1 h2) (Array.getElem?_eq_some_iff.1 h1).1 (by omega))
  generalize (F.mergeSort fun x y => decide (x ≤ y)) = S at *
  have hle := impl_registers.le S
  have HC := Lib.hid (fun (W : World) (cu : Array Value) (h1 : W.heap[g]? = some (.cells cu 3 (0, 0))) (h2 : cu.toList.take S.length = S.map (Value.int .i64)) => Try.slices_Compact_int g 0 c0 S W (holds_of_blockI h1 h2) (by omega) (by omega))
  rw [hr] at hle
  rw [hr] at HC
  have FA := Aside0.mk (show F.length ≤ l0.length ∧ S.length = F.length ∧ r.length ≤ S.length ∧ l0.length ≤ cur.size ∧ cur.size = c0 ∧ l0.length ≤ c0 ∧ c0 ≤ maxLen ∧ base ≤ g from ⟨hfl, hS, hle, by omega, hcs, hn, hcap, hg⟩)
  have HD2 := HD
  clear HD h hr hpos hl hrep hil htk hlt hfl hle hcs hn hcap hg
  rw [hS] at HC
  clear hS
  go_enter Try.func95, Try.ntmps95
  go_wp2_with fail
  refine HD2.out.mono ?_
  rintro e w1 ⟨rfl, q1, hw1⟩
  obtain ⟨f1, f2, f3, f4, f5, f6, f7, f8⟩ := FA.out
  have ha : (F ++ List.replicate (l0.length - F.length) 0).length = l0.length := by simp; omega
  obtain ⟨c1, hb1, hc1, ht1, HB1⟩ := impl_registers.step (W' := w1) (n := q1) (os := #[]) (F ++ List.replicate (l0.length - F.length) 0) HB.out f8 hb.out (by omega) (by rw [Sort.grow_empty]; exact hw1)
  have ht1 : c1.toList.take F.length = F.map (Value.int .i64) := by
    have := congrArg (List.take F.length) ht1
    rw [List.take_take, List.map_append, List.take_append_of_le_length (by simp), List.take_of_length_le (l := F.map (Value.int .i64)) (by simp)] at this
    rw [← this]; congr 1; omega
  have HH1 := Lib.hid (HH.out w1 c1 hb1 ht1)
  have hb1 := Aside0.mk hb1
  have HB1 := Aside0.mk HB1
  have hc1 := Aside0.mk hc1
  clear hw1 HH HD2 hb HB ht1 ha f1 f2 f3 f4 f5 f6 f7 f8
  go_wp2_with fail
  refine HH1.out.mono ?_
  rintro e w2 ⟨rfl, n2, os2, hw2⟩
  obtain ⟨f1, f2, f3, f4, f5, f6, f7, f8⟩ := FA.out
  obtain ⟨c2, hb2, hc2, ht2, HB2⟩ := impl_registers.step S HB1.out f8 hb1.out (by rw [hc1.out]; omega) hw2
  have HC2 := Lib.hid (HC.out w2 c2 hb2 (by rw [← f2]; exact ht2))
  have hb2 := Aside0.mk hb2
  have HB2 := Aside0.mk HB2
  have hc2 := Aside0.mk (hc2.trans hc1.out)
  clear hw2 HH1 HC hb1 HB1 hc1 ht2 f1 f2 f3 f4 f5 f6 f7 f8
  go_wp2_with fail
  refine HC2.out.mono ?_
  rintro e w3 ⟨rfl, q3, hw3⟩
  obtain ⟨f1, f2, f3, f4, f5, f6, f7, f8⟩ := FA.out
  have ha : (r ++ List.replicate (F.length - r.length) 0).length = F.length := by simp; omega
  obtain ⟨c3, hb3, hc3, ht3, HB3⟩ := impl_registers.step (W' := w3) (n := q3) (os := #[]) (r ++ List.replicate (F.length - r.length) 0) HB2.out f8 hb2.out (by rw [hc2.out]; omega) (by rw [Sort.grow_empty]; exact hw3)
  have ht3 : c3.toList.take r.length = r.map (Value.int .i64) := by
    have := congrArg (List.take r.length) ht3
    rw [List.take_take, List.map_append, List.take_append_of_le_length (by simp), List.take_of_length_le (l := r.map (Value.int .i64)) (by simp)] at this
    rw [← this]; congr 1; omega
  have hc3 := hc3.trans hc2.out
  have hb3 := Aside0.mk hb3
  have HB3 := Aside0.mk HB3
  have fin := Aside0.mk (show Kd.R (Kd.int .i64) 3 w3 base (fun _ => True) (.slice (some ⟨g, 0, none⟩) r.length c0) r from
    ⟨fun _ _ => trivial, r.map (Value.int .i64), ⟨by simp [Kd.int, Kd.scalar], .inr ⟨g, c0, c3, rfl, f8, hb3.out, by omega, f7, by simp [Kd.int, Kd.scalar]; omega, by simpa [Kd.int, Kd.scalar] using ht3⟩⟩, Kd.reps_scalar r⟩)
  clear hw3 HC2 hb2 HB2 hc2 ht3 ha f1 f2 f3 f4 f5 f6 f7 f8 hc3 hb3
  go_wp2_with fail
  go_ret
  exact ⟨_, rfl, fin.out, HB3.out⟩

end Go.Proofs.Ytboginbepgopeaa.PFnExactReads

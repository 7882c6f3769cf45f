/- Printed by a program out of the translation, with contracts of my own set in. -/
import Derived.Test.YtkepakklhnhnkaaPFnExactInstrOkx0
import Derived.Test.YtkepakklhnhnkaaPFnExactInstrOkx1
namespace Go.Proofs.Ytkepakklhnhnkaa.PFnExactInstrOk
open Go.RowKit Go.Proofs.YtkepakklhnhnkaaW.PrintWords Go.Proofs.YtkepakklhnhnkaaW.PrintLast Go.Proofs.YtkepakklhnhnkaaW.PrintMore
attribute [local go_sem] max2_int min2_int max_two min_two max_three min_three max_four min_four   -- for this text's walks alone
set_option linter.unusedVariables false
set_option linter.unusedSimpArgs false

/-! ### impl_isInstr: function 68 -/
/-- The form of an op; -1 when it is none. -/
def impl_isInstr.form (op : Int) : Int :=
  if op < 0 then -1 else if 32 < op then -1 else if 1 ≤ op ∧ op ≤ 12 then 7 else if op = 0 ∨ op = 30 ∨ op = 31 then 0 else if op = 14 ∨ op = 22 ∨ op = 28 ∨ op = 29 then 9 else if op = 23 then 10 else if op = 24 then 1 else if op = 32 then 8 else 11
def impl_isInstr.fld (form bit x lo hi : Int) : Bool := if form / bit % 2 = 1 then decide (lo ≤ x ∧ x ≤ hi) else decide (x = 0)
/-- Whether an instruction is ok. -/
def impl_isInstr.ok (op a b c imm : Int) : Bool :=
  decide (0 ≤ op ∧ op ≤ 32) && impl_isInstr.fld (impl_isInstr.form op) 1 a 0 15 && impl_isInstr.fld (impl_isInstr.form op) 2 b 0 15 && impl_isInstr.fld (impl_isInstr.form op) 4 c 0 15 && impl_isInstr.fld (impl_isInstr.form op) 8 imm (-8192) 8191
def impl_isInstr.f (a0_0 : Int) (a0_1 : Int) (a0_2 : Int) (a0_3 : Int) (a0_4 : Int) : Option (Bool) := some (impl_isInstr.ok a0_0 a0_1 a0_2 a0_3 a0_4)
theorem impl_isInstr.form_small : ∀ n : Fin 33, impl_formOf.f 8 (n.val : Int) = some (impl_isInstr.form (n.val : Int)) := by decide +kernel
theorem impl_isInstr.form_eq (op : Int) : impl_formOf.f 8 op = some (impl_isInstr.form op) := by
  by_cases h : 0 ≤ op ∧ op ≤ 32
  · obtain ⟨n, rfl⟩ := Int.eq_ofNat_of_zero_le h.1
    exact impl_isInstr.form_small ⟨n, by omega⟩
  · have e : impl_within.f op 0 32 = some false := by
      unfold impl_within.f
      by_cases h1 : op ≥ 0
      · rw [if_pos h1]; congr 1; simp; omega
      · rw [if_neg h1]
    have e2 : impl_isInstr.form op = -1 := by
      unfold impl_isInstr.form
      by_cases h1 : op < 0
      · rw [if_pos h1]
      · rw [if_neg h1, if_pos (by omega)]
    unfold impl_formOf.f
    rw [e, e2]; rfl
theorem impl_isInstr.within (n lo hi : Int) (w : World) : Calls Try.prog 60 #[.int .i64 n, .int .i64 lo, .int .i64 hi] w fun e w' => e = .returned (.bool (decide (lo ≤ n ∧ n ≤ hi))) ∧ Drawn0 w w' := by
  refine impl_within.calls n lo hi (decide (lo ≤ n ∧ n ≤ hi)) w ?_
  unfold impl_within.f
  by_cases h : n ≥ lo
  · rw [if_pos h]; congr 1; simp; omega
  · rw [if_neg h]; congr 1; simp; omega
theorem impl_isInstr.yes (n lo hi : Int) (w : World) (h : lo ≤ n ∧ n ≤ hi) : Calls Try.prog 60 #[.int .i64 n, .int .i64 lo, .int .i64 hi] w fun e w' => e = .returned (.bool true) ∧ Drawn0 w w' := by
  have := impl_isInstr.within n lo hi w
  rwa [decide_eq_true h] at this
theorem impl_isInstr.no (n lo hi : Int) (w : World) (h : ¬ (lo ≤ n ∧ n ≤ hi)) : Calls Try.prog 60 #[.int .i64 n, .int .i64 lo, .int .i64 hi] w fun e w' => e = .returned (.bool false) ∧ Drawn0 w w' := by
  have := impl_isInstr.within n lo hi w
  rwa [decide_eq_false h] at this
theorem impl_isInstr.imm (n : Int) (w : World) : Calls Try.prog 80 #[.int .i64 n] w fun e w' => e = .returned (.bool (decide (-8192 ≤ n ∧ n ≤ 8191))) ∧ Drawn0 w w' := by
  refine impl_isImm.calls n (decide (-8192 ≤ n ∧ n ≤ 8191)) w ?_
  unfold impl_isImm.f impl_within.f
  by_cases h : n ≥ -8192
  · rw [if_pos h]; simp only [Option.bind_some]; congr 1; simp; omega
  · rw [if_neg h]; simp only [Option.bind_some]; congr 1; simp; omega
theorem impl_isInstr.beq (n : Int) : (n == 0) = decide (n = 0) := by rw [Bool.eq_iff_iff]; simp
theorem impl_isInstr.ret {a b : Bool} (h : a = b) : Ending.returned (.bool a) = Ending.returned (.bool b) := by rw [h]

set_option maxHeartbeats 8000000 in
set_option maxRecDepth 100000 in
theorem impl_isInstr.form0 (a0_0 : Int) (a0_1 : Int) (a0_2 : Int) (a0_3 : Int) (a0_4 : Int) (r : Bool) (w : World) (HF : Hid (impl_isInstr.form a0_0 = 0))
    (HR : Hid ((impl_isInstr.fld 0 1 a0_1 0 15 && impl_isInstr.fld 0 2 a0_2 0 15 && impl_isInstr.fld 0 4 a0_3 0 15 && impl_isInstr.fld 0 8 a0_4 (-8192) 8191) = r)) :
    Calls Try.prog 68 #[.agg #[.int .i64 a0_0, .int .i64 a0_1, .int .i64 a0_2, .int .i64 a0_3, .int .i64 a0_4]] w fun e w' => e = .returned (.bool r) ∧ Below w.heap.size w w' := by
  have hu := Try.underlying56
  have HFC := fun W => impl_formOf.calls 8 a0_0 0 W (by rw [impl_isInstr.form_eq, HF.out])
  have i0 : ∀ w, (Instr.index 90 (.agg #[.int .i64 a0_1, .int .i64 a0_2, .int .i64 a0_3]) (.int .i64 0)).run Try.prog w = .ok (.int .i64 a0_1) w := fun _ => by kernel_rfl
  have i1 : ∀ w, (Instr.index 90 (.agg #[.int .i64 a0_1, .int .i64 a0_2, .int .i64 a0_3]) (.int .i64 1)).run Try.prog w = .ok (.int .i64 a0_2) w := fun _ => by kernel_rfl
  have i2 : ∀ w, (Instr.index 90 (.agg #[.int .i64 a0_1, .int .i64 a0_2, .int .i64 a0_3]) (.int .i64 2)).run Try.prog w = .ok (.int .i64 a0_3) w := fun _ => by kernel_rfl
  have b0 : Go.bits .and .i64 0 1 = 0 := by decide +kernel
  have b8_ : Go.bits .and .i64 0 8 = 0 := by decide +kernel
  go_enter Try.func68, Try.ntmps68
  go_wp2_with (go_at_call 58; refine (HFC _).mono ?_; rintro e w' ⟨rfl, m, rfl⟩)
  go_loopw [18] (fun i wr => ∃ k n : Nat, k ≤ 3 ∧ i = .int .i64 k ∧ ((0 < k → impl_isInstr.fld 0 1 a0_1 0 15 = true) ∧ (1 < k → impl_isInstr.fld 0 2 a0_2 0 15 = true) ∧ (2 < k → impl_isInstr.fld 0 4 a0_3 0 15 = true)) ∧ wr = (w.alloc (.cells #[.int .i64 a0_0, .int .i64 a0_1, .int .i64 a0_2, .int .i64 a0_3, .int .i64 a0_4] 56)).drewN n) (fun i _ => 3 - (intOf i).toNat)
  case atStart => exact ⟨0, _, by omega, rfl, ⟨fun h => absurd h (by omega), fun h => absurd h (by omega), fun h => absurd h (by omega)⟩, rfl⟩
  case round =>
    obtain ⟨k, n, hk, rfl, hok, rfl⟩ := hrel
    have HOK := Lib.hid hok; clear hok
    rcases (show k = 0 ∨ k = 1 ∨ k = 2 ∨ k = 3 by omega) with rfl | rfl | rfl | rfl
    · by_cases hin : a0_1 = 0
      · have HIN := Lib.hid (show impl_isInstr.fld 0 1 a0_1 0 15 = true by unfold impl_isInstr.fld; rw [if_neg (by decide)]; simpa using hin)
        have z1 : (a0_1 != 0) = false := by rw [hin]; rfl
        have z2 : decide (a0_1 = 0) = true := by simp [hin]
        clear hin
        go_wp2
        go_roundw
        case rel => exact ⟨1, _, by omega, rfl, ⟨fun _ => HIN.out, fun h => absurd h (by omega), fun h => absurd h (by omega)⟩, rfl⟩
        case measure => simp [intOf]
      · have HNO := Lib.hid (show impl_isInstr.fld 0 1 a0_1 0 15 = false by unfold impl_isInstr.fld; rw [if_neg (by decide)]; simpa using hin)
        have z1 : (a0_1 != 0) = true := by simpa using hin
        have z2 : decide (a0_1 = 0) = false := by simpa using hin
        clear hin
        go_wp2
        go_ret
        refine ⟨?_, by repeat (first | exact Below.refl _ _ | apply below_alloc | apply pw_below_drewN)⟩
        refine impl_isInstr.ret (Eq.trans ?_ HR.out)
        rw [HNO.out]; simp
    · by_cases hin : a0_2 = 0
      · have HIN := Lib.hid (show impl_isInstr.fld 0 2 a0_2 0 15 = true by unfold impl_isInstr.fld; rw [if_neg (by decide)]; simpa using hin)
        have z1 : (a0_2 != 0) = false := by rw [hin]; rfl
        have z2 : decide (a0_2 = 0) = true := by simp [hin]
        clear hin
        go_wp2
        go_roundw
        case rel => exact ⟨2, _, by omega, rfl, ⟨fun _ => HOK.out.1 (by omega), fun _ => HIN.out, fun h => absurd h (by omega)⟩, rfl⟩
        case measure => simp [intOf]
      · have HNO := Lib.hid (show impl_isInstr.fld 0 2 a0_2 0 15 = false by unfold impl_isInstr.fld; rw [if_neg (by decide)]; simpa using hin)
        have z1 : (a0_2 != 0) = true := by simpa using hin
        have z2 : decide (a0_2 = 0) = false := by simpa using hin
        clear hin
        go_wp2
        go_ret
        refine ⟨?_, by repeat (first | exact Below.refl _ _ | apply below_alloc | apply pw_below_drewN)⟩
        refine impl_isInstr.ret (Eq.trans ?_ HR.out)
        rw [HNO.out]; simp
    · by_cases hin : a0_3 = 0
      · have HIN := Lib.hid (show impl_isInstr.fld 0 4 a0_3 0 15 = true by unfold impl_isInstr.fld; rw [if_neg (by decide)]; simpa using hin)
        have z1 : (a0_3 != 0) = false := by rw [hin]; rfl
        have z2 : decide (a0_3 = 0) = true := by simp [hin]
        clear hin
        go_wp2
        go_roundw
        case rel => exact ⟨3, _, by omega, rfl, ⟨fun _ => HOK.out.1 (by omega), fun _ => HOK.out.2.1 (by omega), fun _ => HIN.out⟩, rfl⟩
        case measure => simp [intOf]
      · have HNO := Lib.hid (show impl_isInstr.fld 0 4 a0_3 0 15 = false by unfold impl_isInstr.fld; rw [if_neg (by decide)]; simpa using hin)
        have z1 : (a0_3 != 0) = true := by simpa using hin
        have z2 : decide (a0_3 = 0) = false := by simpa using hin
        clear hin
        go_wp2
        go_ret
        refine ⟨?_, by repeat (first | exact Below.refl _ _ | apply below_alloc | apply pw_below_drewN)⟩
        refine impl_isInstr.ret (Eq.trans ?_ HR.out)
        rw [HNO.out]; simp
    · go_wp2
      go_ret
      refine ⟨?_, by repeat (first | exact Below.refl _ _ | apply below_alloc | apply pw_below_drewN)⟩
      refine impl_isInstr.ret (Eq.trans ?_ HR.out)
      rw [HOK.out.1 (by omega), HOK.out.2.1 (by omega), HOK.out.2.2 (by omega)]
      unfold impl_isInstr.fld; rw [if_neg (by decide)]; simp only [Bool.true_and]; exact impl_isInstr.beq _
set_option maxHeartbeats 8000000 in
set_option maxRecDepth 100000 in
theorem impl_isInstr.form1 (a0_0 : Int) (a0_1 : Int) (a0_2 : Int) (a0_3 : Int) (a0_4 : Int) (r : Bool) (w : World) (HF : Hid (impl_isInstr.form a0_0 = 1))
    (HR : Hid ((impl_isInstr.fld 1 1 a0_1 0 15 && impl_isInstr.fld 1 2 a0_2 0 15 && impl_isInstr.fld 1 4 a0_3 0 15 && impl_isInstr.fld 1 8 a0_4 (-8192) 8191) = r)) :
    Calls Try.prog 68 #[.agg #[.int .i64 a0_0, .int .i64 a0_1, .int .i64 a0_2, .int .i64 a0_3, .int .i64 a0_4]] w fun e w' => e = .returned (.bool r) ∧ Below w.heap.size w w' := by
  have hu := Try.underlying56
  have HFC := fun W => impl_formOf.calls 8 a0_0 1 W (by rw [impl_isInstr.form_eq, HF.out])
  have i0 : ∀ w, (Instr.index 90 (.agg #[.int .i64 a0_1, .int .i64 a0_2, .int .i64 a0_3]) (.int .i64 0)).run Try.prog w = .ok (.int .i64 a0_1) w := fun _ => by kernel_rfl
  have i1 : ∀ w, (Instr.index 90 (.agg #[.int .i64 a0_1, .int .i64 a0_2, .int .i64 a0_3]) (.int .i64 1)).run Try.prog w = .ok (.int .i64 a0_2) w := fun _ => by kernel_rfl
  have i2 : ∀ w, (Instr.index 90 (.agg #[.int .i64 a0_1, .int .i64 a0_2, .int .i64 a0_3]) (.int .i64 2)).run Try.prog w = .ok (.int .i64 a0_3) w := fun _ => by kernel_rfl
  have b0 : Go.bits .and .i64 0 1 = 0 := by decide +kernel
  have b1 : Go.bits .and .i64 1 1 = 1 := by decide +kernel
  have b8_ : Go.bits .and .i64 1 8 = 0 := by decide +kernel
  go_enter Try.func68, Try.ntmps68
  go_wp2_with (go_at_call 58; refine (HFC _).mono ?_; rintro e w' ⟨rfl, m, rfl⟩)
  go_loopw [18] (fun i wr => ∃ k n : Nat, k ≤ 3 ∧ i = .int .i64 k ∧ ((0 < k → impl_isInstr.fld 1 1 a0_1 0 15 = true) ∧ (1 < k → impl_isInstr.fld 1 2 a0_2 0 15 = true) ∧ (2 < k → impl_isInstr.fld 1 4 a0_3 0 15 = true)) ∧ wr = (w.alloc (.cells #[.int .i64 a0_0, .int .i64 a0_1, .int .i64 a0_2, .int .i64 a0_3, .int .i64 a0_4] 56)).drewN n) (fun i _ => 3 - (intOf i).toNat)
  case atStart => exact ⟨0, _, by omega, rfl, ⟨fun h => absurd h (by omega), fun h => absurd h (by omega), fun h => absurd h (by omega)⟩, rfl⟩
  case round =>
    obtain ⟨k, n, hk, rfl, hok, rfl⟩ := hrel
    have HOK := Lib.hid hok; clear hok
    rcases (show k = 0 ∨ k = 1 ∨ k = 2 ∨ k = 3 by omega) with rfl | rfl | rfl | rfl
    · by_cases hin : 0 ≤ a0_1 ∧ a0_1 ≤ 15
      · have HIN := Lib.hid (show impl_isInstr.fld 1 1 a0_1 0 15 = true by unfold impl_isInstr.fld; rw [if_pos (by decide)]; simpa using hin); have HI2 := Lib.hid hin; clear hin
        go_wp2_with (go_at_call 60; refine (impl_isInstr.yes a0_1 0 15 _ HI2.out).mono ?_; rintro e w' ⟨rfl, m, rfl⟩)
        go_roundw
        case rel => exact ⟨1, _, by omega, rfl, ⟨fun _ => HIN.out, fun h => absurd h (by omega), fun h => absurd h (by omega)⟩, rfl⟩
        case measure => simp [intOf]
      · have HNO := Lib.hid (show impl_isInstr.fld 1 1 a0_1 0 15 = false by unfold impl_isInstr.fld; rw [if_pos (by decide)]; simpa using hin); have HI2 := Lib.hid hin; clear hin
        go_wp2_with (go_at_call 60; refine (impl_isInstr.no a0_1 0 15 _ HI2.out).mono ?_; rintro e w' ⟨rfl, m, rfl⟩)
        go_ret
        refine ⟨?_, by repeat (first | exact Below.refl _ _ | apply below_alloc | apply pw_below_drewN)⟩
        refine impl_isInstr.ret (Eq.trans ?_ HR.out)
        rw [HNO.out]; simp
    · by_cases hin : a0_2 = 0
      · have HIN := Lib.hid (show impl_isInstr.fld 1 2 a0_2 0 15 = true by unfold impl_isInstr.fld; rw [if_neg (by decide)]; simpa using hin)
        have z1 : (a0_2 != 0) = false := by rw [hin]; rfl
        have z2 : decide (a0_2 = 0) = true := by simp [hin]
        clear hin
        go_wp2
        go_roundw
        case rel => exact ⟨2, _, by omega, rfl, ⟨fun _ => HOK.out.1 (by omega), fun _ => HIN.out, fun h => absurd h (by omega)⟩, rfl⟩
        case measure => simp [intOf]
      · have HNO := Lib.hid (show impl_isInstr.fld 1 2 a0_2 0 15 = false by unfold impl_isInstr.fld; rw [if_neg (by decide)]; simpa using hin)
        have z1 : (a0_2 != 0) = true := by simpa using hin
        have z2 : decide (a0_2 = 0) = false := by simpa using hin
        clear hin
        go_wp2
        go_ret
        refine ⟨?_, by repeat (first | exact Below.refl _ _ | apply below_alloc | apply pw_below_drewN)⟩
        refine impl_isInstr.ret (Eq.trans ?_ HR.out)
        rw [HNO.out]; simp
    · by_cases hin : a0_3 = 0
      · have HIN := Lib.hid (show impl_isInstr.fld 1 4 a0_3 0 15 = true by unfold impl_isInstr.fld; rw [if_neg (by decide)]; simpa using hin)
        have z1 : (a0_3 != 0) = false := by rw [hin]; rfl
        have z2 : decide (a0_3 = 0) = true := by simp [hin]
        clear hin
        go_wp2
        go_roundw
        case rel => exact ⟨3, _, by omega, rfl, ⟨fun _ => HOK.out.1 (by omega), fun _ => HOK.out.2.1 (by omega), fun _ => HIN.out⟩, rfl⟩
        case measure => simp [intOf]
      · have HNO := Lib.hid (show impl_isInstr.fld 1 4 a0_3 0 15 = false by unfold impl_isInstr.fld; rw [if_neg (by decide)]; simpa using hin)
        have z1 : (a0_3 != 0) = true := by simpa using hin
        have z2 : decide (a0_3 = 0) = false := by simpa using hin
        clear hin
        go_wp2
        go_ret
        refine ⟨?_, by repeat (first | exact Below.refl _ _ | apply below_alloc | apply pw_below_drewN)⟩
        refine impl_isInstr.ret (Eq.trans ?_ HR.out)
        rw [HNO.out]; simp
    · go_wp2
      go_ret
      refine ⟨?_, by repeat (first | exact Below.refl _ _ | apply below_alloc | apply pw_below_drewN)⟩
      refine impl_isInstr.ret (Eq.trans ?_ HR.out)
      rw [HOK.out.1 (by omega), HOK.out.2.1 (by omega), HOK.out.2.2 (by omega)]
      unfold impl_isInstr.fld; rw [if_neg (by decide)]; simp only [Bool.true_and]; exact impl_isInstr.beq _
set_option maxHeartbeats 8000000 in
set_option maxRecDepth 100000 in
theorem impl_isInstr.form7 (a0_0 : Int) (a0_1 : Int) (a0_2 : Int) (a0_3 : Int) (a0_4 : Int) (r : Bool) (w : World) (HF : Hid (impl_isInstr.form a0_0 = 7))
    (HR : Hid ((impl_isInstr.fld 7 1 a0_1 0 15 && impl_isInstr.fld 7 2 a0_2 0 15 && impl_isInstr.fld 7 4 a0_3 0 15 && impl_isInstr.fld 7 8 a0_4 (-8192) 8191) = r)) :
    Calls Try.prog 68 #[.agg #[.int .i64 a0_0, .int .i64 a0_1, .int .i64 a0_2, .int .i64 a0_3, .int .i64 a0_4]] w fun e w' => e = .returned (.bool r) ∧ Below w.heap.size w w' := by
  have hu := Try.underlying56
  have HFC := fun W => impl_formOf.calls 8 a0_0 7 W (by rw [impl_isInstr.form_eq, HF.out])
  have i0 : ∀ w, (Instr.index 90 (.agg #[.int .i64 a0_1, .int .i64 a0_2, .int .i64 a0_3]) (.int .i64 0)).run Try.prog w = .ok (.int .i64 a0_1) w := fun _ => by kernel_rfl
  have i1 : ∀ w, (Instr.index 90 (.agg #[.int .i64 a0_1, .int .i64 a0_2, .int .i64 a0_3]) (.int .i64 1)).run Try.prog w = .ok (.int .i64 a0_2) w := fun _ => by kernel_rfl
  have i2 : ∀ w, (Instr.index 90 (.agg #[.int .i64 a0_1, .int .i64 a0_2, .int .i64 a0_3]) (.int .i64 2)).run Try.prog w = .ok (.int .i64 a0_3) w := fun _ => by kernel_rfl
  have b1 : Go.bits .and .i64 1 1 = 1 := by decide +kernel
  have b3 : Go.bits .and .i64 3 1 = 1 := by decide +kernel
  have b7 : Go.bits .and .i64 7 1 = 1 := by decide +kernel
  have b8_ : Go.bits .and .i64 7 8 = 0 := by decide +kernel
  go_enter Try.func68, Try.ntmps68
  go_wp2_with (go_at_call 58; refine (HFC _).mono ?_; rintro e w' ⟨rfl, m, rfl⟩)
  go_loopw [18] (fun i wr => ∃ k n : Nat, k ≤ 3 ∧ i = .int .i64 k ∧ ((0 < k → impl_isInstr.fld 7 1 a0_1 0 15 = true) ∧ (1 < k → impl_isInstr.fld 7 2 a0_2 0 15 = true) ∧ (2 < k → impl_isInstr.fld 7 4 a0_3 0 15 = true)) ∧ wr = (w.alloc (.cells #[.int .i64 a0_0, .int .i64 a0_1, .int .i64 a0_2, .int .i64 a0_3, .int .i64 a0_4] 56)).drewN n) (fun i _ => 3 - (intOf i).toNat)
  case atStart => exact ⟨0, _, by omega, rfl, ⟨fun h => absurd h (by omega), fun h => absurd h (by omega), fun h => absurd h (by omega)⟩, rfl⟩
  case round =>
    obtain ⟨k, n, hk, rfl, hok, rfl⟩ := hrel
    have HOK := Lib.hid hok; clear hok
    rcases (show k = 0 ∨ k = 1 ∨ k = 2 ∨ k = 3 by omega) with rfl | rfl | rfl | rfl
    · by_cases hin : 0 ≤ a0_1 ∧ a0_1 ≤ 15
      · have HIN := Lib.hid (show impl_isInstr.fld 7 1 a0_1 0 15 = true by unfold impl_isInstr.fld; rw [if_pos (by decide)]; simpa using hin); have HI2 := Lib.hid hin; clear hin
        go_wp2_with (go_at_call 60; refine (impl_isInstr.yes a0_1 0 15 _ HI2.out).mono ?_; rintro e w' ⟨rfl, m, rfl⟩)
        go_roundw
        case rel => exact ⟨1, _, by omega, rfl, ⟨fun _ => HIN.out, fun h => absurd h (by omega), fun h => absurd h (by omega)⟩, rfl⟩
        case measure => simp [intOf]
      · have HNO := Lib.hid (show impl_isInstr.fld 7 1 a0_1 0 15 = false by unfold impl_isInstr.fld; rw [if_pos (by decide)]; simpa using hin); have HI2 := Lib.hid hin; clear hin
        go_wp2_with (go_at_call 60; refine (impl_isInstr.no a0_1 0 15 _ HI2.out).mono ?_; rintro e w' ⟨rfl, m, rfl⟩)
        go_ret
        refine ⟨?_, by repeat (first | exact Below.refl _ _ | apply below_alloc | apply pw_below_drewN)⟩
        refine impl_isInstr.ret (Eq.trans ?_ HR.out)
        rw [HNO.out]; simp
    · by_cases hin : 0 ≤ a0_2 ∧ a0_2 ≤ 15
      · have HIN := Lib.hid (show impl_isInstr.fld 7 2 a0_2 0 15 = true by unfold impl_isInstr.fld; rw [if_pos (by decide)]; simpa using hin); have HI2 := Lib.hid hin; clear hin
        go_wp2_with (go_at_call 60; refine (impl_isInstr.yes a0_2 0 15 _ HI2.out).mono ?_; rintro e w' ⟨rfl, m, rfl⟩)
        go_roundw
        case rel => exact ⟨2, _, by omega, rfl, ⟨fun _ => HOK.out.1 (by omega), fun _ => HIN.out, fun h => absurd h (by omega)⟩, rfl⟩
        case measure => simp [intOf]
      · have HNO := Lib.hid (show impl_isInstr.fld 7 2 a0_2 0 15 = false by unfold impl_isInstr.fld; rw [if_pos (by decide)]; simpa using hin); have HI2 := Lib.hid hin; clear hin
        go_wp2_with (go_at_call 60; refine (impl_isInstr.no a0_2 0 15 _ HI2.out).mono ?_; rintro e w' ⟨rfl, m, rfl⟩)
        go_ret
        refine ⟨?_, by repeat (first | exact Below.refl _ _ | apply below_alloc | apply pw_below_drewN)⟩
        refine impl_isInstr.ret (Eq.trans ?_ HR.out)
        rw [HNO.out]; simp
    · by_cases hin : 0 ≤ a0_3 ∧ a0_3 ≤ 15
      · have HIN := Lib.hid (show impl_isInstr.fld 7 4 a0_3 0 15 = true by unfold impl_isInstr.fld; rw [if_pos (by decide)]; simpa using hin); have HI2 := Lib.hid hin; clear hin
        go_wp2_with (go_at_call 60; refine (impl_isInstr.yes a0_3 0 15 _ HI2.out).mono ?_; rintro e w' ⟨rfl, m, rfl⟩)
        go_roundw
        case rel => exact ⟨3, _, by omega, rfl, ⟨fun _ => HOK.out.1 (by omega), fun _ => HOK.out.2.1 (by omega), fun _ => HIN.out⟩, rfl⟩
        case measure => simp [intOf]
      · have HNO := Lib.hid (show impl_isInstr.fld 7 4 a0_3 0 15 = false by unfold impl_isInstr.fld; rw [if_pos (by decide)]; simpa using hin); have HI2 := Lib.hid hin; clear hin
        go_wp2_with (go_at_call 60; refine (impl_isInstr.no a0_3 0 15 _ HI2.out).mono ?_; rintro e w' ⟨rfl, m, rfl⟩)
        go_ret
        refine ⟨?_, by repeat (first | exact Below.refl _ _ | apply below_alloc | apply pw_below_drewN)⟩
        refine impl_isInstr.ret (Eq.trans ?_ HR.out)
        rw [HNO.out]; simp
    · go_wp2
      go_ret
      refine ⟨?_, by repeat (first | exact Below.refl _ _ | apply below_alloc | apply pw_below_drewN)⟩
      refine impl_isInstr.ret (Eq.trans ?_ HR.out)
      rw [HOK.out.1 (by omega), HOK.out.2.1 (by omega), HOK.out.2.2 (by omega)]
      unfold impl_isInstr.fld; rw [if_neg (by decide)]; simp only [Bool.true_and]; exact impl_isInstr.beq _
set_option maxHeartbeats 8000000 in
set_option maxRecDepth 100000 in
theorem impl_isInstr.form8 (a0_0 : Int) (a0_1 : Int) (a0_2 : Int) (a0_3 : Int) (a0_4 : Int) (r : Bool) (w : World) (HF : Hid (impl_isInstr.form a0_0 = 8))
    (HR : Hid ((impl_isInstr.fld 8 1 a0_1 0 15 && impl_isInstr.fld 8 2 a0_2 0 15 && impl_isInstr.fld 8 4 a0_3 0 15 && impl_isInstr.fld 8 8 a0_4 (-8192) 8191) = r)) :
    Calls Try.prog 68 #[.agg #[.int .i64 a0_0, .int .i64 a0_1, .int .i64 a0_2, .int .i64 a0_3, .int .i64 a0_4]] w fun e w' => e = .returned (.bool r) ∧ Below w.heap.size w w' := by
  have hu := Try.underlying56
  have HFC := fun W => impl_formOf.calls 8 a0_0 8 W (by rw [impl_isInstr.form_eq, HF.out])
  have i0 : ∀ w, (Instr.index 90 (.agg #[.int .i64 a0_1, .int .i64 a0_2, .int .i64 a0_3]) (.int .i64 0)).run Try.prog w = .ok (.int .i64 a0_1) w := fun _ => by kernel_rfl
  have i1 : ∀ w, (Instr.index 90 (.agg #[.int .i64 a0_1, .int .i64 a0_2, .int .i64 a0_3]) (.int .i64 1)).run Try.prog w = .ok (.int .i64 a0_2) w := fun _ => by kernel_rfl
  have i2 : ∀ w, (Instr.index 90 (.agg #[.int .i64 a0_1, .int .i64 a0_2, .int .i64 a0_3]) (.int .i64 2)).run Try.prog w = .ok (.int .i64 a0_3) w := fun _ => by kernel_rfl
  have b2 : Go.bits .and .i64 2 1 = 0 := by decide +kernel
  have b4 : Go.bits .and .i64 4 1 = 0 := by decide +kernel
  have b8 : Go.bits .and .i64 8 1 = 0 := by decide +kernel
  have b8_ : Go.bits .and .i64 8 8 = 8 := by decide +kernel
  go_enter Try.func68, Try.ntmps68
  go_wp2_with (go_at_call 58; refine (HFC _).mono ?_; rintro e w' ⟨rfl, m, rfl⟩)
  go_loopw [18] (fun i wr => ∃ k n : Nat, k ≤ 3 ∧ i = .int .i64 k ∧ ((0 < k → impl_isInstr.fld 8 1 a0_1 0 15 = true) ∧ (1 < k → impl_isInstr.fld 8 2 a0_2 0 15 = true) ∧ (2 < k → impl_isInstr.fld 8 4 a0_3 0 15 = true)) ∧ wr = (w.alloc (.cells #[.int .i64 a0_0, .int .i64 a0_1, .int .i64 a0_2, .int .i64 a0_3, .int .i64 a0_4] 56)).drewN n) (fun i _ => 3 - (intOf i).toNat)
  case atStart => exact ⟨0, _, by omega, rfl, ⟨fun h => absurd h (by omega), fun h => absurd h (by omega), fun h => absurd h (by omega)⟩, rfl⟩
  case round =>
    obtain ⟨k, n, hk, rfl, hok, rfl⟩ := hrel
    have HOK := Lib.hid hok; clear hok
    rcases (show k = 0 ∨ k = 1 ∨ k = 2 ∨ k = 3 by omega) with rfl | rfl | rfl | rfl
    · by_cases hin : a0_1 = 0
      · have HIN := Lib.hid (show impl_isInstr.fld 8 1 a0_1 0 15 = true by unfold impl_isInstr.fld; rw [if_neg (by decide)]; simpa using hin)
        have z1 : (a0_1 != 0) = false := by rw [hin]; rfl
        have z2 : decide (a0_1 = 0) = true := by simp [hin]
        clear hin
        go_wp2
        go_roundw
        case rel => exact ⟨1, _, by omega, rfl, ⟨fun _ => HIN.out, fun h => absurd h (by omega), fun h => absurd h (by omega)⟩, rfl⟩
        case measure => simp [intOf]
      · have HNO := Lib.hid (show impl_isInstr.fld 8 1 a0_1 0 15 = false by unfold impl_isInstr.fld; rw [if_neg (by decide)]; simpa using hin)
        have z1 : (a0_1 != 0) = true := by simpa using hin
        have z2 : decide (a0_1 = 0) = false := by simpa using hin
        clear hin
        go_wp2
        go_ret
        refine ⟨?_, by repeat (first | exact Below.refl _ _ | apply below_alloc | apply pw_below_drewN)⟩
        refine impl_isInstr.ret (Eq.trans ?_ HR.out)
        rw [HNO.out]; simp
    · by_cases hin : a0_2 = 0
      · have HIN := Lib.hid (show impl_isInstr.fld 8 2 a0_2 0 15 = true by unfold impl_isInstr.fld; rw [if_neg (by decide)]; simpa using hin)
        have z1 : (a0_2 != 0) = false := by rw [hin]; rfl
        have z2 : decide (a0_2 = 0) = true := by simp [hin]
        clear hin
        go_wp2
        go_roundw
        case rel => exact ⟨2, _, by omega, rfl, ⟨fun _ => HOK.out.1 (by omega), fun _ => HIN.out, fun h => absurd h (by omega)⟩, rfl⟩
        case measure => simp [intOf]
      · have HNO := Lib.hid (show impl_isInstr.fld 8 2 a0_2 0 15 = false by unfold impl_isInstr.fld; rw [if_neg (by decide)]; simpa using hin)
        have z1 : (a0_2 != 0) = true := by simpa using hin
        have z2 : decide (a0_2 = 0) = false := by simpa using hin
        clear hin
        go_wp2
        go_ret
        refine ⟨?_, by repeat (first | exact Below.refl _ _ | apply below_alloc | apply pw_below_drewN)⟩
        refine impl_isInstr.ret (Eq.trans ?_ HR.out)
        rw [HNO.out]; simp
    · by_cases hin : a0_3 = 0
      · have HIN := Lib.hid (show impl_isInstr.fld 8 4 a0_3 0 15 = true by unfold impl_isInstr.fld; rw [if_neg (by decide)]; simpa using hin)
        have z1 : (a0_3 != 0) = false := by rw [hin]; rfl
        have z2 : decide (a0_3 = 0) = true := by simp [hin]
        clear hin
        go_wp2
        go_roundw
        case rel => exact ⟨3, _, by omega, rfl, ⟨fun _ => HOK.out.1 (by omega), fun _ => HOK.out.2.1 (by omega), fun _ => HIN.out⟩, rfl⟩
        case measure => simp [intOf]
      · have HNO := Lib.hid (show impl_isInstr.fld 8 4 a0_3 0 15 = false by unfold impl_isInstr.fld; rw [if_neg (by decide)]; simpa using hin)
        have z1 : (a0_3 != 0) = true := by simpa using hin
        have z2 : decide (a0_3 = 0) = false := by simpa using hin
        clear hin
        go_wp2
        go_ret
        refine ⟨?_, by repeat (first | exact Below.refl _ _ | apply below_alloc | apply pw_below_drewN)⟩
        refine impl_isInstr.ret (Eq.trans ?_ HR.out)
        rw [HNO.out]; simp
    · go_wp2_with (go_at_call 80; refine (impl_isInstr.imm a0_4 _).mono ?_; rintro e w' ⟨rfl, m, rfl⟩)
      go_ret
      refine ⟨?_, by repeat (first | exact Below.refl _ _ | apply below_alloc | apply pw_below_drewN)⟩
      refine impl_isInstr.ret (Eq.trans ?_ HR.out)
      rw [HOK.out.1 (by omega), HOK.out.2.1 (by omega), HOK.out.2.2 (by omega)]
      unfold impl_isInstr.fld; rw [if_pos (by decide)]; simp
set_option maxHeartbeats 8000000 in
set_option maxRecDepth 100000 in
theorem impl_isInstr.form9 (a0_0 : Int) (a0_1 : Int) (a0_2 : Int) (a0_3 : Int) (a0_4 : Int) (r : Bool) (w : World) (HF : Hid (impl_isInstr.form a0_0 = 9))
    (HR : Hid ((impl_isInstr.fld 9 1 a0_1 0 15 && impl_isInstr.fld 9 2 a0_2 0 15 && impl_isInstr.fld 9 4 a0_3 0 15 && impl_isInstr.fld 9 8 a0_4 (-8192) 8191) = r)) :
    Calls Try.prog 68 #[.agg #[.int .i64 a0_0, .int .i64 a0_1, .int .i64 a0_2, .int .i64 a0_3, .int .i64 a0_4]] w fun e w' => e = .returned (.bool r) ∧ Below w.heap.size w w' := by
  have hu := Try.underlying56
  have HFC := fun W => impl_formOf.calls 8 a0_0 9 W (by rw [impl_isInstr.form_eq, HF.out])
  have i0 : ∀ w, (Instr.index 90 (.agg #[.int .i64 a0_1, .int .i64 a0_2, .int .i64 a0_3]) (.int .i64 0)).run Try.prog w = .ok (.int .i64 a0_1) w := fun _ => by kernel_rfl
  have i1 : ∀ w, (Instr.index 90 (.agg #[.int .i64 a0_1, .int .i64 a0_2, .int .i64 a0_3]) (.int .i64 1)).run Try.prog w = .ok (.int .i64 a0_2) w := fun _ => by kernel_rfl
  have i2 : ∀ w, (Instr.index 90 (.agg #[.int .i64 a0_1, .int .i64 a0_2, .int .i64 a0_3]) (.int .i64 2)).run Try.prog w = .ok (.int .i64 a0_3) w := fun _ => by kernel_rfl
  have b2 : Go.bits .and .i64 2 1 = 0 := by decide +kernel
  have b4 : Go.bits .and .i64 4 1 = 0 := by decide +kernel
  have b9 : Go.bits .and .i64 9 1 = 1 := by decide +kernel
  have b8_ : Go.bits .and .i64 9 8 = 8 := by decide +kernel
  go_enter Try.func68, Try.ntmps68
  go_wp2_with (go_at_call 58; refine (HFC _).mono ?_; rintro e w' ⟨rfl, m, rfl⟩)
  go_loopw [18] (fun i wr => ∃ k n : Nat, k ≤ 3 ∧ i = .int .i64 k ∧ ((0 < k → impl_isInstr.fld 9 1 a0_1 0 15 = true) ∧ (1 < k → impl_isInstr.fld 9 2 a0_2 0 15 = true) ∧ (2 < k → impl_isInstr.fld 9 4 a0_3 0 15 = true)) ∧ wr = (w.alloc (.cells #[.int .i64 a0_0, .int .i64 a0_1, .int .i64 a0_2, .int .i64 a0_3, .int .i64 a0_4] 56)).drewN n) (fun i _ => 3 - (intOf i).toNat)
  case atStart => exact ⟨0, _, by omega, rfl, ⟨fun h => absurd h (by omega), fun h => absurd h (by omega), fun h => absurd h (by omega)⟩, rfl⟩
  case round =>
    obtain ⟨k, n, hk, rfl, hok, rfl⟩ := hrel
    have HOK := Lib.hid hok; clear hok
    rcases (show k = 0 ∨ k = 1 ∨ k = 2 ∨ k = 3 by omega) with rfl | rfl | rfl | rfl
    · by_cases hin : 0 ≤ a0_1 ∧ a0_1 ≤ 15
      · have HIN := Lib.hid (show impl_isInstr.fld 9 1 a0_1 0 15 = true by unfold impl_isInstr.fld; rw [if_pos (by decide)]; simpa using hin); have HI2 := Lib.hid hin; clear hin
        go_wp2_with (go_at_call 60; refine (impl_isInstr.yes a0_1 0 15 _ HI2.out).mono ?_; rintro e w' ⟨rfl, m, rfl⟩)
        go_roundw
        case rel => exact ⟨1, _, by omega, rfl, ⟨fun _ => HIN.out, fun h => absurd h (by omega), fun h => absurd h (by omega)⟩, rfl⟩
        case measure => simp [intOf]
      · have HNO := Lib.hid (show impl_isInstr.fld 9 1 a0_1 0 15 = false by unfold impl_isInstr.fld; rw [if_pos (by decide)]; simpa using hin); have HI2 := Lib.hid hin; clear hin
        go_wp2_with (go_at_call 60; refine (impl_isInstr.no a0_1 0 15 _ HI2.out).mono ?_; rintro e w' ⟨rfl, m, rfl⟩)
        go_ret
        refine ⟨?_, by repeat (first | exact Below.refl _ _ | apply below_alloc | apply pw_below_drewN)⟩
        refine impl_isInstr.ret (Eq.trans ?_ HR.out)
        rw [HNO.out]; simp
    · by_cases hin : a0_2 = 0
      · have HIN := Lib.hid (show impl_isInstr.fld 9 2 a0_2 0 15 = true by unfold impl_isInstr.fld; rw [if_neg (by decide)]; simpa using hin)
        have z1 : (a0_2 != 0) = false := by rw [hin]; rfl
        have z2 : decide (a0_2 = 0) = true := by simp [hin]
        clear hin
        go_wp2
        go_roundw
        case rel => exact ⟨2, _, by omega, rfl, ⟨fun _ => HOK.out.1 (by omega), fun _ => HIN.out, fun h => absurd h (by omega)⟩, rfl⟩
        case measure => simp [intOf]
      · have HNO := Lib.hid (show impl_isInstr.fld 9 2 a0_2 0 15 = false by unfold impl_isInstr.fld; rw [if_neg (by decide)]; simpa using hin)
        have z1 : (a0_2 != 0) = true := by simpa using hin
        have z2 : decide (a0_2 = 0) = false := by simpa using hin
        clear hin
        go_wp2
        go_ret
        refine ⟨?_, by repeat (first | exact Below.refl _ _ | apply below_alloc | apply pw_below_drewN)⟩
        refine impl_isInstr.ret (Eq.trans ?_ HR.out)
        rw [HNO.out]; simp
    · by_cases hin : a0_3 = 0
      · have HIN := Lib.hid (show impl_isInstr.fld 9 4 a0_3 0 15 = true by unfold impl_isInstr.fld; rw [if_neg (by decide)]; simpa using hin)
        have z1 : (a0_3 != 0) = false := by rw [hin]; rfl
        have z2 : decide (a0_3 = 0) = true := by simp [hin]
        clear hin
        go_wp2
        go_roundw
        case rel => exact ⟨3, _, by omega, rfl, ⟨fun _ => HOK.out.1 (by omega), fun _ => HOK.out.2.1 (by omega), fun _ => HIN.out⟩, rfl⟩
        case measure => simp [intOf]
      · have HNO := Lib.hid (show impl_isInstr.fld 9 4 a0_3 0 15 = false by unfold impl_isInstr.fld; rw [if_neg (by decide)]; simpa using hin)
        have z1 : (a0_3 != 0) = true := by simpa using hin
        have z2 : decide (a0_3 = 0) = false := by simpa using hin
        clear hin
        go_wp2
        go_ret
        refine ⟨?_, by repeat (first | exact Below.refl _ _ | apply below_alloc | apply pw_below_drewN)⟩
        refine impl_isInstr.ret (Eq.trans ?_ HR.out)
        rw [HNO.out]; simp
    · go_wp2_with (go_at_call 80; refine (impl_isInstr.imm a0_4 _).mono ?_; rintro e w' ⟨rfl, m, rfl⟩)
      go_ret
      refine ⟨?_, by repeat (first | exact Below.refl _ _ | apply below_alloc | apply pw_below_drewN)⟩
      refine impl_isInstr.ret (Eq.trans ?_ HR.out)
      rw [HOK.out.1 (by omega), HOK.out.2.1 (by omega), HOK.out.2.2 (by omega)]
      unfold impl_isInstr.fld; rw [if_pos (by decide)]; simp
set_option maxHeartbeats 8000000 in
set_option maxRecDepth 100000 in
theorem impl_isInstr.form10 (a0_0 : Int) (a0_1 : Int) (a0_2 : Int) (a0_3 : Int) (a0_4 : Int) (r : Bool) (w : World) (HF : Hid (impl_isInstr.form a0_0 = 10))
    (HR : Hid ((impl_isInstr.fld 10 1 a0_1 0 15 && impl_isInstr.fld 10 2 a0_2 0 15 && impl_isInstr.fld 10 4 a0_3 0 15 && impl_isInstr.fld 10 8 a0_4 (-8192) 8191) = r)) :
    Calls Try.prog 68 #[.agg #[.int .i64 a0_0, .int .i64 a0_1, .int .i64 a0_2, .int .i64 a0_3, .int .i64 a0_4]] w fun e w' => e = .returned (.bool r) ∧ Below w.heap.size w w' := by
  have hu := Try.underlying56
  have HFC := fun W => impl_formOf.calls 8 a0_0 10 W (by rw [impl_isInstr.form_eq, HF.out])
  have i0 : ∀ w, (Instr.index 90 (.agg #[.int .i64 a0_1, .int .i64 a0_2, .int .i64 a0_3]) (.int .i64 0)).run Try.prog w = .ok (.int .i64 a0_1) w := fun _ => by kernel_rfl
  have i1 : ∀ w, (Instr.index 90 (.agg #[.int .i64 a0_1, .int .i64 a0_2, .int .i64 a0_3]) (.int .i64 1)).run Try.prog w = .ok (.int .i64 a0_2) w := fun _ => by kernel_rfl
  have i2 : ∀ w, (Instr.index 90 (.agg #[.int .i64 a0_1, .int .i64 a0_2, .int .i64 a0_3]) (.int .i64 2)).run Try.prog w = .ok (.int .i64 a0_3) w := fun _ => by kernel_rfl
  have b2 : Go.bits .and .i64 2 1 = 0 := by decide +kernel
  have b5 : Go.bits .and .i64 5 1 = 1 := by decide +kernel
  have b10 : Go.bits .and .i64 10 1 = 0 := by decide +kernel
  have b8_ : Go.bits .and .i64 10 8 = 8 := by decide +kernel
  go_enter Try.func68, Try.ntmps68
  go_wp2_with (go_at_call 58; refine (HFC _).mono ?_; rintro e w' ⟨rfl, m, rfl⟩)
  go_loopw [18] (fun i wr => ∃ k n : Nat, k ≤ 3 ∧ i = .int .i64 k ∧ ((0 < k → impl_isInstr.fld 10 1 a0_1 0 15 = true) ∧ (1 < k → impl_isInstr.fld 10 2 a0_2 0 15 = true) ∧ (2 < k → impl_isInstr.fld 10 4 a0_3 0 15 = true)) ∧ wr = (w.alloc (.cells #[.int .i64 a0_0, .int .i64 a0_1, .int .i64 a0_2, .int .i64 a0_3, .int .i64 a0_4] 56)).drewN n) (fun i _ => 3 - (intOf i).toNat)
  case atStart => exact ⟨0, _, by omega, rfl, ⟨fun h => absurd h (by omega), fun h => absurd h (by omega), fun h => absurd h (by omega)⟩, rfl⟩
  case round =>
    obtain ⟨k, n, hk, rfl, hok, rfl⟩ := hrel
    have HOK := Lib.hid hok; clear hok
    rcases (show k = 0 ∨ k = 1 ∨ k = 2 ∨ k = 3 by omega) with rfl | rfl | rfl | rfl
    · by_cases hin : a0_1 = 0
      · have HIN := Lib.hid (show impl_isInstr.fld 10 1 a0_1 0 15 = true by unfold impl_isInstr.fld; rw [if_neg (by decide)]; simpa using hin)
        have z1 : (a0_1 != 0) = false := by rw [hin]; rfl
        have z2 : decide (a0_1 = 0) = true := by simp [hin]
        clear hin
        go_wp2
        go_roundw
        case rel => exact ⟨1, _, by omega, rfl, ⟨fun _ => HIN.out, fun h => absurd h (by omega), fun h => absurd h (by omega)⟩, rfl⟩
        case measure => simp [intOf]
      · have HNO := Lib.hid (show impl_isInstr.fld 10 1 a0_1 0 15 = false by unfold impl_isInstr.fld; rw [if_neg (by decide)]; simpa using hin)
        have z1 : (a0_1 != 0) = true := by simpa using hin
        have z2 : decide (a0_1 = 0) = false := by simpa using hin
        clear hin
        go_wp2
        go_ret
        refine ⟨?_, by repeat (first | exact Below.refl _ _ | apply below_alloc | apply pw_below_drewN)⟩
        refine impl_isInstr.ret (Eq.trans ?_ HR.out)
        rw [HNO.out]; simp
    · by_cases hin : 0 ≤ a0_2 ∧ a0_2 ≤ 15
      · have HIN := Lib.hid (show impl_isInstr.fld 10 2 a0_2 0 15 = true by unfold impl_isInstr.fld; rw [if_pos (by decide)]; simpa using hin); have HI2 := Lib.hid hin; clear hin
        go_wp2_with (go_at_call 60; refine (impl_isInstr.yes a0_2 0 15 _ HI2.out).mono ?_; rintro e w' ⟨rfl, m, rfl⟩)
        go_roundw
        case rel => exact ⟨2, _, by omega, rfl, ⟨fun _ => HOK.out.1 (by omega), fun _ => HIN.out, fun h => absurd h (by omega)⟩, rfl⟩
        case measure => simp [intOf]
      · have HNO := Lib.hid (show impl_isInstr.fld 10 2 a0_2 0 15 = false by unfold impl_isInstr.fld; rw [if_pos (by decide)]; simpa using hin); have HI2 := Lib.hid hin; clear hin
        go_wp2_with (go_at_call 60; refine (impl_isInstr.no a0_2 0 15 _ HI2.out).mono ?_; rintro e w' ⟨rfl, m, rfl⟩)
        go_ret
        refine ⟨?_, by repeat (first | exact Below.refl _ _ | apply below_alloc | apply pw_below_drewN)⟩
        refine impl_isInstr.ret (Eq.trans ?_ HR.out)
        rw [HNO.out]; simp
    · by_cases hin : a0_3 = 0
      · have HIN := Lib.hid (show impl_isInstr.fld 10 4 a0_3 0 15 = true by unfold impl_isInstr.fld; rw [if_neg (by decide)]; simpa using hin)
        have z1 : (a0_3 != 0) = false := by rw [hin]; rfl
        have z2 : decide (a0_3 = 0) = true := by simp [hin]
        clear hin
        go_wp2
        go_roundw
        case rel => exact ⟨3, _, by omega, rfl, ⟨fun _ => HOK.out.1 (by omega), fun _ => HOK.out.2.1 (by omega), fun _ => HIN.out⟩, rfl⟩
        case measure => simp [intOf]
      · have HNO := Lib.hid (show impl_isInstr.fld 10 4 a0_3 0 15 = false by unfold impl_isInstr.fld; rw [if_neg (by decide)]; simpa using hin)
        have z1 : (a0_3 != 0) = true := by simpa using hin
        have z2 : decide (a0_3 = 0) = false := by simpa using hin
        clear hin
        go_wp2
        go_ret
        refine ⟨?_, by repeat (first | exact Below.refl _ _ | apply below_alloc | apply pw_below_drewN)⟩
        refine impl_isInstr.ret (Eq.trans ?_ HR.out)
        rw [HNO.out]; simp
    · go_wp2_with (go_at_call 80; refine (impl_isInstr.imm a0_4 _).mono ?_; rintro e w' ⟨rfl, m, rfl⟩)
      go_ret
      refine ⟨?_, by repeat (first | exact Below.refl _ _ | apply below_alloc | apply pw_below_drewN)⟩
      refine impl_isInstr.ret (Eq.trans ?_ HR.out)
      rw [HOK.out.1 (by omega), HOK.out.2.1 (by omega), HOK.out.2.2 (by omega)]
      unfold impl_isInstr.fld; rw [if_pos (by decide)]; simp
set_option maxHeartbeats 8000000 in
set_option maxRecDepth 100000 in
theorem impl_isInstr.form11 (a0_0 : Int) (a0_1 : Int) (a0_2 : Int) (a0_3 : Int) (a0_4 : Int) (r : Bool) (w : World) (HF : Hid (impl_isInstr.form a0_0 = 11))
    (HR : Hid ((impl_isInstr.fld 11 1 a0_1 0 15 && impl_isInstr.fld 11 2 a0_2 0 15 && impl_isInstr.fld 11 4 a0_3 0 15 && impl_isInstr.fld 11 8 a0_4 (-8192) 8191) = r)) :
    Calls Try.prog 68 #[.agg #[.int .i64 a0_0, .int .i64 a0_1, .int .i64 a0_2, .int .i64 a0_3, .int .i64 a0_4]] w fun e w' => e = .returned (.bool r) ∧ Below w.heap.size w w' := by
  have hu := Try.underlying56
  have HFC := fun W => impl_formOf.calls 8 a0_0 11 W (by rw [impl_isInstr.form_eq, HF.out])
  have i0 : ∀ w, (Instr.index 90 (.agg #[.int .i64 a0_1, .int .i64 a0_2, .int .i64 a0_3]) (.int .i64 0)).run Try.prog w = .ok (.int .i64 a0_1) w := fun _ => by kernel_rfl
  have i1 : ∀ w, (Instr.index 90 (.agg #[.int .i64 a0_1, .int .i64 a0_2, .int .i64 a0_3]) (.int .i64 1)).run Try.prog w = .ok (.int .i64 a0_2) w := fun _ => by kernel_rfl
  have i2 : ∀ w, (Instr.index 90 (.agg #[.int .i64 a0_1, .int .i64 a0_2, .int .i64 a0_3]) (.int .i64 2)).run Try.prog w = .ok (.int .i64 a0_3) w := fun _ => by kernel_rfl
  have b2 : Go.bits .and .i64 2 1 = 0 := by decide +kernel
  have b5 : Go.bits .and .i64 5 1 = 1 := by decide +kernel
  have b11 : Go.bits .and .i64 11 1 = 1 := by decide +kernel
  have b8_ : Go.bits .and .i64 11 8 = 8 := by decide +kernel
  go_enter Try.func68, Try.ntmps68
  go_wp2_with (go_at_call 58; refine (HFC _).mono ?_; rintro e w' ⟨rfl, m, rfl⟩)
  go_loopw [18] (fun i wr => ∃ k n : Nat, k ≤ 3 ∧ i = .int .i64 k ∧ ((0 < k → impl_isInstr.fld 11 1 a0_1 0 15 = true) ∧ (1 < k → impl_isInstr.fld 11 2 a0_2 0 15 = true) ∧ (2 < k → impl_isInstr.fld 11 4 a0_3 0 15 = true)) ∧ wr = (w.alloc (.cells #[.int .i64 a0_0, .int .i64 a0_1, .int .i64 a0_2, .int .i64 a0_3, .int .i64 a0_4] 56)).drewN n) (fun i _ => 3 - (intOf i).toNat)
  case atStart => exact ⟨0, _, by omega, rfl, ⟨fun h => absurd h (by omega), fun h => absurd h (by omega), fun h => absurd h (by omega)⟩, rfl⟩
  case round =>
    obtain ⟨k, n, hk, rfl, hok, rfl⟩ := hrel
    have HOK := Lib.hid hok; clear hok
    rcases (show k = 0 ∨ k = 1 ∨ k = 2 ∨ k = 3 by omega) with rfl | rfl | rfl | rfl
    · by_cases hin : 0 ≤ a0_1 ∧ a0_1 ≤ 15
      · have HIN := Lib.hid (show impl_isInstr.fld 11 1 a0_1 0 15 = true by unfold impl_isInstr.fld; rw [if_pos (by decide)]; simpa using hin); have HI2 := Lib.hid hin; clear hin
        go_wp2_with (go_at_call 60; refine (impl_isInstr.yes a0_1 0 15 _ HI2.out).mono ?_; rintro e w' ⟨rfl, m, rfl⟩)
        go_roundw
        case rel => exact ⟨1, _, by omega, rfl, ⟨fun _ => HIN.out, fun h => absurd h (by omega), fun h => absurd h (by omega)⟩, rfl⟩
        case measure => simp [intOf]
      · have HNO := Lib.hid (show impl_isInstr.fld 11 1 a0_1 0 15 = false by unfold impl_isInstr.fld; rw [if_pos (by decide)]; simpa using hin); have HI2 := Lib.hid hin; clear hin
        go_wp2_with (go_at_call 60; refine (impl_isInstr.no a0_1 0 15 _ HI2.out).mono ?_; rintro e w' ⟨rfl, m, rfl⟩)
        go_ret
        refine ⟨?_, by repeat (first | exact Below.refl _ _ | apply below_alloc | apply pw_below_drewN)⟩
        refine impl_isInstr.ret (Eq.trans ?_ HR.out)
        rw [HNO.out]; simp
    · by_cases hin : 0 ≤ a0_2 ∧ a0_2 ≤ 15
      · have HIN := Lib.hid (show impl_isInstr.fld 11 2 a0_2 0 15 = true by unfold impl_isInstr.fld; rw [if_pos (by decide)]; simpa using hin); have HI2 := Lib.hid hin; clear hin
        go_wp2_with (go_at_call 60; refine (impl_isInstr.yes a0_2 0 15 _ HI2.out).mono ?_; rintro e w' ⟨rfl, m, rfl⟩)
        go_roundw
        case rel => exact ⟨2, _, by omega, rfl, ⟨fun _ => HOK.out.1 (by omega), fun _ => HIN.out, fun h => absurd h (by omega)⟩, rfl⟩
        case measure => simp [intOf]
      · have HNO := Lib.hid (show impl_isInstr.fld 11 2 a0_2 0 15 = false by unfold impl_isInstr.fld; rw [if_pos (by decide)]; simpa using hin); have HI2 := Lib.hid hin; clear hin
        go_wp2_with (go_at_call 60; refine (impl_isInstr.no a0_2 0 15 _ HI2.out).mono ?_; rintro e w' ⟨rfl, m, rfl⟩)
        go_ret
        refine ⟨?_, by repeat (first | exact Below.refl _ _ | apply below_alloc | apply pw_below_drewN)⟩
        refine impl_isInstr.ret (Eq.trans ?_ HR.out)
        rw [HNO.out]; simp
    · by_cases hin : a0_3 = 0
      · have HIN := Lib.hid (show impl_isInstr.fld 11 4 a0_3 0 15 = true by unfold impl_isInstr.fld; rw [if_neg (by decide)]; simpa using hin)
        have z1 : (a0_3 != 0) = false := by rw [hin]; rfl
        have z2 : decide (a0_3 = 0) = true := by simp [hin]
        clear hin
        go_wp2
        go_roundw
        case rel => exact ⟨3, _, by omega, rfl, ⟨fun _ => HOK.out.1 (by omega), fun _ => HOK.out.2.1 (by omega), fun _ => HIN.out⟩, rfl⟩
        case measure => simp [intOf]
      · have HNO := Lib.hid (show impl_isInstr.fld 11 4 a0_3 0 15 = false by unfold impl_isInstr.fld; rw [if_neg (by decide)]; simpa using hin)
        have z1 : (a0_3 != 0) = true := by simpa using hin
        have z2 : decide (a0_3 = 0) = false := by simpa using hin
        clear hin
        go_wp2
        go_ret
        refine ⟨?_, by repeat (first | exact Below.refl _ _ | apply below_alloc | apply pw_below_drewN)⟩
        refine impl_isInstr.ret (Eq.trans ?_ HR.out)
        rw [HNO.out]; simp
    · go_wp2_with (go_at_call 80; refine (impl_isInstr.imm a0_4 _).mono ?_; rintro e w' ⟨rfl, m, rfl⟩)
      go_ret
      refine ⟨?_, by repeat (first | exact Below.refl _ _ | apply below_alloc | apply pw_below_drewN)⟩
      refine impl_isInstr.ret (Eq.trans ?_ HR.out)
      rw [HOK.out.1 (by omega), HOK.out.2.1 (by omega), HOK.out.2.2 (by omega)]
      unfold impl_isInstr.fld; rw [if_pos (by decide)]; simp
set_option maxHeartbeats 8000000 in
set_option maxRecDepth 100000 in
theorem impl_isInstr.nope (a0_0 : Int) (a0_1 : Int) (a0_2 : Int) (a0_3 : Int) (a0_4 : Int) (w : World) (HF : Hid (impl_isInstr.form a0_0 = -1)) :
    Calls Try.prog 68 #[.agg #[.int .i64 a0_0, .int .i64 a0_1, .int .i64 a0_2, .int .i64 a0_3, .int .i64 a0_4]] w fun e w' => e = .returned (.bool false) ∧ Below w.heap.size w w' := by
  have hu := Try.underlying56
  have HFC := fun W => impl_formOf.calls 8 a0_0 (-1) W (by rw [impl_isInstr.form_eq, HF.out])
  go_enter Try.func68, Try.ntmps68
  go_wp2_with (go_at_call 58; refine (HFC _).mono ?_; rintro e w' ⟨rfl, m, rfl⟩)
  go_ret
  exact ⟨rfl, by repeat (first | exact Below.refl _ _ | apply below_alloc | apply pw_below_drewN)⟩
theorem impl_isInstr.forms (op : Int) (h : 0 ≤ op ∧ op ≤ 32) : impl_isInstr.form op = 0 ∨ impl_isInstr.form op = 1 ∨ impl_isInstr.form op = 7 ∨ impl_isInstr.form op = 8 ∨ impl_isInstr.form op = 9 ∨ impl_isInstr.form op = 10 ∨ impl_isInstr.form op = 11 := by
  unfold impl_isInstr.form
  repeat' split
  all_goals omega
theorem impl_isInstr.calls (a0_0 : Int) (a0_1 : Int) (a0_2 : Int) (a0_3 : Int) (a0_4 : Int) (r : Bool) (w : World) (h : impl_isInstr.f a0_0 a0_1 a0_2 a0_3 a0_4 = some r) :
    Calls Try.prog 68 #[.agg #[.int .i64 a0_0, .int .i64 a0_1, .int .i64 a0_2, .int .i64 a0_3, .int .i64 a0_4]] w fun e w' => e = .returned (.bool r) ∧ Below w.heap.size w w' := by
  have hr : impl_isInstr.ok a0_0 a0_1 a0_2 a0_3 a0_4 = r := Option.some.inj h
  unfold impl_isInstr.ok at hr
  by_cases hop : 0 ≤ a0_0 ∧ a0_0 ≤ 32
  · rw [decide_eq_true hop, Bool.true_and] at hr
    rcases impl_isInstr.forms a0_0 hop with hf | hf | hf | hf | hf | hf | hf <;> rw [hf] at hr
    · exact impl_isInstr.form0 a0_0 a0_1 a0_2 a0_3 a0_4 r w (Lib.hid hf) (Lib.hid hr)
    · exact impl_isInstr.form1 a0_0 a0_1 a0_2 a0_3 a0_4 r w (Lib.hid hf) (Lib.hid hr)
    · exact impl_isInstr.form7 a0_0 a0_1 a0_2 a0_3 a0_4 r w (Lib.hid hf) (Lib.hid hr)
    · exact impl_isInstr.form8 a0_0 a0_1 a0_2 a0_3 a0_4 r w (Lib.hid hf) (Lib.hid hr)
    · exact impl_isInstr.form9 a0_0 a0_1 a0_2 a0_3 a0_4 r w (Lib.hid hf) (Lib.hid hr)
    · exact impl_isInstr.form10 a0_0 a0_1 a0_2 a0_3 a0_4 r w (Lib.hid hf) (Lib.hid hr)
    · exact impl_isInstr.form11 a0_0 a0_1 a0_2 a0_3 a0_4 r w (Lib.hid hf) (Lib.hid hr)
  · rw [decide_eq_false hop] at hr
    simp only [Bool.false_and] at hr
    subst hr
    refine impl_isInstr.nope a0_0 a0_1 a0_2 a0_3 a0_4 w (Lib.hid ?_)
    unfold impl_isInstr.form
    by_cases h1 : a0_0 < 0
    · rw [if_pos h1]
    · rw [if_neg h1, if_pos (by omega)]

/-! ### impl_InstrOk: function 39 -/
def impl_InstrOk.f (a0_0 : Int) (a0_1 : Int) (a0_2 : Int) (a0_3 : Int) (a0_4 : Int) : Option (Bool) := (impl_isInstr.f a0_0 a0_1 a0_2 a0_3 a0_4).bind fun t123 => (some t123)
set_option maxHeartbeats 8000000 in
set_option maxRecDepth 100000 in
theorem impl_InstrOk.calls (a0_0 : Int) (a0_1 : Int) (a0_2 : Int) (a0_3 : Int) (a0_4 : Int) (r : Bool) (w : World) (h : impl_InstrOk.f a0_0 a0_1 a0_2 a0_3 a0_4 = some r) :
    Calls Try.prog 39 #[.agg #[.int .i64 a0_0, .int .i64 a0_1, .int .i64 a0_2, .int .i64 a0_3, .int .i64 a0_4]] w fun e w' => e = .returned (.bool r) ∧ Below w.heap.size w w' := by
  have hu56 := Try.underlying56
  have HB := Aside0.mk (Below.refl w.heap.size w)
  have H : ((impl_isInstr.f a0_0 a0_1 a0_2 a0_3 a0_4).bind fun t123 => (some t123)) = some r := h
  clear h
  replace H := Option.bind_eq_some_iff.mp H
  obtain ⟨t123, A20, H⟩ := H
  replace H : (some t123) = some r := H
  have A2 := Aside0.mk A20
  clear A20
  obtain rfl := Option.some.inj H
  go_enter Try.func39, Try.ntmps39
  go_wp2_with (first | ((with_reducible refine gate_dst (N := 1) rfl ?_); refine box_event ?hg (N := 1) ?hd (cs := #[.int .i64 a0_0, .int .i64 a0_1, .int .i64 a0_2, .int .i64 a0_3, .int .i64 a0_4]) (t := 56) ?hr ?_; (case hd => rfl); (case hg => rfl); (case hr => first | (go_simp; done) | (go_simp; rfl)); intro gb122 hg w3 hbox hb; have n0_ := Aside0.mk (below_step (by repeat (first | (with_reducible first | exact HB.out | apply below_alloc | apply pw_below_drewN | apply below_drew1) | exact HB.out)) hb); have n1_ := Aside0.mk (hbox); have n2_ := Aside0.mk ((by rw [hg]; exact (below_size (by repeat (first | (with_reducible first | exact HB.out | apply below_alloc | apply pw_below_drewN | apply below_drew1) | exact HB.out))) : w.heap.size ≤ gb122)); have n3_ := Aside0.mk ((by rw [hg]; exact (below_size (by repeat (first | (with_reducible first | exact HB.out | apply below_alloc | apply pw_below_drewN | apply below_drew1) | exact HB.out))) : w.heap.size ≤ gb122)); clear HB; have HB := n0_; have BK122 := n1_; have GW122 := n2_; have GE122 := n3_; clear n0_ n1_ n2_ n3_; clear hb hbox hg; have hcz4_0 : w3.cell? ⟨gb122, 0, none⟩ = some (.int .i64 a0_0) := (blk_cell BK122.out 0).trans rfl; have hcz4_1 : w3.cell? ⟨gb122, 1, none⟩ = some (.int .i64 a0_1) := (blk_cell BK122.out 1).trans rfl; have hcz4_2 : w3.cell? ⟨gb122, 2, none⟩ = some (.int .i64 a0_2) := (blk_cell BK122.out 2).trans rfl; have hcz4_3 : w3.cell? ⟨gb122, 3, none⟩ = some (.int .i64 a0_3) := (blk_cell BK122.out 3).trans rfl; have hcz4_4 : w3.cell? ⟨gb122, 4, none⟩ = some (.int .i64 a0_4) := (blk_cell BK122.out 4).trans rfl; have hfz4_0 := blk_frozen BK122.out 0; have hfz4_1 := blk_frozen BK122.out 1; have hfz4_2 := blk_frozen BK122.out 2; have hfz4_3 := blk_frozen BK122.out 3; have hfz4_4 := blk_frozen BK122.out 4) | ((with_reducible refine gate_callee (f := 68) rfl ?_); refine goesL_ (some 4) rfl rfl Try.func68 (by kernel_rfl) rfl #[.agg #[.int .i64 a0_0, .int .i64 a0_1, .int .i64 a0_2, .int .i64 a0_3, .int .i64 a0_4]] rfl (by (try simp only [List.map_toArray, List.map_cons, List.map_nil]); first | done | rfl | (simp only [List.length_drop, List.length_take]; rfl)) ?_; (with_reducible refine (impl_isInstr.calls a0_0 a0_1 a0_2 a0_3 a0_4 t123 _ A2.out).mono ?_); rintro e w5 ⟨rfl, hb⟩; refine ⟨_, rfl, ?_⟩; have n0_ := Aside0.mk (blk_below (g := gb122) (o := .cells #[.int .i64 a0_0, .int .i64 a0_1, .int .i64 a0_2, .int .i64 a0_3, .int .i64 a0_4] 56 (0, 0)) (by (with_reducible repeat (first | refine blk_drewN ?_ _ | refine blk_drew ?_ | refine blk_alloc ?_ _)); exact BK122.out) hb); have n1_ := Aside0.mk (below_step (by repeat (first | (with_reducible first | exact HB.out | apply below_alloc | apply pw_below_drewN | apply below_drew1 | refine below_set ?_ GE122.out) | exact HB.out)) hb); clear BK122; clear HB; have BK122 := n0_; have HB := n1_; clear n0_ n1_; (try clear hb); (try clear hb2); (try clear hk); (try clear hi)))
  go_ret
  exact ⟨by first | rfl | (simp [errW_none, errW_some] <;> rfl) | (simp [*, errW_none, errW_some] <;> rfl), by repeat (first | (with_reducible first | exact HB.out | apply below_alloc | apply pw_below_drewN | apply below_drew1 | refine below_set ?_ GE122.out) | exact HB.out)⟩

/-! ### laws_FnExactInstrOk: function 9 -/
def laws_FnExactInstrOk.f (a0_0 : Int) (a0_1 : Int) (a0_2 : Int) (a0_3 : Int) (a0_4 : Int) : Option (Bool) := (laws_toInstr.f a0_0 a0_1 a0_2 a0_3 a0_4).bind fun bt125 => ((spec_InstrOk.f bt125.1 bt125.2.1 bt125.2.2.1 bt125.2.2.2.1 bt125.2.2.2.2).bind fun t130 => ((laws_toInstr.f a0_0 a0_1 a0_2 a0_3 a0_4).bind fun bt131 => ((impl_InstrOk.f bt131.1 bt131.2.1 bt131.2.2.1 bt131.2.2.2.1 bt131.2.2.2.2).bind fun t136 => (if (t136 != t130) = true then (some false) else (some true)))))
set_option maxHeartbeats 8000000 in
set_option maxRecDepth 100000 in
theorem laws_FnExactInstrOk.calls (a0_0 : Int) (a0_1 : Int) (a0_2 : Int) (a0_3 : Int) (a0_4 : Int) (r : Bool) (w : World) (h : laws_FnExactInstrOk.f a0_0 a0_1 a0_2 a0_3 a0_4 = some r) :
    Calls Try.prog 9 #[.agg #[.int .i64 a0_0, .int .i64 a0_1, .int .i64 a0_2, .int .i64 a0_3, .int .i64 a0_4]] w fun e w' => e = .returned (.bool r) ∧ Below w.heap.size w w' := by
  have hu54 := Try.underlying54
  have HB := Aside0.mk (Below.refl w.heap.size w)
  have H : ((laws_toInstr.f a0_0 a0_1 a0_2 a0_3 a0_4).bind fun bt125 => ((spec_InstrOk.f bt125.1 bt125.2.1 bt125.2.2.1 bt125.2.2.2.1 bt125.2.2.2.2).bind fun t130 => ((laws_toInstr.f a0_0 a0_1 a0_2 a0_3 a0_4).bind fun bt131 => ((impl_InstrOk.f bt131.1 bt131.2.1 bt131.2.2.1 bt131.2.2.2.1 bt131.2.2.2.2).bind fun t136 => (if (t136 != t130) = true then (some false) else (some true)))))) = some r := h
  clear h
  replace H := Option.bind_eq_some_iff.mp H
  obtain ⟨⟨t125, t126, t127, t128, t129⟩, A20, H⟩ := H
  replace H : ((spec_InstrOk.f t125 t126 t127 t128 t129).bind fun t130 => ((laws_toInstr.f a0_0 a0_1 a0_2 a0_3 a0_4).bind fun bt131 => ((impl_InstrOk.f bt131.1 bt131.2.1 bt131.2.2.1 bt131.2.2.2.1 bt131.2.2.2.2).bind fun t136 => (if (t136 != t130) = true then (some false) else (some true))))) = some r := H
  have A2 := Aside0.mk A20
  clear A20
  replace H := Option.bind_eq_some_iff.mp H
  obtain ⟨t130, A30, H⟩ := H
  replace H : ((laws_toInstr.f a0_0 a0_1 a0_2 a0_3 a0_4).bind fun bt131 => ((impl_InstrOk.f bt131.1 bt131.2.1 bt131.2.2.1 bt131.2.2.2.1 bt131.2.2.2.2).bind fun t136 => (if (t136 != t130) = true then (some false) else (some true)))) = some r := H
  have A3 := Aside0.mk A30
  clear A30
  replace H := Option.bind_eq_some_iff.mp H
  obtain ⟨⟨t131, t132, t133, t134, t135⟩, A40, H⟩ := H
  replace H : ((impl_InstrOk.f t131 t132 t133 t134 t135).bind fun t136 => (if (t136 != t130) = true then (some false) else (some true))) = some r := H
  have A4 := Aside0.mk A40
  clear A40
  replace H := Option.bind_eq_some_iff.mp H
  obtain ⟨t136, A50, H⟩ := H
  replace H : (if (t136 != t130) = true then (some false) else (some true)) = some r := H
  have A5 := Aside0.mk A50
  clear A50
  by_cases c6 : (t136 != t130) = true
  · rw [if_pos c6] at H
    have c6b0 : (t136 != t130) = true := c6
    (try (have c6b1 : decide (t136 = t130) = false := by simpa using c6))
    (try (have c6b2 : (t136 == t130) = false := by simpa using c6))
    (try (have c6b3 : ¬ (t136 = t130) := by simpa using c6))
    clear c6
    obtain rfl := Option.some.inj H
    go_enter Try.func9, Try.ntmps9
    go_wp2_with (first | ((with_reducible refine gate_dst (N := 1) rfl ?_); refine box_event ?hg (N := 1) ?hd (cs := #[.int .i64 a0_0, .int .i64 a0_1, .int .i64 a0_2, .int .i64 a0_3, .int .i64 a0_4]) (t := 54) ?hr ?_; (case hd => rfl); (case hg => rfl); (case hr => first | (go_simp; done) | (go_simp; rfl)); intro gb124 hg w7 hbox hb; have n0_ := Aside0.mk (below_step (by repeat (first | (with_reducible first | exact HB.out | apply below_alloc | apply pw_below_drewN | apply below_drew1) | exact HB.out)) hb); have n1_ := Aside0.mk (hbox); have n2_ := Aside0.mk ((by rw [hg]; exact (below_size (by repeat (first | (with_reducible first | exact HB.out | apply below_alloc | apply pw_below_drewN | apply below_drew1) | exact HB.out))) : w.heap.size ≤ gb124)); have n3_ := Aside0.mk ((by rw [hg]; exact (below_size (by repeat (first | (with_reducible first | exact HB.out | apply below_alloc | apply pw_below_drewN | apply below_drew1) | exact HB.out))) : w.heap.size ≤ gb124)); clear HB; have HB := n0_; have BK124 := n1_; have GW124 := n2_; have GE124 := n3_; clear n0_ n1_ n2_ n3_; clear hb hbox hg; have hcz8_0 : w7.cell? ⟨gb124, 0, none⟩ = some (.int .i64 a0_0) := (blk_cell BK124.out 0).trans rfl; have hcz8_1 : w7.cell? ⟨gb124, 1, none⟩ = some (.int .i64 a0_1) := (blk_cell BK124.out 1).trans rfl; have hcz8_2 : w7.cell? ⟨gb124, 2, none⟩ = some (.int .i64 a0_2) := (blk_cell BK124.out 2).trans rfl; have hcz8_3 : w7.cell? ⟨gb124, 3, none⟩ = some (.int .i64 a0_3) := (blk_cell BK124.out 3).trans rfl; have hcz8_4 : w7.cell? ⟨gb124, 4, none⟩ = some (.int .i64 a0_4) := (blk_cell BK124.out 4).trans rfl; have hfz8_0 := blk_frozen BK124.out 0; have hfz8_1 := blk_frozen BK124.out 1; have hfz8_2 := blk_frozen BK124.out 2; have hfz8_3 := blk_frozen BK124.out 3; have hfz8_4 := blk_frozen BK124.out 4) | ((with_reducible refine gate_callee (f := 38) rfl ?_); refine goesL_ (some 6) rfl rfl Try.func38 (by kernel_rfl) rfl #[.agg #[.int .i64 a0_0, .int .i64 a0_1, .int .i64 a0_2, .int .i64 a0_3, .int .i64 a0_4]] rfl (by (try simp only [List.map_toArray, List.map_cons, List.map_nil]); first | done | rfl | (simp only [List.length_drop, List.length_take]; rfl)) ?_; (with_reducible refine (laws_toInstr.calls a0_0 a0_1 a0_2 a0_3 a0_4 t125 t126 t127 t128 t129 _ A2.out).mono ?_); rintro e w9 ⟨rfl, hb⟩; refine ⟨_, rfl, ?_⟩; have n0_ := Aside0.mk (blk_below (g := gb124) (o := .cells #[.int .i64 a0_0, .int .i64 a0_1, .int .i64 a0_2, .int .i64 a0_3, .int .i64 a0_4] 54 (0, 0)) (by (with_reducible repeat (first | refine blk_drewN ?_ _ | refine blk_drew ?_ | refine blk_alloc ?_ _)); exact BK124.out) hb); have n1_ := Aside0.mk (below_step (by repeat (first | (with_reducible first | exact HB.out | apply below_alloc | apply pw_below_drewN | apply below_drew1 | refine below_set ?_ GE124.out) | exact HB.out)) hb); clear BK124; clear HB; have BK124 := n0_; have HB := n1_; clear n0_ n1_; (try clear hb); (try clear hb2); (try clear hk); (try clear hi)) | ((with_reducible refine gate_callee (f := 37) rfl ?_); refine goesL_ (some 7) rfl rfl Try.func37 (by kernel_rfl) rfl #[.agg #[.int .i64 t125, .int .i64 t126, .int .i64 t127, .int .i64 t128, .int .i64 t129]] rfl (by (try simp only [List.map_toArray, List.map_cons, List.map_nil]); first | done | rfl | (simp only [List.length_drop, List.length_take]; rfl)) ?_; (with_reducible refine (spec_InstrOk.calls t125 t126 t127 t128 t129 t130 _ A3.out).mono ?_); rintro e w10 ⟨rfl, hb⟩; refine ⟨_, rfl, ?_⟩; have n0_ := Aside0.mk (blk_below (g := gb124) (o := .cells #[.int .i64 a0_0, .int .i64 a0_1, .int .i64 a0_2, .int .i64 a0_3, .int .i64 a0_4] 54 (0, 0)) (by (with_reducible repeat (first | refine blk_drewN ?_ _ | refine blk_drew ?_ | refine blk_alloc ?_ _)); exact BK124.out) hb); have n1_ := Aside0.mk (below_step (by repeat (first | (with_reducible first | exact HB.out | apply below_alloc | apply pw_below_drewN | apply below_drew1 | refine below_set ?_ GE124.out) | exact HB.out)) hb); clear BK124; clear HB; have BK124 := n0_; have HB := n1_; clear n0_ n1_; (try clear hb); (try clear hb2); (try clear hk); (try clear hi); have hcz11_0 : w10.cell? ⟨gb124, 0, none⟩ = some (.int .i64 a0_0) := (blk_cell BK124.out 0).trans rfl; have hcz11_1 : w10.cell? ⟨gb124, 1, none⟩ = some (.int .i64 a0_1) := (blk_cell BK124.out 1).trans rfl; have hcz11_2 : w10.cell? ⟨gb124, 2, none⟩ = some (.int .i64 a0_2) := (blk_cell BK124.out 2).trans rfl; have hcz11_3 : w10.cell? ⟨gb124, 3, none⟩ = some (.int .i64 a0_3) := (blk_cell BK124.out 3).trans rfl; have hcz11_4 : w10.cell? ⟨gb124, 4, none⟩ = some (.int .i64 a0_4) := (blk_cell BK124.out 4).trans rfl; have hfz11_0 := blk_frozen BK124.out 0; have hfz11_1 := blk_frozen BK124.out 1; have hfz11_2 := blk_frozen BK124.out 2; have hfz11_3 := blk_frozen BK124.out 3; have hfz11_4 := blk_frozen BK124.out 4) | ((with_reducible refine gate_callee (f := 38) rfl ?_); refine goesL_ (some 9) rfl rfl Try.func38 (by kernel_rfl) rfl #[.agg #[.int .i64 a0_0, .int .i64 a0_1, .int .i64 a0_2, .int .i64 a0_3, .int .i64 a0_4]] rfl (by (try simp only [List.map_toArray, List.map_cons, List.map_nil]); first | done | rfl | (simp only [List.length_drop, List.length_take]; rfl)) ?_; (with_reducible refine (laws_toInstr.calls a0_0 a0_1 a0_2 a0_3 a0_4 t131 t132 t133 t134 t135 _ A4.out).mono ?_); rintro e w12 ⟨rfl, hb⟩; refine ⟨_, rfl, ?_⟩; have n0_ := Aside0.mk (blk_below (g := gb124) (o := .cells #[.int .i64 a0_0, .int .i64 a0_1, .int .i64 a0_2, .int .i64 a0_3, .int .i64 a0_4] 54 (0, 0)) (by (with_reducible repeat (first | refine blk_drewN ?_ _ | refine blk_drew ?_ | refine blk_alloc ?_ _)); exact BK124.out) hb); have n1_ := Aside0.mk (below_step (by repeat (first | (with_reducible first | exact HB.out | apply below_alloc | apply pw_below_drewN | apply below_drew1 | refine below_set ?_ GE124.out) | exact HB.out)) hb); clear BK124; clear HB; have BK124 := n0_; have HB := n1_; clear n0_ n1_; (try clear hb); (try clear hb2); (try clear hk); (try clear hi)) | ((with_reducible refine gate_callee (f := 39) rfl ?_); refine goesL_ (some 10) rfl rfl Try.func39 (by kernel_rfl) rfl #[.agg #[.int .i64 t131, .int .i64 t132, .int .i64 t133, .int .i64 t134, .int .i64 t135]] rfl (by (try simp only [List.map_toArray, List.map_cons, List.map_nil]); first | done | rfl | (simp only [List.length_drop, List.length_take]; rfl)) ?_; (with_reducible refine (impl_InstrOk.calls t131 t132 t133 t134 t135 t136 _ A5.out).mono ?_); rintro e w13 ⟨rfl, hb⟩; refine ⟨_, rfl, ?_⟩; have n0_ := Aside0.mk (blk_below (g := gb124) (o := .cells #[.int .i64 a0_0, .int .i64 a0_1, .int .i64 a0_2, .int .i64 a0_3, .int .i64 a0_4] 54 (0, 0)) (by (with_reducible repeat (first | refine blk_drewN ?_ _ | refine blk_drew ?_ | refine blk_alloc ?_ _)); exact BK124.out) hb); have n1_ := Aside0.mk (below_step (by repeat (first | (with_reducible first | exact HB.out | apply below_alloc | apply pw_below_drewN | apply below_drew1 | refine below_set ?_ GE124.out) | exact HB.out)) hb); clear BK124; clear HB; have BK124 := n0_; have HB := n1_; clear n0_ n1_; (try clear hb); (try clear hb2); (try clear hk); (try clear hi)))
    go_ret
    exact ⟨by first | rfl | (simp [errW_none, errW_some] <;> rfl) | (simp [*, errW_none, errW_some] <;> rfl), by repeat (first | (with_reducible first | exact HB.out | apply below_alloc | apply pw_below_drewN | apply below_drew1 | refine below_set ?_ GE124.out) | exact HB.out)⟩
  · rw [if_neg c6] at H
    have c6b0 : (t136 != t130) = false := by simpa using c6
    (try (have c6b1 : decide (t136 = t130) = true := by simpa using c6))
    (try (have c6b2 : (t136 == t130) = true := by simpa using c6))
    clear c6
    obtain rfl := Option.some.inj H
    go_enter Try.func9, Try.ntmps9
    go_wp2_with (first | ((with_reducible refine gate_dst (N := 1) rfl ?_); refine box_event ?hg (N := 1) ?hd (cs := #[.int .i64 a0_0, .int .i64 a0_1, .int .i64 a0_2, .int .i64 a0_3, .int .i64 a0_4]) (t := 54) ?hr ?_; (case hd => rfl); (case hg => rfl); (case hr => first | (go_simp; done) | (go_simp; rfl)); intro gb124 hg w14 hbox hb; have n0_ := Aside0.mk (below_step (by repeat (first | (with_reducible first | exact HB.out | apply below_alloc | apply pw_below_drewN | apply below_drew1) | exact HB.out)) hb); have n1_ := Aside0.mk (hbox); have n2_ := Aside0.mk ((by rw [hg]; exact (below_size (by repeat (first | (with_reducible first | exact HB.out | apply below_alloc | apply pw_below_drewN | apply below_drew1) | exact HB.out))) : w.heap.size ≤ gb124)); have n3_ := Aside0.mk ((by rw [hg]; exact (below_size (by repeat (first | (with_reducible first | exact HB.out | apply below_alloc | apply pw_below_drewN | apply below_drew1) | exact HB.out))) : w.heap.size ≤ gb124)); clear HB; have HB := n0_; have BK124 := n1_; have GW124 := n2_; have GE124 := n3_; clear n0_ n1_ n2_ n3_; clear hb hbox hg; have hcz15_0 : w14.cell? ⟨gb124, 0, none⟩ = some (.int .i64 a0_0) := (blk_cell BK124.out 0).trans rfl; have hcz15_1 : w14.cell? ⟨gb124, 1, none⟩ = some (.int .i64 a0_1) := (blk_cell BK124.out 1).trans rfl; have hcz15_2 : w14.cell? ⟨gb124, 2, none⟩ = some (.int .i64 a0_2) := (blk_cell BK124.out 2).trans rfl; have hcz15_3 : w14.cell? ⟨gb124, 3, none⟩ = some (.int .i64 a0_3) := (blk_cell BK124.out 3).trans rfl; have hcz15_4 : w14.cell? ⟨gb124, 4, none⟩ = some (.int .i64 a0_4) := (blk_cell BK124.out 4).trans rfl; have hfz15_0 := blk_frozen BK124.out 0; have hfz15_1 := blk_frozen BK124.out 1; have hfz15_2 := blk_frozen BK124.out 2; have hfz15_3 := blk_frozen BK124.out 3; have hfz15_4 := blk_frozen BK124.out 4) | ((with_reducible refine gate_callee (f := 38) rfl ?_); refine goesL_ (some 6) rfl rfl Try.func38 (by kernel_rfl) rfl #[.agg #[.int .i64 a0_0, .int .i64 a0_1, .int .i64 a0_2, .int .i64 a0_3, .int .i64 a0_4]] rfl (by (try simp only [List.map_toArray, List.map_cons, List.map_nil]); first | done | rfl | (simp only [List.length_drop, List.length_take]; rfl)) ?_; (with_reducible refine (laws_toInstr.calls a0_0 a0_1 a0_2 a0_3 a0_4 t125 t126 t127 t128 t129 _ A2.out).mono ?_); rintro e w16 ⟨rfl, hb⟩; refine ⟨_, rfl, ?_⟩; have n0_ := Aside0.mk (blk_below (g := gb124) (o := .cells #[.int .i64 a0_0, .int .i64 a0_1, .int .i64 a0_2, .int .i64 a0_3, .int .i64 a0_4] 54 (0, 0)) (by (with_reducible repeat (first | refine blk_drewN ?_ _ | refine blk_drew ?_ | refine blk_alloc ?_ _)); exact BK124.out) hb); have n1_ := Aside0.mk (below_step (by repeat (first | (with_reducible first | exact HB.out | apply below_alloc | apply pw_below_drewN | apply below_drew1 | refine below_set ?_ GE124.out) | exact HB.out)) hb); clear BK124; clear HB; have BK124 := n0_; have HB := n1_; clear n0_ n1_; (try clear hb); (try clear hb2); (try clear hk); (try clear hi)) | ((with_reducible refine gate_callee (f := 37) rfl ?_); refine goesL_ (some 7) rfl rfl Try.func37 (by kernel_rfl) rfl #[.agg #[.int .i64 t125, .int .i64 t126, .int .i64 t127, .int .i64 t128, .int .i64 t129]] rfl (by (try simp only [List.map_toArray, List.map_cons, List.map_nil]); first | done | rfl | (simp only [List.length_drop, List.length_take]; rfl)) ?_; (with_reducible refine (spec_InstrOk.calls t125 t126 t127 t128 t129 t130 _ A3.out).mono ?_); rintro e w17 ⟨rfl, hb⟩; refine ⟨_, rfl, ?_⟩; have n0_ := Aside0.mk (blk_below (g := gb124) (o := .cells #[.int .i64 a0_0, .int .i64 a0_1, .int .i64 a0_2, .int .i64 a0_3, .int .i64 a0_4] 54 (0, 0)) (by (with_reducible repeat (first | refine blk_drewN ?_ _ | refine blk_drew ?_ | refine blk_alloc ?_ _)); exact BK124.out) hb); have n1_ := Aside0.mk (below_step (by repeat (first | (with_reducible first | exact HB.out | apply below_alloc | apply pw_below_drewN | apply below_drew1 | refine below_set ?_ GE124.out) | exact HB.out)) hb); clear BK124; clear HB; have BK124 := n0_; have HB := n1_; clear n0_ n1_; (try clear hb); (try clear hb2); (try clear hk); (try clear hi); have hcz18_0 : w17.cell? ⟨gb124, 0, none⟩ = some (.int .i64 a0_0) := (blk_cell BK124.out 0).trans rfl; have hcz18_1 : w17.cell? ⟨gb124, 1, none⟩ = some (.int .i64 a0_1) := (blk_cell BK124.out 1).trans rfl; have hcz18_2 : w17.cell? ⟨gb124, 2, none⟩ = some (.int .i64 a0_2) := (blk_cell BK124.out 2).trans rfl; have hcz18_3 : w17.cell? ⟨gb124, 3, none⟩ = some (.int .i64 a0_3) := (blk_cell BK124.out 3).trans rfl; have hcz18_4 : w17.cell? ⟨gb124, 4, none⟩ = some (.int .i64 a0_4) := (blk_cell BK124.out 4).trans rfl; have hfz18_0 := blk_frozen BK124.out 0; have hfz18_1 := blk_frozen BK124.out 1; have hfz18_2 := blk_frozen BK124.out 2; have hfz18_3 := blk_frozen BK124.out 3; have hfz18_4 := blk_frozen BK124.out 4) | ((with_reducible refine gate_callee (f := 38) rfl ?_); refine goesL_ (some 9) rfl rfl Try.func38 (by kernel_rfl) rfl #[.agg #[.int .i64 a0_0, .int .i64 a0_1, .int .i64 a0_2, .int .i64 a0_3, .int .i64 a0_4]] rfl (by (try simp only [List.map_toArray, List.map_cons, List.map_nil]); first | done | rfl | (simp only [List.length_drop, List.length_take]; rfl)) ?_; (with_reducible refine (laws_toInstr.calls a0_0 a0_1 a0_2 a0_3 a0_4 t131 t132 t133 t134 t135 _ A4.out).mono ?_); rintro e w19 ⟨rfl, hb⟩; refine ⟨_, rfl, ?_⟩; have n0_ := Aside0.mk (blk_below (g := gb124) (o := .cells #[.int .i64 a0_0, .int .i64 a0_1, .int .i64 a0_2, .int .i64 a0_3, .int .i64 a0_4] 54 (0, 0)) (by (with_reducible repeat (first | refine blk_drewN ?_ _ | refine blk_drew ?_ | refine blk_alloc ?_ _)); exact BK124.out) hb); have n1_ := Aside0.mk (below_step (by repeat (first | (with_reducible first | exact HB.out | apply below_alloc | apply pw_below_drewN | apply below_drew1 | refine below_set ?_ GE124.out) | exact HB.out)) hb); clear BK124; clear HB; have BK124 := n0_; have HB := n1_; clear n0_ n1_; (try clear hb); (try clear hb2); (try clear hk); (try clear hi)) | ((with_reducible refine gate_callee (f := 39) rfl ?_); refine goesL_ (some 10) rfl rfl Try.func39 (by kernel_rfl) rfl #[.agg #[.int .i64 t131, .int .i64 t132, .int .i64 t133, .int .i64 t134, .int .i64 t135]] rfl (by (try simp only [List.map_toArray, List.map_cons, List.map_nil]); first | done | rfl | (simp only [List.length_drop, List.length_take]; rfl)) ?_; (with_reducible refine (impl_InstrOk.calls t131 t132 t133 t134 t135 t136 _ A5.out).mono ?_); rintro e w20 ⟨rfl, hb⟩; refine ⟨_, rfl, ?_⟩; have n0_ := Aside0.mk (blk_below (g := gb124) (o := .cells #[.int .i64 a0_0, .int .i64 a0_1, .int .i64 a0_2, .int .i64 a0_3, .int .i64 a0_4] 54 (0, 0)) (by (with_reducible repeat (first | refine blk_drewN ?_ _ | refine blk_drew ?_ | refine blk_alloc ?_ _)); exact BK124.out) hb); have n1_ := Aside0.mk (below_step (by repeat (first | (with_reducible first | exact HB.out | apply below_alloc | apply pw_below_drewN | apply below_drew1 | refine below_set ?_ GE124.out) | exact HB.out)) hb); clear BK124; clear HB; have BK124 := n0_; have HB := n1_; clear n0_ n1_; (try clear hb); (try clear hb2); (try clear hk); (try clear hi)))
    go_ret
    exact ⟨by first | rfl | (simp [errW_none, errW_some] <;> rfl) | (simp [*, errW_none, errW_some] <;> rfl), by repeat (first | (with_reducible first | exact HB.out | apply below_alloc | apply pw_below_drewN | apply below_drew1 | refine below_set ?_ GE124.out) | exact HB.out)⟩

end Go.Proofs.Ytkepakklhnhnkaa.PFnExactInstrOk

/- Printed by a program out of the translation, with contracts of my own set in. -/
import Derived.Test.YtaophlekfepkgaaGreatDoorPFnAssemblex0
import Derived.Test.YtaophlekfepkgaaGreatDoorPFnAssemblex1
namespace Go.Proofs.YtaophlekfepkgaaGreatDoor.PFnAssemble
open Go.RowKit Go.Proofs.YtaophlekfepkgaaGreatDoorW.PrintWords Go.Proofs.YtaophlekfepkgaaGreatDoorW.PrintLast Go.Proofs.YtaophlekfepkgaaGreatDoorW.PrintMore
attribute [local go_sem] max2_int min2_int max_two min_two max_three min_three max_four min_four   -- for this text's walks alone
set_option linter.unusedVariables false
set_option linter.unusedSimpArgs false

/-! ### impl_isInstr: function 79 -/
/-- The form of an op; -1 when it is none. -/
def impl_isInstr.form (op : Int) : Int :=
 if op < 0 then -1 else if 32 < op then -1 else if 1 ≤ op ∧ op ≤ 12 then 7 else if op = 0 ∨ op = 30 ∨ op = 31 then 0 else if op = 14 ∨ op = 22 ∨ op = 28 ∨ op = 29 then 9 else if op = 23 then 10 else if op = 24 then 1 else if op = 32 then 8 else 11
def impl_isInstr.fld (form bit x lo hi : Int) : Bool := if form / bit % 2 = 1 then decide (lo ≤ x ∧ x ≤ hi) else decide (x = 0)
/-- Whether an instruction is ok. -/
def impl_isInstr.ok (op a b c imm : Int) : Bool :=
 decide (0 ≤ op ∧ op ≤ 32) && impl_isInstr.fld (impl_isInstr.form op) 1 a 0 15 && impl_isInstr.fld (impl_isInstr.form op) 2 b 0 15 && impl_isInstr.fld (impl_isInstr.form op) 4 c 0 15 && impl_isInstr.fld (impl_isInstr.form op) 8 imm (-8192) 8191
def impl_isInstr.f (a0_0 : Int) (a0_1 : Int) (a0_2 : Int) (a0_3 : Int) (a0_4 : Int) : Option (Bool) := some (impl_isInstr.ok a0_0 a0_1 a0_2 a0_3 a0_4)
theorem impl_isInstr.form_small : ∀ n : Fin 33, impl_formOf.f 8 (n.val : Int) = some (impl_isInstr.form (n.val : Int)) := by decide +kernel
theorem impl_isInstr.form_eq (op : Int) : impl_formOf.f 8 op = some (impl_isInstr.form op) := by
 by_cases h : 0 ≤ op ∧ op ≤ 32
 · obtain ⟨n, rfl⟩ := Int.eq_ofNat_of_zero_le h.1
   exact impl_isInstr.form_small ⟨n, by omega⟩
 · have e : impl_within.f op 0 32 = some false := by
    unfold impl_within.f
    by_cases h1 : op ≥ 0
    · rw [if_pos h1]; congr 1; simp; omega
    · rw [if_neg h1]
   have e2 : impl_isInstr.form op = -1 := by
    unfold impl_isInstr.form
    by_cases h1 : op < 0
    · rw [if_pos h1]
    · rw [if_neg h1, if_pos (by omega)]
   unfold impl_formOf.f
   rw [e, e2]; rfl
theorem impl_isInstr.within (n lo hi : Int) (w : World) : Calls Tryz.prog 75 #[.int .i64 n, .int .i64 lo, .int .i64 hi] w fun e w' => e = .returned (.bool (decide (lo ≤ n ∧ n ≤ hi))) ∧ Drawn0 w w' := by
 refine impl_within.calls n lo hi (decide (lo ≤ n ∧ n ≤ hi)) w ?_
 unfold impl_within.f
 by_cases h : n ≥ lo
 · rw [if_pos h]; congr 1; simp; omega
 · rw [if_neg h]; congr 1; simp; omega
theorem impl_isInstr.yes (n lo hi : Int) (w : World) (h : lo ≤ n ∧ n ≤ hi) : Calls Tryz.prog 75 #[.int .i64 n, .int .i64 lo, .int .i64 hi] w fun e w' => e = .returned (.bool true) ∧ Drawn0 w w' := by
 have := impl_isInstr.within n lo hi w
 rwa [decide_eq_true h] at this
theorem impl_isInstr.no (n lo hi : Int) (w : World) (h : ¬ (lo ≤ n ∧ n ≤ hi)) : Calls Tryz.prog 75 #[.int .i64 n, .int .i64 lo, .int .i64 hi] w fun e w' => e = .returned (.bool false) ∧ Drawn0 w w' := by
 have := impl_isInstr.within n lo hi w
 rwa [decide_eq_false h] at this
theorem impl_isInstr.imm (n : Int) (w : World) : Calls Tryz.prog 44 #[.int .i64 n] w fun e w' => e = .returned (.bool (decide (-8192 ≤ n ∧ n ≤ 8191))) ∧ Drawn0 w w' := by
 refine impl_isImm.calls n (decide (-8192 ≤ n ∧ n ≤ 8191)) w ?_
 unfold impl_isImm.f impl_within.f
 by_cases h : n ≥ -8192
 · rw [if_pos h]; simp only [Option.bind_some]; congr 1; simp; omega
 · rw [if_neg h]; simp only [Option.bind_some]; congr 1; simp; omega
theorem impl_isInstr.beq (n : Int) : (n == 0) = decide (n = 0) := by rw [Bool.eq_iff_iff]; simp
theorem impl_isInstr.ret {a b : Bool} (h : a = b) : Ending.returned (.bool a) = Ending.returned (.bool b) := by rw [h]

set_option maxHeartbeats 8000000 in
set_option maxRecDepth 100000 in
theorem impl_isInstr.form0 (a0_0 : Int) (a0_1 : Int) (a0_2 : Int) (a0_3 : Int) (a0_4 : Int) (r : Bool) (w : World) (HF : Hid (impl_isInstr.form a0_0 = 0))
 (HR : Hid ((impl_isInstr.fld 0 1 a0_1 0 15 && impl_isInstr.fld 0 2 a0_2 0 15 && impl_isInstr.fld 0 4 a0_3 0 15 && impl_isInstr.fld 0 8 a0_4 (-8192) 8191) = r)) :
 Calls Tryz.prog 79 #[.agg #[.int .i64 a0_0, .int .i64 a0_1, .int .i64 a0_2, .int .i64 a0_3, .int .i64 a0_4]] w fun e w' => e = .returned (.bool r) ∧ Below w.heap.size w w' := by
 have hu := Tryz.underlying48
 have HFC := fun W => impl_formOf.calls 8 a0_0 0 W (by rw [impl_isInstr.form_eq, HF.out])
 have i0 : ∀ w, (Instr.index 115 (.agg #[.int .i64 a0_1, .int .i64 a0_2, .int .i64 a0_3]) (.int .i64 0)).run Tryz.prog w = .ok (.int .i64 a0_1) w := fun _ => by kernel_rfl
 have i1 : ∀ w, (Instr.index 115 (.agg #[.int .i64 a0_1, .int .i64 a0_2, .int .i64 a0_3]) (.int .i64 1)).run Tryz.prog w = .ok (.int .i64 a0_2) w := fun _ => by kernel_rfl
 have i2 : ∀ w, (Instr.index 115 (.agg #[.int .i64 a0_1, .int .i64 a0_2, .int .i64 a0_3]) (.int .i64 2)).run Tryz.prog w = .ok (.int .i64 a0_3) w := fun _ => by kernel_rfl
 have b0 : Go.bits .and .i64 0 1 = 0 := by decide +kernel
 have b8_ : Go.bits .and .i64 0 8 = 0 := by decide +kernel
 go_enter Tryz.func79, Tryz.ntmps79
 go_wp2_with (go_at_call 60; refine (HFC _).mono ?_; rintro e w' ⟨rfl, m, rfl⟩)
 go_loopw [18] (fun i wr => ∃ k n : Nat, k ≤ 3 ∧ i = .int .i64 k ∧ ((0 < k → impl_isInstr.fld 0 1 a0_1 0 15 = true) ∧ (1 < k → impl_isInstr.fld 0 2 a0_2 0 15 = true) ∧ (2 < k → impl_isInstr.fld 0 4 a0_3 0 15 = true)) ∧ wr = (w.alloc (.cells #[.int .i64 a0_0, .int .i64 a0_1, .int .i64 a0_2, .int .i64 a0_3, .int .i64 a0_4] 48)).drewN n) (fun i _ => 3 - (intOf i).toNat)
 case atStart => exact ⟨0, _, by omega, rfl, ⟨fun h => absurd h (by omega), fun h => absurd h (by omega), fun h => absurd h (by omega)⟩, rfl⟩
 case round =>
  obtain ⟨k, n, hk, rfl, hok, rfl⟩ := hrel
  have HOK := Lib.hid hok; clear hok
  rcases (show k = 0 ∨ k = 1 ∨ k = 2 ∨ k = 3 by omega) with rfl | rfl | rfl | rfl
  · by_cases hin : a0_1 = 0
    · have HIN := Lib.hid (show impl_isInstr.fld 0 1 a0_1 0 15 = true by unfold impl_isInstr.fld; rw [if_neg (by decide)]; simpa using hin)
      have z1 : (a0_1 != 0) = false := by rw [hin]; rfl
      have z2 : decide (a0_1 = 0) = true := by simp [hin]
      clear hin
      go_wp2
      go_roundw
      case rel => exact ⟨1, _, by omega, rfl, ⟨fun _ => HIN.out, fun h => absurd h (by omega), fun h => absurd h (by omega)⟩, rfl⟩
      case measure => simp [intOf]
    · have HNO := Lib.hid (show impl_isInstr.fld 0 1 a0_1 0 15 = false by unfold impl_isInstr.fld; rw [if_neg (by decide)]; simpa using hin)
      have z1 : (a0_1 != 0) = true := by simpa using hin
      have z2 : decide (a0_1 = 0) = false := by simpa using hin
      clear hin
      go_wp2
      go_ret
      refine ⟨?_, by repeat (first | exact Below.refl _ _ | apply below_alloc | apply pw_below_drewN)⟩
      refine impl_isInstr.ret (Eq.trans ?_ HR.out)
      rw [HNO.out]; simp
  · by_cases hin : a0_2 = 0
    · have HIN := Lib.hid (show impl_isInstr.fld 0 2 a0_2 0 15 = true by unfold impl_isInstr.fld; rw [if_neg (by decide)]; simpa using hin)
      have z1 : (a0_2 != 0) = false := by rw [hin]; rfl
      have z2 : decide (a0_2 = 0) = true := by simp [hin]
      clear hin
      go_wp2
      go_roundw
      case rel => exact ⟨2, _, by omega, rfl, ⟨fun _ => HOK.out.1 (by omega), fun _ => HIN.out, fun h => absurd h (by omega)⟩, rfl⟩
      case measure => simp [intOf]
    · have HNO := Lib.hid (show impl_isInstr.fld 0 2 a0_2 0 15 = false by unfold impl_isInstr.fld; rw [if_neg (by decide)]; simpa using hin)
      have z1 : (a0_2 != 0) = true := by simpa using hin
      have z2 : decide (a0_2 = 0) = false := by simpa using hin
      clear hin
      go_wp2
      go_ret
      refine ⟨?_, by repeat (first | exact Below.refl _ _ | apply below_alloc | apply pw_below_drewN)⟩
      refine impl_isInstr.ret (Eq.trans ?_ HR.out)
      rw [HNO.out]; simp
  · by_cases hin : a0_3 = 0
    · have HIN := Lib.hid (show impl_isInstr.fld 0 4 a0_3 0 15 = true by unfold impl_isInstr.fld; rw [if_neg (by decide)]; simpa using hin)
      have z1 : (a0_3 != 0) = false := by rw [hin]; rfl
      have z2 : decide (a0_3 = 0) = true := by simp [hin]
      clear hin
      go_wp2
      go_roundw
      case rel => exact ⟨3, _, by omega, rfl, ⟨fun _ => HOK.out.1 (by omega), fun _ => HOK.out.2.1 (by omega), fun _ => HIN.out⟩, rfl⟩
      case measure => simp [intOf]
    · have HNO := Lib.hid (show impl_isInstr.fld 0 4 a0_3 0 15 = false by unfold impl_isInstr.fld; rw [if_neg (by decide)]; simpa using hin)
      have z1 : (a0_3 != 0) = true := by simpa using hin
      have z2 : decide (a0_3 = 0) = false := by simpa using hin
      clear hin
      go_wp2
      go_ret
      refine ⟨?_, by repeat (first | exact Below.refl _ _ | apply below_alloc | apply pw_below_drewN)⟩
      refine impl_isInstr.ret (Eq.trans ?_ HR.out)
      rw [HNO.out]; simp
  · go_wp2
    go_ret
    refine ⟨?_, by repeat (first | exact Below.refl _ _ | apply below_alloc | apply pw_below_drewN)⟩
    refine impl_isInstr.ret (Eq.trans ?_ HR.out)
    rw [HOK.out.1 (by omega), HOK.out.2.1 (by omega), HOK.out.2.2 (by omega)]
    unfold impl_isInstr.fld; rw [if_neg (by decide)]; simp only [Bool.true_and]; exact impl_isInstr.beq _
set_option maxHeartbeats 8000000 in
set_option maxRecDepth 100000 in
theorem impl_isInstr.form1 (a0_0 : Int) (a0_1 : Int) (a0_2 : Int) (a0_3 : Int) (a0_4 : Int) (r : Bool) (w : World) (HF : Hid (impl_isInstr.form a0_0 = 1))
 (HR : Hid ((impl_isInstr.fld 1 1 a0_1 0 15 && impl_isInstr.fld 1 2 a0_2 0 15 && impl_isInstr.fld 1 4 a0_3 0 15 && impl_isInstr.fld 1 8 a0_4 (-8192) 8191) = r)) :
 Calls Tryz.prog 79 #[.agg #[.int .i64 a0_0, .int .i64 a0_1, .int .i64 a0_2, .int .i64 a0_3, .int .i64 a0_4]] w fun e w' => e = .returned (.bool r) ∧ Below w.heap.size w w' := by
 have hu := Tryz.underlying48
 have HFC := fun W => impl_formOf.calls 8 a0_0 1 W (by rw [impl_isInstr.form_eq, HF.out])
 have i0 : ∀ w, (Instr.index 115 (.agg #[.int .i64 a0_1, .int .i64 a0_2, .int .i64 a0_3]) (.int .i64 0)).run Tryz.prog w = .ok (.int .i64 a0_1) w := fun _ => by kernel_rfl
 have i1 : ∀ w, (Instr.index 115 (.agg #[.int .i64 a0_1, .int .i64 a0_2, .int .i64 a0_3]) (.int .i64 1)).run Tryz.prog w = .ok (.int .i64 a0_2) w := fun _ => by kernel_rfl
 have i2 : ∀ w, (Instr.index 115 (.agg #[.int .i64 a0_1, .int .i64 a0_2, .int .i64 a0_3]) (.int .i64 2)).run Tryz.prog w = .ok (.int .i64 a0_3) w := fun _ => by kernel_rfl
 have b0 : Go.bits .and .i64 0 1 = 0 := by decide +kernel
 have b1 : Go.bits .and .i64 1 1 = 1 := by decide +kernel
 have b8_ : Go.bits .and .i64 1 8 = 0 := by decide +kernel
 go_enter Tryz.func79, Tryz.ntmps79
 go_wp2_with (go_at_call 60; refine (HFC _).mono ?_; rintro e w' ⟨rfl, m, rfl⟩)
 go_loopw [18] (fun i wr => ∃ k n : Nat, k ≤ 3 ∧ i = .int .i64 k ∧ ((0 < k → impl_isInstr.fld 1 1 a0_1 0 15 = true) ∧ (1 < k → impl_isInstr.fld 1 2 a0_2 0 15 = true) ∧ (2 < k → impl_isInstr.fld 1 4 a0_3 0 15 = true)) ∧ wr = (w.alloc (.cells #[.int .i64 a0_0, .int .i64 a0_1, .int .i64 a0_2, .int .i64 a0_3, .int .i64 a0_4] 48)).drewN n) (fun i _ => 3 - (intOf i).toNat)
 case atStart => exact ⟨0, _, by omega, rfl, ⟨fun h => absurd h (by omega), fun h => absurd h (by omega), fun h => absurd h (by omega)⟩, rfl⟩
 case round =>
  obtain ⟨k, n, hk, rfl, hok, rfl⟩ := hrel
  have HOK := Lib.hid hok; clear hok
  rcases (show k = 0 ∨ k = 1 ∨ k = 2 ∨ k = 3 by omega) with rfl | rfl | rfl | rfl
  · by_cases hin : 0 ≤ a0_1 ∧ a0_1 ≤ 15
    · have HIN := Lib.hid (show impl_isInstr.fld 1 1 a0_1 0 15 = true by unfold impl_isInstr.fld; rw [if_pos (by decide)]; simpa using hin); have HI2 := Lib.hid hin; clear hin
      go_wp2_with (go_at_call 75; refine (impl_isInstr.yes a0_1 0 15 _ HI2.out).mono ?_; rintro e w' ⟨rfl, m, rfl⟩)
      go_roundw
      case rel => exact ⟨1, _, by omega, rfl, ⟨fun _ => HIN.out, fun h => absurd h (by omega), fun h => absurd h (by omega)⟩, rfl⟩
      case measure => simp [intOf]
    · have HNO := Lib.hid (show impl_isInstr.fld 1 1 a0_1 0 15 = false by unfold impl_isInstr.fld; rw [if_pos (by decide)]; simpa using hin); have HI2 := Lib.hid hin; clear hin
      go_wp2_with (go_at_call 75; refine (impl_isInstr.no a0_1 0 15 _ HI2.out).mono ?_; rintro e w' ⟨rfl, m, rfl⟩)
      go_ret
      refine ⟨?_, by repeat (first | exact Below.refl _ _ | apply below_alloc | apply pw_below_drewN)⟩
      refine impl_isInstr.ret (Eq.trans ?_ HR.out)
      rw [HNO.out]; simp
  · by_cases hin : a0_2 = 0
    · have HIN := Lib.hid (show impl_isInstr.fld 1 2 a0_2 0 15 = true by unfold impl_isInstr.fld; rw [if_neg (by decide)]; simpa using hin)
      have z1 : (a0_2 != 0) = false := by rw [hin]; rfl
      have z2 : decide (a0_2 = 0) = true := by simp [hin]
      clear hin
      go_wp2
      go_roundw
      case rel => exact ⟨2, _, by omega, rfl, ⟨fun _ => HOK.out.1 (by omega), fun _ => HIN.out, fun h => absurd h (by omega)⟩, rfl⟩
      case measure => simp [intOf]
    · have HNO := Lib.hid (show impl_isInstr.fld 1 2 a0_2 0 15 = false by unfold impl_isInstr.fld; rw [if_neg (by decide)]; simpa using hin)
      have z1 : (a0_2 != 0) = true := by simpa using hin
      have z2 : decide (a0_2 = 0) = false := by simpa using hin
      clear hin
      go_wp2
      go_ret
      refine ⟨?_, by repeat (first | exact Below.refl _ _ | apply below_alloc | apply pw_below_drewN)⟩
      refine impl_isInstr.ret (Eq.trans ?_ HR.out)
      rw [HNO.out]; simp
  · by_cases hin : a0_3 = 0
    · have HIN := Lib.hid (show impl_isInstr.fld 1 4 a0_3 0 15 = true by unfold impl_isInstr.fld; rw [if_neg (by decide)]; simpa using hin)
      have z1 : (a0_3 != 0) = false := by rw [hin]; rfl
      have z2 : decide (a0_3 = 0) = true := by simp [hin]
      clear hin
      go_wp2
      go_roundw
      case rel => exact ⟨3, _, by omega, rfl, ⟨fun _ => HOK.out.1 (by omega), fun _ => HOK.out.2.1 (by omega), fun _ => HIN.out⟩, rfl⟩
      case measure => simp [intOf]
    · have HNO := Lib.hid (show impl_isInstr.fld 1 4 a0_3 0 15 = false by unfold impl_isInstr.fld; rw [if_neg (by decide)]; simpa using hin)
      have z1 : (a0_3 != 0) = true := by simpa using hin
      have z2 : decide (a0_3 = 0) = false := by simpa using hin
      clear hin
      go_wp2
      go_ret
      refine ⟨?_, by repeat (first | exact Below.refl _ _ | apply below_alloc | apply pw_below_drewN)⟩
      refine impl_isInstr.ret (Eq.trans ?_ HR.out)
      rw [HNO.out]; simp
  · go_wp2
    go_ret
    refine ⟨?_, by repeat (first | exact Below.refl _ _ | apply below_alloc | apply pw_below_drewN)⟩
    refine impl_isInstr.ret (Eq.trans ?_ HR.out)
    rw [HOK.out.1 (by omega), HOK.out.2.1 (by omega), HOK.out.2.2 (by omega)]
    unfold impl_isInstr.fld; rw [if_neg (by decide)]; simp only [Bool.true_and]; exact impl_isInstr.beq _
set_option maxHeartbeats 8000000 in
set_option maxRecDepth 100000 in
theorem impl_isInstr.form7 (a0_0 : Int) (a0_1 : Int) (a0_2 : Int) (a0_3 : Int) (a0_4 : Int) (r : Bool) (w : World) (HF : Hid (impl_isInstr.form a0_0 = 7))
 (HR : Hid ((impl_isInstr.fld 7 1 a0_1 0 15 && impl_isInstr.fld 7 2 a0_2 0 15 && impl_isInstr.fld 7 4 a0_3 0 15 && impl_isInstr.fld 7 8 a0_4 (-8192) 8191) = r)) :
 Calls Tryz.prog 79 #[.agg #[.int .i64 a0_0, .int .i64 a0_1, .int .i64 a0_2, .int .i64 a0_3, .int .i64 a0_4]] w fun e w' => e = .returned (.bool r) ∧ Below w.heap.size w w' := by
 have hu := Tryz.underlying48
 have HFC := fun W => impl_formOf.calls 8 a0_0 7 W (by rw [impl_isInstr.form_eq, HF.out])
 have i0 : ∀ w, (Instr.index 115 (.agg #[.int .i64 a0_1, .int .i64 a0_2, .int .i64 a0_3]) (.int .i64 0)).run Tryz.prog w = .ok (.int .i64 a0_1) w := fun _ => by kernel_rfl
 have i1 : ∀ w, (Instr.index 115 (.agg #[.int .i64 a0_1, .int .i64 a0_2, .int .i64 a0_3]) (.int .i64 1)).run Tryz.prog w = .ok (.int .i64 a0_2) w := fun _ => by kernel_rfl
 have i2 : ∀ w, (Instr.index 115 (.agg #[.int .i64 a0_1, .int .i64 a0_2, .int .i64 a0_3]) (.int .i64 2)).run Tryz.prog w = .ok (.int .i64 a0_3) w := fun _ => by kernel_rfl
 have b1 : Go.bits .and .i64 1 1 = 1 := by decide +kernel
 have b3 : Go.bits .and .i64 3 1 = 1 := by decide +kernel
 have b7 : Go.bits .and .i64 7 1 = 1 := by decide +kernel
 have b8_ : Go.bits .and .i64 7 8 = 0 := by decide +kernel
 go_enter Tryz.func79, Tryz.ntmps79
 go_wp2_with (go_at_call 60; refine (HFC _).mono ?_; rintro e w' ⟨rfl, m, rfl⟩)
 go_loopw [18] (fun i wr => ∃ k n : Nat, k ≤ 3 ∧ i = .int .i64 k ∧ ((0 < k → impl_isInstr.fld 7 1 a0_1 0 15 = true) ∧ (1 < k → impl_isInstr.fld 7 2 a0_2 0 15 = true) ∧ (2 < k → impl_isInstr.fld 7 4 a0_3 0 15 = true)) ∧ wr = (w.alloc (.cells #[.int .i64 a0_0, .int .i64 a0_1, .int .i64 a0_2, .int .i64 a0_3, .int .i64 a0_4] 48)).drewN n) (fun i _ => 3 - (intOf i).toNat)
 case atStart => exact ⟨0, _, by omega, rfl, ⟨fun h => absurd h (by omega), fun h => absurd h (by omega), fun h => absurd h (by omega)⟩, rfl⟩
 case round =>
  obtain ⟨k, n, hk, rfl, hok, rfl⟩ := hrel
  have HOK := Lib.hid hok; clear hok
  rcases (show k = 0 ∨ k = 1 ∨ k = 2 ∨ k = 3 by omega) with rfl | rfl | rfl | rfl
  · by_cases hin : 0 ≤ a0_1 ∧ a0_1 ≤ 15
    · have HIN := Lib.hid (show impl_isInstr.fld 7 1 a0_1 0 15 = true by unfold impl_isInstr.fld; rw [if_pos (by decide)]; simpa using hin); have HI2 := Lib.hid hin; clear hin
      go_wp2_with (go_at_call 75; refine (impl_isInstr.yes a0_1 0 15 _ HI2.out).mono ?_; rintro e w' ⟨rfl, m, rfl⟩)
      go_roundw
      case rel => exact ⟨1, _, by omega, rfl, ⟨fun _ => HIN.out, fun h => absurd h (by omega), fun h => absurd h (by omega)⟩, rfl⟩
      case measure => simp [intOf]
    · have HNO := Lib.hid (show impl_isInstr.fld 7 1 a0_1 0 15 = false by unfold impl_isInstr.fld; rw [if_pos (by decide)]; simpa using hin); have HI2 := Lib.hid hin; clear hin
      go_wp2_with (go_at_call 75; refine (impl_isInstr.no a0_1 0 15 _ HI2.out).mono ?_; rintro e w' ⟨rfl, m, rfl⟩)
      go_ret
      refine ⟨?_, by repeat (first | exact Below.refl _ _ | apply below_alloc | apply pw_below_drewN)⟩
      refine impl_isInstr.ret (Eq.trans ?_ HR.out)
      rw [HNO.out]; simp
  · by_cases hin : 0 ≤ a0_2 ∧ a0_2 ≤ 15
    · have HIN := Lib.hid (show impl_isInstr.fld 7 2 a0_2 0 15 = true by unfold impl_isInstr.fld; rw [if_pos (by decide)]; simpa using hin); have HI2 := Lib.hid hin; clear hin
      go_wp2_with (go_at_call 75; refine (impl_isInstr.yes a0_2 0 15 _ HI2.out).mono ?_; rintro e w' ⟨rfl, m, rfl⟩)
      go_roundw
      case rel => exact ⟨2, _, by omega, rfl, ⟨fun _ => HOK.out.1 (by omega), fun _ => HIN.out, fun h => absurd h (by omega)⟩, rfl⟩
      case measure => simp [intOf]
    · have HNO := Lib.hid (show impl_isInstr.fld 7 2 a0_2 0 15 = false by unfold impl_isInstr.fld; rw [if_pos (by decide)]; simpa using hin); have HI2 := Lib.hid hin; clear hin
      go_wp2_with (go_at_call 75; refine (impl_isInstr.no a0_2 0 15 _ HI2.out).mono ?_; rintro e w' ⟨rfl, m, rfl⟩)
      go_ret
      refine ⟨?_, by repeat (first | exact Below.refl _ _ | apply below_alloc | apply pw_below_drewN)⟩
      refine impl_isInstr.ret (Eq.trans ?_ HR.out)
      rw [HNO.out]; simp
  · by_cases hin : 0 ≤ a0_3 ∧ a0_3 ≤ 15
    · have HIN := Lib.hid (show impl_isInstr.fld 7 4 a0_3 0 15 = true by unfold impl_isInstr.fld; rw [if_pos (by decide)]; simpa using hin); have HI2 := Lib.hid hin; clear hin
      go_wp2_with (go_at_call 75; refine (impl_isInstr.yes a0_3 0 15 _ HI2.out).mono ?_; rintro e w' ⟨rfl, m, rfl⟩)
      go_roundw
      case rel => exact ⟨3, _, by omega, rfl, ⟨fun _ => HOK.out.1 (by omega), fun _ => HOK.out.2.1 (by omega), fun _ => HIN.out⟩, rfl⟩
      case measure => simp [intOf]
    · have HNO := Lib.hid (show impl_isInstr.fld 7 4 a0_3 0 15 = false by unfold impl_isInstr.fld; rw [if_pos (by decide)]; simpa using hin); have HI2 := Lib.hid hin; clear hin
      go_wp2_with (go_at_call 75; refine (impl_isInstr.no a0_3 0 15 _ HI2.out).mono ?_; rintro e w' ⟨rfl, m, rfl⟩)
      go_ret
      refine ⟨?_, by repeat (first | exact Below.refl _ _ | apply below_alloc | apply pw_below_drewN)⟩
      refine impl_isInstr.ret (Eq.trans ?_ HR.out)
      rw [HNO.out]; simp
  · go_wp2
    go_ret
    refine ⟨?_, by repeat (first | exact Below.refl _ _ | apply below_alloc | apply pw_below_drewN)⟩
    refine impl_isInstr.ret (Eq.trans ?_ HR.out)
    rw [HOK.out.1 (by omega), HOK.out.2.1 (by omega), HOK.out.2.2 (by omega)]
    unfold impl_isInstr.fld; rw [if_neg (by decide)]; simp only [Bool.true_and]; exact impl_isInstr.beq _
set_option maxHeartbeats 8000000 in
set_option maxRecDepth 100000 in
theorem impl_isInstr.form8 (a0_0 : Int) (a0_1 : Int) (a0_2 : Int) (a0_3 : Int) (a0_4 : Int) (r : Bool) (w : World) (HF : Hid (impl_isInstr.form a0_0 = 8))
 (HR : Hid ((impl_isInstr.fld 8 1 a0_1 0 15 && impl_isInstr.fld 8 2 a0_2 0 15 && impl_isInstr.fld 8 4 a0_3 0 15 && impl_isInstr.fld 8 8 a0_4 (-8192) 8191) = r)) :
 Calls Tryz.prog 79 #[.agg #[.int .i64 a0_0, .int .i64 a0_1, .int .i64 a0_2, .int .i64 a0_3, .int .i64 a0_4]] w fun e w' => e = .returned (.bool r) ∧ Below w.heap.size w w' := by
 have hu := Tryz.underlying48
 have HFC := fun W => impl_formOf.calls 8 a0_0 8 W (by rw [impl_isInstr.form_eq, HF.out])
 have i0 : ∀ w, (Instr.index 115 (.agg #[.int .i64 a0_1, .int .i64 a0_2, .int .i64 a0_3]) (.int .i64 0)).run Tryz.prog w = .ok (.int .i64 a0_1) w := fun _ => by kernel_rfl
 have i1 : ∀ w, (Instr.index 115 (.agg #[.int .i64 a0_1, .int .i64 a0_2, .int .i64 a0_3]) (.int .i64 1)).run Tryz.prog w = .ok (.int .i64 a0_2) w := fun _ => by kernel_rfl
 have i2 : ∀ w, (Instr.index 115 (.agg #[.int .i64 a0_1, .int .i64 a0_2, .int .i64 a0_3]) (.int .i64 2)).run Tryz.prog w = .ok (.int .i64 a0_3) w := fun _ => by kernel_rfl
 have b2 : Go.bits .and .i64 2 1 = 0 := by decide +kernel
 have b4 : Go.bits .and .i64 4 1 = 0 := by decide +kernel
 have b8 : Go.bits .and .i64 8 1 = 0 := by decide +kernel
 have b8_ : Go.bits .and .i64 8 8 = 8 := by decide +kernel
 go_enter Tryz.func79, Tryz.ntmps79
 go_wp2_with (go_at_call 60; refine (HFC _).mono ?_; rintro e w' ⟨rfl, m, rfl⟩)
 go_loopw [18] (fun i wr => ∃ k n : Nat, k ≤ 3 ∧ i = .int .i64 k ∧ ((0 < k → impl_isInstr.fld 8 1 a0_1 0 15 = true) ∧ (1 < k → impl_isInstr.fld 8 2 a0_2 0 15 = true) ∧ (2 < k → impl_isInstr.fld 8 4 a0_3 0 15 = true)) ∧ wr = (w.alloc (.cells #[.int .i64 a0_0, .int .i64 a0_1, .int .i64 a0_2, .int .i64 a0_3, .int .i64 a0_4] 48)).drewN n) (fun i _ => 3 - (intOf i).toNat)
 case atStart => exact ⟨0, _, by omega, rfl, ⟨fun h => absurd h (by omega), fun h => absurd h (by omega), fun h => absurd h (by omega)⟩, rfl⟩
 case round =>
  obtain ⟨k, n, hk, rfl, hok, rfl⟩ := hrel
  have HOK := Lib.hid hok; clear hok
  rcases (show k = 0 ∨ k = 1 ∨ k = 2 ∨ k = 3 by omega) with rfl | rfl | rfl | rfl
  · by_cases hin : a0_1 = 0
    · have HIN := Lib.hid (show impl_isInstr.fld 8 1 a0_1 0 15 = true by unfold impl_isInstr.fld; rw [if_neg (by decide)]; simpa using hin)
      have z1 : (a0_1 != 0) = false := by rw [hin]; rfl
      have z2 : decide (a0_1 = 0) = true := by simp [hin]
      clear hin
      go_wp2
      go_roundw
      case rel => exact ⟨1, _, by omega, rfl, ⟨fun _ => HIN.out, fun h => absurd h (by omega), fun h => absurd h (by omega)⟩, rfl⟩
      case measure => simp [intOf]
    · have HNO := Lib.hid (show impl_isInstr.fld 8 1 a0_1 0 15 = false by unfold impl_isInstr.fld; rw [if_neg (by decide)]; simpa using hin)
      have z1 : (a0_1 != 0) = true := by simpa using hin
      have z2 : decide (a0_1 = 0) = false := by simpa using hin
      clear hin
      go_wp2
      go_ret
      refine ⟨?_, by repeat (first | exact Below.refl _ _ | apply below_alloc | apply pw_below_drewN)⟩
      refine impl_isInstr.ret (Eq.trans ?_ HR.out)
      rw [HNO.out]; simp
  · by_cases hin : a0_2 = 0
    · have HIN := Lib.hid (show impl_isInstr.fld 8 2 a0_2 0 15 = true by unfold impl_isInstr.fld; rw [if_neg (by decide)]; simpa using hin)
      have z1 : (a0_2 != 0) = false := by rw [hin]; rfl
      have z2 : decide (a0_2 = 0) = true := by simp [hin]
      clear hin
      go_wp2
      go_roundw
      case rel => exact ⟨2, _, by omega, rfl, ⟨fun _ => HOK.out.1 (by omega), fun _ => HIN.out, fun h => absurd h (by omega)⟩, rfl⟩
      case measure => simp [intOf]
    · have HNO := Lib.hid (show impl_isInstr.fld 8 2 a0_2 0 15 = false by unfold impl_isInstr.fld; rw [if_neg (by decide)]; simpa using hin)
      have z1 : (a0_2 != 0) = true := by simpa using hin
      have z2 : decide (a0_2 = 0) = false := by simpa using hin
      clear hin
      go_wp2
      go_ret
      refine ⟨?_, by repeat (first | exact Below.refl _ _ | apply below_alloc | apply pw_below_drewN)⟩
      refine impl_isInstr.ret (Eq.trans ?_ HR.out)
      rw [HNO.out]; simp
  · by_cases hin : a0_3 = 0
    · have HIN := Lib.hid (show impl_isInstr.fld 8 4 a0_3 0 15 = true by unfold impl_isInstr.fld; rw [if_neg (by decide)]; simpa using hin)
      have z1 : (a0_3 != 0) = false := by rw [hin]; rfl
      have z2 : decide (a0_3 = 0) = true := by simp [hin]
      clear hin
      go_wp2
      go_roundw
      case rel => exact ⟨3, _, by omega, rfl, ⟨fun _ => HOK.out.1 (by omega), fun _ => HOK.out.2.1 (by omega), fun _ => HIN.out⟩, rfl⟩
      case measure => simp [intOf]
    · have HNO := Lib.hid (show impl_isInstr.fld 8 4 a0_3 0 15 = false by unfold impl_isInstr.fld; rw [if_neg (by decide)]; simpa using hin)
      have z1 : (a0_3 != 0) = true := by simpa using hin
      have z2 : decide (a0_3 = 0) = false := by simpa using hin
      clear hin
      go_wp2
      go_ret
      refine ⟨?_, by repeat (first | exact Below.refl _ _ | apply below_alloc | apply pw_below_drewN)⟩
      refine impl_isInstr.ret (Eq.trans ?_ HR.out)
      rw [HNO.out]; simp
  · go_wp2_with (go_at_call 44; refine (impl_isInstr.imm a0_4 _).mono ?_; rintro e w' ⟨rfl, m, rfl⟩)
    go_ret
    refine ⟨?_, by repeat (first | exact Below.refl _ _ | apply below_alloc | apply pw_below_drewN)⟩
    refine impl_isInstr.ret (Eq.trans ?_ HR.out)
    rw [HOK.out.1 (by omega), HOK.out.2.1 (by omega), HOK.out.2.2 (by omega)]
    unfold impl_isInstr.fld; rw [if_pos (by decide)]; simp
set_option maxHeartbeats 8000000 in
set_option maxRecDepth 100000 in
theorem impl_isInstr.form9 (a0_0 : Int) (a0_1 : Int) (a0_2 : Int) (a0_3 : Int) (a0_4 : Int) (r : Bool) (w : World) (HF : Hid (impl_isInstr.form a0_0 = 9))
 (HR : Hid ((impl_isInstr.fld 9 1 a0_1 0 15 && impl_isInstr.fld 9 2 a0_2 0 15 && impl_isInstr.fld 9 4 a0_3 0 15 && impl_isInstr.fld 9 8 a0_4 (-8192) 8191) = r)) :
 Calls Tryz.prog 79 #[.agg #[.int .i64 a0_0, .int .i64 a0_1, .int .i64 a0_2, .int .i64 a0_3, .int .i64 a0_4]] w fun e w' => e = .returned (.bool r) ∧ Below w.heap.size w w' := by
 have hu := Tryz.underlying48
 have HFC := fun W => impl_formOf.calls 8 a0_0 9 W (by rw [impl_isInstr.form_eq, HF.out])
 have i0 : ∀ w, (Instr.index 115 (.agg #[.int .i64 a0_1, .int .i64 a0_2, .int .i64 a0_3]) (.int .i64 0)).run Tryz.prog w = .ok (.int .i64 a0_1) w := fun _ => by kernel_rfl
 have i1 : ∀ w, (Instr.index 115 (.agg #[.int .i64 a0_1, .int .i64 a0_2, .int .i64 a0_3]) (.int .i64 1)).run Tryz.prog w = .ok (.int .i64 a0_2) w := fun _ => by kernel_rfl
 have i2 : ∀ w, (Instr.index 115 (.agg #[.int .i64 a0_1, .int .i64 a0_2, .int .i64 a0_3]) (.int .i64 2)).run Tryz.prog w = .ok (.int .i64 a0_3) w := fun _ => by kernel_rfl
 have b2 : Go.bits .and .i64 2 1 = 0 := by decide +kernel
 have b4 : Go.bits .and .i64 4 1 = 0 := by decide +kernel
 have b9 : Go.bits .and .i64 9 1 = 1 := by decide +kernel
 have b8_ : Go.bits .and .i64 9 8 = 8 := by decide +kernel
 go_enter Tryz.func79, Tryz.ntmps79
 go_wp2_with (go_at_call 60; refine (HFC _).mono ?_; rintro e w' ⟨rfl, m, rfl⟩)
 go_loopw [18] (fun i wr => ∃ k n : Nat, k ≤ 3 ∧ i = .int .i64 k ∧ ((0 < k → impl_isInstr.fld 9 1 a0_1 0 15 = true) ∧ (1 < k → impl_isInstr.fld 9 2 a0_2 0 15 = true) ∧ (2 < k → impl_isInstr.fld 9 4 a0_3 0 15 = true)) ∧ wr = (w.alloc (.cells #[.int .i64 a0_0, .int .i64 a0_1, .int .i64 a0_2, .int .i64 a0_3, .int .i64 a0_4] 48)).drewN n) (fun i _ => 3 - (intOf i).toNat)
 case atStart => exact ⟨0, _, by omega, rfl, ⟨fun h => absurd h (by omega), fun h => absurd h (by omega), fun h => absurd h (by omega)⟩, rfl⟩
 case round =>
  obtain ⟨k, n, hk, rfl, hok, rfl⟩ := hrel
  have HOK := Lib.hid hok; clear hok
  rcases (show k = 0 ∨ k = 1 ∨ k = 2 ∨ k = 3 by omega) with rfl | rfl | rfl | rfl
  · by_cases hin : 0 ≤ a0_1 ∧ a0_1 ≤ 15
    · have HIN := Lib.hid (show impl_isInstr.fld 9 1 a0_1 0 15 = true by unfold impl_isInstr.fld; rw [if_pos (by decide)]; simpa using hin); have HI2 := Lib.hid hin; clear hin
      go_wp2_with (go_at_call 75; refine (impl_isInstr.yes a0_1 0 15 _ HI2.out).mono ?_; rintro e w' ⟨rfl, m, rfl⟩)
      go_roundw
      case rel => exact ⟨1, _, by omega, rfl, ⟨fun _ => HIN.out, fun h => absurd h (by omega), fun h => absurd h (by omega)⟩, rfl⟩
      case measure => simp [intOf]
    · have HNO := Lib.hid (show impl_isInstr.fld 9 1 a0_1 0 15 = false by unfold impl_isInstr.fld; rw [if_pos (by decide)]; simpa using hin); have HI2 := Lib.hid hin; clear hin
      go_wp2_with (go_at_call 75; refine (impl_isInstr.no a0_1 0 15 _ HI2.out).mono ?_; rintro e w' ⟨rfl, m, rfl⟩)
      go_ret
      refine ⟨?_, by repeat (first | exact Below.refl _ _ | apply below_alloc | apply pw_below_drewN)⟩
      refine impl_isInstr.ret (Eq.trans ?_ HR.out)
      rw [HNO.out]; simp
  · by_cases hin : a0_2 = 0
    · have HIN := Lib.hid (show impl_isInstr.fld 9 2 a0_2 0 15 = true by unfold impl_isInstr.fld; rw [if_neg (by decide)]; simpa using hin)
      have z1 : (a0_2 != 0) = false := by rw [hin]; rfl
      have z2 : decide (a0_2 = 0) = true := by simp [hin]
      clear hin
      go_wp2
      go_roundw
      case rel => exact ⟨2, _, by omega, rfl, ⟨fun _ => HOK.out.1 (by omega), fun _ => HIN.out, fun h => absurd h (by omega)⟩, rfl⟩
      case measure => simp [intOf]
    · have HNO := Lib.hid (show impl_isInstr.fld 9 2 a0_2 0 15 = false by unfold impl_isInstr.fld; rw [if_neg (by decide)]; simpa using hin)
      have z1 : (a0_2 != 0) = true := by simpa using hin
      have z2 : decide (a0_2 = 0) = false := by simpa using hin
      clear hin
      go_wp2
      go_ret
      refine ⟨?_, by repeat (first | exact Below.refl _ _ | apply below_alloc | apply pw_below_drewN)⟩
      refine impl_isInstr.ret (Eq.trans ?_ HR.out)
      rw [HNO.out]; simp
  · by_cases hin : a0_3 = 0
    · have HIN := Lib.hid (show impl_isInstr.fld 9 4 a0_3 0 15 = true by unfold impl_isInstr.fld; rw [if_neg (by decide)]; simpa using hin)
      have z1 : (a0_3 != 0) = false := by rw [hin]; rfl
      have z2 : decide (a0_3 = 0) = true := by simp [hin]
      clear hin
      go_wp2
      go_roundw
      case rel => exact ⟨3, _, by omega, rfl, ⟨fun _ => HOK.out.1 (by omega), fun _ => HOK.out.2.1 (by omega), fun _ => HIN.out⟩, rfl⟩
      case measure => simp [intOf]
    · have HNO := Lib.hid (show impl_isInstr.fld 9 4 a0_3 0 15 = false by unfold impl_isInstr.fld; rw [if_neg (by decide)]; simpa using hin)
      have z1 : (a0_3 != 0) = true := by simpa using hin
      have z2 : decide (a0_3 = 0) = false := by simpa using hin
      clear hin
      go_wp2
      go_ret
      refine ⟨?_, by repeat (first | exact Below.refl _ _ | apply below_alloc | apply pw_below_drewN)⟩
      refine impl_isInstr.ret (Eq.trans ?_ HR.out)
      rw [HNO.out]; simp
  · go_wp2_with (go_at_call 44; refine (impl_isInstr.imm a0_4 _).mono ?_; rintro e w' ⟨rfl, m, rfl⟩)
    go_ret
    refine ⟨?_, by repeat (first | exact Below.refl _ _ | apply below_alloc | apply pw_below_drewN)⟩
    refine impl_isInstr.ret (Eq.trans ?_ HR.out)
    rw [HOK.out.1 (by omega), HOK.out.2.1 (by omega), HOK.out.2.2 (by omega)]
    unfold impl_isInstr.fld; rw [if_pos (by decide)]; simp
set_option maxHeartbeats 8000000 in
set_option maxRecDepth 100000 in
theorem impl_isInstr.form10 (a0_0 : Int) (a0_1 : Int) (a0_2 : Int) (a0_3 : Int) (a0_4 : Int) (r : Bool) (w : World) (HF : Hid (impl_isInstr.form a0_0 = 10))
 (HR : Hid ((impl_isInstr.fld 10 1 a0_1 0 15 && impl_isInstr.fld 10 2 a0_2 0 15 && impl_isInstr.fld 10 4 a0_3 0 15 && impl_isInstr.fld 10 8 a0_4 (-8192) 8191) = r)) :
 Calls Tryz.prog 79 #[.agg #[.int .i64 a0_0, .int .i64 a0_1, .int .i64 a0_2, .int .i64 a0_3, .int .i64 a0_4]] w fun e w' => e = .returned (.bool r) ∧ Below w.heap.size w w' := by
 have hu := Tryz.underlying48
 have HFC := fun W => impl_formOf.calls 8 a0_0 10 W (by rw [impl_isInstr.form_eq, HF.out])
 have i0 : ∀ w, (Instr.index 115 (.agg #[.int .i64 a0_1, .int .i64 a0_2, .int .i64 a0_3]) (.int .i64 0)).run Tryz.prog w = .ok (.int .i64 a0_1) w := fun _ => by kernel_rfl
 have i1 : ∀ w, (Instr.index 115 (.agg #[.int .i64 a0_1, .int .i64 a0_2, .int .i64 a0_3]) (.int .i64 1)).run Tryz.prog w = .ok (.int .i64 a0_2) w := fun _ => by kernel_rfl
 have i2 : ∀ w, (Instr.index 115 (.agg #[.int .i64 a0_1, .int .i64 a0_2, .int .i64 a0_3]) (.int .i64 2)).run Tryz.prog w = .ok (.int .i64 a0_3) w := fun _ => by kernel_rfl
 have b2 : Go.bits .and .i64 2 1 = 0 := by decide +kernel
 have b5 : Go.bits .and .i64 5 1 = 1 := by decide +kernel
 have b10 : Go.bits .and .i64 10 1 = 0 := by decide +kernel
 have b8_ : Go.bits .and .i64 10 8 = 8 := by decide +kernel
 go_enter Tryz.func79, Tryz.ntmps79
 go_wp2_with (go_at_call 60; refine (HFC _).mono ?_; rintro e w' ⟨rfl, m, rfl⟩)
 go_loopw [18] (fun i wr => ∃ k n : Nat, k ≤ 3 ∧ i = .int .i64 k ∧ ((0 < k → impl_isInstr.fld 10 1 a0_1 0 15 = true) ∧ (1 < k → impl_isInstr.fld 10 2 a0_2 0 15 = true) ∧ (2 < k → impl_isInstr.fld 10 4 a0_3 0 15 = true)) ∧ wr = (w.alloc (.cells #[.int .i64 a0_0, .int .i64 a0_1, .int .i64 a0_2, .int .i64 a0_3, .int .i64 a0_4] 48)).drewN n) (fun i _ => 3 - (intOf i).toNat)
 case atStart => exact ⟨0, _, by omega, rfl, ⟨fun h => absurd h (by omega), fun h => absurd h (by omega), fun h => absurd h (by omega)⟩, rfl⟩
 case round =>
  obtain ⟨k, n, hk, rfl, hok, rfl⟩ := hrel
  have HOK := Lib.hid hok; clear hok
  rcases (show k = 0 ∨ k = 1 ∨ k = 2 ∨ k = 3 by omega) with rfl | rfl | rfl | rfl
  · by_cases hin : a0_1 = 0
    · have HIN := Lib.hid (show impl_isInstr.fld 10 1 a0_1 0 15 = true by unfold impl_isInstr.fld; rw [if_neg (by decide)]; simpa using hin)
      have z1 : (a0_1 != 0) = false := by rw [hin]; rfl
      have z2 : decide (a0_1 = 0) = true := by simp [hin]
      clear hin
      go_wp2
      go_roundw
      case rel => exact ⟨1, _, by omega, rfl, ⟨fun _ => HIN.out, fun h => absurd h (by omega), fun h => absurd h (by omega)⟩, rfl⟩
      case measure => simp [intOf]
    · have HNO := Lib.hid (show impl_isInstr.fld 10 1 a0_1 0 15 = false by unfold impl_isInstr.fld; rw [if_neg (by decide)]; simpa using hin)
      have z1 : (a0_1 != 0) = true := by simpa using hin
      have z2 : decide (a0_1 = 0) = false := by simpa using hin
      clear hin
      go_wp2
      go_ret
      refine ⟨?_, by repeat (first | exact Below.refl _ _ | apply below_alloc | apply pw_below_drewN)⟩
      refine impl_isInstr.ret (Eq.trans ?_ HR.out)
      rw [HNO.out]; simp
  · by_cases hin : 0 ≤ a0_2 ∧ a0_2 ≤ 15
    · have HIN := Lib.hid (show impl_isInstr.fld 10 2 a0_2 0 15 = true by unfold impl_isInstr.fld; rw [if_pos (by decide)]; simpa using hin); have HI2 := Lib.hid hin; clear hin
      go_wp2_with (go_at_call 75; refine (impl_isInstr.yes a0_2 0 15 _ HI2.out).mono ?_; rintro e w' ⟨rfl, m, rfl⟩)
      go_roundw
      case rel => exact ⟨2, _, by omega, rfl, ⟨fun _ => HOK.out.1 (by omega), fun _ => HIN.out, fun h => absurd h (by omega)⟩, rfl⟩
      case measure => simp [intOf]
    · have HNO := Lib.hid (show impl_isInstr.fld 10 2 a0_2 0 15 = false by unfold impl_isInstr.fld; rw [if_pos (by decide)]; simpa using hin); have HI2 := Lib.hid hin; clear hin
      go_wp2_with (go_at_call 75; refine (impl_isInstr.no a0_2 0 15 _ HI2.out).mono ?_; rintro e w' ⟨rfl, m, rfl⟩)
      go_ret
      refine ⟨?_, by repeat (first | exact Below.refl _ _ | apply below_alloc | apply pw_below_drewN)⟩
      refine impl_isInstr.ret (Eq.trans ?_ HR.out)
      rw [HNO.out]; simp
  · by_cases hin : a0_3 = 0
    · have HIN := Lib.hid (show impl_isInstr.fld 10 4 a0_3 0 15 = true by unfold impl_isInstr.fld; rw [if_neg (by decide)]; simpa using hin)
      have z1 : (a0_3 != 0) = false := by rw [hin]; rfl
      have z2 : decide (a0_3 = 0) = true := by simp [hin]
      clear hin
      go_wp2
      go_roundw
      case rel => exact ⟨3, _, by omega, rfl, ⟨fun _ => HOK.out.1 (by omega), fun _ => HOK.out.2.1 (by omega), fun _ => HIN.out⟩, rfl⟩
      case measure => simp [intOf]
    · have HNO := Lib.hid (show impl_isInstr.fld 10 4 a0_3 0 15 = false by unfold impl_isInstr.fld; rw [if_neg (by decide)]; simpa using hin)
      have z1 : (a0_3 != 0) = true := by simpa using hin
      have z2 : decide (a0_3 = 0) = false := by simpa using hin
      clear hin
      go_wp2
      go_ret
      refine ⟨?_, by repeat (first | exact Below.refl _ _ | apply below_alloc | apply pw_below_drewN)⟩
      refine impl_isInstr.ret (Eq.trans ?_ HR.out)
      rw [HNO.out]; simp
  · go_wp2_with (go_at_call 44; refine (impl_isInstr.imm a0_4 _).mono ?_; rintro e w' ⟨rfl, m, rfl⟩)
    go_ret
    refine ⟨?_, by repeat (first | exact Below.refl _ _ | apply below_alloc | apply pw_below_drewN)⟩
    refine impl_isInstr.ret (Eq.trans ?_ HR.out)
    rw [HOK.out.1 (by omega), HOK.out.2.1 (by omega), HOK.out.2.2 (by omega)]
    unfold impl_isInstr.fld; rw [if_pos (by decide)]; simp
set_option maxHeartbeats 8000000 in
set_option maxRecDepth 100000 in
theorem impl_isInstr.form11 (a0_0 : Int) (a0_1 : Int) (a0_2 : Int) (a0_3 : Int) (a0_4 : Int) (r : Bool) (w : World) (HF : Hid (impl_isInstr.form a0_0 = 11))
 (HR : Hid ((impl_isInstr.fld 11 1 a0_1 0 15 && impl_isInstr.fld 11 2 a0_2 0 15 && impl_isInstr.fld 11 4 a0_3 0 15 && impl_isInstr.fld 11 8 a0_4 (-8192) 8191) = r)) :
 Calls Tryz.prog 79 #[.agg #[.int .i64 a0_0, .int .i64 a0_1, .int .i64 a0_2, .int .i64 a0_3, .int .i64 a0_4]] w fun e w' => e = .returned (.bool r) ∧ Below w.heap.size w w' := by
 have hu := Tryz.underlying48
 have HFC := fun W => impl_formOf.calls 8 a0_0 11 W (by rw [impl_isInstr.form_eq, HF.out])
 have i0 : ∀ w, (Instr.index 115 (.agg #[.int .i64 a0_1, .int .i64 a0_2, .int .i64 a0_3]) (.int .i64 0)).run Tryz.prog w = .ok (.int .i64 a0_1) w := fun _ => by kernel_rfl
 have i1 : ∀ w, (Instr.index 115 (.agg #[.int .i64 a0_1, .int .i64 a0_2, .int .i64 a0_3]) (.int .i64 1)).run Tryz.prog w = .ok (.int .i64 a0_2) w := fun _ => by kernel_rfl
 have i2 : ∀ w, (Instr.index 115 (.agg #[.int .i64 a0_1, .int .i64 a0_2, .int .i64 a0_3]) (.int .i64 2)).run Tryz.prog w = .ok (.int .i64 a0_3) w := fun _ => by kernel_rfl
 have b2 : Go.bits .and .i64 2 1 = 0 := by decide +kernel
 have b5 : Go.bits .and .i64 5 1 = 1 := by decide +kernel
 have b11 : Go.bits .and .i64 11 1 = 1 := by decide +kernel
 have b8_ : Go.bits .and .i64 11 8 = 8 := by decide +kernel
 go_enter Tryz.func79, Tryz.ntmps79
 go_wp2_with (go_at_call 60; refine (HFC _).mono ?_; rintro e w' ⟨rfl, m, rfl⟩)
 go_loopw [18] (fun i wr => ∃ k n : Nat, k ≤ 3 ∧ i = .int .i64 k ∧ ((0 < k → impl_isInstr.fld 11 1 a0_1 0 15 = true) ∧ (1 < k → impl_isInstr.fld 11 2 a0_2 0 15 = true) ∧ (2 < k → impl_isInstr.fld 11 4 a0_3 0 15 = true)) ∧ wr = (w.alloc (.cells #[.int .i64 a0_0, .int .i64 a0_1, .int .i64 a0_2, .int .i64 a0_3, .int .i64 a0_4] 48)).drewN n) (fun i _ => 3 - (intOf i).toNat)
 case atStart => exact ⟨0, _, by omega, rfl, ⟨fun h => absurd h (by omega), fun h => absurd h (by omega), fun h => absurd h (by omega)⟩, rfl⟩
 case round =>
  obtain ⟨k, n, hk, rfl, hok, rfl⟩ := hrel
  have HOK := Lib.hid hok; clear hok
  rcases (show k = 0 ∨ k = 1 ∨ k = 2 ∨ k = 3 by omega) with rfl | rfl | rfl | rfl
  · by_cases hin : 0 ≤ a0_1 ∧ a0_1 ≤ 15
    · have HIN := Lib.hid (show impl_isInstr.fld 11 1 a0_1 0 15 = true by unfold impl_isInstr.fld; rw [if_pos (by decide)]; simpa using hin); have HI2 := Lib.hid hin; clear hin
      go_wp2_with (go_at_call 75; refine (impl_isInstr.yes a0_1 0 15 _ HI2.out).mono ?_; rintro e w' ⟨rfl, m, rfl⟩)
      go_roundw
      case rel => exact ⟨1, _, by omega, rfl, ⟨fun _ => HIN.out, fun h => absurd h (by omega), fun h => absurd h (by omega)⟩, rfl⟩
      case measure => simp [intOf]
    · have HNO := Lib.hid (show impl_isInstr.fld 11 1 a0_1 0 15 = false by unfold impl_isInstr.fld; rw [if_pos (by decide)]; simpa using hin); have HI2 := Lib.hid hin; clear hin
      go_wp2_with (go_at_call 75; refine (impl_isInstr.no a0_1 0 15 _ HI2.out).mono ?_; rintro e w' ⟨rfl, m, rfl⟩)
      go_ret
      refine ⟨?_, by repeat (first | exact Below.refl _ _ | apply below_alloc | apply pw_below_drewN)⟩
      refine impl_isInstr.ret (Eq.trans ?_ HR.out)
      rw [HNO.out]; simp
  · by_cases hin : 0 ≤ a0_2 ∧ a0_2 ≤ 15
    · have HIN := Lib.hid (show impl_isInstr.fld 11 2 a0_2 0 15 = true by unfold impl_isInstr.fld; rw [if_pos (by decide)]; simpa using hin); have HI2 := Lib.hid hin; clear hin
      go_wp2_with (go_at_call 75; refine (impl_isInstr.yes a0_2 0 15 _ HI2.out).mono ?_; rintro e w' ⟨rfl, m, rfl⟩)
      go_roundw
      case rel => exact ⟨2, _, by omega, rfl, ⟨fun _ => HOK.out.1 (by omega), fun _ => HIN.out, fun h => absurd h (by omega)⟩, rfl⟩
      case measure => simp [intOf]
    · have HNO := Lib.hid (show impl_isInstr.fld 11 2 a0_2 0 15 = false by unfold impl_isInstr.fld; rw [if_pos (by decide)]; simpa using hin); have HI2 := Lib.hid hin; clear hin
      go_wp2_with (go_at_call 75; refine (impl_isInstr.no a0_2 0 15 _ HI2.out).mono ?_; rintro e w' ⟨rfl, m, rfl⟩)
      go_ret
      refine ⟨?_, by repeat (first | exact Below.refl _ _ | apply below_alloc | apply pw_below_drewN)⟩
      refine impl_isInstr.ret (Eq.trans ?_ HR.out)
      rw [HNO.out]; simp
  · by_cases hin : a0_3 = 0
    · have HIN := Lib.hid (show impl_isInstr.fld 11 4 a0_3 0 15 = true by unfold impl_isInstr.fld; rw [if_neg (by decide)]; simpa using hin)
      have z1 : (a0_3 != 0) = false := by rw [hin]; rfl
      have z2 : decide (a0_3 = 0) = true := by simp [hin]
      clear hin
      go_wp2
      go_roundw
      case rel => exact ⟨3, _, by omega, rfl, ⟨fun _ => HOK.out.1 (by omega), fun _ => HOK.out.2.1 (by omega), fun _ => HIN.out⟩, rfl⟩
      case measure => simp [intOf]
    · have HNO := Lib.hid (show impl_isInstr.fld 11 4 a0_3 0 15 = false by unfold impl_isInstr.fld; rw [if_neg (by decide)]; simpa using hin)
      have z1 : (a0_3 != 0) = true := by simpa using hin
      have z2 : decide (a0_3 = 0) = false := by simpa using hin
      clear hin
      go_wp2
      go_ret
      refine ⟨?_, by repeat (first | exact Below.refl _ _ | apply below_alloc | apply pw_below_drewN)⟩
      refine impl_isInstr.ret (Eq.trans ?_ HR.out)
      rw [HNO.out]; simp
  · go_wp2_with (go_at_call 44; refine (impl_isInstr.imm a0_4 _).mono ?_; rintro e w' ⟨rfl, m, rfl⟩)
    go_ret
    refine ⟨?_, by repeat (first | exact Below.refl _ _ | apply below_alloc | apply pw_below_drewN)⟩
    refine impl_isInstr.ret (Eq.trans ?_ HR.out)
    rw [HOK.out.1 (by omega), HOK.out.2.1 (by omega), HOK.out.2.2 (by omega)]
    unfold impl_isInstr.fld; rw [if_pos (by decide)]; simp
set_option maxHeartbeats 8000000 in
set_option maxRecDepth 100000 in
theorem impl_isInstr.nope (a0_0 : Int) (a0_1 : Int) (a0_2 : Int) (a0_3 : Int) (a0_4 : Int) (w : World) (HF : Hid (impl_isInstr.form a0_0 = -1)) :
 Calls Tryz.prog 79 #[.agg #[.int .i64 a0_0, .int .i64 a0_1, .int .i64 a0_2, .int .i64 a0_3, .int .i64 a0_4]] w fun e w' => e = .returned (.bool false) ∧ Below w.heap.size w w' := by
 have hu := Tryz.underlying48
 have HFC := fun W => impl_formOf.calls 8 a0_0 (-1) W (by rw [impl_isInstr.form_eq, HF.out])
 go_enter Tryz.func79, Tryz.ntmps79
 go_wp2_with (go_at_call 60; refine (HFC _).mono ?_; rintro e w' ⟨rfl, m, rfl⟩)
 go_ret
 exact ⟨rfl, by repeat (first | exact Below.refl _ _ | apply below_alloc | apply pw_below_drewN)⟩
theorem impl_isInstr.forms (op : Int) (h : 0 ≤ op ∧ op ≤ 32) : impl_isInstr.form op = 0 ∨ impl_isInstr.form op = 1 ∨ impl_isInstr.form op = 7 ∨ impl_isInstr.form op = 8 ∨ impl_isInstr.form op = 9 ∨ impl_isInstr.form op = 10 ∨ impl_isInstr.form op = 11 := by
 unfold impl_isInstr.form
 repeat' split
 all_goals omega
theorem impl_isInstr.calls (a0_0 : Int) (a0_1 : Int) (a0_2 : Int) (a0_3 : Int) (a0_4 : Int) (r : Bool) (w : World) (h : impl_isInstr.f a0_0 a0_1 a0_2 a0_3 a0_4 = some r) :
 Calls Tryz.prog 79 #[.agg #[.int .i64 a0_0, .int .i64 a0_1, .int .i64 a0_2, .int .i64 a0_3, .int .i64 a0_4]] w fun e w' => e = .returned (.bool r) ∧ Below w.heap.size w w' := by
 have hr : impl_isInstr.ok a0_0 a0_1 a0_2 a0_3 a0_4 = r := Option.some.inj h
 unfold impl_isInstr.ok at hr
 by_cases hop : 0 ≤ a0_0 ∧ a0_0 ≤ 32
 · rw [decide_eq_true hop, Bool.true_and] at hr
   rcases impl_isInstr.forms a0_0 hop with hf | hf | hf | hf | hf | hf | hf <;> rw [hf] at hr
   · exact impl_isInstr.form0 a0_0 a0_1 a0_2 a0_3 a0_4 r w (Lib.hid hf) (Lib.hid hr)
   · exact impl_isInstr.form1 a0_0 a0_1 a0_2 a0_3 a0_4 r w (Lib.hid hf) (Lib.hid hr)
   · exact impl_isInstr.form7 a0_0 a0_1 a0_2 a0_3 a0_4 r w (Lib.hid hf) (Lib.hid hr)
   · exact impl_isInstr.form8 a0_0 a0_1 a0_2 a0_3 a0_4 r w (Lib.hid hf) (Lib.hid hr)
   · exact impl_isInstr.form9 a0_0 a0_1 a0_2 a0_3 a0_4 r w (Lib.hid hf) (Lib.hid hr)
   · exact impl_isInstr.form10 a0_0 a0_1 a0_2 a0_3 a0_4 r w (Lib.hid hf) (Lib.hid hr)
   · exact impl_isInstr.form11 a0_0 a0_1 a0_2 a0_3 a0_4 r w (Lib.hid hf) (Lib.hid hr)
 · rw [decide_eq_false hop] at hr
   simp only [Bool.false_and] at hr
   subst hr
   refine impl_isInstr.nope a0_0 a0_1 a0_2 a0_3 a0_4 w (Lib.hid ?_)
   unfold impl_isInstr.form
   by_cases h1 : a0_0 < 0
   · rw [if_pos h1]
   · rw [if_neg h1, if_pos (by omega)]

/-! ### impl_decode: function 51 -/
def impl_decode.f (a0 : Int) : Option (Int × Int × Int × Int × Int × Bool) := if (wrap64 (Go.bits .and .u32 a0 16383)) > 8191 then ((impl_isInstr.f (wrap64 (a0 / 67108864)) (wrap64 (Go.bits .and .u32 (a0 / 4194304) 15)) (wrap64 (Go.bits .and .u32 (a0 / 262144) 15)) (wrap64 (Go.bits .and .u32 (a0 / 16384) 15)) (wrap64 ((wrap64 (Go.bits .and .u32 a0 16383)) - 16384))).bind fun t248 => (if t248 = true then (some (wrap64 (a0 / 67108864), wrap64 (Go.bits .and .u32 (a0 / 4194304) 15), wrap64 (Go.bits .and .u32 (a0 / 262144) 15), wrap64 (Go.bits .and .u32 (a0 / 16384) 15), wrap64 ((wrap64 (Go.bits .and .u32 a0 16383)) - 16384), true)) else (some (0, 0, 0, 0, 0, false)))) else ((impl_isInstr.f (wrap64 (a0 / 67108864)) (wrap64 (Go.bits .and .u32 (a0 / 4194304) 15)) (wrap64 (Go.bits .and .u32 (a0 / 262144) 15)) (wrap64 (Go.bits .and .u32 (a0 / 16384) 15)) (wrap64 (Go.bits .and .u32 a0 16383))).bind fun t250 => (if t250 = true then (some (wrap64 (a0 / 67108864), wrap64 (Go.bits .and .u32 (a0 / 4194304) 15), wrap64 (Go.bits .and .u32 (a0 / 262144) 15), wrap64 (Go.bits .and .u32 (a0 / 16384) 15), wrap64 (Go.bits .and .u32 a0 16383), true)) else (some (0, 0, 0, 0, 0, false))))
set_option maxHeartbeats 8000000 in
set_option maxRecDepth 100000 in
theorem impl_decode.calls (a0 : Int) (r1 : Int) (r2 : Int) (r3 : Int) (r4 : Int) (r5 : Int) (r6 : Bool) (w : World) (h : impl_decode.f a0 = some (r1, r2, r3, r4, r5, r6)) :
 Calls Tryz.prog 51 #[.int .u32 a0] w fun e w' => e = .returned (.tuple #[.agg #[.int .i64 r1, .int .i64 r2, .int .i64 r3, .int .i64 r4, .int .i64 r5], .bool r6]) ∧ Below w.heap.size w w' := by
 have hu48 := Tryz.underlying48
 have HB := Aside0.mk (Below.refl w.heap.size w)
 have H : (if (wrap64 (Go.bits .and .u32 a0 16383)) > 8191 then ((impl_isInstr.f (wrap64 (a0 / 67108864)) (wrap64 (Go.bits .and .u32 (a0 / 4194304) 15)) (wrap64 (Go.bits .and .u32 (a0 / 262144) 15)) (wrap64 (Go.bits .and .u32 (a0 / 16384) 15)) (wrap64 ((wrap64 (Go.bits .and .u32 a0 16383)) - 16384))).bind fun t248 => (if t248 = true then (some (wrap64 (a0 / 67108864), wrap64 (Go.bits .and .u32 (a0 / 4194304) 15), wrap64 (Go.bits .and .u32 (a0 / 262144) 15), wrap64 (Go.bits .and .u32 (a0 / 16384) 15), wrap64 ((wrap64 (Go.bits .and .u32 a0 16383)) - 16384), true)) else (some (0, 0, 0, 0, 0, false)))) else ((impl_isInstr.f (wrap64 (a0 / 67108864)) (wrap64 (Go.bits .and .u32 (a0 / 4194304) 15)) (wrap64 (Go.bits .and .u32 (a0 / 262144) 15)) (wrap64 (Go.bits .and .u32 (a0 / 16384) 15)) (wrap64 (Go.bits .and .u32 a0 16383))).bind fun t250 => (if t250 = true then (some (wrap64 (a0 / 67108864), wrap64 (Go.bits .and .u32 (a0 / 4194304) 15), wrap64 (Go.bits .and .u32 (a0 / 262144) 15), wrap64 (Go.bits .and .u32 (a0 / 16384) 15), wrap64 (Go.bits .and .u32 a0 16383), true)) else (some (0, 0, 0, 0, 0, false))))) = some (r1, r2, r3, r4, r5, r6) := h
 clear h
 by_cases c2 : (wrap64 (Go.bits .and .u32 a0 16383)) > 8191
 · rw [if_pos c2] at H
   have c2b0 : decide (8191 < (wrap64 (Go.bits .and .u32 a0 16383))) = true := decide_eq_true c2
   clear c2
   replace H := Option.bind_eq_some_iff.mp H
   obtain ⟨t248, A30, H⟩ := H
   replace H : (if t248 = true then (some (wrap64 (a0 / 67108864), wrap64 (Go.bits .and .u32 (a0 / 4194304) 15), wrap64 (Go.bits .and .u32 (a0 / 262144) 15), wrap64 (Go.bits .and .u32 (a0 / 16384) 15), wrap64 ((wrap64 (Go.bits .and .u32 a0 16383)) - 16384), true)) else (some (0, 0, 0, 0, 0, false))) = some (r1, r2, r3, r4, r5, r6) := H
   have A3 := Aside0.mk A30
   clear A30
   by_cases c4 : t248 = true
   · subst c4
     have H1 : (some (wrap64 (a0 / 67108864), wrap64 (Go.bits .and .u32 (a0 / 4194304) 15), wrap64 (Go.bits .and .u32 (a0 / 262144) 15), wrap64 (Go.bits .and .u32 (a0 / 16384) 15), wrap64 ((wrap64 (Go.bits .and .u32 a0 16383)) - 16384), true)) = some (r1, r2, r3, r4, r5, r6) := by rw [if_pos rfl] at H; exact H
     clear H
     have H := H1
     clear H1
     simp only [Option.some.injEq, Prod.mk.injEq] at H
     obtain ⟨rfl, rfl, rfl, rfl, rfl, rfl⟩ := H
     go_enter Tryz.func51, Tryz.ntmps51
     go_wp2_with (first | ((with_reducible refine gate_dst (N := 2) rfl ?_); refine box_event ?hg (N := 2) ?hd (cs := #[.int .i64 0, .int .i64 0, .int .i64 0, .int .i64 0, .int .i64 0]) (t := 48) ?hr ?_; (case hd => rfl); (case hg => rfl); (case hr => first | (go_simp; done) | (go_simp; rfl)); intro gb246 hg w5 hbox hb; have n0_ := Aside0.mk (below_step (by repeat (first | (with_reducible first | exact HB.out | apply below_alloc | apply pw_below_drewN | apply below_drew1) | exact HB.out)) hb); have n1_ := Aside0.mk (hbox); have n2_ := Aside0.mk ((by rw [hg]; exact (below_size (by repeat (first | (with_reducible first | exact HB.out | apply below_alloc | apply pw_below_drewN | apply below_drew1) | exact HB.out))) : w.heap.size ≤ gb246)); have n3_ := Aside0.mk ((by rw [hg]; exact (below_size (by repeat (first | (with_reducible first | exact HB.out | apply below_alloc | apply pw_below_drewN | apply below_drew1) | exact HB.out))) : w.heap.size ≤ gb246)); clear HB; have HB := n0_; have BK246 := n1_; have GW246 := n2_; have GE246 := n3_; clear n0_ n1_ n2_ n3_; clear hb hbox hg) | ((with_reducible refine gate_dst (N := 5) rfl ?_); refine box_event ?hg (N := 5) ?hd (cs := #[.int .i64 0, .int .i64 0, .int .i64 0, .int .i64 0, .int .i64 0]) (t := 48) ?hr ?_; (case hd => rfl); (case hg => rfl); (case hr => first | (go_simp; done) | (go_simp; rfl)); intro gb247 hg w6 hbox hb; have n0_ := Aside0.mk (blk_below (g := gb246) (o := .cells #[.int .i64 0, .int .i64 0, .int .i64 0, .int .i64 0, .int .i64 0] 48 (0, 0)) (by (with_reducible repeat (first | refine blk_drewN ?_ _ | refine blk_drew ?_ | refine blk_alloc ?_ _)); exact BK246.out) hb); have n1_ := Aside0.mk (below_step (by repeat (first | (with_reducible first | exact HB.out | apply below_alloc | apply pw_below_drewN | apply below_drew1 | refine below_set ?_ GE246.out) | exact HB.out)) hb); have n2_ := Aside0.mk (hbox); have n3_ := Aside0.mk ((by rw [hg]; exact (below_size (by repeat (first | (with_reducible first | exact HB.out | apply below_alloc | apply pw_below_drewN | apply below_drew1 | refine below_set ?_ GE246.out) | exact HB.out))) : w.heap.size ≤ gb247)); have n4_ := Aside0.mk ((by rw [hg]; exact (below_size (by repeat (first | (with_reducible first | exact HB.out | apply below_alloc | apply pw_below_drewN | apply below_drew1 | refine below_set ?_ GE246.out) | exact HB.out))) : w.heap.size ≤ gb247)); have n5_ := Aside0.mk ((by rw [hg]; exact Nat.ne_of_lt (blk_lt (g := gb246) (o := .cells #[.int .i64 0, .int .i64 0, .int .i64 0, .int .i64 0, .int .i64 0] 48 (0, 0)) (by (with_reducible repeat (first | refine blk_drewN ?_ _ | refine blk_drew ?_ | refine blk_alloc ?_ _)); exact BK246.out)) : gb246 ≠ gb247)); have n6_ := Aside0.mk ((by rw [hg]; exact Nat.ne_of_gt (blk_lt (g := gb246) (o := .cells #[.int .i64 0, .int .i64 0, .int .i64 0, .int .i64 0, .int .i64 0] 48 (0, 0)) (by (with_reducible repeat (first | refine blk_drewN ?_ _ | refine blk_drew ?_ | refine blk_alloc ?_ _)); exact BK246.out)) : gb247 ≠ gb246)); clear BK246; clear HB; have BK246 := n0_; have HB := n1_; have BK247 := n2_; have GW247 := n3_; have GE247 := n4_; have NB246_247 := n5_; have NB247_246 := n6_; clear n0_ n1_ n2_ n3_ n4_ n5_ n6_; clear hb hbox hg; have hnb7 := NB247_246.out; have hnc7 := NB246_247.out; have hcz8_0 : w6.cell? ⟨gb247, 0, none⟩ = some (.int .i64 0) := (blk_cell BK247.out 0).trans rfl; have hcz8_1 : w6.cell? ⟨gb247, 1, none⟩ = some (.int .i64 0) := (blk_cell BK247.out 1).trans rfl; have hcz8_2 : w6.cell? ⟨gb247, 2, none⟩ = some (.int .i64 0) := (blk_cell BK247.out 2).trans rfl; have hcz8_3 : w6.cell? ⟨gb247, 3, none⟩ = some (.int .i64 0) := (blk_cell BK247.out 3).trans rfl; have hcz8_4 : w6.cell? ⟨gb247, 4, none⟩ = some (.int .i64 0) := (blk_cell BK247.out 4).trans rfl; have hfz8_0 := blk_frozen BK247.out 0; have hfz8_1 := blk_frozen BK247.out 1; have hfz8_2 := blk_frozen BK247.out 2; have hfz8_3 := blk_frozen BK247.out 3; have hfz8_4 := blk_frozen BK247.out 4) | ((with_reducible refine gate_callee (f := 79) rfl ?_); refine goesL_ (some 31) rfl rfl Tryz.func79 (by kernel_rfl) rfl #[.agg #[.int .i64 (wrap64 (a0 / 67108864)), .int .i64 (wrap64 (Go.bits .and .u32 (a0 / 4194304) 15)), .int .i64 (wrap64 (Go.bits .and .u32 (a0 / 262144) 15)), .int .i64 (wrap64 (Go.bits .and .u32 (a0 / 16384) 15)), .int .i64 (wrap64 ((wrap64 (Go.bits .and .u32 a0 16383)) - 16384))]] rfl (by (try simp only [List.map_toArray, List.map_cons, List.map_nil]); first | done | rfl | (simp only [List.length_drop, List.length_take]; rfl)) ?_; (with_reducible refine (impl_isInstr.calls (wrap64 (a0 / 67108864)) (wrap64 (Go.bits .and .u32 (a0 / 4194304) 15)) (wrap64 (Go.bits .and .u32 (a0 / 262144) 15)) (wrap64 (Go.bits .and .u32 (a0 / 16384) 15)) (wrap64 ((wrap64 (Go.bits .and .u32 a0 16383)) - 16384)) true _ A3.out).mono ?_); rintro e w9 ⟨rfl, hb⟩; refine ⟨_, rfl, ?_⟩; have n0_ := Aside0.mk (blk_below (g := gb246) (o := .cells #[.int .i64 0, .int .i64 0, .int .i64 0, .int .i64 0, .int .i64 0] 48 (0, 0)) (by (with_reducible repeat (first | refine blk_drewN ?_ _ | refine blk_drew ?_ | refine blk_alloc ?_ _)); refine blk_far ?_ NB246_247.out _; (with_reducible repeat (first | refine blk_drewN ?_ _ | refine blk_drew ?_ | refine blk_alloc ?_ _)); refine blk_far ?_ NB246_247.out _; (with_reducible repeat (first | refine blk_drewN ?_ _ | refine blk_drew ?_ | refine blk_alloc ?_ _)); refine blk_far ?_ NB246_247.out _; (with_reducible repeat (first | refine blk_drewN ?_ _ | refine blk_drew ?_ | refine blk_alloc ?_ _)); refine blk_far ?_ NB246_247.out _; (with_reducible repeat (first | refine blk_drewN ?_ _ | refine blk_drew ?_ | refine blk_alloc ?_ _)); refine blk_far ?_ NB246_247.out _; (with_reducible repeat (first | refine blk_drewN ?_ _ | refine blk_drew ?_ | refine blk_alloc ?_ _)); exact BK246.out) hb); have n1_ := Aside0.mk (blk_below (g := gb247) (o := .cells #[.int .i64 (wrap64 (a0 / 67108864)), .int .i64 (wrap64 (Go.bits .and .u32 (a0 / 4194304) 15)), .int .i64 (wrap64 (Go.bits .and .u32 (a0 / 262144) 15)), .int .i64 (wrap64 (Go.bits .and .u32 (a0 / 16384) 15)), .int .i64 (wrap64 ((wrap64 (Go.bits .and .u32 a0 16383)) - 16384))] 48 (0, 0)) (by (with_reducible repeat (first | refine blk_drewN ?_ _ | refine blk_drew ?_ | refine blk_alloc ?_ _)); refine blk_put (cs := #[.int .i64 (wrap64 (a0 / 67108864)), .int .i64 (wrap64 (Go.bits .and .u32 (a0 / 4194304) 15)), .int .i64 (wrap64 (Go.bits .and .u32 (a0 / 262144) 15)), .int .i64 (wrap64 (Go.bits .and .u32 (a0 / 16384) 15)), .int .i64 0]) ?_ 4 _ rfl; (with_reducible repeat (first | refine blk_drewN ?_ _ | refine blk_drew ?_ | refine blk_alloc ?_ _)); refine blk_put (cs := #[.int .i64 (wrap64 (a0 / 67108864)), .int .i64 (wrap64 (Go.bits .and .u32 (a0 / 4194304) 15)), .int .i64 (wrap64 (Go.bits .and .u32 (a0 / 262144) 15)), .int .i64 0, .int .i64 0]) ?_ 3 _ rfl; (with_reducible repeat (first | refine blk_drewN ?_ _ | refine blk_drew ?_ | refine blk_alloc ?_ _)); refine blk_put (cs := #[.int .i64 (wrap64 (a0 / 67108864)), .int .i64 (wrap64 (Go.bits .and .u32 (a0 / 4194304) 15)), .int .i64 0, .int .i64 0, .int .i64 0]) ?_ 2 _ rfl; (with_reducible repeat (first | refine blk_drewN ?_ _ | refine blk_drew ?_ | refine blk_alloc ?_ _)); refine blk_put (cs := #[.int .i64 (wrap64 (a0 / 67108864)), .int .i64 0, .int .i64 0, .int .i64 0, .int .i64 0]) ?_ 1 _ rfl; (with_reducible repeat (first | refine blk_drewN ?_ _ | refine blk_drew ?_ | refine blk_alloc ?_ _)); refine blk_put (cs := #[.int .i64 0, .int .i64 0, .int .i64 0, .int .i64 0, .int .i64 0]) ?_ 0 _ rfl; (with_reducible repeat (first | refine blk_drewN ?_ _ | refine blk_drew ?_ | refine blk_alloc ?_ _)); exact BK247.out) hb); have n2_ := Aside0.mk (below_step (by repeat (first | (with_reducible first | exact HB.out | apply below_alloc | apply pw_below_drewN | apply below_drew1 | refine below_set ?_ GE246.out | refine below_set ?_ GE247.out) | exact HB.out)) hb); clear BK246; clear BK247; clear HB; have BK246 := n0_; have BK247 := n1_; have HB := n2_; clear n0_ n1_ n2_; (try clear hb); (try clear hb2); (try clear hk); (try clear hi); have hcz10_0 : w9.cell? ⟨gb247, 0, none⟩ = some (.int .i64 (wrap64 (a0 / 67108864))) := (blk_cell BK247.out 0).trans rfl; have hcz10_1 : w9.cell? ⟨gb247, 1, none⟩ = some (.int .i64 (wrap64 (Go.bits .and .u32 (a0 / 4194304) 15))) := (blk_cell BK247.out 1).trans rfl; have hcz10_2 : w9.cell? ⟨gb247, 2, none⟩ = some (.int .i64 (wrap64 (Go.bits .and .u32 (a0 / 262144) 15))) := (blk_cell BK247.out 2).trans rfl; have hcz10_3 : w9.cell? ⟨gb247, 3, none⟩ = some (.int .i64 (wrap64 (Go.bits .and .u32 (a0 / 16384) 15))) := (blk_cell BK247.out 3).trans rfl; have hcz10_4 : w9.cell? ⟨gb247, 4, none⟩ = some (.int .i64 (wrap64 ((wrap64 (Go.bits .and .u32 a0 16383)) - 16384))) := (blk_cell BK247.out 4).trans rfl; have hfz10_0 := blk_frozen BK247.out 0; have hfz10_1 := blk_frozen BK247.out 1; have hfz10_2 := blk_frozen BK247.out 2; have hfz10_3 := blk_frozen BK247.out 3; have hfz10_4 := blk_frozen BK247.out 4; have hcz11_0 : w9.cell? ⟨gb246, 0, none⟩ = some (.int .i64 0) := (blk_cell BK246.out 0).trans rfl; have hcz11_1 : w9.cell? ⟨gb246, 1, none⟩ = some (.int .i64 0) := (blk_cell BK246.out 1).trans rfl; have hcz11_2 : w9.cell? ⟨gb246, 2, none⟩ = some (.int .i64 0) := (blk_cell BK246.out 2).trans rfl; have hcz11_3 : w9.cell? ⟨gb246, 3, none⟩ = some (.int .i64 0) := (blk_cell BK246.out 3).trans rfl; have hcz11_4 : w9.cell? ⟨gb246, 4, none⟩ = some (.int .i64 0) := (blk_cell BK246.out 4).trans rfl; have hfz11_0 := blk_frozen BK246.out 0; have hfz11_1 := blk_frozen BK246.out 1; have hfz11_2 := blk_frozen BK246.out 2; have hfz11_3 := blk_frozen BK246.out 3; have hfz11_4 := blk_frozen BK246.out 4))
     refine bodyPost_ret (results_ct rfl _ _ gb246 48 #[.int .i64 (wrap64 (a0 / 67108864)), .int .i64 (wrap64 (Go.bits .and .u32 (a0 / 4194304) 15)), .int .i64 (wrap64 (Go.bits .and .u32 (a0 / 262144) 15)), .int .i64 (wrap64 (Go.bits .and .u32 (a0 / 16384) 15)), .int .i64 (wrap64 ((wrap64 (Go.bits .and .u32 a0 16383)) - 16384))] (0, 0) _ rfl (by (with_reducible repeat (first | refine blk_drewN ?_ _ | refine blk_drew ?_ | refine blk_alloc ?_ _)); refine blk_put (cs := #[.int .i64 (wrap64 (a0 / 67108864)), .int .i64 (wrap64 (Go.bits .and .u32 (a0 / 4194304) 15)), .int .i64 (wrap64 (Go.bits .and .u32 (a0 / 262144) 15)), .int .i64 (wrap64 (Go.bits .and .u32 (a0 / 16384) 15)), .int .i64 0]) ?_ 4 _ rfl; (with_reducible repeat (first | refine blk_drewN ?_ _ | refine blk_drew ?_ | refine blk_alloc ?_ _)); refine blk_put (cs := #[.int .i64 (wrap64 (a0 / 67108864)), .int .i64 (wrap64 (Go.bits .and .u32 (a0 / 4194304) 15)), .int .i64 (wrap64 (Go.bits .and .u32 (a0 / 262144) 15)), .int .i64 0, .int .i64 0]) ?_ 3 _ rfl; (with_reducible repeat (first | refine blk_drewN ?_ _ | refine blk_drew ?_ | refine blk_alloc ?_ _)); refine blk_put (cs := #[.int .i64 (wrap64 (a0 / 67108864)), .int .i64 (wrap64 (Go.bits .and .u32 (a0 / 4194304) 15)), .int .i64 0, .int .i64 0, .int .i64 0]) ?_ 2 _ rfl; (with_reducible repeat (first | refine blk_drewN ?_ _ | refine blk_drew ?_ | refine blk_alloc ?_ _)); refine blk_put (cs := #[.int .i64 (wrap64 (a0 / 67108864)), .int .i64 0, .int .i64 0, .int .i64 0, .int .i64 0]) ?_ 1 _ rfl; (with_reducible repeat (first | refine blk_drewN ?_ _ | refine blk_drew ?_ | refine blk_alloc ?_ _)); refine blk_put (cs := #[.int .i64 0, .int .i64 0, .int .i64 0, .int .i64 0, .int .i64 0]) ?_ 0 _ rfl; (with_reducible repeat (first | refine blk_drewN ?_ _ | refine blk_drew ?_ | refine blk_alloc ?_ _)); exact BK246.out) Tryz.underlying48 rfl (by kernel_rfl)) rfl ?_
     exact ⟨by first | rfl | (simp [errW_none, errW_some] <;> rfl) | (simp [*, errW_none, errW_some] <;> rfl), by repeat (first | (with_reducible first | exact HB.out | apply below_alloc | apply pw_below_drewN | apply below_drew1 | refine below_set ?_ GE246.out | refine below_set ?_ GE247.out) | exact HB.out)⟩
   · replace c4 := Bool.eq_false_iff.mpr c4
     subst c4
     have H1 : (some (0, 0, 0, 0, 0, false)) = some (r1, r2, r3, r4, r5, r6) := by rw [if_neg (show ¬ (false = true) by decide)] at H; exact H
     clear H
     have H := H1
     clear H1
     simp only [Option.some.injEq, Prod.mk.injEq] at H
     obtain ⟨rfl, rfl, rfl, rfl, rfl, rfl⟩ := H
     go_enter Tryz.func51, Tryz.ntmps51
     go_wp2_with (first | ((with_reducible refine gate_dst (N := 2) rfl ?_); refine box_event ?hg (N := 2) ?hd (cs := #[.int .i64 0, .int .i64 0, .int .i64 0, .int .i64 0, .int .i64 0]) (t := 48) ?hr ?_; (case hd => rfl); (case hg => rfl); (case hr => first | (go_simp; done) | (go_simp; rfl)); intro gb246 hg w12 hbox hb; have n0_ := Aside0.mk (below_step (by repeat (first | (with_reducible first | exact HB.out | apply below_alloc | apply pw_below_drewN | apply below_drew1) | exact HB.out)) hb); have n1_ := Aside0.mk (hbox); have n2_ := Aside0.mk ((by rw [hg]; exact (below_size (by repeat (first | (with_reducible first | exact HB.out | apply below_alloc | apply pw_below_drewN | apply below_drew1) | exact HB.out))) : w.heap.size ≤ gb246)); have n3_ := Aside0.mk ((by rw [hg]; exact (below_size (by repeat (first | (with_reducible first | exact HB.out | apply below_alloc | apply pw_below_drewN | apply below_drew1) | exact HB.out))) : w.heap.size ≤ gb246)); clear HB; have HB := n0_; have BK246 := n1_; have GW246 := n2_; have GE246 := n3_; clear n0_ n1_ n2_ n3_; clear hb hbox hg) | ((with_reducible refine gate_dst (N := 5) rfl ?_); refine box_event ?hg (N := 5) ?hd (cs := #[.int .i64 0, .int .i64 0, .int .i64 0, .int .i64 0, .int .i64 0]) (t := 48) ?hr ?_; (case hd => rfl); (case hg => rfl); (case hr => first | (go_simp; done) | (go_simp; rfl)); intro gb247 hg w13 hbox hb; have n0_ := Aside0.mk (blk_below (g := gb246) (o := .cells #[.int .i64 0, .int .i64 0, .int .i64 0, .int .i64 0, .int .i64 0] 48 (0, 0)) (by (with_reducible repeat (first | refine blk_drewN ?_ _ | refine blk_drew ?_ | refine blk_alloc ?_ _)); exact BK246.out) hb); have n1_ := Aside0.mk (below_step (by repeat (first | (with_reducible first | exact HB.out | apply below_alloc | apply pw_below_drewN | apply below_drew1 | refine below_set ?_ GE246.out) | exact HB.out)) hb); have n2_ := Aside0.mk (hbox); have n3_ := Aside0.mk ((by rw [hg]; exact (below_size (by repeat (first | (with_reducible first | exact HB.out | apply below_alloc | apply pw_below_drewN | apply below_drew1 | refine below_set ?_ GE246.out) | exact HB.out))) : w.heap.size ≤ gb247)); have n4_ := Aside0.mk ((by rw [hg]; exact (below_size (by repeat (first | (with_reducible first | exact HB.out | apply below_alloc | apply pw_below_drewN | apply below_drew1 | refine below_set ?_ GE246.out) | exact HB.out))) : w.heap.size ≤ gb247)); have n5_ := Aside0.mk ((by rw [hg]; exact Nat.ne_of_lt (blk_lt (g := gb246) (o := .cells #[.int .i64 0, .int .i64 0, .int .i64 0, .int .i64 0, .int .i64 0] 48 (0, 0)) (by (with_reducible repeat (first | refine blk_drewN ?_ _ | refine blk_drew ?_ | refine blk_alloc ?_ _)); exact BK246.out)) : gb246 ≠ gb247)); have n6_ := Aside0.mk ((by rw [hg]; exact Nat.ne_of_gt (blk_lt (g := gb246) (o := .cells #[.int .i64 0, .int .i64 0, .int .i64 0, .int .i64 0, .int .i64 0] 48 (0, 0)) (by (with_reducible repeat (first | refine blk_drewN ?_ _ | refine blk_drew ?_ | refine blk_alloc ?_ _)); exact BK246.out)) : gb247 ≠ gb246)); clear BK246; clear HB; have BK246 := n0_; have HB := n1_; have BK247 := n2_; have GW247 := n3_; have GE247 := n4_; have NB246_247 := n5_; have NB247_246 := n6_; clear n0_ n1_ n2_ n3_ n4_ n5_ n6_; clear hb hbox hg; have hnb14 := NB247_246.out; have hnc14 := NB246_247.out; have hcz15_0 : w13.cell? ⟨gb247, 0, none⟩ = some (.int .i64 0) := (blk_cell BK247.out 0).trans rfl; have hcz15_1 : w13.cell? ⟨gb247, 1, none⟩ = some (.int .i64 0) := (blk_cell BK247.out 1).trans rfl; have hcz15_2 : w13.cell? ⟨gb247, 2, none⟩ = some (.int .i64 0) := (blk_cell BK247.out 2).trans rfl; have hcz15_3 : w13.cell? ⟨gb247, 3, none⟩ = some (.int .i64 0) := (blk_cell BK247.out 3).trans rfl; have hcz15_4 : w13.cell? ⟨gb247, 4, none⟩ = some (.int .i64 0) := (blk_cell BK247.out 4).trans rfl; have hfz15_0 := blk_frozen BK247.out 0; have hfz15_1 := blk_frozen BK247.out 1; have hfz15_2 := blk_frozen BK247.out 2; have hfz15_3 := blk_frozen BK247.out 3; have hfz15_4 := blk_frozen BK247.out 4) | ((with_reducible refine gate_callee (f := 79) rfl ?_); refine goesL_ (some 31) rfl rfl Tryz.func79 (by kernel_rfl) rfl #[.agg #[.int .i64 (wrap64 (a0 / 67108864)), .int .i64 (wrap64 (Go.bits .and .u32 (a0 / 4194304) 15)), .int .i64 (wrap64 (Go.bits .and .u32 (a0 / 262144) 15)), .int .i64 (wrap64 (Go.bits .and .u32 (a0 / 16384) 15)), .int .i64 (wrap64 ((wrap64 (Go.bits .and .u32 a0 16383)) - 16384))]] rfl (by (try simp only [List.map_toArray, List.map_cons, List.map_nil]); first | done | rfl | (simp only [List.length_drop, List.length_take]; rfl)) ?_; (with_reducible refine (impl_isInstr.calls (wrap64 (a0 / 67108864)) (wrap64 (Go.bits .and .u32 (a0 / 4194304) 15)) (wrap64 (Go.bits .and .u32 (a0 / 262144) 15)) (wrap64 (Go.bits .and .u32 (a0 / 16384) 15)) (wrap64 ((wrap64 (Go.bits .and .u32 a0 16383)) - 16384)) false _ A3.out).mono ?_); rintro e w16 ⟨rfl, hb⟩; refine ⟨_, rfl, ?_⟩; have n0_ := Aside0.mk (blk_below (g := gb246) (o := .cells #[.int .i64 0, .int .i64 0, .int .i64 0, .int .i64 0, .int .i64 0] 48 (0, 0)) (by (with_reducible repeat (first | refine blk_drewN ?_ _ | refine blk_drew ?_ | refine blk_alloc ?_ _)); refine blk_far ?_ NB246_247.out _; (with_reducible repeat (first | refine blk_drewN ?_ _ | refine blk_drew ?_ | refine blk_alloc ?_ _)); refine blk_far ?_ NB246_247.out _; (with_reducible repeat (first | refine blk_drewN ?_ _ | refine blk_drew ?_ | refine blk_alloc ?_ _)); refine blk_far ?_ NB246_247.out _; (with_reducible repeat (first | refine blk_drewN ?_ _ | refine blk_drew ?_ | refine blk_alloc ?_ _)); refine blk_far ?_ NB246_247.out _; (with_reducible repeat (first | refine blk_drewN ?_ _ | refine blk_drew ?_ | refine blk_alloc ?_ _)); refine blk_far ?_ NB246_247.out _; (with_reducible repeat (first | refine blk_drewN ?_ _ | refine blk_drew ?_ | refine blk_alloc ?_ _)); exact BK246.out) hb); have n1_ := Aside0.mk (blk_below (g := gb247) (o := .cells #[.int .i64 (wrap64 (a0 / 67108864)), .int .i64 (wrap64 (Go.bits .and .u32 (a0 / 4194304) 15)), .int .i64 (wrap64 (Go.bits .and .u32 (a0 / 262144) 15)), .int .i64 (wrap64 (Go.bits .and .u32 (a0 / 16384) 15)), .int .i64 (wrap64 ((wrap64 (Go.bits .and .u32 a0 16383)) - 16384))] 48 (0, 0)) (by (with_reducible repeat (first | refine blk_drewN ?_ _ | refine blk_drew ?_ | refine blk_alloc ?_ _)); refine blk_put (cs := #[.int .i64 (wrap64 (a0 / 67108864)), .int .i64 (wrap64 (Go.bits .and .u32 (a0 / 4194304) 15)), .int .i64 (wrap64 (Go.bits .and .u32 (a0 / 262144) 15)), .int .i64 (wrap64 (Go.bits .and .u32 (a0 / 16384) 15)), .int .i64 0]) ?_ 4 _ rfl; (with_reducible repeat (first | refine blk_drewN ?_ _ | refine blk_drew ?_ | refine blk_alloc ?_ _)); refine blk_put (cs := #[.int .i64 (wrap64 (a0 / 67108864)), .int .i64 (wrap64 (Go.bits .and .u32 (a0 / 4194304) 15)), .int .i64 (wrap64 (Go.bits .and .u32 (a0 / 262144) 15)), .int .i64 0, .int .i64 0]) ?_ 3 _ rfl; (with_reducible repeat (first | refine blk_drewN ?_ _ | refine blk_drew ?_ | refine blk_alloc ?_ _)); refine blk_put (cs := #[.int .i64 (wrap64 (a0 / 67108864)), .int .i64 (wrap64 (Go.bits .and .u32 (a0 / 4194304) 15)), .int .i64 0, .int .i64 0, .int .i64 0]) ?_ 2 _ rfl; (with_reducible repeat (first | refine blk_drewN ?_ _ | refine blk_drew ?_ | refine blk_alloc ?_ _)); refine blk_put (cs := #[.int .i64 (wrap64 (a0 / 67108864)), .int .i64 0, .int .i64 0, .int .i64 0, .int .i64 0]) ?_ 1 _ rfl; (with_reducible repeat (first | refine blk_drewN ?_ _ | refine blk_drew ?_ | refine blk_alloc ?_ _)); refine blk_put (cs := #[.int .i64 0, .int .i64 0, .int .i64 0, .int .i64 0, .int .i64 0]) ?_ 0 _ rfl; (with_reducible repeat (first | refine blk_drewN ?_ _ | refine blk_drew ?_ | refine blk_alloc ?_ _)); exact BK247.out) hb); have n2_ := Aside0.mk (below_step (by repeat (first | (with_reducible first | exact HB.out | apply below_alloc | apply pw_below_drewN | apply below_drew1 | refine below_set ?_ GE246.out | refine below_set ?_ GE247.out) | exact HB.out)) hb); clear BK246; clear BK247; clear HB; have BK246 := n0_; have BK247 := n1_; have HB := n2_; clear n0_ n1_ n2_; (try clear hb); (try clear hb2); (try clear hk); (try clear hi); have hcz17_0 : w16.cell? ⟨gb246, 0, none⟩ = some (.int .i64 0) := (blk_cell BK246.out 0).trans rfl; have hcz17_1 : w16.cell? ⟨gb246, 1, none⟩ = some (.int .i64 0) := (blk_cell BK246.out 1).trans rfl; have hcz17_2 : w16.cell? ⟨gb246, 2, none⟩ = some (.int .i64 0) := (blk_cell BK246.out 2).trans rfl; have hcz17_3 : w16.cell? ⟨gb246, 3, none⟩ = some (.int .i64 0) := (blk_cell BK246.out 3).trans rfl; have hcz17_4 : w16.cell? ⟨gb246, 4, none⟩ = some (.int .i64 0) := (blk_cell BK246.out 4).trans rfl; have hfz17_0 := blk_frozen BK246.out 0; have hfz17_1 := blk_frozen BK246.out 1; have hfz17_2 := blk_frozen BK246.out 2; have hfz17_3 := blk_frozen BK246.out 3; have hfz17_4 := blk_frozen BK246.out 4))
     refine bodyPost_ret (results_ct rfl _ _ gb246 48 #[.int .i64 0, .int .i64 0, .int .i64 0, .int .i64 0, .int .i64 0] (0, 0) _ rfl (by (with_reducible repeat (first | refine blk_drewN ?_ _ | refine blk_drew ?_ | refine blk_alloc ?_ _)); refine blk_put (cs := #[.int .i64 0, .int .i64 0, .int .i64 0, .int .i64 0, .int .i64 0]) ?_ 4 _ rfl; refine blk_put (cs := #[.int .i64 0, .int .i64 0, .int .i64 0, .int .i64 0, .int .i64 0]) ?_ 3 _ rfl; refine blk_put (cs := #[.int .i64 0, .int .i64 0, .int .i64 0, .int .i64 0, .int .i64 0]) ?_ 2 _ rfl; refine blk_put (cs := #[.int .i64 0, .int .i64 0, .int .i64 0, .int .i64 0, .int .i64 0]) ?_ 1 _ rfl; refine blk_put (cs := #[.int .i64 0, .int .i64 0, .int .i64 0, .int .i64 0, .int .i64 0]) ?_ 0 _ rfl; (with_reducible repeat (first | refine blk_drewN ?_ _ | refine blk_drew ?_ | refine blk_alloc ?_ _)); exact BK246.out) Tryz.underlying48 rfl (by kernel_rfl)) rfl ?_
     exact ⟨by first | rfl | (simp [errW_none, errW_some] <;> rfl) | (simp [*, errW_none, errW_some] <;> rfl), by repeat (first | (with_reducible first | exact HB.out | apply below_alloc | apply pw_below_drewN | apply below_drew1 | refine below_set ?_ GE246.out | refine below_set ?_ GE247.out) | exact HB.out)⟩
 · rw [if_neg c2] at H
   have c2b0 : decide (8191 < (wrap64 (Go.bits .and .u32 a0 16383))) = false := decide_eq_false c2
   clear c2
   replace H := Option.bind_eq_some_iff.mp H
   obtain ⟨t250, A180, H⟩ := H
   replace H : (if t250 = true then (some (wrap64 (a0 / 67108864), wrap64 (Go.bits .and .u32 (a0 / 4194304) 15), wrap64 (Go.bits .and .u32 (a0 / 262144) 15), wrap64 (Go.bits .and .u32 (a0 / 16384) 15), wrap64 (Go.bits .and .u32 a0 16383), true)) else (some (0, 0, 0, 0, 0, false))) = some (r1, r2, r3, r4, r5, r6) := H
   have A18 := Aside0.mk A180
   clear A180
   by_cases c19 : t250 = true
   · subst c19
     have H1 : (some (wrap64 (a0 / 67108864), wrap64 (Go.bits .and .u32 (a0 / 4194304) 15), wrap64 (Go.bits .and .u32 (a0 / 262144) 15), wrap64 (Go.bits .and .u32 (a0 / 16384) 15), wrap64 (Go.bits .and .u32 a0 16383), true)) = some (r1, r2, r3, r4, r5, r6) := by rw [if_pos rfl] at H; exact H
     clear H
     have H := H1
     clear H1
     simp only [Option.some.injEq, Prod.mk.injEq] at H
     obtain ⟨rfl, rfl, rfl, rfl, rfl, rfl⟩ := H
     go_enter Tryz.func51, Tryz.ntmps51
     go_wp2_with (first | ((with_reducible refine gate_dst (N := 2) rfl ?_); refine box_event ?hg (N := 2) ?hd (cs := #[.int .i64 0, .int .i64 0, .int .i64 0, .int .i64 0, .int .i64 0]) (t := 48) ?hr ?_; (case hd => rfl); (case hg => rfl); (case hr => first | (go_simp; done) | (go_simp; rfl)); intro gb246 hg w20 hbox hb; have n0_ := Aside0.mk (below_step (by repeat (first | (with_reducible first | exact HB.out | apply below_alloc | apply pw_below_drewN | apply below_drew1) | exact HB.out)) hb); have n1_ := Aside0.mk (hbox); have n2_ := Aside0.mk ((by rw [hg]; exact (below_size (by repeat (first | (with_reducible first | exact HB.out | apply below_alloc | apply pw_below_drewN | apply below_drew1) | exact HB.out))) : w.heap.size ≤ gb246)); have n3_ := Aside0.mk ((by rw [hg]; exact (below_size (by repeat (first | (with_reducible first | exact HB.out | apply below_alloc | apply pw_below_drewN | apply below_drew1) | exact HB.out))) : w.heap.size ≤ gb246)); clear HB; have HB := n0_; have BK246 := n1_; have GW246 := n2_; have GE246 := n3_; clear n0_ n1_ n2_ n3_; clear hb hbox hg) | ((with_reducible refine gate_dst (N := 5) rfl ?_); refine box_event ?hg (N := 5) ?hd (cs := #[.int .i64 0, .int .i64 0, .int .i64 0, .int .i64 0, .int .i64 0]) (t := 48) ?hr ?_; (case hd => rfl); (case hg => rfl); (case hr => first | (go_simp; done) | (go_simp; rfl)); intro gb249 hg w21 hbox hb; have n0_ := Aside0.mk (blk_below (g := gb246) (o := .cells #[.int .i64 0, .int .i64 0, .int .i64 0, .int .i64 0, .int .i64 0] 48 (0, 0)) (by (with_reducible repeat (first | refine blk_drewN ?_ _ | refine blk_drew ?_ | refine blk_alloc ?_ _)); exact BK246.out) hb); have n1_ := Aside0.mk (below_step (by repeat (first | (with_reducible first | exact HB.out | apply below_alloc | apply pw_below_drewN | apply below_drew1 | refine below_set ?_ GE246.out) | exact HB.out)) hb); have n2_ := Aside0.mk (hbox); have n3_ := Aside0.mk ((by rw [hg]; exact (below_size (by repeat (first | (with_reducible first | exact HB.out | apply below_alloc | apply pw_below_drewN | apply below_drew1 | refine below_set ?_ GE246.out) | exact HB.out))) : w.heap.size ≤ gb249)); have n4_ := Aside0.mk ((by rw [hg]; exact (below_size (by repeat (first | (with_reducible first | exact HB.out | apply below_alloc | apply pw_below_drewN | apply below_drew1 | refine below_set ?_ GE246.out) | exact HB.out))) : w.heap.size ≤ gb249)); have n5_ := Aside0.mk ((by rw [hg]; exact Nat.ne_of_lt (blk_lt (g := gb246) (o := .cells #[.int .i64 0, .int .i64 0, .int .i64 0, .int .i64 0, .int .i64 0] 48 (0, 0)) (by (with_reducible repeat (first | refine blk_drewN ?_ _ | refine blk_drew ?_ | refine blk_alloc ?_ _)); exact BK246.out)) : gb246 ≠ gb249)); have n6_ := Aside0.mk ((by rw [hg]; exact Nat.ne_of_gt (blk_lt (g := gb246) (o := .cells #[.int .i64 0, .int .i64 0, .int .i64 0, .int .i64 0, .int .i64 0] 48 (0, 0)) (by (with_reducible repeat (first | refine blk_drewN ?_ _ | refine blk_drew ?_ | refine blk_alloc ?_ _)); exact BK246.out)) : gb249 ≠ gb246)); clear BK246; clear HB; have BK246 := n0_; have HB := n1_; have BK249 := n2_; have GW249 := n3_; have GE249 := n4_; have NB246_249 := n5_; have NB249_246 := n6_; clear n0_ n1_ n2_ n3_ n4_ n5_ n6_; clear hb hbox hg; have hnb22 := NB249_246.out; have hnc22 := NB246_249.out; have hcz23_0 : w21.cell? ⟨gb249, 0, none⟩ = some (.int .i64 0) := (blk_cell BK249.out 0).trans rfl; have hcz23_1 : w21.cell? ⟨gb249, 1, none⟩ = some (.int .i64 0) := (blk_cell BK249.out 1).trans rfl; have hcz23_2 : w21.cell? ⟨gb249, 2, none⟩ = some (.int .i64 0) := (blk_cell BK249.out 2).trans rfl; have hcz23_3 : w21.cell? ⟨gb249, 3, none⟩ = some (.int .i64 0) := (blk_cell BK249.out 3).trans rfl; have hcz23_4 : w21.cell? ⟨gb249, 4, none⟩ = some (.int .i64 0) := (blk_cell BK249.out 4).trans rfl; have hfz23_0 := blk_frozen BK249.out 0; have hfz23_1 := blk_frozen BK249.out 1; have hfz23_2 := blk_frozen BK249.out 2; have hfz23_3 := blk_frozen BK249.out 3; have hfz23_4 := blk_frozen BK249.out 4) | ((with_reducible refine gate_callee (f := 79) rfl ?_); refine goesL_ (some 31) rfl rfl Tryz.func79 (by kernel_rfl) rfl #[.agg #[.int .i64 (wrap64 (a0 / 67108864)), .int .i64 (wrap64 (Go.bits .and .u32 (a0 / 4194304) 15)), .int .i64 (wrap64 (Go.bits .and .u32 (a0 / 262144) 15)), .int .i64 (wrap64 (Go.bits .and .u32 (a0 / 16384) 15)), .int .i64 (wrap64 (Go.bits .and .u32 a0 16383))]] rfl (by (try simp only [List.map_toArray, List.map_cons, List.map_nil]); first | done | rfl | (simp only [List.length_drop, List.length_take]; rfl)) ?_; (with_reducible refine (impl_isInstr.calls (wrap64 (a0 / 67108864)) (wrap64 (Go.bits .and .u32 (a0 / 4194304) 15)) (wrap64 (Go.bits .and .u32 (a0 / 262144) 15)) (wrap64 (Go.bits .and .u32 (a0 / 16384) 15)) (wrap64 (Go.bits .and .u32 a0 16383)) true _ A18.out).mono ?_); rintro e w24 ⟨rfl, hb⟩; refine ⟨_, rfl, ?_⟩; have n0_ := Aside0.mk (blk_below (g := gb246) (o := .cells #[.int .i64 0, .int .i64 0, .int .i64 0, .int .i64 0, .int .i64 0] 48 (0, 0)) (by (with_reducible repeat (first | refine blk_drewN ?_ _ | refine blk_drew ?_ | refine blk_alloc ?_ _)); refine blk_far ?_ NB246_249.out _; (with_reducible repeat (first | refine blk_drewN ?_ _ | refine blk_drew ?_ | refine blk_alloc ?_ _)); refine blk_far ?_ NB246_249.out _; (with_reducible repeat (first | refine blk_drewN ?_ _ | refine blk_drew ?_ | refine blk_alloc ?_ _)); refine blk_far ?_ NB246_249.out _; (with_reducible repeat (first | refine blk_drewN ?_ _ | refine blk_drew ?_ | refine blk_alloc ?_ _)); refine blk_far ?_ NB246_249.out _; (with_reducible repeat (first | refine blk_drewN ?_ _ | refine blk_drew ?_ | refine blk_alloc ?_ _)); refine blk_far ?_ NB246_249.out _; (with_reducible repeat (first | refine blk_drewN ?_ _ | refine blk_drew ?_ | refine blk_alloc ?_ _)); exact BK246.out) hb); have n1_ := Aside0.mk (blk_below (g := gb249) (o := .cells #[.int .i64 (wrap64 (a0 / 67108864)), .int .i64 (wrap64 (Go.bits .and .u32 (a0 / 4194304) 15)), .int .i64 (wrap64 (Go.bits .and .u32 (a0 / 262144) 15)), .int .i64 (wrap64 (Go.bits .and .u32 (a0 / 16384) 15)), .int .i64 (wrap64 (Go.bits .and .u32 a0 16383))] 48 (0, 0)) (by (with_reducible repeat (first | refine blk_drewN ?_ _ | refine blk_drew ?_ | refine blk_alloc ?_ _)); refine blk_put (cs := #[.int .i64 (wrap64 (a0 / 67108864)), .int .i64 (wrap64 (Go.bits .and .u32 (a0 / 4194304) 15)), .int .i64 (wrap64 (Go.bits .and .u32 (a0 / 262144) 15)), .int .i64 (wrap64 (Go.bits .and .u32 (a0 / 16384) 15)), .int .i64 0]) ?_ 4 _ rfl; (with_reducible repeat (first | refine blk_drewN ?_ _ | refine blk_drew ?_ | refine blk_alloc ?_ _)); refine blk_put (cs := #[.int .i64 (wrap64 (a0 / 67108864)), .int .i64 (wrap64 (Go.bits .and .u32 (a0 / 4194304) 15)), .int .i64 (wrap64 (Go.bits .and .u32 (a0 / 262144) 15)), .int .i64 0, .int .i64 0]) ?_ 3 _ rfl; (with_reducible repeat (first | refine blk_drewN ?_ _ | refine blk_drew ?_ | refine blk_alloc ?_ _)); refine blk_put (cs := #[.int .i64 (wrap64 (a0 / 67108864)), .int .i64 (wrap64 (Go.bits .and .u32 (a0 / 4194304) 15)), .int .i64 0, .int .i64 0, .int .i64 0]) ?_ 2 _ rfl; (with_reducible repeat (first | refine blk_drewN ?_ _ | refine blk_drew ?_ | refine blk_alloc ?_ _)); refine blk_put (cs := #[.int .i64 (wrap64 (a0 / 67108864)), .int .i64 0, .int .i64 0, .int .i64 0, .int .i64 0]) ?_ 1 _ rfl; (with_reducible repeat (first | refine blk_drewN ?_ _ | refine blk_drew ?_ | refine blk_alloc ?_ _)); refine blk_put (cs := #[.int .i64 0, .int .i64 0, .int .i64 0, .int .i64 0, .int .i64 0]) ?_ 0 _ rfl; (with_reducible repeat (first | refine blk_drewN ?_ _ | refine blk_drew ?_ | refine blk_alloc ?_ _)); exact BK249.out) hb); have n2_ := Aside0.mk (below_step (by repeat (first | (with_reducible first | exact HB.out | apply below_alloc | apply pw_below_drewN | apply below_drew1 | refine below_set ?_ GE246.out | refine below_set ?_ GE249.out) | exact HB.out)) hb); clear BK246; clear BK249; clear HB; have BK246 := n0_; have BK249 := n1_; have HB := n2_; clear n0_ n1_ n2_; (try clear hb); (try clear hb2); (try clear hk); (try clear hi); have hcz25_0 : w24.cell? ⟨gb249, 0, none⟩ = some (.int .i64 (wrap64 (a0 / 67108864))) := (blk_cell BK249.out 0).trans rfl; have hcz25_1 : w24.cell? ⟨gb249, 1, none⟩ = some (.int .i64 (wrap64 (Go.bits .and .u32 (a0 / 4194304) 15))) := (blk_cell BK249.out 1).trans rfl; have hcz25_2 : w24.cell? ⟨gb249, 2, none⟩ = some (.int .i64 (wrap64 (Go.bits .and .u32 (a0 / 262144) 15))) := (blk_cell BK249.out 2).trans rfl; have hcz25_3 : w24.cell? ⟨gb249, 3, none⟩ = some (.int .i64 (wrap64 (Go.bits .and .u32 (a0 / 16384) 15))) := (blk_cell BK249.out 3).trans rfl; have hcz25_4 : w24.cell? ⟨gb249, 4, none⟩ = some (.int .i64 (wrap64 (Go.bits .and .u32 a0 16383))) := (blk_cell BK249.out 4).trans rfl; have hfz25_0 := blk_frozen BK249.out 0; have hfz25_1 := blk_frozen BK249.out 1; have hfz25_2 := blk_frozen BK249.out 2; have hfz25_3 := blk_frozen BK249.out 3; have hfz25_4 := blk_frozen BK249.out 4; have hcz26_0 : w24.cell? ⟨gb246, 0, none⟩ = some (.int .i64 0) := (blk_cell BK246.out 0).trans rfl; have hcz26_1 : w24.cell? ⟨gb246, 1, none⟩ = some (.int .i64 0) := (blk_cell BK246.out 1).trans rfl; have hcz26_2 : w24.cell? ⟨gb246, 2, none⟩ = some (.int .i64 0) := (blk_cell BK246.out 2).trans rfl; have hcz26_3 : w24.cell? ⟨gb246, 3, none⟩ = some (.int .i64 0) := (blk_cell BK246.out 3).trans rfl; have hcz26_4 : w24.cell? ⟨gb246, 4, none⟩ = some (.int .i64 0) := (blk_cell BK246.out 4).trans rfl; have hfz26_0 := blk_frozen BK246.out 0; have hfz26_1 := blk_frozen BK246.out 1; have hfz26_2 := blk_frozen BK246.out 2; have hfz26_3 := blk_frozen BK246.out 3; have hfz26_4 := blk_frozen BK246.out 4))
     refine bodyPost_ret (results_ct rfl _ _ gb246 48 #[.int .i64 (wrap64 (a0 / 67108864)), .int .i64 (wrap64 (Go.bits .and .u32 (a0 / 4194304) 15)), .int .i64 (wrap64 (Go.bits .and .u32 (a0 / 262144) 15)), .int .i64 (wrap64 (Go.bits .and .u32 (a0 / 16384) 15)), .int .i64 (wrap64 (Go.bits .and .u32 a0 16383))] (0, 0) _ rfl (by (with_reducible repeat (first | refine blk_drewN ?_ _ | refine blk_drew ?_ | refine blk_alloc ?_ _)); refine blk_put (cs := #[.int .i64 (wrap64 (a0 / 67108864)), .int .i64 (wrap64 (Go.bits .and .u32 (a0 / 4194304) 15)), .int .i64 (wrap64 (Go.bits .and .u32 (a0 / 262144) 15)), .int .i64 (wrap64 (Go.bits .and .u32 (a0 / 16384) 15)), .int .i64 0]) ?_ 4 _ rfl; (with_reducible repeat (first | refine blk_drewN ?_ _ | refine blk_drew ?_ | refine blk_alloc ?_ _)); refine blk_put (cs := #[.int .i64 (wrap64 (a0 / 67108864)), .int .i64 (wrap64 (Go.bits .and .u32 (a0 / 4194304) 15)), .int .i64 (wrap64 (Go.bits .and .u32 (a0 / 262144) 15)), .int .i64 0, .int .i64 0]) ?_ 3 _ rfl; (with_reducible repeat (first | refine blk_drewN ?_ _ | refine blk_drew ?_ | refine blk_alloc ?_ _)); refine blk_put (cs := #[.int .i64 (wrap64 (a0 / 67108864)), .int .i64 (wrap64 (Go.bits .and .u32 (a0 / 4194304) 15)), .int .i64 0, .int .i64 0, .int .i64 0]) ?_ 2 _ rfl; (with_reducible repeat (first | refine blk_drewN ?_ _ | refine blk_drew ?_ | refine blk_alloc ?_ _)); refine blk_put (cs := #[.int .i64 (wrap64 (a0 / 67108864)), .int .i64 0, .int .i64 0, .int .i64 0, .int .i64 0]) ?_ 1 _ rfl; (with_reducible repeat (first | refine blk_drewN ?_ _ | refine blk_drew ?_ | refine blk_alloc ?_ _)); refine blk_put (cs := #[.int .i64 0, .int .i64 0, .int .i64 0, .int .i64 0, .int .i64 0]) ?_ 0 _ rfl; (with_reducible repeat (first | refine blk_drewN ?_ _ | refine blk_drew ?_ | refine blk_alloc ?_ _)); exact BK246.out) Tryz.underlying48 rfl (by kernel_rfl)) rfl ?_
     exact ⟨by first | rfl | (simp [errW_none, errW_some] <;> rfl) | (simp [*, errW_none, errW_some] <;> rfl), by repeat (first | (with_reducible first | exact HB.out | apply below_alloc | apply pw_below_drewN | apply below_drew1 | refine below_set ?_ GE246.out | refine below_set ?_ GE249.out) | exact HB.out)⟩
   · replace c19 := Bool.eq_false_iff.mpr c19
     subst c19
     have H1 : (some (0, 0, 0, 0, 0, false)) = some (r1, r2, r3, r4, r5, r6) := by rw [if_neg (show ¬ (false = true) by decide)] at H; exact H
     clear H
     have H := H1
     clear H1
     simp only [Option.some.injEq, Prod.mk.injEq] at H
     obtain ⟨rfl, rfl, rfl, rfl, rfl, rfl⟩ := H
     go_enter Tryz.func51, Tryz.ntmps51
     go_wp2_with (first | ((with_reducible refine gate_dst (N := 2) rfl ?_); refine box_event ?hg (N := 2) ?hd (cs := #[.int .i64 0, .int .i64 0, .int .i64 0, .int .i64 0, .int .i64 0]) (t := 48) ?hr ?_; (case hd => rfl); (case hg => rfl); (case hr => first | (go_simp; done) | (go_simp; rfl)); intro gb246 hg w27 hbox hb; have n0_ := Aside0.mk (below_step (by repeat (first | (with_reducible first | exact HB.out | apply below_alloc | apply pw_below_drewN | apply below_drew1) | exact HB.out)) hb); have n1_ := Aside0.mk (hbox); have n2_ := Aside0.mk ((by rw [hg]; exact (below_size (by repeat (first | (with_reducible first | exact HB.out | apply below_alloc | apply pw_below_drewN | apply below_drew1) | exact HB.out))) : w.heap.size ≤ gb246)); have n3_ := Aside0.mk ((by rw [hg]; exact (below_size (by repeat (first | (with_reducible first | exact HB.out | apply below_alloc | apply pw_below_drewN | apply below_drew1) | exact HB.out))) : w.heap.size ≤ gb246)); clear HB; have HB := n0_; have BK246 := n1_; have GW246 := n2_; have GE246 := n3_; clear n0_ n1_ n2_ n3_; clear hb hbox hg) | ((with_reducible refine gate_dst (N := 5) rfl ?_); refine box_event ?hg (N := 5) ?hd (cs := #[.int .i64 0, .int .i64 0, .int .i64 0, .int .i64 0, .int .i64 0]) (t := 48) ?hr ?_; (case hd => rfl); (case hg => rfl); (case hr => first | (go_simp; done) | (go_simp; rfl)); intro gb249 hg w28 hbox hb; have n0_ := Aside0.mk (blk_below (g := gb246) (o := .cells #[.int .i64 0, .int .i64 0, .int .i64 0, .int .i64 0, .int .i64 0] 48 (0, 0)) (by (with_reducible repeat (first | refine blk_drewN ?_ _ | refine blk_drew ?_ | refine blk_alloc ?_ _)); exact BK246.out) hb); have n1_ := Aside0.mk (below_step (by repeat (first | (with_reducible first | exact HB.out | apply below_alloc | apply pw_below_drewN | apply below_drew1 | refine below_set ?_ GE246.out) | exact HB.out)) hb); have n2_ := Aside0.mk (hbox); have n3_ := Aside0.mk ((by rw [hg]; exact (below_size (by repeat (first | (with_reducible first | exact HB.out | apply below_alloc | apply pw_below_drewN | apply below_drew1 | refine below_set ?_ GE246.out) | exact HB.out))) : w.heap.size ≤ gb249)); have n4_ := Aside0.mk ((by rw [hg]; exact (below_size (by repeat (first | (with_reducible first | exact HB.out | apply below_alloc | apply pw_below_drewN | apply below_drew1 | refine below_set ?_ GE246.out) | exact HB.out))) : w.heap.size ≤ gb249)); have n5_ := Aside0.mk ((by rw [hg]; exact Nat.ne_of_lt (blk_lt (g := gb246) (o := .cells #[.int .i64 0, .int .i64 0, .int .i64 0, .int .i64 0, .int .i64 0] 48 (0, 0)) (by (with_reducible repeat (first | refine blk_drewN ?_ _ | refine blk_drew ?_ | refine blk_alloc ?_ _)); exact BK246.out)) : gb246 ≠ gb249)); have n6_ := Aside0.mk ((by rw [hg]; exact Nat.ne_of_gt (blk_lt (g := gb246) (o := .cells #[.int .i64 0, .int .i64 0, .int .i64 0, .int .i64 0, .int .i64 0] 48 (0, 0)) (by (with_reducible repeat (first | refine blk_drewN ?_ _ | refine blk_drew ?_ | refine blk_alloc ?_ _)); exact BK246.out)) : gb249 ≠ gb246)); clear BK246; clear HB; have BK246 := n0_; have HB := n1_; have BK249 := n2_; have GW249 := n3_; have GE249 := n4_; have NB246_249 := n5_; have NB249_246 := n6_; clear n0_ n1_ n2_ n3_ n4_ n5_ n6_; clear hb hbox hg; have hnb29 := NB249_246.out; have hnc29 := NB246_249.out; have hcz30_0 : w28.cell? ⟨gb249, 0, none⟩ = some (.int .i64 0) := (blk_cell BK249.out 0).trans rfl; have hcz30_1 : w28.cell? ⟨gb249, 1, none⟩ = some (.int .i64 0) := (blk_cell BK249.out 1).trans rfl; have hcz30_2 : w28.cell? ⟨gb249, 2, none⟩ = some (.int .i64 0) := (blk_cell BK249.out 2).trans rfl; have hcz30_3 : w28.cell? ⟨gb249, 3, none⟩ = some (.int .i64 0) := (blk_cell BK249.out 3).trans rfl; have hcz30_4 : w28.cell? ⟨gb249, 4, none⟩ = some (.int .i64 0) := (blk_cell BK249.out 4).trans rfl; have hfz30_0 := blk_frozen BK249.out 0; have hfz30_1 := blk_frozen BK249.out 1; have hfz30_2 := blk_frozen BK249.out 2; have hfz30_3 := blk_frozen BK249.out 3; have hfz30_4 := blk_frozen BK249.out 4) | ((with_reducible refine gate_callee (f := 79) rfl ?_); refine goesL_ (some 31) rfl rfl Tryz.func79 (by kernel_rfl) rfl #[.agg #[.int .i64 (wrap64 (a0 / 67108864)), .int .i64 (wrap64 (Go.bits .and .u32 (a0 / 4194304) 15)), .int .i64 (wrap64 (Go.bits .and .u32 (a0 / 262144) 15)), .int .i64 (wrap64 (Go.bits .and .u32 (a0 / 16384) 15)), .int .i64 (wrap64 (Go.bits .and .u32 a0 16383))]] rfl (by (try simp only [List.map_toArray, List.map_cons, List.map_nil]); first | done | rfl | (simp only [List.length_drop, List.length_take]; rfl)) ?_; (with_reducible refine (impl_isInstr.calls (wrap64 (a0 / 67108864)) (wrap64 (Go.bits .and .u32 (a0 / 4194304) 15)) (wrap64 (Go.bits .and .u32 (a0 / 262144) 15)) (wrap64 (Go.bits .and .u32 (a0 / 16384) 15)) (wrap64 (Go.bits .and .u32 a0 16383)) false _ A18.out).mono ?_); rintro e w31 ⟨rfl, hb⟩; refine ⟨_, rfl, ?_⟩; have n0_ := Aside0.mk (blk_below (g := gb246) (o := .cells #[.int .i64 0, .int .i64 0, .int .i64 0, .int .i64 0, .int .i64 0] 48 (0, 0)) (by (with_reducible repeat (first | refine blk_drewN ?_ _ | refine blk_drew ?_ | refine blk_alloc ?_ _)); refine blk_far ?_ NB246_249.out _; (with_reducible repeat (first | refine blk_drewN ?_ _ | refine blk_drew ?_ | refine blk_alloc ?_ _)); refine blk_far ?_ NB246_249.out _; (with_reducible repeat (first | refine blk_drewN ?_ _ | refine blk_drew ?_ | refine blk_alloc ?_ _)); refine blk_far ?_ NB246_249.out _; (with_reducible repeat (first | refine blk_drewN ?_ _ | refine blk_drew ?_ | refine blk_alloc ?_ _)); refine blk_far ?_ NB246_249.out _; (with_reducible repeat (first | refine blk_drewN ?_ _ | refine blk_drew ?_ | refine blk_alloc ?_ _)); refine blk_far ?_ NB246_249.out _; (with_reducible repeat (first | refine blk_drewN ?_ _ | refine blk_drew ?_ | refine blk_alloc ?_ _)); exact BK246.out) hb); have n1_ := Aside0.mk (blk_below (g := gb249) (o := .cells #[.int .i64 (wrap64 (a0 / 67108864)), .int .i64 (wrap64 (Go.bits .and .u32 (a0 / 4194304) 15)), .int .i64 (wrap64 (Go.bits .and .u32 (a0 / 262144) 15)), .int .i64 (wrap64 (Go.bits .and .u32 (a0 / 16384) 15)), .int .i64 (wrap64 (Go.bits .and .u32 a0 16383))] 48 (0, 0)) (by (with_reducible repeat (first | refine blk_drewN ?_ _ | refine blk_drew ?_ | refine blk_alloc ?_ _)); refine blk_put (cs := #[.int .i64 (wrap64 (a0 / 67108864)), .int .i64 (wrap64 (Go.bits .and .u32 (a0 / 4194304) 15)), .int .i64 (wrap64 (Go.bits .and .u32 (a0 / 262144) 15)), .int .i64 (wrap64 (Go.bits .and .u32 (a0 / 16384) 15)), .int .i64 0]) ?_ 4 _ rfl; (with_reducible repeat (first | refine blk_drewN ?_ _ | refine blk_drew ?_ | refine blk_alloc ?_ _)); refine blk_put (cs := #[.int .i64 (wrap64 (a0 / 67108864)), .int .i64 (wrap64 (Go.bits .and .u32 (a0 / 4194304) 15)), .int .i64 (wrap64 (Go.bits .and .u32 (a0 / 262144) 15)), .int .i64 0, .int .i64 0]) ?_ 3 _ rfl; (with_reducible repeat (first | refine blk_drewN ?_ _ | refine blk_drew ?_ | refine blk_alloc ?_ _)); refine blk_put (cs := #[.int .i64 (wrap64 (a0 / 67108864)), .int .i64 (wrap64 (Go.bits .and .u32 (a0 / 4194304) 15)), .int .i64 0, .int .i64 0, .int .i64 0]) ?_ 2 _ rfl; (with_reducible repeat (first | refine blk_drewN ?_ _ | refine blk_drew ?_ | refine blk_alloc ?_ _)); refine blk_put (cs := #[.int .i64 (wrap64 (a0 / 67108864)), .int .i64 0, .int .i64 0, .int .i64 0, .int .i64 0]) ?_ 1 _ rfl; (with_reducible repeat (first | refine blk_drewN ?_ _ | refine blk_drew ?_ | refine blk_alloc ?_ _)); refine blk_put (cs := #[.int .i64 0, .int .i64 0, .int .i64 0, .int .i64 0, .int .i64 0]) ?_ 0 _ rfl; (with_reducible repeat (first | refine blk_drewN ?_ _ | refine blk_drew ?_ | refine blk_alloc ?_ _)); exact BK249.out) hb); have n2_ := Aside0.mk (below_step (by repeat (first | (with_reducible first | exact HB.out | apply below_alloc | apply pw_below_drewN | apply below_drew1 | refine below_set ?_ GE246.out | refine below_set ?_ GE249.out) | exact HB.out)) hb); clear BK246; clear BK249; clear HB; have BK246 := n0_; have BK249 := n1_; have HB := n2_; clear n0_ n1_ n2_; (try clear hb); (try clear hb2); (try clear hk); (try clear hi); have hcz32_0 : w31.cell? ⟨gb246, 0, none⟩ = some (.int .i64 0) := (blk_cell BK246.out 0).trans rfl; have hcz32_1 : w31.cell? ⟨gb246, 1, none⟩ = some (.int .i64 0) := (blk_cell BK246.out 1).trans rfl; have hcz32_2 : w31.cell? ⟨gb246, 2, none⟩ = some (.int .i64 0) := (blk_cell BK246.out 2).trans rfl; have hcz32_3 : w31.cell? ⟨gb246, 3, none⟩ = some (.int .i64 0) := (blk_cell BK246.out 3).trans rfl; have hcz32_4 : w31.cell? ⟨gb246, 4, none⟩ = some (.int .i64 0) := (blk_cell BK246.out 4).trans rfl; have hfz32_0 := blk_frozen BK246.out 0; have hfz32_1 := blk_frozen BK246.out 1; have hfz32_2 := blk_frozen BK246.out 2; have hfz32_3 := blk_frozen BK246.out 3; have hfz32_4 := blk_frozen BK246.out 4))
     refine bodyPost_ret (results_ct rfl _ _ gb246 48 #[.int .i64 0, .int .i64 0, .int .i64 0, .int .i64 0, .int .i64 0] (0, 0) _ rfl (by (with_reducible repeat (first | refine blk_drewN ?_ _ | refine blk_drew ?_ | refine blk_alloc ?_ _)); refine blk_put (cs := #[.int .i64 0, .int .i64 0, .int .i64 0, .int .i64 0, .int .i64 0]) ?_ 4 _ rfl; refine blk_put (cs := #[.int .i64 0, .int .i64 0, .int .i64 0, .int .i64 0, .int .i64 0]) ?_ 3 _ rfl; refine blk_put (cs := #[.int .i64 0, .int .i64 0, .int .i64 0, .int .i64 0, .int .i64 0]) ?_ 2 _ rfl; refine blk_put (cs := #[.int .i64 0, .int .i64 0, .int .i64 0, .int .i64 0, .int .i64 0]) ?_ 1 _ rfl; refine blk_put (cs := #[.int .i64 0, .int .i64 0, .int .i64 0, .int .i64 0, .int .i64 0]) ?_ 0 _ rfl; (with_reducible repeat (first | refine blk_drewN ?_ _ | refine blk_drew ?_ | refine blk_alloc ?_ _)); exact BK246.out) Tryz.underlying48 rfl (by kernel_rfl)) rfl ?_
     exact ⟨by first | rfl | (simp [errW_none, errW_some] <;> rfl) | (simp [*, errW_none, errW_some] <;> rfl), by repeat (first | (with_reducible first | exact HB.out | apply below_alloc | apply pw_below_drewN | apply below_drew1 | refine below_set ?_ GE246.out | refine below_set ?_ GE249.out) | exact HB.out)⟩

/-! ### impl_DecText: function 53 -/
def impl_DecText.f (a0 : Int) : Option (ByteArray) := (strconv_Itoa.f a0).bind fun t251 => (some t251)
set_option maxHeartbeats 8000000 in
set_option maxRecDepth 100000 in
theorem impl_DecText.calls (a0 : Int) (r : ByteArray) (w : World) (ht : Tab.TabsODEM w) (h : impl_DecText.f a0 = some r) :
 Calls Tryz.prog 53 #[.int .i64 a0] w fun e w' => e = .returned (.string r) ∧ Below w.heap.size w w' := by
 have HB := Aside0.mk (Below.refl w.heap.size w)
 have HTB := Aside0.mk ht
 clear ht
 have H : ((strconv_Itoa.f a0).bind fun t251 => (some t251)) = some r := h
 clear h
 replace H := Option.bind_eq_some_iff.mp H
 obtain ⟨t251, A20, H⟩ := H
 replace H : (some t251) = some r := H
 have A2 := Aside0.mk A20
 clear A20
 obtain rfl := Option.some.inj H
 go_enter Tryz.func53, Tryz.ntmps53
 go_wp2_with (first | ((with_reducible refine gate_callee (f := 80) rfl ?_); refine goesL_ (some 4) rfl rfl Tryz.func80 (by kernel_rfl) rfl #[.int .i64 a0] rfl (by (try simp only [List.map_toArray, List.map_cons, List.map_nil]); first | done | rfl | (simp only [List.length_drop, List.length_take]; rfl)) ?_; (with_reducible refine (strconv_Itoa.calls a0 t251 _ ?side1 A2.out).mono ?_); (case side1 => exact Tab.TabsODEM.below HTB.out (by repeat (first | (with_reducible first | exact HB.out | apply below_alloc | apply pw_below_drewN | apply below_drew1) | exact HB.out))); rintro e w3 ⟨rfl, hb⟩; refine ⟨_, rfl, ?_⟩; have n0_ := Aside0.mk (below_step (by repeat (first | (with_reducible first | exact HB.out | apply below_alloc | apply pw_below_drewN | apply below_drew1) | exact HB.out)) hb); clear HB; have HB := n0_; clear n0_; (try clear hb); (try clear hb2); (try clear hk); (try clear hi)))
 go_ret
 exact ⟨by first | rfl | (simp [errW_none, errW_some] <;> rfl) | (simp [*, errW_none, errW_some] <;> rfl), by repeat (first | (with_reducible first | exact HB.out | apply below_alloc | apply pw_below_drewN | apply below_drew1) | exact HB.out)⟩

end Go.Proofs.YtaophlekfepkgaaGreatDoor.PFnAssemble

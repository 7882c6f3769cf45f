/- Printed by a program out of the translation, with contracts of my own set in. -/
import Derived.Test.YtjoiebnjpipenaaDoorPFnExactDisassemblex0
import Derived.Test.YtjoiebnjpipenaaDoorPFnExactDisassemblex3
namespace Go.Proofs.YtjoiebnjpipenaaDoor.PFnExactDisassemble
open Go.RowKit Go.Proofs.YtjoiebnjpipenaaDoorW.PrintWords Go.Proofs.YtjoiebnjpipenaaDoorW.PrintLast Go.Proofs.YtjoiebnjpipenaaDoorW.PrintMore
attribute [local go_sem] max2_int min2_int max_two min_two max_three min_three max_four min_four   -- for this text's walks alone
set_option linter.unusedVariables false
set_option linter.unusedSimpArgs false

/-! ### impl_isInstr: function 46 -/
/-- The form of an op; -1 when it is none. -/
def impl_isInstr.form (op : Int) : Int :=
  if op < 0 then -1 else if 32 < op then -1 else if 1 ≤ op ∧ op ≤ 12 then 7 else if op = 0 ∨ op = 30 ∨ op = 31 then 0 else if op = 14 ∨ op = 22 ∨ op = 28 ∨ op = 29 then 9 else if op = 23 then 10 else if op = 24 then 1 else if op = 32 then 8 else 11
def impl_isInstr.fld (form bit x lo hi : Int) : Bool := if form / bit % 2 = 1 then decide (lo ≤ x ∧ x ≤ hi) else decide (x = 0)
/-- Whether an instruction is ok. -/
def impl_isInstr.ok (op a b c imm : Int) : Bool :=
  decide (0 ≤ op ∧ op ≤ 32) && impl_isInstr.fld (impl_isInstr.form op) 1 a 0 15 && impl_isInstr.fld (impl_isInstr.form op) 2 b 0 15 && impl_isInstr.fld (impl_isInstr.form op) 4 c 0 15 && impl_isInstr.fld (impl_isInstr.form op) 8 imm (-8192) 8191
def impl_isInstr.f (a0_0 : Int) (a0_1 : Int) (a0_2 : Int) (a0_3 : Int) (a0_4 : Int) : Option (Bool) := some (impl_isInstr.ok a0_0 a0_1 a0_2 a0_3 a0_4)
theorem impl_isInstr.form_small : ∀ n : Fin 33, impl_formOf.f 8 (n.val : Int) = some (impl_isInstr.form (n.val : Int)) := by decide +kernel
theorem impl_isInstr.form_eq (op : Int) : impl_formOf.f 8 op = some (impl_isInstr.form op) := by
  by_cases h : 0 ≤ op ∧ op ≤ 32
  · obtain ⟨n, rfl⟩ := Int.eq_ofNat_of_zero_le h.1
    exact impl_isInstr.form_small ⟨n, by omega⟩
  · have e : impl_within.f op 0 32 = some false := by
      unfold impl_within.f
      by_cases h1 : op ≥ 0
      · rw [if_pos h1]; congr 1; simp; omega
      · rw [if_neg h1]
    have e2 : impl_isInstr.form op = -1 := by
      unfold impl_isInstr.form
      by_cases h1 : op < 0
      · rw [if_pos h1]
      · rw [if_neg h1, if_pos (by omega)]
    unfold impl_formOf.f
    rw [e, e2]; rfl
theorem impl_isInstr.within (n lo hi : Int) (w : World) : Calls Tryd.prog 41 #[.int .i64 n, .int .i64 lo, .int .i64 hi] w fun e w' => e = .returned (.bool (decide (lo ≤ n ∧ n ≤ hi))) ∧ Drawn0 w w' := by
  refine impl_within.calls n lo hi (decide (lo ≤ n ∧ n ≤ hi)) w ?_
  unfold impl_within.f
  by_cases h : n ≥ lo
  · rw [if_pos h]; congr 1; simp; omega
  · rw [if_neg h]; congr 1; simp; omega
theorem impl_isInstr.yes (n lo hi : Int) (w : World) (h : lo ≤ n ∧ n ≤ hi) : Calls Tryd.prog 41 #[.int .i64 n, .int .i64 lo, .int .i64 hi] w fun e w' => e = .returned (.bool true) ∧ Drawn0 w w' := by
  have := impl_isInstr.within n lo hi w
  rwa [decide_eq_true h] at this
theorem impl_isInstr.no (n lo hi : Int) (w : World) (h : ¬ (lo ≤ n ∧ n ≤ hi)) : Calls Tryd.prog 41 #[.int .i64 n, .int .i64 lo, .int .i64 hi] w fun e w' => e = .returned (.bool false) ∧ Drawn0 w w' := by
  have := impl_isInstr.within n lo hi w
  rwa [decide_eq_false h] at this
theorem impl_isInstr.imm (n : Int) (w : World) : Calls Tryd.prog 63 #[.int .i64 n] w fun e w' => e = .returned (.bool (decide (-8192 ≤ n ∧ n ≤ 8191))) ∧ Drawn0 w w' := by
  refine impl_isImm.calls n (decide (-8192 ≤ n ∧ n ≤ 8191)) w ?_
  unfold impl_isImm.f impl_within.f
  by_cases h : n ≥ -8192
  · rw [if_pos h]; simp only [Option.bind_some]; congr 1; simp; omega
  · rw [if_neg h]; simp only [Option.bind_some]; congr 1; simp; omega
theorem impl_isInstr.beq (n : Int) : (n == 0) = decide (n = 0) := by rw [Bool.eq_iff_iff]; simp
theorem impl_isInstr.ret {a b : Bool} (h : a = b) : Ending.returned (.bool a) = Ending.returned (.bool b) := by rw [h]

set_option maxHeartbeats 8000000 in
set_option maxRecDepth 100000 in
theorem impl_isInstr.form0 (a0_0 : Int) (a0_1 : Int) (a0_2 : Int) (a0_3 : Int) (a0_4 : Int) (r : Bool) (w : World) (HF : Hid (impl_isInstr.form a0_0 = 0))
    (HR : Hid ((impl_isInstr.fld 0 1 a0_1 0 15 && impl_isInstr.fld 0 2 a0_2 0 15 && impl_isInstr.fld 0 4 a0_3 0 15 && impl_isInstr.fld 0 8 a0_4 (-8192) 8191) = r)) :
    Calls Tryd.prog 46 #[.agg #[.int .i64 a0_0, .int .i64 a0_1, .int .i64 a0_2, .int .i64 a0_3, .int .i64 a0_4]] w fun e w' => e = .returned (.bool r) ∧ Below w.heap.size w w' := by
  have hu := Tryd.underlying29
  have HFC := fun W => impl_formOf.calls 8 a0_0 0 W (by rw [impl_isInstr.form_eq, HF.out])
  have i0 : ∀ w, (Instr.index 82 (.agg #[.int .i64 a0_1, .int .i64 a0_2, .int .i64 a0_3]) (.int .i64 0)).run Tryd.prog w = .ok (.int .i64 a0_1) w := fun _ => by kernel_rfl
  have i1 : ∀ w, (Instr.index 82 (.agg #[.int .i64 a0_1, .int .i64 a0_2, .int .i64 a0_3]) (.int .i64 1)).run Tryd.prog w = .ok (.int .i64 a0_2) w := fun _ => by kernel_rfl
  have i2 : ∀ w, (Instr.index 82 (.agg #[.int .i64 a0_1, .int .i64 a0_2, .int .i64 a0_3]) (.int .i64 2)).run Tryd.prog w = .ok (.int .i64 a0_3) w := fun _ => by kernel_rfl
  have b0 : Go.bits .and .i64 0 1 = 0 := by decide +kernel
  have b8_ : Go.bits .and .i64 0 8 = 0 := by decide +kernel
  go_enter Tryd.func46, Tryd.ntmps46
  go_wp2_with (go_at_call 62; refine (HFC _).mono ?_; rintro e w' ⟨rfl, m, rfl⟩)
  go_loopw [18] (fun i wr => ∃ k n : Nat, k ≤ 3 ∧ i = .int .i64 k ∧ ((0 < k → impl_isInstr.fld 0 1 a0_1 0 15 = true) ∧ (1 < k → impl_isInstr.fld 0 2 a0_2 0 15 = true) ∧ (2 < k → impl_isInstr.fld 0 4 a0_3 0 15 = true)) ∧ wr = (w.alloc (.cells #[.int .i64 a0_0, .int .i64 a0_1, .int .i64 a0_2, .int .i64 a0_3, .int .i64 a0_4] 29)).drewN n) (fun i _ => 3 - (intOf i).toNat)
  case atStart => exact ⟨0, _, by omega, rfl, ⟨fun h => absurd h (by omega), fun h => absurd h (by omega), fun h => absurd h (by omega)⟩, rfl⟩
  case round =>
    obtain ⟨k, n, hk, rfl, hok, rfl⟩ := hrel
    have HOK := Lib.hid hok; clear hok
    rcases (show k = 0 ∨ k = 1 ∨ k = 2 ∨ k = 3 by omega) with rfl | rfl | rfl | rfl
    · by_cases hin : a0_1 = 0
      · have HIN := Lib.hid (show impl_isInstr.fld 0 1 a0_1 0 15 = true by unfold impl_isInstr.fld; rw [if_neg (by decide)]; simpa using hin)
        have z1 : (a0_1 != 0) = false := by rw [hin]; rfl
        have z2 : decide (a0_1 = 0) = true := by simp [hin]
        clear hin
        go_wp2
        go_roundw
        case rel => exact ⟨1, _, by omega, rfl, ⟨fun _ => HIN.out, fun h => absurd h (by omega), fun h => absurd h (by omega)⟩, rfl⟩
        case measure => simp [intOf]
      · have HNO := Lib.hid (show impl_isInstr.fld 0 1 a0_1 0 15 = false by unfold impl_isInstr.fld; rw [if_neg (by decide)]; simpa using hin)
        have z1 : (a0_1 != 0) = true := by simpa using hin
        have z2 : decide (a0_1 = 0) = false := by simpa using hin
        clear hin
        go_wp2
        go_ret
        refine ⟨?_, by repeat (first | exact Below.refl _ _ | apply below_alloc | apply pw_below_drewN)⟩
        refine impl_isInstr.ret (Eq.trans ?_ HR.out)
        rw [HNO.out]; simp
    · by_cases hin : a0_2 = 0
      · have HIN := Lib.hid (show impl_isInstr.fld 0 2 a0_2 0 15 = true by unfold impl_isInstr.fld; rw [if_neg (by decide)]; simpa using hin)
        have z1 : (a0_2 != 0) = false := by rw [hin]; rfl
        have z2 : decide (a0_2 = 0) = true := by simp [hin]
        clear hin
        go_wp2
        go_roundw
        case rel => exact ⟨2, _, by omega, rfl, ⟨fun _ => HOK.out.1 (by omega), fun _ => HIN.out, fun h => absurd h (by omega)⟩, rfl⟩
        case measure => simp [intOf]
      · have HNO := Lib.hid (show impl_isInstr.fld 0 2 a0_2 0 15 = false by unfold impl_isInstr.fld; rw [if_neg (by decide)]; simpa using hin)
        have z1 : (a0_2 != 0) = true := by simpa using hin
        have z2 : decide (a0_2 = 0) = false := by simpa using hin
        clear hin
        go_wp2
        go_ret
        refine ⟨?_, by repeat (first | exact Below.refl _ _ | apply below_alloc | apply pw_below_drewN)⟩
        refine impl_isInstr.ret (Eq.trans ?_ HR.out)
        rw [HNO.out]; simp
    · by_cases hin : a0_3 = 0
      · have HIN := Lib.hid (show impl_isInstr.fld 0 4 a0_3 0 15 = true by unfold impl_isInstr.fld; rw [if_neg (by decide)]; simpa using hin)
        have z1 : (a0_3 != 0) = false := by rw [hin]; rfl
        have z2 : decide (a0_3 = 0) = true := by simp [hin]
        clear hin
        go_wp2
        go_roundw
        case rel => exact ⟨3, _, by omega, rfl, ⟨fun _ => HOK.out.1 (by omega), fun _ => HOK.out.2.1 (by omega), fun _ => HIN.out⟩, rfl⟩
        case measure => simp [intOf]
      · have HNO := Lib.hid (show impl_isInstr.fld 0 4 a0_3 0 15 = false by unfold impl_isInstr.fld; rw [if_neg (by decide)]; simpa using hin)
        have z1 : (a0_3 != 0) = true := by simpa using hin
        have z2 : decide (a0_3 = 0) = false := by simpa using hin
        clear hin
        go_wp2
        go_ret
        refine ⟨?_, by repeat (first | exact Below.refl _ _ | apply below_alloc | apply pw_below_drewN)⟩
        refine impl_isInstr.ret (Eq.trans ?_ HR.out)
        rw [HNO.out]; simp
    · go_wp2
      go_ret
      refine ⟨?_, by repeat (first | exact Below.refl _ _ | apply below_alloc | apply pw_below_drewN)⟩
      refine impl_isInstr.ret (Eq.trans ?_ HR.out)
      rw [HOK.out.1 (by omega), HOK.out.2.1 (by omega), HOK.out.2.2 (by omega)]
      unfold impl_isInstr.fld; rw [if_neg (by decide)]; simp only [Bool.true_and]; exact impl_isInstr.beq _
set_option maxHeartbeats 8000000 in
set_option maxRecDepth 100000 in
theorem impl_isInstr.form1 (a0_0 : Int) (a0_1 : Int) (a0_2 : Int) (a0_3 : Int) (a0_4 : Int) (r : Bool) (w : World) (HF : Hid (impl_isInstr.form a0_0 = 1))
    (HR : Hid ((impl_isInstr.fld 1 1 a0_1 0 15 && impl_isInstr.fld 1 2 a0_2 0 15 && impl_isInstr.fld 1 4 a0_3 0 15 && impl_isInstr.fld 1 8 a0_4 (-8192) 8191) = r)) :
    Calls Tryd.prog 46 #[.agg #[.int .i64 a0_0, .int .i64 a0_1, .int .i64 a0_2, .int .i64 a0_3, .int .i64 a0_4]] w fun e w' => e = .returned (.bool r) ∧ Below w.heap.size w w' := by
  have hu := Tryd.underlying29
  have HFC := fun W => impl_formOf.calls 8 a0_0 1 W (by rw [impl_isInstr.form_eq, HF.out])
  have i0 : ∀ w, (Instr.index 82 (.agg #[.int .i64 a0_1, .int .i64 a0_2, .int .i64 a0_3]) (.int .i64 0)).run Tryd.prog w = .ok (.int .i64 a0_1) w := fun _ => by kernel_rfl
  have i1 : ∀ w, (Instr.index 82 (.agg #[.int .i64 a0_1, .int .i64 a0_2, .int .i64 a0_3]) (.int .i64 1)).run Tryd.prog w = .ok (.int .i64 a0_2) w := fun _ => by kernel_rfl
  have i2 : ∀ w, (Instr.index 82 (.agg #[.int .i64 a0_1, .int .i64 a0_2, .int .i64 a0_3]) (.int .i64 2)).run Tryd.prog w = .ok (.int .i64 a0_3) w := fun _ => by kernel_rfl
  have b0 : Go.bits .and .i64 0 1 = 0 := by decide +kernel
  have b1 : Go.bits .and .i64 1 1 = 1 := by decide +kernel
  have b8_ : Go.bits .and .i64 1 8 = 0 := by decide +kernel
  go_enter Tryd.func46, Tryd.ntmps46
  go_wp2_with (go_at_call 62; refine (HFC _).mono ?_; rintro e w' ⟨rfl, m, rfl⟩)
  go_loopw [18] (fun i wr => ∃ k n : Nat, k ≤ 3 ∧ i = .int .i64 k ∧ ((0 < k → impl_isInstr.fld 1 1 a0_1 0 15 = true) ∧ (1 < k → impl_isInstr.fld 1 2 a0_2 0 15 = true) ∧ (2 < k → impl_isInstr.fld 1 4 a0_3 0 15 = true)) ∧ wr = (w.alloc (.cells #[.int .i64 a0_0, .int .i64 a0_1, .int .i64 a0_2, .int .i64 a0_3, .int .i64 a0_4] 29)).drewN n) (fun i _ => 3 - (intOf i).toNat)
  case atStart => exact ⟨0, _, by omega, rfl, ⟨fun h => absurd h (by omega), fun h => absurd h (by omega), fun h => absurd h (by omega)⟩, rfl⟩
  case round =>
    obtain ⟨k, n, hk, rfl, hok, rfl⟩ := hrel
    have HOK := Lib.hid hok; clear hok
    rcases (show k = 0 ∨ k = 1 ∨ k = 2 ∨ k = 3 by omega) with rfl | rfl | rfl | rfl
    · by_cases hin : 0 ≤ a0_1 ∧ a0_1 ≤ 15
      · have HIN := Lib.hid (show impl_isInstr.fld 1 1 a0_1 0 15 = true by unfold impl_isInstr.fld; rw [if_pos (by decide)]; simpa using hin); have HI2 := Lib.hid hin; clear hin
        go_wp2_with (go_at_call 41; refine (impl_isInstr.yes a0_1 0 15 _ HI2.out).mono ?_; rintro e w' ⟨rfl, m, rfl⟩)
        go_roundw
        case rel => exact ⟨1, _, by omega, rfl, ⟨fun _ => HIN.out, fun h => absurd h (by omega), fun h => absurd h (by omega)⟩, rfl⟩
        case measure => simp [intOf]
      · have HNO := Lib.hid (show impl_isInstr.fld 1 1 a0_1 0 15 = false by unfold impl_isInstr.fld; rw [if_pos (by decide)]; simpa using hin); have HI2 := Lib.hid hin; clear hin
        go_wp2_with (go_at_call 41; refine (impl_isInstr.no a0_1 0 15 _ HI2.out).mono ?_; rintro e w' ⟨rfl, m, rfl⟩)
        go_ret
        refine ⟨?_, by repeat (first | exact Below.refl _ _ | apply below_alloc | apply pw_below_drewN)⟩
        refine impl_isInstr.ret (Eq.trans ?_ HR.out)
        rw [HNO.out]; simp
    · by_cases hin : a0_2 = 0
      · have HIN := Lib.hid (show impl_isInstr.fld 1 2 a0_2 0 15 = true by unfold impl_isInstr.fld; rw [if_neg (by decide)]; simpa using hin)
        have z1 : (a0_2 != 0) = false := by rw [hin]; rfl
        have z2 : decide (a0_2 = 0) = true := by simp [hin]
        clear hin
        go_wp2
        go_roundw
        case rel => exact ⟨2, _, by omega, rfl, ⟨fun _ => HOK.out.1 (by omega), fun _ => HIN.out, fun h => absurd h (by omega)⟩, rfl⟩
        case measure => simp [intOf]
      · have HNO := Lib.hid (show impl_isInstr.fld 1 2 a0_2 0 15 = false by unfold impl_isInstr.fld; rw [if_neg (by decide)]; simpa using hin)
        have z1 : (a0_2 != 0) = true := by simpa using hin
        have z2 : decide (a0_2 = 0) = false := by simpa using hin
        clear hin
        go_wp2
        go_ret
        refine ⟨?_, by repeat (first | exact Below.refl _ _ | apply below_alloc | apply pw_below_drewN)⟩
        refine impl_isInstr.ret (Eq.trans ?_ HR.out)
        rw [HNO.out]; simp
    · by_cases hin : a0_3 = 0
      · have HIN := Lib.hid (show impl_isInstr.fld 1 4 a0_3 0 15 = true by unfold impl_isInstr.fld; rw [if_neg (by decide)]; simpa using hin)
        have z1 : (a0_3 != 0) = false := by rw [hin]; rfl
        have z2 : decide (a0_3 = 0) = true := by simp [hin]
        clear hin
        go_wp2
        go_roundw
        case rel => exact ⟨3, _, by omega, rfl, ⟨fun _ => HOK.out.1 (by omega), fun _ => HOK.out.2.1 (by omega), fun _ => HIN.out⟩, rfl⟩
        case measure => simp [intOf]
      · have HNO := Lib.hid (show impl_isInstr.fld 1 4 a0_3 0 15 = false by unfold impl_isInstr.fld; rw [if_neg (by decide)]; simpa using hin)
        have z1 : (a0_3 != 0) = true := by simpa using hin
        have z2 : decide (a0_3 = 0) = false := by simpa using hin
        clear hin
        go_wp2
        go_ret
        refine ⟨?_, by repeat (first | exact Below.refl _ _ | apply below_alloc | apply pw_below_drewN)⟩
        refine impl_isInstr.ret (Eq.trans ?_ HR.out)
        rw [HNO.out]; simp
    · go_wp2
      go_ret
      refine ⟨?_, by repeat (first | exact Below.refl _ _ | apply below_alloc | apply pw_below_drewN)⟩
      refine impl_isInstr.ret (Eq.trans ?_ HR.out)
      rw [HOK.out.1 (by omega), HOK.out.2.1 (by omega), HOK.out.2.2 (by omega)]
      unfold impl_isInstr.fld; rw [if_neg (by decide)]; simp only [Bool.true_and]; exact impl_isInstr.beq _
set_option maxHeartbeats 8000000 in
set_option maxRecDepth 100000 in
theorem impl_isInstr.form7 (a0_0 : Int) (a0_1 : Int) (a0_2 : Int) (a0_3 : Int) (a0_4 : Int) (r : Bool) (w : World) (HF : Hid (impl_isInstr.form a0_0 = 7))
    (HR : Hid ((impl_isInstr.fld 7 1 a0_1 0 15 && impl_isInstr.fld 7 2 a0_2 0 15 && impl_isInstr.fld 7 4 a0_3 0 15 && impl_isInstr.fld 7 8 a0_4 (-8192) 8191) = r)) :
    Calls Tryd.prog 46 #[.agg #[.int .i64 a0_0, .int .i64 a0_1, .int .i64 a0_2, .int .i64 a0_3, .int .i64 a0_4]] w fun e w' => e = .returned (.bool r) ∧ Below w.heap.size w w' := by
  have hu := Tryd.underlying29
  have HFC := fun W => impl_formOf.calls 8 a0_0 7 W (by rw [impl_isInstr.form_eq, HF.out])
  have i0 : ∀ w, (Instr.index 82 (.agg #[.int .i64 a0_1, .int .i64 a0_2, .int .i64 a0_3]) (.int .i64 0)).run Tryd.prog w = .ok (.int .i64 a0_1) w := fun _ => by kernel_rfl
  have i1 : ∀ w, (Instr.index 82 (.agg #[.int .i64 a0_1, .int .i64 a0_2, .int .i64 a0_3]) (.int .i64 1)).run Tryd.prog w = .ok (.int .i64 a0_2) w := fun _ => by kernel_rfl
  have i2 : ∀ w, (Instr.index 82 (.agg #[.int .i64 a0_1, .int .i64 a0_2, .int .i64 a0_3]) (.int .i64 2)).run Tryd.prog w = .ok (.int .i64 a0_3) w := fun _ => by kernel_rfl
  have b1 : Go.bits .and .i64 1 1 = 1 := by decide +kernel
  have b3 : Go.bits .and .i64 3 1 = 1 := by decide +kernel
  have b7 : Go.bits .and .i64 7 1 = 1 := by decide +kernel
  have b8_ : Go.bits .and .i64 7 8 = 0 := by decide +kernel
  go_enter Tryd.func46, Tryd.ntmps46
  go_wp2_with (go_at_call 62; refine (HFC _).mono ?_; rintro e w' ⟨rfl, m, rfl⟩)
  go_loopw [18] (fun i wr => ∃ k n : Nat, k ≤ 3 ∧ i = .int .i64 k ∧ ((0 < k → impl_isInstr.fld 7 1 a0_1 0 15 = true) ∧ (1 < k → impl_isInstr.fld 7 2 a0_2 0 15 = true) ∧ (2 < k → impl_isInstr.fld 7 4 a0_3 0 15 = true)) ∧ wr = (w.alloc (.cells #[.int .i64 a0_0, .int .i64 a0_1, .int .i64 a0_2, .int .i64 a0_3, .int .i64 a0_4] 29)).drewN n) (fun i _ => 3 - (intOf i).toNat)
  case atStart => exact ⟨0, _, by omega, rfl, ⟨fun h => absurd h (by omega), fun h => absurd h (by omega), fun h => absurd h (by omega)⟩, rfl⟩
  case round =>
    obtain ⟨k, n, hk, rfl, hok, rfl⟩ := hrel
    have HOK := Lib.hid hok; clear hok
    rcases (show k = 0 ∨ k = 1 ∨ k = 2 ∨ k = 3 by omega) with rfl | rfl | rfl | rfl
    · by_cases hin : 0 ≤ a0_1 ∧ a0_1 ≤ 15
      · have HIN := Lib.hid (show impl_isInstr.fld 7 1 a0_1 0 15 = true by unfold impl_isInstr.fld; rw [if_pos (by decide)]; simpa using hin); have HI2 := Lib.hid hin; clear hin
        go_wp2_with (go_at_call 41; refine (impl_isInstr.yes a0_1 0 15 _ HI2.out).mono ?_; rintro e w' ⟨rfl, m, rfl⟩)
        go_roundw
        case rel => exact ⟨1, _, by omega, rfl, ⟨fun _ => HIN.out, fun h => absurd h (by omega), fun h => absurd h (by omega)⟩, rfl⟩
        case measure => simp [intOf]
      · have HNO := Lib.hid (show impl_isInstr.fld 7 1 a0_1 0 15 = false by unfold impl_isInstr.fld; rw [if_pos (by decide)]; simpa using hin); have HI2 := Lib.hid hin; clear hin
        go_wp2_with (go_at_call 41; refine (impl_isInstr.no a0_1 0 15 _ HI2.out).mono ?_; rintro e w' ⟨rfl, m, rfl⟩)
        go_ret
        refine ⟨?_, by repeat (first | exact Below.refl _ _ | apply below_alloc | apply pw_below_drewN)⟩
        refine impl_isInstr.ret (Eq.trans ?_ HR.out)
        rw [HNO.out]; simp
    · by_cases hin : 0 ≤ a0_2 ∧ a0_2 ≤ 15
      · have HIN := Lib.hid (show impl_isInstr.fld 7 2 a0_2 0 15 = true by unfold impl_isInstr.fld; rw [if_pos (by decide)]; simpa using hin); have HI2 := Lib.hid hin; clear hin
        go_wp2_with (go_at_call 41; refine (impl_isInstr.yes a0_2 0 15 _ HI2.out).mono ?_; rintro e w' ⟨rfl, m, rfl⟩)
        go_roundw
        case rel => exact ⟨2, _, by omega, rfl, ⟨fun _ => HOK.out.1 (by omega), fun _ => HIN.out, fun h => absurd h (by omega)⟩, rfl⟩
        case measure => simp [intOf]
      · have HNO := Lib.hid (show impl_isInstr.fld 7 2 a0_2 0 15 = false by unfold impl_isInstr.fld; rw [if_pos (by decide)]; simpa using hin); have HI2 := Lib.hid hin; clear hin
        go_wp2_with (go_at_call 41; refine (impl_isInstr.no a0_2 0 15 _ HI2.out).mono ?_; rintro e w' ⟨rfl, m, rfl⟩)
        go_ret
        refine ⟨?_, by repeat (first | exact Below.refl _ _ | apply below_alloc | apply pw_below_drewN)⟩
        refine impl_isInstr.ret (Eq.trans ?_ HR.out)
        rw [HNO.out]; simp
    · by_cases hin : 0 ≤ a0_3 ∧ a0_3 ≤ 15
      · have HIN := Lib.hid (show impl_isInstr.fld 7 4 a0_3 0 15 = true by unfold impl_isInstr.fld; rw [if_pos (by decide)]; simpa using hin); have HI2 := Lib.hid hin; clear hin
        go_wp2_with (go_at_call 41; refine (impl_isInstr.yes a0_3 0 15 _ HI2.out).mono ?_; rintro e w' ⟨rfl, m, rfl⟩)
        go_roundw
        case rel => exact ⟨3, _, by omega, rfl, ⟨fun _ => HOK.out.1 (by omega), fun _ => HOK.out.2.1 (by omega), fun _ => HIN.out⟩, rfl⟩
        case measure => simp [intOf]
      · have HNO := Lib.hid (show impl_isInstr.fld 7 4 a0_3 0 15 = false by unfold impl_isInstr.fld; rw [if_pos (by decide)]; simpa using hin); have HI2 := Lib.hid hin; clear hin
        go_wp2_with (go_at_call 41; refine (impl_isInstr.no a0_3 0 15 _ HI2.out).mono ?_; rintro e w' ⟨rfl, m, rfl⟩)
        go_ret
        refine ⟨?_, by repeat (first | exact Below.refl _ _ | apply below_alloc | apply pw_below_drewN)⟩
        refine impl_isInstr.ret (Eq.trans ?_ HR.out)
        rw [HNO.out]; simp
    · go_wp2
      go_ret
      refine ⟨?_, by repeat (first | exact Below.refl _ _ | apply below_alloc | apply pw_below_drewN)⟩
      refine impl_isInstr.ret (Eq.trans ?_ HR.out)
      rw [HOK.out.1 (by omega), HOK.out.2.1 (by omega), HOK.out.2.2 (by omega)]
      unfold impl_isInstr.fld; rw [if_neg (by decide)]; simp only [Bool.true_and]; exact impl_isInstr.beq _
set_option maxHeartbeats 8000000 in
set_option maxRecDepth 100000 in
theorem impl_isInstr.form8 (a0_0 : Int) (a0_1 : Int) (a0_2 : Int) (a0_3 : Int) (a0_4 : Int) (r : Bool) (w : World) (HF : Hid (impl_isInstr.form a0_0 = 8))
    (HR : Hid ((impl_isInstr.fld 8 1 a0_1 0 15 && impl_isInstr.fld 8 2 a0_2 0 15 && impl_isInstr.fld 8 4 a0_3 0 15 && impl_isInstr.fld 8 8 a0_4 (-8192) 8191) = r)) :
    Calls Tryd.prog 46 #[.agg #[.int .i64 a0_0, .int .i64 a0_1, .int .i64 a0_2, .int .i64 a0_3, .int .i64 a0_4]] w fun e w' => e = .returned (.bool r) ∧ Below w.heap.size w w' := by
  have hu := Tryd.underlying29
  have HFC := fun W => impl_formOf.calls 8 a0_0 8 W (by rw [impl_isInstr.form_eq, HF.out])
  have i0 : ∀ w, (Instr.index 82 (.agg #[.int .i64 a0_1, .int .i64 a0_2, .int .i64 a0_3]) (.int .i64 0)).run Tryd.prog w = .ok (.int .i64 a0_1) w := fun _ => by kernel_rfl
  have i1 : ∀ w, (Instr.index 82 (.agg #[.int .i64 a0_1, .int .i64 a0_2, .int .i64 a0_3]) (.int .i64 1)).run Tryd.prog w = .ok (.int .i64 a0_2) w := fun _ => by kernel_rfl
  have i2 : ∀ w, (Instr.index 82 (.agg #[.int .i64 a0_1, .int .i64 a0_2, .int .i64 a0_3]) (.int .i64 2)).run Tryd.prog w = .ok (.int .i64 a0_3) w := fun _ => by kernel_rfl
  have b2 : Go.bits .and .i64 2 1 = 0 := by decide +kernel
  have b4 : Go.bits .and .i64 4 1 = 0 := by decide +kernel
  have b8 : Go.bits .and .i64 8 1 = 0 := by decide +kernel
  have b8_ : Go.bits .and .i64 8 8 = 8 := by decide +kernel
  go_enter Tryd.func46, Tryd.ntmps46
  go_wp2_with (go_at_call 62; refine (HFC _).mono ?_; rintro e w' ⟨rfl, m, rfl⟩)
  go_loopw [18] (fun i wr => ∃ k n : Nat, k ≤ 3 ∧ i = .int .i64 k ∧ ((0 < k → impl_isInstr.fld 8 1 a0_1 0 15 = true) ∧ (1 < k → impl_isInstr.fld 8 2 a0_2 0 15 = true) ∧ (2 < k → impl_isInstr.fld 8 4 a0_3 0 15 = true)) ∧ wr = (w.alloc (.cells #[.int .i64 a0_0, .int .i64 a0_1, .int .i64 a0_2, .int .i64 a0_3, .int .i64 a0_4] 29)).drewN n) (fun i _ => 3 - (intOf i).toNat)
  case atStart => exact ⟨0, _, by omega, rfl, ⟨fun h => absurd h (by omega), fun h => absurd h (by omega), fun h => absurd h (by omega)⟩, rfl⟩
  case round =>
    obtain ⟨k, n, hk, rfl, hok, rfl⟩ := hrel
    have HOK := Lib.hid hok; clear hok
    rcases (show k = 0 ∨ k = 1 ∨ k = 2 ∨ k = 3 by omega) with rfl | rfl | rfl | rfl
    · by_cases hin : a0_1 = 0
      · have HIN := Lib.hid (show impl_isInstr.fld 8 1 a0_1 0 15 = true by unfold impl_isInstr.fld; rw [if_neg (by decide)]; simpa using hin)
        have z1 : (a0_1 != 0) = false := by rw [hin]; rfl
        have z2 : decide (a0_1 = 0) = true := by simp [hin]
        clear hin
        go_wp2
        go_roundw
        case rel => exact ⟨1, _, by omega, rfl, ⟨fun _ => HIN.out, fun h => absurd h (by omega), fun h => absurd h (by omega)⟩, rfl⟩
        case measure => simp [intOf]
      · have HNO := Lib.hid (show impl_isInstr.fld 8 1 a0_1 0 15 = false by unfold impl_isInstr.fld; rw [if_neg (by decide)]; simpa using hin)
        have z1 : (a0_1 != 0) = true := by simpa using hin
        have z2 : decide (a0_1 = 0) = false := by simpa using hin
        clear hin
        go_wp2
        go_ret
        refine ⟨?_, by repeat (first | exact Below.refl _ _ | apply below_alloc | apply pw_below_drewN)⟩
        refine impl_isInstr.ret (Eq.trans ?_ HR.out)
        rw [HNO.out]; simp
    · by_cases hin : a0_2 = 0
      · have HIN := Lib.hid (show impl_isInstr.fld 8 2 a0_2 0 15 = true by unfold impl_isInstr.fld; rw [if_neg (by decide)]; simpa using hin)
        have z1 : (a0_2 != 0) = false := by rw [hin]; rfl
        have z2 : decide (a0_2 = 0) = true := by simp [hin]
        clear hin
        go_wp2
        go_roundw
        case rel => exact ⟨2, _, by omega, rfl, ⟨fun _ => HOK.out.1 (by omega), fun _ => HIN.out, fun h => absurd h (by omega)⟩, rfl⟩
        case measure => simp [intOf]
      · have HNO := Lib.hid (show impl_isInstr.fld 8 2 a0_2 0 15 = false by unfold impl_isInstr.fld; rw [if_neg (by decide)]; simpa using hin)
        have z1 : (a0_2 != 0) = true := by simpa using hin
        have z2 : decide (a0_2 = 0) = false := by simpa using hin
        clear hin
        go_wp2
        go_ret
        refine ⟨?_, by repeat (first | exact Below.refl _ _ | apply below_alloc | apply pw_below_drewN)⟩
        refine impl_isInstr.ret (Eq.trans ?_ HR.out)
        rw [HNO.out]; simp
    · by_cases hin : a0_3 = 0
      · have HIN := Lib.hid (show impl_isInstr.fld 8 4 a0_3 0 15 = true by unfold impl_isInstr.fld; rw [if_neg (by decide)]; simpa using hin)
        have z1 : (a0_3 != 0) = false := by rw [hin]; rfl
        have z2 : decide (a0_3 = 0) = true := by simp [hin]
        clear hin
        go_wp2
        go_roundw
        case rel => exact ⟨3, _, by omega, rfl, ⟨fun _ => HOK.out.1 (by omega), fun _ => HOK.out.2.1 (by omega), fun _ => HIN.out⟩, rfl⟩
        case measure => simp [intOf]
      · have HNO := Lib.hid (show impl_isInstr.fld 8 4 a0_3 0 15 = false by unfold impl_isInstr.fld; rw [if_neg (by decide)]; simpa using hin)
        have z1 : (a0_3 != 0) = true := by simpa using hin
        have z2 : decide (a0_3 = 0) = false := by simpa using hin
        clear hin
        go_wp2
        go_ret
        refine ⟨?_, by repeat (first | exact Below.refl _ _ | apply below_alloc | apply pw_below_drewN)⟩
        refine impl_isInstr.ret (Eq.trans ?_ HR.out)
        rw [HNO.out]; simp
    · go_wp2_with (go_at_call 63; refine (impl_isInstr.imm a0_4 _).mono ?_; rintro e w' ⟨rfl, m, rfl⟩)
      go_ret
      refine ⟨?_, by repeat (first | exact Below.refl _ _ | apply below_alloc | apply pw_below_drewN)⟩
      refine impl_isInstr.ret (Eq.trans ?_ HR.out)
      rw [HOK.out.1 (by omega), HOK.out.2.1 (by omega), HOK.out.2.2 (by omega)]
      unfold impl_isInstr.fld; rw [if_pos (by decide)]; simp
set_option maxHeartbeats 8000000 in
set_option maxRecDepth 100000 in
theorem impl_isInstr.form9 (a0_0 : Int) (a0_1 : Int) (a0_2 : Int) (a0_3 : Int) (a0_4 : Int) (r : Bool) (w : World) (HF : Hid (impl_isInstr.form a0_0 = 9))
    (HR : Hid ((impl_isInstr.fld 9 1 a0_1 0 15 && impl_isInstr.fld 9 2 a0_2 0 15 && impl_isInstr.fld 9 4 a0_3 0 15 && impl_isInstr.fld 9 8 a0_4 (-8192) 8191) = r)) :
    Calls Tryd.prog 46 #[.agg #[.int .i64 a0_0, .int .i64 a0_1, .int .i64 a0_2, .int .i64 a0_3, .int .i64 a0_4]] w fun e w' => e = .returned (.bool r) ∧ Below w.heap.size w w' := by
  have hu := Tryd.underlying29
  have HFC := fun W => impl_formOf.calls 8 a0_0 9 W (by rw [impl_isInstr.form_eq, HF.out])
  have i0 : ∀ w, (Instr.index 82 (.agg #[.int .i64 a0_1, .int .i64 a0_2, .int .i64 a0_3]) (.int .i64 0)).run Tryd.prog w = .ok (.int .i64 a0_1) w := fun _ => by kernel_rfl
  have i1 : ∀ w, (Instr.index 82 (.agg #[.int .i64 a0_1, .int .i64 a0_2, .int .i64 a0_3]) (.int .i64 1)).run Tryd.prog w = .ok (.int .i64 a0_2) w := fun _ => by kernel_rfl
  have i2 : ∀ w, (Instr.index 82 (.agg #[.int .i64 a0_1, .int .i64 a0_2, .int .i64 a0_3]) (.int .i64 2)).run Tryd.prog w = .ok (.int .i64 a0_3) w := fun _ => by kernel_rfl
  have b2 : Go.bits .and .i64 2 1 = 0 := by decide +kernel
  have b4 : Go.bits .and .i64 4 1 = 0 := by decide +kernel
  have b9 : Go.bits .and .i64 9 1 = 1 := by decide +kernel
  have b8_ : Go.bits .and .i64 9 8 = 8 := by decide +kernel
  go_enter Tryd.func46, Tryd.ntmps46
  go_wp2_with (go_at_call 62; refine (HFC _).mono ?_; rintro e w' ⟨rfl, m, rfl⟩)
  go_loopw [18] (fun i wr => ∃ k n : Nat, k ≤ 3 ∧ i = .int .i64 k ∧ ((0 < k → impl_isInstr.fld 9 1 a0_1 0 15 = true) ∧ (1 < k → impl_isInstr.fld 9 2 a0_2 0 15 = true) ∧ (2 < k → impl_isInstr.fld 9 4 a0_3 0 15 = true)) ∧ wr = (w.alloc (.cells #[.int .i64 a0_0, .int .i64 a0_1, .int .i64 a0_2, .int .i64 a0_3, .int .i64 a0_4] 29)).drewN n) (fun i _ => 3 - (intOf i).toNat)
  case atStart => exact ⟨0, _, by omega, rfl, ⟨fun h => absurd h (by omega), fun h => absurd h (by omega), fun h => absurd h (by omega)⟩, rfl⟩
  case round =>
    obtain ⟨k, n, hk, rfl, hok, rfl⟩ := hrel
    have HOK := Lib.hid hok; clear hok
    rcases (show k = 0 ∨ k = 1 ∨ k = 2 ∨ k = 3 by omega) with rfl | rfl | rfl | rfl
    · by_cases hin : 0 ≤ a0_1 ∧ a0_1 ≤ 15
      · have HIN := Lib.hid (show impl_isInstr.fld 9 1 a0_1 0 15 = true by unfold impl_isInstr.fld; rw [if_pos (by decide)]; simpa using hin); have HI2 := Lib.hid hin; clear hin
        go_wp2_with (go_at_call 41; refine (impl_isInstr.yes a0_1 0 15 _ HI2.out).mono ?_; rintro e w' ⟨rfl, m, rfl⟩)
        go_roundw
        case rel => exact ⟨1, _, by omega, rfl, ⟨fun _ => HIN.out, fun h => absurd h (by omega), fun h => absurd h (by omega)⟩, rfl⟩
        case measure => simp [intOf]
      · have HNO := Lib.hid (show impl_isInstr.fld 9 1 a0_1 0 15 = false by unfold impl_isInstr.fld; rw [if_pos (by decide)]; simpa using hin); have HI2 := Lib.hid hin; clear hin
        go_wp2_with (go_at_call 41; refine (impl_isInstr.no a0_1 0 15 _ HI2.out).mono ?_; rintro e w' ⟨rfl, m, rfl⟩)
        go_ret
        refine ⟨?_, by repeat (first | exact Below.refl _ _ | apply below_alloc | apply pw_below_drewN)⟩
        refine impl_isInstr.ret (Eq.trans ?_ HR.out)
        rw [HNO.out]; simp
    · by_cases hin : a0_2 = 0
      · have HIN := Lib.hid (show impl_isInstr.fld 9 2 a0_2 0 15 = true by unfold impl_isInstr.fld; rw [if_neg (by decide)]; simpa using hin)
        have z1 : (a0_2 != 0) = false := by rw [hin]; rfl
        have z2 : decide (a0_2 = 0) = true := by simp [hin]
        clear hin
        go_wp2
        go_roundw
        case rel => exact ⟨2, _, by omega, rfl, ⟨fun _ => HOK.out.1 (by omega), fun _ => HIN.out, fun h => absurd h (by omega)⟩, rfl⟩
        case measure => simp [intOf]
      · have HNO := Lib.hid (show impl_isInstr.fld 9 2 a0_2 0 15 = false by unfold impl_isInstr.fld; rw [if_neg (by decide)]; simpa using hin)
        have z1 : (a0_2 != 0) = true := by simpa using hin
        have z2 : decide (a0_2 = 0) = false := by simpa using hin
        clear hin
        go_wp2
        go_ret
        refine ⟨?_, by repeat (first | exact Below.refl _ _ | apply below_alloc | apply pw_below_drewN)⟩
        refine impl_isInstr.ret (Eq.trans ?_ HR.out)
        rw [HNO.out]; simp
    · by_cases hin : a0_3 = 0
      · have HIN := Lib.hid (show impl_isInstr.fld 9 4 a0_3 0 15 = true by unfold impl_isInstr.fld; rw [if_neg (by decide)]; simpa using hin)
        have z1 : (a0_3 != 0) = false := by rw [hin]; rfl
        have z2 : decide (a0_3 = 0) = true := by simp [hin]
        clear hin
        go_wp2
        go_roundw
        case rel => exact ⟨3, _, by omega, rfl, ⟨fun _ => HOK.out.1 (by omega), fun _ => HOK.out.2.1 (by omega), fun _ => HIN.out⟩, rfl⟩
        case measure => simp [intOf]
      · have HNO := Lib.hid (show impl_isInstr.fld 9 4 a0_3 0 15 = false by unfold impl_isInstr.fld; rw [if_neg (by decide)]; simpa using hin)
        have z1 : (a0_3 != 0) = true := by simpa using hin
        have z2 : decide (a0_3 = 0) = false := by simpa using hin
        clear hin
        go_wp2
        go_ret
        refine ⟨?_, by repeat (first | exact Below.refl _ _ | apply below_alloc | apply pw_below_drewN)⟩
        refine impl_isInstr.ret (Eq.trans ?_ HR.out)
        rw [HNO.out]; simp
    · go_wp2_with (go_at_call 63; refine (impl_isInstr.imm a0_4 _).mono ?_; rintro e w' ⟨rfl, m, rfl⟩)
      go_ret
      refine ⟨?_, by repeat (first | exact Below.refl _ _ | apply below_alloc | apply pw_below_drewN)⟩
      refine impl_isInstr.ret (Eq.trans ?_ HR.out)
      rw [HOK.out.1 (by omega), HOK.out.2.1 (by omega), HOK.out.2.2 (by omega)]
      unfold impl_isInstr.fld; rw [if_pos (by decide)]; simp
set_option maxHeartbeats 8000000 in
set_option maxRecDepth 100000 in
theorem impl_isInstr.form10 (a0_0 : Int) (a0_1 : Int) (a0_2 : Int) (a0_3 : Int) (a0_4 : Int) (r : Bool) (w : World) (HF : Hid (impl_isInstr.form a0_0 = 10))
    (HR : Hid ((impl_isInstr.fld 10 1 a0_1 0 15 && impl_isInstr.fld 10 2 a0_2 0 15 && impl_isInstr.fld 10 4 a0_3 0 15 && impl_isInstr.fld 10 8 a0_4 (-8192) 8191) = r)) :
    Calls Tryd.prog 46 #[.agg #[.int .i64 a0_0, .int .i64 a0_1, .int .i64 a0_2, .int .i64 a0_3, .int .i64 a0_4]] w fun e w' => e = .returned (.bool r) ∧ Below w.heap.size w w' := by
  have hu := Tryd.underlying29
  have HFC := fun W => impl_formOf.calls 8 a0_0 10 W (by rw [impl_isInstr.form_eq, HF.out])
  have i0 : ∀ w, (Instr.index 82 (.agg #[.int .i64 a0_1, .int .i64 a0_2, .int .i64 a0_3]) (.int .i64 0)).run Tryd.prog w = .ok (.int .i64 a0_1) w := fun _ => by kernel_rfl
  have i1 : ∀ w, (Instr.index 82 (.agg #[.int .i64 a0_1, .int .i64 a0_2, .int .i64 a0_3]) (.int .i64 1)).run Tryd.prog w = .ok (.int .i64 a0_2) w := fun _ => by kernel_rfl
  have i2 : ∀ w, (Instr.index 82 (.agg #[.int .i64 a0_1, .int .i64 a0_2, .int .i64 a0_3]) (.int .i64 2)).run Tryd.prog w = .ok (.int .i64 a0_3) w := fun _ => by kernel_rfl
  have b2 : Go.bits .and .i64 2 1 = 0 := by decide +kernel
  have b5 : Go.bits .and .i64 5 1 = 1 := by decide +kernel
  have b10 : Go.bits .and .i64 10 1 = 0 := by decide +kernel
  have b8_ : Go.bits .and .i64 10 8 = 8 := by decide +kernel
  go_enter Tryd.func46, Tryd.ntmps46
  go_wp2_with (go_at_call 62; refine (HFC _).mono ?_; rintro e w' ⟨rfl, m, rfl⟩)
  go_loopw [18] (fun i wr => ∃ k n : Nat, k ≤ 3 ∧ i = .int .i64 k ∧ ((0 < k → impl_isInstr.fld 10 1 a0_1 0 15 = true) ∧ (1 < k → impl_isInstr.fld 10 2 a0_2 0 15 = true) ∧ (2 < k → impl_isInstr.fld 10 4 a0_3 0 15 = true)) ∧ wr = (w.alloc (.cells #[.int .i64 a0_0, .int .i64 a0_1, .int .i64 a0_2, .int .i64 a0_3, .int .i64 a0_4] 29)).drewN n) (fun i _ => 3 - (intOf i).toNat)
  case atStart => exact ⟨0, _, by omega, rfl, ⟨fun h => absurd h (by omega), fun h => absurd h (by omega), fun h => absurd h (by omega)⟩, rfl⟩
  case round =>
    obtain ⟨k, n, hk, rfl, hok, rfl⟩ := hrel
    have HOK := Lib.hid hok; clear hok
    rcases (show k = 0 ∨ k = 1 ∨ k = 2 ∨ k = 3 by omega) with rfl | rfl | rfl | rfl
    · by_cases hin : a0_1 = 0
      · have HIN := Lib.hid (show impl_isInstr.fld 10 1 a0_1 0 15 = true by unfold impl_isInstr.fld; rw [if_neg (by decide)]; simpa using hin)
        have z1 : (a0_1 != 0) = false := by rw [hin]; rfl
        have z2 : decide (a0_1 = 0) = true := by simp [hin]
        clear hin
        go_wp2
        go_roundw
        case rel => exact ⟨1, _, by omega, rfl, ⟨fun _ => HIN.out, fun h => absurd h (by omega), fun h => absurd h (by omega)⟩, rfl⟩
        case measure => simp [intOf]
      · have HNO := Lib.hid (show impl_isInstr.fld 10 1 a0_1 0 15 = false by unfold impl_isInstr.fld; rw [if_neg (by decide)]; simpa using hin)
        have z1 : (a0_1 != 0) = true := by simpa using hin
        have z2 : decide (a0_1 = 0) = false := by simpa using hin
        clear hin
        go_wp2
        go_ret
        refine ⟨?_, by repeat (first | exact Below.refl _ _ | apply below_alloc | apply pw_below_drewN)⟩
        refine impl_isInstr.ret (Eq.trans ?_ HR.out)
        rw [HNO.out]; simp
    · by_cases hin : 0 ≤ a0_2 ∧ a0_2 ≤ 15
      · have HIN := Lib.hid (show impl_isInstr.fld 10 2 a0_2 0 15 = true by unfold impl_isInstr.fld; rw [if_pos (by decide)]; simpa using hin); have HI2 := Lib.hid hin; clear hin
        go_wp2_with (go_at_call 41; refine (impl_isInstr.yes a0_2 0 15 _ HI2.out).mono ?_; rintro e w' ⟨rfl, m, rfl⟩)
        go_roundw
        case rel => exact ⟨2, _, by omega, rfl, ⟨fun _ => HOK.out.1 (by omega), fun _ => HIN.out, fun h => absurd h (by omega)⟩, rfl⟩
        case measure => simp [intOf]
      · have HNO := Lib.hid (show impl_isInstr.fld 10 2 a0_2 0 15 = false by unfold impl_isInstr.fld; rw [if_pos (by decide)]; simpa using hin); have HI2 := Lib.hid hin; clear hin
        go_wp2_with (go_at_call 41; refine (impl_isInstr.no a0_2 0 15 _ HI2.out).mono ?_; rintro e w' ⟨rfl, m, rfl⟩)
        go_ret
        refine ⟨?_, by repeat (first | exact Below.refl _ _ | apply below_alloc | apply pw_below_drewN)⟩
        refine impl_isInstr.ret (Eq.trans ?_ HR.out)
        rw [HNO.out]; simp
    · by_cases hin : a0_3 = 0
      · have HIN := Lib.hid (show impl_isInstr.fld 10 4 a0_3 0 15 = true by unfold impl_isInstr.fld; rw [if_neg (by decide)]; simpa using hin)
        have z1 : (a0_3 != 0) = false := by rw [hin]; rfl
        have z2 : decide (a0_3 = 0) = true := by simp [hin]
        clear hin
        go_wp2
        go_roundw
        case rel => exact ⟨3, _, by omega, rfl, ⟨fun _ => HOK.out.1 (by omega), fun _ => HOK.out.2.1 (by omega), fun _ => HIN.out⟩, rfl⟩
        case measure => simp [intOf]
      · have HNO := Lib.hid (show impl_isInstr.fld 10 4 a0_3 0 15 = false by unfold impl_isInstr.fld; rw [if_neg (by decide)]; simpa using hin)
        have z1 : (a0_3 != 0) = true := by simpa using hin
        have z2 : decide (a0_3 = 0) = false := by simpa using hin
        clear hin
        go_wp2
        go_ret
        refine ⟨?_, by repeat (first | exact Below.refl _ _ | apply below_alloc | apply pw_below_drewN)⟩
        refine impl_isInstr.ret (Eq.trans ?_ HR.out)
        rw [HNO.out]; simp
    · go_wp2_with (go_at_call 63; refine (impl_isInstr.imm a0_4 _).mono ?_; rintro e w' ⟨rfl, m, rfl⟩)
      go_ret
      refine ⟨?_, by repeat (first | exact Below.refl _ _ | apply below_alloc | apply pw_below_drewN)⟩
      refine impl_isInstr.ret (Eq.trans ?_ HR.out)
      rw [HOK.out.1 (by omega), HOK.out.2.1 (by omega), HOK.out.2.2 (by omega)]
      unfold impl_isInstr.fld; rw [if_pos (by decide)]; simp
set_option maxHeartbeats 8000000 in
set_option maxRecDepth 100000 in
theorem impl_isInstr.form11 (a0_0 : Int) (a0_1 : Int) (a0_2 : Int) (a0_3 : Int) (a0_4 : Int) (r : Bool) (w : World) (HF : Hid (impl_isInstr.form a0_0 = 11))
    (HR : Hid ((impl_isInstr.fld 11 1 a0_1 0 15 && impl_isInstr.fld 11 2 a0_2 0 15 && impl_isInstr.fld 11 4 a0_3 0 15 && impl_isInstr.fld 11 8 a0_4 (-8192) 8191) = r)) :
    Calls Tryd.prog 46 #[.agg #[.int .i64 a0_0, .int .i64 a0_1, .int .i64 a0_2, .int .i64 a0_3, .int .i64 a0_4]] w fun e w' => e = .returned (.bool r) ∧ Below w.heap.size w w' := by
  have hu := Tryd.underlying29
  have HFC := fun W => impl_formOf.calls 8 a0_0 11 W (by rw [impl_isInstr.form_eq, HF.out])
  have i0 : ∀ w, (Instr.index 82 (.agg #[.int .i64 a0_1, .int .i64 a0_2, .int .i64 a0_3]) (.int .i64 0)).run Tryd.prog w = .ok (.int .i64 a0_1) w := fun _ => by kernel_rfl
  have i1 : ∀ w, (Instr.index 82 (.agg #[.int .i64 a0_1, .int .i64 a0_2, .int .i64 a0_3]) (.int .i64 1)).run Tryd.prog w = .ok (.int .i64 a0_2) w := fun _ => by kernel_rfl
  have i2 : ∀ w, (Instr.index 82 (.agg #[.int .i64 a0_1, .int .i64 a0_2, .int .i64 a0_3]) (.int .i64 2)).run Tryd.prog w = .ok (.int .i64 a0_3) w := fun _ => by kernel_rfl
  have b2 : Go.bits .and .i64 2 1 = 0 := by decide +kernel
  have b5 : Go.bits .and .i64 5 1 = 1 := by decide +kernel
  have b11 : Go.bits .and .i64 11 1 = 1 := by decide +kernel
  have b8_ : Go.bits .and .i64 11 8 = 8 := by decide +kernel
  go_enter Tryd.func46, Tryd.ntmps46
  go_wp2_with (go_at_call 62; refine (HFC _).mono ?_; rintro e w' ⟨rfl, m, rfl⟩)
  go_loopw [18] (fun i wr => ∃ k n : Nat, k ≤ 3 ∧ i = .int .i64 k ∧ ((0 < k → impl_isInstr.fld 11 1 a0_1 0 15 = true) ∧ (1 < k → impl_isInstr.fld 11 2 a0_2 0 15 = true) ∧ (2 < k → impl_isInstr.fld 11 4 a0_3 0 15 = true)) ∧ wr = (w.alloc (.cells #[.int .i64 a0_0, .int .i64 a0_1, .int .i64 a0_2, .int .i64 a0_3, .int .i64 a0_4] 29)).drewN n) (fun i _ => 3 - (intOf i).toNat)
  case atStart => exact ⟨0, _, by omega, rfl, ⟨fun h => absurd h (by omega), fun h => absurd h (by omega), fun h => absurd h (by omega)⟩, rfl⟩
  case round =>
    obtain ⟨k, n, hk, rfl, hok, rfl⟩ := hrel
    have HOK := Lib.hid hok; clear hok
    rcases (show k = 0 ∨ k = 1 ∨ k = 2 ∨ k = 3 by omega) with rfl | rfl | rfl | rfl
    · by_cases hin : 0 ≤ a0_1 ∧ a0_1 ≤ 15
      · have HIN := Lib.hid (show impl_isInstr.fld 11 1 a0_1 0 15 = true by unfold impl_isInstr.fld; rw [if_pos (by decide)]; simpa using hin); have HI2 := Lib.hid hin; clear hin
        go_wp2_with (go_at_call 41; refine (impl_isInstr.yes a0_1 0 15 _ HI2.out).mono ?_; rintro e w' ⟨rfl, m, rfl⟩)
        go_roundw
        case rel => exact ⟨1, _, by omega, rfl, ⟨fun _ => HIN.out, fun h => absurd h (by omega), fun h => absurd h (by omega)⟩, rfl⟩
        case measure => simp [intOf]
      · have HNO := Lib.hid (show impl_isInstr.fld 11 1 a0_1 0 15 = false by unfold impl_isInstr.fld; rw [if_pos (by decide)]; simpa using hin); have HI2 := Lib.hid hin; clear hin
        go_wp2_with (go_at_call 41; refine (impl_isInstr.no a0_1 0 15 _ HI2.out).mono ?_; rintro e w' ⟨rfl, m, rfl⟩)
        go_ret
        refine ⟨?_, by repeat (first | exact Below.refl _ _ | apply below_alloc | apply pw_below_drewN)⟩
        refine impl_isInstr.ret (Eq.trans ?_ HR.out)
        rw [HNO.out]; simp
    · by_cases hin : 0 ≤ a0_2 ∧ a0_2 ≤ 15
      · have HIN := Lib.hid (show impl_isInstr.fld 11 2 a0_2 0 15 = true by unfold impl_isInstr.fld; rw [if_pos (by decide)]; simpa using hin); have HI2 := Lib.hid hin; clear hin
        go_wp2_with (go_at_call 41; refine (impl_isInstr.yes a0_2 0 15 _ HI2.out).mono ?_; rintro e w' ⟨rfl, m, rfl⟩)
        go_roundw
        case rel => exact ⟨2, _, by omega, rfl, ⟨fun _ => HOK.out.1 (by omega), fun _ => HIN.out, fun h => absurd h (by omega)⟩, rfl⟩
        case measure => simp [intOf]
      · have HNO := Lib.hid (show impl_isInstr.fld 11 2 a0_2 0 15 = false by unfold impl_isInstr.fld; rw [if_pos (by decide)]; simpa using hin); have HI2 := Lib.hid hin; clear hin
        go_wp2_with (go_at_call 41; refine (impl_isInstr.no a0_2 0 15 _ HI2.out).mono ?_; rintro e w' ⟨rfl, m, rfl⟩)
        go_ret
        refine ⟨?_, by repeat (first | exact Below.refl _ _ | apply below_alloc | apply pw_below_drewN)⟩
        refine impl_isInstr.ret (Eq.trans ?_ HR.out)
        rw [HNO.out]; simp
    · by_cases hin : a0_3 = 0
      · have HIN := Lib.hid (show impl_isInstr.fld 11 4 a0_3 0 15 = true by unfold impl_isInstr.fld; rw [if_neg (by decide)]; simpa using hin)
        have z1 : (a0_3 != 0) = false := by rw [hin]; rfl
        have z2 : decide (a0_3 = 0) = true := by simp [hin]
        clear hin
        go_wp2
        go_roundw
        case rel => exact ⟨3, _, by omega, rfl, ⟨fun _ => HOK.out.1 (by omega), fun _ => HOK.out.2.1 (by omega), fun _ => HIN.out⟩, rfl⟩
        case measure => simp [intOf]
      · have HNO := Lib.hid (show impl_isInstr.fld 11 4 a0_3 0 15 = false by unfold impl_isInstr.fld; rw [if_neg (by decide)]; simpa using hin)
        have z1 : (a0_3 != 0) = true := by simpa using hin
        have z2 : decide (a0_3 = 0) = false := by simpa using hin
        clear hin
        go_wp2
        go_ret
        refine ⟨?_, by repeat (first | exact Below.refl _ _ | apply below_alloc | apply pw_below_drewN)⟩
        refine impl_isInstr.ret (Eq.trans ?_ HR.out)
        rw [HNO.out]; simp
    · go_wp2_with (go_at_call 63; refine (impl_isInstr.imm a0_4 _).mono ?_; rintro e w' ⟨rfl, m, rfl⟩)
      go_ret
      refine ⟨?_, by repeat (first | exact Below.refl _ _ | apply below_alloc | apply pw_below_drewN)⟩
      refine impl_isInstr.ret (Eq.trans ?_ HR.out)
      rw [HOK.out.1 (by omega), HOK.out.2.1 (by omega), HOK.out.2.2 (by omega)]
      unfold impl_isInstr.fld; rw [if_pos (by decide)]; simp
set_option maxHeartbeats 8000000 in
set_option maxRecDepth 100000 in
theorem impl_isInstr.nope (a0_0 : Int) (a0_1 : Int) (a0_2 : Int) (a0_3 : Int) (a0_4 : Int) (w : World) (HF : Hid (impl_isInstr.form a0_0 = -1)) :
    Calls Tryd.prog 46 #[.agg #[.int .i64 a0_0, .int .i64 a0_1, .int .i64 a0_2, .int .i64 a0_3, .int .i64 a0_4]] w fun e w' => e = .returned (.bool false) ∧ Below w.heap.size w w' := by
  have hu := Tryd.underlying29
  have HFC := fun W => impl_formOf.calls 8 a0_0 (-1) W (by rw [impl_isInstr.form_eq, HF.out])
  go_enter Tryd.func46, Tryd.ntmps46
  go_wp2_with (go_at_call 62; refine (HFC _).mono ?_; rintro e w' ⟨rfl, m, rfl⟩)
  go_ret
  exact ⟨rfl, by repeat (first | exact Below.refl _ _ | apply below_alloc | apply pw_below_drewN)⟩
theorem impl_isInstr.forms (op : Int) (h : 0 ≤ op ∧ op ≤ 32) : impl_isInstr.form op = 0 ∨ impl_isInstr.form op = 1 ∨ impl_isInstr.form op = 7 ∨ impl_isInstr.form op = 8 ∨ impl_isInstr.form op = 9 ∨ impl_isInstr.form op = 10 ∨ impl_isInstr.form op = 11 := by
  unfold impl_isInstr.form
  repeat' split
  all_goals omega
theorem impl_isInstr.calls (a0_0 : Int) (a0_1 : Int) (a0_2 : Int) (a0_3 : Int) (a0_4 : Int) (r : Bool) (w : World) (h : impl_isInstr.f a0_0 a0_1 a0_2 a0_3 a0_4 = some r) :
    Calls Tryd.prog 46 #[.agg #[.int .i64 a0_0, .int .i64 a0_1, .int .i64 a0_2, .int .i64 a0_3, .int .i64 a0_4]] w fun e w' => e = .returned (.bool r) ∧ Below w.heap.size w w' := by
  have hr : impl_isInstr.ok a0_0 a0_1 a0_2 a0_3 a0_4 = r := Option.some.inj h
  unfold impl_isInstr.ok at hr
  by_cases hop : 0 ≤ a0_0 ∧ a0_0 ≤ 32
  · rw [decide_eq_true hop, Bool.true_and] at hr
    rcases impl_isInstr.forms a0_0 hop with hf | hf | hf | hf | hf | hf | hf <;> rw [hf] at hr
    · exact impl_isInstr.form0 a0_0 a0_1 a0_2 a0_3 a0_4 r w (Lib.hid hf) (Lib.hid hr)
    · exact impl_isInstr.form1 a0_0 a0_1 a0_2 a0_3 a0_4 r w (Lib.hid hf) (Lib.hid hr)
    · exact impl_isInstr.form7 a0_0 a0_1 a0_2 a0_3 a0_4 r w (Lib.hid hf) (Lib.hid hr)
    · exact impl_isInstr.form8 a0_0 a0_1 a0_2 a0_3 a0_4 r w (Lib.hid hf) (Lib.hid hr)
    · exact impl_isInstr.form9 a0_0 a0_1 a0_2 a0_3 a0_4 r w (Lib.hid hf) (Lib.hid hr)
    · exact impl_isInstr.form10 a0_0 a0_1 a0_2 a0_3 a0_4 r w (Lib.hid hf) (Lib.hid hr)
    · exact impl_isInstr.form11 a0_0 a0_1 a0_2 a0_3 a0_4 r w (Lib.hid hf) (Lib.hid hr)
  · rw [decide_eq_false hop] at hr
    simp only [Bool.false_and] at hr
    subst hr
    refine impl_isInstr.nope a0_0 a0_1 a0_2 a0_3 a0_4 w (Lib.hid ?_)
    unfold impl_isInstr.form
    by_cases h1 : a0_0 < 0
    · rw [if_pos h1]
    · rw [if_neg h1, if_pos (by omega)]

end Go.Proofs.YtjoiebnjpipenaaDoor.PFnExactDisassemble

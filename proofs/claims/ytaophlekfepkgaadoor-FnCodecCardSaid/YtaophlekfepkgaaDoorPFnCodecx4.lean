/- Printed by a program out of the translation, with contracts of my own set in. -/
import Derived.Test.YtaophlekfepkgaaDoorPFnCodecx0
import Derived.Test.YtaophlekfepkgaaDoorPFnCodecx2
import Derived.Test.YtaophlekfepkgaaDoorPFnCodecx3
namespace Go.Proofs.YtaophlekfepkgaaDoor.PFnCodec
open Go.RowKit Go.Proofs.YtaophlekfepkgaaDoorW.PrintWords Go.Proofs.YtaophlekfepkgaaDoorW.PrintLast Go.Proofs.YtaophlekfepkgaaDoorW.PrintMore
attribute [local go_sem] max2_int min2_int max_two min_two max_three min_three max_four min_four   -- for this text's walks alone
set_option linter.unusedVariables false
set_option linter.unusedSimpArgs false

/-! ### impl_isInstr: function 26 -/
/-- The form of an op; -1 when it is none. -/
def impl_isInstr.form (op : Int) : Int :=
  if op < 0 then -1 else if 32 < op then -1 else if 1 ≤ op ∧ op ≤ 12 then 7 else if op = 0 ∨ op = 30 ∨ op = 31 then 0 else if op = 14 ∨ op = 22 ∨ op = 28 ∨ op = 29 then 9 else if op = 23 then 10 else if op = 24 then 1 else if op = 32 then 8 else 11
def impl_isInstr.fld (form bit x lo hi : Int) : Bool := if form / bit % 2 = 1 then decide (lo ≤ x ∧ x ≤ hi) else decide (x = 0)
/-- Whether an instruction is ok. -/
def impl_isInstr.ok (op a b c imm : Int) : Bool :=
  decide (0 ≤ op ∧ op ≤ 32) && impl_isInstr.fld (impl_isInstr.form op) 1 a 0 15 && impl_isInstr.fld (impl_isInstr.form op) 2 b 0 15 && impl_isInstr.fld (impl_isInstr.form op) 4 c 0 15 && impl_isInstr.fld (impl_isInstr.form op) 8 imm (-8192) 8191
def impl_isInstr.f (a0_0 : Int) (a0_1 : Int) (a0_2 : Int) (a0_3 : Int) (a0_4 : Int) : Option (Bool) := some (impl_isInstr.ok a0_0 a0_1 a0_2 a0_3 a0_4)
theorem impl_isInstr.form_small : ∀ n : Fin 33, impl_formOf.f 8 (n.val : Int) = some (impl_isInstr.form (n.val : Int)) := by decide +kernel
theorem impl_isInstr.form_eq (op : Int) : impl_formOf.f 8 op = some (impl_isInstr.form op) := by
  by_cases h : 0 ≤ op ∧ op ≤ 32
  · obtain ⟨n, rfl⟩ := Int.eq_ofNat_of_zero_le h.1
    exact impl_isInstr.form_small ⟨n, by omega⟩
  · have e : impl_within.f op 0 32 = some false := by
      unfold impl_within.f
      by_cases h1 : op ≥ 0
      · rw [if_pos h1]; congr 1; simp; omega
      · rw [if_neg h1]
    have e2 : impl_isInstr.form op = -1 := by
      unfold impl_isInstr.form
      by_cases h1 : op < 0
      · rw [if_pos h1]
      · rw [if_neg h1, if_pos (by omega)]
    unfold impl_formOf.f
    rw [e, e2]; rfl
theorem impl_isInstr.within (n lo hi : Int) (w : World) : Calls Tryd.prog 36 #[.int .i64 n, .int .i64 lo, .int .i64 hi] w fun e w' => e = .returned (.bool (decide (lo ≤ n ∧ n ≤ hi))) ∧ Drawn0 w w' := by
  refine impl_within.calls n lo hi (decide (lo ≤ n ∧ n ≤ hi)) w ?_
  unfold impl_within.f
  by_cases h : n ≥ lo
  · rw [if_pos h]; congr 1; simp; omega
  · rw [if_neg h]; congr 1; simp; omega
theorem impl_isInstr.yes (n lo hi : Int) (w : World) (h : lo ≤ n ∧ n ≤ hi) : Calls Tryd.prog 36 #[.int .i64 n, .int .i64 lo, .int .i64 hi] w fun e w' => e = .returned (.bool true) ∧ Drawn0 w w' := by
  have := impl_isInstr.within n lo hi w
  rwa [decide_eq_true h] at this
theorem impl_isInstr.no (n lo hi : Int) (w : World) (h : ¬ (lo ≤ n ∧ n ≤ hi)) : Calls Tryd.prog 36 #[.int .i64 n, .int .i64 lo, .int .i64 hi] w fun e w' => e = .returned (.bool false) ∧ Drawn0 w w' := by
  have := impl_isInstr.within n lo hi w
  rwa [decide_eq_false h] at this
theorem impl_isInstr.imm (n : Int) (w : World) : Calls Tryd.prog 50 #[.int .i64 n] w fun e w' => e = .returned (.bool (decide (-8192 ≤ n ∧ n ≤ 8191))) ∧ Drawn0 w w' := by
  refine impl_isImm.calls n (decide (-8192 ≤ n ∧ n ≤ 8191)) w ?_
  unfold impl_isImm.f impl_within.f
  by_cases h : n ≥ -8192
  · rw [if_pos h]; simp only [Option.bind_some]; congr 1; simp; omega
  · rw [if_neg h]; simp only [Option.bind_some]; congr 1; simp; omega
theorem impl_isInstr.beq (n : Int) : (n == 0) = decide (n = 0) := by rw [Bool.eq_iff_iff]; simp
theorem impl_isInstr.ret {a b : Bool} (h : a = b) : Ending.returned (.bool a) = Ending.returned (.bool b) := by rw [h]

set_option maxHeartbeats 8000000 in
set_option maxRecDepth 100000 in
theorem impl_isInstr.form0 (a0_0 : Int) (a0_1 : Int) (a0_2 : Int) (a0_3 : Int) (a0_4 : Int) (r : Bool) (w : World) (HF : Hid (impl_isInstr.form a0_0 = 0))
    (HR : Hid ((impl_isInstr.fld 0 1 a0_1 0 15 && impl_isInstr.fld 0 2 a0_2 0 15 && impl_isInstr.fld 0 4 a0_3 0 15 && impl_isInstr.fld 0 8 a0_4 (-8192) 8191) = r)) :
    Calls Tryd.prog 26 #[.agg #[.int .i64 a0_0, .int .i64 a0_1, .int .i64 a0_2, .int .i64 a0_3, .int .i64 a0_4]] w fun e w' => e = .returned (.bool r) ∧ Below w.heap.size w w' := by
  have hu := Tryd.underlying25
  have HFC := fun W => impl_formOf.calls 8 a0_0 0 W (by rw [impl_isInstr.form_eq, HF.out])
  have i0 : ∀ w, (Instr.index 71 (.agg #[.int .i64 a0_1, .int .i64 a0_2, .int .i64 a0_3]) (.int .i64 0)).run Tryd.prog w = .ok (.int .i64 a0_1) w := fun _ => by kernel_rfl
  have i1 : ∀ w, (Instr.index 71 (.agg #[.int .i64 a0_1, .int .i64 a0_2, .int .i64 a0_3]) (.int .i64 1)).run Tryd.prog w = .ok (.int .i64 a0_2) w := fun _ => by kernel_rfl
  have i2 : ∀ w, (Instr.index 71 (.agg #[.int .i64 a0_1, .int .i64 a0_2, .int .i64 a0_3]) (.int .i64 2)).run Tryd.prog w = .ok (.int .i64 a0_3) w := fun _ => by kernel_rfl
  have b0 : Go.bits .and .i64 0 1 = 0 := by decide +kernel
  have b8_ : Go.bits .and .i64 0 8 = 0 := by decide +kernel
  go_enter Tryd.func26, Tryd.ntmps26
  go_wp2_with (go_at_call 49; refine (HFC _).mono ?_; rintro e w' ⟨rfl, m, rfl⟩)
  go_loopw [18] (fun i wr => ∃ k n : Nat, k ≤ 3 ∧ i = .int .i64 k ∧ ((0 < k → impl_isInstr.fld 0 1 a0_1 0 15 = true) ∧ (1 < k → impl_isInstr.fld 0 2 a0_2 0 15 = true) ∧ (2 < k → impl_isInstr.fld 0 4 a0_3 0 15 = true)) ∧ wr = (w.alloc (.cells #[.int .i64 a0_0, .int .i64 a0_1, .int .i64 a0_2, .int .i64 a0_3, .int .i64 a0_4] 25)).drewN n) (fun i _ => 3 - (intOf i).toNat)
  case atStart => exact ⟨0, _, by omega, rfl, ⟨fun h => absurd h (by omega), fun h => absurd h (by omega), fun h => absurd h (by omega)⟩, rfl⟩
  case round =>
    obtain ⟨k, n, hk, rfl, hok, rfl⟩ := hrel
    have HOK := Lib.hid hok; clear hok
    rcases (show k = 0 ∨ k = 1 ∨ k = 2 ∨ k = 3 by omega) with rfl | rfl | rfl | rfl
    · by_cases hin : a0_1 = 0
      · have HIN := Lib.hid (show impl_isInstr.fld 0 1 a0_1 0 15 = true by unfold impl_isInstr.fld; rw [if_neg (by decide)]; simpa using hin)
        have z1 : (a0_1 != 0) = false := by rw [hin]; rfl
        have z2 : decide (a0_1 = 0) = true := by simp [hin]
        clear hin
        go_wp2
        go_roundw
        case rel => exact ⟨1, _, by omega, rfl, ⟨fun _ => HIN.out, fun h => absurd h (by omega), fun h => absurd h (by omega)⟩, rfl⟩
        case measure => simp [intOf]
      · have HNO := Lib.hid (show impl_isInstr.fld 0 1 a0_1 0 15 = false by unfold impl_isInstr.fld; rw [if_neg (by decide)]; simpa using hin)
        have z1 : (a0_1 != 0) = true := by simpa using hin
        have z2 : decide (a0_1 = 0) = false := by simpa using hin
        clear hin
        go_wp2
        go_ret
        refine ⟨?_, by repeat (first | exact Below.refl _ _ | apply below_alloc | apply pw_below_drewN)⟩
        refine impl_isInstr.ret (Eq.trans ?_ HR.out)
        rw [HNO.out]; simp
    · by_cases hin : a0_2 = 0
      · have HIN := Lib.hid (show impl_isInstr.fld 0 2 a0_2 0 15 = true by unfold impl_isInstr.fld; rw [if_neg (by decide)]; simpa using hin)
        have z1 : (a0_2 != 0) = false := by rw [hin]; rfl
        have z2 : decide (a0_2 = 0) = true := by simp [hin]
        clear hin
        go_wp2
        go_roundw
        case rel => exact ⟨2, _, by omega, rfl, ⟨fun _ => HOK.out.1 (by omega), fun _ => HIN.out, fun h => absurd h (by omega)⟩, rfl⟩
        case measure => simp [intOf]
      · have HNO := Lib.hid (show impl_isInstr.fld 0 2 a0_2 0 15 = false by unfold impl_isInstr.fld; rw [if_neg (by decide)]; simpa using hin)
        have z1 : (a0_2 != 0) = true := by simpa using hin
        have z2 : decide (a0_2 = 0) = false := by simpa using hin
        clear hin
        go_wp2
        go_ret
        refine ⟨?_, by repeat (first | exact Below.refl _ _ | apply below_alloc | apply pw_below_drewN)⟩
        refine impl_isInstr.ret (Eq.trans ?_ HR.out)
        rw [HNO.out]; simp
    · by_cases hin : a0_3 = 0
      · have HIN := Lib.hid (show impl_isInstr.fld 0 4 a0_3 0 15 = true by unfold impl_isInstr.fld; rw [if_neg (by decide)]; simpa using hin)
        have z1 : (a0_3 != 0) = false := by rw [hin]; rfl
        have z2 : decide (a0_3 = 0) = true := by simp [hin]
        clear hin
        go_wp2
        go_roundw
        case rel => exact ⟨3, _, by omega, rfl, ⟨fun _ => HOK.out.1 (by omega), fun _ => HOK.out.2.1 (by omega), fun _ => HIN.out⟩, rfl⟩
        case measure => simp [intOf]
      · have HNO := Lib.hid (show impl_isInstr.fld 0 4 a0_3 0 15 = false by unfold impl_isInstr.fld; rw [if_neg (by decide)]; simpa using hin)
        have z1 : (a0_3 != 0) = true := by simpa using hin
        have z2 : decide (a0_3 = 0) = false := by simpa using hin
        clear hin
        go_wp2
        go_ret
        refine ⟨?_, by repeat (first | exact Below.refl _ _ | apply below_alloc | apply pw_below_drewN)⟩
        refine impl_isInstr.ret (Eq.trans ?_ HR.out)
        rw [HNO.out]; simp
    · go_wp2
      go_ret
      refine ⟨?_, by repeat (first | exact Below.refl _ _ | apply below_alloc | apply pw_below_drewN)⟩
      refine impl_isInstr.ret (Eq.trans ?_ HR.out)
      rw [HOK.out.1 (by omega), HOK.out.2.1 (by omega), HOK.out.2.2 (by omega)]
      unfold impl_isInstr.fld; rw [if_neg (by decide)]; simp only [Bool.true_and]; exact impl_isInstr.beq _
set_option maxHeartbeats 8000000 in
set_option maxRecDepth 100000 in
theorem impl_isInstr.form1 (a0_0 : Int) (a0_1 : Int) (a0_2 : Int) (a0_3 : Int) (a0_4 : Int) (r : Bool) (w : World) (HF : Hid (impl_isInstr.form a0_0 = 1))
    (HR : Hid ((impl_isInstr.fld 1 1 a0_1 0 15 && impl_isInstr.fld 1 2 a0_2 0 15 && impl_isInstr.fld 1 4 a0_3 0 15 && impl_isInstr.fld 1 8 a0_4 (-8192) 8191) = r)) :
    Calls Tryd.prog 26 #[.agg #[.int .i64 a0_0, .int .i64 a0_1, .int .i64 a0_2, .int .i64 a0_3, .int .i64 a0_4]] w fun e w' => e = .returned (.bool r) ∧ Below w.heap.size w w' := by
  have hu := Tryd.underlying25
  have HFC := fun W => impl_formOf.calls 8 a0_0 1 W (by rw [impl_isInstr.form_eq, HF.out])
  have i0 : ∀ w, (Instr.index 71 (.agg #[.int .i64 a0_1, .int .i64 a0_2, .int .i64 a0_3]) (.int .i64 0)).run Tryd.prog w = .ok (.int .i64 a0_1) w := fun _ => by kernel_rfl
  have i1 : ∀ w, (Instr.index 71 (.agg #[.int .i64 a0_1, .int .i64 a0_2, .int .i64 a0_3]) (.int .i64 1)).run Tryd.prog w = .ok (.int .i64 a0_2) w := fun _ => by kernel_rfl
  have i2 : ∀ w, (Instr.index 71 (.agg #[.int .i64 a0_1, .int .i64 a0_2, .int .i64 a0_3]) (.int .i64 2)).run Tryd.prog w = .ok (.int .i64 a0_3) w := fun _ => by kernel_rfl
  have b0 : Go.bits .and .i64 0 1 = 0 := by decide +kernel
  have b1 : Go.bits .and .i64 1 1 = 1 := by decide +kernel
  have b8_ : Go.bits .and .i64 1 8 = 0 := by decide +kernel
  go_enter Tryd.func26, Tryd.ntmps26
  go_wp2_with (go_at_call 49; refine (HFC _).mono ?_; rintro e w' ⟨rfl, m, rfl⟩)
  go_loopw [18] (fun i wr => ∃ k n : Nat, k ≤ 3 ∧ i = .int .i64 k ∧ ((0 < k → impl_isInstr.fld 1 1 a0_1 0 15 = true) ∧ (1 < k → impl_isInstr.fld 1 2 a0_2 0 15 = true) ∧ (2 < k → impl_isInstr.fld 1 4 a0_3 0 15 = true)) ∧ wr = (w.alloc (.cells #[.int .i64 a0_0, .int .i64 a0_1, .int .i64 a0_2, .int .i64 a0_3, .int .i64 a0_4] 25)).drewN n) (fun i _ => 3 - (intOf i).toNat)
  case atStart => exact ⟨0, _, by omega, rfl, ⟨fun h => absurd h (by omega), fun h => absurd h (by omega), fun h => absurd h (by omega)⟩, rfl⟩
  case round =>
    obtain ⟨k, n, hk, rfl, hok, rfl⟩ := hrel
    have HOK := Lib.hid hok; clear hok
    rcases (show k = 0 ∨ k = 1 ∨ k = 2 ∨ k = 3 by omega) with rfl | rfl | rfl | rfl
    · by_cases hin : 0 ≤ a0_1 ∧ a0_1 ≤ 15
      · have HIN := Lib.hid (show impl_isInstr.fld 1 1 a0_1 0 15 = true by unfold impl_isInstr.fld; rw [if_pos (by decide)]; simpa using hin); have HI2 := Lib.hid hin; clear hin
        go_wp2_with (go_at_call 36; refine (impl_isInstr.yes a0_1 0 15 _ HI2.out).mono ?_; rintro e w' ⟨rfl, m, rfl⟩)
        go_roundw
        case rel => exact ⟨1, _, by omega, rfl, ⟨fun _ => HIN.out, fun h => absurd h (by omega), fun h => absurd h (by omega)⟩, rfl⟩
        case measure => simp [intOf]
      · have HNO := Lib.hid (show impl_isInstr.fld 1 1 a0_1 0 15 = false by unfold impl_isInstr.fld; rw [if_pos (by decide)]; simpa using hin); have HI2 := Lib.hid hin; clear hin
        go_wp2_with (go_at_call 36; refine (impl_isInstr.no a0_1 0 15 _ HI2.out).mono ?_; rintro e w' ⟨rfl, m, rfl⟩)
        go_ret
        refine ⟨?_, by repeat (first | exact Below.refl _ _ | apply below_alloc | apply pw_below_drewN)⟩
        refine impl_isInstr.ret (Eq.trans ?_ HR.out)
        rw [HNO.out]; simp
    · by_cases hin : a0_2 = 0
      · have HIN := Lib.hid (show impl_isInstr.fld 1 2 a0_2 0 15 = true by unfold impl_isInstr.fld; rw [if_neg (by decide)]; simpa using hin)
        have z1 : (a0_2 != 0) = false := by rw [hin]; rfl
        have z2 : decide (a0_2 = 0) = true := by simp [hin]
        clear hin
        go_wp2
        go_roundw
        case rel => exact ⟨2, _, by omega, rfl, ⟨fun _ => HOK.out.1 (by omega), fun _ => HIN.out, fun h => absurd h (by omega)⟩, rfl⟩
        case measure => simp [intOf]
      · have HNO := Lib.hid (show impl_isInstr.fld 1 2 a0_2 0 15 = false by unfold impl_isInstr.fld; rw [if_neg (by decide)]; simpa using hin)
        have z1 : (a0_2 != 0) = true := by simpa using hin
        have z2 : decide (a0_2 = 0) = false := by simpa using hin
        clear hin
        go_wp2
        go_ret
        refine ⟨?_, by repeat (first | exact Below.refl _ _ | apply below_alloc | apply pw_below_drewN)⟩
        refine impl_isInstr.ret (Eq.trans ?_ HR.out)
        rw [HNO.out]; simp
    · by_cases hin : a0_3 = 0
      · have HIN := Lib.hid (show impl_isInstr.fld 1 4 a0_3 0 15 = true by unfold impl_isInstr.fld; rw [if_neg (by decide)]; simpa using hin)
        have z1 : (a0_3 != 0) = false := by rw [hin]; rfl
        have z2 : decide (a0_3 = 0) = true := by simp [hin]
        clear hin
        go_wp2
        go_roundw
        case rel => exact ⟨3, _, by omega, rfl, ⟨fun _ => HOK.out.1 (by omega), fun _ => HOK.out.2.1 (by omega), fun _ => HIN.out⟩, rfl⟩
        case measure => simp [intOf]
      · have HNO := Lib.hid (show impl_isInstr.fld 1 4 a0_3 0 15 = false by unfold impl_isInstr.fld; rw [if_neg (by decide)]; simpa using hin)
        have z1 : (a0_3 != 0) = true := by simpa using hin
        have z2 : decide (a0_3 = 0) = false := by simpa using hin
        clear hin
        go_wp2
        go_ret
        refine ⟨?_, by repeat (first | exact Below.refl _ _ | apply below_alloc | apply pw_below_drewN)⟩
        refine impl_isInstr.ret (Eq.trans ?_ HR.out)
        rw [HNO.out]; simp
    · go_wp2
      go_ret
      refine ⟨?_, by repeat (first | exact Below.refl _ _ | apply below_alloc | apply pw_below_drewN)⟩
      refine impl_isInstr.ret (Eq.trans ?_ HR.out)
      rw [HOK.out.1 (by omega), HOK.out.2.1 (by omega), HOK.out.2.2 (by omega)]
      unfold impl_isInstr.fld; rw [if_neg (by decide)]; simp only [Bool.true_and]; exact impl_isInstr.beq _
set_option maxHeartbeats 8000000 in
set_option maxRecDepth 100000 in
theorem impl_isInstr.form7 (a0_0 : Int) (a0_1 : Int) (a0_2 : Int) (a0_3 : Int) (a0_4 : Int) (r : Bool) (w : World) (HF : Hid (impl_isInstr.form a0_0 = 7))
    (HR : Hid ((impl_isInstr.fld 7 1 a0_1 0 15 && impl_isInstr.fld 7 2 a0_2 0 15 && impl_isInstr.fld 7 4 a0_3 0 15 && impl_isInstr.fld 7 8 a0_4 (-8192) 8191) = r)) :
    Calls Tryd.prog 26 #[.agg #[.int .i64 a0_0, .int .i64 a0_1, .int .i64 a0_2, .int .i64 a0_3, .int .i64 a0_4]] w fun e w' => e = .returned (.bool r) ∧ Below w.heap.size w w' := by
  have hu := Tryd.underlying25
  have HFC := fun W => impl_formOf.calls 8 a0_0 7 W (by rw [impl_isInstr.form_eq, HF.out])
  have i0 : ∀ w, (Instr.index 71 (.agg #[.int .i64 a0_1, .int .i64 a0_2, .int .i64 a0_3]) (.int .i64 0)).run Tryd.prog w = .ok (.int .i64 a0_1) w := fun _ => by kernel_rfl
  have i1 : ∀ w, (Instr.index 71 (.agg #[.int .i64 a0_1, .int .i64 a0_2, .int .i64 a0_3]) (.int .i64 1)).run Tryd.prog w = .ok (.int .i64 a0_2) w := fun _ => by kernel_rfl
  have i2 : ∀ w, (Instr.index 71 (.agg #[.int .i64 a0_1, .int .i64 a0_2, .int .i64 a0_3]) (.int .i64 2)).run Tryd.prog w = .ok (.int .i64 a0_3) w := fun _ => by kernel_rfl
  have b1 : Go.bits .and .i64 1 1 = 1 := by decide +kernel
  have b3 : Go.bits .and .i64 3 1 = 1 := by decide +kernel
  have b7 : Go.bits .and .i64 7 1 = 1 := by decide +kernel
  have b8_ : Go.bits .and .i64 7 8 = 0 := by decide +kernel
  go_enter Tryd.func26, Tryd.ntmps26
  go_wp2_with (go_at_call 49; refine (HFC _).mono ?_; rintro e w' ⟨rfl, m, rfl⟩)
  go_loopw [18] (fun i wr => ∃ k n : Nat, k ≤ 3 ∧ i = .int .i64 k ∧ ((0 < k → impl_isInstr.fld 7 1 a0_1 0 15 = true) ∧ (1 < k → impl_isInstr.fld 7 2 a0_2 0 15 = true) ∧ (2 < k → impl_isInstr.fld 7 4 a0_3 0 15 = true)) ∧ wr = (w.alloc (.cells #[.int .i64 a0_0, .int .i64 a0_1, .int .i64 a0_2, .int .i64 a0_3, .int .i64 a0_4] 25)).drewN n) (fun i _ => 3 - (intOf i).toNat)
  case atStart => exact ⟨0, _, by omega, rfl, ⟨fun h => absurd h (by omega), fun h => absurd h (by omega), fun h => absurd h (by omega)⟩, rfl⟩
  case round =>
    obtain ⟨k, n, hk, rfl, hok, rfl⟩ := hrel
    have HOK := Lib.hid hok; clear hok
    rcases (show k = 0 ∨ k = 1 ∨ k = 2 ∨ k = 3 by omega) with rfl | rfl | rfl | rfl
    · by_cases hin : 0 ≤ a0_1 ∧ a0_1 ≤ 15
      · have HIN := Lib.hid (show impl_isInstr.fld 7 1 a0_1 0 15 = true by unfold impl_isInstr.fld; rw [if_pos (by decide)]; simpa using hin); have HI2 := Lib.hid hin; clear hin
        go_wp2_with (go_at_call 36; refine (impl_isInstr.yes a0_1 0 15 _ HI2.out).mono ?_; rintro e w' ⟨rfl, m, rfl⟩)
        go_roundw
        case rel => exact ⟨1, _, by omega, rfl, ⟨fun _ => HIN.out, fun h => absurd h (by omega), fun h => absurd h (by omega)⟩, rfl⟩
        case measure => simp [intOf]
      · have HNO := Lib.hid (show impl_isInstr.fld 7 1 a0_1 0 15 = false by unfold impl_isInstr.fld; rw [if_pos (by decide)]; simpa using hin); have HI2 := Lib.hid hin; clear hin
        go_wp2_with (go_at_call 36; refine (impl_isInstr.no a0_1 0 15 _ HI2.out).mono ?_; rintro e w' ⟨rfl, m, rfl⟩)
        go_ret
        refine ⟨?_, by repeat (first | exact Below.refl _ _ | apply below_alloc | apply pw_below_drewN)⟩
        refine impl_isInstr.ret (Eq.trans ?_ HR.out)
        rw [HNO.out]; simp
    · by_cases hin : 0 ≤ a0_2 ∧ a0_2 ≤ 15
      · have HIN := Lib.hid (show impl_isInstr.fld 7 2 a0_2 0 15 = true by unfold impl_isInstr.fld; rw [if_pos (by decide)]; simpa using hin); have HI2 := Lib.hid hin; clear hin
        go_wp2_with (go_at_call 36; refine (impl_isInstr.yes a0_2 0 15 _ HI2.out).mono ?_; rintro e w' ⟨rfl, m, rfl⟩)
        go_roundw
        case rel => exact ⟨2, _, by omega, rfl, ⟨fun _ => HOK.out.1 (by omega), fun _ => HIN.out, fun h => absurd h (by omega)⟩, rfl⟩
        case measure => simp [intOf]
      · have HNO := Lib.hid (show impl_isInstr.fld 7 2 a0_2 0 15 = false by unfold impl_isInstr.fld; rw [if_pos (by decide)]; simpa using hin); have HI2 := Lib.hid hin; clear hin
        go_wp2_with (go_at_call 36; refine (impl_isInstr.no a0_2 0 15 _ HI2.out).mono ?_; rintro e w' ⟨rfl, m, rfl⟩)
        go_ret
        refine ⟨?_, by repeat (first | exact Below.refl _ _ | apply below_alloc | apply pw_below_drewN)⟩
        refine impl_isInstr.ret (Eq.trans ?_ HR.out)
        rw [HNO.out]; simp
    · by_cases hin : 0 ≤ a0_3 ∧ a0_3 ≤ 15
      · have HIN := Lib.hid (show impl_isInstr.fld 7 4 a0_3 0 15 = true by unfold impl_isInstr.fld; rw [if_pos (by decide)]; simpa using hin); have HI2 := Lib.hid hin; clear hin
        go_wp2_with (go_at_call 36; refine (impl_isInstr.yes a0_3 0 15 _ HI2.out).mono ?_; rintro e w' ⟨rfl, m, rfl⟩)
        go_roundw
        case rel => exact ⟨3, _, by omega, rfl, ⟨fun _ => HOK.out.1 (by omega), fun _ => HOK.out.2.1 (by omega), fun _ => HIN.out⟩, rfl⟩
        case measure => simp [intOf]
      · have HNO := Lib.hid (show impl_isInstr.fld 7 4 a0_3 0 15 = false by unfold impl_isInstr.fld; rw [if_pos (by decide)]; simpa using hin); have HI2 := Lib.hid hin; clear hin
        go_wp2_with (go_at_call 36; refine (impl_isInstr.no a0_3 0 15 _ HI2.out).mono ?_; rintro e w' ⟨rfl, m, rfl⟩)
        go_ret
        refine ⟨?_, by repeat (first | exact Below.refl _ _ | apply below_alloc | apply pw_below_drewN)⟩
        refine impl_isInstr.ret (Eq.trans ?_ HR.out)
        rw [HNO.out]; simp
    · go_wp2
      go_ret
      refine ⟨?_, by repeat (first | exact Below.refl _ _ | apply below_alloc | apply pw_below_drewN)⟩
      refine impl_isInstr.ret (Eq.trans ?_ HR.out)
      rw [HOK.out.1 (by omega), HOK.out.2.1 (by omega), HOK.out.2.2 (by omega)]
      unfold impl_isInstr.fld; rw [if_neg (by decide)]; simp only [Bool.true_and]; exact impl_isInstr.beq _
set_option maxHeartbeats 8000000 in
set_option maxRecDepth 100000 in
theorem impl_isInstr.form8 (a0_0 : Int) (a0_1 : Int) (a0_2 : Int) (a0_3 : Int) (a0_4 : Int) (r : Bool) (w : World) (HF : Hid (impl_isInstr.form a0_0 = 8))
    (HR : Hid ((impl_isInstr.fld 8 1 a0_1 0 15 && impl_isInstr.fld 8 2 a0_2 0 15 && impl_isInstr.fld 8 4 a0_3 0 15 && impl_isInstr.fld 8 8 a0_4 (-8192) 8191) = r)) :
    Calls Tryd.prog 26 #[.agg #[.int .i64 a0_0, .int .i64 a0_1, .int .i64 a0_2, .int .i64 a0_3, .int .i64 a0_4]] w fun e w' => e = .returned (.bool r) ∧ Below w.heap.size w w' := by
  have hu := Tryd.underlying25
  have HFC := fun W => impl_formOf.calls 8 a0_0 8 W (by rw [impl_isInstr.form_eq, HF.out])
  have i0 : ∀ w, (Instr.index 71 (.agg #[.int .i64 a0_1, .int .i64 a0_2, .int .i64 a0_3]) (.int .i64 0)).run Tryd.prog w = .ok (.int .i64 a0_1) w := fun _ => by kernel_rfl
  have i1 : ∀ w, (Instr.index 71 (.agg #[.int .i64 a0_1, .int .i64 a0_2, .int .i64 a0_3]) (.int .i64 1)).run Tryd.prog w = .ok (.int .i64 a0_2) w := fun _ => by kernel_rfl
  have i2 : ∀ w, (Instr.index 71 (.agg #[.int .i64 a0_1, .int .i64 a0_2, .int .i64 a0_3]) (.int .i64 2)).run Tryd.prog w = .ok (.int .i64 a0_3) w := fun _ => by kernel_rfl
  have b2 : Go.bits .and .i64 2 1 = 0 := by decide +kernel
  have b4 : Go.bits .and .i64 4 1 = 0 := by decide +kernel
  have b8 : Go.bits .and .i64 8 1 = 0 := by decide +kernel
  have b8_ : Go.bits .and .i64 8 8 = 8 := by decide +kernel
  go_enter Tryd.func26, Tryd.ntmps26
  go_wp2_with (go_at_call 49; refine (HFC _).mono ?_; rintro e w' ⟨rfl, m, rfl⟩)
  go_loopw [18] (fun i wr => ∃ k n : Nat, k ≤ 3 ∧ i = .int .i64 k ∧ ((0 < k → impl_isInstr.fld 8 1 a0_1 0 15 = true) ∧ (1 < k → impl_isInstr.fld 8 2 a0_2 0 15 = true) ∧ (2 < k → impl_isInstr.fld 8 4 a0_3 0 15 = true)) ∧ wr = (w.alloc (.cells #[.int .i64 a0_0, .int .i64 a0_1, .int .i64 a0_2, .int .i64 a0_3, .int .i64 a0_4] 25)).drewN n) (fun i _ => 3 - (intOf i).toNat)
  case atStart => exact ⟨0, _, by omega, rfl, ⟨fun h => absurd h (by omega), fun h => absurd h (by omega), fun h => absurd h (by omega)⟩, rfl⟩
  case round =>
    obtain ⟨k, n, hk, rfl, hok, rfl⟩ := hrel
    have HOK := Lib.hid hok; clear hok
    rcases (show k = 0 ∨ k = 1 ∨ k = 2 ∨ k = 3 by omega) with rfl | rfl | rfl | rfl
    · by_cases hin : a0_1 = 0
      · have HIN := Lib.hid (show impl_isInstr.fld 8 1 a0_1 0 15 = true by unfold impl_isInstr.fld; rw [if_neg (by decide)]; simpa using hin)
        have z1 : (a0_1 != 0) = false := by rw [hin]; rfl
        have z2 : decide (a0_1 = 0) = true := by simp [hin]
        clear hin
        go_wp2
        go_roundw
        case rel => exact ⟨1, _, by omega, rfl, ⟨fun _ => HIN.out, fun h => absurd h (by omega), fun h => absurd h (by omega)⟩, rfl⟩
        case measure => simp [intOf]
      · have HNO := Lib.hid (show impl_isInstr.fld 8 1 a0_1 0 15 = false by unfold impl_isInstr.fld; rw [if_neg (by decide)]; simpa using hin)
        have z1 : (a0_1 != 0) = true := by simpa using hin
        have z2 : decide (a0_1 = 0) = false := by simpa using hin
        clear hin
        go_wp2
        go_ret
        refine ⟨?_, by repeat (first | exact Below.refl _ _ | apply below_alloc | apply pw_below_drewN)⟩
        refine impl_isInstr.ret (Eq.trans ?_ HR.out)
        rw [HNO.out]; simp
    · by_cases hin : a0_2 = 0
      · have HIN := Lib.hid (show impl_isInstr.fld 8 2 a0_2 0 15 = true by unfold impl_isInstr.fld; rw [if_neg (by decide)]; simpa using hin)
        have z1 : (a0_2 != 0) = false := by rw [hin]; rfl
        have z2 : decide (a0_2 = 0) = true := by simp [hin]
        clear hin
        go_wp2
        go_roundw
        case rel => exact ⟨2, _, by omega, rfl, ⟨fun _ => HOK.out.1 (by omega), fun _ => HIN.out, fun h => absurd h (by omega)⟩, rfl⟩
        case measure => simp [intOf]
      · have HNO := Lib.hid (show impl_isInstr.fld 8 2 a0_2 0 15 = false by unfold impl_isInstr.fld; rw [if_neg (by decide)]; simpa using hin)
        have z1 : (a0_2 != 0) = true := by simpa using hin
        have z2 : decide (a0_2 = 0) = false := by simpa using hin
        clear hin
        go_wp2
        go_ret
        refine ⟨?_, by repeat (first | exact Below.refl _ _ | apply below_alloc | apply pw_below_drewN)⟩
        refine impl_isInstr.ret (Eq.trans ?_ HR.out)
        rw [HNO.out]; simp
    · by_cases hin : a0_3 = 0
      · have HIN := Lib.hid (show impl_isInstr.fld 8 4 a0_3 0 15 = true by unfold impl_isInstr.fld; rw [if_neg (by decide)]; simpa using hin)
        have z1 : (a0_3 != 0) = false := by rw [hin]; rfl
        have z2 : decide (a0_3 = 0) = true := by simp [hin]
        clear hin
        go_wp2
        go_roundw
        case rel => exact ⟨3, _, by omega, rfl, ⟨fun _ => HOK.out.1 (by omega), fun _ => HOK.out.2.1 (by omega), fun _ => HIN.out⟩, rfl⟩
        case measure => simp [intOf]
      · have HNO := Lib.hid (show impl_isInstr.fld 8 4 a0_3 0 15 = false by unfold impl_isInstr.fld; rw [if_neg (by decide)]; simpa using hin)
        have z1 : (a0_3 != 0) = true := by simpa using hin
        have z2 : decide (a0_3 = 0) = false := by simpa using hin
        clear hin
        go_wp2
        go_ret
        refine ⟨?_, by repeat (first | exact Below.refl _ _ | apply below_alloc | apply pw_below_drewN)⟩
        refine impl_isInstr.ret (Eq.trans ?_ HR.out)
        rw [HNO.out]; simp
    · go_wp2_with (go_at_call 50; refine (impl_isInstr.imm a0_4 _).mono ?_; rintro e w' ⟨rfl, m, rfl⟩)
      go_ret
      refine ⟨?_, by repeat (first | exact Below.refl _ _ | apply below_alloc | apply pw_below_drewN)⟩
      refine impl_isInstr.ret (Eq.trans ?_ HR.out)
      rw [HOK.out.1 (by omega), HOK.out.2.1 (by omega), HOK.out.2.2 (by omega)]
      unfold impl_isInstr.fld; rw [if_pos (by decide)]; simp
set_option maxHeartbeats 8000000 in
set_option maxRecDepth 100000 in
theorem impl_isInstr.form9 (a0_0 : Int) (a0_1 : Int) (a0_2 : Int) (a0_3 : Int) (a0_4 : Int) (r : Bool) (w : World) (HF : Hid (impl_isInstr.form a0_0 = 9))
    (HR : Hid ((impl_isInstr.fld 9 1 a0_1 0 15 && impl_isInstr.fld 9 2 a0_2 0 15 && impl_isInstr.fld 9 4 a0_3 0 15 && impl_isInstr.fld 9 8 a0_4 (-8192) 8191) = r)) :
    Calls Tryd.prog 26 #[.agg #[.int .i64 a0_0, .int .i64 a0_1, .int .i64 a0_2, .int .i64 a0_3, .int .i64 a0_4]] w fun e w' => e = .returned (.bool r) ∧ Below w.heap.size w w' := by
  have hu := Tryd.underlying25
  have HFC := fun W => impl_formOf.calls 8 a0_0 9 W (by rw [impl_isInstr.form_eq, HF.out])
  have i0 : ∀ w, (Instr.index 71 (.agg #[.int .i64 a0_1, .int .i64 a0_2, .int .i64 a0_3]) (.int .i64 0)).run Tryd.prog w = .ok (.int .i64 a0_1) w := fun _ => by kernel_rfl
  have i1 : ∀ w, (Instr.index 71 (.agg #[.int .i64 a0_1, .int .i64 a0_2, .int .i64 a0_3]) (.int .i64 1)).run Tryd.prog w = .ok (.int .i64 a0_2) w := fun _ => by kernel_rfl
  have i2 : ∀ w, (Instr.index 71 (.agg #[.int .i64 a0_1, .int .i64 a0_2, .int .i64 a0_3]) (.int .i64 2)).run Tryd.prog w = .ok (.int .i64 a0_3) w := fun _ => by kernel_rfl
  have b2 : Go.bits .and .i64 2 1 = 0 := by decide +kernel
  have b4 : Go.bits .and .i64 4 1 = 0 := by decide +kernel
  have b9 : Go.bits .and .i64 9 1 = 1 := by decide +kernel
  have b8_ : Go.bits .and .i64 9 8 = 8 := by decide +kernel
  go_enter Tryd.func26, Tryd.ntmps26
  go_wp2_with (go_at_call 49; refine (HFC _).mono ?_; rintro e w' ⟨rfl, m, rfl⟩)
  go_loopw [18] (fun i wr => ∃ k n : Nat, k ≤ 3 ∧ i = .int .i64 k ∧ ((0 < k → impl_isInstr.fld 9 1 a0_1 0 15 = true) ∧ (1 < k → impl_isInstr.fld 9 2 a0_2 0 15 = true) ∧ (2 < k → impl_isInstr.fld 9 4 a0_3 0 15 = true)) ∧ wr = (w.alloc (.cells #[.int .i64 a0_0, .int .i64 a0_1, .int .i64 a0_2, .int .i64 a0_3, .int .i64 a0_4] 25)).drewN n) (fun i _ => 3 - (intOf i).toNat)
  case atStart => exact ⟨0, _, by omega, rfl, ⟨fun h => absurd h (by omega), fun h => absurd h (by omega), fun h => absurd h (by omega)⟩, rfl⟩
  case round =>
    obtain ⟨k, n, hk, rfl, hok, rfl⟩ := hrel
    have HOK := Lib.hid hok; clear hok
    rcases (show k = 0 ∨ k = 1 ∨ k = 2 ∨ k = 3 by omega) with rfl | rfl | rfl | rfl
    · by_cases hin : 0 ≤ a0_1 ∧ a0_1 ≤ 15
      · have HIN := Lib.hid (show impl_isInstr.fld 9 1 a0_1 0 15 = true by unfold impl_isInstr.fld; rw [if_pos (by decide)]; simpa using hin); have HI2 := Lib.hid hin; clear hin
        go_wp2_with (go_at_call 36; refine (impl_isInstr.yes a0_1 0 15 _ HI2.out).mono ?_; rintro e w' ⟨rfl, m, rfl⟩)
        go_roundw
        case rel => exact ⟨1, _, by omega, rfl, ⟨fun _ => HIN.out, fun h => absurd h (by omega), fun h => absurd h (by omega)⟩, rfl⟩
        case measure => simp [intOf]
      · have HNO := Lib.hid (show impl_isInstr.fld 9 1 a0_1 0 15 = false by unfold impl_isInstr.fld; rw [if_pos (by decide)]; simpa using hin); have HI2 := Lib.hid hin; clear hin
        go_wp2_with (go_at_call 36; refine (impl_isInstr.no a0_1 0 15 _ HI2.out).mono ?_; rintro e w' ⟨rfl, m, rfl⟩)
        go_ret
        refine ⟨?_, by repeat (first | exact Below.refl _ _ | apply below_alloc | apply pw_below_drewN)⟩
        refine impl_isInstr.ret (Eq.trans ?_ HR.out)
        rw [HNO.out]; simp
    · by_cases hin : a0_2 = 0
      · have HIN := Lib.hid (show impl_isInstr.fld 9 2 a0_2 0 15 = true by unfold impl_isInstr.fld; rw [if_neg (by decide)]; simpa using hin)
        have z1 : (a0_2 != 0) = false := by rw [hin]; rfl
        have z2 : decide (a0_2 = 0) = true := by simp [hin]
        clear hin
        go_wp2
        go_roundw
        case rel => exact ⟨2, _, by omega, rfl, ⟨fun _ => HOK.out.1 (by omega), fun _ => HIN.out, fun h => absurd h (by omega)⟩, rfl⟩
        case measure => simp [intOf]
      · have HNO := Lib.hid (show impl_isInstr.fld 9 2 a0_2 0 15 = false by unfold impl_isInstr.fld; rw [if_neg (by decide)]; simpa using hin)
        have z1 : (a0_2 != 0) = true := by simpa using hin
        have z2 : decide (a0_2 = 0) = false := by simpa using hin
        clear hin
        go_wp2
        go_ret
        refine ⟨?_, by repeat (first | exact Below.refl _ _ | apply below_alloc | apply pw_below_drewN)⟩
        refine impl_isInstr.ret (Eq.trans ?_ HR.out)
        rw [HNO.out]; simp
    · by_cases hin : a0_3 = 0
      · have HIN := Lib.hid (show impl_isInstr.fld 9 4 a0_3 0 15 = true by unfold impl_isInstr.fld; rw [if_neg (by decide)]; simpa using hin)
        have z1 : (a0_3 != 0) = false := by rw [hin]; rfl
        have z2 : decide (a0_3 = 0) = true := by simp [hin]
        clear hin
        go_wp2
        go_roundw
        case rel => exact ⟨3, _, by omega, rfl, ⟨fun _ => HOK.out.1 (by omega), fun _ => HOK.out.2.1 (by omega), fun _ => HIN.out⟩, rfl⟩
        case measure => simp [intOf]
      · have HNO := Lib.hid (show impl_isInstr.fld 9 4 a0_3 0 15 = false by unfold impl_isInstr.fld; rw [if_neg (by decide)]; simpa using hin)
        have z1 : (a0_3 != 0) = true := by simpa using hin
        have z2 : decide (a0_3 = 0) = false := by simpa using hin
        clear hin
        go_wp2
        go_ret
        refine ⟨?_, by repeat (first | exact Below.refl _ _ | apply below_alloc | apply pw_below_drewN)⟩
        refine impl_isInstr.ret (Eq.trans ?_ HR.out)
        rw [HNO.out]; simp
    · go_wp2_with (go_at_call 50; refine (impl_isInstr.imm a0_4 _).mono ?_; rintro e w' ⟨rfl, m, rfl⟩)
      go_ret
      refine ⟨?_, by repeat (first | exact Below.refl _ _ | apply below_alloc | apply pw_below_drewN)⟩
      refine impl_isInstr.ret (Eq.trans ?_ HR.out)
      rw [HOK.out.1 (by omega), HOK.out.2.1 (by omega), HOK.out.2.2 (by omega)]
      unfold impl_isInstr.fld; rw [if_pos (by decide)]; simp
set_option maxHeartbeats 8000000 in
set_option maxRecDepth 100000 in
theorem impl_isInstr.form10 (a0_0 : Int) (a0_1 : Int) (a0_2 : Int) (a0_3 : Int) (a0_4 : Int) (r : Bool) (w : World) (HF : Hid (impl_isInstr.form a0_0 = 10))
    (HR : Hid ((impl_isInstr.fld 10 1 a0_1 0 15 && impl_isInstr.fld 10 2 a0_2 0 15 && impl_isInstr.fld 10 4 a0_3 0 15 && impl_isInstr.fld 10 8 a0_4 (-8192) 8191) = r)) :
    Calls Tryd.prog 26 #[.agg #[.int .i64 a0_0, .int .i64 a0_1, .int .i64 a0_2, .int .i64 a0_3, .int .i64 a0_4]] w fun e w' => e = .returned (.bool r) ∧ Below w.heap.size w w' := by
  have hu := Tryd.underlying25
  have HFC := fun W => impl_formOf.calls 8 a0_0 10 W (by rw [impl_isInstr.form_eq, HF.out])
  have i0 : ∀ w, (Instr.index 71 (.agg #[.int .i64 a0_1, .int .i64 a0_2, .int .i64 a0_3]) (.int .i64 0)).run Tryd.prog w = .ok (.int .i64 a0_1) w := fun _ => by kernel_rfl
  have i1 : ∀ w, (Instr.index 71 (.agg #[.int .i64 a0_1, .int .i64 a0_2, .int .i64 a0_3]) (.int .i64 1)).run Tryd.prog w = .ok (.int .i64 a0_2) w := fun _ => by kernel_rfl
  have i2 : ∀ w, (Instr.index 71 (.agg #[.int .i64 a0_1, .int .i64 a0_2, .int .i64 a0_3]) (.int .i64 2)).run Tryd.prog w = .ok (.int .i64 a0_3) w := fun _ => by kernel_rfl
  have b2 : Go.bits .and .i64 2 1 = 0 := by decide +kernel
  have b5 : Go.bits .and .i64 5 1 = 1 := by decide +kernel
  have b10 : Go.bits .and .i64 10 1 = 0 := by decide +kernel
  have b8_ : Go.bits .and .i64 10 8 = 8 := by decide +kernel
  go_enter Tryd.func26, Tryd.ntmps26
  go_wp2_with (go_at_call 49; refine (HFC _).mono ?_; rintro e w' ⟨rfl, m, rfl⟩)
  go_loopw [18] (fun i wr => ∃ k n : Nat, k ≤ 3 ∧ i = .int .i64 k ∧ ((0 < k → impl_isInstr.fld 10 1 a0_1 0 15 = true) ∧ (1 < k → impl_isInstr.fld 10 2 a0_2 0 15 = true) ∧ (2 < k → impl_isInstr.fld 10 4 a0_3 0 15 = true)) ∧ wr = (w.alloc (.cells #[.int .i64 a0_0, .int .i64 a0_1, .int .i64 a0_2, .int .i64 a0_3, .int .i64 a0_4] 25)).drewN n) (fun i _ => 3 - (intOf i).toNat)
  case atStart => exact ⟨0, _, by omega, rfl, ⟨fun h => absurd h (by omega), fun h => absurd h (by omega), fun h => absurd h (by omega)⟩, rfl⟩
  case round =>
    obtain ⟨k, n, hk, rfl, hok, rfl⟩ := hrel
    have HOK := Lib.hid hok; clear hok
    rcases (show k = 0 ∨ k = 1 ∨ k = 2 ∨ k = 3 by omega) with rfl | rfl | rfl | rfl
    · by_cases hin : a0_1 = 0
      · have HIN := Lib.hid (show impl_isInstr.fld 10 1 a0_1 0 15 = true by unfold impl_isInstr.fld; rw [if_neg (by decide)]; simpa using hin)
        have z1 : (a0_1 != 0) = false := by rw [hin]; rfl
        have z2 : decide (a0_1 = 0) = true := by simp [hin]
        clear hin
        go_wp2
        go_roundw
        case rel => exact ⟨1, _, by omega, rfl, ⟨fun _ => HIN.out, fun h => absurd h (by omega), fun h => absurd h (by omega)⟩, rfl⟩
        case measure => simp [intOf]
      · have HNO := Lib.hid (show impl_isInstr.fld 10 1 a0_1 0 15 = false by unfold impl_isInstr.fld; rw [if_neg (by decide)]; simpa using hin)
        have z1 : (a0_1 != 0) = true := by simpa using hin
        have z2 : decide (a0_1 = 0) = false := by simpa using hin
        clear hin
        go_wp2
        go_ret
        refine ⟨?_, by repeat (first | exact Below.refl _ _ | apply below_alloc | apply pw_below_drewN)⟩
        refine impl_isInstr.ret (Eq.trans ?_ HR.out)
        rw [HNO.out]; simp
    · by_cases hin : 0 ≤ a0_2 ∧ a0_2 ≤ 15
      · have HIN := Lib.hid (show impl_isInstr.fld 10 2 a0_2 0 15 = true by unfold impl_isInstr.fld; rw [if_pos (by decide)]; simpa using hin); have HI2 := Lib.hid hin; clear hin
        go_wp2_with (go_at_call 36; refine (impl_isInstr.yes a0_2 0 15 _ HI2.out).mono ?_; rintro e w' ⟨rfl, m, rfl⟩)
        go_roundw
        case rel => exact ⟨2, _, by omega, rfl, ⟨fun _ => HOK.out.1 (by omega), fun _ => HIN.out, fun h => absurd h (by omega)⟩, rfl⟩
        case measure => simp [intOf]
      · have HNO := Lib.hid (show impl_isInstr.fld 10 2 a0_2 0 15 = false by unfold impl_isInstr.fld; rw [if_pos (by decide)]; simpa using hin); have HI2 := Lib.hid hin; clear hin
        go_wp2_with (go_at_call 36; refine (impl_isInstr.no a0_2 0 15 _ HI2.out).mono ?_; rintro e w' ⟨rfl, m, rfl⟩)
        go_ret
        refine ⟨?_, by repeat (first | exact Below.refl _ _ | apply below_alloc | apply pw_below_drewN)⟩
        refine impl_isInstr.ret (Eq.trans ?_ HR.out)
        rw [HNO.out]; simp
    · by_cases hin : a0_3 = 0
      · have HIN := Lib.hid (show impl_isInstr.fld 10 4 a0_3 0 15 = true by unfold impl_isInstr.fld; rw [if_neg (by decide)]; simpa using hin)
        have z1 : (a0_3 != 0) = false := by rw [hin]; rfl
        have z2 : decide (a0_3 = 0) = true := by simp [hin]
        clear hin
        go_wp2
        go_roundw
        case rel => exact ⟨3, _, by omega, rfl, ⟨fun _ => HOK.out.1 (by omega), fun _ => HOK.out.2.1 (by omega), fun _ => HIN.out⟩, rfl⟩
        case measure => simp [intOf]
      · have HNO := Lib.hid (show impl_isInstr.fld 10 4 a0_3 0 15 = false by unfold impl_isInstr.fld; rw [if_neg (by decide)]; simpa using hin)
        have z1 : (a0_3 != 0) = true := by simpa using hin
        have z2 : decide (a0_3 = 0) = false := by simpa using hin
        clear hin
        go_wp2
        go_ret
        refine ⟨?_, by repeat (first | exact Below.refl _ _ | apply below_alloc | apply pw_below_drewN)⟩
        refine impl_isInstr.ret (Eq.trans ?_ HR.out)
        rw [HNO.out]; simp
    · go_wp2_with (go_at_call 50; refine (impl_isInstr.imm a0_4 _).mono ?_; rintro e w' ⟨rfl, m, rfl⟩)
      go_ret
      refine ⟨?_, by repeat (first | exact Below.refl _ _ | apply below_alloc | apply pw_below_drewN)⟩
      refine impl_isInstr.ret (Eq.trans ?_ HR.out)
      rw [HOK.out.1 (by omega), HOK.out.2.1 (by omega), HOK.out.2.2 (by omega)]
      unfold impl_isInstr.fld; rw [if_pos (by decide)]; simp
set_option maxHeartbeats 8000000 in
set_option maxRecDepth 100000 in
theorem impl_isInstr.form11 (a0_0 : Int) (a0_1 : Int) (a0_2 : Int) (a0_3 : Int) (a0_4 : Int) (r : Bool) (w : World) (HF : Hid (impl_isInstr.form a0_0 = 11))
    (HR : Hid ((impl_isInstr.fld 11 1 a0_1 0 15 && impl_isInstr.fld 11 2 a0_2 0 15 && impl_isInstr.fld 11 4 a0_3 0 15 && impl_isInstr.fld 11 8 a0_4 (-8192) 8191) = r)) :
    Calls Tryd.prog 26 #[.agg #[.int .i64 a0_0, .int .i64 a0_1, .int .i64 a0_2, .int .i64 a0_3, .int .i64 a0_4]] w fun e w' => e = .returned (.bool r) ∧ Below w.heap.size w w' := by
  have hu := Tryd.underlying25
  have HFC := fun W => impl_formOf.calls 8 a0_0 11 W (by rw [impl_isInstr.form_eq, HF.out])
  have i0 : ∀ w, (Instr.index 71 (.agg #[.int .i64 a0_1, .int .i64 a0_2, .int .i64 a0_3]) (.int .i64 0)).run Tryd.prog w = .ok (.int .i64 a0_1) w := fun _ => by kernel_rfl
  have i1 : ∀ w, (Instr.index 71 (.agg #[.int .i64 a0_1, .int .i64 a0_2, .int .i64 a0_3]) (.int .i64 1)).run Tryd.prog w = .ok (.int .i64 a0_2) w := fun _ => by kernel_rfl
  have i2 : ∀ w, (Instr.index 71 (.agg #[.int .i64 a0_1, .int .i64 a0_2, .int .i64 a0_3]) (.int .i64 2)).run Tryd.prog w = .ok (.int .i64 a0_3) w := fun _ => by kernel_rfl
  have b2 : Go.bits .and .i64 2 1 = 0 := by decide +kernel
  have b5 : Go.bits .and .i64 5 1 = 1 := by decide +kernel
  have b11 : Go.bits .and .i64 11 1 = 1 := by decide +kernel
  have b8_ : Go.bits .and .i64 11 8 = 8 := by decide +kernel
  go_enter Tryd.func26, Tryd.ntmps26
  go_wp2_with (go_at_call 49; refine (HFC _).mono ?_; rintro e w' ⟨rfl, m, rfl⟩)
  go_loopw [18] (fun i wr => ∃ k n : Nat, k ≤ 3 ∧ i = .int .i64 k ∧ ((0 < k → impl_isInstr.fld 11 1 a0_1 0 15 = true) ∧ (1 < k → impl_isInstr.fld 11 2 a0_2 0 15 = true) ∧ (2 < k → impl_isInstr.fld 11 4 a0_3 0 15 = true)) ∧ wr = (w.alloc (.cells #[.int .i64 a0_0, .int .i64 a0_1, .int .i64 a0_2, .int .i64 a0_3, .int .i64 a0_4] 25)).drewN n) (fun i _ => 3 - (intOf i).toNat)
  case atStart => exact ⟨0, _, by omega, rfl, ⟨fun h => absurd h (by omega), fun h => absurd h (by omega), fun h => absurd h (by omega)⟩, rfl⟩
  case round =>
    obtain ⟨k, n, hk, rfl, hok, rfl⟩ := hrel
    have HOK := Lib.hid hok; clear hok
    rcases (show k = 0 ∨ k = 1 ∨ k = 2 ∨ k = 3 by omega) with rfl | rfl | rfl | rfl
    · by_cases hin : 0 ≤ a0_1 ∧ a0_1 ≤ 15
      · have HIN := Lib.hid (show impl_isInstr.fld 11 1 a0_1 0 15 = true by unfold impl_isInstr.fld; rw [if_pos (by decide)]; simpa using hin); have HI2 := Lib.hid hin; clear hin
        go_wp2_with (go_at_call 36; refine (impl_isInstr.yes a0_1 0 15 _ HI2.out).mono ?_; rintro e w' ⟨rfl, m, rfl⟩)
        go_roundw
        case rel => exact ⟨1, _, by omega, rfl, ⟨fun _ => HIN.out, fun h => absurd h (by omega), fun h => absurd h (by omega)⟩, rfl⟩
        case measure => simp [intOf]
      · have HNO := Lib.hid (show impl_isInstr.fld 11 1 a0_1 0 15 = false by unfold impl_isInstr.fld; rw [if_pos (by decide)]; simpa using hin); have HI2 := Lib.hid hin; clear hin
        go_wp2_with (go_at_call 36; refine (impl_isInstr.no a0_1 0 15 _ HI2.out).mono ?_; rintro e w' ⟨rfl, m, rfl⟩)
        go_ret
        refine ⟨?_, by repeat (first | exact Below.refl _ _ | apply below_alloc | apply pw_below_drewN)⟩
        refine impl_isInstr.ret (Eq.trans ?_ HR.out)
        rw [HNO.out]; simp
    · by_cases hin : 0 ≤ a0_2 ∧ a0_2 ≤ 15
      · have HIN := Lib.hid (show impl_isInstr.fld 11 2 a0_2 0 15 = true by unfold impl_isInstr.fld; rw [if_pos (by decide)]; simpa using hin); have HI2 := Lib.hid hin; clear hin
        go_wp2_with (go_at_call 36; refine (impl_isInstr.yes a0_2 0 15 _ HI2.out).mono ?_; rintro e w' ⟨rfl, m, rfl⟩)
        go_roundw
        case rel => exact ⟨2, _, by omega, rfl, ⟨fun _ => HOK.out.1 (by omega), fun _ => HIN.out, fun h => absurd h (by omega)⟩, rfl⟩
        case measure => simp [intOf]
      · have HNO := Lib.hid (show impl_isInstr.fld 11 2 a0_2 0 15 = false by unfold impl_isInstr.fld; rw [if_pos (by decide)]; simpa using hin); have HI2 := Lib.hid hin; clear hin
        go_wp2_with (go_at_call 36; refine (impl_isInstr.no a0_2 0 15 _ HI2.out).mono ?_; rintro e w' ⟨rfl, m, rfl⟩)
        go_ret
        refine ⟨?_, by repeat (first | exact Below.refl _ _ | apply below_alloc | apply pw_below_drewN)⟩
        refine impl_isInstr.ret (Eq.trans ?_ HR.out)
        rw [HNO.out]; simp
    · by_cases hin : a0_3 = 0
      · have HIN := Lib.hid (show impl_isInstr.fld 11 4 a0_3 0 15 = true by unfold impl_isInstr.fld; rw [if_neg (by decide)]; simpa using hin)
        have z1 : (a0_3 != 0) = false := by rw [hin]; rfl
        have z2 : decide (a0_3 = 0) = true := by simp [hin]
        clear hin
        go_wp2
        go_roundw
        case rel => exact ⟨3, _, by omega, rfl, ⟨fun _ => HOK.out.1 (by omega), fun _ => HOK.out.2.1 (by omega), fun _ => HIN.out⟩, rfl⟩
        case measure => simp [intOf]
      · have HNO := Lib.hid (show impl_isInstr.fld 11 4 a0_3 0 15 = false by unfold impl_isInstr.fld; rw [if_neg (by decide)]; simpa using hin)
        have z1 : (a0_3 != 0) = true := by simpa using hin
        have z2 : decide (a0_3 = 0) = false := by simpa using hin
        clear hin
        go_wp2
        go_ret
        refine ⟨?_, by repeat (first | exact Below.refl _ _ | apply below_alloc | apply pw_below_drewN)⟩
        refine impl_isInstr.ret (Eq.trans ?_ HR.out)
        rw [HNO.out]; simp
    · go_wp2_with (go_at_call 50; refine (impl_isInstr.imm a0_4 _).mono ?_; rintro e w' ⟨rfl, m, rfl⟩)
      go_ret
      refine ⟨?_, by repeat (first | exact Below.refl _ _ | apply below_alloc | apply pw_below_drewN)⟩
      refine impl_isInstr.ret (Eq.trans ?_ HR.out)
      rw [HOK.out.1 (by omega), HOK.out.2.1 (by omega), HOK.out.2.2 (by omega)]
      unfold impl_isInstr.fld; rw [if_pos (by decide)]; simp
set_option maxHeartbeats 8000000 in
set_option maxRecDepth 100000 in
theorem impl_isInstr.nope (a0_0 : Int) (a0_1 : Int) (a0_2 : Int) (a0_3 : Int) (a0_4 : Int) (w : World) (HF : Hid (impl_isInstr.form a0_0 = -1)) :
    Calls Tryd.prog 26 #[.agg #[.int .i64 a0_0, .int .i64 a0_1, .int .i64 a0_2, .int .i64 a0_3, .int .i64 a0_4]] w fun e w' => e = .returned (.bool false) ∧ Below w.heap.size w w' := by
  have hu := Tryd.underlying25
  have HFC := fun W => impl_formOf.calls 8 a0_0 (-1) W (by rw [impl_isInstr.form_eq, HF.out])
  go_enter Tryd.func26, Tryd.ntmps26
  go_wp2_with (go_at_call 49; refine (HFC _).mono ?_; rintro e w' ⟨rfl, m, rfl⟩)
  go_ret
  exact ⟨rfl, by repeat (first | exact Below.refl _ _ | apply below_alloc | apply pw_below_drewN)⟩
theorem impl_isInstr.forms (op : Int) (h : 0 ≤ op ∧ op ≤ 32) : impl_isInstr.form op = 0 ∨ impl_isInstr.form op = 1 ∨ impl_isInstr.form op = 7 ∨ impl_isInstr.form op = 8 ∨ impl_isInstr.form op = 9 ∨ impl_isInstr.form op = 10 ∨ impl_isInstr.form op = 11 := by
  unfold impl_isInstr.form
  repeat' split
  all_goals omega
theorem impl_isInstr.calls (a0_0 : Int) (a0_1 : Int) (a0_2 : Int) (a0_3 : Int) (a0_4 : Int) (r : Bool) (w : World) (h : impl_isInstr.f a0_0 a0_1 a0_2 a0_3 a0_4 = some r) :
    Calls Tryd.prog 26 #[.agg #[.int .i64 a0_0, .int .i64 a0_1, .int .i64 a0_2, .int .i64 a0_3, .int .i64 a0_4]] w fun e w' => e = .returned (.bool r) ∧ Below w.heap.size w w' := by
  have hr : impl_isInstr.ok a0_0 a0_1 a0_2 a0_3 a0_4 = r := Option.some.inj h
  unfold impl_isInstr.ok at hr
  by_cases hop : 0 ≤ a0_0 ∧ a0_0 ≤ 32
  · rw [decide_eq_true hop, Bool.true_and] at hr
    rcases impl_isInstr.forms a0_0 hop with hf | hf | hf | hf | hf | hf | hf <;> rw [hf] at hr
    · exact impl_isInstr.form0 a0_0 a0_1 a0_2 a0_3 a0_4 r w (Lib.hid hf) (Lib.hid hr)
    · exact impl_isInstr.form1 a0_0 a0_1 a0_2 a0_3 a0_4 r w (Lib.hid hf) (Lib.hid hr)
    · exact impl_isInstr.form7 a0_0 a0_1 a0_2 a0_3 a0_4 r w (Lib.hid hf) (Lib.hid hr)
    · exact impl_isInstr.form8 a0_0 a0_1 a0_2 a0_3 a0_4 r w (Lib.hid hf) (Lib.hid hr)
    · exact impl_isInstr.form9 a0_0 a0_1 a0_2 a0_3 a0_4 r w (Lib.hid hf) (Lib.hid hr)
    · exact impl_isInstr.form10 a0_0 a0_1 a0_2 a0_3 a0_4 r w (Lib.hid hf) (Lib.hid hr)
    · exact impl_isInstr.form11 a0_0 a0_1 a0_2 a0_3 a0_4 r w (Lib.hid hf) (Lib.hid hr)
  · rw [decide_eq_false hop] at hr
    simp only [Bool.false_and] at hr
    subst hr
    refine impl_isInstr.nope a0_0 a0_1 a0_2 a0_3 a0_4 w (Lib.hid ?_)
    unfold impl_isInstr.form
    by_cases h1 : a0_0 < 0
    · rw [if_pos h1]
    · rw [if_neg h1, if_pos (by omega)]

/-! ### impl_encode: function 27 -/
def impl_encode.f (a0_0 : Int) (a0_1 : Int) (a0_2 : Int) (a0_3 : Int) (a0_4 : Int) : Option (Int) := some (Go.bits .or .u32 (Go.bits .or .u32 (Go.bits .or .u32 (Go.bits .or .u32 ((((a0_0) % 4294967296) * 67108864) % 4294967296) ((((a0_1) % 4294967296) * 4194304) % 4294967296)) ((((a0_2) % 4294967296) * 262144) % 4294967296)) ((((a0_3) % 4294967296) * 16384) % 4294967296)) (Go.bits .and .u32 ((a0_4) % 4294967296) 16383))
set_option maxHeartbeats 8000000 in
set_option maxRecDepth 100000 in
theorem impl_encode.calls (a0_0 : Int) (a0_1 : Int) (a0_2 : Int) (a0_3 : Int) (a0_4 : Int) (r : Int) (w : World) (h : impl_encode.f a0_0 a0_1 a0_2 a0_3 a0_4 = some r) :
    Calls Tryd.prog 27 #[.agg #[.int .i64 a0_0, .int .i64 a0_1, .int .i64 a0_2, .int .i64 a0_3, .int .i64 a0_4]] w fun e w' => e = .returned (.int .u32 r) ∧ Below w.heap.size w w' := by
  have hu25 := Tryd.underlying25
  have HB := Aside0.mk (Below.refl w.heap.size w)
  have H : (some (Go.bits .or .u32 (Go.bits .or .u32 (Go.bits .or .u32 (Go.bits .or .u32 ((((a0_0) % 4294967296) * 67108864) % 4294967296) ((((a0_1) % 4294967296) * 4194304) % 4294967296)) ((((a0_2) % 4294967296) * 262144) % 4294967296)) ((((a0_3) % 4294967296) * 16384) % 4294967296)) (Go.bits .and .u32 ((a0_4) % 4294967296) 16383))) = some r := h
  clear h
  obtain rfl := Option.some.inj H
  go_enter Tryd.func27, Tryd.ntmps27
  go_wp2_with (first | ((with_reducible refine gate_dst (N := 1) rfl ?_); refine box_event ?hg (N := 1) ?hd (cs := #[.int .i64 a0_0, .int .i64 a0_1, .int .i64 a0_2, .int .i64 a0_3, .int .i64 a0_4]) (t := 25) ?hr ?_; (case hd => rfl); (case hg => rfl); (case hr => first | (go_simp; done) | (go_simp; rfl)); intro gb216 hg w2 hbox hb; have n0_ := Aside0.mk (below_step (by repeat (first | (with_reducible first | exact HB.out | apply below_alloc | apply pw_below_drewN | apply below_drew1) | exact HB.out)) hb); have n1_ := Aside0.mk (hbox); have n2_ := Aside0.mk ((by rw [hg]; exact (below_size (by repeat (first | (with_reducible first | exact HB.out | apply below_alloc | apply pw_below_drewN | apply below_drew1) | exact HB.out))) : w.heap.size ≤ gb216)); have n3_ := Aside0.mk ((by rw [hg]; exact (below_size (by repeat (first | (with_reducible first | exact HB.out | apply below_alloc | apply pw_below_drewN | apply below_drew1) | exact HB.out))) : w.heap.size ≤ gb216)); clear HB; have HB := n0_; have BK216 := n1_; have GW216 := n2_; have GE216 := n3_; clear n0_ n1_ n2_ n3_; clear hb hbox hg; have hcz3_0 : w2.cell? ⟨gb216, 0, none⟩ = some (.int .i64 a0_0) := (blk_cell BK216.out 0).trans rfl; have hcz3_1 : w2.cell? ⟨gb216, 1, none⟩ = some (.int .i64 a0_1) := (blk_cell BK216.out 1).trans rfl; have hcz3_2 : w2.cell? ⟨gb216, 2, none⟩ = some (.int .i64 a0_2) := (blk_cell BK216.out 2).trans rfl; have hcz3_3 : w2.cell? ⟨gb216, 3, none⟩ = some (.int .i64 a0_3) := (blk_cell BK216.out 3).trans rfl; have hcz3_4 : w2.cell? ⟨gb216, 4, none⟩ = some (.int .i64 a0_4) := (blk_cell BK216.out 4).trans rfl; have hfz3_0 := blk_frozen BK216.out 0; have hfz3_1 := blk_frozen BK216.out 1; have hfz3_2 := blk_frozen BK216.out 2; have hfz3_3 := blk_frozen BK216.out 3; have hfz3_4 := blk_frozen BK216.out 4))
  go_ret
  exact ⟨by first | rfl | (simp [errW_none, errW_some] <;> rfl) | (simp [*, errW_none, errW_some] <;> rfl), by repeat (first | (with_reducible first | exact HB.out | apply below_alloc | apply pw_below_drewN | apply below_drew1 | refine below_set ?_ GE216.out) | exact HB.out)⟩

/-! ### impl_Encode: function 8 -/
def impl_Encode.f (a0_0 : Int) (a0_1 : Int) (a0_2 : Int) (a0_3 : Int) (a0_4 : Int) : Option (Int × Bool) := (impl_isInstr.f a0_0 a0_1 a0_2 a0_3 a0_4).bind fun t218 => (if t218 = true then ((impl_encode.f a0_0 a0_1 a0_2 a0_3 a0_4).bind fun t219 => (some (t219, true))) else (some (0, false)))
set_option maxHeartbeats 8000000 in
set_option maxRecDepth 100000 in
theorem impl_Encode.calls (a0_0 : Int) (a0_1 : Int) (a0_2 : Int) (a0_3 : Int) (a0_4 : Int) (r1 : Int) (r2 : Bool) (w : World) (h : impl_Encode.f a0_0 a0_1 a0_2 a0_3 a0_4 = some (r1, r2)) :
    Calls Tryd.prog 8 #[.agg #[.int .i64 a0_0, .int .i64 a0_1, .int .i64 a0_2, .int .i64 a0_3, .int .i64 a0_4]] w fun e w' => e = .returned (.tuple #[.int .u32 r1, .bool r2]) ∧ Below w.heap.size w w' := by
  have hu25 := Tryd.underlying25
  have HB := Aside0.mk (Below.refl w.heap.size w)
  have H : ((impl_isInstr.f a0_0 a0_1 a0_2 a0_3 a0_4).bind fun t218 => (if t218 = true then ((impl_encode.f a0_0 a0_1 a0_2 a0_3 a0_4).bind fun t219 => (some (t219, true))) else (some (0, false)))) = some (r1, r2) := h
  clear h
  replace H := Option.bind_eq_some_iff.mp H
  obtain ⟨t218, A20, H⟩ := H
  replace H : (if t218 = true then ((impl_encode.f a0_0 a0_1 a0_2 a0_3 a0_4).bind fun t219 => (some (t219, true))) else (some (0, false))) = some (r1, r2) := H
  have A2 := Aside0.mk A20
  clear A20
  by_cases c3 : t218 = true
  · subst c3
    have H1 : ((impl_encode.f a0_0 a0_1 a0_2 a0_3 a0_4).bind fun t219 => (some (t219, true))) = some (r1, r2) := by rw [if_pos rfl] at H; exact H
    clear H
    have H := H1
    clear H1
    replace H := Option.bind_eq_some_iff.mp H
    obtain ⟨t219, A40, H⟩ := H
    replace H : (some (t219, true)) = some (r1, r2) := H
    have A4 := Aside0.mk A40
    clear A40
    simp only [Option.some.injEq, Prod.mk.injEq] at H
    obtain ⟨rfl, rfl⟩ := H
    go_enter Tryd.func8, Tryd.ntmps8
    go_wp2_with (first | ((with_reducible refine gate_dst (N := 1) rfl ?_); refine box_event ?hg (N := 1) ?hd (cs := #[.int .i64 a0_0, .int .i64 a0_1, .int .i64 a0_2, .int .i64 a0_3, .int .i64 a0_4]) (t := 25) ?hr ?_; (case hd => rfl); (case hg => rfl); (case hr => first | (go_simp; done) | (go_simp; rfl)); intro gb217 hg w5 hbox hb; have n0_ := Aside0.mk (below_step (by repeat (first | (with_reducible first | exact HB.out | apply below_alloc | apply pw_below_drewN | apply below_drew1) | exact HB.out)) hb); have n1_ := Aside0.mk (hbox); have n2_ := Aside0.mk ((by rw [hg]; exact (below_size (by repeat (first | (with_reducible first | exact HB.out | apply below_alloc | apply pw_below_drewN | apply below_drew1) | exact HB.out))) : w.heap.size ≤ gb217)); have n3_ := Aside0.mk ((by rw [hg]; exact (below_size (by repeat (first | (with_reducible first | exact HB.out | apply below_alloc | apply pw_below_drewN | apply below_drew1) | exact HB.out))) : w.heap.size ≤ gb217)); clear HB; have HB := n0_; have BK217 := n1_; have GW217 := n2_; have GE217 := n3_; clear n0_ n1_ n2_ n3_; clear hb hbox hg; have hcz6_0 : w5.cell? ⟨gb217, 0, none⟩ = some (.int .i64 a0_0) := (blk_cell BK217.out 0).trans rfl; have hcz6_1 : w5.cell? ⟨gb217, 1, none⟩ = some (.int .i64 a0_1) := (blk_cell BK217.out 1).trans rfl; have hcz6_2 : w5.cell? ⟨gb217, 2, none⟩ = some (.int .i64 a0_2) := (blk_cell BK217.out 2).trans rfl; have hcz6_3 : w5.cell? ⟨gb217, 3, none⟩ = some (.int .i64 a0_3) := (blk_cell BK217.out 3).trans rfl; have hcz6_4 : w5.cell? ⟨gb217, 4, none⟩ = some (.int .i64 a0_4) := (blk_cell BK217.out 4).trans rfl; have hfz6_0 := blk_frozen BK217.out 0; have hfz6_1 := blk_frozen BK217.out 1; have hfz6_2 := blk_frozen BK217.out 2; have hfz6_3 := blk_frozen BK217.out 3; have hfz6_4 := blk_frozen BK217.out 4) | ((with_reducible refine gate_callee (f := 26) rfl ?_); refine goesL_ (some 5) rfl rfl Tryd.func26 (by kernel_rfl) rfl #[.agg #[.int .i64 a0_0, .int .i64 a0_1, .int .i64 a0_2, .int .i64 a0_3, .int .i64 a0_4]] rfl (by (try simp only [List.map_toArray, List.map_cons, List.map_nil]); first | done | rfl | (simp only [List.length_drop, List.length_take]; rfl)) ?_; (with_reducible refine (impl_isInstr.calls a0_0 a0_1 a0_2 a0_3 a0_4 true _ A2.out).mono ?_); rintro e w7 ⟨rfl, hb⟩; refine ⟨_, rfl, ?_⟩; have n0_ := Aside0.mk (blk_below (g := gb217) (o := .cells #[.int .i64 a0_0, .int .i64 a0_1, .int .i64 a0_2, .int .i64 a0_3, .int .i64 a0_4] 25 (0, 0)) (by (with_reducible repeat (first | refine blk_drewN ?_ _ | refine blk_drew ?_ | refine blk_alloc ?_ _)); exact BK217.out) hb); have n1_ := Aside0.mk (below_step (by repeat (first | (with_reducible first | exact HB.out | apply below_alloc | apply pw_below_drewN | apply below_drew1 | refine below_set ?_ GE217.out) | exact HB.out)) hb); clear BK217; clear HB; have BK217 := n0_; have HB := n1_; clear n0_ n1_; (try clear hb); (try clear hb2); (try clear hk); (try clear hi); have hcz8_0 : w7.cell? ⟨gb217, 0, none⟩ = some (.int .i64 a0_0) := (blk_cell BK217.out 0).trans rfl; have hcz8_1 : w7.cell? ⟨gb217, 1, none⟩ = some (.int .i64 a0_1) := (blk_cell BK217.out 1).trans rfl; have hcz8_2 : w7.cell? ⟨gb217, 2, none⟩ = some (.int .i64 a0_2) := (blk_cell BK217.out 2).trans rfl; have hcz8_3 : w7.cell? ⟨gb217, 3, none⟩ = some (.int .i64 a0_3) := (blk_cell BK217.out 3).trans rfl; have hcz8_4 : w7.cell? ⟨gb217, 4, none⟩ = some (.int .i64 a0_4) := (blk_cell BK217.out 4).trans rfl; have hfz8_0 := blk_frozen BK217.out 0; have hfz8_1 := blk_frozen BK217.out 1; have hfz8_2 := blk_frozen BK217.out 2; have hfz8_3 := blk_frozen BK217.out 3; have hfz8_4 := blk_frozen BK217.out 4) | ((with_reducible refine gate_callee (f := 27) rfl ?_); refine goesL_ (some 8) rfl rfl Tryd.func27 (by kernel_rfl) rfl #[.agg #[.int .i64 a0_0, .int .i64 a0_1, .int .i64 a0_2, .int .i64 a0_3, .int .i64 a0_4]] rfl (by (try simp only [List.map_toArray, List.map_cons, List.map_nil]); first | done | rfl | (simp only [List.length_drop, List.length_take]; rfl)) ?_; (with_reducible refine (impl_encode.calls a0_0 a0_1 a0_2 a0_3 a0_4 t219 _ A4.out).mono ?_); rintro e w9 ⟨rfl, hb⟩; refine ⟨_, rfl, ?_⟩; have n0_ := Aside0.mk (blk_below (g := gb217) (o := .cells #[.int .i64 a0_0, .int .i64 a0_1, .int .i64 a0_2, .int .i64 a0_3, .int .i64 a0_4] 25 (0, 0)) (by (with_reducible repeat (first | refine blk_drewN ?_ _ | refine blk_drew ?_ | refine blk_alloc ?_ _)); exact BK217.out) hb); have n1_ := Aside0.mk (below_step (by repeat (first | (with_reducible first | exact HB.out | apply below_alloc | apply pw_below_drewN | apply below_drew1 | refine below_set ?_ GE217.out) | exact HB.out)) hb); clear BK217; clear HB; have BK217 := n0_; have HB := n1_; clear n0_ n1_; (try clear hb); (try clear hb2); (try clear hk); (try clear hi)))
    go_ret2
    exact ⟨by first | rfl | (simp [errW_none, errW_some] <;> rfl) | (simp [*, errW_none, errW_some] <;> rfl), by repeat (first | (with_reducible first | exact HB.out | apply below_alloc | apply pw_below_drewN | apply below_drew1 | refine below_set ?_ GE217.out) | exact HB.out)⟩
  · replace c3 := Bool.eq_false_iff.mpr c3
    subst c3
    have H1 : (some (0, false)) = some (r1, r2) := by rw [if_neg (show ¬ (false = true) by decide)] at H; exact H
    clear H
    have H := H1
    clear H1
    simp only [Option.some.injEq, Prod.mk.injEq] at H
    obtain ⟨rfl, rfl⟩ := H
    go_enter Tryd.func8, Tryd.ntmps8
    go_wp2_with (first | ((with_reducible refine gate_dst (N := 1) rfl ?_); refine box_event ?hg (N := 1) ?hd (cs := #[.int .i64 a0_0, .int .i64 a0_1, .int .i64 a0_2, .int .i64 a0_3, .int .i64 a0_4]) (t := 25) ?hr ?_; (case hd => rfl); (case hg => rfl); (case hr => first | (go_simp; done) | (go_simp; rfl)); intro gb217 hg w10 hbox hb; have n0_ := Aside0.mk (below_step (by repeat (first | (with_reducible first | exact HB.out | apply below_alloc | apply pw_below_drewN | apply below_drew1) | exact HB.out)) hb); have n1_ := Aside0.mk (hbox); have n2_ := Aside0.mk ((by rw [hg]; exact (below_size (by repeat (first | (with_reducible first | exact HB.out | apply below_alloc | apply pw_below_drewN | apply below_drew1) | exact HB.out))) : w.heap.size ≤ gb217)); have n3_ := Aside0.mk ((by rw [hg]; exact (below_size (by repeat (first | (with_reducible first | exact HB.out | apply below_alloc | apply pw_below_drewN | apply below_drew1) | exact HB.out))) : w.heap.size ≤ gb217)); clear HB; have HB := n0_; have BK217 := n1_; have GW217 := n2_; have GE217 := n3_; clear n0_ n1_ n2_ n3_; clear hb hbox hg; have hcz11_0 : w10.cell? ⟨gb217, 0, none⟩ = some (.int .i64 a0_0) := (blk_cell BK217.out 0).trans rfl; have hcz11_1 : w10.cell? ⟨gb217, 1, none⟩ = some (.int .i64 a0_1) := (blk_cell BK217.out 1).trans rfl; have hcz11_2 : w10.cell? ⟨gb217, 2, none⟩ = some (.int .i64 a0_2) := (blk_cell BK217.out 2).trans rfl; have hcz11_3 : w10.cell? ⟨gb217, 3, none⟩ = some (.int .i64 a0_3) := (blk_cell BK217.out 3).trans rfl; have hcz11_4 : w10.cell? ⟨gb217, 4, none⟩ = some (.int .i64 a0_4) := (blk_cell BK217.out 4).trans rfl; have hfz11_0 := blk_frozen BK217.out 0; have hfz11_1 := blk_frozen BK217.out 1; have hfz11_2 := blk_frozen BK217.out 2; have hfz11_3 := blk_frozen BK217.out 3; have hfz11_4 := blk_frozen BK217.out 4) | ((with_reducible refine gate_callee (f := 26) rfl ?_); refine goesL_ (some 5) rfl rfl Tryd.func26 (by kernel_rfl) rfl #[.agg #[.int .i64 a0_0, .int .i64 a0_1, .int .i64 a0_2, .int .i64 a0_3, .int .i64 a0_4]] rfl (by (try simp only [List.map_toArray, List.map_cons, List.map_nil]); first | done | rfl | (simp only [List.length_drop, List.length_take]; rfl)) ?_; (with_reducible refine (impl_isInstr.calls a0_0 a0_1 a0_2 a0_3 a0_4 false _ A2.out).mono ?_); rintro e w12 ⟨rfl, hb⟩; refine ⟨_, rfl, ?_⟩; have n0_ := Aside0.mk (blk_below (g := gb217) (o := .cells #[.int .i64 a0_0, .int .i64 a0_1, .int .i64 a0_2, .int .i64 a0_3, .int .i64 a0_4] 25 (0, 0)) (by (with_reducible repeat (first | refine blk_drewN ?_ _ | refine blk_drew ?_ | refine blk_alloc ?_ _)); exact BK217.out) hb); have n1_ := Aside0.mk (below_step (by repeat (first | (with_reducible first | exact HB.out | apply below_alloc | apply pw_below_drewN | apply below_drew1 | refine below_set ?_ GE217.out) | exact HB.out)) hb); clear BK217; clear HB; have BK217 := n0_; have HB := n1_; clear n0_ n1_; (try clear hb); (try clear hb2); (try clear hk); (try clear hi)))
    go_ret2
    exact ⟨by first | rfl | (simp [errW_none, errW_some] <;> rfl) | (simp [*, errW_none, errW_some] <;> rfl), by repeat (first | (with_reducible first | exact HB.out | apply below_alloc | apply pw_below_drewN | apply below_drew1 | refine below_set ?_ GE217.out) | exact HB.out)⟩

/-! ### spec_l02Field: function 29 -/
def spec_l02Field.f (a0 : Int) (a1 : Int) (a2 : Int) (a3 : Int) (a4 : Int) : Option (Bool) := if a1 = 0 then (none) else (if (Int.tmod (wrap64 (Int.tdiv a0 a1)) 2) = 0 then (some (a2 == 0)) else ((spec_l01In.f a2 a3 a4).bind fun t220 => (some t220)))
set_option maxHeartbeats 8000000 in
set_option maxRecDepth 100000 in
theorem spec_l02Field.calls (a0 : Int) (a1 : Int) (a2 : Int) (a3 : Int) (a4 : Int) (r : Bool) (w : World) (h : spec_l02Field.f a0 a1 a2 a3 a4 = some r) :
    Calls Tryd.prog 29 #[.int .i64 a0, .int .i64 a1, .int .i64 a2, .int .i64 a3, .int .i64 a4] w fun e w' => e = .returned (.bool r) ∧ Drawn0 w w' := by
  have H : (if a1 = 0 then (none) else (if (Int.tmod (wrap64 (Int.tdiv a0 a1)) 2) = 0 then (some (a2 == 0)) else ((spec_l01In.f a2 a3 a4).bind fun t220 => (some t220)))) = some r := h
  clear h
  by_cases c6 : a1 = 0
  · rw [if_pos c6] at H
    exact absurd H (by simp)
  · rw [if_neg c6] at H
    have c6b0 : (a1 == 0) = false := beq_eq_false_iff_ne.mpr c6
    have c6b1 : (a1 != 0) = true := bne_iff_ne.mpr c6
    by_cases c7 : (Int.tmod (wrap64 (Int.tdiv a0 a1)) 2) = 0
    · rw [if_pos c7] at H
      have c7b0 : ((Int.tmod (wrap64 (Int.tdiv a0 a1)) 2) == 0) = true := beq_iff_eq.mpr c7
      have c7b1 : ((Int.tmod (wrap64 (Int.tdiv a0 a1)) 2) != 0) = false := bne_eq_false_iff_eq.mpr c7
      clear c7
      obtain rfl := Option.some.inj H
      go_enter Tryd.func29, Tryd.ntmps29
      go_wp2
      go_ret
      exact ⟨by first | rfl | (simp; done) | (simp [*]; done), by repeat (first | exact Drawn0.refl _ | apply Drawn0.step)⟩
    · rw [if_neg c7] at H
      have c7b0 : ((Int.tmod (wrap64 (Int.tdiv a0 a1)) 2) == 0) = false := beq_eq_false_iff_ne.mpr c7
      have c7b1 : ((Int.tmod (wrap64 (Int.tdiv a0 a1)) 2) != 0) = true := bne_iff_ne.mpr c7
      replace H := Option.bind_eq_some_iff.mp H
      obtain ⟨t220, A80, H⟩ := H
      replace H : (some t220) = some r := H
      have A8 := Aside0.mk A80
      clear A80
      obtain rfl := Option.some.inj H
      go_enter Tryd.func29, Tryd.ntmps29
      go_wp2_with (first | ((with_reducible refine gate_callee (f := 42) rfl ?_); refine goesL_ (some 21) rfl rfl Tryd.func42 (by kernel_rfl) rfl #[.int .i64 a2, .int .i64 a3, .int .i64 a4] rfl (by (try simp only [List.map_toArray, List.map_cons, List.map_nil]); first | done | rfl | (simp only [List.length_drop, List.length_take]; rfl)) ?_; (with_reducible refine (spec_l01In.calls a2 a3 a4 t220 _ A8.out).mono ?_); rintro e w' ⟨rfl, ⟨nd, rfl⟩⟩; refine ⟨_, rfl, ?_⟩))
      go_ret
      exact ⟨by first | rfl | (simp; done) | (simp [*]; done), by repeat (first | exact Drawn0.refl _ | apply Drawn0.step)⟩

/-! ### spec_InstrOk: function 9 -/
def spec_InstrOk.f (a0_0 : Int) (a0_1 : Int) (a0_2 : Int) (a0_3 : Int) (a0_4 : Int) : Option (Bool) := (spec_FormOf.f a0_0).bind fun t222 => (if t222 ≥ 0 then ((spec_l02Field.f t222 1 a0_1 0 15).bind fun t223 => (if t223 = true then ((spec_l02Field.f t222 2 a0_2 0 15).bind fun t224 => (if t224 = true then ((spec_l02Field.f t222 4 a0_3 0 15).bind fun t225 => (if t225 = true then ((spec_l02Field.f t222 8 a0_4 (-8192) 8191).bind fun t226 => (some t226)) else (some false))) else (some false))) else (some false))) else (some false))
set_option maxHeartbeats 8000000 in
set_option maxRecDepth 100000 in
theorem spec_InstrOk.calls (a0_0 : Int) (a0_1 : Int) (a0_2 : Int) (a0_3 : Int) (a0_4 : Int) (r : Bool) (w : World) (h : spec_InstrOk.f a0_0 a0_1 a0_2 a0_3 a0_4 = some r) :
    Calls Tryd.prog 9 #[.agg #[.int .i64 a0_0, .int .i64 a0_1, .int .i64 a0_2, .int .i64 a0_3, .int .i64 a0_4]] w fun e w' => e = .returned (.bool r) ∧ Below w.heap.size w w' := by
  have hu25 := Tryd.underlying25
  have HB := Aside0.mk (Below.refl w.heap.size w)
  have H : ((spec_FormOf.f a0_0).bind fun t222 => (if t222 ≥ 0 then ((spec_l02Field.f t222 1 a0_1 0 15).bind fun t223 => (if t223 = true then ((spec_l02Field.f t222 2 a0_2 0 15).bind fun t224 => (if t224 = true then ((spec_l02Field.f t222 4 a0_3 0 15).bind fun t225 => (if t225 = true then ((spec_l02Field.f t222 8 a0_4 (-8192) 8191).bind fun t226 => (some t226)) else (some false))) else (some false))) else (some false))) else (some false))) = some r := h
  clear h
  replace H := Option.bind_eq_some_iff.mp H
  obtain ⟨t222, A20, H⟩ := H
  replace H : (if t222 ≥ 0 then ((spec_l02Field.f t222 1 a0_1 0 15).bind fun t223 => (if t223 = true then ((spec_l02Field.f t222 2 a0_2 0 15).bind fun t224 => (if t224 = true then ((spec_l02Field.f t222 4 a0_3 0 15).bind fun t225 => (if t225 = true then ((spec_l02Field.f t222 8 a0_4 (-8192) 8191).bind fun t226 => (some t226)) else (some false))) else (some false))) else (some false))) else (some false)) = some r := H
  have A2 := Aside0.mk A20
  clear A20
  by_cases c3 : t222 ≥ 0
  · rw [if_pos c3] at H
    have c3b0 : decide (0 ≤ t222) = true := decide_eq_true c3
    clear c3
    replace H := Option.bind_eq_some_iff.mp H
    obtain ⟨t223, A40, H⟩ := H
    replace H : (if t223 = true then ((spec_l02Field.f t222 2 a0_2 0 15).bind fun t224 => (if t224 = true then ((spec_l02Field.f t222 4 a0_3 0 15).bind fun t225 => (if t225 = true then ((spec_l02Field.f t222 8 a0_4 (-8192) 8191).bind fun t226 => (some t226)) else (some false))) else (some false))) else (some false)) = some r := H
    have A4 := Aside0.mk A40
    clear A40
    by_cases c5 : t223 = true
    · subst c5
      have H1 : ((spec_l02Field.f t222 2 a0_2 0 15).bind fun t224 => (if t224 = true then ((spec_l02Field.f t222 4 a0_3 0 15).bind fun t225 => (if t225 = true then ((spec_l02Field.f t222 8 a0_4 (-8192) 8191).bind fun t226 => (some t226)) else (some false))) else (some false))) = some r := by rw [if_pos rfl] at H; exact H
      clear H
      have H := H1
      clear H1
      replace H := Option.bind_eq_some_iff.mp H
      obtain ⟨t224, A60, H⟩ := H
      replace H : (if t224 = true then ((spec_l02Field.f t222 4 a0_3 0 15).bind fun t225 => (if t225 = true then ((spec_l02Field.f t222 8 a0_4 (-8192) 8191).bind fun t226 => (some t226)) else (some false))) else (some false)) = some r := H
      have A6 := Aside0.mk A60
      clear A60
      by_cases c7 : t224 = true
      · subst c7
        have H1 : ((spec_l02Field.f t222 4 a0_3 0 15).bind fun t225 => (if t225 = true then ((spec_l02Field.f t222 8 a0_4 (-8192) 8191).bind fun t226 => (some t226)) else (some false))) = some r := by rw [if_pos rfl] at H; exact H
        clear H
        have H := H1
        clear H1
        replace H := Option.bind_eq_some_iff.mp H
        obtain ⟨t225, A80, H⟩ := H
        replace H : (if t225 = true then ((spec_l02Field.f t222 8 a0_4 (-8192) 8191).bind fun t226 => (some t226)) else (some false)) = some r := H
        have A8 := Aside0.mk A80
        clear A80
        by_cases c9 : t225 = true
        · subst c9
          have H1 : ((spec_l02Field.f t222 8 a0_4 (-8192) 8191).bind fun t226 => (some t226)) = some r := by rw [if_pos rfl] at H; exact H
          clear H
          have H := H1
          clear H1
          replace H := Option.bind_eq_some_iff.mp H
          obtain ⟨t226, A100, H⟩ := H
          replace H : (some t226) = some r := H
          have A10 := Aside0.mk A100
          clear A100
          obtain rfl := Option.some.inj H
          go_enter Tryd.func9, Tryd.ntmps9
          go_wp2_with (first | ((with_reducible refine gate_dst (N := 1) rfl ?_); refine box_event ?hg (N := 1) ?hd (cs := #[.int .i64 a0_0, .int .i64 a0_1, .int .i64 a0_2, .int .i64 a0_3, .int .i64 a0_4]) (t := 25) ?hr ?_; (case hd => rfl); (case hg => rfl); (case hr => first | (go_simp; done) | (go_simp; rfl)); intro gb221 hg w11 hbox hb; have n0_ := Aside0.mk (below_step (by repeat (first | (with_reducible first | exact HB.out | apply below_alloc | apply pw_below_drewN | apply below_drew1) | exact HB.out)) hb); have n1_ := Aside0.mk (hbox); have n2_ := Aside0.mk ((by rw [hg]; exact (below_size (by repeat (first | (with_reducible first | exact HB.out | apply below_alloc | apply pw_below_drewN | apply below_drew1) | exact HB.out))) : w.heap.size ≤ gb221)); have n3_ := Aside0.mk ((by rw [hg]; exact (below_size (by repeat (first | (with_reducible first | exact HB.out | apply below_alloc | apply pw_below_drewN | apply below_drew1) | exact HB.out))) : w.heap.size ≤ gb221)); clear HB; have HB := n0_; have BK221 := n1_; have GW221 := n2_; have GE221 := n3_; clear n0_ n1_ n2_ n3_; clear hb hbox hg; have hcz12_0 : w11.cell? ⟨gb221, 0, none⟩ = some (.int .i64 a0_0) := (blk_cell BK221.out 0).trans rfl; have hcz12_1 : w11.cell? ⟨gb221, 1, none⟩ = some (.int .i64 a0_1) := (blk_cell BK221.out 1).trans rfl; have hcz12_2 : w11.cell? ⟨gb221, 2, none⟩ = some (.int .i64 a0_2) := (blk_cell BK221.out 2).trans rfl; have hcz12_3 : w11.cell? ⟨gb221, 3, none⟩ = some (.int .i64 a0_3) := (blk_cell BK221.out 3).trans rfl; have hcz12_4 : w11.cell? ⟨gb221, 4, none⟩ = some (.int .i64 a0_4) := (blk_cell BK221.out 4).trans rfl; have hfz12_0 := blk_frozen BK221.out 0; have hfz12_1 := blk_frozen BK221.out 1; have hfz12_2 := blk_frozen BK221.out 2; have hfz12_3 := blk_frozen BK221.out 3; have hfz12_4 := blk_frozen BK221.out 4) | ((with_reducible refine gate_callee (f := 28) rfl ?_); refine goesL_ (some 6) rfl rfl Tryd.func28 (by kernel_rfl) rfl #[.int .i64 a0_0] rfl (by (try simp only [List.map_toArray, List.map_cons, List.map_nil]); first | done | rfl | (simp only [List.length_drop, List.length_take]; rfl)) ?_; (with_reducible refine (spec_FormOf.calls a0_0 t222 _ A2.out).mono ?_); rintro e w13 ⟨rfl, hb⟩; refine ⟨_, rfl, ?_⟩; have n0_ := Aside0.mk (blk_below (g := gb221) (o := .cells #[.int .i64 a0_0, .int .i64 a0_1, .int .i64 a0_2, .int .i64 a0_3, .int .i64 a0_4] 25 (0, 0)) (by (with_reducible repeat (first | refine blk_drewN ?_ _ | refine blk_drew ?_ | refine blk_alloc ?_ _)); exact BK221.out) hb); have n1_ := Aside0.mk (below_step (by repeat (first | (with_reducible first | exact HB.out | apply below_alloc | apply pw_below_drewN | apply below_drew1 | refine below_set ?_ GE221.out) | exact HB.out)) hb); clear BK221; clear HB; have BK221 := n0_; have HB := n1_; clear n0_ n1_; (try clear hb); (try clear hb2); (try clear hk); (try clear hi); have hcz14_0 : w13.cell? ⟨gb221, 0, none⟩ = some (.int .i64 a0_0) := (blk_cell BK221.out 0).trans rfl; have hcz14_1 : w13.cell? ⟨gb221, 1, none⟩ = some (.int .i64 a0_1) := (blk_cell BK221.out 1).trans rfl; have hcz14_2 : w13.cell? ⟨gb221, 2, none⟩ = some (.int .i64 a0_2) := (blk_cell BK221.out 2).trans rfl; have hcz14_3 : w13.cell? ⟨gb221, 3, none⟩ = some (.int .i64 a0_3) := (blk_cell BK221.out 3).trans rfl; have hcz14_4 : w13.cell? ⟨gb221, 4, none⟩ = some (.int .i64 a0_4) := (blk_cell BK221.out 4).trans rfl; have hfz14_0 := blk_frozen BK221.out 0; have hfz14_1 := blk_frozen BK221.out 1; have hfz14_2 := blk_frozen BK221.out 2; have hfz14_3 := blk_frozen BK221.out 3; have hfz14_4 := blk_frozen BK221.out 4) | (go_at_call 29; (with_reducible refine (spec_l02Field.calls t222 1 a0_1 0 15 true _ A4.out).mono ?_); rintro e w' ⟨rfl, ⟨nd, rfl⟩⟩) | (go_at_call 29; (with_reducible refine (spec_l02Field.calls t222 2 a0_2 0 15 true _ A6.out).mono ?_); rintro e w' ⟨rfl, ⟨nd, rfl⟩⟩) | (go_at_call 29; (with_reducible refine (spec_l02Field.calls t222 4 a0_3 0 15 true _ A8.out).mono ?_); rintro e w' ⟨rfl, ⟨nd, rfl⟩⟩) | (go_at_call 29; (with_reducible refine (spec_l02Field.calls t222 8 a0_4 (-8192) 8191 t226 _ A10.out).mono ?_); rintro e w' ⟨rfl, ⟨nd, rfl⟩⟩))
          go_ret
          exact ⟨by first | rfl | (simp [errW_none, errW_some] <;> rfl) | (simp [*, errW_none, errW_some] <;> rfl), by repeat (first | (with_reducible first | exact HB.out | apply below_alloc | apply pw_below_drewN | apply below_drew1 | refine below_set ?_ GE221.out) | exact HB.out)⟩
        · replace c9 := Bool.eq_false_iff.mpr c9
          subst c9
          have H1 : (some false) = some r := by rw [if_neg (show ¬ (false = true) by decide)] at H; exact H
          clear H
          have H := H1
          clear H1
          obtain rfl := Option.some.inj H
          go_enter Tryd.func9, Tryd.ntmps9
          go_wp2_with (first | ((with_reducible refine gate_dst (N := 1) rfl ?_); refine box_event ?hg (N := 1) ?hd (cs := #[.int .i64 a0_0, .int .i64 a0_1, .int .i64 a0_2, .int .i64 a0_3, .int .i64 a0_4]) (t := 25) ?hr ?_; (case hd => rfl); (case hg => rfl); (case hr => first | (go_simp; done) | (go_simp; rfl)); intro gb221 hg w15 hbox hb; have n0_ := Aside0.mk (below_step (by repeat (first | (with_reducible first | exact HB.out | apply below_alloc | apply pw_below_drewN | apply below_drew1) | exact HB.out)) hb); have n1_ := Aside0.mk (hbox); have n2_ := Aside0.mk ((by rw [hg]; exact (below_size (by repeat (first | (with_reducible first | exact HB.out | apply below_alloc | apply pw_below_drewN | apply below_drew1) | exact HB.out))) : w.heap.size ≤ gb221)); have n3_ := Aside0.mk ((by rw [hg]; exact (below_size (by repeat (first | (with_reducible first | exact HB.out | apply below_alloc | apply pw_below_drewN | apply below_drew1) | exact HB.out))) : w.heap.size ≤ gb221)); clear HB; have HB := n0_; have BK221 := n1_; have GW221 := n2_; have GE221 := n3_; clear n0_ n1_ n2_ n3_; clear hb hbox hg; have hcz16_0 : w15.cell? ⟨gb221, 0, none⟩ = some (.int .i64 a0_0) := (blk_cell BK221.out 0).trans rfl; have hcz16_1 : w15.cell? ⟨gb221, 1, none⟩ = some (.int .i64 a0_1) := (blk_cell BK221.out 1).trans rfl; have hcz16_2 : w15.cell? ⟨gb221, 2, none⟩ = some (.int .i64 a0_2) := (blk_cell BK221.out 2).trans rfl; have hcz16_3 : w15.cell? ⟨gb221, 3, none⟩ = some (.int .i64 a0_3) := (blk_cell BK221.out 3).trans rfl; have hcz16_4 : w15.cell? ⟨gb221, 4, none⟩ = some (.int .i64 a0_4) := (blk_cell BK221.out 4).trans rfl; have hfz16_0 := blk_frozen BK221.out 0; have hfz16_1 := blk_frozen BK221.out 1; have hfz16_2 := blk_frozen BK221.out 2; have hfz16_3 := blk_frozen BK221.out 3; have hfz16_4 := blk_frozen BK221.out 4) | ((with_reducible refine gate_callee (f := 28) rfl ?_); refine goesL_ (some 6) rfl rfl Tryd.func28 (by kernel_rfl) rfl #[.int .i64 a0_0] rfl (by (try simp only [List.map_toArray, List.map_cons, List.map_nil]); first | done | rfl | (simp only [List.length_drop, List.length_take]; rfl)) ?_; (with_reducible refine (spec_FormOf.calls a0_0 t222 _ A2.out).mono ?_); rintro e w17 ⟨rfl, hb⟩; refine ⟨_, rfl, ?_⟩; have n0_ := Aside0.mk (blk_below (g := gb221) (o := .cells #[.int .i64 a0_0, .int .i64 a0_1, .int .i64 a0_2, .int .i64 a0_3, .int .i64 a0_4] 25 (0, 0)) (by (with_reducible repeat (first | refine blk_drewN ?_ _ | refine blk_drew ?_ | refine blk_alloc ?_ _)); exact BK221.out) hb); have n1_ := Aside0.mk (below_step (by repeat (first | (with_reducible first | exact HB.out | apply below_alloc | apply pw_below_drewN | apply below_drew1 | refine below_set ?_ GE221.out) | exact HB.out)) hb); clear BK221; clear HB; have BK221 := n0_; have HB := n1_; clear n0_ n1_; (try clear hb); (try clear hb2); (try clear hk); (try clear hi); have hcz18_0 : w17.cell? ⟨gb221, 0, none⟩ = some (.int .i64 a0_0) := (blk_cell BK221.out 0).trans rfl; have hcz18_1 : w17.cell? ⟨gb221, 1, none⟩ = some (.int .i64 a0_1) := (blk_cell BK221.out 1).trans rfl; have hcz18_2 : w17.cell? ⟨gb221, 2, none⟩ = some (.int .i64 a0_2) := (blk_cell BK221.out 2).trans rfl; have hcz18_3 : w17.cell? ⟨gb221, 3, none⟩ = some (.int .i64 a0_3) := (blk_cell BK221.out 3).trans rfl; have hcz18_4 : w17.cell? ⟨gb221, 4, none⟩ = some (.int .i64 a0_4) := (blk_cell BK221.out 4).trans rfl; have hfz18_0 := blk_frozen BK221.out 0; have hfz18_1 := blk_frozen BK221.out 1; have hfz18_2 := blk_frozen BK221.out 2; have hfz18_3 := blk_frozen BK221.out 3; have hfz18_4 := blk_frozen BK221.out 4) | (go_at_call 29; (with_reducible refine (spec_l02Field.calls t222 1 a0_1 0 15 true _ A4.out).mono ?_); rintro e w' ⟨rfl, ⟨nd, rfl⟩⟩) | (go_at_call 29; (with_reducible refine (spec_l02Field.calls t222 2 a0_2 0 15 true _ A6.out).mono ?_); rintro e w' ⟨rfl, ⟨nd, rfl⟩⟩) | (go_at_call 29; (with_reducible refine (spec_l02Field.calls t222 4 a0_3 0 15 false _ A8.out).mono ?_); rintro e w' ⟨rfl, ⟨nd, rfl⟩⟩))
          go_ret
          exact ⟨by first | rfl | (simp [errW_none, errW_some] <;> rfl) | (simp [*, errW_none, errW_some] <;> rfl), by repeat (first | (with_reducible first | exact HB.out | apply below_alloc | apply pw_below_drewN | apply below_drew1 | refine below_set ?_ GE221.out) | exact HB.out)⟩
      · replace c7 := Bool.eq_false_iff.mpr c7
        subst c7
        have H1 : (some false) = some r := by rw [if_neg (show ¬ (false = true) by decide)] at H; exact H
        clear H
        have H := H1
        clear H1
        obtain rfl := Option.some.inj H
        go_enter Tryd.func9, Tryd.ntmps9
        go_wp2_with (first | ((with_reducible refine gate_dst (N := 1) rfl ?_); refine box_event ?hg (N := 1) ?hd (cs := #[.int .i64 a0_0, .int .i64 a0_1, .int .i64 a0_2, .int .i64 a0_3, .int .i64 a0_4]) (t := 25) ?hr ?_; (case hd => rfl); (case hg => rfl); (case hr => first | (go_simp; done) | (go_simp; rfl)); intro gb221 hg w19 hbox hb; have n0_ := Aside0.mk (below_step (by repeat (first | (with_reducible first | exact HB.out | apply below_alloc | apply pw_below_drewN | apply below_drew1) | exact HB.out)) hb); have n1_ := Aside0.mk (hbox); have n2_ := Aside0.mk ((by rw [hg]; exact (below_size (by repeat (first | (with_reducible first | exact HB.out | apply below_alloc | apply pw_below_drewN | apply below_drew1) | exact HB.out))) : w.heap.size ≤ gb221)); have n3_ := Aside0.mk ((by rw [hg]; exact (below_size (by repeat (first | (with_reducible first | exact HB.out | apply below_alloc | apply pw_below_drewN | apply below_drew1) | exact HB.out))) : w.heap.size ≤ gb221)); clear HB; have HB := n0_; have BK221 := n1_; have GW221 := n2_; have GE221 := n3_; clear n0_ n1_ n2_ n3_; clear hb hbox hg; have hcz20_0 : w19.cell? ⟨gb221, 0, none⟩ = some (.int .i64 a0_0) := (blk_cell BK221.out 0).trans rfl; have hcz20_1 : w19.cell? ⟨gb221, 1, none⟩ = some (.int .i64 a0_1) := (blk_cell BK221.out 1).trans rfl; have hcz20_2 : w19.cell? ⟨gb221, 2, none⟩ = some (.int .i64 a0_2) := (blk_cell BK221.out 2).trans rfl; have hcz20_3 : w19.cell? ⟨gb221, 3, none⟩ = some (.int .i64 a0_3) := (blk_cell BK221.out 3).trans rfl; have hcz20_4 : w19.cell? ⟨gb221, 4, none⟩ = some (.int .i64 a0_4) := (blk_cell BK221.out 4).trans rfl; have hfz20_0 := blk_frozen BK221.out 0; have hfz20_1 := blk_frozen BK221.out 1; have hfz20_2 := blk_frozen BK221.out 2; have hfz20_3 := blk_frozen BK221.out 3; have hfz20_4 := blk_frozen BK221.out 4) | ((with_reducible refine gate_callee (f := 28) rfl ?_); refine goesL_ (some 6) rfl rfl Tryd.func28 (by kernel_rfl) rfl #[.int .i64 a0_0] rfl (by (try simp only [List.map_toArray, List.map_cons, List.map_nil]); first | done | rfl | (simp only [List.length_drop, List.length_take]; rfl)) ?_; (with_reducible refine (spec_FormOf.calls a0_0 t222 _ A2.out).mono ?_); rintro e w21 ⟨rfl, hb⟩; refine ⟨_, rfl, ?_⟩; have n0_ := Aside0.mk (blk_below (g := gb221) (o := .cells #[.int .i64 a0_0, .int .i64 a0_1, .int .i64 a0_2, .int .i64 a0_3, .int .i64 a0_4] 25 (0, 0)) (by (with_reducible repeat (first | refine blk_drewN ?_ _ | refine blk_drew ?_ | refine blk_alloc ?_ _)); exact BK221.out) hb); have n1_ := Aside0.mk (below_step (by repeat (first | (with_reducible first | exact HB.out | apply below_alloc | apply pw_below_drewN | apply below_drew1 | refine below_set ?_ GE221.out) | exact HB.out)) hb); clear BK221; clear HB; have BK221 := n0_; have HB := n1_; clear n0_ n1_; (try clear hb); (try clear hb2); (try clear hk); (try clear hi); have hcz22_0 : w21.cell? ⟨gb221, 0, none⟩ = some (.int .i64 a0_0) := (blk_cell BK221.out 0).trans rfl; have hcz22_1 : w21.cell? ⟨gb221, 1, none⟩ = some (.int .i64 a0_1) := (blk_cell BK221.out 1).trans rfl; have hcz22_2 : w21.cell? ⟨gb221, 2, none⟩ = some (.int .i64 a0_2) := (blk_cell BK221.out 2).trans rfl; have hcz22_3 : w21.cell? ⟨gb221, 3, none⟩ = some (.int .i64 a0_3) := (blk_cell BK221.out 3).trans rfl; have hcz22_4 : w21.cell? ⟨gb221, 4, none⟩ = some (.int .i64 a0_4) := (blk_cell BK221.out 4).trans rfl; have hfz22_0 := blk_frozen BK221.out 0; have hfz22_1 := blk_frozen BK221.out 1; have hfz22_2 := blk_frozen BK221.out 2; have hfz22_3 := blk_frozen BK221.out 3; have hfz22_4 := blk_frozen BK221.out 4) | (go_at_call 29; (with_reducible refine (spec_l02Field.calls t222 1 a0_1 0 15 true _ A4.out).mono ?_); rintro e w' ⟨rfl, ⟨nd, rfl⟩⟩) | (go_at_call 29; (with_reducible refine (spec_l02Field.calls t222 2 a0_2 0 15 false _ A6.out).mono ?_); rintro e w' ⟨rfl, ⟨nd, rfl⟩⟩))
        go_ret
        exact ⟨by first | rfl | (simp [errW_none, errW_some] <;> rfl) | (simp [*, errW_none, errW_some] <;> rfl), by repeat (first | (with_reducible first | exact HB.out | apply below_alloc | apply pw_below_drewN | apply below_drew1 | refine below_set ?_ GE221.out) | exact HB.out)⟩
    · replace c5 := Bool.eq_false_iff.mpr c5
      subst c5
      have H1 : (some false) = some r := by rw [if_neg (show ¬ (false = true) by decide)] at H; exact H
      clear H
      have H := H1
      clear H1
      obtain rfl := Option.some.inj H
      go_enter Tryd.func9, Tryd.ntmps9
      go_wp2_with (first | ((with_reducible refine gate_dst (N := 1) rfl ?_); refine box_event ?hg (N := 1) ?hd (cs := #[.int .i64 a0_0, .int .i64 a0_1, .int .i64 a0_2, .int .i64 a0_3, .int .i64 a0_4]) (t := 25) ?hr ?_; (case hd => rfl); (case hg => rfl); (case hr => first | (go_simp; done) | (go_simp; rfl)); intro gb221 hg w23 hbox hb; have n0_ := Aside0.mk (below_step (by repeat (first | (with_reducible first | exact HB.out | apply below_alloc | apply pw_below_drewN | apply below_drew1) | exact HB.out)) hb); have n1_ := Aside0.mk (hbox); have n2_ := Aside0.mk ((by rw [hg]; exact (below_size (by repeat (first | (with_reducible first | exact HB.out | apply below_alloc | apply pw_below_drewN | apply below_drew1) | exact HB.out))) : w.heap.size ≤ gb221)); have n3_ := Aside0.mk ((by rw [hg]; exact (below_size (by repeat (first | (with_reducible first | exact HB.out | apply below_alloc | apply pw_below_drewN | apply below_drew1) | exact HB.out))) : w.heap.size ≤ gb221)); clear HB; have HB := n0_; have BK221 := n1_; have GW221 := n2_; have GE221 := n3_; clear n0_ n1_ n2_ n3_; clear hb hbox hg; have hcz24_0 : w23.cell? ⟨gb221, 0, none⟩ = some (.int .i64 a0_0) := (blk_cell BK221.out 0).trans rfl; have hcz24_1 : w23.cell? ⟨gb221, 1, none⟩ = some (.int .i64 a0_1) := (blk_cell BK221.out 1).trans rfl; have hcz24_2 : w23.cell? ⟨gb221, 2, none⟩ = some (.int .i64 a0_2) := (blk_cell BK221.out 2).trans rfl; have hcz24_3 : w23.cell? ⟨gb221, 3, none⟩ = some (.int .i64 a0_3) := (blk_cell BK221.out 3).trans rfl; have hcz24_4 : w23.cell? ⟨gb221, 4, none⟩ = some (.int .i64 a0_4) := (blk_cell BK221.out 4).trans rfl; have hfz24_0 := blk_frozen BK221.out 0; have hfz24_1 := blk_frozen BK221.out 1; have hfz24_2 := blk_frozen BK221.out 2; have hfz24_3 := blk_frozen BK221.out 3; have hfz24_4 := blk_frozen BK221.out 4) | ((with_reducible refine gate_callee (f := 28) rfl ?_); refine goesL_ (some 6) rfl rfl Tryd.func28 (by kernel_rfl) rfl #[.int .i64 a0_0] rfl (by (try simp only [List.map_toArray, List.map_cons, List.map_nil]); first | done | rfl | (simp only [List.length_drop, List.length_take]; rfl)) ?_; (with_reducible refine (spec_FormOf.calls a0_0 t222 _ A2.out).mono ?_); rintro e w25 ⟨rfl, hb⟩; refine ⟨_, rfl, ?_⟩; have n0_ := Aside0.mk (blk_below (g := gb221) (o := .cells #[.int .i64 a0_0, .int .i64 a0_1, .int .i64 a0_2, .int .i64 a0_3, .int .i64 a0_4] 25 (0, 0)) (by (with_reducible repeat (first | refine blk_drewN ?_ _ | refine blk_drew ?_ | refine blk_alloc ?_ _)); exact BK221.out) hb); have n1_ := Aside0.mk (below_step (by repeat (first | (with_reducible first | exact HB.out | apply below_alloc | apply pw_below_drewN | apply below_drew1 | refine below_set ?_ GE221.out) | exact HB.out)) hb); clear BK221; clear HB; have BK221 := n0_; have HB := n1_; clear n0_ n1_; (try clear hb); (try clear hb2); (try clear hk); (try clear hi); have hcz26_0 : w25.cell? ⟨gb221, 0, none⟩ = some (.int .i64 a0_0) := (blk_cell BK221.out 0).trans rfl; have hcz26_1 : w25.cell? ⟨gb221, 1, none⟩ = some (.int .i64 a0_1) := (blk_cell BK221.out 1).trans rfl; have hcz26_2 : w25.cell? ⟨gb221, 2, none⟩ = some (.int .i64 a0_2) := (blk_cell BK221.out 2).trans rfl; have hcz26_3 : w25.cell? ⟨gb221, 3, none⟩ = some (.int .i64 a0_3) := (blk_cell BK221.out 3).trans rfl; have hcz26_4 : w25.cell? ⟨gb221, 4, none⟩ = some (.int .i64 a0_4) := (blk_cell BK221.out 4).trans rfl; have hfz26_0 := blk_frozen BK221.out 0; have hfz26_1 := blk_frozen BK221.out 1; have hfz26_2 := blk_frozen BK221.out 2; have hfz26_3 := blk_frozen BK221.out 3; have hfz26_4 := blk_frozen BK221.out 4) | (go_at_call 29; (with_reducible refine (spec_l02Field.calls t222 1 a0_1 0 15 false _ A4.out).mono ?_); rintro e w' ⟨rfl, ⟨nd, rfl⟩⟩))
      go_ret
      exact ⟨by first | rfl | (simp [errW_none, errW_some] <;> rfl) | (simp [*, errW_none, errW_some] <;> rfl), by repeat (first | (with_reducible first | exact HB.out | apply below_alloc | apply pw_below_drewN | apply below_drew1 | refine below_set ?_ GE221.out) | exact HB.out)⟩
  · rw [if_neg c3] at H
    have c3b0 : decide (0 ≤ t222) = false := decide_eq_false c3
    clear c3
    obtain rfl := Option.some.inj H
    go_enter Tryd.func9, Tryd.ntmps9
    go_wp2_with (first | ((with_reducible refine gate_dst (N := 1) rfl ?_); refine box_event ?hg (N := 1) ?hd (cs := #[.int .i64 a0_0, .int .i64 a0_1, .int .i64 a0_2, .int .i64 a0_3, .int .i64 a0_4]) (t := 25) ?hr ?_; (case hd => rfl); (case hg => rfl); (case hr => first | (go_simp; done) | (go_simp; rfl)); intro gb221 hg w27 hbox hb; have n0_ := Aside0.mk (below_step (by repeat (first | (with_reducible first | exact HB.out | apply below_alloc | apply pw_below_drewN | apply below_drew1) | exact HB.out)) hb); have n1_ := Aside0.mk (hbox); have n2_ := Aside0.mk ((by rw [hg]; exact (below_size (by repeat (first | (with_reducible first | exact HB.out | apply below_alloc | apply pw_below_drewN | apply below_drew1) | exact HB.out))) : w.heap.size ≤ gb221)); have n3_ := Aside0.mk ((by rw [hg]; exact (below_size (by repeat (first | (with_reducible first | exact HB.out | apply below_alloc | apply pw_below_drewN | apply below_drew1) | exact HB.out))) : w.heap.size ≤ gb221)); clear HB; have HB := n0_; have BK221 := n1_; have GW221 := n2_; have GE221 := n3_; clear n0_ n1_ n2_ n3_; clear hb hbox hg; have hcz28_0 : w27.cell? ⟨gb221, 0, none⟩ = some (.int .i64 a0_0) := (blk_cell BK221.out 0).trans rfl; have hcz28_1 : w27.cell? ⟨gb221, 1, none⟩ = some (.int .i64 a0_1) := (blk_cell BK221.out 1).trans rfl; have hcz28_2 : w27.cell? ⟨gb221, 2, none⟩ = some (.int .i64 a0_2) := (blk_cell BK221.out 2).trans rfl; have hcz28_3 : w27.cell? ⟨gb221, 3, none⟩ = some (.int .i64 a0_3) := (blk_cell BK221.out 3).trans rfl; have hcz28_4 : w27.cell? ⟨gb221, 4, none⟩ = some (.int .i64 a0_4) := (blk_cell BK221.out 4).trans rfl; have hfz28_0 := blk_frozen BK221.out 0; have hfz28_1 := blk_frozen BK221.out 1; have hfz28_2 := blk_frozen BK221.out 2; have hfz28_3 := blk_frozen BK221.out 3; have hfz28_4 := blk_frozen BK221.out 4) | ((with_reducible refine gate_callee (f := 28) rfl ?_); refine goesL_ (some 6) rfl rfl Tryd.func28 (by kernel_rfl) rfl #[.int .i64 a0_0] rfl (by (try simp only [List.map_toArray, List.map_cons, List.map_nil]); first | done | rfl | (simp only [List.length_drop, List.length_take]; rfl)) ?_; (with_reducible refine (spec_FormOf.calls a0_0 t222 _ A2.out).mono ?_); rintro e w29 ⟨rfl, hb⟩; refine ⟨_, rfl, ?_⟩; have n0_ := Aside0.mk (blk_below (g := gb221) (o := .cells #[.int .i64 a0_0, .int .i64 a0_1, .int .i64 a0_2, .int .i64 a0_3, .int .i64 a0_4] 25 (0, 0)) (by (with_reducible repeat (first | refine blk_drewN ?_ _ | refine blk_drew ?_ | refine blk_alloc ?_ _)); exact BK221.out) hb); have n1_ := Aside0.mk (below_step (by repeat (first | (with_reducible first | exact HB.out | apply below_alloc | apply pw_below_drewN | apply below_drew1 | refine below_set ?_ GE221.out) | exact HB.out)) hb); clear BK221; clear HB; have BK221 := n0_; have HB := n1_; clear n0_ n1_; (try clear hb); (try clear hb2); (try clear hk); (try clear hi)))
    go_ret
    exact ⟨by first | rfl | (simp [errW_none, errW_some] <;> rfl) | (simp [*, errW_none, errW_some] <;> rfl), by repeat (first | (with_reducible first | exact HB.out | apply below_alloc | apply pw_below_drewN | apply below_drew1 | refine below_set ?_ GE221.out) | exact HB.out)⟩

/-! ### laws_at: function 30 -/
def laws_at.f (l0 : List Int) (a1 : Int) : Option (Int) := if a1 < (l0.length : Int) then (if 0 ≤ a1 then (some (wrap64 (rd l0 a1))) else (none)) else (some (Int.tmod (wrap64 ((wrap64 (a1 * 7)) + (l0.length : Int))) 256))
set_option maxHeartbeats 8000000 in
set_option maxRecDepth 100000 in
theorem laws_at.calls (A0 : Option Addr) (c0 : Nat) (l0 : List Int) (a1 : Int) (r : Int) (w : World) (hr0 : Kd.C (Kd.int .u8) w A0 l0.length l0) (hc0 : l0.length ≤ c0) (h : laws_at.f l0 a1 = some r) :
    Calls Tryd.prog 30 #[.slice A0 l0.length c0, .int .i64 a1] w fun e w' => e = .returned (.int .i64 r) ∧ Drawn0 w w' := by
  have HR0 := Aside0.mk hr0
  have HC0 := Aside0.mk hc0
  clear hr0 hc0
  have H : (if a1 < (l0.length : Int) then (if 0 ≤ a1 then (some (wrap64 (rd l0 a1))) else (none)) else (some (Int.tmod (wrap64 ((wrap64 (a1 * 7)) + (l0.length : Int))) 256))) = some r := h
  clear h
  by_cases c3 : a1 < (l0.length : Int)
  · rw [if_pos c3] at H
    have c3b0 : decide (a1 < (l0.length : Int)) = true := decide_eq_true c3
    clear c3
    by_cases c4 : 0 ≤ a1
    · rw [if_pos c4] at H
      have c4b0 : decide (0 ≤ a1) = true := decide_eq_true c4
      clear c4
      obtain rfl := Option.some.inj H
      have p227 : 0 ≤ (a1 : Int) := of_decide_eq_true (by first | (with_reducible assumption) | assumption)
      have q227 : a1 < (l0.length : Int) := of_decide_eq_true (by first | (with_reducible assumption) | assumption)
      obtain ⟨ad227, e227, hx227_0⟩ := Kd.at_int HR0.out a1 p227 q227
      cases e227
      replace p227 := eq_true p227
      replace q227 := eq_true q227
      go_enter Tryd.func30, Tryd.ntmps30
      go_wp2
      go_ret
      exact ⟨by first | rfl | (simp; done) | (simp [*]; done), by repeat (first | exact Drawn0.refl _ | apply Drawn0.step)⟩
    · rw [if_neg c4] at H
      exact absurd H (by simp)
  · rw [if_neg c3] at H
    have c3b0 : decide (a1 < (l0.length : Int)) = false := decide_eq_false c3
    clear c3
    obtain rfl := Option.some.inj H
    go_enter Tryd.func30, Tryd.ntmps30
    go_wp2
    go_ret
    exact ⟨by first | rfl | (simp; done) | (simp [*]; done), by repeat (first | exact Drawn0.refl _ | apply Drawn0.step)⟩

/-! ### laws_word: function 10 -/
def laws_word.f (l0 : List Int) (a1 : Int) : Option (Int) := (laws_at.f l0 a1).bind fun t228 => ((laws_at.f l0 (wrap64 (a1 + 1))).bind fun t229 => ((laws_at.f l0 (wrap64 (a1 + 2))).bind fun t230 => ((laws_at.f l0 (wrap64 (a1 + 3))).bind fun t231 => (some ((((((((t228) % 4294967296) + ((256 * ((t229) % 4294967296)) % 4294967296)) % 4294967296) + ((65536 * ((t230) % 4294967296)) % 4294967296)) % 4294967296) + ((16777216 * ((t231) % 4294967296)) % 4294967296)) % 4294967296)))))
set_option maxHeartbeats 8000000 in
set_option maxRecDepth 100000 in
theorem laws_word.calls (A0 : Option Addr) (c0 : Nat) (l0 : List Int) (a1 : Int) (r : Int) (w : World) (hr0 : Kd.C (Kd.int .u8) w A0 l0.length l0) (hc0 : l0.length ≤ c0) (h : laws_word.f l0 a1 = some r) :
    Calls Tryd.prog 10 #[.slice A0 l0.length c0, .int .i64 a1] w fun e w' => e = .returned (.int .u32 r) ∧ Drawn0 w w' := by
  have HR0 := Aside0.mk hr0
  have HC0 := Aside0.mk hc0
  clear hr0 hc0
  have H : ((laws_at.f l0 a1).bind fun t228 => ((laws_at.f l0 (wrap64 (a1 + 1))).bind fun t229 => ((laws_at.f l0 (wrap64 (a1 + 2))).bind fun t230 => ((laws_at.f l0 (wrap64 (a1 + 3))).bind fun t231 => (some ((((((((t228) % 4294967296) + ((256 * ((t229) % 4294967296)) % 4294967296)) % 4294967296) + ((65536 * ((t230) % 4294967296)) % 4294967296)) % 4294967296) + ((16777216 * ((t231) % 4294967296)) % 4294967296)) % 4294967296)))))) = some r := h
  clear h
  replace H := Option.bind_eq_some_iff.mp H
  obtain ⟨t228, A30, H⟩ := H
  replace H : ((laws_at.f l0 (wrap64 (a1 + 1))).bind fun t229 => ((laws_at.f l0 (wrap64 (a1 + 2))).bind fun t230 => ((laws_at.f l0 (wrap64 (a1 + 3))).bind fun t231 => (some ((((((((t228) % 4294967296) + ((256 * ((t229) % 4294967296)) % 4294967296)) % 4294967296) + ((65536 * ((t230) % 4294967296)) % 4294967296)) % 4294967296) + ((16777216 * ((t231) % 4294967296)) % 4294967296)) % 4294967296))))) = some r := H
  have A3 := Aside0.mk A30
  clear A30
  replace H := Option.bind_eq_some_iff.mp H
  obtain ⟨t229, A40, H⟩ := H
  replace H : ((laws_at.f l0 (wrap64 (a1 + 2))).bind fun t230 => ((laws_at.f l0 (wrap64 (a1 + 3))).bind fun t231 => (some ((((((((t228) % 4294967296) + ((256 * ((t229) % 4294967296)) % 4294967296)) % 4294967296) + ((65536 * ((t230) % 4294967296)) % 4294967296)) % 4294967296) + ((16777216 * ((t231) % 4294967296)) % 4294967296)) % 4294967296)))) = some r := H
  have A4 := Aside0.mk A40
  clear A40
  replace H := Option.bind_eq_some_iff.mp H
  obtain ⟨t230, A50, H⟩ := H
  replace H : ((laws_at.f l0 (wrap64 (a1 + 3))).bind fun t231 => (some ((((((((t228) % 4294967296) + ((256 * ((t229) % 4294967296)) % 4294967296)) % 4294967296) + ((65536 * ((t230) % 4294967296)) % 4294967296)) % 4294967296) + ((16777216 * ((t231) % 4294967296)) % 4294967296)) % 4294967296))) = some r := H
  have A5 := Aside0.mk A50
  clear A50
  replace H := Option.bind_eq_some_iff.mp H
  obtain ⟨t231, A60, H⟩ := H
  replace H : (some ((((((((t228) % 4294967296) + ((256 * ((t229) % 4294967296)) % 4294967296)) % 4294967296) + ((65536 * ((t230) % 4294967296)) % 4294967296)) % 4294967296) + ((16777216 * ((t231) % 4294967296)) % 4294967296)) % 4294967296)) = some r := H
  have A6 := Aside0.mk A60
  clear A60
  obtain rfl := Option.some.inj H
  go_enter Tryd.func10, Tryd.ntmps10
  go_wp2_with (first | ((with_reducible refine gate_callee (f := 30) rfl ?_); refine goesL_ (some 7) rfl rfl Tryd.func30 (by kernel_rfl) rfl #[.slice A0 l0.length c0, .int .i64 a1] rfl (by (try simp only [List.map_toArray, List.map_cons, List.map_nil]); first | done | rfl | (simp only [List.length_drop, List.length_take]; rfl)) ?_; (with_reducible refine (laws_at.calls _ _ l0 a1 t228 _ ?side1 ?side2 A3.out).mono ?_); (case side1 => repeat (first | exact HR0.out | (with_reducible refine Kd.C_alloc ?_ _) | (with_reducible refine Kd.C_drewN ?_ _) | (with_reducible refine Kd.C_drew ?_))); (case side2 => exact HC0.out); rintro e w' ⟨rfl, ⟨nd, rfl⟩⟩; refine ⟨_, rfl, ?_⟩) | ((with_reducible refine gate_callee (f := 30) rfl ?_); refine goesL_ (some 12) rfl rfl Tryd.func30 (by kernel_rfl) rfl #[.slice A0 l0.length c0, .int .i64 (wrap64 (a1 + 1))] rfl (by (try simp only [List.map_toArray, List.map_cons, List.map_nil]); first | done | rfl | (simp only [List.length_drop, List.length_take]; rfl)) ?_; (with_reducible refine (laws_at.calls _ _ l0 (wrap64 (a1 + 1)) t229 _ ?side1 ?side2 A4.out).mono ?_); (case side1 => repeat (first | exact HR0.out | (with_reducible refine Kd.C_alloc ?_ _) | (with_reducible refine Kd.C_drewN ?_ _) | (with_reducible refine Kd.C_drew ?_))); (case side2 => exact HC0.out); rintro e w' ⟨rfl, ⟨nd, rfl⟩⟩; refine ⟨_, rfl, ?_⟩) | ((with_reducible refine gate_callee (f := 30) rfl ?_); refine goesL_ (some 19) rfl rfl Tryd.func30 (by kernel_rfl) rfl #[.slice A0 l0.length c0, .int .i64 (wrap64 (a1 + 2))] rfl (by (try simp only [List.map_toArray, List.map_cons, List.map_nil]); first | done | rfl | (simp only [List.length_drop, List.length_take]; rfl)) ?_; (with_reducible refine (laws_at.calls _ _ l0 (wrap64 (a1 + 2)) t230 _ ?side1 ?side2 A5.out).mono ?_); (case side1 => repeat (first | exact HR0.out | (with_reducible refine Kd.C_alloc ?_ _) | (with_reducible refine Kd.C_drewN ?_ _) | (with_reducible refine Kd.C_drew ?_))); (case side2 => exact HC0.out); rintro e w' ⟨rfl, ⟨nd, rfl⟩⟩; refine ⟨_, rfl, ?_⟩) | ((with_reducible refine gate_callee (f := 30) rfl ?_); refine goesL_ (some 26) rfl rfl Tryd.func30 (by kernel_rfl) rfl #[.slice A0 l0.length c0, .int .i64 (wrap64 (a1 + 3))] rfl (by (try simp only [List.map_toArray, List.map_cons, List.map_nil]); first | done | rfl | (simp only [List.length_drop, List.length_take]; rfl)) ?_; (with_reducible refine (laws_at.calls _ _ l0 (wrap64 (a1 + 3)) t231 _ ?side1 ?side2 A6.out).mono ?_); (case side1 => repeat (first | exact HR0.out | (with_reducible refine Kd.C_alloc ?_ _) | (with_reducible refine Kd.C_drewN ?_ _) | (with_reducible refine Kd.C_drew ?_))); (case side2 => exact HC0.out); rintro e w' ⟨rfl, ⟨nd, rfl⟩⟩; refine ⟨_, rfl, ?_⟩))
  go_ret
  exact ⟨by first | rfl | (simp; done) | (simp [*]; done), by repeat (first | exact Drawn0.refl _ | apply Drawn0.step)⟩

end Go.Proofs.YtaophlekfepkgaaDoor.PFnCodec

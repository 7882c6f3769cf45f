/- Printed by a program out of the translation, with contracts of my own set in. -/
import Derived.Test.YtkepakklhnhnkaaPFnFoldx0
import Derived.Test.YtkepakklhnhnkaaPFnFoldx1
namespace Go.Proofs.Ytkepakklhnhnkaa.PFnFold
open Go.RowKit Go.Proofs.YtkepakklhnhnkaaW.PrintWords Go.Proofs.YtkepakklhnhnkaaW.PrintLast Go.Proofs.YtkepakklhnhnkaaW.PrintMore
attribute [local go_sem] max2_int min2_int max_two min_two max_three min_three max_four min_four   -- for this text's walks alone
set_option linter.unusedVariables false
set_option linter.unusedSimpArgs false

/-! ### laws_FnFold: function 10 -/
def laws_FnFold.f (k : Nat) (l0 : List Int) : Option (Bool) := (laws_big.f l0).bind fun t169 => (if t169 = true then (some true) else ((spec_DrawFoldWords.f k l0).bind fun t170 => ((impl_FoldWords.f k t170).bind fun t173 => ((laws_word.f l0 2).bind fun t174 => ((some (([] : List Int) : List Int)).bind fun y175 => (if y175.length + t170.length < 35184372088832 then ((some (y175 ++ t170 : List Int)).bind fun y178 => (if y178.length < 35184372088832 then ((some (y178 ++ [t174] : List Int)).bind fun y181 => ((impl_FoldWords.f k y181).bind fun t184 => ((impl_RotWord.f t173 5).bind fun t185 => (if t184 = (((Go.bits .xor .u32 t185 t174) + 2654435769) % 4294967296) then ((some (([] : List Int) : List Int)).bind fun y186 => (if y186.length + y181.length < 35184372088832 then ((some (y186 ++ y181 : List Int)).bind fun y189 => ((laws_at.f l0 1).bind fun t192 => (if (y189.length : Int) = 0 then (none) else (if 0 ≤ (Int.tmod t192 (y189.length : Int)) then (if (Int.tmod t192 (y189.length : Int)) < (y189.length : Int) then ((laws_at.f l0 6).bind fun t194 => (if 0 ≤ (IntKind.u64.wrap (Int.tmod t194 32)) then ((impl_FoldWords.f k (y189.set ((Int.tmod t192 (y189.length : Int)) : Int).toNat (Go.bits .xor .u32 (rd y189 (Int.tmod t192 (y189.length : Int))) (shl .u32 1 (IntKind.u64.wrap (Int.tmod t194 32)))))).bind fun t196 => ((impl_FoldWords.f k y181).bind fun t197 => (some (t196 != t197)))) else (none))) else (none)) else (none))))) else (none))) else (some false))))) else (none))) else (none)))))))
theorem laws_FnFold.mono : ∀ a0 k, LeO (laws_FnFold.f k a0) (laws_FnFold.f (k + 1) a0) := by
  intro a0 k
  unfold laws_FnFold.f
  repeat' first
      | (with_reducible exact impl_FoldWords.mono _ _)
      | (with_reducible exact spec_DrawFoldWords.mono _ _)
      | (with_reducible exact LeO.refl _)
      | (with_reducible exact LeO.none _)
      | (with_reducible refine LeO.ite ?_ ?_)
      | (with_reducible refine LeO.bind ?_ (fun _ => ?_))
      | exact impl_FoldWords.mono _ _
      | exact spec_DrawFoldWords.mono _ _
      | exact LeO.none _
      | refine LeO.ite ?_ ?_
      | refine LeO.bind ?_ (fun _ => ?_)
def laws_FnFold.T10 : Bool × List (List Nat × List Nat) := (true, [([], []), ([], []), ([1], [1]), ([], []), ([3], [3]), ([2, 4], [2, 4]), ([0, 5], [0, 5]), ([6], [6]), ([], []), ([8, 2], [8]), ([9], [9]), ([10], [10]), ([11], [11]), ([7, 12], [7, 12]), ([0, 5, 0, 1, 2, 3, 4, 5, 6, 7, 8, 9, 10, 11, 12, 13], [0, 5]), ([14, 13, 9, 0, 1, 2, 3, 4, 5, 6, 7, 8, 9, 10, 11, 12, 13], [13, 14])])
def laws_FnFold.B10 : List Nat := [0, 0, 2, 0, 8, 30, 63, 127, 0, 262, 774, 1798, 3846, 8191, 16383, 32767]
theorem laws_FnFold.tab10 : rtab .any (opsOf Try.f10 10) = laws_FnFold.T10 := by kernel_rfl
theorem laws_FnFold.bits10 : waitsOk laws_FnFold.T10.2 laws_FnFold.B10 = true := by kernel_rfl
set_option maxHeartbeats 8000000 in
set_option maxRecDepth 100000 in
theorem laws_FnFold.calls (k : Nat) (A0 : Option Addr) (c0 : Nat) (l0 : List Int) (r : Bool) (w : World) (hr0 : Kd.C (Kd.int .u8) w A0 l0.length l0) (hc0 : l0.length ≤ c0) (h : laws_FnFold.f k l0 = some r) :
    Calls Try.prog 10 #[.slice A0 l0.length c0] w fun e w' => e = .returned (.bool r) ∧ Below w.heap.size w w' := by
  have HR0 := Aside0.mk hr0
  have HC0 := Aside0.mk hc0
  clear hr0 hc0
  have HB := Aside0.mk (Below.refl w.heap.size w)
  have H : ((laws_big.f l0).bind fun t169 => (if t169 = true then (some true) else ((spec_DrawFoldWords.f k l0).bind fun t170 => ((impl_FoldWords.f k t170).bind fun t173 => ((laws_word.f l0 2).bind fun t174 => ((some (([] : List Int) : List Int)).bind fun y175 => (if y175.length + t170.length < 35184372088832 then ((some (y175 ++ t170 : List Int)).bind fun y178 => (if y178.length < 35184372088832 then ((some (y178 ++ [t174] : List Int)).bind fun y181 => ((impl_FoldWords.f k y181).bind fun t184 => ((impl_RotWord.f t173 5).bind fun t185 => (if t184 = (((Go.bits .xor .u32 t185 t174) + 2654435769) % 4294967296) then ((some (([] : List Int) : List Int)).bind fun y186 => (if y186.length + y181.length < 35184372088832 then ((some (y186 ++ y181 : List Int)).bind fun y189 => ((laws_at.f l0 1).bind fun t192 => (if (y189.length : Int) = 0 then (none) else (if 0 ≤ (Int.tmod t192 (y189.length : Int)) then (if (Int.tmod t192 (y189.length : Int)) < (y189.length : Int) then ((laws_at.f l0 6).bind fun t194 => (if 0 ≤ (IntKind.u64.wrap (Int.tmod t194 32)) then ((impl_FoldWords.f k (y189.set ((Int.tmod t192 (y189.length : Int)) : Int).toNat (Go.bits .xor .u32 (rd y189 (Int.tmod t192 (y189.length : Int))) (shl .u32 1 (IntKind.u64.wrap (Int.tmod t194 32)))))).bind fun t196 => ((impl_FoldWords.f k y181).bind fun t197 => (some (t196 != t197)))) else (none))) else (none)) else (none))))) else (none))) else (some false))))) else (none))) else (none)))))))) = some r := h
  clear h
  replace H := Option.bind_eq_some_iff.mp H
  obtain ⟨t169, A20, H⟩ := H
  replace H : (if t169 = true then (some true) else ((spec_DrawFoldWords.f k l0).bind fun t170 => ((impl_FoldWords.f k t170).bind fun t173 => ((laws_word.f l0 2).bind fun t174 => ((some (([] : List Int) : List Int)).bind fun y175 => (if y175.length + t170.length < 35184372088832 then ((some (y175 ++ t170 : List Int)).bind fun y178 => (if y178.length < 35184372088832 then ((some (y178 ++ [t174] : List Int)).bind fun y181 => ((impl_FoldWords.f k y181).bind fun t184 => ((impl_RotWord.f t173 5).bind fun t185 => (if t184 = (((Go.bits .xor .u32 t185 t174) + 2654435769) % 4294967296) then ((some (([] : List Int) : List Int)).bind fun y186 => (if y186.length + y181.length < 35184372088832 then ((some (y186 ++ y181 : List Int)).bind fun y189 => ((laws_at.f l0 1).bind fun t192 => (if (y189.length : Int) = 0 then (none) else (if 0 ≤ (Int.tmod t192 (y189.length : Int)) then (if (Int.tmod t192 (y189.length : Int)) < (y189.length : Int) then ((laws_at.f l0 6).bind fun t194 => (if 0 ≤ (IntKind.u64.wrap (Int.tmod t194 32)) then ((impl_FoldWords.f k (y189.set ((Int.tmod t192 (y189.length : Int)) : Int).toNat (Go.bits .xor .u32 (rd y189 (Int.tmod t192 (y189.length : Int))) (shl .u32 1 (IntKind.u64.wrap (Int.tmod t194 32)))))).bind fun t196 => ((impl_FoldWords.f k y181).bind fun t197 => (some (t196 != t197)))) else (none))) else (none)) else (none))))) else (none))) else (some false))))) else (none))) else (none))))))) = some r := H
  have A2 := Aside0.mk A20
  clear A20
  by_cases c3 : t169 = true
  · subst c3
    have H1 : (some true) = some r := by rw [if_pos rfl] at H; exact H
    clear H
    have H := H1
    clear H1
    obtain rfl := Option.some.inj H
    go_enter Try.func10, Try.ntmps10
    go_wp2_with (first | ((with_reducible refine gate_callee (f := 40) rfl ?_); refine goesL_ (some 9) rfl rfl Try.func40 (by kernel_rfl) rfl #[.slice A0 l0.length c0] rfl (by (try simp only [List.map_toArray, List.map_cons, List.map_nil]); first | done | rfl | (simp only [List.length_drop, List.length_take]; rfl)) ?_; (with_reducible refine (laws_big.calls _ _ l0 true _ ?side1 ?side2 A2.out).mono ?_); (case side1 => repeat (first | exact HR0.out | (with_reducible refine Kd.C_alloc ?_ _) | (with_reducible refine Kd.C_drewN ?_ _) | (with_reducible refine Kd.C_drew ?_))); (case side2 => exact HC0.out); rintro e w' ⟨rfl, ⟨nd, rfl⟩⟩; refine ⟨_, rfl, ?_⟩))
    go_ret
    exact ⟨by first | rfl | (simp [errW_none, errW_some] <;> rfl) | (simp [*, errW_none, errW_some] <;> rfl), by repeat (first | (with_reducible first | exact HB.out | apply below_alloc | apply pw_below_drewN | apply below_drew1) | exact HB.out)⟩
  · replace c3 := Bool.eq_false_iff.mpr c3
    subst c3
    have H1 : ((spec_DrawFoldWords.f k l0).bind fun t170 => ((impl_FoldWords.f k t170).bind fun t173 => ((laws_word.f l0 2).bind fun t174 => ((some (([] : List Int) : List Int)).bind fun y175 => (if y175.length + t170.length < 35184372088832 then ((some (y175 ++ t170 : List Int)).bind fun y178 => (if y178.length < 35184372088832 then ((some (y178 ++ [t174] : List Int)).bind fun y181 => ((impl_FoldWords.f k y181).bind fun t184 => ((impl_RotWord.f t173 5).bind fun t185 => (if t184 = (((Go.bits .xor .u32 t185 t174) + 2654435769) % 4294967296) then ((some (([] : List Int) : List Int)).bind fun y186 => (if y186.length + y181.length < 35184372088832 then ((some (y186 ++ y181 : List Int)).bind fun y189 => ((laws_at.f l0 1).bind fun t192 => (if (y189.length : Int) = 0 then (none) else (if 0 ≤ (Int.tmod t192 (y189.length : Int)) then (if (Int.tmod t192 (y189.length : Int)) < (y189.length : Int) then ((laws_at.f l0 6).bind fun t194 => (if 0 ≤ (IntKind.u64.wrap (Int.tmod t194 32)) then ((impl_FoldWords.f k (y189.set ((Int.tmod t192 (y189.length : Int)) : Int).toNat (Go.bits .xor .u32 (rd y189 (Int.tmod t192 (y189.length : Int))) (shl .u32 1 (IntKind.u64.wrap (Int.tmod t194 32)))))).bind fun t196 => ((impl_FoldWords.f k y181).bind fun t197 => (some (t196 != t197)))) else (none))) else (none)) else (none))))) else (none))) else (some false))))) else (none))) else (none)))))) = some r := by rw [if_neg (show ¬ (false = true) by decide)] at H; exact H
    clear H
    have H := H1
    clear H1
    replace H := Option.bind_eq_some_iff.mp H
    obtain ⟨t170, A40, H⟩ := H
    replace H : ((impl_FoldWords.f k t170).bind fun t173 => ((laws_word.f l0 2).bind fun t174 => ((some (([] : List Int) : List Int)).bind fun y175 => (if y175.length + t170.length < 35184372088832 then ((some (y175 ++ t170 : List Int)).bind fun y178 => (if y178.length < 35184372088832 then ((some (y178 ++ [t174] : List Int)).bind fun y181 => ((impl_FoldWords.f k y181).bind fun t184 => ((impl_RotWord.f t173 5).bind fun t185 => (if t184 = (((Go.bits .xor .u32 t185 t174) + 2654435769) % 4294967296) then ((some (([] : List Int) : List Int)).bind fun y186 => (if y186.length + y181.length < 35184372088832 then ((some (y186 ++ y181 : List Int)).bind fun y189 => ((laws_at.f l0 1).bind fun t192 => (if (y189.length : Int) = 0 then (none) else (if 0 ≤ (Int.tmod t192 (y189.length : Int)) then (if (Int.tmod t192 (y189.length : Int)) < (y189.length : Int) then ((laws_at.f l0 6).bind fun t194 => (if 0 ≤ (IntKind.u64.wrap (Int.tmod t194 32)) then ((impl_FoldWords.f k (y189.set ((Int.tmod t192 (y189.length : Int)) : Int).toNat (Go.bits .xor .u32 (rd y189 (Int.tmod t192 (y189.length : Int))) (shl .u32 1 (IntKind.u64.wrap (Int.tmod t194 32)))))).bind fun t196 => ((impl_FoldWords.f k y181).bind fun t197 => (some (t196 != t197)))) else (none))) else (none)) else (none))))) else (none))) else (some false))))) else (none))) else (none))))) = some r := H
    have A4 := Aside0.mk A40
    clear A40
    replace H := Option.bind_eq_some_iff.mp H
    obtain ⟨t173, A50, H⟩ := H
    replace H : ((laws_word.f l0 2).bind fun t174 => ((some (([] : List Int) : List Int)).bind fun y175 => (if y175.length + t170.length < 35184372088832 then ((some (y175 ++ t170 : List Int)).bind fun y178 => (if y178.length < 35184372088832 then ((some (y178 ++ [t174] : List Int)).bind fun y181 => ((impl_FoldWords.f k y181).bind fun t184 => ((impl_RotWord.f t173 5).bind fun t185 => (if t184 = (((Go.bits .xor .u32 t185 t174) + 2654435769) % 4294967296) then ((some (([] : List Int) : List Int)).bind fun y186 => (if y186.length + y181.length < 35184372088832 then ((some (y186 ++ y181 : List Int)).bind fun y189 => ((laws_at.f l0 1).bind fun t192 => (if (y189.length : Int) = 0 then (none) else (if 0 ≤ (Int.tmod t192 (y189.length : Int)) then (if (Int.tmod t192 (y189.length : Int)) < (y189.length : Int) then ((laws_at.f l0 6).bind fun t194 => (if 0 ≤ (IntKind.u64.wrap (Int.tmod t194 32)) then ((impl_FoldWords.f k (y189.set ((Int.tmod t192 (y189.length : Int)) : Int).toNat (Go.bits .xor .u32 (rd y189 (Int.tmod t192 (y189.length : Int))) (shl .u32 1 (IntKind.u64.wrap (Int.tmod t194 32)))))).bind fun t196 => ((impl_FoldWords.f k y181).bind fun t197 => (some (t196 != t197)))) else (none))) else (none)) else (none))))) else (none))) else (some false))))) else (none))) else (none)))) = some r := H
    have A5 := Aside0.mk A50
    clear A50
    replace H := Option.bind_eq_some_iff.mp H
    obtain ⟨t174, A60, H⟩ := H
    replace H : ((some (([] : List Int) : List Int)).bind fun y175 => (if y175.length + t170.length < 35184372088832 then ((some (y175 ++ t170 : List Int)).bind fun y178 => (if y178.length < 35184372088832 then ((some (y178 ++ [t174] : List Int)).bind fun y181 => ((impl_FoldWords.f k y181).bind fun t184 => ((impl_RotWord.f t173 5).bind fun t185 => (if t184 = (((Go.bits .xor .u32 t185 t174) + 2654435769) % 4294967296) then ((some (([] : List Int) : List Int)).bind fun y186 => (if y186.length + y181.length < 35184372088832 then ((some (y186 ++ y181 : List Int)).bind fun y189 => ((laws_at.f l0 1).bind fun t192 => (if (y189.length : Int) = 0 then (none) else (if 0 ≤ (Int.tmod t192 (y189.length : Int)) then (if (Int.tmod t192 (y189.length : Int)) < (y189.length : Int) then ((laws_at.f l0 6).bind fun t194 => (if 0 ≤ (IntKind.u64.wrap (Int.tmod t194 32)) then ((impl_FoldWords.f k (y189.set ((Int.tmod t192 (y189.length : Int)) : Int).toNat (Go.bits .xor .u32 (rd y189 (Int.tmod t192 (y189.length : Int))) (shl .u32 1 (IntKind.u64.wrap (Int.tmod t194 32)))))).bind fun t196 => ((impl_FoldWords.f k y181).bind fun t197 => (some (t196 != t197)))) else (none))) else (none)) else (none))))) else (none))) else (some false))))) else (none))) else (none))) = some r := H
    have A6 := Aside0.mk A60
    clear A60
    obtain ⟨y175, hy175⟩ : ∃ y_ : List Int, y_ = (([] : List Int)) := ⟨_, rfl⟩
    replace H : (if y175.length + t170.length < 35184372088832 then ((some (y175 ++ t170 : List Int)).bind fun y178 => (if y178.length < 35184372088832 then ((some (y178 ++ [t174] : List Int)).bind fun y181 => ((impl_FoldWords.f k y181).bind fun t184 => ((impl_RotWord.f t173 5).bind fun t185 => (if t184 = (((Go.bits .xor .u32 t185 t174) + 2654435769) % 4294967296) then ((some (([] : List Int) : List Int)).bind fun y186 => (if y186.length + y181.length < 35184372088832 then ((some (y186 ++ y181 : List Int)).bind fun y189 => ((laws_at.f l0 1).bind fun t192 => (if (y189.length : Int) = 0 then (none) else (if 0 ≤ (Int.tmod t192 (y189.length : Int)) then (if (Int.tmod t192 (y189.length : Int)) < (y189.length : Int) then ((laws_at.f l0 6).bind fun t194 => (if 0 ≤ (IntKind.u64.wrap (Int.tmod t194 32)) then ((impl_FoldWords.f k (y189.set ((Int.tmod t192 (y189.length : Int)) : Int).toNat (Go.bits .xor .u32 (rd y189 (Int.tmod t192 (y189.length : Int))) (shl .u32 1 (IntKind.u64.wrap (Int.tmod t194 32)))))).bind fun t196 => ((impl_FoldWords.f k y181).bind fun t197 => (some (t196 != t197)))) else (none))) else (none)) else (none))))) else (none))) else (some false))))) else (none))) else (none)) = some r := by first | (rw [hy175]; with_reducible exact H) | (have H2_ := (Option.bind_some _ _).symm.trans H; rw [hy175]; with_reducible exact H2_) | (have H2_ := (Option.bind_some _ _).symm.trans H; with_reducible exact H2_) | with_reducible exact H | (rw [hy175]; exact H) | exact H
    have Ny175 := Aside0.mk hy175
    clear hy175
    by_cases c7 : y175.length + t170.length < 35184372088832
    · rw [if_pos c7] at H
      have LMc7 := Aside0.mk c7
      clear c7
      obtain ⟨y178, hy178⟩ : ∃ y_ : List Int, y_ = (y175 ++ t170) := ⟨_, rfl⟩
      replace H : (if y178.length < 35184372088832 then ((some (y178 ++ [t174] : List Int)).bind fun y181 => ((impl_FoldWords.f k y181).bind fun t184 => ((impl_RotWord.f t173 5).bind fun t185 => (if t184 = (((Go.bits .xor .u32 t185 t174) + 2654435769) % 4294967296) then ((some (([] : List Int) : List Int)).bind fun y186 => (if y186.length + y181.length < 35184372088832 then ((some (y186 ++ y181 : List Int)).bind fun y189 => ((laws_at.f l0 1).bind fun t192 => (if (y189.length : Int) = 0 then (none) else (if 0 ≤ (Int.tmod t192 (y189.length : Int)) then (if (Int.tmod t192 (y189.length : Int)) < (y189.length : Int) then ((laws_at.f l0 6).bind fun t194 => (if 0 ≤ (IntKind.u64.wrap (Int.tmod t194 32)) then ((impl_FoldWords.f k (y189.set ((Int.tmod t192 (y189.length : Int)) : Int).toNat (Go.bits .xor .u32 (rd y189 (Int.tmod t192 (y189.length : Int))) (shl .u32 1 (IntKind.u64.wrap (Int.tmod t194 32)))))).bind fun t196 => ((impl_FoldWords.f k y181).bind fun t197 => (some (t196 != t197)))) else (none))) else (none)) else (none))))) else (none))) else (some false))))) else (none)) = some r := by first | (rw [hy178]; with_reducible exact H) | (have H2_ := (Option.bind_some _ _).symm.trans H; rw [hy178]; with_reducible exact H2_) | (have H2_ := (Option.bind_some _ _).symm.trans H; with_reducible exact H2_) | with_reducible exact H | (rw [hy178]; exact H) | exact H
      have Ny178 := Aside0.mk hy178
      clear hy178
      by_cases c8 : y178.length < 35184372088832
      · rw [if_pos c8] at H
        have LMc8 := Aside0.mk c8
        clear c8
        obtain ⟨y181, hy181⟩ : ∃ y_ : List Int, y_ = (y178 ++ [t174]) := ⟨_, rfl⟩
        replace H : ((impl_FoldWords.f k y181).bind fun t184 => ((impl_RotWord.f t173 5).bind fun t185 => (if t184 = (((Go.bits .xor .u32 t185 t174) + 2654435769) % 4294967296) then ((some (([] : List Int) : List Int)).bind fun y186 => (if y186.length + y181.length < 35184372088832 then ((some (y186 ++ y181 : List Int)).bind fun y189 => ((laws_at.f l0 1).bind fun t192 => (if (y189.length : Int) = 0 then (none) else (if 0 ≤ (Int.tmod t192 (y189.length : Int)) then (if (Int.tmod t192 (y189.length : Int)) < (y189.length : Int) then ((laws_at.f l0 6).bind fun t194 => (if 0 ≤ (IntKind.u64.wrap (Int.tmod t194 32)) then ((impl_FoldWords.f k (y189.set ((Int.tmod t192 (y189.length : Int)) : Int).toNat (Go.bits .xor .u32 (rd y189 (Int.tmod t192 (y189.length : Int))) (shl .u32 1 (IntKind.u64.wrap (Int.tmod t194 32)))))).bind fun t196 => ((impl_FoldWords.f k y181).bind fun t197 => (some (t196 != t197)))) else (none))) else (none)) else (none))))) else (none))) else (some false)))) = some r := by first | (rw [hy181]; with_reducible exact H) | (have H2_ := (Option.bind_some _ _).symm.trans H; rw [hy181]; with_reducible exact H2_) | (have H2_ := (Option.bind_some _ _).symm.trans H; with_reducible exact H2_) | with_reducible exact H | (rw [hy181]; exact H) | exact H
        have Ny181 := Aside0.mk hy181
        clear hy181
        replace H := Option.bind_eq_some_iff.mp H
        obtain ⟨t184, A90, H⟩ := H
        replace H : ((impl_RotWord.f t173 5).bind fun t185 => (if t184 = (((Go.bits .xor .u32 t185 t174) + 2654435769) % 4294967296) then ((some (([] : List Int) : List Int)).bind fun y186 => (if y186.length + y181.length < 35184372088832 then ((some (y186 ++ y181 : List Int)).bind fun y189 => ((laws_at.f l0 1).bind fun t192 => (if (y189.length : Int) = 0 then (none) else (if 0 ≤ (Int.tmod t192 (y189.length : Int)) then (if (Int.tmod t192 (y189.length : Int)) < (y189.length : Int) then ((laws_at.f l0 6).bind fun t194 => (if 0 ≤ (IntKind.u64.wrap (Int.tmod t194 32)) then ((impl_FoldWords.f k (y189.set ((Int.tmod t192 (y189.length : Int)) : Int).toNat (Go.bits .xor .u32 (rd y189 (Int.tmod t192 (y189.length : Int))) (shl .u32 1 (IntKind.u64.wrap (Int.tmod t194 32)))))).bind fun t196 => ((impl_FoldWords.f k y181).bind fun t197 => (some (t196 != t197)))) else (none))) else (none)) else (none))))) else (none))) else (some false))) = some r := H
        have A9 := Aside0.mk A90
        clear A90
        replace H := Option.bind_eq_some_iff.mp H
        obtain ⟨t185, A100, H⟩ := H
        replace H : (if t184 = (((Go.bits .xor .u32 t185 t174) + 2654435769) % 4294967296) then ((some (([] : List Int) : List Int)).bind fun y186 => (if y186.length + y181.length < 35184372088832 then ((some (y186 ++ y181 : List Int)).bind fun y189 => ((laws_at.f l0 1).bind fun t192 => (if (y189.length : Int) = 0 then (none) else (if 0 ≤ (Int.tmod t192 (y189.length : Int)) then (if (Int.tmod t192 (y189.length : Int)) < (y189.length : Int) then ((laws_at.f l0 6).bind fun t194 => (if 0 ≤ (IntKind.u64.wrap (Int.tmod t194 32)) then ((impl_FoldWords.f k (y189.set ((Int.tmod t192 (y189.length : Int)) : Int).toNat (Go.bits .xor .u32 (rd y189 (Int.tmod t192 (y189.length : Int))) (shl .u32 1 (IntKind.u64.wrap (Int.tmod t194 32)))))).bind fun t196 => ((impl_FoldWords.f k y181).bind fun t197 => (some (t196 != t197)))) else (none))) else (none)) else (none))))) else (none))) else (some false)) = some r := H
        have A10 := Aside0.mk A100
        clear A100
        by_cases c11 : t184 = (((Go.bits .xor .u32 t185 t174) + 2654435769) % 4294967296)
        · rw [if_pos c11] at H
          have c11b0 : (t184 == (((Go.bits .xor .u32 t185 t174) + 2654435769) % 4294967296)) = true := beq_iff_eq.mpr c11
          have c11b1 : (t184 != (((Go.bits .xor .u32 t185 t174) + 2654435769) % 4294967296)) = false := bne_eq_false_iff_eq.mpr c11
          clear c11
          obtain ⟨y186, hy186⟩ : ∃ y_ : List Int, y_ = (([] : List Int)) := ⟨_, rfl⟩
          replace H : (if y186.length + y181.length < 35184372088832 then ((some (y186 ++ y181 : List Int)).bind fun y189 => ((laws_at.f l0 1).bind fun t192 => (if (y189.length : Int) = 0 then (none) else (if 0 ≤ (Int.tmod t192 (y189.length : Int)) then (if (Int.tmod t192 (y189.length : Int)) < (y189.length : Int) then ((laws_at.f l0 6).bind fun t194 => (if 0 ≤ (IntKind.u64.wrap (Int.tmod t194 32)) then ((impl_FoldWords.f k (y189.set ((Int.tmod t192 (y189.length : Int)) : Int).toNat (Go.bits .xor .u32 (rd y189 (Int.tmod t192 (y189.length : Int))) (shl .u32 1 (IntKind.u64.wrap (Int.tmod t194 32)))))).bind fun t196 => ((impl_FoldWords.f k y181).bind fun t197 => (some (t196 != t197)))) else (none))) else (none)) else (none))))) else (none)) = some r := by first | (rw [hy186]; with_reducible exact H) | (have H2_ := (Option.bind_some _ _).symm.trans H; rw [hy186]; with_reducible exact H2_) | (have H2_ := (Option.bind_some _ _).symm.trans H; with_reducible exact H2_) | with_reducible exact H | (rw [hy186]; exact H) | exact H
          have Ny186 := Aside0.mk hy186
          clear hy186
          by_cases c12 : y186.length + y181.length < 35184372088832
          · rw [if_pos c12] at H
            have LMc12 := Aside0.mk c12
            clear c12
            obtain ⟨y189, hy189⟩ : ∃ y_ : List Int, y_ = (y186 ++ y181) := ⟨_, rfl⟩
            replace H : ((laws_at.f l0 1).bind fun t192 => (if (y189.length : Int) = 0 then (none) else (if 0 ≤ (Int.tmod t192 (y189.length : Int)) then (if (Int.tmod t192 (y189.length : Int)) < (y189.length : Int) then ((laws_at.f l0 6).bind fun t194 => (if 0 ≤ (IntKind.u64.wrap (Int.tmod t194 32)) then ((impl_FoldWords.f k (y189.set ((Int.tmod t192 (y189.length : Int)) : Int).toNat (Go.bits .xor .u32 (rd y189 (Int.tmod t192 (y189.length : Int))) (shl .u32 1 (IntKind.u64.wrap (Int.tmod t194 32)))))).bind fun t196 => ((impl_FoldWords.f k y181).bind fun t197 => (some (t196 != t197)))) else (none))) else (none)) else (none)))) = some r := by first | (rw [hy189]; with_reducible exact H) | (have H2_ := (Option.bind_some _ _).symm.trans H; rw [hy189]; with_reducible exact H2_) | (have H2_ := (Option.bind_some _ _).symm.trans H; with_reducible exact H2_) | with_reducible exact H | (rw [hy189]; exact H) | exact H
            have Ny189 := Aside0.mk hy189
            clear hy189
            replace H := Option.bind_eq_some_iff.mp H
            obtain ⟨t192, A130, H⟩ := H
            replace H : (if (y189.length : Int) = 0 then (none) else (if 0 ≤ (Int.tmod t192 (y189.length : Int)) then (if (Int.tmod t192 (y189.length : Int)) < (y189.length : Int) then ((laws_at.f l0 6).bind fun t194 => (if 0 ≤ (IntKind.u64.wrap (Int.tmod t194 32)) then ((impl_FoldWords.f k (y189.set ((Int.tmod t192 (y189.length : Int)) : Int).toNat (Go.bits .xor .u32 (rd y189 (Int.tmod t192 (y189.length : Int))) (shl .u32 1 (IntKind.u64.wrap (Int.tmod t194 32)))))).bind fun t196 => ((impl_FoldWords.f k y181).bind fun t197 => (some (t196 != t197)))) else (none))) else (none)) else (none))) = some r := H
            have A13 := Aside0.mk A130
            clear A130
            by_cases c14 : (y189.length : Int) = 0
            · rw [if_pos c14] at H
              exact absurd H (by simp)
            · rw [if_neg c14] at H
              have c14b0 : ((y189.length : Int) == 0) = false := beq_eq_false_iff_ne.mpr c14
              have c14b1 : ((y189.length : Int) != 0) = true := bne_iff_ne.mpr c14
              have c14b2 : ¬ (y189 = []) := fun h_ => c14 (by rw [h_]; rfl)
              obtain ⟨ji15, hji15⟩ : ∃ j_ : Int, (Int.tmod t192 (y189.length : Int)) = j_ := ⟨_, rfl⟩
              replace H : (if 0 ≤ (ji15) then (if (ji15) < (y189.length : Int) then ((laws_at.f l0 6).bind fun t194 => (if 0 ≤ (IntKind.u64.wrap (Int.tmod t194 32)) then ((impl_FoldWords.f k (y189.set ((ji15) : Int).toNat (Go.bits .xor .u32 (rd y189 (ji15)) (shl .u32 1 (IntKind.u64.wrap (Int.tmod t194 32)))))).bind fun t196 => ((impl_FoldWords.f k y181).bind fun t197 => (some (t196 != t197)))) else (none))) else (none)) else (none)) = some r := by first | (rw [hji15] at H; exact H) | (simp only [hji15] at H ⊢; exact H)
              (try rw [hji15] at A2)
              (try rw [hji15] at A4)
              (try rw [hji15] at A5)
              (try rw [hji15] at A6)
              (try rw [hji15] at A9)
              (try rw [hji15] at A10)
              (try rw [hji15] at A13)
              by_cases c16 : 0 ≤ (ji15)
              · rw [if_pos c16] at H
                have c16b0 : decide (0 ≤ (ji15)) = true := decide_eq_true c16
                clear c16
                by_cases c17 : (ji15) < (y189.length : Int)
                · rw [if_pos c17] at H
                  have c17b0 : decide ((ji15) < (y189.length : Int)) = true := decide_eq_true c17
                  clear c17
                  replace H := Option.bind_eq_some_iff.mp H
                  obtain ⟨t194, A180, H⟩ := H
                  replace H : (if 0 ≤ (IntKind.u64.wrap (Int.tmod t194 32)) then ((impl_FoldWords.f k (y189.set ((ji15) : Int).toNat (Go.bits .xor .u32 (rd y189 (ji15)) (shl .u32 1 (IntKind.u64.wrap (Int.tmod t194 32)))))).bind fun t196 => ((impl_FoldWords.f k y181).bind fun t197 => (some (t196 != t197)))) else (none)) = some r := H
                  have A18 := Aside0.mk A180
                  clear A180
                  obtain ⟨ji19, hji19⟩ : ∃ j_ : Int, (IntKind.u64.wrap (Int.tmod t194 32)) = j_ := ⟨_, rfl⟩
                  replace H : (if 0 ≤ (ji19) then ((impl_FoldWords.f k (y189.set ((ji15) : Int).toNat (Go.bits .xor .u32 (rd y189 (ji15)) (shl .u32 1 (ji19))))).bind fun t196 => ((impl_FoldWords.f k y181).bind fun t197 => (some (t196 != t197)))) else (none)) = some r := by first | (rw [hji19] at H; exact H) | (simp only [hji19] at H ⊢; exact H)
                  (try rw [hji19] at A2)
                  (try rw [hji19] at A4)
                  (try rw [hji19] at A5)
                  (try rw [hji19] at A6)
                  (try rw [hji19] at A9)
                  (try rw [hji19] at A10)
                  (try rw [hji19] at A13)
                  (try rw [hji19] at A18)
                  by_cases c20 : 0 ≤ (ji19)
                  · rw [if_pos c20] at H
                    have c20b0 := eq_true c20
                    have c20b1 : decide (0 ≤ (ji19)) = true := decide_eq_true c20
                    clear c20
                    obtain ⟨ji21, hji21⟩ : ∃ j_ : Int, (shl .u32 1 (ji19)) = j_ := ⟨_, rfl⟩
                    replace H : ((impl_FoldWords.f k (y189.set ((ji15) : Int).toNat (Go.bits .xor .u32 (rd y189 (ji15)) (ji21)))).bind fun t196 => ((impl_FoldWords.f k y181).bind fun t197 => (some (t196 != t197)))) = some r := by first | (rw [hji21] at H; exact H) | (simp only [hji21] at H ⊢; exact H)
                    (try rw [hji21] at A2)
                    (try rw [hji21] at A4)
                    (try rw [hji21] at A5)
                    (try rw [hji21] at A6)
                    (try rw [hji21] at A9)
                    (try rw [hji21] at A10)
                    (try rw [hji21] at A13)
                    (try rw [hji21] at A18)
                    have hji21_ : (IntKind.u32.wrap (1 * 2 ^ min (ji19).toNat 32)) = ji21 := hji21
                    have hji21z : (ji19) ≤ 32 → (IntKind.u32.wrap (1 * 2 ^ (ji19).toNat)) = ji21 := shl_small hji21
                    have hji21u : (IntKind.u32.wrap (2 ^ min (ji19).toNat 32)) = ji21 := by have h_ := hji21_; rw [Int.one_mul] at h_; exact h_
                    have hji21v : (ji19) ≤ 32 → (IntKind.u32.wrap (2 ^ (ji19).toNat)) = ji21 := fun hle_ => by have h_ := hji21z hle_; rw [Int.one_mul] at h_; exact h_
                    obtain ⟨y195, hy195⟩ : ∃ y_ : List Int, y_ = (y189.set ((ji15) : Int).toNat (Go.bits .xor .u32 (rd y189 (ji15)) (ji21))) := ⟨_, rfl⟩
                    replace H : ((impl_FoldWords.f k y195).bind fun t196 => ((impl_FoldWords.f k y181).bind fun t197 => (some (t196 != t197)))) = some r := by first | (rw [hy195]; with_reducible exact H) | (have H2_ := (Option.bind_some _ _).symm.trans H; rw [hy195]; with_reducible exact H2_) | (have H2_ := (Option.bind_some _ _).symm.trans H; with_reducible exact H2_) | with_reducible exact H | (rw [hy195]; exact H) | exact H
                    have Ny195 := Aside0.mk hy195
                    clear hy195
                    replace H := Option.bind_eq_some_iff.mp H
                    obtain ⟨t196, A230, H⟩ := H
                    replace H : ((impl_FoldWords.f k y181).bind fun t197 => (some (t196 != t197))) = some r := H
                    have A23 := Aside0.mk A230
                    clear A230
                    replace H := Option.bind_eq_some_iff.mp H
                    obtain ⟨t197, A240, H⟩ := H
                    replace H : (some (t196 != t197)) = some r := H
                    have A24 := Aside0.mk A240
                    clear A240
                    obtain rfl := Option.some.inj H
                    go_enter Try.func10, Try.ntmps10
                    try go_wp2_with (first | ((with_reducible refine gate_callee (f := 40) rfl ?_); refine goesL_ (some 9) rfl rfl Try.func40 (by kernel_rfl) rfl #[.slice A0 l0.length c0] rfl (by (try simp only [List.map_toArray, List.map_cons, List.map_nil]); first | done | rfl | (simp only [List.length_drop, List.length_take]; rfl)) ?_; (with_reducible refine (laws_big.calls _ _ l0 false _ ?side1 ?side2 A2.out).mono ?_); (case side1 => repeat (first | exact HR0.out | (with_reducible refine Kd.C_alloc ?_ _) | (with_reducible refine Kd.C_drewN ?_ _) | (with_reducible refine Kd.C_drew ?_))); (case side2 => exact HC0.out); rintro e w' ⟨rfl, ⟨nd, rfl⟩⟩; refine ⟨_, rfl, ?_⟩) | ((with_reducible refine gate_callee (f := 41) rfl ?_); refine goesL_ (some 11) rfl rfl Try.func41 (by kernel_rfl) rfl #[.slice A0 l0.length c0] rfl (by (try simp only [List.map_toArray, List.map_cons, List.map_nil]); first | done | rfl | (simp only [List.length_drop, List.length_take]; rfl)) ?_; (with_reducible refine (spec_DrawFoldWords.calls k _ _ l0 t170 _ ?side1 ?side2 A4.out).mono ?_); (case side1 => repeat (first | exact HR0.out | (with_reducible refine Kd.C_alloc ?_ _) | (with_reducible refine Kd.C_drewN ?_ _) | (with_reducible refine Kd.C_drew ?_))); (case side2 => exact HC0.out); rintro e w25 ⟨v171, rfl, ho0, hb⟩; refine ⟨_, rfl, ?_⟩; have n0_ := Aside0.mk (Kd.R_lower ho0 (below_size (by repeat (first | (with_reducible first | exact HB.out | apply below_alloc | apply pw_below_drewN | apply below_drew1) | exact HB.out)))); have n1_ := Aside0.mk (below_step (by repeat (first | (with_reducible first | exact HB.out | apply below_alloc | apply pw_below_drewN | apply below_drew1) | exact HB.out)) hb); clear HB; have HO172 := n0_; have HB := n1_; clear n0_ n1_; (try clear hb); (try clear hb2); (try clear hk); (try clear hi); (try clear ho0); obtain ⟨Ao26, co26, eo26⟩ := Kd.R_slice HO172.out; subst eo26) | ((with_reducible refine gate_callee (f := 24) rfl ?_); refine goesL_ (some 13) rfl rfl Try.func24 (by kernel_rfl) rfl #[.slice Ao26 t170.length co26] rfl (by (try simp only [List.map_toArray, List.map_cons, List.map_nil]); first | done | rfl | (simp only [List.length_drop, List.length_take]; rfl)) ?_; (with_reducible refine (impl_FoldWords.calls k _ _ t170 t173 _ ?side1 ?side2 A5.out).mono ?_); (case side1 => repeat (first | exact (Kd.R_reads' HO172.out).2.2 | (with_reducible refine Kd.C_alloc ?_ _) | (with_reducible refine Kd.C_drewN ?_ _) | (with_reducible refine Kd.C_drew ?_))); (case side2 => exact (Kd.R_reads' HO172.out).2.1); rintro e w' ⟨rfl, ⟨nd, rfl⟩⟩; refine ⟨_, rfl, ?_⟩; (try (rw [drewN_self w25]; generalize hq_ : World.drewN w25 _ = w25; have n0_ : Aside0 (Kd.R (Kd.int .u32) 22 w25 w.heap.size (fun _ => True) (.slice Ao26 t170.length co26) t170) := ⟨by rw [← hq_]; exact (by (with_reducible repeat (first | apply Kd.R_alloc | apply Kd.R_drewN | apply Kd.R_drew)); exact HO172.out)⟩; have n1_ : Aside0 (Below w.heap.size w w25) := ⟨by rw [← hq_]; exact (by repeat (first | (with_reducible first | exact HB.out | apply below_alloc | apply pw_below_drewN | apply below_drew1) | exact HB.out))⟩; clear HO172 HB hq_; have HO172 := n0_; have HB := n1_; clear n0_ n1_))) | ((with_reducible refine gate_callee (f := 42) rfl ?_); refine goesL_ (some 15) rfl rfl Try.func42 (by kernel_rfl) rfl #[.slice A0 l0.length c0, .int .i64 2] rfl (by (try simp only [List.map_toArray, List.map_cons, List.map_nil]); first | done | rfl | (simp only [List.length_drop, List.length_take]; rfl)) ?_; (with_reducible refine (laws_word.calls _ _ l0 2 t174 _ ?side1 ?side2 A6.out).mono ?_); (case side1 => repeat (first | exact (Kd.C_below HR0.out HB.out) | (with_reducible refine Kd.C_alloc ?_ _) | (with_reducible refine Kd.C_drewN ?_ _) | (with_reducible refine Kd.C_drew ?_))); (case side2 => exact HC0.out); rintro e w' ⟨rfl, ⟨nd, rfl⟩⟩; refine ⟨_, rfl, ?_⟩; (try (rw [drewN_self w25]; generalize hq_ : World.drewN w25 _ = w25; have n0_ : Aside0 (Kd.R (Kd.int .u32) 22 w25 w.heap.size (fun _ => True) (.slice Ao26 t170.length co26) t170) := ⟨by rw [← hq_]; exact (by (with_reducible repeat (first | apply Kd.R_alloc | apply Kd.R_drewN | apply Kd.R_drew)); exact HO172.out)⟩; have n1_ : Aside0 (Below w.heap.size w w25) := ⟨by rw [← hq_]; exact (by repeat (first | (with_reducible first | exact HB.out | apply below_alloc | apply pw_below_drewN | apply below_drew1) | exact HB.out))⟩; clear HO172 HB hq_; have HO172 := n0_; have HB := n1_; clear n0_ n1_))) | ((with_reducible refine gate_dst (N := 16) rfl ?_); refine Kd.R_lit (Kd.int .u32) _ 22 ?hg (N := 16) ?hd (xs := ([] : List Int)) (inner := []) (ok := fun _ => True) (okp := fun _ => True) ?hr ?hp (fun _ hk => hk) trivial (Below.refl _ _) (Nat.le_refl _) (by simp) ?_; (case hd => rfl); (case hg => rfl); (case hr => first | (go_simp; done) | (go_simp; rfl)); (case hp => exact (Reps.none _ _)); intro v176 w27 ho28 hb hg_ hnew_; clear hg_ hnew_; (first | rw [← Ny175.out] at ho28 | (simp only [Int.reduceToNat] at ho28; rw [← Ny175.out] at ho28)); have n0_ := Aside0.mk (Kd.R_elder' (by (with_reducible repeat (first | apply Kd.R_alloc | apply Kd.R_drewN | apply Kd.R_drew)); exact HO172.out) (Kd.R_base ho28) hb); have n1_ := Aside0.mk (Kd.R_lower (Kd.R_new' ho28 (Kd.R_lt (by (with_reducible repeat (first | apply Kd.R_alloc | apply Kd.R_drewN | apply Kd.R_drew)); exact HO172.out))) (below_size (by repeat (first | (with_reducible first | exact HB.out | apply below_alloc | apply pw_below_drewN | apply below_drew1) | exact HB.out)))); have n2_ := Aside0.mk (below_step (by repeat (first | (with_reducible first | exact HB.out | apply below_alloc | apply pw_below_drewN | apply below_drew1) | exact HB.out)) hb); clear HO172; clear HB; have HO172 := n0_; have HO177 := n1_; have HB := n2_; clear n0_ n1_ n2_; clear hb ho28) | ((with_reducible refine gate_builtin (b := .append) (xs := #[.tmp 16, .tmp 17]) rfl ?_); at_builtin; refine Kd.R_append_rows (Kd.int .u32) (w0 := w) w.heap.size rfl (.tmp 16) (.tmp 17) 30 22 (.int .u32 0) 4 rfl Try.underlying30 info22 rfl (by decide) (by omega) v176 y175 t170 _ _ _ (fun k_ => some k_ ≠ (.slice Ao26 t170.length co26 : Value).ownBlock) (fun _ => False) rfl rfl ?aO ?aR (fun _ _ h => h) (fun _ h => h.elim) ?aF ?aB ?aS ?aL ?_; (case aR => repeat (first | exact (Kd.R_reads' HO172.out).2.2 | (with_reducible refine Kd.C_alloc ?_ _) | (with_reducible refine Kd.C_drewN ?_ _) | (with_reducible refine Kd.C_drew ?_))); (case aB => exact (by repeat (first | (with_reducible first | exact HB.out | apply below_alloc | apply pw_below_drewN | apply below_drew1) | exact HB.out))); (case aF => exact (fun k_ hk => Kd.fresh' (Kd.R_lt (by (with_reducible repeat (first | apply Kd.R_alloc | apply Kd.R_drewN | apply Kd.R_drew)); exact HO172.out)) k_ hk)); (case aO => exact (by (with_reducible repeat (first | apply Kd.R_alloc | apply Kd.R_drewN | apply Kd.R_drew)); exact Kd.R_mono HO177.out (fun _ hk => hk.2))); (case aS => exact (below_size (by repeat (first | (with_reducible first | exact HB.out | apply below_alloc | apply pw_below_drewN | apply below_drew1) | exact HB.out)))); (case aL => have := LMc7.out; omega); intro v179 w29 ho hb hg hat; rw [← Ny178.out] at ho; have n0_ := Aside0.mk (Kd.R_after (ok := (fun _ => True)) (by (with_reducible repeat (first | apply Kd.R_alloc | apply Kd.R_drewN | apply Kd.R_drew)); exact HO172.out) hg hat); have n1_ := Aside0.mk (hb); have n2_ := Aside0.mk (ho); clear HO172; clear HB; clear HO177; have HO172 := n0_; have HB := n1_; have HO180 := n2_; clear n0_ n1_ n2_; clear ho hb hg hat) | ((with_reducible refine gate_builtin (b := .append) (xs := #[.tmp 18, .tmp 20]) rfl ?_); at_builtin; refine Kd.R_append (Kd.int .u32) (w0 := w) w.heap.size rfl (.tmp 18) (.tmp 20) 30 22 (.int .u32 0) 4 rfl Try.underlying30 info22 rfl (by decide) (by omega) v179 y178 t174 [.int .u32 t174] (fun k_ => some k_ ≠ (.slice Ao26 t170.length co26 : Value).ownBlock) (fun _ => False) rfl rfl ?aP (fun _ hk => hk.elim) ?aF ?aO ?aB ?aS ?aL ?_; (case aP => exact rfl); (case aB => exact (by repeat (first | (with_reducible first | exact HB.out | apply below_alloc | apply pw_below_drewN | apply below_drew1) | exact HB.out))); (case aF => exact (fun k_ hk => Kd.fresh' (Kd.R_lt (by (with_reducible repeat (first | apply Kd.R_alloc | apply Kd.R_drewN | apply Kd.R_drew)); exact HO172.out)) k_ hk)); (case aO => exact (by (with_reducible repeat (first | apply Kd.R_alloc | apply Kd.R_drewN | apply Kd.R_drew)); exact HO180.out)); (case aS => exact (below_size (by repeat (first | (with_reducible first | exact HB.out | apply below_alloc | apply pw_below_drewN | apply below_drew1) | exact HB.out)))); (case aL => have := LMc8.out; omega); intro v182 w30 ho hb hg hat; rw [← Ny181.out] at ho; have n0_ := Aside0.mk (Kd.R_after (ok := (fun _ => True)) (by (with_reducible repeat (first | apply Kd.R_alloc | apply Kd.R_drewN | apply Kd.R_drew)); exact HO172.out) hg hat); have n1_ := Aside0.mk (hb); have n2_ := Aside0.mk (ho); clear HO172; clear HB; clear HO180; have HO172 := n0_; have HB := n1_; have HO183 := n2_; clear n0_ n1_ n2_; clear ho hb hg hat; obtain ⟨Ao31, co31, eo31⟩ := Kd.R_slice HO183.out; subst eo31) | ((with_reducible refine gate_callee (f := 24) rfl ?_); refine goesL_ (some 23) rfl rfl Try.func24 (by kernel_rfl) rfl #[.slice Ao31 y181.length co31] rfl (by (try simp only [List.map_toArray, List.map_cons, List.map_nil]); first | done | rfl | (simp only [List.length_drop, List.length_take]; rfl)) ?_; (with_reducible refine (impl_FoldWords.calls k _ _ y181 t184 _ ?side1 ?side2 A9.out).mono ?_); (case side1 => repeat (first | exact (Kd.R_reads' HO183.out).2.2 | (with_reducible refine Kd.C_alloc ?_ _) | (with_reducible refine Kd.C_drewN ?_ _) | (with_reducible refine Kd.C_drew ?_))); (case side2 => exact (Kd.R_reads' HO183.out).2.1); rintro e w' ⟨rfl, ⟨nd, rfl⟩⟩; refine ⟨_, rfl, ?_⟩; (try (rw [drewN_self w30]; generalize hq_ : World.drewN w30 _ = w30; have n0_ : Aside0 (Kd.R (Kd.int .u32) 22 w30 w.heap.size (fun k_ => some k_ ≠ (.slice Ao31 y181.length co31 : Value).ownBlock) (.slice Ao26 t170.length co26) t170) := ⟨by rw [← hq_]; exact (by (with_reducible repeat (first | apply Kd.R_alloc | apply Kd.R_drewN | apply Kd.R_drew)); exact Kd.R_mono HO172.out (fun _ hk => hk.2))⟩; have n1_ : Aside0 (Kd.R (Kd.int .u32) 22 w30 w.heap.size (fun k_ => some k_ ≠ (.slice Ao26 t170.length co26 : Value).ownBlock) (.slice Ao31 y181.length co31) y181) := ⟨by rw [← hq_]; exact (by (with_reducible repeat (first | apply Kd.R_alloc | apply Kd.R_drewN | apply Kd.R_drew)); exact HO183.out)⟩; have n2_ : Aside0 (Below w.heap.size w w30) := ⟨by rw [← hq_]; exact (by repeat (first | (with_reducible first | exact HB.out | apply below_alloc | apply pw_below_drewN | apply below_drew1) | exact HB.out))⟩; clear HO172 HO183 HB hq_; have HO172 := n0_; have HO183 := n1_; have HB := n2_; clear n0_ n1_ n2_))) | ((with_reducible refine gate_callee (f := 43) rfl ?_); refine goesL_ (some 25) rfl rfl Try.func43 (by kernel_rfl) rfl #[.int .u32 t173, .int .i64 5] rfl (by (try simp only [List.map_toArray, List.map_cons, List.map_nil]); first | done | rfl | (simp only [List.length_drop, List.length_take]; rfl)) ?_; (with_reducible refine (impl_RotWord.calls t173 5 t185 _ A10.out).mono ?_); rintro e w' ⟨rfl, ⟨nd, rfl⟩⟩; refine ⟨_, rfl, ?_⟩; (try (rw [drewN_self w30]; generalize hq_ : World.drewN w30 _ = w30; have n0_ : Aside0 (Kd.R (Kd.int .u32) 22 w30 w.heap.size (fun k_ => some k_ ≠ (.slice Ao31 y181.length co31 : Value).ownBlock) (.slice Ao26 t170.length co26) t170) := ⟨by rw [← hq_]; exact (by (with_reducible repeat (first | apply Kd.R_alloc | apply Kd.R_drewN | apply Kd.R_drew)); exact Kd.R_mono HO172.out (fun _ hk => hk.2))⟩; have n1_ : Aside0 (Kd.R (Kd.int .u32) 22 w30 w.heap.size (fun k_ => some k_ ≠ (.slice Ao26 t170.length co26 : Value).ownBlock) (.slice Ao31 y181.length co31) y181) := ⟨by rw [← hq_]; exact (by (with_reducible repeat (first | apply Kd.R_alloc | apply Kd.R_drewN | apply Kd.R_drew)); exact HO183.out)⟩; have n2_ : Aside0 (Below w.heap.size w w30) := ⟨by rw [← hq_]; exact (by repeat (first | (with_reducible first | exact HB.out | apply below_alloc | apply pw_below_drewN | apply below_drew1) | exact HB.out))⟩; clear HO172 HO183 HB hq_; have HO172 := n0_; have HO183 := n1_; have HB := n2_; clear n0_ n1_ n2_))) | ((with_reducible refine gate_dst (N := 30) rfl ?_); refine Kd.R_lit (Kd.int .u32) _ 22 ?hg (N := 30) ?hd (xs := ([] : List Int)) (inner := []) (ok := fun _ => True) (okp := fun _ => True) ?hr ?hp (fun _ hk => hk) trivial (Below.refl _ _) (Nat.le_refl _) (by simp) ?_; (case hd => rfl); (case hg => rfl); (case hr => first | (go_simp; done) | (go_simp; rfl)); (case hp => exact (Reps.none _ _)); intro v187 w32 ho33 hb hg_ hnew_; clear hg_ hnew_; (first | rw [← Ny186.out] at ho33 | (simp only [Int.reduceToNat] at ho33; rw [← Ny186.out] at ho33)); have n0_ := Aside0.mk (Kd.R_elder' (by (with_reducible repeat (first | apply Kd.R_alloc | apply Kd.R_drewN | apply Kd.R_drew)); exact HO172.out) (Kd.R_base ho33) hb); have n1_ := Aside0.mk (Kd.R_elder' (by (with_reducible repeat (first | apply Kd.R_alloc | apply Kd.R_drewN | apply Kd.R_drew)); exact HO183.out) (Kd.R_base ho33) hb); have n2_ := Aside0.mk (Kd.R_lower (Kd.R_new' (Kd.R_new' ho33 (Kd.R_lt (by (with_reducible repeat (first | apply Kd.R_alloc | apply Kd.R_drewN | apply Kd.R_drew)); exact HO172.out))) (Kd.R_lt (by (with_reducible repeat (first | apply Kd.R_alloc | apply Kd.R_drewN | apply Kd.R_drew)); exact HO183.out))) (below_size (by repeat (first | (with_reducible first | exact HB.out | apply below_alloc | apply pw_below_drewN | apply below_drew1) | exact HB.out)))); have n3_ := Aside0.mk (below_step (by repeat (first | (with_reducible first | exact HB.out | apply below_alloc | apply pw_below_drewN | apply below_drew1) | exact HB.out)) hb); clear HO172; clear HO183; clear HB; have HO172 := n0_; have HO183 := n1_; have HO188 := n2_; have HB := n3_; clear n0_ n1_ n2_ n3_; clear hb ho33) | ((with_reducible refine gate_builtin (b := .append) (xs := #[.tmp 30, .tmp 31]) rfl ?_); at_builtin; refine Kd.R_append_rows (Kd.int .u32) (w0 := w) w.heap.size rfl (.tmp 30) (.tmp 31) 30 22 (.int .u32 0) 4 rfl Try.underlying30 info22 rfl (by decide) (by omega) v187 y186 y181 _ _ _ (fun k_ => some k_ ≠ (.slice Ao26 t170.length co26 : Value).ownBlock ∧ some k_ ≠ (.slice Ao31 y181.length co31 : Value).ownBlock) (fun _ => False) rfl rfl ?aO ?aR (fun _ _ h => h) (fun _ h => h.elim) ?aF ?aB ?aS ?aL ?_; (case aR => repeat (first | exact (Kd.R_reads' HO183.out).2.2 | (with_reducible refine Kd.C_alloc ?_ _) | (with_reducible refine Kd.C_drewN ?_ _) | (with_reducible refine Kd.C_drew ?_))); (case aB => exact (by repeat (first | (with_reducible first | exact HB.out | apply below_alloc | apply pw_below_drewN | apply below_drew1) | exact HB.out))); (case aF => exact (fun k_ hk => ⟨Kd.fresh' (Kd.R_lt (by (with_reducible repeat (first | apply Kd.R_alloc | apply Kd.R_drewN | apply Kd.R_drew)); exact HO172.out)) k_ hk, Kd.fresh' (Kd.R_lt (by (with_reducible repeat (first | apply Kd.R_alloc | apply Kd.R_drewN | apply Kd.R_drew)); exact HO183.out)) k_ hk⟩)); (case aO => exact (by (with_reducible repeat (first | apply Kd.R_alloc | apply Kd.R_drewN | apply Kd.R_drew)); exact Kd.R_mono HO188.out (fun _ hk => by first | exact ⟨hk.1.2, hk.2⟩ | exact hk))); (case aS => exact (below_size (by repeat (first | (with_reducible first | exact HB.out | apply below_alloc | apply pw_below_drewN | apply below_drew1) | exact HB.out)))); (case aL => have := LMc12.out; omega); intro v190 w34 ho hb hg hat; rw [← Ny189.out] at ho; have n0_ := Aside0.mk (Kd.R_after (ok := (fun k_ => some k_ ≠ (.slice Ao31 y181.length co31 : Value).ownBlock)) (by (with_reducible repeat (first | apply Kd.R_alloc | apply Kd.R_drewN | apply Kd.R_drew)); exact Kd.R_mono HO172.out (fun _ hk => by first | exact ⟨hk.1.2, hk.2⟩ | exact hk)) hg hat); have n1_ := Aside0.mk (Kd.R_after (ok := (fun k_ => some k_ ≠ (.slice Ao26 t170.length co26 : Value).ownBlock)) (by (with_reducible repeat (first | apply Kd.R_alloc | apply Kd.R_drewN | apply Kd.R_drew)); exact HO183.out) hg hat); have n2_ := Aside0.mk (hb); have n3_ := Aside0.mk (ho); clear HO172; clear HO183; clear HB; clear HO188; have HO172 := n0_; have HO183 := n1_; have HB := n2_; have HO191 := n3_; clear n0_ n1_ n2_ n3_; clear ho hb hg hat))
                    have n0_ := Aside0.mk (Kd.R_drew HO172.out)
                    have n1_ := Aside0.mk (Kd.R_drew HO183.out)
                    have n2_ := Aside0.mk (Kd.R_drew HO191.out)
                    have n3_ := Aside0.mk (below_drew1 HB.out)
                    clear HO172
                    clear HO183
                    clear HO191
                    clear HB
                    have HO172 := n0_
                    have HO183 := n1_
                    have HO191 := n2_
                    have HB := n3_
                    clear n0_ n1_ n2_ n3_
                    obtain ⟨Ao36, co36, eo36⟩ := Kd.R_slice HO191.out
                    (first | subst eo36 | (injection eo36 with f1_ f2_ f3_; have f4_ := f1_.symm; have f5_ := f3_.symm; clear f1_ f2_ f3_; subst f4_; subst f5_))
                    have p193 : 0 ≤ ((ji15) : Int) := of_decide_eq_true (by first | (with_reducible assumption) | assumption)
                    have q193 : (ji15) < (y189.length : Int) := of_decide_eq_true (by first | (with_reducible assumption) | assumption)
                    obtain ⟨ad193, e193, hx193_0⟩ := Kd.at_int (Kd.R_reads' HO191.out).2.2 (ji15) p193 q193
                    cases e193
                    replace p193 := eq_true p193
                    replace q193 := eq_true q193
                    refine start_ (n := 16) (S := fun w' => w'.cell? (ad193.add ((ji15)).toNat) = some (.int .u32 (rd y189 (ji15)))) (ds := [15]) #[false, false, false, false, false, false, false, false, false, false, false, false, false, false, false, false] (by kernel_rfl) rfl rfl (hx193_0) (fun hHeld => ?_); refine with_tabW laws_FnFold.tab10 laws_FnFold.bits10 (fun HT_ HW_ => ?_)
                    generalize w34.drew = w35 at HO172 HO183 HO191 HB hx193_0 hHeld ⊢
                    refine pure_ (i := 0) (N := some 33) (v := ?_) (a' := ?_) #[true, false, false, false, false, false, false, false, false, false, false, false, false, false, false, false] rfl rfl (any_of HT_.out (by kernel_rfl)) (fun _ _ _ h => h) (Or.inl ⟨by rfl, ?_⟩) ?_ ?_
                    rotate_left
                    · intro w'
                      go_simp
                      with_reducible rfl
                    rotate_left
                    · simp only [Act.put, List.setIfInBounds_toArray, List.set_cons_zero, List.set_cons_succ, i64_w, i32_w]
                      rfl
                    refine pure_ (i := 1) (N := some 34) (v := ?_) (a' := ?_) #[true, true, false, false, false, false, false, false, false, false, false, false, false, false, false, false] rfl rfl (any_of HT_.out (by kernel_rfl)) (fun _ _ _ h => h) (Or.inl ⟨by rfl, ?_⟩) ?_ ?_
                    rotate_left
                    · intro w'
                      go_simp
                      with_reducible rfl
                    rotate_left
                    · simp only [Act.put, List.setIfInBounds_toArray, List.set_cons_zero, List.set_cons_succ, i64_w, i32_w]
                      rfl
                    refine pure_ (i := 3) (N := some 36) (v := ?_) (a' := ?_) #[true, true, false, true, false, false, false, false, false, false, false, false, false, false, false, false] rfl rfl (any_of HT_.out (by kernel_rfl)) (fun _ _ _ h => h) (Or.inl ⟨by rfl, ?_⟩) ?_ ?_
                    rotate_left
                    · intro w'
                      go_simp
                      with_reducible rfl
                    rotate_left
                    · simp only [Act.put, List.setIfInBounds_toArray, List.set_cons_zero, List.set_cons_succ, i64_w, i32_w]
                      rfl
                    refine pure_ (i := 4) (N := some 37) (v := ?_) (a' := ?_) #[true, true, false, true, true, false, false, false, false, false, false, false, false, false, false, false] rfl rfl (any_of HT_.out (by kernel_rfl)) (fun _ _ _ h => h) (Or.inl ⟨by rfl, ?_⟩) ?_ ?_
                    rotate_left
                    · intro w'
                      go_simp
                      with_reducible rfl
                    rotate_left
                    · simp only [Act.put, List.setIfInBounds_toArray, List.set_cons_zero, List.set_cons_succ, i64_w, i32_w]
                      rfl
                    refine pure_ (i := 8) (N := some 41) (v := ?_) (a' := ?_) #[true, true, false, true, true, false, false, false, true, false, false, false, false, false, false, false] rfl rfl (any_of HT_.out (by kernel_rfl)) (fun _ _ _ h => h) (Or.inl ⟨by rfl, ?_⟩) ?_ ?_
                    rotate_left
                    · intro w'
                      go_simp
                      with_reducible rfl
                    rotate_left
                    · simp only [Act.put, List.setIfInBounds_toArray, List.set_cons_zero, List.set_cons_succ, i64_w, i32_w]
                      rfl
                    refine one_ (i := 2) (N := some 35) #[true, true, true, true, true, false, false, false, true, false, false, false, false, false, false, false] rfl rfl (one_of HT_.out (by kernel_rfl)) (by decide) (fun K hK => ?_)
                    refine goes_ Try.func44 (by kernel_rfl) rfl #[.slice A0 l0.length c0, .int .i64 1] (by rfl) rfl rfl (by (try simp only [List.map_toArray, List.map_cons, List.map_nil]); first | done | rfl | (simp only [List.length_drop, List.length_take]; rfl)) ?_
                    with_reducible refine (laws_at.calls _ _ l0 1 t192 _ ?side1 ?side2 A13.out).mono ?_
                    (case side1 => repeat (first | exact (Kd.C_below HR0.out HB.out) | (with_reducible refine Kd.C_alloc ?_ _) | (with_reducible refine Kd.C_drewN ?_ _) | (with_reducible refine Kd.C_drew ?_)))
                    (case side2 => exact HC0.out)
                    rintro e w' ⟨rfl, ⟨nd, rfl⟩⟩
                    refine ⟨_, rfl, ?_⟩
                    refine hK.out _ _ (hHeld) (fun hHeld => ?_)
                    clear hK K
                    refine norm_ (a' := ?_) ?_ ?_
                    rotate_left
                    · show Act.put _ (some 35) _ = _
                      simp only [Act.put, List.setIfInBounds_toArray, List.set_cons_zero, List.set_cons_succ, i64_w, i32_w]
                      rfl
                    refine pure_ (i := 5) (N := some 38) (v := ?_) (a' := ?_) #[true, true, true, true, true, true, false, false, true, false, false, false, false, false, false, false] rfl rfl (any_of HT_.out (by kernel_rfl)) (fun _ _ _ h => h) (Or.inl ⟨by rfl, ?_⟩) ?_ ?_
                    rotate_left
                    · intro w'
                      go_simp
                      with_reducible rfl
                    rotate_left
                    · simp only [Act.put, List.setIfInBounds_toArray, List.set_cons_zero, List.set_cons_succ, i64_w, i32_w]
                      rfl
                    refine pure_ (i := 6) (N := some 39) (v := ?_) (a' := ?_) #[true, true, true, true, true, true, true, false, true, false, false, false, false, false, false, false] rfl rfl (any_of HT_.out (by kernel_rfl)) (fun _ _ _ h => h) (Or.inl ⟨by rfl, ?_⟩) ?_ ?_
                    rotate_left
                    · intro w'
                      go_simp
                      with_reducible rfl
                    rotate_left
                    · simp only [Act.put, List.setIfInBounds_toArray, List.set_cons_zero, List.set_cons_succ, i64_w, i32_w]
                      rfl
                    refine take_ (i := 7) (N := some 40) (v := ?_) (a' := ?_) #[true, true, true, true, true, true, true, true, true, false, false, false, false, false, false, false] rfl rfl (take_ofW HT_.out HW_.out (by kernel_rfl)) (fun _ _ _ h => h) (Or.inl ⟨by rfl, ?_⟩) hHeld ?_ ?_
                    rotate_left
                    · intro w' s0
                      go_simp
                      with_reducible rfl
                    rotate_left
                    · simp only [Act.put, List.setIfInBounds_toArray, List.set_cons_zero, List.set_cons_succ, i64_w, i32_w]
                      rfl
                    refine one_ (i := 9) (N := some 42) #[true, true, true, true, true, true, true, true, true, true, false, false, false, false, false, false] rfl rfl (one_of HT_.out (by kernel_rfl)) (by decide) (fun K hK => ?_)
                    refine goes_ Try.func44 (by kernel_rfl) rfl #[.slice A0 l0.length c0, .int .i64 6] (by rfl) rfl rfl (by (try simp only [List.map_toArray, List.map_cons, List.map_nil]); first | done | rfl | (simp only [List.length_drop, List.length_take]; rfl)) ?_
                    with_reducible refine (laws_at.calls _ _ l0 6 t194 _ ?side1 ?side2 A18.out).mono ?_
                    (case side1 => repeat (first | exact (Kd.C_below HR0.out (by repeat (first | (with_reducible first | exact HB.out | apply below_alloc | apply pw_below_drewN | apply below_drew1) | exact HB.out))) | (with_reducible refine Kd.C_alloc ?_ _) | (with_reducible refine Kd.C_drewN ?_ _) | (with_reducible refine Kd.C_drew ?_)))
                    (case side2 => exact HC0.out)
                    rintro e w' ⟨rfl, ⟨nd, rfl⟩⟩
                    refine ⟨_, rfl, ?_⟩
                    have p22 : 0 ≤ ((ji15) : Int) := of_decide_eq_true (by first | (with_reducible assumption) | assumption)
                    have q22 : ((ji15) : Int) < ((y189.length : Int) : Int) := of_decide_eq_true (by first | (with_reducible assumption) | assumption)
                    obtain ⟨go22, co22, eo22, gb22, gl22, cl22, HG22⟩ := Kd.R_form HO191.out (by omega)
                    (first | cases eo22 | (injection eo22 with ea_ en_ ec_; (first | subst ea_ | (injection ea_ with ea_; subst ea_)); subst ec_; clear en_))
                    have GB22 := Aside0.mk gb22
                    have GG22 := Aside0.mk HG22
                    clear gb22 gl22 HG22
                    (first | simp only [add_plain] at hx193_0 | skip)
                    obtain ⟨hx22_0, hf22_0⟩ := Kd.R_celln 0 HO191.out ((ji15) : Int) p22 q22
                    replace p22 := eq_true p22
                    replace q22 := eq_true q22
                    have HP37 := Kd.R_putn HO191.out ((ji15) : Int) (Go.bits .xor .u32 (rd y189 (ji15)) (ji21))
                    rw [← Ny195.out] at HP37
                    have HQ37 := Aside0.mk HP37
                    clear HP37
                    refine hK.out _ _ (hHeld) (fun hHeld => ?_)
                    clear hK K
                    refine norm_ (a' := ?_) ?_ ?_
                    rotate_left
                    · show Act.put _ (some 42) _ = _
                      simp only [Act.put, List.setIfInBounds_toArray, List.set_cons_zero, List.set_cons_succ, i64_w, i32_w]
                      rfl
                    refine pure_ (i := 10) (N := some 43) (v := ?_) (a' := ?_) #[true, true, true, true, true, true, true, true, true, true, true, false, false, false, false, false] rfl rfl (any_of HT_.out (by kernel_rfl)) (fun _ _ _ h => h) (Or.inl ⟨by rfl, ?_⟩) ?_ ?_
                    rotate_left
                    · intro w'
                      go_simp
                      with_reducible rfl
                    rotate_left
                    · simp only [Act.put, List.setIfInBounds_toArray, List.set_cons_zero, List.set_cons_succ, i64_w, i32_w]
                      rfl
                    refine pure_ (i := 11) (N := some 44) (v := ?_) (a' := ?_) #[true, true, true, true, true, true, true, true, true, true, true, true, false, false, false, false] rfl rfl (any_of HT_.out (by kernel_rfl)) (fun _ _ _ h => h) (Or.inl ⟨by rfl, ?_⟩) ?_ ?_
                    rotate_left
                    · intro w'
                      go_simp
                      with_reducible rfl
                    rotate_left
                    · simp only [Act.put, List.setIfInBounds_toArray, List.set_cons_zero, List.set_cons_succ, i64_w, i32_w]
                      rfl
                    refine pure_ (i := 12) (N := some 45) (v := ?_) (a' := ?_) #[true, true, true, true, true, true, true, true, true, true, true, true, true, false, false, false] rfl rfl (any_of HT_.out (by kernel_rfl)) (fun _ _ _ h => h) (Or.inl ⟨by rfl, ?_⟩) ?_ ?_
                    rotate_left
                    · intro w'
                      go_simp
                      with_reducible rfl
                    rotate_left
                    · simp only [Act.put, List.setIfInBounds_toArray, List.set_cons_zero, List.set_cons_succ, i64_w, i32_w]
                      rfl
                    refine pure_ (i := 13) (N := some 46) (v := ?_) (a' := ?_) #[true, true, true, true, true, true, true, true, true, true, true, true, true, true, false, false] rfl rfl (any_of HT_.out (by kernel_rfl)) (fun _ _ _ h => h) (Or.inl ⟨by rfl, ?_⟩) ?_ ?_
                    rotate_left
                    · intro w'
                      go_simp
                      with_reducible rfl
                    rotate_left
                    · simp only [Act.put, List.setIfInBounds_toArray, List.set_cons_zero, List.set_cons_succ, i64_w, i32_w]
                      rfl
                    refine pure_ (i := 14) (N := some 47) (v := ?_) (a' := ?_) #[true, true, true, true, true, true, true, true, true, true, true, true, true, true, true, false] rfl rfl (any_of HT_.out (by kernel_rfl)) (fun _ _ _ h => h) (Or.inl ⟨by rfl, ?_⟩) ?_ ?_
                    rotate_left
                    · intro w'
                      go_simp
                      with_reducible rfl
                    rotate_left
                    · simp only [Act.put, List.setIfInBounds_toArray, List.set_cons_zero, List.set_cons_succ, i64_w, i32_w]
                      rfl
                    refine last_ (i := 15) (N := none) #[true, true, true, true, true, true, true, true, true, true, true, true, true, true, true, true] rfl rfl (one_of HT_.out (by kernel_rfl)) (by decide) (fun K hK => ?_)
                    refine skip_ (w1 := ?_) (by rfl) rfl ?_ ?_
                    rotate_left
                    · go_simp
                      rfl
                    refine hK.out _ _ ?_
                    clear hK K
                    refine done_ (done_of HT_.out (by kernel_rfl)) ?_
                    try go_wp2_with (first | ((with_reducible refine gate_callee (f := 24) rfl ?_); refine goesL_ (some 49) rfl rfl Try.func24 (by kernel_rfl) rfl #[.slice (some ⟨go22, 0, none⟩) y195.length co36] rfl (by (try simp only [List.map_toArray, List.map_cons, List.map_nil]); first | done | (rw [show y195.length = y189.length from (Kd.R_reads' HQ37.out).1.symm] <;> rfl) | rfl | (simp only [List.length_drop, List.length_take]; rfl)) ?_; (with_reducible refine (impl_FoldWords.calls k _ _ y195 t196 _ ?side1 ?side2 A23.out).mono ?_); (case side1 => refine (Kd.R_reads' (e := 22) (base := w.heap.size) (ok := fun k_ => (some k_ ≠ (.slice Ao26 t170.length co26 : Value).ownBlock ∧ some k_ ≠ (.slice Ao31 y181.length co31 : Value).ownBlock)) (n := y189.length) (c := co36) ?_).2.2; exact (by (with_reducible repeat (first | apply Kd.R_alloc | apply Kd.R_drewN | apply Kd.R_drew)); exact HQ37.out)); (case side2 => rw [show y195.length = y189.length from (Kd.R_reads' HQ37.out).1.symm]; exact (Kd.R_reads' HO191.out).2.1); rintro e w' ⟨rfl, ⟨nd, rfl⟩⟩; refine ⟨_, rfl, ?_⟩) | ((with_reducible refine gate_callee (f := 24) rfl ?_); refine goesL_ (some 51) rfl rfl Try.func24 (by kernel_rfl) rfl #[.slice Ao31 y181.length co31] rfl (by (try simp only [List.map_toArray, List.map_cons, List.map_nil]); first | done | rfl | (simp only [List.length_drop, List.length_take]; rfl)) ?_; (with_reducible refine (impl_FoldWords.calls k _ _ y181 t197 _ ?side1 ?side2 A24.out).mono ?_); (case side1 => refine (Kd.R_reads' (e := 22) (base := w.heap.size) (ok := fun k_ => (some k_ ≠ (.slice Ao26 t170.length co26 : Value).ownBlock ∧ some k_ ≠ (.slice (some ⟨go22, 0, none⟩) y189.length co36 : Value).ownBlock)) (n := y181.length) (c := co31) ?_).2.2; exact (by (with_reducible repeat (first | apply Kd.R_alloc | apply Kd.R_drewN | apply Kd.R_drew)); exact (Kd.R_mono (Kd.R_far (p := ⟨go22, ((ji15) : Int).toNat, none⟩) (Kd.R_mono HO183.out (fun k_ hk => (⟨hk, fun e_ => hk.2 (by rw [e_]; rfl)⟩ : _ ∧ k_ ≠ go22))) (fun _ hk => hk.2) (.int .u32 (Go.bits .xor .u32 (rd y189 (ji15)) (ji21)))) (fun _ h_ => h_.1)))); (case side2 => exact (Kd.R_reads' HO183.out).2.1); rintro e w' ⟨rfl, ⟨nd, rfl⟩⟩; refine ⟨_, rfl, ?_⟩))
                    go_ret
                    exact ⟨by first | rfl | (simp [errW_none, errW_some] <;> rfl) | (simp only [← hji15, ← hji19, ← hji21]; first | rfl | (simp [errW_none, errW_some] <;> rfl)) | (simp [*, errW_none, errW_some] <;> rfl), by repeat (first | (with_reducible first | exact HB.out | apply below_alloc | apply pw_below_drewN | apply below_drew1 | refine below_set ?_ GB22.out) | exact HB.out)⟩
                  · rw [if_neg c20] at H
                    exact absurd H (by simp)
                · rw [if_neg c17] at H
                  exact absurd H (by simp)
              · rw [if_neg c16] at H
                exact absurd H (by simp)
          · rw [if_neg c12] at H
            exact absurd H (by simp)
        · rw [if_neg c11] at H
          have c11b0 : (t184 == (((Go.bits .xor .u32 t185 t174) + 2654435769) % 4294967296)) = false := beq_eq_false_iff_ne.mpr c11
          have c11b1 : (t184 != (((Go.bits .xor .u32 t185 t174) + 2654435769) % 4294967296)) = true := bne_iff_ne.mpr c11
          obtain rfl := Option.some.inj H
          go_enter Try.func10, Try.ntmps10
          go_wp2_with (first | ((with_reducible refine gate_callee (f := 40) rfl ?_); refine goesL_ (some 9) rfl rfl Try.func40 (by kernel_rfl) rfl #[.slice A0 l0.length c0] rfl (by (try simp only [List.map_toArray, List.map_cons, List.map_nil]); first | done | rfl | (simp only [List.length_drop, List.length_take]; rfl)) ?_; (with_reducible refine (laws_big.calls _ _ l0 false _ ?side1 ?side2 A2.out).mono ?_); (case side1 => repeat (first | exact HR0.out | (with_reducible refine Kd.C_alloc ?_ _) | (with_reducible refine Kd.C_drewN ?_ _) | (with_reducible refine Kd.C_drew ?_))); (case side2 => exact HC0.out); rintro e w' ⟨rfl, ⟨nd, rfl⟩⟩; refine ⟨_, rfl, ?_⟩) | ((with_reducible refine gate_callee (f := 41) rfl ?_); refine goesL_ (some 11) rfl rfl Try.func41 (by kernel_rfl) rfl #[.slice A0 l0.length c0] rfl (by (try simp only [List.map_toArray, List.map_cons, List.map_nil]); first | done | rfl | (simp only [List.length_drop, List.length_take]; rfl)) ?_; (with_reducible refine (spec_DrawFoldWords.calls k _ _ l0 t170 _ ?side1 ?side2 A4.out).mono ?_); (case side1 => repeat (first | exact HR0.out | (with_reducible refine Kd.C_alloc ?_ _) | (with_reducible refine Kd.C_drewN ?_ _) | (with_reducible refine Kd.C_drew ?_))); (case side2 => exact HC0.out); rintro e w38 ⟨v171, rfl, ho0, hb⟩; refine ⟨_, rfl, ?_⟩; have n0_ := Aside0.mk (Kd.R_lower ho0 (below_size (by repeat (first | (with_reducible first | exact HB.out | apply below_alloc | apply pw_below_drewN | apply below_drew1) | exact HB.out)))); have n1_ := Aside0.mk (below_step (by repeat (first | (with_reducible first | exact HB.out | apply below_alloc | apply pw_below_drewN | apply below_drew1) | exact HB.out)) hb); clear HB; have HO172 := n0_; have HB := n1_; clear n0_ n1_; (try clear hb); (try clear hb2); (try clear hk); (try clear hi); (try clear ho0); obtain ⟨Ao39, co39, eo39⟩ := Kd.R_slice HO172.out; subst eo39) | ((with_reducible refine gate_callee (f := 24) rfl ?_); refine goesL_ (some 13) rfl rfl Try.func24 (by kernel_rfl) rfl #[.slice Ao39 t170.length co39] rfl (by (try simp only [List.map_toArray, List.map_cons, List.map_nil]); first | done | rfl | (simp only [List.length_drop, List.length_take]; rfl)) ?_; (with_reducible refine (impl_FoldWords.calls k _ _ t170 t173 _ ?side1 ?side2 A5.out).mono ?_); (case side1 => repeat (first | exact (Kd.R_reads' HO172.out).2.2 | (with_reducible refine Kd.C_alloc ?_ _) | (with_reducible refine Kd.C_drewN ?_ _) | (with_reducible refine Kd.C_drew ?_))); (case side2 => exact (Kd.R_reads' HO172.out).2.1); rintro e w' ⟨rfl, ⟨nd, rfl⟩⟩; refine ⟨_, rfl, ?_⟩) | ((with_reducible refine gate_callee (f := 42) rfl ?_); refine goesL_ (some 15) rfl rfl Try.func42 (by kernel_rfl) rfl #[.slice A0 l0.length c0, .int .i64 2] rfl (by (try simp only [List.map_toArray, List.map_cons, List.map_nil]); first | done | rfl | (simp only [List.length_drop, List.length_take]; rfl)) ?_; (with_reducible refine (laws_word.calls _ _ l0 2 t174 _ ?side1 ?side2 A6.out).mono ?_); (case side1 => repeat (first | exact (Kd.C_below HR0.out (by repeat (first | (with_reducible first | exact HB.out | apply below_alloc | apply pw_below_drewN | apply below_drew1) | exact HB.out))) | (with_reducible refine Kd.C_alloc ?_ _) | (with_reducible refine Kd.C_drewN ?_ _) | (with_reducible refine Kd.C_drew ?_))); (case side2 => exact HC0.out); rintro e w' ⟨rfl, ⟨nd, rfl⟩⟩; refine ⟨_, rfl, ?_⟩) | ((with_reducible refine gate_dst (N := 16) rfl ?_); refine Kd.R_lit (Kd.int .u32) _ 22 ?hg (N := 16) ?hd (xs := ([] : List Int)) (inner := []) (ok := fun _ => True) (okp := fun _ => True) ?hr ?hp (fun _ hk => hk) trivial (Below.refl _ _) (Nat.le_refl _) (by simp) ?_; (case hd => rfl); (case hg => rfl); (case hr => first | (go_simp; done) | (go_simp; rfl)); (case hp => exact (Reps.none _ _)); intro v176 w40 ho41 hb hg_ hnew_; clear hg_ hnew_; (first | rw [← Ny175.out] at ho41 | (simp only [Int.reduceToNat] at ho41; rw [← Ny175.out] at ho41)); have n0_ := Aside0.mk (Kd.R_elder' (by (with_reducible repeat (first | apply Kd.R_alloc | apply Kd.R_drewN | apply Kd.R_drew)); exact HO172.out) (Kd.R_base ho41) hb); have n1_ := Aside0.mk (Kd.R_lower (Kd.R_new' ho41 (Kd.R_lt (by (with_reducible repeat (first | apply Kd.R_alloc | apply Kd.R_drewN | apply Kd.R_drew)); exact HO172.out))) (below_size (by repeat (first | (with_reducible first | exact HB.out | apply below_alloc | apply pw_below_drewN | apply below_drew1) | exact HB.out)))); have n2_ := Aside0.mk (below_step (by repeat (first | (with_reducible first | exact HB.out | apply below_alloc | apply pw_below_drewN | apply below_drew1) | exact HB.out)) hb); clear HO172; clear HB; have HO172 := n0_; have HO177 := n1_; have HB := n2_; clear n0_ n1_ n2_; clear hb ho41) | ((with_reducible refine gate_builtin (b := .append) (xs := #[.tmp 16, .tmp 17]) rfl ?_); at_builtin; refine Kd.R_append_rows (Kd.int .u32) (w0 := w) w.heap.size rfl (.tmp 16) (.tmp 17) 30 22 (.int .u32 0) 4 rfl Try.underlying30 info22 rfl (by decide) (by omega) v176 y175 t170 _ _ _ (fun k_ => some k_ ≠ (.slice Ao39 t170.length co39 : Value).ownBlock) (fun _ => False) rfl rfl ?aO ?aR (fun _ _ h => h) (fun _ h => h.elim) ?aF ?aB ?aS ?aL ?_; (case aR => repeat (first | exact (Kd.R_reads' HO172.out).2.2 | (with_reducible refine Kd.C_alloc ?_ _) | (with_reducible refine Kd.C_drewN ?_ _) | (with_reducible refine Kd.C_drew ?_))); (case aB => exact (by repeat (first | (with_reducible first | exact HB.out | apply below_alloc | apply pw_below_drewN | apply below_drew1) | exact HB.out))); (case aF => exact (fun k_ hk => Kd.fresh' (Kd.R_lt (by (with_reducible repeat (first | apply Kd.R_alloc | apply Kd.R_drewN | apply Kd.R_drew)); exact HO172.out)) k_ hk)); (case aO => exact (by (with_reducible repeat (first | apply Kd.R_alloc | apply Kd.R_drewN | apply Kd.R_drew)); exact Kd.R_mono HO177.out (fun _ hk => hk.2))); (case aS => exact (below_size (by repeat (first | (with_reducible first | exact HB.out | apply below_alloc | apply pw_below_drewN | apply below_drew1) | exact HB.out)))); (case aL => have := LMc7.out; omega); intro v179 w42 ho hb hg hat; rw [← Ny178.out] at ho; have n0_ := Aside0.mk (Kd.R_after (ok := (fun _ => True)) (by (with_reducible repeat (first | apply Kd.R_alloc | apply Kd.R_drewN | apply Kd.R_drew)); exact HO172.out) hg hat); have n1_ := Aside0.mk (hb); have n2_ := Aside0.mk (ho); clear HO172; clear HB; clear HO177; have HO172 := n0_; have HB := n1_; have HO180 := n2_; clear n0_ n1_ n2_; clear ho hb hg hat) | ((with_reducible refine gate_builtin (b := .append) (xs := #[.tmp 18, .tmp 20]) rfl ?_); at_builtin; refine Kd.R_append (Kd.int .u32) (w0 := w) w.heap.size rfl (.tmp 18) (.tmp 20) 30 22 (.int .u32 0) 4 rfl Try.underlying30 info22 rfl (by decide) (by omega) v179 y178 t174 [.int .u32 t174] (fun k_ => some k_ ≠ (.slice Ao39 t170.length co39 : Value).ownBlock) (fun _ => False) rfl rfl ?aP (fun _ hk => hk.elim) ?aF ?aO ?aB ?aS ?aL ?_; (case aP => exact rfl); (case aB => exact (by repeat (first | (with_reducible first | exact HB.out | apply below_alloc | apply pw_below_drewN | apply below_drew1) | exact HB.out))); (case aF => exact (fun k_ hk => Kd.fresh' (Kd.R_lt (by (with_reducible repeat (first | apply Kd.R_alloc | apply Kd.R_drewN | apply Kd.R_drew)); exact HO172.out)) k_ hk)); (case aO => exact (by (with_reducible repeat (first | apply Kd.R_alloc | apply Kd.R_drewN | apply Kd.R_drew)); exact HO180.out)); (case aS => exact (below_size (by repeat (first | (with_reducible first | exact HB.out | apply below_alloc | apply pw_below_drewN | apply below_drew1) | exact HB.out)))); (case aL => have := LMc8.out; omega); intro v182 w43 ho hb hg hat; rw [← Ny181.out] at ho; have n0_ := Aside0.mk (Kd.R_after (ok := (fun _ => True)) (by (with_reducible repeat (first | apply Kd.R_alloc | apply Kd.R_drewN | apply Kd.R_drew)); exact HO172.out) hg hat); have n1_ := Aside0.mk (hb); have n2_ := Aside0.mk (ho); clear HO172; clear HB; clear HO180; have HO172 := n0_; have HB := n1_; have HO183 := n2_; clear n0_ n1_ n2_; clear ho hb hg hat; obtain ⟨Ao44, co44, eo44⟩ := Kd.R_slice HO183.out; subst eo44) | ((with_reducible refine gate_callee (f := 24) rfl ?_); refine goesL_ (some 23) rfl rfl Try.func24 (by kernel_rfl) rfl #[.slice Ao44 y181.length co44] rfl (by (try simp only [List.map_toArray, List.map_cons, List.map_nil]); first | done | rfl | (simp only [List.length_drop, List.length_take]; rfl)) ?_; (with_reducible refine (impl_FoldWords.calls k _ _ y181 t184 _ ?side1 ?side2 A9.out).mono ?_); (case side1 => repeat (first | exact (Kd.R_reads' HO183.out).2.2 | (with_reducible refine Kd.C_alloc ?_ _) | (with_reducible refine Kd.C_drewN ?_ _) | (with_reducible refine Kd.C_drew ?_))); (case side2 => exact (Kd.R_reads' HO183.out).2.1); rintro e w' ⟨rfl, ⟨nd, rfl⟩⟩; refine ⟨_, rfl, ?_⟩) | ((with_reducible refine gate_callee (f := 43) rfl ?_); refine goesL_ (some 25) rfl rfl Try.func43 (by kernel_rfl) rfl #[.int .u32 t173, .int .i64 5] rfl (by (try simp only [List.map_toArray, List.map_cons, List.map_nil]); first | done | rfl | (simp only [List.length_drop, List.length_take]; rfl)) ?_; (with_reducible refine (impl_RotWord.calls t173 5 t185 _ A10.out).mono ?_); rintro e w' ⟨rfl, ⟨nd, rfl⟩⟩; refine ⟨_, rfl, ?_⟩))
          go_ret
          exact ⟨by first | rfl | (simp [errW_none, errW_some] <;> rfl) | (simp [*, errW_none, errW_some] <;> rfl), by repeat (first | (with_reducible first | exact HB.out | apply below_alloc | apply pw_below_drewN | apply below_drew1) | exact HB.out)⟩
      · rw [if_neg c8] at H
        exact absurd H (by simp)
    · rw [if_neg c7] at H
      exact absurd H (by simp)

/-- THE ONE PURE STATEMENT of laws_FnFold: yours. -/
def laws_FnFold.Pure : Prop := ∀ (l0 : List Int), l0.length ≤ maxLen → l0.length * 1 ≤ 140737488351232 → (∀ x ∈ l0, (Lit.int .u8 x).wf = true) → ∃ k, laws_FnFold.f k l0 = some true
theorem laws_FnFold.walk (P : laws_FnFold.Pure) (a0 : Option Addr) (len0 cap0 : Nat) (z0 : List Int) (w : World) (w0 : (a0 = none ∧ len0 = 0 ∧ cap0 = 0 ∧ z0 = []) ∨ ∃ x, a0 = some x ∧ len0 ≤ cap0 ∧ cap0 ≤ maxLen ∧ z0.length = cap0 ∧ (∀ i, i < z0.length → w.cell? (x.add i) = some (.int .u8 (z0.getD i 0))) ∧ ∀ n ∈ z0, (Lit.int .u8 n).wf = true) (y0 : len0 * 1 ≤ 140737488351232) :
    Calls Try.prog 10 #[.slice a0 len0 cap0] w fun e w' => e = .returned (.bool true) ∧ Below w.heap.size w w' := by
  obtain ⟨l0, rfl, hr0, hm0, hw0, hc0⟩ := ReadsInt.ofRowC w0
  obtain ⟨k, h⟩ := P l0 hm0 y0 hw0
  refine (laws_FnFold.calls k _ _ l0 true w (Kd.C_of_reads (d := (0 : Int)) (h1 := fun _ => rfl) hr0) hc0 h).mono ?_
  rintro e w' ⟨rfl, hd⟩
  exact ⟨rfl, hd⟩

end Go.Proofs.Ytkepakklhnhnkaa.PFnFold

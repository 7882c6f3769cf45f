/- Printed by a program out of the translation, with contracts of my own set in. -/
import Derived.Test.YtaophlekfepkgaaGreatDoorPFnFaultLinex0
import Derived.Test.YtaophlekfepkgaaGreatDoorPFnFaultLinex1
import Derived.Test.YtaophlekfepkgaaGreatDoorPFnFaultLinex4
import Derived.Test.YtaophlekfepkgaaGreatDoorPFnFaultLinex8
import Derived.Test.YtaophlekfepkgaaGreatDoorPFnFaultLinex11
namespace Go.Proofs.YtaophlekfepkgaaGreatDoor.PFnFaultLine
open Go.RowKit Go.Proofs.YtaophlekfepkgaaGreatDoorW.PrintWords Go.Proofs.YtaophlekfepkgaaGreatDoorW.PrintLast Go.Proofs.YtaophlekfepkgaaGreatDoorW.PrintMore
attribute [local go_sem] max2_int min2_int max_two min_two max_three min_three max_four min_four   -- for this text's walks alone
set_option linter.unusedVariables false
set_option linter.unusedSimpArgs false

/-! ### laws_FnFaultLine: function 3 -/
mutual
def laws_FnFaultLine.j0 : Nat → ByteArray → Int → Int → Bool → Option (Bool)
 | 0, _, _, _, _ => none
 | k + 1, x3, x5, x6, x43 => if x43 = true then (some false) else (if x5 = 2 then (laws_FnFaultLine.j1 k x3 x5 x6 false) else (if x5 = 3 then (laws_FnFaultLine.j1 k x3 x5 x6 false) else (laws_FnFaultLine.j1 k x3 x5 x6 (x5 != 4))))
def laws_FnFaultLine.j1 : Nat → ByteArray → Int → Int → Bool → Option (Bool)
 | 0, _, _, _, _ => none
 | k + 1, x3, x5, x6, x53 => if x53 = true then (some true) else (laws_FnFaultLine.l0 k x3 x5 x6 0 0 0 0)
def laws_FnFaultLine.l0 : Nat → ByteArray → Int → Int → Int → Int → Int → Int → Option (Bool)
 | 0, _, _, _, _, _, _, _ => none
 | k + 1, x3, x5, x6, x10, x11, x12, x13 => if x13 < (x3.size : Int) then (if 0 ≤ x13 then (if (bt x3 x13) = 10 then (if (wrap64 (x10 + 1)) = (wrap64 (x6 - 1)) then (if (wrap64 (x10 + 1)) = x6 then (laws_FnFaultLine.l0 k x3 x5 x6 (wrap64 (x10 + 1)) (wrap64 (x13 + 1)) (wrap64 (x13 + 1)) (wrap64 (x13 + 1))) else (laws_FnFaultLine.l0 k x3 x5 x6 (wrap64 (x10 + 1)) x11 (wrap64 (x13 + 1)) (wrap64 (x13 + 1)))) else (if (wrap64 (x10 + 1)) = x6 then (laws_FnFaultLine.l0 k x3 x5 x6 (wrap64 (x10 + 1)) (wrap64 (x13 + 1)) x12 (wrap64 (x13 + 1))) else (laws_FnFaultLine.l0 k x3 x5 x6 (wrap64 (x10 + 1)) x11 x12 (wrap64 (x13 + 1))))) else (laws_FnFaultLine.l0 k x3 x5 x6 x10 x11 x12 (wrap64 (x13 + 1)))) else (none)) else (if 0 ≤ x11 then (if x11 ≤ (x3.size : Int) then ((impl_Assemble.f (x3.extract 0 (x11 : Int).toNat)).bind fun bt358 => (if 0 ≤ x12 then (if x12 ≤ (x3.size : Int) then ((impl_Assemble.f (x3.extract 0 (x12 : Int).toNat)).bind fun bt363 => (if bt358.2.1 = x5 then (if bt358.2.2 = x6 then (if bt363.2.1 = 0 then (some true) else (some (bt363.2.1 == 5))) else (some false)) else (some false))) else (none)) else (none))) else (none)) else (none))
end
def laws_FnFaultLine.f (k : Nat) (l0 : List Int) : Option (Bool) := (laws_big.f l0).bind fun t346 => (if t346 = true then (some true) else ((spec_DrawAssemble.f k l0).bind fun t347 => ((spec_Assemble.f k t347).bind fun bt348 => ((impl_Assemble.f t347).bind fun bt353 => (if bt353.2.1 = bt348.2.1 then (laws_FnFaultLine.j0 k t347 bt348.2.1 bt348.2.2 (bt353.2.2 != bt348.2.2)) else (laws_FnFaultLine.j0 k t347 bt348.2.1 bt348.2.2 true))))))
set_option maxHeartbeats 8000000 in
set_option maxRecDepth 100000 in
theorem laws_FnFaultLine.calls (k : Nat) (A0 : Option Addr) (c0 : Nat) (l0 : List Int) (r : Bool) (w : World) (hr0 : Kd.C (Kd.int .u8) w A0 l0.length l0) (hc0 : l0.length ≤ c0) (ht : Tab.TabsODEM w) (h : laws_FnFaultLine.f k l0 = some r) :
 Calls Tryz.prog 3 #[.slice A0 l0.length c0] w fun e w' => e = .returned (.bool r) ∧ Below w.heap.size w w' := by
 have HR0 := Aside0.mk hr0
 have HC0 := Aside0.mk hc0
 clear hr0 hc0
 have HB := Aside0.mk (Below.refl w.heap.size w)
 have HTB := Aside0.mk ht
 clear ht
 have H : ((laws_big.f l0).bind fun t346 => (if t346 = true then (some true) else ((spec_DrawAssemble.f k l0).bind fun t347 => ((spec_Assemble.f k t347).bind fun bt348 => ((impl_Assemble.f t347).bind fun bt353 => (if bt353.2.1 = bt348.2.1 then (laws_FnFaultLine.j0 k t347 bt348.2.1 bt348.2.2 (bt353.2.2 != bt348.2.2)) else (laws_FnFaultLine.j0 k t347 bt348.2.1 bt348.2.2 true))))))) = some r := h
 clear h
 replace H := Option.bind_eq_some_iff.mp H
 obtain ⟨t346, A20, H⟩ := H
 replace H : (if t346 = true then (some true) else ((spec_DrawAssemble.f k l0).bind fun t347 => ((spec_Assemble.f k t347).bind fun bt348 => ((impl_Assemble.f t347).bind fun bt353 => (if bt353.2.1 = bt348.2.1 then (laws_FnFaultLine.j0 k t347 bt348.2.1 bt348.2.2 (bt353.2.2 != bt348.2.2)) else (laws_FnFaultLine.j0 k t347 bt348.2.1 bt348.2.2 true)))))) = some r := H
 have A2 := Aside0.mk A20
 clear A20
 by_cases c3 : t346 = true
 · subst c3
   have H1 : (some true) = some r := by rw [if_pos rfl] at H; exact H
   clear H
   have H := H1
   clear H1
   obtain rfl := Option.some.inj H
   go_enter Tryz.func3, Tryz.ntmps3
   go_wp2_with (first | ((with_reducible refine gate_callee (f := 6) rfl ?_); refine goesL_ (some 21) rfl rfl Tryz.func6 (by kernel_rfl) rfl #[.slice A0 l0.length c0] rfl (by (try simp only [List.map_toArray, List.map_cons, List.map_nil]); first | done | rfl | (simp only [List.length_drop, List.length_take]; rfl)) ?_; (with_reducible refine (laws_big.calls _ _ l0 true _ ?side1 ?side2 A2.out).mono ?_); (case side1 => repeat (first | exact HR0.out | (with_reducible refine Kd.C_alloc ?_ _) | (with_reducible refine Kd.C_drewN ?_ _) | (with_reducible refine Kd.C_drew ?_))); (case side2 => exact HC0.out); rintro e w' ⟨rfl, ⟨nd, rfl⟩⟩; refine ⟨_, rfl, ?_⟩))
   go_ret
   exact ⟨by first | rfl | (simp [errW_none, errW_some] <;> rfl) | (simp [*, errW_none, errW_some] <;> rfl), by repeat (first | (with_reducible first | exact HB.out | apply below_alloc | apply pw_below_drewN | apply below_drew1) | exact HB.out)⟩
 · replace c3 := Bool.eq_false_iff.mpr c3
   subst c3
   have H1 : ((spec_DrawAssemble.f k l0).bind fun t347 => ((spec_Assemble.f k t347).bind fun bt348 => ((impl_Assemble.f t347).bind fun bt353 => (if bt353.2.1 = bt348.2.1 then (laws_FnFaultLine.j0 k t347 bt348.2.1 bt348.2.2 (bt353.2.2 != bt348.2.2)) else (laws_FnFaultLine.j0 k t347 bt348.2.1 bt348.2.2 true))))) = some r := by rw [if_neg (show ¬ (false = true) by decide)] at H; exact H
   clear H
   have H := H1
   clear H1
   replace H := Option.bind_eq_some_iff.mp H
   obtain ⟨t347, A40, H⟩ := H
   replace H : ((spec_Assemble.f k t347).bind fun bt348 => ((impl_Assemble.f t347).bind fun bt353 => (if bt353.2.1 = bt348.2.1 then (laws_FnFaultLine.j0 k t347 bt348.2.1 bt348.2.2 (bt353.2.2 != bt348.2.2)) else (laws_FnFaultLine.j0 k t347 bt348.2.1 bt348.2.2 true)))) = some r := H
   have A4 := Aside0.mk A40
   clear A40
   replace H := Option.bind_eq_some_iff.mp H
   obtain ⟨⟨t348, t349, t350⟩, A50, H⟩ := H
   replace H : ((impl_Assemble.f t347).bind fun bt353 => (if bt353.2.1 = t349 then (laws_FnFaultLine.j0 k t347 t349 t350 (bt353.2.2 != t350)) else (laws_FnFaultLine.j0 k t347 t349 t350 true))) = some r := H
   have A5 := Aside0.mk A50
   clear A50
   replace H := Option.bind_eq_some_iff.mp H
   obtain ⟨⟨t353, t354, t355⟩, A60, H⟩ := H
   replace H : (if t354 = t349 then (laws_FnFaultLine.j0 k t347 t349 t350 (t355 != t350)) else (laws_FnFaultLine.j0 k t347 t349 t350 true)) = some r := H
   have A6 := Aside0.mk A60
   clear A60
   have HC7 := Aside0.mk H
   clear H
   go_enter Tryz.func3, Tryz.ntmps3
   go_upto_region 6 with (first | ((with_reducible refine gate_callee (f := 6) rfl ?_); refine goesL_ (some 21) rfl rfl Tryz.func6 (by kernel_rfl) rfl #[.slice A0 l0.length c0] rfl (by (try simp only [List.map_toArray, List.map_cons, List.map_nil]); first | done | rfl | (simp only [List.length_drop, List.length_take]; rfl)) ?_; (with_reducible refine (laws_big.calls _ _ l0 false _ ?side1 ?side2 A2.out).mono ?_); (case side1 => repeat (first | exact HR0.out | (with_reducible refine Kd.C_alloc ?_ _) | (with_reducible refine Kd.C_drewN ?_ _) | (with_reducible refine Kd.C_drew ?_))); (case side2 => exact HC0.out); rintro e w' ⟨rfl, ⟨nd, rfl⟩⟩; refine ⟨_, rfl, ?_⟩) | ((with_reducible refine gate_callee (f := 7) rfl ?_); refine goesL_ (some 23) rfl rfl Tryz.func7 (by kernel_rfl) rfl #[.slice A0 l0.length c0] rfl (by (try simp only [List.map_toArray, List.map_cons, List.map_nil]); first | done | rfl | (simp only [List.length_drop, List.length_take]; rfl)) ?_; (with_reducible refine (spec_DrawAssemble.calls k _ _ l0 t347 _ ?side1 ?side2 A4.out).mono ?_); (case side1 => repeat (first | exact HR0.out | (with_reducible refine Kd.C_alloc ?_ _) | (with_reducible refine Kd.C_drewN ?_ _) | (with_reducible refine Kd.C_drew ?_))); (case side2 => exact HC0.out); rintro e w8 ⟨rfl, hb⟩; refine ⟨_, rfl, ?_⟩; have n0_ := Aside0.mk (below_step (by repeat (first | (with_reducible first | exact HB.out | apply below_alloc | apply pw_below_drewN | apply below_drew1) | exact HB.out)) hb); clear HB; have HB := n0_; clear n0_; (try clear hb); (try clear hb2); (try clear hk); (try clear hi)) | ((with_reducible refine gate_callee (f := 8) rfl ?_); refine goesL_ (some 26) rfl rfl Tryz.func8 (by kernel_rfl) rfl #[.string t347] rfl (by (try simp only [List.map_toArray, List.map_cons, List.map_nil]); first | done | rfl | (simp only [List.length_drop, List.length_take]; rfl)) ?_; (with_reducible refine (spec_Assemble.calls k t347 t348 t349 t350 _ A5.out).mono ?_); rintro e w9 ⟨v351, rfl, ho0, hb⟩; refine ⟨_, rfl, ?_⟩; have n0_ := Aside0.mk (Kd.R_lower ho0 (below_size (by repeat (first | (with_reducible first | exact HB.out | apply below_alloc | apply pw_below_drewN | apply below_drew1) | exact HB.out)))); have n1_ := Aside0.mk (below_step (by repeat (first | (with_reducible first | exact HB.out | apply below_alloc | apply pw_below_drewN | apply below_drew1) | exact HB.out)) hb); clear HB; have HO352 := n0_; have HB := n1_; clear n0_ n1_; (try clear hb); (try clear hb2); (try clear hk); (try clear hi); (try clear ho0)) | ((with_reducible refine gate_callee (f := 9) rfl ?_); refine goesL_ (some 32) rfl rfl Tryz.func9 (by kernel_rfl) rfl #[.string t347] rfl (by (try simp only [List.map_toArray, List.map_cons, List.map_nil]); first | done | rfl | (simp only [List.length_drop, List.length_take]; rfl)) ?_; (with_reducible refine (impl_Assemble.calls t347 t353 t354 t355 _ ?side1 A6.out).mono ?_); (case side1 => exact Tab.TabsODEM.below HTB.out (by repeat (first | (with_reducible first | exact HB.out | apply below_alloc | apply pw_below_drewN | apply below_drew1) | exact HB.out))); rintro e w10 ⟨v356, rfl, ho0, hb⟩; refine ⟨_, rfl, ?_⟩; have n0_ := Aside0.mk (Kd.R_elder' (by (with_reducible repeat (first | apply Kd.R_alloc | apply Kd.R_drewN | apply Kd.R_drew)); exact HO352.out) (Kd.R_base ho0) hb); have n1_ := Aside0.mk (Kd.R_lower (Kd.R_new' ho0 (Kd.R_lt (by (with_reducible repeat (first | apply Kd.R_alloc | apply Kd.R_drewN | apply Kd.R_drew)); exact HO352.out))) (below_size (by repeat (first | (with_reducible first | exact HB.out | apply below_alloc | apply pw_below_drewN | apply below_drew1) | exact HB.out)))); have n2_ := Aside0.mk (below_step (by repeat (first | (with_reducible first | exact HB.out | apply below_alloc | apply pw_below_drewN | apply below_drew1) | exact HB.out)) hb); clear HO352; clear HB; have HO352 := n0_; have HO357 := n1_; have HB := n2_; clear n0_ n1_ n2_; (try clear hb); (try clear hb2); (try clear hk); (try clear hi); (try clear ho0)))
   (try simp only [Act.put, List.setIfInBounds_toArray, List.set_cons_zero, List.set_cons_succ])
   go_cut [43] (fun v43 wc => ∃ (kq : Nat) (x43_6 : Bool), v43 = .bool x43_6 ∧ Aside0 (laws_FnFaultLine.j0 kq t347 t349 t350 x43_6 = some r) ∧ Aside0 (kq ≤ k) ∧ Aside0 (Below w.heap.size w wc))
   case first =>
    have H := HC7.out
    clear HC7
    by_cases c11 : t354 = t349
    · rw [if_pos c11] at H
      have c11b0 : (t354 == t349) = true := beq_iff_eq.mpr c11
      have c11b1 : (t354 != t349) = false := bne_eq_false_iff_eq.mpr c11
      clear c11
      (first | rw [c11b0] | (simp only [i64_w, i32_w]; rw [c11b0]) | skip)
      have H' := Aside0.mk H
      clear H
      go_wp2
      go_meet
      case rel => exact ⟨_, ((t355 != t350)), (by first | rfl | (simp; done) | (simp [*]; done)), H', ⟨by first | omega | exact Nat.le_refl _⟩, ⟨by repeat (first | (with_reducible first | exact HB.out | apply below_alloc | apply pw_below_drewN | apply below_drew1) | exact HB.out)⟩⟩
    · rw [if_neg c11] at H
      have c11b0 : (t354 == t349) = false := beq_eq_false_iff_ne.mpr c11
      have c11b1 : (t354 != t349) = true := bne_iff_ne.mpr c11
      (first | rw [c11b0] | (simp only [i64_w, i32_w]; rw [c11b0]) | skip)
      have H' := Aside0.mk H
      clear H
      go_wp2
      go_meet
      case rel => exact ⟨_, (true), (by first | rfl | (simp; done) | (simp [*]; done)), H', ⟨by first | omega | exact Nat.le_refl _⟩, ⟨by repeat (first | (with_reducible first | exact HB.out | apply below_alloc | apply pw_below_drewN | apply below_drew1) | exact HB.out)⟩⟩
   case rest =>
    clear HC7
    try clear c1
    try clear p2
    try clear c3
    try clear c6
    try clear c7
    try clear c8
    try clear c9
    try clear c11
    try clear c11b0
    try clear c11b1
    obtain ⟨kq, x43_6, rfl, HA, HJ6, HB⟩ := hcut
    cases kq with
    | zero => exact absurd HA.out (by simp [laws_FnFaultLine.j0])
    | succ kj6 =>
     have H := HA.out
     clear HA
     simp only [laws_FnFaultLine.j0] at H
     by_cases c12 : x43_6 = true
     · subst c12
       have H1 : (some false) = some r := by rw [if_pos rfl] at H; exact H
       clear H
       have H := H1
       clear H1
       obtain rfl := Option.some.inj H
       go_wp2
       go_ret
       exact ⟨by first | rfl | (simp [errW_none, errW_some] <;> rfl) | (simp [*, errW_none, errW_some] <;> rfl), by repeat (first | (with_reducible first | exact HB.out | apply below_alloc | apply pw_below_drewN | apply below_drew1) | exact HB.out)⟩
     · replace c12 := Bool.eq_false_iff.mpr c12
       subst c12
       have H1 : (if t349 = 2 then (laws_FnFaultLine.j1 kj6 t347 t349 t350 false) else (if t349 = 3 then (laws_FnFaultLine.j1 kj6 t347 t349 t350 false) else (laws_FnFaultLine.j1 kj6 t347 t349 t350 (t349 != 4)))) = some r := by rw [if_neg (show ¬ (false = true) by decide)] at H; exact H
       clear H
       have H := H1
       clear H1
       have HC13 := Aside0.mk H
       clear H
       go_upto_region 8 with (fail)
       go_cut [53] (fun v53 wc => ∃ (kq : Nat) (x53_12 : Bool), v53 = .bool x53_12 ∧ Aside0 (laws_FnFaultLine.j1 kq t347 t349 t350 x53_12 = some r) ∧ Aside0 (kq ≤ kj6) ∧ Aside0 (Below w.heap.size w wc))
       case first =>
        have H := HC13.out
        clear HC13
        by_cases c14 : t349 = 2
        · rw [if_pos c14] at H
          have c14b0 : (t349 == 2) = true := beq_iff_eq.mpr c14
          have c14b1 : (t349 != 2) = false := bne_eq_false_iff_eq.mpr c14
          clear c14
          (first | rw [c14b0] | (simp only [i64_w, i32_w]; rw [c14b0]) | skip)
          have H' := Aside0.mk H
          clear H
          go_wp2
          go_meet
          case rel => exact ⟨_, (false), (by first | rfl | (simp; done) | (simp [*]; done)), H', ⟨by have := HJ6.out; first | omega | exact Nat.le_refl _⟩, ⟨by repeat (first | (with_reducible first | exact HB.out | apply below_alloc | apply pw_below_drewN | apply below_drew1) | exact HB.out)⟩⟩
        · rw [if_neg c14] at H
          have c14b0 : (t349 == 2) = false := beq_eq_false_iff_ne.mpr c14
          have c14b1 : (t349 != 2) = true := bne_iff_ne.mpr c14
          (first | rw [c14b0] | (simp only [i64_w, i32_w]; rw [c14b0]) | skip)
          by_cases c15 : t349 = 3
          · rw [if_pos c15] at H
            have c15b0 : (t349 == 3) = true := beq_iff_eq.mpr c15
            have c15b1 : (t349 != 3) = false := bne_eq_false_iff_eq.mpr c15
            clear c15
            have H' := Aside0.mk H
            clear H
            go_wp2
            go_meet
            case rel => exact ⟨_, (false), (by first | rfl | (simp; done) | (simp [*]; done)), H', ⟨by have := HJ6.out; first | omega | exact Nat.le_refl _⟩, ⟨by repeat (first | (with_reducible first | exact HB.out | apply below_alloc | apply pw_below_drewN | apply below_drew1) | exact HB.out)⟩⟩
          · rw [if_neg c15] at H
            have c15b0 : (t349 == 3) = false := beq_eq_false_iff_ne.mpr c15
            have c15b1 : (t349 != 3) = true := bne_iff_ne.mpr c15
            have H' := Aside0.mk H
            clear H
            go_wp2
            go_meet
            case rel => exact ⟨_, ((t349 != 4)), (by first | rfl | (simp; done) | (simp [*]; done)), H', ⟨by have := HJ6.out; first | omega | exact Nat.le_refl _⟩, ⟨by repeat (first | (with_reducible first | exact HB.out | apply below_alloc | apply pw_below_drewN | apply below_drew1) | exact HB.out)⟩⟩
       case rest =>
        clear HC13
        try clear c1
        try clear p2
        try clear c3
        try clear c6
        try clear c7
        try clear c8
        try clear c9
        try clear c11
        try clear c11b0
        try clear c11b1
        try clear c12
        try clear c14
        try clear c14b0
        try clear c14b1
        try clear c15
        try clear c15b0
        try clear c15b1
        try clear p2
        obtain ⟨kq, x53_12, rfl, HA, HJ12, HB⟩ := hcut
        cases kq with
        | zero => exact absurd HA.out (by simp [laws_FnFaultLine.j1])
        | succ kj12 =>
         have H := HA.out
         clear HA
         simp only [laws_FnFaultLine.j1] at H
         by_cases c16 : x53_12 = true
         · subst c16
           have H1 : (some true) = some r := by rw [if_pos rfl] at H; exact H
           clear H
           have H := H1
           clear H1
           obtain rfl := Option.some.inj H
           go_wp2
           go_ret
           exact ⟨by first | rfl | (simp [errW_none, errW_some] <;> rfl) | (simp [*, errW_none, errW_some] <;> rfl), by repeat (first | (with_reducible first | exact HB.out | apply below_alloc | apply pw_below_drewN | apply below_drew1) | exact HB.out)⟩
         · replace c16 := Bool.eq_false_iff.mpr c16
           subst c16
           have H1 : (laws_FnFaultLine.l0 kj12 t347 t349 t350 0 0 0 0) = some r := by rw [if_neg (show ¬ (false = true) by decide)] at H; exact H
           clear H
           have H := H1
           clear H1
           have H' := Aside0.mk H
           clear H
           go_wp2
           go_loopg [10, 11, 12, 13] kj12 (fun kq v10 v11 v12 v13 w' => ∃ (x10_3 : Int) (x11_3 : Int) (x12_3 : Int) (x13_3 : Int), v10 = .int .i64 x10_3 ∧ v11 = .int .i64 x11_3 ∧ v12 = .int .i64 x12_3 ∧ v13 = .int .i64 x13_3 ∧ Aside0 (laws_FnFaultLine.l0 kq t347 t349 t350 x10_3 x11_3 x12_3 x13_3 = some r) ∧ Aside0 (kq ≤ kj12) ∧ Aside0 (Below w.heap.size w w'))
           case atStart => exact ⟨(0), (0), (0), (0), (by first | rfl | (simp; done) | (simp [*]; done)), (by first | rfl | (simp; done) | (simp [*]; done)), (by first | rfl | (simp; done) | (simp [*]; done)), (by first | rfl | (simp; done) | (simp [*]; done)), H', ⟨Nat.le_refl _⟩, ⟨by repeat (first | (with_reducible first | exact HB.out | apply below_alloc | apply pw_below_drewN | apply below_drew1) | exact HB.out)⟩⟩
           case round =>
            clear H'
            try clear c1
            try clear p2
            try clear c3
            try clear c6
            try clear c7
            try clear c8
            try clear c9
            try clear c11
            try clear c11b0
            try clear c11b1
            try clear c12
            try clear c14
            try clear c14b0
            try clear c14b1
            try clear c15
            try clear c15b0
            try clear c15b1
            try clear c16
            try clear p2
            obtain ⟨x10_3, x11_3, x12_3, x13_3, rfl, rfl, rfl, rfl, HA, HK3, HB⟩ := hrel
            cases gk with
            | zero => exact absurd HA.out (by simp [laws_FnFaultLine.l0])
            | succ k3 =>
             have H := HA.out
             clear HA
             simp only [laws_FnFaultLine.l0] at H
             by_cases c17 : x13_3 < (t347.size : Int)
             · rw [if_pos c17] at H
               have c17b0 : decide (x13_3 < (t347.size : Int)) = true := decide_eq_true c17
               clear c17
               by_cases c18 : 0 ≤ x13_3
               · rw [if_pos c18] at H
                 have c18b0 : decide (0 ≤ x13_3) = true := decide_eq_true c18
                 clear c18
                 by_cases c20 : (bt t347 x13_3) = 10
                 · rw [if_pos c20] at H
                   have c20b0 : ((bt t347 x13_3) == 10) = true := beq_iff_eq.mpr c20
                   have c20b1 : ((bt t347 x13_3) != 10) = false := bne_eq_false_iff_eq.mpr c20
                   clear c20
                   by_cases c21 : (wrap64 (x10_3 + 1)) = (wrap64 (t350 - 1))
                   · rw [if_pos c21] at H
                     have c21b0 : ((wrap64 (x10_3 + 1)) == (wrap64 (t350 - 1))) = true := beq_iff_eq.mpr c21
                     have c21b1 : ((wrap64 (x10_3 + 1)) != (wrap64 (t350 - 1))) = false := bne_eq_false_iff_eq.mpr c21
                     clear c21
                     by_cases c22 : (wrap64 (x10_3 + 1)) = t350
                     · rw [if_pos c22] at H
                       have c22b0 : ((wrap64 (x10_3 + 1)) == t350) = true := beq_iff_eq.mpr c22
                       have c22b1 : ((wrap64 (x10_3 + 1)) != t350) = false := bne_eq_false_iff_eq.mpr c22
                       clear c22
                       have H' := Aside0.mk H
                       clear H
                       have p19 : 0 ≤ (x13_3 : Int) := of_decide_eq_true (by first | (with_reducible assumption) | assumption)
                       have q19 : x13_3 < (t347.size : Int) := of_decide_eq_true (by first | (with_reducible assumption) | assumption)
                       have hx19 := bt_at t347 x13_3
                       replace p19 := eq_true p19
                       replace q19 := eq_true q19
                       go_wp2
                       go_roundg k3
                       case measure => have := HJ6.out; have := HJ12.out; have := HK3.out; omega
                       case rel => exact ⟨(wrap64 (x10_3 + 1)), (wrap64 (x13_3 + 1)), (wrap64 (x13_3 + 1)), (wrap64 (x13_3 + 1)), (by first | rfl | (simp; done) | (simp [*]; done)), (by first | rfl | (simp; done) | (simp [*]; done)), (by first | rfl | (simp; done) | (simp [*]; done)), (by first | rfl | (simp; done) | (simp [*]; done)), H', ⟨by have := HJ6.out; have := HJ12.out; have := HK3.out; omega⟩, ⟨by repeat (first | (with_reducible first | exact HB.out | apply below_alloc | apply pw_below_drewN | apply below_drew1) | exact HB.out)⟩⟩
                     · rw [if_neg c22] at H
                       have c22b0 : ((wrap64 (x10_3 + 1)) == t350) = false := beq_eq_false_iff_ne.mpr c22
                       have c22b1 : ((wrap64 (x10_3 + 1)) != t350) = true := bne_iff_ne.mpr c22
                       have H' := Aside0.mk H
                       clear H
                       have p19 : 0 ≤ (x13_3 : Int) := of_decide_eq_true (by first | (with_reducible assumption) | assumption)
                       have q19 : x13_3 < (t347.size : Int) := of_decide_eq_true (by first | (with_reducible assumption) | assumption)
                       have hx19 := bt_at t347 x13_3
                       replace p19 := eq_true p19
                       replace q19 := eq_true q19
                       go_wp2
                       go_roundg k3
                       case measure => have := HJ6.out; have := HJ12.out; have := HK3.out; omega
                       case rel => exact ⟨(wrap64 (x10_3 + 1)), (x11_3), (wrap64 (x13_3 + 1)), (wrap64 (x13_3 + 1)), (by first | rfl | (simp; done) | (simp [*]; done)), (by first | rfl | (simp; done) | (simp [*]; done)), (by first | rfl | (simp; done) | (simp [*]; done)), (by first | rfl | (simp; done) | (simp [*]; done)), H', ⟨by have := HJ6.out; have := HJ12.out; have := HK3.out; omega⟩, ⟨by repeat (first | (with_reducible first | exact HB.out | apply below_alloc | apply pw_below_drewN | apply below_drew1) | exact HB.out)⟩⟩
                   · rw [if_neg c21] at H
                     have c21b0 : ((wrap64 (x10_3 + 1)) == (wrap64 (t350 - 1))) = false := beq_eq_false_iff_ne.mpr c21
                     have c21b1 : ((wrap64 (x10_3 + 1)) != (wrap64 (t350 - 1))) = true := bne_iff_ne.mpr c21
                     by_cases c23 : (wrap64 (x10_3 + 1)) = t350
                     · rw [if_pos c23] at H
                       have c23b0 : ((wrap64 (x10_3 + 1)) == t350) = true := beq_iff_eq.mpr c23
                       have c23b1 : ((wrap64 (x10_3 + 1)) != t350) = false := bne_eq_false_iff_eq.mpr c23
                       clear c23
                       have H' := Aside0.mk H
                       clear H
                       have p19 : 0 ≤ (x13_3 : Int) := of_decide_eq_true (by first | (with_reducible assumption) | assumption)
                       have q19 : x13_3 < (t347.size : Int) := of_decide_eq_true (by first | (with_reducible assumption) | assumption)
                       have hx19 := bt_at t347 x13_3
                       replace p19 := eq_true p19
                       replace q19 := eq_true q19
                       go_wp2
                       go_roundg k3
                       case measure => have := HJ6.out; have := HJ12.out; have := HK3.out; omega
                       case rel => exact ⟨(wrap64 (x10_3 + 1)), (wrap64 (x13_3 + 1)), (x12_3), (wrap64 (x13_3 + 1)), (by first | rfl | (simp; done) | (simp [*]; done)), (by first | rfl | (simp; done) | (simp [*]; done)), (by first | rfl | (simp; done) | (simp [*]; done)), (by first | rfl | (simp; done) | (simp [*]; done)), H', ⟨by have := HJ6.out; have := HJ12.out; have := HK3.out; omega⟩, ⟨by repeat (first | (with_reducible first | exact HB.out | apply below_alloc | apply pw_below_drewN | apply below_drew1) | exact HB.out)⟩⟩
                     · rw [if_neg c23] at H
                       have c23b0 : ((wrap64 (x10_3 + 1)) == t350) = false := beq_eq_false_iff_ne.mpr c23
                       have c23b1 : ((wrap64 (x10_3 + 1)) != t350) = true := bne_iff_ne.mpr c23
                       have H' := Aside0.mk H
                       clear H
                       have p19 : 0 ≤ (x13_3 : Int) := of_decide_eq_true (by first | (with_reducible assumption) | assumption)
                       have q19 : x13_3 < (t347.size : Int) := of_decide_eq_true (by first | (with_reducible assumption) | assumption)
                       have hx19 := bt_at t347 x13_3
                       replace p19 := eq_true p19
                       replace q19 := eq_true q19
                       go_wp2
                       go_roundg k3
                       case measure => have := HJ6.out; have := HJ12.out; have := HK3.out; omega
                       case rel => exact ⟨(wrap64 (x10_3 + 1)), (x11_3), (x12_3), (wrap64 (x13_3 + 1)), (by first | rfl | (simp; done) | (simp [*]; done)), (by first | rfl | (simp; done) | (simp [*]; done)), (by first | rfl | (simp; done) | (simp [*]; done)), (by first | rfl | (simp; done) | (simp [*]; done)), H', ⟨by have := HJ6.out; have := HJ12.out; have := HK3.out; omega⟩, ⟨by repeat (first | (with_reducible first | exact HB.out | apply below_alloc | apply pw_below_drewN | apply below_drew1) | exact HB.out)⟩⟩
                 · rw [if_neg c20] at H
                   have c20b0 : ((bt t347 x13_3) == 10) = false := beq_eq_false_iff_ne.mpr c20
                   have c20b1 : ((bt t347 x13_3) != 10) = true := bne_iff_ne.mpr c20
                   have H' := Aside0.mk H
                   clear H
                   have p19 : 0 ≤ (x13_3 : Int) := of_decide_eq_true (by first | (with_reducible assumption) | assumption)
                   have q19 : x13_3 < (t347.size : Int) := of_decide_eq_true (by first | (with_reducible assumption) | assumption)
                   have hx19 := bt_at t347 x13_3
                   replace p19 := eq_true p19
                   replace q19 := eq_true q19
                   go_wp2
                   go_roundg k3
                   case measure => have := HJ6.out; have := HJ12.out; have := HK3.out; omega
                   case rel => exact ⟨(x10_3), (x11_3), (x12_3), (wrap64 (x13_3 + 1)), (by first | rfl | (simp; done) | (simp [*]; done)), (by first | rfl | (simp; done) | (simp [*]; done)), (by first | rfl | (simp; done) | (simp [*]; done)), (by first | rfl | (simp; done) | (simp [*]; done)), H', ⟨by have := HJ6.out; have := HJ12.out; have := HK3.out; omega⟩, ⟨by repeat (first | (with_reducible first | exact HB.out | apply below_alloc | apply pw_below_drewN | apply below_drew1) | exact HB.out)⟩⟩
               · rw [if_neg c18] at H
                 exact absurd H (by simp)
             · rw [if_neg c17] at H
               have c17b0 : decide (x13_3 < (t347.size : Int)) = false := decide_eq_false c17
               clear c17
               by_cases c24 : 0 ≤ x11_3
               · rw [if_pos c24] at H
                 have c24b0 := eq_true c24
                 have c24b1 : decide (0 ≤ x11_3) = true := decide_eq_true c24
                 clear c24
                 by_cases c25 : x11_3 ≤ (t347.size : Int)
                 · rw [if_pos c25] at H
                   have c25b0 := eq_true c25
                   have c25b1 : decide (x11_3 ≤ (t347.size : Int)) = true := decide_eq_true c25
                   clear c25
                   replace H := Option.bind_eq_some_iff.mp H
                   obtain ⟨⟨t358, t359, t360⟩, A260, H⟩ := H
                   replace H : (if 0 ≤ x12_3 then (if x12_3 ≤ (t347.size : Int) then ((impl_Assemble.f (t347.extract 0 (x12_3 : Int).toNat)).bind fun bt363 => (if t359 = t349 then (if t360 = t350 then (if bt363.2.1 = 0 then (some true) else (some (bt363.2.1 == 5))) else (some false)) else (some false))) else (none)) else (none)) = some r := H
                   have A26 := Aside0.mk A260
                   clear A260
                   by_cases c27 : 0 ≤ x12_3
                   · rw [if_pos c27] at H
                     have c27b0 := eq_true c27
                     have c27b1 : decide (0 ≤ x12_3) = true := decide_eq_true c27
                     clear c27
                     by_cases c28 : x12_3 ≤ (t347.size : Int)
                     · rw [if_pos c28] at H
                       have c28b0 := eq_true c28
                       have c28b1 : decide (x12_3 ≤ (t347.size : Int)) = true := decide_eq_true c28
                       clear c28
                       replace H := Option.bind_eq_some_iff.mp H
                       obtain ⟨⟨t363, t364, t365⟩, A290, H⟩ := H
                       replace H : (if t359 = t349 then (if t360 = t350 then (if t364 = 0 then (some true) else (some (t364 == 5))) else (some false)) else (some false)) = some r := H
                       have A29 := Aside0.mk A290
                       clear A290
                       by_cases c30 : t359 = t349
                       · rw [if_pos c30] at H
                         have c30b0 : (t359 == t349) = true := beq_iff_eq.mpr c30
                         have c30b1 : (t359 != t349) = false := bne_eq_false_iff_eq.mpr c30
                         clear c30
                         by_cases c31 : t360 = t350
                         · rw [if_pos c31] at H
                           have c31b0 : (t360 == t350) = true := beq_iff_eq.mpr c31
                           have c31b1 : (t360 != t350) = false := bne_eq_false_iff_eq.mpr c31
                           clear c31
                           by_cases c32 : t364 = 0
                           · rw [if_pos c32] at H
                             have c32b0 : (t364 == 0) = true := beq_iff_eq.mpr c32
                             have c32b1 : (t364 != 0) = false := bne_eq_false_iff_eq.mpr c32
                             clear c32
                             obtain rfl := Option.some.inj H
                             go_wp2_with (first | ((with_reducible refine gate_callee (f := 9) rfl ?_); refine goesL_ (some 81) rfl rfl Tryz.func9 (by kernel_rfl) rfl #[.string (t347.extract 0 (x11_3 : Int).toNat)] rfl (by (try simp only [List.map_toArray, List.map_cons, List.map_nil]); first | done | rfl | (simp only [List.length_drop, List.length_take]; rfl)) ?_; (with_reducible refine (impl_Assemble.calls (t347.extract 0 (x11_3 : Int).toNat) t358 t359 t360 _ ?side1 A26.out).mono ?_); (case side1 => exact Tab.TabsODEM.below HTB.out (by repeat (first | (with_reducible first | exact HB.out | apply below_alloc | apply pw_below_drewN | apply below_drew1) | exact HB.out))); rintro e w33 ⟨v361, rfl, ho0, hb⟩; refine ⟨_, rfl, ?_⟩; have n0_ := Aside0.mk (Kd.R_lower ho0 (below_size (by repeat (first | (with_reducible first | exact HB.out | apply below_alloc | apply pw_below_drewN | apply below_drew1) | exact HB.out)))); have n1_ := Aside0.mk (below_step (by repeat (first | (with_reducible first | exact HB.out | apply below_alloc | apply pw_below_drewN | apply below_drew1) | exact HB.out)) hb); clear HB; have HO362 := n0_; have HB := n1_; clear n0_ n1_; (try clear hb); (try clear hb2); (try clear hk); (try clear hi); (try clear ho0)) | ((with_reducible refine gate_callee (f := 9) rfl ?_); refine goesL_ (some 89) rfl rfl Tryz.func9 (by kernel_rfl) rfl #[.string (t347.extract 0 (x12_3 : Int).toNat)] rfl (by (try simp only [List.map_toArray, List.map_cons, List.map_nil]); first | done | rfl | (simp only [List.length_drop, List.length_take]; rfl)) ?_; (with_reducible refine (impl_Assemble.calls (t347.extract 0 (x12_3 : Int).toNat) t363 t364 t365 _ ?side1 A29.out).mono ?_); (case side1 => exact Tab.TabsODEM.below HTB.out (by repeat (first | (with_reducible first | exact HB.out | apply below_alloc | apply pw_below_drewN | apply below_drew1) | exact HB.out))); rintro e w34 ⟨v366, rfl, ho0, hb⟩; refine ⟨_, rfl, ?_⟩; have n0_ := Aside0.mk (Kd.R_elder' (by (with_reducible repeat (first | apply Kd.R_alloc | apply Kd.R_drewN | apply Kd.R_drew)); exact HO362.out) (Kd.R_base ho0) hb); have n1_ := Aside0.mk (Kd.R_lower (Kd.R_new' ho0 (Kd.R_lt (by (with_reducible repeat (first | apply Kd.R_alloc | apply Kd.R_drewN | apply Kd.R_drew)); exact HO362.out))) (below_size (by repeat (first | (with_reducible first | exact HB.out | apply below_alloc | apply pw_below_drewN | apply below_drew1) | exact HB.out)))); have n2_ := Aside0.mk (below_step (by repeat (first | (with_reducible first | exact HB.out | apply below_alloc | apply pw_below_drewN | apply below_drew1) | exact HB.out)) hb); clear HO362; clear HB; have HO362 := n0_; have HO367 := n1_; have HB := n2_; clear n0_ n1_ n2_; (try clear hb); (try clear hb2); (try clear hk); (try clear hi); (try clear ho0)))
                             go_ret
                             exact ⟨by first | rfl | (simp [errW_none, errW_some] <;> rfl) | (simp [*, errW_none, errW_some] <;> rfl), by repeat (first | (with_reducible first | exact HB.out | apply below_alloc | apply pw_below_drewN | apply below_drew1) | exact HB.out)⟩
                           · rw [if_neg c32] at H
                             have c32b0 : (t364 == 0) = false := beq_eq_false_iff_ne.mpr c32
                             have c32b1 : (t364 != 0) = true := bne_iff_ne.mpr c32
                             obtain rfl := Option.some.inj H
                             go_wp2_with (first | ((with_reducible refine gate_callee (f := 9) rfl ?_); refine goesL_ (some 81) rfl rfl Tryz.func9 (by kernel_rfl) rfl #[.string (t347.extract 0 (x11_3 : Int).toNat)] rfl (by (try simp only [List.map_toArray, List.map_cons, List.map_nil]); first | done | rfl | (simp only [List.length_drop, List.length_take]; rfl)) ?_; (with_reducible refine (impl_Assemble.calls (t347.extract 0 (x11_3 : Int).toNat) t358 t359 t360 _ ?side1 A26.out).mono ?_); (case side1 => exact Tab.TabsODEM.below HTB.out (by repeat (first | (with_reducible first | exact HB.out | apply below_alloc | apply pw_below_drewN | apply below_drew1) | exact HB.out))); rintro e w35 ⟨v361, rfl, ho0, hb⟩; refine ⟨_, rfl, ?_⟩; have n0_ := Aside0.mk (Kd.R_lower ho0 (below_size (by repeat (first | (with_reducible first | exact HB.out | apply below_alloc | apply pw_below_drewN | apply below_drew1) | exact HB.out)))); have n1_ := Aside0.mk (below_step (by repeat (first | (with_reducible first | exact HB.out | apply below_alloc | apply pw_below_drewN | apply below_drew1) | exact HB.out)) hb); clear HB; have HO362 := n0_; have HB := n1_; clear n0_ n1_; (try clear hb); (try clear hb2); (try clear hk); (try clear hi); (try clear ho0)) | ((with_reducible refine gate_callee (f := 9) rfl ?_); refine goesL_ (some 89) rfl rfl Tryz.func9 (by kernel_rfl) rfl #[.string (t347.extract 0 (x12_3 : Int).toNat)] rfl (by (try simp only [List.map_toArray, List.map_cons, List.map_nil]); first | done | rfl | (simp only [List.length_drop, List.length_take]; rfl)) ?_; (with_reducible refine (impl_Assemble.calls (t347.extract 0 (x12_3 : Int).toNat) t363 t364 t365 _ ?side1 A29.out).mono ?_); (case side1 => exact Tab.TabsODEM.below HTB.out (by repeat (first | (with_reducible first | exact HB.out | apply below_alloc | apply pw_below_drewN | apply below_drew1) | exact HB.out))); rintro e w36 ⟨v366, rfl, ho0, hb⟩; refine ⟨_, rfl, ?_⟩; have n0_ := Aside0.mk (Kd.R_elder' (by (with_reducible repeat (first | apply Kd.R_alloc | apply Kd.R_drewN | apply Kd.R_drew)); exact HO362.out) (Kd.R_base ho0) hb); have n1_ := Aside0.mk (Kd.R_lower (Kd.R_new' ho0 (Kd.R_lt (by (with_reducible repeat (first | apply Kd.R_alloc | apply Kd.R_drewN | apply Kd.R_drew)); exact HO362.out))) (below_size (by repeat (first | (with_reducible first | exact HB.out | apply below_alloc | apply pw_below_drewN | apply below_drew1) | exact HB.out)))); have n2_ := Aside0.mk (below_step (by repeat (first | (with_reducible first | exact HB.out | apply below_alloc | apply pw_below_drewN | apply below_drew1) | exact HB.out)) hb); clear HO362; clear HB; have HO362 := n0_; have HO367 := n1_; have HB := n2_; clear n0_ n1_ n2_; (try clear hb); (try clear hb2); (try clear hk); (try clear hi); (try clear ho0)))
                             go_ret
                             exact ⟨by first | rfl | (simp [errW_none, errW_some] <;> rfl) | (simp [*, errW_none, errW_some] <;> rfl), by repeat (first | (with_reducible first | exact HB.out | apply below_alloc | apply pw_below_drewN | apply below_drew1) | exact HB.out)⟩
                         · rw [if_neg c31] at H
                           have c31b0 : (t360 == t350) = false := beq_eq_false_iff_ne.mpr c31
                           have c31b1 : (t360 != t350) = true := bne_iff_ne.mpr c31
                           obtain rfl := Option.some.inj H
                           go_wp2_with (first | ((with_reducible refine gate_callee (f := 9) rfl ?_); refine goesL_ (some 81) rfl rfl Tryz.func9 (by kernel_rfl) rfl #[.string (t347.extract 0 (x11_3 : Int).toNat)] rfl (by (try simp only [List.map_toArray, List.map_cons, List.map_nil]); first | done | rfl | (simp only [List.length_drop, List.length_take]; rfl)) ?_; (with_reducible refine (impl_Assemble.calls (t347.extract 0 (x11_3 : Int).toNat) t358 t359 t360 _ ?side1 A26.out).mono ?_); (case side1 => exact Tab.TabsODEM.below HTB.out (by repeat (first | (with_reducible first | exact HB.out | apply below_alloc | apply pw_below_drewN | apply below_drew1) | exact HB.out))); rintro e w37 ⟨v361, rfl, ho0, hb⟩; refine ⟨_, rfl, ?_⟩; have n0_ := Aside0.mk (Kd.R_lower ho0 (below_size (by repeat (first | (with_reducible first | exact HB.out | apply below_alloc | apply pw_below_drewN | apply below_drew1) | exact HB.out)))); have n1_ := Aside0.mk (below_step (by repeat (first | (with_reducible first | exact HB.out | apply below_alloc | apply pw_below_drewN | apply below_drew1) | exact HB.out)) hb); clear HB; have HO362 := n0_; have HB := n1_; clear n0_ n1_; (try clear hb); (try clear hb2); (try clear hk); (try clear hi); (try clear ho0)) | ((with_reducible refine gate_callee (f := 9) rfl ?_); refine goesL_ (some 89) rfl rfl Tryz.func9 (by kernel_rfl) rfl #[.string (t347.extract 0 (x12_3 : Int).toNat)] rfl (by (try simp only [List.map_toArray, List.map_cons, List.map_nil]); first | done | rfl | (simp only [List.length_drop, List.length_take]; rfl)) ?_; (with_reducible refine (impl_Assemble.calls (t347.extract 0 (x12_3 : Int).toNat) t363 t364 t365 _ ?side1 A29.out).mono ?_); (case side1 => exact Tab.TabsODEM.below HTB.out (by repeat (first | (with_reducible first | exact HB.out | apply below_alloc | apply pw_below_drewN | apply below_drew1) | exact HB.out))); rintro e w38 ⟨v366, rfl, ho0, hb⟩; refine ⟨_, rfl, ?_⟩; have n0_ := Aside0.mk (Kd.R_elder' (by (with_reducible repeat (first | apply Kd.R_alloc | apply Kd.R_drewN | apply Kd.R_drew)); exact HO362.out) (Kd.R_base ho0) hb); have n1_ := Aside0.mk (Kd.R_lower (Kd.R_new' ho0 (Kd.R_lt (by (with_reducible repeat (first | apply Kd.R_alloc | apply Kd.R_drewN | apply Kd.R_drew)); exact HO362.out))) (below_size (by repeat (first | (with_reducible first | exact HB.out | apply below_alloc | apply pw_below_drewN | apply below_drew1) | exact HB.out)))); have n2_ := Aside0.mk (below_step (by repeat (first | (with_reducible first | exact HB.out | apply below_alloc | apply pw_below_drewN | apply below_drew1) | exact HB.out)) hb); clear HO362; clear HB; have HO362 := n0_; have HO367 := n1_; have HB := n2_; clear n0_ n1_ n2_; (try clear hb); (try clear hb2); (try clear hk); (try clear hi); (try clear ho0)))
                           go_ret
                           exact ⟨by first | rfl | (simp [errW_none, errW_some] <;> rfl) | (simp [*, errW_none, errW_some] <;> rfl), by repeat (first | (with_reducible first | exact HB.out | apply below_alloc | apply pw_below_drewN | apply below_drew1) | exact HB.out)⟩
                       · rw [if_neg c30] at H
                         have c30b0 : (t359 == t349) = false := beq_eq_false_iff_ne.mpr c30
                         have c30b1 : (t359 != t349) = true := bne_iff_ne.mpr c30
                         obtain rfl := Option.some.inj H
                         go_wp2_with (first | ((with_reducible refine gate_callee (f := 9) rfl ?_); refine goesL_ (some 81) rfl rfl Tryz.func9 (by kernel_rfl) rfl #[.string (t347.extract 0 (x11_3 : Int).toNat)] rfl (by (try simp only [List.map_toArray, List.map_cons, List.map_nil]); first | done | rfl | (simp only [List.length_drop, List.length_take]; rfl)) ?_; (with_reducible refine (impl_Assemble.calls (t347.extract 0 (x11_3 : Int).toNat) t358 t359 t360 _ ?side1 A26.out).mono ?_); (case side1 => exact Tab.TabsODEM.below HTB.out (by repeat (first | (with_reducible first | exact HB.out | apply below_alloc | apply pw_below_drewN | apply below_drew1) | exact HB.out))); rintro e w39 ⟨v361, rfl, ho0, hb⟩; refine ⟨_, rfl, ?_⟩; have n0_ := Aside0.mk (Kd.R_lower ho0 (below_size (by repeat (first | (with_reducible first | exact HB.out | apply below_alloc | apply pw_below_drewN | apply below_drew1) | exact HB.out)))); have n1_ := Aside0.mk (below_step (by repeat (first | (with_reducible first | exact HB.out | apply below_alloc | apply pw_below_drewN | apply below_drew1) | exact HB.out)) hb); clear HB; have HO362 := n0_; have HB := n1_; clear n0_ n1_; (try clear hb); (try clear hb2); (try clear hk); (try clear hi); (try clear ho0)) | ((with_reducible refine gate_callee (f := 9) rfl ?_); refine goesL_ (some 89) rfl rfl Tryz.func9 (by kernel_rfl) rfl #[.string (t347.extract 0 (x12_3 : Int).toNat)] rfl (by (try simp only [List.map_toArray, List.map_cons, List.map_nil]); first | done | rfl | (simp only [List.length_drop, List.length_take]; rfl)) ?_; (with_reducible refine (impl_Assemble.calls (t347.extract 0 (x12_3 : Int).toNat) t363 t364 t365 _ ?side1 A29.out).mono ?_); (case side1 => exact Tab.TabsODEM.below HTB.out (by repeat (first | (with_reducible first | exact HB.out | apply below_alloc | apply pw_below_drewN | apply below_drew1) | exact HB.out))); rintro e w40 ⟨v366, rfl, ho0, hb⟩; refine ⟨_, rfl, ?_⟩; have n0_ := Aside0.mk (Kd.R_elder' (by (with_reducible repeat (first | apply Kd.R_alloc | apply Kd.R_drewN | apply Kd.R_drew)); exact HO362.out) (Kd.R_base ho0) hb); have n1_ := Aside0.mk (Kd.R_lower (Kd.R_new' ho0 (Kd.R_lt (by (with_reducible repeat (first | apply Kd.R_alloc | apply Kd.R_drewN | apply Kd.R_drew)); exact HO362.out))) (below_size (by repeat (first | (with_reducible first | exact HB.out | apply below_alloc | apply pw_below_drewN | apply below_drew1) | exact HB.out)))); have n2_ := Aside0.mk (below_step (by repeat (first | (with_reducible first | exact HB.out | apply below_alloc | apply pw_below_drewN | apply below_drew1) | exact HB.out)) hb); clear HO362; clear HB; have HO362 := n0_; have HO367 := n1_; have HB := n2_; clear n0_ n1_ n2_; (try clear hb); (try clear hb2); (try clear hk); (try clear hi); (try clear ho0)))
                         go_ret
                         exact ⟨by first | rfl | (simp [errW_none, errW_some] <;> rfl) | (simp [*, errW_none, errW_some] <;> rfl), by repeat (first | (with_reducible first | exact HB.out | apply below_alloc | apply pw_below_drewN | apply below_drew1) | exact HB.out)⟩
                     · rw [if_neg c28] at H
                       exact absurd H (by simp)
                   · rw [if_neg c27] at H
                     exact absurd H (by simp)
                 · rw [if_neg c25] at H
                   exact absurd H (by simp)
               · rw [if_neg c24] at H
                 exact absurd H (by simp)

/-- THE ONE PURE STATEMENT of laws_FnFaultLine: yours. -/
def laws_FnFaultLine.Pure : Prop := ∀ (l0 : List Int), l0.length ≤ maxLen → l0.length * 1 ≤ 140737488351232 → (∀ x ∈ l0, (Lit.int .u8 x).wf = true) → ∃ k, laws_FnFaultLine.f k l0 = some true
theorem laws_FnFaultLine.walk (P : laws_FnFaultLine.Pure) (a0 : Option Addr) (len0 cap0 : Nat) (z0 : List Int) (w : World) (w0 : (a0 = none ∧ len0 = 0 ∧ cap0 = 0 ∧ z0 = []) ∨ ∃ x, a0 = some x ∧ len0 ≤ cap0 ∧ cap0 ≤ maxLen ∧ z0.length = cap0 ∧ (∀ i, i < z0.length → w.cell? (x.add i) = some (.int .u8 (z0.getD i 0))) ∧ ∀ n ∈ z0, (Lit.int .u8 n).wf = true) (y0 : len0 * 1 ≤ 140737488351232) (ht : Tab.TabsODEM w) :
 Calls Tryz.prog 3 #[.slice a0 len0 cap0] w fun e w' => e = .returned (.bool true) ∧ Below w.heap.size w w' := by
 obtain ⟨l0, rfl, hr0, hm0, hw0, hc0⟩ := ReadsInt.ofRowC w0
 obtain ⟨k, h⟩ := P l0 hm0 y0 hw0
 refine (laws_FnFaultLine.calls k _ _ l0 true w (Kd.C_of_reads (d := (0 : Int)) (h1 := fun _ => rfl) hr0) hc0 ht h).mono ?_
 rintro e w' ⟨rfl, hd⟩
 exact ⟨rfl, hd⟩

end Go.Proofs.YtaophlekfepkgaaGreatDoor.PFnFaultLine

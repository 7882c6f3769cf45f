/- Printed by a program out of the translation, with contracts of my own set in. -/
import Derived.Test.YtaophlekfepkgaaGreatDoorPFnAssemblex0
import Derived.Test.YtaophlekfepkgaaGreatDoorPFnAssemblex1
import Derived.Test.YtaophlekfepkgaaGreatDoorPFnAssemblex6
namespace Go.Proofs.YtaophlekfepkgaaGreatDoor.PFnAssemble
open Go.RowKit Go.Proofs.YtaophlekfepkgaaGreatDoorW.PrintWords Go.Proofs.YtaophlekfepkgaaGreatDoorW.PrintLast Go.Proofs.YtaophlekfepkgaaGreatDoorW.PrintMore
attribute [local go_sem] max2_int min2_int max_two min_two max_three min_three max_four min_four   -- for this text's walks alone
set_option linter.unusedVariables false
set_option linter.unusedSimpArgs false

/-! ### impl_showInstr: function 52 -/
/-- A register's part of a line. -/
def impl_showInstr.reg (form bit n : Int) : List UInt8 := if form / bit % 2 = 1 then 32 :: 114 :: Lib.itoa n else []
/-- The line of an instruction. -/
def impl_showInstr.txt (op a b c imm : Int) : List UInt8 :=
 Tab.names.getD op.toNat [] ++ (impl_showInstr.reg (impl_isInstr.form op) 1 a ++ (impl_showInstr.reg (impl_isInstr.form op) 2 b ++ (impl_showInstr.reg (impl_isInstr.form op) 4 c ++ (if impl_isInstr.form op / 8 % 2 = 1 then 32 :: Lib.itoa imm else []))))
def impl_showInstr.ok (op a b c imm : Int) : Prop := (0 ≤ op ∧ op ≤ 32) ∧ (-9223372036854775808 ≤ a ∧ a ≤ 9223372036854775807) ∧ (-9223372036854775808 ≤ b ∧ b ≤ 9223372036854775807) ∧ (-9223372036854775808 ≤ c ∧ c ≤ 9223372036854775807) ∧ (-9223372036854775808 ≤ imm ∧ imm ≤ 9223372036854775807)
instance (op a b c imm : Int) : Decidable (impl_showInstr.ok op a b c imm) := by unfold impl_showInstr.ok; exact inferInstance
def impl_showInstr.f (a0_0 : Int) (a0_1 : Int) (a0_2 : Int) (a0_3 : Int) (a0_4 : Int) : Option (ByteArray) := if impl_showInstr.ok a0_0 a0_1 a0_2 a0_3 a0_4 then some ⟨(impl_showInstr.txt a0_0 a0_1 a0_2 a0_3 a0_4).toArray⟩ else none
def impl_showInstr.num (n : Int) : ByteArray := ⟨(Lib.itoa n).toArray⟩
theorem impl_showInstr.dec (n : Int) (W : World) (ht : Tab.TabsODEM W) (h : -9223372036854775808 ≤ n ∧ n ≤ 9223372036854775807) :
 Calls Tryz.prog 53 #[.int .i64 n] W fun e w' => e = .returned (.string (impl_showInstr.num n)) ∧ Below W.heap.size W w' :=
 impl_DecText.calls n (impl_showInstr.num n) W ht (by unfold impl_DecText.f strconv_Itoa.f; first | (rw [if_pos h]; rfl) | (simp only [if_pos h]; rfl))
theorem impl_showInstr.digits_len (j : Nat) : ∀ u : Nat, u < 10 ^ (j + 1) → (Lib.decDigits u).length ≤ j + 1 := by
 induction j with
 | zero => intro u h; rw [Lib.decDigits, dif_pos (by simpa using h)]; simp
 | succ j ih =>
  intro u h
  by_cases h10 : u < 10
  · rw [Lib.decDigits, dif_pos h10]; simp
  · rw [Lib.decDigits, dif_neg h10, List.length_append]
    have := ih (u / 10) (by rw [Nat.pow_succ] at h; exact Nat.div_lt_of_lt_mul (by rw [Nat.mul_comm]; exact h))
    simp; omega
theorem impl_showInstr.itoa_len (n : Int) (h : -9223372036854775808 ≤ n ∧ n ≤ 9223372036854775807) : (Lib.itoa n).length ≤ 21 := by
 unfold Lib.itoa
 by_cases hn : n < 0
 · rw [if_pos hn]
   have := impl_showInstr.digits_len 19 n.natAbs (by omega)
   simp; omega
 · rw [if_neg hn]
   have := impl_showInstr.digits_len 19 n.toNat (by omega)
   omega
theorem impl_showInstr.num_size (n : Int) (h : -9223372036854775808 ≤ n ∧ n ≤ 9223372036854775807) : (impl_showInstr.num n).size ≤ 21 := by
 have := impl_showInstr.itoa_len n h
 simpa [impl_showInstr.num, ByteArray.size] using this
theorem impl_showInstr.nm_size : ∀ n : Fin 33, (Tab.nm n.val).size ≤ 5 := by decide +kernel
/-- What the text is behind k registers. -/
def impl_showInstr.add (form bit : Nat) (x a : ByteArray) : ByteArray := if form / bit % 2 = 1 then x ++ ((⟨#[32, 114]⟩ : ByteArray) ++ a) else x
def impl_showInstr.pre (form : Nat) (x : ByteArray) (a b c : ByteArray) : Nat → ByteArray
 | 0 => x
 | 1 => impl_showInstr.add form 1 x a
 | 2 => impl_showInstr.add form 2 (impl_showInstr.add form 1 x a) b
 | _ => impl_showInstr.add form 4 (impl_showInstr.add form 2 (impl_showInstr.add form 1 x a) b) c

theorem impl_showInstr.txt0 (n : Nat) (a0_1 a0_2 a0_3 a0_4 : Int) (hf : impl_isInstr.form (n : Int) = 0) : (impl_showInstr.pre 0 (Tab.nm n) (impl_showInstr.num a0_1) (impl_showInstr.num a0_2) (impl_showInstr.num a0_3) 3).data.toList = impl_showInstr.txt n a0_1 a0_2 a0_3 a0_4 := by
 unfold impl_showInstr.txt impl_showInstr.pre impl_showInstr.add impl_showInstr.reg
 rw [hf]
 simp [impl_showInstr.num, Tab.nm, ByteArray.data_append]
set_option maxHeartbeats 8000000 in
set_option maxRecDepth 100000 in
theorem impl_showInstr.form0 (n : Nat) (a0_1 a0_2 a0_3 a0_4 : Int) (w : World) (HT : Aside0 (Tab.TabsODEM w)) (HLT : Hid (n < 33)) (HF : Hid (impl_isInstr.form (n : Int) = 0)) (HO : Hid (impl_showInstr.ok n a0_1 a0_2 a0_3 a0_4)) :
 Calls Tryz.prog 52 #[.agg #[.int .i64 (n : Int), .int .i64 a0_1, .int .i64 a0_2, .int .i64 a0_3, .int .i64 a0_4]] w fun e w' => (e = .returned (.string (impl_showInstr.pre 0 (Tab.nm n) (impl_showInstr.num a0_1) (impl_showInstr.num a0_2) (impl_showInstr.num a0_3) 3))) ∧ Below w.heap.size w w' := by
 have hu := Tryz.underlying48
 have HFC := fun W => impl_formOf.calls 8 (n : Int) 0 W (by rw [impl_isInstr.form_eq, HF.out])
 have i0 : ∀ w, (Instr.index 115 (.agg #[.int .i64 a0_1, .int .i64 a0_2, .int .i64 a0_3]) (.int .i64 0)).run Tryz.prog w = .ok (.int .i64 a0_1) w := fun _ => by kernel_rfl
 have i1 : ∀ w, (Instr.index 115 (.agg #[.int .i64 a0_1, .int .i64 a0_2, .int .i64 a0_3]) (.int .i64 1)).run Tryz.prog w = .ok (.int .i64 a0_2) w := fun _ => by kernel_rfl
 have i2 : ∀ w, (Instr.index 115 (.agg #[.int .i64 a0_1, .int .i64 a0_2, .int .i64 a0_3]) (.int .i64 2)).run Tryz.prog w = .ok (.int .i64 a0_3) w := fun _ => by kernel_rfl
 have b0 : Go.bits .and .i64 0 1 = 0 := by decide +kernel
 have b8_ : Go.bits .and .i64 0 8 = 0 := by decide +kernel
 have HNS := Aside0.mk (impl_showInstr.nm_size ⟨n, HLT.out⟩)
 have HX := Aside0.mk (HT.out.o n HLT.out)
 have HLN := Aside0.mk HLT.out
 generalize Tab.nm n = nmv at *
 have HSa := Aside0.mk (impl_showInstr.num_size a0_1 HO.out.2.1)
 have HDa := Lib.hid (fun W (ht : Tab.TabsODEM W) => impl_showInstr.dec a0_1 W ht HO.out.2.1)
 generalize impl_showInstr.num a0_1 = sa at *
 have HSb := Aside0.mk (impl_showInstr.num_size a0_2 HO.out.2.2.1)
 have HDb := Lib.hid (fun W (ht : Tab.TabsODEM W) => impl_showInstr.dec a0_2 W ht HO.out.2.2.1)
 generalize impl_showInstr.num a0_2 = sb at *
 have HSc := Aside0.mk (impl_showInstr.num_size a0_3 HO.out.2.2.2.1)
 have HDc := Lib.hid (fun W (ht : Tab.TabsODEM W) => impl_showInstr.dec a0_3 W ht HO.out.2.2.2.1)
 generalize impl_showInstr.num a0_3 = sc at *
 have HSi := Aside0.mk (impl_showInstr.num_size a0_4 HO.out.2.2.2.2)
 have HDi := Lib.hid (fun W (ht : Tab.TabsODEM W) => impl_showInstr.dec a0_4 W ht HO.out.2.2.2.2)
 generalize impl_showInstr.num a0_4 = si at *
 have c1 : decide (0 ≤ (n : Int)) = true := by simp
 have c2 : decide ((n : Int) < 33) = true := by have := HLT.out; simp; omega
 have c3 : decide (n < 33) = true := by have := HLT.out; simp; omega
 have c4 : ((n : Int) < 33) = True := eq_true (by have := HLT.out; omega)
 have c5 : (33 ≤ (n : Int)) = False := eq_false (by have := HLT.out; omega)
 have HB0 := Aside0.mk (Below.refl w.heap.size w)
 go_enter Tryz.func52, Tryz.ntmps52
 go_wp2_with (first | ((with_reducible refine gate_dst (N := 1) rfl ?_); refine box_event ?hg (N := 1) ?hd (cs := #[.int .i64 (n : Int), .int .i64 a0_1, .int .i64 a0_2, .int .i64 a0_3, .int .i64 a0_4]) (t := 48) ?hr ?_; (case hd => rfl); (case hg => rfl); (case hr => first | (go_simp; done) | (go_simp; rfl)); intro g1 hg w1 hbox hb; revert hbox hb hg))
 intro hg1 hb1 hB1
 have BK := Aside0.mk hb1
 have HB := Aside0.mk (below_step HB0.out hB1)
 clear hg1 hb1 hB1 HB0
 have q0 : w1.cell? ⟨g1, 0, none⟩ = some (.int .i64 (n : Int)) := (blk_cell BK.out 0).trans rfl
 have q1 : w1.cell? ⟨g1, 1, none⟩ = some (.int .i64 a0_1) := (blk_cell BK.out 1).trans rfl
 have q2 : w1.cell? ⟨g1, 2, none⟩ = some (.int .i64 a0_2) := (blk_cell BK.out 2).trans rfl
 have q3 : w1.cell? ⟨g1, 3, none⟩ = some (.int .i64 a0_3) := (blk_cell BK.out 3).trans rfl
 have q4 : w1.cell? ⟨g1, 4, none⟩ = some (.int .i64 a0_4) := (blk_cell BK.out 4).trans rfl
 have hx : w1.cell? ⟨0, n, none⟩ = some (.string nmv) := (HB.out.cell (p := ⟨0, n, none⟩) HT.out.o.lt).trans HX.out
 go_wp2_with (go_at_call 60; refine (HFC _).mono ?_; rintro e w' ⟨rfl, m, rfl⟩)
 clear q0 q1 q2 q3 q4 hx c1 c2 c3 c4 c5
 go_loopw [3, 21] (fun s i wr => ∃ k : Nat, k ≤ 3 ∧ i = .int .i64 k ∧ s = .string (impl_showInstr.pre 0 nmv sa sb sc k) ∧ Aside0 (wr.heap[g1]? = some (.cells #[.int .i64 (n : Int), .int .i64 a0_1, .int .i64 a0_2, .int .i64 a0_3, .int .i64 a0_4] 48 (0, 0))) ∧ Aside0 (Below w.heap.size w wr)) (fun _ i _ => 3 - (intOf i).toNat)
 case atStart => exact ⟨0, by omega, rfl, rfl, ⟨blk_drewN BK.out _⟩, ⟨pw_below_drewN HB.out _⟩⟩
 case round =>
  clear BK HB
  obtain ⟨k, hk, rfl, rfl, BK, HB⟩ := hrel
  rcases (show k = 0 ∨ k = 1 ∨ k = 2 ∨ k = 3 by omega) with rfl | rfl | rfl | rfl
  · go_wp2
    go_roundw
    case rel => exact ⟨1, by omega, rfl, rfl, ⟨BK.out⟩, ⟨HB.out⟩⟩
    case measure => simp [intOf]
  · go_wp2
    go_roundw
    case rel => exact ⟨2, by omega, rfl, rfl, ⟨BK.out⟩, ⟨HB.out⟩⟩
    case measure => simp [intOf]
  · go_wp2
    go_roundw
    case rel => exact ⟨3, by omega, rfl, rfl, ⟨BK.out⟩, ⟨HB.out⟩⟩
    case measure => simp [intOf]
  · go_wp2
    go_ret
    exact ⟨rfl, HB.out⟩
theorem impl_showInstr.txt1 (n : Nat) (a0_1 a0_2 a0_3 a0_4 : Int) (hf : impl_isInstr.form (n : Int) = 1) : (impl_showInstr.pre 1 (Tab.nm n) (impl_showInstr.num a0_1) (impl_showInstr.num a0_2) (impl_showInstr.num a0_3) 3).data.toList = impl_showInstr.txt n a0_1 a0_2 a0_3 a0_4 := by
 unfold impl_showInstr.txt impl_showInstr.pre impl_showInstr.add impl_showInstr.reg
 rw [hf]
 simp [impl_showInstr.num, Tab.nm, ByteArray.data_append]
set_option maxHeartbeats 8000000 in
set_option maxRecDepth 100000 in
theorem impl_showInstr.form1 (n : Nat) (a0_1 a0_2 a0_3 a0_4 : Int) (w : World) (HT : Aside0 (Tab.TabsODEM w)) (HLT : Hid (n < 33)) (HF : Hid (impl_isInstr.form (n : Int) = 1)) (HO : Hid (impl_showInstr.ok n a0_1 a0_2 a0_3 a0_4)) :
 Calls Tryz.prog 52 #[.agg #[.int .i64 (n : Int), .int .i64 a0_1, .int .i64 a0_2, .int .i64 a0_3, .int .i64 a0_4]] w fun e w' => (e = .returned (.string (impl_showInstr.pre 1 (Tab.nm n) (impl_showInstr.num a0_1) (impl_showInstr.num a0_2) (impl_showInstr.num a0_3) 3))) ∧ Below w.heap.size w w' := by
 have hu := Tryz.underlying48
 have HFC := fun W => impl_formOf.calls 8 (n : Int) 1 W (by rw [impl_isInstr.form_eq, HF.out])
 have i0 : ∀ w, (Instr.index 115 (.agg #[.int .i64 a0_1, .int .i64 a0_2, .int .i64 a0_3]) (.int .i64 0)).run Tryz.prog w = .ok (.int .i64 a0_1) w := fun _ => by kernel_rfl
 have i1 : ∀ w, (Instr.index 115 (.agg #[.int .i64 a0_1, .int .i64 a0_2, .int .i64 a0_3]) (.int .i64 1)).run Tryz.prog w = .ok (.int .i64 a0_2) w := fun _ => by kernel_rfl
 have i2 : ∀ w, (Instr.index 115 (.agg #[.int .i64 a0_1, .int .i64 a0_2, .int .i64 a0_3]) (.int .i64 2)).run Tryz.prog w = .ok (.int .i64 a0_3) w := fun _ => by kernel_rfl
 have b0 : Go.bits .and .i64 0 1 = 0 := by decide +kernel
 have b1 : Go.bits .and .i64 1 1 = 1 := by decide +kernel
 have b8_ : Go.bits .and .i64 1 8 = 0 := by decide +kernel
 have HNS := Aside0.mk (impl_showInstr.nm_size ⟨n, HLT.out⟩)
 have HX := Aside0.mk (HT.out.o n HLT.out)
 have HLN := Aside0.mk HLT.out
 generalize Tab.nm n = nmv at *
 have HSa := Aside0.mk (impl_showInstr.num_size a0_1 HO.out.2.1)
 have HDa := Lib.hid (fun W (ht : Tab.TabsODEM W) => impl_showInstr.dec a0_1 W ht HO.out.2.1)
 generalize impl_showInstr.num a0_1 = sa at *
 have HSb := Aside0.mk (impl_showInstr.num_size a0_2 HO.out.2.2.1)
 have HDb := Lib.hid (fun W (ht : Tab.TabsODEM W) => impl_showInstr.dec a0_2 W ht HO.out.2.2.1)
 generalize impl_showInstr.num a0_2 = sb at *
 have HSc := Aside0.mk (impl_showInstr.num_size a0_3 HO.out.2.2.2.1)
 have HDc := Lib.hid (fun W (ht : Tab.TabsODEM W) => impl_showInstr.dec a0_3 W ht HO.out.2.2.2.1)
 generalize impl_showInstr.num a0_3 = sc at *
 have HSi := Aside0.mk (impl_showInstr.num_size a0_4 HO.out.2.2.2.2)
 have HDi := Lib.hid (fun W (ht : Tab.TabsODEM W) => impl_showInstr.dec a0_4 W ht HO.out.2.2.2.2)
 generalize impl_showInstr.num a0_4 = si at *
 have c1 : decide (0 ≤ (n : Int)) = true := by simp
 have c2 : decide ((n : Int) < 33) = true := by have := HLT.out; simp; omega
 have c3 : decide (n < 33) = true := by have := HLT.out; simp; omega
 have c4 : ((n : Int) < 33) = True := eq_true (by have := HLT.out; omega)
 have c5 : (33 ≤ (n : Int)) = False := eq_false (by have := HLT.out; omega)
 have HB0 := Aside0.mk (Below.refl w.heap.size w)
 go_enter Tryz.func52, Tryz.ntmps52
 go_wp2_with (first | ((with_reducible refine gate_dst (N := 1) rfl ?_); refine box_event ?hg (N := 1) ?hd (cs := #[.int .i64 (n : Int), .int .i64 a0_1, .int .i64 a0_2, .int .i64 a0_3, .int .i64 a0_4]) (t := 48) ?hr ?_; (case hd => rfl); (case hg => rfl); (case hr => first | (go_simp; done) | (go_simp; rfl)); intro g1 hg w1 hbox hb; revert hbox hb hg))
 intro hg1 hb1 hB1
 have BK := Aside0.mk hb1
 have HB := Aside0.mk (below_step HB0.out hB1)
 clear hg1 hb1 hB1 HB0
 have q0 : w1.cell? ⟨g1, 0, none⟩ = some (.int .i64 (n : Int)) := (blk_cell BK.out 0).trans rfl
 have q1 : w1.cell? ⟨g1, 1, none⟩ = some (.int .i64 a0_1) := (blk_cell BK.out 1).trans rfl
 have q2 : w1.cell? ⟨g1, 2, none⟩ = some (.int .i64 a0_2) := (blk_cell BK.out 2).trans rfl
 have q3 : w1.cell? ⟨g1, 3, none⟩ = some (.int .i64 a0_3) := (blk_cell BK.out 3).trans rfl
 have q4 : w1.cell? ⟨g1, 4, none⟩ = some (.int .i64 a0_4) := (blk_cell BK.out 4).trans rfl
 have hx : w1.cell? ⟨0, n, none⟩ = some (.string nmv) := (HB.out.cell (p := ⟨0, n, none⟩) HT.out.o.lt).trans HX.out
 go_wp2_with (go_at_call 60; refine (HFC _).mono ?_; rintro e w' ⟨rfl, m, rfl⟩)
 clear q0 q1 q2 q3 q4 hx c1 c2 c3 c4 c5
 go_loopw [3, 21] (fun s i wr => ∃ k : Nat, k ≤ 3 ∧ i = .int .i64 k ∧ s = .string (impl_showInstr.pre 1 nmv sa sb sc k) ∧ Aside0 (wr.heap[g1]? = some (.cells #[.int .i64 (n : Int), .int .i64 a0_1, .int .i64 a0_2, .int .i64 a0_3, .int .i64 a0_4] 48 (0, 0))) ∧ Aside0 (Below w.heap.size w wr)) (fun _ i _ => 3 - (intOf i).toNat)
 case atStart => exact ⟨0, by omega, rfl, rfl, ⟨blk_drewN BK.out _⟩, ⟨pw_below_drewN HB.out _⟩⟩
 case round =>
  clear BK HB
  obtain ⟨k, hk, rfl, rfl, BK, HB⟩ := hrel
  rcases (show k = 0 ∨ k = 1 ∨ k = 2 ∨ k = 3 by omega) with rfl | rfl | rfl | rfl
  · have HP := Aside0.mk (show (impl_showInstr.pre 1 nmv sa sb sc 0).size ≤ 5 by have h1 := HNS.out; have h2 := HSa.out; have h3 := HSb.out; have h4 := HSc.out; have hz : (⟨#[32, 114]⟩ : ByteArray).size = 2 := rfl; simp [impl_showInstr.pre, impl_showInstr.add, ByteArray.size_append] at *; omega)
    generalize hpre : impl_showInstr.pre 1 nmv sa sb sc 0 = p at HP ⊢
    have HPE := Aside0.mk hpre
    clear hpre
    have e1 : (9223372036854775807 < 2 + sa.size) = False := eq_false (by have := HSa.out; omega)
    have e2 : (9223372036854775807 < p.size + (2 + sa.size)) = False := eq_false (by have := HSa.out; have := HP.out; omega)
    go_wp2_with (go_at_call 53; refine (HDa.out _ (HT.out.below HB.out)).mono ?_; rintro e w2 ⟨rfl, hb_⟩)
    go_roundw
    case rel => exact ⟨1, by omega, rfl, by rw [← HPE.out]; rfl, ⟨blk_below BK.out hb_⟩, ⟨below_step HB.out hb_⟩⟩
    case measure => simp [intOf]
  · go_wp2
    go_roundw
    case rel => exact ⟨2, by omega, rfl, rfl, ⟨BK.out⟩, ⟨HB.out⟩⟩
    case measure => simp [intOf]
  · go_wp2
    go_roundw
    case rel => exact ⟨3, by omega, rfl, rfl, ⟨BK.out⟩, ⟨HB.out⟩⟩
    case measure => simp [intOf]
  · go_wp2
    go_ret
    exact ⟨rfl, HB.out⟩
theorem impl_showInstr.txt7 (n : Nat) (a0_1 a0_2 a0_3 a0_4 : Int) (hf : impl_isInstr.form (n : Int) = 7) : (impl_showInstr.pre 7 (Tab.nm n) (impl_showInstr.num a0_1) (impl_showInstr.num a0_2) (impl_showInstr.num a0_3) 3).data.toList = impl_showInstr.txt n a0_1 a0_2 a0_3 a0_4 := by
 unfold impl_showInstr.txt impl_showInstr.pre impl_showInstr.add impl_showInstr.reg
 rw [hf]
 simp [impl_showInstr.num, Tab.nm, ByteArray.data_append]
set_option maxHeartbeats 8000000 in
set_option maxRecDepth 100000 in
theorem impl_showInstr.form7 (n : Nat) (a0_1 a0_2 a0_3 a0_4 : Int) (w : World) (HT : Aside0 (Tab.TabsODEM w)) (HLT : Hid (n < 33)) (HF : Hid (impl_isInstr.form (n : Int) = 7)) (HO : Hid (impl_showInstr.ok n a0_1 a0_2 a0_3 a0_4)) :
 Calls Tryz.prog 52 #[.agg #[.int .i64 (n : Int), .int .i64 a0_1, .int .i64 a0_2, .int .i64 a0_3, .int .i64 a0_4]] w fun e w' => (e = .returned (.string (impl_showInstr.pre 7 (Tab.nm n) (impl_showInstr.num a0_1) (impl_showInstr.num a0_2) (impl_showInstr.num a0_3) 3))) ∧ Below w.heap.size w w' := by
 have hu := Tryz.underlying48
 have HFC := fun W => impl_formOf.calls 8 (n : Int) 7 W (by rw [impl_isInstr.form_eq, HF.out])
 have i0 : ∀ w, (Instr.index 115 (.agg #[.int .i64 a0_1, .int .i64 a0_2, .int .i64 a0_3]) (.int .i64 0)).run Tryz.prog w = .ok (.int .i64 a0_1) w := fun _ => by kernel_rfl
 have i1 : ∀ w, (Instr.index 115 (.agg #[.int .i64 a0_1, .int .i64 a0_2, .int .i64 a0_3]) (.int .i64 1)).run Tryz.prog w = .ok (.int .i64 a0_2) w := fun _ => by kernel_rfl
 have i2 : ∀ w, (Instr.index 115 (.agg #[.int .i64 a0_1, .int .i64 a0_2, .int .i64 a0_3]) (.int .i64 2)).run Tryz.prog w = .ok (.int .i64 a0_3) w := fun _ => by kernel_rfl
 have b1 : Go.bits .and .i64 1 1 = 1 := by decide +kernel
 have b3 : Go.bits .and .i64 3 1 = 1 := by decide +kernel
 have b7 : Go.bits .and .i64 7 1 = 1 := by decide +kernel
 have b8_ : Go.bits .and .i64 7 8 = 0 := by decide +kernel
 have HNS := Aside0.mk (impl_showInstr.nm_size ⟨n, HLT.out⟩)
 have HX := Aside0.mk (HT.out.o n HLT.out)
 have HLN := Aside0.mk HLT.out
 generalize Tab.nm n = nmv at *
 have HSa := Aside0.mk (impl_showInstr.num_size a0_1 HO.out.2.1)
 have HDa := Lib.hid (fun W (ht : Tab.TabsODEM W) => impl_showInstr.dec a0_1 W ht HO.out.2.1)
 generalize impl_showInstr.num a0_1 = sa at *
 have HSb := Aside0.mk (impl_showInstr.num_size a0_2 HO.out.2.2.1)
 have HDb := Lib.hid (fun W (ht : Tab.TabsODEM W) => impl_showInstr.dec a0_2 W ht HO.out.2.2.1)
 generalize impl_showInstr.num a0_2 = sb at *
 have HSc := Aside0.mk (impl_showInstr.num_size a0_3 HO.out.2.2.2.1)
 have HDc := Lib.hid (fun W (ht : Tab.TabsODEM W) => impl_showInstr.dec a0_3 W ht HO.out.2.2.2.1)
 generalize impl_showInstr.num a0_3 = sc at *
 have HSi := Aside0.mk (impl_showInstr.num_size a0_4 HO.out.2.2.2.2)
 have HDi := Lib.hid (fun W (ht : Tab.TabsODEM W) => impl_showInstr.dec a0_4 W ht HO.out.2.2.2.2)
 generalize impl_showInstr.num a0_4 = si at *
 have c1 : decide (0 ≤ (n : Int)) = true := by simp
 have c2 : decide ((n : Int) < 33) = true := by have := HLT.out; simp; omega
 have c3 : decide (n < 33) = true := by have := HLT.out; simp; omega
 have c4 : ((n : Int) < 33) = True := eq_true (by have := HLT.out; omega)
 have c5 : (33 ≤ (n : Int)) = False := eq_false (by have := HLT.out; omega)
 have HB0 := Aside0.mk (Below.refl w.heap.size w)
 go_enter Tryz.func52, Tryz.ntmps52
 go_wp2_with (first | ((with_reducible refine gate_dst (N := 1) rfl ?_); refine box_event ?hg (N := 1) ?hd (cs := #[.int .i64 (n : Int), .int .i64 a0_1, .int .i64 a0_2, .int .i64 a0_3, .int .i64 a0_4]) (t := 48) ?hr ?_; (case hd => rfl); (case hg => rfl); (case hr => first | (go_simp; done) | (go_simp; rfl)); intro g1 hg w1 hbox hb; revert hbox hb hg))
 intro hg1 hb1 hB1
 have BK := Aside0.mk hb1
 have HB := Aside0.mk (below_step HB0.out hB1)
 clear hg1 hb1 hB1 HB0
 have q0 : w1.cell? ⟨g1, 0, none⟩ = some (.int .i64 (n : Int)) := (blk_cell BK.out 0).trans rfl
 have q1 : w1.cell? ⟨g1, 1, none⟩ = some (.int .i64 a0_1) := (blk_cell BK.out 1).trans rfl
 have q2 : w1.cell? ⟨g1, 2, none⟩ = some (.int .i64 a0_2) := (blk_cell BK.out 2).trans rfl
 have q3 : w1.cell? ⟨g1, 3, none⟩ = some (.int .i64 a0_3) := (blk_cell BK.out 3).trans rfl
 have q4 : w1.cell? ⟨g1, 4, none⟩ = some (.int .i64 a0_4) := (blk_cell BK.out 4).trans rfl
 have hx : w1.cell? ⟨0, n, none⟩ = some (.string nmv) := (HB.out.cell (p := ⟨0, n, none⟩) HT.out.o.lt).trans HX.out
 go_wp2_with (go_at_call 60; refine (HFC _).mono ?_; rintro e w' ⟨rfl, m, rfl⟩)
 clear q0 q1 q2 q3 q4 hx c1 c2 c3 c4 c5
 go_loopw [3, 21] (fun s i wr => ∃ k : Nat, k ≤ 3 ∧ i = .int .i64 k ∧ s = .string (impl_showInstr.pre 7 nmv sa sb sc k) ∧ Aside0 (wr.heap[g1]? = some (.cells #[.int .i64 (n : Int), .int .i64 a0_1, .int .i64 a0_2, .int .i64 a0_3, .int .i64 a0_4] 48 (0, 0))) ∧ Aside0 (Below w.heap.size w wr)) (fun _ i _ => 3 - (intOf i).toNat)
 case atStart => exact ⟨0, by omega, rfl, rfl, ⟨blk_drewN BK.out _⟩, ⟨pw_below_drewN HB.out _⟩⟩
 case round =>
  clear BK HB
  obtain ⟨k, hk, rfl, rfl, BK, HB⟩ := hrel
  rcases (show k = 0 ∨ k = 1 ∨ k = 2 ∨ k = 3 by omega) with rfl | rfl | rfl | rfl
  · have HP := Aside0.mk (show (impl_showInstr.pre 7 nmv sa sb sc 0).size ≤ 5 by have h1 := HNS.out; have h2 := HSa.out; have h3 := HSb.out; have h4 := HSc.out; have hz : (⟨#[32, 114]⟩ : ByteArray).size = 2 := rfl; simp [impl_showInstr.pre, impl_showInstr.add, ByteArray.size_append] at *; omega)
    generalize hpre : impl_showInstr.pre 7 nmv sa sb sc 0 = p at HP ⊢
    have HPE := Aside0.mk hpre
    clear hpre
    have e1 : (9223372036854775807 < 2 + sa.size) = False := eq_false (by have := HSa.out; omega)
    have e2 : (9223372036854775807 < p.size + (2 + sa.size)) = False := eq_false (by have := HSa.out; have := HP.out; omega)
    go_wp2_with (go_at_call 53; refine (HDa.out _ (HT.out.below HB.out)).mono ?_; rintro e w2 ⟨rfl, hb_⟩)
    go_roundw
    case rel => exact ⟨1, by omega, rfl, by rw [← HPE.out]; rfl, ⟨blk_below BK.out hb_⟩, ⟨below_step HB.out hb_⟩⟩
    case measure => simp [intOf]
  · have HP := Aside0.mk (show (impl_showInstr.pre 7 nmv sa sb sc 1).size ≤ 28 by have h1 := HNS.out; have h2 := HSa.out; have h3 := HSb.out; have h4 := HSc.out; have hz : (⟨#[32, 114]⟩ : ByteArray).size = 2 := rfl; simp [impl_showInstr.pre, impl_showInstr.add, ByteArray.size_append] at *; omega)
    generalize hpre : impl_showInstr.pre 7 nmv sa sb sc 1 = p at HP ⊢
    have HPE := Aside0.mk hpre
    clear hpre
    have e1 : (9223372036854775807 < 2 + sb.size) = False := eq_false (by have := HSb.out; omega)
    have e2 : (9223372036854775807 < p.size + (2 + sb.size)) = False := eq_false (by have := HSb.out; have := HP.out; omega)
    go_wp2_with (go_at_call 53; refine (HDb.out _ (HT.out.below HB.out)).mono ?_; rintro e w2 ⟨rfl, hb_⟩)
    go_roundw
    case rel => exact ⟨2, by omega, rfl, by rw [← HPE.out]; rfl, ⟨blk_below BK.out hb_⟩, ⟨below_step HB.out hb_⟩⟩
    case measure => simp [intOf]
  · have HP := Aside0.mk (show (impl_showInstr.pre 7 nmv sa sb sc 2).size ≤ 51 by have h1 := HNS.out; have h2 := HSa.out; have h3 := HSb.out; have h4 := HSc.out; have hz : (⟨#[32, 114]⟩ : ByteArray).size = 2 := rfl; simp [impl_showInstr.pre, impl_showInstr.add, ByteArray.size_append] at *; omega)
    generalize hpre : impl_showInstr.pre 7 nmv sa sb sc 2 = p at HP ⊢
    have HPE := Aside0.mk hpre
    clear hpre
    have e1 : (9223372036854775807 < 2 + sc.size) = False := eq_false (by have := HSc.out; omega)
    have e2 : (9223372036854775807 < p.size + (2 + sc.size)) = False := eq_false (by have := HSc.out; have := HP.out; omega)
    go_wp2_with (go_at_call 53; refine (HDc.out _ (HT.out.below HB.out)).mono ?_; rintro e w2 ⟨rfl, hb_⟩)
    go_roundw
    case rel => exact ⟨3, by omega, rfl, by rw [← HPE.out]; rfl, ⟨blk_below BK.out hb_⟩, ⟨below_step HB.out hb_⟩⟩
    case measure => simp [intOf]
  · go_wp2
    go_ret
    exact ⟨rfl, HB.out⟩
theorem impl_showInstr.txt8 (n : Nat) (a0_1 a0_2 a0_3 a0_4 : Int) (hf : impl_isInstr.form (n : Int) = 8) : ((impl_showInstr.pre 8 (Tab.nm n) (impl_showInstr.num a0_1) (impl_showInstr.num a0_2) (impl_showInstr.num a0_3) 3 ++ ((⟨#[32]⟩ : ByteArray) ++ impl_showInstr.num a0_4))).data.toList = impl_showInstr.txt n a0_1 a0_2 a0_3 a0_4 := by
 unfold impl_showInstr.txt impl_showInstr.pre impl_showInstr.add impl_showInstr.reg
 rw [hf]
 simp [impl_showInstr.num, Tab.nm, ByteArray.data_append]
set_option maxHeartbeats 8000000 in
set_option maxRecDepth 100000 in
theorem impl_showInstr.form8 (n : Nat) (a0_1 a0_2 a0_3 a0_4 : Int) (w : World) (HT : Aside0 (Tab.TabsODEM w)) (HLT : Hid (n < 33)) (HF : Hid (impl_isInstr.form (n : Int) = 8)) (HO : Hid (impl_showInstr.ok n a0_1 a0_2 a0_3 a0_4)) :
 Calls Tryz.prog 52 #[.agg #[.int .i64 (n : Int), .int .i64 a0_1, .int .i64 a0_2, .int .i64 a0_3, .int .i64 a0_4]] w fun e w' => (e = .returned (.string ((impl_showInstr.pre 8 (Tab.nm n) (impl_showInstr.num a0_1) (impl_showInstr.num a0_2) (impl_showInstr.num a0_3) 3 ++ ((⟨#[32]⟩ : ByteArray) ++ impl_showInstr.num a0_4))))) ∧ Below w.heap.size w w' := by
 have hu := Tryz.underlying48
 have HFC := fun W => impl_formOf.calls 8 (n : Int) 8 W (by rw [impl_isInstr.form_eq, HF.out])
 have i0 : ∀ w, (Instr.index 115 (.agg #[.int .i64 a0_1, .int .i64 a0_2, .int .i64 a0_3]) (.int .i64 0)).run Tryz.prog w = .ok (.int .i64 a0_1) w := fun _ => by kernel_rfl
 have i1 : ∀ w, (Instr.index 115 (.agg #[.int .i64 a0_1, .int .i64 a0_2, .int .i64 a0_3]) (.int .i64 1)).run Tryz.prog w = .ok (.int .i64 a0_2) w := fun _ => by kernel_rfl
 have i2 : ∀ w, (Instr.index 115 (.agg #[.int .i64 a0_1, .int .i64 a0_2, .int .i64 a0_3]) (.int .i64 2)).run Tryz.prog w = .ok (.int .i64 a0_3) w := fun _ => by kernel_rfl
 have b2 : Go.bits .and .i64 2 1 = 0 := by decide +kernel
 have b4 : Go.bits .and .i64 4 1 = 0 := by decide +kernel
 have b8 : Go.bits .and .i64 8 1 = 0 := by decide +kernel
 have b8_ : Go.bits .and .i64 8 8 = 8 := by decide +kernel
 have HNS := Aside0.mk (impl_showInstr.nm_size ⟨n, HLT.out⟩)
 have HX := Aside0.mk (HT.out.o n HLT.out)
 have HLN := Aside0.mk HLT.out
 generalize Tab.nm n = nmv at *
 have HSa := Aside0.mk (impl_showInstr.num_size a0_1 HO.out.2.1)
 have HDa := Lib.hid (fun W (ht : Tab.TabsODEM W) => impl_showInstr.dec a0_1 W ht HO.out.2.1)
 generalize impl_showInstr.num a0_1 = sa at *
 have HSb := Aside0.mk (impl_showInstr.num_size a0_2 HO.out.2.2.1)
 have HDb := Lib.hid (fun W (ht : Tab.TabsODEM W) => impl_showInstr.dec a0_2 W ht HO.out.2.2.1)
 generalize impl_showInstr.num a0_2 = sb at *
 have HSc := Aside0.mk (impl_showInstr.num_size a0_3 HO.out.2.2.2.1)
 have HDc := Lib.hid (fun W (ht : Tab.TabsODEM W) => impl_showInstr.dec a0_3 W ht HO.out.2.2.2.1)
 generalize impl_showInstr.num a0_3 = sc at *
 have HSi := Aside0.mk (impl_showInstr.num_size a0_4 HO.out.2.2.2.2)
 have HDi := Lib.hid (fun W (ht : Tab.TabsODEM W) => impl_showInstr.dec a0_4 W ht HO.out.2.2.2.2)
 generalize impl_showInstr.num a0_4 = si at *
 have c1 : decide (0 ≤ (n : Int)) = true := by simp
 have c2 : decide ((n : Int) < 33) = true := by have := HLT.out; simp; omega
 have c3 : decide (n < 33) = true := by have := HLT.out; simp; omega
 have c4 : ((n : Int) < 33) = True := eq_true (by have := HLT.out; omega)
 have c5 : (33 ≤ (n : Int)) = False := eq_false (by have := HLT.out; omega)
 have HB0 := Aside0.mk (Below.refl w.heap.size w)
 go_enter Tryz.func52, Tryz.ntmps52
 go_wp2_with (first | ((with_reducible refine gate_dst (N := 1) rfl ?_); refine box_event ?hg (N := 1) ?hd (cs := #[.int .i64 (n : Int), .int .i64 a0_1, .int .i64 a0_2, .int .i64 a0_3, .int .i64 a0_4]) (t := 48) ?hr ?_; (case hd => rfl); (case hg => rfl); (case hr => first | (go_simp; done) | (go_simp; rfl)); intro g1 hg w1 hbox hb; revert hbox hb hg))
 intro hg1 hb1 hB1
 have BK := Aside0.mk hb1
 have HB := Aside0.mk (below_step HB0.out hB1)
 clear hg1 hb1 hB1 HB0
 have q0 : w1.cell? ⟨g1, 0, none⟩ = some (.int .i64 (n : Int)) := (blk_cell BK.out 0).trans rfl
 have q1 : w1.cell? ⟨g1, 1, none⟩ = some (.int .i64 a0_1) := (blk_cell BK.out 1).trans rfl
 have q2 : w1.cell? ⟨g1, 2, none⟩ = some (.int .i64 a0_2) := (blk_cell BK.out 2).trans rfl
 have q3 : w1.cell? ⟨g1, 3, none⟩ = some (.int .i64 a0_3) := (blk_cell BK.out 3).trans rfl
 have q4 : w1.cell? ⟨g1, 4, none⟩ = some (.int .i64 a0_4) := (blk_cell BK.out 4).trans rfl
 have hx : w1.cell? ⟨0, n, none⟩ = some (.string nmv) := (HB.out.cell (p := ⟨0, n, none⟩) HT.out.o.lt).trans HX.out
 go_wp2_with (go_at_call 60; refine (HFC _).mono ?_; rintro e w' ⟨rfl, m, rfl⟩)
 clear q0 q1 q2 q3 q4 hx c1 c2 c3 c4 c5
 go_loopw [3, 21] (fun s i wr => ∃ k : Nat, k ≤ 3 ∧ i = .int .i64 k ∧ s = .string (impl_showInstr.pre 8 nmv sa sb sc k) ∧ Aside0 (wr.heap[g1]? = some (.cells #[.int .i64 (n : Int), .int .i64 a0_1, .int .i64 a0_2, .int .i64 a0_3, .int .i64 a0_4] 48 (0, 0))) ∧ Aside0 (Below w.heap.size w wr)) (fun _ i _ => 3 - (intOf i).toNat)
 case atStart => exact ⟨0, by omega, rfl, rfl, ⟨blk_drewN BK.out _⟩, ⟨pw_below_drewN HB.out _⟩⟩
 case round =>
  clear BK HB
  obtain ⟨k, hk, rfl, rfl, BK, HB⟩ := hrel
  rcases (show k = 0 ∨ k = 1 ∨ k = 2 ∨ k = 3 by omega) with rfl | rfl | rfl | rfl
  · go_wp2
    go_roundw
    case rel => exact ⟨1, by omega, rfl, rfl, ⟨BK.out⟩, ⟨HB.out⟩⟩
    case measure => simp [intOf]
  · go_wp2
    go_roundw
    case rel => exact ⟨2, by omega, rfl, rfl, ⟨BK.out⟩, ⟨HB.out⟩⟩
    case measure => simp [intOf]
  · go_wp2
    go_roundw
    case rel => exact ⟨3, by omega, rfl, rfl, ⟨BK.out⟩, ⟨HB.out⟩⟩
    case measure => simp [intOf]
  · have HP := Aside0.mk (show (impl_showInstr.pre 8 nmv sa sb sc 3).size ≤ 74 by have h1 := HNS.out; have h2 := HSa.out; have h3 := HSb.out; have h4 := HSc.out; have hz : (⟨#[32, 114]⟩ : ByteArray).size = 2 := rfl; simp [impl_showInstr.pre, impl_showInstr.add, ByteArray.size_append] at *; omega)
    generalize hpre : impl_showInstr.pre 8 nmv sa sb sc 3 = p at HP ⊢
    have HPE := Aside0.mk hpre
    clear hpre
    have e1 : (9223372036854775807 < 1 + si.size) = False := eq_false (by have := HSi.out; omega)
    have e2 : (9223372036854775807 < p.size + (1 + si.size)) = False := eq_false (by have := HSi.out; have := HP.out; omega)
    have q4 : wr.cell? ⟨g1, 4, none⟩ = some (.int .i64 a0_4) := (blk_cell BK.out 4).trans rfl
    go_wp2_with (go_at_call 53; refine (HDi.out _ (HT.out.below HB.out)).mono ?_; rintro e w2 ⟨rfl, hb_⟩)
    go_ret
    exact ⟨by rw [HPE.out]; rfl, below_step HB.out hb_⟩
theorem impl_showInstr.txt9 (n : Nat) (a0_1 a0_2 a0_3 a0_4 : Int) (hf : impl_isInstr.form (n : Int) = 9) : ((impl_showInstr.pre 9 (Tab.nm n) (impl_showInstr.num a0_1) (impl_showInstr.num a0_2) (impl_showInstr.num a0_3) 3 ++ ((⟨#[32]⟩ : ByteArray) ++ impl_showInstr.num a0_4))).data.toList = impl_showInstr.txt n a0_1 a0_2 a0_3 a0_4 := by
 unfold impl_showInstr.txt impl_showInstr.pre impl_showInstr.add impl_showInstr.reg
 rw [hf]
 simp [impl_showInstr.num, Tab.nm, ByteArray.data_append]
set_option maxHeartbeats 8000000 in
set_option maxRecDepth 100000 in
theorem impl_showInstr.form9 (n : Nat) (a0_1 a0_2 a0_3 a0_4 : Int) (w : World) (HT : Aside0 (Tab.TabsODEM w)) (HLT : Hid (n < 33)) (HF : Hid (impl_isInstr.form (n : Int) = 9)) (HO : Hid (impl_showInstr.ok n a0_1 a0_2 a0_3 a0_4)) :
 Calls Tryz.prog 52 #[.agg #[.int .i64 (n : Int), .int .i64 a0_1, .int .i64 a0_2, .int .i64 a0_3, .int .i64 a0_4]] w fun e w' => (e = .returned (.string ((impl_showInstr.pre 9 (Tab.nm n) (impl_showInstr.num a0_1) (impl_showInstr.num a0_2) (impl_showInstr.num a0_3) 3 ++ ((⟨#[32]⟩ : ByteArray) ++ impl_showInstr.num a0_4))))) ∧ Below w.heap.size w w' := by
 have hu := Tryz.underlying48
 have HFC := fun W => impl_formOf.calls 8 (n : Int) 9 W (by rw [impl_isInstr.form_eq, HF.out])
 have i0 : ∀ w, (Instr.index 115 (.agg #[.int .i64 a0_1, .int .i64 a0_2, .int .i64 a0_3]) (.int .i64 0)).run Tryz.prog w = .ok (.int .i64 a0_1) w := fun _ => by kernel_rfl
 have i1 : ∀ w, (Instr.index 115 (.agg #[.int .i64 a0_1, .int .i64 a0_2, .int .i64 a0_3]) (.int .i64 1)).run Tryz.prog w = .ok (.int .i64 a0_2) w := fun _ => by kernel_rfl
 have i2 : ∀ w, (Instr.index 115 (.agg #[.int .i64 a0_1, .int .i64 a0_2, .int .i64 a0_3]) (.int .i64 2)).run Tryz.prog w = .ok (.int .i64 a0_3) w := fun _ => by kernel_rfl
 have b2 : Go.bits .and .i64 2 1 = 0 := by decide +kernel
 have b4 : Go.bits .and .i64 4 1 = 0 := by decide +kernel
 have b9 : Go.bits .and .i64 9 1 = 1 := by decide +kernel
 have b8_ : Go.bits .and .i64 9 8 = 8 := by decide +kernel
 have HNS := Aside0.mk (impl_showInstr.nm_size ⟨n, HLT.out⟩)
 have HX := Aside0.mk (HT.out.o n HLT.out)
 have HLN := Aside0.mk HLT.out
 generalize Tab.nm n = nmv at *
 have HSa := Aside0.mk (impl_showInstr.num_size a0_1 HO.out.2.1)
 have HDa := Lib.hid (fun W (ht : Tab.TabsODEM W) => impl_showInstr.dec a0_1 W ht HO.out.2.1)
 generalize impl_showInstr.num a0_1 = sa at *
 have HSb := Aside0.mk (impl_showInstr.num_size a0_2 HO.out.2.2.1)
 have HDb := Lib.hid (fun W (ht : Tab.TabsODEM W) => impl_showInstr.dec a0_2 W ht HO.out.2.2.1)
 generalize impl_showInstr.num a0_2 = sb at *
 have HSc := Aside0.mk (impl_showInstr.num_size a0_3 HO.out.2.2.2.1)
 have HDc := Lib.hid (fun W (ht : Tab.TabsODEM W) => impl_showInstr.dec a0_3 W ht HO.out.2.2.2.1)
 generalize impl_showInstr.num a0_3 = sc at *
 have HSi := Aside0.mk (impl_showInstr.num_size a0_4 HO.out.2.2.2.2)
 have HDi := Lib.hid (fun W (ht : Tab.TabsODEM W) => impl_showInstr.dec a0_4 W ht HO.out.2.2.2.2)
 generalize impl_showInstr.num a0_4 = si at *
 have c1 : decide (0 ≤ (n : Int)) = true := by simp
 have c2 : decide ((n : Int) < 33) = true := by have := HLT.out; simp; omega
 have c3 : decide (n < 33) = true := by have := HLT.out; simp; omega
 have c4 : ((n : Int) < 33) = True := eq_true (by have := HLT.out; omega)
 have c5 : (33 ≤ (n : Int)) = False := eq_false (by have := HLT.out; omega)
 have HB0 := Aside0.mk (Below.refl w.heap.size w)
 go_enter Tryz.func52, Tryz.ntmps52
 go_wp2_with (first | ((with_reducible refine gate_dst (N := 1) rfl ?_); refine box_event ?hg (N := 1) ?hd (cs := #[.int .i64 (n : Int), .int .i64 a0_1, .int .i64 a0_2, .int .i64 a0_3, .int .i64 a0_4]) (t := 48) ?hr ?_; (case hd => rfl); (case hg => rfl); (case hr => first | (go_simp; done) | (go_simp; rfl)); intro g1 hg w1 hbox hb; revert hbox hb hg))
 intro hg1 hb1 hB1
 have BK := Aside0.mk hb1
 have HB := Aside0.mk (below_step HB0.out hB1)
 clear hg1 hb1 hB1 HB0
 have q0 : w1.cell? ⟨g1, 0, none⟩ = some (.int .i64 (n : Int)) := (blk_cell BK.out 0).trans rfl
 have q1 : w1.cell? ⟨g1, 1, none⟩ = some (.int .i64 a0_1) := (blk_cell BK.out 1).trans rfl
 have q2 : w1.cell? ⟨g1, 2, none⟩ = some (.int .i64 a0_2) := (blk_cell BK.out 2).trans rfl
 have q3 : w1.cell? ⟨g1, 3, none⟩ = some (.int .i64 a0_3) := (blk_cell BK.out 3).trans rfl
 have q4 : w1.cell? ⟨g1, 4, none⟩ = some (.int .i64 a0_4) := (blk_cell BK.out 4).trans rfl
 have hx : w1.cell? ⟨0, n, none⟩ = some (.string nmv) := (HB.out.cell (p := ⟨0, n, none⟩) HT.out.o.lt).trans HX.out
 go_wp2_with (go_at_call 60; refine (HFC _).mono ?_; rintro e w' ⟨rfl, m, rfl⟩)
 clear q0 q1 q2 q3 q4 hx c1 c2 c3 c4 c5
 go_loopw [3, 21] (fun s i wr => ∃ k : Nat, k ≤ 3 ∧ i = .int .i64 k ∧ s = .string (impl_showInstr.pre 9 nmv sa sb sc k) ∧ Aside0 (wr.heap[g1]? = some (.cells #[.int .i64 (n : Int), .int .i64 a0_1, .int .i64 a0_2, .int .i64 a0_3, .int .i64 a0_4] 48 (0, 0))) ∧ Aside0 (Below w.heap.size w wr)) (fun _ i _ => 3 - (intOf i).toNat)
 case atStart => exact ⟨0, by omega, rfl, rfl, ⟨blk_drewN BK.out _⟩, ⟨pw_below_drewN HB.out _⟩⟩
 case round =>
  clear BK HB
  obtain ⟨k, hk, rfl, rfl, BK, HB⟩ := hrel
  rcases (show k = 0 ∨ k = 1 ∨ k = 2 ∨ k = 3 by omega) with rfl | rfl | rfl | rfl
  · have HP := Aside0.mk (show (impl_showInstr.pre 9 nmv sa sb sc 0).size ≤ 5 by have h1 := HNS.out; have h2 := HSa.out; have h3 := HSb.out; have h4 := HSc.out; have hz : (⟨#[32, 114]⟩ : ByteArray).size = 2 := rfl; simp [impl_showInstr.pre, impl_showInstr.add, ByteArray.size_append] at *; omega)
    generalize hpre : impl_showInstr.pre 9 nmv sa sb sc 0 = p at HP ⊢
    have HPE := Aside0.mk hpre
    clear hpre
    have e1 : (9223372036854775807 < 2 + sa.size) = False := eq_false (by have := HSa.out; omega)
    have e2 : (9223372036854775807 < p.size + (2 + sa.size)) = False := eq_false (by have := HSa.out; have := HP.out; omega)
    go_wp2_with (go_at_call 53; refine (HDa.out _ (HT.out.below HB.out)).mono ?_; rintro e w2 ⟨rfl, hb_⟩)
    go_roundw
    case rel => exact ⟨1, by omega, rfl, by rw [← HPE.out]; rfl, ⟨blk_below BK.out hb_⟩, ⟨below_step HB.out hb_⟩⟩
    case measure => simp [intOf]
  · go_wp2
    go_roundw
    case rel => exact ⟨2, by omega, rfl, rfl, ⟨BK.out⟩, ⟨HB.out⟩⟩
    case measure => simp [intOf]
  · go_wp2
    go_roundw
    case rel => exact ⟨3, by omega, rfl, rfl, ⟨BK.out⟩, ⟨HB.out⟩⟩
    case measure => simp [intOf]
  · have HP := Aside0.mk (show (impl_showInstr.pre 9 nmv sa sb sc 3).size ≤ 74 by have h1 := HNS.out; have h2 := HSa.out; have h3 := HSb.out; have h4 := HSc.out; have hz : (⟨#[32, 114]⟩ : ByteArray).size = 2 := rfl; simp [impl_showInstr.pre, impl_showInstr.add, ByteArray.size_append] at *; omega)
    generalize hpre : impl_showInstr.pre 9 nmv sa sb sc 3 = p at HP ⊢
    have HPE := Aside0.mk hpre
    clear hpre
    have e1 : (9223372036854775807 < 1 + si.size) = False := eq_false (by have := HSi.out; omega)
    have e2 : (9223372036854775807 < p.size + (1 + si.size)) = False := eq_false (by have := HSi.out; have := HP.out; omega)
    have q4 : wr.cell? ⟨g1, 4, none⟩ = some (.int .i64 a0_4) := (blk_cell BK.out 4).trans rfl
    go_wp2_with (go_at_call 53; refine (HDi.out _ (HT.out.below HB.out)).mono ?_; rintro e w2 ⟨rfl, hb_⟩)
    go_ret
    exact ⟨by rw [HPE.out]; rfl, below_step HB.out hb_⟩
theorem impl_showInstr.txt10 (n : Nat) (a0_1 a0_2 a0_3 a0_4 : Int) (hf : impl_isInstr.form (n : Int) = 10) : ((impl_showInstr.pre 10 (Tab.nm n) (impl_showInstr.num a0_1) (impl_showInstr.num a0_2) (impl_showInstr.num a0_3) 3 ++ ((⟨#[32]⟩ : ByteArray) ++ impl_showInstr.num a0_4))).data.toList = impl_showInstr.txt n a0_1 a0_2 a0_3 a0_4 := by
 unfold impl_showInstr.txt impl_showInstr.pre impl_showInstr.add impl_showInstr.reg
 rw [hf]
 simp [impl_showInstr.num, Tab.nm, ByteArray.data_append]
set_option maxHeartbeats 8000000 in
set_option maxRecDepth 100000 in
theorem impl_showInstr.form10 (n : Nat) (a0_1 a0_2 a0_3 a0_4 : Int) (w : World) (HT : Aside0 (Tab.TabsODEM w)) (HLT : Hid (n < 33)) (HF : Hid (impl_isInstr.form (n : Int) = 10)) (HO : Hid (impl_showInstr.ok n a0_1 a0_2 a0_3 a0_4)) :
 Calls Tryz.prog 52 #[.agg #[.int .i64 (n : Int), .int .i64 a0_1, .int .i64 a0_2, .int .i64 a0_3, .int .i64 a0_4]] w fun e w' => (e = .returned (.string ((impl_showInstr.pre 10 (Tab.nm n) (impl_showInstr.num a0_1) (impl_showInstr.num a0_2) (impl_showInstr.num a0_3) 3 ++ ((⟨#[32]⟩ : ByteArray) ++ impl_showInstr.num a0_4))))) ∧ Below w.heap.size w w' := by
 have hu := Tryz.underlying48
 have HFC := fun W => impl_formOf.calls 8 (n : Int) 10 W (by rw [impl_isInstr.form_eq, HF.out])
 have i0 : ∀ w, (Instr.index 115 (.agg #[.int .i64 a0_1, .int .i64 a0_2, .int .i64 a0_3]) (.int .i64 0)).run Tryz.prog w = .ok (.int .i64 a0_1) w := fun _ => by kernel_rfl
 have i1 : ∀ w, (Instr.index 115 (.agg #[.int .i64 a0_1, .int .i64 a0_2, .int .i64 a0_3]) (.int .i64 1)).run Tryz.prog w = .ok (.int .i64 a0_2) w := fun _ => by kernel_rfl
 have i2 : ∀ w, (Instr.index 115 (.agg #[.int .i64 a0_1, .int .i64 a0_2, .int .i64 a0_3]) (.int .i64 2)).run Tryz.prog w = .ok (.int .i64 a0_3) w := fun _ => by kernel_rfl
 have b2 : Go.bits .and .i64 2 1 = 0 := by decide +kernel
 have b5 : Go.bits .and .i64 5 1 = 1 := by decide +kernel
 have b10 : Go.bits .and .i64 10 1 = 0 := by decide +kernel
 have b8_ : Go.bits .and .i64 10 8 = 8 := by decide +kernel
 have HNS := Aside0.mk (impl_showInstr.nm_size ⟨n, HLT.out⟩)
 have HX := Aside0.mk (HT.out.o n HLT.out)
 have HLN := Aside0.mk HLT.out
 generalize Tab.nm n = nmv at *
 have HSa := Aside0.mk (impl_showInstr.num_size a0_1 HO.out.2.1)
 have HDa := Lib.hid (fun W (ht : Tab.TabsODEM W) => impl_showInstr.dec a0_1 W ht HO.out.2.1)
 generalize impl_showInstr.num a0_1 = sa at *
 have HSb := Aside0.mk (impl_showInstr.num_size a0_2 HO.out.2.2.1)
 have HDb := Lib.hid (fun W (ht : Tab.TabsODEM W) => impl_showInstr.dec a0_2 W ht HO.out.2.2.1)
 generalize impl_showInstr.num a0_2 = sb at *
 have HSc := Aside0.mk (impl_showInstr.num_size a0_3 HO.out.2.2.2.1)
 have HDc := Lib.hid (fun W (ht : Tab.TabsODEM W) => impl_showInstr.dec a0_3 W ht HO.out.2.2.2.1)
 generalize impl_showInstr.num a0_3 = sc at *
 have HSi := Aside0.mk (impl_showInstr.num_size a0_4 HO.out.2.2.2.2)
 have HDi := Lib.hid (fun W (ht : Tab.TabsODEM W) => impl_showInstr.dec a0_4 W ht HO.out.2.2.2.2)
 generalize impl_showInstr.num a0_4 = si at *
 have c1 : decide (0 ≤ (n : Int)) = true := by simp
 have c2 : decide ((n : Int) < 33) = true := by have := HLT.out; simp; omega
 have c3 : decide (n < 33) = true := by have := HLT.out; simp; omega
 have c4 : ((n : Int) < 33) = True := eq_true (by have := HLT.out; omega)
 have c5 : (33 ≤ (n : Int)) = False := eq_false (by have := HLT.out; omega)
 have HB0 := Aside0.mk (Below.refl w.heap.size w)
 go_enter Tryz.func52, Tryz.ntmps52
 go_wp2_with (first | ((with_reducible refine gate_dst (N := 1) rfl ?_); refine box_event ?hg (N := 1) ?hd (cs := #[.int .i64 (n : Int), .int .i64 a0_1, .int .i64 a0_2, .int .i64 a0_3, .int .i64 a0_4]) (t := 48) ?hr ?_; (case hd => rfl); (case hg => rfl); (case hr => first | (go_simp; done) | (go_simp; rfl)); intro g1 hg w1 hbox hb; revert hbox hb hg))
 intro hg1 hb1 hB1
 have BK := Aside0.mk hb1
 have HB := Aside0.mk (below_step HB0.out hB1)
 clear hg1 hb1 hB1 HB0
 have q0 : w1.cell? ⟨g1, 0, none⟩ = some (.int .i64 (n : Int)) := (blk_cell BK.out 0).trans rfl
 have q1 : w1.cell? ⟨g1, 1, none⟩ = some (.int .i64 a0_1) := (blk_cell BK.out 1).trans rfl
 have q2 : w1.cell? ⟨g1, 2, none⟩ = some (.int .i64 a0_2) := (blk_cell BK.out 2).trans rfl
 have q3 : w1.cell? ⟨g1, 3, none⟩ = some (.int .i64 a0_3) := (blk_cell BK.out 3).trans rfl
 have q4 : w1.cell? ⟨g1, 4, none⟩ = some (.int .i64 a0_4) := (blk_cell BK.out 4).trans rfl
 have hx : w1.cell? ⟨0, n, none⟩ = some (.string nmv) := (HB.out.cell (p := ⟨0, n, none⟩) HT.out.o.lt).trans HX.out
 go_wp2_with (go_at_call 60; refine (HFC _).mono ?_; rintro e w' ⟨rfl, m, rfl⟩)
 clear q0 q1 q2 q3 q4 hx c1 c2 c3 c4 c5
 go_loopw [3, 21] (fun s i wr => ∃ k : Nat, k ≤ 3 ∧ i = .int .i64 k ∧ s = .string (impl_showInstr.pre 10 nmv sa sb sc k) ∧ Aside0 (wr.heap[g1]? = some (.cells #[.int .i64 (n : Int), .int .i64 a0_1, .int .i64 a0_2, .int .i64 a0_3, .int .i64 a0_4] 48 (0, 0))) ∧ Aside0 (Below w.heap.size w wr)) (fun _ i _ => 3 - (intOf i).toNat)
 case atStart => exact ⟨0, by omega, rfl, rfl, ⟨blk_drewN BK.out _⟩, ⟨pw_below_drewN HB.out _⟩⟩
 case round =>
  clear BK HB
  obtain ⟨k, hk, rfl, rfl, BK, HB⟩ := hrel
  rcases (show k = 0 ∨ k = 1 ∨ k = 2 ∨ k = 3 by omega) with rfl | rfl | rfl | rfl
  · go_wp2
    go_roundw
    case rel => exact ⟨1, by omega, rfl, rfl, ⟨BK.out⟩, ⟨HB.out⟩⟩
    case measure => simp [intOf]
  · have HP := Aside0.mk (show (impl_showInstr.pre 10 nmv sa sb sc 1).size ≤ 28 by have h1 := HNS.out; have h2 := HSa.out; have h3 := HSb.out; have h4 := HSc.out; have hz : (⟨#[32, 114]⟩ : ByteArray).size = 2 := rfl; simp [impl_showInstr.pre, impl_showInstr.add, ByteArray.size_append] at *; omega)
    generalize hpre : impl_showInstr.pre 10 nmv sa sb sc 1 = p at HP ⊢
    have HPE := Aside0.mk hpre
    clear hpre
    have e1 : (9223372036854775807 < 2 + sb.size) = False := eq_false (by have := HSb.out; omega)
    have e2 : (9223372036854775807 < p.size + (2 + sb.size)) = False := eq_false (by have := HSb.out; have := HP.out; omega)
    go_wp2_with (go_at_call 53; refine (HDb.out _ (HT.out.below HB.out)).mono ?_; rintro e w2 ⟨rfl, hb_⟩)
    go_roundw
    case rel => exact ⟨2, by omega, rfl, by rw [← HPE.out]; rfl, ⟨blk_below BK.out hb_⟩, ⟨below_step HB.out hb_⟩⟩
    case measure => simp [intOf]
  · go_wp2
    go_roundw
    case rel => exact ⟨3, by omega, rfl, rfl, ⟨BK.out⟩, ⟨HB.out⟩⟩
    case measure => simp [intOf]
  · have HP := Aside0.mk (show (impl_showInstr.pre 10 nmv sa sb sc 3).size ≤ 74 by have h1 := HNS.out; have h2 := HSa.out; have h3 := HSb.out; have h4 := HSc.out; have hz : (⟨#[32, 114]⟩ : ByteArray).size = 2 := rfl; simp [impl_showInstr.pre, impl_showInstr.add, ByteArray.size_append] at *; omega)
    generalize hpre : impl_showInstr.pre 10 nmv sa sb sc 3 = p at HP ⊢
    have HPE := Aside0.mk hpre
    clear hpre
    have e1 : (9223372036854775807 < 1 + si.size) = False := eq_false (by have := HSi.out; omega)
    have e2 : (9223372036854775807 < p.size + (1 + si.size)) = False := eq_false (by have := HSi.out; have := HP.out; omega)
    have q4 : wr.cell? ⟨g1, 4, none⟩ = some (.int .i64 a0_4) := (blk_cell BK.out 4).trans rfl
    go_wp2_with (go_at_call 53; refine (HDi.out _ (HT.out.below HB.out)).mono ?_; rintro e w2 ⟨rfl, hb_⟩)
    go_ret
    exact ⟨by rw [HPE.out]; rfl, below_step HB.out hb_⟩
theorem impl_showInstr.txt11 (n : Nat) (a0_1 a0_2 a0_3 a0_4 : Int) (hf : impl_isInstr.form (n : Int) = 11) : ((impl_showInstr.pre 11 (Tab.nm n) (impl_showInstr.num a0_1) (impl_showInstr.num a0_2) (impl_showInstr.num a0_3) 3 ++ ((⟨#[32]⟩ : ByteArray) ++ impl_showInstr.num a0_4))).data.toList = impl_showInstr.txt n a0_1 a0_2 a0_3 a0_4 := by
 unfold impl_showInstr.txt impl_showInstr.pre impl_showInstr.add impl_showInstr.reg
 rw [hf]
 simp [impl_showInstr.num, Tab.nm, ByteArray.data_append]
set_option maxHeartbeats 8000000 in
set_option maxRecDepth 100000 in
theorem impl_showInstr.form11 (n : Nat) (a0_1 a0_2 a0_3 a0_4 : Int) (w : World) (HT : Aside0 (Tab.TabsODEM w)) (HLT : Hid (n < 33)) (HF : Hid (impl_isInstr.form (n : Int) = 11)) (HO : Hid (impl_showInstr.ok n a0_1 a0_2 a0_3 a0_4)) :
 Calls Tryz.prog 52 #[.agg #[.int .i64 (n : Int), .int .i64 a0_1, .int .i64 a0_2, .int .i64 a0_3, .int .i64 a0_4]] w fun e w' => (e = .returned (.string ((impl_showInstr.pre 11 (Tab.nm n) (impl_showInstr.num a0_1) (impl_showInstr.num a0_2) (impl_showInstr.num a0_3) 3 ++ ((⟨#[32]⟩ : ByteArray) ++ impl_showInstr.num a0_4))))) ∧ Below w.heap.size w w' := by
 have hu := Tryz.underlying48
 have HFC := fun W => impl_formOf.calls 8 (n : Int) 11 W (by rw [impl_isInstr.form_eq, HF.out])
 have i0 : ∀ w, (Instr.index 115 (.agg #[.int .i64 a0_1, .int .i64 a0_2, .int .i64 a0_3]) (.int .i64 0)).run Tryz.prog w = .ok (.int .i64 a0_1) w := fun _ => by kernel_rfl
 have i1 : ∀ w, (Instr.index 115 (.agg #[.int .i64 a0_1, .int .i64 a0_2, .int .i64 a0_3]) (.int .i64 1)).run Tryz.prog w = .ok (.int .i64 a0_2) w := fun _ => by kernel_rfl
 have i2 : ∀ w, (Instr.index 115 (.agg #[.int .i64 a0_1, .int .i64 a0_2, .int .i64 a0_3]) (.int .i64 2)).run Tryz.prog w = .ok (.int .i64 a0_3) w := fun _ => by kernel_rfl
 have b2 : Go.bits .and .i64 2 1 = 0 := by decide +kernel
 have b5 : Go.bits .and .i64 5 1 = 1 := by decide +kernel
 have b11 : Go.bits .and .i64 11 1 = 1 := by decide +kernel
 have b8_ : Go.bits .and .i64 11 8 = 8 := by decide +kernel
 have HNS := Aside0.mk (impl_showInstr.nm_size ⟨n, HLT.out⟩)
 have HX := Aside0.mk (HT.out.o n HLT.out)
 have HLN := Aside0.mk HLT.out
 generalize Tab.nm n = nmv at *
 have HSa := Aside0.mk (impl_showInstr.num_size a0_1 HO.out.2.1)
 have HDa := Lib.hid (fun W (ht : Tab.TabsODEM W) => impl_showInstr.dec a0_1 W ht HO.out.2.1)
 generalize impl_showInstr.num a0_1 = sa at *
 have HSb := Aside0.mk (impl_showInstr.num_size a0_2 HO.out.2.2.1)
 have HDb := Lib.hid (fun W (ht : Tab.TabsODEM W) => impl_showInstr.dec a0_2 W ht HO.out.2.2.1)
 generalize impl_showInstr.num a0_2 = sb at *
 have HSc := Aside0.mk (impl_showInstr.num_size a0_3 HO.out.2.2.2.1)
 have HDc := Lib.hid (fun W (ht : Tab.TabsODEM W) => impl_showInstr.dec a0_3 W ht HO.out.2.2.2.1)
 generalize impl_showInstr.num a0_3 = sc at *
 have HSi := Aside0.mk (impl_showInstr.num_size a0_4 HO.out.2.2.2.2)
 have HDi := Lib.hid (fun W (ht : Tab.TabsODEM W) => impl_showInstr.dec a0_4 W ht HO.out.2.2.2.2)
 generalize impl_showInstr.num a0_4 = si at *
 have c1 : decide (0 ≤ (n : Int)) = true := by simp
 have c2 : decide ((n : Int) < 33) = true := by have := HLT.out; simp; omega
 have c3 : decide (n < 33) = true := by have := HLT.out; simp; omega
 have c4 : ((n : Int) < 33) = True := eq_true (by have := HLT.out; omega)
 have c5 : (33 ≤ (n : Int)) = False := eq_false (by have := HLT.out; omega)
 have HB0 := Aside0.mk (Below.refl w.heap.size w)
 go_enter Tryz.func52, Tryz.ntmps52
 go_wp2_with (first | ((with_reducible refine gate_dst (N := 1) rfl ?_); refine box_event ?hg (N := 1) ?hd (cs := #[.int .i64 (n : Int), .int .i64 a0_1, .int .i64 a0_2, .int .i64 a0_3, .int .i64 a0_4]) (t := 48) ?hr ?_; (case hd => rfl); (case hg => rfl); (case hr => first | (go_simp; done) | (go_simp; rfl)); intro g1 hg w1 hbox hb; revert hbox hb hg))
 intro hg1 hb1 hB1
 have BK := Aside0.mk hb1
 have HB := Aside0.mk (below_step HB0.out hB1)
 clear hg1 hb1 hB1 HB0
 have q0 : w1.cell? ⟨g1, 0, none⟩ = some (.int .i64 (n : Int)) := (blk_cell BK.out 0).trans rfl
 have q1 : w1.cell? ⟨g1, 1, none⟩ = some (.int .i64 a0_1) := (blk_cell BK.out 1).trans rfl
 have q2 : w1.cell? ⟨g1, 2, none⟩ = some (.int .i64 a0_2) := (blk_cell BK.out 2).trans rfl
 have q3 : w1.cell? ⟨g1, 3, none⟩ = some (.int .i64 a0_3) := (blk_cell BK.out 3).trans rfl
 have q4 : w1.cell? ⟨g1, 4, none⟩ = some (.int .i64 a0_4) := (blk_cell BK.out 4).trans rfl
 have hx : w1.cell? ⟨0, n, none⟩ = some (.string nmv) := (HB.out.cell (p := ⟨0, n, none⟩) HT.out.o.lt).trans HX.out
 go_wp2_with (go_at_call 60; refine (HFC _).mono ?_; rintro e w' ⟨rfl, m, rfl⟩)
 clear q0 q1 q2 q3 q4 hx c1 c2 c3 c4 c5
 go_loopw [3, 21] (fun s i wr => ∃ k : Nat, k ≤ 3 ∧ i = .int .i64 k ∧ s = .string (impl_showInstr.pre 11 nmv sa sb sc k) ∧ Aside0 (wr.heap[g1]? = some (.cells #[.int .i64 (n : Int), .int .i64 a0_1, .int .i64 a0_2, .int .i64 a0_3, .int .i64 a0_4] 48 (0, 0))) ∧ Aside0 (Below w.heap.size w wr)) (fun _ i _ => 3 - (intOf i).toNat)
 case atStart => exact ⟨0, by omega, rfl, rfl, ⟨blk_drewN BK.out _⟩, ⟨pw_below_drewN HB.out _⟩⟩
 case round =>
  clear BK HB
  obtain ⟨k, hk, rfl, rfl, BK, HB⟩ := hrel
  rcases (show k = 0 ∨ k = 1 ∨ k = 2 ∨ k = 3 by omega) with rfl | rfl | rfl | rfl
  · have HP := Aside0.mk (show (impl_showInstr.pre 11 nmv sa sb sc 0).size ≤ 5 by have h1 := HNS.out; have h2 := HSa.out; have h3 := HSb.out; have h4 := HSc.out; have hz : (⟨#[32, 114]⟩ : ByteArray).size = 2 := rfl; simp [impl_showInstr.pre, impl_showInstr.add, ByteArray.size_append] at *; omega)
    generalize hpre : impl_showInstr.pre 11 nmv sa sb sc 0 = p at HP ⊢
    have HPE := Aside0.mk hpre
    clear hpre
    have e1 : (9223372036854775807 < 2 + sa.size) = False := eq_false (by have := HSa.out; omega)
    have e2 : (9223372036854775807 < p.size + (2 + sa.size)) = False := eq_false (by have := HSa.out; have := HP.out; omega)
    go_wp2_with (go_at_call 53; refine (HDa.out _ (HT.out.below HB.out)).mono ?_; rintro e w2 ⟨rfl, hb_⟩)
    go_roundw
    case rel => exact ⟨1, by omega, rfl, by rw [← HPE.out]; rfl, ⟨blk_below BK.out hb_⟩, ⟨below_step HB.out hb_⟩⟩
    case measure => simp [intOf]
  · have HP := Aside0.mk (show (impl_showInstr.pre 11 nmv sa sb sc 1).size ≤ 28 by have h1 := HNS.out; have h2 := HSa.out; have h3 := HSb.out; have h4 := HSc.out; have hz : (⟨#[32, 114]⟩ : ByteArray).size = 2 := rfl; simp [impl_showInstr.pre, impl_showInstr.add, ByteArray.size_append] at *; omega)
    generalize hpre : impl_showInstr.pre 11 nmv sa sb sc 1 = p at HP ⊢
    have HPE := Aside0.mk hpre
    clear hpre
    have e1 : (9223372036854775807 < 2 + sb.size) = False := eq_false (by have := HSb.out; omega)
    have e2 : (9223372036854775807 < p.size + (2 + sb.size)) = False := eq_false (by have := HSb.out; have := HP.out; omega)
    go_wp2_with (go_at_call 53; refine (HDb.out _ (HT.out.below HB.out)).mono ?_; rintro e w2 ⟨rfl, hb_⟩)
    go_roundw
    case rel => exact ⟨2, by omega, rfl, by rw [← HPE.out]; rfl, ⟨blk_below BK.out hb_⟩, ⟨below_step HB.out hb_⟩⟩
    case measure => simp [intOf]
  · go_wp2
    go_roundw
    case rel => exact ⟨3, by omega, rfl, rfl, ⟨BK.out⟩, ⟨HB.out⟩⟩
    case measure => simp [intOf]
  · have HP := Aside0.mk (show (impl_showInstr.pre 11 nmv sa sb sc 3).size ≤ 74 by have h1 := HNS.out; have h2 := HSa.out; have h3 := HSb.out; have h4 := HSc.out; have hz : (⟨#[32, 114]⟩ : ByteArray).size = 2 := rfl; simp [impl_showInstr.pre, impl_showInstr.add, ByteArray.size_append] at *; omega)
    generalize hpre : impl_showInstr.pre 11 nmv sa sb sc 3 = p at HP ⊢
    have HPE := Aside0.mk hpre
    clear hpre
    have e1 : (9223372036854775807 < 1 + si.size) = False := eq_false (by have := HSi.out; omega)
    have e2 : (9223372036854775807 < p.size + (1 + si.size)) = False := eq_false (by have := HSi.out; have := HP.out; omega)
    have q4 : wr.cell? ⟨g1, 4, none⟩ = some (.int .i64 a0_4) := (blk_cell BK.out 4).trans rfl
    go_wp2_with (go_at_call 53; refine (HDi.out _ (HT.out.below HB.out)).mono ?_; rintro e w2 ⟨rfl, hb_⟩)
    go_ret
    exact ⟨by rw [HPE.out]; rfl, below_step HB.out hb_⟩
theorem impl_showInstr.calls (a0_0 : Int) (a0_1 : Int) (a0_2 : Int) (a0_3 : Int) (a0_4 : Int) (r : ByteArray) (w : World) (ht : Tab.TabsODEM w) (h : impl_showInstr.f a0_0 a0_1 a0_2 a0_3 a0_4 = some r) :
 Calls Tryz.prog 52 #[.agg #[.int .i64 a0_0, .int .i64 a0_1, .int .i64 a0_2, .int .i64 a0_3, .int .i64 a0_4]] w fun e w' => e = .returned (.string r) ∧ Below w.heap.size w w' := by
 unfold impl_showInstr.f at h
 by_cases hok : impl_showInstr.ok a0_0 a0_1 a0_2 a0_3 a0_4
 · rw [if_pos hok] at h
   obtain rfl := Option.some.inj h
   obtain ⟨n, rfl⟩ := Int.eq_ofNat_of_zero_le hok.1.1
   have hn : n < 33 := by have := hok.1.2; omega
   have tx : ∀ x : ByteArray, x.data.toList = impl_showInstr.txt n a0_1 a0_2 a0_3 a0_4 → x = ⟨(impl_showInstr.txt n a0_1 a0_2 a0_3 a0_4).toArray⟩ := fun x hx => by rw [← hx]
   rcases impl_isInstr.forms n hok.1 with hf | hf | hf | hf | hf | hf | hf
   · rw [← tx _ (impl_showInstr.txt0 n a0_1 a0_2 a0_3 a0_4 hf)]; exact impl_showInstr.form0 n a0_1 a0_2 a0_3 a0_4 w ⟨ht⟩ (Lib.hid hn) (Lib.hid hf) (Lib.hid hok)
   · rw [← tx _ (impl_showInstr.txt1 n a0_1 a0_2 a0_3 a0_4 hf)]; exact impl_showInstr.form1 n a0_1 a0_2 a0_3 a0_4 w ⟨ht⟩ (Lib.hid hn) (Lib.hid hf) (Lib.hid hok)
   · rw [← tx _ (impl_showInstr.txt7 n a0_1 a0_2 a0_3 a0_4 hf)]; exact impl_showInstr.form7 n a0_1 a0_2 a0_3 a0_4 w ⟨ht⟩ (Lib.hid hn) (Lib.hid hf) (Lib.hid hok)
   · rw [← tx _ (impl_showInstr.txt8 n a0_1 a0_2 a0_3 a0_4 hf)]; exact impl_showInstr.form8 n a0_1 a0_2 a0_3 a0_4 w ⟨ht⟩ (Lib.hid hn) (Lib.hid hf) (Lib.hid hok)
   · rw [← tx _ (impl_showInstr.txt9 n a0_1 a0_2 a0_3 a0_4 hf)]; exact impl_showInstr.form9 n a0_1 a0_2 a0_3 a0_4 w ⟨ht⟩ (Lib.hid hn) (Lib.hid hf) (Lib.hid hok)
   · rw [← tx _ (impl_showInstr.txt10 n a0_1 a0_2 a0_3 a0_4 hf)]; exact impl_showInstr.form10 n a0_1 a0_2 a0_3 a0_4 w ⟨ht⟩ (Lib.hid hn) (Lib.hid hf) (Lib.hid hok)
   · rw [← tx _ (impl_showInstr.txt11 n a0_1 a0_2 a0_3 a0_4 hf)]; exact impl_showInstr.form11 n a0_1 a0_2 a0_3 a0_4 w ⟨ht⟩ (Lib.hid hn) (Lib.hid hf) (Lib.hid hok)
 · rw [if_neg hok] at h; cases h

/-! ### impl_showWord: function 29 -/
def impl_showWord.f (a0 : Int) : Option (ByteArray) := (impl_decode.f a0).bind fun bt252 => (if bt252.2.2.2.2.2 = true then ((impl_showInstr.f bt252.1 bt252.2.1 bt252.2.2.1 bt252.2.2.2.1 bt252.2.2.2.2.1).bind fun t259 => (some t259)) else ((impl_DecText.f (wrap64 (a0))).bind fun t260 => (if 6 + t260.size ≤ 9223372036854775807 then (some ((⟨#[46, 119, 111, 114, 100, 32]⟩ : ByteArray) ++ t260)) else (none))))
set_option maxHeartbeats 8000000 in
set_option maxRecDepth 100000 in
theorem impl_showWord.calls (a0 : Int) (r : ByteArray) (w : World) (ht : Tab.TabsODEM w) (h : impl_showWord.f a0 = some r) :
 Calls Tryz.prog 29 #[.int .u32 a0] w fun e w' => e = .returned (.string r) ∧ Below w.heap.size w w' := by
 have hu48 := Tryz.underlying48
 have HB := Aside0.mk (Below.refl w.heap.size w)
 have HTB := Aside0.mk ht
 clear ht
 have H : ((impl_decode.f a0).bind fun bt252 => (if bt252.2.2.2.2.2 = true then ((impl_showInstr.f bt252.1 bt252.2.1 bt252.2.2.1 bt252.2.2.2.1 bt252.2.2.2.2.1).bind fun t259 => (some t259)) else ((impl_DecText.f (wrap64 (a0))).bind fun t260 => (if 6 + t260.size ≤ 9223372036854775807 then (some ((⟨#[46, 119, 111, 114, 100, 32]⟩ : ByteArray) ++ t260)) else (none))))) = some r := h
 clear h
 replace H := Option.bind_eq_some_iff.mp H
 obtain ⟨⟨t252, t253, t254, t255, t256, t257⟩, A20, H⟩ := H
 replace H : (if t257 = true then ((impl_showInstr.f t252 t253 t254 t255 t256).bind fun t259 => (some t259)) else ((impl_DecText.f (wrap64 (a0))).bind fun t260 => (if 6 + t260.size ≤ 9223372036854775807 then (some ((⟨#[46, 119, 111, 114, 100, 32]⟩ : ByteArray) ++ t260)) else (none)))) = some r := H
 have A2 := Aside0.mk A20
 clear A20
 by_cases c3 : t257 = true
 · subst c3
   have H1 : ((impl_showInstr.f t252 t253 t254 t255 t256).bind fun t259 => (some t259)) = some r := by rw [if_pos rfl] at H; exact H
   clear H
   have H := H1
   clear H1
   replace H := Option.bind_eq_some_iff.mp H
   obtain ⟨t259, A40, H⟩ := H
   replace H : (some t259) = some r := H
   have A4 := Aside0.mk A40
   clear A40
   obtain rfl := Option.some.inj H
   go_enter Tryz.func29, Tryz.ntmps29
   go_wp2_with (first | ((with_reducible refine gate_callee (f := 51) rfl ?_); refine goesL_ (some 7) rfl rfl Tryz.func51 (by kernel_rfl) rfl #[.int .u32 a0] rfl (by (try simp only [List.map_toArray, List.map_cons, List.map_nil]); first | done | rfl | (simp only [List.length_drop, List.length_take]; rfl)) ?_; (with_reducible refine (impl_decode.calls a0 t252 t253 t254 t255 t256 true _ A2.out).mono ?_); rintro e w5 ⟨rfl, hb⟩; refine ⟨_, rfl, ?_⟩; have n0_ := Aside0.mk (below_step (by repeat (first | (with_reducible first | exact HB.out | apply below_alloc | apply pw_below_drewN | apply below_drew1) | exact HB.out)) hb); clear HB; have HB := n0_; clear n0_; (try clear hb); (try clear hb2); (try clear hk); (try clear hi)) | ((with_reducible refine gate_dst (N := 3) rfl ?_); refine box_event ?hg (N := 3) ?hd (cs := #[.int .i64 0, .int .i64 0, .int .i64 0, .int .i64 0, .int .i64 0]) (t := 48) ?hr ?_; (case hd => rfl); (case hg => rfl); (case hr => first | (go_simp; done) | (go_simp; rfl)); intro gb258 hg w6 hbox hb; have n0_ := Aside0.mk (below_step (by repeat (first | (with_reducible first | exact HB.out | apply below_alloc | apply pw_below_drewN | apply below_drew1) | exact HB.out)) hb); have n1_ := Aside0.mk (hbox); have n2_ := Aside0.mk ((by rw [hg]; exact (below_size (by repeat (first | (with_reducible first | exact HB.out | apply below_alloc | apply pw_below_drewN | apply below_drew1) | exact HB.out))) : w.heap.size ≤ gb258)); have n3_ := Aside0.mk ((by rw [hg]; exact (below_size (by repeat (first | (with_reducible first | exact HB.out | apply below_alloc | apply pw_below_drewN | apply below_drew1) | exact HB.out))) : w.heap.size ≤ gb258)); clear HB; have HB := n0_; have BK258 := n1_; have GW258 := n2_; have GE258 := n3_; clear n0_ n1_ n2_ n3_; clear hb hbox hg; have hcz7_0 : w6.cell? ⟨gb258, 0, none⟩ = some (.int .i64 0) := (blk_cell BK258.out 0).trans rfl; have hcz7_1 : w6.cell? ⟨gb258, 1, none⟩ = some (.int .i64 0) := (blk_cell BK258.out 1).trans rfl; have hcz7_2 : w6.cell? ⟨gb258, 2, none⟩ = some (.int .i64 0) := (blk_cell BK258.out 2).trans rfl; have hcz7_3 : w6.cell? ⟨gb258, 3, none⟩ = some (.int .i64 0) := (blk_cell BK258.out 3).trans rfl; have hcz7_4 : w6.cell? ⟨gb258, 4, none⟩ = some (.int .i64 0) := (blk_cell BK258.out 4).trans rfl; have hfz7_0 := blk_frozen BK258.out 0; have hfz7_1 := blk_frozen BK258.out 1; have hfz7_2 := blk_frozen BK258.out 2; have hfz7_3 := blk_frozen BK258.out 3; have hfz7_4 := blk_frozen BK258.out 4) | ((with_reducible refine gate_callee (f := 52) rfl ?_); refine goesL_ (some 12) rfl rfl Tryz.func52 (by kernel_rfl) rfl #[.agg #[.int .i64 t252, .int .i64 t253, .int .i64 t254, .int .i64 t255, .int .i64 t256]] rfl (by (try simp only [List.map_toArray, List.map_cons, List.map_nil]); first | done | rfl | (simp only [List.length_drop, List.length_take]; rfl)) ?_; (with_reducible refine (impl_showInstr.calls t252 t253 t254 t255 t256 t259 _ ?side1 A4.out).mono ?_); (case side1 => exact Tab.TabsODEM.below HTB.out (by repeat (first | (with_reducible first | exact HB.out | apply below_alloc | apply pw_below_drewN | apply below_drew1 | refine below_set ?_ GE258.out) | exact HB.out))); rintro e w8 ⟨rfl, hb⟩; refine ⟨_, rfl, ?_⟩; have n0_ := Aside0.mk (blk_below (g := gb258) (o := .cells #[.int .i64 t252, .int .i64 t253, .int .i64 t254, .int .i64 t255, .int .i64 t256] 48 (0, 0)) (by (with_reducible repeat (first | refine blk_drewN ?_ _ | refine blk_drew ?_ | refine blk_alloc ?_ _)); refine blk_put (cs := #[.int .i64 t252, .int .i64 t253, .int .i64 t254, .int .i64 t255, .int .i64 0]) ?_ 4 _ rfl; refine blk_put (cs := #[.int .i64 t252, .int .i64 t253, .int .i64 t254, .int .i64 0, .int .i64 0]) ?_ 3 _ rfl; refine blk_put (cs := #[.int .i64 t252, .int .i64 t253, .int .i64 0, .int .i64 0, .int .i64 0]) ?_ 2 _ rfl; refine blk_put (cs := #[.int .i64 t252, .int .i64 0, .int .i64 0, .int .i64 0, .int .i64 0]) ?_ 1 _ rfl; refine blk_put (cs := #[.int .i64 0, .int .i64 0, .int .i64 0, .int .i64 0, .int .i64 0]) ?_ 0 _ rfl; (with_reducible repeat (first | refine blk_drewN ?_ _ | refine blk_drew ?_ | refine blk_alloc ?_ _)); exact BK258.out) hb); have n1_ := Aside0.mk (below_step (by repeat (first | (with_reducible first | exact HB.out | apply below_alloc | apply pw_below_drewN | apply below_drew1 | refine below_set ?_ GE258.out) | exact HB.out)) hb); clear BK258; clear HB; have BK258 := n0_; have HB := n1_; clear n0_ n1_; (try clear hb); (try clear hb2); (try clear hk); (try clear hi)))
   go_ret
   exact ⟨by first | rfl | (simp [errW_none, errW_some] <;> rfl) | (simp [*, errW_none, errW_some] <;> rfl), by repeat (first | (with_reducible first | exact HB.out | apply below_alloc | apply pw_below_drewN | apply below_drew1 | refine below_set ?_ GE258.out) | exact HB.out)⟩
 · replace c3 := Bool.eq_false_iff.mpr c3
   subst c3
   have H1 : ((impl_DecText.f (wrap64 (a0))).bind fun t260 => (if 6 + t260.size ≤ 9223372036854775807 then (some ((⟨#[46, 119, 111, 114, 100, 32]⟩ : ByteArray) ++ t260)) else (none))) = some r := by rw [if_neg (show ¬ (false = true) by decide)] at H; exact H
   clear H
   have H := H1
   clear H1
   replace H := Option.bind_eq_some_iff.mp H
   obtain ⟨t260, A90, H⟩ := H
   replace H : (if 6 + t260.size ≤ 9223372036854775807 then (some ((⟨#[46, 119, 111, 114, 100, 32]⟩ : ByteArray) ++ t260)) else (none)) = some r := H
   have A9 := Aside0.mk A90
   clear A90
   by_cases c10 : 6 + t260.size ≤ 9223372036854775807
   · rw [if_pos c10] at H
     have c10b0 := eq_true c10
     have c10b1 : decide (6 + t260.size ≤ 9223372036854775807) = true := decide_eq_true c10
     try have c10b2 : (9223372036854775807 < 6 + t260.size) = False := eq_false (Nat.not_lt.2 c10)
     obtain rfl := Option.some.inj H
     go_enter Tryz.func29, Tryz.ntmps29
     go_wp2_with (first | ((with_reducible refine gate_callee (f := 51) rfl ?_); refine goesL_ (some 7) rfl rfl Tryz.func51 (by kernel_rfl) rfl #[.int .u32 a0] rfl (by (try simp only [List.map_toArray, List.map_cons, List.map_nil]); first | done | rfl | (simp only [List.length_drop, List.length_take]; rfl)) ?_; (with_reducible refine (impl_decode.calls a0 t252 t253 t254 t255 t256 false _ A2.out).mono ?_); rintro e w11 ⟨rfl, hb⟩; refine ⟨_, rfl, ?_⟩; have n0_ := Aside0.mk (below_step (by repeat (first | (with_reducible first | exact HB.out | apply below_alloc | apply pw_below_drewN | apply below_drew1) | exact HB.out)) hb); clear HB; have HB := n0_; clear n0_; (try clear hb); (try clear hb2); (try clear hk); (try clear hi)) | ((with_reducible refine gate_dst (N := 3) rfl ?_); refine box_event ?hg (N := 3) ?hd (cs := #[.int .i64 0, .int .i64 0, .int .i64 0, .int .i64 0, .int .i64 0]) (t := 48) ?hr ?_; (case hd => rfl); (case hg => rfl); (case hr => first | (go_simp; done) | (go_simp; rfl)); intro gb258 hg w12 hbox hb; have n0_ := Aside0.mk (below_step (by repeat (first | (with_reducible first | exact HB.out | apply below_alloc | apply pw_below_drewN | apply below_drew1) | exact HB.out)) hb); have n1_ := Aside0.mk (hbox); have n2_ := Aside0.mk ((by rw [hg]; exact (below_size (by repeat (first | (with_reducible first | exact HB.out | apply below_alloc | apply pw_below_drewN | apply below_drew1) | exact HB.out))) : w.heap.size ≤ gb258)); have n3_ := Aside0.mk ((by rw [hg]; exact (below_size (by repeat (first | (with_reducible first | exact HB.out | apply below_alloc | apply pw_below_drewN | apply below_drew1) | exact HB.out))) : w.heap.size ≤ gb258)); clear HB; have HB := n0_; have BK258 := n1_; have GW258 := n2_; have GE258 := n3_; clear n0_ n1_ n2_ n3_; clear hb hbox hg; have hcz13_0 : w12.cell? ⟨gb258, 0, none⟩ = some (.int .i64 0) := (blk_cell BK258.out 0).trans rfl; have hcz13_1 : w12.cell? ⟨gb258, 1, none⟩ = some (.int .i64 0) := (blk_cell BK258.out 1).trans rfl; have hcz13_2 : w12.cell? ⟨gb258, 2, none⟩ = some (.int .i64 0) := (blk_cell BK258.out 2).trans rfl; have hcz13_3 : w12.cell? ⟨gb258, 3, none⟩ = some (.int .i64 0) := (blk_cell BK258.out 3).trans rfl; have hcz13_4 : w12.cell? ⟨gb258, 4, none⟩ = some (.int .i64 0) := (blk_cell BK258.out 4).trans rfl; have hfz13_0 := blk_frozen BK258.out 0; have hfz13_1 := blk_frozen BK258.out 1; have hfz13_2 := blk_frozen BK258.out 2; have hfz13_3 := blk_frozen BK258.out 3; have hfz13_4 := blk_frozen BK258.out 4) | ((with_reducible refine gate_callee (f := 53) rfl ?_); refine goesL_ (some 15) rfl rfl Tryz.func53 (by kernel_rfl) rfl #[.int .i64 (wrap64 (a0))] rfl (by (try simp only [List.map_toArray, List.map_cons, List.map_nil]); first | done | rfl | (simp only [List.length_drop, List.length_take]; rfl)) ?_; (with_reducible refine (impl_DecText.calls (wrap64 (a0)) t260 _ ?side1 A9.out).mono ?_); (case side1 => exact Tab.TabsODEM.below HTB.out (by repeat (first | (with_reducible first | exact HB.out | apply below_alloc | apply pw_below_drewN | apply below_drew1 | refine below_set ?_ GE258.out) | exact HB.out))); rintro e w14 ⟨rfl, hb⟩; refine ⟨_, rfl, ?_⟩; have n0_ := Aside0.mk (blk_below (g := gb258) (o := .cells #[.int .i64 t252, .int .i64 t253, .int .i64 t254, .int .i64 t255, .int .i64 t256] 48 (0, 0)) (by (with_reducible repeat (first | refine blk_drewN ?_ _ | refine blk_drew ?_ | refine blk_alloc ?_ _)); refine blk_put (cs := #[.int .i64 t252, .int .i64 t253, .int .i64 t254, .int .i64 t255, .int .i64 0]) ?_ 4 _ rfl; refine blk_put (cs := #[.int .i64 t252, .int .i64 t253, .int .i64 t254, .int .i64 0, .int .i64 0]) ?_ 3 _ rfl; refine blk_put (cs := #[.int .i64 t252, .int .i64 t253, .int .i64 0, .int .i64 0, .int .i64 0]) ?_ 2 _ rfl; refine blk_put (cs := #[.int .i64 t252, .int .i64 0, .int .i64 0, .int .i64 0, .int .i64 0]) ?_ 1 _ rfl; refine blk_put (cs := #[.int .i64 0, .int .i64 0, .int .i64 0, .int .i64 0, .int .i64 0]) ?_ 0 _ rfl; (with_reducible repeat (first | refine blk_drewN ?_ _ | refine blk_drew ?_ | refine blk_alloc ?_ _)); exact BK258.out) hb); have n1_ := Aside0.mk (below_step (by repeat (first | (with_reducible first | exact HB.out | apply below_alloc | apply pw_below_drewN | apply below_drew1 | refine below_set ?_ GE258.out) | exact HB.out)) hb); clear BK258; clear HB; have BK258 := n0_; have HB := n1_; clear n0_ n1_; (try clear hb); (try clear hb2); (try clear hk); (try clear hi)))
     go_ret
     exact ⟨by first | rfl | (simp [errW_none, errW_some] <;> rfl) | (simp [*, errW_none, errW_some] <;> rfl), by repeat (first | (with_reducible first | exact HB.out | apply below_alloc | apply pw_below_drewN | apply below_drew1 | refine below_set ?_ GE258.out) | exact HB.out)⟩
   · rw [if_neg c10] at H
     exact absurd H (by simp)

/-! ### impl_Disassemble: function 11 -/
/-- The lines of words, a line feed behind each. -/
def impl_Disassemble.go : List Int → Option (List UInt8)
 | [] => some []
 | x :: l => (impl_showWord.f x).bind fun t => if t.size ≤ 100 then (impl_Disassemble.go l).bind fun u => some (t.data.toList ++ 10 :: u) else none
def impl_Disassemble.f (l0 : List Int) : Option (ByteArray × Bool) := if l0.length > 256 then some (ByteArray.empty, false) else (impl_Disassemble.go l0).bind fun u => some (⟨u.toArray⟩, true)
theorem impl_Disassemble.below_builder {T e : TypeId} {B b : Nat} {bs : List Value} {w w' : World} (h : Lib.IsBuilder T e B b bs w) (hb : Below w.heap.size w w') : Lib.IsBuilder T e B b bs w' := by
 have key : ∀ p, Lib.BuilderAt T e B b p bs w → Lib.BuilderAt T e B b p bs w' := by
  rintro p ⟨h1, v, h2, h3, h4⟩
  have hlt : b < w.heap.size := by
   by_cases hlt : b < w.heap.size
   · exact hlt
   · rw [show w.heap[b]? = none from by simp; omega] at h2; cases h2
  exact ⟨h1, v, (hb.block b hlt).trans h2, pw_own_below h3 hb, h4⟩
 rcases h with h | h
 · exact .inl (key _ h)
 · exact .inr (key _ h)
theorem impl_Disassemble.builder_drewN {T e : TypeId} {B b : Nat} {bs : List Value} {w : World} (h : Lib.IsBuilder T e B b bs w) (n : Nat) : Lib.IsBuilder T e B b bs (w.drewN n) := h
/-- Where the loop stands behind k words. -/
def impl_Disassemble.At (l0 : List Int) (total : List UInt8) (B : Nat) (k : Nat) (w : World) : Prop :=
 ∃ pre rest, impl_Disassemble.go (l0.drop k) = some rest ∧ pre ++ rest = total ∧ pre.length ≤ 101 * k ∧ Lib.IsBuilder 53 5 B B (Lib.byteCells pre) w
theorem impl_Disassemble.step {l0 : List Int} {k : Nat} (hk : k < l0.length) {rest : List UInt8} (h : impl_Disassemble.go (l0.drop k) = some rest) :
 ∃ t u, impl_showWord.f (rd l0 (k : Int)) = some t ∧ t.size ≤ 100 ∧ impl_Disassemble.go (l0.drop (k + 1)) = some u ∧ rest = t.data.toList ++ 10 :: u := by
 rw [List.drop_eq_getElem_cons hk] at h
 unfold impl_Disassemble.go at h
 obtain ⟨t, ht, h⟩ := Option.bind_eq_some_iff.mp h
 have hr : rd l0 (k : Int) = l0[k] := by unfold rd; rw [Int.toNat_natCast]; simp [hk]
 by_cases hs : t.size ≤ 100
 · rw [if_pos hs] at h
   obtain ⟨u, hu, h⟩ := Option.bind_eq_some_iff.mp h
   exact ⟨t, u, by rw [hr]; exact ht, hs, hu, (Option.some.inj h).symm⟩
 · rw [if_neg hs] at h; cases h
theorem impl_Disassemble.bytes (pre : List UInt8) (t : ByteArray) : Lib.byteCells pre ++ Lib.strCells (t ++ (⟨#[10]⟩ : ByteArray)) = Lib.byteCells (pre ++ t.data.toList ++ [10]) := by
 simp [Lib.byteCells, Lib.strCells, ByteArray.data_append]
theorem impl_Disassemble.next {l0 : List Int} {total : List UInt8} {B k : Nat} {pre rest u : List UInt8} {t : ByteArray} {w : World} (g2 : pre ++ rest = total) (g3 : pre.length ≤ 101 * k) (s2 : t.size ≤ 100) (s3 : impl_Disassemble.go (l0.drop (k + 1)) = some u)
 (s4 : rest = t.data.toList ++ 10 :: u) (hb : Lib.BuilderAt 53 5 B B (.pointer (some ⟨B, 0, none⟩)) (Lib.byteCells pre ++ Lib.strCells (t ++ (⟨#[10]⟩ : ByteArray))) w) : impl_Disassemble.At l0 total B (k + 1) w := by
 refine ⟨pre ++ t.data.toList ++ [10], u, s3, by rw [← g2, s4]; simp, ?_, .inr ?_⟩
 · have h5 : t.data.toList.length = t.size := Array.length_toList
   simp only [List.length_append, List.length_cons, List.length_nil, h5]; omega
 · rw [← impl_Disassemble.bytes]; exact hb
set_option maxHeartbeats 8000000 in
set_option maxRecDepth 100000 in
theorem impl_Disassemble.calls (A0 : Option Addr) (c0 : Nat) (l0 : List Int) (r1 : ByteArray) (r2 : Bool) (w : World) (hr0 : Kd.C (Kd.int .u32) w A0 l0.length l0) (hc0 : l0.length ≤ c0) (ht : Tab.TabsODEM w) (h : impl_Disassemble.f l0 = some (r1, r2)) :
 Calls Tryz.prog 11 #[.slice A0 l0.length c0] w fun e w' => e = .returned (.tuple #[.string r1, .bool r2]) ∧ Below w.heap.size w w' := by
 unfold impl_Disassemble.f at h
 by_cases hl : l0.length > 256
 · rw [if_pos hl] at h
   obtain ⟨rfl, rfl⟩ := Prod.mk.inj (Option.some.inj h)
   have c1 : (256 < (l0.length : Int)) = True := eq_true (by omega)
   have c2 : decide (256 < (l0.length : Int)) = true := decide_eq_true (by omega)
   have c3 : decide (256 < l0.length) = true := decide_eq_true hl
   clear h hl ht hr0
   go_enter Tryz.func11, Tryz.ntmps11
   go_wp2
   go_ret2
   exact ⟨rfl, by repeat (first | exact Below.refl _ _ | apply below_alloc | apply pw_below_drewN | apply below_drew1)⟩
 · rw [if_neg hl] at h
   obtain ⟨total, hgo, h⟩ := Option.bind_eq_some_iff.mp h
   obtain ⟨rfl, rfl⟩ := Prod.mk.inj (Option.some.inj h)
   have c1 : (256 < (l0.length : Int)) = False := eq_false (by omega)
   have c2 : decide (256 < (l0.length : Int)) = false := decide_eq_false (by omega)
   have c3 : decide (256 < l0.length) = false := decide_eq_false hl
   have HL := Aside0.mk (show l0.length ≤ 256 by omega)
   have HGO := Aside0.mk hgo
   have HR0 := Aside0.mk hr0
   have HTB := Aside0.mk ht
   have hu := Tryz.underlying53
   clear h hl ht hr0 hgo
   go_enter Tryz.func11, Tryz.ntmps11
   go_wp2
   clear c1 c2 c3
   go_loopw [12] (fun i wr => ∃ k : Nat, k ≤ l0.length ∧ i = .int .i64 k ∧ Aside0 (impl_Disassemble.At l0 total w.heap.size k wr) ∧ Aside0 (Below w.heap.size w wr)) (fun i _ => l0.length - (intOf i).toNat)
   case atStart => exact ⟨0, Nat.zero_le _, rfl, ⟨[], total, HGO.out, rfl, by simp, Lib.fresh_isBuilder 53 5 w⟩, ⟨by repeat (first | exact Below.refl _ _ | apply below_alloc | apply pw_below_drewN | apply below_drew1)⟩⟩
   case round =>
    obtain ⟨k, hk, rfl, HAT, HB⟩ := hrel
    by_cases hlt : k < l0.length
    · obtain ⟨ad, e, hx⟩ := Kd.at_int HR0.out (k : Int) (by omega) (by omega)
      cases e
      rw [Int.toNat_natCast] at hx
      replace hx := (HB.out.cell (World.block_lt_of_cell? w _ hx)).trans hx
      obtain ⟨pre, rest, g1, g2, g3, g4⟩ := HAT.out
      obtain ⟨t, u, s1, s2, s3, s4⟩ := impl_Disassemble.step hlt g1
      have S1 := Aside0.mk s1; have S2 := Aside0.mk s2; have S3 := Aside0.mk s3; have S4 := Aside0.mk s4
      have G2 := Aside0.mk g2; have G3 := Aside0.mk g3; have G4 := Aside0.mk g4; have HLT := Aside0.mk hlt
      have d1 : decide ((k : Int) < (l0.length : Int)) = true := decide_eq_true (by omega)
      have d2 : decide (k < l0.length) = true := decide_eq_true hlt
      have d3 : ((k : Int) < (l0.length : Int)) = True := eq_true (by omega)
      have d4 : (k < l0.length) = True := eq_true hlt
      have e1 : (9223372036854775807 < t.size + 1) = False := eq_false (by omega)
      have hm : l0.length ≤ 256 := HL.out
      have hm2 : k < 256 := by omega
      clear g1 g2 g3 g4 s1 s2 s3 s4 hlt HAT
      go_wp2_with fail
      refine (impl_showWord.calls (rd l0 (k : Int)) t _ (HTB.out.below HB.out) S1.out).mono ?_
      rintro e w2 ⟨rfl, hb⟩
      have HB2 := Aside0.mk (below_step HB.out hb)
      have G42 := Aside0.mk (impl_Disassemble.below_builder G4.out hb)
      clear hb hx
      go_wp2_with fail
      refine (Tryz.Builder_WriteString w.heap.size w.heap.size (Lib.byteCells pre) (t ++ (⟨#[10]⟩ : ByteArray)) _ G42.out ?_ HB2.out.size).mono ?_
      · have h1 := G3.out; have h2 := S2.out; have h3 := HL.out; have h4 := HLT.out; have hz : (⟨#[10]⟩ : ByteArray).size = 1 := rfl
        simp [Lib.byteCells, ByteArray.size_append]; omega
      rintro e w3 ⟨rfl, hB3, hb3⟩
      go_wp2
      go_roundw
      case rel => exact ⟨k + 1, by have := HLT.out; omega, by go_num, ⟨impl_Disassemble.next G2.out G3.out S2.out S3.out S4.out hB3⟩, ⟨HB2.out.trans hb3⟩⟩
      case measure => have := HLT.out; simp [intOf]; omega
    · have hk2 : k = l0.length := by omega
      obtain ⟨pre, rest, g1, g2, g3, g4⟩ := HAT.out
      have hr : rest = [] := by
       rw [hk2, List.drop_length] at g1
       exact (Option.some.inj g1).symm
      have G2 := Aside0.mk (show pre = total by rw [← g2, hr]; simp)
      have G4 := Aside0.mk g4
      have d1 : decide ((k : Int) < (l0.length : Int)) = false := decide_eq_false (by omega)
      have d2 : decide (k < l0.length) = false := decide_eq_false hlt
      have d3 : ((k : Int) < (l0.length : Int)) = False := eq_false (by omega)
      have d4 : (k < l0.length) = False := eq_false hlt
      clear g1 g2 g3 g4 hr hk2 hlt HAT
      go_wp2_with fail
      refine (Tryz.Builder_String_any w.heap.size w.heap.size pre _ G4.out HB.out.size).mono ?_
      rintro e w2 ⟨rfl, hb2⟩
      go_wp2
      go_ret2
      exact ⟨by rw [G2.out]; rfl, HB.out.trans hb2⟩

end Go.Proofs.YtaophlekfepkgaaGreatDoor.PFnAssemble

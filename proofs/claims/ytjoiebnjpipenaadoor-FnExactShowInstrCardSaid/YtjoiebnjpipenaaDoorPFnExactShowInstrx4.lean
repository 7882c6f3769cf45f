/- Printed by a program out of the translation, with contracts of my own set in. -/
import Derived.Test.YtjoiebnjpipenaaDoorPFnExactShowInstrx0
import Derived.Test.YtjoiebnjpipenaaDoorPFnExactShowInstrx2
import Derived.Test.YtjoiebnjpipenaaDoorPFnExactShowInstrx3
namespace Go.Proofs.YtjoiebnjpipenaaDoor.PFnExactShowInstr
open Go.RowKit Go.Proofs.YtjoiebnjpipenaaDoorW.PrintWords Go.Proofs.YtjoiebnjpipenaaDoorW.PrintLast Go.Proofs.YtjoiebnjpipenaaDoorW.PrintMore
attribute [local go_sem] max2_int min2_int max_two min_two max_three min_three max_four min_four   -- for this text's walks alone
set_option linter.unusedVariables false
set_option linter.unusedSimpArgs false

/-! ### impl_showInstr: function 47 -/
/-- A register's part of a line. -/
def impl_showInstr.reg (form bit n : Int) : List UInt8 := if form / bit % 2 = 1 then 32 :: 114 :: Lib.itoa n else []
/-- The line of an instruction. -/
def impl_showInstr.txt (op a b c imm : Int) : List UInt8 :=
  Tab.names.getD op.toNat [] ++ (impl_showInstr.reg (impl_isInstr.form op) 1 a ++ (impl_showInstr.reg (impl_isInstr.form op) 2 b ++ (impl_showInstr.reg (impl_isInstr.form op) 4 c ++ (if impl_isInstr.form op / 8 % 2 = 1 then 32 :: Lib.itoa imm else []))))
def impl_showInstr.ok (op a b c imm : Int) : Prop := (0 ≤ op ∧ op ≤ 32) ∧ (-9223372036854775808 ≤ a ∧ a ≤ 9223372036854775807) ∧ (-9223372036854775808 ≤ b ∧ b ≤ 9223372036854775807) ∧ (-9223372036854775808 ≤ c ∧ c ≤ 9223372036854775807) ∧ (-9223372036854775808 ≤ imm ∧ imm ≤ 9223372036854775807)
instance (op a b c imm : Int) : Decidable (impl_showInstr.ok op a b c imm) := by unfold impl_showInstr.ok; exact inferInstance
def impl_showInstr.f (a0_0 : Int) (a0_1 : Int) (a0_2 : Int) (a0_3 : Int) (a0_4 : Int) : Option (ByteArray) := if impl_showInstr.ok a0_0 a0_1 a0_2 a0_3 a0_4 then some ⟨(impl_showInstr.txt a0_0 a0_1 a0_2 a0_3 a0_4).toArray⟩ else none
def impl_showInstr.num (n : Int) : ByteArray := ⟨(Lib.itoa n).toArray⟩
theorem impl_showInstr.dec (n : Int) (W : World) (ht : Tab.TabsOD W) (h : -9223372036854775808 ≤ n ∧ n ≤ 9223372036854775807) :
    Calls Tryd.prog 17 #[.int .i64 n] W fun e w' => e = .returned (.string (impl_showInstr.num n)) ∧ Below W.heap.size W w' :=
  impl_DecText.calls n (impl_showInstr.num n) W ht (by unfold impl_DecText.f strconv_Itoa.f; first | (rw [if_pos h]; rfl) | (simp only [if_pos h]; rfl))
theorem impl_showInstr.digits_len (j : Nat) : ∀ u : Nat, u < 10 ^ (j + 1) → (Lib.decDigits u).length ≤ j + 1 := by
  induction j with
  | zero => intro u h; rw [Lib.decDigits, dif_pos (by simpa using h)]; simp
  | succ j ih =>
    intro u h
    by_cases h10 : u < 10
    · rw [Lib.decDigits, dif_pos h10]; simp
    · rw [Lib.decDigits, dif_neg h10, List.length_append]
      have := ih (u / 10) (by rw [Nat.pow_succ] at h; exact Nat.div_lt_of_lt_mul (by rw [Nat.mul_comm]; exact h))
      simp; omega
theorem impl_showInstr.itoa_len (n : Int) (h : -9223372036854775808 ≤ n ∧ n ≤ 9223372036854775807) : (Lib.itoa n).length ≤ 21 := by
  unfold Lib.itoa
  by_cases hn : n < 0
  · rw [if_pos hn]
    have := impl_showInstr.digits_len 19 n.natAbs (by omega)
    simp; omega
  · rw [if_neg hn]
    have := impl_showInstr.digits_len 19 n.toNat (by omega)
    omega
theorem impl_showInstr.num_size (n : Int) (h : -9223372036854775808 ≤ n ∧ n ≤ 9223372036854775807) : (impl_showInstr.num n).size ≤ 21 := by
  have := impl_showInstr.itoa_len n h
  simpa [impl_showInstr.num, ByteArray.size] using this
theorem impl_showInstr.nm_size : ∀ n : Fin 33, (Tab.nm n.val).size ≤ 5 := by decide +kernel
/-- What the text is behind k registers. -/
def impl_showInstr.add (form bit : Nat) (x a : ByteArray) : ByteArray := if form / bit % 2 = 1 then x ++ ((⟨#[32, 114]⟩ : ByteArray) ++ a) else x
def impl_showInstr.pre (form : Nat) (x : ByteArray) (a b c : ByteArray) : Nat → ByteArray
  | 0 => x
  | 1 => impl_showInstr.add form 1 x a
  | 2 => impl_showInstr.add form 2 (impl_showInstr.add form 1 x a) b
  | _ => impl_showInstr.add form 4 (impl_showInstr.add form 2 (impl_showInstr.add form 1 x a) b) c

theorem impl_showInstr.txt0 (n : Nat) (a0_1 a0_2 a0_3 a0_4 : Int) (hf : impl_isInstr.form (n : Int) = 0) : (impl_showInstr.pre 0 (Tab.nm n) (impl_showInstr.num a0_1) (impl_showInstr.num a0_2) (impl_showInstr.num a0_3) 3).data.toList = impl_showInstr.txt n a0_1 a0_2 a0_3 a0_4 := by
  unfold impl_showInstr.txt impl_showInstr.pre impl_showInstr.add impl_showInstr.reg
  rw [hf]
  simp [impl_showInstr.num, Tab.nm, ByteArray.data_append]
set_option maxHeartbeats 8000000 in
set_option maxRecDepth 100000 in
theorem impl_showInstr.form0 (n : Nat) (a0_1 a0_2 a0_3 a0_4 : Int) (w : World) (HT : Aside0 (Tab.TabsOD w)) (HLT : Hid (n < 33)) (HF : Hid (impl_isInstr.form (n : Int) = 0)) (HO : Hid (impl_showInstr.ok n a0_1 a0_2 a0_3 a0_4)) :
    Calls Tryd.prog 47 #[.agg #[.int .i64 (n : Int), .int .i64 a0_1, .int .i64 a0_2, .int .i64 a0_3, .int .i64 a0_4]] w fun e w' => (e = .returned (.string (impl_showInstr.pre 0 (Tab.nm n) (impl_showInstr.num a0_1) (impl_showInstr.num a0_2) (impl_showInstr.num a0_3) 3))) ∧ Below w.heap.size w w' := by
  have hu := Tryd.underlying29
  have HFC := fun W => impl_formOf.calls 8 (n : Int) 0 W (by rw [impl_isInstr.form_eq, HF.out])
  have i0 : ∀ w, (Instr.index 82 (.agg #[.int .i64 a0_1, .int .i64 a0_2, .int .i64 a0_3]) (.int .i64 0)).run Tryd.prog w = .ok (.int .i64 a0_1) w := fun _ => by kernel_rfl
  have i1 : ∀ w, (Instr.index 82 (.agg #[.int .i64 a0_1, .int .i64 a0_2, .int .i64 a0_3]) (.int .i64 1)).run Tryd.prog w = .ok (.int .i64 a0_2) w := fun _ => by kernel_rfl
  have i2 : ∀ w, (Instr.index 82 (.agg #[.int .i64 a0_1, .int .i64 a0_2, .int .i64 a0_3]) (.int .i64 2)).run Tryd.prog w = .ok (.int .i64 a0_3) w := fun _ => by kernel_rfl
  have b0 : Go.bits .and .i64 0 1 = 0 := by decide +kernel
  have b8_ : Go.bits .and .i64 0 8 = 0 := by decide +kernel
  have HNS := Aside0.mk (impl_showInstr.nm_size ⟨n, HLT.out⟩)
  have HX := Aside0.mk (HT.out.o n HLT.out)
  have HLN := Aside0.mk HLT.out
  generalize Tab.nm n = nmv at *
  have HSa := Aside0.mk (impl_showInstr.num_size a0_1 HO.out.2.1)
  have HDa := Lib.hid (fun W (ht : Tab.TabsOD W) => impl_showInstr.dec a0_1 W ht HO.out.2.1)
  generalize impl_showInstr.num a0_1 = sa at *
  have HSb := Aside0.mk (impl_showInstr.num_size a0_2 HO.out.2.2.1)
  have HDb := Lib.hid (fun W (ht : Tab.TabsOD W) => impl_showInstr.dec a0_2 W ht HO.out.2.2.1)
  generalize impl_showInstr.num a0_2 = sb at *
  have HSc := Aside0.mk (impl_showInstr.num_size a0_3 HO.out.2.2.2.1)
  have HDc := Lib.hid (fun W (ht : Tab.TabsOD W) => impl_showInstr.dec a0_3 W ht HO.out.2.2.2.1)
  generalize impl_showInstr.num a0_3 = sc at *
  have HSi := Aside0.mk (impl_showInstr.num_size a0_4 HO.out.2.2.2.2)
  have HDi := Lib.hid (fun W (ht : Tab.TabsOD W) => impl_showInstr.dec a0_4 W ht HO.out.2.2.2.2)
  generalize impl_showInstr.num a0_4 = si at *
  have c1 : decide (0 ≤ (n : Int)) = true := by simp
  have c2 : decide ((n : Int) < 33) = true := by have := HLT.out; simp; omega
  have c3 : decide (n < 33) = true := by have := HLT.out; simp; omega
  have c4 : ((n : Int) < 33) = True := eq_true (by have := HLT.out; omega)
  have c5 : (33 ≤ (n : Int)) = False := eq_false (by have := HLT.out; omega)
  have HB0 := Aside0.mk (Below.refl w.heap.size w)
  go_enter Tryd.func47, Tryd.ntmps47
  go_wp2_with (first | ((with_reducible refine gate_dst (N := 1) rfl ?_); refine box_event ?hg (N := 1) ?hd (cs := #[.int .i64 (n : Int), .int .i64 a0_1, .int .i64 a0_2, .int .i64 a0_3, .int .i64 a0_4]) (t := 29) ?hr ?_; (case hd => rfl); (case hg => rfl); (case hr => first | (go_simp; done) | (go_simp; rfl)); intro g1 hg w1 hbox hb; revert hbox hb hg))
  intro hg1 hb1 hB1
  have BK := Aside0.mk hb1
  have HB := Aside0.mk (below_step HB0.out hB1)
  clear hg1 hb1 hB1 HB0
  have q0 : w1.cell? ⟨g1, 0, none⟩ = some (.int .i64 (n : Int)) := (blk_cell BK.out 0).trans rfl
  have q1 : w1.cell? ⟨g1, 1, none⟩ = some (.int .i64 a0_1) := (blk_cell BK.out 1).trans rfl
  have q2 : w1.cell? ⟨g1, 2, none⟩ = some (.int .i64 a0_2) := (blk_cell BK.out 2).trans rfl
  have q3 : w1.cell? ⟨g1, 3, none⟩ = some (.int .i64 a0_3) := (blk_cell BK.out 3).trans rfl
  have q4 : w1.cell? ⟨g1, 4, none⟩ = some (.int .i64 a0_4) := (blk_cell BK.out 4).trans rfl
  have hx : w1.cell? ⟨0, n, none⟩ = some (.string nmv) := (HB.out.cell (p := ⟨0, n, none⟩) HT.out.o.lt).trans HX.out
  go_wp2_with (go_at_call 62; refine (HFC _).mono ?_; rintro e w' ⟨rfl, m, rfl⟩)
  clear q0 q1 q2 q3 q4 hx c1 c2 c3 c4 c5
  go_loopw [3, 21] (fun s i wr => ∃ k : Nat, k ≤ 3 ∧ i = .int .i64 k ∧ s = .string (impl_showInstr.pre 0 nmv sa sb sc k) ∧ Aside0 (wr.heap[g1]? = some (.cells #[.int .i64 (n : Int), .int .i64 a0_1, .int .i64 a0_2, .int .i64 a0_3, .int .i64 a0_4] 29 (0, 0))) ∧ Aside0 (Below w.heap.size w wr)) (fun _ i _ => 3 - (intOf i).toNat)
  case atStart => exact ⟨0, by omega, rfl, rfl, ⟨blk_drewN BK.out _⟩, ⟨pw_below_drewN HB.out _⟩⟩
  case round =>
    clear BK HB
    obtain ⟨k, hk, rfl, rfl, BK, HB⟩ := hrel
    rcases (show k = 0 ∨ k = 1 ∨ k = 2 ∨ k = 3 by omega) with rfl | rfl | rfl | rfl
    · go_wp2
      go_roundw
      case rel => exact ⟨1, by omega, rfl, rfl, ⟨BK.out⟩, ⟨HB.out⟩⟩
      case measure => simp [intOf]
    · go_wp2
      go_roundw
      case rel => exact ⟨2, by omega, rfl, rfl, ⟨BK.out⟩, ⟨HB.out⟩⟩
      case measure => simp [intOf]
    · go_wp2
      go_roundw
      case rel => exact ⟨3, by omega, rfl, rfl, ⟨BK.out⟩, ⟨HB.out⟩⟩
      case measure => simp [intOf]
    · go_wp2
      go_ret
      exact ⟨rfl, HB.out⟩
theorem impl_showInstr.txt1 (n : Nat) (a0_1 a0_2 a0_3 a0_4 : Int) (hf : impl_isInstr.form (n : Int) = 1) : (impl_showInstr.pre 1 (Tab.nm n) (impl_showInstr.num a0_1) (impl_showInstr.num a0_2) (impl_showInstr.num a0_3) 3).data.toList = impl_showInstr.txt n a0_1 a0_2 a0_3 a0_4 := by
  unfold impl_showInstr.txt impl_showInstr.pre impl_showInstr.add impl_showInstr.reg
  rw [hf]
  simp [impl_showInstr.num, Tab.nm, ByteArray.data_append]
set_option maxHeartbeats 8000000 in
set_option maxRecDepth 100000 in
theorem impl_showInstr.form1 (n : Nat) (a0_1 a0_2 a0_3 a0_4 : Int) (w : World) (HT : Aside0 (Tab.TabsOD w)) (HLT : Hid (n < 33)) (HF : Hid (impl_isInstr.form (n : Int) = 1)) (HO : Hid (impl_showInstr.ok n a0_1 a0_2 a0_3 a0_4)) :
    Calls Tryd.prog 47 #[.agg #[.int .i64 (n : Int), .int .i64 a0_1, .int .i64 a0_2, .int .i64 a0_3, .int .i64 a0_4]] w fun e w' => (e = .returned (.string (impl_showInstr.pre 1 (Tab.nm n) (impl_showInstr.num a0_1) (impl_showInstr.num a0_2) (impl_showInstr.num a0_3) 3))) ∧ Below w.heap.size w w' := by
  have hu := Tryd.underlying29
  have HFC := fun W => impl_formOf.calls 8 (n : Int) 1 W (by rw [impl_isInstr.form_eq, HF.out])
  have i0 : ∀ w, (Instr.index 82 (.agg #[.int .i64 a0_1, .int .i64 a0_2, .int .i64 a0_3]) (.int .i64 0)).run Tryd.prog w = .ok (.int .i64 a0_1) w := fun _ => by kernel_rfl
  have i1 : ∀ w, (Instr.index 82 (.agg #[.int .i64 a0_1, .int .i64 a0_2, .int .i64 a0_3]) (.int .i64 1)).run Tryd.prog w = .ok (.int .i64 a0_2) w := fun _ => by kernel_rfl
  have i2 : ∀ w, (Instr.index 82 (.agg #[.int .i64 a0_1, .int .i64 a0_2, .int .i64 a0_3]) (.int .i64 2)).run Tryd.prog w = .ok (.int .i64 a0_3) w := fun _ => by kernel_rfl
  have b0 : Go.bits .and .i64 0 1 = 0 := by decide +kernel
  have b1 : Go.bits .and .i64 1 1 = 1 := by decide +kernel
  have b8_ : Go.bits .and .i64 1 8 = 0 := by decide +kernel
  have HNS := Aside0.mk (impl_showInstr.nm_size ⟨n, HLT.out⟩)
  have HX := Aside0.mk (HT.out.o n HLT.out)
  have HLN := Aside0.mk HLT.out
  generalize Tab.nm n = nmv at *
  have HSa := Aside0.mk (impl_showInstr.num_size a0_1 HO.out.2.1)
  have HDa := Lib.hid (fun W (ht : Tab.TabsOD W) => impl_showInstr.dec a0_1 W ht HO.out.2.1)
  generalize impl_showInstr.num a0_1 = sa at *
  have HSb := Aside0.mk (impl_showInstr.num_size a0_2 HO.out.2.2.1)
  have HDb := Lib.hid (fun W (ht : Tab.TabsOD W) => impl_showInstr.dec a0_2 W ht HO.out.2.2.1)
  generalize impl_showInstr.num a0_2 = sb at *
  have HSc := Aside0.mk (impl_showInstr.num_size a0_3 HO.out.2.2.2.1)
  have HDc := Lib.hid (fun W (ht : Tab.TabsOD W) => impl_showInstr.dec a0_3 W ht HO.out.2.2.2.1)
  generalize impl_showInstr.num a0_3 = sc at *
  have HSi := Aside0.mk (impl_showInstr.num_size a0_4 HO.out.2.2.2.2)
  have HDi := Lib.hid (fun W (ht : Tab.TabsOD W) => impl_showInstr.dec a0_4 W ht HO.out.2.2.2.2)
  generalize impl_showInstr.num a0_4 = si at *
  have c1 : decide (0 ≤ (n : Int)) = true := by simp
  have c2 : decide ((n : Int) < 33) = true := by have := HLT.out; simp; omega
  have c3 : decide (n < 33) = true := by have := HLT.out; simp; omega
  have c4 : ((n : Int) < 33) = True := eq_true (by have := HLT.out; omega)
  have c5 : (33 ≤ (n : Int)) = False := eq_false (by have := HLT.out; omega)
  have HB0 := Aside0.mk (Below.refl w.heap.size w)
  go_enter Tryd.func47, Tryd.ntmps47
  go_wp2_with (first | ((with_reducible refine gate_dst (N := 1) rfl ?_); refine box_event ?hg (N := 1) ?hd (cs := #[.int .i64 (n : Int), .int .i64 a0_1, .int .i64 a0_2, .int .i64 a0_3, .int .i64 a0_4]) (t := 29) ?hr ?_; (case hd => rfl); (case hg => rfl); (case hr => first | (go_simp; done) | (go_simp; rfl)); intro g1 hg w1 hbox hb; revert hbox hb hg))
  intro hg1 hb1 hB1
  have BK := Aside0.mk hb1
  have HB := Aside0.mk (below_step HB0.out hB1)
  clear hg1 hb1 hB1 HB0
  have q0 : w1.cell? ⟨g1, 0, none⟩ = some (.int .i64 (n : Int)) := (blk_cell BK.out 0).trans rfl
  have q1 : w1.cell? ⟨g1, 1, none⟩ = some (.int .i64 a0_1) := (blk_cell BK.out 1).trans rfl
  have q2 : w1.cell? ⟨g1, 2, none⟩ = some (.int .i64 a0_2) := (blk_cell BK.out 2).trans rfl
  have q3 : w1.cell? ⟨g1, 3, none⟩ = some (.int .i64 a0_3) := (blk_cell BK.out 3).trans rfl
  have q4 : w1.cell? ⟨g1, 4, none⟩ = some (.int .i64 a0_4) := (blk_cell BK.out 4).trans rfl
  have hx : w1.cell? ⟨0, n, none⟩ = some (.string nmv) := (HB.out.cell (p := ⟨0, n, none⟩) HT.out.o.lt).trans HX.out
  go_wp2_with (go_at_call 62; refine (HFC _).mono ?_; rintro e w' ⟨rfl, m, rfl⟩)
  clear q0 q1 q2 q3 q4 hx c1 c2 c3 c4 c5
  go_loopw [3, 21] (fun s i wr => ∃ k : Nat, k ≤ 3 ∧ i = .int .i64 k ∧ s = .string (impl_showInstr.pre 1 nmv sa sb sc k) ∧ Aside0 (wr.heap[g1]? = some (.cells #[.int .i64 (n : Int), .int .i64 a0_1, .int .i64 a0_2, .int .i64 a0_3, .int .i64 a0_4] 29 (0, 0))) ∧ Aside0 (Below w.heap.size w wr)) (fun _ i _ => 3 - (intOf i).toNat)
  case atStart => exact ⟨0, by omega, rfl, rfl, ⟨blk_drewN BK.out _⟩, ⟨pw_below_drewN HB.out _⟩⟩
  case round =>
    clear BK HB
    obtain ⟨k, hk, rfl, rfl, BK, HB⟩ := hrel
    rcases (show k = 0 ∨ k = 1 ∨ k = 2 ∨ k = 3 by omega) with rfl | rfl | rfl | rfl
    · have HP := Aside0.mk (show (impl_showInstr.pre 1 nmv sa sb sc 0).size ≤ 5 by have h1 := HNS.out; have h2 := HSa.out; have h3 := HSb.out; have h4 := HSc.out; have hz : (⟨#[32, 114]⟩ : ByteArray).size = 2 := rfl; simp [impl_showInstr.pre, impl_showInstr.add, ByteArray.size_append] at *; omega)
      generalize hpre : impl_showInstr.pre 1 nmv sa sb sc 0 = p at HP ⊢
      have HPE := Aside0.mk hpre
      clear hpre
      have e1 : (9223372036854775807 < 2 + sa.size) = False := eq_false (by have := HSa.out; omega)
      have e2 : (9223372036854775807 < p.size + (2 + sa.size)) = False := eq_false (by have := HSa.out; have := HP.out; omega)
      go_wp2_with (go_at_call 17; refine (HDa.out _ (HT.out.below HB.out)).mono ?_; rintro e w2 ⟨rfl, hb_⟩)
      go_roundw
      case rel => exact ⟨1, by omega, rfl, by rw [← HPE.out]; rfl, ⟨blk_below BK.out hb_⟩, ⟨below_step HB.out hb_⟩⟩
      case measure => simp [intOf]
    · go_wp2
      go_roundw
      case rel => exact ⟨2, by omega, rfl, rfl, ⟨BK.out⟩, ⟨HB.out⟩⟩
      case measure => simp [intOf]
    · go_wp2
      go_roundw
      case rel => exact ⟨3, by omega, rfl, rfl, ⟨BK.out⟩, ⟨HB.out⟩⟩
      case measure => simp [intOf]
    · go_wp2
      go_ret
      exact ⟨rfl, HB.out⟩
theorem impl_showInstr.txt7 (n : Nat) (a0_1 a0_2 a0_3 a0_4 : Int) (hf : impl_isInstr.form (n : Int) = 7) : (impl_showInstr.pre 7 (Tab.nm n) (impl_showInstr.num a0_1) (impl_showInstr.num a0_2) (impl_showInstr.num a0_3) 3).data.toList = impl_showInstr.txt n a0_1 a0_2 a0_3 a0_4 := by
  unfold impl_showInstr.txt impl_showInstr.pre impl_showInstr.add impl_showInstr.reg
  rw [hf]
  simp [impl_showInstr.num, Tab.nm, ByteArray.data_append]
set_option maxHeartbeats 8000000 in
set_option maxRecDepth 100000 in
theorem impl_showInstr.form7 (n : Nat) (a0_1 a0_2 a0_3 a0_4 : Int) (w : World) (HT : Aside0 (Tab.TabsOD w)) (HLT : Hid (n < 33)) (HF : Hid (impl_isInstr.form (n : Int) = 7)) (HO : Hid (impl_showInstr.ok n a0_1 a0_2 a0_3 a0_4)) :
    Calls Tryd.prog 47 #[.agg #[.int .i64 (n : Int), .int .i64 a0_1, .int .i64 a0_2, .int .i64 a0_3, .int .i64 a0_4]] w fun e w' => (e = .returned (.string (impl_showInstr.pre 7 (Tab.nm n) (impl_showInstr.num a0_1) (impl_showInstr.num a0_2) (impl_showInstr.num a0_3) 3))) ∧ Below w.heap.size w w' := by
  have hu := Tryd.underlying29
  have HFC := fun W => impl_formOf.calls 8 (n : Int) 7 W (by rw [impl_isInstr.form_eq, HF.out])
  have i0 : ∀ w, (Instr.index 82 (.agg #[.int .i64 a0_1, .int .i64 a0_2, .int .i64 a0_3]) (.int .i64 0)).run Tryd.prog w = .ok (.int .i64 a0_1) w := fun _ => by kernel_rfl
  have i1 : ∀ w, (Instr.index 82 (.agg #[.int .i64 a0_1, .int .i64 a0_2, .int .i64 a0_3]) (.int .i64 1)).run Tryd.prog w = .ok (.int .i64 a0_2) w := fun _ => by kernel_rfl
  have i2 : ∀ w, (Instr.index 82 (.agg #[.int .i64 a0_1, .int .i64 a0_2, .int .i64 a0_3]) (.int .i64 2)).run Tryd.prog w = .ok (.int .i64 a0_3) w := fun _ => by kernel_rfl
  have b1 : Go.bits .and .i64 1 1 = 1 := by decide +kernel
  have b3 : Go.bits .and .i64 3 1 = 1 := by decide +kernel
  have b7 : Go.bits .and .i64 7 1 = 1 := by decide +kernel
  have b8_ : Go.bits .and .i64 7 8 = 0 := by decide +kernel
  have HNS := Aside0.mk (impl_showInstr.nm_size ⟨n, HLT.out⟩)
  have HX := Aside0.mk (HT.out.o n HLT.out)
  have HLN := Aside0.mk HLT.out
  generalize Tab.nm n = nmv at *
  have HSa := Aside0.mk (impl_showInstr.num_size a0_1 HO.out.2.1)
  have HDa := Lib.hid (fun W (ht : Tab.TabsOD W) => impl_showInstr.dec a0_1 W ht HO.out.2.1)
  generalize impl_showInstr.num a0_1 = sa at *
  have HSb := Aside0.mk (impl_showInstr.num_size a0_2 HO.out.2.2.1)
  have HDb := Lib.hid (fun W (ht : Tab.TabsOD W) => impl_showInstr.dec a0_2 W ht HO.out.2.2.1)
  generalize impl_showInstr.num a0_2 = sb at *
  have HSc := Aside0.mk (impl_showInstr.num_size a0_3 HO.out.2.2.2.1)
  have HDc := Lib.hid (fun W (ht : Tab.TabsOD W) => impl_showInstr.dec a0_3 W ht HO.out.2.2.2.1)
  generalize impl_showInstr.num a0_3 = sc at *
  have HSi := Aside0.mk (impl_showInstr.num_size a0_4 HO.out.2.2.2.2)
  have HDi := Lib.hid (fun W (ht : Tab.TabsOD W) => impl_showInstr.dec a0_4 W ht HO.out.2.2.2.2)
  generalize impl_showInstr.num a0_4 = si at *
  have c1 : decide (0 ≤ (n : Int)) = true := by simp
  have c2 : decide ((n : Int) < 33) = true := by have := HLT.out; simp; omega
  have c3 : decide (n < 33) = true := by have := HLT.out; simp; omega
  have c4 : ((n : Int) < 33) = True := eq_true (by have := HLT.out; omega)
  have c5 : (33 ≤ (n : Int)) = False := eq_false (by have := HLT.out; omega)
  have HB0 := Aside0.mk (Below.refl w.heap.size w)
  go_enter Tryd.func47, Tryd.ntmps47
  go_wp2_with (first | ((with_reducible refine gate_dst (N := 1) rfl ?_); refine box_event ?hg (N := 1) ?hd (cs := #[.int .i64 (n : Int), .int .i64 a0_1, .int .i64 a0_2, .int .i64 a0_3, .int .i64 a0_4]) (t := 29) ?hr ?_; (case hd => rfl); (case hg => rfl); (case hr => first | (go_simp; done) | (go_simp; rfl)); intro g1 hg w1 hbox hb; revert hbox hb hg))
  intro hg1 hb1 hB1
  have BK := Aside0.mk hb1
  have HB := Aside0.mk (below_step HB0.out hB1)
  clear hg1 hb1 hB1 HB0
  have q0 : w1.cell? ⟨g1, 0, none⟩ = some (.int .i64 (n : Int)) := (blk_cell BK.out 0).trans rfl
  have q1 : w1.cell? ⟨g1, 1, none⟩ = some (.int .i64 a0_1) := (blk_cell BK.out 1).trans rfl
  have q2 : w1.cell? ⟨g1, 2, none⟩ = some (.int .i64 a0_2) := (blk_cell BK.out 2).trans rfl
  have q3 : w1.cell? ⟨g1, 3, none⟩ = some (.int .i64 a0_3) := (blk_cell BK.out 3).trans rfl
  have q4 : w1.cell? ⟨g1, 4, none⟩ = some (.int .i64 a0_4) := (blk_cell BK.out 4).trans rfl
  have hx : w1.cell? ⟨0, n, none⟩ = some (.string nmv) := (HB.out.cell (p := ⟨0, n, none⟩) HT.out.o.lt).trans HX.out
  go_wp2_with (go_at_call 62; refine (HFC _).mono ?_; rintro e w' ⟨rfl, m, rfl⟩)
  clear q0 q1 q2 q3 q4 hx c1 c2 c3 c4 c5
  go_loopw [3, 21] (fun s i wr => ∃ k : Nat, k ≤ 3 ∧ i = .int .i64 k ∧ s = .string (impl_showInstr.pre 7 nmv sa sb sc k) ∧ Aside0 (wr.heap[g1]? = some (.cells #[.int .i64 (n : Int), .int .i64 a0_1, .int .i64 a0_2, .int .i64 a0_3, .int .i64 a0_4] 29 (0, 0))) ∧ Aside0 (Below w.heap.size w wr)) (fun _ i _ => 3 - (intOf i).toNat)
  case atStart => exact ⟨0, by omega, rfl, rfl, ⟨blk_drewN BK.out _⟩, ⟨pw_below_drewN HB.out _⟩⟩
  case round =>
    clear BK HB
    obtain ⟨k, hk, rfl, rfl, BK, HB⟩ := hrel
    rcases (show k = 0 ∨ k = 1 ∨ k = 2 ∨ k = 3 by omega) with rfl | rfl | rfl | rfl
    · have HP := Aside0.mk (show (impl_showInstr.pre 7 nmv sa sb sc 0).size ≤ 5 by have h1 := HNS.out; have h2 := HSa.out; have h3 := HSb.out; have h4 := HSc.out; have hz : (⟨#[32, 114]⟩ : ByteArray).size = 2 := rfl; simp [impl_showInstr.pre, impl_showInstr.add, ByteArray.size_append] at *; omega)
      generalize hpre : impl_showInstr.pre 7 nmv sa sb sc 0 = p at HP ⊢
      have HPE := Aside0.mk hpre
      clear hpre
      have e1 : (9223372036854775807 < 2 + sa.size) = False := eq_false (by have := HSa.out; omega)
      have e2 : (9223372036854775807 < p.size + (2 + sa.size)) = False := eq_false (by have := HSa.out; have := HP.out; omega)
      go_wp2_with (go_at_call 17; refine (HDa.out _ (HT.out.below HB.out)).mono ?_; rintro e w2 ⟨rfl, hb_⟩)
      go_roundw
      case rel => exact ⟨1, by omega, rfl, by rw [← HPE.out]; rfl, ⟨blk_below BK.out hb_⟩, ⟨below_step HB.out hb_⟩⟩
      case measure => simp [intOf]
    · have HP := Aside0.mk (show (impl_showInstr.pre 7 nmv sa sb sc 1).size ≤ 28 by have h1 := HNS.out; have h2 := HSa.out; have h3 := HSb.out; have h4 := HSc.out; have hz : (⟨#[32, 114]⟩ : ByteArray).size = 2 := rfl; simp [impl_showInstr.pre, impl_showInstr.add, ByteArray.size_append] at *; omega)
      generalize hpre : impl_showInstr.pre 7 nmv sa sb sc 1 = p at HP ⊢
      have HPE := Aside0.mk hpre
      clear hpre
      have e1 : (9223372036854775807 < 2 + sb.size) = False := eq_false (by have := HSb.out; omega)
      have e2 : (9223372036854775807 < p.size + (2 + sb.size)) = False := eq_false (by have := HSb.out; have := HP.out; omega)
      go_wp2_with (go_at_call 17; refine (HDb.out _ (HT.out.below HB.out)).mono ?_; rintro e w2 ⟨rfl, hb_⟩)
      go_roundw
      case rel => exact ⟨2, by omega, rfl, by rw [← HPE.out]; rfl, ⟨blk_below BK.out hb_⟩, ⟨below_step HB.out hb_⟩⟩
      case measure => simp [intOf]
    · have HP := Aside0.mk (show (impl_showInstr.pre 7 nmv sa sb sc 2).size ≤ 51 by have h1 := HNS.out; have h2 := HSa.out; have h3 := HSb.out; have h4 := HSc.out; have hz : (⟨#[32, 114]⟩ : ByteArray).size = 2 := rfl; simp [impl_showInstr.pre, impl_showInstr.add, ByteArray.size_append] at *; omega)
      generalize hpre : impl_showInstr.pre 7 nmv sa sb sc 2 = p at HP ⊢
      have HPE := Aside0.mk hpre
      clear hpre
      have e1 : (9223372036854775807 < 2 + sc.size) = False := eq_false (by have := HSc.out; omega)
      have e2 : (9223372036854775807 < p.size + (2 + sc.size)) = False := eq_false (by have := HSc.out; have := HP.out; omega)
      go_wp2_with (go_at_call 17; refine (HDc.out _ (HT.out.below HB.out)).mono ?_; rintro e w2 ⟨rfl, hb_⟩)
      go_roundw
      case rel => exact ⟨3, by omega, rfl, by rw [← HPE.out]; rfl, ⟨blk_below BK.out hb_⟩, ⟨below_step HB.out hb_⟩⟩
      case measure => simp [intOf]
    · go_wp2
      go_ret
      exact ⟨rfl, HB.out⟩
theorem impl_showInstr.txt8 (n : Nat) (a0_1 a0_2 a0_3 a0_4 : Int) (hf : impl_isInstr.form (n : Int) = 8) : ((impl_showInstr.pre 8 (Tab.nm n) (impl_showInstr.num a0_1) (impl_showInstr.num a0_2) (impl_showInstr.num a0_3) 3 ++ ((⟨#[32]⟩ : ByteArray) ++ impl_showInstr.num a0_4))).data.toList = impl_showInstr.txt n a0_1 a0_2 a0_3 a0_4 := by
  unfold impl_showInstr.txt impl_showInstr.pre impl_showInstr.add impl_showInstr.reg
  rw [hf]
  simp [impl_showInstr.num, Tab.nm, ByteArray.data_append]
set_option maxHeartbeats 8000000 in
set_option maxRecDepth 100000 in
theorem impl_showInstr.form8 (n : Nat) (a0_1 a0_2 a0_3 a0_4 : Int) (w : World) (HT : Aside0 (Tab.TabsOD w)) (HLT : Hid (n < 33)) (HF : Hid (impl_isInstr.form (n : Int) = 8)) (HO : Hid (impl_showInstr.ok n a0_1 a0_2 a0_3 a0_4)) :
    Calls Tryd.prog 47 #[.agg #[.int .i64 (n : Int), .int .i64 a0_1, .int .i64 a0_2, .int .i64 a0_3, .int .i64 a0_4]] w fun e w' => (e = .returned (.string ((impl_showInstr.pre 8 (Tab.nm n) (impl_showInstr.num a0_1) (impl_showInstr.num a0_2) (impl_showInstr.num a0_3) 3 ++ ((⟨#[32]⟩ : ByteArray) ++ impl_showInstr.num a0_4))))) ∧ Below w.heap.size w w' := by
  have hu := Tryd.underlying29
  have HFC := fun W => impl_formOf.calls 8 (n : Int) 8 W (by rw [impl_isInstr.form_eq, HF.out])
  have i0 : ∀ w, (Instr.index 82 (.agg #[.int .i64 a0_1, .int .i64 a0_2, .int .i64 a0_3]) (.int .i64 0)).run Tryd.prog w = .ok (.int .i64 a0_1) w := fun _ => by kernel_rfl
  have i1 : ∀ w, (Instr.index 82 (.agg #[.int .i64 a0_1, .int .i64 a0_2, .int .i64 a0_3]) (.int .i64 1)).run Tryd.prog w = .ok (.int .i64 a0_2) w := fun _ => by kernel_rfl
  have i2 : ∀ w, (Instr.index 82 (.agg #[.int .i64 a0_1, .int .i64 a0_2, .int .i64 a0_3]) (.int .i64 2)).run Tryd.prog w = .ok (.int .i64 a0_3) w := fun _ => by kernel_rfl
  have b2 : Go.bits .and .i64 2 1 = 0 := by decide +kernel
  have b4 : Go.bits .and .i64 4 1 = 0 := by decide +kernel
  have b8 : Go.bits .and .i64 8 1 = 0 := by decide +kernel
  have b8_ : Go.bits .and .i64 8 8 = 8 := by decide +kernel
  have HNS := Aside0.mk (impl_showInstr.nm_size ⟨n, HLT.out⟩)
  have HX := Aside0.mk (HT.out.o n HLT.out)
  have HLN := Aside0.mk HLT.out
  generalize Tab.nm n = nmv at *
  have HSa := Aside0.mk (impl_showInstr.num_size a0_1 HO.out.2.1)
  have HDa := Lib.hid (fun W (ht : Tab.TabsOD W) => impl_showInstr.dec a0_1 W ht HO.out.2.1)
  generalize impl_showInstr.num a0_1 = sa at *
  have HSb := Aside0.mk (impl_showInstr.num_size a0_2 HO.out.2.2.1)
  have HDb := Lib.hid (fun W (ht : Tab.TabsOD W) => impl_showInstr.dec a0_2 W ht HO.out.2.2.1)
  generalize impl_showInstr.num a0_2 = sb at *
  have HSc := Aside0.mk (impl_showInstr.num_size a0_3 HO.out.2.2.2.1)
  have HDc := Lib.hid (fun W (ht : Tab.TabsOD W) => impl_showInstr.dec a0_3 W ht HO.out.2.2.2.1)
  generalize impl_showInstr.num a0_3 = sc at *
  have HSi := Aside0.mk (impl_showInstr.num_size a0_4 HO.out.2.2.2.2)
  have HDi := Lib.hid (fun W (ht : Tab.TabsOD W) => impl_showInstr.dec a0_4 W ht HO.out.2.2.2.2)
  generalize impl_showInstr.num a0_4 = si at *
  have c1 : decide (0 ≤ (n : Int)) = true := by simp
  have c2 : decide ((n : Int) < 33) = true := by have := HLT.out; simp; omega
  have c3 : decide (n < 33) = true := by have := HLT.out; simp; omega
  have c4 : ((n : Int) < 33) = True := eq_true (by have := HLT.out; omega)
  have c5 : (33 ≤ (n : Int)) = False := eq_false (by have := HLT.out; omega)
  have HB0 := Aside0.mk (Below.refl w.heap.size w)
  go_enter Tryd.func47, Tryd.ntmps47
  go_wp2_with (first | ((with_reducible refine gate_dst (N := 1) rfl ?_); refine box_event ?hg (N := 1) ?hd (cs := #[.int .i64 (n : Int), .int .i64 a0_1, .int .i64 a0_2, .int .i64 a0_3, .int .i64 a0_4]) (t := 29) ?hr ?_; (case hd => rfl); (case hg => rfl); (case hr => first | (go_simp; done) | (go_simp; rfl)); intro g1 hg w1 hbox hb; revert hbox hb hg))
  intro hg1 hb1 hB1
  have BK := Aside0.mk hb1
  have HB := Aside0.mk (below_step HB0.out hB1)
  clear hg1 hb1 hB1 HB0
  have q0 : w1.cell? ⟨g1, 0, none⟩ = some (.int .i64 (n : Int)) := (blk_cell BK.out 0).trans rfl
  have q1 : w1.cell? ⟨g1, 1, none⟩ = some (.int .i64 a0_1) := (blk_cell BK.out 1).trans rfl
  have q2 : w1.cell? ⟨g1, 2, none⟩ = some (.int .i64 a0_2) := (blk_cell BK.out 2).trans rfl
  have q3 : w1.cell? ⟨g1, 3, none⟩ = some (.int .i64 a0_3) := (blk_cell BK.out 3).trans rfl
  have q4 : w1.cell? ⟨g1, 4, none⟩ = some (.int .i64 a0_4) := (blk_cell BK.out 4).trans rfl
  have hx : w1.cell? ⟨0, n, none⟩ = some (.string nmv) := (HB.out.cell (p := ⟨0, n, none⟩) HT.out.o.lt).trans HX.out
  go_wp2_with (go_at_call 62; refine (HFC _).mono ?_; rintro e w' ⟨rfl, m, rfl⟩)
  clear q0 q1 q2 q3 q4 hx c1 c2 c3 c4 c5
  go_loopw [3, 21] (fun s i wr => ∃ k : Nat, k ≤ 3 ∧ i = .int .i64 k ∧ s = .string (impl_showInstr.pre 8 nmv sa sb sc k) ∧ Aside0 (wr.heap[g1]? = some (.cells #[.int .i64 (n : Int), .int .i64 a0_1, .int .i64 a0_2, .int .i64 a0_3, .int .i64 a0_4] 29 (0, 0))) ∧ Aside0 (Below w.heap.size w wr)) (fun _ i _ => 3 - (intOf i).toNat)
  case atStart => exact ⟨0, by omega, rfl, rfl, ⟨blk_drewN BK.out _⟩, ⟨pw_below_drewN HB.out _⟩⟩
  case round =>
    clear BK HB
    obtain ⟨k, hk, rfl, rfl, BK, HB⟩ := hrel
    rcases (show k = 0 ∨ k = 1 ∨ k = 2 ∨ k = 3 by omega) with rfl | rfl | rfl | rfl
    · go_wp2
      go_roundw
      case rel => exact ⟨1, by omega, rfl, rfl, ⟨BK.out⟩, ⟨HB.out⟩⟩
      case measure => simp [intOf]
    · go_wp2
      go_roundw
      case rel => exact ⟨2, by omega, rfl, rfl, ⟨BK.out⟩, ⟨HB.out⟩⟩
      case measure => simp [intOf]
    · go_wp2
      go_roundw
      case rel => exact ⟨3, by omega, rfl, rfl, ⟨BK.out⟩, ⟨HB.out⟩⟩
      case measure => simp [intOf]
    · have HP := Aside0.mk (show (impl_showInstr.pre 8 nmv sa sb sc 3).size ≤ 74 by have h1 := HNS.out; have h2 := HSa.out; have h3 := HSb.out; have h4 := HSc.out; have hz : (⟨#[32, 114]⟩ : ByteArray).size = 2 := rfl; simp [impl_showInstr.pre, impl_showInstr.add, ByteArray.size_append] at *; omega)
      generalize hpre : impl_showInstr.pre 8 nmv sa sb sc 3 = p at HP ⊢
      have HPE := Aside0.mk hpre
      clear hpre
      have e1 : (9223372036854775807 < 1 + si.size) = False := eq_false (by have := HSi.out; omega)
      have e2 : (9223372036854775807 < p.size + (1 + si.size)) = False := eq_false (by have := HSi.out; have := HP.out; omega)
      have q4 : wr.cell? ⟨g1, 4, none⟩ = some (.int .i64 a0_4) := (blk_cell BK.out 4).trans rfl
      go_wp2_with (go_at_call 17; refine (HDi.out _ (HT.out.below HB.out)).mono ?_; rintro e w2 ⟨rfl, hb_⟩)
      go_ret
      exact ⟨by rw [HPE.out]; rfl, below_step HB.out hb_⟩
theorem impl_showInstr.txt9 (n : Nat) (a0_1 a0_2 a0_3 a0_4 : Int) (hf : impl_isInstr.form (n : Int) = 9) : ((impl_showInstr.pre 9 (Tab.nm n) (impl_showInstr.num a0_1) (impl_showInstr.num a0_2) (impl_showInstr.num a0_3) 3 ++ ((⟨#[32]⟩ : ByteArray) ++ impl_showInstr.num a0_4))).data.toList = impl_showInstr.txt n a0_1 a0_2 a0_3 a0_4 := by
  unfold impl_showInstr.txt impl_showInstr.pre impl_showInstr.add impl_showInstr.reg
  rw [hf]
  simp [impl_showInstr.num, Tab.nm, ByteArray.data_append]
set_option maxHeartbeats 8000000 in
set_option maxRecDepth 100000 in
theorem impl_showInstr.form9 (n : Nat) (a0_1 a0_2 a0_3 a0_4 : Int) (w : World) (HT : Aside0 (Tab.TabsOD w)) (HLT : Hid (n < 33)) (HF : Hid (impl_isInstr.form (n : Int) = 9)) (HO : Hid (impl_showInstr.ok n a0_1 a0_2 a0_3 a0_4)) :
    Calls Tryd.prog 47 #[.agg #[.int .i64 (n : Int), .int .i64 a0_1, .int .i64 a0_2, .int .i64 a0_3, .int .i64 a0_4]] w fun e w' => (e = .returned (.string ((impl_showInstr.pre 9 (Tab.nm n) (impl_showInstr.num a0_1) (impl_showInstr.num a0_2) (impl_showInstr.num a0_3) 3 ++ ((⟨#[32]⟩ : ByteArray) ++ impl_showInstr.num a0_4))))) ∧ Below w.heap.size w w' := by
  have hu := Tryd.underlying29
  have HFC := fun W => impl_formOf.calls 8 (n : Int) 9 W (by rw [impl_isInstr.form_eq, HF.out])
  have i0 : ∀ w, (Instr.index 82 (.agg #[.int .i64 a0_1, .int .i64 a0_2, .int .i64 a0_3]) (.int .i64 0)).run Tryd.prog w = .ok (.int .i64 a0_1) w := fun _ => by kernel_rfl
  have i1 : ∀ w, (Instr.index 82 (.agg #[.int .i64 a0_1, .int .i64 a0_2, .int .i64 a0_3]) (.int .i64 1)).run Tryd.prog w = .ok (.int .i64 a0_2) w := fun _ => by kernel_rfl
  have i2 : ∀ w, (Instr.index 82 (.agg #[.int .i64 a0_1, .int .i64 a0_2, .int .i64 a0_3]) (.int .i64 2)).run Tryd.prog w = .ok (.int .i64 a0_3) w := fun _ => by kernel_rfl
  have b2 : Go.bits .and .i64 2 1 = 0 := by decide +kernel
  have b4 : Go.bits .and .i64 4 1 = 0 := by decide +kernel
  have b9 : Go.bits .and .i64 9 1 = 1 := by decide +kernel
  have b8_ : Go.bits .and .i64 9 8 = 8 := by decide +kernel
  have HNS := Aside0.mk (impl_showInstr.nm_size ⟨n, HLT.out⟩)
  have HX := Aside0.mk (HT.out.o n HLT.out)
  have HLN := Aside0.mk HLT.out
  generalize Tab.nm n = nmv at *
  have HSa := Aside0.mk (impl_showInstr.num_size a0_1 HO.out.2.1)
  have HDa := Lib.hid (fun W (ht : Tab.TabsOD W) => impl_showInstr.dec a0_1 W ht HO.out.2.1)
  generalize impl_showInstr.num a0_1 = sa at *
  have HSb := Aside0.mk (impl_showInstr.num_size a0_2 HO.out.2.2.1)
  have HDb := Lib.hid (fun W (ht : Tab.TabsOD W) => impl_showInstr.dec a0_2 W ht HO.out.2.2.1)
  generalize impl_showInstr.num a0_2 = sb at *
  have HSc := Aside0.mk (impl_showInstr.num_size a0_3 HO.out.2.2.2.1)
  have HDc := Lib.hid (fun W (ht : Tab.TabsOD W) => impl_showInstr.dec a0_3 W ht HO.out.2.2.2.1)
  generalize impl_showInstr.num a0_3 = sc at *
  have HSi := Aside0.mk (impl_showInstr.num_size a0_4 HO.out.2.2.2.2)
  have HDi := Lib.hid (fun W (ht : Tab.TabsOD W) => impl_showInstr.dec a0_4 W ht HO.out.2.2.2.2)
  generalize impl_showInstr.num a0_4 = si at *
  have c1 : decide (0 ≤ (n : Int)) = true := by simp
  have c2 : decide ((n : Int) < 33) = true := by have := HLT.out; simp; omega
  have c3 : decide (n < 33) = true := by have := HLT.out; simp; omega
  have c4 : ((n : Int) < 33) = True := eq_true (by have := HLT.out; omega)
  have c5 : (33 ≤ (n : Int)) = False := eq_false (by have := HLT.out; omega)
  have HB0 := Aside0.mk (Below.refl w.heap.size w)
  go_enter Tryd.func47, Tryd.ntmps47
  go_wp2_with (first | ((with_reducible refine gate_dst (N := 1) rfl ?_); refine box_event ?hg (N := 1) ?hd (cs := #[.int .i64 (n : Int), .int .i64 a0_1, .int .i64 a0_2, .int .i64 a0_3, .int .i64 a0_4]) (t := 29) ?hr ?_; (case hd => rfl); (case hg => rfl); (case hr => first | (go_simp; done) | (go_simp; rfl)); intro g1 hg w1 hbox hb; revert hbox hb hg))
  intro hg1 hb1 hB1
  have BK := Aside0.mk hb1
  have HB := Aside0.mk (below_step HB0.out hB1)
  clear hg1 hb1 hB1 HB0
  have q0 : w1.cell? ⟨g1, 0, none⟩ = some (.int .i64 (n : Int)) := (blk_cell BK.out 0).trans rfl
  have q1 : w1.cell? ⟨g1, 1, none⟩ = some (.int .i64 a0_1) := (blk_cell BK.out 1).trans rfl
  have q2 : w1.cell? ⟨g1, 2, none⟩ = some (.int .i64 a0_2) := (blk_cell BK.out 2).trans rfl
  have q3 : w1.cell? ⟨g1, 3, none⟩ = some (.int .i64 a0_3) := (blk_cell BK.out 3).trans rfl
  have q4 : w1.cell? ⟨g1, 4, none⟩ = some (.int .i64 a0_4) := (blk_cell BK.out 4).trans rfl
  have hx : w1.cell? ⟨0, n, none⟩ = some (.string nmv) := (HB.out.cell (p := ⟨0, n, none⟩) HT.out.o.lt).trans HX.out
  go_wp2_with (go_at_call 62; refine (HFC _).mono ?_; rintro e w' ⟨rfl, m, rfl⟩)
  clear q0 q1 q2 q3 q4 hx c1 c2 c3 c4 c5
  go_loopw [3, 21] (fun s i wr => ∃ k : Nat, k ≤ 3 ∧ i = .int .i64 k ∧ s = .string (impl_showInstr.pre 9 nmv sa sb sc k) ∧ Aside0 (wr.heap[g1]? = some (.cells #[.int .i64 (n : Int), .int .i64 a0_1, .int .i64 a0_2, .int .i64 a0_3, .int .i64 a0_4] 29 (0, 0))) ∧ Aside0 (Below w.heap.size w wr)) (fun _ i _ => 3 - (intOf i).toNat)
  case atStart => exact ⟨0, by omega, rfl, rfl, ⟨blk_drewN BK.out _⟩, ⟨pw_below_drewN HB.out _⟩⟩
  case round =>
    clear BK HB
    obtain ⟨k, hk, rfl, rfl, BK, HB⟩ := hrel
    rcases (show k = 0 ∨ k = 1 ∨ k = 2 ∨ k = 3 by omega) with rfl | rfl | rfl | rfl
    · have HP := Aside0.mk (show (impl_showInstr.pre 9 nmv sa sb sc 0).size ≤ 5 by have h1 := HNS.out; have h2 := HSa.out; have h3 := HSb.out; have h4 := HSc.out; have hz : (⟨#[32, 114]⟩ : ByteArray).size = 2 := rfl; simp [impl_showInstr.pre, impl_showInstr.add, ByteArray.size_append] at *; omega)
      generalize hpre : impl_showInstr.pre 9 nmv sa sb sc 0 = p at HP ⊢
      have HPE := Aside0.mk hpre
      clear hpre
      have e1 : (9223372036854775807 < 2 + sa.size) = False := eq_false (by have := HSa.out; omega)
      have e2 : (9223372036854775807 < p.size + (2 + sa.size)) = False := eq_false (by have := HSa.out; have := HP.out; omega)
      go_wp2_with (go_at_call 17; refine (HDa.out _ (HT.out.below HB.out)).mono ?_; rintro e w2 ⟨rfl, hb_⟩)
      go_roundw
      case rel => exact ⟨1, by omega, rfl, by rw [← HPE.out]; rfl, ⟨blk_below BK.out hb_⟩, ⟨below_step HB.out hb_⟩⟩
      case measure => simp [intOf]
    · go_wp2
      go_roundw
      case rel => exact ⟨2, by omega, rfl, rfl, ⟨BK.out⟩, ⟨HB.out⟩⟩
      case measure => simp [intOf]
    · go_wp2
      go_roundw
      case rel => exact ⟨3, by omega, rfl, rfl, ⟨BK.out⟩, ⟨HB.out⟩⟩
      case measure => simp [intOf]
    · have HP := Aside0.mk (show (impl_showInstr.pre 9 nmv sa sb sc 3).size ≤ 74 by have h1 := HNS.out; have h2 := HSa.out; have h3 := HSb.out; have h4 := HSc.out; have hz : (⟨#[32, 114]⟩ : ByteArray).size = 2 := rfl; simp [impl_showInstr.pre, impl_showInstr.add, ByteArray.size_append] at *; omega)
      generalize hpre : impl_showInstr.pre 9 nmv sa sb sc 3 = p at HP ⊢
      have HPE := Aside0.mk hpre
      clear hpre
      have e1 : (9223372036854775807 < 1 + si.size) = False := eq_false (by have := HSi.out; omega)
      have e2 : (9223372036854775807 < p.size + (1 + si.size)) = False := eq_false (by have := HSi.out; have := HP.out; omega)
      have q4 : wr.cell? ⟨g1, 4, none⟩ = some (.int .i64 a0_4) := (blk_cell BK.out 4).trans rfl
      go_wp2_with (go_at_call 17; refine (HDi.out _ (HT.out.below HB.out)).mono ?_; rintro e w2 ⟨rfl, hb_⟩)
      go_ret
      exact ⟨by rw [HPE.out]; rfl, below_step HB.out hb_⟩
theorem impl_showInstr.txt10 (n : Nat) (a0_1 a0_2 a0_3 a0_4 : Int) (hf : impl_isInstr.form (n : Int) = 10) : ((impl_showInstr.pre 10 (Tab.nm n) (impl_showInstr.num a0_1) (impl_showInstr.num a0_2) (impl_showInstr.num a0_3) 3 ++ ((⟨#[32]⟩ : ByteArray) ++ impl_showInstr.num a0_4))).data.toList = impl_showInstr.txt n a0_1 a0_2 a0_3 a0_4 := by
  unfold impl_showInstr.txt impl_showInstr.pre impl_showInstr.add impl_showInstr.reg
  rw [hf]
  simp [impl_showInstr.num, Tab.nm, ByteArray.data_append]
set_option maxHeartbeats 8000000 in
set_option maxRecDepth 100000 in
theorem impl_showInstr.form10 (n : Nat) (a0_1 a0_2 a0_3 a0_4 : Int) (w : World) (HT : Aside0 (Tab.TabsOD w)) (HLT : Hid (n < 33)) (HF : Hid (impl_isInstr.form (n : Int) = 10)) (HO : Hid (impl_showInstr.ok n a0_1 a0_2 a0_3 a0_4)) :
    Calls Tryd.prog 47 #[.agg #[.int .i64 (n : Int), .int .i64 a0_1, .int .i64 a0_2, .int .i64 a0_3, .int .i64 a0_4]] w fun e w' => (e = .returned (.string ((impl_showInstr.pre 10 (Tab.nm n) (impl_showInstr.num a0_1) (impl_showInstr.num a0_2) (impl_showInstr.num a0_3) 3 ++ ((⟨#[32]⟩ : ByteArray) ++ impl_showInstr.num a0_4))))) ∧ Below w.heap.size w w' := by
  have hu := Tryd.underlying29
  have HFC := fun W => impl_formOf.calls 8 (n : Int) 10 W (by rw [impl_isInstr.form_eq, HF.out])
  have i0 : ∀ w, (Instr.index 82 (.agg #[.int .i64 a0_1, .int .i64 a0_2, .int .i64 a0_3]) (.int .i64 0)).run Tryd.prog w = .ok (.int .i64 a0_1) w := fun _ => by kernel_rfl
  have i1 : ∀ w, (Instr.index 82 (.agg #[.int .i64 a0_1, .int .i64 a0_2, .int .i64 a0_3]) (.int .i64 1)).run Tryd.prog w = .ok (.int .i64 a0_2) w := fun _ => by kernel_rfl
  have i2 : ∀ w, (Instr.index 82 (.agg #[.int .i64 a0_1, .int .i64 a0_2, .int .i64 a0_3]) (.int .i64 2)).run Tryd.prog w = .ok (.int .i64 a0_3) w := fun _ => by kernel_rfl
  have b2 : Go.bits .and .i64 2 1 = 0 := by decide +kernel
  have b5 : Go.bits .and .i64 5 1 = 1 := by decide +kernel
  have b10 : Go.bits .and .i64 10 1 = 0 := by decide +kernel
  have b8_ : Go.bits .and .i64 10 8 = 8 := by decide +kernel
  have HNS := Aside0.mk (impl_showInstr.nm_size ⟨n, HLT.out⟩)
  have HX := Aside0.mk (HT.out.o n HLT.out)
  have HLN := Aside0.mk HLT.out
  generalize Tab.nm n = nmv at *
  have HSa := Aside0.mk (impl_showInstr.num_size a0_1 HO.out.2.1)
  have HDa := Lib.hid (fun W (ht : Tab.TabsOD W) => impl_showInstr.dec a0_1 W ht HO.out.2.1)
  generalize impl_showInstr.num a0_1 = sa at *
  have HSb := Aside0.mk (impl_showInstr.num_size a0_2 HO.out.2.2.1)
  have HDb := Lib.hid (fun W (ht : Tab.TabsOD W) => impl_showInstr.dec a0_2 W ht HO.out.2.2.1)
  generalize impl_showInstr.num a0_2 = sb at *
  have HSc := Aside0.mk (impl_showInstr.num_size a0_3 HO.out.2.2.2.1)
  have HDc := Lib.hid (fun W (ht : Tab.TabsOD W) => impl_showInstr.dec a0_3 W ht HO.out.2.2.2.1)
  generalize impl_showInstr.num a0_3 = sc at *
  have HSi := Aside0.mk (impl_showInstr.num_size a0_4 HO.out.2.2.2.2)
  have HDi := Lib.hid (fun W (ht : Tab.TabsOD W) => impl_showInstr.dec a0_4 W ht HO.out.2.2.2.2)
  generalize impl_showInstr.num a0_4 = si at *
  have c1 : decide (0 ≤ (n : Int)) = true := by simp
  have c2 : decide ((n : Int) < 33) = true := by have := HLT.out; simp; omega
  have c3 : decide (n < 33) = true := by have := HLT.out; simp; omega
  have c4 : ((n : Int) < 33) = True := eq_true (by have := HLT.out; omega)
  have c5 : (33 ≤ (n : Int)) = False := eq_false (by have := HLT.out; omega)
  have HB0 := Aside0.mk (Below.refl w.heap.size w)
  go_enter Tryd.func47, Tryd.ntmps47
  go_wp2_with (first | ((with_reducible refine gate_dst (N := 1) rfl ?_); refine box_event ?hg (N := 1) ?hd (cs := #[.int .i64 (n : Int), .int .i64 a0_1, .int .i64 a0_2, .int .i64 a0_3, .int .i64 a0_4]) (t := 29) ?hr ?_; (case hd => rfl); (case hg => rfl); (case hr => first | (go_simp; done) | (go_simp; rfl)); intro g1 hg w1 hbox hb; revert hbox hb hg))
  intro hg1 hb1 hB1
  have BK := Aside0.mk hb1
  have HB := Aside0.mk (below_step HB0.out hB1)
  clear hg1 hb1 hB1 HB0
  have q0 : w1.cell? ⟨g1, 0, none⟩ = some (.int .i64 (n : Int)) := (blk_cell BK.out 0).trans rfl
  have q1 : w1.cell? ⟨g1, 1, none⟩ = some (.int .i64 a0_1) := (blk_cell BK.out 1).trans rfl
  have q2 : w1.cell? ⟨g1, 2, none⟩ = some (.int .i64 a0_2) := (blk_cell BK.out 2).trans rfl
  have q3 : w1.cell? ⟨g1, 3, none⟩ = some (.int .i64 a0_3) := (blk_cell BK.out 3).trans rfl
  have q4 : w1.cell? ⟨g1, 4, none⟩ = some (.int .i64 a0_4) := (blk_cell BK.out 4).trans rfl
  have hx : w1.cell? ⟨0, n, none⟩ = some (.string nmv) := (HB.out.cell (p := ⟨0, n, none⟩) HT.out.o.lt).trans HX.out
  go_wp2_with (go_at_call 62; refine (HFC _).mono ?_; rintro e w' ⟨rfl, m, rfl⟩)
  clear q0 q1 q2 q3 q4 hx c1 c2 c3 c4 c5
  go_loopw [3, 21] (fun s i wr => ∃ k : Nat, k ≤ 3 ∧ i = .int .i64 k ∧ s = .string (impl_showInstr.pre 10 nmv sa sb sc k) ∧ Aside0 (wr.heap[g1]? = some (.cells #[.int .i64 (n : Int), .int .i64 a0_1, .int .i64 a0_2, .int .i64 a0_3, .int .i64 a0_4] 29 (0, 0))) ∧ Aside0 (Below w.heap.size w wr)) (fun _ i _ => 3 - (intOf i).toNat)
  case atStart => exact ⟨0, by omega, rfl, rfl, ⟨blk_drewN BK.out _⟩, ⟨pw_below_drewN HB.out _⟩⟩
  case round =>
    clear BK HB
    obtain ⟨k, hk, rfl, rfl, BK, HB⟩ := hrel
    rcases (show k = 0 ∨ k = 1 ∨ k = 2 ∨ k = 3 by omega) with rfl | rfl | rfl | rfl
    · go_wp2
      go_roundw
      case rel => exact ⟨1, by omega, rfl, rfl, ⟨BK.out⟩, ⟨HB.out⟩⟩
      case measure => simp [intOf]
    · have HP := Aside0.mk (show (impl_showInstr.pre 10 nmv sa sb sc 1).size ≤ 28 by have h1 := HNS.out; have h2 := HSa.out; have h3 := HSb.out; have h4 := HSc.out; have hz : (⟨#[32, 114]⟩ : ByteArray).size = 2 := rfl; simp [impl_showInstr.pre, impl_showInstr.add, ByteArray.size_append] at *; omega)
      generalize hpre : impl_showInstr.pre 10 nmv sa sb sc 1 = p at HP ⊢
      have HPE := Aside0.mk hpre
      clear hpre
      have e1 : (9223372036854775807 < 2 + sb.size) = False := eq_false (by have := HSb.out; omega)
      have e2 : (9223372036854775807 < p.size + (2 + sb.size)) = False := eq_false (by have := HSb.out; have := HP.out; omega)
      go_wp2_with (go_at_call 17; refine (HDb.out _ (HT.out.below HB.out)).mono ?_; rintro e w2 ⟨rfl, hb_⟩)
      go_roundw
      case rel => exact ⟨2, by omega, rfl, by rw [← HPE.out]; rfl, ⟨blk_below BK.out hb_⟩, ⟨below_step HB.out hb_⟩⟩
      case measure => simp [intOf]
    · go_wp2
      go_roundw
      case rel => exact ⟨3, by omega, rfl, rfl, ⟨BK.out⟩, ⟨HB.out⟩⟩
      case measure => simp [intOf]
    · have HP := Aside0.mk (show (impl_showInstr.pre 10 nmv sa sb sc 3).size ≤ 74 by have h1 := HNS.out; have h2 := HSa.out; have h3 := HSb.out; have h4 := HSc.out; have hz : (⟨#[32, 114]⟩ : ByteArray).size = 2 := rfl; simp [impl_showInstr.pre, impl_showInstr.add, ByteArray.size_append] at *; omega)
      generalize hpre : impl_showInstr.pre 10 nmv sa sb sc 3 = p at HP ⊢
      have HPE := Aside0.mk hpre
      clear hpre
      have e1 : (9223372036854775807 < 1 + si.size) = False := eq_false (by have := HSi.out; omega)
      have e2 : (9223372036854775807 < p.size + (1 + si.size)) = False := eq_false (by have := HSi.out; have := HP.out; omega)
      have q4 : wr.cell? ⟨g1, 4, none⟩ = some (.int .i64 a0_4) := (blk_cell BK.out 4).trans rfl
      go_wp2_with (go_at_call 17; refine (HDi.out _ (HT.out.below HB.out)).mono ?_; rintro e w2 ⟨rfl, hb_⟩)
      go_ret
      exact ⟨by rw [HPE.out]; rfl, below_step HB.out hb_⟩
theorem impl_showInstr.txt11 (n : Nat) (a0_1 a0_2 a0_3 a0_4 : Int) (hf : impl_isInstr.form (n : Int) = 11) : ((impl_showInstr.pre 11 (Tab.nm n) (impl_showInstr.num a0_1) (impl_showInstr.num a0_2) (impl_showInstr.num a0_3) 3 ++ ((⟨#[32]⟩ : ByteArray) ++ impl_showInstr.num a0_4))).data.toList = impl_showInstr.txt n a0_1 a0_2 a0_3 a0_4 := by
  unfold impl_showInstr.txt impl_showInstr.pre impl_showInstr.add impl_showInstr.reg
  rw [hf]
  simp [impl_showInstr.num, Tab.nm, ByteArray.data_append]
set_option maxHeartbeats 8000000 in
set_option maxRecDepth 100000 in
theorem impl_showInstr.form11 (n : Nat) (a0_1 a0_2 a0_3 a0_4 : Int) (w : World) (HT : Aside0 (Tab.TabsOD w)) (HLT : Hid (n < 33)) (HF : Hid (impl_isInstr.form (n : Int) = 11)) (HO : Hid (impl_showInstr.ok n a0_1 a0_2 a0_3 a0_4)) :
    Calls Tryd.prog 47 #[.agg #[.int .i64 (n : Int), .int .i64 a0_1, .int .i64 a0_2, .int .i64 a0_3, .int .i64 a0_4]] w fun e w' => (e = .returned (.string ((impl_showInstr.pre 11 (Tab.nm n) (impl_showInstr.num a0_1) (impl_showInstr.num a0_2) (impl_showInstr.num a0_3) 3 ++ ((⟨#[32]⟩ : ByteArray) ++ impl_showInstr.num a0_4))))) ∧ Below w.heap.size w w' := by
  have hu := Tryd.underlying29
  have HFC := fun W => impl_formOf.calls 8 (n : Int) 11 W (by rw [impl_isInstr.form_eq, HF.out])
  have i0 : ∀ w, (Instr.index 82 (.agg #[.int .i64 a0_1, .int .i64 a0_2, .int .i64 a0_3]) (.int .i64 0)).run Tryd.prog w = .ok (.int .i64 a0_1) w := fun _ => by kernel_rfl
  have i1 : ∀ w, (Instr.index 82 (.agg #[.int .i64 a0_1, .int .i64 a0_2, .int .i64 a0_3]) (.int .i64 1)).run Tryd.prog w = .ok (.int .i64 a0_2) w := fun _ => by kernel_rfl
  have i2 : ∀ w, (Instr.index 82 (.agg #[.int .i64 a0_1, .int .i64 a0_2, .int .i64 a0_3]) (.int .i64 2)).run Tryd.prog w = .ok (.int .i64 a0_3) w := fun _ => by kernel_rfl
  have b2 : Go.bits .and .i64 2 1 = 0 := by decide +kernel
  have b5 : Go.bits .and .i64 5 1 = 1 := by decide +kernel
  have b11 : Go.bits .and .i64 11 1 = 1 := by decide +kernel
  have b8_ : Go.bits .and .i64 11 8 = 8 := by decide +kernel
  have HNS := Aside0.mk (impl_showInstr.nm_size ⟨n, HLT.out⟩)
  have HX := Aside0.mk (HT.out.o n HLT.out)
  have HLN := Aside0.mk HLT.out
  generalize Tab.nm n = nmv at *
  have HSa := Aside0.mk (impl_showInstr.num_size a0_1 HO.out.2.1)
  have HDa := Lib.hid (fun W (ht : Tab.TabsOD W) => impl_showInstr.dec a0_1 W ht HO.out.2.1)
  generalize impl_showInstr.num a0_1 = sa at *
  have HSb := Aside0.mk (impl_showInstr.num_size a0_2 HO.out.2.2.1)
  have HDb := Lib.hid (fun W (ht : Tab.TabsOD W) => impl_showInstr.dec a0_2 W ht HO.out.2.2.1)
  generalize impl_showInstr.num a0_2 = sb at *
  have HSc := Aside0.mk (impl_showInstr.num_size a0_3 HO.out.2.2.2.1)
  have HDc := Lib.hid (fun W (ht : Tab.TabsOD W) => impl_showInstr.dec a0_3 W ht HO.out.2.2.2.1)
  generalize impl_showInstr.num a0_3 = sc at *
  have HSi := Aside0.mk (impl_showInstr.num_size a0_4 HO.out.2.2.2.2)
  have HDi := Lib.hid (fun W (ht : Tab.TabsOD W) => impl_showInstr.dec a0_4 W ht HO.out.2.2.2.2)
  generalize impl_showInstr.num a0_4 = si at *
  have c1 : decide (0 ≤ (n : Int)) = true := by simp
  have c2 : decide ((n : Int) < 33) = true := by have := HLT.out; simp; omega
  have c3 : decide (n < 33) = true := by have := HLT.out; simp; omega
  have c4 : ((n : Int) < 33) = True := eq_true (by have := HLT.out; omega)
  have c5 : (33 ≤ (n : Int)) = False := eq_false (by have := HLT.out; omega)
  have HB0 := Aside0.mk (Below.refl w.heap.size w)
  go_enter Tryd.func47, Tryd.ntmps47
  go_wp2_with (first | ((with_reducible refine gate_dst (N := 1) rfl ?_); refine box_event ?hg (N := 1) ?hd (cs := #[.int .i64 (n : Int), .int .i64 a0_1, .int .i64 a0_2, .int .i64 a0_3, .int .i64 a0_4]) (t := 29) ?hr ?_; (case hd => rfl); (case hg => rfl); (case hr => first | (go_simp; done) | (go_simp; rfl)); intro g1 hg w1 hbox hb; revert hbox hb hg))
  intro hg1 hb1 hB1
  have BK := Aside0.mk hb1
  have HB := Aside0.mk (below_step HB0.out hB1)
  clear hg1 hb1 hB1 HB0
  have q0 : w1.cell? ⟨g1, 0, none⟩ = some (.int .i64 (n : Int)) := (blk_cell BK.out 0).trans rfl
  have q1 : w1.cell? ⟨g1, 1, none⟩ = some (.int .i64 a0_1) := (blk_cell BK.out 1).trans rfl
  have q2 : w1.cell? ⟨g1, 2, none⟩ = some (.int .i64 a0_2) := (blk_cell BK.out 2).trans rfl
  have q3 : w1.cell? ⟨g1, 3, none⟩ = some (.int .i64 a0_3) := (blk_cell BK.out 3).trans rfl
  have q4 : w1.cell? ⟨g1, 4, none⟩ = some (.int .i64 a0_4) := (blk_cell BK.out 4).trans rfl
  have hx : w1.cell? ⟨0, n, none⟩ = some (.string nmv) := (HB.out.cell (p := ⟨0, n, none⟩) HT.out.o.lt).trans HX.out
  go_wp2_with (go_at_call 62; refine (HFC _).mono ?_; rintro e w' ⟨rfl, m, rfl⟩)
  clear q0 q1 q2 q3 q4 hx c1 c2 c3 c4 c5
  go_loopw [3, 21] (fun s i wr => ∃ k : Nat, k ≤ 3 ∧ i = .int .i64 k ∧ s = .string (impl_showInstr.pre 11 nmv sa sb sc k) ∧ Aside0 (wr.heap[g1]? = some (.cells #[.int .i64 (n : Int), .int .i64 a0_1, .int .i64 a0_2, .int .i64 a0_3, .int .i64 a0_4] 29 (0, 0))) ∧ Aside0 (Below w.heap.size w wr)) (fun _ i _ => 3 - (intOf i).toNat)
  case atStart => exact ⟨0, by omega, rfl, rfl, ⟨blk_drewN BK.out _⟩, ⟨pw_below_drewN HB.out _⟩⟩
  case round =>
    clear BK HB
    obtain ⟨k, hk, rfl, rfl, BK, HB⟩ := hrel
    rcases (show k = 0 ∨ k = 1 ∨ k = 2 ∨ k = 3 by omega) with rfl | rfl | rfl | rfl
    · have HP := Aside0.mk (show (impl_showInstr.pre 11 nmv sa sb sc 0).size ≤ 5 by have h1 := HNS.out; have h2 := HSa.out; have h3 := HSb.out; have h4 := HSc.out; have hz : (⟨#[32, 114]⟩ : ByteArray).size = 2 := rfl; simp [impl_showInstr.pre, impl_showInstr.add, ByteArray.size_append] at *; omega)
      generalize hpre : impl_showInstr.pre 11 nmv sa sb sc 0 = p at HP ⊢
      have HPE := Aside0.mk hpre
      clear hpre
      have e1 : (9223372036854775807 < 2 + sa.size) = False := eq_false (by have := HSa.out; omega)
      have e2 : (9223372036854775807 < p.size + (2 + sa.size)) = False := eq_false (by have := HSa.out; have := HP.out; omega)
      go_wp2_with (go_at_call 17; refine (HDa.out _ (HT.out.below HB.out)).mono ?_; rintro e w2 ⟨rfl, hb_⟩)
      go_roundw
      case rel => exact ⟨1, by omega, rfl, by rw [← HPE.out]; rfl, ⟨blk_below BK.out hb_⟩, ⟨below_step HB.out hb_⟩⟩
      case measure => simp [intOf]
    · have HP := Aside0.mk (show (impl_showInstr.pre 11 nmv sa sb sc 1).size ≤ 28 by have h1 := HNS.out; have h2 := HSa.out; have h3 := HSb.out; have h4 := HSc.out; have hz : (⟨#[32, 114]⟩ : ByteArray).size = 2 := rfl; simp [impl_showInstr.pre, impl_showInstr.add, ByteArray.size_append] at *; omega)
      generalize hpre : impl_showInstr.pre 11 nmv sa sb sc 1 = p at HP ⊢
      have HPE := Aside0.mk hpre
      clear hpre
      have e1 : (9223372036854775807 < 2 + sb.size) = False := eq_false (by have := HSb.out; omega)
      have e2 : (9223372036854775807 < p.size + (2 + sb.size)) = False := eq_false (by have := HSb.out; have := HP.out; omega)
      go_wp2_with (go_at_call 17; refine (HDb.out _ (HT.out.below HB.out)).mono ?_; rintro e w2 ⟨rfl, hb_⟩)
      go_roundw
      case rel => exact ⟨2, by omega, rfl, by rw [← HPE.out]; rfl, ⟨blk_below BK.out hb_⟩, ⟨below_step HB.out hb_⟩⟩
      case measure => simp [intOf]
    · go_wp2
      go_roundw
      case rel => exact ⟨3, by omega, rfl, rfl, ⟨BK.out⟩, ⟨HB.out⟩⟩
      case measure => simp [intOf]
    · have HP := Aside0.mk (show (impl_showInstr.pre 11 nmv sa sb sc 3).size ≤ 74 by have h1 := HNS.out; have h2 := HSa.out; have h3 := HSb.out; have h4 := HSc.out; have hz : (⟨#[32, 114]⟩ : ByteArray).size = 2 := rfl; simp [impl_showInstr.pre, impl_showInstr.add, ByteArray.size_append] at *; omega)
      generalize hpre : impl_showInstr.pre 11 nmv sa sb sc 3 = p at HP ⊢
      have HPE := Aside0.mk hpre
      clear hpre
      have e1 : (9223372036854775807 < 1 + si.size) = False := eq_false (by have := HSi.out; omega)
      have e2 : (9223372036854775807 < p.size + (1 + si.size)) = False := eq_false (by have := HSi.out; have := HP.out; omega)
      have q4 : wr.cell? ⟨g1, 4, none⟩ = some (.int .i64 a0_4) := (blk_cell BK.out 4).trans rfl
      go_wp2_with (go_at_call 17; refine (HDi.out _ (HT.out.below HB.out)).mono ?_; rintro e w2 ⟨rfl, hb_⟩)
      go_ret
      exact ⟨by rw [HPE.out]; rfl, below_step HB.out hb_⟩
theorem impl_showInstr.calls (a0_0 : Int) (a0_1 : Int) (a0_2 : Int) (a0_3 : Int) (a0_4 : Int) (r : ByteArray) (w : World) (ht : Tab.TabsOD w) (h : impl_showInstr.f a0_0 a0_1 a0_2 a0_3 a0_4 = some r) :
    Calls Tryd.prog 47 #[.agg #[.int .i64 a0_0, .int .i64 a0_1, .int .i64 a0_2, .int .i64 a0_3, .int .i64 a0_4]] w fun e w' => e = .returned (.string r) ∧ Below w.heap.size w w' := by
  unfold impl_showInstr.f at h
  by_cases hok : impl_showInstr.ok a0_0 a0_1 a0_2 a0_3 a0_4
  · rw [if_pos hok] at h
    obtain rfl := Option.some.inj h
    obtain ⟨n, rfl⟩ := Int.eq_ofNat_of_zero_le hok.1.1
    have hn : n < 33 := by have := hok.1.2; omega
    have tx : ∀ x : ByteArray, x.data.toList = impl_showInstr.txt n a0_1 a0_2 a0_3 a0_4 → x = ⟨(impl_showInstr.txt n a0_1 a0_2 a0_3 a0_4).toArray⟩ := fun x hx => by rw [← hx]
    rcases impl_isInstr.forms n hok.1 with hf | hf | hf | hf | hf | hf | hf
    · rw [← tx _ (impl_showInstr.txt0 n a0_1 a0_2 a0_3 a0_4 hf)]; exact impl_showInstr.form0 n a0_1 a0_2 a0_3 a0_4 w ⟨ht⟩ (Lib.hid hn) (Lib.hid hf) (Lib.hid hok)
    · rw [← tx _ (impl_showInstr.txt1 n a0_1 a0_2 a0_3 a0_4 hf)]; exact impl_showInstr.form1 n a0_1 a0_2 a0_3 a0_4 w ⟨ht⟩ (Lib.hid hn) (Lib.hid hf) (Lib.hid hok)
    · rw [← tx _ (impl_showInstr.txt7 n a0_1 a0_2 a0_3 a0_4 hf)]; exact impl_showInstr.form7 n a0_1 a0_2 a0_3 a0_4 w ⟨ht⟩ (Lib.hid hn) (Lib.hid hf) (Lib.hid hok)
    · rw [← tx _ (impl_showInstr.txt8 n a0_1 a0_2 a0_3 a0_4 hf)]; exact impl_showInstr.form8 n a0_1 a0_2 a0_3 a0_4 w ⟨ht⟩ (Lib.hid hn) (Lib.hid hf) (Lib.hid hok)
    · rw [← tx _ (impl_showInstr.txt9 n a0_1 a0_2 a0_3 a0_4 hf)]; exact impl_showInstr.form9 n a0_1 a0_2 a0_3 a0_4 w ⟨ht⟩ (Lib.hid hn) (Lib.hid hf) (Lib.hid hok)
    · rw [← tx _ (impl_showInstr.txt10 n a0_1 a0_2 a0_3 a0_4 hf)]; exact impl_showInstr.form10 n a0_1 a0_2 a0_3 a0_4 w ⟨ht⟩ (Lib.hid hn) (Lib.hid hf) (Lib.hid hok)
    · rw [← tx _ (impl_showInstr.txt11 n a0_1 a0_2 a0_3 a0_4 hf)]; exact impl_showInstr.form11 n a0_1 a0_2 a0_3 a0_4 w ⟨ht⟩ (Lib.hid hn) (Lib.hid hf) (Lib.hid hok)
  · rw [if_neg hok] at h; cases h

/-! ### impl_ShowInstr: function 20 -/
def impl_ShowInstr.f (a0_0 : Int) (a0_1 : Int) (a0_2 : Int) (a0_3 : Int) (a0_4 : Int) : Option (ByteArray) := (impl_isInstr.f a0_0 a0_1 a0_2 a0_3 a0_4).bind fun t141 => (if t141 = true then ((impl_showInstr.f a0_0 a0_1 a0_2 a0_3 a0_4).bind fun t142 => (some t142)) else (some (⟨#[]⟩ : ByteArray)))
set_option maxHeartbeats 8000000 in
set_option maxRecDepth 100000 in
theorem impl_ShowInstr.calls (a0_0 : Int) (a0_1 : Int) (a0_2 : Int) (a0_3 : Int) (a0_4 : Int) (r : ByteArray) (w : World) (ht : Tab.TabsOD w) (h : impl_ShowInstr.f a0_0 a0_1 a0_2 a0_3 a0_4 = some r) :
    Calls Tryd.prog 20 #[.agg #[.int .i64 a0_0, .int .i64 a0_1, .int .i64 a0_2, .int .i64 a0_3, .int .i64 a0_4]] w fun e w' => e = .returned (.string r) ∧ Below w.heap.size w w' := by
  have hu29 := Tryd.underlying29
  have HB := Aside0.mk (Below.refl w.heap.size w)
  have HTB := Aside0.mk ht
  clear ht
  have H : ((impl_isInstr.f a0_0 a0_1 a0_2 a0_3 a0_4).bind fun t141 => (if t141 = true then ((impl_showInstr.f a0_0 a0_1 a0_2 a0_3 a0_4).bind fun t142 => (some t142)) else (some (⟨#[]⟩ : ByteArray)))) = some r := h
  clear h
  replace H := Option.bind_eq_some_iff.mp H
  obtain ⟨t141, A20, H⟩ := H
  replace H : (if t141 = true then ((impl_showInstr.f a0_0 a0_1 a0_2 a0_3 a0_4).bind fun t142 => (some t142)) else (some (⟨#[]⟩ : ByteArray))) = some r := H
  have A2 := Aside0.mk A20
  clear A20
  by_cases c3 : t141 = true
  · subst c3
    have H1 : ((impl_showInstr.f a0_0 a0_1 a0_2 a0_3 a0_4).bind fun t142 => (some t142)) = some r := by rw [if_pos rfl] at H; exact H
    clear H
    have H := H1
    clear H1
    replace H := Option.bind_eq_some_iff.mp H
    obtain ⟨t142, A40, H⟩ := H
    replace H : (some t142) = some r := H
    have A4 := Aside0.mk A40
    clear A40
    obtain rfl := Option.some.inj H
    go_enter Tryd.func20, Tryd.ntmps20
    go_wp2_with (first | ((with_reducible refine gate_dst (N := 1) rfl ?_); refine box_event ?hg (N := 1) ?hd (cs := #[.int .i64 a0_0, .int .i64 a0_1, .int .i64 a0_2, .int .i64 a0_3, .int .i64 a0_4]) (t := 29) ?hr ?_; (case hd => rfl); (case hg => rfl); (case hr => first | (go_simp; done) | (go_simp; rfl)); intro gb140 hg w5 hbox hb; have n0_ := Aside0.mk (below_step (by repeat (first | (with_reducible first | exact HB.out | apply below_alloc | apply pw_below_drewN | apply below_drew1) | exact HB.out)) hb); have n1_ := Aside0.mk (hbox); have n2_ := Aside0.mk ((by rw [hg]; exact (below_size (by repeat (first | (with_reducible first | exact HB.out | apply below_alloc | apply pw_below_drewN | apply below_drew1) | exact HB.out))) : w.heap.size ≤ gb140)); have n3_ := Aside0.mk ((by rw [hg]; exact (below_size (by repeat (first | (with_reducible first | exact HB.out | apply below_alloc | apply pw_below_drewN | apply below_drew1) | exact HB.out))) : w.heap.size ≤ gb140)); clear HB; have HB := n0_; have BK140 := n1_; have GW140 := n2_; have GE140 := n3_; clear n0_ n1_ n2_ n3_; clear hb hbox hg; have hcz6_0 : w5.cell? ⟨gb140, 0, none⟩ = some (.int .i64 a0_0) := (blk_cell BK140.out 0).trans rfl; have hcz6_1 : w5.cell? ⟨gb140, 1, none⟩ = some (.int .i64 a0_1) := (blk_cell BK140.out 1).trans rfl; have hcz6_2 : w5.cell? ⟨gb140, 2, none⟩ = some (.int .i64 a0_2) := (blk_cell BK140.out 2).trans rfl; have hcz6_3 : w5.cell? ⟨gb140, 3, none⟩ = some (.int .i64 a0_3) := (blk_cell BK140.out 3).trans rfl; have hcz6_4 : w5.cell? ⟨gb140, 4, none⟩ = some (.int .i64 a0_4) := (blk_cell BK140.out 4).trans rfl; have hfz6_0 := blk_frozen BK140.out 0; have hfz6_1 := blk_frozen BK140.out 1; have hfz6_2 := blk_frozen BK140.out 2; have hfz6_3 := blk_frozen BK140.out 3; have hfz6_4 := blk_frozen BK140.out 4) | ((with_reducible refine gate_callee (f := 46) rfl ?_); refine goesL_ (some 4) rfl rfl Tryd.func46 (by kernel_rfl) rfl #[.agg #[.int .i64 a0_0, .int .i64 a0_1, .int .i64 a0_2, .int .i64 a0_3, .int .i64 a0_4]] rfl (by (try simp only [List.map_toArray, List.map_cons, List.map_nil]); first | done | rfl | (simp only [List.length_drop, List.length_take]; rfl)) ?_; (with_reducible refine (impl_isInstr.calls a0_0 a0_1 a0_2 a0_3 a0_4 true _ A2.out).mono ?_); rintro e w7 ⟨rfl, hb⟩; refine ⟨_, rfl, ?_⟩; have n0_ := Aside0.mk (blk_below (g := gb140) (o := .cells #[.int .i64 a0_0, .int .i64 a0_1, .int .i64 a0_2, .int .i64 a0_3, .int .i64 a0_4] 29 (0, 0)) (by (with_reducible repeat (first | refine blk_drewN ?_ _ | refine blk_drew ?_ | refine blk_alloc ?_ _)); exact BK140.out) hb); have n1_ := Aside0.mk (below_step (by repeat (first | (with_reducible first | exact HB.out | apply below_alloc | apply pw_below_drewN | apply below_drew1 | refine below_set ?_ GE140.out) | exact HB.out)) hb); clear BK140; clear HB; have BK140 := n0_; have HB := n1_; clear n0_ n1_; (try clear hb); (try clear hb2); (try clear hk); (try clear hi); have hcz8_0 : w7.cell? ⟨gb140, 0, none⟩ = some (.int .i64 a0_0) := (blk_cell BK140.out 0).trans rfl; have hcz8_1 : w7.cell? ⟨gb140, 1, none⟩ = some (.int .i64 a0_1) := (blk_cell BK140.out 1).trans rfl; have hcz8_2 : w7.cell? ⟨gb140, 2, none⟩ = some (.int .i64 a0_2) := (blk_cell BK140.out 2).trans rfl; have hcz8_3 : w7.cell? ⟨gb140, 3, none⟩ = some (.int .i64 a0_3) := (blk_cell BK140.out 3).trans rfl; have hcz8_4 : w7.cell? ⟨gb140, 4, none⟩ = some (.int .i64 a0_4) := (blk_cell BK140.out 4).trans rfl; have hfz8_0 := blk_frozen BK140.out 0; have hfz8_1 := blk_frozen BK140.out 1; have hfz8_2 := blk_frozen BK140.out 2; have hfz8_3 := blk_frozen BK140.out 3; have hfz8_4 := blk_frozen BK140.out 4) | ((with_reducible refine gate_callee (f := 47) rfl ?_); refine goesL_ (some 7) rfl rfl Tryd.func47 (by kernel_rfl) rfl #[.agg #[.int .i64 a0_0, .int .i64 a0_1, .int .i64 a0_2, .int .i64 a0_3, .int .i64 a0_4]] rfl (by (try simp only [List.map_toArray, List.map_cons, List.map_nil]); first | done | rfl | (simp only [List.length_drop, List.length_take]; rfl)) ?_; (with_reducible refine (impl_showInstr.calls a0_0 a0_1 a0_2 a0_3 a0_4 t142 _ ?side1 A4.out).mono ?_); (case side1 => exact Tab.TabsOD.below HTB.out (by repeat (first | (with_reducible first | exact HB.out | apply below_alloc | apply pw_below_drewN | apply below_drew1) | exact HB.out))); rintro e w9 ⟨rfl, hb⟩; refine ⟨_, rfl, ?_⟩; have n0_ := Aside0.mk (blk_below (g := gb140) (o := .cells #[.int .i64 a0_0, .int .i64 a0_1, .int .i64 a0_2, .int .i64 a0_3, .int .i64 a0_4] 29 (0, 0)) (by (with_reducible repeat (first | refine blk_drewN ?_ _ | refine blk_drew ?_ | refine blk_alloc ?_ _)); exact BK140.out) hb); have n1_ := Aside0.mk (below_step (by repeat (first | (with_reducible first | exact HB.out | apply below_alloc | apply pw_below_drewN | apply below_drew1 | refine below_set ?_ GE140.out) | exact HB.out)) hb); clear BK140; clear HB; have BK140 := n0_; have HB := n1_; clear n0_ n1_; (try clear hb); (try clear hb2); (try clear hk); (try clear hi)))
    go_ret
    exact ⟨by first | rfl | (simp [errW_none, errW_some] <;> rfl) | (simp [*, errW_none, errW_some] <;> rfl), by repeat (first | (with_reducible first | exact HB.out | apply below_alloc | apply pw_below_drewN | apply below_drew1 | refine below_set ?_ GE140.out) | exact HB.out)⟩
  · replace c3 := Bool.eq_false_iff.mpr c3
    subst c3
    have H1 : (some (⟨#[]⟩ : ByteArray)) = some r := by rw [if_neg (show ¬ (false = true) by decide)] at H; exact H
    clear H
    have H := H1
    clear H1
    obtain rfl := Option.some.inj H
    go_enter Tryd.func20, Tryd.ntmps20
    go_wp2_with (first | ((with_reducible refine gate_dst (N := 1) rfl ?_); refine box_event ?hg (N := 1) ?hd (cs := #[.int .i64 a0_0, .int .i64 a0_1, .int .i64 a0_2, .int .i64 a0_3, .int .i64 a0_4]) (t := 29) ?hr ?_; (case hd => rfl); (case hg => rfl); (case hr => first | (go_simp; done) | (go_simp; rfl)); intro gb140 hg w10 hbox hb; have n0_ := Aside0.mk (below_step (by repeat (first | (with_reducible first | exact HB.out | apply below_alloc | apply pw_below_drewN | apply below_drew1) | exact HB.out)) hb); have n1_ := Aside0.mk (hbox); have n2_ := Aside0.mk ((by rw [hg]; exact (below_size (by repeat (first | (with_reducible first | exact HB.out | apply below_alloc | apply pw_below_drewN | apply below_drew1) | exact HB.out))) : w.heap.size ≤ gb140)); have n3_ := Aside0.mk ((by rw [hg]; exact (below_size (by repeat (first | (with_reducible first | exact HB.out | apply below_alloc | apply pw_below_drewN | apply below_drew1) | exact HB.out))) : w.heap.size ≤ gb140)); clear HB; have HB := n0_; have BK140 := n1_; have GW140 := n2_; have GE140 := n3_; clear n0_ n1_ n2_ n3_; clear hb hbox hg; have hcz11_0 : w10.cell? ⟨gb140, 0, none⟩ = some (.int .i64 a0_0) := (blk_cell BK140.out 0).trans rfl; have hcz11_1 : w10.cell? ⟨gb140, 1, none⟩ = some (.int .i64 a0_1) := (blk_cell BK140.out 1).trans rfl; have hcz11_2 : w10.cell? ⟨gb140, 2, none⟩ = some (.int .i64 a0_2) := (blk_cell BK140.out 2).trans rfl; have hcz11_3 : w10.cell? ⟨gb140, 3, none⟩ = some (.int .i64 a0_3) := (blk_cell BK140.out 3).trans rfl; have hcz11_4 : w10.cell? ⟨gb140, 4, none⟩ = some (.int .i64 a0_4) := (blk_cell BK140.out 4).trans rfl; have hfz11_0 := blk_frozen BK140.out 0; have hfz11_1 := blk_frozen BK140.out 1; have hfz11_2 := blk_frozen BK140.out 2; have hfz11_3 := blk_frozen BK140.out 3; have hfz11_4 := blk_frozen BK140.out 4) | ((with_reducible refine gate_callee (f := 46) rfl ?_); refine goesL_ (some 4) rfl rfl Tryd.func46 (by kernel_rfl) rfl #[.agg #[.int .i64 a0_0, .int .i64 a0_1, .int .i64 a0_2, .int .i64 a0_3, .int .i64 a0_4]] rfl (by (try simp only [List.map_toArray, List.map_cons, List.map_nil]); first | done | rfl | (simp only [List.length_drop, List.length_take]; rfl)) ?_; (with_reducible refine (impl_isInstr.calls a0_0 a0_1 a0_2 a0_3 a0_4 false _ A2.out).mono ?_); rintro e w12 ⟨rfl, hb⟩; refine ⟨_, rfl, ?_⟩; have n0_ := Aside0.mk (blk_below (g := gb140) (o := .cells #[.int .i64 a0_0, .int .i64 a0_1, .int .i64 a0_2, .int .i64 a0_3, .int .i64 a0_4] 29 (0, 0)) (by (with_reducible repeat (first | refine blk_drewN ?_ _ | refine blk_drew ?_ | refine blk_alloc ?_ _)); exact BK140.out) hb); have n1_ := Aside0.mk (below_step (by repeat (first | (with_reducible first | exact HB.out | apply below_alloc | apply pw_below_drewN | apply below_drew1 | refine below_set ?_ GE140.out) | exact HB.out)) hb); clear BK140; clear HB; have BK140 := n0_; have HB := n1_; clear n0_ n1_; (try clear hb); (try clear hb2); (try clear hk); (try clear hi)))
    go_ret
    exact ⟨by first | rfl | (simp [errW_none, errW_some] <;> rfl) | (simp [*, errW_none, errW_some] <;> rfl), by repeat (first | (with_reducible first | exact HB.out | apply below_alloc | apply pw_below_drewN | apply below_drew1 | refine below_set ?_ GE140.out) | exact HB.out)⟩

/-! ### laws_FnExactShowInstr: function 6 -/
def laws_FnExactShowInstr.f (k : Nat) (a0_0 : Int) (a0_1 : Int) (a0_2 : Int) (a0_3 : Int) (a0_4 : Int) : Option (Bool) := (laws_toInstr.f a0_0 a0_1 a0_2 a0_3 a0_4).bind fun bt144 => ((spec_ShowInstr.f k bt144.1 bt144.2.1 bt144.2.2.1 bt144.2.2.2.1 bt144.2.2.2.2).bind fun t149 => ((laws_toInstr.f a0_0 a0_1 a0_2 a0_3 a0_4).bind fun bt150 => ((impl_ShowInstr.f bt150.1 bt150.2.1 bt150.2.2.1 bt150.2.2.2.1 bt150.2.2.2.2).bind fun t155 => (if t155.toList = t149.toList then (some true) else (some false)))))
theorem laws_FnExactShowInstr.mono : ∀ a0 a1 a2 a3 a4 k, LeO (laws_FnExactShowInstr.f k a0 a1 a2 a3 a4) (laws_FnExactShowInstr.f (k + 1) a0 a1 a2 a3 a4) := by
  intro a0 a1 a2 a3 a4 k
  unfold laws_FnExactShowInstr.f
  repeat' first
      | (with_reducible exact spec_ShowInstr.mono _ _ _ _ _ _)
      | (with_reducible exact LeO.refl _)
      | (with_reducible exact LeO.none _)
      | (with_reducible refine LeO.ite ?_ ?_)
      | (with_reducible refine LeO.bind ?_ (fun _ => ?_))
      | exact spec_ShowInstr.mono _ _ _ _ _ _
      | exact LeO.none _
      | refine LeO.ite ?_ ?_
      | refine LeO.bind ?_ (fun _ => ?_)
set_option maxHeartbeats 8000000 in
set_option maxRecDepth 100000 in
theorem laws_FnExactShowInstr.calls (k : Nat) (a0_0 : Int) (a0_1 : Int) (a0_2 : Int) (a0_3 : Int) (a0_4 : Int) (r : Bool) (w : World) (ht : Tab.TabsOD w) (h : laws_FnExactShowInstr.f k a0_0 a0_1 a0_2 a0_3 a0_4 = some r) :
    Calls Tryd.prog 6 #[.agg #[.int .i64 a0_0, .int .i64 a0_1, .int .i64 a0_2, .int .i64 a0_3, .int .i64 a0_4]] w fun e w' => e = .returned (.bool r) ∧ Below w.heap.size w w' := by
  have hu27 := Tryd.underlying27
  have HB := Aside0.mk (Below.refl w.heap.size w)
  have HTB := Aside0.mk ht
  clear ht
  have H : ((laws_toInstr.f a0_0 a0_1 a0_2 a0_3 a0_4).bind fun bt144 => ((spec_ShowInstr.f k bt144.1 bt144.2.1 bt144.2.2.1 bt144.2.2.2.1 bt144.2.2.2.2).bind fun t149 => ((laws_toInstr.f a0_0 a0_1 a0_2 a0_3 a0_4).bind fun bt150 => ((impl_ShowInstr.f bt150.1 bt150.2.1 bt150.2.2.1 bt150.2.2.2.1 bt150.2.2.2.2).bind fun t155 => (if t155.toList = t149.toList then (some true) else (some false)))))) = some r := h
  clear h
  replace H := Option.bind_eq_some_iff.mp H
  obtain ⟨⟨t144, t145, t146, t147, t148⟩, A20, H⟩ := H
  replace H : ((spec_ShowInstr.f k t144 t145 t146 t147 t148).bind fun t149 => ((laws_toInstr.f a0_0 a0_1 a0_2 a0_3 a0_4).bind fun bt150 => ((impl_ShowInstr.f bt150.1 bt150.2.1 bt150.2.2.1 bt150.2.2.2.1 bt150.2.2.2.2).bind fun t155 => (if t155.toList = t149.toList then (some true) else (some false))))) = some r := H
  have A2 := Aside0.mk A20
  clear A20
  replace H := Option.bind_eq_some_iff.mp H
  obtain ⟨t149, A30, H⟩ := H
  replace H : ((laws_toInstr.f a0_0 a0_1 a0_2 a0_3 a0_4).bind fun bt150 => ((impl_ShowInstr.f bt150.1 bt150.2.1 bt150.2.2.1 bt150.2.2.2.1 bt150.2.2.2.2).bind fun t155 => (if t155.toList = t149.toList then (some true) else (some false)))) = some r := H
  have A3 := Aside0.mk A30
  clear A30
  replace H := Option.bind_eq_some_iff.mp H
  obtain ⟨⟨t150, t151, t152, t153, t154⟩, A40, H⟩ := H
  replace H : ((impl_ShowInstr.f t150 t151 t152 t153 t154).bind fun t155 => (if t155.toList = t149.toList then (some true) else (some false))) = some r := H
  have A4 := Aside0.mk A40
  clear A40
  replace H := Option.bind_eq_some_iff.mp H
  obtain ⟨t155, A50, H⟩ := H
  replace H : (if t155.toList = t149.toList then (some true) else (some false)) = some r := H
  have A5 := Aside0.mk A50
  clear A50
  by_cases c6 : t155.toList = t149.toList
  · rw [if_pos c6] at H
    have c6b0 : (t155.toList == t149.toList) = true := beq_iff_eq.mpr c6
    have c6b1 : (t155.toList != t149.toList) = false := bne_eq_false_iff_eq.mpr c6
    clear c6
    obtain rfl := Option.some.inj H
    go_enter Tryd.func6, Tryd.ntmps6
    go_wp2_with (first | ((with_reducible refine gate_dst (N := 1) rfl ?_); refine box_event ?hg (N := 1) ?hd (cs := #[.int .i64 a0_0, .int .i64 a0_1, .int .i64 a0_2, .int .i64 a0_3, .int .i64 a0_4]) (t := 27) ?hr ?_; (case hd => rfl); (case hg => rfl); (case hr => first | (go_simp; done) | (go_simp; rfl)); intro gb143 hg w7 hbox hb; have n0_ := Aside0.mk (below_step (by repeat (first | (with_reducible first | exact HB.out | apply below_alloc | apply pw_below_drewN | apply below_drew1) | exact HB.out)) hb); have n1_ := Aside0.mk (hbox); have n2_ := Aside0.mk ((by rw [hg]; exact (below_size (by repeat (first | (with_reducible first | exact HB.out | apply below_alloc | apply pw_below_drewN | apply below_drew1) | exact HB.out))) : w.heap.size ≤ gb143)); have n3_ := Aside0.mk ((by rw [hg]; exact (below_size (by repeat (first | (with_reducible first | exact HB.out | apply below_alloc | apply pw_below_drewN | apply below_drew1) | exact HB.out))) : w.heap.size ≤ gb143)); clear HB; have HB := n0_; have BK143 := n1_; have GW143 := n2_; have GE143 := n3_; clear n0_ n1_ n2_ n3_; clear hb hbox hg; have hcz8_0 : w7.cell? ⟨gb143, 0, none⟩ = some (.int .i64 a0_0) := (blk_cell BK143.out 0).trans rfl; have hcz8_1 : w7.cell? ⟨gb143, 1, none⟩ = some (.int .i64 a0_1) := (blk_cell BK143.out 1).trans rfl; have hcz8_2 : w7.cell? ⟨gb143, 2, none⟩ = some (.int .i64 a0_2) := (blk_cell BK143.out 2).trans rfl; have hcz8_3 : w7.cell? ⟨gb143, 3, none⟩ = some (.int .i64 a0_3) := (blk_cell BK143.out 3).trans rfl; have hcz8_4 : w7.cell? ⟨gb143, 4, none⟩ = some (.int .i64 a0_4) := (blk_cell BK143.out 4).trans rfl; have hfz8_0 := blk_frozen BK143.out 0; have hfz8_1 := blk_frozen BK143.out 1; have hfz8_2 := blk_frozen BK143.out 2; have hfz8_3 := blk_frozen BK143.out 3; have hfz8_4 := blk_frozen BK143.out 4) | ((with_reducible refine gate_callee (f := 19) rfl ?_); refine goesL_ (some 6) rfl rfl Tryd.func19 (by kernel_rfl) rfl #[.agg #[.int .i64 a0_0, .int .i64 a0_1, .int .i64 a0_2, .int .i64 a0_3, .int .i64 a0_4]] rfl (by (try simp only [List.map_toArray, List.map_cons, List.map_nil]); first | done | rfl | (simp only [List.length_drop, List.length_take]; rfl)) ?_; (with_reducible refine (laws_toInstr.calls a0_0 a0_1 a0_2 a0_3 a0_4 t144 t145 t146 t147 t148 _ A2.out).mono ?_); rintro e w9 ⟨rfl, hb⟩; refine ⟨_, rfl, ?_⟩; have n0_ := Aside0.mk (blk_below (g := gb143) (o := .cells #[.int .i64 a0_0, .int .i64 a0_1, .int .i64 a0_2, .int .i64 a0_3, .int .i64 a0_4] 27 (0, 0)) (by (with_reducible repeat (first | refine blk_drewN ?_ _ | refine blk_drew ?_ | refine blk_alloc ?_ _)); exact BK143.out) hb); have n1_ := Aside0.mk (below_step (by repeat (first | (with_reducible first | exact HB.out | apply below_alloc | apply pw_below_drewN | apply below_drew1 | refine below_set ?_ GE143.out) | exact HB.out)) hb); clear BK143; clear HB; have BK143 := n0_; have HB := n1_; clear n0_ n1_; (try clear hb); (try clear hb2); (try clear hk); (try clear hi)) | ((with_reducible refine gate_callee (f := 18) rfl ?_); refine goesL_ (some 7) rfl rfl Tryd.func18 (by kernel_rfl) rfl #[.agg #[.int .i64 t144, .int .i64 t145, .int .i64 t146, .int .i64 t147, .int .i64 t148]] rfl (by (try simp only [List.map_toArray, List.map_cons, List.map_nil]); first | done | rfl | (simp only [List.length_drop, List.length_take]; rfl)) ?_; (with_reducible refine (spec_ShowInstr.calls k t144 t145 t146 t147 t148 t149 _ A3.out).mono ?_); rintro e w10 ⟨rfl, hb⟩; refine ⟨_, rfl, ?_⟩; have n0_ := Aside0.mk (blk_below (g := gb143) (o := .cells #[.int .i64 a0_0, .int .i64 a0_1, .int .i64 a0_2, .int .i64 a0_3, .int .i64 a0_4] 27 (0, 0)) (by (with_reducible repeat (first | refine blk_drewN ?_ _ | refine blk_drew ?_ | refine blk_alloc ?_ _)); exact BK143.out) hb); have n1_ := Aside0.mk (below_step (by repeat (first | (with_reducible first | exact HB.out | apply below_alloc | apply pw_below_drewN | apply below_drew1 | refine below_set ?_ GE143.out) | exact HB.out)) hb); clear BK143; clear HB; have BK143 := n0_; have HB := n1_; clear n0_ n1_; (try clear hb); (try clear hb2); (try clear hk); (try clear hi); have hcz11_0 : w10.cell? ⟨gb143, 0, none⟩ = some (.int .i64 a0_0) := (blk_cell BK143.out 0).trans rfl; have hcz11_1 : w10.cell? ⟨gb143, 1, none⟩ = some (.int .i64 a0_1) := (blk_cell BK143.out 1).trans rfl; have hcz11_2 : w10.cell? ⟨gb143, 2, none⟩ = some (.int .i64 a0_2) := (blk_cell BK143.out 2).trans rfl; have hcz11_3 : w10.cell? ⟨gb143, 3, none⟩ = some (.int .i64 a0_3) := (blk_cell BK143.out 3).trans rfl; have hcz11_4 : w10.cell? ⟨gb143, 4, none⟩ = some (.int .i64 a0_4) := (blk_cell BK143.out 4).trans rfl; have hfz11_0 := blk_frozen BK143.out 0; have hfz11_1 := blk_frozen BK143.out 1; have hfz11_2 := blk_frozen BK143.out 2; have hfz11_3 := blk_frozen BK143.out 3; have hfz11_4 := blk_frozen BK143.out 4) | ((with_reducible refine gate_callee (f := 19) rfl ?_); refine goesL_ (some 9) rfl rfl Tryd.func19 (by kernel_rfl) rfl #[.agg #[.int .i64 a0_0, .int .i64 a0_1, .int .i64 a0_2, .int .i64 a0_3, .int .i64 a0_4]] rfl (by (try simp only [List.map_toArray, List.map_cons, List.map_nil]); first | done | rfl | (simp only [List.length_drop, List.length_take]; rfl)) ?_; (with_reducible refine (laws_toInstr.calls a0_0 a0_1 a0_2 a0_3 a0_4 t150 t151 t152 t153 t154 _ A4.out).mono ?_); rintro e w12 ⟨rfl, hb⟩; refine ⟨_, rfl, ?_⟩; have n0_ := Aside0.mk (blk_below (g := gb143) (o := .cells #[.int .i64 a0_0, .int .i64 a0_1, .int .i64 a0_2, .int .i64 a0_3, .int .i64 a0_4] 27 (0, 0)) (by (with_reducible repeat (first | refine blk_drewN ?_ _ | refine blk_drew ?_ | refine blk_alloc ?_ _)); exact BK143.out) hb); have n1_ := Aside0.mk (below_step (by repeat (first | (with_reducible first | exact HB.out | apply below_alloc | apply pw_below_drewN | apply below_drew1 | refine below_set ?_ GE143.out) | exact HB.out)) hb); clear BK143; clear HB; have BK143 := n0_; have HB := n1_; clear n0_ n1_; (try clear hb); (try clear hb2); (try clear hk); (try clear hi)) | ((with_reducible refine gate_callee (f := 20) rfl ?_); refine goesL_ (some 10) rfl rfl Tryd.func20 (by kernel_rfl) rfl #[.agg #[.int .i64 t150, .int .i64 t151, .int .i64 t152, .int .i64 t153, .int .i64 t154]] rfl (by (try simp only [List.map_toArray, List.map_cons, List.map_nil]); first | done | rfl | (simp only [List.length_drop, List.length_take]; rfl)) ?_; (with_reducible refine (impl_ShowInstr.calls t150 t151 t152 t153 t154 t155 _ ?side1 A5.out).mono ?_); (case side1 => exact Tab.TabsOD.below HTB.out (by repeat (first | (with_reducible first | exact HB.out | apply below_alloc | apply pw_below_drewN | apply below_drew1) | exact HB.out))); rintro e w13 ⟨rfl, hb⟩; refine ⟨_, rfl, ?_⟩; have n0_ := Aside0.mk (blk_below (g := gb143) (o := .cells #[.int .i64 a0_0, .int .i64 a0_1, .int .i64 a0_2, .int .i64 a0_3, .int .i64 a0_4] 27 (0, 0)) (by (with_reducible repeat (first | refine blk_drewN ?_ _ | refine blk_drew ?_ | refine blk_alloc ?_ _)); exact BK143.out) hb); have n1_ := Aside0.mk (below_step (by repeat (first | (with_reducible first | exact HB.out | apply below_alloc | apply pw_below_drewN | apply below_drew1 | refine below_set ?_ GE143.out) | exact HB.out)) hb); clear BK143; clear HB; have BK143 := n0_; have HB := n1_; clear n0_ n1_; (try clear hb); (try clear hb2); (try clear hk); (try clear hi)))
    go_ret
    exact ⟨by first | rfl | (simp [errW_none, errW_some] <;> rfl) | (simp [*, errW_none, errW_some] <;> rfl), by repeat (first | (with_reducible first | exact HB.out | apply below_alloc | apply pw_below_drewN | apply below_drew1 | refine below_set ?_ GE143.out) | exact HB.out)⟩
  · rw [if_neg c6] at H
    have c6b0 : (t155.toList == t149.toList) = false := beq_eq_false_iff_ne.mpr c6
    have c6b1 : (t155.toList != t149.toList) = true := bne_iff_ne.mpr c6
    obtain rfl := Option.some.inj H
    go_enter Tryd.func6, Tryd.ntmps6
    go_wp2_with (first | ((with_reducible refine gate_dst (N := 1) rfl ?_); refine box_event ?hg (N := 1) ?hd (cs := #[.int .i64 a0_0, .int .i64 a0_1, .int .i64 a0_2, .int .i64 a0_3, .int .i64 a0_4]) (t := 27) ?hr ?_; (case hd => rfl); (case hg => rfl); (case hr => first | (go_simp; done) | (go_simp; rfl)); intro gb143 hg w14 hbox hb; have n0_ := Aside0.mk (below_step (by repeat (first | (with_reducible first | exact HB.out | apply below_alloc | apply pw_below_drewN | apply below_drew1) | exact HB.out)) hb); have n1_ := Aside0.mk (hbox); have n2_ := Aside0.mk ((by rw [hg]; exact (below_size (by repeat (first | (with_reducible first | exact HB.out | apply below_alloc | apply pw_below_drewN | apply below_drew1) | exact HB.out))) : w.heap.size ≤ gb143)); have n3_ := Aside0.mk ((by rw [hg]; exact (below_size (by repeat (first | (with_reducible first | exact HB.out | apply below_alloc | apply pw_below_drewN | apply below_drew1) | exact HB.out))) : w.heap.size ≤ gb143)); clear HB; have HB := n0_; have BK143 := n1_; have GW143 := n2_; have GE143 := n3_; clear n0_ n1_ n2_ n3_; clear hb hbox hg; have hcz15_0 : w14.cell? ⟨gb143, 0, none⟩ = some (.int .i64 a0_0) := (blk_cell BK143.out 0).trans rfl; have hcz15_1 : w14.cell? ⟨gb143, 1, none⟩ = some (.int .i64 a0_1) := (blk_cell BK143.out 1).trans rfl; have hcz15_2 : w14.cell? ⟨gb143, 2, none⟩ = some (.int .i64 a0_2) := (blk_cell BK143.out 2).trans rfl; have hcz15_3 : w14.cell? ⟨gb143, 3, none⟩ = some (.int .i64 a0_3) := (blk_cell BK143.out 3).trans rfl; have hcz15_4 : w14.cell? ⟨gb143, 4, none⟩ = some (.int .i64 a0_4) := (blk_cell BK143.out 4).trans rfl; have hfz15_0 := blk_frozen BK143.out 0; have hfz15_1 := blk_frozen BK143.out 1; have hfz15_2 := blk_frozen BK143.out 2; have hfz15_3 := blk_frozen BK143.out 3; have hfz15_4 := blk_frozen BK143.out 4) | ((with_reducible refine gate_callee (f := 19) rfl ?_); refine goesL_ (some 6) rfl rfl Tryd.func19 (by kernel_rfl) rfl #[.agg #[.int .i64 a0_0, .int .i64 a0_1, .int .i64 a0_2, .int .i64 a0_3, .int .i64 a0_4]] rfl (by (try simp only [List.map_toArray, List.map_cons, List.map_nil]); first | done | rfl | (simp only [List.length_drop, List.length_take]; rfl)) ?_; (with_reducible refine (laws_toInstr.calls a0_0 a0_1 a0_2 a0_3 a0_4 t144 t145 t146 t147 t148 _ A2.out).mono ?_); rintro e w16 ⟨rfl, hb⟩; refine ⟨_, rfl, ?_⟩; have n0_ := Aside0.mk (blk_below (g := gb143) (o := .cells #[.int .i64 a0_0, .int .i64 a0_1, .int .i64 a0_2, .int .i64 a0_3, .int .i64 a0_4] 27 (0, 0)) (by (with_reducible repeat (first | refine blk_drewN ?_ _ | refine blk_drew ?_ | refine blk_alloc ?_ _)); exact BK143.out) hb); have n1_ := Aside0.mk (below_step (by repeat (first | (with_reducible first | exact HB.out | apply below_alloc | apply pw_below_drewN | apply below_drew1 | refine below_set ?_ GE143.out) | exact HB.out)) hb); clear BK143; clear HB; have BK143 := n0_; have HB := n1_; clear n0_ n1_; (try clear hb); (try clear hb2); (try clear hk); (try clear hi)) | ((with_reducible refine gate_callee (f := 18) rfl ?_); refine goesL_ (some 7) rfl rfl Tryd.func18 (by kernel_rfl) rfl #[.agg #[.int .i64 t144, .int .i64 t145, .int .i64 t146, .int .i64 t147, .int .i64 t148]] rfl (by (try simp only [List.map_toArray, List.map_cons, List.map_nil]); first | done | rfl | (simp only [List.length_drop, List.length_take]; rfl)) ?_; (with_reducible refine (spec_ShowInstr.calls k t144 t145 t146 t147 t148 t149 _ A3.out).mono ?_); rintro e w17 ⟨rfl, hb⟩; refine ⟨_, rfl, ?_⟩; have n0_ := Aside0.mk (blk_below (g := gb143) (o := .cells #[.int .i64 a0_0, .int .i64 a0_1, .int .i64 a0_2, .int .i64 a0_3, .int .i64 a0_4] 27 (0, 0)) (by (with_reducible repeat (first | refine blk_drewN ?_ _ | refine blk_drew ?_ | refine blk_alloc ?_ _)); exact BK143.out) hb); have n1_ := Aside0.mk (below_step (by repeat (first | (with_reducible first | exact HB.out | apply below_alloc | apply pw_below_drewN | apply below_drew1 | refine below_set ?_ GE143.out) | exact HB.out)) hb); clear BK143; clear HB; have BK143 := n0_; have HB := n1_; clear n0_ n1_; (try clear hb); (try clear hb2); (try clear hk); (try clear hi); have hcz18_0 : w17.cell? ⟨gb143, 0, none⟩ = some (.int .i64 a0_0) := (blk_cell BK143.out 0).trans rfl; have hcz18_1 : w17.cell? ⟨gb143, 1, none⟩ = some (.int .i64 a0_1) := (blk_cell BK143.out 1).trans rfl; have hcz18_2 : w17.cell? ⟨gb143, 2, none⟩ = some (.int .i64 a0_2) := (blk_cell BK143.out 2).trans rfl; have hcz18_3 : w17.cell? ⟨gb143, 3, none⟩ = some (.int .i64 a0_3) := (blk_cell BK143.out 3).trans rfl; have hcz18_4 : w17.cell? ⟨gb143, 4, none⟩ = some (.int .i64 a0_4) := (blk_cell BK143.out 4).trans rfl; have hfz18_0 := blk_frozen BK143.out 0; have hfz18_1 := blk_frozen BK143.out 1; have hfz18_2 := blk_frozen BK143.out 2; have hfz18_3 := blk_frozen BK143.out 3; have hfz18_4 := blk_frozen BK143.out 4) | ((with_reducible refine gate_callee (f := 19) rfl ?_); refine goesL_ (some 9) rfl rfl Tryd.func19 (by kernel_rfl) rfl #[.agg #[.int .i64 a0_0, .int .i64 a0_1, .int .i64 a0_2, .int .i64 a0_3, .int .i64 a0_4]] rfl (by (try simp only [List.map_toArray, List.map_cons, List.map_nil]); first | done | rfl | (simp only [List.length_drop, List.length_take]; rfl)) ?_; (with_reducible refine (laws_toInstr.calls a0_0 a0_1 a0_2 a0_3 a0_4 t150 t151 t152 t153 t154 _ A4.out).mono ?_); rintro e w19 ⟨rfl, hb⟩; refine ⟨_, rfl, ?_⟩; have n0_ := Aside0.mk (blk_below (g := gb143) (o := .cells #[.int .i64 a0_0, .int .i64 a0_1, .int .i64 a0_2, .int .i64 a0_3, .int .i64 a0_4] 27 (0, 0)) (by (with_reducible repeat (first | refine blk_drewN ?_ _ | refine blk_drew ?_ | refine blk_alloc ?_ _)); exact BK143.out) hb); have n1_ := Aside0.mk (below_step (by repeat (first | (with_reducible first | exact HB.out | apply below_alloc | apply pw_below_drewN | apply below_drew1 | refine below_set ?_ GE143.out) | exact HB.out)) hb); clear BK143; clear HB; have BK143 := n0_; have HB := n1_; clear n0_ n1_; (try clear hb); (try clear hb2); (try clear hk); (try clear hi)) | ((with_reducible refine gate_callee (f := 20) rfl ?_); refine goesL_ (some 10) rfl rfl Tryd.func20 (by kernel_rfl) rfl #[.agg #[.int .i64 t150, .int .i64 t151, .int .i64 t152, .int .i64 t153, .int .i64 t154]] rfl (by (try simp only [List.map_toArray, List.map_cons, List.map_nil]); first | done | rfl | (simp only [List.length_drop, List.length_take]; rfl)) ?_; (with_reducible refine (impl_ShowInstr.calls t150 t151 t152 t153 t154 t155 _ ?side1 A5.out).mono ?_); (case side1 => exact Tab.TabsOD.below HTB.out (by repeat (first | (with_reducible first | exact HB.out | apply below_alloc | apply pw_below_drewN | apply below_drew1) | exact HB.out))); rintro e w20 ⟨rfl, hb⟩; refine ⟨_, rfl, ?_⟩; have n0_ := Aside0.mk (blk_below (g := gb143) (o := .cells #[.int .i64 a0_0, .int .i64 a0_1, .int .i64 a0_2, .int .i64 a0_3, .int .i64 a0_4] 27 (0, 0)) (by (with_reducible repeat (first | refine blk_drewN ?_ _ | refine blk_drew ?_ | refine blk_alloc ?_ _)); exact BK143.out) hb); have n1_ := Aside0.mk (below_step (by repeat (first | (with_reducible first | exact HB.out | apply below_alloc | apply pw_below_drewN | apply below_drew1 | refine below_set ?_ GE143.out) | exact HB.out)) hb); clear BK143; clear HB; have BK143 := n0_; have HB := n1_; clear n0_ n1_; (try clear hb); (try clear hb2); (try clear hk); (try clear hi)))
    go_ret
    exact ⟨by first | rfl | (simp [errW_none, errW_some] <;> rfl) | (simp [*, errW_none, errW_some] <;> rfl), by repeat (first | (with_reducible first | exact HB.out | apply below_alloc | apply pw_below_drewN | apply below_drew1 | refine below_set ?_ GE143.out) | exact HB.out)⟩

end Go.Proofs.YtjoiebnjpipenaaDoor.PFnExactShowInstr

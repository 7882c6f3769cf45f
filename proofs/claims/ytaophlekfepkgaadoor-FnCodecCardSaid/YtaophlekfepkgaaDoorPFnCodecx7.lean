/- Printed by a program out of the translation, with contracts of my own set in. -/
import Derived.Test.YtaophlekfepkgaaDoorPFnCodecx0
import Derived.Test.YtaophlekfepkgaaDoorPFnCodecx3
import Derived.Test.YtaophlekfepkgaaDoorPFnCodecx4
import Derived.Test.YtaophlekfepkgaaDoorPFnCodecx5
import Derived.Test.YtaophlekfepkgaaDoorPFnCodecx6
namespace Go.Proofs.YtaophlekfepkgaaDoor.PFnCodec
open Go.RowKit Go.Proofs.YtaophlekfepkgaaDoorW.PrintWords Go.Proofs.YtaophlekfepkgaaDoorW.PrintLast Go.Proofs.YtaophlekfepkgaaDoorW.PrintMore
attribute [local go_sem] max2_int min2_int max_two min_two max_three min_three max_four min_four   -- for this text's walks alone
set_option linter.unusedVariables false
set_option linter.unusedSimpArgs false

/-! ### impl_ReadLine: function 11 -/
def impl_ReadLine.f (a0 : ByteArray) : Option (Int × Int × Int × Int × Int × Int × Int × ByteArray) := if (a0.size : Int) > 80 then (some (0, 0, 0, 0, 0, 0, 0, (⟨#[]⟩ : ByteArray))) else ((impl_readLine.f a0).bind fun bt242 => (some (bt242.1, bt242.2.1, bt242.2.2.1, bt242.2.2.2.1, bt242.2.2.2.2.1, bt242.2.2.2.2.2.1, bt242.2.2.2.2.2.2.1, bt242.2.2.2.2.2.2.2)))
set_option maxHeartbeats 8000000 in
set_option maxRecDepth 100000 in
theorem impl_ReadLine.calls (a0 : ByteArray) (r1 : Int) (r2 : Int) (r3 : Int) (r4 : Int) (r5 : Int) (r6 : Int) (r7 : Int) (r8 : ByteArray) (w : World) (ht : Tab.TabsODEM w) (h : impl_ReadLine.f a0 = some (r1, r2, r3, r4, r5, r6, r7, r8)) :
    Calls Tryd.prog 11 #[.string a0] w fun e w' => e = .returned (.agg #[.int .i64 r1, .int .i64 r2, .int .i64 r3, .int .i64 r4, .int .i64 r5, .int .i64 r6, .int .u32 r7, .string r8]) ∧ Below w.heap.size w w' := by
  have hu33 := Tryd.underlying33
  have HB := Aside0.mk (Below.refl w.heap.size w)
  have HTB := Aside0.mk ht
  clear ht
  have H : (if (a0.size : Int) > 80 then (some (0, 0, 0, 0, 0, 0, 0, (⟨#[]⟩ : ByteArray))) else ((impl_readLine.f a0).bind fun bt242 => (some (bt242.1, bt242.2.1, bt242.2.2.1, bt242.2.2.2.1, bt242.2.2.2.2.1, bt242.2.2.2.2.2.1, bt242.2.2.2.2.2.2.1, bt242.2.2.2.2.2.2.2)))) = some (r1, r2, r3, r4, r5, r6, r7, r8) := h
  clear h
  by_cases c2 : (a0.size : Int) > 80
  · rw [if_pos c2] at H
    have c2b0 : decide (80 < (a0.size : Int)) = true := decide_eq_true c2
    have c2b1 : decide (80 < a0.size) = true := decide_eq_true (by omega)
    clear c2
    simp only [Option.some.injEq, Prod.mk.injEq] at H
    obtain ⟨rfl, rfl, rfl, rfl, rfl, rfl, rfl, rfl⟩ := H
    go_enter Tryd.func11, Tryd.ntmps11
    go_wp2_with (first | ((with_reducible refine gate_dst (N := 2) rfl ?_); refine box_event ?hg (N := 2) ?hd (cs := #[.int .i64 0, .int .i64 0, .int .i64 0, .int .i64 0, .int .i64 0, .int .i64 0, .int .u32 0, .string (⟨#[]⟩ : ByteArray)]) (t := 33) ?hr ?_; (case hd => rfl); (case hg => rfl); (case hr => first | (go_simp; done) | (go_simp; rfl)); intro gb241 hg w3 hbox hb; have n0_ := Aside0.mk (below_step (by repeat (first | (with_reducible first | exact HB.out | apply below_alloc | apply pw_below_drewN | apply below_drew1) | exact HB.out)) hb); have n1_ := Aside0.mk (hbox); have n2_ := Aside0.mk ((by rw [hg]; exact (below_size (by repeat (first | (with_reducible first | exact HB.out | apply below_alloc | apply pw_below_drewN | apply below_drew1) | exact HB.out))) : w.heap.size ≤ gb241)); have n3_ := Aside0.mk ((by rw [hg]; exact (below_size (by repeat (first | (with_reducible first | exact HB.out | apply below_alloc | apply pw_below_drewN | apply below_drew1) | exact HB.out))) : w.heap.size ≤ gb241)); clear HB; have HB := n0_; have BK241 := n1_; have GW241 := n2_; have GE241 := n3_; clear n0_ n1_ n2_ n3_; clear hb hbox hg; have hcz4_0 : w3.cell? ⟨gb241, 0, none⟩ = some (.int .i64 0) := (blk_cell BK241.out 0).trans rfl; have hcz4_1 : w3.cell? ⟨gb241, 1, none⟩ = some (.int .i64 0) := (blk_cell BK241.out 1).trans rfl; have hcz4_2 : w3.cell? ⟨gb241, 2, none⟩ = some (.int .i64 0) := (blk_cell BK241.out 2).trans rfl; have hcz4_3 : w3.cell? ⟨gb241, 3, none⟩ = some (.int .i64 0) := (blk_cell BK241.out 3).trans rfl; have hcz4_4 : w3.cell? ⟨gb241, 4, none⟩ = some (.int .i64 0) := (blk_cell BK241.out 4).trans rfl; have hcz4_5 : w3.cell? ⟨gb241, 5, none⟩ = some (.int .i64 0) := (blk_cell BK241.out 5).trans rfl; have hcz4_6 : w3.cell? ⟨gb241, 6, none⟩ = some (.int .u32 0) := (blk_cell BK241.out 6).trans rfl; have hcz4_7 : w3.cell? ⟨gb241, 7, none⟩ = some (.string (⟨#[]⟩ : ByteArray)) := (blk_cell BK241.out 7).trans rfl; have hfz4_0 := blk_frozen BK241.out 0; have hfz4_1 := blk_frozen BK241.out 1; have hfz4_2 := blk_frozen BK241.out 2; have hfz4_3 := blk_frozen BK241.out 3; have hfz4_4 := blk_frozen BK241.out 4; have hfz4_5 := blk_frozen BK241.out 5; have hfz4_6 := blk_frozen BK241.out 6; have hfz4_7 := blk_frozen BK241.out 7))
    refine bodyPost_ret (results_cell_row rfl _ _ gb241 33 #[.int .i64 0, .int .i64 0, .int .i64 0, .int .i64 0, .int .i64 0, .int .i64 0, .int .u32 0, .string (⟨#[]⟩ : ByteArray)] (0, 0) _ rfl (by (with_reducible repeat (first | refine blk_drewN ?_ _ | refine blk_drew ?_ | refine blk_alloc ?_ _)); refine blk_put (cs := #[.int .i64 0, .int .i64 0, .int .i64 0, .int .i64 0, .int .i64 0, .int .i64 0, .int .u32 0, .string (⟨#[]⟩ : ByteArray)]) ?_ 7 _ rfl; (with_reducible repeat (first | refine blk_drewN ?_ _ | refine blk_drew ?_ | refine blk_alloc ?_ _)); refine blk_put (cs := #[.int .i64 0, .int .i64 0, .int .i64 0, .int .i64 0, .int .i64 0, .int .i64 0, .int .u32 0, .string (⟨#[]⟩ : ByteArray)]) ?_ 6 _ rfl; (with_reducible repeat (first | refine blk_drewN ?_ _ | refine blk_drew ?_ | refine blk_alloc ?_ _)); refine blk_put (cs := #[.int .i64 0, .int .i64 0, .int .i64 0, .int .i64 0, .int .i64 0, .int .i64 0, .int .u32 0, .string (⟨#[]⟩ : ByteArray)]) ?_ 5 _ rfl; (with_reducible repeat (first | refine blk_drewN ?_ _ | refine blk_drew ?_ | refine blk_alloc ?_ _)); refine blk_put (cs := #[.int .i64 0, .int .i64 0, .int .i64 0, .int .i64 0, .int .i64 0, .int .i64 0, .int .u32 0, .string (⟨#[]⟩ : ByteArray)]) ?_ 4 _ rfl; (with_reducible repeat (first | refine blk_drewN ?_ _ | refine blk_drew ?_ | refine blk_alloc ?_ _)); refine blk_put (cs := #[.int .i64 0, .int .i64 0, .int .i64 0, .int .i64 0, .int .i64 0, .int .i64 0, .int .u32 0, .string (⟨#[]⟩ : ByteArray)]) ?_ 3 _ rfl; (with_reducible repeat (first | refine blk_drewN ?_ _ | refine blk_drew ?_ | refine blk_alloc ?_ _)); refine blk_put (cs := #[.int .i64 0, .int .i64 0, .int .i64 0, .int .i64 0, .int .i64 0, .int .i64 0, .int .u32 0, .string (⟨#[]⟩ : ByteArray)]) ?_ 2 _ rfl; (with_reducible repeat (first | refine blk_drewN ?_ _ | refine blk_drew ?_ | refine blk_alloc ?_ _)); refine blk_put (cs := #[.int .i64 0, .int .i64 0, .int .i64 0, .int .i64 0, .int .i64 0, .int .i64 0, .int .u32 0, .string (⟨#[]⟩ : ByteArray)]) ?_ 1 _ rfl; (with_reducible repeat (first | refine blk_drewN ?_ _ | refine blk_drew ?_ | refine blk_alloc ?_ _)); refine blk_put (cs := #[.int .i64 0, .int .i64 0, .int .i64 0, .int .i64 0, .int .i64 0, .int .i64 0, .int .u32 0, .string (⟨#[]⟩ : ByteArray)]) ?_ 0 _ rfl; (with_reducible repeat (first | refine blk_drewN ?_ _ | refine blk_drew ?_ | refine blk_alloc ?_ _)); exact BK241.out) Tryd.underlying33 rfl (by kernel_rfl)) rfl ?_
    exact ⟨by first | rfl | (simp [errW_none, errW_some] <;> rfl) | (simp [*, errW_none, errW_some] <;> rfl), by repeat (first | (with_reducible first | exact HB.out | apply below_alloc | apply pw_below_drewN | apply below_drew1 | refine below_set ?_ GE241.out) | exact HB.out)⟩
  · rw [if_neg c2] at H
    have c2b0 : decide (80 < (a0.size : Int)) = false := decide_eq_false c2
    have c2b1 : decide (80 < a0.size) = false := decide_eq_false (by omega)
    clear c2
    replace H := Option.bind_eq_some_iff.mp H
    obtain ⟨⟨t242, t243, t244, t245, t246, t247, t248, t249⟩, A50, H⟩ := H
    replace H : (some (t242, t243, t244, t245, t246, t247, t248, t249)) = some (r1, r2, r3, r4, r5, r6, r7, r8) := H
    have A5 := Aside0.mk A50
    clear A50
    simp only [Option.some.injEq, Prod.mk.injEq] at H
    obtain ⟨rfl, rfl, rfl, rfl, rfl, rfl, rfl, rfl⟩ := H
    go_enter Tryd.func11, Tryd.ntmps11
    go_wp2_with (first | ((with_reducible refine gate_dst (N := 2) rfl ?_); refine box_event ?hg (N := 2) ?hd (cs := #[.int .i64 0, .int .i64 0, .int .i64 0, .int .i64 0, .int .i64 0, .int .i64 0, .int .u32 0, .string (⟨#[]⟩ : ByteArray)]) (t := 33) ?hr ?_; (case hd => rfl); (case hg => rfl); (case hr => first | (go_simp; done) | (go_simp; rfl)); intro gb241 hg w6 hbox hb; have n0_ := Aside0.mk (below_step (by repeat (first | (with_reducible first | exact HB.out | apply below_alloc | apply pw_below_drewN | apply below_drew1) | exact HB.out)) hb); have n1_ := Aside0.mk (hbox); have n2_ := Aside0.mk ((by rw [hg]; exact (below_size (by repeat (first | (with_reducible first | exact HB.out | apply below_alloc | apply pw_below_drewN | apply below_drew1) | exact HB.out))) : w.heap.size ≤ gb241)); have n3_ := Aside0.mk ((by rw [hg]; exact (below_size (by repeat (first | (with_reducible first | exact HB.out | apply below_alloc | apply pw_below_drewN | apply below_drew1) | exact HB.out))) : w.heap.size ≤ gb241)); clear HB; have HB := n0_; have BK241 := n1_; have GW241 := n2_; have GE241 := n3_; clear n0_ n1_ n2_ n3_; clear hb hbox hg) | ((with_reducible refine gate_callee (f := 31) rfl ?_); refine goesL_ (some 8) rfl rfl Tryd.func31 (by kernel_rfl) rfl #[.string a0] rfl (by (try simp only [List.map_toArray, List.map_cons, List.map_nil]); first | done | rfl | (simp only [List.length_drop, List.length_take]; rfl)) ?_; (with_reducible refine (impl_readLine.calls a0 t242 t243 t244 t245 t246 t247 t248 t249 _ ?side1 A5.out).mono ?_); (case side1 => exact Tab.TabsODEM.below HTB.out (by repeat (first | (with_reducible first | exact HB.out | apply below_alloc | apply pw_below_drewN | apply below_drew1 | refine below_set ?_ GE241.out) | exact HB.out))); rintro e w7 ⟨rfl, hb⟩; refine ⟨_, rfl, ?_⟩; have n0_ := Aside0.mk (blk_below (g := gb241) (o := .cells #[.int .i64 0, .int .i64 0, .int .i64 0, .int .i64 0, .int .i64 0, .int .i64 0, .int .u32 0, .string (⟨#[]⟩ : ByteArray)] 33 (0, 0)) (by (with_reducible repeat (first | refine blk_drewN ?_ _ | refine blk_drew ?_ | refine blk_alloc ?_ _)); exact BK241.out) hb); have n1_ := Aside0.mk (below_step (by repeat (first | (with_reducible first | exact HB.out | apply below_alloc | apply pw_below_drewN | apply below_drew1 | refine below_set ?_ GE241.out) | exact HB.out)) hb); clear BK241; clear HB; have BK241 := n0_; have HB := n1_; clear n0_ n1_; (try clear hb); (try clear hb2); (try clear hk); (try clear hi); have hcz8_0 : w7.cell? ⟨gb241, 0, none⟩ = some (.int .i64 0) := (blk_cell BK241.out 0).trans rfl; have hcz8_1 : w7.cell? ⟨gb241, 1, none⟩ = some (.int .i64 0) := (blk_cell BK241.out 1).trans rfl; have hcz8_2 : w7.cell? ⟨gb241, 2, none⟩ = some (.int .i64 0) := (blk_cell BK241.out 2).trans rfl; have hcz8_3 : w7.cell? ⟨gb241, 3, none⟩ = some (.int .i64 0) := (blk_cell BK241.out 3).trans rfl; have hcz8_4 : w7.cell? ⟨gb241, 4, none⟩ = some (.int .i64 0) := (blk_cell BK241.out 4).trans rfl; have hcz8_5 : w7.cell? ⟨gb241, 5, none⟩ = some (.int .i64 0) := (blk_cell BK241.out 5).trans rfl; have hcz8_6 : w7.cell? ⟨gb241, 6, none⟩ = some (.int .u32 0) := (blk_cell BK241.out 6).trans rfl; have hcz8_7 : w7.cell? ⟨gb241, 7, none⟩ = some (.string (⟨#[]⟩ : ByteArray)) := (blk_cell BK241.out 7).trans rfl; have hfz8_0 := blk_frozen BK241.out 0; have hfz8_1 := blk_frozen BK241.out 1; have hfz8_2 := blk_frozen BK241.out 2; have hfz8_3 := blk_frozen BK241.out 3; have hfz8_4 := blk_frozen BK241.out 4; have hfz8_5 := blk_frozen BK241.out 5; have hfz8_6 := blk_frozen BK241.out 6; have hfz8_7 := blk_frozen BK241.out 7))
    refine bodyPost_ret (results_cell_row rfl _ _ gb241 33 #[.int .i64 t242, .int .i64 t243, .int .i64 t244, .int .i64 t245, .int .i64 t246, .int .i64 t247, .int .u32 t248, .string t249] (0, 0) _ rfl (by (with_reducible repeat (first | refine blk_drewN ?_ _ | refine blk_drew ?_ | refine blk_alloc ?_ _)); refine blk_put (cs := #[.int .i64 t242, .int .i64 t243, .int .i64 t244, .int .i64 t245, .int .i64 t246, .int .i64 t247, .int .u32 t248, .string (⟨#[]⟩ : ByteArray)]) ?_ 7 _ rfl; (with_reducible repeat (first | refine blk_drewN ?_ _ | refine blk_drew ?_ | refine blk_alloc ?_ _)); refine blk_put (cs := #[.int .i64 t242, .int .i64 t243, .int .i64 t244, .int .i64 t245, .int .i64 t246, .int .i64 t247, .int .u32 0, .string (⟨#[]⟩ : ByteArray)]) ?_ 6 _ rfl; (with_reducible repeat (first | refine blk_drewN ?_ _ | refine blk_drew ?_ | refine blk_alloc ?_ _)); refine blk_put (cs := #[.int .i64 t242, .int .i64 t243, .int .i64 t244, .int .i64 t245, .int .i64 t246, .int .i64 0, .int .u32 0, .string (⟨#[]⟩ : ByteArray)]) ?_ 5 _ rfl; (with_reducible repeat (first | refine blk_drewN ?_ _ | refine blk_drew ?_ | refine blk_alloc ?_ _)); refine blk_put (cs := #[.int .i64 t242, .int .i64 t243, .int .i64 t244, .int .i64 t245, .int .i64 0, .int .i64 0, .int .u32 0, .string (⟨#[]⟩ : ByteArray)]) ?_ 4 _ rfl; (with_reducible repeat (first | refine blk_drewN ?_ _ | refine blk_drew ?_ | refine blk_alloc ?_ _)); refine blk_put (cs := #[.int .i64 t242, .int .i64 t243, .int .i64 t244, .int .i64 0, .int .i64 0, .int .i64 0, .int .u32 0, .string (⟨#[]⟩ : ByteArray)]) ?_ 3 _ rfl; (with_reducible repeat (first | refine blk_drewN ?_ _ | refine blk_drew ?_ | refine blk_alloc ?_ _)); refine blk_put (cs := #[.int .i64 t242, .int .i64 t243, .int .i64 0, .int .i64 0, .int .i64 0, .int .i64 0, .int .u32 0, .string (⟨#[]⟩ : ByteArray)]) ?_ 2 _ rfl; (with_reducible repeat (first | refine blk_drewN ?_ _ | refine blk_drew ?_ | refine blk_alloc ?_ _)); refine blk_put (cs := #[.int .i64 t242, .int .i64 0, .int .i64 0, .int .i64 0, .int .i64 0, .int .i64 0, .int .u32 0, .string (⟨#[]⟩ : ByteArray)]) ?_ 1 _ rfl; (with_reducible repeat (first | refine blk_drewN ?_ _ | refine blk_drew ?_ | refine blk_alloc ?_ _)); refine blk_put (cs := #[.int .i64 0, .int .i64 0, .int .i64 0, .int .i64 0, .int .i64 0, .int .i64 0, .int .u32 0, .string (⟨#[]⟩ : ByteArray)]) ?_ 0 _ rfl; (with_reducible repeat (first | refine blk_drewN ?_ _ | refine blk_drew ?_ | refine blk_alloc ?_ _)); exact BK241.out) Tryd.underlying33 rfl (by kernel_rfl)) rfl ?_
    exact ⟨by first | rfl | (simp [errW_none, errW_some] <;> rfl) | (simp [*, errW_none, errW_some] <;> rfl), by repeat (first | (with_reducible first | exact HB.out | apply below_alloc | apply pw_below_drewN | apply below_drew1 | refine below_set ?_ GE241.out) | exact HB.out)⟩

/-! ### impl_decode: function 33 -/
def impl_decode.f (a0 : Int) : Option (Int × Int × Int × Int × Int × Bool) := if (wrap64 (Go.bits .and .u32 a0 16383)) > 8191 then ((impl_isInstr.f (wrap64 (a0 / 67108864)) (wrap64 (Go.bits .and .u32 (a0 / 4194304) 15)) (wrap64 (Go.bits .and .u32 (a0 / 262144) 15)) (wrap64 (Go.bits .and .u32 (a0 / 16384) 15)) (wrap64 ((wrap64 (Go.bits .and .u32 a0 16383)) - 16384))).bind fun t252 => (if t252 = true then (some (wrap64 (a0 / 67108864), wrap64 (Go.bits .and .u32 (a0 / 4194304) 15), wrap64 (Go.bits .and .u32 (a0 / 262144) 15), wrap64 (Go.bits .and .u32 (a0 / 16384) 15), wrap64 ((wrap64 (Go.bits .and .u32 a0 16383)) - 16384), true)) else (some (0, 0, 0, 0, 0, false)))) else ((impl_isInstr.f (wrap64 (a0 / 67108864)) (wrap64 (Go.bits .and .u32 (a0 / 4194304) 15)) (wrap64 (Go.bits .and .u32 (a0 / 262144) 15)) (wrap64 (Go.bits .and .u32 (a0 / 16384) 15)) (wrap64 (Go.bits .and .u32 a0 16383))).bind fun t254 => (if t254 = true then (some (wrap64 (a0 / 67108864), wrap64 (Go.bits .and .u32 (a0 / 4194304) 15), wrap64 (Go.bits .and .u32 (a0 / 262144) 15), wrap64 (Go.bits .and .u32 (a0 / 16384) 15), wrap64 (Go.bits .and .u32 a0 16383), true)) else (some (0, 0, 0, 0, 0, false))))
set_option maxHeartbeats 8000000 in
set_option maxRecDepth 100000 in
theorem impl_decode.calls (a0 : Int) (r1 : Int) (r2 : Int) (r3 : Int) (r4 : Int) (r5 : Int) (r6 : Bool) (w : World) (h : impl_decode.f a0 = some (r1, r2, r3, r4, r5, r6)) :
    Calls Tryd.prog 33 #[.int .u32 a0] w fun e w' => e = .returned (.tuple #[.agg #[.int .i64 r1, .int .i64 r2, .int .i64 r3, .int .i64 r4, .int .i64 r5], .bool r6]) ∧ Below w.heap.size w w' := by
  have hu25 := Tryd.underlying25
  have HB := Aside0.mk (Below.refl w.heap.size w)
  have H : (if (wrap64 (Go.bits .and .u32 a0 16383)) > 8191 then ((impl_isInstr.f (wrap64 (a0 / 67108864)) (wrap64 (Go.bits .and .u32 (a0 / 4194304) 15)) (wrap64 (Go.bits .and .u32 (a0 / 262144) 15)) (wrap64 (Go.bits .and .u32 (a0 / 16384) 15)) (wrap64 ((wrap64 (Go.bits .and .u32 a0 16383)) - 16384))).bind fun t252 => (if t252 = true then (some (wrap64 (a0 / 67108864), wrap64 (Go.bits .and .u32 (a0 / 4194304) 15), wrap64 (Go.bits .and .u32 (a0 / 262144) 15), wrap64 (Go.bits .and .u32 (a0 / 16384) 15), wrap64 ((wrap64 (Go.bits .and .u32 a0 16383)) - 16384), true)) else (some (0, 0, 0, 0, 0, false)))) else ((impl_isInstr.f (wrap64 (a0 / 67108864)) (wrap64 (Go.bits .and .u32 (a0 / 4194304) 15)) (wrap64 (Go.bits .and .u32 (a0 / 262144) 15)) (wrap64 (Go.bits .and .u32 (a0 / 16384) 15)) (wrap64 (Go.bits .and .u32 a0 16383))).bind fun t254 => (if t254 = true then (some (wrap64 (a0 / 67108864), wrap64 (Go.bits .and .u32 (a0 / 4194304) 15), wrap64 (Go.bits .and .u32 (a0 / 262144) 15), wrap64 (Go.bits .and .u32 (a0 / 16384) 15), wrap64 (Go.bits .and .u32 a0 16383), true)) else (some (0, 0, 0, 0, 0, false))))) = some (r1, r2, r3, r4, r5, r6) := h
  clear h
  by_cases c2 : (wrap64 (Go.bits .and .u32 a0 16383)) > 8191
  · rw [if_pos c2] at H
    have c2b0 : decide (8191 < (wrap64 (Go.bits .and .u32 a0 16383))) = true := decide_eq_true c2
    clear c2
    replace H := Option.bind_eq_some_iff.mp H
    obtain ⟨t252, A30, H⟩ := H
    replace H : (if t252 = true then (some (wrap64 (a0 / 67108864), wrap64 (Go.bits .and .u32 (a0 / 4194304) 15), wrap64 (Go.bits .and .u32 (a0 / 262144) 15), wrap64 (Go.bits .and .u32 (a0 / 16384) 15), wrap64 ((wrap64 (Go.bits .and .u32 a0 16383)) - 16384), true)) else (some (0, 0, 0, 0, 0, false))) = some (r1, r2, r3, r4, r5, r6) := H
    have A3 := Aside0.mk A30
    clear A30
    by_cases c4 : t252 = true
    · subst c4
      have H1 : (some (wrap64 (a0 / 67108864), wrap64 (Go.bits .and .u32 (a0 / 4194304) 15), wrap64 (Go.bits .and .u32 (a0 / 262144) 15), wrap64 (Go.bits .and .u32 (a0 / 16384) 15), wrap64 ((wrap64 (Go.bits .and .u32 a0 16383)) - 16384), true)) = some (r1, r2, r3, r4, r5, r6) := by rw [if_pos rfl] at H; exact H
      clear H
      have H := H1
      clear H1
      simp only [Option.some.injEq, Prod.mk.injEq] at H
      obtain ⟨rfl, rfl, rfl, rfl, rfl, rfl⟩ := H
      go_enter Tryd.func33, Tryd.ntmps33
      go_wp2_with (first | ((with_reducible refine gate_dst (N := 2) rfl ?_); refine box_event ?hg (N := 2) ?hd (cs := #[.int .i64 0, .int .i64 0, .int .i64 0, .int .i64 0, .int .i64 0]) (t := 25) ?hr ?_; (case hd => rfl); (case hg => rfl); (case hr => first | (go_simp; done) | (go_simp; rfl)); intro gb250 hg w5 hbox hb; have n0_ := Aside0.mk (below_step (by repeat (first | (with_reducible first | exact HB.out | apply below_alloc | apply pw_below_drewN | apply below_drew1) | exact HB.out)) hb); have n1_ := Aside0.mk (hbox); have n2_ := Aside0.mk ((by rw [hg]; exact (below_size (by repeat (first | (with_reducible first | exact HB.out | apply below_alloc | apply pw_below_drewN | apply below_drew1) | exact HB.out))) : w.heap.size ≤ gb250)); have n3_ := Aside0.mk ((by rw [hg]; exact (below_size (by repeat (first | (with_reducible first | exact HB.out | apply below_alloc | apply pw_below_drewN | apply below_drew1) | exact HB.out))) : w.heap.size ≤ gb250)); clear HB; have HB := n0_; have BK250 := n1_; have GW250 := n2_; have GE250 := n3_; clear n0_ n1_ n2_ n3_; clear hb hbox hg) | ((with_reducible refine gate_dst (N := 5) rfl ?_); refine box_event ?hg (N := 5) ?hd (cs := #[.int .i64 0, .int .i64 0, .int .i64 0, .int .i64 0, .int .i64 0]) (t := 25) ?hr ?_; (case hd => rfl); (case hg => rfl); (case hr => first | (go_simp; done) | (go_simp; rfl)); intro gb251 hg w6 hbox hb; have n0_ := Aside0.mk (blk_below (g := gb250) (o := .cells #[.int .i64 0, .int .i64 0, .int .i64 0, .int .i64 0, .int .i64 0] 25 (0, 0)) (by (with_reducible repeat (first | refine blk_drewN ?_ _ | refine blk_drew ?_ | refine blk_alloc ?_ _)); exact BK250.out) hb); have n1_ := Aside0.mk (below_step (by repeat (first | (with_reducible first | exact HB.out | apply below_alloc | apply pw_below_drewN | apply below_drew1 | refine below_set ?_ GE250.out) | exact HB.out)) hb); have n2_ := Aside0.mk (hbox); have n3_ := Aside0.mk ((by rw [hg]; exact (below_size (by repeat (first | (with_reducible first | exact HB.out | apply below_alloc | apply pw_below_drewN | apply below_drew1 | refine below_set ?_ GE250.out) | exact HB.out))) : w.heap.size ≤ gb251)); have n4_ := Aside0.mk ((by rw [hg]; exact (below_size (by repeat (first | (with_reducible first | exact HB.out | apply below_alloc | apply pw_below_drewN | apply below_drew1 | refine below_set ?_ GE250.out) | exact HB.out))) : w.heap.size ≤ gb251)); have n5_ := Aside0.mk ((by rw [hg]; exact Nat.ne_of_lt (blk_lt (g := gb250) (o := .cells #[.int .i64 0, .int .i64 0, .int .i64 0, .int .i64 0, .int .i64 0] 25 (0, 0)) (by (with_reducible repeat (first | refine blk_drewN ?_ _ | refine blk_drew ?_ | refine blk_alloc ?_ _)); exact BK250.out)) : gb250 ≠ gb251)); have n6_ := Aside0.mk ((by rw [hg]; exact Nat.ne_of_gt (blk_lt (g := gb250) (o := .cells #[.int .i64 0, .int .i64 0, .int .i64 0, .int .i64 0, .int .i64 0] 25 (0, 0)) (by (with_reducible repeat (first | refine blk_drewN ?_ _ | refine blk_drew ?_ | refine blk_alloc ?_ _)); exact BK250.out)) : gb251 ≠ gb250)); clear BK250; clear HB; have BK250 := n0_; have HB := n1_; have BK251 := n2_; have GW251 := n3_; have GE251 := n4_; have NB250_251 := n5_; have NB251_250 := n6_; clear n0_ n1_ n2_ n3_ n4_ n5_ n6_; clear hb hbox hg; have hnb7 := NB251_250.out; have hnc7 := NB250_251.out; have hcz8_0 : w6.cell? ⟨gb251, 0, none⟩ = some (.int .i64 0) := (blk_cell BK251.out 0).trans rfl; have hcz8_1 : w6.cell? ⟨gb251, 1, none⟩ = some (.int .i64 0) := (blk_cell BK251.out 1).trans rfl; have hcz8_2 : w6.cell? ⟨gb251, 2, none⟩ = some (.int .i64 0) := (blk_cell BK251.out 2).trans rfl; have hcz8_3 : w6.cell? ⟨gb251, 3, none⟩ = some (.int .i64 0) := (blk_cell BK251.out 3).trans rfl; have hcz8_4 : w6.cell? ⟨gb251, 4, none⟩ = some (.int .i64 0) := (blk_cell BK251.out 4).trans rfl; have hfz8_0 := blk_frozen BK251.out 0; have hfz8_1 := blk_frozen BK251.out 1; have hfz8_2 := blk_frozen BK251.out 2; have hfz8_3 := blk_frozen BK251.out 3; have hfz8_4 := blk_frozen BK251.out 4) | ((with_reducible refine gate_callee (f := 26) rfl ?_); refine goesL_ (some 31) rfl rfl Tryd.func26 (by kernel_rfl) rfl #[.agg #[.int .i64 (wrap64 (a0 / 67108864)), .int .i64 (wrap64 (Go.bits .and .u32 (a0 / 4194304) 15)), .int .i64 (wrap64 (Go.bits .and .u32 (a0 / 262144) 15)), .int .i64 (wrap64 (Go.bits .and .u32 (a0 / 16384) 15)), .int .i64 (wrap64 ((wrap64 (Go.bits .and .u32 a0 16383)) - 16384))]] rfl (by (try simp only [List.map_toArray, List.map_cons, List.map_nil]); first | done | rfl | (simp only [List.length_drop, List.length_take]; rfl)) ?_; (with_reducible refine (impl_isInstr.calls (wrap64 (a0 / 67108864)) (wrap64 (Go.bits .and .u32 (a0 / 4194304) 15)) (wrap64 (Go.bits .and .u32 (a0 / 262144) 15)) (wrap64 (Go.bits .and .u32 (a0 / 16384) 15)) (wrap64 ((wrap64 (Go.bits .and .u32 a0 16383)) - 16384)) true _ A3.out).mono ?_); rintro e w9 ⟨rfl, hb⟩; refine ⟨_, rfl, ?_⟩; have n0_ := Aside0.mk (blk_below (g := gb250) (o := .cells #[.int .i64 0, .int .i64 0, .int .i64 0, .int .i64 0, .int .i64 0] 25 (0, 0)) (by (with_reducible repeat (first | refine blk_drewN ?_ _ | refine blk_drew ?_ | refine blk_alloc ?_ _)); refine blk_far ?_ NB250_251.out _; (with_reducible repeat (first | refine blk_drewN ?_ _ | refine blk_drew ?_ | refine blk_alloc ?_ _)); refine blk_far ?_ NB250_251.out _; (with_reducible repeat (first | refine blk_drewN ?_ _ | refine blk_drew ?_ | refine blk_alloc ?_ _)); refine blk_far ?_ NB250_251.out _; (with_reducible repeat (first | refine blk_drewN ?_ _ | refine blk_drew ?_ | refine blk_alloc ?_ _)); refine blk_far ?_ NB250_251.out _; (with_reducible repeat (first | refine blk_drewN ?_ _ | refine blk_drew ?_ | refine blk_alloc ?_ _)); refine blk_far ?_ NB250_251.out _; (with_reducible repeat (first | refine blk_drewN ?_ _ | refine blk_drew ?_ | refine blk_alloc ?_ _)); exact BK250.out) hb); have n1_ := Aside0.mk (blk_below (g := gb251) (o := .cells #[.int .i64 (wrap64 (a0 / 67108864)), .int .i64 (wrap64 (Go.bits .and .u32 (a0 / 4194304) 15)), .int .i64 (wrap64 (Go.bits .and .u32 (a0 / 262144) 15)), .int .i64 (wrap64 (Go.bits .and .u32 (a0 / 16384) 15)), .int .i64 (wrap64 ((wrap64 (Go.bits .and .u32 a0 16383)) - 16384))] 25 (0, 0)) (by (with_reducible repeat (first | refine blk_drewN ?_ _ | refine blk_drew ?_ | refine blk_alloc ?_ _)); refine blk_put (cs := #[.int .i64 (wrap64 (a0 / 67108864)), .int .i64 (wrap64 (Go.bits .and .u32 (a0 / 4194304) 15)), .int .i64 (wrap64 (Go.bits .and .u32 (a0 / 262144) 15)), .int .i64 (wrap64 (Go.bits .and .u32 (a0 / 16384) 15)), .int .i64 0]) ?_ 4 _ rfl; (with_reducible repeat (first | refine blk_drewN ?_ _ | refine blk_drew ?_ | refine blk_alloc ?_ _)); refine blk_put (cs := #[.int .i64 (wrap64 (a0 / 67108864)), .int .i64 (wrap64 (Go.bits .and .u32 (a0 / 4194304) 15)), .int .i64 (wrap64 (Go.bits .and .u32 (a0 / 262144) 15)), .int .i64 0, .int .i64 0]) ?_ 3 _ rfl; (with_reducible repeat (first | refine blk_drewN ?_ _ | refine blk_drew ?_ | refine blk_alloc ?_ _)); refine blk_put (cs := #[.int .i64 (wrap64 (a0 / 67108864)), .int .i64 (wrap64 (Go.bits .and .u32 (a0 / 4194304) 15)), .int .i64 0, .int .i64 0, .int .i64 0]) ?_ 2 _ rfl; (with_reducible repeat (first | refine blk_drewN ?_ _ | refine blk_drew ?_ | refine blk_alloc ?_ _)); refine blk_put (cs := #[.int .i64 (wrap64 (a0 / 67108864)), .int .i64 0, .int .i64 0, .int .i64 0, .int .i64 0]) ?_ 1 _ rfl; (with_reducible repeat (first | refine blk_drewN ?_ _ | refine blk_drew ?_ | refine blk_alloc ?_ _)); refine blk_put (cs := #[.int .i64 0, .int .i64 0, .int .i64 0, .int .i64 0, .int .i64 0]) ?_ 0 _ rfl; (with_reducible repeat (first | refine blk_drewN ?_ _ | refine blk_drew ?_ | refine blk_alloc ?_ _)); exact BK251.out) hb); have n2_ := Aside0.mk (below_step (by repeat (first | (with_reducible first | exact HB.out | apply below_alloc | apply pw_below_drewN | apply below_drew1 | refine below_set ?_ GE250.out | refine below_set ?_ GE251.out) | exact HB.out)) hb); clear BK250; clear BK251; clear HB; have BK250 := n0_; have BK251 := n1_; have HB := n2_; clear n0_ n1_ n2_; (try clear hb); (try clear hb2); (try clear hk); (try clear hi); have hcz10_0 : w9.cell? ⟨gb251, 0, none⟩ = some (.int .i64 (wrap64 (a0 / 67108864))) := (blk_cell BK251.out 0).trans rfl; have hcz10_1 : w9.cell? ⟨gb251, 1, none⟩ = some (.int .i64 (wrap64 (Go.bits .and .u32 (a0 / 4194304) 15))) := (blk_cell BK251.out 1).trans rfl; have hcz10_2 : w9.cell? ⟨gb251, 2, none⟩ = some (.int .i64 (wrap64 (Go.bits .and .u32 (a0 / 262144) 15))) := (blk_cell BK251.out 2).trans rfl; have hcz10_3 : w9.cell? ⟨gb251, 3, none⟩ = some (.int .i64 (wrap64 (Go.bits .and .u32 (a0 / 16384) 15))) := (blk_cell BK251.out 3).trans rfl; have hcz10_4 : w9.cell? ⟨gb251, 4, none⟩ = some (.int .i64 (wrap64 ((wrap64 (Go.bits .and .u32 a0 16383)) - 16384))) := (blk_cell BK251.out 4).trans rfl; have hfz10_0 := blk_frozen BK251.out 0; have hfz10_1 := blk_frozen BK251.out 1; have hfz10_2 := blk_frozen BK251.out 2; have hfz10_3 := blk_frozen BK251.out 3; have hfz10_4 := blk_frozen BK251.out 4; have hcz11_0 : w9.cell? ⟨gb250, 0, none⟩ = some (.int .i64 0) := (blk_cell BK250.out 0).trans rfl; have hcz11_1 : w9.cell? ⟨gb250, 1, none⟩ = some (.int .i64 0) := (blk_cell BK250.out 1).trans rfl; have hcz11_2 : w9.cell? ⟨gb250, 2, none⟩ = some (.int .i64 0) := (blk_cell BK250.out 2).trans rfl; have hcz11_3 : w9.cell? ⟨gb250, 3, none⟩ = some (.int .i64 0) := (blk_cell BK250.out 3).trans rfl; have hcz11_4 : w9.cell? ⟨gb250, 4, none⟩ = some (.int .i64 0) := (blk_cell BK250.out 4).trans rfl; have hfz11_0 := blk_frozen BK250.out 0; have hfz11_1 := blk_frozen BK250.out 1; have hfz11_2 := blk_frozen BK250.out 2; have hfz11_3 := blk_frozen BK250.out 3; have hfz11_4 := blk_frozen BK250.out 4))
      refine bodyPost_ret (results_ct rfl _ _ gb250 25 #[.int .i64 (wrap64 (a0 / 67108864)), .int .i64 (wrap64 (Go.bits .and .u32 (a0 / 4194304) 15)), .int .i64 (wrap64 (Go.bits .and .u32 (a0 / 262144) 15)), .int .i64 (wrap64 (Go.bits .and .u32 (a0 / 16384) 15)), .int .i64 (wrap64 ((wrap64 (Go.bits .and .u32 a0 16383)) - 16384))] (0, 0) _ rfl (by (with_reducible repeat (first | refine blk_drewN ?_ _ | refine blk_drew ?_ | refine blk_alloc ?_ _)); refine blk_put (cs := #[.int .i64 (wrap64 (a0 / 67108864)), .int .i64 (wrap64 (Go.bits .and .u32 (a0 / 4194304) 15)), .int .i64 (wrap64 (Go.bits .and .u32 (a0 / 262144) 15)), .int .i64 (wrap64 (Go.bits .and .u32 (a0 / 16384) 15)), .int .i64 0]) ?_ 4 _ rfl; (with_reducible repeat (first | refine blk_drewN ?_ _ | refine blk_drew ?_ | refine blk_alloc ?_ _)); refine blk_put (cs := #[.int .i64 (wrap64 (a0 / 67108864)), .int .i64 (wrap64 (Go.bits .and .u32 (a0 / 4194304) 15)), .int .i64 (wrap64 (Go.bits .and .u32 (a0 / 262144) 15)), .int .i64 0, .int .i64 0]) ?_ 3 _ rfl; (with_reducible repeat (first | refine blk_drewN ?_ _ | refine blk_drew ?_ | refine blk_alloc ?_ _)); refine blk_put (cs := #[.int .i64 (wrap64 (a0 / 67108864)), .int .i64 (wrap64 (Go.bits .and .u32 (a0 / 4194304) 15)), .int .i64 0, .int .i64 0, .int .i64 0]) ?_ 2 _ rfl; (with_reducible repeat (first | refine blk_drewN ?_ _ | refine blk_drew ?_ | refine blk_alloc ?_ _)); refine blk_put (cs := #[.int .i64 (wrap64 (a0 / 67108864)), .int .i64 0, .int .i64 0, .int .i64 0, .int .i64 0]) ?_ 1 _ rfl; (with_reducible repeat (first | refine blk_drewN ?_ _ | refine blk_drew ?_ | refine blk_alloc ?_ _)); refine blk_put (cs := #[.int .i64 0, .int .i64 0, .int .i64 0, .int .i64 0, .int .i64 0]) ?_ 0 _ rfl; (with_reducible repeat (first | refine blk_drewN ?_ _ | refine blk_drew ?_ | refine blk_alloc ?_ _)); exact BK250.out) Tryd.underlying25 rfl (by kernel_rfl)) rfl ?_
      exact ⟨by first | rfl | (simp [errW_none, errW_some] <;> rfl) | (simp [*, errW_none, errW_some] <;> rfl), by repeat (first | (with_reducible first | exact HB.out | apply below_alloc | apply pw_below_drewN | apply below_drew1 | refine below_set ?_ GE250.out | refine below_set ?_ GE251.out) | exact HB.out)⟩
    · replace c4 := Bool.eq_false_iff.mpr c4
      subst c4
      have H1 : (some (0, 0, 0, 0, 0, false)) = some (r1, r2, r3, r4, r5, r6) := by rw [if_neg (show ¬ (false = true) by decide)] at H; exact H
      clear H
      have H := H1
      clear H1
      simp only [Option.some.injEq, Prod.mk.injEq] at H
      obtain ⟨rfl, rfl, rfl, rfl, rfl, rfl⟩ := H
      go_enter Tryd.func33, Tryd.ntmps33
      go_wp2_with (first | ((with_reducible refine gate_dst (N := 2) rfl ?_); refine box_event ?hg (N := 2) ?hd (cs := #[.int .i64 0, .int .i64 0, .int .i64 0, .int .i64 0, .int .i64 0]) (t := 25) ?hr ?_; (case hd => rfl); (case hg => rfl); (case hr => first | (go_simp; done) | (go_simp; rfl)); intro gb250 hg w12 hbox hb; have n0_ := Aside0.mk (below_step (by repeat (first | (with_reducible first | exact HB.out | apply below_alloc | apply pw_below_drewN | apply below_drew1) | exact HB.out)) hb); have n1_ := Aside0.mk (hbox); have n2_ := Aside0.mk ((by rw [hg]; exact (below_size (by repeat (first | (with_reducible first | exact HB.out | apply below_alloc | apply pw_below_drewN | apply below_drew1) | exact HB.out))) : w.heap.size ≤ gb250)); have n3_ := Aside0.mk ((by rw [hg]; exact (below_size (by repeat (first | (with_reducible first | exact HB.out | apply below_alloc | apply pw_below_drewN | apply below_drew1) | exact HB.out))) : w.heap.size ≤ gb250)); clear HB; have HB := n0_; have BK250 := n1_; have GW250 := n2_; have GE250 := n3_; clear n0_ n1_ n2_ n3_; clear hb hbox hg) | ((with_reducible refine gate_dst (N := 5) rfl ?_); refine box_event ?hg (N := 5) ?hd (cs := #[.int .i64 0, .int .i64 0, .int .i64 0, .int .i64 0, .int .i64 0]) (t := 25) ?hr ?_; (case hd => rfl); (case hg => rfl); (case hr => first | (go_simp; done) | (go_simp; rfl)); intro gb251 hg w13 hbox hb; have n0_ := Aside0.mk (blk_below (g := gb250) (o := .cells #[.int .i64 0, .int .i64 0, .int .i64 0, .int .i64 0, .int .i64 0] 25 (0, 0)) (by (with_reducible repeat (first | refine blk_drewN ?_ _ | refine blk_drew ?_ | refine blk_alloc ?_ _)); exact BK250.out) hb); have n1_ := Aside0.mk (below_step (by repeat (first | (with_reducible first | exact HB.out | apply below_alloc | apply pw_below_drewN | apply below_drew1 | refine below_set ?_ GE250.out) | exact HB.out)) hb); have n2_ := Aside0.mk (hbox); have n3_ := Aside0.mk ((by rw [hg]; exact (below_size (by repeat (first | (with_reducible first | exact HB.out | apply below_alloc | apply pw_below_drewN | apply below_drew1 | refine below_set ?_ GE250.out) | exact HB.out))) : w.heap.size ≤ gb251)); have n4_ := Aside0.mk ((by rw [hg]; exact (below_size (by repeat (first | (with_reducible first | exact HB.out | apply below_alloc | apply pw_below_drewN | apply below_drew1 | refine below_set ?_ GE250.out) | exact HB.out))) : w.heap.size ≤ gb251)); have n5_ := Aside0.mk ((by rw [hg]; exact Nat.ne_of_lt (blk_lt (g := gb250) (o := .cells #[.int .i64 0, .int .i64 0, .int .i64 0, .int .i64 0, .int .i64 0] 25 (0, 0)) (by (with_reducible repeat (first | refine blk_drewN ?_ _ | refine blk_drew ?_ | refine blk_alloc ?_ _)); exact BK250.out)) : gb250 ≠ gb251)); have n6_ := Aside0.mk ((by rw [hg]; exact Nat.ne_of_gt (blk_lt (g := gb250) (o := .cells #[.int .i64 0, .int .i64 0, .int .i64 0, .int .i64 0, .int .i64 0] 25 (0, 0)) (by (with_reducible repeat (first | refine blk_drewN ?_ _ | refine blk_drew ?_ | refine blk_alloc ?_ _)); exact BK250.out)) : gb251 ≠ gb250)); clear BK250; clear HB; have BK250 := n0_; have HB := n1_; have BK251 := n2_; have GW251 := n3_; have GE251 := n4_; have NB250_251 := n5_; have NB251_250 := n6_; clear n0_ n1_ n2_ n3_ n4_ n5_ n6_; clear hb hbox hg; have hnb14 := NB251_250.out; have hnc14 := NB250_251.out; have hcz15_0 : w13.cell? ⟨gb251, 0, none⟩ = some (.int .i64 0) := (blk_cell BK251.out 0).trans rfl; have hcz15_1 : w13.cell? ⟨gb251, 1, none⟩ = some (.int .i64 0) := (blk_cell BK251.out 1).trans rfl; have hcz15_2 : w13.cell? ⟨gb251, 2, none⟩ = some (.int .i64 0) := (blk_cell BK251.out 2).trans rfl; have hcz15_3 : w13.cell? ⟨gb251, 3, none⟩ = some (.int .i64 0) := (blk_cell BK251.out 3).trans rfl; have hcz15_4 : w13.cell? ⟨gb251, 4, none⟩ = some (.int .i64 0) := (blk_cell BK251.out 4).trans rfl; have hfz15_0 := blk_frozen BK251.out 0; have hfz15_1 := blk_frozen BK251.out 1; have hfz15_2 := blk_frozen BK251.out 2; have hfz15_3 := blk_frozen BK251.out 3; have hfz15_4 := blk_frozen BK251.out 4) | ((with_reducible refine gate_callee (f := 26) rfl ?_); refine goesL_ (some 31) rfl rfl Tryd.func26 (by kernel_rfl) rfl #[.agg #[.int .i64 (wrap64 (a0 / 67108864)), .int .i64 (wrap64 (Go.bits .and .u32 (a0 / 4194304) 15)), .int .i64 (wrap64 (Go.bits .and .u32 (a0 / 262144) 15)), .int .i64 (wrap64 (Go.bits .and .u32 (a0 / 16384) 15)), .int .i64 (wrap64 ((wrap64 (Go.bits .and .u32 a0 16383)) - 16384))]] rfl (by (try simp only [List.map_toArray, List.map_cons, List.map_nil]); first | done | rfl | (simp only [List.length_drop, List.length_take]; rfl)) ?_; (with_reducible refine (impl_isInstr.calls (wrap64 (a0 / 67108864)) (wrap64 (Go.bits .and .u32 (a0 / 4194304) 15)) (wrap64 (Go.bits .and .u32 (a0 / 262144) 15)) (wrap64 (Go.bits .and .u32 (a0 / 16384) 15)) (wrap64 ((wrap64 (Go.bits .and .u32 a0 16383)) - 16384)) false _ A3.out).mono ?_); rintro e w16 ⟨rfl, hb⟩; refine ⟨_, rfl, ?_⟩; have n0_ := Aside0.mk (blk_below (g := gb250) (o := .cells #[.int .i64 0, .int .i64 0, .int .i64 0, .int .i64 0, .int .i64 0] 25 (0, 0)) (by (with_reducible repeat (first | refine blk_drewN ?_ _ | refine blk_drew ?_ | refine blk_alloc ?_ _)); refine blk_far ?_ NB250_251.out _; (with_reducible repeat (first | refine blk_drewN ?_ _ | refine blk_drew ?_ | refine blk_alloc ?_ _)); refine blk_far ?_ NB250_251.out _; (with_reducible repeat (first | refine blk_drewN ?_ _ | refine blk_drew ?_ | refine blk_alloc ?_ _)); refine blk_far ?_ NB250_251.out _; (with_reducible repeat (first | refine blk_drewN ?_ _ | refine blk_drew ?_ | refine blk_alloc ?_ _)); refine blk_far ?_ NB250_251.out _; (with_reducible repeat (first | refine blk_drewN ?_ _ | refine blk_drew ?_ | refine blk_alloc ?_ _)); refine blk_far ?_ NB250_251.out _; (with_reducible repeat (first | refine blk_drewN ?_ _ | refine blk_drew ?_ | refine blk_alloc ?_ _)); exact BK250.out) hb); have n1_ := Aside0.mk (blk_below (g := gb251) (o := .cells #[.int .i64 (wrap64 (a0 / 67108864)), .int .i64 (wrap64 (Go.bits .and .u32 (a0 / 4194304) 15)), .int .i64 (wrap64 (Go.bits .and .u32 (a0 / 262144) 15)), .int .i64 (wrap64 (Go.bits .and .u32 (a0 / 16384) 15)), .int .i64 (wrap64 ((wrap64 (Go.bits .and .u32 a0 16383)) - 16384))] 25 (0, 0)) (by (with_reducible repeat (first | refine blk_drewN ?_ _ | refine blk_drew ?_ | refine blk_alloc ?_ _)); refine blk_put (cs := #[.int .i64 (wrap64 (a0 / 67108864)), .int .i64 (wrap64 (Go.bits .and .u32 (a0 / 4194304) 15)), .int .i64 (wrap64 (Go.bits .and .u32 (a0 / 262144) 15)), .int .i64 (wrap64 (Go.bits .and .u32 (a0 / 16384) 15)), .int .i64 0]) ?_ 4 _ rfl; (with_reducible repeat (first | refine blk_drewN ?_ _ | refine blk_drew ?_ | refine blk_alloc ?_ _)); refine blk_put (cs := #[.int .i64 (wrap64 (a0 / 67108864)), .int .i64 (wrap64 (Go.bits .and .u32 (a0 / 4194304) 15)), .int .i64 (wrap64 (Go.bits .and .u32 (a0 / 262144) 15)), .int .i64 0, .int .i64 0]) ?_ 3 _ rfl; (with_reducible repeat (first | refine blk_drewN ?_ _ | refine blk_drew ?_ | refine blk_alloc ?_ _)); refine blk_put (cs := #[.int .i64 (wrap64 (a0 / 67108864)), .int .i64 (wrap64 (Go.bits .and .u32 (a0 / 4194304) 15)), .int .i64 0, .int .i64 0, .int .i64 0]) ?_ 2 _ rfl; (with_reducible repeat (first | refine blk_drewN ?_ _ | refine blk_drew ?_ | refine blk_alloc ?_ _)); refine blk_put (cs := #[.int .i64 (wrap64 (a0 / 67108864)), .int .i64 0, .int .i64 0, .int .i64 0, .int .i64 0]) ?_ 1 _ rfl; (with_reducible repeat (first | refine blk_drewN ?_ _ | refine blk_drew ?_ | refine blk_alloc ?_ _)); refine blk_put (cs := #[.int .i64 0, .int .i64 0, .int .i64 0, .int .i64 0, .int .i64 0]) ?_ 0 _ rfl; (with_reducible repeat (first | refine blk_drewN ?_ _ | refine blk_drew ?_ | refine blk_alloc ?_ _)); exact BK251.out) hb); have n2_ := Aside0.mk (below_step (by repeat (first | (with_reducible first | exact HB.out | apply below_alloc | apply pw_below_drewN | apply below_drew1 | refine below_set ?_ GE250.out | refine below_set ?_ GE251.out) | exact HB.out)) hb); clear BK250; clear BK251; clear HB; have BK250 := n0_; have BK251 := n1_; have HB := n2_; clear n0_ n1_ n2_; (try clear hb); (try clear hb2); (try clear hk); (try clear hi); have hcz17_0 : w16.cell? ⟨gb250, 0, none⟩ = some (.int .i64 0) := (blk_cell BK250.out 0).trans rfl; have hcz17_1 : w16.cell? ⟨gb250, 1, none⟩ = some (.int .i64 0) := (blk_cell BK250.out 1).trans rfl; have hcz17_2 : w16.cell? ⟨gb250, 2, none⟩ = some (.int .i64 0) := (blk_cell BK250.out 2).trans rfl; have hcz17_3 : w16.cell? ⟨gb250, 3, none⟩ = some (.int .i64 0) := (blk_cell BK250.out 3).trans rfl; have hcz17_4 : w16.cell? ⟨gb250, 4, none⟩ = some (.int .i64 0) := (blk_cell BK250.out 4).trans rfl; have hfz17_0 := blk_frozen BK250.out 0; have hfz17_1 := blk_frozen BK250.out 1; have hfz17_2 := blk_frozen BK250.out 2; have hfz17_3 := blk_frozen BK250.out 3; have hfz17_4 := blk_frozen BK250.out 4))
      refine bodyPost_ret (results_ct rfl _ _ gb250 25 #[.int .i64 0, .int .i64 0, .int .i64 0, .int .i64 0, .int .i64 0] (0, 0) _ rfl (by (with_reducible repeat (first | refine blk_drewN ?_ _ | refine blk_drew ?_ | refine blk_alloc ?_ _)); refine blk_put (cs := #[.int .i64 0, .int .i64 0, .int .i64 0, .int .i64 0, .int .i64 0]) ?_ 4 _ rfl; (with_reducible repeat (first | refine blk_drewN ?_ _ | refine blk_drew ?_ | refine blk_alloc ?_ _)); refine blk_put (cs := #[.int .i64 0, .int .i64 0, .int .i64 0, .int .i64 0, .int .i64 0]) ?_ 3 _ rfl; (with_reducible repeat (first | refine blk_drewN ?_ _ | refine blk_drew ?_ | refine blk_alloc ?_ _)); refine blk_put (cs := #[.int .i64 0, .int .i64 0, .int .i64 0, .int .i64 0, .int .i64 0]) ?_ 2 _ rfl; (with_reducible repeat (first | refine blk_drewN ?_ _ | refine blk_drew ?_ | refine blk_alloc ?_ _)); refine blk_put (cs := #[.int .i64 0, .int .i64 0, .int .i64 0, .int .i64 0, .int .i64 0]) ?_ 1 _ rfl; (with_reducible repeat (first | refine blk_drewN ?_ _ | refine blk_drew ?_ | refine blk_alloc ?_ _)); refine blk_put (cs := #[.int .i64 0, .int .i64 0, .int .i64 0, .int .i64 0, .int .i64 0]) ?_ 0 _ rfl; (with_reducible repeat (first | refine blk_drewN ?_ _ | refine blk_drew ?_ | refine blk_alloc ?_ _)); exact BK250.out) Tryd.underlying25 rfl (by kernel_rfl)) rfl ?_
      exact ⟨by first | rfl | (simp [errW_none, errW_some] <;> rfl) | (simp [*, errW_none, errW_some] <;> rfl), by repeat (first | (with_reducible first | exact HB.out | apply below_alloc | apply pw_below_drewN | apply below_drew1 | refine below_set ?_ GE250.out | refine below_set ?_ GE251.out) | exact HB.out)⟩
  · rw [if_neg c2] at H
    have c2b0 : decide (8191 < (wrap64 (Go.bits .and .u32 a0 16383))) = false := decide_eq_false c2
    clear c2
    replace H := Option.bind_eq_some_iff.mp H
    obtain ⟨t254, A180, H⟩ := H
    replace H : (if t254 = true then (some (wrap64 (a0 / 67108864), wrap64 (Go.bits .and .u32 (a0 / 4194304) 15), wrap64 (Go.bits .and .u32 (a0 / 262144) 15), wrap64 (Go.bits .and .u32 (a0 / 16384) 15), wrap64 (Go.bits .and .u32 a0 16383), true)) else (some (0, 0, 0, 0, 0, false))) = some (r1, r2, r3, r4, r5, r6) := H
    have A18 := Aside0.mk A180
    clear A180
    by_cases c19 : t254 = true
    · subst c19
      have H1 : (some (wrap64 (a0 / 67108864), wrap64 (Go.bits .and .u32 (a0 / 4194304) 15), wrap64 (Go.bits .and .u32 (a0 / 262144) 15), wrap64 (Go.bits .and .u32 (a0 / 16384) 15), wrap64 (Go.bits .and .u32 a0 16383), true)) = some (r1, r2, r3, r4, r5, r6) := by rw [if_pos rfl] at H; exact H
      clear H
      have H := H1
      clear H1
      simp only [Option.some.injEq, Prod.mk.injEq] at H
      obtain ⟨rfl, rfl, rfl, rfl, rfl, rfl⟩ := H
      go_enter Tryd.func33, Tryd.ntmps33
      go_wp2_with (first | ((with_reducible refine gate_dst (N := 2) rfl ?_); refine box_event ?hg (N := 2) ?hd (cs := #[.int .i64 0, .int .i64 0, .int .i64 0, .int .i64 0, .int .i64 0]) (t := 25) ?hr ?_; (case hd => rfl); (case hg => rfl); (case hr => first | (go_simp; done) | (go_simp; rfl)); intro gb250 hg w20 hbox hb; have n0_ := Aside0.mk (below_step (by repeat (first | (with_reducible first | exact HB.out | apply below_alloc | apply pw_below_drewN | apply below_drew1) | exact HB.out)) hb); have n1_ := Aside0.mk (hbox); have n2_ := Aside0.mk ((by rw [hg]; exact (below_size (by repeat (first | (with_reducible first | exact HB.out | apply below_alloc | apply pw_below_drewN | apply below_drew1) | exact HB.out))) : w.heap.size ≤ gb250)); have n3_ := Aside0.mk ((by rw [hg]; exact (below_size (by repeat (first | (with_reducible first | exact HB.out | apply below_alloc | apply pw_below_drewN | apply below_drew1) | exact HB.out))) : w.heap.size ≤ gb250)); clear HB; have HB := n0_; have BK250 := n1_; have GW250 := n2_; have GE250 := n3_; clear n0_ n1_ n2_ n3_; clear hb hbox hg) | ((with_reducible refine gate_dst (N := 5) rfl ?_); refine box_event ?hg (N := 5) ?hd (cs := #[.int .i64 0, .int .i64 0, .int .i64 0, .int .i64 0, .int .i64 0]) (t := 25) ?hr ?_; (case hd => rfl); (case hg => rfl); (case hr => first | (go_simp; done) | (go_simp; rfl)); intro gb253 hg w21 hbox hb; have n0_ := Aside0.mk (blk_below (g := gb250) (o := .cells #[.int .i64 0, .int .i64 0, .int .i64 0, .int .i64 0, .int .i64 0] 25 (0, 0)) (by (with_reducible repeat (first | refine blk_drewN ?_ _ | refine blk_drew ?_ | refine blk_alloc ?_ _)); exact BK250.out) hb); have n1_ := Aside0.mk (below_step (by repeat (first | (with_reducible first | exact HB.out | apply below_alloc | apply pw_below_drewN | apply below_drew1 | refine below_set ?_ GE250.out) | exact HB.out)) hb); have n2_ := Aside0.mk (hbox); have n3_ := Aside0.mk ((by rw [hg]; exact (below_size (by repeat (first | (with_reducible first | exact HB.out | apply below_alloc | apply pw_below_drewN | apply below_drew1 | refine below_set ?_ GE250.out) | exact HB.out))) : w.heap.size ≤ gb253)); have n4_ := Aside0.mk ((by rw [hg]; exact (below_size (by repeat (first | (with_reducible first | exact HB.out | apply below_alloc | apply pw_below_drewN | apply below_drew1 | refine below_set ?_ GE250.out) | exact HB.out))) : w.heap.size ≤ gb253)); have n5_ := Aside0.mk ((by rw [hg]; exact Nat.ne_of_lt (blk_lt (g := gb250) (o := .cells #[.int .i64 0, .int .i64 0, .int .i64 0, .int .i64 0, .int .i64 0] 25 (0, 0)) (by (with_reducible repeat (first | refine blk_drewN ?_ _ | refine blk_drew ?_ | refine blk_alloc ?_ _)); exact BK250.out)) : gb250 ≠ gb253)); have n6_ := Aside0.mk ((by rw [hg]; exact Nat.ne_of_gt (blk_lt (g := gb250) (o := .cells #[.int .i64 0, .int .i64 0, .int .i64 0, .int .i64 0, .int .i64 0] 25 (0, 0)) (by (with_reducible repeat (first | refine blk_drewN ?_ _ | refine blk_drew ?_ | refine blk_alloc ?_ _)); exact BK250.out)) : gb253 ≠ gb250)); clear BK250; clear HB; have BK250 := n0_; have HB := n1_; have BK253 := n2_; have GW253 := n3_; have GE253 := n4_; have NB250_253 := n5_; have NB253_250 := n6_; clear n0_ n1_ n2_ n3_ n4_ n5_ n6_; clear hb hbox hg; have hnb22 := NB253_250.out; have hnc22 := NB250_253.out; have hcz23_0 : w21.cell? ⟨gb253, 0, none⟩ = some (.int .i64 0) := (blk_cell BK253.out 0).trans rfl; have hcz23_1 : w21.cell? ⟨gb253, 1, none⟩ = some (.int .i64 0) := (blk_cell BK253.out 1).trans rfl; have hcz23_2 : w21.cell? ⟨gb253, 2, none⟩ = some (.int .i64 0) := (blk_cell BK253.out 2).trans rfl; have hcz23_3 : w21.cell? ⟨gb253, 3, none⟩ = some (.int .i64 0) := (blk_cell BK253.out 3).trans rfl; have hcz23_4 : w21.cell? ⟨gb253, 4, none⟩ = some (.int .i64 0) := (blk_cell BK253.out 4).trans rfl; have hfz23_0 := blk_frozen BK253.out 0; have hfz23_1 := blk_frozen BK253.out 1; have hfz23_2 := blk_frozen BK253.out 2; have hfz23_3 := blk_frozen BK253.out 3; have hfz23_4 := blk_frozen BK253.out 4) | ((with_reducible refine gate_callee (f := 26) rfl ?_); refine goesL_ (some 31) rfl rfl Tryd.func26 (by kernel_rfl) rfl #[.agg #[.int .i64 (wrap64 (a0 / 67108864)), .int .i64 (wrap64 (Go.bits .and .u32 (a0 / 4194304) 15)), .int .i64 (wrap64 (Go.bits .and .u32 (a0 / 262144) 15)), .int .i64 (wrap64 (Go.bits .and .u32 (a0 / 16384) 15)), .int .i64 (wrap64 (Go.bits .and .u32 a0 16383))]] rfl (by (try simp only [List.map_toArray, List.map_cons, List.map_nil]); first | done | rfl | (simp only [List.length_drop, List.length_take]; rfl)) ?_; (with_reducible refine (impl_isInstr.calls (wrap64 (a0 / 67108864)) (wrap64 (Go.bits .and .u32 (a0 / 4194304) 15)) (wrap64 (Go.bits .and .u32 (a0 / 262144) 15)) (wrap64 (Go.bits .and .u32 (a0 / 16384) 15)) (wrap64 (Go.bits .and .u32 a0 16383)) true _ A18.out).mono ?_); rintro e w24 ⟨rfl, hb⟩; refine ⟨_, rfl, ?_⟩; have n0_ := Aside0.mk (blk_below (g := gb250) (o := .cells #[.int .i64 0, .int .i64 0, .int .i64 0, .int .i64 0, .int .i64 0] 25 (0, 0)) (by (with_reducible repeat (first | refine blk_drewN ?_ _ | refine blk_drew ?_ | refine blk_alloc ?_ _)); refine blk_far ?_ NB250_253.out _; (with_reducible repeat (first | refine blk_drewN ?_ _ | refine blk_drew ?_ | refine blk_alloc ?_ _)); refine blk_far ?_ NB250_253.out _; (with_reducible repeat (first | refine blk_drewN ?_ _ | refine blk_drew ?_ | refine blk_alloc ?_ _)); refine blk_far ?_ NB250_253.out _; (with_reducible repeat (first | refine blk_drewN ?_ _ | refine blk_drew ?_ | refine blk_alloc ?_ _)); refine blk_far ?_ NB250_253.out _; (with_reducible repeat (first | refine blk_drewN ?_ _ | refine blk_drew ?_ | refine blk_alloc ?_ _)); refine blk_far ?_ NB250_253.out _; (with_reducible repeat (first | refine blk_drewN ?_ _ | refine blk_drew ?_ | refine blk_alloc ?_ _)); exact BK250.out) hb); have n1_ := Aside0.mk (blk_below (g := gb253) (o := .cells #[.int .i64 (wrap64 (a0 / 67108864)), .int .i64 (wrap64 (Go.bits .and .u32 (a0 / 4194304) 15)), .int .i64 (wrap64 (Go.bits .and .u32 (a0 / 262144) 15)), .int .i64 (wrap64 (Go.bits .and .u32 (a0 / 16384) 15)), .int .i64 (wrap64 (Go.bits .and .u32 a0 16383))] 25 (0, 0)) (by (with_reducible repeat (first | refine blk_drewN ?_ _ | refine blk_drew ?_ | refine blk_alloc ?_ _)); refine blk_put (cs := #[.int .i64 (wrap64 (a0 / 67108864)), .int .i64 (wrap64 (Go.bits .and .u32 (a0 / 4194304) 15)), .int .i64 (wrap64 (Go.bits .and .u32 (a0 / 262144) 15)), .int .i64 (wrap64 (Go.bits .and .u32 (a0 / 16384) 15)), .int .i64 0]) ?_ 4 _ rfl; (with_reducible repeat (first | refine blk_drewN ?_ _ | refine blk_drew ?_ | refine blk_alloc ?_ _)); refine blk_put (cs := #[.int .i64 (wrap64 (a0 / 67108864)), .int .i64 (wrap64 (Go.bits .and .u32 (a0 / 4194304) 15)), .int .i64 (wrap64 (Go.bits .and .u32 (a0 / 262144) 15)), .int .i64 0, .int .i64 0]) ?_ 3 _ rfl; (with_reducible repeat (first | refine blk_drewN ?_ _ | refine blk_drew ?_ | refine blk_alloc ?_ _)); refine blk_put (cs := #[.int .i64 (wrap64 (a0 / 67108864)), .int .i64 (wrap64 (Go.bits .and .u32 (a0 / 4194304) 15)), .int .i64 0, .int .i64 0, .int .i64 0]) ?_ 2 _ rfl; (with_reducible repeat (first | refine blk_drewN ?_ _ | refine blk_drew ?_ | refine blk_alloc ?_ _)); refine blk_put (cs := #[.int .i64 (wrap64 (a0 / 67108864)), .int .i64 0, .int .i64 0, .int .i64 0, .int .i64 0]) ?_ 1 _ rfl; (with_reducible repeat (first | refine blk_drewN ?_ _ | refine blk_drew ?_ | refine blk_alloc ?_ _)); refine blk_put (cs := #[.int .i64 0, .int .i64 0, .int .i64 0, .int .i64 0, .int .i64 0]) ?_ 0 _ rfl; (with_reducible repeat (first | refine blk_drewN ?_ _ | refine blk_drew ?_ | refine blk_alloc ?_ _)); exact BK253.out) hb); have n2_ := Aside0.mk (below_step (by repeat (first | (with_reducible first | exact HB.out | apply below_alloc | apply pw_below_drewN | apply below_drew1 | refine below_set ?_ GE250.out | refine below_set ?_ GE253.out) | exact HB.out)) hb); clear BK250; clear BK253; clear HB; have BK250 := n0_; have BK253 := n1_; have HB := n2_; clear n0_ n1_ n2_; (try clear hb); (try clear hb2); (try clear hk); (try clear hi); have hcz25_0 : w24.cell? ⟨gb253, 0, none⟩ = some (.int .i64 (wrap64 (a0 / 67108864))) := (blk_cell BK253.out 0).trans rfl; have hcz25_1 : w24.cell? ⟨gb253, 1, none⟩ = some (.int .i64 (wrap64 (Go.bits .and .u32 (a0 / 4194304) 15))) := (blk_cell BK253.out 1).trans rfl; have hcz25_2 : w24.cell? ⟨gb253, 2, none⟩ = some (.int .i64 (wrap64 (Go.bits .and .u32 (a0 / 262144) 15))) := (blk_cell BK253.out 2).trans rfl; have hcz25_3 : w24.cell? ⟨gb253, 3, none⟩ = some (.int .i64 (wrap64 (Go.bits .and .u32 (a0 / 16384) 15))) := (blk_cell BK253.out 3).trans rfl; have hcz25_4 : w24.cell? ⟨gb253, 4, none⟩ = some (.int .i64 (wrap64 (Go.bits .and .u32 a0 16383))) := (blk_cell BK253.out 4).trans rfl; have hfz25_0 := blk_frozen BK253.out 0; have hfz25_1 := blk_frozen BK253.out 1; have hfz25_2 := blk_frozen BK253.out 2; have hfz25_3 := blk_frozen BK253.out 3; have hfz25_4 := blk_frozen BK253.out 4; have hcz26_0 : w24.cell? ⟨gb250, 0, none⟩ = some (.int .i64 0) := (blk_cell BK250.out 0).trans rfl; have hcz26_1 : w24.cell? ⟨gb250, 1, none⟩ = some (.int .i64 0) := (blk_cell BK250.out 1).trans rfl; have hcz26_2 : w24.cell? ⟨gb250, 2, none⟩ = some (.int .i64 0) := (blk_cell BK250.out 2).trans rfl; have hcz26_3 : w24.cell? ⟨gb250, 3, none⟩ = some (.int .i64 0) := (blk_cell BK250.out 3).trans rfl; have hcz26_4 : w24.cell? ⟨gb250, 4, none⟩ = some (.int .i64 0) := (blk_cell BK250.out 4).trans rfl; have hfz26_0 := blk_frozen BK250.out 0; have hfz26_1 := blk_frozen BK250.out 1; have hfz26_2 := blk_frozen BK250.out 2; have hfz26_3 := blk_frozen BK250.out 3; have hfz26_4 := blk_frozen BK250.out 4))
      refine bodyPost_ret (results_ct rfl _ _ gb250 25 #[.int .i64 (wrap64 (a0 / 67108864)), .int .i64 (wrap64 (Go.bits .and .u32 (a0 / 4194304) 15)), .int .i64 (wrap64 (Go.bits .and .u32 (a0 / 262144) 15)), .int .i64 (wrap64 (Go.bits .and .u32 (a0 / 16384) 15)), .int .i64 (wrap64 (Go.bits .and .u32 a0 16383))] (0, 0) _ rfl (by (with_reducible repeat (first | refine blk_drewN ?_ _ | refine blk_drew ?_ | refine blk_alloc ?_ _)); refine blk_put (cs := #[.int .i64 (wrap64 (a0 / 67108864)), .int .i64 (wrap64 (Go.bits .and .u32 (a0 / 4194304) 15)), .int .i64 (wrap64 (Go.bits .and .u32 (a0 / 262144) 15)), .int .i64 (wrap64 (Go.bits .and .u32 (a0 / 16384) 15)), .int .i64 0]) ?_ 4 _ rfl; (with_reducible repeat (first | refine blk_drewN ?_ _ | refine blk_drew ?_ | refine blk_alloc ?_ _)); refine blk_put (cs := #[.int .i64 (wrap64 (a0 / 67108864)), .int .i64 (wrap64 (Go.bits .and .u32 (a0 / 4194304) 15)), .int .i64 (wrap64 (Go.bits .and .u32 (a0 / 262144) 15)), .int .i64 0, .int .i64 0]) ?_ 3 _ rfl; (with_reducible repeat (first | refine blk_drewN ?_ _ | refine blk_drew ?_ | refine blk_alloc ?_ _)); refine blk_put (cs := #[.int .i64 (wrap64 (a0 / 67108864)), .int .i64 (wrap64 (Go.bits .and .u32 (a0 / 4194304) 15)), .int .i64 0, .int .i64 0, .int .i64 0]) ?_ 2 _ rfl; (with_reducible repeat (first | refine blk_drewN ?_ _ | refine blk_drew ?_ | refine blk_alloc ?_ _)); refine blk_put (cs := #[.int .i64 (wrap64 (a0 / 67108864)), .int .i64 0, .int .i64 0, .int .i64 0, .int .i64 0]) ?_ 1 _ rfl; (with_reducible repeat (first | refine blk_drewN ?_ _ | refine blk_drew ?_ | refine blk_alloc ?_ _)); refine blk_put (cs := #[.int .i64 0, .int .i64 0, .int .i64 0, .int .i64 0, .int .i64 0]) ?_ 0 _ rfl; (with_reducible repeat (first | refine blk_drewN ?_ _ | refine blk_drew ?_ | refine blk_alloc ?_ _)); exact BK250.out) Tryd.underlying25 rfl (by kernel_rfl)) rfl ?_
      exact ⟨by first | rfl | (simp [errW_none, errW_some] <;> rfl) | (simp [*, errW_none, errW_some] <;> rfl), by repeat (first | (with_reducible first | exact HB.out | apply below_alloc | apply pw_below_drewN | apply below_drew1 | refine below_set ?_ GE250.out | refine below_set ?_ GE253.out) | exact HB.out)⟩
    · replace c19 := Bool.eq_false_iff.mpr c19
      subst c19
      have H1 : (some (0, 0, 0, 0, 0, false)) = some (r1, r2, r3, r4, r5, r6) := by rw [if_neg (show ¬ (false = true) by decide)] at H; exact H
      clear H
      have H := H1
      clear H1
      simp only [Option.some.injEq, Prod.mk.injEq] at H
      obtain ⟨rfl, rfl, rfl, rfl, rfl, rfl⟩ := H
      go_enter Tryd.func33, Tryd.ntmps33
      go_wp2_with (first | ((with_reducible refine gate_dst (N := 2) rfl ?_); refine box_event ?hg (N := 2) ?hd (cs := #[.int .i64 0, .int .i64 0, .int .i64 0, .int .i64 0, .int .i64 0]) (t := 25) ?hr ?_; (case hd => rfl); (case hg => rfl); (case hr => first | (go_simp; done) | (go_simp; rfl)); intro gb250 hg w27 hbox hb; have n0_ := Aside0.mk (below_step (by repeat (first | (with_reducible first | exact HB.out | apply below_alloc | apply pw_below_drewN | apply below_drew1) | exact HB.out)) hb); have n1_ := Aside0.mk (hbox); have n2_ := Aside0.mk ((by rw [hg]; exact (below_size (by repeat (first | (with_reducible first | exact HB.out | apply below_alloc | apply pw_below_drewN | apply below_drew1) | exact HB.out))) : w.heap.size ≤ gb250)); have n3_ := Aside0.mk ((by rw [hg]; exact (below_size (by repeat (first | (with_reducible first | exact HB.out | apply below_alloc | apply pw_below_drewN | apply below_drew1) | exact HB.out))) : w.heap.size ≤ gb250)); clear HB; have HB := n0_; have BK250 := n1_; have GW250 := n2_; have GE250 := n3_; clear n0_ n1_ n2_ n3_; clear hb hbox hg) | ((with_reducible refine gate_dst (N := 5) rfl ?_); refine box_event ?hg (N := 5) ?hd (cs := #[.int .i64 0, .int .i64 0, .int .i64 0, .int .i64 0, .int .i64 0]) (t := 25) ?hr ?_; (case hd => rfl); (case hg => rfl); (case hr => first | (go_simp; done) | (go_simp; rfl)); intro gb253 hg w28 hbox hb; have n0_ := Aside0.mk (blk_below (g := gb250) (o := .cells #[.int .i64 0, .int .i64 0, .int .i64 0, .int .i64 0, .int .i64 0] 25 (0, 0)) (by (with_reducible repeat (first | refine blk_drewN ?_ _ | refine blk_drew ?_ | refine blk_alloc ?_ _)); exact BK250.out) hb); have n1_ := Aside0.mk (below_step (by repeat (first | (with_reducible first | exact HB.out | apply below_alloc | apply pw_below_drewN | apply below_drew1 | refine below_set ?_ GE250.out) | exact HB.out)) hb); have n2_ := Aside0.mk (hbox); have n3_ := Aside0.mk ((by rw [hg]; exact (below_size (by repeat (first | (with_reducible first | exact HB.out | apply below_alloc | apply pw_below_drewN | apply below_drew1 | refine below_set ?_ GE250.out) | exact HB.out))) : w.heap.size ≤ gb253)); have n4_ := Aside0.mk ((by rw [hg]; exact (below_size (by repeat (first | (with_reducible first | exact HB.out | apply below_alloc | apply pw_below_drewN | apply below_drew1 | refine below_set ?_ GE250.out) | exact HB.out))) : w.heap.size ≤ gb253)); have n5_ := Aside0.mk ((by rw [hg]; exact Nat.ne_of_lt (blk_lt (g := gb250) (o := .cells #[.int .i64 0, .int .i64 0, .int .i64 0, .int .i64 0, .int .i64 0] 25 (0, 0)) (by (with_reducible repeat (first | refine blk_drewN ?_ _ | refine blk_drew ?_ | refine blk_alloc ?_ _)); exact BK250.out)) : gb250 ≠ gb253)); have n6_ := Aside0.mk ((by rw [hg]; exact Nat.ne_of_gt (blk_lt (g := gb250) (o := .cells #[.int .i64 0, .int .i64 0, .int .i64 0, .int .i64 0, .int .i64 0] 25 (0, 0)) (by (with_reducible repeat (first | refine blk_drewN ?_ _ | refine blk_drew ?_ | refine blk_alloc ?_ _)); exact BK250.out)) : gb253 ≠ gb250)); clear BK250; clear HB; have BK250 := n0_; have HB := n1_; have BK253 := n2_; have GW253 := n3_; have GE253 := n4_; have NB250_253 := n5_; have NB253_250 := n6_; clear n0_ n1_ n2_ n3_ n4_ n5_ n6_; clear hb hbox hg; have hnb29 := NB253_250.out; have hnc29 := NB250_253.out; have hcz30_0 : w28.cell? ⟨gb253, 0, none⟩ = some (.int .i64 0) := (blk_cell BK253.out 0).trans rfl; have hcz30_1 : w28.cell? ⟨gb253, 1, none⟩ = some (.int .i64 0) := (blk_cell BK253.out 1).trans rfl; have hcz30_2 : w28.cell? ⟨gb253, 2, none⟩ = some (.int .i64 0) := (blk_cell BK253.out 2).trans rfl; have hcz30_3 : w28.cell? ⟨gb253, 3, none⟩ = some (.int .i64 0) := (blk_cell BK253.out 3).trans rfl; have hcz30_4 : w28.cell? ⟨gb253, 4, none⟩ = some (.int .i64 0) := (blk_cell BK253.out 4).trans rfl; have hfz30_0 := blk_frozen BK253.out 0; have hfz30_1 := blk_frozen BK253.out 1; have hfz30_2 := blk_frozen BK253.out 2; have hfz30_3 := blk_frozen BK253.out 3; have hfz30_4 := blk_frozen BK253.out 4) | ((with_reducible refine gate_callee (f := 26) rfl ?_); refine goesL_ (some 31) rfl rfl Tryd.func26 (by kernel_rfl) rfl #[.agg #[.int .i64 (wrap64 (a0 / 67108864)), .int .i64 (wrap64 (Go.bits .and .u32 (a0 / 4194304) 15)), .int .i64 (wrap64 (Go.bits .and .u32 (a0 / 262144) 15)), .int .i64 (wrap64 (Go.bits .and .u32 (a0 / 16384) 15)), .int .i64 (wrap64 (Go.bits .and .u32 a0 16383))]] rfl (by (try simp only [List.map_toArray, List.map_cons, List.map_nil]); first | done | rfl | (simp only [List.length_drop, List.length_take]; rfl)) ?_; (with_reducible refine (impl_isInstr.calls (wrap64 (a0 / 67108864)) (wrap64 (Go.bits .and .u32 (a0 / 4194304) 15)) (wrap64 (Go.bits .and .u32 (a0 / 262144) 15)) (wrap64 (Go.bits .and .u32 (a0 / 16384) 15)) (wrap64 (Go.bits .and .u32 a0 16383)) false _ A18.out).mono ?_); rintro e w31 ⟨rfl, hb⟩; refine ⟨_, rfl, ?_⟩; have n0_ := Aside0.mk (blk_below (g := gb250) (o := .cells #[.int .i64 0, .int .i64 0, .int .i64 0, .int .i64 0, .int .i64 0] 25 (0, 0)) (by (with_reducible repeat (first | refine blk_drewN ?_ _ | refine blk_drew ?_ | refine blk_alloc ?_ _)); refine blk_far ?_ NB250_253.out _; (with_reducible repeat (first | refine blk_drewN ?_ _ | refine blk_drew ?_ | refine blk_alloc ?_ _)); refine blk_far ?_ NB250_253.out _; (with_reducible repeat (first | refine blk_drewN ?_ _ | refine blk_drew ?_ | refine blk_alloc ?_ _)); refine blk_far ?_ NB250_253.out _; (with_reducible repeat (first | refine blk_drewN ?_ _ | refine blk_drew ?_ | refine blk_alloc ?_ _)); refine blk_far ?_ NB250_253.out _; (with_reducible repeat (first | refine blk_drewN ?_ _ | refine blk_drew ?_ | refine blk_alloc ?_ _)); refine blk_far ?_ NB250_253.out _; (with_reducible repeat (first | refine blk_drewN ?_ _ | refine blk_drew ?_ | refine blk_alloc ?_ _)); exact BK250.out) hb); have n1_ := Aside0.mk (blk_below (g := gb253) (o := .cells #[.int .i64 (wrap64 (a0 / 67108864)), .int .i64 (wrap64 (Go.bits .and .u32 (a0 / 4194304) 15)), .int .i64 (wrap64 (Go.bits .and .u32 (a0 / 262144) 15)), .int .i64 (wrap64 (Go.bits .and .u32 (a0 / 16384) 15)), .int .i64 (wrap64 (Go.bits .and .u32 a0 16383))] 25 (0, 0)) (by (with_reducible repeat (first | refine blk_drewN ?_ _ | refine blk_drew ?_ | refine blk_alloc ?_ _)); refine blk_put (cs := #[.int .i64 (wrap64 (a0 / 67108864)), .int .i64 (wrap64 (Go.bits .and .u32 (a0 / 4194304) 15)), .int .i64 (wrap64 (Go.bits .and .u32 (a0 / 262144) 15)), .int .i64 (wrap64 (Go.bits .and .u32 (a0 / 16384) 15)), .int .i64 0]) ?_ 4 _ rfl; (with_reducible repeat (first | refine blk_drewN ?_ _ | refine blk_drew ?_ | refine blk_alloc ?_ _)); refine blk_put (cs := #[.int .i64 (wrap64 (a0 / 67108864)), .int .i64 (wrap64 (Go.bits .and .u32 (a0 / 4194304) 15)), .int .i64 (wrap64 (Go.bits .and .u32 (a0 / 262144) 15)), .int .i64 0, .int .i64 0]) ?_ 3 _ rfl; (with_reducible repeat (first | refine blk_drewN ?_ _ | refine blk_drew ?_ | refine blk_alloc ?_ _)); refine blk_put (cs := #[.int .i64 (wrap64 (a0 / 67108864)), .int .i64 (wrap64 (Go.bits .and .u32 (a0 / 4194304) 15)), .int .i64 0, .int .i64 0, .int .i64 0]) ?_ 2 _ rfl; (with_reducible repeat (first | refine blk_drewN ?_ _ | refine blk_drew ?_ | refine blk_alloc ?_ _)); refine blk_put (cs := #[.int .i64 (wrap64 (a0 / 67108864)), .int .i64 0, .int .i64 0, .int .i64 0, .int .i64 0]) ?_ 1 _ rfl; (with_reducible repeat (first | refine blk_drewN ?_ _ | refine blk_drew ?_ | refine blk_alloc ?_ _)); refine blk_put (cs := #[.int .i64 0, .int .i64 0, .int .i64 0, .int .i64 0, .int .i64 0]) ?_ 0 _ rfl; (with_reducible repeat (first | refine blk_drewN ?_ _ | refine blk_drew ?_ | refine blk_alloc ?_ _)); exact BK253.out) hb); have n2_ := Aside0.mk (below_step (by repeat (first | (with_reducible first | exact HB.out | apply below_alloc | apply pw_below_drewN | apply below_drew1 | refine below_set ?_ GE250.out | refine below_set ?_ GE253.out) | exact HB.out)) hb); clear BK250; clear BK253; clear HB; have BK250 := n0_; have BK253 := n1_; have HB := n2_; clear n0_ n1_ n2_; (try clear hb); (try clear hb2); (try clear hk); (try clear hi); have hcz32_0 : w31.cell? ⟨gb250, 0, none⟩ = some (.int .i64 0) := (blk_cell BK250.out 0).trans rfl; have hcz32_1 : w31.cell? ⟨gb250, 1, none⟩ = some (.int .i64 0) := (blk_cell BK250.out 1).trans rfl; have hcz32_2 : w31.cell? ⟨gb250, 2, none⟩ = some (.int .i64 0) := (blk_cell BK250.out 2).trans rfl; have hcz32_3 : w31.cell? ⟨gb250, 3, none⟩ = some (.int .i64 0) := (blk_cell BK250.out 3).trans rfl; have hcz32_4 : w31.cell? ⟨gb250, 4, none⟩ = some (.int .i64 0) := (blk_cell BK250.out 4).trans rfl; have hfz32_0 := blk_frozen BK250.out 0; have hfz32_1 := blk_frozen BK250.out 1; have hfz32_2 := blk_frozen BK250.out 2; have hfz32_3 := blk_frozen BK250.out 3; have hfz32_4 := blk_frozen BK250.out 4))
      refine bodyPost_ret (results_ct rfl _ _ gb250 25 #[.int .i64 0, .int .i64 0, .int .i64 0, .int .i64 0, .int .i64 0] (0, 0) _ rfl (by (with_reducible repeat (first | refine blk_drewN ?_ _ | refine blk_drew ?_ | refine blk_alloc ?_ _)); refine blk_put (cs := #[.int .i64 0, .int .i64 0, .int .i64 0, .int .i64 0, .int .i64 0]) ?_ 4 _ rfl; (with_reducible repeat (first | refine blk_drewN ?_ _ | refine blk_drew ?_ | refine blk_alloc ?_ _)); refine blk_put (cs := #[.int .i64 0, .int .i64 0, .int .i64 0, .int .i64 0, .int .i64 0]) ?_ 3 _ rfl; (with_reducible repeat (first | refine blk_drewN ?_ _ | refine blk_drew ?_ | refine blk_alloc ?_ _)); refine blk_put (cs := #[.int .i64 0, .int .i64 0, .int .i64 0, .int .i64 0, .int .i64 0]) ?_ 2 _ rfl; (with_reducible repeat (first | refine blk_drewN ?_ _ | refine blk_drew ?_ | refine blk_alloc ?_ _)); refine blk_put (cs := #[.int .i64 0, .int .i64 0, .int .i64 0, .int .i64 0, .int .i64 0]) ?_ 1 _ rfl; (with_reducible repeat (first | refine blk_drewN ?_ _ | refine blk_drew ?_ | refine blk_alloc ?_ _)); refine blk_put (cs := #[.int .i64 0, .int .i64 0, .int .i64 0, .int .i64 0, .int .i64 0]) ?_ 0 _ rfl; (with_reducible repeat (first | refine blk_drewN ?_ _ | refine blk_drew ?_ | refine blk_alloc ?_ _)); exact BK250.out) Tryd.underlying25 rfl (by kernel_rfl)) rfl ?_
      exact ⟨by first | rfl | (simp [errW_none, errW_some] <;> rfl) | (simp [*, errW_none, errW_some] <;> rfl), by repeat (first | (with_reducible first | exact HB.out | apply below_alloc | apply pw_below_drewN | apply below_drew1 | refine below_set ?_ GE250.out | refine below_set ?_ GE253.out) | exact HB.out)⟩

/-! ### impl_DecText: function 58 -/
def impl_DecText.f (a0 : Int) : Option (ByteArray) := (strconv_Itoa.f a0).bind fun t255 => (some t255)
set_option maxHeartbeats 8000000 in
set_option maxRecDepth 100000 in
theorem impl_DecText.calls (a0 : Int) (r : ByteArray) (w : World) (ht : Tab.TabsODEM w) (h : impl_DecText.f a0 = some r) :
    Calls Tryd.prog 58 #[.int .i64 a0] w fun e w' => e = .returned (.string r) ∧ Below w.heap.size w w' := by
  have HB := Aside0.mk (Below.refl w.heap.size w)
  have HTB := Aside0.mk ht
  clear ht
  have H : ((strconv_Itoa.f a0).bind fun t255 => (some t255)) = some r := h
  clear h
  replace H := Option.bind_eq_some_iff.mp H
  obtain ⟨t255, A20, H⟩ := H
  replace H : (some t255) = some r := H
  have A2 := Aside0.mk A20
  clear A20
  obtain rfl := Option.some.inj H
  go_enter Tryd.func58, Tryd.ntmps58
  go_wp2_with (first | ((with_reducible refine gate_callee (f := 69) rfl ?_); refine goesL_ (some 4) rfl rfl Tryd.func69 (by kernel_rfl) rfl #[.int .i64 a0] rfl (by (try simp only [List.map_toArray, List.map_cons, List.map_nil]); first | done | rfl | (simp only [List.length_drop, List.length_take]; rfl)) ?_; (with_reducible refine (strconv_Itoa.calls a0 t255 _ ?side1 A2.out).mono ?_); (case side1 => exact Tab.TabsODEM.below HTB.out (by repeat (first | (with_reducible first | exact HB.out | apply below_alloc | apply pw_below_drewN | apply below_drew1) | exact HB.out))); rintro e w3 ⟨rfl, hb⟩; refine ⟨_, rfl, ?_⟩; have n0_ := Aside0.mk (below_step (by repeat (first | (with_reducible first | exact HB.out | apply below_alloc | apply pw_below_drewN | apply below_drew1) | exact HB.out)) hb); clear HB; have HB := n0_; clear n0_; (try clear hb); (try clear hb2); (try clear hk); (try clear hi)))
  go_ret
  exact ⟨by first | rfl | (simp [errW_none, errW_some] <;> rfl) | (simp [*, errW_none, errW_some] <;> rfl), by repeat (first | (with_reducible first | exact HB.out | apply below_alloc | apply pw_below_drewN | apply below_drew1) | exact HB.out)⟩

/-! ### impl_showInstr: function 34 -/
/-- A register's part of a line. -/
def impl_showInstr.reg (form bit n : Int) : List UInt8 := if form / bit % 2 = 1 then 32 :: 114 :: Lib.itoa n else []
/-- The line of an instruction. -/
def impl_showInstr.txt (op a b c imm : Int) : List UInt8 :=
  Tab.names.getD op.toNat [] ++ (impl_showInstr.reg (impl_isInstr.form op) 1 a ++ (impl_showInstr.reg (impl_isInstr.form op) 2 b ++ (impl_showInstr.reg (impl_isInstr.form op) 4 c ++ (if impl_isInstr.form op / 8 % 2 = 1 then 32 :: Lib.itoa imm else []))))
def impl_showInstr.ok (op a b c imm : Int) : Prop := (0 ≤ op ∧ op ≤ 32) ∧ (-9223372036854775808 ≤ a ∧ a ≤ 9223372036854775807) ∧ (-9223372036854775808 ≤ b ∧ b ≤ 9223372036854775807) ∧ (-9223372036854775808 ≤ c ∧ c ≤ 9223372036854775807) ∧ (-9223372036854775808 ≤ imm ∧ imm ≤ 9223372036854775807)
instance (op a b c imm : Int) : Decidable (impl_showInstr.ok op a b c imm) := by unfold impl_showInstr.ok; exact inferInstance
def impl_showInstr.f (a0_0 : Int) (a0_1 : Int) (a0_2 : Int) (a0_3 : Int) (a0_4 : Int) : Option (ByteArray) := if impl_showInstr.ok a0_0 a0_1 a0_2 a0_3 a0_4 then some ⟨(impl_showInstr.txt a0_0 a0_1 a0_2 a0_3 a0_4).toArray⟩ else none
def impl_showInstr.num (n : Int) : ByteArray := ⟨(Lib.itoa n).toArray⟩
theorem impl_showInstr.dec (n : Int) (W : World) (ht : Tab.TabsODEM W) (h : -9223372036854775808 ≤ n ∧ n ≤ 9223372036854775807) :
    Calls Tryd.prog 58 #[.int .i64 n] W fun e w' => e = .returned (.string (impl_showInstr.num n)) ∧ Below W.heap.size W w' :=
  impl_DecText.calls n (impl_showInstr.num n) W ht (by unfold impl_DecText.f strconv_Itoa.f; first | (rw [if_pos h]; rfl) | (simp only [if_pos h]; rfl))
theorem impl_showInstr.digits_len (j : Nat) : ∀ u : Nat, u < 10 ^ (j + 1) → (Lib.decDigits u).length ≤ j + 1 := by
  induction j with
  | zero => intro u h; rw [Lib.decDigits, dif_pos (by simpa using h)]; simp
  | succ j ih =>
    intro u h
    by_cases h10 : u < 10
    · rw [Lib.decDigits, dif_pos h10]; simp
    · rw [Lib.decDigits, dif_neg h10, List.length_append]
      have := ih (u / 10) (by rw [Nat.pow_succ] at h; exact Nat.div_lt_of_lt_mul (by rw [Nat.mul_comm]; exact h))
      simp; omega
theorem impl_showInstr.itoa_len (n : Int) (h : -9223372036854775808 ≤ n ∧ n ≤ 9223372036854775807) : (Lib.itoa n).length ≤ 21 := by
  unfold Lib.itoa
  by_cases hn : n < 0
  · rw [if_pos hn]
    have := impl_showInstr.digits_len 19 n.natAbs (by omega)
    simp; omega
  · rw [if_neg hn]
    have := impl_showInstr.digits_len 19 n.toNat (by omega)
    omega
theorem impl_showInstr.num_size (n : Int) (h : -9223372036854775808 ≤ n ∧ n ≤ 9223372036854775807) : (impl_showInstr.num n).size ≤ 21 := by
  have := impl_showInstr.itoa_len n h
  simpa [impl_showInstr.num, ByteArray.size] using this
theorem impl_showInstr.nm_size : ∀ n : Fin 33, (Tab.nm n.val).size ≤ 5 := by decide +kernel
/-- What the text is behind k registers. -/
def impl_showInstr.add (form bit : Nat) (x a : ByteArray) : ByteArray := if form / bit % 2 = 1 then x ++ ((⟨#[32, 114]⟩ : ByteArray) ++ a) else x
def impl_showInstr.pre (form : Nat) (x : ByteArray) (a b c : ByteArray) : Nat → ByteArray
  | 0 => x
  | 1 => impl_showInstr.add form 1 x a
  | 2 => impl_showInstr.add form 2 (impl_showInstr.add form 1 x a) b
  | _ => impl_showInstr.add form 4 (impl_showInstr.add form 2 (impl_showInstr.add form 1 x a) b) c

theorem impl_showInstr.txt0 (n : Nat) (a0_1 a0_2 a0_3 a0_4 : Int) (hf : impl_isInstr.form (n : Int) = 0) : (impl_showInstr.pre 0 (Tab.nm n) (impl_showInstr.num a0_1) (impl_showInstr.num a0_2) (impl_showInstr.num a0_3) 3).data.toList = impl_showInstr.txt n a0_1 a0_2 a0_3 a0_4 := by
  unfold impl_showInstr.txt impl_showInstr.pre impl_showInstr.add impl_showInstr.reg
  rw [hf]
  simp [impl_showInstr.num, Tab.nm, ByteArray.data_append]
set_option maxHeartbeats 8000000 in
set_option maxRecDepth 100000 in
theorem impl_showInstr.form0 (n : Nat) (a0_1 a0_2 a0_3 a0_4 : Int) (w : World) (HT : Aside0 (Tab.TabsODEM w)) (HLT : Hid (n < 33)) (HF : Hid (impl_isInstr.form (n : Int) = 0)) (HO : Hid (impl_showInstr.ok n a0_1 a0_2 a0_3 a0_4)) :
    Calls Tryd.prog 34 #[.agg #[.int .i64 (n : Int), .int .i64 a0_1, .int .i64 a0_2, .int .i64 a0_3, .int .i64 a0_4]] w fun e w' => (e = .returned (.string (impl_showInstr.pre 0 (Tab.nm n) (impl_showInstr.num a0_1) (impl_showInstr.num a0_2) (impl_showInstr.num a0_3) 3))) ∧ Below w.heap.size w w' := by
  have hu := Tryd.underlying25
  have HFC := fun W => impl_formOf.calls 8 (n : Int) 0 W (by rw [impl_isInstr.form_eq, HF.out])
  have i0 : ∀ w, (Instr.index 71 (.agg #[.int .i64 a0_1, .int .i64 a0_2, .int .i64 a0_3]) (.int .i64 0)).run Tryd.prog w = .ok (.int .i64 a0_1) w := fun _ => by kernel_rfl
  have i1 : ∀ w, (Instr.index 71 (.agg #[.int .i64 a0_1, .int .i64 a0_2, .int .i64 a0_3]) (.int .i64 1)).run Tryd.prog w = .ok (.int .i64 a0_2) w := fun _ => by kernel_rfl
  have i2 : ∀ w, (Instr.index 71 (.agg #[.int .i64 a0_1, .int .i64 a0_2, .int .i64 a0_3]) (.int .i64 2)).run Tryd.prog w = .ok (.int .i64 a0_3) w := fun _ => by kernel_rfl
  have b0 : Go.bits .and .i64 0 1 = 0 := by decide +kernel
  have b8_ : Go.bits .and .i64 0 8 = 0 := by decide +kernel
  have HNS := Aside0.mk (impl_showInstr.nm_size ⟨n, HLT.out⟩)
  have HX := Aside0.mk (HT.out.o n HLT.out)
  have HLN := Aside0.mk HLT.out
  generalize Tab.nm n = nmv at *
  have HSa := Aside0.mk (impl_showInstr.num_size a0_1 HO.out.2.1)
  have HDa := Lib.hid (fun W (ht : Tab.TabsODEM W) => impl_showInstr.dec a0_1 W ht HO.out.2.1)
  generalize impl_showInstr.num a0_1 = sa at *
  have HSb := Aside0.mk (impl_showInstr.num_size a0_2 HO.out.2.2.1)
  have HDb := Lib.hid (fun W (ht : Tab.TabsODEM W) => impl_showInstr.dec a0_2 W ht HO.out.2.2.1)
  generalize impl_showInstr.num a0_2 = sb at *
  have HSc := Aside0.mk (impl_showInstr.num_size a0_3 HO.out.2.2.2.1)
  have HDc := Lib.hid (fun W (ht : Tab.TabsODEM W) => impl_showInstr.dec a0_3 W ht HO.out.2.2.2.1)
  generalize impl_showInstr.num a0_3 = sc at *
  have HSi := Aside0.mk (impl_showInstr.num_size a0_4 HO.out.2.2.2.2)
  have HDi := Lib.hid (fun W (ht : Tab.TabsODEM W) => impl_showInstr.dec a0_4 W ht HO.out.2.2.2.2)
  generalize impl_showInstr.num a0_4 = si at *
  have c1 : decide (0 ≤ (n : Int)) = true := by simp
  have c2 : decide ((n : Int) < 33) = true := by have := HLT.out; simp; omega
  have c3 : decide (n < 33) = true := by have := HLT.out; simp; omega
  have c4 : ((n : Int) < 33) = True := eq_true (by have := HLT.out; omega)
  have c5 : (33 ≤ (n : Int)) = False := eq_false (by have := HLT.out; omega)
  have HB0 := Aside0.mk (Below.refl w.heap.size w)
  go_enter Tryd.func34, Tryd.ntmps34
  go_wp2_with (first | ((with_reducible refine gate_dst (N := 1) rfl ?_); refine box_event ?hg (N := 1) ?hd (cs := #[.int .i64 (n : Int), .int .i64 a0_1, .int .i64 a0_2, .int .i64 a0_3, .int .i64 a0_4]) (t := 25) ?hr ?_; (case hd => rfl); (case hg => rfl); (case hr => first | (go_simp; done) | (go_simp; rfl)); intro g1 hg w1 hbox hb; revert hbox hb hg))
  intro hg1 hb1 hB1
  have BK := Aside0.mk hb1
  have HB := Aside0.mk (below_step HB0.out hB1)
  clear hg1 hb1 hB1 HB0
  have q0 : w1.cell? ⟨g1, 0, none⟩ = some (.int .i64 (n : Int)) := (blk_cell BK.out 0).trans rfl
  have q1 : w1.cell? ⟨g1, 1, none⟩ = some (.int .i64 a0_1) := (blk_cell BK.out 1).trans rfl
  have q2 : w1.cell? ⟨g1, 2, none⟩ = some (.int .i64 a0_2) := (blk_cell BK.out 2).trans rfl
  have q3 : w1.cell? ⟨g1, 3, none⟩ = some (.int .i64 a0_3) := (blk_cell BK.out 3).trans rfl
  have q4 : w1.cell? ⟨g1, 4, none⟩ = some (.int .i64 a0_4) := (blk_cell BK.out 4).trans rfl
  have hx : w1.cell? ⟨0, n, none⟩ = some (.string nmv) := (HB.out.cell (p := ⟨0, n, none⟩) HT.out.o.lt).trans HX.out
  go_wp2_with (go_at_call 49; refine (HFC _).mono ?_; rintro e w' ⟨rfl, m, rfl⟩)
  clear q0 q1 q2 q3 q4 hx c1 c2 c3 c4 c5
  go_loopw [3, 21] (fun s i wr => ∃ k : Nat, k ≤ 3 ∧ i = .int .i64 k ∧ s = .string (impl_showInstr.pre 0 nmv sa sb sc k) ∧ Aside0 (wr.heap[g1]? = some (.cells #[.int .i64 (n : Int), .int .i64 a0_1, .int .i64 a0_2, .int .i64 a0_3, .int .i64 a0_4] 25 (0, 0))) ∧ Aside0 (Below w.heap.size w wr)) (fun _ i _ => 3 - (intOf i).toNat)
  case atStart => exact ⟨0, by omega, rfl, rfl, ⟨blk_drewN BK.out _⟩, ⟨pw_below_drewN HB.out _⟩⟩
  case round =>
    clear BK HB
    obtain ⟨k, hk, rfl, rfl, BK, HB⟩ := hrel
    rcases (show k = 0 ∨ k = 1 ∨ k = 2 ∨ k = 3 by omega) with rfl | rfl | rfl | rfl
    · go_wp2
      go_roundw
      case rel => exact ⟨1, by omega, rfl, rfl, ⟨BK.out⟩, ⟨HB.out⟩⟩
      case measure => simp [intOf]
    · go_wp2
      go_roundw
      case rel => exact ⟨2, by omega, rfl, rfl, ⟨BK.out⟩, ⟨HB.out⟩⟩
      case measure => simp [intOf]
    · go_wp2
      go_roundw
      case rel => exact ⟨3, by omega, rfl, rfl, ⟨BK.out⟩, ⟨HB.out⟩⟩
      case measure => simp [intOf]
    · go_wp2
      go_ret
      exact ⟨rfl, HB.out⟩
theorem impl_showInstr.txt1 (n : Nat) (a0_1 a0_2 a0_3 a0_4 : Int) (hf : impl_isInstr.form (n : Int) = 1) : (impl_showInstr.pre 1 (Tab.nm n) (impl_showInstr.num a0_1) (impl_showInstr.num a0_2) (impl_showInstr.num a0_3) 3).data.toList = impl_showInstr.txt n a0_1 a0_2 a0_3 a0_4 := by
  unfold impl_showInstr.txt impl_showInstr.pre impl_showInstr.add impl_showInstr.reg
  rw [hf]
  simp [impl_showInstr.num, Tab.nm, ByteArray.data_append]
set_option maxHeartbeats 8000000 in
set_option maxRecDepth 100000 in
theorem impl_showInstr.form1 (n : Nat) (a0_1 a0_2 a0_3 a0_4 : Int) (w : World) (HT : Aside0 (Tab.TabsODEM w)) (HLT : Hid (n < 33)) (HF : Hid (impl_isInstr.form (n : Int) = 1)) (HO : Hid (impl_showInstr.ok n a0_1 a0_2 a0_3 a0_4)) :
    Calls Tryd.prog 34 #[.agg #[.int .i64 (n : Int), .int .i64 a0_1, .int .i64 a0_2, .int .i64 a0_3, .int .i64 a0_4]] w fun e w' => (e = .returned (.string (impl_showInstr.pre 1 (Tab.nm n) (impl_showInstr.num a0_1) (impl_showInstr.num a0_2) (impl_showInstr.num a0_3) 3))) ∧ Below w.heap.size w w' := by
  have hu := Tryd.underlying25
  have HFC := fun W => impl_formOf.calls 8 (n : Int) 1 W (by rw [impl_isInstr.form_eq, HF.out])
  have i0 : ∀ w, (Instr.index 71 (.agg #[.int .i64 a0_1, .int .i64 a0_2, .int .i64 a0_3]) (.int .i64 0)).run Tryd.prog w = .ok (.int .i64 a0_1) w := fun _ => by kernel_rfl
  have i1 : ∀ w, (Instr.index 71 (.agg #[.int .i64 a0_1, .int .i64 a0_2, .int .i64 a0_3]) (.int .i64 1)).run Tryd.prog w = .ok (.int .i64 a0_2) w := fun _ => by kernel_rfl
  have i2 : ∀ w, (Instr.index 71 (.agg #[.int .i64 a0_1, .int .i64 a0_2, .int .i64 a0_3]) (.int .i64 2)).run Tryd.prog w = .ok (.int .i64 a0_3) w := fun _ => by kernel_rfl
  have b0 : Go.bits .and .i64 0 1 = 0 := by decide +kernel
  have b1 : Go.bits .and .i64 1 1 = 1 := by decide +kernel
  have b8_ : Go.bits .and .i64 1 8 = 0 := by decide +kernel
  have HNS := Aside0.mk (impl_showInstr.nm_size ⟨n, HLT.out⟩)
  have HX := Aside0.mk (HT.out.o n HLT.out)
  have HLN := Aside0.mk HLT.out
  generalize Tab.nm n = nmv at *
  have HSa := Aside0.mk (impl_showInstr.num_size a0_1 HO.out.2.1)
  have HDa := Lib.hid (fun W (ht : Tab.TabsODEM W) => impl_showInstr.dec a0_1 W ht HO.out.2.1)
  generalize impl_showInstr.num a0_1 = sa at *
  have HSb := Aside0.mk (impl_showInstr.num_size a0_2 HO.out.2.2.1)
  have HDb := Lib.hid (fun W (ht : Tab.TabsODEM W) => impl_showInstr.dec a0_2 W ht HO.out.2.2.1)
  generalize impl_showInstr.num a0_2 = sb at *
  have HSc := Aside0.mk (impl_showInstr.num_size a0_3 HO.out.2.2.2.1)
  have HDc := Lib.hid (fun W (ht : Tab.TabsODEM W) => impl_showInstr.dec a0_3 W ht HO.out.2.2.2.1)
  generalize impl_showInstr.num a0_3 = sc at *
  have HSi := Aside0.mk (impl_showInstr.num_size a0_4 HO.out.2.2.2.2)
  have HDi := Lib.hid (fun W (ht : Tab.TabsODEM W) => impl_showInstr.dec a0_4 W ht HO.out.2.2.2.2)
  generalize impl_showInstr.num a0_4 = si at *
  have c1 : decide (0 ≤ (n : Int)) = true := by simp
  have c2 : decide ((n : Int) < 33) = true := by have := HLT.out; simp; omega
  have c3 : decide (n < 33) = true := by have := HLT.out; simp; omega
  have c4 : ((n : Int) < 33) = True := eq_true (by have := HLT.out; omega)
  have c5 : (33 ≤ (n : Int)) = False := eq_false (by have := HLT.out; omega)
  have HB0 := Aside0.mk (Below.refl w.heap.size w)
  go_enter Tryd.func34, Tryd.ntmps34
  go_wp2_with (first | ((with_reducible refine gate_dst (N := 1) rfl ?_); refine box_event ?hg (N := 1) ?hd (cs := #[.int .i64 (n : Int), .int .i64 a0_1, .int .i64 a0_2, .int .i64 a0_3, .int .i64 a0_4]) (t := 25) ?hr ?_; (case hd => rfl); (case hg => rfl); (case hr => first | (go_simp; done) | (go_simp; rfl)); intro g1 hg w1 hbox hb; revert hbox hb hg))
  intro hg1 hb1 hB1
  have BK := Aside0.mk hb1
  have HB := Aside0.mk (below_step HB0.out hB1)
  clear hg1 hb1 hB1 HB0
  have q0 : w1.cell? ⟨g1, 0, none⟩ = some (.int .i64 (n : Int)) := (blk_cell BK.out 0).trans rfl
  have q1 : w1.cell? ⟨g1, 1, none⟩ = some (.int .i64 a0_1) := (blk_cell BK.out 1).trans rfl
  have q2 : w1.cell? ⟨g1, 2, none⟩ = some (.int .i64 a0_2) := (blk_cell BK.out 2).trans rfl
  have q3 : w1.cell? ⟨g1, 3, none⟩ = some (.int .i64 a0_3) := (blk_cell BK.out 3).trans rfl
  have q4 : w1.cell? ⟨g1, 4, none⟩ = some (.int .i64 a0_4) := (blk_cell BK.out 4).trans rfl
  have hx : w1.cell? ⟨0, n, none⟩ = some (.string nmv) := (HB.out.cell (p := ⟨0, n, none⟩) HT.out.o.lt).trans HX.out
  go_wp2_with (go_at_call 49; refine (HFC _).mono ?_; rintro e w' ⟨rfl, m, rfl⟩)
  clear q0 q1 q2 q3 q4 hx c1 c2 c3 c4 c5
  go_loopw [3, 21] (fun s i wr => ∃ k : Nat, k ≤ 3 ∧ i = .int .i64 k ∧ s = .string (impl_showInstr.pre 1 nmv sa sb sc k) ∧ Aside0 (wr.heap[g1]? = some (.cells #[.int .i64 (n : Int), .int .i64 a0_1, .int .i64 a0_2, .int .i64 a0_3, .int .i64 a0_4] 25 (0, 0))) ∧ Aside0 (Below w.heap.size w wr)) (fun _ i _ => 3 - (intOf i).toNat)
  case atStart => exact ⟨0, by omega, rfl, rfl, ⟨blk_drewN BK.out _⟩, ⟨pw_below_drewN HB.out _⟩⟩
  case round =>
    clear BK HB
    obtain ⟨k, hk, rfl, rfl, BK, HB⟩ := hrel
    rcases (show k = 0 ∨ k = 1 ∨ k = 2 ∨ k = 3 by omega) with rfl | rfl | rfl | rfl
    · have HP := Aside0.mk (show (impl_showInstr.pre 1 nmv sa sb sc 0).size ≤ 5 by have h1 := HNS.out; have h2 := HSa.out; have h3 := HSb.out; have h4 := HSc.out; have hz : (⟨#[32, 114]⟩ : ByteArray).size = 2 := rfl; simp [impl_showInstr.pre, impl_showInstr.add, ByteArray.size_append] at *; omega)
      generalize hpre : impl_showInstr.pre 1 nmv sa sb sc 0 = p at HP ⊢
      have HPE := Aside0.mk hpre
      clear hpre
      have e1 : (9223372036854775807 < 2 + sa.size) = False := eq_false (by have := HSa.out; omega)
      have e2 : (9223372036854775807 < p.size + (2 + sa.size)) = False := eq_false (by have := HSa.out; have := HP.out; omega)
      go_wp2_with (go_at_call 58; refine (HDa.out _ (HT.out.below HB.out)).mono ?_; rintro e w2 ⟨rfl, hb_⟩)
      go_roundw
      case rel => exact ⟨1, by omega, rfl, by rw [← HPE.out]; rfl, ⟨blk_below BK.out hb_⟩, ⟨below_step HB.out hb_⟩⟩
      case measure => simp [intOf]
    · go_wp2
      go_roundw
      case rel => exact ⟨2, by omega, rfl, rfl, ⟨BK.out⟩, ⟨HB.out⟩⟩
      case measure => simp [intOf]
    · go_wp2
      go_roundw
      case rel => exact ⟨3, by omega, rfl, rfl, ⟨BK.out⟩, ⟨HB.out⟩⟩
      case measure => simp [intOf]
    · go_wp2
      go_ret
      exact ⟨rfl, HB.out⟩
theorem impl_showInstr.txt7 (n : Nat) (a0_1 a0_2 a0_3 a0_4 : Int) (hf : impl_isInstr.form (n : Int) = 7) : (impl_showInstr.pre 7 (Tab.nm n) (impl_showInstr.num a0_1) (impl_showInstr.num a0_2) (impl_showInstr.num a0_3) 3).data.toList = impl_showInstr.txt n a0_1 a0_2 a0_3 a0_4 := by
  unfold impl_showInstr.txt impl_showInstr.pre impl_showInstr.add impl_showInstr.reg
  rw [hf]
  simp [impl_showInstr.num, Tab.nm, ByteArray.data_append]
set_option maxHeartbeats 8000000 in
set_option maxRecDepth 100000 in
theorem impl_showInstr.form7 (n : Nat) (a0_1 a0_2 a0_3 a0_4 : Int) (w : World) (HT : Aside0 (Tab.TabsODEM w)) (HLT : Hid (n < 33)) (HF : Hid (impl_isInstr.form (n : Int) = 7)) (HO : Hid (impl_showInstr.ok n a0_1 a0_2 a0_3 a0_4)) :
    Calls Tryd.prog 34 #[.agg #[.int .i64 (n : Int), .int .i64 a0_1, .int .i64 a0_2, .int .i64 a0_3, .int .i64 a0_4]] w fun e w' => (e = .returned (.string (impl_showInstr.pre 7 (Tab.nm n) (impl_showInstr.num a0_1) (impl_showInstr.num a0_2) (impl_showInstr.num a0_3) 3))) ∧ Below w.heap.size w w' := by
  have hu := Tryd.underlying25
  have HFC := fun W => impl_formOf.calls 8 (n : Int) 7 W (by rw [impl_isInstr.form_eq, HF.out])
  have i0 : ∀ w, (Instr.index 71 (.agg #[.int .i64 a0_1, .int .i64 a0_2, .int .i64 a0_3]) (.int .i64 0)).run Tryd.prog w = .ok (.int .i64 a0_1) w := fun _ => by kernel_rfl
  have i1 : ∀ w, (Instr.index 71 (.agg #[.int .i64 a0_1, .int .i64 a0_2, .int .i64 a0_3]) (.int .i64 1)).run Tryd.prog w = .ok (.int .i64 a0_2) w := fun _ => by kernel_rfl
  have i2 : ∀ w, (Instr.index 71 (.agg #[.int .i64 a0_1, .int .i64 a0_2, .int .i64 a0_3]) (.int .i64 2)).run Tryd.prog w = .ok (.int .i64 a0_3) w := fun _ => by kernel_rfl
  have b1 : Go.bits .and .i64 1 1 = 1 := by decide +kernel
  have b3 : Go.bits .and .i64 3 1 = 1 := by decide +kernel
  have b7 : Go.bits .and .i64 7 1 = 1 := by decide +kernel
  have b8_ : Go.bits .and .i64 7 8 = 0 := by decide +kernel
  have HNS := Aside0.mk (impl_showInstr.nm_size ⟨n, HLT.out⟩)
  have HX := Aside0.mk (HT.out.o n HLT.out)
  have HLN := Aside0.mk HLT.out
  generalize Tab.nm n = nmv at *
  have HSa := Aside0.mk (impl_showInstr.num_size a0_1 HO.out.2.1)
  have HDa := Lib.hid (fun W (ht : Tab.TabsODEM W) => impl_showInstr.dec a0_1 W ht HO.out.2.1)
  generalize impl_showInstr.num a0_1 = sa at *
  have HSb := Aside0.mk (impl_showInstr.num_size a0_2 HO.out.2.2.1)
  have HDb := Lib.hid (fun W (ht : Tab.TabsODEM W) => impl_showInstr.dec a0_2 W ht HO.out.2.2.1)
  generalize impl_showInstr.num a0_2 = sb at *
  have HSc := Aside0.mk (impl_showInstr.num_size a0_3 HO.out.2.2.2.1)
  have HDc := Lib.hid (fun W (ht : Tab.TabsODEM W) => impl_showInstr.dec a0_3 W ht HO.out.2.2.2.1)
  generalize impl_showInstr.num a0_3 = sc at *
  have HSi := Aside0.mk (impl_showInstr.num_size a0_4 HO.out.2.2.2.2)
  have HDi := Lib.hid (fun W (ht : Tab.TabsODEM W) => impl_showInstr.dec a0_4 W ht HO.out.2.2.2.2)
  generalize impl_showInstr.num a0_4 = si at *
  have c1 : decide (0 ≤ (n : Int)) = true := by simp
  have c2 : decide ((n : Int) < 33) = true := by have := HLT.out; simp; omega
  have c3 : decide (n < 33) = true := by have := HLT.out; simp; omega
  have c4 : ((n : Int) < 33) = True := eq_true (by have := HLT.out; omega)
  have c5 : (33 ≤ (n : Int)) = False := eq_false (by have := HLT.out; omega)
  have HB0 := Aside0.mk (Below.refl w.heap.size w)
  go_enter Tryd.func34, Tryd.ntmps34
  go_wp2_with (first | ((with_reducible refine gate_dst (N := 1) rfl ?_); refine box_event ?hg (N := 1) ?hd (cs := #[.int .i64 (n : Int), .int .i64 a0_1, .int .i64 a0_2, .int .i64 a0_3, .int .i64 a0_4]) (t := 25) ?hr ?_; (case hd => rfl); (case hg => rfl); (case hr => first | (go_simp; done) | (go_simp; rfl)); intro g1 hg w1 hbox hb; revert hbox hb hg))
  intro hg1 hb1 hB1
  have BK := Aside0.mk hb1
  have HB := Aside0.mk (below_step HB0.out hB1)
  clear hg1 hb1 hB1 HB0
  have q0 : w1.cell? ⟨g1, 0, none⟩ = some (.int .i64 (n : Int)) := (blk_cell BK.out 0).trans rfl
  have q1 : w1.cell? ⟨g1, 1, none⟩ = some (.int .i64 a0_1) := (blk_cell BK.out 1).trans rfl
  have q2 : w1.cell? ⟨g1, 2, none⟩ = some (.int .i64 a0_2) := (blk_cell BK.out 2).trans rfl
  have q3 : w1.cell? ⟨g1, 3, none⟩ = some (.int .i64 a0_3) := (blk_cell BK.out 3).trans rfl
  have q4 : w1.cell? ⟨g1, 4, none⟩ = some (.int .i64 a0_4) := (blk_cell BK.out 4).trans rfl
  have hx : w1.cell? ⟨0, n, none⟩ = some (.string nmv) := (HB.out.cell (p := ⟨0, n, none⟩) HT.out.o.lt).trans HX.out
  go_wp2_with (go_at_call 49; refine (HFC _).mono ?_; rintro e w' ⟨rfl, m, rfl⟩)
  clear q0 q1 q2 q3 q4 hx c1 c2 c3 c4 c5
  go_loopw [3, 21] (fun s i wr => ∃ k : Nat, k ≤ 3 ∧ i = .int .i64 k ∧ s = .string (impl_showInstr.pre 7 nmv sa sb sc k) ∧ Aside0 (wr.heap[g1]? = some (.cells #[.int .i64 (n : Int), .int .i64 a0_1, .int .i64 a0_2, .int .i64 a0_3, .int .i64 a0_4] 25 (0, 0))) ∧ Aside0 (Below w.heap.size w wr)) (fun _ i _ => 3 - (intOf i).toNat)
  case atStart => exact ⟨0, by omega, rfl, rfl, ⟨blk_drewN BK.out _⟩, ⟨pw_below_drewN HB.out _⟩⟩
  case round =>
    clear BK HB
    obtain ⟨k, hk, rfl, rfl, BK, HB⟩ := hrel
    rcases (show k = 0 ∨ k = 1 ∨ k = 2 ∨ k = 3 by omega) with rfl | rfl | rfl | rfl
    · have HP := Aside0.mk (show (impl_showInstr.pre 7 nmv sa sb sc 0).size ≤ 5 by have h1 := HNS.out; have h2 := HSa.out; have h3 := HSb.out; have h4 := HSc.out; have hz : (⟨#[32, 114]⟩ : ByteArray).size = 2 := rfl; simp [impl_showInstr.pre, impl_showInstr.add, ByteArray.size_append] at *; omega)
      generalize hpre : impl_showInstr.pre 7 nmv sa sb sc 0 = p at HP ⊢
      have HPE := Aside0.mk hpre
      clear hpre
      have e1 : (9223372036854775807 < 2 + sa.size) = False := eq_false (by have := HSa.out; omega)
      have e2 : (9223372036854775807 < p.size + (2 + sa.size)) = False := eq_false (by have := HSa.out; have := HP.out; omega)
      go_wp2_with (go_at_call 58; refine (HDa.out _ (HT.out.below HB.out)).mono ?_; rintro e w2 ⟨rfl, hb_⟩)
      go_roundw
      case rel => exact ⟨1, by omega, rfl, by rw [← HPE.out]; rfl, ⟨blk_below BK.out hb_⟩, ⟨below_step HB.out hb_⟩⟩
      case measure => simp [intOf]
    · have HP := Aside0.mk (show (impl_showInstr.pre 7 nmv sa sb sc 1).size ≤ 28 by have h1 := HNS.out; have h2 := HSa.out; have h3 := HSb.out; have h4 := HSc.out; have hz : (⟨#[32, 114]⟩ : ByteArray).size = 2 := rfl; simp [impl_showInstr.pre, impl_showInstr.add, ByteArray.size_append] at *; omega)
      generalize hpre : impl_showInstr.pre 7 nmv sa sb sc 1 = p at HP ⊢
      have HPE := Aside0.mk hpre
      clear hpre
      have e1 : (9223372036854775807 < 2 + sb.size) = False := eq_false (by have := HSb.out; omega)
      have e2 : (9223372036854775807 < p.size + (2 + sb.size)) = False := eq_false (by have := HSb.out; have := HP.out; omega)
      go_wp2_with (go_at_call 58; refine (HDb.out _ (HT.out.below HB.out)).mono ?_; rintro e w2 ⟨rfl, hb_⟩)
      go_roundw
      case rel => exact ⟨2, by omega, rfl, by rw [← HPE.out]; rfl, ⟨blk_below BK.out hb_⟩, ⟨below_step HB.out hb_⟩⟩
      case measure => simp [intOf]
    · have HP := Aside0.mk (show (impl_showInstr.pre 7 nmv sa sb sc 2).size ≤ 51 by have h1 := HNS.out; have h2 := HSa.out; have h3 := HSb.out; have h4 := HSc.out; have hz : (⟨#[32, 114]⟩ : ByteArray).size = 2 := rfl; simp [impl_showInstr.pre, impl_showInstr.add, ByteArray.size_append] at *; omega)
      generalize hpre : impl_showInstr.pre 7 nmv sa sb sc 2 = p at HP ⊢
      have HPE := Aside0.mk hpre
      clear hpre
      have e1 : (9223372036854775807 < 2 + sc.size) = False := eq_false (by have := HSc.out; omega)
      have e2 : (9223372036854775807 < p.size + (2 + sc.size)) = False := eq_false (by have := HSc.out; have := HP.out; omega)
      go_wp2_with (go_at_call 58; refine (HDc.out _ (HT.out.below HB.out)).mono ?_; rintro e w2 ⟨rfl, hb_⟩)
      go_roundw
      case rel => exact ⟨3, by omega, rfl, by rw [← HPE.out]; rfl, ⟨blk_below BK.out hb_⟩, ⟨below_step HB.out hb_⟩⟩
      case measure => simp [intOf]
    · go_wp2
      go_ret
      exact ⟨rfl, HB.out⟩
theorem impl_showInstr.txt8 (n : Nat) (a0_1 a0_2 a0_3 a0_4 : Int) (hf : impl_isInstr.form (n : Int) = 8) : ((impl_showInstr.pre 8 (Tab.nm n) (impl_showInstr.num a0_1) (impl_showInstr.num a0_2) (impl_showInstr.num a0_3) 3 ++ ((⟨#[32]⟩ : ByteArray) ++ impl_showInstr.num a0_4))).data.toList = impl_showInstr.txt n a0_1 a0_2 a0_3 a0_4 := by
  unfold impl_showInstr.txt impl_showInstr.pre impl_showInstr.add impl_showInstr.reg
  rw [hf]
  simp [impl_showInstr.num, Tab.nm, ByteArray.data_append]
set_option maxHeartbeats 8000000 in
set_option maxRecDepth 100000 in
theorem impl_showInstr.form8 (n : Nat) (a0_1 a0_2 a0_3 a0_4 : Int) (w : World) (HT : Aside0 (Tab.TabsODEM w)) (HLT : Hid (n < 33)) (HF : Hid (impl_isInstr.form (n : Int) = 8)) (HO : Hid (impl_showInstr.ok n a0_1 a0_2 a0_3 a0_4)) :
    Calls Tryd.prog 34 #[.agg #[.int .i64 (n : Int), .int .i64 a0_1, .int .i64 a0_2, .int .i64 a0_3, .int .i64 a0_4]] w fun e w' => (e = .returned (.string ((impl_showInstr.pre 8 (Tab.nm n) (impl_showInstr.num a0_1) (impl_showInstr.num a0_2) (impl_showInstr.num a0_3) 3 ++ ((⟨#[32]⟩ : ByteArray) ++ impl_showInstr.num a0_4))))) ∧ Below w.heap.size w w' := by
  have hu := Tryd.underlying25
  have HFC := fun W => impl_formOf.calls 8 (n : Int) 8 W (by rw [impl_isInstr.form_eq, HF.out])
  have i0 : ∀ w, (Instr.index 71 (.agg #[.int .i64 a0_1, .int .i64 a0_2, .int .i64 a0_3]) (.int .i64 0)).run Tryd.prog w = .ok (.int .i64 a0_1) w := fun _ => by kernel_rfl
  have i1 : ∀ w, (Instr.index 71 (.agg #[.int .i64 a0_1, .int .i64 a0_2, .int .i64 a0_3]) (.int .i64 1)).run Tryd.prog w = .ok (.int .i64 a0_2) w := fun _ => by kernel_rfl
  have i2 : ∀ w, (Instr.index 71 (.agg #[.int .i64 a0_1, .int .i64 a0_2, .int .i64 a0_3]) (.int .i64 2)).run Tryd.prog w = .ok (.int .i64 a0_3) w := fun _ => by kernel_rfl
  have b2 : Go.bits .and .i64 2 1 = 0 := by decide +kernel
  have b4 : Go.bits .and .i64 4 1 = 0 := by decide +kernel
  have b8 : Go.bits .and .i64 8 1 = 0 := by decide +kernel
  have b8_ : Go.bits .and .i64 8 8 = 8 := by decide +kernel
  have HNS := Aside0.mk (impl_showInstr.nm_size ⟨n, HLT.out⟩)
  have HX := Aside0.mk (HT.out.o n HLT.out)
  have HLN := Aside0.mk HLT.out
  generalize Tab.nm n = nmv at *
  have HSa := Aside0.mk (impl_showInstr.num_size a0_1 HO.out.2.1)
  have HDa := Lib.hid (fun W (ht : Tab.TabsODEM W) => impl_showInstr.dec a0_1 W ht HO.out.2.1)
  generalize impl_showInstr.num a0_1 = sa at *
  have HSb := Aside0.mk (impl_showInstr.num_size a0_2 HO.out.2.2.1)
  have HDb := Lib.hid (fun W (ht : Tab.TabsODEM W) => impl_showInstr.dec a0_2 W ht HO.out.2.2.1)
  generalize impl_showInstr.num a0_2 = sb at *
  have HSc := Aside0.mk (impl_showInstr.num_size a0_3 HO.out.2.2.2.1)
  have HDc := Lib.hid (fun W (ht : Tab.TabsODEM W) => impl_showInstr.dec a0_3 W ht HO.out.2.2.2.1)
  generalize impl_showInstr.num a0_3 = sc at *
  have HSi := Aside0.mk (impl_showInstr.num_size a0_4 HO.out.2.2.2.2)
  have HDi := Lib.hid (fun W (ht : Tab.TabsODEM W) => impl_showInstr.dec a0_4 W ht HO.out.2.2.2.2)
  generalize impl_showInstr.num a0_4 = si at *
  have c1 : decide (0 ≤ (n : Int)) = true := by simp
  have c2 : decide ((n : Int) < 33) = true := by have := HLT.out; simp; omega
  have c3 : decide (n < 33) = true := by have := HLT.out; simp; omega
  have c4 : ((n : Int) < 33) = True := eq_true (by have := HLT.out; omega)
  have c5 : (33 ≤ (n : Int)) = False := eq_false (by have := HLT.out; omega)
  have HB0 := Aside0.mk (Below.refl w.heap.size w)
  go_enter Tryd.func34, Tryd.ntmps34
  go_wp2_with (first | ((with_reducible refine gate_dst (N := 1) rfl ?_); refine box_event ?hg (N := 1) ?hd (cs := #[.int .i64 (n : Int), .int .i64 a0_1, .int .i64 a0_2, .int .i64 a0_3, .int .i64 a0_4]) (t := 25) ?hr ?_; (case hd => rfl); (case hg => rfl); (case hr => first | (go_simp; done) | (go_simp; rfl)); intro g1 hg w1 hbox hb; revert hbox hb hg))
  intro hg1 hb1 hB1
  have BK := Aside0.mk hb1
  have HB := Aside0.mk (below_step HB0.out hB1)
  clear hg1 hb1 hB1 HB0
  have q0 : w1.cell? ⟨g1, 0, none⟩ = some (.int .i64 (n : Int)) := (blk_cell BK.out 0).trans rfl
  have q1 : w1.cell? ⟨g1, 1, none⟩ = some (.int .i64 a0_1) := (blk_cell BK.out 1).trans rfl
  have q2 : w1.cell? ⟨g1, 2, none⟩ = some (.int .i64 a0_2) := (blk_cell BK.out 2).trans rfl
  have q3 : w1.cell? ⟨g1, 3, none⟩ = some (.int .i64 a0_3) := (blk_cell BK.out 3).trans rfl
  have q4 : w1.cell? ⟨g1, 4, none⟩ = some (.int .i64 a0_4) := (blk_cell BK.out 4).trans rfl
  have hx : w1.cell? ⟨0, n, none⟩ = some (.string nmv) := (HB.out.cell (p := ⟨0, n, none⟩) HT.out.o.lt).trans HX.out
  go_wp2_with (go_at_call 49; refine (HFC _).mono ?_; rintro e w' ⟨rfl, m, rfl⟩)
  clear q0 q1 q2 q3 q4 hx c1 c2 c3 c4 c5
  go_loopw [3, 21] (fun s i wr => ∃ k : Nat, k ≤ 3 ∧ i = .int .i64 k ∧ s = .string (impl_showInstr.pre 8 nmv sa sb sc k) ∧ Aside0 (wr.heap[g1]? = some (.cells #[.int .i64 (n : Int), .int .i64 a0_1, .int .i64 a0_2, .int .i64 a0_3, .int .i64 a0_4] 25 (0, 0))) ∧ Aside0 (Below w.heap.size w wr)) (fun _ i _ => 3 - (intOf i).toNat)
  case atStart => exact ⟨0, by omega, rfl, rfl, ⟨blk_drewN BK.out _⟩, ⟨pw_below_drewN HB.out _⟩⟩
  case round =>
    clear BK HB
    obtain ⟨k, hk, rfl, rfl, BK, HB⟩ := hrel
    rcases (show k = 0 ∨ k = 1 ∨ k = 2 ∨ k = 3 by omega) with rfl | rfl | rfl | rfl
    · go_wp2
      go_roundw
      case rel => exact ⟨1, by omega, rfl, rfl, ⟨BK.out⟩, ⟨HB.out⟩⟩
      case measure => simp [intOf]
    · go_wp2
      go_roundw
      case rel => exact ⟨2, by omega, rfl, rfl, ⟨BK.out⟩, ⟨HB.out⟩⟩
      case measure => simp [intOf]
    · go_wp2
      go_roundw
      case rel => exact ⟨3, by omega, rfl, rfl, ⟨BK.out⟩, ⟨HB.out⟩⟩
      case measure => simp [intOf]
    · have HP := Aside0.mk (show (impl_showInstr.pre 8 nmv sa sb sc 3).size ≤ 74 by have h1 := HNS.out; have h2 := HSa.out; have h3 := HSb.out; have h4 := HSc.out; have hz : (⟨#[32, 114]⟩ : ByteArray).size = 2 := rfl; simp [impl_showInstr.pre, impl_showInstr.add, ByteArray.size_append] at *; omega)
      generalize hpre : impl_showInstr.pre 8 nmv sa sb sc 3 = p at HP ⊢
      have HPE := Aside0.mk hpre
      clear hpre
      have e1 : (9223372036854775807 < 1 + si.size) = False := eq_false (by have := HSi.out; omega)
      have e2 : (9223372036854775807 < p.size + (1 + si.size)) = False := eq_false (by have := HSi.out; have := HP.out; omega)
      have q4 : wr.cell? ⟨g1, 4, none⟩ = some (.int .i64 a0_4) := (blk_cell BK.out 4).trans rfl
      go_wp2_with (go_at_call 58; refine (HDi.out _ (HT.out.below HB.out)).mono ?_; rintro e w2 ⟨rfl, hb_⟩)
      go_ret
      exact ⟨by rw [HPE.out]; rfl, below_step HB.out hb_⟩
theorem impl_showInstr.txt9 (n : Nat) (a0_1 a0_2 a0_3 a0_4 : Int) (hf : impl_isInstr.form (n : Int) = 9) : ((impl_showInstr.pre 9 (Tab.nm n) (impl_showInstr.num a0_1) (impl_showInstr.num a0_2) (impl_showInstr.num a0_3) 3 ++ ((⟨#[32]⟩ : ByteArray) ++ impl_showInstr.num a0_4))).data.toList = impl_showInstr.txt n a0_1 a0_2 a0_3 a0_4 := by
  unfold impl_showInstr.txt impl_showInstr.pre impl_showInstr.add impl_showInstr.reg
  rw [hf]
  simp [impl_showInstr.num, Tab.nm, ByteArray.data_append]
set_option maxHeartbeats 8000000 in
set_option maxRecDepth 100000 in
theorem impl_showInstr.form9 (n : Nat) (a0_1 a0_2 a0_3 a0_4 : Int) (w : World) (HT : Aside0 (Tab.TabsODEM w)) (HLT : Hid (n < 33)) (HF : Hid (impl_isInstr.form (n : Int) = 9)) (HO : Hid (impl_showInstr.ok n a0_1 a0_2 a0_3 a0_4)) :
    Calls Tryd.prog 34 #[.agg #[.int .i64 (n : Int), .int .i64 a0_1, .int .i64 a0_2, .int .i64 a0_3, .int .i64 a0_4]] w fun e w' => (e = .returned (.string ((impl_showInstr.pre 9 (Tab.nm n) (impl_showInstr.num a0_1) (impl_showInstr.num a0_2) (impl_showInstr.num a0_3) 3 ++ ((⟨#[32]⟩ : ByteArray) ++ impl_showInstr.num a0_4))))) ∧ Below w.heap.size w w' := by
  have hu := Tryd.underlying25
  have HFC := fun W => impl_formOf.calls 8 (n : Int) 9 W (by rw [impl_isInstr.form_eq, HF.out])
  have i0 : ∀ w, (Instr.index 71 (.agg #[.int .i64 a0_1, .int .i64 a0_2, .int .i64 a0_3]) (.int .i64 0)).run Tryd.prog w = .ok (.int .i64 a0_1) w := fun _ => by kernel_rfl
  have i1 : ∀ w, (Instr.index 71 (.agg #[.int .i64 a0_1, .int .i64 a0_2, .int .i64 a0_3]) (.int .i64 1)).run Tryd.prog w = .ok (.int .i64 a0_2) w := fun _ => by kernel_rfl
  have i2 : ∀ w, (Instr.index 71 (.agg #[.int .i64 a0_1, .int .i64 a0_2, .int .i64 a0_3]) (.int .i64 2)).run Tryd.prog w = .ok (.int .i64 a0_3) w := fun _ => by kernel_rfl
  have b2 : Go.bits .and .i64 2 1 = 0 := by decide +kernel
  have b4 : Go.bits .and .i64 4 1 = 0 := by decide +kernel
  have b9 : Go.bits .and .i64 9 1 = 1 := by decide +kernel
  have b8_ : Go.bits .and .i64 9 8 = 8 := by decide +kernel
  have HNS := Aside0.mk (impl_showInstr.nm_size ⟨n, HLT.out⟩)
  have HX := Aside0.mk (HT.out.o n HLT.out)
  have HLN := Aside0.mk HLT.out
  generalize Tab.nm n = nmv at *
  have HSa := Aside0.mk (impl_showInstr.num_size a0_1 HO.out.2.1)
  have HDa := Lib.hid (fun W (ht : Tab.TabsODEM W) => impl_showInstr.dec a0_1 W ht HO.out.2.1)
  generalize impl_showInstr.num a0_1 = sa at *
  have HSb := Aside0.mk (impl_showInstr.num_size a0_2 HO.out.2.2.1)
  have HDb := Lib.hid (fun W (ht : Tab.TabsODEM W) => impl_showInstr.dec a0_2 W ht HO.out.2.2.1)
  generalize impl_showInstr.num a0_2 = sb at *
  have HSc := Aside0.mk (impl_showInstr.num_size a0_3 HO.out.2.2.2.1)
  have HDc := Lib.hid (fun W (ht : Tab.TabsODEM W) => impl_showInstr.dec a0_3 W ht HO.out.2.2.2.1)
  generalize impl_showInstr.num a0_3 = sc at *
  have HSi := Aside0.mk (impl_showInstr.num_size a0_4 HO.out.2.2.2.2)
  have HDi := Lib.hid (fun W (ht : Tab.TabsODEM W) => impl_showInstr.dec a0_4 W ht HO.out.2.2.2.2)
  generalize impl_showInstr.num a0_4 = si at *
  have c1 : decide (0 ≤ (n : Int)) = true := by simp
  have c2 : decide ((n : Int) < 33) = true := by have := HLT.out; simp; omega
  have c3 : decide (n < 33) = true := by have := HLT.out; simp; omega
  have c4 : ((n : Int) < 33) = True := eq_true (by have := HLT.out; omega)
  have c5 : (33 ≤ (n : Int)) = False := eq_false (by have := HLT.out; omega)
  have HB0 := Aside0.mk (Below.refl w.heap.size w)
  go_enter Tryd.func34, Tryd.ntmps34
  go_wp2_with (first | ((with_reducible refine gate_dst (N := 1) rfl ?_); refine box_event ?hg (N := 1) ?hd (cs := #[.int .i64 (n : Int), .int .i64 a0_1, .int .i64 a0_2, .int .i64 a0_3, .int .i64 a0_4]) (t := 25) ?hr ?_; (case hd => rfl); (case hg => rfl); (case hr => first | (go_simp; done) | (go_simp; rfl)); intro g1 hg w1 hbox hb; revert hbox hb hg))
  intro hg1 hb1 hB1
  have BK := Aside0.mk hb1
  have HB := Aside0.mk (below_step HB0.out hB1)
  clear hg1 hb1 hB1 HB0
  have q0 : w1.cell? ⟨g1, 0, none⟩ = some (.int .i64 (n : Int)) := (blk_cell BK.out 0).trans rfl
  have q1 : w1.cell? ⟨g1, 1, none⟩ = some (.int .i64 a0_1) := (blk_cell BK.out 1).trans rfl
  have q2 : w1.cell? ⟨g1, 2, none⟩ = some (.int .i64 a0_2) := (blk_cell BK.out 2).trans rfl
  have q3 : w1.cell? ⟨g1, 3, none⟩ = some (.int .i64 a0_3) := (blk_cell BK.out 3).trans rfl
  have q4 : w1.cell? ⟨g1, 4, none⟩ = some (.int .i64 a0_4) := (blk_cell BK.out 4).trans rfl
  have hx : w1.cell? ⟨0, n, none⟩ = some (.string nmv) := (HB.out.cell (p := ⟨0, n, none⟩) HT.out.o.lt).trans HX.out
  go_wp2_with (go_at_call 49; refine (HFC _).mono ?_; rintro e w' ⟨rfl, m, rfl⟩)
  clear q0 q1 q2 q3 q4 hx c1 c2 c3 c4 c5
  go_loopw [3, 21] (fun s i wr => ∃ k : Nat, k ≤ 3 ∧ i = .int .i64 k ∧ s = .string (impl_showInstr.pre 9 nmv sa sb sc k) ∧ Aside0 (wr.heap[g1]? = some (.cells #[.int .i64 (n : Int), .int .i64 a0_1, .int .i64 a0_2, .int .i64 a0_3, .int .i64 a0_4] 25 (0, 0))) ∧ Aside0 (Below w.heap.size w wr)) (fun _ i _ => 3 - (intOf i).toNat)
  case atStart => exact ⟨0, by omega, rfl, rfl, ⟨blk_drewN BK.out _⟩, ⟨pw_below_drewN HB.out _⟩⟩
  case round =>
    clear BK HB
    obtain ⟨k, hk, rfl, rfl, BK, HB⟩ := hrel
    rcases (show k = 0 ∨ k = 1 ∨ k = 2 ∨ k = 3 by omega) with rfl | rfl | rfl | rfl
    · have HP := Aside0.mk (show (impl_showInstr.pre 9 nmv sa sb sc 0).size ≤ 5 by have h1 := HNS.out; have h2 := HSa.out; have h3 := HSb.out; have h4 := HSc.out; have hz : (⟨#[32, 114]⟩ : ByteArray).size = 2 := rfl; simp [impl_showInstr.pre, impl_showInstr.add, ByteArray.size_append] at *; omega)
      generalize hpre : impl_showInstr.pre 9 nmv sa sb sc 0 = p at HP ⊢
      have HPE := Aside0.mk hpre
      clear hpre
      have e1 : (9223372036854775807 < 2 + sa.size) = False := eq_false (by have := HSa.out; omega)
      have e2 : (9223372036854775807 < p.size + (2 + sa.size)) = False := eq_false (by have := HSa.out; have := HP.out; omega)
      go_wp2_with (go_at_call 58; refine (HDa.out _ (HT.out.below HB.out)).mono ?_; rintro e w2 ⟨rfl, hb_⟩)
      go_roundw
      case rel => exact ⟨1, by omega, rfl, by rw [← HPE.out]; rfl, ⟨blk_below BK.out hb_⟩, ⟨below_step HB.out hb_⟩⟩
      case measure => simp [intOf]
    · go_wp2
      go_roundw
      case rel => exact ⟨2, by omega, rfl, rfl, ⟨BK.out⟩, ⟨HB.out⟩⟩
      case measure => simp [intOf]
    · go_wp2
      go_roundw
      case rel => exact ⟨3, by omega, rfl, rfl, ⟨BK.out⟩, ⟨HB.out⟩⟩
      case measure => simp [intOf]
    · have HP := Aside0.mk (show (impl_showInstr.pre 9 nmv sa sb sc 3).size ≤ 74 by have h1 := HNS.out; have h2 := HSa.out; have h3 := HSb.out; have h4 := HSc.out; have hz : (⟨#[32, 114]⟩ : ByteArray).size = 2 := rfl; simp [impl_showInstr.pre, impl_showInstr.add, ByteArray.size_append] at *; omega)
      generalize hpre : impl_showInstr.pre 9 nmv sa sb sc 3 = p at HP ⊢
      have HPE := Aside0.mk hpre
      clear hpre
      have e1 : (9223372036854775807 < 1 + si.size) = False := eq_false (by have := HSi.out; omega)
      have e2 : (9223372036854775807 < p.size + (1 + si.size)) = False := eq_false (by have := HSi.out; have := HP.out; omega)
      have q4 : wr.cell? ⟨g1, 4, none⟩ = some (.int .i64 a0_4) := (blk_cell BK.out 4).trans rfl
      go_wp2_with (go_at_call 58; refine (HDi.out _ (HT.out.below HB.out)).mono ?_; rintro e w2 ⟨rfl, hb_⟩)
      go_ret
      exact ⟨by rw [HPE.out]; rfl, below_step HB.out hb_⟩
theorem impl_showInstr.txt10 (n : Nat) (a0_1 a0_2 a0_3 a0_4 : Int) (hf : impl_isInstr.form (n : Int) = 10) : ((impl_showInstr.pre 10 (Tab.nm n) (impl_showInstr.num a0_1) (impl_showInstr.num a0_2) (impl_showInstr.num a0_3) 3 ++ ((⟨#[32]⟩ : ByteArray) ++ impl_showInstr.num a0_4))).data.toList = impl_showInstr.txt n a0_1 a0_2 a0_3 a0_4 := by
  unfold impl_showInstr.txt impl_showInstr.pre impl_showInstr.add impl_showInstr.reg
  rw [hf]
  simp [impl_showInstr.num, Tab.nm, ByteArray.data_append]
set_option maxHeartbeats 8000000 in
set_option maxRecDepth 100000 in
theorem impl_showInstr.form10 (n : Nat) (a0_1 a0_2 a0_3 a0_4 : Int) (w : World) (HT : Aside0 (Tab.TabsODEM w)) (HLT : Hid (n < 33)) (HF : Hid (impl_isInstr.form (n : Int) = 10)) (HO : Hid (impl_showInstr.ok n a0_1 a0_2 a0_3 a0_4)) :
    Calls Tryd.prog 34 #[.agg #[.int .i64 (n : Int), .int .i64 a0_1, .int .i64 a0_2, .int .i64 a0_3, .int .i64 a0_4]] w fun e w' => (e = .returned (.string ((impl_showInstr.pre 10 (Tab.nm n) (impl_showInstr.num a0_1) (impl_showInstr.num a0_2) (impl_showInstr.num a0_3) 3 ++ ((⟨#[32]⟩ : ByteArray) ++ impl_showInstr.num a0_4))))) ∧ Below w.heap.size w w' := by
  have hu := Tryd.underlying25
  have HFC := fun W => impl_formOf.calls 8 (n : Int) 10 W (by rw [impl_isInstr.form_eq, HF.out])
  have i0 : ∀ w, (Instr.index 71 (.agg #[.int .i64 a0_1, .int .i64 a0_2, .int .i64 a0_3]) (.int .i64 0)).run Tryd.prog w = .ok (.int .i64 a0_1) w := fun _ => by kernel_rfl
  have i1 : ∀ w, (Instr.index 71 (.agg #[.int .i64 a0_1, .int .i64 a0_2, .int .i64 a0_3]) (.int .i64 1)).run Tryd.prog w = .ok (.int .i64 a0_2) w := fun _ => by kernel_rfl
  have i2 : ∀ w, (Instr.index 71 (.agg #[.int .i64 a0_1, .int .i64 a0_2, .int .i64 a0_3]) (.int .i64 2)).run Tryd.prog w = .ok (.int .i64 a0_3) w := fun _ => by kernel_rfl
  have b2 : Go.bits .and .i64 2 1 = 0 := by decide +kernel
  have b5 : Go.bits .and .i64 5 1 = 1 := by decide +kernel
  have b10 : Go.bits .and .i64 10 1 = 0 := by decide +kernel
  have b8_ : Go.bits .and .i64 10 8 = 8 := by decide +kernel
  have HNS := Aside0.mk (impl_showInstr.nm_size ⟨n, HLT.out⟩)
  have HX := Aside0.mk (HT.out.o n HLT.out)
  have HLN := Aside0.mk HLT.out
  generalize Tab.nm n = nmv at *
  have HSa := Aside0.mk (impl_showInstr.num_size a0_1 HO.out.2.1)
  have HDa := Lib.hid (fun W (ht : Tab.TabsODEM W) => impl_showInstr.dec a0_1 W ht HO.out.2.1)
  generalize impl_showInstr.num a0_1 = sa at *
  have HSb := Aside0.mk (impl_showInstr.num_size a0_2 HO.out.2.2.1)
  have HDb := Lib.hid (fun W (ht : Tab.TabsODEM W) => impl_showInstr.dec a0_2 W ht HO.out.2.2.1)
  generalize impl_showInstr.num a0_2 = sb at *
  have HSc := Aside0.mk (impl_showInstr.num_size a0_3 HO.out.2.2.2.1)
  have HDc := Lib.hid (fun W (ht : Tab.TabsODEM W) => impl_showInstr.dec a0_3 W ht HO.out.2.2.2.1)
  generalize impl_showInstr.num a0_3 = sc at *
  have HSi := Aside0.mk (impl_showInstr.num_size a0_4 HO.out.2.2.2.2)
  have HDi := Lib.hid (fun W (ht : Tab.TabsODEM W) => impl_showInstr.dec a0_4 W ht HO.out.2.2.2.2)
  generalize impl_showInstr.num a0_4 = si at *
  have c1 : decide (0 ≤ (n : Int)) = true := by simp
  have c2 : decide ((n : Int) < 33) = true := by have := HLT.out; simp; omega
  have c3 : decide (n < 33) = true := by have := HLT.out; simp; omega
  have c4 : ((n : Int) < 33) = True := eq_true (by have := HLT.out; omega)
  have c5 : (33 ≤ (n : Int)) = False := eq_false (by have := HLT.out; omega)
  have HB0 := Aside0.mk (Below.refl w.heap.size w)
  go_enter Tryd.func34, Tryd.ntmps34
  go_wp2_with (first | ((with_reducible refine gate_dst (N := 1) rfl ?_); refine box_event ?hg (N := 1) ?hd (cs := #[.int .i64 (n : Int), .int .i64 a0_1, .int .i64 a0_2, .int .i64 a0_3, .int .i64 a0_4]) (t := 25) ?hr ?_; (case hd => rfl); (case hg => rfl); (case hr => first | (go_simp; done) | (go_simp; rfl)); intro g1 hg w1 hbox hb; revert hbox hb hg))
  intro hg1 hb1 hB1
  have BK := Aside0.mk hb1
  have HB := Aside0.mk (below_step HB0.out hB1)
  clear hg1 hb1 hB1 HB0
  have q0 : w1.cell? ⟨g1, 0, none⟩ = some (.int .i64 (n : Int)) := (blk_cell BK.out 0).trans rfl
  have q1 : w1.cell? ⟨g1, 1, none⟩ = some (.int .i64 a0_1) := (blk_cell BK.out 1).trans rfl
  have q2 : w1.cell? ⟨g1, 2, none⟩ = some (.int .i64 a0_2) := (blk_cell BK.out 2).trans rfl
  have q3 : w1.cell? ⟨g1, 3, none⟩ = some (.int .i64 a0_3) := (blk_cell BK.out 3).trans rfl
  have q4 : w1.cell? ⟨g1, 4, none⟩ = some (.int .i64 a0_4) := (blk_cell BK.out 4).trans rfl
  have hx : w1.cell? ⟨0, n, none⟩ = some (.string nmv) := (HB.out.cell (p := ⟨0, n, none⟩) HT.out.o.lt).trans HX.out
  go_wp2_with (go_at_call 49; refine (HFC _).mono ?_; rintro e w' ⟨rfl, m, rfl⟩)
  clear q0 q1 q2 q3 q4 hx c1 c2 c3 c4 c5
  go_loopw [3, 21] (fun s i wr => ∃ k : Nat, k ≤ 3 ∧ i = .int .i64 k ∧ s = .string (impl_showInstr.pre 10 nmv sa sb sc k) ∧ Aside0 (wr.heap[g1]? = some (.cells #[.int .i64 (n : Int), .int .i64 a0_1, .int .i64 a0_2, .int .i64 a0_3, .int .i64 a0_4] 25 (0, 0))) ∧ Aside0 (Below w.heap.size w wr)) (fun _ i _ => 3 - (intOf i).toNat)
  case atStart => exact ⟨0, by omega, rfl, rfl, ⟨blk_drewN BK.out _⟩, ⟨pw_below_drewN HB.out _⟩⟩
  case round =>
    clear BK HB
    obtain ⟨k, hk, rfl, rfl, BK, HB⟩ := hrel
    rcases (show k = 0 ∨ k = 1 ∨ k = 2 ∨ k = 3 by omega) with rfl | rfl | rfl | rfl
    · go_wp2
      go_roundw
      case rel => exact ⟨1, by omega, rfl, rfl, ⟨BK.out⟩, ⟨HB.out⟩⟩
      case measure => simp [intOf]
    · have HP := Aside0.mk (show (impl_showInstr.pre 10 nmv sa sb sc 1).size ≤ 28 by have h1 := HNS.out; have h2 := HSa.out; have h3 := HSb.out; have h4 := HSc.out; have hz : (⟨#[32, 114]⟩ : ByteArray).size = 2 := rfl; simp [impl_showInstr.pre, impl_showInstr.add, ByteArray.size_append] at *; omega)
      generalize hpre : impl_showInstr.pre 10 nmv sa sb sc 1 = p at HP ⊢
      have HPE := Aside0.mk hpre
      clear hpre
      have e1 : (9223372036854775807 < 2 + sb.size) = False := eq_false (by have := HSb.out; omega)
      have e2 : (9223372036854775807 < p.size + (2 + sb.size)) = False := eq_false (by have := HSb.out; have := HP.out; omega)
      go_wp2_with (go_at_call 58; refine (HDb.out _ (HT.out.below HB.out)).mono ?_; rintro e w2 ⟨rfl, hb_⟩)
      go_roundw
      case rel => exact ⟨2, by omega, rfl, by rw [← HPE.out]; rfl, ⟨blk_below BK.out hb_⟩, ⟨below_step HB.out hb_⟩⟩
      case measure => simp [intOf]
    · go_wp2
      go_roundw
      case rel => exact ⟨3, by omega, rfl, rfl, ⟨BK.out⟩, ⟨HB.out⟩⟩
      case measure => simp [intOf]
    · have HP := Aside0.mk (show (impl_showInstr.pre 10 nmv sa sb sc 3).size ≤ 74 by have h1 := HNS.out; have h2 := HSa.out; have h3 := HSb.out; have h4 := HSc.out; have hz : (⟨#[32, 114]⟩ : ByteArray).size = 2 := rfl; simp [impl_showInstr.pre, impl_showInstr.add, ByteArray.size_append] at *; omega)
      generalize hpre : impl_showInstr.pre 10 nmv sa sb sc 3 = p at HP ⊢
      have HPE := Aside0.mk hpre
      clear hpre
      have e1 : (9223372036854775807 < 1 + si.size) = False := eq_false (by have := HSi.out; omega)
      have e2 : (9223372036854775807 < p.size + (1 + si.size)) = False := eq_false (by have := HSi.out; have := HP.out; omega)
      have q4 : wr.cell? ⟨g1, 4, none⟩ = some (.int .i64 a0_4) := (blk_cell BK.out 4).trans rfl
      go_wp2_with (go_at_call 58; refine (HDi.out _ (HT.out.below HB.out)).mono ?_; rintro e w2 ⟨rfl, hb_⟩)
      go_ret
      exact ⟨by rw [HPE.out]; rfl, below_step HB.out hb_⟩
theorem impl_showInstr.txt11 (n : Nat) (a0_1 a0_2 a0_3 a0_4 : Int) (hf : impl_isInstr.form (n : Int) = 11) : ((impl_showInstr.pre 11 (Tab.nm n) (impl_showInstr.num a0_1) (impl_showInstr.num a0_2) (impl_showInstr.num a0_3) 3 ++ ((⟨#[32]⟩ : ByteArray) ++ impl_showInstr.num a0_4))).data.toList = impl_showInstr.txt n a0_1 a0_2 a0_3 a0_4 := by
  unfold impl_showInstr.txt impl_showInstr.pre impl_showInstr.add impl_showInstr.reg
  rw [hf]
  simp [impl_showInstr.num, Tab.nm, ByteArray.data_append]
set_option maxHeartbeats 8000000 in
set_option maxRecDepth 100000 in
theorem impl_showInstr.form11 (n : Nat) (a0_1 a0_2 a0_3 a0_4 : Int) (w : World) (HT : Aside0 (Tab.TabsODEM w)) (HLT : Hid (n < 33)) (HF : Hid (impl_isInstr.form (n : Int) = 11)) (HO : Hid (impl_showInstr.ok n a0_1 a0_2 a0_3 a0_4)) :
    Calls Tryd.prog 34 #[.agg #[.int .i64 (n : Int), .int .i64 a0_1, .int .i64 a0_2, .int .i64 a0_3, .int .i64 a0_4]] w fun e w' => (e = .returned (.string ((impl_showInstr.pre 11 (Tab.nm n) (impl_showInstr.num a0_1) (impl_showInstr.num a0_2) (impl_showInstr.num a0_3) 3 ++ ((⟨#[32]⟩ : ByteArray) ++ impl_showInstr.num a0_4))))) ∧ Below w.heap.size w w' := by
  have hu := Tryd.underlying25
  have HFC := fun W => impl_formOf.calls 8 (n : Int) 11 W (by rw [impl_isInstr.form_eq, HF.out])
  have i0 : ∀ w, (Instr.index 71 (.agg #[.int .i64 a0_1, .int .i64 a0_2, .int .i64 a0_3]) (.int .i64 0)).run Tryd.prog w = .ok (.int .i64 a0_1) w := fun _ => by kernel_rfl
  have i1 : ∀ w, (Instr.index 71 (.agg #[.int .i64 a0_1, .int .i64 a0_2, .int .i64 a0_3]) (.int .i64 1)).run Tryd.prog w = .ok (.int .i64 a0_2) w := fun _ => by kernel_rfl
  have i2 : ∀ w, (Instr.index 71 (.agg #[.int .i64 a0_1, .int .i64 a0_2, .int .i64 a0_3]) (.int .i64 2)).run Tryd.prog w = .ok (.int .i64 a0_3) w := fun _ => by kernel_rfl
  have b2 : Go.bits .and .i64 2 1 = 0 := by decide +kernel
  have b5 : Go.bits .and .i64 5 1 = 1 := by decide +kernel
  have b11 : Go.bits .and .i64 11 1 = 1 := by decide +kernel
  have b8_ : Go.bits .and .i64 11 8 = 8 := by decide +kernel
  have HNS := Aside0.mk (impl_showInstr.nm_size ⟨n, HLT.out⟩)
  have HX := Aside0.mk (HT.out.o n HLT.out)
  have HLN := Aside0.mk HLT.out
  generalize Tab.nm n = nmv at *
  have HSa := Aside0.mk (impl_showInstr.num_size a0_1 HO.out.2.1)
  have HDa := Lib.hid (fun W (ht : Tab.TabsODEM W) => impl_showInstr.dec a0_1 W ht HO.out.2.1)
  generalize impl_showInstr.num a0_1 = sa at *
  have HSb := Aside0.mk (impl_showInstr.num_size a0_2 HO.out.2.2.1)
  have HDb := Lib.hid (fun W (ht : Tab.TabsODEM W) => impl_showInstr.dec a0_2 W ht HO.out.2.2.1)
  generalize impl_showInstr.num a0_2 = sb at *
  have HSc := Aside0.mk (impl_showInstr.num_size a0_3 HO.out.2.2.2.1)
  have HDc := Lib.hid (fun W (ht : Tab.TabsODEM W) => impl_showInstr.dec a0_3 W ht HO.out.2.2.2.1)
  generalize impl_showInstr.num a0_3 = sc at *
  have HSi := Aside0.mk (impl_showInstr.num_size a0_4 HO.out.2.2.2.2)
  have HDi := Lib.hid (fun W (ht : Tab.TabsODEM W) => impl_showInstr.dec a0_4 W ht HO.out.2.2.2.2)
  generalize impl_showInstr.num a0_4 = si at *
  have c1 : decide (0 ≤ (n : Int)) = true := by simp
  have c2 : decide ((n : Int) < 33) = true := by have := HLT.out; simp; omega
  have c3 : decide (n < 33) = true := by have := HLT.out; simp; omega
  have c4 : ((n : Int) < 33) = True := eq_true (by have := HLT.out; omega)
  have c5 : (33 ≤ (n : Int)) = False := eq_false (by have := HLT.out; omega)
  have HB0 := Aside0.mk (Below.refl w.heap.size w)
  go_enter Tryd.func34, Tryd.ntmps34
  go_wp2_with (first | ((with_reducible refine gate_dst (N := 1) rfl ?_); refine box_event ?hg (N := 1) ?hd (cs := #[.int .i64 (n : Int), .int .i64 a0_1, .int .i64 a0_2, .int .i64 a0_3, .int .i64 a0_4]) (t := 25) ?hr ?_; (case hd => rfl); (case hg => rfl); (case hr => first | (go_simp; done) | (go_simp; rfl)); intro g1 hg w1 hbox hb; revert hbox hb hg))
  intro hg1 hb1 hB1
  have BK := Aside0.mk hb1
  have HB := Aside0.mk (below_step HB0.out hB1)
  clear hg1 hb1 hB1 HB0
  have q0 : w1.cell? ⟨g1, 0, none⟩ = some (.int .i64 (n : Int)) := (blk_cell BK.out 0).trans rfl
  have q1 : w1.cell? ⟨g1, 1, none⟩ = some (.int .i64 a0_1) := (blk_cell BK.out 1).trans rfl
  have q2 : w1.cell? ⟨g1, 2, none⟩ = some (.int .i64 a0_2) := (blk_cell BK.out 2).trans rfl
  have q3 : w1.cell? ⟨g1, 3, none⟩ = some (.int .i64 a0_3) := (blk_cell BK.out 3).trans rfl
  have q4 : w1.cell? ⟨g1, 4, none⟩ = some (.int .i64 a0_4) := (blk_cell BK.out 4).trans rfl
  have hx : w1.cell? ⟨0, n, none⟩ = some (.string nmv) := (HB.out.cell (p := ⟨0, n, none⟩) HT.out.o.lt).trans HX.out
  go_wp2_with (go_at_call 49; refine (HFC _).mono ?_; rintro e w' ⟨rfl, m, rfl⟩)
  clear q0 q1 q2 q3 q4 hx c1 c2 c3 c4 c5
  go_loopw [3, 21] (fun s i wr => ∃ k : Nat, k ≤ 3 ∧ i = .int .i64 k ∧ s = .string (impl_showInstr.pre 11 nmv sa sb sc k) ∧ Aside0 (wr.heap[g1]? = some (.cells #[.int .i64 (n : Int), .int .i64 a0_1, .int .i64 a0_2, .int .i64 a0_3, .int .i64 a0_4] 25 (0, 0))) ∧ Aside0 (Below w.heap.size w wr)) (fun _ i _ => 3 - (intOf i).toNat)
  case atStart => exact ⟨0, by omega, rfl, rfl, ⟨blk_drewN BK.out _⟩, ⟨pw_below_drewN HB.out _⟩⟩
  case round =>
    clear BK HB
    obtain ⟨k, hk, rfl, rfl, BK, HB⟩ := hrel
    rcases (show k = 0 ∨ k = 1 ∨ k = 2 ∨ k = 3 by omega) with rfl | rfl | rfl | rfl
    · have HP := Aside0.mk (show (impl_showInstr.pre 11 nmv sa sb sc 0).size ≤ 5 by have h1 := HNS.out; have h2 := HSa.out; have h3 := HSb.out; have h4 := HSc.out; have hz : (⟨#[32, 114]⟩ : ByteArray).size = 2 := rfl; simp [impl_showInstr.pre, impl_showInstr.add, ByteArray.size_append] at *; omega)
      generalize hpre : impl_showInstr.pre 11 nmv sa sb sc 0 = p at HP ⊢
      have HPE := Aside0.mk hpre
      clear hpre
      have e1 : (9223372036854775807 < 2 + sa.size) = False := eq_false (by have := HSa.out; omega)
      have e2 : (9223372036854775807 < p.size + (2 + sa.size)) = False := eq_false (by have := HSa.out; have := HP.out; omega)
      go_wp2_with (go_at_call 58; refine (HDa.out _ (HT.out.below HB.out)).mono ?_; rintro e w2 ⟨rfl, hb_⟩)
      go_roundw
      case rel => exact ⟨1, by omega, rfl, by rw [← HPE.out]; rfl, ⟨blk_below BK.out hb_⟩, ⟨below_step HB.out hb_⟩⟩
      case measure => simp [intOf]
    · have HP := Aside0.mk (show (impl_showInstr.pre 11 nmv sa sb sc 1).size ≤ 28 by have h1 := HNS.out; have h2 := HSa.out; have h3 := HSb.out; have h4 := HSc.out; have hz : (⟨#[32, 114]⟩ : ByteArray).size = 2 := rfl; simp [impl_showInstr.pre, impl_showInstr.add, ByteArray.size_append] at *; omega)
      generalize hpre : impl_showInstr.pre 11 nmv sa sb sc 1 = p at HP ⊢
      have HPE := Aside0.mk hpre
      clear hpre
      have e1 : (9223372036854775807 < 2 + sb.size) = False := eq_false (by have := HSb.out; omega)
      have e2 : (9223372036854775807 < p.size + (2 + sb.size)) = False := eq_false (by have := HSb.out; have := HP.out; omega)
      go_wp2_with (go_at_call 58; refine (HDb.out _ (HT.out.below HB.out)).mono ?_; rintro e w2 ⟨rfl, hb_⟩)
      go_roundw
      case rel => exact ⟨2, by omega, rfl, by rw [← HPE.out]; rfl, ⟨blk_below BK.out hb_⟩, ⟨below_step HB.out hb_⟩⟩
      case measure => simp [intOf]
    · go_wp2
      go_roundw
      case rel => exact ⟨3, by omega, rfl, rfl, ⟨BK.out⟩, ⟨HB.out⟩⟩
      case measure => simp [intOf]
    · have HP := Aside0.mk (show (impl_showInstr.pre 11 nmv sa sb sc 3).size ≤ 74 by have h1 := HNS.out; have h2 := HSa.out; have h3 := HSb.out; have h4 := HSc.out; have hz : (⟨#[32, 114]⟩ : ByteArray).size = 2 := rfl; simp [impl_showInstr.pre, impl_showInstr.add, ByteArray.size_append] at *; omega)
      generalize hpre : impl_showInstr.pre 11 nmv sa sb sc 3 = p at HP ⊢
      have HPE := Aside0.mk hpre
      clear hpre
      have e1 : (9223372036854775807 < 1 + si.size) = False := eq_false (by have := HSi.out; omega)
      have e2 : (9223372036854775807 < p.size + (1 + si.size)) = False := eq_false (by have := HSi.out; have := HP.out; omega)
      have q4 : wr.cell? ⟨g1, 4, none⟩ = some (.int .i64 a0_4) := (blk_cell BK.out 4).trans rfl
      go_wp2_with (go_at_call 58; refine (HDi.out _ (HT.out.below HB.out)).mono ?_; rintro e w2 ⟨rfl, hb_⟩)
      go_ret
      exact ⟨by rw [HPE.out]; rfl, below_step HB.out hb_⟩
theorem impl_showInstr.calls (a0_0 : Int) (a0_1 : Int) (a0_2 : Int) (a0_3 : Int) (a0_4 : Int) (r : ByteArray) (w : World) (ht : Tab.TabsODEM w) (h : impl_showInstr.f a0_0 a0_1 a0_2 a0_3 a0_4 = some r) :
    Calls Tryd.prog 34 #[.agg #[.int .i64 a0_0, .int .i64 a0_1, .int .i64 a0_2, .int .i64 a0_3, .int .i64 a0_4]] w fun e w' => e = .returned (.string r) ∧ Below w.heap.size w w' := by
  unfold impl_showInstr.f at h
  by_cases hok : impl_showInstr.ok a0_0 a0_1 a0_2 a0_3 a0_4
  · rw [if_pos hok] at h
    obtain rfl := Option.some.inj h
    obtain ⟨n, rfl⟩ := Int.eq_ofNat_of_zero_le hok.1.1
    have hn : n < 33 := by have := hok.1.2; omega
    have tx : ∀ x : ByteArray, x.data.toList = impl_showInstr.txt n a0_1 a0_2 a0_3 a0_4 → x = ⟨(impl_showInstr.txt n a0_1 a0_2 a0_3 a0_4).toArray⟩ := fun x hx => by rw [← hx]
    rcases impl_isInstr.forms n hok.1 with hf | hf | hf | hf | hf | hf | hf
    · rw [← tx _ (impl_showInstr.txt0 n a0_1 a0_2 a0_3 a0_4 hf)]; exact impl_showInstr.form0 n a0_1 a0_2 a0_3 a0_4 w ⟨ht⟩ (Lib.hid hn) (Lib.hid hf) (Lib.hid hok)
    · rw [← tx _ (impl_showInstr.txt1 n a0_1 a0_2 a0_3 a0_4 hf)]; exact impl_showInstr.form1 n a0_1 a0_2 a0_3 a0_4 w ⟨ht⟩ (Lib.hid hn) (Lib.hid hf) (Lib.hid hok)
    · rw [← tx _ (impl_showInstr.txt7 n a0_1 a0_2 a0_3 a0_4 hf)]; exact impl_showInstr.form7 n a0_1 a0_2 a0_3 a0_4 w ⟨ht⟩ (Lib.hid hn) (Lib.hid hf) (Lib.hid hok)
    · rw [← tx _ (impl_showInstr.txt8 n a0_1 a0_2 a0_3 a0_4 hf)]; exact impl_showInstr.form8 n a0_1 a0_2 a0_3 a0_4 w ⟨ht⟩ (Lib.hid hn) (Lib.hid hf) (Lib.hid hok)
    · rw [← tx _ (impl_showInstr.txt9 n a0_1 a0_2 a0_3 a0_4 hf)]; exact impl_showInstr.form9 n a0_1 a0_2 a0_3 a0_4 w ⟨ht⟩ (Lib.hid hn) (Lib.hid hf) (Lib.hid hok)
    · rw [← tx _ (impl_showInstr.txt10 n a0_1 a0_2 a0_3 a0_4 hf)]; exact impl_showInstr.form10 n a0_1 a0_2 a0_3 a0_4 w ⟨ht⟩ (Lib.hid hn) (Lib.hid hf) (Lib.hid hok)
    · rw [← tx _ (impl_showInstr.txt11 n a0_1 a0_2 a0_3 a0_4 hf)]; exact impl_showInstr.form11 n a0_1 a0_2 a0_3 a0_4 w ⟨ht⟩ (Lib.hid hn) (Lib.hid hf) (Lib.hid hok)
  · rw [if_neg hok] at h; cases h

/-! ### impl_showWord: function 32 -/
def impl_showWord.f (a0 : Int) : Option (ByteArray) := (impl_decode.f a0).bind fun bt256 => (if bt256.2.2.2.2.2 = true then ((impl_showInstr.f bt256.1 bt256.2.1 bt256.2.2.1 bt256.2.2.2.1 bt256.2.2.2.2.1).bind fun t263 => (some t263)) else ((impl_DecText.f (wrap64 (a0))).bind fun t264 => (if 6 + t264.size ≤ 9223372036854775807 then (some ((⟨#[46, 119, 111, 114, 100, 32]⟩ : ByteArray) ++ t264)) else (none))))
set_option maxHeartbeats 8000000 in
set_option maxRecDepth 100000 in
theorem impl_showWord.calls (a0 : Int) (r : ByteArray) (w : World) (ht : Tab.TabsODEM w) (h : impl_showWord.f a0 = some r) :
    Calls Tryd.prog 32 #[.int .u32 a0] w fun e w' => e = .returned (.string r) ∧ Below w.heap.size w w' := by
  have hu25 := Tryd.underlying25
  have HB := Aside0.mk (Below.refl w.heap.size w)
  have HTB := Aside0.mk ht
  clear ht
  have H : ((impl_decode.f a0).bind fun bt256 => (if bt256.2.2.2.2.2 = true then ((impl_showInstr.f bt256.1 bt256.2.1 bt256.2.2.1 bt256.2.2.2.1 bt256.2.2.2.2.1).bind fun t263 => (some t263)) else ((impl_DecText.f (wrap64 (a0))).bind fun t264 => (if 6 + t264.size ≤ 9223372036854775807 then (some ((⟨#[46, 119, 111, 114, 100, 32]⟩ : ByteArray) ++ t264)) else (none))))) = some r := h
  clear h
  replace H := Option.bind_eq_some_iff.mp H
  obtain ⟨⟨t256, t257, t258, t259, t260, t261⟩, A20, H⟩ := H
  replace H : (if t261 = true then ((impl_showInstr.f t256 t257 t258 t259 t260).bind fun t263 => (some t263)) else ((impl_DecText.f (wrap64 (a0))).bind fun t264 => (if 6 + t264.size ≤ 9223372036854775807 then (some ((⟨#[46, 119, 111, 114, 100, 32]⟩ : ByteArray) ++ t264)) else (none)))) = some r := H
  have A2 := Aside0.mk A20
  clear A20
  by_cases c3 : t261 = true
  · subst c3
    have H1 : ((impl_showInstr.f t256 t257 t258 t259 t260).bind fun t263 => (some t263)) = some r := by rw [if_pos rfl] at H; exact H
    clear H
    have H := H1
    clear H1
    replace H := Option.bind_eq_some_iff.mp H
    obtain ⟨t263, A40, H⟩ := H
    replace H : (some t263) = some r := H
    have A4 := Aside0.mk A40
    clear A40
    obtain rfl := Option.some.inj H
    go_enter Tryd.func32, Tryd.ntmps32
    go_wp2_with (first | ((with_reducible refine gate_callee (f := 33) rfl ?_); refine goesL_ (some 7) rfl rfl Tryd.func33 (by kernel_rfl) rfl #[.int .u32 a0] rfl (by (try simp only [List.map_toArray, List.map_cons, List.map_nil]); first | done | rfl | (simp only [List.length_drop, List.length_take]; rfl)) ?_; (with_reducible refine (impl_decode.calls a0 t256 t257 t258 t259 t260 true _ A2.out).mono ?_); rintro e w5 ⟨rfl, hb⟩; refine ⟨_, rfl, ?_⟩; have n0_ := Aside0.mk (below_step (by repeat (first | (with_reducible first | exact HB.out | apply below_alloc | apply pw_below_drewN | apply below_drew1) | exact HB.out)) hb); clear HB; have HB := n0_; clear n0_; (try clear hb); (try clear hb2); (try clear hk); (try clear hi)) | ((with_reducible refine gate_dst (N := 3) rfl ?_); refine box_event ?hg (N := 3) ?hd (cs := #[.int .i64 0, .int .i64 0, .int .i64 0, .int .i64 0, .int .i64 0]) (t := 25) ?hr ?_; (case hd => rfl); (case hg => rfl); (case hr => first | (go_simp; done) | (go_simp; rfl)); intro gb262 hg w6 hbox hb; have n0_ := Aside0.mk (below_step (by repeat (first | (with_reducible first | exact HB.out | apply below_alloc | apply pw_below_drewN | apply below_drew1) | exact HB.out)) hb); have n1_ := Aside0.mk (hbox); have n2_ := Aside0.mk ((by rw [hg]; exact (below_size (by repeat (first | (with_reducible first | exact HB.out | apply below_alloc | apply pw_below_drewN | apply below_drew1) | exact HB.out))) : w.heap.size ≤ gb262)); have n3_ := Aside0.mk ((by rw [hg]; exact (below_size (by repeat (first | (with_reducible first | exact HB.out | apply below_alloc | apply pw_below_drewN | apply below_drew1) | exact HB.out))) : w.heap.size ≤ gb262)); clear HB; have HB := n0_; have BK262 := n1_; have GW262 := n2_; have GE262 := n3_; clear n0_ n1_ n2_ n3_; clear hb hbox hg; have hcz7_0 : w6.cell? ⟨gb262, 0, none⟩ = some (.int .i64 0) := (blk_cell BK262.out 0).trans rfl; have hcz7_1 : w6.cell? ⟨gb262, 1, none⟩ = some (.int .i64 0) := (blk_cell BK262.out 1).trans rfl; have hcz7_2 : w6.cell? ⟨gb262, 2, none⟩ = some (.int .i64 0) := (blk_cell BK262.out 2).trans rfl; have hcz7_3 : w6.cell? ⟨gb262, 3, none⟩ = some (.int .i64 0) := (blk_cell BK262.out 3).trans rfl; have hcz7_4 : w6.cell? ⟨gb262, 4, none⟩ = some (.int .i64 0) := (blk_cell BK262.out 4).trans rfl; have hfz7_0 := blk_frozen BK262.out 0; have hfz7_1 := blk_frozen BK262.out 1; have hfz7_2 := blk_frozen BK262.out 2; have hfz7_3 := blk_frozen BK262.out 3; have hfz7_4 := blk_frozen BK262.out 4) | ((with_reducible refine gate_callee (f := 34) rfl ?_); refine goesL_ (some 12) rfl rfl Tryd.func34 (by kernel_rfl) rfl #[.agg #[.int .i64 t256, .int .i64 t257, .int .i64 t258, .int .i64 t259, .int .i64 t260]] rfl (by (try simp only [List.map_toArray, List.map_cons, List.map_nil]); first | done | rfl | (simp only [List.length_drop, List.length_take]; rfl)) ?_; (with_reducible refine (impl_showInstr.calls t256 t257 t258 t259 t260 t263 _ ?side1 A4.out).mono ?_); (case side1 => exact Tab.TabsODEM.below HTB.out (by repeat (first | (with_reducible first | exact HB.out | apply below_alloc | apply pw_below_drewN | apply below_drew1 | refine below_set ?_ GE262.out) | exact HB.out))); rintro e w8 ⟨rfl, hb⟩; refine ⟨_, rfl, ?_⟩; have n0_ := Aside0.mk (blk_below (g := gb262) (o := .cells #[.int .i64 t256, .int .i64 t257, .int .i64 t258, .int .i64 t259, .int .i64 t260] 25 (0, 0)) (by (with_reducible repeat (first | refine blk_drewN ?_ _ | refine blk_drew ?_ | refine blk_alloc ?_ _)); refine blk_put (cs := #[.int .i64 t256, .int .i64 t257, .int .i64 t258, .int .i64 t259, .int .i64 0]) ?_ 4 _ rfl; (with_reducible repeat (first | refine blk_drewN ?_ _ | refine blk_drew ?_ | refine blk_alloc ?_ _)); refine blk_put (cs := #[.int .i64 t256, .int .i64 t257, .int .i64 t258, .int .i64 0, .int .i64 0]) ?_ 3 _ rfl; (with_reducible repeat (first | refine blk_drewN ?_ _ | refine blk_drew ?_ | refine blk_alloc ?_ _)); refine blk_put (cs := #[.int .i64 t256, .int .i64 t257, .int .i64 0, .int .i64 0, .int .i64 0]) ?_ 2 _ rfl; (with_reducible repeat (first | refine blk_drewN ?_ _ | refine blk_drew ?_ | refine blk_alloc ?_ _)); refine blk_put (cs := #[.int .i64 t256, .int .i64 0, .int .i64 0, .int .i64 0, .int .i64 0]) ?_ 1 _ rfl; (with_reducible repeat (first | refine blk_drewN ?_ _ | refine blk_drew ?_ | refine blk_alloc ?_ _)); refine blk_put (cs := #[.int .i64 0, .int .i64 0, .int .i64 0, .int .i64 0, .int .i64 0]) ?_ 0 _ rfl; (with_reducible repeat (first | refine blk_drewN ?_ _ | refine blk_drew ?_ | refine blk_alloc ?_ _)); exact BK262.out) hb); have n1_ := Aside0.mk (below_step (by repeat (first | (with_reducible first | exact HB.out | apply below_alloc | apply pw_below_drewN | apply below_drew1 | refine below_set ?_ GE262.out) | exact HB.out)) hb); clear BK262; clear HB; have BK262 := n0_; have HB := n1_; clear n0_ n1_; (try clear hb); (try clear hb2); (try clear hk); (try clear hi)))
    go_ret
    exact ⟨by first | rfl | (simp [errW_none, errW_some] <;> rfl) | (simp [*, errW_none, errW_some] <;> rfl), by repeat (first | (with_reducible first | exact HB.out | apply below_alloc | apply pw_below_drewN | apply below_drew1 | refine below_set ?_ GE262.out) | exact HB.out)⟩
  · replace c3 := Bool.eq_false_iff.mpr c3
    subst c3
    have H1 : ((impl_DecText.f (wrap64 (a0))).bind fun t264 => (if 6 + t264.size ≤ 9223372036854775807 then (some ((⟨#[46, 119, 111, 114, 100, 32]⟩ : ByteArray) ++ t264)) else (none))) = some r := by rw [if_neg (show ¬ (false = true) by decide)] at H; exact H
    clear H
    have H := H1
    clear H1
    replace H := Option.bind_eq_some_iff.mp H
    obtain ⟨t264, A90, H⟩ := H
    replace H : (if 6 + t264.size ≤ 9223372036854775807 then (some ((⟨#[46, 119, 111, 114, 100, 32]⟩ : ByteArray) ++ t264)) else (none)) = some r := H
    have A9 := Aside0.mk A90
    clear A90
    by_cases c10 : 6 + t264.size ≤ 9223372036854775807
    · rw [if_pos c10] at H
      have c10b0 := eq_true c10
      have c10b1 : decide (6 + t264.size ≤ 9223372036854775807) = true := decide_eq_true c10
      try have c10b2 : (9223372036854775807 < 6 + t264.size) = False := eq_false (Nat.not_lt.2 c10)
      obtain rfl := Option.some.inj H
      go_enter Tryd.func32, Tryd.ntmps32
      go_wp2_with (first | ((with_reducible refine gate_callee (f := 33) rfl ?_); refine goesL_ (some 7) rfl rfl Tryd.func33 (by kernel_rfl) rfl #[.int .u32 a0] rfl (by (try simp only [List.map_toArray, List.map_cons, List.map_nil]); first | done | rfl | (simp only [List.length_drop, List.length_take]; rfl)) ?_; (with_reducible refine (impl_decode.calls a0 t256 t257 t258 t259 t260 false _ A2.out).mono ?_); rintro e w11 ⟨rfl, hb⟩; refine ⟨_, rfl, ?_⟩; have n0_ := Aside0.mk (below_step (by repeat (first | (with_reducible first | exact HB.out | apply below_alloc | apply pw_below_drewN | apply below_drew1) | exact HB.out)) hb); clear HB; have HB := n0_; clear n0_; (try clear hb); (try clear hb2); (try clear hk); (try clear hi)) | ((with_reducible refine gate_dst (N := 3) rfl ?_); refine box_event ?hg (N := 3) ?hd (cs := #[.int .i64 0, .int .i64 0, .int .i64 0, .int .i64 0, .int .i64 0]) (t := 25) ?hr ?_; (case hd => rfl); (case hg => rfl); (case hr => first | (go_simp; done) | (go_simp; rfl)); intro gb262 hg w12 hbox hb; have n0_ := Aside0.mk (below_step (by repeat (first | (with_reducible first | exact HB.out | apply below_alloc | apply pw_below_drewN | apply below_drew1) | exact HB.out)) hb); have n1_ := Aside0.mk (hbox); have n2_ := Aside0.mk ((by rw [hg]; exact (below_size (by repeat (first | (with_reducible first | exact HB.out | apply below_alloc | apply pw_below_drewN | apply below_drew1) | exact HB.out))) : w.heap.size ≤ gb262)); have n3_ := Aside0.mk ((by rw [hg]; exact (below_size (by repeat (first | (with_reducible first | exact HB.out | apply below_alloc | apply pw_below_drewN | apply below_drew1) | exact HB.out))) : w.heap.size ≤ gb262)); clear HB; have HB := n0_; have BK262 := n1_; have GW262 := n2_; have GE262 := n3_; clear n0_ n1_ n2_ n3_; clear hb hbox hg; have hcz13_0 : w12.cell? ⟨gb262, 0, none⟩ = some (.int .i64 0) := (blk_cell BK262.out 0).trans rfl; have hcz13_1 : w12.cell? ⟨gb262, 1, none⟩ = some (.int .i64 0) := (blk_cell BK262.out 1).trans rfl; have hcz13_2 : w12.cell? ⟨gb262, 2, none⟩ = some (.int .i64 0) := (blk_cell BK262.out 2).trans rfl; have hcz13_3 : w12.cell? ⟨gb262, 3, none⟩ = some (.int .i64 0) := (blk_cell BK262.out 3).trans rfl; have hcz13_4 : w12.cell? ⟨gb262, 4, none⟩ = some (.int .i64 0) := (blk_cell BK262.out 4).trans rfl; have hfz13_0 := blk_frozen BK262.out 0; have hfz13_1 := blk_frozen BK262.out 1; have hfz13_2 := blk_frozen BK262.out 2; have hfz13_3 := blk_frozen BK262.out 3; have hfz13_4 := blk_frozen BK262.out 4) | ((with_reducible refine gate_callee (f := 58) rfl ?_); refine goesL_ (some 15) rfl rfl Tryd.func58 (by kernel_rfl) rfl #[.int .i64 (wrap64 (a0))] rfl (by (try simp only [List.map_toArray, List.map_cons, List.map_nil]); first | done | rfl | (simp only [List.length_drop, List.length_take]; rfl)) ?_; (with_reducible refine (impl_DecText.calls (wrap64 (a0)) t264 _ ?side1 A9.out).mono ?_); (case side1 => exact Tab.TabsODEM.below HTB.out (by repeat (first | (with_reducible first | exact HB.out | apply below_alloc | apply pw_below_drewN | apply below_drew1 | refine below_set ?_ GE262.out) | exact HB.out))); rintro e w14 ⟨rfl, hb⟩; refine ⟨_, rfl, ?_⟩; have n0_ := Aside0.mk (blk_below (g := gb262) (o := .cells #[.int .i64 t256, .int .i64 t257, .int .i64 t258, .int .i64 t259, .int .i64 t260] 25 (0, 0)) (by (with_reducible repeat (first | refine blk_drewN ?_ _ | refine blk_drew ?_ | refine blk_alloc ?_ _)); refine blk_put (cs := #[.int .i64 t256, .int .i64 t257, .int .i64 t258, .int .i64 t259, .int .i64 0]) ?_ 4 _ rfl; (with_reducible repeat (first | refine blk_drewN ?_ _ | refine blk_drew ?_ | refine blk_alloc ?_ _)); refine blk_put (cs := #[.int .i64 t256, .int .i64 t257, .int .i64 t258, .int .i64 0, .int .i64 0]) ?_ 3 _ rfl; (with_reducible repeat (first | refine blk_drewN ?_ _ | refine blk_drew ?_ | refine blk_alloc ?_ _)); refine blk_put (cs := #[.int .i64 t256, .int .i64 t257, .int .i64 0, .int .i64 0, .int .i64 0]) ?_ 2 _ rfl; (with_reducible repeat (first | refine blk_drewN ?_ _ | refine blk_drew ?_ | refine blk_alloc ?_ _)); refine blk_put (cs := #[.int .i64 t256, .int .i64 0, .int .i64 0, .int .i64 0, .int .i64 0]) ?_ 1 _ rfl; (with_reducible repeat (first | refine blk_drewN ?_ _ | refine blk_drew ?_ | refine blk_alloc ?_ _)); refine blk_put (cs := #[.int .i64 0, .int .i64 0, .int .i64 0, .int .i64 0, .int .i64 0]) ?_ 0 _ rfl; (with_reducible repeat (first | refine blk_drewN ?_ _ | refine blk_drew ?_ | refine blk_alloc ?_ _)); exact BK262.out) hb); have n1_ := Aside0.mk (below_step (by repeat (first | (with_reducible first | exact HB.out | apply below_alloc | apply pw_below_drewN | apply below_drew1 | refine below_set ?_ GE262.out) | exact HB.out)) hb); clear BK262; clear HB; have BK262 := n0_; have HB := n1_; clear n0_ n1_; (try clear hb); (try clear hb2); (try clear hk); (try clear hi)))
      go_ret
      exact ⟨by first | rfl | (simp [errW_none, errW_some] <;> rfl) | (simp [*, errW_none, errW_some] <;> rfl), by repeat (first | (with_reducible first | exact HB.out | apply below_alloc | apply pw_below_drewN | apply below_drew1 | refine below_set ?_ GE262.out) | exact HB.out)⟩
    · rw [if_neg c10] at H
      exact absurd H (by simp)

/-! ### impl_ShowWord: function 12 -/
def impl_ShowWord.f (a0 : Int) : Option (ByteArray) := (impl_showWord.f a0).bind fun t265 => (some t265)
set_option maxHeartbeats 8000000 in
set_option maxRecDepth 100000 in
theorem impl_ShowWord.calls (a0 : Int) (r : ByteArray) (w : World) (ht : Tab.TabsODEM w) (h : impl_ShowWord.f a0 = some r) :
    Calls Tryd.prog 12 #[.int .u32 a0] w fun e w' => e = .returned (.string r) ∧ Below w.heap.size w w' := by
  have HB := Aside0.mk (Below.refl w.heap.size w)
  have HTB := Aside0.mk ht
  clear ht
  have H : ((impl_showWord.f a0).bind fun t265 => (some t265)) = some r := h
  clear h
  replace H := Option.bind_eq_some_iff.mp H
  obtain ⟨t265, A20, H⟩ := H
  replace H : (some t265) = some r := H
  have A2 := Aside0.mk A20
  clear A20
  obtain rfl := Option.some.inj H
  go_enter Tryd.func12, Tryd.ntmps12
  go_wp2_with (first | ((with_reducible refine gate_callee (f := 32) rfl ?_); refine goesL_ (some 4) rfl rfl Tryd.func32 (by kernel_rfl) rfl #[.int .u32 a0] rfl (by (try simp only [List.map_toArray, List.map_cons, List.map_nil]); first | done | rfl | (simp only [List.length_drop, List.length_take]; rfl)) ?_; (with_reducible refine (impl_showWord.calls a0 t265 _ ?side1 A2.out).mono ?_); (case side1 => exact Tab.TabsODEM.below HTB.out (by repeat (first | (with_reducible first | exact HB.out | apply below_alloc | apply pw_below_drewN | apply below_drew1) | exact HB.out))); rintro e w3 ⟨rfl, hb⟩; refine ⟨_, rfl, ?_⟩; have n0_ := Aside0.mk (below_step (by repeat (first | (with_reducible first | exact HB.out | apply below_alloc | apply pw_below_drewN | apply below_drew1) | exact HB.out)) hb); clear HB; have HB := n0_; clear n0_; (try clear hb); (try clear hb2); (try clear hk); (try clear hi)))
  go_ret
  exact ⟨by first | rfl | (simp [errW_none, errW_some] <;> rfl) | (simp [*, errW_none, errW_some] <;> rfl), by repeat (first | (with_reducible first | exact HB.out | apply below_alloc | apply pw_below_drewN | apply below_drew1) | exact HB.out)⟩

/-! ### impl_Decode: function 13 -/
def impl_Decode.f (a0 : Int) : Option (Int × Int × Int × Int × Int × Bool) := (impl_decode.f a0).bind fun bt267 => (some (bt267.1, bt267.2.1, bt267.2.2.1, bt267.2.2.2.1, bt267.2.2.2.2.1, bt267.2.2.2.2.2))
set_option maxHeartbeats 8000000 in
set_option maxRecDepth 100000 in
theorem impl_Decode.calls (a0 : Int) (r1 : Int) (r2 : Int) (r3 : Int) (r4 : Int) (r5 : Int) (r6 : Bool) (w : World) (h : impl_Decode.f a0 = some (r1, r2, r3, r4, r5, r6)) :
    Calls Tryd.prog 13 #[.int .u32 a0] w fun e w' => e = .returned (.tuple #[.agg #[.int .i64 r1, .int .i64 r2, .int .i64 r3, .int .i64 r4, .int .i64 r5], .bool r6]) ∧ Below w.heap.size w w' := by
  have hu25 := Tryd.underlying25
  have HB := Aside0.mk (Below.refl w.heap.size w)
  have H : ((impl_decode.f a0).bind fun bt267 => (some (bt267.1, bt267.2.1, bt267.2.2.1, bt267.2.2.2.1, bt267.2.2.2.2.1, bt267.2.2.2.2.2))) = some (r1, r2, r3, r4, r5, r6) := h
  clear h
  replace H := Option.bind_eq_some_iff.mp H
  obtain ⟨⟨t267, t268, t269, t270, t271, t272⟩, A20, H⟩ := H
  replace H : (some (t267, t268, t269, t270, t271, t272)) = some (r1, r2, r3, r4, r5, r6) := H
  have A2 := Aside0.mk A20
  clear A20
  simp only [Option.some.injEq, Prod.mk.injEq] at H
  obtain ⟨rfl, rfl, rfl, rfl, rfl, rfl⟩ := H
  go_enter Tryd.func13, Tryd.ntmps13
  go_wp2_with (first | ((with_reducible refine gate_dst (N := 2) rfl ?_); refine box_event ?hg (N := 2) ?hd (cs := #[.int .i64 0, .int .i64 0, .int .i64 0, .int .i64 0, .int .i64 0]) (t := 25) ?hr ?_; (case hd => rfl); (case hg => rfl); (case hr => first | (go_simp; done) | (go_simp; rfl)); intro gb266 hg w3 hbox hb; have n0_ := Aside0.mk (below_step (by repeat (first | (with_reducible first | exact HB.out | apply below_alloc | apply pw_below_drewN | apply below_drew1) | exact HB.out)) hb); have n1_ := Aside0.mk (hbox); have n2_ := Aside0.mk ((by rw [hg]; exact (below_size (by repeat (first | (with_reducible first | exact HB.out | apply below_alloc | apply pw_below_drewN | apply below_drew1) | exact HB.out))) : w.heap.size ≤ gb266)); have n3_ := Aside0.mk ((by rw [hg]; exact (below_size (by repeat (first | (with_reducible first | exact HB.out | apply below_alloc | apply pw_below_drewN | apply below_drew1) | exact HB.out))) : w.heap.size ≤ gb266)); clear HB; have HB := n0_; have BK266 := n1_; have GW266 := n2_; have GE266 := n3_; clear n0_ n1_ n2_ n3_; clear hb hbox hg) | ((with_reducible refine gate_callee (f := 33) rfl ?_); refine goesL_ (some 5) rfl rfl Tryd.func33 (by kernel_rfl) rfl #[.int .u32 a0] rfl (by (try simp only [List.map_toArray, List.map_cons, List.map_nil]); first | done | rfl | (simp only [List.length_drop, List.length_take]; rfl)) ?_; (with_reducible refine (impl_decode.calls a0 t267 t268 t269 t270 t271 t272 _ A2.out).mono ?_); rintro e w4 ⟨rfl, hb⟩; refine ⟨_, rfl, ?_⟩; have n0_ := Aside0.mk (blk_below (g := gb266) (o := .cells #[.int .i64 0, .int .i64 0, .int .i64 0, .int .i64 0, .int .i64 0] 25 (0, 0)) (by (with_reducible repeat (first | refine blk_drewN ?_ _ | refine blk_drew ?_ | refine blk_alloc ?_ _)); exact BK266.out) hb); have n1_ := Aside0.mk (below_step (by repeat (first | (with_reducible first | exact HB.out | apply below_alloc | apply pw_below_drewN | apply below_drew1 | refine below_set ?_ GE266.out) | exact HB.out)) hb); clear BK266; clear HB; have BK266 := n0_; have HB := n1_; clear n0_ n1_; (try clear hb); (try clear hb2); (try clear hk); (try clear hi); have hcz5_0 : w4.cell? ⟨gb266, 0, none⟩ = some (.int .i64 0) := (blk_cell BK266.out 0).trans rfl; have hcz5_1 : w4.cell? ⟨gb266, 1, none⟩ = some (.int .i64 0) := (blk_cell BK266.out 1).trans rfl; have hcz5_2 : w4.cell? ⟨gb266, 2, none⟩ = some (.int .i64 0) := (blk_cell BK266.out 2).trans rfl; have hcz5_3 : w4.cell? ⟨gb266, 3, none⟩ = some (.int .i64 0) := (blk_cell BK266.out 3).trans rfl; have hcz5_4 : w4.cell? ⟨gb266, 4, none⟩ = some (.int .i64 0) := (blk_cell BK266.out 4).trans rfl; have hfz5_0 := blk_frozen BK266.out 0; have hfz5_1 := blk_frozen BK266.out 1; have hfz5_2 := blk_frozen BK266.out 2; have hfz5_3 := blk_frozen BK266.out 3; have hfz5_4 := blk_frozen BK266.out 4))
  refine bodyPost_ret (results_ct rfl _ _ gb266 25 #[.int .i64 t267, .int .i64 t268, .int .i64 t269, .int .i64 t270, .int .i64 t271] (0, 0) _ rfl (by (with_reducible repeat (first | refine blk_drewN ?_ _ | refine blk_drew ?_ | refine blk_alloc ?_ _)); refine blk_put (cs := #[.int .i64 t267, .int .i64 t268, .int .i64 t269, .int .i64 t270, .int .i64 0]) ?_ 4 _ rfl; (with_reducible repeat (first | refine blk_drewN ?_ _ | refine blk_drew ?_ | refine blk_alloc ?_ _)); refine blk_put (cs := #[.int .i64 t267, .int .i64 t268, .int .i64 t269, .int .i64 0, .int .i64 0]) ?_ 3 _ rfl; (with_reducible repeat (first | refine blk_drewN ?_ _ | refine blk_drew ?_ | refine blk_alloc ?_ _)); refine blk_put (cs := #[.int .i64 t267, .int .i64 t268, .int .i64 0, .int .i64 0, .int .i64 0]) ?_ 2 _ rfl; (with_reducible repeat (first | refine blk_drewN ?_ _ | refine blk_drew ?_ | refine blk_alloc ?_ _)); refine blk_put (cs := #[.int .i64 t267, .int .i64 0, .int .i64 0, .int .i64 0, .int .i64 0]) ?_ 1 _ rfl; (with_reducible repeat (first | refine blk_drewN ?_ _ | refine blk_drew ?_ | refine blk_alloc ?_ _)); refine blk_put (cs := #[.int .i64 0, .int .i64 0, .int .i64 0, .int .i64 0, .int .i64 0]) ?_ 0 _ rfl; (with_reducible repeat (first | refine blk_drewN ?_ _ | refine blk_drew ?_ | refine blk_alloc ?_ _)); exact BK266.out) Tryd.underlying25 rfl (by kernel_rfl)) rfl ?_
  exact ⟨by first | rfl | (simp [errW_none, errW_some] <;> rfl) | (simp [*, errW_none, errW_some] <;> rfl), by repeat (first | (with_reducible first | exact HB.out | apply below_alloc | apply pw_below_drewN | apply below_drew1 | refine below_set ?_ GE266.out) | exact HB.out)⟩

end Go.Proofs.YtaophlekfepkgaaDoor.PFnCodec
